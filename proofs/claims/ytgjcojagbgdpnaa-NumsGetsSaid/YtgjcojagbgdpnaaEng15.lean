/-
  THE ENGINE, 15: what each operation does, is what the evaluator says: slices that are written out, cuts, append. Over any program.
-/
import Derived.Test.YtgjcojagbgdpnaaEng14
namespace Go.AM
open Go.RowKit

theorem cput_ok : ∀ (new l : List AVal), new.length ≤ l.length → ∃ r, cput new l = some r
  | [], l, _ => ⟨l, rfl⟩
  | _ :: _, [], h => by simp at h
  | c :: new, d :: l, h => by
    obtain ⟨r, hr⟩ := cput_ok new l (by simpa using h)
    exact ⟨c :: r, by simp [cput, hr]⟩
theorem cputAt_ok : ∀ (off : Nat) (new l : List AVal), off + new.length ≤ l.length → ∃ r, cputAt off new l = some r
  | 0, new, l, h => by obtain ⟨r, hr⟩ := cput_ok new l (by omega); exact ⟨r, by simpa [cputAt] using hr⟩
  | n + 1, new, [], h => by simp at h
  | n + 1, new, c :: l, h => by
    obtain ⟨r, hr⟩ := cputAt_ok n new l (by simp at h; omega)
    exact ⟨c :: r, by simp [cputAt, hr]⟩

theorem eelems_sound (esz : Nat) : ∀ {parts : List (Nat × AVal)} {n : Nat} {xs : List AVal} {base : List AVal}, eelems esz n parts = some xs → (n + parts.length) * esz ≤ base.length →
    ∃ cs', efill (fun i => some (i * esz, esz)) base parts = some cs' ∧ cs'.length = base.length ∧ (∀ o, o < n * esz → cs'[o]? = base[o]?) ∧ xs.length = parts.length ∧
      (∀ x ∈ xs, x.cells.length = esz ∧ oneL x.cells = true ∧ tokless0L x.cells = true) ∧ ∀ (i j : Nat) x c, xs[i]? = some x → x.cells[j]? = some c → cs'[(n + i) * esz + j]? = some c := by
  intro parts
  induction parts with
  | nil => intro n xs base h hl; cases h; exact ⟨base, rfl, rfl, fun _ _ => rfl, rfl, fun x hx => by simp at hx, fun i j x c hx => by simp at hx⟩
  | cons p parts ih =>
    intro n xs base h hl
    obtain ⟨i, v⟩ := p
    simp only [eelems] at h
    obtain ⟨hg, h2⟩ := cond_some h
    simp only [Bool.and_eq_true] at hg
    obtain ⟨⟨⟨g1, g2⟩, g3⟩, g4⟩ := hg
    have hi := beq_yes g1
    subst hi
    have hz := beq_yes g2
    rw [clen_eq] at hz
    cases hq : eelems esz (i + 1) parts with
    | none => simp [hq] at h2
    | some l =>
      simp only [hq, Option.some.injEq] at h2
      subst h2
      have hlen : (i + 1) * esz ≤ base.length := by
        refine Nat.le_trans (Nat.mul_le_mul_right _ ?_) hl
        simp
      rw [Nat.add_mul, Nat.one_mul] at hlen
      obtain ⟨b1, hb1⟩ := cputAt_ok (i * esz) v.cells base (by omega)
      obtain ⟨p1, p2, p3⟩ := cputAt_some hb1
      obtain ⟨cs', e1, e2, e3, e4, e5, e6⟩ := ih (base := b1) hq (by rw [p2]; refine Nat.le_trans (Nat.le_of_eq ?_) hl; simp; congr 1; omega)
      have hnu : notU v = true := by cases v <;> first | rfl | (simp [AVal.cells, oneL, AM.one] at g3)
      refine ⟨cs', by simp only [efill, hnu, g2, Bool.and_self, cond_true, hb1, e1], e2.trans p2, fun o ho => ?_, by simp [e4], fun x hx => ?_, fun a j x c hx hc => ?_⟩
      · rw [e3 o (by rw [Nat.add_mul]; omega), p3 o, if_neg (by omega)]
      · rcases List.mem_cons.1 hx with rfl | hx
        · exact ⟨hz, g3, g4⟩
        · exact e5 x hx
      · cases a with
        | zero =>
          simp at hx
          subst hx
          have hj : j < esz := by rw [← hz]; exact (List.getElem?_eq_some_iff.1 hc).1
          rw [Nat.add_zero, e3 _ (by rw [Nat.add_mul]; omega), p3, if_pos (by omega), Nat.add_sub_cancel_left]
          exact hc
        | succ a =>
          have := e6 a j x c (by simpa using hx) hc
          rw [show i + (a + 1) = i + 1 + a from by omega]
          exact this

section
variable {P : Program} {T : Tab} {M : Imm} {ob : List Nat} {tk : List Tok} {obs : List AObj} {nt : Nat} {w : World}

/-- a new row whose first elements are known -/
theorem Mem.newRow (hm : Mem M ob tk obs w) {sz : Nat} (hsz : 0 < sz) {e : TypeId} {xs : List AVal} {cells : List Value} {cap : Nat} (hl : cells.length = cap * sz) (hxc : xs.length ≤ cap) (hcap : cap ≤ maxLen) (hz : ∀ x ∈ xs, x.cells.length = sz)
    (hone : ∀ (j : Nat) u, j < xs.length * sz → cells[j]? = some u → u.oneCell' = true) (hr : ∀ (j : Nat) u c, cells[j]? = some u → cellAt sz xs j = some c → Rep M [] [] u c)
    {w' : World} (hos : w'.os = w.os) (htape : w'.tape = w.tape) (hout : w'.output = w.output) (hsize : w'.heap.size = w.heap.size + 1)
    (hold : ∀ b, b < w.heap.size → w'.heap[b]? = w.heap[b]?) (hnew : w'.heap[w.heap.size]? = some (.cells cells.toArray e (0, 0))) :
    ∃ M' : Imm, (∀ b o x, M b o = some x → M' b o = some x) ∧ Mem M' ob tk obs w' ∧ Ext M ob tk w M' ob tk w' ∧
      Rep M' ob tk (.slice (some ⟨w.heap.size, 0, none⟩) xs.length cap) (.slice sz false xs none) ∧
      Mem M' ob (tk ++ [⟨.slice (some ⟨w.heap.size, 0, none⟩) xs.length cap, e, sz⟩]) obs w' ∧ Ext M ob tk w M' ob (tk ++ [⟨.slice (some ⟨w.heap.size, 0, none⟩) xs.length cap, e, sz⟩]) w' := by
  have hcl : ∀ (o : Nat) x, cellAt sz xs o = some x → o < xs.length * sz ∧ o < cells.length := fun o x hx => by
    obtain ⟨y, hy, hc⟩ := cellAt_inv hx
    have h1 := (Nat.div_lt_iff_lt_mul hsz).1 (List.getElem?_eq_some_iff.1 hy).1
    have h2 : xs.length * sz ≤ cap * sz := Nat.mul_le_mul_right _ hxc
    exact ⟨h1, by omega⟩
  obtain ⟨h1, h2⟩ := hm.newImm w' cells e (fun o => cellAt sz xs o) hos htape hout hsize hold hnew (fun o x hx => by
    obtain ⟨q1, q2⟩ := hcl o x hx
    exact ⟨cells[o], List.getElem?_eq_getElem q2, hone o _ q1 (List.getElem?_eq_getElem q2), hr o _ x (List.getElem?_eq_getElem q2) hx⟩)
  have hrep : Rep (fun b o => if b = w.heap.size then cellAt sz xs o else M b o) ob tk (.slice (some ⟨w.heap.size, 0, none⟩) xs.length cap) (.slice sz false xs none) :=
    .slice sz _ 0 _ _ xs rfl hxc hz fun i j x c hx hc => by
      rw [if_pos rfl, Nat.zero_add]
      exact cellAt_eq hx hc (hz x (List.mem_of_getElem? hx))
  refine ⟨_, h2.imm, h1, h2, hrep, h1.addTok _ ⟨xs.length, cells.take (xs.length * sz), ⟨?_, .inr ⟨w.heap.size, cap, cells.toArray, rfl, Nat.zero_le _, hnew, hxc, hcap, by simpa using hl, by simp⟩⟩, fun g hg o ho => ?_⟩ (fun g hg hmem => ?_) (fun t' ht' g hg hg' => ?_),
    ⟨h2.imm, h2.new, h2.obj, h2.os, h2.tape, h2.output, h2.size, h2.keep, h2.fresh, fun t' ht' b hb' => ?_⟩⟩
  · have h2 : xs.length * sz ≤ cap * sz := Nat.mul_le_mul_right _ hxc
    simp; omega
  · have : g = w.heap.size := by simpa [Value.ownBlock] using hg.symm
    subst this
    show (if w.heap.size = w.heap.size then cellAt sz xs o else M w.heap.size o) = none
    rw [if_pos rfl]
    cases hq : cellAt sz xs o with
    | none => rfl
    | some c =>
      have := (hcl o c hq).1
      dsimp only at ho
      omega
  · have : g = w.heap.size := by simpa [Value.ownBlock] using hg.symm
    have := hm.lt g hmem
    omega
  · have : g = w.heap.size := by simpa [Value.ownBlock] using hg.symm
    obtain ⟨σ, hσ⟩ := List.getElem?_of_mem ht'
    obtain ⟨n0, o0, hown0, _⟩ := hm.tok σ t' hσ
    have := (hown0.lt g hg').2
    omega
  · rcases List.mem_append.1 ht' with h | h
    · exact h2.tfresh t' h b hb'
    · simp at h
      subst h
      simp [Value.ownBlock] at hb'
      exact .inl (by omega)

theorem ebuildSlice_sound (hE : ∀ t ti, tget T t = some ti → TIOK P t ti) (hm : Mem M ob tk obs w) (hnt : tk.length = nt) {dr : Bool} {t : TypeId} {len : Nat} {parts : List (Nat × AVal)} {vparts : Array (Nat × Value)} (hl : vparts.toList.length = parts.length)
    (hv : ∀ (i : Nat) (p : Nat × Value) (q : Nat × AVal), vparts.toList[i]? = some p → parts[i]? = some q → p.1 = q.1 ∧ Rep M ob tk p.2 q.2) {o : List Ora} {r : OR} (h : ebuildSlice T dr nt t len parts o = some r) :
    ∃ v w' M' tk', (Instr.buildSlice t len vparts).run P w = .ok v w' ∧ OpOK M ob tk obs nt w r (.returned v) w' M' ob tk' := by
  unfold ebuildSlice at h
  split at h
  · rename_i e esz eb _ _ _ hT
    have hti := hE t _ hT
    obtain ⟨⟨hu, ie, z, hi, hs, hb, hz, hzs⟩, _⟩ := hti.kind
    obtain ⟨hg, h2⟩ := cond_some h
    simp only [Bool.and_eq_true] at hg
    obtain ⟨⟨g1, g2⟩, g3⟩ := hg
    have hpl := beq_yes g1
    have hpl' : ∀ (l : List (Nat × AVal)), plen l = l.length := fun l => by induction l with
      | nil => rfl
      | cons a r ih => simp [plen, ih]
    rw [hpl'] at hpl
    have h1000 : len * esz ≤ 1000 := Nat.le_of_ble_eq_true g2
    have hpos : 1 ≤ esz := Nat.le_of_ble_eq_true g3
    split at h2
    · rename_i xs hxs
      -- the cells
      let base : Array Value := if len * esz = 0 then #[] else (Array.range (len * esz)).map (z.cells[· % z.cells.size]!)
      have hbase : base.size = len * esz := by
        show (if len * esz = 0 then (#[] : Array Value) else (Array.range (len * esz)).map (z.cells[· % z.cells.size]!)).size = _
        split <;> simp [*]
      obtain ⟨cs', e1, e2, _, e4, e5, e6⟩ := eelems_sound esz (base := List.replicate (len * esz) .undef) hxs (by simp [hpl])
      have hr0 : RepL M ob tk base.toList (List.replicate (len * esz) AVal.undef) := ⟨by simp [hbase], fun i v a _ ha => by
        have : a = .undef := by
          have := List.mem_of_getElem? ha
          exact (List.mem_replicate.1 this).2
        subst this
        exact .undef _⟩
      obtain ⟨cells', f1, f2⟩ := fill_sound (place := fun i => some (i * esz, esz)) (fun i p hp => hp) e1 hr0 hl hv
      have hrun : (Instr.buildSlice t len vparts).run P w = .ok (.slice (some ⟨w.heap.size, 0, none⟩) len len) (w.alloc (.cells cells' e)) := by
        have hse : (P.info? e).map (·.size) = some esz := by simp [hi, hs]
        unfold Instr.buildSlice
        simp only [Sem.run_bind, run_underlying hu, Result.andThen_ok, run_sizeOf hse]
        rw [if_neg (by omega)]
        have hzv : (zeroValue e).run P w = .ok z w := by simp [zeroValue, typeInfo, hi, hz]
        by_cases h0 : len * esz = 0
        · have hbb : (Array.range (len * esz)).map ((#[] : Array Value)[· % (#[] : Array Value).size]!) = base := by
            show _ = (if len * esz = 0 then (#[] : Array Value) else (Array.range (len * esz)).map (z.cells[· % z.cells.size]!))
            rw [if_pos h0, h0]
            simp
          rw [if_pos h0]
          simp only [Sem.run_bind, Sem.run_pure, Result.andThen_ok]
          rw [hbb, f1]
          simp only [newRow, Sem.run_bind, run_newObj_alloc, Result.andThen_ok, Sem.run_pure]
        · have hbb : (Array.range (len * esz)).map (z.cells[· % z.cells.size]!) = base := by
            show _ = (if len * esz = 0 then (#[] : Array Value) else (Array.range (len * esz)).map (z.cells[· % z.cells.size]!))
            rw [if_neg h0]
          rw [if_neg h0]
          simp only [Sem.run_bind, Sem.run_pure, Result.andThen_ok, hzv]
          rw [hbb, f1]
          simp only [newRow, Sem.run_bind, run_newObj_alloc, Result.andThen_ok, Sem.run_pure]
      have hcl : cells'.toList.length = xs.length * esz := by rw [f2.1, e2]; simp; rw [e4, hpl]
      have hlen : xs.length = len := by rw [e4, hpl]
      have hcell : ∀ (j : Nat) c, cellAt esz xs j = some c → cs'[j]? = some c ∧ AM.one c = true ∧ tokless0 c = true := by
        intro j c hc
        obtain ⟨y, hy, hcc⟩ := cellAt_inv hc
        have := e6 _ _ y c hy hcc
        rw [Nat.zero_add, Nat.mul_comm, Nat.div_add_mod] at this
        obtain ⟨_, h1, h2⟩ := e5 y (List.mem_of_getElem? hy)
        refine ⟨this, oneL_mem h1 _ c hcc, ?_⟩
        have : ∀ l, tokless0L l = true → ∀ (q : Nat) d, l[q]? = some d → tokless0 d = true := by
          intro l
          induction l with
          | nil => intro _ q d hd; simp at hd
          | cons a r ih =>
            intro hl q d hd
            simp only [tokless0L, Bool.and_eq_true] at hl
            cases q with
            | zero => simp at hd; subst hd; exact hl.1
            | succ q => exact ih hl.2 q d (by simpa using hd)
        exact this _ h2 _ c hcc
      have hex : ∀ (j : Nat), j < xs.length * esz → ∃ c, cellAt esz xs j = some c := by
        intro j hj
        have hi : j / esz < xs.length := (Nat.div_lt_iff_lt_mul hpos).2 hj
        have hj' : j % esz < (xs[j / esz]).cells.length := by rw [(e5 _ (List.getElem_mem hi)).1]; exact Nat.mod_lt _ hpos
        exact ⟨(xs[j / esz]).cells[j % esz], by simp [cellAt, List.getElem?_eq_getElem hi, List.getElem?_eq_getElem hj']⟩
      have hone : ∀ u ∈ cells'.toList, u.oneCell' = true := fun u hu' => by
        obtain ⟨j, hj⟩ := List.getElem?_of_mem hu'
        have hlt : j < xs.length * esz := by rw [← hcl]; exact (List.getElem?_eq_some_iff.1 hj).1
        obtain ⟨c, hc⟩ := hex j hlt
        obtain ⟨h1, h2, _⟩ := hcell j c hc
        exact (f2.2 j u c hj h1).one h2
      have hca : cells'.toList.toArray = cells' := by simp
      obtain ⟨M', m1, m2, m3, m4, m5, m6⟩ := hm.newRow (w' := w.alloc (.cells cells' e)) hpos (e := e) (cap := xs.length) hcl (Nat.le_refl _) (by rw [hlen]; unfold maxLen; have : len * 1 ≤ len * esz := Nat.mul_le_mul_left _ hpos; omega) (fun x hx => (e5 x hx).1) (fun j u _ hj => hone u (List.mem_of_getElem? hj)) (fun j u c hu' hc => by
        obtain ⟨h1, _, h3⟩ := hcell j c hc
        exact (f2.2 j u c hu' h1).tokless0 h3) rfl rfl rfl (alloc_size _ _) (fun b hb => heap_alloc_old w _ hb) (by rw [hca]; exact heap_alloc_new w _)
      rw [hlen] at m4 m5 m6
      cases dr with
      | true =>
        simp only [cond_true, Option.some.injEq] at h2
        subst h2
        exact ⟨_, _, M', tk, hrun, m3, m2, hnt, fun _ _ h => h, m4⟩
      | false =>
        simp only [cond_false, Option.some.injEq] at h2
        subst h2
        have hup : ∀ (k : Nat) b, tk[k]? = some b → (tk ++ [⟨.slice (some ⟨w.heap.size, 0, none⟩) len len, e, esz⟩])[k]? = some b := fun k b hk => by
          rw [List.getElem?_append_left (by exact (List.getElem?_eq_some_iff.1 hk).1)]; exact hk
        exact ⟨_, _, M', _, hrun, m6, m5, by simp [hnt, OR.nt], hup, .tok _ _ _ _ _ _ (m4.mono (fun _ _ _ h => h) (fun _ _ h => h) hup) (by rw [← hnt]; simp)⟩
    · cases h2
  · cases h
end
end Go.AM
