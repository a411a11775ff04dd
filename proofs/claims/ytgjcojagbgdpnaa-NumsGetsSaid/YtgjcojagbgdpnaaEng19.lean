/-
  THE ENGINE, 19: every operation does what the evaluator says. Over any program.
-/
import Derived.Test.YtgjcojagbgdpnaaEngM
namespace Go.AM
open Go.RowKit

section
variable {M : Imm} {ob : List Nat} {tk : List Tok} {obs : List AObj} {nt : Nat} {w : World}

theorem cval_rep (v : Value) : Rep M ob tk v (cval v) := by
  unfold cval
  split
  · exact .bool _
  · exact .int _ _
  · rename_i s
    obtain ⟨⟨l⟩⟩ := s
    exact .str l
  · exact .nilslice 0
  · exact .nilptr
  · exact .nilfunc
  · exact .nilif
  · exact .undef _

theorem Rep.nilslice_inv {v : Value} {sz : Nat} (h : Rep M ob tk v (.slice sz true [] none)) : v = .slice none 0 0 := by cases h; rfl
theorem Rep.iface_inv {v : Value} {t : TypeId} {a : AVal} (h : Rep M ob tk v (.iface t a)) : ∃ u, v = .iface t u ∧ Rep M ob tk u a := by
  cases h
  exact ⟨_, rfl, by assumption⟩
theorem Rep.pairB {v : Value} {a : AVal} (h : Rep M ob tk v a) (b : Bool) : Rep M ob tk (.tuple #[v, .bool b]) (.tup [a, .bool b]) := by
  refine .tup [v, .bool b] _ rfl fun i q c hq hc => ?_
  rcases i with _ | _ | i
  · simp at hq hc; subst hq hc; exact h
  · simp at hq hc; subst hq hc; exact .bool _
  · simp at hq
theorem Rep.tup_inv {v : Value} {as : List AVal} (h : Rep M ob tk v (.tup as)) : ∃ us : List Value, v = .tuple us.toArray ∧ RepL M ob tk us as := by
  cases h
  exact ⟨_, rfl, by assumption, by assumption⟩
theorem Rep.nilif_inv {v : Value} (h : Rep M ob tk v .nilif) : v = .nilIface := by cases h; rfl

def FrOK (M : Imm) (ob : List Nat) (tk : List Tok) (fr : List (Nat × AVal)) (a : Act) : Prop := ∀ t, Rep M ob tk (a.tmps.getD t undef) (getS fr t)

theorem FrOK.ev {fr : List (Nat × AVal)} {a : Act} (h : FrOK M ob tk fr a) (x : Operand) : Rep M ob tk (a.eval x) (ev fr x) := by
  cases x with
  | tmp t => exact h t
  | const v => exact cval_rep v
  | global g => exact .undef _
  | func f => exact .func (.func f) [] [] [] [] rfl rfl (fun i v a h => by simp at h) (fun i v a h => by simp at h)

theorem FrOK.evO {fr : List (Nat × AVal)} {a : Act} (h : FrOK M ob tk fr a) : ∀ (l : List Operand), RepL M ob tk (l.map a.eval) (evO fr l)
  | [] => ⟨rfl, fun i v a h => by simp at h⟩
  | x :: l => by
    obtain ⟨h1, h2⟩ := h.evO l
    refine ⟨by simp [AM.evO, h1], fun i v b hv hb => ?_⟩
    cases i with
    | zero => simp [AM.evO] at hv hb; subst hv hb; exact h.ev x
    | succ i => exact h2 i v b (by simpa using hv) (by simpa [AM.evO] using hb)

theorem FrOK.evL {fr : List (Nat × AVal)} {a : Act} (h : FrOK M ob tk fr a) : ∀ (l : List (Nat × Operand)), (l.map fun (p : Nat × Operand) => (p.1, a.eval p.2)).length = (evL fr l).length ∧
    ∀ (i : Nat) (p : Nat × Value) (q : Nat × AVal), (l.map fun (p : Nat × Operand) => (p.1, a.eval p.2))[i]? = some p → (evL fr l)[i]? = some q → p.1 = q.1 ∧ Rep M ob tk p.2 q.2
  | [] => ⟨rfl, fun i p q h => by simp at h⟩
  | (n, x) :: l => by
    obtain ⟨h1, h2⟩ := h.evL l
    refine ⟨by simpa [AM.evL] using h1, fun i p q hp hq => ?_⟩
    cases i with
    | zero => simp [AM.evL] at hp hq; subst hp hq; exact ⟨rfl, h.ev x⟩
    | succ i => exact h2 i p q (by simpa using hp) (by simpa [AM.evL] using hq)

theorem RepL.append {vs us : List Value} {as bs : List AVal} (h : RepL M ob tk vs as) (k : RepL M ob tk us bs) : RepL M ob tk (vs ++ us) (as ++ bs) := by
  refine ⟨by simp [h.1, k.1], fun i v a hv ha => ?_⟩
  by_cases hi : i < vs.length
  · rw [List.getElem?_append_left hi] at hv
    rw [List.getElem?_append_left (by rw [← h.1]; exact hi)] at ha
    exact h.2 i v a hv ha
  · rw [List.getElem?_append_right (by omega)] at hv
    rw [List.getElem?_append_right (by rw [← h.1]; omega), ← h.1] at ha
    exact k.2 _ v a hv ha

theorem RepL.cons {v : Value} {a : AVal} {vs : List Value} {as : List AVal} (h : Rep M ob tk v a) (k : RepL M ob tk vs as) : RepL M ob tk (v :: vs) (a :: as) :=
  RepL.append (vs := [v]) (as := [a]) ⟨rfl, fun i u b hu hb => by cases i with | zero => simp at hu hb; subst hu hb; exact h | succ i => simp at hu⟩ k

/-- where the value is reckoned and memory stays -/
theorem OpRuns.same {P : Program} {o : Oper} {ρ : Operand → Value} {s : Sem Value} (hx : execOp ρ o = (s >>= fun v => Pure.pure (.value v))) (hm : Mem M ob tk obs w) (hnt : tk.length = nt) {r : OR}
    (h : ∃ c z o', r = .val c z o' ∧ ∃ u, s.run P w = .ok u w ∧ Rep M ob tk u z) : OpRuns P o ρ w fun e w' => ∃ M' ob' tk', OpOK M ob tk obs nt w r e w' M' ob' tk' := by
  obtain ⟨c, z, o', rfl, u, hr, hrep⟩ := h
  refine .inl ⟨u, w, ?_, M, ob, tk, Ext.refl _ _ _ _, hm, hnt, fun _ _ h => h, hrep⟩
  rw [hx]
  simp only [Sem.run_bind, hr, Result.andThen_ok, Sem.run_pure]

theorem OpRuns.now {P : Program} {o : Oper} {ρ : Operand → Value} {u : Value} (hx : execOp ρ o = Pure.pure (.value u)) (hm : Mem M ob tk obs w) (hnt : tk.length = nt) {c : List Prop} {z : AVal} {o' : List Ora} (hrep : Rep M ob tk u z) :
    OpRuns P o ρ w fun e w' => ∃ M' ob' tk', OpOK M ob tk obs nt w (.val c z o') e w' M' ob' tk' :=
  .inl ⟨u, w, by rw [hx]; rfl, M, ob, tk, Ext.refl _ _ _ _, hm, hnt, fun _ _ h => h, hrep⟩

theorem OpRuns.call {P : Program} {o : Oper} {ρ : Operand → Value} {f : FuncId} {args : Array Value} {w' : World} {R : Ending → World → Prop} (hb : BodyOK P f) (hx : (execOp ρ o).run P w = (callFunc f args).run P w')
    (hc : Calls P f args w' fun e w'' => R e w'' ∧ e ≠ .outgrown) : OpRuns P o ρ w R :=
  .inr (.inr (.inr ⟨f, args, w', by rw [hx]; exact hb args w', hc⟩))

/-- a new object -/
theorem newVar_sound {P : Program} (hm : Mem M ob tk obs w) (hnt : tk.length = nt) {t : TypeId} {v : Value} {a : AVal} (h : Rep M ob tk v a) (h1 : oneL a.cells = true) (c : List Prop) (o : List Ora) :
    ∃ v' w', (do pure (.pointer (some (← newVar t v))) : Sem Value).run P w = .ok v' w' ∧ ∃ M' ob' tk', OpOK M ob tk obs nt w (.new c (.ref (olen obs) 0) (.cells a.cells) o) (.returned v') w' M' ob' tk' := by
  obtain ⟨hl, hone, hr⟩ := h.cells_one h1
  have hn : ∀ o, M w.heap.size o = none := fun o => hm.noImm (Nat.le_refl _) o
  have hca : v.cells.toList.toArray = v.cells := by simp
  obtain ⟨n1, n2⟩ := hm.newCells v.cells.toList t (.cells a.cells) ⟨hn, v.cells.toList, t, heap_alloc_new w _, hl, hone, hr⟩
  rw [hca] at n1 n2
  refine ⟨.pointer (some ⟨w.heap.size, 0, none⟩), w.alloc (.cells v.cells t), ?_, M, _, tk, n2, ?_, hnt, fun _ _ h => h, ?_⟩
  · simp only [newVar, newRow, Sem.run_bind, run_newObj_alloc, Result.andThen_ok, Sem.run_pure]
  · show Mem M _ tk (osnoc obs (.cells a.cells)) _
    rw [osnoc_eq]; exact n1
  · refine .ref _ _ _ ?_
    rw [olen_eq, ← hm.len]
    simp

theorem run_max2 {P : Program} (ts : Array TypeId) (t : TypeId) (k k' : IntKind) (x y : Int) : (Builtin.max_ ts t #[.int k x, .int k' y]).run P w = .ok (.int k (max x y)) w := by
  rw [run_max_int2]
  congr 2
  by_cases h : y > x
  · rw [if_pos h]; omega
  · rw [if_neg h]; omega
theorem run_min2 {P : Program} (ts : Array TypeId) (t : TypeId) (k k' : IntKind) (x y : Int) : (Builtin.min_ ts t #[.int k x, .int k' y]).run P w = .ok (.int k (min x y)) w := by
  rw [run_min_int2]
  congr 2
  by_cases h : y < x
  · rw [if_pos h]; omega
  · rw [if_neg h]; omega
end

section
variable {E : Env} {M : Imm} {ob : List Nat} {tk : List Tok} {obs : List AObj} {nt : Nat} {w : World}

theorem sem_assoc {α β : Type} (s : Sem α) (f : α → Sem Value) (g : Value → Sem β) : (s >>= f) >>= g = s >>= fun x => f x >>= g := by
  show Sem.bind (Sem.bind s f) g = Sem.bind s fun x => Sem.bind (f x) g
  induction s with
  | pure a => rfl
  | load m a k ih => simp only [Sem.bind, ih]
  | store m a v k ih => simp only [Sem.bind, ih]
  | new o k ih => simp only [Sem.bind, ih]
  | shape r k ih => simp only [Sem.bind, ih]
  | freeze a n k ih => simp only [Sem.bind, ih]
  | frozen a k ih => simp only [Sem.bind, ih]
  | getObj r k ih => simp only [Sem.bind, ih]
  | setObj r o k ih => simp only [Sem.bind, ih]
  | choose q k ih => simp only [Sem.bind, ih]
  | sys c k ih => simp only [Sem.bind, ih]
  | program k ih => simp only [Sem.bind, ih]
  | mark m k ih => simp only [Sem.bind, ih]
  | halt h => rfl

theorem opt_rep {fr : List (Nat × AVal)} {a : Act} (hf : FrOK M ob tk fr a) (l : Option Operand) : (∀ x, l.map (ev fr) = some x → ∃ u, l.map a.eval = some u ∧ Rep M ob tk u x) ∧ (l.map (ev fr) = none → l.map a.eval = none) := by
  cases l with
  | none => exact ⟨fun x h => by simp at h, fun _ => rfl⟩
  | some y => exact ⟨fun x h => by simp at h; subst h; exact ⟨_, rfl, hf.ev y⟩, fun h => by simp at h⟩

/-- a call, however the callee is named -/
theorem call_sound {P : Program} (hm : Mem M ob tk obs w) (hnt : tk.length = nt) {f : FuncId} {args : List AVal} {vargs : List Value} (hr : RepL M ob tk vargs args) {o : List Ora} {r : OR}
    (h : ecall P obs nt f args o = some r) (hc : All r.conds) {op : Oper} {ρ : Operand → Value} {va : Array Value} (hva : va = vargs.toArray) (hx : (execOp ρ op).run P w = (callFunc f va).run P w) :
    OpRuns P op ρ w fun e w' => ∃ M' ob' tk', OpOK M ob tk obs nt w r e w' M' ob' tk' := by
  obtain ⟨hb, hcall⟩ := ecall_sound hm hnt hr h hc
  subst hva
  exact OpRuns.call hb hx hcall

theorem eop_sound (hE : EnvOK E) (hm : Mem M ob tk obs w) (hnt : tk.length = nt) {fr : List (Nat × AVal)} {a : Act} (hf : FrOK M ob tk fr a) {dr : Bool} {op : Op} {ty : TypeId} {o : List Ora} {r : OR}
    (h : eop E dr fr obs nt op ty o = some r) (hc : All r.conds) (d : Option Tmp) (pos : String) (after : Array Edge) (g : Option (Nat × Bool)) :
    OpRuns E.P ⟨d, op, ty, pos, after, g⟩ a.eval w fun e w' => ∃ M' ob' tk', OpOK M ob tk obs nt w r e w' M' ob' tk' := by
  have hT := hE.tab
  cases op with
  | move x => cases h; exact OpRuns.now rfl hm hnt (hf.ev x)
  | assign x =>
    simp only [eop] at h
    have hx := hf.ev x
    split at h
    · rename_i hev
      rw [hev] at hx
      have hv : a.eval x = .slice none 0 0 := hx.nilslice_inv
      split at h
      · rename_i e esz eb _ _ _ _
        cases dr with
        | true => cases h; exact OpRuns.now rfl hm hnt (by rw [hv]; exact .nilslice _)
        | false =>
          cases h
          refine .inl ⟨.slice none 0 0, w, by simp [execOp, hv], M, ob, _, Ext.tokNil e esz, hm.nilTok e esz, by simp [OR.nt, hnt], tk_up _ _, .tok _ _ _ _ _ _ (.nilslice _) (by rw [← hnt]; simp)⟩
      · cases h; exact OpRuns.now rfl hm hnt hx
    · cases h; exact OpRuns.now rfl hm hnt hx
  | pick c x y =>
    simp only [eop] at h
    have hcv := hf.ev c
    split at h
    · rename_i hev
      rw [hev] at hcv
      cases h
      refine .inl ⟨a.eval x, w, ?_, M, ob, tk, Ext.refl _ _ _ _, hm, hnt, fun _ _ h => h, hf.ev x⟩
      simp [execOp, hcv.bool_inv, asBool]
    · rename_i hev
      rw [hev] at hcv
      cases h
      refine .inl ⟨a.eval y, w, ?_, M, ob, tk, Ext.refl _ _ _ _, hm, hnt, fun _ _ h => h, hf.ev y⟩
      simp [execOp, hcv.bool_inv, asBool]
    · cases h
  | alloc t =>
    simp only [eop] at h
    split at h
    · rename_i ti hti
      obtain ⟨h1, h2⟩ := cond_some h
      cases h2
      obtain ⟨i, z, hi, hs, hz, hzs, hzr, _, _⟩ := (hT t ti hti).info
      have hz' : Rep M ob tk z ti.zero := (hzr.mono (fun _ _ _ h => by cases h) (fun _ _ h => h) (fun _ _ h => h)).pure
      obtain ⟨v', w', hr, hok⟩ := newVar_sound (P := E.P) (t := t) hm hnt hz' h1 [] o
      refine .inl ⟨v', w', ?_, hok⟩
      have hzv : (zeroValue t).run E.P w = .ok z w := by simp [zeroValue, typeInfo, hi, hz]
      have hal : (Instr.alloc t true (.tuple #[])).run E.P w = .ok v' w' := by
        unfold Instr.alloc
        rw [Sem.run_bind, hzv]
        exact hr
      rw [show execOp a.eval ⟨d, .alloc t, ty, pos, after, g⟩ = (Instr.alloc t true (.tuple #[]) >>= fun v => Pure.pure (.value v)) from rfl, Sem.run_bind, hal]
      rfl
    · cases h
  | box t x =>
    simp only [eop] at h
    obtain ⟨h1, h2⟩ := cond_some h
    cases h2
    obtain ⟨v', w', hr, hok⟩ := newVar_sound (P := E.P) (t := t) hm hnt (hf.ev x) h1 [] o
    refine .inl ⟨v', w', ?_, hok⟩
    have hal : (Instr.box t (a.eval x)).run E.P w = .ok v' w' := hr
    rw [show execOp a.eval ⟨d, .box t x, ty, pos, after, g⟩ = (Instr.box t (a.eval x) >>= fun v => Pure.pure (.value v)) from rfl, Sem.run_bind, hal]
    rfl
  | build t ps =>
    simp only [eop, partsK_eq] at h
    obtain ⟨l1, l2⟩ := hf.evL ps.toList
    obtain ⟨z, rfl, u, hr, hrep⟩ := ebuild_sound (M := M) (ob := ob) (tk := tk) (w := w) hT (vparts := ps.map fun (p : Nat × Operand) => (p.1, a.eval p.2)) (by simpa using l1) (by simpa using l2) h
    exact OpRuns.same (s := Instr.build t (ps.map fun (p : Nat × Operand) => (p.1, a.eval p.2))) rfl hm hnt ⟨_, _, _, rfl, u, hr, hrep⟩
  | buildSlice t n ps =>
    simp only [eop, partsK_eq] at h
    obtain ⟨l1, l2⟩ := hf.evL ps.toList
    obtain ⟨v, w', M', tk', hr, hok⟩ := ebuildSlice_sound hT hm hnt (vparts := ps.map fun (p : Nat × Operand) => (p.1, a.eval p.2)) (by simpa using l1) (by simpa using l2) h
    refine .inl ⟨v, w', ?_, M', ob, tk', hok⟩
    have : execOp a.eval ⟨d, .buildSlice t n ps, ty, pos, after, g⟩ = (Instr.buildSlice t n (ps.map fun (p : Nat × Operand) => (p.1, a.eval p.2)) >>= fun v => Pure.pure (.value v)) := rfl
    rw [this, Sem.run_bind, hr]
    rfl
  | load t x => exact OpRuns.same (s := Instr.loadAt t (a.eval x)) rfl hm hnt (eload_sound hT hm (hf.ev x) h hc)
  | store t x y =>
    obtain ⟨c, k, z, o', rfl, w', hr, h1, h2⟩ := estore_sound hT hm (hf.ev x) (hf.ev y) h hc
    refine .inr (.inl ⟨w', ?_, M, ob, tk, h2, ?_, hnt, fun _ _ h => h, .undef _⟩)
    · have : execOp a.eval ⟨d, .store t x y, ty, pos, after, g⟩ = (Instr.storeAt t (a.eval x) (a.eval y) >>= fun _ => Pure.pure .skip) := rfl
      rw [this, Sem.run_bind, hr]
      rfl
    · show Mem M ob tk (oset obs k z) w'
      rw [oset_eq]; exact h1
  | nilCheck x =>
    simp only [eop] at h
    have hx := hf.ev x
    split at h <;> first | (rename_i hev; cases h) | (cases h; done)
    all_goals
      have this : ∀ u, a.eval x = u → Rep M ob tk u (AM.ev fr x) → (execOp a.eval ⟨d, .nilCheck x, ty, pos, after, g⟩).run E.P w = .ok (.value u) w := by
        intro u hu hr
        rw [hev] at hr
        simp only [execOp, hu]
        cases hr <;> rfl
      refine .inl ⟨a.eval x, w, this _ rfl hx, M, ob, tk, Ext.refl _ _ _ _, hm, hnt, fun _ _ h => h, ?_⟩
      rw [← hev]
      exact hx
  | binOp bop t x y yt =>
    simp only [eop] at h
    have key : ∃ c z o', r = .val c z o' ∧ ∃ u, (eqGuard bop t x y (a.eval x) (a.eval y) >>= fun _ => binOp bop t (a.eval x) (a.eval y)).run E.P w = .ok u w ∧ Rep M ob tk u z := by
      split at h
      · rename_i r' hb
        cases h
        exact ebin_sound hE.fl (hf.ev x) (hf.ev y) hb hc
      · exact ecmp_sound hT (hf.ev x) (hf.ev y) h
    exact OpRuns.same (s := eqGuard bop t x y (a.eval x) (a.eval y) >>= fun _ => binOp bop t (a.eval x) (a.eval y)) rfl hm hnt key
  | unOp uop t x =>
    simp only [eop] at h
    have hx := hf.ev x
    refine OpRuns.same (s := Op.unary uop (a.eval x)) rfl hm hnt ?_
    split at h
    · rename_i b hev
      rw [hev] at hx
      cases h
      rw [hx.bool_inv]
      exact ⟨_, _, _, rfl, .bool (!b), rfl, .bool _⟩
    · rename_i k n hev
      rw [hev] at hx
      rw [hx.int_inv]
      unfold earith at h
      split at h
      · cases h; exact ⟨_, _, _, rfl, _, rfl, .int _ _⟩
      · cases h
        have e : (Op.unary .neg (.int k n)).run E.P w = .ok (.int k (k.wrap (0 - n))) w := rfl
        rw [wrap_inR hc.1] at e
        exact ⟨_, _, _, rfl, _, e, .int _ _⟩
    · rename_i k n hev
      rw [hev] at hx
      cases h
      rw [hx.int_inv]
      exact ⟨_, _, _, rfl, _, rfl, .int _ _⟩
    · cases h
  | convert s t x =>
    refine OpRuns.same (s := convert s t (a.eval x)) rfl hm hnt ?_
    have hx := hf.ev x
    simp only [eop] at h
    split at h
    · rename_i k lo len cap hev
      rw [hev] at hx
      exact econvR_sound hT hm hx h hc
    · exact econv_sound hT hm hx h hc
  | sliceToArrayPointer t x => cases h
  | makeInterface t x =>
    simp only [eop] at h
    refine OpRuns.same (s := Instr.makeInterface t (a.eval x)) rfl hm hnt ?_
    split at h
    · rename_i ti hti
      have hk := (hT t ti hti).kind
      have hcon : E.P.concrete t = true → ∃ c z o', OR.val [] (.iface t (ev fr x)) o = .val c z o' ∧ ∃ u, (Instr.makeInterface t (a.eval x)).run E.P w = .ok u w ∧ Rep M ob tk u z := fun hcn => ⟨_, _, _, rfl, _, run_makeInterface w t _ hcn, .iface _ _ _ (hf.ev x)⟩
      split at h
      · cases h
      · rename_i hne
        cases h
        refine hcon ?_
        unfold Program.concrete
        cases hkk : ti.kind with
        | int k => rw [hkk] at hk; simp [hk.1]
        | bool => rw [hkk] at hk; simp [hk.1]
        | str => rw [hkk] at hk; simp [hk.1]
        | strct fs => rw [hkk] at hk; obtain ⟨⟨fl, hu, _⟩, _⟩ := hk; simp [hu]
        | arr n s ea => rw [hkk] at hk; obtain ⟨⟨fl, hu, _⟩, _⟩ := hk; simp [hu]
        | slc e s b => rw [hkk] at hk; simp [hk.1.1]
        | ptr e => rw [hkk] at hk; simp [hk.1]
        | iface => exact absurd hkk hne
        | other =>
          rw [hkk] at hk
          obtain ⟨⟨dd, hu, hni⟩, _⟩ := hk
          rw [hu]
          cases dd <;> first | rfl | exact absurd rfl (hni _)
    · cases h
  | makeFunc fn fs cs =>
    cases h
    obtain ⟨p1, p2⟩ := hf.evO fs.toList
    obtain ⟨q1, q2⟩ := hf.evO cs.toList
    refine OpRuns.now (u := .func fn (fs.toList.map a.eval).toArray (cs.toList.map a.eval).toArray) ?_ hm hnt (.func fn _ _ _ _ p1 q1 p2 q2)
    have e1 : (fs.toList.map a.eval).toArray = fs.map a.eval := by apply Array.ext'; simp
    have e2 : (cs.toList.map a.eval).toArray = cs.map a.eval := by apply Array.ext'; simp
    rw [e1, e2]
    rfl
  | makeMap t x => cases h
  | makeChan t x => cases h
  | makeSlice t x y =>
    simp only [eop] at h
    obtain ⟨v', w', hr, hok⟩ := emake_sound hT hm hnt (hf.ev x) (hf.ev y) h hc
    refine .inl ⟨v', w', ?_, hok⟩
    have : execOp a.eval ⟨d, .makeSlice t x y, ty, pos, after, g⟩ = (Instr.makeSlice t (a.eval x) (a.eval y) >>= fun v => Pure.pure (.value v)) := rfl
    rw [this, Sem.run_bind, hr]
    rfl
  | slice t x lo hi mx =>
    refine OpRuns.same (s := Instr.sliceAt t (a.eval x) (lo.map a.eval) (hi.map a.eval) (mx.map a.eval)) rfl hm hnt ?_
    exact eslice_sound hT (hf.ev x) (opt_rep hf lo).1 (opt_rep hf lo).2 (opt_rep hf hi).1 (opt_rep hf hi).2 (opt_rep hf mx).1 (opt_rep hf mx).2 h hc
  | fieldAddr t x f =>
    obtain ⟨z, rfl, u, hr, hrep⟩ := efieldAddr_sound (w := w) hT (hf.ev x) h
    exact OpRuns.same (s := Instr.fieldAt t (a.eval x) f) rfl hm hnt ⟨_, _, _, rfl, u, hr, hrep⟩
  | field t x f =>
    obtain ⟨z, rfl, u, hr, hrep⟩ := efield_sound (w := w) hT (hf.ev x) h
    exact OpRuns.same (s := Instr.field t (a.eval x) f) rfl hm hnt ⟨_, _, _, rfl, u, hr, hrep⟩
  | indexAddr t x i => exact OpRuns.same (s := Instr.indexAt t (a.eval x) (a.eval i)) rfl hm hnt (eindexAddr_sound hT (hf.ev x) (hf.ev i) h hc)
  | index t x i => exact OpRuns.same (s := Instr.index t (a.eval x) (a.eval i)) rfl hm hnt (eindex_sound hT (hf.ev x) (hf.ev i) h hc)
  | lookup t x i ok => cases h
  | mapUpdate t m k v => cases h
  | mapEntry t m k => cases h
  | entryStore t m k v => cases h
  | insert t m k v => cases h
  | range t x => cases h
  | next x s => cases h
  | entry x => cases h
  | ready g => cases h
  | waits g => cases h
  | typeAssert x xt t ok =>
    simp only [eop] at h
    have hx := hf.ev x
    refine OpRuns.same (s := Instr.typeAssert (a.eval x) xt t ok) rfl hm hnt ?_
    split at h
    · rename_i ti u v hti hev
      rw [hev] at hx
      obtain ⟨i, z, hi, hs, hz, hzs, hzr, _, _⟩ := (hT t ti hti).info
      have hk := (hT t ti hti).kind
      obtain ⟨hsome, _⟩ := hk.isAgg
      obtain ⟨dd, hdd⟩ := Option.isSome_iff_exists.1 hsome
      split at h
      · cases h
      · rename_i hne
        have hni : ∀ ms, dd ≠ .interface ms := by
          intro ms e
          subst e
          cases hkk : ti.kind with
          | int k => rw [hkk] at hk; have := hk.1; rw [hdd] at this; cases this
          | bool => rw [hkk] at hk; have := hk.1; rw [hdd] at this; cases this
          | str => rw [hkk] at hk; have := hk.1; rw [hdd] at this; cases this
          | strct fs => rw [hkk] at hk; obtain ⟨⟨fl, hu, _⟩, _⟩ := hk; rw [hdd] at hu; cases hu
          | arr n s ea => rw [hkk] at hk; obtain ⟨⟨fl, hu, _⟩, _⟩ := hk; rw [hdd] at hu; cases hu
          | slc e s b => rw [hkk] at hk; have := hk.1.1; rw [hdd] at this; cases this
          | ptr e => rw [hkk] at hk; have := hk.1; rw [hdd] at this; cases this
          | iface => exact hne hkk
          | other => rw [hkk] at hk; obtain ⟨⟨d2, hu, hni⟩, _⟩ := hk; rw [hdd] at hu; cases hu; exact hni _ rfl
        obtain ⟨v', hxe, hv⟩ := hx.iface_inv
        rw [hxe]
        cases hq : Nat.beq u t with
        | true =>
          have := beq_yes hq
          subst this
          simp only [hq, cond_true, Option.some.injEq] at h
          subst h
          refine ⟨_, _, _, rfl, (if ok then .tuple #[v', .bool true] else v'), ?_, ?_⟩
          · unfold Instr.typeAssert
            simp only [Sem.run_bind, run_underlying hdd, Result.andThen_ok]
            cases dd <;> first | exact absurd rfl (hni _) | (simp)
          · cases ok with
            | true => exact hv.pairB true
            | false => exact hv
        | false =>
          have hne2 : ¬ u = t := fun e => by subst e; simp at hq
          simp only [hq, cond_false] at h
          obtain ⟨hok, h2⟩ := cond_some h
          cases h2
          subst hok
          refine ⟨_, _, _, rfl, .tuple #[z, .bool false], ?_, ?_⟩
          · unfold Instr.typeAssert
            simp only [Sem.run_bind, run_underlying hdd, Result.andThen_ok]
            cases dd <;> first | exact absurd rfl (hni _) | (simp [hne2, zeroValue, typeInfo, hi, hz])
          · exact Rep.pairB (hzr.mono (fun _ _ _ h => by cases h) (fun _ _ h => h) (fun _ _ h => h)).pure false
    · rename_i ti hti hev
      rw [hev] at hx
      obtain ⟨i, z, hi, hs, hz, hzs, hzr, _, _⟩ := (hT t ti hti).info
      have hk := (hT t ti hti).kind
      obtain ⟨hsome, _⟩ := hk.isAgg
      obtain ⟨dd, hdd⟩ := Option.isSome_iff_exists.1 hsome
      split at h
      · cases h
      · rename_i hne
        have hni : ∀ ms, dd ≠ .interface ms := by
          intro ms e
          subst e
          cases hkk : ti.kind with
          | int k => rw [hkk] at hk; have := hk.1; rw [hdd] at this; cases this
          | bool => rw [hkk] at hk; have := hk.1; rw [hdd] at this; cases this
          | str => rw [hkk] at hk; have := hk.1; rw [hdd] at this; cases this
          | strct fs => rw [hkk] at hk; obtain ⟨⟨fl, hu, _⟩, _⟩ := hk; rw [hdd] at hu; cases hu
          | arr n s ea => rw [hkk] at hk; obtain ⟨⟨fl, hu, _⟩, _⟩ := hk; rw [hdd] at hu; cases hu
          | slc e s b => rw [hkk] at hk; have := hk.1.1; rw [hdd] at this; cases this
          | ptr e => rw [hkk] at hk; have := hk.1; rw [hdd] at this; cases this
          | iface => exact hne hkk
          | other => rw [hkk] at hk; obtain ⟨⟨d2, hu, hni⟩, _⟩ := hk; rw [hdd] at hu; cases hu; exact hni _ rfl
        obtain ⟨hok, h2⟩ := cond_some h
        cases h2
        subst hok
        have hxn : a.eval x = .nilIface := hx.nilif_inv
        rw [hxn]
        refine ⟨_, _, _, rfl, .tuple #[z, .bool false], ?_, ?_⟩
        · unfold Instr.typeAssert
          simp only [Sem.run_bind, run_underlying hdd, Result.andThen_ok]
          cases dd <;> first | exact absurd rfl (hni _) | (simp [zeroValue, typeInfo, hi, hz])
        · exact Rep.pairB (hzr.mono (fun _ _ _ h => by cases h) (fun _ _ h => h) (fun _ _ h => h)).pure false
    · cases h
  | extract x i =>
    simp only [eop] at h
    have hx := hf.ev x
    refine OpRuns.same (s := Instr.extract (a.eval x) i) rfl hm hnt ?_
    split at h
    · rename_i vs hev
      rw [hev] at hx
      split at h
      · rename_i v hn
        cases h
        have hnv := nth_some hn
        obtain ⟨us, hxe, hl, hr⟩ := hx.tup_inv
        have hlt : i < us.length := by rw [hl]; exact (List.getElem?_eq_some_iff.1 hnv).1
        rw [hxe]
        refine ⟨_, _, _, rfl, us[i], ?_, hr i _ v (List.getElem?_eq_getElem hlt) hnv⟩
        simp [Instr.extract, hlt]
      · cases h
    · cases h
  | call c =>
    simp only [eop] at h
    obtain ⟨callee, args, argTypes⟩ := c
    dsimp only at h
    have hargs := hf.evO args.toList
    cases callee with
    | value f =>
      have hfv := hf.ev f
      dsimp only at h
      split at h
      · rename_i gid fs cs hev
        rw [hev] at hfv
        cases hfe : a.eval f with
        | func fn first caps =>
          rw [hfe] at hfv
          cases hfv with
          | func _ vfs vcs _ _ hl1 hl2 hr1 hr2 =>
            rw [app3_eq, app3_eq] at h
            refine call_sound hm hnt (RepL.append (RepL.append ⟨hl1, hr1⟩ hargs) ⟨hl2, hr2⟩) h hc rfl ?_
            have e1 : (args.map a.eval) = (args.toList.map a.eval).toArray := by apply Array.ext'; simp
            simp [execOp, resolve, hfe, Deferred.ofValue, invoke, e1]
        | _ => rw [hfe] at hfv; cases hfv
      · cases h
    | invoke rc name =>
      have hrv := hf.ev rc
      dsimp only at h
      split at h
      · rename_i t v hev
        rw [hev] at hrv
        split at h
        · rename_i gid hmg
          cases hre : a.eval rc with
          | iface t' v' =>
            rw [hre] at hrv
            cases hrv with
            | iface _ _ _ hv =>
              have hmm := hE.mth t name gid hmg v' w
              refine call_sound hm hnt (RepL.cons hv hargs) h hc (va := #[v'] ++ args.map a.eval) (by simp) ?_
              have hex : (#[Value.iface t v'] ++ args.map a.eval).extract 1 (#[Value.iface t v'] ++ args.map a.eval).size = args.map a.eval := by
                apply Array.ext'
                simp [Array.toList_extract]
                exact List.take_of_length_le (by simp)
              simp only [execOp, resolve, Sem.run_bind, Sem.run_pure, Result.andThen_ok, invoke, hre]
              simp only [Array.getElem?_append_left (show 0 < (#[Value.iface t v']).size by simp)]
              simp only [show (#[Value.iface t v'] : Array Value)[0]? = some (.iface t v') from rfl, hex, callMethod, Sem.run_bind, run_program, Result.andThen_ok, hmm]
          | _ => rw [hre] at hrv; cases hrv
        · cases h
      · cases h
    | builtin b =>
      dsimp only at h
      split at h
      · rename_i x t h1 h2
        have ha : args = #[x] := by apply Array.ext'; simpa using h1
        have ht : argTypes = #[t] := by apply Array.ext'; simpa using h2
        subst ha ht
        obtain ⟨z, rfl, u, hr, hrep⟩ := elen_sound (w := w) (ty := ty) hT (hf.ev x) h
        refine .inl ⟨u, w, ?_, M, ob, tk, Ext.refl _ _ _ _, hm, hnt, fun _ _ h => h, hrep⟩
        simp [execOp, resolve, invoke, builtin, hr]
      · rename_i x y h1
        have ha : args = #[x, y] := by apply Array.ext'; simpa using h1
        subst ha
        split at h
        · rename_i k p k' q e1 e2
          cases h
          have hx := hf.ev x
          have hy := hf.ev y
          rw [e1] at hx
          rw [e2] at hy
          refine .inl ⟨_, w, ?_, M, ob, tk, Ext.refl _ _ _ _, hm, hnt, fun _ _ h => h, .int _ _⟩
          simp [execOp, resolve, invoke, builtin, hx.int_inv, hy.int_inv, run_min2]
        · cases h
      · rename_i x y h1
        have ha : args = #[x, y] := by apply Array.ext'; simpa using h1
        subst ha
        split at h
        · rename_i k p k' q e1 e2
          cases h
          have hx := hf.ev x
          have hy := hf.ev y
          rw [e1] at hx
          rw [e2] at hy
          refine .inl ⟨_, w, ?_, M, ob, tk, Ext.refl _ _ _ _, hm, hnt, fun _ _ h => h, .int _ _⟩
          simp [execOp, resolve, invoke, builtin, hx.int_inv, hy.int_inv, run_max2]
        · cases h
      · rename_i x y t t2 h1 h2
        obtain ⟨hdr, h3⟩ := cond_some (b := !dr && Nat.beq t t2) h
        have ha : args = #[x, y] := by apply Array.ext'; simpa using h1
        obtain ⟨_, htt⟩ := beq_and hdr
        have htt' := beq_yes htt
        subst htt'
        have ht : argTypes = #[t, t] := by apply Array.ext'; simpa using h2
        subst ha ht
        obtain ⟨v', w', M', tk', hr, hok⟩ := eappend_sound (ty := ty) hT hm hnt (hf.ev x) (hf.ev y) h3 hc
        refine .inl ⟨v', w', ?_, M', ob, tk', hok⟩
        simp [execOp, resolve, invoke, builtin, hr]
      · cases h
  | go c => cases h
  | defer c => cases h
  | panic x =>
    simp only [eop] at h
    have hx := hf.ev x
    split at h
    · rename_i t v hev
      rw [hev] at hx
      obtain ⟨htl, h2⟩ := cond_some h
      cases h2
      cases hxe : a.eval x with
      | iface t' v' =>
        rw [hxe] at hx
        refine .inr (.inr (.inl ⟨.iface t' v', w, ?_, M, ob, tk, Ext.refl _ _ _ _, hm, hnt, fun _ _ h => h, _, rfl, hx⟩))
        simp [execOp, Instr.panic, hxe]
      | _ => rw [hxe] at hx; cases hx
    · cases h
  | send x y => cases h
  | recv t x ok => cases h
  | select cs b => cases h
end
end Go.AM
