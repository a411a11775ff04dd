/-
  THE ENGINE, 6: memory: new blocks, stores, rows that grow. Over any program.
-/
import Derived.Test.YtgjcojagbgdpnaaEng5
namespace Go.AM
open Go.RowKit

section
variable {M : Imm} {ob : List Nat} {tk : List Tok} {obs : List AObj} {w : World}

theorem ObjOK.mono {M' : Imm} {ob' : List Nat} {tk' : List Tok} {w' : World} {b : Nat} {x : AObj} (h : ObjOK M ob tk w b x) (hM : ∀ b o x, M b o = some x → M' b o = some x)
    (ho : ∀ (k b : Nat), ob[k]? = some b → ob'[k]? = some b) (ht : ∀ (k : Nat) b, tk[k]? = some b → tk'[k]? = some b) (hn : ∀ o, M b o = none → M' b o = none)
    (hb : ∀ c, w.heap[b]? = some c → w'.heap[b]? = some c) : ObjOK M' ob' tk' w' b x := by
  cases x with
  | dead => trivial
  | cells cs =>
    obtain ⟨h1, cv, T, h2, h3, h30, h4⟩ := h
    exact ⟨fun o => hn o (h1 o), cv, T, hb _ h2, h3, h30, fun i v a hv ha => (h4 i v a hv ha).mono hM ho ht⟩
  | row sz xs =>
    obtain ⟨h1, cv, T, h2, h3, h30, h4, h5⟩ := h
    refine ⟨fun o => hn o (h1 o), cv, T, hb _ h2, h3, h30, h4, fun i j x c hx hc => ?_⟩
    obtain ⟨v, hv, hr⟩ := h5 i j x c hx hc
    exact ⟨v, hv, hr.mono hM (fun _ _ h => h) (fun _ _ h => h)⟩

theorem TokOK.mono {M' : Imm} {w' : World} {t : Tok} (h : TokOK M w t) (hn : ∀ g o, t.v.ownBlock = some g → M g o = none → M' g o = none)
    (hb : ∀ g c, t.v.ownBlock = some g → w.heap[g]? = some c → w'.heap[g]? = some c) : TokOK M' w' t := by
  obtain ⟨n, xs, ⟨h1, h2⟩, h3⟩ := h
  refine ⟨n, xs, ⟨h1, ?_⟩, fun g hg o ho => hn g o hg (h3 g hg o ho)⟩
  rcases h2 with h2 | ⟨g, cap, cur, e1, e2, e3, r⟩
  · exact .inl h2
  · exact .inr ⟨g, cap, cur, e1, e2, hb g _ (by rw [e1]; rfl) e3, r⟩

theorem alloc_size (w : World) (o : Obj) : (w.alloc o).heap.size = w.heap.size + 1 := by
  show (w.heap.push o).size = _
  simp

theorem nodup_snoc {l : List Nat} {n : Nat} (h : l.Nodup) (hn : n ∉ l) : (l ++ [n]).Nodup := by
  rw [List.nodup_append]
  exact ⟨h, by simp, fun a ha b hb => by simp at hb; subst hb; intro e; subst e; exact hn ha⟩

theorem nodup_inj {l : List Nat} (h : l.Nodup) : ∀ {i j b : Nat}, l[i]? = some b → l[j]? = some b → i = j := by
  induction l with
  | nil => intro i j b hi; simp at hi
  | cons x r ih =>
    intro i j b hi hj
    rw [List.nodup_cons] at h
    cases i with
    | zero => cases j with
      | zero => rfl
      | succ j => simp at hi hj; subst hi; exact absurd (List.mem_of_getElem? hj) h.1
    | succ i => cases j with
      | zero => simp at hi hj; subst hj; exact absurd (List.mem_of_getElem? hi) h.1
      | succ j => simp at hi hj; rw [ih h.2 hi hj]

/-- A NEW OBJECT of our own. -/
theorem Mem.newCells (h : Mem M ob tk obs w) (cv : List Value) (T : TypeId) (x : AObj) (hx : ObjOK M ob tk (w.alloc (.cells cv.toArray T)) w.heap.size x) :
    Mem M (ob ++ [w.heap.size]) tk (obs ++ [x]) (w.alloc (.cells cv.toArray T)) ∧ Ext M ob tk w M (ob ++ [w.heap.size]) tk (w.alloc (.cells cv.toArray T)) := by
  have hold : ∀ b, b < w.heap.size → (w.alloc (.cells cv.toArray T)).heap[b]? = w.heap[b]? := fun b hb => heap_alloc_old w _ hb
  have ho : ∀ (k b : Nat), ob[k]? = some b → (ob ++ [w.heap.size])[k]? = some b := fun k b hk => by
    rw [List.getElem?_append_left (by exact (List.getElem?_eq_some_iff.1 hk).1)]; exact hk
  have hlt : ∀ {b : Nat} {c}, w.heap[b]? = some c → (w.alloc (.cells cv.toArray T)).heap[b]? = some c := fun {b c} hc => (hold b (Array.getElem?_eq_some_iff.1 hc).1).trans hc
  refine ⟨⟨fun b o y hy => ?_, by simp [h.len], fun k c hc => ?_, fun b hb => ?_, ?_, fun τ t ht => ?_, fun τ t g ht hg hm => ?_, h.tokinj⟩, ⟨fun _ _ _ h => h, fun _ _ _ h => .inl h, ho, rfl, rfl, rfl, by simp, fun b hb _ _ => hold b hb, fun b hb => ?_, fun t ht b hb => .inr ⟨t, ht, hb⟩⟩⟩
  · obtain ⟨v, hv, hr⟩ := h.imm b o y hy
    exact ⟨v, (World.cell?_of_block (w := w) (a := ⟨b, o, none⟩) (hold b (World.block_lt_of_cell? w _ hv))).trans hv, hr⟩
  · by_cases hk : k < obs.length
    · rw [List.getElem?_append_left hk] at hc
      obtain ⟨b, hb, hok⟩ := h.obj k c hc
      exact ⟨b, ho k b hb, hok.mono (fun _ _ _ h => h) ho (fun _ _ h => h) (fun _ h => h) (fun _ => hlt)⟩
    · have hk' : k = obs.length := by
        have := (List.getElem?_eq_some_iff.1 hc).1
        simp at this; omega
      subst hk'
      simp at hc
      subst hc
      exact ⟨w.heap.size, by rw [← h.len]; simp, hx.mono (fun _ _ _ h => h) ho (fun _ _ h => h) (fun _ h => h) (fun _ h => h)⟩
  · simp only [List.mem_append, List.mem_singleton] at hb
    rw [alloc_size]
    rcases hb with hb | hb
    · have := h.lt b hb; omega
    · omega
  · exact nodup_snoc h.inj fun hm => Nat.lt_irrefl _ (h.lt _ hm)
  · exact (h.tok τ t ht).mono (fun _ _ _ h => h) (fun g c _ => hlt)
  · simp only [List.mem_append, List.mem_singleton] at hm
    rcases hm with hm | hm
    · exact h.tokobj τ t g ht hg hm
    · obtain ⟨n, xs, hown, _⟩ := h.tok τ t ht
      have := (hown.lt g hg).2
      omega
  · simp only [List.mem_append, List.mem_singleton] at hb
    rcases hb with hb | hb
    · exact .inl hb
    · exact .inr (by omega)

/-- A STORE into an object of our own. -/
theorem Mem.store (h : Mem M ob tk obs w) {k b : Nat} (hb : ob[k]? = some b) (cv' : List Value) (x : AObj) (hx : ∀ w', w'.heap[b]? = (w.setRow b cv'.toArray).heap[b]? → ObjOK M ob tk w' b x) (hM : ∀ o, M b o = none) :
    Mem M ob tk (obs.set k x) (w.setRow b cv'.toArray) ∧ Ext M ob tk w M ob tk (w.setRow b cv'.toArray) := by
  have hbm : b ∈ ob := List.mem_of_getElem? hb
  have hold : ∀ b', b' ≠ b → (w.setRow b cv'.toArray).heap[b']? = w.heap[b']? := fun b' hb' => setRow_other w b b' _ hb'
  have hsz : (w.setRow b cv'.toArray).heap.size = w.heap.size := by simp [World.setRow]
  refine ⟨⟨fun b' o y hy => ?_, by simp [h.len], fun k' c hc => ?_, fun b' hb' => by rw [hsz]; exact h.lt b' hb', h.inj, fun τ t ht => ?_, h.tokobj, h.tokinj⟩,
    ⟨fun _ _ _ h => h, fun _ _ _ h => .inl h, fun _ _ h => h, rfl, rfl, rfl, by rw [hsz]; exact Nat.le_refl _, fun b' _ hn _ => hold b' (fun e => hn (e ▸ hbm)), fun _ h => .inl h, fun t ht b hb => .inr ⟨t, ht, hb⟩⟩⟩
  · obtain ⟨v, hv, h1, hr⟩ := h.imm b' o y hy
    have hne : b' ≠ b := fun e => by subst e; rw [hM o] at hy; cases hy
    exact ⟨v, (World.cell?_of_block (w := w) (a := ⟨b', o, none⟩) (hold b' hne)).trans hv, h1, hr⟩
  · by_cases hk : k' = k
    · subst hk
      have hlt : k' < obs.length := by have := (List.getElem?_eq_some_iff.1 hb).1; rw [h.len] at this; exact this
      rw [List.getElem?_set_self hlt] at hc
      cases hc
      exact ⟨b, hb, hx _ rfl⟩
    · rw [List.getElem?_set_ne (fun e => hk e.symm)] at hc
      obtain ⟨b', hb', hok⟩ := h.obj k' c hc
      have hne : b' ≠ b := fun e => by
        subst e
        exact hk (nodup_inj h.inj hb' hb)
      exact ⟨b', hb', hok.mono (fun _ _ _ h => h) (fun _ _ h => h) (fun _ _ h => h) (fun _ h => h) (fun c hc => (hold b' hne).trans hc)⟩
  · exact (h.tok τ t ht).mono (fun _ _ _ h => h) (fun g c hg hc => (hold g (fun e => h.tokobj τ t g ht hg (e ▸ hbm))).trans hc)

/-- A NEW BLOCK that is never written again (but for what lies behind the part that is known). -/
theorem Mem.newImm (h : Mem M ob tk obs w) (w' : World) (cv : List Value) (T : TypeId) (m : Nat → Option AVal)
    (hos : w'.os = w.os) (htape : w'.tape = w.tape) (hout : w'.output = w.output) (hsz : w'.heap.size = w.heap.size + 1)
    (hold : ∀ b, b < w.heap.size → w'.heap[b]? = w.heap[b]?) (hnew : w'.heap[w.heap.size]? = some (.cells cv.toArray T (0, 0)))
    (hm : ∀ o x, m o = some x → ∃ v, cv[o]? = some v ∧ v.oneCell' = true ∧ Rep M [] [] v x) :
    Mem (fun b o => if b = w.heap.size then m o else M b o) ob tk obs w' ∧ Ext M ob tk w (fun b o => if b = w.heap.size then m o else M b o) ob tk w' := by
  have hM : ∀ b o x, M b o = some x → (if b = w.heap.size then m o else M b o) = some x := fun b o x hx => by
    rw [if_neg]
    · exact hx
    · intro e
      rw [h.noImm (Nat.le_of_eq e.symm) o] at hx
      cases hx
  have hlt : ∀ {b : Nat} {c}, w.heap[b]? = some c → w'.heap[b]? = some c := fun {b c} hc => (hold b (Array.getElem?_eq_some_iff.1 hc).1).trans hc
  have hbl : ∀ {b : Nat} {c}, w.heap[b]? = some c → b ≠ w.heap.size := fun {b c} hc => by have := (Array.getElem?_eq_some_iff.1 hc).1; omega
  refine ⟨⟨fun b o y hy => ?_, h.len, fun k c hc => ?_, fun b hb => by have := h.lt b hb; omega, h.inj, fun τ t ht => ?_, h.tokobj, h.tokinj⟩,
    ⟨hM, fun b o x hx => ?_, fun _ _ h => h, hos, htape, hout, by omega, fun b hb _ _ => hold b hb, fun _ h => .inl h, fun t ht b hb => .inr ⟨t, ht, hb⟩⟩⟩
  · split at hy
    · rename_i e
      subst e
      obtain ⟨v, hv, h1, hr⟩ := hm o y hy
      refine ⟨v, ?_, h1, hr.mono hM (fun _ _ h => h) (fun _ _ h => h)⟩
      rw [cell_of_row w' _ o _ T (0, 0) hnew]
      simpa using hv
    · obtain ⟨v, hv, h1, hr⟩ := h.imm b o y hy
      exact ⟨v, (World.cell?_of_block (w := w) (a := ⟨b, o, none⟩) (hold b (World.block_lt_of_cell? w _ hv))).trans hv, h1, hr.mono hM (fun _ _ h => h) (fun _ _ h => h)⟩
  · obtain ⟨b, hb, hok⟩ := h.obj k c hc
    have := h.lt b (List.mem_of_getElem? hb)
    exact ⟨b, hb, hok.mono hM (fun _ _ h => h) (fun _ _ h => h) (fun o ho => by rw [if_neg (by omega)]; exact ho) (fun _ => hlt)⟩
  · refine (h.tok τ t ht).mono (fun g o hg ho => ?_) (fun g c _ => hlt)
    obtain ⟨n, xs, hown, _⟩ := h.tok τ t ht
    have := (hown.lt g hg).2
    rw [if_neg (by omega)]
    exact ho
  · split at hx
    · exact .inr (.inl (by omega))
    · exact .inl hx

/-- One token more. -/
theorem Mem.addTok (h : Mem M ob tk obs w) (t : Tok) (ht : TokOK M w t) (hob : ∀ g, t.v.ownBlock = some g → g ∉ ob) (hinj : ∀ t' ∈ tk, ∀ g, t.v.ownBlock = some g → t'.v.ownBlock ≠ some g) :
    Mem M ob (tk ++ [t]) obs w := by
  have hk : ∀ (k : Nat) b, tk[k]? = some b → (tk ++ [t])[k]? = some b := fun k b hk => by
    rw [List.getElem?_append_left (by exact (List.getElem?_eq_some_iff.1 hk).1)]; exact hk
  have part : ∀ {τ : Nat} {t'}, (tk ++ [t])[τ]? = some t' → tk[τ]? = some t' ∨ (τ = tk.length ∧ t' = t) := fun {τ t'} hh => by
    by_cases hτ : τ < tk.length
    · rw [List.getElem?_append_left hτ] at hh; exact .inl hh
    · have : τ = tk.length := by
        have := (List.getElem?_eq_some_iff.1 hh).1
        simp at this; omega
      subst this
      simp at hh
      exact .inr ⟨rfl, hh.symm⟩
  refine ⟨h.imm, h.len, fun k c hc => ?_, h.lt, h.inj, fun τ t' hh => ?_, fun τ t' g hh hg => ?_, fun τ τ' t1 t2 g h1 h2 g1 g2 => ?_⟩
  · obtain ⟨b, hb, hok⟩ := h.obj k c hc
    exact ⟨b, hb, hok.mono (fun _ _ _ h => h) (fun _ _ h => h) hk (fun _ h => h) (fun _ h => h)⟩
  · rcases part hh with hh | ⟨_, rfl⟩
    · exact h.tok τ t' hh
    · exact ht
  · rcases part hh with hh | ⟨_, rfl⟩
    · exact h.tokobj τ t' g hh hg
    · exact hob g hg
  · rcases part h1 with a1 | ⟨e1, e1'⟩ <;> rcases part h2 with a2 | ⟨e2, e2'⟩
    · exact h.tokinj τ τ' t1 t2 g a1 a2 g1 g2
    · subst e2'; exact absurd g1 (hinj t1 (List.mem_of_getElem? a1) g g2)
    · subst e1'; exact absurd g2 (hinj t2 (List.mem_of_getElem? a2) g g1)
    · omega
end

/- ---------- a row that grows ---------- -/
theorem run_append_cases {P : Program} (w : World) (t ty e : TypeId) (i : TypeInfo) (z : Value) (ht : P.underlying t = some (.slice e)) (hi : P.info? e = some i) (hz : i.zero = some z)
    (hzs : z.cells.size = i.size) (v : Value) (n : Nat) (olds : List Value) (hown : w.ownsRow 0 e i.size v n olds)
    (ad : Addr) (m c : Nat) (news : List Value) (hl : news.length = m * i.size) (hnews : ∀ (j : Nat) u, news[j]? = some u → w.cell? (ad.add j) = some u) (h1 : ∀ u ∈ news, u.oneCell' = true)
    (h63 : n + m ≤ maxLen) (hbytes : (n + m) * i.bytes ≤ 140737488355328) :
    ∃ v' w', (Builtin.append_ #[t, t] ty #[v, .slice (some ad) m c]).run P w = .ok v' w' ∧ w'.ownsRow 0 e i.size v' (n + m) (olds ++ news) ∧ w'.os = w.os ∧ w'.tape = w.tape ∧ w'.output = w.output ∧ w.heap.size ≤ w'.heap.size ∧
      (v' = .slice none 0 0 ↔ v = .slice none 0 0 ∧ m = 0) ∧
      ((v'.ownBlock = v.ownBlock ∧ ∀ b, v.ownBlock ≠ some b → w'.heap[b]? = w.heap[b]?) ∨ (v'.ownBlock = some w.heap.size ∧ ∀ b, b < w.heap.size → w'.heap[b]? = w.heap[b]?)) := by
  have hsmall : n + m ≤ 9223372036854775807 := by simp only [maxLen] at h63; omega
  have hlen : (olds ++ news).length = (n + m) * i.size := by rw [List.length_append, hown.1, hl, Nat.add_mul]
  have grown : ∀ (old : Nat), old < n + m →
      (w.drew.alloc (.cells (olds.toArray ++ news.toArray ++ Builtin.zeroCells z.cells (grownCap w (n + m) old e - (n + m))) e)).ownsRow 0 e i.size
        (.slice (some ⟨w.heap.size, 0, none⟩) (n + m) (grownCap w (n + m) old e)) (n + m) (olds ++ news) := by
    intro old ho
    have hge := grownCap_ge w (n + m) old e
    have hcm : grownCap w (n + m) old e ≤ maxLen := grownCap_le_maxLen w (n + m) old e h63
    refine ⟨hlen, .inr ⟨w.heap.size, _, _, rfl, Nat.zero_le _, heap_alloc_new w.drew _, hge, hcm, ?_, ?_⟩⟩
    · simp only [Array.size_append, List.size_toArray, size_zeroCells, hzs, hown.1, hl, ← Nat.add_mul]
      congr 1
      omega
    · simp only [Array.toList_append, List.append_assoc]
      rw [← List.append_assoc, ← hlen]
      exact List.take_left
  have hsz : ∀ o, w.heap.size ≤ (w.drew.alloc o).heap.size := fun o => by rw [alloc_size]; show w.heap.size ≤ w.heap.size + 1; omega
  rcases hown.2 with ⟨rfl, rfl⟩ | ⟨g, cap, cur, rfl, _, hg, hnc, hcm, hcs, htake⟩
  · have hx : olds = [] := List.eq_nil_of_length_eq_zero (by simpa using hown.1)
    subst hx
    by_cases hm : m = 0
    · subst hm
      have hn : news = [] := List.eq_nil_of_length_eq_zero (by simpa using hl)
      subst hn
      refine ⟨.slice none 0 0, w, ?_, World.ownsRow_nil w 0 e i.size, rfl, rfl, rfl, Nat.le_refl _, by simp, .inl ⟨rfl, fun _ _ => rfl⟩⟩
      simp [Builtin.append_, run_underlying ht, sizeOf, typeInfo, hi, Builtin.lenOf, Builtin.firstCells, loadCells, loadCellsFrom]
    · have hr := run_append_nil (P := P) w t ty e i z ht hi hz ad m c news hl hnews (by omega) (by omega) (by have hb := hbytes; simp only [Nat.zero_add] at hb; omega)
      have hgr := grown 0 (by omega)
      simp only [Nat.zero_add, List.nil_append, Array.empty_append] at hgr ⊢
      exact ⟨_, _, hr, hgr, rfl, rfl, rfl, hsz _, by simp [hm], .inr ⟨rfl, fun b hb => heap_alloc_old w.drew _ hb⟩⟩
  · by_cases hroom : n + m ≤ cap
    · have hfit : n * i.size + news.length ≤ cur.size := by rw [hl, hcs, ← Nat.add_mul]; exact Nat.mul_le_mul_right _ hroom
      have hr := run_append_room (P := P) w t ty e i ht hi g n cap cur hg ad m c news hl hnews h1 hroom hfit
      refine ⟨_, _, hr, ⟨hlen, .inr ⟨g, cap, _, rfl, Nat.zero_le _, setRow_heap w g cur _ e _ hg, hroom, hcm, ?_, ?_⟩⟩, rfl, rfl, rfl, by simp [World.setRow], by simp, .inl ⟨rfl, fun b hb => setRow_other w g b _ (fun e => hb (by simp [Value.ownBlock, e]))⟩⟩
      · simp only [List.size_toArray, List.length_append, List.length_take, List.length_drop, Array.length_toList]
        omega
      · rw [htake, ← hlen]
        exact List.take_left
    · have holds : ∀ (j : Nat) u, olds[j]? = some u → w.cell? ((⟨g, 0, none⟩ : Addr).add j) = some u := hown.cells (g := g) rfl
      have hr := run_append_grow (P := P) w t ty e i z ht hi hz ⟨g, 0, none⟩ n cap olds hown.1 holds ad m c news hl hnews (by omega) (by omega) (growslice_fits (by omega) hbytes)
      have hgr := grown cap (by omega)
      exact ⟨_, _, hr, hgr, rfl, rfl, rfl, hsz _, by simp, .inr ⟨rfl, fun b hb => heap_alloc_old w.drew _ hb⟩⟩

/-- what is appended is nil -/
theorem run_append_cases_none {P : Program} (w : World) (t ty e : TypeId) (i : TypeInfo) (ht : P.underlying t = some (.slice e)) (hi : P.info? e = some i)
    (v : Value) (n : Nat) (olds : List Value) (hown : w.ownsRow 0 e i.size v n olds) : (Builtin.append_ #[t, t] ty #[v, .slice none 0 0]).run P w = .ok v w :=
  run_append_owned_none (P := P) w 0 t ty e i i.size ht hi v n olds hown

def cellAt (sz : Nat) (xs : List AVal) (o : Nat) : Option AVal := (xs[o / sz]?).bind fun x => x.cells[o % sz]?
theorem cellAt_eq {sz : Nat} {xs : List AVal} {i j : Nat} {x c : AVal} (hx : xs[i]? = some x) (hc : x.cells[j]? = some c) (hz : x.cells.length = sz) : cellAt sz xs (i * sz + j) = some c := by
  have hj : j < sz := by rw [← hz]; exact (List.getElem?_eq_some_iff.1 hc).1
  have h1 : (i * sz + j) / sz = i := by
    rw [Nat.mul_comm, Nat.mul_add_div (by omega), Nat.div_eq_of_lt hj, Nat.add_zero]
  have h2 : (i * sz + j) % sz = j := by rw [Nat.mul_comm, Nat.mul_add_mod, Nat.mod_eq_of_lt hj]
  simp [cellAt, h1, h2, hx, hc]
theorem cellAt_inv {sz : Nat} {xs : List AVal} {o : Nat} {c : AVal} (h : cellAt sz xs o = some c) : ∃ x, xs[o / sz]? = some x ∧ x.cells[o % sz]? = some c := by
  unfold cellAt at h
  cases hx : xs[o / sz]? with
  | none => simp [hx] at h
  | some x => exact ⟨x, rfl, by simpa [hx] using h⟩

section
variable {M : Imm} {ob : List Nat} {tk : List Tok} {obs : List AObj} {w : World}

/-- the cells of a slice of immutable elements, as values -/
theorem Mem.sliceCells (h : Mem M ob tk obs w) {sz b o : Nat} {xs : List AVal} (hz : ∀ x ∈ xs, x.cells.length = sz)
    (hm : ∀ (i j : Nat) x c, xs[i]? = some x → x.cells[j]? = some c → M b (o + i * sz + j) = some c) :
    ∃ vs : List Value, vs.length = xs.length * sz ∧ (∀ (j : Nat) u, vs[j]? = some u → w.cell? ⟨b, o + j, none⟩ = some u) ∧ (∀ u ∈ vs, u.oneCell' = true) ∧
      ∀ (j : Nat) u c, vs[j]? = some u → cellAt sz xs j = some c → Rep M [] [] u c := by
  have key : ∀ q, q < xs.length * sz → ∃ u, w.cell? ⟨b, o + q, none⟩ = some u ∧ u.oneCell' = true ∧ ∀ c, cellAt sz xs q = some c → Rep M [] [] u c := by
    intro q hq
    have hs : 0 < sz := by rcases Nat.eq_zero_or_pos sz with h0 | h0; subst h0; omega; exact h0
    have hi : q / sz < xs.length := (Nat.div_lt_iff_lt_mul hs).2 hq
    have hx : xs[q / sz]? = some xs[q / sz] := List.getElem?_eq_getElem hi
    have hj : q % sz < (xs[q / sz]).cells.length := by rw [hz _ (List.getElem_mem hi)]; exact Nat.mod_lt _ hs
    have hc : (xs[q / sz]).cells[q % sz]? = some ((xs[q / sz]).cells[q % sz]) := List.getElem?_eq_getElem hj
    have he : o + q / sz * sz + q % sz = o + q := by have := Nat.div_add_mod q sz; rw [Nat.mul_comm] at this; omega
    obtain ⟨v, hv, h1, hr⟩ := h.imm _ _ _ (hm _ _ _ _ hx hc)
    rw [he] at hv
    refine ⟨v, hv, h1, fun c hcc => ?_⟩
    unfold cellAt at hcc
    simp only [hx, Option.bind_some, hc] at hcc
    cases hcc
    exact hr
  refine ⟨(List.range (xs.length * sz)).map fun q => (w.cell? ⟨b, o + q, none⟩).getD undef, by simp, fun j u hu => ?_, fun u hu => ?_, fun j u c hu hc => ?_⟩
  · simp only [List.getElem?_map] at hu
    by_cases hj : j < xs.length * sz
    · obtain ⟨v, hv, _⟩ := key j hj
      simp [List.getElem?_range hj, hv] at hu
      rw [hv, hu]
    · rw [List.getElem?_eq_none (by simp; omega)] at hu
      simp at hu
  · simp only [List.mem_map, List.mem_range] at hu
    obtain ⟨q, hq, rfl⟩ := hu
    obtain ⟨v, hv, h1, _⟩ := key q hq
    simp [hv, h1]
  · simp only [List.getElem?_map] at hu
    by_cases hj : j < xs.length * sz
    · obtain ⟨v, hv, _, hr⟩ := key j hj
      simp [List.getElem?_range hj, hv] at hu
      subst hu
      exact hr c hc
    · rw [List.getElem?_eq_none (by simp; omega)] at hu
      simp at hu
end
end Go.AM
