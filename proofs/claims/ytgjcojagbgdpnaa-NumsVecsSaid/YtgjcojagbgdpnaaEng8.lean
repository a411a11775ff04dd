/-
  THE ENGINE, 8: a row of our own grows. Over any program.
-/
import Derived.Test.YtgjcojagbgdpnaaEng7
namespace Go.AM
open Go.RowKit

theorem untOL_get (τ : Nat) (l : List AObj) : ∀ (k : Nat), (untOL τ l)[k]? = (l[k]?).map (untO τ) := by
  induction l with
  | nil => intro k; simp [untOL]
  | cons x r ih => intro k; cases k with
    | zero => rfl
    | succ k => simpa [untOL] using ih k
theorem untOL_len (τ : Nat) (l : List AObj) : (untOL τ l).length = l.length := by
  induction l with
  | nil => rfl
  | cons x r ih => simp [untOL, ih]

theorem cellAt_app_left {sz : Nat} {xs ys : List AVal} {o : Nat} (h : o < xs.length * sz) : cellAt sz (xs ++ ys) o = cellAt sz xs o := by
  have hs : 0 < sz := by rcases Nat.eq_zero_or_pos sz with h0 | h0; subst h0; omega; exact h0
  have hi : o / sz < xs.length := (Nat.div_lt_iff_lt_mul hs).2 h
  simp [cellAt, List.getElem?_append_left hi]
theorem cellAt_app_right {sz : Nat} {xs ys : List AVal} {o : Nat} (hs : 0 < sz) (h : xs.length * sz ≤ o) : cellAt sz (xs ++ ys) o = cellAt sz ys (o - xs.length * sz) := by
  have hi : xs.length ≤ o / sz := (Nat.le_div_iff_mul_le hs).2 h
  obtain ⟨q, rfl⟩ := Nat.exists_eq_add_of_le h
  have h1 : (xs.length * sz + q) / sz = xs.length + q / sz := by rw [Nat.mul_comm, Nat.mul_add_div hs]
  have h2 : (xs.length * sz + q) % sz = q % sz := by rw [Nat.mul_comm, Nat.mul_add_mod]
  simp only [cellAt, h1, h2, Nat.add_sub_cancel_left]
  rw [List.getElem?_append_right (by omega)]
  simp

section
variable {M : Imm} {ob : List Nat} {tk : List Tok} {obs : List AObj} {w : World}

theorem ObjOK.unt {τ : Nat} {M' : Imm} {tk' : List Tok} {w' : World} {b : Nat} {x : AObj} (hb : But M ob tk τ M' ob tk') (h : ObjOK M ob tk w b x) (hn : ∀ o, M b o = none → M' b o = none)
    (hw : ∀ c, w.heap[b]? = some c → w'.heap[b]? = some c) : ObjOK M' ob tk' w' b (untO τ x) := by
  cases x with
  | dead => trivial
  | cells cs =>
    obtain ⟨h1, cv, T, h2, h3, h30, h4⟩ := h
    have := mapL' (f := untS τ) (g := untO.untCells τ) rfl (fun _ _ => rfl) (fun v a h => h.untS hb) cs cv h4
    exact ⟨fun o => hn o (h1 o), cv, T, hw _ h2, h3.trans this.2.symm, h30, this.1⟩
  | row sz xs =>
    obtain ⟨h1, cv, T, h2, h3, h30, h4, h5⟩ := h
    refine ⟨fun o => hn o (h1 o), cv, T, hw _ h2, h3, h30, h4, fun i j x c hx hc => ?_⟩
    obtain ⟨v, hv, hr⟩ := h5 i j x c hx hc
    exact ⟨v, hv, hr.mono hb.imm (fun _ _ h => h) (fun _ _ h => h)⟩

theorem Mem.unt (h : Mem M ob tk obs w) (τ : Nat) : Mem M ob tk (untOL τ obs) w := by
  refine ⟨h.imm, by rw [untOL_len]; exact h.len, fun k c hc => ?_, h.lt, h.inj, h.tok, h.tokobj, h.tokinj⟩
  rw [untOL_get] at hc
  obtain ⟨x, hx, rfl⟩ := Option.map_eq_some_iff.1 hc
  obtain ⟨b, hb, hok⟩ := h.obj k x hx
  exact ⟨b, hb, hok.unt ⟨fun _ _ _ h => h, fun _ _ h => h, fun _ _ _ h => h⟩ (fun _ h => h) (fun _ h => h)⟩

theorem nlApp_cons {nl : Bool} {ys : List AVal} (h : ys ≠ []) : nlApp nl ys = false := by cases ys <;> first | rfl | exact absurd rfl h

theorem Mem.append (h : Mem M ob tk obs w) {τ : Nat} {e sz : Nat} {v : Value} {nl : Bool} {xs : List AVal} (ht : tk[τ]? = some ⟨v, e, sz⟩) (hv : Rep M ob tk v (.slice sz nl xs none)) (hsz : 0 < sz)
    {n : Nat} {olds : List Value} (hown : w.ownsRow 0 e sz v n olds)
    {ys : List AVal} {news : List Value} (hzy : ∀ y ∈ ys, y.cells.length = sz) (hl : news.length = ys.length * sz) (h1 : ∀ u ∈ news, u.oneCell' = true)
    (hr : ∀ (j : Nat) u c, news[j]? = some u → cellAt sz ys j = some c → Rep M [] [] u c)
    {v' : Value} {w' : World} (hown' : w'.ownsRow 0 e sz v' (n + ys.length) (olds ++ news)) (hos : w'.os = w.os) (htape : w'.tape = w.tape) (hout : w'.output = w.output) (hsize : w.heap.size ≤ w'.heap.size)
    (hnil : v' = .slice none 0 0 ↔ v = .slice none 0 0 ∧ ys.length = 0)
    (hcase : (v'.ownBlock = v.ownBlock ∧ ∀ b, v.ownBlock ≠ some b → w'.heap[b]? = w.heap[b]?) ∨ (v'.ownBlock = some w.heap.size ∧ ∀ b, b < w.heap.size → w'.heap[b]? = w.heap[b]?)) :
    ∃ M', Mem M' ob (tk.set τ ⟨v', e, sz⟩) (untOL τ obs) w' ∧ Ext M ob tk w M' ob (tk.set τ ⟨v', e, sz⟩) w' ∧ But M ob tk τ M' ob (tk.set τ ⟨v', e, sz⟩) ∧
      Rep M' ob (tk.set τ ⟨v', e, sz⟩) v' (.slice sz (nlApp nl ys) (xs ++ ys) (some (τ, e))) := by
  have hτ : τ < tk.length := (List.getElem?_eq_some_iff.1 ht).1
  have htm : (⟨v, e, sz⟩ : Tok) ∈ tk := List.mem_of_getElem? ht
  -- the old row
  have hold : n = xs.length ∧ (∀ x ∈ xs, x.cells.length = sz) ∧ (v.ownBlock = none → xs = []) ∧ ∀ g, v.ownBlock = some g →
      (∀ (o : Nat) c, cellAt sz xs o = some c → M g o = some c) ∧ (∀ o, xs.length * sz ≤ o → M g o = none) ∧ g < w.heap.size ∧ g ∉ ob ∧ (∀ (o : Nat) u, olds[o]? = some u → w.cell? ⟨g, o, none⟩ = some u) := by
    obtain ⟨n0, olds0, hown0, htail⟩ := h.tok τ _ ht
    cases hv with
    | nilslice sz =>
      rcases hown.2 with ⟨_, hn⟩ | ⟨g, cap, cur, e1, _⟩
      · exact ⟨by simp [hn], fun x hx => by simp at hx, fun _ => rfl, fun g hg => by simp [Value.ownBlock] at hg⟩
      · cases e1
    | slice sz b o n1 cap xs hn hc hz hm =>
      have hb0 : b = b ∧ o = 0 ∧ n1 = n := by
        rcases hown.2 with ⟨e1, _⟩ | ⟨g, cap', cur, e1, _⟩
        · cases e1
        · cases e1; exact ⟨rfl, rfl, rfl⟩
      obtain ⟨_, rfl, rfl⟩ := hb0
      have hn0 : n0 = n1 := by
        rcases hown0.2 with ⟨e1, _⟩ | ⟨g, cap', cur, e1, _⟩
        · cases e1
        · cases e1; rfl
      subst hn0
      refine ⟨hn.symm, hz, fun hno => by simp [Value.ownBlock] at hno, fun g hg => ?_⟩
      have hgb : b = g := by simpa [Value.ownBlock] using hg
      subst hgb
      refine ⟨fun o c hc => ?_, fun o ho => htail b rfl o (by rw [hn] at ho; exact ho), (hown.lt b rfl).2, h.tokobj τ _ b ht rfl, fun o u hu => ?_⟩
      · obtain ⟨x, hx, hcc⟩ := cellAt_inv hc
        have := hm _ _ x c hx hcc
        have he : 0 + o / sz * sz + o % sz = o := by rw [Nat.zero_add, Nat.mul_comm]; exact Nat.div_add_mod o sz
        rwa [he] at this
      · have := hown.cells (g := b) rfl o u hu
        rwa [addr_add, Nat.zero_add] at this
  obtain ⟨hn, hzx, hnone, hsome⟩ := hold
  subst hn
  have hlo : olds.length = xs.length * sz := hown.1
  have hzz : ∀ x ∈ xs ++ ys, x.cells.length = sz := fun x hx => by
    rcases List.mem_append.1 hx with hx | hx
    · exact hzx x hx
    · exact hzy x hx
  -- where the new row lies
  have hwhere : ∀ g', v'.ownBlock = some g' → v.ownBlock = some g' ∨ g' = w.heap.size := by
    intro g' hg'
    rcases hcase with ⟨e1, _⟩ | ⟨e1, _⟩
    · exact .inl (e1 ▸ hg')
    · exact .inr (by rw [e1] at hg'; cases hg'; rfl)
  have hheap : ∀ b, b < w.heap.size → v.ownBlock ≠ some b ∨ v'.ownBlock ≠ some b → w'.heap[b]? = w.heap[b]? := by
    intro b hb hne
    rcases hcase with ⟨e1, h2⟩ | ⟨_, h2⟩
    · exact h2 b (by rcases hne with h | h; exact h; rw [← e1]; exact h)
    · exact h2 b hb
  have hobs : ∀ b, b ∈ ob → v.ownBlock ≠ some b ∧ v'.ownBlock ≠ some b := fun b hb => by
    have h1 : v.ownBlock ≠ some b := fun hg => h.tokobj τ _ b ht hg hb
    refine ⟨h1, fun hg => ?_⟩
    rcases hwhere b hg with h2 | h2
    · exact h1 h2
    · have := h.lt b hb; omega
  let M' : Imm := fun b o => if v'.ownBlock = some b then (if o < (xs.length + ys.length) * sz then cellAt sz (xs ++ ys) o else none) else M b o
  have hM'o : ∀ b o, v'.ownBlock ≠ some b → M' b o = M b o := fun b o hne => if_neg hne
  have hMM : ∀ b o x, M b o = some x → M' b o = some x := by
    intro b o x hx
    by_cases hg : v'.ownBlock = some b
    · have hgv : v.ownBlock = some b := by
        rcases hwhere b hg with h2 | h2
        · exact h2
        · rw [h.noImm (Nat.le_of_eq h2.symm) o] at hx; cases hx
      obtain ⟨a1, a2, _, _, _⟩ := hsome b hgv
      have ho : o < xs.length * sz := by
        rcases Nat.lt_or_ge o (xs.length * sz) with hlt | hge
        · exact hlt
        · rw [a2 o hge] at hx; cases hx
      have hi : o / sz < xs.length := (Nat.div_lt_iff_lt_mul hsz).2 ho
      have hj : o % sz < (xs[o / sz]).cells.length := by rw [hzx _ (List.getElem_mem hi)]; exact Nat.mod_lt _ hsz
      have hc : cellAt sz xs o = some ((xs[o / sz]).cells[o % sz]) := by simp [cellAt, List.getElem?_eq_getElem hi, List.getElem?_eq_getElem hj]
      have hxx := a1 o _ hc
      rw [hx] at hxx
      show (if v'.ownBlock = some b then (if o < (xs.length + ys.length) * sz then cellAt sz (xs ++ ys) o else none) else M b o) = some x
      rw [if_pos hg, if_pos (by rw [Nat.add_mul]; omega), cellAt_app_left ho, hc, hxx]
    · rw [hM'o b o hg]; exact hx
  have hup : ∀ {u c}, Rep M [] [] u c → Rep M' [] [] u c := fun hr => hr.mono hMM (fun _ _ h => h) (fun _ _ h => h)
  have hbut : But M ob tk τ M' ob (tk.set τ ⟨v', e, sz⟩) := ⟨hMM, fun _ _ h => h, fun σ t hne hσ => by rw [List.getElem?_set_ne (fun e => hne e.symm)]; exact hσ⟩
  have hset : ∀ {σ : Nat} {t : Tok}, (tk.set τ ⟨v', e, sz⟩)[σ]? = some t → (σ = τ ∧ t = ⟨v', e, sz⟩) ∨ (σ ≠ τ ∧ tk[σ]? = some t) := fun {σ t} hs => by
    by_cases hst : σ = τ
    · subst hst
      rw [List.getElem?_set_self hτ] at hs
      cases hs
      exact .inl ⟨rfl, rfl⟩
    · rw [List.getElem?_set_ne (fun e => hst e.symm)] at hs
      exact .inr ⟨hst, hs⟩
  have hother : ∀ {σ : Nat} {t : Tok} {g : Nat}, σ ≠ τ → tk[σ]? = some t → t.v.ownBlock = some g → v'.ownBlock ≠ some g ∧ g < w.heap.size := fun {σ t g} hne hσ hg => by
    obtain ⟨n0, o0, hown0, _⟩ := h.tok σ t hσ
    have hlt := (hown0.lt g hg).2
    refine ⟨fun hg' => ?_, hlt⟩
    rcases hwhere g hg' with h2 | h2
    · exact hne (h.tokinj σ τ t _ g hσ ht hg h2)
    · omega
  refine ⟨M', ⟨fun b o x hx => ?_, by rw [untOL_len]; exact h.len, fun k c hc => ?_, fun b hb => Nat.lt_of_lt_of_le (h.lt b hb) hsize, h.inj, fun σ t hs => ?_, fun σ t g hs hg => ?_, fun σ σ' t t' g hs hs' hg hg' => ?_⟩,
    ⟨hMM, fun b o x hx => ?_, fun _ _ h => h, hos, htape, hout, hsize, fun b hb _ hnt => hheap b hb (.inl (hnt _ htm)), fun b hb => .inl hb, fun t hs b hb => ?_⟩, hbut, ?_⟩
  · -- what is immutable lies there
    by_cases hg : v'.ownBlock = some b
    · have hx' : (if o < (xs.length + ys.length) * sz then cellAt sz (xs ++ ys) o else none) = some x := by
        have : M' b o = (if o < (xs.length + ys.length) * sz then cellAt sz (xs ++ ys) o else none) := if_pos hg
        rw [← this]; exact hx
      split at hx'
      case isFalse => cases hx'
      case isTrue ho =>
        have hcell : ∀ (j : Nat) u, (olds ++ news)[j]? = some u → w'.cell? ⟨b, j, none⟩ = some u := fun j u hu => by
          have := hown'.cells (g := b) hg j u hu
          rwa [addr_add, Nat.zero_add] at this
        by_cases hlt : o < xs.length * sz
        · rw [cellAt_app_left hlt] at hx'
          have hvb : ∃ g, v.ownBlock = some g := by
            cases hq : v.ownBlock with
            | none => rw [hnone hq] at hlt; simp at hlt
            | some g => exact ⟨g, rfl⟩
          obtain ⟨g, hvg⟩ := hvb
          obtain ⟨a1, _, _, _, a5⟩ := hsome g hvg
          have holt : o < olds.length := by omega
          obtain ⟨u, hu, hu1, hur⟩ := h.imm g o x (a1 o x hx')
          have he := a5 o _ (List.getElem?_eq_getElem holt)
          rw [hu] at he
          cases he
          exact ⟨_, hcell o _ (by rw [List.getElem?_append_left holt]; exact List.getElem?_eq_getElem holt), hu1, hup hur⟩
        · rw [cellAt_app_right hsz (by omega)] at hx'
          have hnl : o - xs.length * sz < news.length := by rw [hl]; rw [Nat.add_mul] at ho; omega
          refine ⟨news[o - xs.length * sz], hcell o _ ?_, h1 _ (List.getElem_mem hnl), hup (hr _ _ x (List.getElem?_eq_getElem hnl) hx')⟩
          rw [List.getElem?_append_right (by omega), hlo]
          exact List.getElem?_eq_getElem hnl
    · rw [hM'o b o hg] at hx
      obtain ⟨u, hu, hu1, hur⟩ := h.imm b o x hx
      exact ⟨u, (World.cell?_of_block (w := w) (a := ⟨b, o, none⟩) (hheap b (World.block_lt_of_cell? w _ hu) (.inr hg))).trans hu, hu1, hup hur⟩
  · rw [untOL_get] at hc
    obtain ⟨x, hx, rfl⟩ := Option.map_eq_some_iff.1 hc
    obtain ⟨b, hb, hok⟩ := h.obj k x hx
    have hbm := List.mem_of_getElem? hb
    exact ⟨b, hb, hok.unt hbut (fun o ho => by rw [hM'o b o (hobs b hbm).2]; exact ho) (fun c hc => (hheap b (h.lt b hbm) (.inl (hobs b hbm).1)).trans hc)⟩
  · rcases hset hs with ⟨rfl, rfl⟩ | ⟨hne, hs⟩
    · refine ⟨_, _, hown', fun g hg o ho => ?_⟩
      show (if v'.ownBlock = some g then (if o < (xs.length + ys.length) * sz then cellAt sz (xs ++ ys) o else none) else M g o) = none
      rw [if_pos hg, if_neg (by simpa using ho)]
    · refine (h.tok σ t hs).mono (fun g o hg ho => by rw [hM'o g o (hother hne hs hg).1]; exact ho) (fun g c hg hc => ?_)
      exact (hheap g (hother hne hs hg).2 (.inr (hother hne hs hg).1)).trans hc
  · rcases hset hs with ⟨rfl, rfl⟩ | ⟨hne, hs⟩
    · exact fun hm => (hobs g hm).2 hg
    · exact h.tokobj σ t g hs hg
  · rcases hset hs with ⟨e1, e2⟩ | ⟨hne, hs2⟩ <;> rcases hset hs' with ⟨e3, e4⟩ | ⟨hne', hs3⟩
    · rw [e1, e3]
    · subst e2; exact absurd hg (hother hne' hs3 hg').1
    · subst e4; exact absurd hg' (hother hne hs2 hg).1
    · exact h.tokinj σ σ' t t' g hs2 hs3 hg hg'
  · by_cases hg : v'.ownBlock = some b
    · rcases hwhere b hg with h2 | h2
      · exact .inr (.inr (.inr ⟨_, htm, h2⟩))
      · exact .inr (.inl (by omega))
    · rw [hM'o b o hg] at hx; exact .inl hx
  · obtain ⟨σ, hσ⟩ := List.getElem?_of_mem hs
    rcases hset hσ with ⟨_, rfl⟩ | ⟨_, hσ⟩
    · rcases hwhere b hb with h2 | h2
      · exact .inr ⟨_, htm, h2⟩
      · exact .inl (by omega)
    · exact .inr ⟨t, List.mem_of_getElem? hσ, hb⟩
  · refine .tok sz _ _ v' τ e ?_ (List.getElem?_set_self hτ)
    rcases hown'.2 with ⟨e1, e2⟩ | ⟨g, cap, cur, e1, _, e3, e4, _⟩
    · have hx0 : xs = [] := List.eq_nil_of_length_eq_zero (by omega)
      have hy0 : ys = [] := List.eq_nil_of_length_eq_zero (by omega)
      subst hx0 hy0
      have hvn := (hnil.1 e1).1
      rw [e1]
      rw [hvn] at hv
      cases hv
      exact .nilslice sz
    · have hnl : nlApp nl ys = false := by
        by_cases hy0 : ys = []
        · subst hy0
          have : v ≠ .slice none 0 0 := fun hvn => by
            have := hnil.2 ⟨hvn, rfl⟩
            rw [e1] at this
            cases this
          cases hv with
          | nilslice sz => exact absurd rfl this
          | slice sz b o n1 cap xs hn hc hz hm => rfl
        · exact nlApp_cons hy0
      rw [hnl, e1]
      refine .slice sz g 0 _ cap _ (by simp) e4 hzz fun i j x c hx hc => ?_
      have hg : v'.ownBlock = some g := by rw [e1]; rfl
      have hcc := cellAt_eq hx hc (hzz x (List.mem_of_getElem? hx))
      show (if v'.ownBlock = some g then (if 0 + i * sz + j < (xs.length + ys.length) * sz then cellAt sz (xs ++ ys) (0 + i * sz + j) else none) else M g (0 + i * sz + j)) = some c
      have hjs : j < sz := by rw [← hzz x (List.mem_of_getElem? hx)]; exact (List.getElem?_eq_some_iff.1 hc).1
      have hil : i < xs.length + ys.length := by have := (List.getElem?_eq_some_iff.1 hx).1; simpa using this
      have hin : i * sz + j < (xs.length + ys.length) * sz := by
        have : (i + 1) * sz ≤ (xs.length + ys.length) * sz := Nat.mul_le_mul_right _ hil
        rw [Nat.add_mul] at this; omega
      rw [if_pos hg, Nat.zero_add, if_pos hin]
      exact hcc
end
end Go.AM
