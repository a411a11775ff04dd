/-
  The references, as walks.
-/
import Derived.Test.YtlalcoklkafnnaaHB
namespace Go.Proofs.Ytlalcoklkafnnaa
open Go Go.AW Go.Proofs
set_option maxRecDepth 10000

theorem rcut_ok (n m : Int) (h0 : 0 ≤ m) (h1 : m ≤ 1099511627776) : CallOK Try.prog 80 [ii n, ii m] [] (.ret (ii (cutI n m))) [] := by
  have e : cutI n m = max (0 - m) (min n m) := by unfold cutI; omega
  rw [e]
  refine CallOK.to (E := E) (fn := Try.f80) (g := .pure _) (by rfl) (by rfl) (by rfl) (fun _ _ => by rfl) (by decide +kernel) (by rfl) (by rfl) (by rfl) fun _ => ?_
  repeat' first | (refine goN hE 100 rfl ?_; conv => whnf) | exact rfl | refine And.intro (fun _ => ?_) (fun h => absurd (show true = false from h) (by decide)) | refine And.intro (fun h => absurd (show false = true from h) (by decide)) (fun _ => ?_) | refine And.intro (fun h => ?_) (fun h => absurd (of_decide_eq_false h) (by omega)) | refine And.intro (fun h => absurd (of_decide_eq_true h) (by omega)) (fun h => ?_) | refine And.intro (fun h => ?_) (fun h => ?_) | refine Or.inl (And.intro (And.intro (by simp only [kmin]; omega) (by simp only [kmax]; omega)) ?_) | refine Exists.intro _ (And.intro rfl ?_) | refine And.intro (by decide) ?_ | refine And.intro (by omega) ?_ | fail
theorem radd_ok (a b : V3) : CallOK Try.prog 52 [a.av, b.av] [] (.ret (vadd a b).av) [] := by
  have r1 := cutI_r a.a 1099511627776 (by decide)
  have r2 := cutI_r a.b 1099511627776 (by decide)
  have r3 := cutI_r a.c 1099511627776 (by decide)
  have r4 := cutI_r b.a 1099511627776 (by decide)
  have r5 := cutI_r b.b 1099511627776 (by decide)
  have r6 := cutI_r b.c 1099511627776 (by decide)
  refine CallOK.to (E := E) (fn := Try.f52) (g := .pure _) (by rfl) (by rfl) (by rfl) (fun _ _ => by rfl) (by decide +kernel) (by rfl) (by rfl) (by rfl) fun _ => ?_
  repeat' first
    | (refine goes hE 100 ?_; conv => whnf)
    | refine .pure _ [] (rcut_ok _ _ (by decide) (by decide)) ?_
    | exact rfl
    | refine And.intro (fun _ => ?_) (fun h => absurd (show true = false from h) (by decide))
    | refine And.intro (fun h => absurd (show false = true from h) (by decide)) (fun _ => ?_)
    | refine Or.inl (And.intro (And.intro (by simp only [kmin]; omega) (by simp only [kmax]; omega)) ?_)
    | refine Exists.intro _ (And.intro rfl ?_)
    | refine And.intro (by decide) ?_
theorem rmul_ok (a : V3) (n : Int) : CallOK Try.prog 55 [a.av, ii n] [] (.ret (vmul a n).av) [] := by
  have r1 := mul_r a.a n
  have r2 := mul_r a.b n
  have r3 := mul_r a.c n
  refine CallOK.to (E := E) (fn := Try.f55) (g := .pure _) (by rfl) (by rfl) (by rfl) (fun _ _ => by rfl) (by decide +kernel) (by rfl) (by rfl) (by rfl) fun _ => ?_
  repeat' first
    | (refine goes hE 100 ?_; conv => whnf)
    | refine .pure _ [] (rcut_ok _ _ (by decide) (by decide)) ?_
    | exact rfl
    | refine And.intro (fun _ => ?_) (fun h => absurd (show true = false from h) (by decide))
    | refine And.intro (fun h => absurd (show false = true from h) (by decide)) (fun _ => ?_)
    | refine Or.inl (And.intro (And.intro (by simp only [kmin]; omega) (by simp only [kmax]; omega)) ?_)
    | refine Exists.intro _ (And.intro rfl ?_)
    | refine And.intro (by decide) ?_
theorem rdem_ok (g : Gan) : CallOK Try.prog 20 [g.av] [] (.ret (dem g).av) [] := by
  refine CallOK.to (E := E) (fn := Try.f20) (g := .pure _) (by rfl) (by rfl) (by rfl) (fun _ _ => by rfl) (by decide +kernel) (by rfl) (by rfl) (by rfl) fun _ => ?_
  repeat' first | (refine goN hE 100 rfl ?_; conv => whnf) | refine .pure _ [] (rmul_ok g.need g.pods) ?_ | exact rfl | refine And.intro (fun _ => ?_) (fun h => absurd (show true = false from h) (by decide)) | refine And.intro (fun h => absurd (show false = true from h) (by decide)) (fun _ => ?_) | refine And.intro (fun h => ?_) (fun h => absurd (of_decide_eq_false h) (by omega)) | refine And.intro (fun h => absurd (of_decide_eq_true h) (by omega)) (fun h => ?_) | refine And.intro (fun h => ?_) (fun h => ?_) | refine Or.inl (And.intro (And.intro (by simp only [kmin]; omega) (by simp only [kmax]; omega)) ?_) | refine Exists.intro _ (And.intro rfl ?_) | refine And.intro (by decide) ?_ | refine And.intro (by omega) ?_ | fail
theorem rat3_any (l : List V3) (n : Int) (r : V3) (hr : atV l n = r) : CallOK Try.prog 54 [.slice 3 (vav l) .no, ii n] [] (.ret r.av) [] := by
  have hl : (vav l).length = l.length := by simp
  unfold atV at hr
  by_cases h1 : n < 0
  · rw [if_pos (decide_eq_true h1)] at hr
    subst hr
    refine CallOK.to (E := E) (fn := Try.f54) (g := .pure _) (by rfl) (by rfl) (by rfl) (fun _ _ => by rfl) (by decide +kernel) (by rfl) (by rfl) (by rfl) fun _ => ?_
    repeat' first | (refine goN hE 100 rfl ?_; conv => whnf) | exact rfl | refine And.intro (fun _ => ?_) (fun h => absurd (show true = false from h) (by decide)) | refine And.intro (fun h => absurd (show false = true from h) (by decide)) (fun _ => ?_) | refine And.intro (fun h => ?_) (fun h => absurd (of_decide_eq_false h) (by omega)) | refine And.intro (fun h => absurd (of_decide_eq_true h) (by omega)) (fun h => ?_) | refine And.intro (fun h => ?_) (fun h => ?_) | refine Or.inl (And.intro (And.intro (by simp only [kmin]; omega) (by simp only [kmax]; omega)) ?_) | refine Exists.intro _ (And.intro rfl ?_) | refine And.intro (by decide) ?_ | refine And.intro (by omega) ?_ | fail
  · rw [if_neg (by rw [decide_eq_false h1]; decide)] at hr
    by_cases h2 : n.toNat < l.length
    · rw [List.getElem?_eq_getElem h2] at hr
      have get := vav_get h2
      have hr : l[n.toNat] = r := hr
      rw [hr] at get
      have hn : n = (n.toNat : Int) := by omega
      refine CallOK.to (E := E) (fn := Try.f54) (g := .pure _) (by rfl) (by rfl) (by rfl) (fun _ _ => by rfl) (by decide +kernel) (by rfl) (by rfl) (by rfl) fun _ => ?_
      repeat' first | (refine goN hE 100 rfl ?_; conv => whnf) | refine Exists.intro n.toNat (And.intro hn ?_) | refine Exists.intro _ (And.intro get ?_) | exact rfl | refine And.intro (fun _ => ?_) (fun h => absurd (show true = false from h) (by decide)) | refine And.intro (fun h => absurd (show false = true from h) (by decide)) (fun _ => ?_) | refine And.intro (fun h => ?_) (fun h => absurd (of_decide_eq_false h) (by omega)) | refine And.intro (fun h => absurd (of_decide_eq_true h) (by omega)) (fun h => ?_) | refine And.intro (fun h => ?_) (fun h => ?_) | refine Or.inl (And.intro (And.intro (by simp only [kmin]; omega) (by simp only [kmax]; omega)) ?_) | refine Exists.intro _ (And.intro rfl ?_) | refine And.intro (by decide) ?_ | refine And.intro (by omega) ?_ | fail
    · rw [List.getElem?_eq_none (by omega)] at hr
      subst hr
      refine CallOK.to (E := E) (fn := Try.f54) (g := .pure _) (by rfl) (by rfl) (by rfl) (fun _ _ => by rfl) (by decide +kernel) (by rfl) (by rfl) (by rfl) fun _ => ?_
      repeat' first | (refine goN hE 100 rfl ?_; conv => whnf) | exact rfl | refine And.intro (fun _ => ?_) (fun h => absurd (show true = false from h) (by decide)) | refine And.intro (fun h => absurd (show false = true from h) (by decide)) (fun _ => ?_) | refine And.intro (fun h => ?_) (fun h => absurd (of_decide_eq_false h) (by omega)) | refine And.intro (fun h => absurd (of_decide_eq_true h) (by omega)) (fun h => ?_) | refine And.intro (fun h => ?_) (fun h => ?_) | refine Or.inl (And.intro (And.intro (by simp only [kmin]; omega) (by simp only [kmax]; omega)) ?_) | refine Exists.intro _ (And.intro rfl ?_) | refine And.intro (by decide) ?_ | refine And.intro (by omega) ?_ | fail
theorem rat3_ok (l : List V3) (n : Int) : CallOK Try.prog 54 [.slice 3 (vav l) .no, ii n] [] (.ret (atV l n).av) [] := rat3_any l n _ rfl
end Go.Proofs.Ytlalcoklkafnnaa

namespace Go.Proofs.Ytlalcoklkafnnaa
open Go Go.AW Go.Proofs

theorem any_find (n : Int) : ∀ (l : List Nod) (i : Nat), decide (0 ≤ findP n l i) = l.any fun x => x.p == n
  | [], i => by simp [findP]
  | x :: r, i => by
    unfold findP
    rw [List.any_cons]
    by_cases h : x.p = n
    · simp [h]
    · have := any_find n r (i + 1)
      simp [h, this]
theorem all_not_any (l : List Nod) (n : Int) : (l.all fun x => !(x.p == n)) = !(l.any fun x => x.p == n) := by
  induction l with
  | nil => rfl
  | cons x r ih => rw [List.all_cons, List.any_cons, ih]; cases (x.p == n) <;> simp
theorem rlB_eq (ns : List Nod) (t : Int) : rlB ns t = leafB ns t := by
  unfold rlB leafB
  rw [any_find, all_not_any]
  generalize (ns.any fun x => x.p == t) = b
  by_cases h1 : t < 0
  · have h2 : ¬ 0 ≤ t := by omega
    simp [h1, h2]
  · have h3 : 0 ≤ t := by omega
    by_cases h2 : (ns.length : Int) ≤ t
    · have h4 : ¬ t < (ns.length : Int) := by omega
      simp [h1, h3, h2, h4]
    · have h4 : t < (ns.length : Int) := by omega
      simp [h1, h3, h2, h4]
/-- from the root down to a node -/
def pathL (ns : List Nod) (n : Int) : List Int := (upL ns n).reverse
/-- the one that the path is read from above or below, if the steps change places -/
theorem foldl_rev {α β : Type} (f : β → α → β) (hf : ∀ b x y, f (f b x) y = f (f b y) x) : ∀ (l : List α) (b : β), l.reverse.foldl f b = l.foldl f b
  | [], b => rfl
  | x :: r, b => by
    have h : ∀ (l : List α) (b : β), l.foldl f (f b x) = f (l.foldl f b) x := fun l => by
      induction l with
      | nil => intro b; rfl
      | cons y r ih => intro b; rw [List.foldl_cons, List.foldl_cons, hf, ih]
    rw [List.reverse_cons, List.foldl_append, foldl_rev f hf r b]
    show f (r.foldl f b) x = r.foldl f (f b x)
    rw [h]

/- ---------- what each node uses ---------- -/
def addP (v : V3) (xs : List V3) (k : Int) : List V3 := xs.set k.toNat (vadd ((xs[k.toNat]?).getD V3.zero) v)
theorem addP_len (v : V3) (xs : List V3) (k : Int) : (addP v xs k).length = xs.length := by unfold addP; simp
theorem addP_get (v : V3) (xs : List V3) (k : Int) (j : Nat) : (addP v xs k)[j]? = if k.toNat = j then (xs[j]?).map fun x => vadd x v else xs[j]? := by
  unfold addP
  rw [List.getElem?_set]
  by_cases h : k.toNat = j
  · subst h
    rw [if_pos rfl, if_pos rfl]
    by_cases h2 : k.toNat < xs.length
    · rw [if_pos h2, List.getElem?_eq_getElem h2]
      rfl
    · rw [if_neg h2, List.getElem?_eq_none (by omega)]
      rfl
  · rw [if_neg h, if_neg h]
theorem addP_comm (v : V3) (xs : List V3) (a b : Int) : addP v (addP v xs a) b = addP v (addP v xs b) a := by
  refine List.ext_getElem? fun j => ?_
  rw [addP_get, addP_get, addP_get, addP_get]
  by_cases h1 : a.toNat = j <;> by_cases h2 : b.toNat = j <;> simp [h1, h2]
def rofX (c : Con) (xs : List V3) (x : Rn) : List V3 := if leafB c.ns x.g.ten = true then (pathL c.ns x.g.ten).foldl (addP (dem x.g)) xs else xs
def rofL (c : Con) (l : List Rn) : List V3 := l.foldl (rofX c) (List.replicate c.ns.length V3.zero)
theorem addP_fold_len (v : V3) : ∀ (ks : List Int) (xs : List V3), (ks.foldl (addP v) xs).length = xs.length
  | [], _ => rfl
  | k :: r, xs => by rw [List.foldl_cons, addP_fold_len v r, addP_len]
theorem rofX_len (c : Con) (xs : List V3) (x : Rn) : (rofX c xs x).length = xs.length := by
  unfold rofX
  split
  · exact addP_fold_len _ _ _
  · rfl
/-- keys are there once -/
def LedN (L : Led) : Prop := (L.map Prod.fst).Nodup
theorem lput_keys (n : Int) (v : V3) : ∀ (L : Led) (k : Int), k ∈ (lput L n v).map Prod.fst → k = n ∨ k ∈ L.map Prod.fst
  | [], k, h => by simp [lput] at h; exact .inl h
  | (j, w) :: r, k, h => by
    unfold lput at h
    split at h
    · rename_i hj
      simp only [List.map_cons, List.mem_cons] at h ⊢
      rcases h with rfl | h
      · exact .inl rfl
      · exact .inr (.inr h)
    · simp only [List.map_cons, List.mem_cons] at h ⊢
      rcases h with rfl | h
      · exact .inr (.inl rfl)
      · rcases lput_keys n v r k h with h | h
        · exact .inl h
        · exact .inr (.inr h)
theorem lput_n (n : Int) (v : V3) : ∀ (L : Led), LedN L → LedN (lput L n v)
  | [], _ => by simp [lput, LedN]
  | (j, w) :: r, h => by
    have h1 := (List.nodup_cons.1 h)
    unfold lput
    split
    · rename_i hj
      subst hj
      exact h
    · rename_i hj
      refine List.nodup_cons.2 ⟨fun hm => ?_, lput_n n v r h1.2⟩
      rcases lput_keys n v r _ hm with h | h
      · exact hj h
      · exact h1.1 h
theorem ldel_keys (n : Int) : ∀ (L : Led) (k : Int), k ∈ (ldel L n).map Prod.fst → k ∈ L.map Prod.fst
  | [], k, h => h
  | (j, w) :: r, k, h => by
    unfold ldel at h
    simp only [List.map_cons, List.mem_cons]
    split at h
    · exact .inr h
    · simp only [List.map_cons, List.mem_cons] at h
      rcases h with h | h
      · exact .inl h
      · exact .inr (ldel_keys n r k h)
theorem ldel_n (n : Int) : ∀ (L : Led), LedN L → LedN (ldel L n)
  | [], h => h
  | (j, w) :: r, h => by
    have h1 := (List.nodup_cons.1 h)
    unfold ldel
    split
    · exact h1.2
    · exact List.nodup_cons.2 ⟨fun hm => h1.1 (ldel_keys n r _ hm), ldel_n n r h1.2⟩
theorem lget_out : ∀ (L : Led) (n : Int), n ∉ L.map Prod.fst → lgetO L n = none
  | [], n, h => rfl
  | (j, w) :: r, n, h => by
    simp only [List.map_cons, List.mem_cons, not_or] at h
    unfold lgetO
    rw [if_neg (fun e => h.1 e.symm)]
    exact lget_out r n h.2
theorem lget_put (n : Int) (v : V3) (k : Int) : ∀ (L : Led), lgetO (lput L n v) k = if k = n then some v else lgetO L k
  | [] => by
    unfold lput lgetO lgetO
    by_cases h : k = n
    · rw [if_pos h, if_pos h.symm]
    · rw [if_neg h, if_neg (fun e => h e.symm)]
  | (j, w) :: r => by
    have ih := lget_put n v k r
    unfold lput
    split
    · rename_i hj
      subst hj
      unfold lgetO
      by_cases h : k = j
      · rw [if_pos h, if_pos h.symm]
      · rw [if_neg h, if_neg (fun e => h e.symm), if_neg (fun e => h e.symm)]
    · rename_i hj
      unfold lgetO
      rw [ih]
      by_cases h : j = k
      · rw [if_pos h, if_pos h, if_neg (fun e => hj (h.trans e))]
      · rw [if_neg h, if_neg h]
theorem lget_del (n : Int) (k : Int) : ∀ (L : Led), LedN L → lgetO (ldel L n) k = if k = n then none else lgetO L k
  | [], _ => by
    unfold ldel lgetO
    split <;> rfl
  | (j, w) :: r, h => by
    have h1 := (List.nodup_cons.1 h)
    have ih := lget_del n k r h1.2
    unfold ldel
    split
    · rename_i hj
      subst hj
      by_cases h2 : k = j
      · rw [if_pos h2, h2]
        exact lget_out r j h1.1
      · rw [if_neg h2]
        conv => rhs; unfold lgetO
        rw [if_neg (fun e => h2 e.symm)]
    · rename_i hj
      unfold lgetO
      rw [ih]
      by_cases h2 : j = k
      · rw [if_pos h2, if_pos h2, if_neg (fun e => hj (h2.trans e))]
      · rw [if_neg h2, if_neg h2]
theorem isZ_zero {v : V3} (h : isZ v = true) : v = V3.zero := by
  obtain ⟨a, b, c⟩ := v
  unfold isZ at h
  simp at h
  obtain ⟨rfl, rfl, rfl⟩ := h
  rfl
theorem lset_n {L : Led} (h : LedN L) (n : Int) (v : V3) : LedN (lset L n v) := by
  unfold lset
  split
  · exact ldel_n n L h
  · exact lput_n n v L h
theorem lset_get {L : Led} (h : LedN L) (n : Int) (v : V3) (k : Int) : lgetV (lset L n v) k = if k = n then v else lgetV L k := by
  unfold lset lgetV
  split
  · rename_i hz
    rw [lget_del n k L h]
    by_cases h2 : k = n
    · rw [if_pos h2, if_pos h2, isZ_zero hz]; rfl
    · rw [if_neg h2, if_neg h2]
  · rw [lget_put]
    by_cases h2 : k = n
    · rw [if_pos h2, if_pos h2]; rfl
    · rw [if_neg h2, if_neg h2]
theorem allL_get (n : Nat) (L : Led) (j : Nat) : (allL n L)[j]? = if j < n then some (lgetV L (j : Int)) else none := by
  unfold allL
  rw [List.getElem?_map]
  by_cases h : j < n
  · rw [if_pos h, List.getElem?_range h]; rfl
  · rw [if_neg h, List.getElem?_eq_none (by simp; omega)]; rfl
theorem chg_all {n : Nat} {L : Led} (h : LedN L) (v : V3) (k : Int) (h0 : 0 ≤ k) (hk : k.toNat < n) : allL n (chgS v L k) = addP v (allL n L) k := by
  refine List.ext_getElem? fun j => ?_
  rw [addP_get, allL_get, allL_get]
  unfold chgS
  rw [lset_get h]
  by_cases h1 : j < n
  · rw [if_pos h1, if_pos h1]
    by_cases h2 : k.toNat = j
    · rw [if_pos h2, if_pos (by omega)]
      have : k = (j : Int) := by omega
      rw [this]
      rfl
    · rw [if_neg h2, if_neg (by omega)]
  · rw [if_neg h1, if_neg h1]
    split <;> rfl
theorem chg_n {L : Led} (h : LedN L) (v : V3) (k : Int) : LedN (chgS v L k) := lset_n h _ _
theorem chg_fold {n : Nat} (v : V3) : ∀ (ks : List Int) (L : Led), LedN L → (∀ k ∈ ks, 0 ≤ k ∧ k.toNat < n) → allL n (ks.foldl (chgS v) L) = ks.foldl (addP v) (allL n L) ∧ LedN (ks.foldl (chgS v) L)
  | [], L, h, _ => ⟨rfl, h⟩
  | k :: r, L, h, hk => by
    have h1 := hk k (by simp)
    obtain ⟨e1, e2⟩ := chg_fold v r (chgS v L k) (chg_n h v k) fun x hx => hk x (by simp [hx])
    exact ⟨by rw [List.foldl_cons, e1, chg_all h v k h1.1 h1.2]; rfl, e2⟩
theorem upF_ok (ns : List Nod) : ∀ (f : Nat) (n x : Int), x ∈ upF ns f n → 0 ≤ x ∧ x.toNat < ns.length
  | 0, n, x, h => by simp [upF] at h
  | f + 1, n, x, h => by
    unfold upF at h
    split at h
    · rename_i h0
      have h0 := of_decide_eq_true h0
      split at h
      · rename_i h1
        split at h
        · simp at h; subst h; exact ⟨h0, h1⟩
        · rcases List.mem_cons.1 h with rfl | h
          · exact ⟨h0, h1⟩
          · exact upF_ok ns f _ x h
      · simp at h
    · simp at h
theorem ofStep_all (c : Con) (L : Led) (h : LedN L) (x : Rn) : allL c.ns.length (ofStep c L x) = rofX c (allL c.ns.length L) x ∧ LedN (ofStep c L x) := by
  unfold ofStep rofX pathL
  split
  · obtain ⟨e1, e2⟩ := chg_fold (n := c.ns.length) (dem x.g) (upL c.ns x.g.ten) L h fun k hk => upF_ok _ _ _ _ hk
    exact ⟨by rw [e1, foldl_rev _ (addP_comm _)], e2⟩
  · exact ⟨rfl, h⟩
theorem of_eq (c : Con) (l : List Rn) : rofL c l = ofL c l := by
  have key : ∀ (l : List Rn) (L : Led), LedN L → l.foldl (rofX c) (allL c.ns.length L) = allL c.ns.length (l.foldl (ofStep c) L) := fun l => by
    induction l with
    | nil => intro L _; rfl
    | cons x r ih =>
      intro L h
      obtain ⟨e1, e2⟩ := ofStep_all c L h x
      rw [List.foldl_cons, List.foldl_cons, ← e1, ih _ e2]
  have h0 : allL c.ns.length [] = List.replicate c.ns.length V3.zero := by
    refine List.ext_getElem? fun j => ?_
    rw [allL_get, List.getElem?_replicate]
    rfl
  unfold rofL ofL
  rw [← h0, key l [] (by simp [LedN])]
end Go.Proofs.Ytlalcoklkafnnaa

namespace Go.Proofs.Ytlalcoklkafnnaa
open Go Go.AW Go.Proofs
set_option maxRecDepth 10000

/- ---------- the path ---------- -/
noncomputable abbrev fRPath : Func := Try.f51
theorem rpath_loop (c : Con) (hc : c.sm) (R : List Int) : ∀ (f : Nat) (n : Int) (acc : List Int) (tk : Tk), (tk = .nil ∨ tk = .no) → (0 ≤ n → n.toNat < f) → (0 ≤ n → n.toNat < c.ns.length → acc.length + n.toNat < 1048577) → (upF c.ns f n).reverse ++ acc = R →
    To E fRPath (.pure (.ret (.slice 1 (iv R) .no))) (.head (stk fRPath 0) [(1, ii n), (2, .ref 0 0), (5, .slice 1 (iv acc) tk)] [.cells 39 c.cs]) := by
  have hlen : (nav c.ns).length = c.ns.length := by simp
  have hcn := hc.ns
  intro f
  induction f with
  | zero =>
    intro n acc tk ht hf hb hR
    have hla : (iv acc).length = acc.length := by simp
    have h1 : ¬ 0 ≤ n := fun h => by have := hf h; omega
    have hR : acc = R := hR
    subst hR
    rcases ht with rfl | rfl
    · refine goes hE 100 ?_
      conv => whnf
      repeat' first | (refine goN hE 100 rfl ?_; conv => whnf) | exact rfl | refine And.intro (fun _ => ?_) (fun h => absurd (show true = false from h) (by decide)) | refine And.intro (fun h => absurd (show false = true from h) (by decide)) (fun _ => ?_) | refine And.intro (fun h => ?_) (fun h => absurd (of_decide_eq_false h) (by omega)) | refine And.intro (fun h => absurd (of_decide_eq_true h) (by omega)) (fun h => ?_) | refine And.intro (fun h => ?_) (fun h => ?_) | refine Or.inl (And.intro (And.intro (by simp only [kmin]; omega) (by simp only [kmax]; omega)) ?_) | refine Exists.intro _ (And.intro rfl ?_) | refine And.intro (by decide) ?_ | refine And.intro (by omega) ?_ | fail
    · refine goes hE 100 ?_
      conv => whnf
      repeat' first | (refine goN hE 100 rfl ?_; conv => whnf) | exact rfl | refine And.intro (fun _ => ?_) (fun h => absurd (show true = false from h) (by decide)) | refine And.intro (fun h => absurd (show false = true from h) (by decide)) (fun _ => ?_) | refine And.intro (fun h => ?_) (fun h => absurd (of_decide_eq_false h) (by omega)) | refine And.intro (fun h => absurd (of_decide_eq_true h) (by omega)) (fun h => ?_) | refine And.intro (fun h => ?_) (fun h => ?_) | refine Or.inl (And.intro (And.intro (by simp only [kmin]; omega) (by simp only [kmax]; omega)) ?_) | refine Exists.intro _ (And.intro rfl ?_) | refine And.intro (by decide) ?_ | refine And.intro (by omega) ?_ | fail
  | succ f ih =>
    intro n acc tk ht hf hb hR
    have hla : (iv acc).length = acc.length := by simp
    unfold upF at hR
    rcases ht with rfl | rfl
    · by_cases h1 : 0 ≤ n
      · rw [if_pos (decide_eq_true h1)] at hR
        by_cases h2 : n.toNat < c.ns.length
        · rw [dif_pos h2] at hR
          have hb := hb h1 h2
          generalize hx : c.ns[n.toNat] = x at hR
          have get : (nav c.ns)[n.toNat]? = some x.av := (nav_get h2).trans (by rw [hx])
          have hn : n = (n.toNat : Int) := by omega
          by_cases h3 : n ≤ x.p
          · rw [if_pos (decide_eq_true h3)] at hR
            have hR : n :: acc = R := hR
            subst hR
            refine goes hE 100 ?_
            conv => whnf
            repeat' first | (refine goN hE 100 rfl ?_; conv => whnf) | refine Exists.intro n.toNat (And.intro hn ?_) | refine Exists.intro _ (And.intro get ?_) | refine And.intro (And.intro (by simp only [maxLen]; simp; omega) (by simp; omega)) ?_ | exact rfl | refine And.intro (fun _ => ?_) (fun h => absurd (show true = false from h) (by decide)) | refine And.intro (fun h => absurd (show false = true from h) (by decide)) (fun _ => ?_) | refine And.intro (fun h => ?_) (fun h => absurd (of_decide_eq_false h) (by omega)) | refine And.intro (fun h => absurd (of_decide_eq_true h) (by omega)) (fun h => ?_) | refine And.intro (fun h => ?_) (fun h => ?_) | refine Or.inl (And.intro (And.intro (by simp only [kmin]; omega) (by simp only [kmax]; omega)) ?_) | refine Exists.intro _ (And.intro rfl ?_) | refine And.intro (by decide) ?_ | refine And.intro (by omega) ?_ | fail
          · rw [if_neg (by rw [decide_eq_false h3]; decide), List.reverse_cons, List.append_assoc] at hR
            have next := ih x.p (n :: acc) .no (.inr rfl) (fun _ => by have := hf h1; omega) (fun _ _ => by simp; omega) hR
            refine goes hE 100 ?_
            conv => whnf
            repeat' first | (refine goN hE 100 rfl ?_; conv => whnf) | refine Exists.intro n.toNat (And.intro hn ?_) | refine Exists.intro _ (And.intro get ?_) | refine And.intro (And.intro (by simp only [maxLen]; simp; omega) (by simp; omega)) ?_ | exact rfl | refine And.intro (fun _ => ?_) (fun h => absurd (show true = false from h) (by decide)) | refine And.intro (fun h => absurd (show false = true from h) (by decide)) (fun _ => ?_) | refine And.intro (fun h => ?_) (fun h => absurd (of_decide_eq_false h) (by omega)) | refine And.intro (fun h => absurd (of_decide_eq_true h) (by omega)) (fun h => ?_) | refine And.intro (fun h => ?_) (fun h => ?_) | refine Or.inl (And.intro (And.intro (by simp only [kmin]; omega) (by simp only [kmax]; omega)) ?_) | refine Exists.intro _ (And.intro rfl ?_) | refine And.intro (by decide) ?_ | refine And.intro (by omega) ?_ | fail
            refine To.part [1, 2, 5] [0] rfl rfl rfl ?_
            exact next
        · rw [dif_neg h2] at hR
          have hR : acc = R := hR
          subst hR
          refine goes hE 100 ?_
          conv => whnf
          repeat' first | (refine goN hE 100 rfl ?_; conv => whnf) | exact rfl | refine And.intro (fun _ => ?_) (fun h => absurd (show true = false from h) (by decide)) | refine And.intro (fun h => absurd (show false = true from h) (by decide)) (fun _ => ?_) | refine And.intro (fun h => ?_) (fun h => absurd (of_decide_eq_false h) (by omega)) | refine And.intro (fun h => absurd (of_decide_eq_true h) (by omega)) (fun h => ?_) | refine And.intro (fun h => ?_) (fun h => ?_) | refine Or.inl (And.intro (And.intro (by simp only [kmin]; omega) (by simp only [kmax]; omega)) ?_) | refine Exists.intro _ (And.intro rfl ?_) | refine And.intro (by decide) ?_ | refine And.intro (by omega) ?_ | fail
      · rw [if_neg (by rw [decide_eq_false h1]; decide)] at hR
        have hR : acc = R := hR
        subst hR
        refine goes hE 100 ?_
        conv => whnf
        repeat' first | (refine goN hE 100 rfl ?_; conv => whnf) | exact rfl | refine And.intro (fun _ => ?_) (fun h => absurd (show true = false from h) (by decide)) | refine And.intro (fun h => absurd (show false = true from h) (by decide)) (fun _ => ?_) | refine And.intro (fun h => ?_) (fun h => absurd (of_decide_eq_false h) (by omega)) | refine And.intro (fun h => absurd (of_decide_eq_true h) (by omega)) (fun h => ?_) | refine And.intro (fun h => ?_) (fun h => ?_) | refine Or.inl (And.intro (And.intro (by simp only [kmin]; omega) (by simp only [kmax]; omega)) ?_) | refine Exists.intro _ (And.intro rfl ?_) | refine And.intro (by decide) ?_ | refine And.intro (by omega) ?_ | fail
    · by_cases h1 : 0 ≤ n
      · rw [if_pos (decide_eq_true h1)] at hR
        by_cases h2 : n.toNat < c.ns.length
        · rw [dif_pos h2] at hR
          have hb := hb h1 h2
          generalize hx : c.ns[n.toNat] = x at hR
          have get : (nav c.ns)[n.toNat]? = some x.av := (nav_get h2).trans (by rw [hx])
          have hn : n = (n.toNat : Int) := by omega
          by_cases h3 : n ≤ x.p
          · rw [if_pos (decide_eq_true h3)] at hR
            have hR : n :: acc = R := hR
            subst hR
            refine goes hE 100 ?_
            conv => whnf
            repeat' first | (refine goN hE 100 rfl ?_; conv => whnf) | refine Exists.intro n.toNat (And.intro hn ?_) | refine Exists.intro _ (And.intro get ?_) | refine And.intro (And.intro (by simp only [maxLen]; simp; omega) (by simp; omega)) ?_ | exact rfl | refine And.intro (fun _ => ?_) (fun h => absurd (show true = false from h) (by decide)) | refine And.intro (fun h => absurd (show false = true from h) (by decide)) (fun _ => ?_) | refine And.intro (fun h => ?_) (fun h => absurd (of_decide_eq_false h) (by omega)) | refine And.intro (fun h => absurd (of_decide_eq_true h) (by omega)) (fun h => ?_) | refine And.intro (fun h => ?_) (fun h => ?_) | refine Or.inl (And.intro (And.intro (by simp only [kmin]; omega) (by simp only [kmax]; omega)) ?_) | refine Exists.intro _ (And.intro rfl ?_) | refine And.intro (by decide) ?_ | refine And.intro (by omega) ?_ | fail
          · rw [if_neg (by rw [decide_eq_false h3]; decide), List.reverse_cons, List.append_assoc] at hR
            have next := ih x.p (n :: acc) .no (.inr rfl) (fun _ => by have := hf h1; omega) (fun _ _ => by simp; omega) hR
            refine goes hE 100 ?_
            conv => whnf
            repeat' first | (refine goN hE 100 rfl ?_; conv => whnf) | refine Exists.intro n.toNat (And.intro hn ?_) | refine Exists.intro _ (And.intro get ?_) | refine And.intro (And.intro (by simp only [maxLen]; simp; omega) (by simp; omega)) ?_ | exact rfl | refine And.intro (fun _ => ?_) (fun h => absurd (show true = false from h) (by decide)) | refine And.intro (fun h => absurd (show false = true from h) (by decide)) (fun _ => ?_) | refine And.intro (fun h => ?_) (fun h => absurd (of_decide_eq_false h) (by omega)) | refine And.intro (fun h => absurd (of_decide_eq_true h) (by omega)) (fun h => ?_) | refine And.intro (fun h => ?_) (fun h => ?_) | refine Or.inl (And.intro (And.intro (by simp only [kmin]; omega) (by simp only [kmax]; omega)) ?_) | refine Exists.intro _ (And.intro rfl ?_) | refine And.intro (by decide) ?_ | refine And.intro (by omega) ?_ | fail
            refine To.part [1, 2, 5] [0] rfl rfl rfl ?_
            exact next
        · rw [dif_neg h2] at hR
          have hR : acc = R := hR
          subst hR
          refine goes hE 100 ?_
          conv => whnf
          repeat' first | (refine goN hE 100 rfl ?_; conv => whnf) | exact rfl | refine And.intro (fun _ => ?_) (fun h => absurd (show true = false from h) (by decide)) | refine And.intro (fun h => absurd (show false = true from h) (by decide)) (fun _ => ?_) | refine And.intro (fun h => ?_) (fun h => absurd (of_decide_eq_false h) (by omega)) | refine And.intro (fun h => absurd (of_decide_eq_true h) (by omega)) (fun h => ?_) | refine And.intro (fun h => ?_) (fun h => ?_) | refine Or.inl (And.intro (And.intro (by simp only [kmin]; omega) (by simp only [kmax]; omega)) ?_) | refine Exists.intro _ (And.intro rfl ?_) | refine And.intro (by decide) ?_ | refine And.intro (by omega) ?_ | fail
      · rw [if_neg (by rw [decide_eq_false h1]; decide)] at hR
        have hR : acc = R := hR
        subst hR
        refine goes hE 100 ?_
        conv => whnf
        repeat' first | (refine goN hE 100 rfl ?_; conv => whnf) | exact rfl | refine And.intro (fun _ => ?_) (fun h => absurd (show true = false from h) (by decide)) | refine And.intro (fun h => absurd (show false = true from h) (by decide)) (fun _ => ?_) | refine And.intro (fun h => ?_) (fun h => absurd (of_decide_eq_false h) (by omega)) | refine And.intro (fun h => absurd (of_decide_eq_true h) (by omega)) (fun h => ?_) | refine And.intro (fun h => ?_) (fun h => ?_) | refine Or.inl (And.intro (And.intro (by simp only [kmin]; omega) (by simp only [kmax]; omega)) ?_) | refine Exists.intro _ (And.intro rfl ?_) | refine And.intro (by decide) ?_ | refine And.intro (by omega) ?_ | fail
theorem rpath_ok (c : Con) (hc : c.sm) (n : Int) : CallOK Try.prog 51 [c.av, ii n] [] (.ret (.slice 1 (iv (pathL c.ns n)) .no)) [] := by
  have hcn := hc.ns
  refine CallOK.to (E := E) (fn := Try.f51) (g := .pure _) (by rfl) (by rfl) (by rfl) (fun _ _ => by rfl) (by decide +kernel) (by rfl) (by rfl) (by rfl) fun _ => ?_
  refine goes hE 100 ?_
  conv => whnf
  refine To.part [1, 2, 5] [0] rfl rfl rfl ?_
  exact rpath_loop c hc _ (n.toNat + 1) n [] .nil (.inl rfl) (fun _ => by omega) (fun _ _ => by simp; omega) (by unfold pathL upL; simp)
theorem upF_len (ns : List Nod) : ∀ (f : Nat) (n : Int), (upF ns f n).length ≤ n.toNat + 1 ∧ (upF ns f n).length ≤ f
  | 0, n => by simp [upF]
  | f + 1, n => by
    unfold upF
    split
    · split
      · split
        · simp
        · rename_i h0 h1 h2
          have ih := upF_len ns f (ns[n.toNat]).p
          have h2 : ¬ n ≤ (ns[n.toNat]).p := fun h => h2 (decide_eq_true h)
          have h0 := of_decide_eq_true h0
          simp only [List.length_cons]
          refine ⟨?_, by omega⟩
          by_cases h4 : 0 ≤ (ns[n.toNat]).p
          · omega
          · have e : (upF ns f (ns[n.toNat]).p) = [] := by
              cases f with
              | zero => rfl
              | succ f =>
                unfold upF
                rw [if_neg (by rw [decide_eq_false h4]; decide)]
            rw [e]
            simp
      · simp
    · simp
theorem upL_len (ns : List Nod) (n : Int) : (upL ns n).length ≤ ns.length := by
  by_cases h : 0 ≤ n ∧ n.toNat < ns.length
  · have := (upF_len ns (n.toNat + 1) n).1
    unfold upL
    omega
  · unfold upL upF
    by_cases h0 : 0 ≤ n
    · rw [if_pos (decide_eq_true h0), dif_neg (by omega)]
      simp
    · rw [if_neg (by rw [decide_eq_false h0]; decide)]
      simp
theorem pathL_len (ns : List Nod) (n : Int) : (pathL ns n).length ≤ ns.length := by
  unfold pathL
  rw [List.length_reverse]
  exact upL_len ns n

end Go.Proofs.Ytlalcoklkafnnaa

namespace Go.Proofs.Ytlalcoklkafnnaa
open Go Go.AW Go.Proofs
set_option maxRecDepth 10000

/- ---------- Of ---------- -/
noncomputable abbrev fROf : Func := Try.f18
abbrev ofO (c : Con) (xs : List V3) : List AObj := [.cells 39 c.cs, .row 0 3 27 (vav xs)]
theorem rof_in (c : Con) (l : List Rn) (R : List V3) (x : Rn) (j : Nat) (hj : j < 1048576) (hx : (rav l)[j]? = some x.av) (p : List Int) (hpl : p.length ≤ 1048576) (hpo : ∀ k ∈ p, 0 ≤ k ∧ k.toNat < c.ns.length) :
    ∀ (m i : Nat) (xs : List V3), xs.length = c.ns.length → i + m = p.length →
      To E fROf (.pure (.ret (.slice 3 (vav R) .no))) (.head (stk fROf 0) [(1, .slice 14 (rav l) .no), (2, .ref 0 0), (5, .row 1 0), (6, ii ((j : Int) + 1))] (ofO c ((p.drop i).foldl (addP (dem x.g)) xs))) →
    To E fROf (.pure (.ret (.slice 3 (vav R) .no))) (.head (stk fROf 1) [(1, .slice 14 (rav l) .no), (2, .ref 0 0), (5, .row 1 0), (6, ii j), (7, .slice 1 (iv p) .no), (8, ii i)] (ofO c xs)) := by
  have hlen : (iv p).length = p.length := by simp
  have hll : (rav l).length = l.length := by simp
  intro m
  induction m with
  | zero =>
    intro i xs hxl hi hto
    rw [List.drop_eq_nil_of_le (by omega)] at hto
    refine goes hE 100 ?_
    conv => whnf
    refine And.intro (fun h => absurd (of_decide_eq_true h) (by omega)) (fun h => ?_)
    refine goes hE 100 ?_
    conv => whnf
    refine Or.inl (And.intro (And.intro (by simp only [kmin]; omega) (by simp only [kmax]; omega)) ?_)
    refine goes hE 100 ?_
    conv => whnf
    exact To.cut [1, 2, 5, 6] 2 rfl rfl rfl rfl hto
  | succ m ih =>
    intro i xs hxl hi hto
    have hlt : i < p.length := by omega
    obtain ⟨k0, k1⟩ := hpo _ (List.getElem_mem hlt)
    rw [List.drop_eq_getElem_cons hlt, List.foldl_cons] at hto
    have get := iv_get hlt
    generalize p[i] = k at hto get k0 k1
    have hn : k = (k.toNat : Int) := by omega
    have hvl : (vav xs).length = xs.length := by simp
    have next := ih (i + 1) (addP (dem x.g) xs k) (by rw [addP_len]; exact hxl) (by omega) hto
    have hl2 : k.toNat < xs.length := by omega
    have gv : (vav xs)[k.toNat]? = some xs[k.toNat].av := vav_get hl2
    unfold addP at next
    rw [List.getElem?_eq_getElem hl2, show ((some xs[k.toNat]).getD V3.zero) = xs[k.toNat] from rfl] at next
    generalize xs[k.toNat] = u at gv next
    have hd := rdem_ok x.g
    generalize dem x.g = d at hd next hto
    have ha := radd_ok u d
    generalize vadd u d = q at ha next
    unfold ofO at next
    rw [← vav_set] at next
    refine goes hE 100 ?_
    conv => whnf
    refine And.intro (fun h => ?_) (fun h => absurd (of_decide_eq_false h) (by omega))
    repeat' first
      | (refine goN hE 100 rfl ?_; conv => whnf)
      | refine Exists.intro i (And.intro rfl ?_)
      | refine Exists.intro k.toNat (And.intro hn ?_)
      | refine Exists.intro j (And.intro rfl ?_)
      | refine Exists.intro _ (And.intro get ?_)
      | refine Exists.intro _ (And.intro gv ?_)
      | refine Exists.intro _ (And.intro hx ?_)
      | refine .pure _ [] hd ?_
      | refine .pure _ [] ha ?_
      | refine And.intro (by omega) ?_
      | refine Or.inl (And.intro (And.intro (by simp only [kmin]; omega) (by simp only [kmax]; omega)) ?_)
      | fail
    exact To.cut [1, 2, 5, 6, 7, 8] 2 rfl rfl rfl rfl next
theorem rof_out (c : Con) (hc : c.sm) (l : List Rn) (hl : l.length ≤ 1048576) (R : List V3) : ∀ (m i : Nat) (xs : List V3), i + m = l.length → xs.length = c.ns.length → (l.drop i).foldl (rofX c) xs = R →
    To E fROf (.pure (.ret (.slice 3 (vav R) .no))) (.head (stk fROf 0) [(1, .slice 14 (rav l) .no), (2, .ref 0 0), (5, .row 1 0), (6, ii i)] (ofO c xs)) := by
  have hlen : (rav l).length = l.length := by simp
  have hcn := hc.ns
  intro m
  induction m with
  | zero =>
    intro i xs hi hx hR
    rw [List.drop_eq_nil_of_le (by omega)] at hR
    subst hR
    refine goes hE 100 ?_
    conv => whnf
    refine And.intro (fun h => absurd (of_decide_eq_true h) (by omega)) (fun h => ?_)
    repeat' first | (refine goN hE 100 rfl ?_; conv => whnf) | exact rfl | refine And.intro (fun _ => ?_) (fun h => absurd (show true = false from h) (by decide)) | refine And.intro (fun h => absurd (show false = true from h) (by decide)) (fun _ => ?_) | refine And.intro (fun h => ?_) (fun h => absurd (of_decide_eq_false h) (by omega)) | refine And.intro (fun h => absurd (of_decide_eq_true h) (by omega)) (fun h => ?_) | refine And.intro (fun h => ?_) (fun h => ?_) | refine Or.inl (And.intro (And.intro (by simp only [kmin]; omega) (by simp only [kmax]; omega)) ?_) | refine Exists.intro _ (And.intro rfl ?_) | refine And.intro (by decide) ?_ | refine And.intro (by omega) ?_ | fail
  | succ m ih =>
    intro i xs hi hx hR
    have hlt : i < l.length := by omega
    rw [List.drop_eq_getElem_cons hlt, List.foldl_cons] at hR
    have get : (rav l)[i]? = some l[i].av := rav_get hlt
    generalize l[i] = x at hR get
    have next := ih (i + 1) (rofX c xs x) (by omega) (by rw [rofX_len]; exact hx) hR
    have hlf := rleaf_ok c hc x.g.ten
    rw [rlB_eq] at hlf
    unfold rofX at next
    cases hq : leafB c.ns x.g.ten with
    | false =>
      rw [hq] at hlf
      rw [if_neg (by rw [hq]; decide)] at next
      refine goes hE 100 ?_
      conv => whnf
      refine And.intro (fun h => ?_) (fun h => absurd (of_decide_eq_false h) (by omega))
      repeat' first | (refine goN hE 100 rfl ?_; conv => whnf) | refine Exists.intro i (And.intro rfl ?_) | refine Exists.intro _ (And.intro get ?_) | refine .pure _ [] hlf ?_ | exact rfl | refine And.intro (fun _ => ?_) (fun h => absurd (show true = false from h) (by decide)) | refine And.intro (fun h => absurd (show false = true from h) (by decide)) (fun _ => ?_) | refine And.intro (fun h => ?_) (fun h => absurd (of_decide_eq_false h) (by omega)) | refine And.intro (fun h => absurd (of_decide_eq_true h) (by omega)) (fun h => ?_) | refine And.intro (fun h => ?_) (fun h => ?_) | refine Or.inl (And.intro (And.intro (by simp only [kmin]; omega) (by simp only [kmax]; omega)) ?_) | refine Exists.intro _ (And.intro rfl ?_) | refine And.intro (by decide) ?_ | refine And.intro (by omega) ?_ | fail
      exact To.cut [1, 2, 5, 6] 2 rfl rfl rfl rfl next
    | true =>
      rw [hq] at hlf
      rw [if_pos hq] at next
      have hp := rpath_ok c hc x.g.ten
      have hpl := pathL_len c.ns x.g.ten
      have hpo : ∀ k ∈ pathL c.ns x.g.ten, 0 ≤ k ∧ k.toNat < c.ns.length := fun k hk => upF_ok _ _ _ _ (List.mem_reverse.1 hk)
      generalize pathL c.ns x.g.ten = p at hp hpl hpo next
      have hin := rof_in c l R x i (by omega) get p (by omega) hpo p.length 0 xs hx (by omega) next
      refine goes hE 100 ?_
      conv => whnf
      refine And.intro (fun h => ?_) (fun h => absurd (of_decide_eq_false h) (by omega))
      repeat' first | (refine goN hE 100 rfl ?_; conv => whnf) | refine Exists.intro i (And.intro rfl ?_) | refine Exists.intro _ (And.intro get ?_) | refine .pure _ [] hlf ?_ | refine .pure _ [] hp ?_ | exact rfl | refine And.intro (fun _ => ?_) (fun h => absurd (show true = false from h) (by decide)) | refine And.intro (fun h => absurd (show false = true from h) (by decide)) (fun _ => ?_) | refine And.intro (fun h => ?_) (fun h => absurd (of_decide_eq_false h) (by omega)) | refine And.intro (fun h => absurd (of_decide_eq_true h) (by omega)) (fun h => ?_) | refine And.intro (fun h => ?_) (fun h => ?_) | refine Or.inl (And.intro (And.intro (by simp only [kmin]; omega) (by simp only [kmax]; omega)) ?_) | refine Exists.intro _ (And.intro rfl ?_) | refine And.intro (by decide) ?_ | refine And.intro (by omega) ?_ | fail
      exact To.cut [1, 2, 5, 6, 7, 8] 2 rfl rfl rfl rfl hin
theorem rof_ok (c : Con) (hc : c.sm) (l : List Rn) (hl : l.length ≤ 1048576) : CallOK Try.prog 18 [c.av, .slice 14 (rav l) .no] [] (.ret (.slice 3 (vav (ofL c l)) .no)) [] := by
  have h1 := hc.ns
  have hlen : (nav c.ns).length = c.ns.length := by simp
  rw [← of_eq]
  have next := rof_out c hc l hl (rofL c l) l.length 0 (List.replicate c.ns.length V3.zero) (by omega) (by simp) rfl
  unfold ofO at next
  rw [show vav (List.replicate c.ns.length V3.zero) = List.replicate c.ns.length (AVal.agg [ii 0, ii 0, ii 0]) from by simp [vav, V3.av, V3.zero, V3.cs]] at next
  generalize rofL c l = R at next
  refine CallOK.to (E := E) (fn := Try.f18) (g := .pure _) (by rfl) (by rfl) (by rfl) (fun _ _ => by rfl) (by decide +kernel) (by rfl) (by rfl) (by rfl) fun _ => ?_
  refine goes hE 100 ?_
  conv => whnf
  refine ⟨c.ns.length, by rw [hlen], ?_⟩
  refine goes hE 100 ?_
  conv => whnf
  refine ⟨⟨rfl, by omega, by simp only [maxLen]; omega⟩, ?_⟩
  refine goes hE 100 ?_
  conv => whnf
  exact To.cut [1, 2, 5, 6] 2 rfl rfl rfl rfl next

end Go.Proofs.Ytlalcoklkafnnaa

namespace Go.Proofs.Ytlalcoklkafnnaa
open Go Go.AW Go.Proofs
set_option maxRecDepth 10000

theorem gang_valid {ns : List Nod} {g : Gan} (h : gangI ns g ≠ 0) : validB g.need = true := by
  unfold gangI at h
  split at h
  · rename_i hb
    unfold gangB at hb
    simp only [Bool.and_eq_true] at hb
    exact hb.2.1
  · exact absurd rfl h
end Go.Proofs.Ytlalcoklkafnnaa
