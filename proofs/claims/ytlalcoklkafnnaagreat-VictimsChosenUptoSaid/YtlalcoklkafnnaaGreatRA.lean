/-
  The references, as walks.
-/
import Derived.Test.YtlalcoklkafnnaaGreatHB
namespace Go.Proofs.YtlalcoklkafnnaaGreat
open Go Go.AW Go.Proofs
set_option maxRecDepth 10000

theorem rcut_ok (n m : Int) (h0 : 0 ≤ m) (h1 : m ≤ 1099511627776) : CallOK Tryz.prog 70 [ii n, ii m] [] (.ret (ii (cutI n m))) [] := by
  have e : cutI n m = max (0 - m) (min n m) := by unfold cutI; omega
  rw [e]
  refine CallOK.to (E := E) (fn := Tryz.f70) (g := .pure _) (by rfl) (by rfl) (by rfl) (fun _ _ => by rfl) (by decide +kernel) (by rfl) (by rfl) (by rfl) fun _ => ?_
  repeat' first | (refine goN hE 100 rfl ?_; conv => whnf) | exact rfl | refine And.intro (fun _ => ?_) (fun h => absurd (show true = false from h) (by decide)) | refine And.intro (fun h => absurd (show false = true from h) (by decide)) (fun _ => ?_) | refine And.intro (fun h => ?_) (fun h => absurd (of_decide_eq_false h) (by omega)) | refine And.intro (fun h => absurd (of_decide_eq_true h) (by omega)) (fun h => ?_) | refine And.intro (fun h => ?_) (fun h => ?_) | refine Or.inl (And.intro (And.intro (by simp only [kmin]; omega) (by simp only [kmax]; omega)) ?_) | refine Exists.intro _ (And.intro rfl ?_) | refine And.intro (by decide) ?_ | refine And.intro (by omega) ?_ | fail
theorem radd_ok (a b : V3) : CallOK Tryz.prog 31 [a.av, b.av] [] (.ret (vadd a b).av) [] := by
  have r1 := cutI_r a.a 1099511627776 (by decide)
  have r2 := cutI_r a.b 1099511627776 (by decide)
  have r3 := cutI_r a.c 1099511627776 (by decide)
  have r4 := cutI_r b.a 1099511627776 (by decide)
  have r5 := cutI_r b.b 1099511627776 (by decide)
  have r6 := cutI_r b.c 1099511627776 (by decide)
  refine CallOK.to (E := E) (fn := Tryz.f31) (g := .pure _) (by rfl) (by rfl) (by rfl) (fun _ _ => by rfl) (by decide +kernel) (by rfl) (by rfl) (by rfl) fun _ => ?_
  repeat' first
    | (refine goes hE 100 ?_; conv => whnf)
    | refine .pure _ [] (rcut_ok _ _ (by decide) (by decide)) ?_
    | exact rfl
    | refine And.intro (fun _ => ?_) (fun h => absurd (show true = false from h) (by decide))
    | refine And.intro (fun h => absurd (show false = true from h) (by decide)) (fun _ => ?_)
    | refine Or.inl (And.intro (And.intro (by simp only [kmin]; omega) (by simp only [kmax]; omega)) ?_)
    | refine Exists.intro _ (And.intro rfl ?_)
    | refine And.intro (by decide) ?_
theorem rsub_ok (a b : V3) : CallOK Tryz.prog 68 [a.av, b.av] [] (.ret (vsub a b).av) [] := by
  have r1 := cutI_r a.a 1099511627776 (by decide)
  have r2 := cutI_r a.b 1099511627776 (by decide)
  have r3 := cutI_r a.c 1099511627776 (by decide)
  have r4 := cutI_r b.a 1099511627776 (by decide)
  have r5 := cutI_r b.b 1099511627776 (by decide)
  have r6 := cutI_r b.c 1099511627776 (by decide)
  refine CallOK.to (E := E) (fn := Tryz.f68) (g := .pure _) (by rfl) (by rfl) (by rfl) (fun _ _ => by rfl) (by decide +kernel) (by rfl) (by rfl) (by rfl) fun _ => ?_
  repeat' first
    | (refine goes hE 100 ?_; conv => whnf)
    | refine .pure _ [] (rcut_ok _ _ (by decide) (by decide)) ?_
    | exact rfl
    | refine And.intro (fun _ => ?_) (fun h => absurd (show true = false from h) (by decide))
    | refine And.intro (fun h => absurd (show false = true from h) (by decide)) (fun _ => ?_)
    | refine Or.inl (And.intro (And.intro (by simp only [kmin]; omega) (by simp only [kmax]; omega)) ?_)
    | refine Exists.intro _ (And.intro rfl ?_)
    | refine And.intro (by decide) ?_
theorem rmul_ok (a : V3) (n : Int) : CallOK Tryz.prog 93 [a.av, ii n] [] (.ret (vmul a n).av) [] := by
  have r1 := mul_r a.a n
  have r2 := mul_r a.b n
  have r3 := mul_r a.c n
  refine CallOK.to (E := E) (fn := Tryz.f93) (g := .pure _) (by rfl) (by rfl) (by rfl) (fun _ _ => by rfl) (by decide +kernel) (by rfl) (by rfl) (by rfl) fun _ => ?_
  repeat' first
    | (refine goes hE 100 ?_; conv => whnf)
    | refine .pure _ [] (rcut_ok _ _ (by decide) (by decide)) ?_
    | exact rfl
    | refine And.intro (fun _ => ?_) (fun h => absurd (show true = false from h) (by decide))
    | refine And.intro (fun h => absurd (show false = true from h) (by decide)) (fun _ => ?_)
    | refine Or.inl (And.intro (And.intro (by simp only [kmin]; omega) (by simp only [kmax]; omega)) ?_)
    | refine Exists.intro _ (And.intro rfl ?_)
    | refine And.intro (by decide) ?_
theorem rdem_ok (g : Gan) : CallOK Tryz.prog 51 [g.av] [] (.ret (dem g).av) [] := by
  refine CallOK.to (E := E) (fn := Tryz.f51) (g := .pure _) (by rfl) (by rfl) (by rfl) (fun _ _ => by rfl) (by decide +kernel) (by rfl) (by rfl) (by rfl) fun _ => ?_
  repeat' first | (refine goN hE 100 rfl ?_; conv => whnf) | refine .pure _ [] (rmul_ok g.need g.pods) ?_ | exact rfl | refine And.intro (fun _ => ?_) (fun h => absurd (show true = false from h) (by decide)) | refine And.intro (fun h => absurd (show false = true from h) (by decide)) (fun _ => ?_) | refine And.intro (fun h => ?_) (fun h => absurd (of_decide_eq_false h) (by omega)) | refine And.intro (fun h => absurd (of_decide_eq_true h) (by omega)) (fun h => ?_) | refine And.intro (fun h => ?_) (fun h => ?_) | refine Or.inl (And.intro (And.intro (by simp only [kmin]; omega) (by simp only [kmax]; omega)) ?_) | refine Exists.intro _ (And.intro rfl ?_) | refine And.intro (by decide) ?_ | refine And.intro (by omega) ?_ | fail
theorem rat3_any (l : List V3) (n : Int) (r : V3) (hr : atV l n = r) : CallOK Tryz.prog 92 [.slice 3 (vav l) .no, ii n] [] (.ret r.av) [] := by
  have hl : (vav l).length = l.length := by simp
  unfold atV at hr
  by_cases h1 : n < 0
  · rw [if_pos (decide_eq_true h1)] at hr
    subst hr
    refine CallOK.to (E := E) (fn := Tryz.f92) (g := .pure _) (by rfl) (by rfl) (by rfl) (fun _ _ => by rfl) (by decide +kernel) (by rfl) (by rfl) (by rfl) fun _ => ?_
    repeat' first | (refine goN hE 100 rfl ?_; conv => whnf) | exact rfl | refine And.intro (fun _ => ?_) (fun h => absurd (show true = false from h) (by decide)) | refine And.intro (fun h => absurd (show false = true from h) (by decide)) (fun _ => ?_) | refine And.intro (fun h => ?_) (fun h => absurd (of_decide_eq_false h) (by omega)) | refine And.intro (fun h => absurd (of_decide_eq_true h) (by omega)) (fun h => ?_) | refine And.intro (fun h => ?_) (fun h => ?_) | refine Or.inl (And.intro (And.intro (by simp only [kmin]; omega) (by simp only [kmax]; omega)) ?_) | refine Exists.intro _ (And.intro rfl ?_) | refine And.intro (by decide) ?_ | refine And.intro (by omega) ?_ | fail
  · rw [if_neg (by rw [decide_eq_false h1]; decide)] at hr
    by_cases h2 : n.toNat < l.length
    · rw [List.getElem?_eq_getElem h2] at hr
      have get := vav_get h2
      have hr : l[n.toNat] = r := hr
      rw [hr] at get
      have hn : n = (n.toNat : Int) := by omega
      refine CallOK.to (E := E) (fn := Tryz.f92) (g := .pure _) (by rfl) (by rfl) (by rfl) (fun _ _ => by rfl) (by decide +kernel) (by rfl) (by rfl) (by rfl) fun _ => ?_
      repeat' first | (refine goN hE 100 rfl ?_; conv => whnf) | refine Exists.intro n.toNat (And.intro hn ?_) | refine Exists.intro _ (And.intro get ?_) | exact rfl | refine And.intro (fun _ => ?_) (fun h => absurd (show true = false from h) (by decide)) | refine And.intro (fun h => absurd (show false = true from h) (by decide)) (fun _ => ?_) | refine And.intro (fun h => ?_) (fun h => absurd (of_decide_eq_false h) (by omega)) | refine And.intro (fun h => absurd (of_decide_eq_true h) (by omega)) (fun h => ?_) | refine And.intro (fun h => ?_) (fun h => ?_) | refine Or.inl (And.intro (And.intro (by simp only [kmin]; omega) (by simp only [kmax]; omega)) ?_) | refine Exists.intro _ (And.intro rfl ?_) | refine And.intro (by decide) ?_ | refine And.intro (by omega) ?_ | fail
    · rw [List.getElem?_eq_none (by omega)] at hr
      subst hr
      refine CallOK.to (E := E) (fn := Tryz.f92) (g := .pure _) (by rfl) (by rfl) (by rfl) (fun _ _ => by rfl) (by decide +kernel) (by rfl) (by rfl) (by rfl) fun _ => ?_
      repeat' first | (refine goN hE 100 rfl ?_; conv => whnf) | exact rfl | refine And.intro (fun _ => ?_) (fun h => absurd (show true = false from h) (by decide)) | refine And.intro (fun h => absurd (show false = true from h) (by decide)) (fun _ => ?_) | refine And.intro (fun h => ?_) (fun h => absurd (of_decide_eq_false h) (by omega)) | refine And.intro (fun h => absurd (of_decide_eq_true h) (by omega)) (fun h => ?_) | refine And.intro (fun h => ?_) (fun h => ?_) | refine Or.inl (And.intro (And.intro (by simp only [kmin]; omega) (by simp only [kmax]; omega)) ?_) | refine Exists.intro _ (And.intro rfl ?_) | refine And.intro (by decide) ?_ | refine And.intro (by omega) ?_ | fail
theorem rat3_ok (l : List V3) (n : Int) : CallOK Tryz.prog 92 [.slice 3 (vav l) .no, ii n] [] (.ret (atV l n).av) [] := rat3_any l n _ rfl
end Go.Proofs.YtlalcoklkafnnaaGreat

namespace Go.Proofs.YtlalcoklkafnnaaGreat
open Go Go.AW Go.Proofs

theorem any_find (n : Int) : ∀ (l : List Nod) (i : Nat), decide (0 ≤ findP n l i) = l.any fun x => x.p == n
  | [], i => by simp [findP]
  | x :: r, i => by
    unfold findP
    rw [List.any_cons]
    by_cases h : x.p = n
    · simp [h]
    · have := any_find n r (i + 1)
      simp [h, this]
theorem all_not_any (l : List Nod) (n : Int) : (l.all fun x => !(x.p == n)) = !(l.any fun x => x.p == n) := by
  induction l with
  | nil => rfl
  | cons x r ih => rw [List.all_cons, List.any_cons, ih]; cases (x.p == n) <;> simp
theorem rlB_eq (ns : List Nod) (t : Int) : rlB ns t = leafB ns t := by
  unfold rlB leafB
  rw [any_find, all_not_any]
  generalize (ns.any fun x => x.p == t) = b
  by_cases h1 : t < 0
  · have h2 : ¬ 0 ≤ t := by omega
    simp [h1, h2]
  · have h3 : 0 ≤ t := by omega
    by_cases h2 : (ns.length : Int) ≤ t
    · have h4 : ¬ t < (ns.length : Int) := by omega
      simp [h1, h3, h2, h4]
    · have h4 : t < (ns.length : Int) := by omega
      simp [h1, h3, h2, h4]
/-- from the root down to a node -/
def pathL (ns : List Nod) (n : Int) : List Int := (upL ns n).reverse
/-- the one that the path is read from above or below, if the steps change places -/
theorem foldl_rev {α β : Type} (f : β → α → β) (hf : ∀ b x y, f (f b x) y = f (f b y) x) : ∀ (l : List α) (b : β), l.reverse.foldl f b = l.foldl f b
  | [], b => rfl
  | x :: r, b => by
    have h : ∀ (l : List α) (b : β), l.foldl f (f b x) = f (l.foldl f b) x := fun l => by
      induction l with
      | nil => intro b; rfl
      | cons y r ih => intro b; rw [List.foldl_cons, List.foldl_cons, hf, ih]
    rw [List.reverse_cons, List.foldl_append, foldl_rev f hf r b]
    show f (r.foldl f b) x = r.foldl f (f b x)
    rw [h]

/- ---------- what each node uses ---------- -/
def addP (v : V3) (xs : List V3) (k : Int) : List V3 := xs.set k.toNat (vadd ((xs[k.toNat]?).getD V3.zero) v)
theorem addP_len (v : V3) (xs : List V3) (k : Int) : (addP v xs k).length = xs.length := by unfold addP; simp
theorem addP_get (v : V3) (xs : List V3) (k : Int) (j : Nat) : (addP v xs k)[j]? = if k.toNat = j then (xs[j]?).map fun x => vadd x v else xs[j]? := by
  unfold addP
  rw [List.getElem?_set]
  by_cases h : k.toNat = j
  · subst h
    rw [if_pos rfl, if_pos rfl]
    by_cases h2 : k.toNat < xs.length
    · rw [if_pos h2, List.getElem?_eq_getElem h2]
      rfl
    · rw [if_neg h2, List.getElem?_eq_none (by omega)]
      rfl
  · rw [if_neg h, if_neg h]
theorem addP_comm (v : V3) (xs : List V3) (a b : Int) : addP v (addP v xs a) b = addP v (addP v xs b) a := by
  refine List.ext_getElem? fun j => ?_
  rw [addP_get, addP_get, addP_get, addP_get]
  by_cases h1 : a.toNat = j <;> by_cases h2 : b.toNat = j <;> simp [h1, h2]
def rofX (c : Con) (xs : List V3) (x : Rn) : List V3 := if leafB c.ns x.g.ten = true then (pathL c.ns x.g.ten).foldl (addP (dem x.g)) xs else xs
def rofL (c : Con) (l : List Rn) : List V3 := l.foldl (rofX c) (List.replicate c.ns.length V3.zero)
theorem addP_fold_len (v : V3) : ∀ (ks : List Int) (xs : List V3), (ks.foldl (addP v) xs).length = xs.length
  | [], _ => rfl
  | k :: r, xs => by rw [List.foldl_cons, addP_fold_len v r, addP_len]
theorem rofX_len (c : Con) (xs : List V3) (x : Rn) : (rofX c xs x).length = xs.length := by
  unfold rofX
  split
  · exact addP_fold_len _ _ _
  · rfl
/-- keys are there once -/
def LedN (L : Led) : Prop := (L.map Prod.fst).Nodup
theorem lput_keys (n : Int) (v : V3) : ∀ (L : Led) (k : Int), k ∈ (lput L n v).map Prod.fst → k = n ∨ k ∈ L.map Prod.fst
  | [], k, h => by simp [lput] at h; exact .inl h
  | (j, w) :: r, k, h => by
    unfold lput at h
    split at h
    · rename_i hj
      simp only [List.map_cons, List.mem_cons] at h ⊢
      rcases h with rfl | h
      · exact .inl rfl
      · exact .inr (.inr h)
    · simp only [List.map_cons, List.mem_cons] at h ⊢
      rcases h with rfl | h
      · exact .inr (.inl rfl)
      · rcases lput_keys n v r k h with h | h
        · exact .inl h
        · exact .inr (.inr h)
theorem lput_n (n : Int) (v : V3) : ∀ (L : Led), LedN L → LedN (lput L n v)
  | [], _ => by simp [lput, LedN]
  | (j, w) :: r, h => by
    have h1 := (List.nodup_cons.1 h)
    unfold lput
    split
    · rename_i hj
      subst hj
      exact h
    · rename_i hj
      refine List.nodup_cons.2 ⟨fun hm => ?_, lput_n n v r h1.2⟩
      rcases lput_keys n v r _ hm with h | h
      · exact hj h
      · exact h1.1 h
theorem ldel_keys (n : Int) : ∀ (L : Led) (k : Int), k ∈ (ldel L n).map Prod.fst → k ∈ L.map Prod.fst
  | [], k, h => h
  | (j, w) :: r, k, h => by
    unfold ldel at h
    simp only [List.map_cons, List.mem_cons]
    split at h
    · exact .inr h
    · simp only [List.map_cons, List.mem_cons] at h
      rcases h with h | h
      · exact .inl h
      · exact .inr (ldel_keys n r k h)
theorem ldel_n (n : Int) : ∀ (L : Led), LedN L → LedN (ldel L n)
  | [], h => h
  | (j, w) :: r, h => by
    have h1 := (List.nodup_cons.1 h)
    unfold ldel
    split
    · exact h1.2
    · exact List.nodup_cons.2 ⟨fun hm => h1.1 (ldel_keys n r _ hm), ldel_n n r h1.2⟩
theorem lget_out : ∀ (L : Led) (n : Int), n ∉ L.map Prod.fst → lgetO L n = none
  | [], n, h => rfl
  | (j, w) :: r, n, h => by
    simp only [List.map_cons, List.mem_cons, not_or] at h
    unfold lgetO
    rw [if_neg (fun e => h.1 e.symm)]
    exact lget_out r n h.2
theorem lget_put (n : Int) (v : V3) (k : Int) : ∀ (L : Led), lgetO (lput L n v) k = if k = n then some v else lgetO L k
  | [] => by
    unfold lput lgetO lgetO
    by_cases h : k = n
    · rw [if_pos h, if_pos h.symm]
    · rw [if_neg h, if_neg (fun e => h e.symm)]
  | (j, w) :: r => by
    have ih := lget_put n v k r
    unfold lput
    split
    · rename_i hj
      subst hj
      unfold lgetO
      by_cases h : k = j
      · rw [if_pos h, if_pos h.symm]
      · rw [if_neg h, if_neg (fun e => h e.symm), if_neg (fun e => h e.symm)]
    · rename_i hj
      unfold lgetO
      rw [ih]
      by_cases h : j = k
      · rw [if_pos h, if_pos h, if_neg (fun e => hj (h.trans e))]
      · rw [if_neg h, if_neg h]
theorem lget_del (n : Int) (k : Int) : ∀ (L : Led), LedN L → lgetO (ldel L n) k = if k = n then none else lgetO L k
  | [], _ => by
    unfold ldel lgetO
    split <;> rfl
  | (j, w) :: r, h => by
    have h1 := (List.nodup_cons.1 h)
    have ih := lget_del n k r h1.2
    unfold ldel
    split
    · rename_i hj
      subst hj
      by_cases h2 : k = j
      · rw [if_pos h2, h2]
        exact lget_out r j h1.1
      · rw [if_neg h2]
        conv => rhs; unfold lgetO
        rw [if_neg (fun e => h2 e.symm)]
    · rename_i hj
      unfold lgetO
      rw [ih]
      by_cases h2 : j = k
      · rw [if_pos h2, if_pos h2, if_neg (fun e => hj (h2.trans e))]
      · rw [if_neg h2, if_neg h2]
theorem isZ_zero {v : V3} (h : isZ v = true) : v = V3.zero := by
  obtain ⟨a, b, c⟩ := v
  unfold isZ at h
  simp at h
  obtain ⟨rfl, rfl, rfl⟩ := h
  rfl
theorem lset_n {L : Led} (h : LedN L) (n : Int) (v : V3) : LedN (lset L n v) := by
  unfold lset
  split
  · exact ldel_n n L h
  · exact lput_n n v L h
theorem lset_get {L : Led} (h : LedN L) (n : Int) (v : V3) (k : Int) : lgetV (lset L n v) k = if k = n then v else lgetV L k := by
  unfold lset lgetV
  split
  · rename_i hz
    rw [lget_del n k L h]
    by_cases h2 : k = n
    · rw [if_pos h2, if_pos h2, isZ_zero hz]; rfl
    · rw [if_neg h2, if_neg h2]
  · rw [lget_put]
    by_cases h2 : k = n
    · rw [if_pos h2, if_pos h2]; rfl
    · rw [if_neg h2, if_neg h2]
theorem allL_get (n : Nat) (L : Led) (j : Nat) : (allL n L)[j]? = if j < n then some (lgetV L (j : Int)) else none := by
  unfold allL
  rw [List.getElem?_map]
  by_cases h : j < n
  · rw [if_pos h, List.getElem?_range h]; rfl
  · rw [if_neg h, List.getElem?_eq_none (by simp; omega)]; rfl
theorem chg_all {n : Nat} {L : Led} (h : LedN L) (v : V3) (k : Int) (h0 : 0 ≤ k) (hk : k.toNat < n) : allL n (chgS v L k) = addP v (allL n L) k := by
  refine List.ext_getElem? fun j => ?_
  rw [addP_get, allL_get, allL_get]
  unfold chgS
  rw [lset_get h]
  by_cases h1 : j < n
  · rw [if_pos h1, if_pos h1]
    by_cases h2 : k.toNat = j
    · rw [if_pos h2, if_pos (by omega)]
      have : k = (j : Int) := by omega
      rw [this]
      rfl
    · rw [if_neg h2, if_neg (by omega)]
  · rw [if_neg h1, if_neg h1]
    split <;> rfl
theorem chg_n {L : Led} (h : LedN L) (v : V3) (k : Int) : LedN (chgS v L k) := lset_n h _ _
theorem chg_fold {n : Nat} (v : V3) : ∀ (ks : List Int) (L : Led), LedN L → (∀ k ∈ ks, 0 ≤ k ∧ k.toNat < n) → allL n (ks.foldl (chgS v) L) = ks.foldl (addP v) (allL n L) ∧ LedN (ks.foldl (chgS v) L)
  | [], L, h, _ => ⟨rfl, h⟩
  | k :: r, L, h, hk => by
    have h1 := hk k (by simp)
    obtain ⟨e1, e2⟩ := chg_fold v r (chgS v L k) (chg_n h v k) fun x hx => hk x (by simp [hx])
    exact ⟨by rw [List.foldl_cons, e1, chg_all h v k h1.1 h1.2]; rfl, e2⟩
theorem upF_ok (ns : List Nod) : ∀ (f : Nat) (n x : Int), x ∈ upF ns f n → 0 ≤ x ∧ x.toNat < ns.length
  | 0, n, x, h => by simp [upF] at h
  | f + 1, n, x, h => by
    unfold upF at h
    split at h
    · rename_i h0
      have h0 := of_decide_eq_true h0
      split at h
      · rename_i h1
        split at h
        · simp at h; subst h; exact ⟨h0, h1⟩
        · rcases List.mem_cons.1 h with rfl | h
          · exact ⟨h0, h1⟩
          · exact upF_ok ns f _ x h
      · simp at h
    · simp at h
theorem ofStep_all (c : Con) (L : Led) (h : LedN L) (x : Rn) : allL c.ns.length (ofStep c L x) = rofX c (allL c.ns.length L) x ∧ LedN (ofStep c L x) := by
  unfold ofStep rofX pathL
  split
  · obtain ⟨e1, e2⟩ := chg_fold (n := c.ns.length) (dem x.g) (upL c.ns x.g.ten) L h fun k hk => upF_ok _ _ _ _ hk
    exact ⟨by rw [e1, foldl_rev _ (addP_comm _)], e2⟩
  · exact ⟨rfl, h⟩
theorem of_eq (c : Con) (l : List Rn) : rofL c l = ofL c l := by
  have key : ∀ (l : List Rn) (L : Led), LedN L → l.foldl (rofX c) (allL c.ns.length L) = allL c.ns.length (l.foldl (ofStep c) L) := fun l => by
    induction l with
    | nil => intro L _; rfl
    | cons x r ih =>
      intro L h
      obtain ⟨e1, e2⟩ := ofStep_all c L h x
      rw [List.foldl_cons, List.foldl_cons, ← e1, ih _ e2]
  have h0 : allL c.ns.length [] = List.replicate c.ns.length V3.zero := by
    refine List.ext_getElem? fun j => ?_
    rw [allL_get, List.getElem?_replicate]
    rfl
  unfold rofL ofL
  rw [← h0, key l [] (by simp [LedN])]
end Go.Proofs.YtlalcoklkafnnaaGreat

namespace Go.Proofs.YtlalcoklkafnnaaGreat
open Go Go.AW Go.Proofs
set_option maxRecDepth 10000

noncomputable abbrev fRLvs : Func := Tryz.f135
theorem rlvs_loop (c : Con) (hc : c.sm) (R : List Int) : ∀ (m i : Nat) (acc : List Int), i + m = c.ns.length → acc.length ≤ i → acc ++ lvF c.ns m i = R →
    To (Eo [3] []) fRLvs (.pure (.ret (.slice 1 (iv R) .no))) (.head (stk fRLvs 0) [(1, .ref 0 0), (3, .slice 1 (iv acc) (.own 1 0)), (4, .int .i64 i)] [.cells 25 c.cs, .tail 0 1 3]) := by
  have hlen : (nav c.ns).length = c.ns.length := by simp
  have h1 := hc.ns
  intro m
  induction m with
  | zero =>
    intro i acc hi ha hR
    unfold lvF at hR
    rw [List.append_nil] at hR
    subst hR
    refine goes (hEo [3] []) 100 ?_
    conv => whnf
    refine And.intro (fun h => absurd (of_decide_eq_true h) (by omega)) (fun h => ?_)
    repeat' first | (refine goN (hEo [3] []) 100 rfl ?_; conv => whnf) | exact rfl | refine And.intro (fun _ => ?_) (fun h => absurd (show true = false from h) (by decide)) | refine And.intro (fun h => absurd (show false = true from h) (by decide)) (fun _ => ?_) | refine And.intro (fun h => ?_) (fun h => absurd (of_decide_eq_false h) (by omega)) | refine And.intro (fun h => absurd (of_decide_eq_true h) (by omega)) (fun h => ?_) | refine And.intro (fun h => ?_) (fun h => ?_) | refine Or.inl (And.intro (And.intro (by simp only [kmin]; omega) (by simp only [kmax]; omega)) ?_) | refine Exists.intro _ (And.intro rfl ?_) | refine And.intro (by decide) ?_ | refine And.intro (by omega) ?_ | fail
  | succ m ih =>
    intro i acc hi ha hR
    have hla : (iv acc).length = acc.length := by simp
    have hlf := rleaf_ok c hc i
    rw [rlB_eq] at hlf
    unfold lvF at hR
    refine goes (hEo [3] []) 100 ?_
    conv => whnf
    refine And.intro (fun h => ?_) (fun h => absurd (of_decide_eq_false h) (by omega))
    refine goes (hEo [3] []) 100 ?_
    conv => whnf
    refine .pure _ [] hlf ?_
    refine goes (hEo [3] []) 100 ?_
    conv => whnf
    refine And.intro (fun h2 => ?_) (fun h2 => ?_)
    · have h2 : leafB c.ns (i : Int) = true := h2
      rw [if_pos h2] at hR
      have next := ih (i + 1) (acc ++ [(i : Int)]) (by omega) (by simp; omega) (by rw [List.append_assoc]; exact hR)
      have e : iv (acc ++ [(i : Int)]) = iv acc ++ [ii i] := by simp
      rw [e] at next
      refine goes (hEo [3] []) 100 ?_
      conv => whnf
      refine And.intro (And.intro (by simp only [maxLen]; simp; omega) (by simp; omega)) ?_
      refine goes (hEo [3] []) 100 ?_
      conv => whnf
      refine Or.inl (And.intro (And.intro (by simp only [kmin]; omega) (by simp only [kmax]; omega)) ?_)
      refine goes (hEo [3] []) 100 ?_
      conv => whnf
      refine To.part [1, 3, 4] [0, 1] rfl rfl rfl ?_
      exact next
    · have h2 : leafB c.ns (i : Int) = false := h2
      rw [if_neg (by rw [h2]; decide)] at hR
      have next := ih (i + 1) acc (by omega) (by omega) hR
      refine goes (hEo [3] []) 100 ?_
      conv => whnf
      refine Or.inl (And.intro (And.intro (by simp only [kmin]; omega) (by simp only [kmax]; omega)) ?_)
      refine goes (hEo [3] []) 100 ?_
      conv => whnf
      refine To.part [1, 3, 4] [0, 1] rfl rfl rfl ?_
      exact next
theorem rlvs_ok (c : Con) (hc : c.sm) : CallOK Tryz.prog 135 [c.av] [] (.ret (.slice 1 (iv (leavesL c.ns)) .no)) [] := by
  refine CallOK.to (E := (Eo [3] [])) (fn := Tryz.f135) (g := .pure _) (by rfl) (by rfl) (by rfl) (fun _ _ => by rfl) (by decide +kernel) (by rfl) (by rfl) (by rfl) fun _ => ?_
  refine goes (hEo [3] []) 100 ?_
  conv => whnf
  refine To.part [1, 3, 4] [0, 1] rfl rfl rfl ?_
  exact rlvs_loop c hc _ c.ns.length 0 [] (by omega) (by simp) rfl

/- ---------- the path ---------- -/
noncomputable abbrev fRPath : Func := Tryz.f29
theorem rpath_loop (c : Con) (hc : c.sm) (R : List Int) : ∀ (f : Nat) (n : Int) (acc : List Int) (tk : Tk), (tk = .nil ∨ tk = .no) → (0 ≤ n → n.toNat < f) → (0 ≤ n → n.toNat < c.ns.length → acc.length + n.toNat < 1048577) → (upF c.ns f n).reverse ++ acc = R →
    To E fRPath (.pure (.ret (.slice 1 (iv R) .no))) (.head (stk fRPath 0) [(1, ii n), (2, .ref 0 0), (5, .slice 1 (iv acc) tk)] [.cells 25 c.cs]) := by
  have hlen : (nav c.ns).length = c.ns.length := by simp
  have hcn := hc.ns
  intro f
  induction f with
  | zero =>
    intro n acc tk ht hf hb hR
    have hla : (iv acc).length = acc.length := by simp
    have h1 : ¬ 0 ≤ n := fun h => by have := hf h; omega
    have hR : acc = R := hR
    subst hR
    rcases ht with rfl | rfl
    · refine goes hE 100 ?_
      conv => whnf
      repeat' first | (refine goN hE 100 rfl ?_; conv => whnf) | exact rfl | refine And.intro (fun _ => ?_) (fun h => absurd (show true = false from h) (by decide)) | refine And.intro (fun h => absurd (show false = true from h) (by decide)) (fun _ => ?_) | refine And.intro (fun h => ?_) (fun h => absurd (of_decide_eq_false h) (by omega)) | refine And.intro (fun h => absurd (of_decide_eq_true h) (by omega)) (fun h => ?_) | refine And.intro (fun h => ?_) (fun h => ?_) | refine Or.inl (And.intro (And.intro (by simp only [kmin]; omega) (by simp only [kmax]; omega)) ?_) | refine Exists.intro _ (And.intro rfl ?_) | refine And.intro (by decide) ?_ | refine And.intro (by omega) ?_ | fail
    · refine goes hE 100 ?_
      conv => whnf
      repeat' first | (refine goN hE 100 rfl ?_; conv => whnf) | exact rfl | refine And.intro (fun _ => ?_) (fun h => absurd (show true = false from h) (by decide)) | refine And.intro (fun h => absurd (show false = true from h) (by decide)) (fun _ => ?_) | refine And.intro (fun h => ?_) (fun h => absurd (of_decide_eq_false h) (by omega)) | refine And.intro (fun h => absurd (of_decide_eq_true h) (by omega)) (fun h => ?_) | refine And.intro (fun h => ?_) (fun h => ?_) | refine Or.inl (And.intro (And.intro (by simp only [kmin]; omega) (by simp only [kmax]; omega)) ?_) | refine Exists.intro _ (And.intro rfl ?_) | refine And.intro (by decide) ?_ | refine And.intro (by omega) ?_ | fail
  | succ f ih =>
    intro n acc tk ht hf hb hR
    have hla : (iv acc).length = acc.length := by simp
    unfold upF at hR
    rcases ht with rfl | rfl
    · by_cases h1 : 0 ≤ n
      · rw [if_pos (decide_eq_true h1)] at hR
        by_cases h2 : n.toNat < c.ns.length
        · rw [dif_pos h2] at hR
          have hb := hb h1 h2
          generalize hx : c.ns[n.toNat] = x at hR
          have get : (nav c.ns)[n.toNat]? = some x.av := (nav_get h2).trans (by rw [hx])
          have hn : n = (n.toNat : Int) := by omega
          by_cases h3 : n ≤ x.p
          · rw [if_pos (decide_eq_true h3)] at hR
            have hR : n :: acc = R := hR
            subst hR
            refine goes hE 100 ?_
            conv => whnf
            repeat' first | (refine goN hE 100 rfl ?_; conv => whnf) | refine Exists.intro n.toNat (And.intro hn ?_) | refine Exists.intro _ (And.intro get ?_) | refine And.intro (And.intro (by simp only [maxLen]; simp; omega) (by simp; omega)) ?_ | exact rfl | refine And.intro (fun _ => ?_) (fun h => absurd (show true = false from h) (by decide)) | refine And.intro (fun h => absurd (show false = true from h) (by decide)) (fun _ => ?_) | refine And.intro (fun h => ?_) (fun h => absurd (of_decide_eq_false h) (by omega)) | refine And.intro (fun h => absurd (of_decide_eq_true h) (by omega)) (fun h => ?_) | refine And.intro (fun h => ?_) (fun h => ?_) | refine Or.inl (And.intro (And.intro (by simp only [kmin]; omega) (by simp only [kmax]; omega)) ?_) | refine Exists.intro _ (And.intro rfl ?_) | refine And.intro (by decide) ?_ | refine And.intro (by omega) ?_ | fail
          · rw [if_neg (by rw [decide_eq_false h3]; decide), List.reverse_cons, List.append_assoc] at hR
            have next := ih x.p (n :: acc) .no (.inr rfl) (fun _ => by have := hf h1; omega) (fun _ _ => by simp; omega) hR
            refine goes hE 100 ?_
            conv => whnf
            repeat' first | (refine goN hE 100 rfl ?_; conv => whnf) | refine Exists.intro n.toNat (And.intro hn ?_) | refine Exists.intro _ (And.intro get ?_) | refine And.intro (And.intro (by simp only [maxLen]; simp; omega) (by simp; omega)) ?_ | exact rfl | refine And.intro (fun _ => ?_) (fun h => absurd (show true = false from h) (by decide)) | refine And.intro (fun h => absurd (show false = true from h) (by decide)) (fun _ => ?_) | refine And.intro (fun h => ?_) (fun h => absurd (of_decide_eq_false h) (by omega)) | refine And.intro (fun h => absurd (of_decide_eq_true h) (by omega)) (fun h => ?_) | refine And.intro (fun h => ?_) (fun h => ?_) | refine Or.inl (And.intro (And.intro (by simp only [kmin]; omega) (by simp only [kmax]; omega)) ?_) | refine Exists.intro _ (And.intro rfl ?_) | refine And.intro (by decide) ?_ | refine And.intro (by omega) ?_ | fail
            refine To.part [1, 2, 5] [0] rfl rfl rfl ?_
            exact next
        · rw [dif_neg h2] at hR
          have hR : acc = R := hR
          subst hR
          refine goes hE 100 ?_
          conv => whnf
          repeat' first | (refine goN hE 100 rfl ?_; conv => whnf) | exact rfl | refine And.intro (fun _ => ?_) (fun h => absurd (show true = false from h) (by decide)) | refine And.intro (fun h => absurd (show false = true from h) (by decide)) (fun _ => ?_) | refine And.intro (fun h => ?_) (fun h => absurd (of_decide_eq_false h) (by omega)) | refine And.intro (fun h => absurd (of_decide_eq_true h) (by omega)) (fun h => ?_) | refine And.intro (fun h => ?_) (fun h => ?_) | refine Or.inl (And.intro (And.intro (by simp only [kmin]; omega) (by simp only [kmax]; omega)) ?_) | refine Exists.intro _ (And.intro rfl ?_) | refine And.intro (by decide) ?_ | refine And.intro (by omega) ?_ | fail
      · rw [if_neg (by rw [decide_eq_false h1]; decide)] at hR
        have hR : acc = R := hR
        subst hR
        refine goes hE 100 ?_
        conv => whnf
        repeat' first | (refine goN hE 100 rfl ?_; conv => whnf) | exact rfl | refine And.intro (fun _ => ?_) (fun h => absurd (show true = false from h) (by decide)) | refine And.intro (fun h => absurd (show false = true from h) (by decide)) (fun _ => ?_) | refine And.intro (fun h => ?_) (fun h => absurd (of_decide_eq_false h) (by omega)) | refine And.intro (fun h => absurd (of_decide_eq_true h) (by omega)) (fun h => ?_) | refine And.intro (fun h => ?_) (fun h => ?_) | refine Or.inl (And.intro (And.intro (by simp only [kmin]; omega) (by simp only [kmax]; omega)) ?_) | refine Exists.intro _ (And.intro rfl ?_) | refine And.intro (by decide) ?_ | refine And.intro (by omega) ?_ | fail
    · by_cases h1 : 0 ≤ n
      · rw [if_pos (decide_eq_true h1)] at hR
        by_cases h2 : n.toNat < c.ns.length
        · rw [dif_pos h2] at hR
          have hb := hb h1 h2
          generalize hx : c.ns[n.toNat] = x at hR
          have get : (nav c.ns)[n.toNat]? = some x.av := (nav_get h2).trans (by rw [hx])
          have hn : n = (n.toNat : Int) := by omega
          by_cases h3 : n ≤ x.p
          · rw [if_pos (decide_eq_true h3)] at hR
            have hR : n :: acc = R := hR
            subst hR
            refine goes hE 100 ?_
            conv => whnf
            repeat' first | (refine goN hE 100 rfl ?_; conv => whnf) | refine Exists.intro n.toNat (And.intro hn ?_) | refine Exists.intro _ (And.intro get ?_) | refine And.intro (And.intro (by simp only [maxLen]; simp; omega) (by simp; omega)) ?_ | exact rfl | refine And.intro (fun _ => ?_) (fun h => absurd (show true = false from h) (by decide)) | refine And.intro (fun h => absurd (show false = true from h) (by decide)) (fun _ => ?_) | refine And.intro (fun h => ?_) (fun h => absurd (of_decide_eq_false h) (by omega)) | refine And.intro (fun h => absurd (of_decide_eq_true h) (by omega)) (fun h => ?_) | refine And.intro (fun h => ?_) (fun h => ?_) | refine Or.inl (And.intro (And.intro (by simp only [kmin]; omega) (by simp only [kmax]; omega)) ?_) | refine Exists.intro _ (And.intro rfl ?_) | refine And.intro (by decide) ?_ | refine And.intro (by omega) ?_ | fail
          · rw [if_neg (by rw [decide_eq_false h3]; decide), List.reverse_cons, List.append_assoc] at hR
            have next := ih x.p (n :: acc) .no (.inr rfl) (fun _ => by have := hf h1; omega) (fun _ _ => by simp; omega) hR
            refine goes hE 100 ?_
            conv => whnf
            repeat' first | (refine goN hE 100 rfl ?_; conv => whnf) | refine Exists.intro n.toNat (And.intro hn ?_) | refine Exists.intro _ (And.intro get ?_) | refine And.intro (And.intro (by simp only [maxLen]; simp; omega) (by simp; omega)) ?_ | exact rfl | refine And.intro (fun _ => ?_) (fun h => absurd (show true = false from h) (by decide)) | refine And.intro (fun h => absurd (show false = true from h) (by decide)) (fun _ => ?_) | refine And.intro (fun h => ?_) (fun h => absurd (of_decide_eq_false h) (by omega)) | refine And.intro (fun h => absurd (of_decide_eq_true h) (by omega)) (fun h => ?_) | refine And.intro (fun h => ?_) (fun h => ?_) | refine Or.inl (And.intro (And.intro (by simp only [kmin]; omega) (by simp only [kmax]; omega)) ?_) | refine Exists.intro _ (And.intro rfl ?_) | refine And.intro (by decide) ?_ | refine And.intro (by omega) ?_ | fail
            refine To.part [1, 2, 5] [0] rfl rfl rfl ?_
            exact next
        · rw [dif_neg h2] at hR
          have hR : acc = R := hR
          subst hR
          refine goes hE 100 ?_
          conv => whnf
          repeat' first | (refine goN hE 100 rfl ?_; conv => whnf) | exact rfl | refine And.intro (fun _ => ?_) (fun h => absurd (show true = false from h) (by decide)) | refine And.intro (fun h => absurd (show false = true from h) (by decide)) (fun _ => ?_) | refine And.intro (fun h => ?_) (fun h => absurd (of_decide_eq_false h) (by omega)) | refine And.intro (fun h => absurd (of_decide_eq_true h) (by omega)) (fun h => ?_) | refine And.intro (fun h => ?_) (fun h => ?_) | refine Or.inl (And.intro (And.intro (by simp only [kmin]; omega) (by simp only [kmax]; omega)) ?_) | refine Exists.intro _ (And.intro rfl ?_) | refine And.intro (by decide) ?_ | refine And.intro (by omega) ?_ | fail
      · rw [if_neg (by rw [decide_eq_false h1]; decide)] at hR
        have hR : acc = R := hR
        subst hR
        refine goes hE 100 ?_
        conv => whnf
        repeat' first | (refine goN hE 100 rfl ?_; conv => whnf) | exact rfl | refine And.intro (fun _ => ?_) (fun h => absurd (show true = false from h) (by decide)) | refine And.intro (fun h => absurd (show false = true from h) (by decide)) (fun _ => ?_) | refine And.intro (fun h => ?_) (fun h => absurd (of_decide_eq_false h) (by omega)) | refine And.intro (fun h => absurd (of_decide_eq_true h) (by omega)) (fun h => ?_) | refine And.intro (fun h => ?_) (fun h => ?_) | refine Or.inl (And.intro (And.intro (by simp only [kmin]; omega) (by simp only [kmax]; omega)) ?_) | refine Exists.intro _ (And.intro rfl ?_) | refine And.intro (by decide) ?_ | refine And.intro (by omega) ?_ | fail
theorem rpath_ok (c : Con) (hc : c.sm) (n : Int) : CallOK Tryz.prog 29 [c.av, ii n] [] (.ret (.slice 1 (iv (pathL c.ns n)) .no)) [] := by
  have hcn := hc.ns
  refine CallOK.to (E := E) (fn := Tryz.f29) (g := .pure _) (by rfl) (by rfl) (by rfl) (fun _ _ => by rfl) (by decide +kernel) (by rfl) (by rfl) (by rfl) fun _ => ?_
  refine goes hE 100 ?_
  conv => whnf
  refine To.part [1, 2, 5] [0] rfl rfl rfl ?_
  exact rpath_loop c hc _ (n.toNat + 1) n [] .nil (.inl rfl) (fun _ => by omega) (fun _ _ => by simp; omega) (by unfold pathL upL; simp)
theorem upF_len (ns : List Nod) : ∀ (f : Nat) (n : Int), (upF ns f n).length ≤ n.toNat + 1 ∧ (upF ns f n).length ≤ f
  | 0, n => by simp [upF]
  | f + 1, n => by
    unfold upF
    split
    · split
      · split
        · simp
        · rename_i h0 h1 h2
          have ih := upF_len ns f (ns[n.toNat]).p
          have h2 : ¬ n ≤ (ns[n.toNat]).p := fun h => h2 (decide_eq_true h)
          have h0 := of_decide_eq_true h0
          simp only [List.length_cons]
          refine ⟨?_, by omega⟩
          by_cases h4 : 0 ≤ (ns[n.toNat]).p
          · omega
          · have e : (upF ns f (ns[n.toNat]).p) = [] := by
              cases f with
              | zero => rfl
              | succ f =>
                unfold upF
                rw [if_neg (by rw [decide_eq_false h4]; decide)]
            rw [e]
            simp
      · simp
    · simp
theorem upL_len (ns : List Nod) (n : Int) : (upL ns n).length ≤ ns.length := by
  by_cases h : 0 ≤ n ∧ n.toNat < ns.length
  · have := (upF_len ns (n.toNat + 1) n).1
    unfold upL
    omega
  · unfold upL upF
    by_cases h0 : 0 ≤ n
    · rw [if_pos (decide_eq_true h0), dif_neg (by omega)]
      simp
    · rw [if_neg (by rw [decide_eq_false h0]; decide)]
      simp
theorem pathL_len (ns : List Nod) (n : Int) : (pathL ns n).length ≤ ns.length := by
  unfold pathL
  rw [List.length_reverse]
  exact upL_len ns n

/- ---------- On ---------- -/
noncomputable abbrev fROn : Func := Tryz.f136
def onB (ns : List Nod) (n t : Int) : Bool := (pathL ns t).any fun x => x == n
theorem onB_eq (ns : List Nod) (n t : Int) : onB ns n t = decide (n ∈ upL ns t) := by
  unfold onB pathL
  rw [List.any_reverse, Bool.eq_iff_iff]
  simp
theorem ron_loop (c : Con) (n : Int) (l : List Int) (hl : l.length ≤ 1048576) (r : Bool) : ∀ (m i : Nat), i + m = l.length → ((l.drop i).any fun x => x == n) = r →
    To E fROn (.pure (.ret (.bool r))) (.head (stk fROn 0) [(1, ii n), (7, .slice 1 (iv l) .no), (8, ii i)] [.cells 25 c.cs]) := by
  have hlen : (iv l).length = l.length := by simp
  intro m
  induction m with
  | zero =>
    intro i hi hr
    rw [List.drop_eq_nil_of_le (by omega)] at hr
    have hr : false = r := hr
    subst hr
    refine goes hE 100 ?_
    conv => whnf
    refine And.intro (fun h => absurd (of_decide_eq_true h) (by omega)) (fun h => ?_)
    repeat' first | (refine goN hE 100 rfl ?_; conv => whnf) | exact rfl | refine And.intro (fun _ => ?_) (fun h => absurd (show true = false from h) (by decide)) | refine And.intro (fun h => absurd (show false = true from h) (by decide)) (fun _ => ?_) | refine And.intro (fun h => ?_) (fun h => absurd (of_decide_eq_false h) (by omega)) | refine And.intro (fun h => absurd (of_decide_eq_true h) (by omega)) (fun h => ?_) | refine And.intro (fun h => ?_) (fun h => ?_) | refine Or.inl (And.intro (And.intro (by simp only [kmin]; omega) (by simp only [kmax]; omega)) ?_) | refine Exists.intro _ (And.intro rfl ?_) | refine And.intro (by decide) ?_ | refine And.intro (by omega) ?_ | fail
  | succ m ih =>
    intro i hi hr
    have hlt : i < l.length := by omega
    rw [List.drop_eq_getElem_cons hlt, List.any_cons] at hr
    have get := iv_get hlt
    generalize l[i] = x at hr get
    have ih := ih (i + 1) (by omega)
    refine goes hE 100 ?_
    conv => whnf
    refine And.intro (fun h => ?_) (fun h => absurd (of_decide_eq_false h) (by omega))
    refine goes hE 100 ?_
    conv => whnf
    refine ⟨i, rfl, ?_⟩
    refine goes hE 100 ?_
    conv => whnf
    refine ⟨_, get, ?_⟩
    refine goes hE 100 ?_
    conv => whnf
    refine And.intro (fun h2 => ?_) (fun h2 => ?_)
    · have h2 : (x == n) = true := h2
      rw [h2] at hr
      have hr : true = r := hr
      subst hr
      repeat' first | (refine goN hE 100 rfl ?_; conv => whnf) | exact rfl | refine And.intro (fun _ => ?_) (fun h => absurd (show true = false from h) (by decide)) | refine And.intro (fun h => absurd (show false = true from h) (by decide)) (fun _ => ?_) | refine And.intro (fun h => ?_) (fun h => absurd (of_decide_eq_false h) (by omega)) | refine And.intro (fun h => absurd (of_decide_eq_true h) (by omega)) (fun h => ?_) | refine And.intro (fun h => ?_) (fun h => ?_) | refine Or.inl (And.intro (And.intro (by simp only [kmin]; omega) (by simp only [kmax]; omega)) ?_) | refine Exists.intro _ (And.intro rfl ?_) | refine And.intro (by decide) ?_ | refine And.intro (by omega) ?_ | fail
    · have h2 : (x == n) = false := h2
      rw [h2, Bool.false_or] at hr
      repeat' first | (refine goN hE 100 rfl ?_; conv => whnf) | exact rfl | refine And.intro (fun _ => ?_) (fun h => absurd (show true = false from h) (by decide)) | refine And.intro (fun h => absurd (show false = true from h) (by decide)) (fun _ => ?_) | refine And.intro (fun h => ?_) (fun h => absurd (of_decide_eq_false h) (by omega)) | refine And.intro (fun h => absurd (of_decide_eq_true h) (by omega)) (fun h => ?_) | refine And.intro (fun h => ?_) (fun h => ?_) | refine Or.inl (And.intro (And.intro (by simp only [kmin]; omega) (by simp only [kmax]; omega)) ?_) | refine Exists.intro _ (And.intro rfl ?_) | refine And.intro (by decide) ?_ | refine And.intro (by omega) ?_ | fail
      exact To.cut [1, 7, 8] 1 rfl rfl rfl rfl (ih hr)
theorem ron_ok (c : Con) (hc : c.sm) (n t : Int) : CallOK Tryz.prog 136 [c.av, ii n, ii t] [] (.ret (.bool (onB c.ns n t))) [] := by
  have h1 := pathL_len c.ns t
  have hcn := hc.ns
  have hp := rpath_ok c hc t
  unfold onB
  generalize pathL c.ns t = l at h1 hp
  refine CallOK.to (E := E) (fn := Tryz.f136) (g := .pure _) (by rfl) (by rfl) (by rfl) (fun _ _ => by rfl) (by decide +kernel) (by rfl) (by rfl) (by rfl) fun _ => ?_
  repeat' first | (refine goN hE 100 rfl ?_; conv => whnf) | refine .pure _ [] hp ?_ | exact rfl | refine And.intro (fun _ => ?_) (fun h => absurd (show true = false from h) (by decide)) | refine And.intro (fun h => absurd (show false = true from h) (by decide)) (fun _ => ?_) | refine And.intro (fun h => ?_) (fun h => absurd (of_decide_eq_false h) (by omega)) | refine And.intro (fun h => absurd (of_decide_eq_true h) (by omega)) (fun h => ?_) | refine And.intro (fun h => ?_) (fun h => ?_) | refine Or.inl (And.intro (And.intro (by simp only [kmin]; omega) (by simp only [kmax]; omega)) ?_) | refine Exists.intro _ (And.intro rfl ?_) | refine And.intro (by decide) ?_ | refine And.intro (by omega) ?_ | fail
  exact To.cut [1, 7, 8] 1 rfl rfl rfl rfl (ron_loop c n l (by omega) _ l.length 0 (by omega) rfl)

/- ---------- Below ---------- -/
noncomputable abbrev fRBel : Func := Tryz.f109
theorem rbelow_loop (c : Con) (hc : c.sm) (n : Int) (l : List Int) (hl : l.length ≤ 1048576) (R : List Int) : ∀ (m i : Nat) (acc : List Int), i + m = l.length → acc.length ≤ i → acc ++ (l.drop i).flatMap (hitL c.ns n) = R →
    To (Eo [5] []) fRBel (.pure (.ret (.slice 1 (iv R) .no))) (.head (stk fRBel 0) [(1, ii n), (2, .ref 0 0), (5, .slice 1 (iv acc) (.own 1 0)), (6, .slice 1 (iv l) .no), (7, ii i)] [.cells 25 c.cs, .tail 0 1 3]) := by
  have hlen : (iv l).length = l.length := by simp
  intro m
  induction m with
  | zero =>
    intro i acc hi ha hR
    rw [List.drop_eq_nil_of_le (by omega)] at hR
    have hR : acc ++ [] = R := hR
    rw [List.append_nil] at hR
    subst hR
    refine goes (hEo [5] []) 100 ?_
    conv => whnf
    refine And.intro (fun h => absurd (of_decide_eq_true h) (by omega)) (fun h => ?_)
    repeat' first | (refine goN (hEo [5] []) 100 rfl ?_; conv => whnf) | exact rfl | refine And.intro (fun _ => ?_) (fun h => absurd (show true = false from h) (by decide)) | refine And.intro (fun h => absurd (show false = true from h) (by decide)) (fun _ => ?_) | refine And.intro (fun h => ?_) (fun h => absurd (of_decide_eq_false h) (by omega)) | refine And.intro (fun h => absurd (of_decide_eq_true h) (by omega)) (fun h => ?_) | refine And.intro (fun h => ?_) (fun h => ?_) | refine Or.inl (And.intro (And.intro (by simp only [kmin]; omega) (by simp only [kmax]; omega)) ?_) | refine Exists.intro _ (And.intro rfl ?_) | refine And.intro (by decide) ?_ | refine And.intro (by omega) ?_ | fail
  | succ m ih =>
    intro i acc hi ha hR
    have hla : (iv acc).length = acc.length := by simp
    have hlt : i < l.length := by omega
    rw [List.drop_eq_getElem_cons hlt, List.flatMap_cons] at hR
    have get := iv_get hlt
    generalize l[i] = x at hR get
    have hon := ron_ok c hc n x
    rw [onB_eq] at hon
    unfold hitL at hR
    by_cases h2 : n ∈ upL c.ns x
    · rw [if_pos h2] at hR
      rw [decide_eq_true h2] at hon
      have next := ih (i + 1) (acc ++ [x]) (by omega) (by simp; omega) (by rw [List.append_assoc]; exact hR)
      have e : iv (acc ++ [x]) = iv acc ++ [ii x] := by simp
      rw [e] at next
      refine goes (hEo [5] []) 100 ?_
      conv => whnf
      refine And.intro (fun h => ?_) (fun h => absurd (of_decide_eq_false h) (by omega))
      repeat' first | (refine goN (hEo [5] []) 100 rfl ?_; conv => whnf) | refine Exists.intro i (And.intro rfl ?_) | refine Exists.intro _ (And.intro get ?_) | refine .pure _ [] hon ?_ | refine And.intro (And.intro (by simp only [maxLen]; simp; omega) (by simp; omega)) ?_ | exact rfl | refine And.intro (fun _ => ?_) (fun h => absurd (show true = false from h) (by decide)) | refine And.intro (fun h => absurd (show false = true from h) (by decide)) (fun _ => ?_) | refine And.intro (fun h => ?_) (fun h => absurd (of_decide_eq_false h) (by omega)) | refine And.intro (fun h => absurd (of_decide_eq_true h) (by omega)) (fun h => ?_) | refine And.intro (fun h => ?_) (fun h => ?_) | refine Or.inl (And.intro (And.intro (by simp only [kmin]; omega) (by simp only [kmax]; omega)) ?_) | refine Exists.intro _ (And.intro rfl ?_) | refine And.intro (by decide) ?_ | refine And.intro (by omega) ?_ | fail
      refine To.part [1, 2, 5, 6, 7] [0, 1] rfl rfl rfl ?_
      exact next
    · rw [if_neg h2] at hR
      rw [decide_eq_false h2] at hon
      have next := ih (i + 1) acc (by omega) (by omega) hR
      refine goes (hEo [5] []) 100 ?_
      conv => whnf
      refine And.intro (fun h => ?_) (fun h => absurd (of_decide_eq_false h) (by omega))
      repeat' first | (refine goN (hEo [5] []) 100 rfl ?_; conv => whnf) | refine Exists.intro i (And.intro rfl ?_) | refine Exists.intro _ (And.intro get ?_) | refine .pure _ [] hon ?_ | exact rfl | refine And.intro (fun _ => ?_) (fun h => absurd (show true = false from h) (by decide)) | refine And.intro (fun h => absurd (show false = true from h) (by decide)) (fun _ => ?_) | refine And.intro (fun h => ?_) (fun h => absurd (of_decide_eq_false h) (by omega)) | refine And.intro (fun h => absurd (of_decide_eq_true h) (by omega)) (fun h => ?_) | refine And.intro (fun h => ?_) (fun h => ?_) | refine Or.inl (And.intro (And.intro (by simp only [kmin]; omega) (by simp only [kmax]; omega)) ?_) | refine Exists.intro _ (And.intro rfl ?_) | refine And.intro (by decide) ?_ | refine And.intro (by omega) ?_ | fail
      refine To.part [1, 2, 5, 6, 7] [0, 1] rfl rfl rfl ?_
      exact next
theorem rbelow_ok (c : Con) (hc : c.sm) (n : Int) : CallOK Tryz.prog 109 [c.av, ii n] [] (.ret (.slice 1 (iv (belowL c.ns n)) .no)) [] := by
  have hcn := hc.ns
  have h1 : (leavesL c.ns).length ≤ c.ns.length := lvF_len c.ns c.ns.length 0
  have hlv := rlvs_ok c hc
  unfold belowL
  generalize leavesL c.ns = l at h1 hlv
  refine CallOK.to (E := (Eo [5] [])) (fn := Tryz.f109) (g := .pure _) (by rfl) (by rfl) (by rfl) (fun _ _ => by rfl) (by decide +kernel) (by rfl) (by rfl) (by rfl) fun _ => ?_
  repeat' first | (refine goN (hEo [5] []) 100 rfl ?_; conv => whnf) | refine .pure _ [] hlv ?_ | exact rfl | refine And.intro (fun _ => ?_) (fun h => absurd (show true = false from h) (by decide)) | refine And.intro (fun h => absurd (show false = true from h) (by decide)) (fun _ => ?_) | refine And.intro (fun h => ?_) (fun h => absurd (of_decide_eq_false h) (by omega)) | refine And.intro (fun h => absurd (of_decide_eq_true h) (by omega)) (fun h => ?_) | refine And.intro (fun h => ?_) (fun h => ?_) | refine Or.inl (And.intro (And.intro (by simp only [kmin]; omega) (by simp only [kmax]; omega)) ?_) | refine Exists.intro _ (And.intro rfl ?_) | refine And.intro (by decide) ?_ | refine And.intro (by omega) ?_ | fail
  refine To.part [1, 2, 5, 6, 7] [0, 1] rfl rfl rfl ?_
  exact rbelow_loop c hc n l (by omega) _ l.length 0 [] (by omega) (by simp) rfl

/- ---------- Sum ---------- -/
noncomputable abbrev fRSum : Func := Tryz.f69
theorem rsum_loop (c : Con) (l : List V3) (b : List Int) (hb : b.length ≤ 1048576) (R : V3) : ∀ (m i : Nat) (v : V3), i + m = b.length → (b.drop i).foldl (smS l) v = R →
    To E fRSum (.pure (.ret R.av)) (.head (stk fRSum 0) [(2, .slice 3 (vav l) .no), (6, .ref 1 0), (7, .ref 2 0), (8, .slice 1 (iv b) .no), (9, ii i)] [.cells 25 c.cs, .cells 32 V3.zero.cs, .cells 32 v.cs]) := by
  have hlen : (iv b).length = b.length := by simp
  intro m
  induction m with
  | zero =>
    intro i v hi hR
    rw [List.drop_eq_nil_of_le (by omega)] at hR
    have hR : v = R := hR
    subst hR
    refine goes hE 100 ?_
    conv => whnf
    refine And.intro (fun h => absurd (of_decide_eq_true h) (by omega)) (fun h => ?_)
    repeat' first | (refine goN hE 100 rfl ?_; conv => whnf) | exact rfl | refine And.intro (fun _ => ?_) (fun h => absurd (show true = false from h) (by decide)) | refine And.intro (fun h => absurd (show false = true from h) (by decide)) (fun _ => ?_) | refine And.intro (fun h => ?_) (fun h => absurd (of_decide_eq_false h) (by omega)) | refine And.intro (fun h => absurd (of_decide_eq_true h) (by omega)) (fun h => ?_) | refine And.intro (fun h => ?_) (fun h => ?_) | refine Or.inl (And.intro (And.intro (by simp only [kmin]; omega) (by simp only [kmax]; omega)) ?_) | refine Exists.intro _ (And.intro rfl ?_) | refine And.intro (by decide) ?_ | refine And.intro (by omega) ?_ | fail
  | succ m ih =>
    intro i v hi hR
    have hlt : i < b.length := by omega
    rw [List.drop_eq_getElem_cons hlt, List.foldl_cons] at hR
    have get := iv_get hlt
    generalize b[i] = x at hR get
    have hat := rat3_ok l x
    have next := ih (i + 1) (smS l v x) (by omega) hR
    unfold smS at next
    generalize atV l x = u at hat next
    have had := radd_ok v u
    generalize vadd v u = q at had next
    refine goes hE 100 ?_
    conv => whnf
    refine And.intro (fun h => ?_) (fun h => absurd (of_decide_eq_false h) (by omega))
    repeat' first | (refine goN hE 100 rfl ?_; conv => whnf) | refine Exists.intro i (And.intro rfl ?_) | refine Exists.intro _ (And.intro get ?_) | refine .pure _ [] hat ?_ | refine .pure _ [] had ?_ | exact rfl | refine And.intro (fun _ => ?_) (fun h => absurd (show true = false from h) (by decide)) | refine And.intro (fun h => absurd (show false = true from h) (by decide)) (fun _ => ?_) | refine And.intro (fun h => ?_) (fun h => absurd (of_decide_eq_false h) (by omega)) | refine And.intro (fun h => absurd (of_decide_eq_true h) (by omega)) (fun h => ?_) | refine And.intro (fun h => ?_) (fun h => ?_) | refine Or.inl (And.intro (And.intro (by simp only [kmin]; omega) (by simp only [kmax]; omega)) ?_) | refine Exists.intro _ (And.intro rfl ?_) | refine And.intro (by decide) ?_ | refine And.intro (by omega) ?_ | fail
    exact To.cut [2, 6, 7, 8, 9] 3 rfl rfl rfl rfl next
theorem rsum_ok (c : Con) (hc : c.sm) (n : Int) (l : List V3) : CallOK Tryz.prog 69 [c.av, ii n, .slice 3 (vav l) .no] [] (.ret (sumL c.ns n l).av) [] := by
  have h1 := below_len c hc n
  have hbl := rbelow_ok c hc n
  unfold sumL
  generalize belowL c.ns n = b at h1 hbl
  refine CallOK.to (E := E) (fn := Tryz.f69) (g := .pure _) (by rfl) (by rfl) (by rfl) (fun _ _ => by rfl) (by decide +kernel) (by rfl) (by rfl) (by rfl) fun _ => ?_
  repeat' first | (refine goN hE 100 rfl ?_; conv => whnf) | refine .pure _ [] hbl ?_ | exact rfl | refine And.intro (fun _ => ?_) (fun h => absurd (show true = false from h) (by decide)) | refine And.intro (fun h => absurd (show false = true from h) (by decide)) (fun _ => ?_) | refine And.intro (fun h => ?_) (fun h => absurd (of_decide_eq_false h) (by omega)) | refine And.intro (fun h => absurd (of_decide_eq_true h) (by omega)) (fun h => ?_) | refine And.intro (fun h => ?_) (fun h => ?_) | refine Or.inl (And.intro (And.intro (by simp only [kmin]; omega) (by simp only [kmax]; omega)) ?_) | refine Exists.intro _ (And.intro rfl ?_) | refine And.intro (by decide) ?_ | refine And.intro (by omega) ?_ | fail
  exact To.cut [2, 6, 7, 8, 9] 3 rfl rfl rfl rfl (rsum_loop c l b h1 _ b.length 0 V3.zero (by omega) rfl)
end Go.Proofs.YtlalcoklkafnnaaGreat

namespace Go.Proofs.YtlalcoklkafnnaaGreat
open Go Go.AW Go.Proofs
set_option maxRecDepth 10000

noncomputable abbrev fRNom : Func := Tryz.f30
theorem rnod_get {c : Con} {i : Nat} (h : i < c.ns.length) : (nav c.ns)[i]? = some (nodAt c.ns (i : Int)).av := by
  unfold nodAt
  rw [Int.toNat_natCast, List.getElem?_eq_getElem h]
  exact nav_get h
theorem rnom_loop (c : Con) (hc : c.sm) (n : Int) : ∀ (m i : Nat) (acc : List V3), i + m = c.ns.length → acc = (List.range i).map (fun j : Nat => (nodAt c.ns (j : Int)).n) →
    To (Eo [5] []) fRNom (.pure (.ret (sumL c.ns n (nomL c.ns)).av)) (.head (stk fRNom 0) [(1, ii n), (2, .ref 0 0), (4, .ref 1 0), (5, .slice 3 (vav acc) (.own 2 0)), (6, ii i)] [.cells 25 c.cs, .cells 32 V3.zero.cs, .tail 0 3 32]) := by
  have hlen : (nav c.ns).length = c.ns.length := by simp
  have hcn := hc.ns
  intro m
  induction m with
  | zero =>
    intro i acc hi ha
    have hi : i = c.ns.length := by omega
    have ha : acc = nomL c.ns := by rw [ha, hi]; rfl
    subst ha
    have hs := rsum_ok c hc n (nomL c.ns)
    generalize sumL c.ns n (nomL c.ns) = S at hs
    refine goes (hEo [5] []) 100 ?_
    conv => whnf
    refine And.intro (fun h => absurd (of_decide_eq_true h) (by omega)) (fun h => ?_)
    repeat' first | (refine goN (hEo [5] []) 100 rfl ?_; conv => whnf) | refine .pure _ [] (CallOK.strip hs) ?_ | exact rfl | refine And.intro (fun _ => ?_) (fun h => absurd (show true = false from h) (by decide)) | refine And.intro (fun h => absurd (show false = true from h) (by decide)) (fun _ => ?_) | refine And.intro (fun h => ?_) (fun h => absurd (of_decide_eq_false h) (by omega)) | refine And.intro (fun h => absurd (of_decide_eq_true h) (by omega)) (fun h => ?_) | refine And.intro (fun h => ?_) (fun h => ?_) | refine Or.inl (And.intro (And.intro (by simp only [kmin]; omega) (by simp only [kmax]; omega)) ?_) | refine Exists.intro _ (And.intro rfl ?_) | refine And.intro (by decide) ?_ | refine And.intro (by omega) ?_ | fail
  | succ m ih =>
    intro i acc hi ha
    have hla : (vav acc).length = acc.length := by simp
    have hla2 : acc.length = i := by rw [ha]; simp
    have get := rnod_get (c := c) (i := i) (by omega)
    have next := ih (i + 1) (acc ++ [(nodAt c.ns (i : Int)).n]) (by omega) (by rw [ha, List.range_succ, List.map_append]; rfl)
    have e : vav (acc ++ [(nodAt c.ns (i : Int)).n]) = vav acc ++ [(nodAt c.ns (i : Int)).n.av] := by simp
    rw [e] at next
    generalize nodAt c.ns (i : Int) = x at get next
    refine goes (hEo [5] []) 100 ?_
    conv => whnf
    refine And.intro (fun h => ?_) (fun h => absurd (of_decide_eq_false h) (by omega))
    repeat' first | (refine goN (hEo [5] []) 100 rfl ?_; conv => whnf) | refine Exists.intro i (And.intro rfl ?_) | refine Exists.intro _ (And.intro get ?_) | refine And.intro (And.intro (by simp only [maxLen]; simp; omega) (by simp; omega)) ?_ | exact rfl | refine And.intro (fun _ => ?_) (fun h => absurd (show true = false from h) (by decide)) | refine And.intro (fun h => absurd (show false = true from h) (by decide)) (fun _ => ?_) | refine And.intro (fun h => ?_) (fun h => absurd (of_decide_eq_false h) (by omega)) | refine And.intro (fun h => absurd (of_decide_eq_true h) (by omega)) (fun h => ?_) | refine And.intro (fun h => ?_) (fun h => ?_) | refine Or.inl (And.intro (And.intro (by simp only [kmin]; omega) (by simp only [kmax]; omega)) ?_) | refine Exists.intro _ (And.intro rfl ?_) | refine And.intro (by decide) ?_ | refine And.intro (by omega) ?_ | fail
    refine To.part [1, 2, 4, 5, 6] [0, 1, 2] rfl rfl rfl ?_
    exact next
theorem rnom_ok (c : Con) (hc : c.sm) (n : Int) : CallOK Tryz.prog 30 [c.av, ii n] [] (.ret (sumL c.ns n (nomL c.ns)).av) [] := by
  refine CallOK.to (E := (Eo [5] [])) (fn := Tryz.f30) (g := .pure _) (by rfl) (by rfl) (by rfl) (fun _ _ => by rfl) (by decide +kernel) (by rfl) (by rfl) (by rfl) fun _ => ?_
  refine goes (hEo [5] []) 100 ?_
  conv => whnf
  refine To.part [1, 2, 4, 5, 6] [0, 1, 2] rfl rfl rfl ?_
  exact rnom_loop c hc n c.ns.length 0 [] (by omega) rfl

/- ---------- Kept ---------- -/
noncomputable abbrev fRKept : Func := Tryz.f96
theorem rkept_loop (c : Con) (used : List V3) (t : Int) (b : List Int) (hb : b.length ≤ 1048576) (hok : ∀ x ∈ b, c.ok x) (R : V3) : ∀ (m i : Nat) (v : V3), i + m = b.length → (b.drop i).foldl (keptS c.ns used t) v = R →
    To E fRKept (.pure (.ret R.av)) (.head (stk fRKept 0) [(1, .slice 3 (vav used) .no), (3, ii t), (4, .ref 0 0), (8, .ref 1 0), (9, .ref 2 0), (10, .slice 1 (iv b) .no), (11, ii i)] [.cells 25 c.cs, .cells 32 V3.zero.cs, .cells 32 v.cs]) := by
  have hlen : (iv b).length = b.length := by simp
  intro m
  induction m with
  | zero =>
    intro i v hi hR
    rw [List.drop_eq_nil_of_le (by omega)] at hR
    have hR : v = R := hR
    subst hR
    refine goes hE 100 ?_
    conv => whnf
    refine And.intro (fun h => absurd (of_decide_eq_true h) (by omega)) (fun h => ?_)
    repeat' first | (refine goN hE 100 rfl ?_; conv => whnf) | exact rfl | refine And.intro (fun _ => ?_) (fun h => absurd (show true = false from h) (by decide)) | refine And.intro (fun h => absurd (show false = true from h) (by decide)) (fun _ => ?_) | refine And.intro (fun h => ?_) (fun h => absurd (of_decide_eq_false h) (by omega)) | refine And.intro (fun h => absurd (of_decide_eq_true h) (by omega)) (fun h => ?_) | refine And.intro (fun h => ?_) (fun h => ?_) | refine Or.inl (And.intro (And.intro (by simp only [kmin]; omega) (by simp only [kmax]; omega)) ?_) | refine Exists.intro _ (And.intro rfl ?_) | refine And.intro (by decide) ?_ | refine And.intro (by omega) ?_ | fail
  | succ m ih =>
    intro i v hi hR
    have hlt : i < b.length := by omega
    have hokx := hok _ (List.getElem_mem hlt)
    rw [List.drop_eq_getElem_cons hlt, List.foldl_cons] at hR
    have get := iv_get hlt
    generalize b[i] = s at hR get hokx
    have next := ih (i + 1) (keptS c.ns used t v s) (by omega) hR
    unfold keptS at next
    by_cases h1 : s = t
    · subst h1
      rw [if_pos (decide_eq_true rfl)] at next
      have hst : (s == s) = true := by simp
      refine goes hE 100 ?_
      conv => whnf
      refine And.intro (fun h => ?_) (fun h => absurd (of_decide_eq_false h) (by omega))
      repeat' first | (refine goN hE 100 rfl ?_; conv => whnf) | refine Exists.intro i (And.intro rfl ?_) | refine Exists.intro _ (And.intro get ?_) | refine And.intro (fun h => ?_) (fun h => absurd h (by rw [hst]; decide)) | exact rfl | refine And.intro (fun _ => ?_) (fun h => absurd (show true = false from h) (by decide)) | refine And.intro (fun h => absurd (show false = true from h) (by decide)) (fun _ => ?_) | refine And.intro (fun h => ?_) (fun h => absurd (of_decide_eq_false h) (by omega)) | refine And.intro (fun h => absurd (of_decide_eq_true h) (by omega)) (fun h => ?_) | refine And.intro (fun h => ?_) (fun h => ?_) | refine Or.inl (And.intro (And.intro (by simp only [kmin]; omega) (by simp only [kmax]; omega)) ?_) | refine Exists.intro _ (And.intro rfl ?_) | refine And.intro (by decide) ?_ | refine And.intro (by omega) ?_ | fail
      exact To.cut [1, 3, 4, 8, 9, 10, 11] 3 rfl rfl rfl rfl next
    · rw [if_neg (by rw [decide_eq_false h1]; decide)] at next
      have hst : (s == t) = false := by simp [h1]
      obtain ⟨h0, h2⟩ := hokx
      have hn : s = (s.toNat : Int) := by omega
      have getn := rnod_get (c := c) (i := s.toNat) h2
      rw [← hn] at getn
      generalize nodAt c.ns s = x at getn next
      have hs1 := rsub_ok x.n x.l
      generalize vsub x.n x.l = q1 at hs1 next
      have hat := rat3_ok used s
      generalize atV used s = q2 at hat next
      have hs2 := rsub_ok q1 q2
      generalize vsub q1 q2 = q3 at hs2 next
      have had := radd_ok v (pos0 q3)
      generalize hq : pos0 q3 = q4 at had next
      have e1 : max q3.a 0 = q4.a := by rw [← hq]; rfl
      have e2 : max q3.b 0 = q4.b := by rw [← hq]; rfl
      have e3 : max q3.c 0 = q4.c := by rw [← hq]; rfl
      subst hq
      generalize vadd v (pos0 q3) = q5 at had next
      refine goes hE 100 ?_
      conv => whnf
      refine And.intro (fun h => ?_) (fun h => absurd (of_decide_eq_false h) (by omega))
      repeat' first
        | exact To.cut [1, 3, 4, 8, 9, 10, 11] 3 rfl rfl rfl rfl next
        | (refine goes hE 100 ?_; conv => whnf)
        | refine Exists.intro s.toNat (And.intro hn ?_)
        | refine Exists.intro _ (And.intro getn ?_)
        | refine Exists.intro i (And.intro rfl ?_)
        | refine Exists.intro _ (And.intro get ?_)
        | refine And.intro (fun h => absurd h (by rw [hst]; decide)) (fun h => ?_)
        | refine .pure _ [] hs1 ?_
        | refine .pure _ [] hat ?_
        | refine .pure _ [] hs2 ?_
        | refine .pure _ [] had ?_
        | refine And.intro (fun _ => ?_) (fun h => absurd (show true = false from h) (by decide))
        | refine And.intro (fun h => absurd (show false = true from h) (by decide)) (fun _ => ?_)
        | refine Or.inl (And.intro (And.intro (by simp only [kmin]; omega) (by simp only [kmax]; omega)) ?_)
        | refine Exists.intro _ (And.intro rfl ?_)
        | refine And.intro (by decide) ?_
        | fail
theorem rkept_ok (c : Con) (hc : c.sm) (used : List V3) (n t : Int) : CallOK Tryz.prog 96 [c.av, .slice 3 (vav used) .no, ii n, ii t] [] (.ret (keptL c.ns used n t).av) [] := by
  have h1 := below_len c hc n
  have hbl := rbelow_ok c hc n
  have hok : ∀ x ∈ belowL c.ns n, c.ok x := fun x hx => below_ok' c n x hx
  unfold keptL
  generalize belowL c.ns n = b at h1 hbl hok
  refine CallOK.to (E := E) (fn := Tryz.f96) (g := .pure _) (by rfl) (by rfl) (by rfl) (fun _ _ => by rfl) (by decide +kernel) (by rfl) (by rfl) (by rfl) fun _ => ?_
  repeat' first | (refine goN hE 100 rfl ?_; conv => whnf) | refine .pure _ [] hbl ?_ | exact rfl | refine And.intro (fun _ => ?_) (fun h => absurd (show true = false from h) (by decide)) | refine And.intro (fun h => absurd (show false = true from h) (by decide)) (fun _ => ?_) | refine And.intro (fun h => ?_) (fun h => absurd (of_decide_eq_false h) (by omega)) | refine And.intro (fun h => absurd (of_decide_eq_true h) (by omega)) (fun h => ?_) | refine And.intro (fun h => ?_) (fun h => ?_) | refine Or.inl (And.intro (And.intro (by simp only [kmin]; omega) (by simp only [kmax]; omega)) ?_) | refine Exists.intro _ (And.intro rfl ?_) | refine And.intro (by decide) ?_ | refine And.intro (by omega) ?_ | fail
  exact To.cut [1, 3, 4, 8, 9, 10, 11] 3 rfl rfl rfl rfl (rkept_loop c used t b h1 hok _ b.length 0 V3.zero (by omega) rfl)

/- ---------- May ---------- -/
noncomputable abbrev fRMay : Func := Tryz.f55
theorem rmay_loop (c : Con) (hc : c.sm) (used : List V3) (t : Int) (need : V3) (nd : V3) (l : List Int) (hl : l.length ≤ 1048576) (r : Bool) : ∀ (m i : Nat), i + m + 1 = l.length → (((l.drop i).take m).all fun x => allB c used need t x) = r →
    To E fRMay (.pure (.ret (.bool r))) (.head (stk fRMay 0) [(1, .slice 3 (vav used) .no), (2, ii t), (4, .ref 0 0), (7, .ref 1 0), (10, .slice 1 (iv l) .no), (11, ii i)] [.cells 25 c.cs, .cells 32 need.cs]) := by
  have hlen : (iv l).length = l.length := by simp
  intro m
  induction m with
  | zero =>
    intro i hi hr
    rw [List.take_zero] at hr
    have hr : true = r := hr
    subst hr
    refine goes hE 100 ?_
    conv => whnf
    repeat' first | (refine goN hE 100 rfl ?_; conv => whnf) | exact rfl | refine And.intro (fun _ => ?_) (fun h => absurd (show true = false from h) (by decide)) | refine And.intro (fun h => absurd (show false = true from h) (by decide)) (fun _ => ?_) | refine And.intro (fun h => ?_) (fun h => absurd (of_decide_eq_false h) (by omega)) | refine And.intro (fun h => absurd (of_decide_eq_true h) (by omega)) (fun h => ?_) | refine And.intro (fun h => ?_) (fun h => ?_) | refine Or.inl (And.intro (And.intro (by simp only [kmin]; omega) (by simp only [kmax]; omega)) ?_) | refine Exists.intro _ (And.intro rfl ?_) | refine And.intro (by decide) ?_ | refine And.intro (by omega) ?_ | fail
  | succ m ih =>
    intro i hi hr
    have hlt : i < l.length := by omega
    rw [List.drop_eq_getElem_cons hlt, List.take_succ_cons, List.all_cons] at hr
    have get := iv_get hlt
    generalize l[i] = x at hr get
    have next := ih (i + 1) (by omega)
    unfold allB at hr
    have h1 := rsum_ok c hc x used
    generalize sumL c.ns x used = q1 at h1 hr
    have h2 := radd_ok q1 need
    generalize vadd q1 need = q2 at h2 hr
    have h3 := rkept_ok c hc used x t
    generalize keptL c.ns used x t = q3 at h3 hr
    have h4 := radd_ok q2 q3
    generalize vadd q2 q3 = q4 at h4 hr
    have h5 := rnom_ok c hc x
    generalize sumL c.ns x (nomL c.ns) = q5 at h5 hr
    have h6 := rfits_ok q4 q5
    cases hq : vfits q4 q5 with
    | false =>
      rw [hq] at h6 hr
      have hr : false = r := hr
      subst hr
      refine goes hE 100 ?_
      conv => whnf
      repeat' first | (refine goN hE 100 rfl ?_; conv => whnf) | refine Exists.intro i (And.intro rfl ?_) | refine Exists.intro _ (And.intro get ?_) | refine .pure _ [] h1 ?_ | refine .pure _ [] h2 ?_ | refine .pure _ [] h3 ?_ | refine .pure _ [] h4 ?_ | refine .pure _ [] h5 ?_ | refine .pure _ [] h6 ?_ | exact rfl | refine And.intro (fun _ => ?_) (fun h => absurd (show true = false from h) (by decide)) | refine And.intro (fun h => absurd (show false = true from h) (by decide)) (fun _ => ?_) | refine And.intro (fun h => ?_) (fun h => absurd (of_decide_eq_false h) (by omega)) | refine And.intro (fun h => absurd (of_decide_eq_true h) (by omega)) (fun h => ?_) | refine And.intro (fun h => ?_) (fun h => ?_) | refine Or.inl (And.intro (And.intro (by simp only [kmin]; omega) (by simp only [kmax]; omega)) ?_) | refine Exists.intro _ (And.intro rfl ?_) | refine And.intro (by decide) ?_ | refine And.intro (by omega) ?_ | fail
    | true =>
      rw [hq, Bool.true_and] at hr
      rw [hq] at h6
      have next := next hr
      refine goes hE 100 ?_
      conv => whnf
      repeat' first | (refine goN hE 100 rfl ?_; conv => whnf) | refine Exists.intro i (And.intro rfl ?_) | refine Exists.intro _ (And.intro get ?_) | refine .pure _ [] h1 ?_ | refine .pure _ [] h2 ?_ | refine .pure _ [] h3 ?_ | refine .pure _ [] h4 ?_ | refine .pure _ [] h5 ?_ | refine .pure _ [] h6 ?_ | exact rfl | refine And.intro (fun _ => ?_) (fun h => absurd (show true = false from h) (by decide)) | refine And.intro (fun h => absurd (show false = true from h) (by decide)) (fun _ => ?_) | refine And.intro (fun h => ?_) (fun h => absurd (of_decide_eq_false h) (by omega)) | refine And.intro (fun h => absurd (of_decide_eq_true h) (by omega)) (fun h => ?_) | refine And.intro (fun h => ?_) (fun h => ?_) | refine Or.inl (And.intro (And.intro (by simp only [kmin]; omega) (by simp only [kmax]; omega)) ?_) | refine Exists.intro _ (And.intro rfl ?_) | refine And.intro (by decide) ?_ | refine And.intro (by omega) ?_ | fail
      exact To.cut [1, 2, 4, 7, 10, 11] 2 rfl rfl rfl rfl next
theorem upL_head {ns : List Nod} {t : Int} (h0 : 0 ≤ t) (h1 : t.toNat < ns.length) : ∃ r, upL ns t = t :: r := by
  unfold upL upF
  rw [if_pos (decide_eq_true h0), dif_pos h1]
  split
  · exact ⟨_, rfl⟩
  · exact ⟨_, rfl⟩
theorem leafB_ok {ns : List Nod} {t : Int} (h : leafB ns t = true) : 0 ≤ t ∧ t.toNat < ns.length := by
  unfold leafB at h
  by_cases h1 : 0 ≤ t
  · rw [if_pos (decide_eq_true h1)] at h
    by_cases h2 : t < (ns.length : Int)
    · omega
    · rw [if_neg (by rw [decide_eq_false h2]; decide)] at h
      cases h
  · rw [if_neg (by rw [decide_eq_false h1]; decide)] at h
    cases h
theorem may_split (c : Con) (used : List V3) (t : Int) (need : V3) (r : List Int) (hu : upL c.ns t = t :: r) : (upL c.ns t).all (mayP c used t need) = (ownB c used need t && ((pathL c.ns t).take ((pathL c.ns t).length - 1)).all fun x => allB c used need t x) := by
  have hpw := upF_pw c.ns (t.toNat + 1) t
  have hpw : (upL c.ns t).Pairwise fun a b => b < a := hpw
  unfold pathL
  rw [hu] at hpw ⊢
  rw [List.all_cons]
  unfold mayP
  rw [if_pos (decide_eq_true rfl)]
  congr 1
  have e : (List.take ((t :: r).reverse.length - 1) (t :: r).reverse) = r.reverse := by
    rw [List.reverse_cons, List.length_append, List.length_reverse]
    show List.take (r.length + 1 - 1) _ = _
    rw [Nat.add_sub_cancel, List.take_append_of_le_length (by simp)]
    exact List.take_of_length_le (by simp)
  rw [e, List.all_reverse]
  rw [Bool.eq_iff_iff, List.all_eq_true, List.all_eq_true]
  have hne : ∀ x ∈ r, ¬ x = t := fun x hx => by
    have := (List.pairwise_cons.1 hpw).1 x hx
    omega
  constructor
  · intro h x hx
    have := h x hx
    rwa [if_neg (by rw [decide_eq_false (hne x hx)]; decide)] at this
  · intro h x hx
    rw [if_neg (by rw [decide_eq_false (hne x hx)]; decide)]
    exact h x hx
theorem rqmay_any (c : Con) (hc : c.sm) (used : List V3) (t : Int) (need : V3) (r : Bool) (hr : mayB c used t need = r) : CallOK Tryz.prog 55 [c.av, .slice 3 (vav used) .no, ii t, need.av] [] (.ret (.bool r)) [] := by
  have hlf := rleaf_ok c hc t
  rw [rlB_eq] at hlf
  unfold mayB at hr
  cases hq : leafB c.ns t with
  | false =>
    rw [hq] at hlf
    rw [if_neg (by rw [hq]; decide)] at hr
    subst hr
    refine CallOK.to (E := E) (fn := Tryz.f55) (g := .pure _) (by rfl) (by rfl) (by rfl) (fun _ _ => by rfl) (by decide +kernel) (by rfl) (by rfl) (by rfl) fun _ => ?_
    repeat' first | (refine goN hE 100 rfl ?_; conv => whnf) | refine .pure _ [] hlf ?_ | exact rfl | refine And.intro (fun _ => ?_) (fun h => absurd (show true = false from h) (by decide)) | refine And.intro (fun h => absurd (show false = true from h) (by decide)) (fun _ => ?_) | refine And.intro (fun h => ?_) (fun h => absurd (of_decide_eq_false h) (by omega)) | refine And.intro (fun h => absurd (of_decide_eq_true h) (by omega)) (fun h => ?_) | refine And.intro (fun h => ?_) (fun h => ?_) | refine Or.inl (And.intro (And.intro (by simp only [kmin]; omega) (by simp only [kmax]; omega)) ?_) | refine Exists.intro _ (And.intro rfl ?_) | refine And.intro (by decide) ?_ | refine And.intro (by omega) ?_ | fail
  | true =>
    rw [hq] at hlf
    rw [if_pos hq] at hr
    obtain ⟨g0, g1⟩ := leafB_ok hq
    obtain ⟨rr, hu⟩ := upL_head g0 g1
    rw [may_split c used t need rr hu] at hr
    have hpl := pathL_len c.ns t
    have hpp : 0 < (pathL c.ns t).length := by unfold pathL; rw [hu]; simp
    have hp := rpath_ok c hc t
    generalize pathL c.ns t = l at hr hpl hp hpp
    have hcn := hc.ns
    have hn : t = (t.toNat : Int) := by omega
    have getn := rnod_get (c := c) (i := t.toNat) g1
    rw [← hn] at getn
    unfold ownB at hr
    generalize nodAt c.ns t = x at getn hr
    have h1 := rat3_ok used t
    generalize atV used t = q1 at h1 hr
    have h2 := radd_ok q1 need
    generalize vadd q1 need = q2 at h2 hr
    have h3 := radd_ok x.n x.b
    generalize vadd x.n x.b = q3 at h3 hr
    have h4 := rfits_ok q2 q3
    cases hw : vfits q2 q3 with
    | false =>
      rw [hw] at h4 hr
      have hr : false = r := hr
      subst hr
      refine CallOK.to (E := E) (fn := Tryz.f55) (g := .pure _) (by rfl) (by rfl) (by rfl) (fun _ _ => by rfl) (by decide +kernel) (by rfl) (by rfl) (by rfl) fun _ => ?_
      repeat' first | (refine goN hE 100 rfl ?_; conv => whnf) | refine .pure _ [] hlf ?_ | refine Exists.intro t.toNat (And.intro hn ?_) | refine Exists.intro _ (And.intro getn ?_) | refine .pure _ [] h1 ?_ | refine .pure _ [] h2 ?_ | refine .pure _ [] h3 ?_ | refine .pure _ [] h4 ?_ | exact rfl | refine And.intro (fun _ => ?_) (fun h => absurd (show true = false from h) (by decide)) | refine And.intro (fun h => absurd (show false = true from h) (by decide)) (fun _ => ?_) | refine And.intro (fun h => ?_) (fun h => absurd (of_decide_eq_false h) (by omega)) | refine And.intro (fun h => absurd (of_decide_eq_true h) (by omega)) (fun h => ?_) | refine And.intro (fun h => ?_) (fun h => ?_) | refine Or.inl (And.intro (And.intro (by simp only [kmin]; omega) (by simp only [kmax]; omega)) ?_) | refine Exists.intro _ (And.intro rfl ?_) | refine And.intro (by decide) ?_ | refine And.intro (by omega) ?_ | fail
    | true =>
      rw [hw, Bool.true_and] at hr
      rw [hw] at h4
      refine CallOK.to (E := E) (fn := Tryz.f55) (g := .pure _) (by rfl) (by rfl) (by rfl) (fun _ _ => by rfl) (by decide +kernel) (by rfl) (by rfl) (by rfl) fun _ => ?_
      repeat' first | (refine goN hE 100 rfl ?_; conv => whnf) | refine .pure _ [] hlf ?_ | refine Exists.intro t.toNat (And.intro hn ?_) | refine Exists.intro _ (And.intro getn ?_) | refine .pure _ [] h1 ?_ | refine .pure _ [] h2 ?_ | refine .pure _ [] h3 ?_ | refine .pure _ [] h4 ?_ | refine .pure _ [] hp ?_ | exact rfl | refine And.intro (fun _ => ?_) (fun h => absurd (show true = false from h) (by decide)) | refine And.intro (fun h => absurd (show false = true from h) (by decide)) (fun _ => ?_) | refine And.intro (fun h => ?_) (fun h => absurd (of_decide_eq_false h) (by omega)) | refine And.intro (fun h => absurd (of_decide_eq_true h) (by omega)) (fun h => ?_) | refine And.intro (fun h => ?_) (fun h => ?_) | refine Or.inl (And.intro (And.intro (by simp only [kmin]; omega) (by simp only [kmax]; omega)) ?_) | refine Exists.intro _ (And.intro rfl ?_) | refine And.intro (by decide) ?_ | refine And.intro (by omega) ?_ | fail
      exact To.cut [1, 2, 4, 7, 10, 11] 2 rfl rfl rfl rfl (rmay_loop c hc used t need need l (by omega) r (l.length - 1) 0 (by omega) hr)
theorem rqmay_ok (c : Con) (hc : c.sm) (used : List V3) (t : Int) (need : V3) : CallOK Tryz.prog 55 [c.av, .slice 3 (vav used) .no, ii t, need.av] [] (.ret (.bool (mayB c used t need))) [] := rqmay_any c hc used t need _ rfl
end Go.Proofs.YtlalcoklkafnnaaGreat

namespace Go.Proofs.YtlalcoklkafnnaaGreat
open Go Go.AW Go.Proofs
set_option maxRecDepth 10000

/- ---------- Of ---------- -/
noncomputable abbrev fROf : Func := Tryz.f28
abbrev ofO (c : Con) (xs : List V3) : List AObj := [.cells 25 c.cs, .row 0 3 32 (vav xs)]
theorem rof_in (c : Con) (l : List Rn) (R : List V3) (x : Rn) (j : Nat) (hj : j < 1048576) (hx : (rav l)[j]? = some x.av) (p : List Int) (hpl : p.length ≤ 1048576) (hpo : ∀ k ∈ p, 0 ≤ k ∧ k.toNat < c.ns.length) :
    ∀ (m i : Nat) (xs : List V3), xs.length = c.ns.length → i + m = p.length →
      To E fROf (.pure (.ret (.slice 3 (vav R) .no))) (.head (stk fROf 0) [(1, .slice 14 (rav l) .no), (2, .ref 0 0), (5, .row 1 0), (6, ii ((j : Int) + 1))] (ofO c ((p.drop i).foldl (addP (dem x.g)) xs))) →
    To E fROf (.pure (.ret (.slice 3 (vav R) .no))) (.head (stk fROf 1) [(1, .slice 14 (rav l) .no), (2, .ref 0 0), (5, .row 1 0), (6, ii j), (7, .slice 1 (iv p) .no), (8, ii i)] (ofO c xs)) := by
  have hlen : (iv p).length = p.length := by simp
  have hll : (rav l).length = l.length := by simp
  intro m
  induction m with
  | zero =>
    intro i xs hxl hi hto
    rw [List.drop_eq_nil_of_le (by omega)] at hto
    refine goes hE 100 ?_
    conv => whnf
    refine And.intro (fun h => absurd (of_decide_eq_true h) (by omega)) (fun h => ?_)
    refine goes hE 100 ?_
    conv => whnf
    refine Or.inl (And.intro (And.intro (by simp only [kmin]; omega) (by simp only [kmax]; omega)) ?_)
    refine goes hE 100 ?_
    conv => whnf
    exact To.cut [1, 2, 5, 6] 2 rfl rfl rfl rfl hto
  | succ m ih =>
    intro i xs hxl hi hto
    have hlt : i < p.length := by omega
    obtain ⟨k0, k1⟩ := hpo _ (List.getElem_mem hlt)
    rw [List.drop_eq_getElem_cons hlt, List.foldl_cons] at hto
    have get := iv_get hlt
    generalize p[i] = k at hto get k0 k1
    have hn : k = (k.toNat : Int) := by omega
    have hvl : (vav xs).length = xs.length := by simp
    have next := ih (i + 1) (addP (dem x.g) xs k) (by rw [addP_len]; exact hxl) (by omega) hto
    have hl2 : k.toNat < xs.length := by omega
    have gv : (vav xs)[k.toNat]? = some xs[k.toNat].av := vav_get hl2
    unfold addP at next
    rw [List.getElem?_eq_getElem hl2, show ((some xs[k.toNat]).getD V3.zero) = xs[k.toNat] from rfl] at next
    generalize xs[k.toNat] = u at gv next
    have hd := rdem_ok x.g
    generalize dem x.g = d at hd next hto
    have ha := radd_ok u d
    generalize vadd u d = q at ha next
    unfold ofO at next
    rw [← vav_set] at next
    refine goes hE 100 ?_
    conv => whnf
    refine And.intro (fun h => ?_) (fun h => absurd (of_decide_eq_false h) (by omega))
    repeat' first
      | (refine goN hE 100 rfl ?_; conv => whnf)
      | refine Exists.intro i (And.intro rfl ?_)
      | refine Exists.intro k.toNat (And.intro hn ?_)
      | refine Exists.intro j (And.intro rfl ?_)
      | refine Exists.intro _ (And.intro get ?_)
      | refine Exists.intro _ (And.intro gv ?_)
      | refine Exists.intro _ (And.intro hx ?_)
      | refine .pure _ [] hd ?_
      | refine .pure _ [] ha ?_
      | refine And.intro (by omega) ?_
      | refine Or.inl (And.intro (And.intro (by simp only [kmin]; omega) (by simp only [kmax]; omega)) ?_)
      | fail
    exact To.cut [1, 2, 5, 6, 7, 8] 2 rfl rfl rfl rfl next
theorem rof_out (c : Con) (hc : c.sm) (l : List Rn) (hl : l.length ≤ 1048576) (R : List V3) : ∀ (m i : Nat) (xs : List V3), i + m = l.length → xs.length = c.ns.length → (l.drop i).foldl (rofX c) xs = R →
    To E fROf (.pure (.ret (.slice 3 (vav R) .no))) (.head (stk fROf 0) [(1, .slice 14 (rav l) .no), (2, .ref 0 0), (5, .row 1 0), (6, ii i)] (ofO c xs)) := by
  have hlen : (rav l).length = l.length := by simp
  have hcn := hc.ns
  intro m
  induction m with
  | zero =>
    intro i xs hi hx hR
    rw [List.drop_eq_nil_of_le (by omega)] at hR
    subst hR
    refine goes hE 100 ?_
    conv => whnf
    refine And.intro (fun h => absurd (of_decide_eq_true h) (by omega)) (fun h => ?_)
    repeat' first | (refine goN hE 100 rfl ?_; conv => whnf) | exact rfl | refine And.intro (fun _ => ?_) (fun h => absurd (show true = false from h) (by decide)) | refine And.intro (fun h => absurd (show false = true from h) (by decide)) (fun _ => ?_) | refine And.intro (fun h => ?_) (fun h => absurd (of_decide_eq_false h) (by omega)) | refine And.intro (fun h => absurd (of_decide_eq_true h) (by omega)) (fun h => ?_) | refine And.intro (fun h => ?_) (fun h => ?_) | refine Or.inl (And.intro (And.intro (by simp only [kmin]; omega) (by simp only [kmax]; omega)) ?_) | refine Exists.intro _ (And.intro rfl ?_) | refine And.intro (by decide) ?_ | refine And.intro (by omega) ?_ | fail
  | succ m ih =>
    intro i xs hi hx hR
    have hlt : i < l.length := by omega
    rw [List.drop_eq_getElem_cons hlt, List.foldl_cons] at hR
    have get : (rav l)[i]? = some l[i].av := rav_get hlt
    generalize l[i] = x at hR get
    have next := ih (i + 1) (rofX c xs x) (by omega) (by rw [rofX_len]; exact hx) hR
    have hlf := rleaf_ok c hc x.g.ten
    rw [rlB_eq] at hlf
    unfold rofX at next
    cases hq : leafB c.ns x.g.ten with
    | false =>
      rw [hq] at hlf
      rw [if_neg (by rw [hq]; decide)] at next
      refine goes hE 100 ?_
      conv => whnf
      refine And.intro (fun h => ?_) (fun h => absurd (of_decide_eq_false h) (by omega))
      repeat' first | (refine goN hE 100 rfl ?_; conv => whnf) | refine Exists.intro i (And.intro rfl ?_) | refine Exists.intro _ (And.intro get ?_) | refine .pure _ [] hlf ?_ | exact rfl | refine And.intro (fun _ => ?_) (fun h => absurd (show true = false from h) (by decide)) | refine And.intro (fun h => absurd (show false = true from h) (by decide)) (fun _ => ?_) | refine And.intro (fun h => ?_) (fun h => absurd (of_decide_eq_false h) (by omega)) | refine And.intro (fun h => absurd (of_decide_eq_true h) (by omega)) (fun h => ?_) | refine And.intro (fun h => ?_) (fun h => ?_) | refine Or.inl (And.intro (And.intro (by simp only [kmin]; omega) (by simp only [kmax]; omega)) ?_) | refine Exists.intro _ (And.intro rfl ?_) | refine And.intro (by decide) ?_ | refine And.intro (by omega) ?_ | fail
      exact To.cut [1, 2, 5, 6] 2 rfl rfl rfl rfl next
    | true =>
      rw [hq] at hlf
      rw [if_pos hq] at next
      have hp := rpath_ok c hc x.g.ten
      have hpl := pathL_len c.ns x.g.ten
      have hpo : ∀ k ∈ pathL c.ns x.g.ten, 0 ≤ k ∧ k.toNat < c.ns.length := fun k hk => upF_ok _ _ _ _ (List.mem_reverse.1 hk)
      generalize pathL c.ns x.g.ten = p at hp hpl hpo next
      have hin := rof_in c l R x i (by omega) get p (by omega) hpo p.length 0 xs hx (by omega) next
      refine goes hE 100 ?_
      conv => whnf
      refine And.intro (fun h => ?_) (fun h => absurd (of_decide_eq_false h) (by omega))
      repeat' first | (refine goN hE 100 rfl ?_; conv => whnf) | refine Exists.intro i (And.intro rfl ?_) | refine Exists.intro _ (And.intro get ?_) | refine .pure _ [] hlf ?_ | refine .pure _ [] hp ?_ | exact rfl | refine And.intro (fun _ => ?_) (fun h => absurd (show true = false from h) (by decide)) | refine And.intro (fun h => absurd (show false = true from h) (by decide)) (fun _ => ?_) | refine And.intro (fun h => ?_) (fun h => absurd (of_decide_eq_false h) (by omega)) | refine And.intro (fun h => absurd (of_decide_eq_true h) (by omega)) (fun h => ?_) | refine And.intro (fun h => ?_) (fun h => ?_) | refine Or.inl (And.intro (And.intro (by simp only [kmin]; omega) (by simp only [kmax]; omega)) ?_) | refine Exists.intro _ (And.intro rfl ?_) | refine And.intro (by decide) ?_ | refine And.intro (by omega) ?_ | fail
      exact To.cut [1, 2, 5, 6, 7, 8] 2 rfl rfl rfl rfl hin
theorem rof_ok (c : Con) (hc : c.sm) (l : List Rn) (hl : l.length ≤ 1048576) : CallOK Tryz.prog 28 [c.av, .slice 14 (rav l) .no] [] (.ret (.slice 3 (vav (ofL c l)) .no)) [] := by
  have h1 := hc.ns
  have hlen : (nav c.ns).length = c.ns.length := by simp
  rw [← of_eq]
  have next := rof_out c hc l hl (rofL c l) l.length 0 (List.replicate c.ns.length V3.zero) (by omega) (by simp) rfl
  unfold ofO at next
  rw [show vav (List.replicate c.ns.length V3.zero) = List.replicate c.ns.length (AVal.agg [ii 0, ii 0, ii 0]) from by simp [vav, V3.av, V3.zero, V3.cs]] at next
  generalize rofL c l = R at next
  refine CallOK.to (E := E) (fn := Tryz.f28) (g := .pure _) (by rfl) (by rfl) (by rfl) (fun _ _ => by rfl) (by decide +kernel) (by rfl) (by rfl) (by rfl) fun _ => ?_
  refine goes hE 100 ?_
  conv => whnf
  refine ⟨c.ns.length, by rw [hlen], ?_⟩
  refine goes hE 100 ?_
  conv => whnf
  refine ⟨⟨rfl, by omega, by simp only [maxLen]; omega⟩, ?_⟩
  refine goes hE 100 ?_
  conv => whnf
  exact To.cut [1, 2, 5, 6] 2 rfl rfl rfl rfl next

/- ---------- Free ---------- -/
noncomputable abbrev fRFree : Func := Tryz.f26
theorem rfree_in (c : Con) (r : List Rn) (R : List V3) (x : Rn) (j : Nat) (hj : j < 1048576) (hx : (rav r)[j]? = some x.av) (hh : x.hs.length ≤ 1048576) (hc : c.hs.length ≤ 1048576) :
    ∀ (m i : Nat) (xs : List V3), xs.length = c.hs.length → i + m = x.hs.length →
      To (Er [5] []) fRFree (.pure (.ret (.slice 3 (vav R) .no))) (.head (stk fRFree 1) [(1, .slice 14 (rav r) .no), (5, .row 1 0), (7, ii ((j : Int) + 1))] (ofO c ((x.hs.drop i).foldl (freeS x.g.need) xs))) →
    To (Er [5] []) fRFree (.pure (.ret (.slice 3 (vav R) .no))) (.head (stk fRFree 2) [(1, .slice 14 (rav r) .no), (5, .row 1 0), (7, ii j), (8, ii i)] (ofO c xs)) := by
  have hlen : (iv x.hs).length = x.hs.length := by simp
  have hll : (rav r).length = r.length := by simp
  intro m
  induction m with
  | zero =>
    intro i xs hxl hi hto
    rw [List.drop_eq_nil_of_le (by omega)] at hto
    refine goes (hEr [5] []) 100 ?_
    conv => whnf
    refine ⟨j, rfl, ?_⟩
    refine goes (hEr [5] []) 100 ?_
    conv => whnf
    refine ⟨_, hx, ?_⟩
    refine goes (hEr [5] []) 100 ?_
    conv => whnf
    refine And.intro (fun h => absurd (of_decide_eq_true h) (by omega)) (fun h => ?_)
    refine goes (hEr [5] []) 100 ?_
    conv => whnf
    refine Or.inl (And.intro (And.intro (by simp only [kmin]; omega) (by simp only [kmax]; omega)) ?_)
    refine goes (hEr [5] []) 100 ?_
    conv => whnf
    refine To.part [1, 5, 7] [0, 1] rfl rfl rfl ?_
    exact hto
  | succ m ih =>
    intro i xs hxl hi hto
    have hlt : i < x.hs.length := by omega
    rw [List.drop_eq_getElem_cons hlt, List.foldl_cons] at hto
    have get := iv_get hlt
    generalize x.hs[i] = u0 at hto get
    have hvl : (vav xs).length = xs.length := by simp
    have next := ih (i + 1) (freeS x.g.need xs u0) (by rw [freeS_len]; exact hxl) (by omega) hto
    unfold freeS ofO at next
    by_cases h1 : 0 ≤ u0
    · rw [if_pos (decide_eq_true h1)] at next
      by_cases h2 : u0 < (xs.length : Int)
      · rw [if_pos (decide_eq_true h2)] at next
        have hl2 : u0.toNat < xs.length := by omega
        have hn : u0 = (u0.toNat : Int) := by omega
        rw [List.getElem?_eq_getElem hl2] at next
        have gv : (vav xs)[u0.toNat]? = some xs[u0.toNat].av := vav_get hl2
        rw [show ((some xs[u0.toNat]).getD V3.zero) = xs[u0.toNat] from rfl] at next
        generalize xs[u0.toNat] = u at gv next
        have hsb := rsub_ok u x.g.need
        generalize vsub u x.g.need = q at hsb next
        rw [← vav_set] at next
        refine goes (hEr [5] []) 100 ?_
        conv => whnf
        refine ⟨j, rfl, ?_⟩
        refine goes (hEr [5] []) 100 ?_
        conv => whnf
        refine ⟨_, hx, ?_⟩
        refine goes (hEr [5] []) 100 ?_
        conv => whnf
        refine And.intro (fun h => ?_) (fun h => absurd (of_decide_eq_false h) (by omega))
        repeat' first | (refine goN (hEr [5] []) 100 rfl ?_; conv => whnf) | refine Exists.intro i (And.intro rfl ?_) | refine Exists.intro j (And.intro rfl ?_) | refine Exists.intro u0.toNat (And.intro hn ?_) | refine Exists.intro _ (And.intro get ?_) | refine Exists.intro _ (And.intro hx ?_) | refine Exists.intro _ (And.intro gv ?_) | refine .pure _ [] hsb ?_ | exact rfl | refine And.intro (fun _ => ?_) (fun h => absurd (show true = false from h) (by decide)) | refine And.intro (fun h => absurd (show false = true from h) (by decide)) (fun _ => ?_) | refine And.intro (fun h => ?_) (fun h => absurd (of_decide_eq_false h) (by omega)) | refine And.intro (fun h => absurd (of_decide_eq_true h) (by omega)) (fun h => ?_) | refine And.intro (fun h => ?_) (fun h => ?_) | refine Or.inl (And.intro (And.intro (by simp only [kmin]; omega) (by simp only [kmax]; omega)) ?_) | refine Exists.intro _ (And.intro rfl ?_) | refine And.intro (by decide) ?_ | refine And.intro (by omega) ?_ | fail
        refine To.part [1, 5, 7, 8] [0, 1] rfl rfl rfl ?_
        exact next
      · rw [if_neg (by rw [decide_eq_false h2]; decide)] at next
        refine goes (hEr [5] []) 100 ?_
        conv => whnf
        refine ⟨j, rfl, ?_⟩
        refine goes (hEr [5] []) 100 ?_
        conv => whnf
        refine ⟨_, hx, ?_⟩
        refine goes (hEr [5] []) 100 ?_
        conv => whnf
        refine And.intro (fun h => ?_) (fun h => absurd (of_decide_eq_false h) (by omega))
        repeat' first | (refine goN (hEr [5] []) 100 rfl ?_; conv => whnf) | refine Exists.intro i (And.intro rfl ?_) | refine Exists.intro j (And.intro rfl ?_) | refine Exists.intro _ (And.intro get ?_) | refine Exists.intro _ (And.intro hx ?_) | exact rfl | refine And.intro (fun _ => ?_) (fun h => absurd (show true = false from h) (by decide)) | refine And.intro (fun h => absurd (show false = true from h) (by decide)) (fun _ => ?_) | refine And.intro (fun h => ?_) (fun h => absurd (of_decide_eq_false h) (by omega)) | refine And.intro (fun h => absurd (of_decide_eq_true h) (by omega)) (fun h => ?_) | refine And.intro (fun h => ?_) (fun h => ?_) | refine Or.inl (And.intro (And.intro (by simp only [kmin]; omega) (by simp only [kmax]; omega)) ?_) | refine Exists.intro _ (And.intro rfl ?_) | refine And.intro (by decide) ?_ | refine And.intro (by omega) ?_ | fail
        refine To.part [1, 5, 7, 8] [0, 1] rfl rfl rfl ?_
        exact next
    · rw [if_neg (by rw [decide_eq_false h1]; decide)] at next
      refine goes (hEr [5] []) 100 ?_
      conv => whnf
      refine ⟨j, rfl, ?_⟩
      refine goes (hEr [5] []) 100 ?_
      conv => whnf
      refine ⟨_, hx, ?_⟩
      refine goes (hEr [5] []) 100 ?_
      conv => whnf
      refine And.intro (fun h => ?_) (fun h => absurd (of_decide_eq_false h) (by omega))
      repeat' first | (refine goN (hEr [5] []) 100 rfl ?_; conv => whnf) | refine Exists.intro i (And.intro rfl ?_) | refine Exists.intro j (And.intro rfl ?_) | refine Exists.intro _ (And.intro get ?_) | refine Exists.intro _ (And.intro hx ?_) | exact rfl | refine And.intro (fun _ => ?_) (fun h => absurd (show true = false from h) (by decide)) | refine And.intro (fun h => absurd (show false = true from h) (by decide)) (fun _ => ?_) | refine And.intro (fun h => ?_) (fun h => absurd (of_decide_eq_false h) (by omega)) | refine And.intro (fun h => absurd (of_decide_eq_true h) (by omega)) (fun h => ?_) | refine And.intro (fun h => ?_) (fun h => ?_) | refine Or.inl (And.intro (And.intro (by simp only [kmin]; omega) (by simp only [kmax]; omega)) ?_) | refine Exists.intro _ (And.intro rfl ?_) | refine And.intro (by decide) ?_ | refine And.intro (by omega) ?_ | fail
      refine To.part [1, 5, 7, 8] [0, 1] rfl rfl rfl ?_
      exact next
theorem rfree_out (c : Con) (hc : c.sm) (r : List Rn) (hr : Sm r) (R : List V3) : ∀ (m i : Nat) (xs : List V3), i + m = r.length → xs.length = c.hs.length → (r.drop i).foldl freeX xs = R →
    To (Er [5] []) fRFree (.pure (.ret (.slice 3 (vav R) .no))) (.head (stk fRFree 1) [(1, .slice 14 (rav r) .no), (5, .row 1 0), (7, ii i)] (ofO c xs)) := by
  have hlen : (rav r).length = r.length := by simp
  have hl := hr.1
  intro m
  induction m with
  | zero =>
    intro i xs hi hx hR
    rw [List.drop_eq_nil_of_le (by omega)] at hR
    subst hR
    refine goes (hEr [5] []) 100 ?_
    conv => whnf
    refine And.intro (fun h => absurd (of_decide_eq_true h) (by omega)) (fun h => ?_)
    repeat' first | (refine goN (hEr [5] []) 100 rfl ?_; conv => whnf) | exact rfl | refine And.intro (fun _ => ?_) (fun h => absurd (show true = false from h) (by decide)) | refine And.intro (fun h => absurd (show false = true from h) (by decide)) (fun _ => ?_) | refine And.intro (fun h => ?_) (fun h => absurd (of_decide_eq_false h) (by omega)) | refine And.intro (fun h => absurd (of_decide_eq_true h) (by omega)) (fun h => ?_) | refine And.intro (fun h => ?_) (fun h => ?_) | refine Or.inl (And.intro (And.intro (by simp only [kmin]; omega) (by simp only [kmax]; omega)) ?_) | refine Exists.intro _ (And.intro rfl ?_) | refine And.intro (by decide) ?_ | refine And.intro (by omega) ?_ | fail
  | succ m ih =>
    intro i xs hi hx hR
    have hlt : i < r.length := by omega
    have hb := hr.at hlt
    rw [List.drop_eq_getElem_cons hlt, List.foldl_cons] at hR
    generalize hq : r[i] = x at hR hb
    have get : (rav r)[i]? = some x.av := (rav_get hlt).trans (by rw [hq])
    have next := ih (i + 1) (freeX xs x) (by omega) (by rw [freeX_len]; exact hx) hR
    refine goes (hEr [5] []) 100 ?_
    conv => whnf
    refine And.intro (fun h => ?_) (fun h => absurd (of_decide_eq_false h) (by omega))
    refine goes (hEr [5] []) 100 ?_
    conv => whnf
    refine To.part [1, 5, 7, 8] [0, 1] rfl rfl rfl ?_
    exact rfree_in c r R x i (by omega) get hb hc.hs x.hs.length 0 xs hx (by omega) next
theorem rfree_fill (c : Con) (hc : c.sm) (r : List Rn) (hr : Sm r) : ∀ (m i : Nat) (xs : List V3), i + m = c.hs.length → xs = (List.range i).map (fun j : Nat => (hosAt c.hs (j : Int)).c) →
    To (Er [5] []) fRFree (.pure (.ret (.slice 3 (vav (freeL c r)) .no))) (.head (stk fRFree 0) [(1, .slice 14 (rav r) .no), (2, .ref 0 0), (5, .row 1 0), (6, ii i)] (ofO c xs)) := by
  have hlen : (hav c.hs).length = c.hs.length := by simp
  have h1 := hc.hs
  intro m
  induction m with
  | zero =>
    intro i xs hi hx
    have hi : i = c.hs.length := by omega
    subst hi
    have next := rfree_out c hc r hr (freeL c r) r.length 0 xs (by omega) (by rw [hx]; simp) (by rw [hx]; rfl)
    refine goes (hEr [5] []) 100 ?_
    conv => whnf
    refine And.intro (fun h => absurd (of_decide_eq_true h) (by omega)) (fun h => ?_)
    refine goes (hEr [5] []) 100 ?_
    conv => whnf
    refine To.part [1, 5, 7] [0, 1] rfl rfl rfl ?_
    exact next
  | succ m ih =>
    intro i xs hi hx
    have hxl : xs.length = i := by rw [hx]; simp
    have hvl : (vav xs).length = xs.length := by simp
    have gn : (hav c.hs)[i]? = some (hosAt c.hs (i : Int)).av := hos_get (by omega)
    have next := ih (i + 1) (xs ++ [(hosAt c.hs (i : Int)).c]) (by omega) (by rw [hx, List.range_succ, List.map_append]; rfl)
    unfold ofO at next
    have e : vav (xs ++ [(hosAt c.hs (i : Int)).c]) = vav xs ++ [(hosAt c.hs (i : Int)).c.av] := by simp
    rw [e] at next
    generalize hosAt c.hs (i : Int) = x at gn next
    refine goes (hEr [5] []) 100 ?_
    conv => whnf
    refine And.intro (fun h => ?_) (fun h => absurd (of_decide_eq_false h) (by omega))
    repeat' first | (refine goN (hEr [5] []) 100 rfl ?_; conv => whnf) | refine Exists.intro i (And.intro rfl ?_) | refine Exists.intro _ (And.intro gn ?_) | refine And.intro (And.intro (by simp only [maxLen]; simp; omega) (by simp; omega)) ?_ | exact rfl | refine And.intro (fun _ => ?_) (fun h => absurd (show true = false from h) (by decide)) | refine And.intro (fun h => absurd (show false = true from h) (by decide)) (fun _ => ?_) | refine And.intro (fun h => ?_) (fun h => absurd (of_decide_eq_false h) (by omega)) | refine And.intro (fun h => absurd (of_decide_eq_true h) (by omega)) (fun h => ?_) | refine And.intro (fun h => ?_) (fun h => ?_) | refine Or.inl (And.intro (And.intro (by simp only [kmin]; omega) (by simp only [kmax]; omega)) ?_) | refine Exists.intro _ (And.intro rfl ?_) | refine And.intro (by decide) ?_ | refine And.intro (by omega) ?_ | fail
    refine To.part [1, 2, 5, 6] [0, 1] rfl rfl rfl ?_
    exact next
theorem rfree_ok (c : Con) (hc : c.sm) (r : List Rn) (hr : Sm r) : CallOK Tryz.prog 26 [c.av, .slice 14 (rav r) .no] [] (.ret (.slice 3 (vav (freeL c r)) .no)) [] := by
  refine CallOK.to (E := (Er [5] [])) (fn := Tryz.f26) (g := .pure _) (by rfl) (by rfl) (by rfl) (fun _ _ => by rfl) (by decide +kernel) (by rfl) (by rfl) (by rfl) fun _ => ?_
  refine goes (hEr [5] []) 100 ?_
  conv => whnf
  refine To.part [1, 2, 5, 6] [0, 1] rfl rfl rfl ?_
  exact rfree_fill c hc r hr c.hs.length 0 [] (by omega) rfl
end Go.Proofs.YtlalcoklkafnnaaGreat

namespace Go.Proofs.YtlalcoklkafnnaaGreat
open Go Go.AW Go.Proofs

/- ---------- groups ---------- -/
/-- are two hosts of one group, as the reference tells it -/
def alB (c : Con) (lv a b : Int) : Bool :=
  if lv = 0 then decide (a = b)
  else if lv = 1 then decide ((hosAt c.hs a).f = (hosAt c.hs b).f ∧ (hosAt c.hs a).b = (hosAt c.hs b).b ∧ (hosAt c.hs a).r = (hosAt c.hs b).r)
  else if lv = 2 then decide ((hosAt c.hs a).f = (hosAt c.hs b).f ∧ (hosAt c.hs a).b = (hosAt c.hs b).b)
  else decide ((hosAt c.hs a).f = (hosAt c.hs b).f)
abbrev keyG (c : Con) (lv a : Int) : List Int := ofK (hosAt c.hs a) a lv
theorem al_key (c : Con) (lv a b : Int) (h0 : 0 ≤ lv) (h3 : lv ≤ 3) : alB c lv a b = decide (keyG c lv a = keyG c lv b) := by
  unfold alB keyG ofK
  by_cases e0 : lv = 0
  · subst e0
    by_cases h : a = b
    · subst h; simp
    · simp [h]
  by_cases e1 : lv = 1
  · subst e1; simp
  by_cases e2 : lv = 2
  · subst e2; simp
  have e3 : lv = 3 := by omega
  subst e3
  simp
def rfindG (c : Con) (lv i : Int) : List (List Int) → Nat → Option Nat
  | [], _ => none
  | g :: r, k => if alB c lv (g.headD 0) i = true then some k else rfindG c lv i r (k + 1)
def rgS (c : Con) (lv : Int) (s : List (List Int)) (i : Nat) : List (List Int) :=
  match rfindG c lv (i : Int) s 0 with
  | some k => s.set k ((s[k]?).getD [] ++ [(i : Int)])
  | none => s ++ [[(i : Int)]]
def rgL (c : Con) (lv : Int) : List (List Int) := if decide (lv < 0) = true then [] else if decide (3 < lv) = true then [] else (List.range c.hs.length).foldl (rgS c lv) []
def keysG (c : Con) (lv : Int) : Nat → List (List Int) → List (List Int × Nat)
  | _, [] => []
  | k, g :: r => (keyG c lv (g.headD 0), k) :: keysG c lv (k + 1) r
theorem keysG_find (c : Con) (lv i : Int) (h0 : 0 ≤ lv) (h3 : lv ≤ 3) : ∀ (s : List (List Int)) (k : Nat), kfind (keysG c lv k s) (keyG c lv i) = rfindG c lv i s k
  | [], k => rfl
  | g :: r, k => by
    unfold keysG kfind rfindG
    rw [al_key c lv _ _ h0 h3, keysG_find c lv i h0 h3 r (k + 1)]
    by_cases h : keyG c lv (g.headD 0) = keyG c lv i
    · rw [if_pos h, if_pos (decide_eq_true h)]
    · rw [if_neg h, if_neg (by rw [decide_eq_false h]; decide)]
theorem keysG_set (c : Con) (lv i : Int) : ∀ (s : List (List Int)) (k m : Nat), (∀ g ∈ s, g ≠ []) → keysG c lv m (s.set k ((s[k]?).getD [] ++ [i])) = keysG c lv m s
  | [], k, m, _ => by simp
  | g :: r, 0, m, h => by
    have hg := h g (by simp)
    cases g with
    | nil => exact absurd rfl hg
    | cons a t => rfl
  | g :: r, k + 1, m, h => by
    have ih := keysG_set c lv i r k (m + 1) fun x hx => h x (by simp [hx])
    show _ :: keysG c lv (m + 1) (r.set k ((r[k]?).getD [] ++ [i])) = _
    rw [ih]
    rfl
theorem keysG_snoc (c : Con) (lv i : Int) : ∀ (s : List (List Int)) (m : Nat), keysG c lv m (s ++ [[i]]) = keysG c lv m s ++ [(keyG c lv i, m + s.length)]
  | [], m => rfl
  | g :: r, m => by
    show _ :: keysG c lv (m + 1) (r ++ [[i]]) = _ :: (keysG c lv (m + 1) r ++ _)
    rw [keysG_snoc c lv i r (m + 1)]
    simp only [List.length_cons]
    rw [show m + 1 + r.length = m + (r.length + 1) from by omega]
theorem rgS_eq (c : Con) (lv : Int) (h0 : 0 ≤ lv) (h3 : lv ≤ 3) (s : GSt) (i : Nat) (h1 : s.1 = keysG c lv 0 s.2) (h2 : ∀ g ∈ s.2, g ≠ []) :
    (gpS c lv s i).2 = rgS c lv s.2 i ∧ (gpS c lv s i).1 = keysG c lv 0 (rgS c lv s.2 i) ∧ ∀ g ∈ rgS c lv s.2 i, g ≠ [] := by
  have hf := keysG_find c lv (i : Int) h0 h3 s.2 0
  rw [← h1] at hf
  unfold gpS rgS
  have hf' : kfind s.1 (ofK (hosAt c.hs (i : Int)) i lv) = rfindG c lv (i : Int) s.2 0 := hf
  rw [hf']
  cases rfindG c lv (i : Int) s.2 0 with
  | some k =>
    refine ⟨rfl, ?_, fun g hg => ?_⟩
    · show s.1 = _
      rw [h1, keysG_set c lv i s.2 k 0 h2]
    · rcases List.mem_or_eq_of_mem_set hg with hg | rfl
      · exact h2 g hg
      · simp
  | none =>
    refine ⟨rfl, ?_, fun g hg => ?_⟩
    · show s.1 ++ _ = _
      rw [h1, keysG_snoc, Nat.zero_add]
    · rcases List.mem_append.1 hg with hg | hg
      · exact h2 g hg
      · simp at hg; subst hg; simp
theorem rgL_eq (c : Con) (lv : Int) : rgL c lv = gpL c lv := by
  unfold rgL gpL
  by_cases h1 : lv < 0
  · simp only [h1, decide_true, if_true]
  by_cases h2 : 3 < lv
  · simp only [h1, h2, decide_true, decide_false, if_true, if_false, Bool.false_eq_true]
  simp only [h1, h2, decide_false, if_false, Bool.false_eq_true]
  have key : ∀ (l : List Nat) (s : GSt), s.1 = keysG c lv 0 s.2 → (∀ g ∈ s.2, g ≠ []) → l.foldl (rgS c lv) s.2 = (l.foldl (gpS c lv) s).2 := fun l => by
    induction l with
    | nil => intro s _ _; rfl
    | cons i r ih =>
      intro s a b
      obtain ⟨e1, e2, e3⟩ := rgS_eq c lv (by omega) (by omega) s i a b
      rw [List.foldl_cons, List.foldl_cons, ← e1, ih _ (by rw [e1]; exact e2) (by rw [e1]; exact e3)]
  exact key _ ([], []) rfl (fun g hg => by simp at hg)

/- ---------- room ---------- -/
def rrF (free need : V3) : Nat → Int → Int
  | 0, n => n
  | f + 1, n => if vfits (vmul need (n + 1)) free = true then (if vfits need free = true then rrF free need f (n + 1) else n) else n
def rrI (free need : V3) : Int := rrF free need 16 0
theorem validB_iff {v : V3} (h : validB v = true) : (0 ≤ v.a ∧ v.a ≤ 1048576) ∧ (0 ≤ v.b ∧ v.b ≤ 1048576) ∧ (0 ≤ v.c ∧ v.c ≤ 1048576) := by
  unfold validB at h
  simpa [Bool.and_eq_true, and_assoc] using h
theorem vfits_iff {a b : V3} : vfits a b = true ↔ a.a ≤ b.a ∧ a.b ≤ b.b ∧ a.c ≤ b.c := by
  unfold vfits
  by_cases h1 : b.a < a.a
  · first | (simp [h1]; done) | (simp [h1]; omega)
  by_cases h2 : b.b < a.b
  · first | (simp [h1, h2]; done) | (simp [h1, h2]; omega)
  by_cases h3 : b.c < a.c
  · first | (simp [h1, h2, h3]; done) | (simp [h1, h2, h3]; omega)
  first | (simp [h1, h2, h3]; done) | (simp [h1, h2, h3]; omega)
theorem cutI_id {n m : Int} (h1 : -m ≤ n) (h2 : n ≤ m) : cutI n m = n := by unfold cutI; omega
theorem mul16 {x n : Int} (h1 : 0 ≤ x) (h2 : x ≤ 1048576) (h3 : 0 ≤ n) (h4 : n ≤ 16) : 0 ≤ x * n ∧ x * n ≤ 16777216 := by
  have h5 : x * n ≤ 1048576 * 16 := Int.mul_le_mul h2 h4 h3 (by decide)
  exact ⟨Int.mul_nonneg h1 h3, by omega⟩
theorem mulI_id {x n : Int} (h1 : 0 ≤ x) (h2 : x ≤ 1048576) (h3 : 0 ≤ n) (h4 : n ≤ 16) : mulI x n = x * n := by
  have := mul16 h1 h2 h3 h4
  unfold mulI
  rw [cutI_id (n := x) (by omega) (by omega), cutI_id (n := n) (by omega) (by omega), cutI_id (by omega) (by omega)]
theorem vmul_fits {need free : V3} (hv : validB need = true) {n : Int} (h0 : 0 ≤ n) (h1 : n ≤ 16) : vfits (vmul need n) free = true ↔ need.a * n ≤ free.a ∧ need.b * n ≤ free.b ∧ need.c * n ≤ free.c := by
  obtain ⟨⟨a1, a2⟩, ⟨b1, b2⟩, c1, c2⟩ := validB_iff hv
  rw [vfits_iff]
  show mulI need.a n ≤ free.a ∧ mulI need.b n ≤ free.b ∧ mulI need.c n ≤ free.c ↔ _
  rw [mulI_id a1 a2 h0 h1, mulI_id b1 b2 h0 h1, mulI_id c1 c2 h0 h1]
theorem roomS_le {m f k n : Int} (hk : 0 ≤ k) (hf : k ≤ f) : n ≤ roomS m f k ↔ n ≤ m ∧ k * n ≤ f := by
  unfold roomS
  by_cases h : 0 < k
  · rw [if_pos (decide_eq_true h), Int.tdiv_eq_ediv_of_nonneg (by omega)]
    have := Int.le_ediv_iff_mul_le h (a := n) (b := f)
    rw [Int.mul_comm] at this
    omega
  · have : k = 0 := by omega
    subst this
    rw [if_neg (by decide)]
    omega
theorem room_le {free need : V3} (hv : validB need = true) (hf : vfits need free = true) (n : Int) : n ≤ roomI free need ↔ n ≤ 16 ∧ need.a * n ≤ free.a ∧ need.b * n ≤ free.b ∧ need.c * n ≤ free.c := by
  obtain ⟨⟨a1, _⟩, ⟨b1, _⟩, c1, _⟩ := validB_iff hv
  obtain ⟨h1, h2, h3⟩ := vfits_iff.1 hf
  unfold roomI
  rw [if_pos hf, roomS_le c1 h3, roomS_le b1 h2, roomS_le a1 h1]
  constructor
  · rintro ⟨⟨⟨p1, p2⟩, p3⟩, p4⟩; exact ⟨p1, p2, p3, p4⟩
  · rintro ⟨p1, p2, p3, p4⟩; exact ⟨⟨⟨p1, p2⟩, p3⟩, p4⟩
theorem rrF_eq {free need : V3} (hv : validB need = true) (hf : vfits need free = true) : ∀ (f : Nat) (n : Int), 0 ≤ n → n + f = 16 → n ≤ roomI free need → rrF free need f n = roomI free need
  | 0, n, h0, h1, h2 => by
    have h3 := roomI_le free need
    unfold rrF
    omega
  | f + 1, n, h0, h1, h2 => by
    unfold rrF
    have hm := vmul_fits (free := free) hv (n := n + 1) (by omega) (by omega)
    have hr := room_le hv hf (n + 1)
    by_cases h : vfits (vmul need (n + 1)) free = true
    · rw [if_pos h, if_pos hf]
      exact rrF_eq hv hf f (n + 1) (by omega) (by omega) (hr.2 ⟨by omega, hm.1 h⟩)
    · rw [if_neg h]
      have : ¬ n + 1 ≤ roomI free need := fun h9 => h (hm.2 (hr.1 h9).2)
      omega
theorem rr_eq {free need : V3} (hv : validB need = true) : rrI free need = roomI free need := by
  unfold rrI
  by_cases hf : vfits need free = true
  · refine rrF_eq hv hf 16 0 (by decide) (by decide) ((room_le hv hf 0).2 ?_)
    obtain ⟨⟨a1, _⟩, ⟨b1, _⟩, c1, _⟩ := validB_iff hv
    obtain ⟨h1, h2, h3⟩ := vfits_iff.1 hf
    simp only [Int.mul_zero]
    omega
  · unfold rrF roomI
    rw [if_neg hf, if_neg hf]
    split <;> rfl
end Go.Proofs.YtlalcoklkafnnaaGreat

namespace Go.Proofs.YtlalcoklkafnnaaGreat
open Go Go.AW Go.Proofs
set_option maxRecDepth 10000

def vH (c : Con) (a : Int) : Prop := 0 ≤ a ∧ a.toNat < c.hs.length
theorem hosG {c : Con} {a : Int} (h : vH c a) : (hav c.hs)[a.toNat]? = some (hosAt c.hs a).av := by
  have := hos_get (c := c) (i := a.toNat) h.2
  rwa [Int.toNat_of_nonneg h.1] at this
noncomputable abbrev fAl : Func := Tryz.f110
theorem al_frz (c : Con) : frzs [0] [.cells 25 c.cs] = [.fcells c.cs] := by kernel_rfl
theorem al_frzF (c : Con) (lv a b : Int) : frzF [4] (oget [.fcells c.cs]) [(1, ii lv), (2, ii a), (3, ii b), (4, .ref 0 0), (8, .bool false)] = [(1, ii lv), (2, ii a), (3, ii b), (4, .ptr c.cs), (8, .bool false)] := by kernel_rfl
theorem al_step {g : Goal} {ks : List KI} (c : Con) (lv a b : Int) (h : To (Er [] [16, 17, 18, 19, 20]) fAl g (.code ks [(1, ii lv), (2, ii a), (3, ii b), (4, .ptr c.cs), (8, .bool false)] [.fcells c.cs])) :
    To (Er [] [16, 17, 18, 19, 20]) fAl g (.code ks [(1, ii lv), (2, ii a), (3, ii b), (4, .ref 0 0), (8, .bool false)] [.cells 25 c.cs]) := by
  refine To.frz [4] [0] ?_
  rw [al_frz, al_frzF]
  exact h
theorem alike_any (c : Con) (lv a b : Int) (h0 : 0 ≤ lv) (h3 : lv ≤ 3) (ha : vH c a) (hb : vH c b) (r : Bool) (hr : alB c lv a b = r) : CallOK Tryz.prog 110 [c.av, ii lv, ii a, ii b] [] (.ret (.bool r)) [] := by
  have ga := hosG ha
  have gb := hosG hb
  have na : a = (a.toNat : Int) := by have := ha.1; omega
  have nb : b = (b.toNat : Int) := by have := hb.1; omega
  unfold alB at hr
  generalize hosAt c.hs a = x at ga hr
  generalize hosAt c.hs b = y at gb hr
  by_cases e0 : lv = 0
  · subst e0
    rw [if_pos rfl] at hr
    subst hr
    refine CallOK.to (E := (Er [] [16, 17, 18, 19, 20])) (fn := Tryz.f110) (g := .pure _) (by rfl) (by rfl) (by rfl) (fun _ _ => by rfl) (by decide +kernel) (by rfl) (by rfl) (by rfl) fun _ => ?_
    refine goes (hEr [] [16, 17, 18, 19, 20]) 10 ?_
    conv => whnf
    refine To.cutC [1, 2, 3, 4, 8] 1 rfl rfl rfl rfl ?_
    refine al_step c _ a b ?_
    repeat' first | (refine goN (hEr [] [16, 17, 18, 19, 20]) 100 rfl ?_; conv => whnf) | refine Exists.intro a.toNat (And.intro na ?_) | refine Exists.intro b.toNat (And.intro nb ?_) | refine Exists.intro _ (And.intro ga ?_) | refine Exists.intro _ (And.intro gb ?_) | exact rfl | refine And.intro (fun _ => ?_) (fun h => absurd (show true = false from h) (by decide)) | refine And.intro (fun h => absurd (show false = true from h) (by decide)) (fun _ => ?_) | refine And.intro (fun h => ?_) (fun h => absurd (of_decide_eq_false h) (by omega)) | refine And.intro (fun h => absurd (of_decide_eq_true h) (by omega)) (fun h => ?_) | refine And.intro (fun h => ?_) (fun h => ?_) | refine Or.inl (And.intro (And.intro (by simp only [kmin]; omega) (by simp only [kmax]; omega)) ?_) | refine Exists.intro _ (And.intro rfl ?_) | refine And.intro (by decide) ?_ | refine And.intro (by omega) ?_ | fail
  by_cases e1 : lv = 1
  · subst e1
    rw [if_neg (by decide), if_pos rfl] at hr
    refine CallOK.to (E := (Er [] [16, 17, 18, 19, 20])) (fn := Tryz.f110) (g := .pure _) (by rfl) (by rfl) (by rfl) (fun _ _ => by rfl) (by decide +kernel) (by rfl) (by rfl) (by rfl) fun _ => ?_
    refine goes (hEr [] [16, 17, 18, 19, 20]) 10 ?_
    conv => whnf
    refine To.cutC [1, 2, 3, 4, 8] 1 rfl rfl rfl rfl ?_
    refine al_step c _ a b ?_
    repeat' first | (refine goN (hEr [] [16, 17, 18, 19, 20]) 100 rfl ?_; conv => whnf) | refine Exists.intro a.toNat (And.intro na ?_) | refine Exists.intro b.toNat (And.intro nb ?_) | refine Exists.intro _ (And.intro ga ?_) | refine Exists.intro _ (And.intro gb ?_) | exact rfl | refine And.intro (fun _ => ?_) (fun h => absurd (show true = false from h) (by decide)) | refine And.intro (fun h => absurd (show false = true from h) (by decide)) (fun _ => ?_) | refine And.intro (fun h => ?_) (fun h => absurd (of_decide_eq_false h) (by omega)) | refine And.intro (fun h => absurd (of_decide_eq_true h) (by omega)) (fun h => ?_) | refine And.intro (fun h => ?_) (fun h => ?_) | refine Or.inl (And.intro (And.intro (by simp only [kmin]; omega) (by simp only [kmax]; omega)) ?_) | refine Exists.intro _ (And.intro rfl ?_) | refine And.intro (by decide) ?_ | refine And.intro (by omega) ?_ | fail
    all_goals (refine congrArg (fun b => Res.ret (AVal.bool b)) ?_; rw [← hr]; clear ga gb na nb ha hb hr; simp_all <;> rfl)
  by_cases e2 : lv = 2
  · subst e2
    rw [if_neg (by decide), if_neg (by decide), if_pos rfl] at hr
    refine CallOK.to (E := (Er [] [16, 17, 18, 19, 20])) (fn := Tryz.f110) (g := .pure _) (by rfl) (by rfl) (by rfl) (fun _ _ => by rfl) (by decide +kernel) (by rfl) (by rfl) (by rfl) fun _ => ?_
    refine goes (hEr [] [16, 17, 18, 19, 20]) 10 ?_
    conv => whnf
    refine To.cutC [1, 2, 3, 4, 8] 1 rfl rfl rfl rfl ?_
    refine al_step c _ a b ?_
    repeat' first | (refine goN (hEr [] [16, 17, 18, 19, 20]) 100 rfl ?_; conv => whnf) | refine Exists.intro a.toNat (And.intro na ?_) | refine Exists.intro b.toNat (And.intro nb ?_) | refine Exists.intro _ (And.intro ga ?_) | refine Exists.intro _ (And.intro gb ?_) | exact rfl | refine And.intro (fun _ => ?_) (fun h => absurd (show true = false from h) (by decide)) | refine And.intro (fun h => absurd (show false = true from h) (by decide)) (fun _ => ?_) | refine And.intro (fun h => ?_) (fun h => absurd (of_decide_eq_false h) (by omega)) | refine And.intro (fun h => absurd (of_decide_eq_true h) (by omega)) (fun h => ?_) | refine And.intro (fun h => ?_) (fun h => ?_) | refine Or.inl (And.intro (And.intro (by simp only [kmin]; omega) (by simp only [kmax]; omega)) ?_) | refine Exists.intro _ (And.intro rfl ?_) | refine And.intro (by decide) ?_ | refine And.intro (by omega) ?_ | fail
    all_goals (refine congrArg (fun b => Res.ret (AVal.bool b)) ?_; rw [← hr]; clear ga gb na nb ha hb hr; simp_all <;> rfl)
  have e3 : lv = 3 := by omega
  subst e3
  rw [if_neg (by decide), if_neg (by decide), if_neg (by decide)] at hr
  subst hr
  refine CallOK.to (E := (Er [] [16, 17, 18, 19, 20])) (fn := Tryz.f110) (g := .pure _) (by rfl) (by rfl) (by rfl) (fun _ _ => by rfl) (by decide +kernel) (by rfl) (by rfl) (by rfl) fun _ => ?_
  refine goes (hEr [] [16, 17, 18, 19, 20]) 10 ?_
  conv => whnf
  refine To.cutC [1, 2, 3, 4, 8] 1 rfl rfl rfl rfl ?_
  refine al_step c _ a b ?_
  repeat' first | (refine goN (hEr [] [16, 17, 18, 19, 20]) 100 rfl ?_; conv => whnf) | refine Exists.intro a.toNat (And.intro na ?_) | refine Exists.intro b.toNat (And.intro nb ?_) | refine Exists.intro _ (And.intro ga ?_) | refine Exists.intro _ (And.intro gb ?_) | exact rfl | refine And.intro (fun _ => ?_) (fun h => absurd (show true = false from h) (by decide)) | refine And.intro (fun h => absurd (show false = true from h) (by decide)) (fun _ => ?_) | refine And.intro (fun h => ?_) (fun h => absurd (of_decide_eq_false h) (by omega)) | refine And.intro (fun h => absurd (of_decide_eq_true h) (by omega)) (fun h => ?_) | refine And.intro (fun h => ?_) (fun h => ?_) | refine Or.inl (And.intro (And.intro (by simp only [kmin]; omega) (by simp only [kmax]; omega)) ?_) | refine Exists.intro _ (And.intro rfl ?_) | refine And.intro (by decide) ?_ | refine And.intro (by omega) ?_ | fail
theorem alike_ok (c : Con) (lv a b : Int) (h0 : 0 ≤ lv) (h3 : lv ≤ 3) (ha : vH c a) (hb : vH c b) : CallOK Tryz.prog 110 [c.av, ii lv, ii a, ii b] [] (.ret (.bool (alB c lv a b))) [] := alike_any c lv a b h0 h3 ha hb _ rfl

/- ---------- Groups ---------- -/
noncomputable abbrev fRG : Func := Tryz.f71
abbrev rgO (c : Con) (s : List (List Int)) : List AObj := [.cells 25 c.cs, .row 0 1 37 (gav s)]
abbrev rgF (lv : Int) (i : Int) : List (Nat × AVal) := [(1, ii lv), (2, .ref 0 0), (5, .row 1 0), (6, ii i)]
/-- groups of hosts that are there, none without any -/
structure GH (c : Con) (i : Nat) (s : List (List Int)) : Prop where
  len : s.length ≤ i
  one : ∀ g ∈ s, g.length ≤ i ∧ ∃ a r, g = a :: r ∧ vH c a
theorem GH.step {c : Con} {lv : Int} {i : Nat} {s : List (List Int)} (h : GH c i s) (hi : i < c.hs.length) : GH c (i + 1) (rgS c lv s i) := by
  obtain ⟨h1, h2⟩ := h
  unfold rgS
  split
  · rename_i k hk
    refine ⟨by simp; omega, fun g hg => ?_⟩
    rcases List.mem_or_eq_of_mem_set hg with hg | rfl
    · obtain ⟨q1, q2⟩ := h2 g hg
      exact ⟨by omega, q2⟩
    · by_cases hk2 : k < s.length
      · rw [List.getElem?_eq_getElem hk2]
        obtain ⟨q1, a, r, q2, q3⟩ := h2 _ (List.getElem_mem hk2)
        refine ⟨by simp; omega, a, r ++ [(i : Int)], ?_, q3⟩
        show s[k] ++ _ = _
        rw [q2]; rfl
      · rw [List.getElem?_eq_none (by omega)]
        exact ⟨by simp, (i : Int), [], rfl, ⟨by omega, by omega⟩⟩
  · refine ⟨by simp; omega, fun g hg => ?_⟩
    rcases List.mem_append.1 hg with hg | hg
    · obtain ⟨q1, q2⟩ := h2 g hg
      exact ⟨by omega, q2⟩
    · simp at hg
      subst hg
      exact ⟨by simp, (i : Int), [], rfl, ⟨by omega, by omega⟩⟩
theorem gav_set (l : List (List Int)) (i : Nat) (x : List Int) : (gav l).set i (.slice 1 (iv x) .no) = gav (l.set i x) := by simp [gav, List.map_set]
theorem rg_in (c : Con) (lv : Int) (h0 : 0 ≤ lv) (h3 : lv ≤ 3) (i : Nat) (hi : i < c.hs.length) (hc : c.hs.length ≤ 1048576) (G : Goal) (hG : G = .pure G.res) (s : List (List Int)) (hs : GH c i s) :
    ∀ (m k : Nat), k + m = s.length →
    To (Er [5] []) fRG (.pure G.res) (.head (stk fRG 0) (rgF lv ((i : Int) + 1)) (rgO c (match rfindG c lv (i : Int) (s.drop k) k with | some k => s.set k ((s[k]?).getD [] ++ [(i : Int)]) | none => s ++ [[(i : Int)]]))) →
    To (Er [5] []) fRG (.pure G.res) (.head (stk fRG 1) (rgF lv (i : Int) ++ [(7, .bool false), (8, ii k)]) (rgO c s)) := by
  have hlen : (gav s).length = s.length := by simp
  have hsl := hs.len
  intro m
  induction m with
  | zero =>
    intro k hk hto
    rw [List.drop_eq_nil_of_le (by omega)] at hto
    have hto : To (Er [5] []) fRG (.pure G.res) (.head (stk fRG 0) (rgF lv ((i : Int) + 1)) (rgO c (s ++ [[(i : Int)]]))) := hto
    have e : gav (s ++ [[(i : Int)]]) = gav s ++ [.slice 1 [ii i] .no] := by simp [gav]
    unfold rgO at hto
    rw [e] at hto
    refine goes (hEr [5] []) 100 ?_
    conv => whnf
    refine And.intro (fun h => absurd (of_decide_eq_true h) (by omega)) (fun h => ?_)
    repeat' first | (refine goN (hEr [5] []) 100 rfl ?_; conv => whnf) | refine And.intro (And.intro (by simp only [maxLen]; simp; omega) (by simp; omega)) ?_ | exact rfl | refine And.intro (fun _ => ?_) (fun h => absurd (show true = false from h) (by decide)) | refine And.intro (fun h => absurd (show false = true from h) (by decide)) (fun _ => ?_) | refine And.intro (fun h => ?_) (fun h => absurd (of_decide_eq_false h) (by omega)) | refine And.intro (fun h => absurd (of_decide_eq_true h) (by omega)) (fun h => ?_) | refine And.intro (fun h => ?_) (fun h => ?_) | refine Or.inl (And.intro (And.intro (by simp only [kmin]; omega) (by simp only [kmax]; omega)) ?_) | refine Exists.intro _ (And.intro rfl ?_) | refine And.intro (by decide) ?_ | refine And.intro (by omega) ?_ | fail
    refine To.part [1, 2, 5, 6] [0, 1] rfl rfl rfl ?_
    exact hto
  | succ m ih =>
    intro k hk hto
    have hlt : k < s.length := by omega
    obtain ⟨hgl, a, r, hg, hva⟩ := hs.one _ (List.getElem_mem hlt)
    rw [List.drop_eq_getElem_cons hlt] at hto
    have hsk : s[k]? = some s[k] := List.getElem?_eq_getElem hlt
    have hset := gav_set s k (s[k] ++ [(i : Int)])
    have get : (gav s)[k]? = some (.slice 1 (iv s[k]) .no) := gav_get hlt
    have ih := ih (k + 1) (by omega)
    have hal := alike_ok c lv a (i : Int) h0 h3 hva ⟨by omega, by omega⟩
    unfold rfindG at hto
    rw [hg] at hgl get
    have hgl2 : r.length + 1 ≤ i := by simpa using hgl
    have get0 : (iv (a :: r))[0]? = some (ii a) := rfl
    have ehd : (s[k]).headD 0 = a := by rw [hg]; rfl
    rw [ehd] at hto
    cases hq : alB c lv a (i : Int) with
    | false =>
      rw [hq] at hal
      rw [if_neg (by rw [hq]; decide)] at hto
      have next := ih hto
      refine goes (hEr [5] []) 100 ?_
      conv => whnf
      refine And.intro (fun h => ?_) (fun h => absurd (of_decide_eq_false h) (by omega))
      repeat' first | (refine goN (hEr [5] []) 100 rfl ?_; conv => whnf) | refine Exists.intro k (And.intro rfl ?_) | refine Exists.intro _ (And.intro get ?_) | refine Exists.intro _ (And.intro get0 ?_) | refine .pure _ [] hal ?_ | exact rfl | refine And.intro (fun _ => ?_) (fun h => absurd (show true = false from h) (by decide)) | refine And.intro (fun h => absurd (show false = true from h) (by decide)) (fun _ => ?_) | refine And.intro (fun h => ?_) (fun h => absurd (of_decide_eq_false h) (by omega)) | refine And.intro (fun h => absurd (of_decide_eq_true h) (by omega)) (fun h => ?_) | refine And.intro (fun h => ?_) (fun h => ?_) | refine Or.inl (And.intro (And.intro (by simp only [kmin]; omega) (by simp only [kmax]; omega)) ?_) | refine Exists.intro _ (And.intro rfl ?_) | refine And.intro (by decide) ?_ | refine And.intro (by omega) ?_ | fail
      refine To.part [1, 2, 5, 6, 7, 8] [0, 1] rfl rfl rfl ?_
      exact next
    | true =>
      rw [hq] at hal
      rw [if_pos hq] at hto
      have hto : To (Er [5] []) fRG (.pure G.res) (.head (stk fRG 0) (rgF lv ((i : Int) + 1)) (rgO c (s.set k ((s[k]?).getD [] ++ [(i : Int)])))) := hto
      rw [hsk] at hto
      have hto : To (Er [5] []) fRG (.pure G.res) (.head (stk fRG 0) (rgF lv ((i : Int) + 1)) (rgO c (s.set k (s[k] ++ [(i : Int)])))) := hto
      unfold rgO at hto
      rw [← hset, hg, show iv ((a :: r) ++ [(i : Int)]) = iv (a :: r) ++ [ii i] from by simp] at hto
      have hsl2 : ((gav s).set k (.slice 1 (iv (a :: r) ++ [ii i]) .no)).length = s.length := by simp
      generalize hS : (gav s).set k (.slice 1 (iv (a :: r) ++ [ii i]) .no) = S at hto hsl2
      have hfin : To (Er [5] []) fRG (.pure G.res) (.head (stk fRG 1) (rgF lv (i : Int) ++ [(7, .bool true), (8, ii ((k : Int) + 1))]) [.cells 25 c.cs, .row 0 1 37 S]) := by
        refine goes (hEr [5] []) 100 ?_
        conv => whnf
        repeat' first | (refine goN (hEr [5] []) 100 rfl ?_; conv => whnf) | exact rfl | refine And.intro (fun _ => ?_) (fun h => absurd (show true = false from h) (by decide)) | refine And.intro (fun h => absurd (show false = true from h) (by decide)) (fun _ => ?_) | refine And.intro (fun h => ?_) (fun h => absurd (of_decide_eq_false h) (by omega)) | refine And.intro (fun h => absurd (of_decide_eq_true h) (by omega)) (fun h => ?_) | refine And.intro (fun h => ?_) (fun h => ?_) | refine Or.inl (And.intro (And.intro (by simp only [kmin]; omega) (by simp only [kmax]; omega)) ?_) | refine Exists.intro _ (And.intro rfl ?_) | refine And.intro (by decide) ?_ | refine And.intro (by omega) ?_ | fail
        · refine To.part [1, 2, 5, 6] [0, 1] rfl rfl rfl ?_
          exact hto
        · refine To.part [1, 2, 5, 6] [0, 1] rfl rfl rfl ?_
          exact hto
      rw [← hS] at hfin
      refine goes (hEr [5] []) 100 ?_
      conv => whnf
      refine And.intro (fun h => ?_) (fun h => absurd (of_decide_eq_false h) (by omega))
      repeat' first | (refine goN (hEr [5] []) 100 rfl ?_; conv => whnf) | refine Exists.intro k (And.intro rfl ?_) | refine Exists.intro _ (And.intro get ?_) | refine Exists.intro _ (And.intro get0 ?_) | refine .pure _ [] hal ?_ | refine And.intro (And.intro (by simp only [maxLen]; simp; omega) (by simp; omega)) ?_ | exact rfl | refine And.intro (fun _ => ?_) (fun h => absurd (show true = false from h) (by decide)) | refine And.intro (fun h => absurd (show false = true from h) (by decide)) (fun _ => ?_) | refine And.intro (fun h => ?_) (fun h => absurd (of_decide_eq_false h) (by omega)) | refine And.intro (fun h => absurd (of_decide_eq_true h) (by omega)) (fun h => ?_) | refine And.intro (fun h => ?_) (fun h => ?_) | refine Or.inl (And.intro (And.intro (by simp only [kmin]; omega) (by simp only [kmax]; omega)) ?_) | refine Exists.intro _ (And.intro rfl ?_) | refine And.intro (by decide) ?_ | refine And.intro (by omega) ?_ | fail
      refine To.part [1, 2, 5, 6, 7, 8] [0, 1] rfl rfl rfl ?_
      exact hfin
theorem rg_out (c : Con) (hc : c.sm) (lv : Int) (h0 : 0 ≤ lv) (h3 : lv ≤ 3) (R : List (List Int)) : ∀ (n i : Nat) (s : List (List Int)), i + n = c.hs.length → GH c i s → (List.range' i n).foldl (rgS c lv) s = R →
    To (Er [5] []) fRG (.pure (.ret (.slice 1 (gav R) .no))) (.head (stk fRG 0) (rgF lv (i : Int)) (rgO c s)) := by
  have h1 := hc.hs
  have hlen : (hav c.hs).length = c.hs.length := by simp
  intro n
  induction n with
  | zero =>
    intro i s hi hs hR
    have hR : s = R := hR
    subst hR
    refine goes (hEr [5] []) 100 ?_
    conv => whnf
    refine And.intro (fun h => absurd (of_decide_eq_true h) (by omega)) (fun h => ?_)
    repeat' first | (refine goN (hEr [5] []) 100 rfl ?_; conv => whnf) | exact rfl | refine And.intro (fun _ => ?_) (fun h => absurd (show true = false from h) (by decide)) | refine And.intro (fun h => absurd (show false = true from h) (by decide)) (fun _ => ?_) | refine And.intro (fun h => ?_) (fun h => absurd (of_decide_eq_false h) (by omega)) | refine And.intro (fun h => absurd (of_decide_eq_true h) (by omega)) (fun h => ?_) | refine And.intro (fun h => ?_) (fun h => ?_) | refine Or.inl (And.intro (And.intro (by simp only [kmin]; omega) (by simp only [kmax]; omega)) ?_) | refine Exists.intro _ (And.intro rfl ?_) | refine And.intro (by decide) ?_ | refine And.intro (by omega) ?_ | fail
  | succ n ih =>
    intro i s hi hs hR
    rw [List.range'_succ, List.foldl_cons] at hR
    have next := ih (i + 1) (rgS c lv s i) (by omega) (hs.step (by omega)) hR
    refine goes (hEr [5] []) 100 ?_
    conv => whnf
    refine And.intro (fun h => ?_) (fun h => absurd (of_decide_eq_false h) (by omega))
    repeat' first | (refine goN (hEr [5] []) 100 rfl ?_; conv => whnf) | exact rfl | refine And.intro (fun _ => ?_) (fun h => absurd (show true = false from h) (by decide)) | refine And.intro (fun h => absurd (show false = true from h) (by decide)) (fun _ => ?_) | refine And.intro (fun h => ?_) (fun h => absurd (of_decide_eq_false h) (by omega)) | refine And.intro (fun h => absurd (of_decide_eq_true h) (by omega)) (fun h => ?_) | refine And.intro (fun h => ?_) (fun h => ?_) | refine Or.inl (And.intro (And.intro (by simp only [kmin]; omega) (by simp only [kmax]; omega)) ?_) | refine Exists.intro _ (And.intro rfl ?_) | refine And.intro (by decide) ?_ | refine And.intro (by omega) ?_ | fail
    refine To.part [1, 2, 5, 6, 7, 8] [0, 1] rfl rfl rfl ?_
    exact rg_in c lv h0 h3 i (by omega) h1 (.pure (.ret (.slice 1 (gav R) .no))) rfl s hs s.length 0 (by omega) next
theorem rgroups_ok (c : Con) (hc : c.sm) (lv : Int) : CallOK Tryz.prog 71 [c.av, ii lv] [] (.ret (.slice 1 (gav (gpL c lv)) .no)) [] := by
  have h1 := hc.hs
  obtain ⟨R, hR⟩ : ∃ R, R = gpL c lv := ⟨_, rfl⟩
  rw [← hR]
  rw [← rgL_eq] at hR
  unfold rgL at hR
  by_cases p1 : lv < 0
  · rw [if_pos (decide_eq_true p1)] at hR
    subst hR
    refine CallOK.to (E := (Er [5] [])) (fn := Tryz.f71) (g := .pure _) (by rfl) (by rfl) (by rfl) (fun _ _ => by rfl) (by decide +kernel) (by rfl) (by rfl) (by rfl) fun _ => ?_
    repeat' first | (refine goN (hEr [5] []) 100 rfl ?_; conv => whnf) | exact rfl | refine And.intro (fun _ => ?_) (fun h => absurd (show true = false from h) (by decide)) | refine And.intro (fun h => absurd (show false = true from h) (by decide)) (fun _ => ?_) | refine And.intro (fun h => ?_) (fun h => absurd (of_decide_eq_false h) (by omega)) | refine And.intro (fun h => absurd (of_decide_eq_true h) (by omega)) (fun h => ?_) | refine And.intro (fun h => ?_) (fun h => ?_) | refine Or.inl (And.intro (And.intro (by simp only [kmin]; omega) (by simp only [kmax]; omega)) ?_) | refine Exists.intro _ (And.intro rfl ?_) | refine And.intro (by decide) ?_ | refine And.intro (by omega) ?_ | fail
  rw [if_neg (by rw [decide_eq_false p1]; decide)] at hR
  by_cases p2 : 3 < lv
  · rw [if_pos (decide_eq_true p2)] at hR
    subst hR
    refine CallOK.to (E := (Er [5] [])) (fn := Tryz.f71) (g := .pure _) (by rfl) (by rfl) (by rfl) (fun _ _ => by rfl) (by decide +kernel) (by rfl) (by rfl) (by rfl) fun _ => ?_
    repeat' first | (refine goN (hEr [5] []) 100 rfl ?_; conv => whnf) | exact rfl | refine And.intro (fun _ => ?_) (fun h => absurd (show true = false from h) (by decide)) | refine And.intro (fun h => absurd (show false = true from h) (by decide)) (fun _ => ?_) | refine And.intro (fun h => ?_) (fun h => absurd (of_decide_eq_false h) (by omega)) | refine And.intro (fun h => absurd (of_decide_eq_true h) (by omega)) (fun h => ?_) | refine And.intro (fun h => ?_) (fun h => ?_) | refine Or.inl (And.intro (And.intro (by simp only [kmin]; omega) (by simp only [kmax]; omega)) ?_) | refine Exists.intro _ (And.intro rfl ?_) | refine And.intro (by decide) ?_ | refine And.intro (by omega) ?_ | fail
  rw [if_neg (by rw [decide_eq_false p2]; decide), List.range_eq_range'] at hR
  refine CallOK.to (E := (Er [5] [])) (fn := Tryz.f71) (g := .pure _) (by rfl) (by rfl) (by rfl) (fun _ _ => by rfl) (by decide +kernel) (by rfl) (by rfl) (by rfl) fun _ => ?_
  repeat' first | (refine goN (hEr [5] []) 100 rfl ?_; conv => whnf) | exact rfl | refine And.intro (fun _ => ?_) (fun h => absurd (show true = false from h) (by decide)) | refine And.intro (fun h => absurd (show false = true from h) (by decide)) (fun _ => ?_) | refine And.intro (fun h => ?_) (fun h => absurd (of_decide_eq_false h) (by omega)) | refine And.intro (fun h => absurd (of_decide_eq_true h) (by omega)) (fun h => ?_) | refine And.intro (fun h => ?_) (fun h => ?_) | refine Or.inl (And.intro (And.intro (by simp only [kmin]; omega) (by simp only [kmax]; omega)) ?_) | refine Exists.intro _ (And.intro rfl ?_) | refine And.intro (by decide) ?_ | refine And.intro (by omega) ?_ | fail
  refine To.part [1, 2, 5, 6] [0, 1] rfl rfl rfl ?_
  exact rg_out c hc lv (by omega) (by omega) R c.hs.length 0 [] (by omega) ⟨by simp, fun g hg => by simp at hg⟩ hR.symm
end Go.Proofs.YtlalcoklkafnnaaGreat

namespace Go.Proofs.YtlalcoklkafnnaaGreat
open Go Go.AW Go.Proofs
set_option maxRecDepth 10000

/- ---------- Room ---------- -/
noncomputable abbrev fRRoom : Func := Tryz.f111
theorem rroom_loop (free need : V3) (r : Int) : ∀ (m : Nat) (n : Int), 0 ≤ n → n + m = 16 → rrF free need m n = r →
    To E fRRoom (.pure (.ret (ii r))) (.head (stk fRRoom 0) [(2, .ref 0 0), (3, .ref 1 0), (5, ii n)] [.cells 32 free.cs, .cells 32 need.cs]) := by
  intro m
  induction m with
  | zero =>
    intro n h0 hn hr
    have hr : n = r := hr
    subst hr
    refine goes hE 100 ?_
    conv => whnf
    repeat' first | (refine goN hE 100 rfl ?_; conv => whnf) | exact rfl | refine And.intro (fun _ => ?_) (fun h => absurd (show true = false from h) (by decide)) | refine And.intro (fun h => absurd (show false = true from h) (by decide)) (fun _ => ?_) | refine And.intro (fun h => ?_) (fun h => absurd (of_decide_eq_false h) (by omega)) | refine And.intro (fun h => absurd (of_decide_eq_true h) (by omega)) (fun h => ?_) | refine And.intro (fun h => ?_) (fun h => ?_) | refine Or.inl (And.intro (And.intro (by simp only [kmin]; omega) (by simp only [kmax]; omega)) ?_) | refine Exists.intro _ (And.intro rfl ?_) | refine And.intro (by decide) ?_ | refine And.intro (by omega) ?_ | fail
  | succ m ih =>
    intro n h0 hn hr
    unfold rrF at hr
    have h1 := rmul_ok need (n + 1)
    generalize vmul need (n + 1) = q at h1 hr
    have h2 := rfits_ok q free
    have h3 := rfits_ok need free
    cases hq : vfits q free with
    | false =>
      rw [hq] at h2
      rw [if_neg (by rw [hq]; decide)] at hr
      subst hr
      refine goes hE 100 ?_
      conv => whnf
      repeat' first | (refine goN hE 100 rfl ?_; conv => whnf) | refine And.intro (And.intro (by simp only [kmin]; omega) (by simp only [kmax]; omega)) ?_ | refine .pure _ [] h1 ?_ | refine .pure _ [] h2 ?_ | exact rfl | refine And.intro (fun _ => ?_) (fun h => absurd (show true = false from h) (by decide)) | refine And.intro (fun h => absurd (show false = true from h) (by decide)) (fun _ => ?_) | refine And.intro (fun h => ?_) (fun h => absurd (of_decide_eq_false h) (by omega)) | refine And.intro (fun h => absurd (of_decide_eq_true h) (by omega)) (fun h => ?_) | refine And.intro (fun h => ?_) (fun h => ?_) | refine Or.inl (And.intro (And.intro (by simp only [kmin]; omega) (by simp only [kmax]; omega)) ?_) | refine Exists.intro _ (And.intro rfl ?_) | refine And.intro (by decide) ?_ | refine And.intro (by omega) ?_ | fail
    | true =>
      rw [hq] at h2
      rw [if_pos hq] at hr
      cases hw : vfits need free with
      | false =>
        rw [hw] at h3
        rw [if_neg (by rw [hw]; decide)] at hr
        subst hr
        refine goes hE 100 ?_
        conv => whnf
        repeat' first | (refine goN hE 100 rfl ?_; conv => whnf) | refine And.intro (And.intro (by simp only [kmin]; omega) (by simp only [kmax]; omega)) ?_ | refine .pure _ [] h1 ?_ | refine .pure _ [] h2 ?_ | refine .pure _ [] h3 ?_ | exact rfl | refine And.intro (fun _ => ?_) (fun h => absurd (show true = false from h) (by decide)) | refine And.intro (fun h => absurd (show false = true from h) (by decide)) (fun _ => ?_) | refine And.intro (fun h => ?_) (fun h => absurd (of_decide_eq_false h) (by omega)) | refine And.intro (fun h => absurd (of_decide_eq_true h) (by omega)) (fun h => ?_) | refine And.intro (fun h => ?_) (fun h => ?_) | refine Or.inl (And.intro (And.intro (by simp only [kmin]; omega) (by simp only [kmax]; omega)) ?_) | refine Exists.intro _ (And.intro rfl ?_) | refine And.intro (by decide) ?_ | refine And.intro (by omega) ?_ | fail
      | true =>
        rw [hw] at h3
        rw [if_pos hw] at hr
        have next := ih (n + 1) (by omega) (by omega) hr
        refine goes hE 100 ?_
        conv => whnf
        repeat' first | (refine goN hE 100 rfl ?_; conv => whnf) | refine And.intro (And.intro (by simp only [kmin]; omega) (by simp only [kmax]; omega)) ?_ | refine .pure _ [] h1 ?_ | refine .pure _ [] h2 ?_ | refine .pure _ [] h3 ?_ | exact rfl | refine And.intro (fun _ => ?_) (fun h => absurd (show true = false from h) (by decide)) | refine And.intro (fun h => absurd (show false = true from h) (by decide)) (fun _ => ?_) | refine And.intro (fun h => ?_) (fun h => absurd (of_decide_eq_false h) (by omega)) | refine And.intro (fun h => absurd (of_decide_eq_true h) (by omega)) (fun h => ?_) | refine And.intro (fun h => ?_) (fun h => ?_) | refine Or.inl (And.intro (And.intro (by simp only [kmin]; omega) (by simp only [kmax]; omega)) ?_) | refine Exists.intro _ (And.intro rfl ?_) | refine And.intro (by decide) ?_ | refine And.intro (by omega) ?_ | fail
        exact To.cut [2, 3, 5] 2 rfl rfl rfl rfl next
theorem rroom_ok (free need : V3) (hv : validB need = true) : CallOK Tryz.prog 111 [free.av, need.av] [] (.ret (ii (roomI free need))) [] := by
  rw [← rr_eq hv]
  refine CallOK.to (E := E) (fn := Tryz.f111) (g := .pure _) (by rfl) (by rfl) (by rfl) (fun _ _ => by rfl) (by decide +kernel) (by rfl) (by rfl) (by rfl) fun _ => ?_
  refine goes hE 100 ?_
  conv => whnf
  exact To.cut [2, 3, 5] 2 rfl rfl rfl rfl (rroom_loop free need _ 16 0 (by decide) (by decide) rfl)

/- ---------- In ---------- -/
noncomputable abbrev fRIn : Func := Tryz.f97
abbrev inO (c : Con) (g : Gan) : List AObj := [.cells 25 c.cs, .cells 34 g.cs, .tail 0 1 3]
abbrev inF (free : List V3) (gr : List Int) (out : List Int) (i : Int) : List (Nat × AVal) := [(1, .slice 3 (vav free) .no), (2, .slice 1 (iv gr) .no), (7, .ref 1 0), (10, .slice 1 (iv out) (.own 2 0)), (11, ii i)]
theorem rin_in (c : Con) (free : List V3) (g : Gan) (hg : 0 ≤ g.pods ∧ g.pods ≤ 16) (gr : List Int) (hl : gr.length ≤ 1048576) (G : Goal) (h : Int) (i : Nat) (hi : i < 1048576) (get : (iv gr)[i]? = some (ii h)) : ∀ (m : Nat) (k : Int) (out : List Int), k ≤ 16 → (max (min k (g.pods - out.length)) 0).toNat = m → (out.length : Int) ≤ g.pods →
    To (Eo [10] []) fRIn (.pure G.res) (.head (stk fRIn 0) (inF free gr (out ++ List.replicate m h) ((i : Int) + 1)) (inO c g)) →
    To (Eo [10] []) fRIn (.pure G.res) (.head (stk fRIn 1) (inF free gr out (i : Int) ++ [(12, ii k)]) (inO c g)) := by
  have hlen : (iv gr).length = gr.length := by simp
  intro m
  induction m with
  | zero =>
    intro k out hk hm hp hto
    have hol : (iv out).length = out.length := by simp
    rw [List.replicate_zero, List.append_nil] at hto
    by_cases h1 : 0 < k
    · refine goes (hEo [10] []) 100 ?_
      conv => whnf
      repeat' first | (refine goN (hEo [10] []) 100 rfl ?_; conv => whnf) | exact rfl | refine And.intro (fun _ => ?_) (fun h => absurd (show true = false from h) (by decide)) | refine And.intro (fun h => absurd (show false = true from h) (by decide)) (fun _ => ?_) | refine And.intro (fun h => ?_) (fun h => absurd (of_decide_eq_false h) (by omega)) | refine And.intro (fun h => absurd (of_decide_eq_true h) (by omega)) (fun h => ?_) | refine And.intro (fun h => ?_) (fun h => ?_) | refine Or.inl (And.intro (And.intro (by simp only [kmin]; omega) (by simp only [kmax]; omega)) ?_) | refine Exists.intro _ (And.intro rfl ?_) | refine And.intro (by decide) ?_ | refine And.intro (by omega) ?_ | fail
      refine To.part [1, 2, 7, 10, 11] [0, 1, 2] rfl rfl rfl ?_
      exact hto
    · refine goes (hEo [10] []) 100 ?_
      conv => whnf
      repeat' first | (refine goN (hEo [10] []) 100 rfl ?_; conv => whnf) | exact rfl | refine And.intro (fun _ => ?_) (fun h => absurd (show true = false from h) (by decide)) | refine And.intro (fun h => absurd (show false = true from h) (by decide)) (fun _ => ?_) | refine And.intro (fun h => ?_) (fun h => absurd (of_decide_eq_false h) (by omega)) | refine And.intro (fun h => absurd (of_decide_eq_true h) (by omega)) (fun h => ?_) | refine And.intro (fun h => ?_) (fun h => ?_) | refine Or.inl (And.intro (And.intro (by simp only [kmin]; omega) (by simp only [kmax]; omega)) ?_) | refine Exists.intro _ (And.intro rfl ?_) | refine And.intro (by decide) ?_ | refine And.intro (by omega) ?_ | fail
      refine To.part [1, 2, 7, 10, 11] [0, 1, 2] rfl rfl rfl ?_
      exact hto
  | succ m ih =>
    intro k out hk hm hp hto
    have hol : (iv out).length = out.length := by simp
    have e2 : out ++ [h] ++ List.replicate m h = out ++ List.replicate (m + 1) h := by rw [List.append_assoc]; rfl
    have next := ih (k - 1) (out ++ [h]) (by omega) (by simp; omega) (by simp; omega) (by rw [e2]; exact hto)
    have e : iv (out ++ [h]) = iv out ++ [ii h] := by simp
    unfold inF at next
    rw [e] at next
    refine goes (hEo [10] []) 100 ?_
    conv => whnf
    refine And.intro (fun h => ?_) (fun h => absurd (of_decide_eq_false h) (by omega))
    repeat' first | (refine goN (hEo [10] []) 100 rfl ?_; conv => whnf) | refine Exists.intro i (And.intro rfl ?_) | refine Exists.intro _ (And.intro get ?_) | refine And.intro (And.intro (by simp only [maxLen]; simp; omega) (by simp; omega)) ?_ | exact rfl | refine And.intro (fun _ => ?_) (fun h => absurd (show true = false from h) (by decide)) | refine And.intro (fun h => absurd (show false = true from h) (by decide)) (fun _ => ?_) | refine And.intro (fun h => ?_) (fun h => absurd (of_decide_eq_false h) (by omega)) | refine And.intro (fun h => absurd (of_decide_eq_true h) (by omega)) (fun h => ?_) | refine And.intro (fun h => ?_) (fun h => ?_) | refine Or.inl (And.intro (And.intro (by simp only [kmin]; omega) (by simp only [kmax]; omega)) ?_) | refine Exists.intro _ (And.intro rfl ?_) | refine And.intro (by decide) ?_ | refine And.intro (by omega) ?_ | fail
    refine To.part [1, 2, 7, 10, 11, 12] [0, 1, 2] rfl rfl rfl ?_
    exact next
theorem rin_loop (c : Con) (free : List V3) (g : Gan) (hg : 0 ≤ g.pods ∧ g.pods ≤ 16) (hv : validB g.need = true) (gr : List Int) (hl : gr.length ≤ 1048576) (R : List Int) : ∀ (m i : Nat) (out : List Int), i + m = gr.length → (out.length : Int) ≤ g.pods → (gr.drop i).foldl (inS free g) out = R →
    To (Eo [10] []) fRIn (.pure (.ret (inR2 R g))) (.head (stk fRIn 0) (inF free gr out (i : Int)) (inO c g)) := by
  have hlen : (iv gr).length = gr.length := by simp
  have hfl : (vav free).length = free.length := by simp
  intro m
  induction m with
  | zero =>
    intro i out hi hp hR
    rw [List.drop_eq_nil_of_le (by omega)] at hR
    have hR : out = R := hR
    subst hR
    have hol : (iv out).length = out.length := by simp
    obtain ⟨Q, hQ⟩ : ∃ Q, Q = inR2 out g := ⟨_, rfl⟩
    rw [← hQ]
    unfold inR2 at hQ
    by_cases h1 : (out.length : Int) < g.pods
    · rw [if_pos (decide_eq_true h1)] at hQ
      subst hQ
      refine goes (hEo [10] []) 100 ?_
      conv => whnf
      refine And.intro (fun h => absurd (of_decide_eq_true h) (by omega)) (fun h => ?_)
      repeat' first | (refine goN (hEo [10] []) 100 rfl ?_; conv => whnf) | exact rfl | refine And.intro (fun _ => ?_) (fun h => absurd (show true = false from h) (by decide)) | refine And.intro (fun h => absurd (show false = true from h) (by decide)) (fun _ => ?_) | refine And.intro (fun h => ?_) (fun h => absurd (of_decide_eq_false h) (by omega)) | refine And.intro (fun h => absurd (of_decide_eq_true h) (by omega)) (fun h => ?_) | refine And.intro (fun h => ?_) (fun h => ?_) | refine Or.inl (And.intro (And.intro (by simp only [kmin]; omega) (by simp only [kmax]; omega)) ?_) | refine Exists.intro _ (And.intro rfl ?_) | refine And.intro (by decide) ?_ | refine And.intro (by omega) ?_ | fail
    · rw [if_neg (by rw [decide_eq_false h1]; decide)] at hQ
      subst hQ
      refine goes (hEo [10] []) 100 ?_
      conv => whnf
      refine And.intro (fun h => absurd (of_decide_eq_true h) (by omega)) (fun h => ?_)
      repeat' first | (refine goN (hEo [10] []) 100 rfl ?_; conv => whnf) | exact rfl | refine And.intro (fun _ => ?_) (fun h => absurd (show true = false from h) (by decide)) | refine And.intro (fun h => absurd (show false = true from h) (by decide)) (fun _ => ?_) | refine And.intro (fun h => ?_) (fun h => absurd (of_decide_eq_false h) (by omega)) | refine And.intro (fun h => absurd (of_decide_eq_true h) (by omega)) (fun h => ?_) | refine And.intro (fun h => ?_) (fun h => ?_) | refine Or.inl (And.intro (And.intro (by simp only [kmin]; omega) (by simp only [kmax]; omega)) ?_) | refine Exists.intro _ (And.intro rfl ?_) | refine And.intro (by decide) ?_ | refine And.intro (by omega) ?_ | fail
  | succ m ih =>
    intro i out hi hp hR
    have hlt : i < gr.length := by omega
    rw [List.drop_eq_getElem_cons hlt, List.foldl_cons] at hR
    have hp2 := inS_len free g out gr[i] hp
    have get := iv_get hlt
    generalize gr[i] = u0 at hR hp2 get
    have next := ih (i + 1) (inS free g out u0) (by omega) hp2 hR
    unfold inS at next
    by_cases h1 : u0 < 0
    · rw [if_pos (decide_eq_true h1)] at next
      refine goes (hEo [10] []) 100 ?_
      conv => whnf
      refine And.intro (fun h => ?_) (fun h => absurd (of_decide_eq_false h) (by omega))
      repeat' first | (refine goN (hEo [10] []) 100 rfl ?_; conv => whnf) | refine Exists.intro i (And.intro rfl ?_) | refine Exists.intro _ (And.intro get ?_) | exact rfl | refine And.intro (fun _ => ?_) (fun h => absurd (show true = false from h) (by decide)) | refine And.intro (fun h => absurd (show false = true from h) (by decide)) (fun _ => ?_) | refine And.intro (fun h => ?_) (fun h => absurd (of_decide_eq_false h) (by omega)) | refine And.intro (fun h => absurd (of_decide_eq_true h) (by omega)) (fun h => ?_) | refine And.intro (fun h => ?_) (fun h => ?_) | refine Or.inl (And.intro (And.intro (by simp only [kmin]; omega) (by simp only [kmax]; omega)) ?_) | refine Exists.intro _ (And.intro rfl ?_) | refine And.intro (by decide) ?_ | refine And.intro (by omega) ?_ | fail
      refine To.part [1, 2, 7, 10, 11] [0, 1, 2] rfl rfl rfl ?_
      exact next
    · rw [if_neg (by rw [decide_eq_false h1]; decide)] at next
      by_cases h2 : (free.length : Int) ≤ u0
      · rw [if_pos (decide_eq_true h2)] at next
        refine goes (hEo [10] []) 100 ?_
        conv => whnf
        refine And.intro (fun h => ?_) (fun h => absurd (of_decide_eq_false h) (by omega))
        repeat' first | (refine goN (hEo [10] []) 100 rfl ?_; conv => whnf) | refine Exists.intro i (And.intro rfl ?_) | refine Exists.intro _ (And.intro get ?_) | exact rfl | refine And.intro (fun _ => ?_) (fun h => absurd (show true = false from h) (by decide)) | refine And.intro (fun h => absurd (show false = true from h) (by decide)) (fun _ => ?_) | refine And.intro (fun h => ?_) (fun h => absurd (of_decide_eq_false h) (by omega)) | refine And.intro (fun h => absurd (of_decide_eq_true h) (by omega)) (fun h => ?_) | refine And.intro (fun h => ?_) (fun h => ?_) | refine Or.inl (And.intro (And.intro (by simp only [kmin]; omega) (by simp only [kmax]; omega)) ?_) | refine Exists.intro _ (And.intro rfl ?_) | refine And.intro (by decide) ?_ | refine And.intro (by omega) ?_ | fail
        refine To.part [1, 2, 7, 10, 11] [0, 1, 2] rfl rfl rfl ?_
        exact next
      · rw [if_neg (by rw [decide_eq_false h2]; decide)] at next
        have hl2 : u0.toNat < free.length := by omega
        have hn : u0 = (u0.toNat : Int) := by omega
        rw [List.getElem?_eq_getElem hl2, show ((some free[u0.toNat]).getD V3.zero) = free[u0.toNat] from rfl] at next
        have gv : (vav free)[u0.toNat]? = some free[u0.toNat].av := vav_get hl2
        generalize free[u0.toNat] = v at gv next
        have hr := rroom_ok v g.need hv
        have hk := roomI_le v g.need
        unfold inN at next
        generalize roomI v g.need = k at hr hk next
        have hin := rin_in c free g hg gr hl (.pure (.ret (inR2 R g))) u0 i (by omega) get _ k out hk rfl hp next
        refine goes (hEo [10] []) 100 ?_
        conv => whnf
        refine And.intro (fun h => ?_) (fun h => absurd (of_decide_eq_false h) (by omega))
        repeat' first | (refine goN (hEo [10] []) 100 rfl ?_; conv => whnf) | refine Exists.intro i (And.intro rfl ?_) | refine Exists.intro _ (And.intro get ?_) | refine Exists.intro u0.toNat (And.intro hn ?_) | refine Exists.intro _ (And.intro gv ?_) | refine .pure _ [] hr ?_ | exact rfl | refine And.intro (fun _ => ?_) (fun h => absurd (show true = false from h) (by decide)) | refine And.intro (fun h => absurd (show false = true from h) (by decide)) (fun _ => ?_) | refine And.intro (fun h => ?_) (fun h => absurd (of_decide_eq_false h) (by omega)) | refine And.intro (fun h => absurd (of_decide_eq_true h) (by omega)) (fun h => ?_) | refine And.intro (fun h => ?_) (fun h => ?_) | refine Or.inl (And.intro (And.intro (by simp only [kmin]; omega) (by simp only [kmax]; omega)) ?_) | refine Exists.intro _ (And.intro rfl ?_) | refine And.intro (by decide) ?_ | refine And.intro (by omega) ?_ | fail
        refine To.part [1, 2, 7, 10, 11, 12] [0, 1, 2] rfl rfl rfl ?_
        exact hin
theorem rin_ok (c : Con) (free : List V3) (g : Gan) (hg : 0 ≤ g.pods ∧ g.pods ≤ 16) (hv : validB g.need = true) (gr : List Int) (hl : gr.length ≤ 1048576) : CallOK Tryz.prog 97 [c.av, .slice 3 (vav free) .no, .slice 1 (iv gr) .no, g.av] [] (.ret (inR2 (inL free g gr) g)) [] := by
  refine CallOK.to (E := (Eo [10] [])) (fn := Tryz.f97) (g := .pure _) (by rfl) (by rfl) (by rfl) (fun _ _ => by rfl) (by decide +kernel) (by rfl) (by rfl) (by rfl) fun _ => ?_
  refine goes (hEo [10] []) 100 ?_
  conv => whnf
  refine To.part [1, 2, 7, 10, 11] [0, 1, 2] rfl rfl rfl ?_
  exact rin_loop c free g hg hv gr hl _ gr.length 0 [] (by omega) (by simp; omega) rfl

/- ---------- Find ---------- -/
noncomputable abbrev fRFind : Func := Tryz.f56
abbrev rfO (c : Con) (g : Gan) : List AObj := [.cells 25 c.cs, .cells 34 g.cs]
abbrev rfF (free : List V3) (lv : Int) : List (Nat × AVal) := [(1, .slice 3 (vav free) .no), (3, .ref 0 0), (5, .ref 1 0), (9, ii lv)]
theorem rfd_in (c : Con) (hc : c.sm) (free : List V3) (g : Gan) (hg : 0 ≤ g.pods ∧ g.pods ≤ 16) (hv : validB g.need = true) (lv : Int) (hlv : 0 ≤ lv) (hlv2 : lv ≤ 3) (Q : Option (Int × List Int)) (gs : List (List Int)) (hgl : gs.length ≤ 1048576) (hgs : ∀ xs ∈ gs, xs ≠ [] ∧ xs.length ≤ c.hs.length ∧ ∀ h ∈ xs, 0 ≤ h ∧ h < (c.hs.length : Int)) : ∀ (m i : Nat), i + m = gs.length →
    (∀ x, fdG c free g (gs.drop i) = some x → Q = some x) → (fdG c free g (gs.drop i) = none → To E fRFind (.pure (.ret (fdA Q))) (.head (stk fRFind 0) (rfF free (lv + 1)) (rfO c g))) →
    To E fRFind (.pure (.ret (fdA Q))) (.head (stk fRFind 1) (rfF free lv ++ [(10, .slice 1 (gav gs) .no), (11, ii i)]) (rfO c g)) := by
  have hlen : (gav gs).length = gs.length := by simp
  have hch := hc.hs
  intro m
  induction m with
  | zero =>
    intro i hi hs hn
    rw [List.drop_eq_nil_of_le (by omega)] at hn
    have next := hn rfl
    refine goes hE 100 ?_
    conv => whnf
    refine And.intro (fun h => absurd (of_decide_eq_true h) (by omega)) (fun h => ?_)
    repeat' first | (refine goN hE 100 rfl ?_; conv => whnf) | exact rfl | refine And.intro (fun _ => ?_) (fun h => absurd (show true = false from h) (by decide)) | refine And.intro (fun h => absurd (show false = true from h) (by decide)) (fun _ => ?_) | refine And.intro (fun h => ?_) (fun h => absurd (of_decide_eq_false h) (by omega)) | refine And.intro (fun h => absurd (of_decide_eq_true h) (by omega)) (fun h => ?_) | refine And.intro (fun h => ?_) (fun h => ?_) | refine Or.inl (And.intro (And.intro (by simp only [kmin]; omega) (by simp only [kmax]; omega)) ?_) | refine Exists.intro _ (And.intro rfl ?_) | refine And.intro (by decide) ?_ | refine And.intro (by omega) ?_ | fail
    exact To.cut [1, 3, 5, 9] 2 rfl rfl rfl rfl next
  | succ m ih =>
    intro i hi hs hn
    have hlt : i < gs.length := by omega
    obtain ⟨gne, glen, gin⟩ := hgs _ (List.getElem_mem hlt)
    rw [List.drop_eq_getElem_cons hlt] at hs hn
    have get := gav_get hlt
    generalize gs[i] = gr at hs hn get gne glen gin
    have ih := ih (i + 1) (by omega)
    have hin := rin_ok c free g hg hv gr (by omega)
    unfold fdG at hs hn
    unfold inR2 at hin
    by_cases p1 : ((inL free g gr).length : Int) < g.pods
    · rw [if_pos (decide_eq_true p1)] at hs hn hin
      have next := ih hs hn
      refine goes hE 100 ?_
      conv => whnf
      refine And.intro (fun h => ?_) (fun h => absurd (of_decide_eq_false h) (by omega))
      repeat' first | (refine goN hE 100 rfl ?_; conv => whnf) | refine Exists.intro i (And.intro rfl ?_) | refine Exists.intro _ (And.intro get ?_) | refine .pure _ [] hin ?_ | exact rfl | refine And.intro (fun _ => ?_) (fun h => absurd (show true = false from h) (by decide)) | refine And.intro (fun h => absurd (show false = true from h) (by decide)) (fun _ => ?_) | refine And.intro (fun h => ?_) (fun h => absurd (of_decide_eq_false h) (by omega)) | refine And.intro (fun h => absurd (of_decide_eq_true h) (by omega)) (fun h => ?_) | refine And.intro (fun h => ?_) (fun h => ?_) | refine Or.inl (And.intro (And.intro (by simp only [kmin]; omega) (by simp only [kmax]; omega)) ?_) | refine Exists.intro _ (And.intro rfl ?_) | refine And.intro (by decide) ?_ | refine And.intro (by omega) ?_ | fail
      exact To.cut [1, 3, 5, 9, 10, 11] 2 rfl rfl rfl rfl next
    · rw [if_neg (by rw [decide_eq_false p1]; decide)] at hs hn hin
      have hQ := hs _ rfl
      subst hQ
      match gr, gne with
      | u0 :: r, _ =>
      have hu := gin u0 (by simp)
      have gn : (hav c.hs)[u0.toNat]? = some (hosAt c.hs u0).av := by
        have := hos_get (c := c) (i := u0.toNat) (by omega)
        rwa [Int.toNat_of_nonneg hu.1] at this
      have hn : u0 = (u0.toNat : Int) := by omega
      have get0 : (iv (u0 :: r))[0]? = some (ii u0) := rfl
      refine goes hE 100 ?_
      conv => whnf
      refine And.intro (fun h => ?_) (fun h => absurd (of_decide_eq_false h) (by omega))
      repeat' first | (refine goN hE 100 rfl ?_; conv => whnf) | refine Exists.intro i (And.intro rfl ?_) | refine Exists.intro u0.toNat (And.intro hn ?_) | refine Exists.intro _ (And.intro gn ?_) | refine Exists.intro _ (And.intro get0 ?_) | refine Exists.intro _ (And.intro get ?_) | refine .pure _ [] hin ?_ | exact rfl | refine And.intro (fun _ => ?_) (fun h => absurd (show true = false from h) (by decide)) | refine And.intro (fun h => absurd (show false = true from h) (by decide)) (fun _ => ?_) | refine And.intro (fun h => ?_) (fun h => absurd (of_decide_eq_false h) (by omega)) | refine And.intro (fun h => absurd (of_decide_eq_true h) (by omega)) (fun h => ?_) | refine And.intro (fun h => ?_) (fun h => ?_) | refine Or.inl (And.intro (And.intro (by simp only [kmin]; omega) (by simp only [kmax]; omega)) ?_) | refine Exists.intro _ (And.intro rfl ?_) | refine And.intro (by decide) ?_ | refine And.intro (by omega) ?_ | fail
theorem rfd_out (c : Con) (hc : c.sm) (free : List V3) (g : Gan) (hg : 0 ≤ g.pods ∧ g.pods ≤ 16) (hv : validB g.need = true) : ∀ (n : Nat) (lv : Int), 0 ≤ lv → n = (min g.lev 3 + 1 - lv).toNat → 
    To E fRFind (.pure (.ret (fdA (fdL c free g n lv)))) (.head (stk fRFind 0) (rfF free lv) (rfO c g)) := by
  intro n
  induction n with
  | zero =>
    intro lv h0 hn
    by_cases h1 : lv ≤ g.lev
    · refine goes hE 100 ?_
      conv => whnf
      repeat' first | (refine goN hE 100 rfl ?_; conv => whnf) | exact rfl | refine And.intro (fun _ => ?_) (fun h => absurd (show true = false from h) (by decide)) | refine And.intro (fun h => absurd (show false = true from h) (by decide)) (fun _ => ?_) | refine And.intro (fun h => ?_) (fun h => absurd (of_decide_eq_false h) (by omega)) | refine And.intro (fun h => absurd (of_decide_eq_true h) (by omega)) (fun h => ?_) | refine And.intro (fun h => ?_) (fun h => ?_) | refine Or.inl (And.intro (And.intro (by simp only [kmin]; omega) (by simp only [kmax]; omega)) ?_) | refine Exists.intro _ (And.intro rfl ?_) | refine And.intro (by decide) ?_ | refine And.intro (by omega) ?_ | fail
    · refine goes hE 100 ?_
      conv => whnf
      repeat' first | (refine goN hE 100 rfl ?_; conv => whnf) | exact rfl | refine And.intro (fun _ => ?_) (fun h => absurd (show true = false from h) (by decide)) | refine And.intro (fun h => absurd (show false = true from h) (by decide)) (fun _ => ?_) | refine And.intro (fun h => ?_) (fun h => absurd (of_decide_eq_false h) (by omega)) | refine And.intro (fun h => absurd (of_decide_eq_true h) (by omega)) (fun h => ?_) | refine And.intro (fun h => ?_) (fun h => ?_) | refine Or.inl (And.intro (And.intro (by simp only [kmin]; omega) (by simp only [kmax]; omega)) ?_) | refine Exists.intro _ (And.intro rfl ?_) | refine And.intro (by decide) ?_ | refine And.intro (by omega) ?_ | fail
  | succ n ih =>
    intro lv h0 hn
    have ih := ih (lv + 1) (by omega) (by omega)
    have hok := gpL_ok c lv
    have hch := hc.hs
    have hlen : (gav (gpL c lv)).length = (gpL c lv).length := by simp
    obtain ⟨Q, hQ⟩ : ∃ Q, Q = fdL c free g (n + 1) lv := ⟨_, rfl⟩
    rw [← hQ]
    unfold fdL at hQ
    refine goes hE 100 ?_
    conv => whnf
    refine And.intro (fun h => ?_) (fun h => absurd (of_decide_eq_false h) (by omega))
    repeat' first | (refine goN hE 100 rfl ?_; conv => whnf) | refine .pure _ [] (rgroups_ok c hc lv) ?_ | exact rfl | refine And.intro (fun _ => ?_) (fun h => absurd (show true = false from h) (by decide)) | refine And.intro (fun h => absurd (show false = true from h) (by decide)) (fun _ => ?_) | refine And.intro (fun h => ?_) (fun h => absurd (of_decide_eq_false h) (by omega)) | refine And.intro (fun h => absurd (of_decide_eq_true h) (by omega)) (fun h => ?_) | refine And.intro (fun h => ?_) (fun h => ?_) | refine Or.inl (And.intro (And.intro (by simp only [kmin]; omega) (by simp only [kmax]; omega)) ?_) | refine Exists.intro _ (And.intro rfl ?_) | refine And.intro (by decide) ?_ | refine And.intro (by omega) ?_ | fail
    refine To.cut [1, 3, 5, 9, 10, 11] 2 rfl rfl rfl rfl ?_
    refine rfd_in c hc free g hg hv lv h0 (by omega) Q (gpL c lv) (by omega) hok.2 (gpL c lv).length 0 (by omega) (fun x hx => ?_) (fun hx => ?_)
    · have hx : fdG c free g (gpL c lv) = some x := hx
      rw [hx] at hQ
      exact hQ
    · have hx : fdG c free g (gpL c lv) = none := hx
      rw [hx] at hQ
      rw [hQ]
      exact ih
theorem rfind_ok (c : Con) (hc : c.sm) (free : List V3) (g : Gan) (hg : 0 ≤ g.pods ∧ g.pods ≤ 16) (hv : validB g.need = true) : CallOK Tryz.prog 56 [c.av, .slice 3 (vav free) .no, g.av] [] (.ret (fdA (findL c free g))) [] := by
  refine CallOK.to (E := E) (fn := Tryz.f56) (g := .pure _) (by rfl) (by rfl) (by rfl) (fun _ _ => by rfl) (by decide +kernel) (by rfl) (by rfl) (by rfl) fun _ => ?_
  refine goes hE 100 ?_
  conv => whnf
  exact To.cut [1, 3, 5, 9] 2 rfl rfl rfl rfl (rfd_out c hc free g hg hv _ _ (by omega) rfl)
end Go.Proofs.YtlalcoklkafnnaaGreat

namespace Go.Proofs.YtlalcoklkafnnaaGreat
open Go Go.AW Go.Proofs
set_option maxRecDepth 10000

theorem r19fits_any (c : Con) (hc : c.sm) (l : List Rn) (hl : Sm l) (g : Gan) (hg : 0 ≤ g.pods ∧ g.pods ≤ 16) (hv : validB g.need = true) (Q : Option (Int × List Int)) (hQ : fitsL c l g = Q) : CallOK Tryz.prog 17 [c.av, .slice 14 (rav l) .no, g.av] [] (.ret (fdA Q)) [] := by
  unfold fitsL at hQ
  have hm := rqmay_ok c hc (ofL c l) g.ten (dem g)
  have hd := rdem_ok g
  generalize mayB c (ofL c l) g.ten (dem g) = b at hQ hm
  generalize dem g = d at hm hd
  have hf := rfind_ok c hc (freeL c l) g hg hv
  have hfr := rfree_ok c hc l hl
  have hof := rof_ok c hc l hl.1
  generalize freeL c l = fr at hf hQ hfr
  generalize ofL c l = us at hm hof
  cases b with
  | false =>
    have hQ : none = Q := hQ
    subst hQ
    refine CallOK.to (E := E) (fn := Tryz.f17) (g := .pure _) (by rfl) (by rfl) (by rfl) (fun _ _ => by rfl) (by decide +kernel) (by rfl) (by rfl) (by rfl) fun _ => ?_
    repeat' first | (refine goN hE 100 rfl ?_; conv => whnf) | refine .pure _ [] hof ?_ | refine .pure _ [] hd ?_ | refine .pure _ [] hm ?_ | exact rfl | refine And.intro (fun _ => ?_) (fun h => absurd (show true = false from h) (by decide)) | refine And.intro (fun h => absurd (show false = true from h) (by decide)) (fun _ => ?_) | refine And.intro (fun h => ?_) (fun h => absurd (of_decide_eq_false h) (by omega)) | refine And.intro (fun h => absurd (of_decide_eq_true h) (by omega)) (fun h => ?_) | refine And.intro (fun h => ?_) (fun h => ?_) | refine Or.inl (And.intro (And.intro (by simp only [kmin]; omega) (by simp only [kmax]; omega)) ?_) | refine Exists.intro _ (And.intro rfl ?_) | refine And.intro (by decide) ?_ | refine And.intro (by omega) ?_ | fail
  | true =>
    have hQ : findL c fr g = Q := hQ
    rw [hQ] at hf
    unfold fdA at hf ⊢
    cases Q with
    | none =>
      refine CallOK.to (E := E) (fn := Tryz.f17) (g := .pure _) (by rfl) (by rfl) (by rfl) (fun _ _ => by rfl) (by decide +kernel) (by rfl) (by rfl) (by rfl) fun _ => ?_
      repeat' first | (refine goN hE 100 rfl ?_; conv => whnf) | refine .pure _ [] hof ?_ | refine .pure _ [] hd ?_ | refine .pure _ [] hm ?_ | refine .pure _ [] hfr ?_ | refine .pure _ [] hf ?_ | exact rfl | refine And.intro (fun _ => ?_) (fun h => absurd (show true = false from h) (by decide)) | refine And.intro (fun h => absurd (show false = true from h) (by decide)) (fun _ => ?_) | refine And.intro (fun h => ?_) (fun h => absurd (of_decide_eq_false h) (by omega)) | refine And.intro (fun h => absurd (of_decide_eq_true h) (by omega)) (fun h => ?_) | refine And.intro (fun h => ?_) (fun h => ?_) | refine Or.inl (And.intro (And.intro (by simp only [kmin]; omega) (by simp only [kmax]; omega)) ?_) | refine Exists.intro _ (And.intro rfl ?_) | refine And.intro (by decide) ?_ | refine And.intro (by omega) ?_ | fail
    | some x =>
      refine CallOK.to (E := E) (fn := Tryz.f17) (g := .pure _) (by rfl) (by rfl) (by rfl) (fun _ _ => by rfl) (by decide +kernel) (by rfl) (by rfl) (by rfl) fun _ => ?_
      repeat' first | (refine goN hE 100 rfl ?_; conv => whnf) | refine .pure _ [] hof ?_ | refine .pure _ [] hd ?_ | refine .pure _ [] hm ?_ | refine .pure _ [] hfr ?_ | refine .pure _ [] hf ?_ | exact rfl | refine And.intro (fun _ => ?_) (fun h => absurd (show true = false from h) (by decide)) | refine And.intro (fun h => absurd (show false = true from h) (by decide)) (fun _ => ?_) | refine And.intro (fun h => ?_) (fun h => absurd (of_decide_eq_false h) (by omega)) | refine And.intro (fun h => absurd (of_decide_eq_true h) (by omega)) (fun h => ?_) | refine And.intro (fun h => ?_) (fun h => ?_) | refine Or.inl (And.intro (And.intro (by simp only [kmin]; omega) (by simp only [kmax]; omega)) ?_) | refine Exists.intro _ (And.intro rfl ?_) | refine And.intro (by decide) ?_ | refine And.intro (by omega) ?_ | fail
theorem r19fits_ok (c : Con) (hc : c.sm) (l : List Rn) (hl : Sm l) (g : Gan) (hg : 0 ≤ g.pods ∧ g.pods ≤ 16) (hv : validB g.need = true) : CallOK Tryz.prog 17 [c.av, .slice 14 (rav l) .no, g.av] [] (.ret (fdA (fitsL c l g))) [] := r19fits_any c hc l hl g hg hv _ rfl
/- ---------- Ints ---------- -/
noncomputable abbrev fInts : Func := Tryz.f15
theorem ints_loop (a : List Int) (hl : a.length ≤ 1048576) : ∀ (m i : Nat), i + m = a.length →
    To E fInts (.pure (.ret (.bool true))) (.head (stk fInts 0) [(0, .slice 1 (iv a) .no), (1, .slice 1 (iv a) .no), (5, ii i)] []) := by
  have hlen : (iv a).length = a.length := by simp
  intro m
  induction m with
  | zero =>
    intro i hi
    refine goes hE 100 ?_
    conv => whnf
    refine And.intro (fun h => absurd (of_decide_eq_true h) (by omega)) (fun h => ?_)
    repeat' first | (refine goN hE 100 rfl ?_; conv => whnf) | exact rfl | refine And.intro (fun _ => ?_) (fun h => absurd (show true = false from h) (by decide)) | refine And.intro (fun h => absurd (show false = true from h) (by decide)) (fun _ => ?_) | refine And.intro (fun h => ?_) (fun h => absurd (of_decide_eq_false h) (by omega)) | refine And.intro (fun h => absurd (of_decide_eq_true h) (by omega)) (fun h => ?_) | refine And.intro (fun h => ?_) (fun h => ?_) | refine Or.inl (And.intro (And.intro (by simp only [kmin]; omega) (by simp only [kmax]; omega)) ?_) | refine Exists.intro _ (And.intro rfl ?_) | refine And.intro (by decide) ?_ | refine And.intro (by omega) ?_ | fail
  | succ m ih =>
    intro i hi
    have hlt : i < a.length := by omega
    have get := iv_get hlt
    generalize a[i] = x at get
    have next := ih (i + 1) (by omega)
    have hxx : (x != x) = false := by simp
    refine goes hE 100 ?_
    conv => whnf
    refine And.intro (fun h => ?_) (fun h => absurd (of_decide_eq_false h) (by omega))
    repeat' first | (refine goN hE 100 rfl ?_; conv => whnf) | refine Exists.intro i (And.intro rfl ?_) | refine Exists.intro _ (And.intro get ?_) | refine And.intro (fun h => absurd h (by rw [hxx]; decide)) (fun h => ?_) | exact rfl | refine And.intro (fun _ => ?_) (fun h => absurd (show true = false from h) (by decide)) | refine And.intro (fun h => absurd (show false = true from h) (by decide)) (fun _ => ?_) | refine And.intro (fun h => ?_) (fun h => absurd (of_decide_eq_false h) (by omega)) | refine And.intro (fun h => absurd (of_decide_eq_true h) (by omega)) (fun h => ?_) | refine And.intro (fun h => ?_) (fun h => ?_) | refine Or.inl (And.intro (And.intro (by simp only [kmin]; omega) (by simp only [kmax]; omega)) ?_) | refine Exists.intro _ (And.intro rfl ?_) | refine And.intro (by decide) ?_ | refine And.intro (by omega) ?_ | fail
    exact To.cut [0, 1, 5] 0 rfl rfl rfl rfl next
/-- two rows that are the same -/
theorem ints_ok (a : List Int) (hl : a.length ≤ 1048576) : CallOK Tryz.prog 15 [.slice 1 (iv a) .no, .slice 1 (iv a) .no] [] (.ret (.bool true)) [] := by
  have hll : (((iv a).length : Int) != ((iv a).length : Int)) = false := by simp
  refine CallOK.to (E := E) (fn := Tryz.f15) (g := .pure _) (by rfl) (by rfl) (by rfl) (fun _ _ => by rfl) (by decide +kernel) (by rfl) (by rfl) (by rfl) fun _ => ?_
  refine goes hE 100 ?_
  conv => whnf
  refine And.intro (fun h => absurd h (by rw [hll]; decide)) (fun h => ?_)
  refine goes hE 100 ?_
  conv => whnf
  exact To.cut [0, 1, 5] 0 rfl rfl rfl rfl (ints_loop a hl a.length 0 (by omega))

end Go.Proofs.YtlalcoklkafnnaaGreat

namespace Go.Proofs.YtlalcoklkafnnaaGreat
open Go Go.AW Go.Proofs
set_option maxRecDepth 10000
theorem gang_valid {ns : List Nod} {g : Gan} (h : gangI ns g ≠ 0) : validB g.need = true := by
  unfold gangI at h
  split at h
  · rename_i hb
    unfold gangB at hb
    simp only [Bool.and_eq_true] at hb
    exact hb.2.1
  · exact absurd rfl h
end Go.Proofs.YtlalcoklkafnnaaGreat
