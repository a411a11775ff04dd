/-
  The references of the layers 3 to 20, as walks; the laws.
-/
import Derived.Test.YtlalcoklkafnnaaGreatRows
import Derived.Test.YtlalcoklkafnnaaGreatHB
namespace Go.Proofs.YtlalcoklkafnnaaGreat
open Go Go.AW Go.Proofs
set_option maxRecDepth 10000

theorem rcut_ok (n m : Int) (h0 : 0 ≤ m) (h1 : m ≤ 1099511627776) : CallOK Tryz.prog 70 [ii n, ii m] [] (.ret (ii (cutI n m))) [] := by
  have e : cutI n m = max (0 - m) (min n m) := by unfold cutI; omega
  rw [e]
  refine CallOK.to (E := E) (fn := Tryz.f70) (g := .pure _) (by rfl) (by rfl) (by rfl) (fun _ _ => by rfl) (by decide +kernel) (by rfl) (by rfl) (by rfl) fun _ => ?_
  repeat' first | (refine goN hE 100 rfl ?_; conv => whnf) | exact rfl | refine And.intro (fun _ => ?_) (fun h => absurd (show true = false from h) (by decide)) | refine And.intro (fun h => absurd (show false = true from h) (by decide)) (fun _ => ?_) | refine And.intro (fun h => ?_) (fun h => absurd (of_decide_eq_false h) (by omega)) | refine And.intro (fun h => absurd (of_decide_eq_true h) (by omega)) (fun h => ?_) | refine And.intro (fun h => ?_) (fun h => ?_) | refine Or.inl (And.intro (And.intro (by simp only [kmin]; omega) (by simp only [kmax]; omega)) ?_) | refine Exists.intro _ (And.intro rfl ?_) | refine And.intro (by decide) ?_ | refine And.intro (by omega) ?_ | fail
theorem radd_ok (a b : V3) : CallOK Tryz.prog 31 [a.av, b.av] [] (.ret (vadd a b).av) [] := by
  have r1 := cutI_r a.a 1099511627776 (by decide)
  have r2 := cutI_r a.b 1099511627776 (by decide)
  have r3 := cutI_r a.c 1099511627776 (by decide)
  have r4 := cutI_r b.a 1099511627776 (by decide)
  have r5 := cutI_r b.b 1099511627776 (by decide)
  have r6 := cutI_r b.c 1099511627776 (by decide)
  refine CallOK.to (E := E) (fn := Tryz.f31) (g := .pure _) (by rfl) (by rfl) (by rfl) (fun _ _ => by rfl) (by decide +kernel) (by rfl) (by rfl) (by rfl) fun _ => ?_
  repeat' first
    | (refine goes hE 100 ?_; conv => whnf)
    | refine .pure _ [] (rcut_ok _ _ (by decide) (by decide)) ?_
    | exact rfl
    | refine And.intro (fun _ => ?_) (fun h => absurd (show true = false from h) (by decide))
    | refine And.intro (fun h => absurd (show false = true from h) (by decide)) (fun _ => ?_)
    | refine Or.inl (And.intro (And.intro (by simp only [kmin]; omega) (by simp only [kmax]; omega)) ?_)
    | refine Exists.intro _ (And.intro rfl ?_)
    | refine And.intro (by decide) ?_
theorem rsub_ok (a b : V3) : CallOK Tryz.prog 68 [a.av, b.av] [] (.ret (vsub a b).av) [] := by
  have r1 := cutI_r a.a 1099511627776 (by decide)
  have r2 := cutI_r a.b 1099511627776 (by decide)
  have r3 := cutI_r a.c 1099511627776 (by decide)
  have r4 := cutI_r b.a 1099511627776 (by decide)
  have r5 := cutI_r b.b 1099511627776 (by decide)
  have r6 := cutI_r b.c 1099511627776 (by decide)
  refine CallOK.to (E := E) (fn := Tryz.f68) (g := .pure _) (by rfl) (by rfl) (by rfl) (fun _ _ => by rfl) (by decide +kernel) (by rfl) (by rfl) (by rfl) fun _ => ?_
  repeat' first
    | (refine goes hE 100 ?_; conv => whnf)
    | refine .pure _ [] (rcut_ok _ _ (by decide) (by decide)) ?_
    | exact rfl
    | refine And.intro (fun _ => ?_) (fun h => absurd (show true = false from h) (by decide))
    | refine And.intro (fun h => absurd (show false = true from h) (by decide)) (fun _ => ?_)
    | refine Or.inl (And.intro (And.intro (by simp only [kmin]; omega) (by simp only [kmax]; omega)) ?_)
    | refine Exists.intro _ (And.intro rfl ?_)
    | refine And.intro (by decide) ?_
theorem rmul_ok (a : V3) (n : Int) : CallOK Tryz.prog 93 [a.av, ii n] [] (.ret (vmul a n).av) [] := by
  have r1 := mul_r a.a n
  have r2 := mul_r a.b n
  have r3 := mul_r a.c n
  refine CallOK.to (E := E) (fn := Tryz.f93) (g := .pure _) (by rfl) (by rfl) (by rfl) (fun _ _ => by rfl) (by decide +kernel) (by rfl) (by rfl) (by rfl) fun _ => ?_
  repeat' first
    | (refine goes hE 100 ?_; conv => whnf)
    | refine .pure _ [] (rcut_ok _ _ (by decide) (by decide)) ?_
    | exact rfl
    | refine And.intro (fun _ => ?_) (fun h => absurd (show true = false from h) (by decide))
    | refine And.intro (fun h => absurd (show false = true from h) (by decide)) (fun _ => ?_)
    | refine Or.inl (And.intro (And.intro (by simp only [kmin]; omega) (by simp only [kmax]; omega)) ?_)
    | refine Exists.intro _ (And.intro rfl ?_)
    | refine And.intro (by decide) ?_
theorem rdem_ok (g : Gan) : CallOK Tryz.prog 51 [g.av] [] (.ret (dem g).av) [] := by
  refine CallOK.to (E := E) (fn := Tryz.f51) (g := .pure _) (by rfl) (by rfl) (by rfl) (fun _ _ => by rfl) (by decide +kernel) (by rfl) (by rfl) (by rfl) fun _ => ?_
  repeat' first | (refine goN hE 100 rfl ?_; conv => whnf) | refine .pure _ [] (rmul_ok g.need g.pods) ?_ | exact rfl | refine And.intro (fun _ => ?_) (fun h => absurd (show true = false from h) (by decide)) | refine And.intro (fun h => absurd (show false = true from h) (by decide)) (fun _ => ?_) | refine And.intro (fun h => ?_) (fun h => absurd (of_decide_eq_false h) (by omega)) | refine And.intro (fun h => absurd (of_decide_eq_true h) (by omega)) (fun h => ?_) | refine And.intro (fun h => ?_) (fun h => ?_) | refine Or.inl (And.intro (And.intro (by simp only [kmin]; omega) (by simp only [kmax]; omega)) ?_) | refine Exists.intro _ (And.intro rfl ?_) | refine And.intro (by decide) ?_ | refine And.intro (by omega) ?_ | fail
theorem rat3_any (l : List V3) (n : Int) (r : V3) (hr : atV l n = r) : CallOK Tryz.prog 92 [.slice 3 (vav l) .no, ii n] [] (.ret r.av) [] := by
  have hl : (vav l).length = l.length := by simp
  unfold atV at hr
  by_cases h1 : n < 0
  · rw [if_pos (decide_eq_true h1)] at hr
    subst hr
    refine CallOK.to (E := E) (fn := Tryz.f92) (g := .pure _) (by rfl) (by rfl) (by rfl) (fun _ _ => by rfl) (by decide +kernel) (by rfl) (by rfl) (by rfl) fun _ => ?_
    repeat' first | (refine goN hE 100 rfl ?_; conv => whnf) | exact rfl | refine And.intro (fun _ => ?_) (fun h => absurd (show true = false from h) (by decide)) | refine And.intro (fun h => absurd (show false = true from h) (by decide)) (fun _ => ?_) | refine And.intro (fun h => ?_) (fun h => absurd (of_decide_eq_false h) (by omega)) | refine And.intro (fun h => absurd (of_decide_eq_true h) (by omega)) (fun h => ?_) | refine And.intro (fun h => ?_) (fun h => ?_) | refine Or.inl (And.intro (And.intro (by simp only [kmin]; omega) (by simp only [kmax]; omega)) ?_) | refine Exists.intro _ (And.intro rfl ?_) | refine And.intro (by decide) ?_ | refine And.intro (by omega) ?_ | fail
  · rw [if_neg (by rw [decide_eq_false h1]; decide)] at hr
    by_cases h2 : n.toNat < l.length
    · rw [List.getElem?_eq_getElem h2] at hr
      have get := vav_get h2
      have hr : l[n.toNat] = r := hr
      rw [hr] at get
      have hn : n = (n.toNat : Int) := by omega
      refine CallOK.to (E := E) (fn := Tryz.f92) (g := .pure _) (by rfl) (by rfl) (by rfl) (fun _ _ => by rfl) (by decide +kernel) (by rfl) (by rfl) (by rfl) fun _ => ?_
      repeat' first | (refine goN hE 100 rfl ?_; conv => whnf) | refine Exists.intro n.toNat (And.intro hn ?_) | refine Exists.intro _ (And.intro get ?_) | exact rfl | refine And.intro (fun _ => ?_) (fun h => absurd (show true = false from h) (by decide)) | refine And.intro (fun h => absurd (show false = true from h) (by decide)) (fun _ => ?_) | refine And.intro (fun h => ?_) (fun h => absurd (of_decide_eq_false h) (by omega)) | refine And.intro (fun h => absurd (of_decide_eq_true h) (by omega)) (fun h => ?_) | refine And.intro (fun h => ?_) (fun h => ?_) | refine Or.inl (And.intro (And.intro (by simp only [kmin]; omega) (by simp only [kmax]; omega)) ?_) | refine Exists.intro _ (And.intro rfl ?_) | refine And.intro (by decide) ?_ | refine And.intro (by omega) ?_ | fail
    · rw [List.getElem?_eq_none (by omega)] at hr
      subst hr
      refine CallOK.to (E := E) (fn := Tryz.f92) (g := .pure _) (by rfl) (by rfl) (by rfl) (fun _ _ => by rfl) (by decide +kernel) (by rfl) (by rfl) (by rfl) fun _ => ?_
      repeat' first | (refine goN hE 100 rfl ?_; conv => whnf) | exact rfl | refine And.intro (fun _ => ?_) (fun h => absurd (show true = false from h) (by decide)) | refine And.intro (fun h => absurd (show false = true from h) (by decide)) (fun _ => ?_) | refine And.intro (fun h => ?_) (fun h => absurd (of_decide_eq_false h) (by omega)) | refine And.intro (fun h => absurd (of_decide_eq_true h) (by omega)) (fun h => ?_) | refine And.intro (fun h => ?_) (fun h => ?_) | refine Or.inl (And.intro (And.intro (by simp only [kmin]; omega) (by simp only [kmax]; omega)) ?_) | refine Exists.intro _ (And.intro rfl ?_) | refine And.intro (by decide) ?_ | refine And.intro (by omega) ?_ | fail
theorem rat3_ok (l : List V3) (n : Int) : CallOK Tryz.prog 92 [.slice 3 (vav l) .no, ii n] [] (.ret (atV l n).av) [] := rat3_any l n _ rfl
end Go.Proofs.YtlalcoklkafnnaaGreat

namespace Go.Proofs.YtlalcoklkafnnaaGreat
open Go Go.AW Go.Proofs

theorem any_find (n : Int) : ∀ (l : List Nod) (i : Nat), decide (0 ≤ findP n l i) = l.any fun x => x.p == n
  | [], i => by simp [findP]
  | x :: r, i => by
    unfold findP
    rw [List.any_cons]
    by_cases h : x.p = n
    · simp [h]
    · have := any_find n r (i + 1)
      simp [h, this]
theorem all_not_any (l : List Nod) (n : Int) : (l.all fun x => !(x.p == n)) = !(l.any fun x => x.p == n) := by
  induction l with
  | nil => rfl
  | cons x r ih => rw [List.all_cons, List.any_cons, ih]; cases (x.p == n) <;> simp
theorem rlB_eq (ns : List Nod) (t : Int) : rlB ns t = leafB ns t := by
  unfold rlB leafB
  rw [any_find, all_not_any]
  generalize (ns.any fun x => x.p == t) = b
  by_cases h1 : t < 0
  · have h2 : ¬ 0 ≤ t := by omega
    simp [h1, h2]
  · have h3 : 0 ≤ t := by omega
    by_cases h2 : (ns.length : Int) ≤ t
    · have h4 : ¬ t < (ns.length : Int) := by omega
      simp [h1, h3, h2, h4]
    · have h4 : t < (ns.length : Int) := by omega
      simp [h1, h3, h2, h4]
/-- from the root down to a node -/
def pathL (ns : List Nod) (n : Int) : List Int := (upL ns n).reverse
/-- the one that the path is read from above or below, if the steps change places -/
theorem foldl_rev {α β : Type} (f : β → α → β) (hf : ∀ b x y, f (f b x) y = f (f b y) x) : ∀ (l : List α) (b : β), l.reverse.foldl f b = l.foldl f b
  | [], b => rfl
  | x :: r, b => by
    have h : ∀ (l : List α) (b : β), l.foldl f (f b x) = f (l.foldl f b) x := fun l => by
      induction l with
      | nil => intro b; rfl
      | cons y r ih => intro b; rw [List.foldl_cons, List.foldl_cons, hf, ih]
    rw [List.reverse_cons, List.foldl_append, foldl_rev f hf r b]
    show f (r.foldl f b) x = r.foldl f (f b x)
    rw [h]

/- ---------- what each node uses ---------- -/
def addP (v : V3) (xs : List V3) (k : Int) : List V3 := xs.set k.toNat (vadd ((xs[k.toNat]?).getD V3.zero) v)
theorem addP_len (v : V3) (xs : List V3) (k : Int) : (addP v xs k).length = xs.length := by unfold addP; simp
theorem addP_get (v : V3) (xs : List V3) (k : Int) (j : Nat) : (addP v xs k)[j]? = if k.toNat = j then (xs[j]?).map fun x => vadd x v else xs[j]? := by
  unfold addP
  rw [List.getElem?_set]
  by_cases h : k.toNat = j
  · subst h
    rw [if_pos rfl, if_pos rfl]
    by_cases h2 : k.toNat < xs.length
    · rw [if_pos h2, List.getElem?_eq_getElem h2]
      rfl
    · rw [if_neg h2, List.getElem?_eq_none (by omega)]
      rfl
  · rw [if_neg h, if_neg h]
theorem addP_comm (v : V3) (xs : List V3) (a b : Int) : addP v (addP v xs a) b = addP v (addP v xs b) a := by
  refine List.ext_getElem? fun j => ?_
  rw [addP_get, addP_get, addP_get, addP_get]
  by_cases h1 : a.toNat = j <;> by_cases h2 : b.toNat = j <;> simp [h1, h2]
def rofX (c : Con) (xs : List V3) (x : Rn) : List V3 := if leafB c.ns x.g.ten = true then (pathL c.ns x.g.ten).foldl (addP (dem x.g)) xs else xs
def rofL (c : Con) (l : List Rn) : List V3 := l.foldl (rofX c) (List.replicate c.ns.length V3.zero)
theorem addP_fold_len (v : V3) : ∀ (ks : List Int) (xs : List V3), (ks.foldl (addP v) xs).length = xs.length
  | [], _ => rfl
  | k :: r, xs => by rw [List.foldl_cons, addP_fold_len v r, addP_len]
theorem rofX_len (c : Con) (xs : List V3) (x : Rn) : (rofX c xs x).length = xs.length := by
  unfold rofX
  split
  · exact addP_fold_len _ _ _
  · rfl
/-- keys are there once -/
def LedN (L : Led) : Prop := (L.map Prod.fst).Nodup
theorem lput_keys (n : Int) (v : V3) : ∀ (L : Led) (k : Int), k ∈ (lput L n v).map Prod.fst → k = n ∨ k ∈ L.map Prod.fst
  | [], k, h => by simp [lput] at h; exact .inl h
  | (j, w) :: r, k, h => by
    unfold lput at h
    split at h
    · rename_i hj
      simp only [List.map_cons, List.mem_cons] at h ⊢
      rcases h with rfl | h
      · exact .inl rfl
      · exact .inr (.inr h)
    · simp only [List.map_cons, List.mem_cons] at h ⊢
      rcases h with rfl | h
      · exact .inr (.inl rfl)
      · rcases lput_keys n v r k h with h | h
        · exact .inl h
        · exact .inr (.inr h)
theorem lput_n (n : Int) (v : V3) : ∀ (L : Led), LedN L → LedN (lput L n v)
  | [], _ => by simp [lput, LedN]
  | (j, w) :: r, h => by
    have h1 := (List.nodup_cons.1 h)
    unfold lput
    split
    · rename_i hj
      subst hj
      exact h
    · rename_i hj
      refine List.nodup_cons.2 ⟨fun hm => ?_, lput_n n v r h1.2⟩
      rcases lput_keys n v r _ hm with h | h
      · exact hj h
      · exact h1.1 h
theorem ldel_keys (n : Int) : ∀ (L : Led) (k : Int), k ∈ (ldel L n).map Prod.fst → k ∈ L.map Prod.fst
  | [], k, h => h
  | (j, w) :: r, k, h => by
    unfold ldel at h
    simp only [List.map_cons, List.mem_cons]
    split at h
    · exact .inr h
    · simp only [List.map_cons, List.mem_cons] at h
      rcases h with h | h
      · exact .inl h
      · exact .inr (ldel_keys n r k h)
theorem ldel_n (n : Int) : ∀ (L : Led), LedN L → LedN (ldel L n)
  | [], h => h
  | (j, w) :: r, h => by
    have h1 := (List.nodup_cons.1 h)
    unfold ldel
    split
    · exact h1.2
    · exact List.nodup_cons.2 ⟨fun hm => h1.1 (ldel_keys n r _ hm), ldel_n n r h1.2⟩
theorem lget_out : ∀ (L : Led) (n : Int), n ∉ L.map Prod.fst → lgetO L n = none
  | [], n, h => rfl
  | (j, w) :: r, n, h => by
    simp only [List.map_cons, List.mem_cons, not_or] at h
    unfold lgetO
    rw [if_neg (fun e => h.1 e.symm)]
    exact lget_out r n h.2
theorem lget_put (n : Int) (v : V3) (k : Int) : ∀ (L : Led), lgetO (lput L n v) k = if k = n then some v else lgetO L k
  | [] => by
    unfold lput lgetO lgetO
    by_cases h : k = n
    · rw [if_pos h, if_pos h.symm]
    · rw [if_neg h, if_neg (fun e => h e.symm)]
  | (j, w) :: r => by
    have ih := lget_put n v k r
    unfold lput
    split
    · rename_i hj
      subst hj
      unfold lgetO
      by_cases h : k = j
      · rw [if_pos h, if_pos h.symm]
      · rw [if_neg h, if_neg (fun e => h e.symm), if_neg (fun e => h e.symm)]
    · rename_i hj
      unfold lgetO
      rw [ih]
      by_cases h : j = k
      · rw [if_pos h, if_pos h, if_neg (fun e => hj (h.trans e))]
      · rw [if_neg h, if_neg h]
theorem lget_del (n : Int) (k : Int) : ∀ (L : Led), LedN L → lgetO (ldel L n) k = if k = n then none else lgetO L k
  | [], _ => by
    unfold ldel lgetO
    split <;> rfl
  | (j, w) :: r, h => by
    have h1 := (List.nodup_cons.1 h)
    have ih := lget_del n k r h1.2
    unfold ldel
    split
    · rename_i hj
      subst hj
      by_cases h2 : k = j
      · rw [if_pos h2, h2]
        exact lget_out r j h1.1
      · rw [if_neg h2]
        conv => rhs; unfold lgetO
        rw [if_neg (fun e => h2 e.symm)]
    · rename_i hj
      unfold lgetO
      rw [ih]
      by_cases h2 : j = k
      · rw [if_pos h2, if_pos h2, if_neg (fun e => hj (h2.trans e))]
      · rw [if_neg h2, if_neg h2]
theorem isZ_zero {v : V3} (h : isZ v = true) : v = V3.zero := by
  obtain ⟨a, b, c⟩ := v
  unfold isZ at h
  simp at h
  obtain ⟨rfl, rfl, rfl⟩ := h
  rfl
theorem lset_n {L : Led} (h : LedN L) (n : Int) (v : V3) : LedN (lset L n v) := by
  unfold lset
  split
  · exact ldel_n n L h
  · exact lput_n n v L h
theorem lset_get {L : Led} (h : LedN L) (n : Int) (v : V3) (k : Int) : lgetV (lset L n v) k = if k = n then v else lgetV L k := by
  unfold lset lgetV
  split
  · rename_i hz
    rw [lget_del n k L h]
    by_cases h2 : k = n
    · rw [if_pos h2, if_pos h2, isZ_zero hz]; rfl
    · rw [if_neg h2, if_neg h2]
  · rw [lget_put]
    by_cases h2 : k = n
    · rw [if_pos h2, if_pos h2]; rfl
    · rw [if_neg h2, if_neg h2]
theorem allL_get (n : Nat) (L : Led) (j : Nat) : (allL n L)[j]? = if j < n then some (lgetV L (j : Int)) else none := by
  unfold allL
  rw [List.getElem?_map]
  by_cases h : j < n
  · rw [if_pos h, List.getElem?_range h]; rfl
  · rw [if_neg h, List.getElem?_eq_none (by simp; omega)]; rfl
theorem chg_all {n : Nat} {L : Led} (h : LedN L) (v : V3) (k : Int) (h0 : 0 ≤ k) (hk : k.toNat < n) : allL n (chgS v L k) = addP v (allL n L) k := by
  refine List.ext_getElem? fun j => ?_
  rw [addP_get, allL_get, allL_get]
  unfold chgS
  rw [lset_get h]
  by_cases h1 : j < n
  · rw [if_pos h1, if_pos h1]
    by_cases h2 : k.toNat = j
    · rw [if_pos h2, if_pos (by omega)]
      have : k = (j : Int) := by omega
      rw [this]
      rfl
    · rw [if_neg h2, if_neg (by omega)]
  · rw [if_neg h1, if_neg h1]
    split <;> rfl
theorem chg_n {L : Led} (h : LedN L) (v : V3) (k : Int) : LedN (chgS v L k) := lset_n h _ _
theorem chg_fold {n : Nat} (v : V3) : ∀ (ks : List Int) (L : Led), LedN L → (∀ k ∈ ks, 0 ≤ k ∧ k.toNat < n) → allL n (ks.foldl (chgS v) L) = ks.foldl (addP v) (allL n L) ∧ LedN (ks.foldl (chgS v) L)
  | [], L, h, _ => ⟨rfl, h⟩
  | k :: r, L, h, hk => by
    have h1 := hk k (by simp)
    obtain ⟨e1, e2⟩ := chg_fold v r (chgS v L k) (chg_n h v k) fun x hx => hk x (by simp [hx])
    exact ⟨by rw [List.foldl_cons, e1, chg_all h v k h1.1 h1.2]; rfl, e2⟩
theorem upF_ok (ns : List Nod) : ∀ (f : Nat) (n x : Int), x ∈ upF ns f n → 0 ≤ x ∧ x.toNat < ns.length
  | 0, n, x, h => by simp [upF] at h
  | f + 1, n, x, h => by
    unfold upF at h
    split at h
    · rename_i h0
      have h0 := of_decide_eq_true h0
      split at h
      · rename_i h1
        split at h
        · simp at h; subst h; exact ⟨h0, h1⟩
        · rcases List.mem_cons.1 h with rfl | h
          · exact ⟨h0, h1⟩
          · exact upF_ok ns f _ x h
      · simp at h
    · simp at h
theorem ofStep_all (c : Con) (L : Led) (h : LedN L) (x : Rn) : allL c.ns.length (ofStep c L x) = rofX c (allL c.ns.length L) x ∧ LedN (ofStep c L x) := by
  unfold ofStep rofX pathL
  split
  · obtain ⟨e1, e2⟩ := chg_fold (n := c.ns.length) (dem x.g) (upL c.ns x.g.ten) L h fun k hk => upF_ok _ _ _ _ hk
    exact ⟨by rw [e1, foldl_rev _ (addP_comm _)], e2⟩
  · exact ⟨rfl, h⟩
theorem of_eq (c : Con) (l : List Rn) : rofL c l = ofL c l := by
  have key : ∀ (l : List Rn) (L : Led), LedN L → l.foldl (rofX c) (allL c.ns.length L) = allL c.ns.length (l.foldl (ofStep c) L) := fun l => by
    induction l with
    | nil => intro L _; rfl
    | cons x r ih =>
      intro L h
      obtain ⟨e1, e2⟩ := ofStep_all c L h x
      rw [List.foldl_cons, List.foldl_cons, ← e1, ih _ e2]
  have h0 : allL c.ns.length [] = List.replicate c.ns.length V3.zero := by
    refine List.ext_getElem? fun j => ?_
    rw [allL_get, List.getElem?_replicate]
    rfl
  unfold rofL ofL
  rw [← h0, key l [] (by simp [LedN])]
end Go.Proofs.YtlalcoklkafnnaaGreat

namespace Go.Proofs.YtlalcoklkafnnaaGreat
open Go Go.AW Go.Proofs
set_option maxRecDepth 10000

noncomputable abbrev fRLvs : Func := Tryz.f135
theorem rlvs_loop (c : Con) (hc : c.sm) (R : List Int) : ∀ (m i : Nat) (acc : List Int), i + m = c.ns.length → acc.length ≤ i → acc ++ lvF c.ns m i = R →
    To (Eo [3] []) fRLvs (.pure (.ret (.slice 1 (iv R) .no))) (.head (stk fRLvs 0) [(1, .ref 0 0), (3, .slice 1 (iv acc) (.own 1 0)), (4, .int .i64 i)] [.cells 25 c.cs, .tail 0 1 3]) := by
  have hlen : (nav c.ns).length = c.ns.length := by simp
  have h1 := hc.ns
  intro m
  induction m with
  | zero =>
    intro i acc hi ha hR
    unfold lvF at hR
    rw [List.append_nil] at hR
    subst hR
    refine goes (hEo [3] []) 100 ?_
    conv => whnf
    refine And.intro (fun h => absurd (of_decide_eq_true h) (by omega)) (fun h => ?_)
    repeat' first | (refine goN (hEo [3] []) 100 rfl ?_; conv => whnf) | exact rfl | refine And.intro (fun _ => ?_) (fun h => absurd (show true = false from h) (by decide)) | refine And.intro (fun h => absurd (show false = true from h) (by decide)) (fun _ => ?_) | refine And.intro (fun h => ?_) (fun h => absurd (of_decide_eq_false h) (by omega)) | refine And.intro (fun h => absurd (of_decide_eq_true h) (by omega)) (fun h => ?_) | refine And.intro (fun h => ?_) (fun h => ?_) | refine Or.inl (And.intro (And.intro (by simp only [kmin]; omega) (by simp only [kmax]; omega)) ?_) | refine Exists.intro _ (And.intro rfl ?_) | refine And.intro (by decide) ?_ | refine And.intro (by omega) ?_ | fail
  | succ m ih =>
    intro i acc hi ha hR
    have hla : (iv acc).length = acc.length := by simp
    have hlf := rleaf_ok c hc i
    rw [rlB_eq] at hlf
    unfold lvF at hR
    refine goes (hEo [3] []) 100 ?_
    conv => whnf
    refine And.intro (fun h => ?_) (fun h => absurd (of_decide_eq_false h) (by omega))
    refine goes (hEo [3] []) 100 ?_
    conv => whnf
    refine .pure _ [] hlf ?_
    refine goes (hEo [3] []) 100 ?_
    conv => whnf
    refine And.intro (fun h2 => ?_) (fun h2 => ?_)
    · have h2 : leafB c.ns (i : Int) = true := h2
      rw [if_pos h2] at hR
      have next := ih (i + 1) (acc ++ [(i : Int)]) (by omega) (by simp; omega) (by rw [List.append_assoc]; exact hR)
      have e : iv (acc ++ [(i : Int)]) = iv acc ++ [ii i] := by simp
      rw [e] at next
      refine goes (hEo [3] []) 100 ?_
      conv => whnf
      refine And.intro (And.intro (by simp only [maxLen]; simp; omega) (by simp; omega)) ?_
      refine goes (hEo [3] []) 100 ?_
      conv => whnf
      refine Or.inl (And.intro (And.intro (by simp only [kmin]; omega) (by simp only [kmax]; omega)) ?_)
      refine goes (hEo [3] []) 100 ?_
      conv => whnf
      refine To.part [1, 3, 4] [0, 1] rfl rfl rfl ?_
      exact next
    · have h2 : leafB c.ns (i : Int) = false := h2
      rw [if_neg (by rw [h2]; decide)] at hR
      have next := ih (i + 1) acc (by omega) (by omega) hR
      refine goes (hEo [3] []) 100 ?_
      conv => whnf
      refine Or.inl (And.intro (And.intro (by simp only [kmin]; omega) (by simp only [kmax]; omega)) ?_)
      refine goes (hEo [3] []) 100 ?_
      conv => whnf
      refine To.part [1, 3, 4] [0, 1] rfl rfl rfl ?_
      exact next
theorem rlvs_ok (c : Con) (hc : c.sm) : CallOK Tryz.prog 135 [c.av] [] (.ret (.slice 1 (iv (leavesL c.ns)) .no)) [] := by
  refine CallOK.to (E := (Eo [3] [])) (fn := Tryz.f135) (g := .pure _) (by rfl) (by rfl) (by rfl) (fun _ _ => by rfl) (by decide +kernel) (by rfl) (by rfl) (by rfl) fun _ => ?_
  refine goes (hEo [3] []) 100 ?_
  conv => whnf
  refine To.part [1, 3, 4] [0, 1] rfl rfl rfl ?_
  exact rlvs_loop c hc _ c.ns.length 0 [] (by omega) (by simp) rfl

/- ---------- the path ---------- -/
noncomputable abbrev fRPath : Func := Tryz.f29
theorem rpath_loop (c : Con) (hc : c.sm) (R : List Int) : ∀ (f : Nat) (n : Int) (acc : List Int) (tk : Tk), (tk = .nil ∨ tk = .no) → (0 ≤ n → n.toNat < f) → (0 ≤ n → n.toNat < c.ns.length → acc.length + n.toNat < 1048577) → (upF c.ns f n).reverse ++ acc = R →
    To E fRPath (.pure (.ret (.slice 1 (iv R) .no))) (.head (stk fRPath 0) [(1, ii n), (2, .ref 0 0), (5, .slice 1 (iv acc) tk)] [.cells 25 c.cs]) := by
  have hlen : (nav c.ns).length = c.ns.length := by simp
  have hcn := hc.ns
  intro f
  induction f with
  | zero =>
    intro n acc tk ht hf hb hR
    have hla : (iv acc).length = acc.length := by simp
    have h1 : ¬ 0 ≤ n := fun h => by have := hf h; omega
    have hR : acc = R := hR
    subst hR
    rcases ht with rfl | rfl
    · refine goes hE 100 ?_
      conv => whnf
      repeat' first | (refine goN hE 100 rfl ?_; conv => whnf) | exact rfl | refine And.intro (fun _ => ?_) (fun h => absurd (show true = false from h) (by decide)) | refine And.intro (fun h => absurd (show false = true from h) (by decide)) (fun _ => ?_) | refine And.intro (fun h => ?_) (fun h => absurd (of_decide_eq_false h) (by omega)) | refine And.intro (fun h => absurd (of_decide_eq_true h) (by omega)) (fun h => ?_) | refine And.intro (fun h => ?_) (fun h => ?_) | refine Or.inl (And.intro (And.intro (by simp only [kmin]; omega) (by simp only [kmax]; omega)) ?_) | refine Exists.intro _ (And.intro rfl ?_) | refine And.intro (by decide) ?_ | refine And.intro (by omega) ?_ | fail
    · refine goes hE 100 ?_
      conv => whnf
      repeat' first | (refine goN hE 100 rfl ?_; conv => whnf) | exact rfl | refine And.intro (fun _ => ?_) (fun h => absurd (show true = false from h) (by decide)) | refine And.intro (fun h => absurd (show false = true from h) (by decide)) (fun _ => ?_) | refine And.intro (fun h => ?_) (fun h => absurd (of_decide_eq_false h) (by omega)) | refine And.intro (fun h => absurd (of_decide_eq_true h) (by omega)) (fun h => ?_) | refine And.intro (fun h => ?_) (fun h => ?_) | refine Or.inl (And.intro (And.intro (by simp only [kmin]; omega) (by simp only [kmax]; omega)) ?_) | refine Exists.intro _ (And.intro rfl ?_) | refine And.intro (by decide) ?_ | refine And.intro (by omega) ?_ | fail
  | succ f ih =>
    intro n acc tk ht hf hb hR
    have hla : (iv acc).length = acc.length := by simp
    unfold upF at hR
    rcases ht with rfl | rfl
    · by_cases h1 : 0 ≤ n
      · rw [if_pos (decide_eq_true h1)] at hR
        by_cases h2 : n.toNat < c.ns.length
        · rw [dif_pos h2] at hR
          have hb := hb h1 h2
          generalize hx : c.ns[n.toNat] = x at hR
          have get : (nav c.ns)[n.toNat]? = some x.av := (nav_get h2).trans (by rw [hx])
          have hn : n = (n.toNat : Int) := by omega
          by_cases h3 : n ≤ x.p
          · rw [if_pos (decide_eq_true h3)] at hR
            have hR : n :: acc = R := hR
            subst hR
            refine goes hE 100 ?_
            conv => whnf
            repeat' first | (refine goN hE 100 rfl ?_; conv => whnf) | refine Exists.intro n.toNat (And.intro hn ?_) | refine Exists.intro _ (And.intro get ?_) | refine And.intro (And.intro (by simp only [maxLen]; simp; omega) (by simp; omega)) ?_ | exact rfl | refine And.intro (fun _ => ?_) (fun h => absurd (show true = false from h) (by decide)) | refine And.intro (fun h => absurd (show false = true from h) (by decide)) (fun _ => ?_) | refine And.intro (fun h => ?_) (fun h => absurd (of_decide_eq_false h) (by omega)) | refine And.intro (fun h => absurd (of_decide_eq_true h) (by omega)) (fun h => ?_) | refine And.intro (fun h => ?_) (fun h => ?_) | refine Or.inl (And.intro (And.intro (by simp only [kmin]; omega) (by simp only [kmax]; omega)) ?_) | refine Exists.intro _ (And.intro rfl ?_) | refine And.intro (by decide) ?_ | refine And.intro (by omega) ?_ | fail
          · rw [if_neg (by rw [decide_eq_false h3]; decide), List.reverse_cons, List.append_assoc] at hR
            have next := ih x.p (n :: acc) .no (.inr rfl) (fun _ => by have := hf h1; omega) (fun _ _ => by simp; omega) hR
            refine goes hE 100 ?_
            conv => whnf
            repeat' first | (refine goN hE 100 rfl ?_; conv => whnf) | refine Exists.intro n.toNat (And.intro hn ?_) | refine Exists.intro _ (And.intro get ?_) | refine And.intro (And.intro (by simp only [maxLen]; simp; omega) (by simp; omega)) ?_ | exact rfl | refine And.intro (fun _ => ?_) (fun h => absurd (show true = false from h) (by decide)) | refine And.intro (fun h => absurd (show false = true from h) (by decide)) (fun _ => ?_) | refine And.intro (fun h => ?_) (fun h => absurd (of_decide_eq_false h) (by omega)) | refine And.intro (fun h => absurd (of_decide_eq_true h) (by omega)) (fun h => ?_) | refine And.intro (fun h => ?_) (fun h => ?_) | refine Or.inl (And.intro (And.intro (by simp only [kmin]; omega) (by simp only [kmax]; omega)) ?_) | refine Exists.intro _ (And.intro rfl ?_) | refine And.intro (by decide) ?_ | refine And.intro (by omega) ?_ | fail
            refine To.part [1, 2, 5] [0] rfl rfl rfl ?_
            exact next
        · rw [dif_neg h2] at hR
          have hR : acc = R := hR
          subst hR
          refine goes hE 100 ?_
          conv => whnf
          repeat' first | (refine goN hE 100 rfl ?_; conv => whnf) | exact rfl | refine And.intro (fun _ => ?_) (fun h => absurd (show true = false from h) (by decide)) | refine And.intro (fun h => absurd (show false = true from h) (by decide)) (fun _ => ?_) | refine And.intro (fun h => ?_) (fun h => absurd (of_decide_eq_false h) (by omega)) | refine And.intro (fun h => absurd (of_decide_eq_true h) (by omega)) (fun h => ?_) | refine And.intro (fun h => ?_) (fun h => ?_) | refine Or.inl (And.intro (And.intro (by simp only [kmin]; omega) (by simp only [kmax]; omega)) ?_) | refine Exists.intro _ (And.intro rfl ?_) | refine And.intro (by decide) ?_ | refine And.intro (by omega) ?_ | fail
      · rw [if_neg (by rw [decide_eq_false h1]; decide)] at hR
        have hR : acc = R := hR
        subst hR
        refine goes hE 100 ?_
        conv => whnf
        repeat' first | (refine goN hE 100 rfl ?_; conv => whnf) | exact rfl | refine And.intro (fun _ => ?_) (fun h => absurd (show true = false from h) (by decide)) | refine And.intro (fun h => absurd (show false = true from h) (by decide)) (fun _ => ?_) | refine And.intro (fun h => ?_) (fun h => absurd (of_decide_eq_false h) (by omega)) | refine And.intro (fun h => absurd (of_decide_eq_true h) (by omega)) (fun h => ?_) | refine And.intro (fun h => ?_) (fun h => ?_) | refine Or.inl (And.intro (And.intro (by simp only [kmin]; omega) (by simp only [kmax]; omega)) ?_) | refine Exists.intro _ (And.intro rfl ?_) | refine And.intro (by decide) ?_ | refine And.intro (by omega) ?_ | fail
    · by_cases h1 : 0 ≤ n
      · rw [if_pos (decide_eq_true h1)] at hR
        by_cases h2 : n.toNat < c.ns.length
        · rw [dif_pos h2] at hR
          have hb := hb h1 h2
          generalize hx : c.ns[n.toNat] = x at hR
          have get : (nav c.ns)[n.toNat]? = some x.av := (nav_get h2).trans (by rw [hx])
          have hn : n = (n.toNat : Int) := by omega
          by_cases h3 : n ≤ x.p
          · rw [if_pos (decide_eq_true h3)] at hR
            have hR : n :: acc = R := hR
            subst hR
            refine goes hE 100 ?_
            conv => whnf
            repeat' first | (refine goN hE 100 rfl ?_; conv => whnf) | refine Exists.intro n.toNat (And.intro hn ?_) | refine Exists.intro _ (And.intro get ?_) | refine And.intro (And.intro (by simp only [maxLen]; simp; omega) (by simp; omega)) ?_ | exact rfl | refine And.intro (fun _ => ?_) (fun h => absurd (show true = false from h) (by decide)) | refine And.intro (fun h => absurd (show false = true from h) (by decide)) (fun _ => ?_) | refine And.intro (fun h => ?_) (fun h => absurd (of_decide_eq_false h) (by omega)) | refine And.intro (fun h => absurd (of_decide_eq_true h) (by omega)) (fun h => ?_) | refine And.intro (fun h => ?_) (fun h => ?_) | refine Or.inl (And.intro (And.intro (by simp only [kmin]; omega) (by simp only [kmax]; omega)) ?_) | refine Exists.intro _ (And.intro rfl ?_) | refine And.intro (by decide) ?_ | refine And.intro (by omega) ?_ | fail
          · rw [if_neg (by rw [decide_eq_false h3]; decide), List.reverse_cons, List.append_assoc] at hR
            have next := ih x.p (n :: acc) .no (.inr rfl) (fun _ => by have := hf h1; omega) (fun _ _ => by simp; omega) hR
            refine goes hE 100 ?_
            conv => whnf
            repeat' first | (refine goN hE 100 rfl ?_; conv => whnf) | refine Exists.intro n.toNat (And.intro hn ?_) | refine Exists.intro _ (And.intro get ?_) | refine And.intro (And.intro (by simp only [maxLen]; simp; omega) (by simp; omega)) ?_ | exact rfl | refine And.intro (fun _ => ?_) (fun h => absurd (show true = false from h) (by decide)) | refine And.intro (fun h => absurd (show false = true from h) (by decide)) (fun _ => ?_) | refine And.intro (fun h => ?_) (fun h => absurd (of_decide_eq_false h) (by omega)) | refine And.intro (fun h => absurd (of_decide_eq_true h) (by omega)) (fun h => ?_) | refine And.intro (fun h => ?_) (fun h => ?_) | refine Or.inl (And.intro (And.intro (by simp only [kmin]; omega) (by simp only [kmax]; omega)) ?_) | refine Exists.intro _ (And.intro rfl ?_) | refine And.intro (by decide) ?_ | refine And.intro (by omega) ?_ | fail
            refine To.part [1, 2, 5] [0] rfl rfl rfl ?_
            exact next
        · rw [dif_neg h2] at hR
          have hR : acc = R := hR
          subst hR
          refine goes hE 100 ?_
          conv => whnf
          repeat' first | (refine goN hE 100 rfl ?_; conv => whnf) | exact rfl | refine And.intro (fun _ => ?_) (fun h => absurd (show true = false from h) (by decide)) | refine And.intro (fun h => absurd (show false = true from h) (by decide)) (fun _ => ?_) | refine And.intro (fun h => ?_) (fun h => absurd (of_decide_eq_false h) (by omega)) | refine And.intro (fun h => absurd (of_decide_eq_true h) (by omega)) (fun h => ?_) | refine And.intro (fun h => ?_) (fun h => ?_) | refine Or.inl (And.intro (And.intro (by simp only [kmin]; omega) (by simp only [kmax]; omega)) ?_) | refine Exists.intro _ (And.intro rfl ?_) | refine And.intro (by decide) ?_ | refine And.intro (by omega) ?_ | fail
      · rw [if_neg (by rw [decide_eq_false h1]; decide)] at hR
        have hR : acc = R := hR
        subst hR
        refine goes hE 100 ?_
        conv => whnf
        repeat' first | (refine goN hE 100 rfl ?_; conv => whnf) | exact rfl | refine And.intro (fun _ => ?_) (fun h => absurd (show true = false from h) (by decide)) | refine And.intro (fun h => absurd (show false = true from h) (by decide)) (fun _ => ?_) | refine And.intro (fun h => ?_) (fun h => absurd (of_decide_eq_false h) (by omega)) | refine And.intro (fun h => absurd (of_decide_eq_true h) (by omega)) (fun h => ?_) | refine And.intro (fun h => ?_) (fun h => ?_) | refine Or.inl (And.intro (And.intro (by simp only [kmin]; omega) (by simp only [kmax]; omega)) ?_) | refine Exists.intro _ (And.intro rfl ?_) | refine And.intro (by decide) ?_ | refine And.intro (by omega) ?_ | fail
theorem rpath_ok (c : Con) (hc : c.sm) (n : Int) : CallOK Tryz.prog 29 [c.av, ii n] [] (.ret (.slice 1 (iv (pathL c.ns n)) .no)) [] := by
  have hcn := hc.ns
  refine CallOK.to (E := E) (fn := Tryz.f29) (g := .pure _) (by rfl) (by rfl) (by rfl) (fun _ _ => by rfl) (by decide +kernel) (by rfl) (by rfl) (by rfl) fun _ => ?_
  refine goes hE 100 ?_
  conv => whnf
  refine To.part [1, 2, 5] [0] rfl rfl rfl ?_
  exact rpath_loop c hc _ (n.toNat + 1) n [] .nil (.inl rfl) (fun _ => by omega) (fun _ _ => by simp; omega) (by unfold pathL upL; simp)
theorem upF_len (ns : List Nod) : ∀ (f : Nat) (n : Int), (upF ns f n).length ≤ n.toNat + 1 ∧ (upF ns f n).length ≤ f
  | 0, n => by simp [upF]
  | f + 1, n => by
    unfold upF
    split
    · split
      · split
        · simp
        · rename_i h0 h1 h2
          have ih := upF_len ns f (ns[n.toNat]).p
          have h2 : ¬ n ≤ (ns[n.toNat]).p := fun h => h2 (decide_eq_true h)
          have h0 := of_decide_eq_true h0
          simp only [List.length_cons]
          refine ⟨?_, by omega⟩
          by_cases h4 : 0 ≤ (ns[n.toNat]).p
          · omega
          · have e : (upF ns f (ns[n.toNat]).p) = [] := by
              cases f with
              | zero => rfl
              | succ f =>
                unfold upF
                rw [if_neg (by rw [decide_eq_false h4]; decide)]
            rw [e]
            simp
      · simp
    · simp
theorem upL_len (ns : List Nod) (n : Int) : (upL ns n).length ≤ ns.length := by
  by_cases h : 0 ≤ n ∧ n.toNat < ns.length
  · have := (upF_len ns (n.toNat + 1) n).1
    unfold upL
    omega
  · unfold upL upF
    by_cases h0 : 0 ≤ n
    · rw [if_pos (decide_eq_true h0), dif_neg (by omega)]
      simp
    · rw [if_neg (by rw [decide_eq_false h0]; decide)]
      simp
theorem pathL_len (ns : List Nod) (n : Int) : (pathL ns n).length ≤ ns.length := by
  unfold pathL
  rw [List.length_reverse]
  exact upL_len ns n

/- ---------- On ---------- -/
noncomputable abbrev fROn : Func := Tryz.f136
def onB (ns : List Nod) (n t : Int) : Bool := (pathL ns t).any fun x => x == n
theorem onB_eq (ns : List Nod) (n t : Int) : onB ns n t = decide (n ∈ upL ns t) := by
  unfold onB pathL
  rw [List.any_reverse, Bool.eq_iff_iff]
  simp
theorem ron_loop (c : Con) (n : Int) (l : List Int) (hl : l.length ≤ 1048576) (r : Bool) : ∀ (m i : Nat), i + m = l.length → ((l.drop i).any fun x => x == n) = r →
    To E fROn (.pure (.ret (.bool r))) (.head (stk fROn 0) [(1, ii n), (7, .slice 1 (iv l) .no), (8, ii i)] [.cells 25 c.cs]) := by
  have hlen : (iv l).length = l.length := by simp
  intro m
  induction m with
  | zero =>
    intro i hi hr
    rw [List.drop_eq_nil_of_le (by omega)] at hr
    have hr : false = r := hr
    subst hr
    refine goes hE 100 ?_
    conv => whnf
    refine And.intro (fun h => absurd (of_decide_eq_true h) (by omega)) (fun h => ?_)
    repeat' first | (refine goN hE 100 rfl ?_; conv => whnf) | exact rfl | refine And.intro (fun _ => ?_) (fun h => absurd (show true = false from h) (by decide)) | refine And.intro (fun h => absurd (show false = true from h) (by decide)) (fun _ => ?_) | refine And.intro (fun h => ?_) (fun h => absurd (of_decide_eq_false h) (by omega)) | refine And.intro (fun h => absurd (of_decide_eq_true h) (by omega)) (fun h => ?_) | refine And.intro (fun h => ?_) (fun h => ?_) | refine Or.inl (And.intro (And.intro (by simp only [kmin]; omega) (by simp only [kmax]; omega)) ?_) | refine Exists.intro _ (And.intro rfl ?_) | refine And.intro (by decide) ?_ | refine And.intro (by omega) ?_ | fail
  | succ m ih =>
    intro i hi hr
    have hlt : i < l.length := by omega
    rw [List.drop_eq_getElem_cons hlt, List.any_cons] at hr
    have get := iv_get hlt
    generalize l[i] = x at hr get
    have ih := ih (i + 1) (by omega)
    refine goes hE 100 ?_
    conv => whnf
    refine And.intro (fun h => ?_) (fun h => absurd (of_decide_eq_false h) (by omega))
    refine goes hE 100 ?_
    conv => whnf
    refine ⟨i, rfl, ?_⟩
    refine goes hE 100 ?_
    conv => whnf
    refine ⟨_, get, ?_⟩
    refine goes hE 100 ?_
    conv => whnf
    refine And.intro (fun h2 => ?_) (fun h2 => ?_)
    · have h2 : (x == n) = true := h2
      rw [h2] at hr
      have hr : true = r := hr
      subst hr
      repeat' first | (refine goN hE 100 rfl ?_; conv => whnf) | exact rfl | refine And.intro (fun _ => ?_) (fun h => absurd (show true = false from h) (by decide)) | refine And.intro (fun h => absurd (show false = true from h) (by decide)) (fun _ => ?_) | refine And.intro (fun h => ?_) (fun h => absurd (of_decide_eq_false h) (by omega)) | refine And.intro (fun h => absurd (of_decide_eq_true h) (by omega)) (fun h => ?_) | refine And.intro (fun h => ?_) (fun h => ?_) | refine Or.inl (And.intro (And.intro (by simp only [kmin]; omega) (by simp only [kmax]; omega)) ?_) | refine Exists.intro _ (And.intro rfl ?_) | refine And.intro (by decide) ?_ | refine And.intro (by omega) ?_ | fail
    · have h2 : (x == n) = false := h2
      rw [h2, Bool.false_or] at hr
      repeat' first | (refine goN hE 100 rfl ?_; conv => whnf) | exact rfl | refine And.intro (fun _ => ?_) (fun h => absurd (show true = false from h) (by decide)) | refine And.intro (fun h => absurd (show false = true from h) (by decide)) (fun _ => ?_) | refine And.intro (fun h => ?_) (fun h => absurd (of_decide_eq_false h) (by omega)) | refine And.intro (fun h => absurd (of_decide_eq_true h) (by omega)) (fun h => ?_) | refine And.intro (fun h => ?_) (fun h => ?_) | refine Or.inl (And.intro (And.intro (by simp only [kmin]; omega) (by simp only [kmax]; omega)) ?_) | refine Exists.intro _ (And.intro rfl ?_) | refine And.intro (by decide) ?_ | refine And.intro (by omega) ?_ | fail
      exact To.cut [1, 7, 8] 1 rfl rfl rfl rfl (ih hr)
theorem ron_ok (c : Con) (hc : c.sm) (n t : Int) : CallOK Tryz.prog 136 [c.av, ii n, ii t] [] (.ret (.bool (onB c.ns n t))) [] := by
  have h1 := pathL_len c.ns t
  have hcn := hc.ns
  have hp := rpath_ok c hc t
  unfold onB
  generalize pathL c.ns t = l at h1 hp
  refine CallOK.to (E := E) (fn := Tryz.f136) (g := .pure _) (by rfl) (by rfl) (by rfl) (fun _ _ => by rfl) (by decide +kernel) (by rfl) (by rfl) (by rfl) fun _ => ?_
  repeat' first | (refine goN hE 100 rfl ?_; conv => whnf) | refine .pure _ [] hp ?_ | exact rfl | refine And.intro (fun _ => ?_) (fun h => absurd (show true = false from h) (by decide)) | refine And.intro (fun h => absurd (show false = true from h) (by decide)) (fun _ => ?_) | refine And.intro (fun h => ?_) (fun h => absurd (of_decide_eq_false h) (by omega)) | refine And.intro (fun h => absurd (of_decide_eq_true h) (by omega)) (fun h => ?_) | refine And.intro (fun h => ?_) (fun h => ?_) | refine Or.inl (And.intro (And.intro (by simp only [kmin]; omega) (by simp only [kmax]; omega)) ?_) | refine Exists.intro _ (And.intro rfl ?_) | refine And.intro (by decide) ?_ | refine And.intro (by omega) ?_ | fail
  exact To.cut [1, 7, 8] 1 rfl rfl rfl rfl (ron_loop c n l (by omega) _ l.length 0 (by omega) rfl)

/- ---------- Below ---------- -/
noncomputable abbrev fRBel : Func := Tryz.f109
theorem rbelow_loop (c : Con) (hc : c.sm) (n : Int) (l : List Int) (hl : l.length ≤ 1048576) (R : List Int) : ∀ (m i : Nat) (acc : List Int), i + m = l.length → acc.length ≤ i → acc ++ (l.drop i).flatMap (hitL c.ns n) = R →
    To (Eo [5] []) fRBel (.pure (.ret (.slice 1 (iv R) .no))) (.head (stk fRBel 0) [(1, ii n), (2, .ref 0 0), (5, .slice 1 (iv acc) (.own 1 0)), (6, .slice 1 (iv l) .no), (7, ii i)] [.cells 25 c.cs, .tail 0 1 3]) := by
  have hlen : (iv l).length = l.length := by simp
  intro m
  induction m with
  | zero =>
    intro i acc hi ha hR
    rw [List.drop_eq_nil_of_le (by omega)] at hR
    have hR : acc ++ [] = R := hR
    rw [List.append_nil] at hR
    subst hR
    refine goes (hEo [5] []) 100 ?_
    conv => whnf
    refine And.intro (fun h => absurd (of_decide_eq_true h) (by omega)) (fun h => ?_)
    repeat' first | (refine goN (hEo [5] []) 100 rfl ?_; conv => whnf) | exact rfl | refine And.intro (fun _ => ?_) (fun h => absurd (show true = false from h) (by decide)) | refine And.intro (fun h => absurd (show false = true from h) (by decide)) (fun _ => ?_) | refine And.intro (fun h => ?_) (fun h => absurd (of_decide_eq_false h) (by omega)) | refine And.intro (fun h => absurd (of_decide_eq_true h) (by omega)) (fun h => ?_) | refine And.intro (fun h => ?_) (fun h => ?_) | refine Or.inl (And.intro (And.intro (by simp only [kmin]; omega) (by simp only [kmax]; omega)) ?_) | refine Exists.intro _ (And.intro rfl ?_) | refine And.intro (by decide) ?_ | refine And.intro (by omega) ?_ | fail
  | succ m ih =>
    intro i acc hi ha hR
    have hla : (iv acc).length = acc.length := by simp
    have hlt : i < l.length := by omega
    rw [List.drop_eq_getElem_cons hlt, List.flatMap_cons] at hR
    have get := iv_get hlt
    generalize l[i] = x at hR get
    have hon := ron_ok c hc n x
    rw [onB_eq] at hon
    unfold hitL at hR
    by_cases h2 : n ∈ upL c.ns x
    · rw [if_pos h2] at hR
      rw [decide_eq_true h2] at hon
      have next := ih (i + 1) (acc ++ [x]) (by omega) (by simp; omega) (by rw [List.append_assoc]; exact hR)
      have e : iv (acc ++ [x]) = iv acc ++ [ii x] := by simp
      rw [e] at next
      refine goes (hEo [5] []) 100 ?_
      conv => whnf
      refine And.intro (fun h => ?_) (fun h => absurd (of_decide_eq_false h) (by omega))
      repeat' first | (refine goN (hEo [5] []) 100 rfl ?_; conv => whnf) | refine Exists.intro i (And.intro rfl ?_) | refine Exists.intro _ (And.intro get ?_) | refine .pure _ [] hon ?_ | refine And.intro (And.intro (by simp only [maxLen]; simp; omega) (by simp; omega)) ?_ | exact rfl | refine And.intro (fun _ => ?_) (fun h => absurd (show true = false from h) (by decide)) | refine And.intro (fun h => absurd (show false = true from h) (by decide)) (fun _ => ?_) | refine And.intro (fun h => ?_) (fun h => absurd (of_decide_eq_false h) (by omega)) | refine And.intro (fun h => absurd (of_decide_eq_true h) (by omega)) (fun h => ?_) | refine And.intro (fun h => ?_) (fun h => ?_) | refine Or.inl (And.intro (And.intro (by simp only [kmin]; omega) (by simp only [kmax]; omega)) ?_) | refine Exists.intro _ (And.intro rfl ?_) | refine And.intro (by decide) ?_ | refine And.intro (by omega) ?_ | fail
      refine To.part [1, 2, 5, 6, 7] [0, 1] rfl rfl rfl ?_
      exact next
    · rw [if_neg h2] at hR
      rw [decide_eq_false h2] at hon
      have next := ih (i + 1) acc (by omega) (by omega) hR
      refine goes (hEo [5] []) 100 ?_
      conv => whnf
      refine And.intro (fun h => ?_) (fun h => absurd (of_decide_eq_false h) (by omega))
      repeat' first | (refine goN (hEo [5] []) 100 rfl ?_; conv => whnf) | refine Exists.intro i (And.intro rfl ?_) | refine Exists.intro _ (And.intro get ?_) | refine .pure _ [] hon ?_ | exact rfl | refine And.intro (fun _ => ?_) (fun h => absurd (show true = false from h) (by decide)) | refine And.intro (fun h => absurd (show false = true from h) (by decide)) (fun _ => ?_) | refine And.intro (fun h => ?_) (fun h => absurd (of_decide_eq_false h) (by omega)) | refine And.intro (fun h => absurd (of_decide_eq_true h) (by omega)) (fun h => ?_) | refine And.intro (fun h => ?_) (fun h => ?_) | refine Or.inl (And.intro (And.intro (by simp only [kmin]; omega) (by simp only [kmax]; omega)) ?_) | refine Exists.intro _ (And.intro rfl ?_) | refine And.intro (by decide) ?_ | refine And.intro (by omega) ?_ | fail
      refine To.part [1, 2, 5, 6, 7] [0, 1] rfl rfl rfl ?_
      exact next
theorem rbelow_ok (c : Con) (hc : c.sm) (n : Int) : CallOK Tryz.prog 109 [c.av, ii n] [] (.ret (.slice 1 (iv (belowL c.ns n)) .no)) [] := by
  have hcn := hc.ns
  have h1 : (leavesL c.ns).length ≤ c.ns.length := lvF_len c.ns c.ns.length 0
  have hlv := rlvs_ok c hc
  unfold belowL
  generalize leavesL c.ns = l at h1 hlv
  refine CallOK.to (E := (Eo [5] [])) (fn := Tryz.f109) (g := .pure _) (by rfl) (by rfl) (by rfl) (fun _ _ => by rfl) (by decide +kernel) (by rfl) (by rfl) (by rfl) fun _ => ?_
  repeat' first | (refine goN (hEo [5] []) 100 rfl ?_; conv => whnf) | refine .pure _ [] hlv ?_ | exact rfl | refine And.intro (fun _ => ?_) (fun h => absurd (show true = false from h) (by decide)) | refine And.intro (fun h => absurd (show false = true from h) (by decide)) (fun _ => ?_) | refine And.intro (fun h => ?_) (fun h => absurd (of_decide_eq_false h) (by omega)) | refine And.intro (fun h => absurd (of_decide_eq_true h) (by omega)) (fun h => ?_) | refine And.intro (fun h => ?_) (fun h => ?_) | refine Or.inl (And.intro (And.intro (by simp only [kmin]; omega) (by simp only [kmax]; omega)) ?_) | refine Exists.intro _ (And.intro rfl ?_) | refine And.intro (by decide) ?_ | refine And.intro (by omega) ?_ | fail
  refine To.part [1, 2, 5, 6, 7] [0, 1] rfl rfl rfl ?_
  exact rbelow_loop c hc n l (by omega) _ l.length 0 [] (by omega) (by simp) rfl

/- ---------- Sum ---------- -/
noncomputable abbrev fRSum : Func := Tryz.f69
theorem rsum_loop (c : Con) (l : List V3) (b : List Int) (hb : b.length ≤ 1048576) (R : V3) : ∀ (m i : Nat) (v : V3), i + m = b.length → (b.drop i).foldl (smS l) v = R →
    To E fRSum (.pure (.ret R.av)) (.head (stk fRSum 0) [(2, .slice 3 (vav l) .no), (6, .ref 1 0), (7, .ref 2 0), (8, .slice 1 (iv b) .no), (9, ii i)] [.cells 25 c.cs, .cells 32 V3.zero.cs, .cells 32 v.cs]) := by
  have hlen : (iv b).length = b.length := by simp
  intro m
  induction m with
  | zero =>
    intro i v hi hR
    rw [List.drop_eq_nil_of_le (by omega)] at hR
    have hR : v = R := hR
    subst hR
    refine goes hE 100 ?_
    conv => whnf
    refine And.intro (fun h => absurd (of_decide_eq_true h) (by omega)) (fun h => ?_)
    repeat' first | (refine goN hE 100 rfl ?_; conv => whnf) | exact rfl | refine And.intro (fun _ => ?_) (fun h => absurd (show true = false from h) (by decide)) | refine And.intro (fun h => absurd (show false = true from h) (by decide)) (fun _ => ?_) | refine And.intro (fun h => ?_) (fun h => absurd (of_decide_eq_false h) (by omega)) | refine And.intro (fun h => absurd (of_decide_eq_true h) (by omega)) (fun h => ?_) | refine And.intro (fun h => ?_) (fun h => ?_) | refine Or.inl (And.intro (And.intro (by simp only [kmin]; omega) (by simp only [kmax]; omega)) ?_) | refine Exists.intro _ (And.intro rfl ?_) | refine And.intro (by decide) ?_ | refine And.intro (by omega) ?_ | fail
  | succ m ih =>
    intro i v hi hR
    have hlt : i < b.length := by omega
    rw [List.drop_eq_getElem_cons hlt, List.foldl_cons] at hR
    have get := iv_get hlt
    generalize b[i] = x at hR get
    have hat := rat3_ok l x
    have next := ih (i + 1) (smS l v x) (by omega) hR
    unfold smS at next
    generalize atV l x = u at hat next
    have had := radd_ok v u
    generalize vadd v u = q at had next
    refine goes hE 100 ?_
    conv => whnf
    refine And.intro (fun h => ?_) (fun h => absurd (of_decide_eq_false h) (by omega))
    repeat' first | (refine goN hE 100 rfl ?_; conv => whnf) | refine Exists.intro i (And.intro rfl ?_) | refine Exists.intro _ (And.intro get ?_) | refine .pure _ [] hat ?_ | refine .pure _ [] had ?_ | exact rfl | refine And.intro (fun _ => ?_) (fun h => absurd (show true = false from h) (by decide)) | refine And.intro (fun h => absurd (show false = true from h) (by decide)) (fun _ => ?_) | refine And.intro (fun h => ?_) (fun h => absurd (of_decide_eq_false h) (by omega)) | refine And.intro (fun h => absurd (of_decide_eq_true h) (by omega)) (fun h => ?_) | refine And.intro (fun h => ?_) (fun h => ?_) | refine Or.inl (And.intro (And.intro (by simp only [kmin]; omega) (by simp only [kmax]; omega)) ?_) | refine Exists.intro _ (And.intro rfl ?_) | refine And.intro (by decide) ?_ | refine And.intro (by omega) ?_ | fail
    exact To.cut [2, 6, 7, 8, 9] 3 rfl rfl rfl rfl next
theorem rsum_ok (c : Con) (hc : c.sm) (n : Int) (l : List V3) : CallOK Tryz.prog 69 [c.av, ii n, .slice 3 (vav l) .no] [] (.ret (sumL c.ns n l).av) [] := by
  have h1 := below_len c hc n
  have hbl := rbelow_ok c hc n
  unfold sumL
  generalize belowL c.ns n = b at h1 hbl
  refine CallOK.to (E := E) (fn := Tryz.f69) (g := .pure _) (by rfl) (by rfl) (by rfl) (fun _ _ => by rfl) (by decide +kernel) (by rfl) (by rfl) (by rfl) fun _ => ?_
  repeat' first | (refine goN hE 100 rfl ?_; conv => whnf) | refine .pure _ [] hbl ?_ | exact rfl | refine And.intro (fun _ => ?_) (fun h => absurd (show true = false from h) (by decide)) | refine And.intro (fun h => absurd (show false = true from h) (by decide)) (fun _ => ?_) | refine And.intro (fun h => ?_) (fun h => absurd (of_decide_eq_false h) (by omega)) | refine And.intro (fun h => absurd (of_decide_eq_true h) (by omega)) (fun h => ?_) | refine And.intro (fun h => ?_) (fun h => ?_) | refine Or.inl (And.intro (And.intro (by simp only [kmin]; omega) (by simp only [kmax]; omega)) ?_) | refine Exists.intro _ (And.intro rfl ?_) | refine And.intro (by decide) ?_ | refine And.intro (by omega) ?_ | fail
  exact To.cut [2, 6, 7, 8, 9] 3 rfl rfl rfl rfl (rsum_loop c l b h1 _ b.length 0 V3.zero (by omega) rfl)
end Go.Proofs.YtlalcoklkafnnaaGreat

namespace Go.Proofs.YtlalcoklkafnnaaGreat
open Go Go.AW Go.Proofs
set_option maxRecDepth 10000

noncomputable abbrev fRNom : Func := Tryz.f30
theorem rnod_get {c : Con} {i : Nat} (h : i < c.ns.length) : (nav c.ns)[i]? = some (nodAt c.ns (i : Int)).av := by
  unfold nodAt
  rw [Int.toNat_natCast, List.getElem?_eq_getElem h]
  exact nav_get h
theorem rnom_loop (c : Con) (hc : c.sm) (n : Int) : ∀ (m i : Nat) (acc : List V3), i + m = c.ns.length → acc = (List.range i).map (fun j : Nat => (nodAt c.ns (j : Int)).n) →
    To (Eo [5] []) fRNom (.pure (.ret (sumL c.ns n (nomL c.ns)).av)) (.head (stk fRNom 0) [(1, ii n), (2, .ref 0 0), (4, .ref 1 0), (5, .slice 3 (vav acc) (.own 2 0)), (6, ii i)] [.cells 25 c.cs, .cells 32 V3.zero.cs, .tail 0 3 32]) := by
  have hlen : (nav c.ns).length = c.ns.length := by simp
  have hcn := hc.ns
  intro m
  induction m with
  | zero =>
    intro i acc hi ha
    have hi : i = c.ns.length := by omega
    have ha : acc = nomL c.ns := by rw [ha, hi]; rfl
    subst ha
    have hs := rsum_ok c hc n (nomL c.ns)
    generalize sumL c.ns n (nomL c.ns) = S at hs
    refine goes (hEo [5] []) 100 ?_
    conv => whnf
    refine And.intro (fun h => absurd (of_decide_eq_true h) (by omega)) (fun h => ?_)
    repeat' first | (refine goN (hEo [5] []) 100 rfl ?_; conv => whnf) | refine .pure _ [] (CallOK.strip hs) ?_ | exact rfl | refine And.intro (fun _ => ?_) (fun h => absurd (show true = false from h) (by decide)) | refine And.intro (fun h => absurd (show false = true from h) (by decide)) (fun _ => ?_) | refine And.intro (fun h => ?_) (fun h => absurd (of_decide_eq_false h) (by omega)) | refine And.intro (fun h => absurd (of_decide_eq_true h) (by omega)) (fun h => ?_) | refine And.intro (fun h => ?_) (fun h => ?_) | refine Or.inl (And.intro (And.intro (by simp only [kmin]; omega) (by simp only [kmax]; omega)) ?_) | refine Exists.intro _ (And.intro rfl ?_) | refine And.intro (by decide) ?_ | refine And.intro (by omega) ?_ | fail
  | succ m ih =>
    intro i acc hi ha
    have hla : (vav acc).length = acc.length := by simp
    have hla2 : acc.length = i := by rw [ha]; simp
    have get := rnod_get (c := c) (i := i) (by omega)
    have next := ih (i + 1) (acc ++ [(nodAt c.ns (i : Int)).n]) (by omega) (by rw [ha, List.range_succ, List.map_append]; rfl)
    have e : vav (acc ++ [(nodAt c.ns (i : Int)).n]) = vav acc ++ [(nodAt c.ns (i : Int)).n.av] := by simp
    rw [e] at next
    generalize nodAt c.ns (i : Int) = x at get next
    refine goes (hEo [5] []) 100 ?_
    conv => whnf
    refine And.intro (fun h => ?_) (fun h => absurd (of_decide_eq_false h) (by omega))
    repeat' first | (refine goN (hEo [5] []) 100 rfl ?_; conv => whnf) | refine Exists.intro i (And.intro rfl ?_) | refine Exists.intro _ (And.intro get ?_) | refine And.intro (And.intro (by simp only [maxLen]; simp; omega) (by simp; omega)) ?_ | exact rfl | refine And.intro (fun _ => ?_) (fun h => absurd (show true = false from h) (by decide)) | refine And.intro (fun h => absurd (show false = true from h) (by decide)) (fun _ => ?_) | refine And.intro (fun h => ?_) (fun h => absurd (of_decide_eq_false h) (by omega)) | refine And.intro (fun h => absurd (of_decide_eq_true h) (by omega)) (fun h => ?_) | refine And.intro (fun h => ?_) (fun h => ?_) | refine Or.inl (And.intro (And.intro (by simp only [kmin]; omega) (by simp only [kmax]; omega)) ?_) | refine Exists.intro _ (And.intro rfl ?_) | refine And.intro (by decide) ?_ | refine And.intro (by omega) ?_ | fail
    refine To.part [1, 2, 4, 5, 6] [0, 1, 2] rfl rfl rfl ?_
    exact next
theorem rnom_ok (c : Con) (hc : c.sm) (n : Int) : CallOK Tryz.prog 30 [c.av, ii n] [] (.ret (sumL c.ns n (nomL c.ns)).av) [] := by
  refine CallOK.to (E := (Eo [5] [])) (fn := Tryz.f30) (g := .pure _) (by rfl) (by rfl) (by rfl) (fun _ _ => by rfl) (by decide +kernel) (by rfl) (by rfl) (by rfl) fun _ => ?_
  refine goes (hEo [5] []) 100 ?_
  conv => whnf
  refine To.part [1, 2, 4, 5, 6] [0, 1, 2] rfl rfl rfl ?_
  exact rnom_loop c hc n c.ns.length 0 [] (by omega) rfl

/- ---------- Kept ---------- -/
/- ---------- May ---------- -/
theorem upL_head {ns : List Nod} {t : Int} (h0 : 0 ≤ t) (h1 : t.toNat < ns.length) : ∃ r, upL ns t = t :: r := by
  unfold upL upF
  rw [if_pos (decide_eq_true h0), dif_pos h1]
  split
  · exact ⟨_, rfl⟩
  · exact ⟨_, rfl⟩
theorem leafB_ok {ns : List Nod} {t : Int} (h : leafB ns t = true) : 0 ≤ t ∧ t.toNat < ns.length := by
  unfold leafB at h
  by_cases h1 : 0 ≤ t
  · rw [if_pos (decide_eq_true h1)] at h
    by_cases h2 : t < (ns.length : Int)
    · omega
    · rw [if_neg (by rw [decide_eq_false h2]; decide)] at h
      cases h
  · rw [if_neg (by rw [decide_eq_false h1]; decide)] at h
    cases h
end Go.Proofs.YtlalcoklkafnnaaGreat

namespace Go.Proofs.YtlalcoklkafnnaaGreat
open Go Go.AW Go.Proofs
set_option maxRecDepth 10000

/- ---------- Of ---------- -/
noncomputable abbrev fROf : Func := Tryz.f28
abbrev ofO (c : Con) (xs : List V3) : List AObj := [.cells 25 c.cs, .row 0 3 32 (vav xs)]
theorem rof_in (c : Con) (l : List Rn) (R : List V3) (x : Rn) (j : Nat) (hj : j < 1048576) (hx : (rav l)[j]? = some x.av) (p : List Int) (hpl : p.length ≤ 1048576) (hpo : ∀ k ∈ p, 0 ≤ k ∧ k.toNat < c.ns.length) :
    ∀ (m i : Nat) (xs : List V3), xs.length = c.ns.length → i + m = p.length →
      To E fROf (.pure (.ret (.slice 3 (vav R) .no))) (.head (stk fROf 0) [(1, .slice 14 (rav l) .no), (2, .ref 0 0), (5, .row 1 0), (6, ii ((j : Int) + 1))] (ofO c ((p.drop i).foldl (addP (dem x.g)) xs))) →
    To E fROf (.pure (.ret (.slice 3 (vav R) .no))) (.head (stk fROf 1) [(1, .slice 14 (rav l) .no), (2, .ref 0 0), (5, .row 1 0), (6, ii j), (7, .slice 1 (iv p) .no), (8, ii i)] (ofO c xs)) := by
  have hlen : (iv p).length = p.length := by simp
  have hll : (rav l).length = l.length := by simp
  intro m
  induction m with
  | zero =>
    intro i xs hxl hi hto
    rw [List.drop_eq_nil_of_le (by omega)] at hto
    refine goes hE 100 ?_
    conv => whnf
    refine And.intro (fun h => absurd (of_decide_eq_true h) (by omega)) (fun h => ?_)
    refine goes hE 100 ?_
    conv => whnf
    refine Or.inl (And.intro (And.intro (by simp only [kmin]; omega) (by simp only [kmax]; omega)) ?_)
    refine goes hE 100 ?_
    conv => whnf
    exact To.cut [1, 2, 5, 6] 2 rfl rfl rfl rfl hto
  | succ m ih =>
    intro i xs hxl hi hto
    have hlt : i < p.length := by omega
    obtain ⟨k0, k1⟩ := hpo _ (List.getElem_mem hlt)
    rw [List.drop_eq_getElem_cons hlt, List.foldl_cons] at hto
    have get := iv_get hlt
    generalize p[i] = k at hto get k0 k1
    have hn : k = (k.toNat : Int) := by omega
    have hvl : (vav xs).length = xs.length := by simp
    have next := ih (i + 1) (addP (dem x.g) xs k) (by rw [addP_len]; exact hxl) (by omega) hto
    have hl2 : k.toNat < xs.length := by omega
    have gv : (vav xs)[k.toNat]? = some xs[k.toNat].av := vav_get hl2
    unfold addP at next
    rw [List.getElem?_eq_getElem hl2, show ((some xs[k.toNat]).getD V3.zero) = xs[k.toNat] from rfl] at next
    generalize xs[k.toNat] = u at gv next
    have hd := rdem_ok x.g
    generalize dem x.g = d at hd next hto
    have ha := radd_ok u d
    generalize vadd u d = q at ha next
    unfold ofO at next
    rw [← vav_set] at next
    refine goes hE 100 ?_
    conv => whnf
    refine And.intro (fun h => ?_) (fun h => absurd (of_decide_eq_false h) (by omega))
    repeat' first
      | (refine goN hE 100 rfl ?_; conv => whnf)
      | refine Exists.intro i (And.intro rfl ?_)
      | refine Exists.intro k.toNat (And.intro hn ?_)
      | refine Exists.intro j (And.intro rfl ?_)
      | refine Exists.intro _ (And.intro get ?_)
      | refine Exists.intro _ (And.intro gv ?_)
      | refine Exists.intro _ (And.intro hx ?_)
      | refine .pure _ [] hd ?_
      | refine .pure _ [] ha ?_
      | refine And.intro (by omega) ?_
      | refine Or.inl (And.intro (And.intro (by simp only [kmin]; omega) (by simp only [kmax]; omega)) ?_)
      | fail
    exact To.cut [1, 2, 5, 6, 7, 8] 2 rfl rfl rfl rfl next
theorem rof_out (c : Con) (hc : c.sm) (l : List Rn) (hl : l.length ≤ 1048576) (R : List V3) : ∀ (m i : Nat) (xs : List V3), i + m = l.length → xs.length = c.ns.length → (l.drop i).foldl (rofX c) xs = R →
    To E fROf (.pure (.ret (.slice 3 (vav R) .no))) (.head (stk fROf 0) [(1, .slice 14 (rav l) .no), (2, .ref 0 0), (5, .row 1 0), (6, ii i)] (ofO c xs)) := by
  have hlen : (rav l).length = l.length := by simp
  have hcn := hc.ns
  intro m
  induction m with
  | zero =>
    intro i xs hi hx hR
    rw [List.drop_eq_nil_of_le (by omega)] at hR
    subst hR
    refine goes hE 100 ?_
    conv => whnf
    refine And.intro (fun h => absurd (of_decide_eq_true h) (by omega)) (fun h => ?_)
    repeat' first | (refine goN hE 100 rfl ?_; conv => whnf) | exact rfl | refine And.intro (fun _ => ?_) (fun h => absurd (show true = false from h) (by decide)) | refine And.intro (fun h => absurd (show false = true from h) (by decide)) (fun _ => ?_) | refine And.intro (fun h => ?_) (fun h => absurd (of_decide_eq_false h) (by omega)) | refine And.intro (fun h => absurd (of_decide_eq_true h) (by omega)) (fun h => ?_) | refine And.intro (fun h => ?_) (fun h => ?_) | refine Or.inl (And.intro (And.intro (by simp only [kmin]; omega) (by simp only [kmax]; omega)) ?_) | refine Exists.intro _ (And.intro rfl ?_) | refine And.intro (by decide) ?_ | refine And.intro (by omega) ?_ | fail
  | succ m ih =>
    intro i xs hi hx hR
    have hlt : i < l.length := by omega
    rw [List.drop_eq_getElem_cons hlt, List.foldl_cons] at hR
    have get : (rav l)[i]? = some l[i].av := rav_get hlt
    generalize l[i] = x at hR get
    have next := ih (i + 1) (rofX c xs x) (by omega) (by rw [rofX_len]; exact hx) hR
    have hlf := rleaf_ok c hc x.g.ten
    rw [rlB_eq] at hlf
    unfold rofX at next
    cases hq : leafB c.ns x.g.ten with
    | false =>
      rw [hq] at hlf
      rw [if_neg (by rw [hq]; decide)] at next
      refine goes hE 100 ?_
      conv => whnf
      refine And.intro (fun h => ?_) (fun h => absurd (of_decide_eq_false h) (by omega))
      repeat' first | (refine goN hE 100 rfl ?_; conv => whnf) | refine Exists.intro i (And.intro rfl ?_) | refine Exists.intro _ (And.intro get ?_) | refine .pure _ [] hlf ?_ | exact rfl | refine And.intro (fun _ => ?_) (fun h => absurd (show true = false from h) (by decide)) | refine And.intro (fun h => absurd (show false = true from h) (by decide)) (fun _ => ?_) | refine And.intro (fun h => ?_) (fun h => absurd (of_decide_eq_false h) (by omega)) | refine And.intro (fun h => absurd (of_decide_eq_true h) (by omega)) (fun h => ?_) | refine And.intro (fun h => ?_) (fun h => ?_) | refine Or.inl (And.intro (And.intro (by simp only [kmin]; omega) (by simp only [kmax]; omega)) ?_) | refine Exists.intro _ (And.intro rfl ?_) | refine And.intro (by decide) ?_ | refine And.intro (by omega) ?_ | fail
      exact To.cut [1, 2, 5, 6] 2 rfl rfl rfl rfl next
    | true =>
      rw [hq] at hlf
      rw [if_pos hq] at next
      have hp := rpath_ok c hc x.g.ten
      have hpl := pathL_len c.ns x.g.ten
      have hpo : ∀ k ∈ pathL c.ns x.g.ten, 0 ≤ k ∧ k.toNat < c.ns.length := fun k hk => upF_ok _ _ _ _ (List.mem_reverse.1 hk)
      generalize pathL c.ns x.g.ten = p at hp hpl hpo next
      have hin := rof_in c l R x i (by omega) get p (by omega) hpo p.length 0 xs hx (by omega) next
      refine goes hE 100 ?_
      conv => whnf
      refine And.intro (fun h => ?_) (fun h => absurd (of_decide_eq_false h) (by omega))
      repeat' first | (refine goN hE 100 rfl ?_; conv => whnf) | refine Exists.intro i (And.intro rfl ?_) | refine Exists.intro _ (And.intro get ?_) | refine .pure _ [] hlf ?_ | refine .pure _ [] hp ?_ | exact rfl | refine And.intro (fun _ => ?_) (fun h => absurd (show true = false from h) (by decide)) | refine And.intro (fun h => absurd (show false = true from h) (by decide)) (fun _ => ?_) | refine And.intro (fun h => ?_) (fun h => absurd (of_decide_eq_false h) (by omega)) | refine And.intro (fun h => absurd (of_decide_eq_true h) (by omega)) (fun h => ?_) | refine And.intro (fun h => ?_) (fun h => ?_) | refine Or.inl (And.intro (And.intro (by simp only [kmin]; omega) (by simp only [kmax]; omega)) ?_) | refine Exists.intro _ (And.intro rfl ?_) | refine And.intro (by decide) ?_ | refine And.intro (by omega) ?_ | fail
      exact To.cut [1, 2, 5, 6, 7, 8] 2 rfl rfl rfl rfl hin
theorem rof_ok (c : Con) (hc : c.sm) (l : List Rn) (hl : l.length ≤ 1048576) : CallOK Tryz.prog 28 [c.av, .slice 14 (rav l) .no] [] (.ret (.slice 3 (vav (ofL c l)) .no)) [] := by
  have h1 := hc.ns
  have hlen : (nav c.ns).length = c.ns.length := by simp
  rw [← of_eq]
  have next := rof_out c hc l hl (rofL c l) l.length 0 (List.replicate c.ns.length V3.zero) (by omega) (by simp) rfl
  unfold ofO at next
  rw [show vav (List.replicate c.ns.length V3.zero) = List.replicate c.ns.length (AVal.agg [ii 0, ii 0, ii 0]) from by simp [vav, V3.av, V3.zero, V3.cs]] at next
  generalize rofL c l = R at next
  refine CallOK.to (E := E) (fn := Tryz.f28) (g := .pure _) (by rfl) (by rfl) (by rfl) (fun _ _ => by rfl) (by decide +kernel) (by rfl) (by rfl) (by rfl) fun _ => ?_
  refine goes hE 100 ?_
  conv => whnf
  refine ⟨c.ns.length, by rw [hlen], ?_⟩
  refine goes hE 100 ?_
  conv => whnf
  refine ⟨⟨rfl, by omega, by simp only [maxLen]; omega⟩, ?_⟩
  refine goes hE 100 ?_
  conv => whnf
  exact To.cut [1, 2, 5, 6] 2 rfl rfl rfl rfl next

/- ---------- Free ---------- -/
noncomputable abbrev fRFree : Func := Tryz.f26
theorem rfree_in (c : Con) (r : List Rn) (R : List V3) (x : Rn) (j : Nat) (hj : j < 1048576) (hx : (rav r)[j]? = some x.av) (hh : x.hs.length ≤ 1048576) (hc : c.hs.length ≤ 1048576) :
    ∀ (m i : Nat) (xs : List V3), xs.length = c.hs.length → i + m = x.hs.length →
      To (Er [5] []) fRFree (.pure (.ret (.slice 3 (vav R) .no))) (.head (stk fRFree 1) [(1, .slice 14 (rav r) .no), (5, .row 1 0), (7, ii ((j : Int) + 1))] (ofO c ((x.hs.drop i).foldl (freeS x.g.need) xs))) →
    To (Er [5] []) fRFree (.pure (.ret (.slice 3 (vav R) .no))) (.head (stk fRFree 2) [(1, .slice 14 (rav r) .no), (5, .row 1 0), (7, ii j), (8, ii i)] (ofO c xs)) := by
  have hlen : (iv x.hs).length = x.hs.length := by simp
  have hll : (rav r).length = r.length := by simp
  intro m
  induction m with
  | zero =>
    intro i xs hxl hi hto
    rw [List.drop_eq_nil_of_le (by omega)] at hto
    refine goes (hEr [5] []) 100 ?_
    conv => whnf
    refine ⟨j, rfl, ?_⟩
    refine goes (hEr [5] []) 100 ?_
    conv => whnf
    refine ⟨_, hx, ?_⟩
    refine goes (hEr [5] []) 100 ?_
    conv => whnf
    refine And.intro (fun h => absurd (of_decide_eq_true h) (by omega)) (fun h => ?_)
    refine goes (hEr [5] []) 100 ?_
    conv => whnf
    refine Or.inl (And.intro (And.intro (by simp only [kmin]; omega) (by simp only [kmax]; omega)) ?_)
    refine goes (hEr [5] []) 100 ?_
    conv => whnf
    refine To.part [1, 5, 7] [0, 1] rfl rfl rfl ?_
    exact hto
  | succ m ih =>
    intro i xs hxl hi hto
    have hlt : i < x.hs.length := by omega
    rw [List.drop_eq_getElem_cons hlt, List.foldl_cons] at hto
    have get := iv_get hlt
    generalize x.hs[i] = u0 at hto get
    have hvl : (vav xs).length = xs.length := by simp
    have next := ih (i + 1) (freeS x.g.need xs u0) (by rw [freeS_len]; exact hxl) (by omega) hto
    unfold freeS ofO at next
    by_cases h1 : 0 ≤ u0
    · rw [if_pos (decide_eq_true h1)] at next
      by_cases h2 : u0 < (xs.length : Int)
      · rw [if_pos (decide_eq_true h2)] at next
        have hl2 : u0.toNat < xs.length := by omega
        have hn : u0 = (u0.toNat : Int) := by omega
        rw [List.getElem?_eq_getElem hl2] at next
        have gv : (vav xs)[u0.toNat]? = some xs[u0.toNat].av := vav_get hl2
        rw [show ((some xs[u0.toNat]).getD V3.zero) = xs[u0.toNat] from rfl] at next
        generalize xs[u0.toNat] = u at gv next
        have hsb := rsub_ok u x.g.need
        generalize vsub u x.g.need = q at hsb next
        rw [← vav_set] at next
        refine goes (hEr [5] []) 100 ?_
        conv => whnf
        refine ⟨j, rfl, ?_⟩
        refine goes (hEr [5] []) 100 ?_
        conv => whnf
        refine ⟨_, hx, ?_⟩
        refine goes (hEr [5] []) 100 ?_
        conv => whnf
        refine And.intro (fun h => ?_) (fun h => absurd (of_decide_eq_false h) (by omega))
        repeat' first | (refine goN (hEr [5] []) 100 rfl ?_; conv => whnf) | refine Exists.intro i (And.intro rfl ?_) | refine Exists.intro j (And.intro rfl ?_) | refine Exists.intro u0.toNat (And.intro hn ?_) | refine Exists.intro _ (And.intro get ?_) | refine Exists.intro _ (And.intro hx ?_) | refine Exists.intro _ (And.intro gv ?_) | refine .pure _ [] hsb ?_ | exact rfl | refine And.intro (fun _ => ?_) (fun h => absurd (show true = false from h) (by decide)) | refine And.intro (fun h => absurd (show false = true from h) (by decide)) (fun _ => ?_) | refine And.intro (fun h => ?_) (fun h => absurd (of_decide_eq_false h) (by omega)) | refine And.intro (fun h => absurd (of_decide_eq_true h) (by omega)) (fun h => ?_) | refine And.intro (fun h => ?_) (fun h => ?_) | refine Or.inl (And.intro (And.intro (by simp only [kmin]; omega) (by simp only [kmax]; omega)) ?_) | refine Exists.intro _ (And.intro rfl ?_) | refine And.intro (by decide) ?_ | refine And.intro (by omega) ?_ | fail
        refine To.part [1, 5, 7, 8] [0, 1] rfl rfl rfl ?_
        exact next
      · rw [if_neg (by rw [decide_eq_false h2]; decide)] at next
        refine goes (hEr [5] []) 100 ?_
        conv => whnf
        refine ⟨j, rfl, ?_⟩
        refine goes (hEr [5] []) 100 ?_
        conv => whnf
        refine ⟨_, hx, ?_⟩
        refine goes (hEr [5] []) 100 ?_
        conv => whnf
        refine And.intro (fun h => ?_) (fun h => absurd (of_decide_eq_false h) (by omega))
        repeat' first | (refine goN (hEr [5] []) 100 rfl ?_; conv => whnf) | refine Exists.intro i (And.intro rfl ?_) | refine Exists.intro j (And.intro rfl ?_) | refine Exists.intro _ (And.intro get ?_) | refine Exists.intro _ (And.intro hx ?_) | exact rfl | refine And.intro (fun _ => ?_) (fun h => absurd (show true = false from h) (by decide)) | refine And.intro (fun h => absurd (show false = true from h) (by decide)) (fun _ => ?_) | refine And.intro (fun h => ?_) (fun h => absurd (of_decide_eq_false h) (by omega)) | refine And.intro (fun h => absurd (of_decide_eq_true h) (by omega)) (fun h => ?_) | refine And.intro (fun h => ?_) (fun h => ?_) | refine Or.inl (And.intro (And.intro (by simp only [kmin]; omega) (by simp only [kmax]; omega)) ?_) | refine Exists.intro _ (And.intro rfl ?_) | refine And.intro (by decide) ?_ | refine And.intro (by omega) ?_ | fail
        refine To.part [1, 5, 7, 8] [0, 1] rfl rfl rfl ?_
        exact next
    · rw [if_neg (by rw [decide_eq_false h1]; decide)] at next
      refine goes (hEr [5] []) 100 ?_
      conv => whnf
      refine ⟨j, rfl, ?_⟩
      refine goes (hEr [5] []) 100 ?_
      conv => whnf
      refine ⟨_, hx, ?_⟩
      refine goes (hEr [5] []) 100 ?_
      conv => whnf
      refine And.intro (fun h => ?_) (fun h => absurd (of_decide_eq_false h) (by omega))
      repeat' first | (refine goN (hEr [5] []) 100 rfl ?_; conv => whnf) | refine Exists.intro i (And.intro rfl ?_) | refine Exists.intro j (And.intro rfl ?_) | refine Exists.intro _ (And.intro get ?_) | refine Exists.intro _ (And.intro hx ?_) | exact rfl | refine And.intro (fun _ => ?_) (fun h => absurd (show true = false from h) (by decide)) | refine And.intro (fun h => absurd (show false = true from h) (by decide)) (fun _ => ?_) | refine And.intro (fun h => ?_) (fun h => absurd (of_decide_eq_false h) (by omega)) | refine And.intro (fun h => absurd (of_decide_eq_true h) (by omega)) (fun h => ?_) | refine And.intro (fun h => ?_) (fun h => ?_) | refine Or.inl (And.intro (And.intro (by simp only [kmin]; omega) (by simp only [kmax]; omega)) ?_) | refine Exists.intro _ (And.intro rfl ?_) | refine And.intro (by decide) ?_ | refine And.intro (by omega) ?_ | fail
      refine To.part [1, 5, 7, 8] [0, 1] rfl rfl rfl ?_
      exact next
theorem rfree_out (c : Con) (hc : c.sm) (r : List Rn) (hr : Sm r) (R : List V3) : ∀ (m i : Nat) (xs : List V3), i + m = r.length → xs.length = c.hs.length → (r.drop i).foldl freeX xs = R →
    To (Er [5] []) fRFree (.pure (.ret (.slice 3 (vav R) .no))) (.head (stk fRFree 1) [(1, .slice 14 (rav r) .no), (5, .row 1 0), (7, ii i)] (ofO c xs)) := by
  have hlen : (rav r).length = r.length := by simp
  have hl := hr.1
  intro m
  induction m with
  | zero =>
    intro i xs hi hx hR
    rw [List.drop_eq_nil_of_le (by omega)] at hR
    subst hR
    refine goes (hEr [5] []) 100 ?_
    conv => whnf
    refine And.intro (fun h => absurd (of_decide_eq_true h) (by omega)) (fun h => ?_)
    repeat' first | (refine goN (hEr [5] []) 100 rfl ?_; conv => whnf) | exact rfl | refine And.intro (fun _ => ?_) (fun h => absurd (show true = false from h) (by decide)) | refine And.intro (fun h => absurd (show false = true from h) (by decide)) (fun _ => ?_) | refine And.intro (fun h => ?_) (fun h => absurd (of_decide_eq_false h) (by omega)) | refine And.intro (fun h => absurd (of_decide_eq_true h) (by omega)) (fun h => ?_) | refine And.intro (fun h => ?_) (fun h => ?_) | refine Or.inl (And.intro (And.intro (by simp only [kmin]; omega) (by simp only [kmax]; omega)) ?_) | refine Exists.intro _ (And.intro rfl ?_) | refine And.intro (by decide) ?_ | refine And.intro (by omega) ?_ | fail
  | succ m ih =>
    intro i xs hi hx hR
    have hlt : i < r.length := by omega
    have hb := hr.at hlt
    rw [List.drop_eq_getElem_cons hlt, List.foldl_cons] at hR
    generalize hq : r[i] = x at hR hb
    have get : (rav r)[i]? = some x.av := (rav_get hlt).trans (by rw [hq])
    have next := ih (i + 1) (freeX xs x) (by omega) (by rw [freeX_len]; exact hx) hR
    refine goes (hEr [5] []) 100 ?_
    conv => whnf
    refine And.intro (fun h => ?_) (fun h => absurd (of_decide_eq_false h) (by omega))
    refine goes (hEr [5] []) 100 ?_
    conv => whnf
    refine To.part [1, 5, 7, 8] [0, 1] rfl rfl rfl ?_
    exact rfree_in c r R x i (by omega) get hb hc.hs x.hs.length 0 xs hx (by omega) next
theorem rfree_fill (c : Con) (hc : c.sm) (r : List Rn) (hr : Sm r) : ∀ (m i : Nat) (xs : List V3), i + m = c.hs.length → xs = (List.range i).map (fun j : Nat => (hosAt c.hs (j : Int)).c) →
    To (Er [5] []) fRFree (.pure (.ret (.slice 3 (vav (freeL c r)) .no))) (.head (stk fRFree 0) [(1, .slice 14 (rav r) .no), (2, .ref 0 0), (5, .row 1 0), (6, ii i)] (ofO c xs)) := by
  have hlen : (hav c.hs).length = c.hs.length := by simp
  have h1 := hc.hs
  intro m
  induction m with
  | zero =>
    intro i xs hi hx
    have hi : i = c.hs.length := by omega
    subst hi
    have next := rfree_out c hc r hr (freeL c r) r.length 0 xs (by omega) (by rw [hx]; simp) (by rw [hx]; rfl)
    refine goes (hEr [5] []) 100 ?_
    conv => whnf
    refine And.intro (fun h => absurd (of_decide_eq_true h) (by omega)) (fun h => ?_)
    refine goes (hEr [5] []) 100 ?_
    conv => whnf
    refine To.part [1, 5, 7] [0, 1] rfl rfl rfl ?_
    exact next
  | succ m ih =>
    intro i xs hi hx
    have hxl : xs.length = i := by rw [hx]; simp
    have hvl : (vav xs).length = xs.length := by simp
    have gn : (hav c.hs)[i]? = some (hosAt c.hs (i : Int)).av := hos_get (by omega)
    have next := ih (i + 1) (xs ++ [(hosAt c.hs (i : Int)).c]) (by omega) (by rw [hx, List.range_succ, List.map_append]; rfl)
    unfold ofO at next
    have e : vav (xs ++ [(hosAt c.hs (i : Int)).c]) = vav xs ++ [(hosAt c.hs (i : Int)).c.av] := by simp
    rw [e] at next
    generalize hosAt c.hs (i : Int) = x at gn next
    refine goes (hEr [5] []) 100 ?_
    conv => whnf
    refine And.intro (fun h => ?_) (fun h => absurd (of_decide_eq_false h) (by omega))
    repeat' first | (refine goN (hEr [5] []) 100 rfl ?_; conv => whnf) | refine Exists.intro i (And.intro rfl ?_) | refine Exists.intro _ (And.intro gn ?_) | refine And.intro (And.intro (by simp only [maxLen]; simp; omega) (by simp; omega)) ?_ | exact rfl | refine And.intro (fun _ => ?_) (fun h => absurd (show true = false from h) (by decide)) | refine And.intro (fun h => absurd (show false = true from h) (by decide)) (fun _ => ?_) | refine And.intro (fun h => ?_) (fun h => absurd (of_decide_eq_false h) (by omega)) | refine And.intro (fun h => absurd (of_decide_eq_true h) (by omega)) (fun h => ?_) | refine And.intro (fun h => ?_) (fun h => ?_) | refine Or.inl (And.intro (And.intro (by simp only [kmin]; omega) (by simp only [kmax]; omega)) ?_) | refine Exists.intro _ (And.intro rfl ?_) | refine And.intro (by decide) ?_ | refine And.intro (by omega) ?_ | fail
    refine To.part [1, 2, 5, 6] [0, 1] rfl rfl rfl ?_
    exact next
theorem rfree_ok (c : Con) (hc : c.sm) (r : List Rn) (hr : Sm r) : CallOK Tryz.prog 26 [c.av, .slice 14 (rav r) .no] [] (.ret (.slice 3 (vav (freeL c r)) .no)) [] := by
  refine CallOK.to (E := (Er [5] [])) (fn := Tryz.f26) (g := .pure _) (by rfl) (by rfl) (by rfl) (fun _ _ => by rfl) (by decide +kernel) (by rfl) (by rfl) (by rfl) fun _ => ?_
  refine goes (hEr [5] []) 100 ?_
  conv => whnf
  refine To.part [1, 2, 5, 6] [0, 1] rfl rfl rfl ?_
  exact rfree_fill c hc r hr c.hs.length 0 [] (by omega) rfl
end Go.Proofs.YtlalcoklkafnnaaGreat

namespace Go.Proofs.YtlalcoklkafnnaaGreat
open Go Go.AW Go.Proofs

/- ---------- groups ---------- -/
/-- are two hosts of one group, as the reference tells it -/
def alB (c : Con) (lv a b : Int) : Bool :=
  if lv = 0 then decide (a = b)
  else if lv = 1 then decide ((hosAt c.hs a).f = (hosAt c.hs b).f ∧ (hosAt c.hs a).b = (hosAt c.hs b).b ∧ (hosAt c.hs a).r = (hosAt c.hs b).r)
  else if lv = 2 then decide ((hosAt c.hs a).f = (hosAt c.hs b).f ∧ (hosAt c.hs a).b = (hosAt c.hs b).b)
  else decide ((hosAt c.hs a).f = (hosAt c.hs b).f)
abbrev keyG (c : Con) (lv a : Int) : List Int := ofK (hosAt c.hs a) a lv
theorem al_key (c : Con) (lv a b : Int) (h0 : 0 ≤ lv) (h3 : lv ≤ 3) : alB c lv a b = decide (keyG c lv a = keyG c lv b) := by
  unfold alB keyG ofK
  by_cases e0 : lv = 0
  · subst e0
    by_cases h : a = b
    · subst h; simp
    · simp [h]
  by_cases e1 : lv = 1
  · subst e1; simp
  by_cases e2 : lv = 2
  · subst e2; simp
  have e3 : lv = 3 := by omega
  subst e3
  simp
def rfindG (c : Con) (lv i : Int) : List (List Int) → Nat → Option Nat
  | [], _ => none
  | g :: r, k => if alB c lv (g.headD 0) i = true then some k else rfindG c lv i r (k + 1)
def rgS (c : Con) (lv : Int) (s : List (List Int)) (i : Nat) : List (List Int) :=
  match rfindG c lv (i : Int) s 0 with
  | some k => s.set k ((s[k]?).getD [] ++ [(i : Int)])
  | none => s ++ [[(i : Int)]]
def rgL (c : Con) (lv : Int) : List (List Int) := if decide (lv < 0) = true then [] else if decide (3 < lv) = true then [] else (List.range c.hs.length).foldl (rgS c lv) []
def keysG (c : Con) (lv : Int) : Nat → List (List Int) → List (List Int × Nat)
  | _, [] => []
  | k, g :: r => (keyG c lv (g.headD 0), k) :: keysG c lv (k + 1) r
theorem keysG_find (c : Con) (lv i : Int) (h0 : 0 ≤ lv) (h3 : lv ≤ 3) : ∀ (s : List (List Int)) (k : Nat), kfind (keysG c lv k s) (keyG c lv i) = rfindG c lv i s k
  | [], k => rfl
  | g :: r, k => by
    unfold keysG kfind rfindG
    rw [al_key c lv _ _ h0 h3, keysG_find c lv i h0 h3 r (k + 1)]
    by_cases h : keyG c lv (g.headD 0) = keyG c lv i
    · rw [if_pos h, if_pos (decide_eq_true h)]
    · rw [if_neg h, if_neg (by rw [decide_eq_false h]; decide)]
theorem keysG_set (c : Con) (lv i : Int) : ∀ (s : List (List Int)) (k m : Nat), (∀ g ∈ s, g ≠ []) → keysG c lv m (s.set k ((s[k]?).getD [] ++ [i])) = keysG c lv m s
  | [], k, m, _ => by simp
  | g :: r, 0, m, h => by
    have hg := h g (by simp)
    cases g with
    | nil => exact absurd rfl hg
    | cons a t => rfl
  | g :: r, k + 1, m, h => by
    have ih := keysG_set c lv i r k (m + 1) fun x hx => h x (by simp [hx])
    show _ :: keysG c lv (m + 1) (r.set k ((r[k]?).getD [] ++ [i])) = _
    rw [ih]
    rfl
theorem keysG_snoc (c : Con) (lv i : Int) : ∀ (s : List (List Int)) (m : Nat), keysG c lv m (s ++ [[i]]) = keysG c lv m s ++ [(keyG c lv i, m + s.length)]
  | [], m => rfl
  | g :: r, m => by
    show _ :: keysG c lv (m + 1) (r ++ [[i]]) = _ :: (keysG c lv (m + 1) r ++ _)
    rw [keysG_snoc c lv i r (m + 1)]
    simp only [List.length_cons]
    rw [show m + 1 + r.length = m + (r.length + 1) from by omega]
theorem rgS_eq (c : Con) (lv : Int) (h0 : 0 ≤ lv) (h3 : lv ≤ 3) (s : GSt) (i : Nat) (h1 : s.1 = keysG c lv 0 s.2) (h2 : ∀ g ∈ s.2, g ≠ []) :
    (gpS c lv s i).2 = rgS c lv s.2 i ∧ (gpS c lv s i).1 = keysG c lv 0 (rgS c lv s.2 i) ∧ ∀ g ∈ rgS c lv s.2 i, g ≠ [] := by
  have hf := keysG_find c lv (i : Int) h0 h3 s.2 0
  rw [← h1] at hf
  unfold gpS rgS
  have hf' : kfind s.1 (ofK (hosAt c.hs (i : Int)) i lv) = rfindG c lv (i : Int) s.2 0 := hf
  rw [hf']
  cases rfindG c lv (i : Int) s.2 0 with
  | some k =>
    refine ⟨rfl, ?_, fun g hg => ?_⟩
    · show s.1 = _
      rw [h1, keysG_set c lv i s.2 k 0 h2]
    · rcases List.mem_or_eq_of_mem_set hg with hg | rfl
      · exact h2 g hg
      · simp
  | none =>
    refine ⟨rfl, ?_, fun g hg => ?_⟩
    · show s.1 ++ _ = _
      rw [h1, keysG_snoc, Nat.zero_add]
    · rcases List.mem_append.1 hg with hg | hg
      · exact h2 g hg
      · simp at hg; subst hg; simp
theorem rgL_eq (c : Con) (lv : Int) : rgL c lv = gpL c lv := by
  unfold rgL gpL
  by_cases h1 : lv < 0
  · simp only [h1, decide_true, if_true]
  by_cases h2 : 3 < lv
  · simp only [h1, h2, decide_true, decide_false, if_true, if_false, Bool.false_eq_true]
  simp only [h1, h2, decide_false, if_false, Bool.false_eq_true]
  have key : ∀ (l : List Nat) (s : GSt), s.1 = keysG c lv 0 s.2 → (∀ g ∈ s.2, g ≠ []) → l.foldl (rgS c lv) s.2 = (l.foldl (gpS c lv) s).2 := fun l => by
    induction l with
    | nil => intro s _ _; rfl
    | cons i r ih =>
      intro s a b
      obtain ⟨e1, e2, e3⟩ := rgS_eq c lv (by omega) (by omega) s i a b
      rw [List.foldl_cons, List.foldl_cons, ← e1, ih _ (by rw [e1]; exact e2) (by rw [e1]; exact e3)]
  exact key _ ([], []) rfl (fun g hg => by simp at hg)

/- ---------- room ---------- -/
def rrF (free need : V3) : Nat → Int → Int
  | 0, n => n
  | f + 1, n => if vfits (vmul need (n + 1)) free = true then (if vfits need free = true then rrF free need f (n + 1) else n) else n
def rrI (free need : V3) : Int := rrF free need 16 0
theorem validB_iff {v : V3} (h : validB v = true) : (0 ≤ v.a ∧ v.a ≤ 1048576) ∧ (0 ≤ v.b ∧ v.b ≤ 1048576) ∧ (0 ≤ v.c ∧ v.c ≤ 1048576) := by
  unfold validB at h
  simpa [Bool.and_eq_true, and_assoc] using h
theorem vfits_iff {a b : V3} : vfits a b = true ↔ a.a ≤ b.a ∧ a.b ≤ b.b ∧ a.c ≤ b.c := by
  unfold vfits
  by_cases h1 : b.a < a.a
  · first | (simp [h1]; done) | (simp [h1]; omega)
  by_cases h2 : b.b < a.b
  · first | (simp [h1, h2]; done) | (simp [h1, h2]; omega)
  by_cases h3 : b.c < a.c
  · first | (simp [h1, h2, h3]; done) | (simp [h1, h2, h3]; omega)
  first | (simp [h1, h2, h3]; done) | (simp [h1, h2, h3]; omega)
theorem cutI_id {n m : Int} (h1 : -m ≤ n) (h2 : n ≤ m) : cutI n m = n := by unfold cutI; omega
theorem mul16 {x n : Int} (h1 : 0 ≤ x) (h2 : x ≤ 1048576) (h3 : 0 ≤ n) (h4 : n ≤ 16) : 0 ≤ x * n ∧ x * n ≤ 16777216 := by
  have h5 : x * n ≤ 1048576 * 16 := Int.mul_le_mul h2 h4 h3 (by decide)
  exact ⟨Int.mul_nonneg h1 h3, by omega⟩
theorem mulI_id {x n : Int} (h1 : 0 ≤ x) (h2 : x ≤ 1048576) (h3 : 0 ≤ n) (h4 : n ≤ 16) : mulI x n = x * n := by
  have := mul16 h1 h2 h3 h4
  unfold mulI
  rw [cutI_id (n := x) (by omega) (by omega), cutI_id (n := n) (by omega) (by omega), cutI_id (by omega) (by omega)]
theorem vmul_fits {need free : V3} (hv : validB need = true) {n : Int} (h0 : 0 ≤ n) (h1 : n ≤ 16) : vfits (vmul need n) free = true ↔ need.a * n ≤ free.a ∧ need.b * n ≤ free.b ∧ need.c * n ≤ free.c := by
  obtain ⟨⟨a1, a2⟩, ⟨b1, b2⟩, c1, c2⟩ := validB_iff hv
  rw [vfits_iff]
  show mulI need.a n ≤ free.a ∧ mulI need.b n ≤ free.b ∧ mulI need.c n ≤ free.c ↔ _
  rw [mulI_id a1 a2 h0 h1, mulI_id b1 b2 h0 h1, mulI_id c1 c2 h0 h1]
theorem roomS_le {m f k n : Int} (hk : 0 ≤ k) (hf : k ≤ f) : n ≤ roomS m f k ↔ n ≤ m ∧ k * n ≤ f := by
  unfold roomS
  by_cases h : 0 < k
  · rw [if_pos (decide_eq_true h), Int.tdiv_eq_ediv_of_nonneg (by omega)]
    have := Int.le_ediv_iff_mul_le h (a := n) (b := f)
    rw [Int.mul_comm] at this
    omega
  · have : k = 0 := by omega
    subst this
    rw [if_neg (by decide)]
    omega
theorem room_le {free need : V3} (hv : validB need = true) (hf : vfits need free = true) (n : Int) : n ≤ roomI free need ↔ n ≤ 16 ∧ need.a * n ≤ free.a ∧ need.b * n ≤ free.b ∧ need.c * n ≤ free.c := by
  obtain ⟨⟨a1, _⟩, ⟨b1, _⟩, c1, _⟩ := validB_iff hv
  obtain ⟨h1, h2, h3⟩ := vfits_iff.1 hf
  unfold roomI
  rw [if_pos hf, roomS_le c1 h3, roomS_le b1 h2, roomS_le a1 h1]
  constructor
  · rintro ⟨⟨⟨p1, p2⟩, p3⟩, p4⟩; exact ⟨p1, p2, p3, p4⟩
  · rintro ⟨p1, p2, p3, p4⟩; exact ⟨⟨⟨p1, p2⟩, p3⟩, p4⟩
theorem rrF_eq {free need : V3} (hv : validB need = true) (hf : vfits need free = true) : ∀ (f : Nat) (n : Int), 0 ≤ n → n + f = 16 → n ≤ roomI free need → rrF free need f n = roomI free need
  | 0, n, h0, h1, h2 => by
    have h3 := roomI_le free need
    unfold rrF
    omega
  | f + 1, n, h0, h1, h2 => by
    unfold rrF
    have hm := vmul_fits (free := free) hv (n := n + 1) (by omega) (by omega)
    have hr := room_le hv hf (n + 1)
    by_cases h : vfits (vmul need (n + 1)) free = true
    · rw [if_pos h, if_pos hf]
      exact rrF_eq hv hf f (n + 1) (by omega) (by omega) (hr.2 ⟨by omega, hm.1 h⟩)
    · rw [if_neg h]
      have : ¬ n + 1 ≤ roomI free need := fun h9 => h (hm.2 (hr.1 h9).2)
      omega
theorem rr_eq {free need : V3} (hv : validB need = true) : rrI free need = roomI free need := by
  unfold rrI
  by_cases hf : vfits need free = true
  · refine rrF_eq hv hf 16 0 (by decide) (by decide) ((room_le hv hf 0).2 ?_)
    obtain ⟨⟨a1, _⟩, ⟨b1, _⟩, c1, _⟩ := validB_iff hv
    obtain ⟨h1, h2, h3⟩ := vfits_iff.1 hf
    simp only [Int.mul_zero]
    omega
  · unfold rrF roomI
    rw [if_neg hf, if_neg hf]
    split <;> rfl
/- ---------- who starts now and ends in time ---------- -/
end Go.Proofs.YtlalcoklkafnnaaGreat

namespace Go.Proofs.YtlalcoklkafnnaaGreat
open Go Go.AW Go.Proofs
set_option maxRecDepth 10000

def vH (c : Con) (a : Int) : Prop := 0 ≤ a ∧ a.toNat < c.hs.length
theorem hosG {c : Con} {a : Int} (h : vH c a) : (hav c.hs)[a.toNat]? = some (hosAt c.hs a).av := by
  have := hos_get (c := c) (i := a.toNat) h.2
  rwa [Int.toNat_of_nonneg h.1] at this
noncomputable abbrev fAl : Func := Tryz.f110
theorem al_frz (c : Con) : frzs [0] [.cells 25 c.cs] = [.fcells c.cs] := by kernel_rfl
theorem al_frzF (c : Con) (lv a b : Int) : frzF [4] (oget [.fcells c.cs]) [(1, ii lv), (2, ii a), (3, ii b), (4, .ref 0 0), (8, .bool false)] = [(1, ii lv), (2, ii a), (3, ii b), (4, .ptr c.cs), (8, .bool false)] := by kernel_rfl
theorem al_step {g : Goal} {ks : List KI} (c : Con) (lv a b : Int) (h : To (Er [] [16, 17, 18, 19, 20]) fAl g (.code ks [(1, ii lv), (2, ii a), (3, ii b), (4, .ptr c.cs), (8, .bool false)] [.fcells c.cs])) :
    To (Er [] [16, 17, 18, 19, 20]) fAl g (.code ks [(1, ii lv), (2, ii a), (3, ii b), (4, .ref 0 0), (8, .bool false)] [.cells 25 c.cs]) := by
  refine To.frz [4] [0] ?_
  rw [al_frz, al_frzF]
  exact h
theorem alike_any (c : Con) (lv a b : Int) (h0 : 0 ≤ lv) (h3 : lv ≤ 3) (ha : vH c a) (hb : vH c b) (r : Bool) (hr : alB c lv a b = r) : CallOK Tryz.prog 110 [c.av, ii lv, ii a, ii b] [] (.ret (.bool r)) [] := by
  have ga := hosG ha
  have gb := hosG hb
  have na : a = (a.toNat : Int) := by have := ha.1; omega
  have nb : b = (b.toNat : Int) := by have := hb.1; omega
  unfold alB at hr
  generalize hosAt c.hs a = x at ga hr
  generalize hosAt c.hs b = y at gb hr
  by_cases e0 : lv = 0
  · subst e0
    rw [if_pos rfl] at hr
    subst hr
    refine CallOK.to (E := (Er [] [16, 17, 18, 19, 20])) (fn := Tryz.f110) (g := .pure _) (by rfl) (by rfl) (by rfl) (fun _ _ => by rfl) (by decide +kernel) (by rfl) (by rfl) (by rfl) fun _ => ?_
    refine goes (hEr [] [16, 17, 18, 19, 20]) 10 ?_
    conv => whnf
    refine To.cutC [1, 2, 3, 4, 8] 1 rfl rfl rfl rfl ?_
    refine al_step c _ a b ?_
    repeat' first | (refine goN (hEr [] [16, 17, 18, 19, 20]) 100 rfl ?_; conv => whnf) | refine Exists.intro a.toNat (And.intro na ?_) | refine Exists.intro b.toNat (And.intro nb ?_) | refine Exists.intro _ (And.intro ga ?_) | refine Exists.intro _ (And.intro gb ?_) | exact rfl | refine And.intro (fun _ => ?_) (fun h => absurd (show true = false from h) (by decide)) | refine And.intro (fun h => absurd (show false = true from h) (by decide)) (fun _ => ?_) | refine And.intro (fun h => ?_) (fun h => absurd (of_decide_eq_false h) (by omega)) | refine And.intro (fun h => absurd (of_decide_eq_true h) (by omega)) (fun h => ?_) | refine And.intro (fun h => ?_) (fun h => ?_) | refine Or.inl (And.intro (And.intro (by simp only [kmin]; omega) (by simp only [kmax]; omega)) ?_) | refine Exists.intro _ (And.intro rfl ?_) | refine And.intro (by decide) ?_ | refine And.intro (by omega) ?_ | fail
  by_cases e1 : lv = 1
  · subst e1
    rw [if_neg (by decide), if_pos rfl] at hr
    refine CallOK.to (E := (Er [] [16, 17, 18, 19, 20])) (fn := Tryz.f110) (g := .pure _) (by rfl) (by rfl) (by rfl) (fun _ _ => by rfl) (by decide +kernel) (by rfl) (by rfl) (by rfl) fun _ => ?_
    refine goes (hEr [] [16, 17, 18, 19, 20]) 10 ?_
    conv => whnf
    refine To.cutC [1, 2, 3, 4, 8] 1 rfl rfl rfl rfl ?_
    refine al_step c _ a b ?_
    repeat' first | (refine goN (hEr [] [16, 17, 18, 19, 20]) 100 rfl ?_; conv => whnf) | refine Exists.intro a.toNat (And.intro na ?_) | refine Exists.intro b.toNat (And.intro nb ?_) | refine Exists.intro _ (And.intro ga ?_) | refine Exists.intro _ (And.intro gb ?_) | exact rfl | refine And.intro (fun _ => ?_) (fun h => absurd (show true = false from h) (by decide)) | refine And.intro (fun h => absurd (show false = true from h) (by decide)) (fun _ => ?_) | refine And.intro (fun h => ?_) (fun h => absurd (of_decide_eq_false h) (by omega)) | refine And.intro (fun h => absurd (of_decide_eq_true h) (by omega)) (fun h => ?_) | refine And.intro (fun h => ?_) (fun h => ?_) | refine Or.inl (And.intro (And.intro (by simp only [kmin]; omega) (by simp only [kmax]; omega)) ?_) | refine Exists.intro _ (And.intro rfl ?_) | refine And.intro (by decide) ?_ | refine And.intro (by omega) ?_ | fail
    all_goals (refine congrArg (fun b => Res.ret (AVal.bool b)) ?_; rw [← hr]; clear ga gb na nb ha hb hr; simp_all <;> rfl)
  by_cases e2 : lv = 2
  · subst e2
    rw [if_neg (by decide), if_neg (by decide), if_pos rfl] at hr
    refine CallOK.to (E := (Er [] [16, 17, 18, 19, 20])) (fn := Tryz.f110) (g := .pure _) (by rfl) (by rfl) (by rfl) (fun _ _ => by rfl) (by decide +kernel) (by rfl) (by rfl) (by rfl) fun _ => ?_
    refine goes (hEr [] [16, 17, 18, 19, 20]) 10 ?_
    conv => whnf
    refine To.cutC [1, 2, 3, 4, 8] 1 rfl rfl rfl rfl ?_
    refine al_step c _ a b ?_
    repeat' first | (refine goN (hEr [] [16, 17, 18, 19, 20]) 100 rfl ?_; conv => whnf) | refine Exists.intro a.toNat (And.intro na ?_) | refine Exists.intro b.toNat (And.intro nb ?_) | refine Exists.intro _ (And.intro ga ?_) | refine Exists.intro _ (And.intro gb ?_) | exact rfl | refine And.intro (fun _ => ?_) (fun h => absurd (show true = false from h) (by decide)) | refine And.intro (fun h => absurd (show false = true from h) (by decide)) (fun _ => ?_) | refine And.intro (fun h => ?_) (fun h => absurd (of_decide_eq_false h) (by omega)) | refine And.intro (fun h => absurd (of_decide_eq_true h) (by omega)) (fun h => ?_) | refine And.intro (fun h => ?_) (fun h => ?_) | refine Or.inl (And.intro (And.intro (by simp only [kmin]; omega) (by simp only [kmax]; omega)) ?_) | refine Exists.intro _ (And.intro rfl ?_) | refine And.intro (by decide) ?_ | refine And.intro (by omega) ?_ | fail
    all_goals (refine congrArg (fun b => Res.ret (AVal.bool b)) ?_; rw [← hr]; clear ga gb na nb ha hb hr; simp_all <;> rfl)
  have e3 : lv = 3 := by omega
  subst e3
  rw [if_neg (by decide), if_neg (by decide), if_neg (by decide)] at hr
  subst hr
  refine CallOK.to (E := (Er [] [16, 17, 18, 19, 20])) (fn := Tryz.f110) (g := .pure _) (by rfl) (by rfl) (by rfl) (fun _ _ => by rfl) (by decide +kernel) (by rfl) (by rfl) (by rfl) fun _ => ?_
  refine goes (hEr [] [16, 17, 18, 19, 20]) 10 ?_
  conv => whnf
  refine To.cutC [1, 2, 3, 4, 8] 1 rfl rfl rfl rfl ?_
  refine al_step c _ a b ?_
  repeat' first | (refine goN (hEr [] [16, 17, 18, 19, 20]) 100 rfl ?_; conv => whnf) | refine Exists.intro a.toNat (And.intro na ?_) | refine Exists.intro b.toNat (And.intro nb ?_) | refine Exists.intro _ (And.intro ga ?_) | refine Exists.intro _ (And.intro gb ?_) | exact rfl | refine And.intro (fun _ => ?_) (fun h => absurd (show true = false from h) (by decide)) | refine And.intro (fun h => absurd (show false = true from h) (by decide)) (fun _ => ?_) | refine And.intro (fun h => ?_) (fun h => absurd (of_decide_eq_false h) (by omega)) | refine And.intro (fun h => absurd (of_decide_eq_true h) (by omega)) (fun h => ?_) | refine And.intro (fun h => ?_) (fun h => ?_) | refine Or.inl (And.intro (And.intro (by simp only [kmin]; omega) (by simp only [kmax]; omega)) ?_) | refine Exists.intro _ (And.intro rfl ?_) | refine And.intro (by decide) ?_ | refine And.intro (by omega) ?_ | fail
theorem alike_ok (c : Con) (lv a b : Int) (h0 : 0 ≤ lv) (h3 : lv ≤ 3) (ha : vH c a) (hb : vH c b) : CallOK Tryz.prog 110 [c.av, ii lv, ii a, ii b] [] (.ret (.bool (alB c lv a b))) [] := alike_any c lv a b h0 h3 ha hb _ rfl

/- ---------- Groups ---------- -/
noncomputable abbrev fRG : Func := Tryz.f71
abbrev rgO (c : Con) (s : List (List Int)) : List AObj := [.cells 25 c.cs, .row 0 1 37 (gav s)]
abbrev rgF (lv : Int) (i : Int) : List (Nat × AVal) := [(1, ii lv), (2, .ref 0 0), (5, .row 1 0), (6, ii i)]
/-- groups of hosts that are there, none without any -/
structure GH (c : Con) (i : Nat) (s : List (List Int)) : Prop where
  len : s.length ≤ i
  one : ∀ g ∈ s, g.length ≤ i ∧ ∃ a r, g = a :: r ∧ vH c a
theorem GH.step {c : Con} {lv : Int} {i : Nat} {s : List (List Int)} (h : GH c i s) (hi : i < c.hs.length) : GH c (i + 1) (rgS c lv s i) := by
  obtain ⟨h1, h2⟩ := h
  unfold rgS
  split
  · rename_i k hk
    refine ⟨by simp; omega, fun g hg => ?_⟩
    rcases List.mem_or_eq_of_mem_set hg with hg | rfl
    · obtain ⟨q1, q2⟩ := h2 g hg
      exact ⟨by omega, q2⟩
    · by_cases hk2 : k < s.length
      · rw [List.getElem?_eq_getElem hk2]
        obtain ⟨q1, a, r, q2, q3⟩ := h2 _ (List.getElem_mem hk2)
        refine ⟨by simp; omega, a, r ++ [(i : Int)], ?_, q3⟩
        show s[k] ++ _ = _
        rw [q2]; rfl
      · rw [List.getElem?_eq_none (by omega)]
        exact ⟨by simp, (i : Int), [], rfl, ⟨by omega, by omega⟩⟩
  · refine ⟨by simp; omega, fun g hg => ?_⟩
    rcases List.mem_append.1 hg with hg | hg
    · obtain ⟨q1, q2⟩ := h2 g hg
      exact ⟨by omega, q2⟩
    · simp at hg
      subst hg
      exact ⟨by simp, (i : Int), [], rfl, ⟨by omega, by omega⟩⟩
theorem gav_set (l : List (List Int)) (i : Nat) (x : List Int) : (gav l).set i (.slice 1 (iv x) .no) = gav (l.set i x) := by simp [gav, List.map_set]
theorem rg_in (c : Con) (lv : Int) (h0 : 0 ≤ lv) (h3 : lv ≤ 3) (i : Nat) (hi : i < c.hs.length) (hc : c.hs.length ≤ 1048576) (G : Goal) (hG : G = .pure G.res) (s : List (List Int)) (hs : GH c i s) :
    ∀ (m k : Nat), k + m = s.length →
    To (Er [5] []) fRG (.pure G.res) (.head (stk fRG 0) (rgF lv ((i : Int) + 1)) (rgO c (match rfindG c lv (i : Int) (s.drop k) k with | some k => s.set k ((s[k]?).getD [] ++ [(i : Int)]) | none => s ++ [[(i : Int)]]))) →
    To (Er [5] []) fRG (.pure G.res) (.head (stk fRG 1) (rgF lv (i : Int) ++ [(7, .bool false), (8, ii k)]) (rgO c s)) := by
  have hlen : (gav s).length = s.length := by simp
  have hsl := hs.len
  intro m
  induction m with
  | zero =>
    intro k hk hto
    rw [List.drop_eq_nil_of_le (by omega)] at hto
    have hto : To (Er [5] []) fRG (.pure G.res) (.head (stk fRG 0) (rgF lv ((i : Int) + 1)) (rgO c (s ++ [[(i : Int)]]))) := hto
    have e : gav (s ++ [[(i : Int)]]) = gav s ++ [.slice 1 [ii i] .no] := by simp [gav]
    unfold rgO at hto
    rw [e] at hto
    refine goes (hEr [5] []) 100 ?_
    conv => whnf
    refine And.intro (fun h => absurd (of_decide_eq_true h) (by omega)) (fun h => ?_)
    repeat' first | (refine goN (hEr [5] []) 100 rfl ?_; conv => whnf) | refine And.intro (And.intro (by simp only [maxLen]; simp; omega) (by simp; omega)) ?_ | exact rfl | refine And.intro (fun _ => ?_) (fun h => absurd (show true = false from h) (by decide)) | refine And.intro (fun h => absurd (show false = true from h) (by decide)) (fun _ => ?_) | refine And.intro (fun h => ?_) (fun h => absurd (of_decide_eq_false h) (by omega)) | refine And.intro (fun h => absurd (of_decide_eq_true h) (by omega)) (fun h => ?_) | refine And.intro (fun h => ?_) (fun h => ?_) | refine Or.inl (And.intro (And.intro (by simp only [kmin]; omega) (by simp only [kmax]; omega)) ?_) | refine Exists.intro _ (And.intro rfl ?_) | refine And.intro (by decide) ?_ | refine And.intro (by omega) ?_ | fail
    refine To.part [1, 2, 5, 6] [0, 1] rfl rfl rfl ?_
    exact hto
  | succ m ih =>
    intro k hk hto
    have hlt : k < s.length := by omega
    obtain ⟨hgl, a, r, hg, hva⟩ := hs.one _ (List.getElem_mem hlt)
    rw [List.drop_eq_getElem_cons hlt] at hto
    have hsk : s[k]? = some s[k] := List.getElem?_eq_getElem hlt
    have hset := gav_set s k (s[k] ++ [(i : Int)])
    have get : (gav s)[k]? = some (.slice 1 (iv s[k]) .no) := gav_get hlt
    have ih := ih (k + 1) (by omega)
    have hal := alike_ok c lv a (i : Int) h0 h3 hva ⟨by omega, by omega⟩
    unfold rfindG at hto
    rw [hg] at hgl get
    have hgl2 : r.length + 1 ≤ i := by simpa using hgl
    have get0 : (iv (a :: r))[0]? = some (ii a) := rfl
    have ehd : (s[k]).headD 0 = a := by rw [hg]; rfl
    rw [ehd] at hto
    cases hq : alB c lv a (i : Int) with
    | false =>
      rw [hq] at hal
      rw [if_neg (by rw [hq]; decide)] at hto
      have next := ih hto
      refine goes (hEr [5] []) 100 ?_
      conv => whnf
      refine And.intro (fun h => ?_) (fun h => absurd (of_decide_eq_false h) (by omega))
      repeat' first | (refine goN (hEr [5] []) 100 rfl ?_; conv => whnf) | refine Exists.intro k (And.intro rfl ?_) | refine Exists.intro _ (And.intro get ?_) | refine Exists.intro _ (And.intro get0 ?_) | refine .pure _ [] hal ?_ | exact rfl | refine And.intro (fun _ => ?_) (fun h => absurd (show true = false from h) (by decide)) | refine And.intro (fun h => absurd (show false = true from h) (by decide)) (fun _ => ?_) | refine And.intro (fun h => ?_) (fun h => absurd (of_decide_eq_false h) (by omega)) | refine And.intro (fun h => absurd (of_decide_eq_true h) (by omega)) (fun h => ?_) | refine And.intro (fun h => ?_) (fun h => ?_) | refine Or.inl (And.intro (And.intro (by simp only [kmin]; omega) (by simp only [kmax]; omega)) ?_) | refine Exists.intro _ (And.intro rfl ?_) | refine And.intro (by decide) ?_ | refine And.intro (by omega) ?_ | fail
      refine To.part [1, 2, 5, 6, 7, 8] [0, 1] rfl rfl rfl ?_
      exact next
    | true =>
      rw [hq] at hal
      rw [if_pos hq] at hto
      have hto : To (Er [5] []) fRG (.pure G.res) (.head (stk fRG 0) (rgF lv ((i : Int) + 1)) (rgO c (s.set k ((s[k]?).getD [] ++ [(i : Int)])))) := hto
      rw [hsk] at hto
      have hto : To (Er [5] []) fRG (.pure G.res) (.head (stk fRG 0) (rgF lv ((i : Int) + 1)) (rgO c (s.set k (s[k] ++ [(i : Int)])))) := hto
      unfold rgO at hto
      rw [← hset, hg, show iv ((a :: r) ++ [(i : Int)]) = iv (a :: r) ++ [ii i] from by simp] at hto
      have hsl2 : ((gav s).set k (.slice 1 (iv (a :: r) ++ [ii i]) .no)).length = s.length := by simp
      generalize hS : (gav s).set k (.slice 1 (iv (a :: r) ++ [ii i]) .no) = S at hto hsl2
      have hfin : To (Er [5] []) fRG (.pure G.res) (.head (stk fRG 1) (rgF lv (i : Int) ++ [(7, .bool true), (8, ii ((k : Int) + 1))]) [.cells 25 c.cs, .row 0 1 37 S]) := by
        refine goes (hEr [5] []) 100 ?_
        conv => whnf
        repeat' first | (refine goN (hEr [5] []) 100 rfl ?_; conv => whnf) | exact rfl | refine And.intro (fun _ => ?_) (fun h => absurd (show true = false from h) (by decide)) | refine And.intro (fun h => absurd (show false = true from h) (by decide)) (fun _ => ?_) | refine And.intro (fun h => ?_) (fun h => absurd (of_decide_eq_false h) (by omega)) | refine And.intro (fun h => absurd (of_decide_eq_true h) (by omega)) (fun h => ?_) | refine And.intro (fun h => ?_) (fun h => ?_) | refine Or.inl (And.intro (And.intro (by simp only [kmin]; omega) (by simp only [kmax]; omega)) ?_) | refine Exists.intro _ (And.intro rfl ?_) | refine And.intro (by decide) ?_ | refine And.intro (by omega) ?_ | fail
        · refine To.part [1, 2, 5, 6] [0, 1] rfl rfl rfl ?_
          exact hto
        · refine To.part [1, 2, 5, 6] [0, 1] rfl rfl rfl ?_
          exact hto
      rw [← hS] at hfin
      refine goes (hEr [5] []) 100 ?_
      conv => whnf
      refine And.intro (fun h => ?_) (fun h => absurd (of_decide_eq_false h) (by omega))
      repeat' first | (refine goN (hEr [5] []) 100 rfl ?_; conv => whnf) | refine Exists.intro k (And.intro rfl ?_) | refine Exists.intro _ (And.intro get ?_) | refine Exists.intro _ (And.intro get0 ?_) | refine .pure _ [] hal ?_ | refine And.intro (And.intro (by simp only [maxLen]; simp; omega) (by simp; omega)) ?_ | exact rfl | refine And.intro (fun _ => ?_) (fun h => absurd (show true = false from h) (by decide)) | refine And.intro (fun h => absurd (show false = true from h) (by decide)) (fun _ => ?_) | refine And.intro (fun h => ?_) (fun h => absurd (of_decide_eq_false h) (by omega)) | refine And.intro (fun h => absurd (of_decide_eq_true h) (by omega)) (fun h => ?_) | refine And.intro (fun h => ?_) (fun h => ?_) | refine Or.inl (And.intro (And.intro (by simp only [kmin]; omega) (by simp only [kmax]; omega)) ?_) | refine Exists.intro _ (And.intro rfl ?_) | refine And.intro (by decide) ?_ | refine And.intro (by omega) ?_ | fail
      refine To.part [1, 2, 5, 6, 7, 8] [0, 1] rfl rfl rfl ?_
      exact hfin
theorem rg_out (c : Con) (hc : c.sm) (lv : Int) (h0 : 0 ≤ lv) (h3 : lv ≤ 3) (R : List (List Int)) : ∀ (n i : Nat) (s : List (List Int)), i + n = c.hs.length → GH c i s → (List.range' i n).foldl (rgS c lv) s = R →
    To (Er [5] []) fRG (.pure (.ret (.slice 1 (gav R) .no))) (.head (stk fRG 0) (rgF lv (i : Int)) (rgO c s)) := by
  have h1 := hc.hs
  have hlen : (hav c.hs).length = c.hs.length := by simp
  intro n
  induction n with
  | zero =>
    intro i s hi hs hR
    have hR : s = R := hR
    subst hR
    refine goes (hEr [5] []) 100 ?_
    conv => whnf
    refine And.intro (fun h => absurd (of_decide_eq_true h) (by omega)) (fun h => ?_)
    repeat' first | (refine goN (hEr [5] []) 100 rfl ?_; conv => whnf) | exact rfl | refine And.intro (fun _ => ?_) (fun h => absurd (show true = false from h) (by decide)) | refine And.intro (fun h => absurd (show false = true from h) (by decide)) (fun _ => ?_) | refine And.intro (fun h => ?_) (fun h => absurd (of_decide_eq_false h) (by omega)) | refine And.intro (fun h => absurd (of_decide_eq_true h) (by omega)) (fun h => ?_) | refine And.intro (fun h => ?_) (fun h => ?_) | refine Or.inl (And.intro (And.intro (by simp only [kmin]; omega) (by simp only [kmax]; omega)) ?_) | refine Exists.intro _ (And.intro rfl ?_) | refine And.intro (by decide) ?_ | refine And.intro (by omega) ?_ | fail
  | succ n ih =>
    intro i s hi hs hR
    rw [List.range'_succ, List.foldl_cons] at hR
    have next := ih (i + 1) (rgS c lv s i) (by omega) (hs.step (by omega)) hR
    refine goes (hEr [5] []) 100 ?_
    conv => whnf
    refine And.intro (fun h => ?_) (fun h => absurd (of_decide_eq_false h) (by omega))
    repeat' first | (refine goN (hEr [5] []) 100 rfl ?_; conv => whnf) | exact rfl | refine And.intro (fun _ => ?_) (fun h => absurd (show true = false from h) (by decide)) | refine And.intro (fun h => absurd (show false = true from h) (by decide)) (fun _ => ?_) | refine And.intro (fun h => ?_) (fun h => absurd (of_decide_eq_false h) (by omega)) | refine And.intro (fun h => absurd (of_decide_eq_true h) (by omega)) (fun h => ?_) | refine And.intro (fun h => ?_) (fun h => ?_) | refine Or.inl (And.intro (And.intro (by simp only [kmin]; omega) (by simp only [kmax]; omega)) ?_) | refine Exists.intro _ (And.intro rfl ?_) | refine And.intro (by decide) ?_ | refine And.intro (by omega) ?_ | fail
    refine To.part [1, 2, 5, 6, 7, 8] [0, 1] rfl rfl rfl ?_
    exact rg_in c lv h0 h3 i (by omega) h1 (.pure (.ret (.slice 1 (gav R) .no))) rfl s hs s.length 0 (by omega) next
theorem rgroups_ok (c : Con) (hc : c.sm) (lv : Int) : CallOK Tryz.prog 71 [c.av, ii lv] [] (.ret (.slice 1 (gav (gpL c lv)) .no)) [] := by
  have h1 := hc.hs
  obtain ⟨R, hR⟩ : ∃ R, R = gpL c lv := ⟨_, rfl⟩
  rw [← hR]
  rw [← rgL_eq] at hR
  unfold rgL at hR
  by_cases p1 : lv < 0
  · rw [if_pos (decide_eq_true p1)] at hR
    subst hR
    refine CallOK.to (E := (Er [5] [])) (fn := Tryz.f71) (g := .pure _) (by rfl) (by rfl) (by rfl) (fun _ _ => by rfl) (by decide +kernel) (by rfl) (by rfl) (by rfl) fun _ => ?_
    repeat' first | (refine goN (hEr [5] []) 100 rfl ?_; conv => whnf) | exact rfl | refine And.intro (fun _ => ?_) (fun h => absurd (show true = false from h) (by decide)) | refine And.intro (fun h => absurd (show false = true from h) (by decide)) (fun _ => ?_) | refine And.intro (fun h => ?_) (fun h => absurd (of_decide_eq_false h) (by omega)) | refine And.intro (fun h => absurd (of_decide_eq_true h) (by omega)) (fun h => ?_) | refine And.intro (fun h => ?_) (fun h => ?_) | refine Or.inl (And.intro (And.intro (by simp only [kmin]; omega) (by simp only [kmax]; omega)) ?_) | refine Exists.intro _ (And.intro rfl ?_) | refine And.intro (by decide) ?_ | refine And.intro (by omega) ?_ | fail
  rw [if_neg (by rw [decide_eq_false p1]; decide)] at hR
  by_cases p2 : 3 < lv
  · rw [if_pos (decide_eq_true p2)] at hR
    subst hR
    refine CallOK.to (E := (Er [5] [])) (fn := Tryz.f71) (g := .pure _) (by rfl) (by rfl) (by rfl) (fun _ _ => by rfl) (by decide +kernel) (by rfl) (by rfl) (by rfl) fun _ => ?_
    repeat' first | (refine goN (hEr [5] []) 100 rfl ?_; conv => whnf) | exact rfl | refine And.intro (fun _ => ?_) (fun h => absurd (show true = false from h) (by decide)) | refine And.intro (fun h => absurd (show false = true from h) (by decide)) (fun _ => ?_) | refine And.intro (fun h => ?_) (fun h => absurd (of_decide_eq_false h) (by omega)) | refine And.intro (fun h => absurd (of_decide_eq_true h) (by omega)) (fun h => ?_) | refine And.intro (fun h => ?_) (fun h => ?_) | refine Or.inl (And.intro (And.intro (by simp only [kmin]; omega) (by simp only [kmax]; omega)) ?_) | refine Exists.intro _ (And.intro rfl ?_) | refine And.intro (by decide) ?_ | refine And.intro (by omega) ?_ | fail
  rw [if_neg (by rw [decide_eq_false p2]; decide), List.range_eq_range'] at hR
  refine CallOK.to (E := (Er [5] [])) (fn := Tryz.f71) (g := .pure _) (by rfl) (by rfl) (by rfl) (fun _ _ => by rfl) (by decide +kernel) (by rfl) (by rfl) (by rfl) fun _ => ?_
  repeat' first | (refine goN (hEr [5] []) 100 rfl ?_; conv => whnf) | exact rfl | refine And.intro (fun _ => ?_) (fun h => absurd (show true = false from h) (by decide)) | refine And.intro (fun h => absurd (show false = true from h) (by decide)) (fun _ => ?_) | refine And.intro (fun h => ?_) (fun h => absurd (of_decide_eq_false h) (by omega)) | refine And.intro (fun h => absurd (of_decide_eq_true h) (by omega)) (fun h => ?_) | refine And.intro (fun h => ?_) (fun h => ?_) | refine Or.inl (And.intro (And.intro (by simp only [kmin]; omega) (by simp only [kmax]; omega)) ?_) | refine Exists.intro _ (And.intro rfl ?_) | refine And.intro (by decide) ?_ | refine And.intro (by omega) ?_ | fail
  refine To.part [1, 2, 5, 6] [0, 1] rfl rfl rfl ?_
  exact rg_out c hc lv (by omega) (by omega) R c.hs.length 0 [] (by omega) ⟨by simp, fun g hg => by simp at hg⟩ hR.symm
end Go.Proofs.YtlalcoklkafnnaaGreat

namespace Go.Proofs.YtlalcoklkafnnaaGreat
open Go Go.AW Go.Proofs
set_option maxRecDepth 10000

/- ---------- Room ---------- -/
noncomputable abbrev fRRoom : Func := Tryz.f111
theorem rroom_loop (free need : V3) (r : Int) : ∀ (m : Nat) (n : Int), 0 ≤ n → n + m = 16 → rrF free need m n = r →
    To E fRRoom (.pure (.ret (ii r))) (.head (stk fRRoom 0) [(2, .ref 0 0), (3, .ref 1 0), (5, ii n)] [.cells 32 free.cs, .cells 32 need.cs]) := by
  intro m
  induction m with
  | zero =>
    intro n h0 hn hr
    have hr : n = r := hr
    subst hr
    refine goes hE 100 ?_
    conv => whnf
    repeat' first | (refine goN hE 100 rfl ?_; conv => whnf) | exact rfl | refine And.intro (fun _ => ?_) (fun h => absurd (show true = false from h) (by decide)) | refine And.intro (fun h => absurd (show false = true from h) (by decide)) (fun _ => ?_) | refine And.intro (fun h => ?_) (fun h => absurd (of_decide_eq_false h) (by omega)) | refine And.intro (fun h => absurd (of_decide_eq_true h) (by omega)) (fun h => ?_) | refine And.intro (fun h => ?_) (fun h => ?_) | refine Or.inl (And.intro (And.intro (by simp only [kmin]; omega) (by simp only [kmax]; omega)) ?_) | refine Exists.intro _ (And.intro rfl ?_) | refine And.intro (by decide) ?_ | refine And.intro (by omega) ?_ | fail
  | succ m ih =>
    intro n h0 hn hr
    unfold rrF at hr
    have h1 := rmul_ok need (n + 1)
    generalize vmul need (n + 1) = q at h1 hr
    have h2 := rfits_ok q free
    have h3 := rfits_ok need free
    cases hq : vfits q free with
    | false =>
      rw [hq] at h2
      rw [if_neg (by rw [hq]; decide)] at hr
      subst hr
      refine goes hE 100 ?_
      conv => whnf
      repeat' first | (refine goN hE 100 rfl ?_; conv => whnf) | refine And.intro (And.intro (by simp only [kmin]; omega) (by simp only [kmax]; omega)) ?_ | refine .pure _ [] h1 ?_ | refine .pure _ [] h2 ?_ | exact rfl | refine And.intro (fun _ => ?_) (fun h => absurd (show true = false from h) (by decide)) | refine And.intro (fun h => absurd (show false = true from h) (by decide)) (fun _ => ?_) | refine And.intro (fun h => ?_) (fun h => absurd (of_decide_eq_false h) (by omega)) | refine And.intro (fun h => absurd (of_decide_eq_true h) (by omega)) (fun h => ?_) | refine And.intro (fun h => ?_) (fun h => ?_) | refine Or.inl (And.intro (And.intro (by simp only [kmin]; omega) (by simp only [kmax]; omega)) ?_) | refine Exists.intro _ (And.intro rfl ?_) | refine And.intro (by decide) ?_ | refine And.intro (by omega) ?_ | fail
    | true =>
      rw [hq] at h2
      rw [if_pos hq] at hr
      cases hw : vfits need free with
      | false =>
        rw [hw] at h3
        rw [if_neg (by rw [hw]; decide)] at hr
        subst hr
        refine goes hE 100 ?_
        conv => whnf
        repeat' first | (refine goN hE 100 rfl ?_; conv => whnf) | refine And.intro (And.intro (by simp only [kmin]; omega) (by simp only [kmax]; omega)) ?_ | refine .pure _ [] h1 ?_ | refine .pure _ [] h2 ?_ | refine .pure _ [] h3 ?_ | exact rfl | refine And.intro (fun _ => ?_) (fun h => absurd (show true = false from h) (by decide)) | refine And.intro (fun h => absurd (show false = true from h) (by decide)) (fun _ => ?_) | refine And.intro (fun h => ?_) (fun h => absurd (of_decide_eq_false h) (by omega)) | refine And.intro (fun h => absurd (of_decide_eq_true h) (by omega)) (fun h => ?_) | refine And.intro (fun h => ?_) (fun h => ?_) | refine Or.inl (And.intro (And.intro (by simp only [kmin]; omega) (by simp only [kmax]; omega)) ?_) | refine Exists.intro _ (And.intro rfl ?_) | refine And.intro (by decide) ?_ | refine And.intro (by omega) ?_ | fail
      | true =>
        rw [hw] at h3
        rw [if_pos hw] at hr
        have next := ih (n + 1) (by omega) (by omega) hr
        refine goes hE 100 ?_
        conv => whnf
        repeat' first | (refine goN hE 100 rfl ?_; conv => whnf) | refine And.intro (And.intro (by simp only [kmin]; omega) (by simp only [kmax]; omega)) ?_ | refine .pure _ [] h1 ?_ | refine .pure _ [] h2 ?_ | refine .pure _ [] h3 ?_ | exact rfl | refine And.intro (fun _ => ?_) (fun h => absurd (show true = false from h) (by decide)) | refine And.intro (fun h => absurd (show false = true from h) (by decide)) (fun _ => ?_) | refine And.intro (fun h => ?_) (fun h => absurd (of_decide_eq_false h) (by omega)) | refine And.intro (fun h => absurd (of_decide_eq_true h) (by omega)) (fun h => ?_) | refine And.intro (fun h => ?_) (fun h => ?_) | refine Or.inl (And.intro (And.intro (by simp only [kmin]; omega) (by simp only [kmax]; omega)) ?_) | refine Exists.intro _ (And.intro rfl ?_) | refine And.intro (by decide) ?_ | refine And.intro (by omega) ?_ | fail
        exact To.cut [2, 3, 5] 2 rfl rfl rfl rfl next
theorem rroom_ok (free need : V3) (hv : validB need = true) : CallOK Tryz.prog 111 [free.av, need.av] [] (.ret (ii (roomI free need))) [] := by
  rw [← rr_eq hv]
  refine CallOK.to (E := E) (fn := Tryz.f111) (g := .pure _) (by rfl) (by rfl) (by rfl) (fun _ _ => by rfl) (by decide +kernel) (by rfl) (by rfl) (by rfl) fun _ => ?_
  refine goes hE 100 ?_
  conv => whnf
  exact To.cut [2, 3, 5] 2 rfl rfl rfl rfl (rroom_loop free need _ 16 0 (by decide) (by decide) rfl)

/- ---------- In ---------- -/
/- ---------- Find ---------- -/
end Go.Proofs.YtlalcoklkafnnaaGreat

namespace Go.Proofs.YtlalcoklkafnnaaGreat
open Go Go.AW Go.Proofs
set_option maxRecDepth 10000

/- ---------- Start ---------- -/
/- ---------- Ints ---------- -/
/- ---------- Later ---------- -/
end Go.Proofs.YtlalcoklkafnnaaGreat

namespace Go.Proofs.YtlalcoklkafnnaaGreat
open Go Go.AW Go.Proofs
set_option maxRecDepth 10000

theorem gang_valid {ns : List Nod} {g : Gan} (h : gangI ns g ≠ 0) : validB g.need = true := by
  unfold gangI at h
  split at h
  · rename_i hb
    unfold gangB at hb
    simp only [Bool.and_eq_true] at hb
    exact hb.2.1
  · exact absurd rfl h
theorem inL_len (free : List V3) (g : Gan) (hg : 0 ≤ g.pods ∧ g.pods ≤ 16) (gr : List Int) : (inL free g gr).length ≤ 16 := by
  have key : ∀ (l : List Int) (out : List Int), (out.length : Int) ≤ g.pods → ((l.foldl (inS free g) out).length : Int) ≤ g.pods := fun l => by
    induction l with
    | nil => intro out h; exact h
    | cons x r ih => intro out h; exact ih _ (inS_len free g out x h)
  have := key gr [] (by simp; omega)
  unfold inL
  omega
theorem fdG_len {c : Con} {free : List V3} {g : Gan} (hg : 0 ≤ g.pods ∧ g.pods ≤ 16) {x : Int × List Int} : ∀ {gs : List (List Int)}, fdG c free g gs = some x → x.2.length ≤ 16
  | [], h => by cases h
  | gr :: r, h => by
    unfold fdG at h
    split at h
    · exact fdG_len hg h
    · cases h
      exact inL_len free g hg gr
theorem fdL_len {c : Con} {free : List V3} {g : Gan} (hg : 0 ≤ g.pods ∧ g.pods ≤ 16) {x : Int × List Int} : ∀ {n : Nat} {lv : Int}, fdL c free g n lv = some x → x.2.length ≤ 16
  | 0, lv, h => by cases h
  | n + 1, lv, h => by
    unfold fdL at h
    split at h
    · rename_i y hy
      cases h
      exact fdG_len hg hy
    · exact fdL_len hg h
theorem fits_len {c : Con} {l : List Rn} {g : Gan} (hg : 0 ≤ g.pods ∧ g.pods ≤ 16) {x : Int × List Int} (h : fitsL c l g = some x) : x.2.length ≤ 1048576 := by
  unfold fitsL at h
  split at h
  · unfold findL at h
    have := fdL_len hg h
    omega
  · cases h
end Go.Proofs.YtlalcoklkafnnaaGreat

namespace Go.Proofs.YtlalcoklkafnnaaGreat
open Go Go.AW Go.Proofs
set_option maxRecDepth 10000

theorem few_len {c : Con} {now : Int} {l : List Rn} (h : fewI c now l ≠ 0) : l.length ≤ 32 := by
  unfold fewI at h
  split at h
  · exact absurd rfl h
  · rename_i hb
    unfold badF at hb
    omega
theorem sm_snoc {l : List Rn} (hs : Sm l) (hl : l.length ≤ 1048575) {x : Rn} (hx : x.hs.length ≤ 1048576) : Sm (l ++ [x]) := ⟨by simp; omega, fun y hy => by
    rcases List.mem_append.1 hy with hy | hy
    · exact hs.2 y hy
    · simp at hy; subst hy; exact hx⟩
/- ---------- BackfillLaters ---------- -/
/- ---------- BackfillSafe ---------- -/
end Go.Proofs.YtlalcoklkafnnaaGreat

namespace Go.Proofs.YtlalcoklkafnnaaGreat
open Go Go.AW Go.Proofs

/- ---------- what one node uses, of more and of fewer ---------- -/
def V3.le (a b : V3) : Prop := a.a ≤ b.a ∧ a.b ≤ b.b ∧ a.c ≤ b.c
theorem addI_mono {a b d : Int} (h : a ≤ b) : addI a d ≤ addI b d := by unfold addI cutI; omega
theorem addI_up {a d : Int} (h0 : 0 ≤ a) (h1 : a ≤ 1099511627776) (hd : 0 ≤ d) : a ≤ addI a d := by unfold addI cutI; omega
theorem addI_r {a d : Int} (h0 : 0 ≤ a) (hd : 0 ≤ d) : 0 ≤ addI a d ∧ addI a d ≤ 1099511627776 := by unfold addI cutI; omega
def V3.pos (d : V3) : Prop := 0 ≤ d.a ∧ 0 ≤ d.b ∧ 0 ≤ d.c
theorem V3.le.trans {a b c : V3} (h : a.le b) (k : b.le c) : a.le c := ⟨Int.le_trans h.1 k.1, Int.le_trans h.2.1 k.2.1, Int.le_trans h.2.2 k.2.2⟩
theorem vfits_le {a b : V3} : vfits a b = true ↔ a.le b := by
  obtain ⟨a1, a2, a3⟩ := a
  obtain ⟨b1, b2, b3⟩ := b
  unfold vfits V3.le
  by_cases h1 : b1 < a1
  · first | (simp [h1]; done) | (simp [h1]; omega)
  by_cases h2 : b2 < a2
  · first | (simp [h1, h2]; done) | (simp [h1, h2]; omega)
  by_cases h3 : b3 < a3
  · first | (simp [h1, h2, h3]; done) | (simp [h1, h2, h3]; omega)
  first | (simp [h1, h2, h3]; done) | (simp [h1, h2, h3]; omega)
/-- what node j uses -/
def useF (c : Con) (j : Nat) (v : V3) (x : Rn) : V3 := if leafB c.ns x.g.ten = true ∧ (j : Int) ∈ upL c.ns x.g.ten then vadd v (dem x.g) else v
theorem addPs_get (v : V3) (j : Nat) : ∀ (ks : List Int) (xs : List V3), ks.Nodup → (∀ k ∈ ks, 0 ≤ k) → (ks.foldl (addP v) xs)[j]? = if (j : Int) ∈ ks then (xs[j]?).map fun x => vadd x v else xs[j]?
  | [], xs, _, _ => by simp
  | k :: r, xs, hn, h0 => by
    have hn := List.nodup_cons.1 hn
    have hk := h0 k (by simp)
    rw [List.foldl_cons, addPs_get v j r _ hn.2 fun x hx => h0 x (by simp [hx]), addP_get]
    by_cases h1 : (j : Int) = k
    · have h2 : (j : Int) ∉ r := by rw [h1]; exact hn.1
      rw [if_neg h2, if_pos (by omega), if_pos (by simp [h1])]
    · have e : (j : Int) ∈ k :: r ↔ (j : Int) ∈ r := by simp [h1]
      by_cases h2 : (j : Int) ∈ r
      · rw [if_pos h2, if_neg (by omega), if_pos (e.2 h2)]
      · rw [if_neg h2, if_neg (by omega), if_neg (fun h => h2 (e.1 h))]
theorem rofX_get (c : Con) (xs : List V3) (x : Rn) (j : Nat) : (rofX c xs x)[j]? = (xs[j]?).map fun v => useF c j v x := by
  unfold rofX useF
  cases hq : leafB c.ns x.g.ten with
  | false => rw [if_neg (by decide)]; simp
  | true =>
    rw [if_pos rfl]
    have hpw : (pathL c.ns x.g.ten).Nodup := by
      unfold pathL
      exact List.pairwise_reverse.2 ((upF_pw c.ns _ _).imp fun h => by omega)
    have hm : (j : Int) ∈ pathL c.ns x.g.ten ↔ (j : Int) ∈ upL c.ns x.g.ten := List.mem_reverse
    rw [addPs_get _ _ _ _ hpw fun k hk => (upF_ok _ _ _ _ (List.mem_reverse.1 hk)).1]
    by_cases h : (j : Int) ∈ upL c.ns x.g.ten
    · rw [if_pos (hm.2 h)]; simp [h]
    · rw [if_neg (fun q => h (hm.1 q))]; simp [h]
theorem of_get (c : Con) (j : Nat) : ∀ (l : List Rn) (xs : List V3), (l.foldl (rofX c) xs)[j]? = (xs[j]?).map fun v => l.foldl (useF c j) v
  | [], xs => by simp
  | x :: r, xs => by
    rw [List.foldl_cons, of_get c j r, rofX_get, Option.map_map]
    rfl
theorem of_at {c : Con} {t : Int} (h : 0 ≤ t ∧ t.toNat < c.ns.length) (l : List Rn) : atV (ofL c l) t = l.foldl (useF c t.toNat) V3.zero := by
  unfold atV
  rw [if_neg (by rw [decide_eq_false (by omega)]; decide), ← of_eq]
  unfold rofL
  rw [of_get, List.getElem?_replicate, if_pos h.2]
  rfl
/- ---------- whom Choose gives ---------- -/
theorem dem_pos {g : Gan} (hv : validB g.need = true) (hg : 0 ≤ g.pods ∧ g.pods ≤ 16) : (dem g).pos := by
  unfold validB at hv
  simp only [Bool.and_eq_true, decide_eq_true_eq] at hv
  obtain ⟨⟨⟨a1, a2⟩, b1, b2⟩, c1, c2⟩ := hv
  have key : ∀ x, 0 ≤ x → 0 ≤ mulI x g.pods := fun x hx => by
    have h2 : 0 ≤ cutI x 1099511627776 * cutI g.pods 1048576 := Int.mul_nonneg (by unfold cutI; omega) (by unfold cutI; omega)
    unfold mulI
    generalize cutI x 1099511627776 * cutI g.pods 1048576 = q at h2
    unfold cutI
    omega
  exact ⟨key _ a1, key _ b1, key _ c1⟩
theorem gang1_valid {ns : List Nod} {g : Gan} (h : gangI ns g ≠ 0) : validB g.need = true := by
  unfold gangI at h
  split at h
  · rename_i hb
    unfold gangB at hb
    simp only [Bool.and_eq_true] at hb
    exact hb.2.1
  · exact absurd rfl h
theorem few_pos {c : Con} {now : Int} {l : List Rn} (h : fewI c now l = 1) : ∀ x ∈ l, (dem x.g).pos := by
  intro x hx
  unfold fewI at h
  split at h
  · cases h
  · split at h
    · rename_i hb
      have := List.all_eq_true.1 hb x hx
      unfold runX at this
      split at this
      · cases this
      · rename_i hr
        unfold badR at hr
        have hg : gangI c.ns x.g ≠ 0 := fun e => hr (.inl e)
        exact dem_pos (gang1_valid hg) (gang_pods hg)
    · cases h
end Go.Proofs.YtlalcoklkafnnaaGreat

namespace Go.Proofs.YtlalcoklkafnnaaGreat
open Go Go.AW Go.Proofs
set_option maxRecDepth 10000

/- ---------- sums that stop at the greatest amount ---------- -/
abbrev FarI : Int := 1099511627776
theorem addI_sat {v e : Int} (h0 : 0 ≤ v) (h1 : v ≤ FarI) (he : 0 ≤ e) : addI v e = min (v + e) FarI := by unfold addI cutI FarI at *; omega
def sumI : List Int → Int
  | [] => 0
  | x :: r => x + sumI r
theorem sumI_pos : ∀ {es : List Int}, (∀ e ∈ es, 0 ≤ e) → 0 ≤ sumI es
  | [], _ => Int.le_refl _
  | x :: r, h => by
    have := sumI_pos (es := r) fun e he => h e (by simp [he])
    have := h x (by simp)
    unfold sumI
    omega
theorem sat_fold : ∀ {es : List Int} {v : Int}, 0 ≤ v → v ≤ FarI → (∀ e ∈ es, 0 ≤ e) → es.foldl addI v = min (v + sumI es) FarI
  | [], v, h0, h1, _ => by
    unfold sumI
    show v = _
    omega
  | x :: r, v, h0, h1, h => by
    have hx := h x (by simp)
    have hr := sumI_pos (es := r) fun e he => h e (by simp [he])
    rw [List.foldl_cons, addI_sat h0 h1 hx, sat_fold (by unfold FarI at *; omega) (by omega) fun e he => h e (by simp [he])]
    have e : sumI (x :: r) = x + sumI r := rfl
    rw [e]
    omega
/-- one resource of an amount -/
structure Prj (p : V3 → Int) : Prop where
  add : ∀ u v, p (vadd u v) = addI (p u) (p v)
  sub : ∀ u v, p (vsub u v) = subI (p u) (p v)
  pos : ∀ u, p (pos0 u) = max (p u) 0
  zero : p V3.zero = 0
theorem prjA : Prj V3.a := ⟨fun _ _ => rfl, fun _ _ => rfl, fun _ => rfl, rfl⟩
theorem prjB : Prj V3.b := ⟨fun _ _ => rfl, fun _ _ => rfl, fun _ => rfl, rfl⟩
theorem prjC : Prj V3.c := ⟨fun _ _ => rfl, fun _ _ => rfl, fun _ => rfl, rfl⟩
section
variable {p : V3 → Int} (hp : Prj p)
include hp
theorem sm_fold (us : List V3) : ∀ (B : List Int) (v : V3), p (B.foldl (smS us) v) = (B.map fun t => p (atV us t)).foldl addI (p v)
  | [], v => rfl
  | t :: r, v => by
    rw [List.foldl_cons, sm_fold us r, List.map_cons, List.foldl_cons]
    congr 1
    exact hp.add _ _
def kE (ns : List Nod) (p : V3 → Int) (us : List V3) (t s : Int) : Int := if s = t then 0 else max (subI (p (vsub (nodAt ns s).n (nodAt ns s).l)) (p (atV us s))) 0
theorem kp_fold (ns : List Nod) (us : List V3) (t : Int) : ∀ (B : List Int) (v : V3), 0 ≤ p v → p v ≤ FarI → p (B.foldl (keptS ns us t) v) = (B.map (kE ns p us t)).foldl addI (p v)
  | [], v, _, _ => rfl
  | s :: r, v, h0, h1 => by
    rw [List.foldl_cons, List.map_cons, List.foldl_cons]
    have e : p (keptS ns us t v s) = addI (p v) (kE ns p us t s) := by
      unfold keptS kE
      by_cases h : s = t
      · rw [if_pos (decide_eq_true h), if_pos h, addI_sat h0 h1 (Int.le_refl _)]
        omega
      · rw [if_neg (by rw [decide_eq_false h]; decide), if_neg h, hp.add, hp.pos, hp.sub]
    have hk : 0 ≤ kE ns p us t s := by unfold kE; split <;> omega
    have hr : 0 ≤ addI (p v) (kE ns p us t s) ∧ addI (p v) (kE ns p us t s) ≤ FarI := by
      rw [addI_sat h0 h1 hk]
      unfold FarI at *
      omega
    rw [kp_fold ns us t r _ (by rw [e]; exact hr.1) (by rw [e]; exact hr.2), e]
end
theorem ofL_len (c : Con) (l : List Rn) : (ofL c l).length = c.ns.length := by unfold ofL allL; simp
/- ---------- free hosts ---------- -/
theorem freeS_get (need : V3) (xs : List V3) (h : Int) (j : Nat) : ((freeS need xs h)[j]?).getD V3.zero = if 0 ≤ h ∧ h.toNat < xs.length ∧ h.toNat = j then vsub ((xs[j]?).getD V3.zero) need else (xs[j]?).getD V3.zero := by
  unfold freeS
  by_cases h1 : 0 ≤ h
  · rw [if_pos (decide_eq_true h1)]
    by_cases h2 : h < (xs.length : Int)
    · rw [if_pos (decide_eq_true h2), List.getElem?_set]
      by_cases h3 : h.toNat = j
      · rw [if_pos h3, if_pos (by omega), if_pos ⟨h1, by omega, h3⟩, h3]
        rfl
      · rw [if_neg h3, if_neg (fun q => h3 q.2.2)]
    · rw [if_neg (by rw [decide_eq_false h2]; decide), if_neg (fun q => by omega)]
  · rw [if_neg (by rw [decide_eq_false h1]; decide), if_neg (fun q => h1 q.1)]
/- ---------- room, groups ---------- -/
end Go.Proofs.YtlalcoklkafnnaaGreat

namespace Go.Proofs.YtlalcoklkafnnaaGreat
open Go Go.AW Go.Proofs
set_option maxRecDepth 10000

/- ---------- within ---------- -/
noncomputable abbrev fWth : Func := Tryz.f72
def wiS (h : Int) (b : Bool) (y : Int) : Bool := if b = true then true else decide (y = h)
def withB (G hs : List Int) : Bool := hs.all fun h => G.foldl (wiS h) false
abbrev wtF (G hs : List Int) (i : Int) : List (Nat × AVal) := [(0, .slice 1 (iv G) .no), (1, .slice 1 (iv hs) .no), (5, ii i)]
abbrev wtI (G hs : List Int) (i : Int) (b : Bool) (k : Int) : List (Nat × AVal) := [(0, .slice 1 (iv G) .no), (1, .slice 1 (iv hs) .no), (5, ii i), (6, .bool b), (7, ii k)]
theorem wth_in (G hs : List Int) (hG : G.length ≤ 1048576) (r : Bool) (i : Nat) (hi : i < 1048576) (h : Int) (get : (iv hs)[i]? = some (ii h)) (Rb : Bool) (hno : Rb = false → r = false) (hto : Rb = true → To E fWth (.pure (.ret (.bool r))) (.head (stk fWth 0) (wtF G hs ((i : Int) + 1)) [])) : ∀ (m k : Nat) (b : Bool), k + m = G.length → (G.drop k).foldl (wiS h) b = Rb →
    To E fWth (.pure (.ret (.bool r))) (.head (stk fWth 1) (wtI G hs (i : Int) b (k : Int)) []) := by
  have hlen : (iv G).length = G.length := by simp
  intro m
  induction m with
  | zero =>
    intro k b hk hb
    rw [List.drop_eq_nil_of_le (by omega)] at hb
    have hb : b = Rb := hb
    subst hb
    cases b with
    | false =>
      have hr := hno rfl
      subst hr
      refine goes hE 100 ?_
      conv => whnf
      refine And.intro (fun h => absurd (of_decide_eq_true h) (by omega)) (fun h => ?_)
      repeat' first | (refine goN hE 100 rfl ?_; conv => whnf) | exact rfl | refine And.intro (fun _ => ?_) (fun h => absurd (show true = false from h) (by decide)) | refine And.intro (fun h => absurd (show false = true from h) (by decide)) (fun _ => ?_) | refine And.intro (fun h => ?_) (fun h => absurd (of_decide_eq_false h) (by omega)) | refine And.intro (fun h => absurd (of_decide_eq_true h) (by omega)) (fun h => ?_) | refine And.intro (fun h => ?_) (fun h => ?_) | refine Or.inl (And.intro (And.intro (by simp only [kmin]; omega) (by simp only [kmax]; omega)) ?_) | refine Exists.intro _ (And.intro rfl ?_) | refine And.intro (by decide) ?_ | refine And.intro (by omega) ?_ | fail
    | true =>
      refine goes hE 100 ?_
      conv => whnf
      refine And.intro (fun h => absurd (of_decide_eq_true h) (by omega)) (fun h => ?_)
      repeat' first | (refine goN hE 100 rfl ?_; conv => whnf) | exact rfl | refine And.intro (fun _ => ?_) (fun h => absurd (show true = false from h) (by decide)) | refine And.intro (fun h => absurd (show false = true from h) (by decide)) (fun _ => ?_) | refine And.intro (fun h => ?_) (fun h => absurd (of_decide_eq_false h) (by omega)) | refine And.intro (fun h => absurd (of_decide_eq_true h) (by omega)) (fun h => ?_) | refine And.intro (fun h => ?_) (fun h => ?_) | refine Or.inl (And.intro (And.intro (by simp only [kmin]; omega) (by simp only [kmax]; omega)) ?_) | refine Exists.intro _ (And.intro rfl ?_) | refine And.intro (by decide) ?_ | refine And.intro (by omega) ?_ | fail
      exact To.cut [0, 1, 5] 0 rfl rfl rfl rfl (hto rfl)
  | succ m ih =>
    intro k b hk hb
    have hlt : k < G.length := by omega
    rw [List.drop_eq_getElem_cons hlt, List.foldl_cons] at hb
    have get2 := iv_get hlt
    generalize G[k] = y at hb get2
    cases b with
    | false =>
      have next := ih (k + 1) (decide (y = h)) (by omega) hb
      refine goes hE 100 ?_
      conv => whnf
      refine And.intro (fun h => ?_) (fun h => absurd (of_decide_eq_false h) (by omega))
      repeat' first | (refine goN hE 100 rfl ?_; conv => whnf) | refine Exists.intro k (And.intro rfl ?_) | refine Exists.intro i (And.intro rfl ?_) | refine Exists.intro _ (And.intro get2 ?_) | refine Exists.intro _ (And.intro get ?_) | exact rfl | refine And.intro (fun _ => ?_) (fun h => absurd (show true = false from h) (by decide)) | refine And.intro (fun h => absurd (show false = true from h) (by decide)) (fun _ => ?_) | refine And.intro (fun h => ?_) (fun h => absurd (of_decide_eq_false h) (by omega)) | refine And.intro (fun h => absurd (of_decide_eq_true h) (by omega)) (fun h => ?_) | refine And.intro (fun h => ?_) (fun h => ?_) | refine Or.inl (And.intro (And.intro (by simp only [kmin]; omega) (by simp only [kmax]; omega)) ?_) | refine Exists.intro _ (And.intro rfl ?_) | refine And.intro (by decide) ?_ | refine And.intro (by omega) ?_ | fail
      exact To.cut [0, 1, 5, 6, 7] 0 rfl rfl rfl rfl next
    | true =>
      have next := ih (k + 1) true (by omega) hb
      refine goes hE 100 ?_
      conv => whnf
      refine And.intro (fun h => ?_) (fun h => absurd (of_decide_eq_false h) (by omega))
      repeat' first | (refine goN hE 100 rfl ?_; conv => whnf) | exact rfl | refine And.intro (fun _ => ?_) (fun h => absurd (show true = false from h) (by decide)) | refine And.intro (fun h => absurd (show false = true from h) (by decide)) (fun _ => ?_) | refine And.intro (fun h => ?_) (fun h => absurd (of_decide_eq_false h) (by omega)) | refine And.intro (fun h => absurd (of_decide_eq_true h) (by omega)) (fun h => ?_) | refine And.intro (fun h => ?_) (fun h => ?_) | refine Or.inl (And.intro (And.intro (by simp only [kmin]; omega) (by simp only [kmax]; omega)) ?_) | refine Exists.intro _ (And.intro rfl ?_) | refine And.intro (by decide) ?_ | refine And.intro (by omega) ?_ | fail
      exact To.cut [0, 1, 5, 6, 7] 0 rfl rfl rfl rfl next
theorem wth_out (G hs : List Int) (hG : G.length ≤ 1048576) (hH : hs.length ≤ 1048576) (r : Bool) : ∀ (m i : Nat), i + m = hs.length → (hs.drop i).all (fun h => G.foldl (wiS h) false) = r →
    To E fWth (.pure (.ret (.bool r))) (.head (stk fWth 0) (wtF G hs (i : Int)) []) := by
  have hlen : (iv hs).length = hs.length := by simp
  intro m
  induction m with
  | zero =>
    intro i hi hr
    rw [List.drop_eq_nil_of_le (by omega)] at hr
    have hr : true = r := hr
    subst hr
    refine goes hE 100 ?_
    conv => whnf
    refine And.intro (fun h => absurd (of_decide_eq_true h) (by omega)) (fun h => ?_)
    repeat' first | (refine goN hE 100 rfl ?_; conv => whnf) | exact rfl | refine And.intro (fun _ => ?_) (fun h => absurd (show true = false from h) (by decide)) | refine And.intro (fun h => absurd (show false = true from h) (by decide)) (fun _ => ?_) | refine And.intro (fun h => ?_) (fun h => absurd (of_decide_eq_false h) (by omega)) | refine And.intro (fun h => absurd (of_decide_eq_true h) (by omega)) (fun h => ?_) | refine And.intro (fun h => ?_) (fun h => ?_) | refine Or.inl (And.intro (And.intro (by simp only [kmin]; omega) (by simp only [kmax]; omega)) ?_) | refine Exists.intro _ (And.intro rfl ?_) | refine And.intro (by decide) ?_ | refine And.intro (by omega) ?_ | fail
  | succ m ih =>
    intro i hi hr
    have hlt : i < hs.length := by omega
    rw [List.drop_eq_getElem_cons hlt, List.all_cons] at hr
    have get := iv_get hlt
    generalize hs[i] = y at hr get
    have next := wth_in G hs hG r i (by omega) y get (G.foldl (wiS y) false) (fun h => by rw [h] at hr; exact hr.symm) (fun h => by rw [h] at hr; exact ih (i + 1) (by omega) hr) G.length 0 false (by omega) rfl
    refine goes hE 100 ?_
    conv => whnf
    refine And.intro (fun h => ?_) (fun h => absurd (of_decide_eq_false h) (by omega))
    repeat' first | (refine goN hE 100 rfl ?_; conv => whnf) | exact rfl | refine And.intro (fun _ => ?_) (fun h => absurd (show true = false from h) (by decide)) | refine And.intro (fun h => absurd (show false = true from h) (by decide)) (fun _ => ?_) | refine And.intro (fun h => ?_) (fun h => absurd (of_decide_eq_false h) (by omega)) | refine And.intro (fun h => absurd (of_decide_eq_true h) (by omega)) (fun h => ?_) | refine And.intro (fun h => ?_) (fun h => ?_) | refine Or.inl (And.intro (And.intro (by simp only [kmin]; omega) (by simp only [kmax]; omega)) ?_) | refine Exists.intro _ (And.intro rfl ?_) | refine And.intro (by decide) ?_ | refine And.intro (by omega) ?_ | fail
    exact To.cut [0, 1, 5, 6, 7] 0 rfl rfl rfl rfl next
theorem with_ok (G hs : List Int) (hG : G.length ≤ 1048576) (hH : hs.length ≤ 1048576) : CallOK Tryz.prog 72 [.slice 1 (iv G) .no, .slice 1 (iv hs) .no] [] (.ret (.bool (withB G hs))) [] := by
  have h := wth_out G hs hG hH (withB G hs) hs.length 0 (by omega) rfl
  refine CallOK.to (E := E) (fn := Tryz.f72) (g := .pure _) (by rfl) (by rfl) (by rfl) (fun _ _ => by rfl) (by decide +kernel) (by rfl) (by rfl) (by rfl) fun _ => ?_
  refine goes hE 100 ?_
  conv => whnf
  exact To.cut [0, 1, 5] 0 rfl rfl rfl rfl h

/- ---------- fits ---------- -/
noncomputable abbrev fFit : Func := Tryz.f73
def cntS (h n y : Int) : Int := if y = h then n + 1 else n
def cntI (h : Int) (l : List Int) : Int := l.foldl (cntS h) 0
def fitH (free : List V3) (need : V3) (hs : List Int) (h : Int) : Bool := if decide (h < 0) = true then false else if decide ((free.length : Int) ≤ h) = true then false else !decide (roomI ((free[h.toNat]?).getD V3.zero) need < cntI h hs)
def fitsB (free : List V3) (need : V3) (hs : List Int) : Bool := hs.all (fitH free need hs)
abbrev ftO (need : V3) : List AObj := [.cells 32 need.cs]
abbrev ftF (free : List V3) (hs : List Int) (i : Int) : List (Nat × AVal) := [(0, .slice 3 (vav free) .no), (2, .slice 1 (iv hs) .no), (4, .ref 0 0), (7, ii i)]
abbrev ftI (free : List V3) (hs : List Int) (i n k : Int) : List (Nat × AVal) := [(0, .slice 3 (vav free) .no), (2, .slice 1 (iv hs) .no), (4, .ref 0 0), (7, ii i), (8, ii n), (9, ii k)]
theorem fit_in (free : List V3) (need : V3) (hv : validB need = true) (hs : List Int) (hH : hs.length ≤ 1048576) (r : Bool) (i : Nat) (hi : i < 1048576) (u0 : Int) (get : (iv hs)[i]? = some (ii u0)) (Rn : Int) (hRn : Rn = cntI u0 hs) (hno : fitH free need hs u0 = false → r = false) (hto : fitH free need hs u0 = true → To E fFit (.pure (.ret (.bool r))) (.head (stk fFit 0) (ftF free hs ((i : Int) + 1)) (ftO need))) : ∀ (m k : Nat) (n : Int), k + m = hs.length → 0 ≤ n → n ≤ k → (hs.drop k).foldl (cntS u0) n = Rn →
    To E fFit (.pure (.ret (.bool r))) (.head (stk fFit 1) (ftI free hs (i : Int) n (k : Int)) (ftO need)) := by
  have hlen : (iv hs).length = hs.length := by simp
  have hfl : (vav free).length = free.length := by simp
  intro m
  induction m with
  | zero =>
    intro k n hk hn0 hnk hn
    rw [List.drop_eq_nil_of_le (by omega)] at hn
    have hn : n = Rn := hn
    subst hn
    unfold fitH at hno hto
    rw [← hRn] at hno hto
    by_cases h1 : u0 < 0
    · rw [decide_eq_true h1] at hno
      have hr := hno rfl
      subst hr
      refine goes hE 100 ?_
      conv => whnf
      refine And.intro (fun h => absurd (of_decide_eq_true h) (by omega)) (fun h => ?_)
      repeat' first | (refine goN hE 100 rfl ?_; conv => whnf) | refine Exists.intro i (And.intro rfl ?_) | refine Exists.intro _ (And.intro get ?_) | exact rfl | refine And.intro (fun _ => ?_) (fun h => absurd (show true = false from h) (by decide)) | refine And.intro (fun h => absurd (show false = true from h) (by decide)) (fun _ => ?_) | refine And.intro (fun h => ?_) (fun h => absurd (of_decide_eq_false h) (by omega)) | refine And.intro (fun h => absurd (of_decide_eq_true h) (by omega)) (fun h => ?_) | refine And.intro (fun h => ?_) (fun h => ?_) | refine Or.inl (And.intro (And.intro (by simp only [kmin]; omega) (by simp only [kmax]; omega)) ?_) | refine Exists.intro _ (And.intro rfl ?_) | refine And.intro (by decide) ?_ | refine And.intro (by omega) ?_ | fail
    · rw [decide_eq_false h1, if_neg (by decide)] at hno hto
      by_cases h2 : (free.length : Int) ≤ u0
      · rw [decide_eq_true h2] at hno
        have hr := hno rfl
        subst hr
        refine goes hE 100 ?_
        conv => whnf
        refine And.intro (fun h => absurd (of_decide_eq_true h) (by omega)) (fun h => ?_)
        repeat' first | (refine goN hE 100 rfl ?_; conv => whnf) | refine Exists.intro i (And.intro rfl ?_) | refine Exists.intro _ (And.intro get ?_) | exact rfl | refine And.intro (fun _ => ?_) (fun h => absurd (show true = false from h) (by decide)) | refine And.intro (fun h => absurd (show false = true from h) (by decide)) (fun _ => ?_) | refine And.intro (fun h => ?_) (fun h => absurd (of_decide_eq_false h) (by omega)) | refine And.intro (fun h => absurd (of_decide_eq_true h) (by omega)) (fun h => ?_) | refine And.intro (fun h => ?_) (fun h => ?_) | refine Or.inl (And.intro (And.intro (by simp only [kmin]; omega) (by simp only [kmax]; omega)) ?_) | refine Exists.intro _ (And.intro rfl ?_) | refine And.intro (by decide) ?_ | refine And.intro (by omega) ?_ | fail
      · rw [decide_eq_false h2, if_neg (by decide)] at hno hto
        have hl2 : u0.toNat < free.length := by omega
        have hn : u0 = (u0.toNat : Int) := by omega
        rw [List.getElem?_eq_getElem hl2, show ((some free[u0.toNat]).getD V3.zero) = free[u0.toNat] from rfl] at hno hto
        have gv : (vav free)[u0.toNat]? = some free[u0.toNat].av := vav_get hl2
        have hroom := rroom_ok free[u0.toNat] need hv
        generalize roomI free[u0.toNat] need = q at hroom hno hto
        generalize free[u0.toNat] = fv at gv hroom
        by_cases h3 : q < n
        · rw [decide_eq_true h3] at hno
          have hr := hno rfl
          subst hr
          refine goes hE 100 ?_
          conv => whnf
          refine And.intro (fun h => absurd (of_decide_eq_true h) (by omega)) (fun h => ?_)
          repeat' first | (refine goN hE 100 rfl ?_; conv => whnf) | refine Exists.intro i (And.intro rfl ?_) | refine Exists.intro _ (And.intro get ?_) | refine Exists.intro u0.toNat (And.intro hn ?_) | refine Exists.intro _ (And.intro gv ?_) | refine .pure _ [] hroom ?_ | exact rfl | refine And.intro (fun _ => ?_) (fun h => absurd (show true = false from h) (by decide)) | refine And.intro (fun h => absurd (show false = true from h) (by decide)) (fun _ => ?_) | refine And.intro (fun h => ?_) (fun h => absurd (of_decide_eq_false h) (by omega)) | refine And.intro (fun h => absurd (of_decide_eq_true h) (by omega)) (fun h => ?_) | refine And.intro (fun h => ?_) (fun h => ?_) | refine Or.inl (And.intro (And.intro (by simp only [kmin]; omega) (by simp only [kmax]; omega)) ?_) | refine Exists.intro _ (And.intro rfl ?_) | refine And.intro (by decide) ?_ | refine And.intro (by omega) ?_ | fail
        · rw [decide_eq_false h3] at hto
          have next := hto rfl
          refine goes hE 100 ?_
          conv => whnf
          refine And.intro (fun h => absurd (of_decide_eq_true h) (by omega)) (fun h => ?_)
          repeat' first | (refine goN hE 100 rfl ?_; conv => whnf) | refine Exists.intro i (And.intro rfl ?_) | refine Exists.intro _ (And.intro get ?_) | refine Exists.intro u0.toNat (And.intro hn ?_) | refine Exists.intro _ (And.intro gv ?_) | refine .pure _ [] hroom ?_ | exact rfl | refine And.intro (fun _ => ?_) (fun h => absurd (show true = false from h) (by decide)) | refine And.intro (fun h => absurd (show false = true from h) (by decide)) (fun _ => ?_) | refine And.intro (fun h => ?_) (fun h => absurd (of_decide_eq_false h) (by omega)) | refine And.intro (fun h => absurd (of_decide_eq_true h) (by omega)) (fun h => ?_) | refine And.intro (fun h => ?_) (fun h => ?_) | refine Or.inl (And.intro (And.intro (by simp only [kmin]; omega) (by simp only [kmax]; omega)) ?_) | refine Exists.intro _ (And.intro rfl ?_) | refine And.intro (by decide) ?_ | refine And.intro (by omega) ?_ | fail
          exact To.cut [0, 2, 4, 7] 1 rfl rfl rfl rfl next
  | succ m ih =>
    intro k n hk hn0 hnk hn
    have hlt : k < hs.length := by omega
    rw [List.drop_eq_getElem_cons hlt, List.foldl_cons] at hn
    have get2 := iv_get hlt
    generalize hs[k] = y at hn get2
    unfold cntS at hn
    by_cases hy : y = u0
    · rw [if_pos hy] at hn
      have next := ih (k + 1) (n + 1) (by omega) (by omega) (by omega) hn
      refine goes hE 100 ?_
      conv => whnf
      refine And.intro (fun h => ?_) (fun h => absurd (of_decide_eq_false h) (by omega))
      repeat' first | (refine goN hE 100 rfl ?_; conv => whnf) | refine Exists.intro k (And.intro rfl ?_) | refine Exists.intro i (And.intro rfl ?_) | refine Exists.intro _ (And.intro get2 ?_) | refine Exists.intro _ (And.intro get ?_) | exact rfl | refine And.intro (fun _ => ?_) (fun h => absurd (show true = false from h) (by decide)) | refine And.intro (fun h => absurd (show false = true from h) (by decide)) (fun _ => ?_) | refine And.intro (fun h => ?_) (fun h => absurd (of_decide_eq_false h) (by omega)) | refine And.intro (fun h => absurd (of_decide_eq_true h) (by omega)) (fun h => ?_) | refine And.intro (fun h => ?_) (fun h => ?_) | refine Or.inl (And.intro (And.intro (by simp only [kmin]; omega) (by simp only [kmax]; omega)) ?_) | refine Exists.intro _ (And.intro rfl ?_) | refine And.intro (by decide) ?_ | refine And.intro (by omega) ?_ | fail
      exact To.cut [0, 2, 4, 7, 8, 9] 1 rfl rfl rfl rfl next
    · rw [if_neg hy] at hn
      have next := ih (k + 1) n (by omega) (by omega) (by omega) hn
      refine goes hE 100 ?_
      conv => whnf
      refine And.intro (fun h => ?_) (fun h => absurd (of_decide_eq_false h) (by omega))
      repeat' first | (refine goN hE 100 rfl ?_; conv => whnf) | refine Exists.intro k (And.intro rfl ?_) | refine Exists.intro i (And.intro rfl ?_) | refine Exists.intro _ (And.intro get2 ?_) | refine Exists.intro _ (And.intro get ?_) | exact rfl | refine And.intro (fun _ => ?_) (fun h => absurd (show true = false from h) (by decide)) | refine And.intro (fun h => absurd (show false = true from h) (by decide)) (fun _ => ?_) | refine And.intro (fun h => ?_) (fun h => absurd (of_decide_eq_false h) (by omega)) | refine And.intro (fun h => absurd (of_decide_eq_true h) (by omega)) (fun h => ?_) | refine And.intro (fun h => ?_) (fun h => ?_) | refine Or.inl (And.intro (And.intro (by simp only [kmin]; omega) (by simp only [kmax]; omega)) ?_) | refine Exists.intro _ (And.intro rfl ?_) | refine And.intro (by decide) ?_ | refine And.intro (by omega) ?_ | fail
      exact To.cut [0, 2, 4, 7, 8, 9] 1 rfl rfl rfl rfl next
theorem fit_out (free : List V3) (need : V3) (hv : validB need = true) (hs : List Int) (hH : hs.length ≤ 1048576) (r : Bool) : ∀ (m i : Nat), i + m = hs.length → (hs.drop i).all (fitH free need hs) = r →
    To E fFit (.pure (.ret (.bool r))) (.head (stk fFit 0) (ftF free hs (i : Int)) (ftO need)) := by
  have hlen : (iv hs).length = hs.length := by simp
  intro m
  induction m with
  | zero =>
    intro i hi hr
    rw [List.drop_eq_nil_of_le (by omega)] at hr
    have hr : true = r := hr
    subst hr
    refine goes hE 100 ?_
    conv => whnf
    refine And.intro (fun h => absurd (of_decide_eq_true h) (by omega)) (fun h => ?_)
    repeat' first | (refine goN hE 100 rfl ?_; conv => whnf) | exact rfl | refine And.intro (fun _ => ?_) (fun h => absurd (show true = false from h) (by decide)) | refine And.intro (fun h => absurd (show false = true from h) (by decide)) (fun _ => ?_) | refine And.intro (fun h => ?_) (fun h => absurd (of_decide_eq_false h) (by omega)) | refine And.intro (fun h => absurd (of_decide_eq_true h) (by omega)) (fun h => ?_) | refine And.intro (fun h => ?_) (fun h => ?_) | refine Or.inl (And.intro (And.intro (by simp only [kmin]; omega) (by simp only [kmax]; omega)) ?_) | refine Exists.intro _ (And.intro rfl ?_) | refine And.intro (by decide) ?_ | refine And.intro (by omega) ?_ | fail
  | succ m ih =>
    intro i hi hr
    have hlt : i < hs.length := by omega
    rw [List.drop_eq_getElem_cons hlt, List.all_cons] at hr
    have get := iv_get hlt
    generalize hs[i] = y at hr get
    have next := fit_in free need hv hs hH r i (by omega) y get _ rfl (fun h => by rw [h] at hr; exact hr.symm) (fun h => by rw [h] at hr; exact ih (i + 1) (by omega) hr) hs.length 0 0 (by omega) (by omega) (by omega) rfl
    refine goes hE 100 ?_
    conv => whnf
    refine And.intro (fun h => ?_) (fun h => absurd (of_decide_eq_false h) (by omega))
    repeat' first | (refine goN hE 100 rfl ?_; conv => whnf) | exact rfl | refine And.intro (fun _ => ?_) (fun h => absurd (show true = false from h) (by decide)) | refine And.intro (fun h => absurd (show false = true from h) (by decide)) (fun _ => ?_) | refine And.intro (fun h => ?_) (fun h => absurd (of_decide_eq_false h) (by omega)) | refine And.intro (fun h => absurd (of_decide_eq_true h) (by omega)) (fun h => ?_) | refine And.intro (fun h => ?_) (fun h => ?_) | refine Or.inl (And.intro (And.intro (by simp only [kmin]; omega) (by simp only [kmax]; omega)) ?_) | refine Exists.intro _ (And.intro rfl ?_) | refine And.intro (by decide) ?_ | refine And.intro (by omega) ?_ | fail
    exact To.cut [0, 2, 4, 7, 8, 9] 1 rfl rfl rfl rfl next
theorem fit_ok (free : List V3) (need : V3) (hv : validB need = true) (hs : List Int) (hH : hs.length ≤ 1048576) : CallOK Tryz.prog 73 [.slice 3 (vav free) .no, need.av, .slice 1 (iv hs) .no] [] (.ret (.bool (fitsB free need hs))) [] := by
  have h := fit_out free need hv hs hH (fitsB free need hs) hs.length 0 (by omega) rfl
  refine CallOK.to (E := E) (fn := Tryz.f73) (g := .pure _) (by rfl) (by rfl) (by rfl) (fun _ _ => by rfl) (by decide +kernel) (by rfl) (by rfl) (by rfl) fun _ => ?_
  refine goes hE 100 ?_
  conv => whnf
  exact To.cut [0, 2, 4, 7] 1 rfl rfl rfl rfl h

/- ---------- Check ---------- -/
noncomputable abbrev fChk : Func := Tryz.f32
def chkG (free : List V3) (need : V3) (hs : List Int) (G : List Int) : Bool := withB G hs && fitsB free need hs
def chkB (c : Con) (free : List V3) (g : Gan) (hs : List Int) : Bool := if ((hs.length : Int) = g.pods) then (gpL c g.lev).any (chkG free g.need hs) else false
abbrev ckO (c : Con) (g : Gan) : List AObj := [.cells 25 c.cs, .cells 34 g.cs]
abbrev ckF (free : List V3) (hs : List Int) (gs : List (List Int)) (i : Int) : List (Nat × AVal) := [(1, .slice 3 (vav free) .no), (3, .slice 1 (iv hs) .no), (6, .ref 1 0), (9, .slice 1 (gav gs) .no), (10, ii i)]
theorem chk_loop (c : Con) (free : List V3) (g : Gan) (hv : validB g.need = true) (hs : List Int) (hH : hs.length ≤ 1048576) (gs : List (List Int)) (hgl : gs.length ≤ 1048576) (hgs : ∀ x ∈ gs, x.length ≤ 1048576) (r : Bool) : ∀ (m i : Nat), i + m = gs.length → (gs.drop i).any (chkG free g.need hs) = r →
    To E fChk (.pure (.ret (.bool r))) (.head (stk fChk 0) (ckF free hs gs (i : Int)) (ckO c g)) := by
  have hlen : (gav gs).length = gs.length := by simp
  have hf := fit_ok free g.need hv hs hH
  intro m
  induction m with
  | zero =>
    intro i hi hr
    rw [List.drop_eq_nil_of_le (by omega)] at hr
    have hr : false = r := hr
    subst hr
    refine goes hE 100 ?_
    conv => whnf
    refine And.intro (fun h => absurd (of_decide_eq_true h) (by omega)) (fun h => ?_)
    repeat' first | (refine goN hE 100 rfl ?_; conv => whnf) | exact rfl | refine And.intro (fun _ => ?_) (fun h => absurd (show true = false from h) (by decide)) | refine And.intro (fun h => absurd (show false = true from h) (by decide)) (fun _ => ?_) | refine And.intro (fun h => ?_) (fun h => absurd (of_decide_eq_false h) (by omega)) | refine And.intro (fun h => absurd (of_decide_eq_true h) (by omega)) (fun h => ?_) | refine And.intro (fun h => ?_) (fun h => ?_) | refine Or.inl (And.intro (And.intro (by simp only [kmin]; omega) (by simp only [kmax]; omega)) ?_) | refine Exists.intro _ (And.intro rfl ?_) | refine And.intro (by decide) ?_ | refine And.intro (by omega) ?_ | fail
  | succ m ih =>
    intro i hi hr
    have hlt : i < gs.length := by omega
    rw [List.drop_eq_getElem_cons hlt, List.any_cons] at hr
    have get := gav_get hlt
    have hw := with_ok gs[i] hs (hgs _ (List.getElem_mem hlt)) hH
    generalize gs[i] = G at hr get hw
    rw [show chkG free g.need hs G = (withB G hs && fitsB free g.need hs) from rfl] at hr
    generalize withB G hs = bw at hw hr
    have ih := ih (i + 1) (by omega)
    generalize fitsB free g.need hs = bf at hf hr
    cases bw with
    | false =>
      have next := ih hr
      refine goes hE 100 ?_
      conv => whnf
      refine And.intro (fun h => ?_) (fun h => absurd (of_decide_eq_false h) (by omega))
      repeat' first | (refine goN hE 100 rfl ?_; conv => whnf) | refine Exists.intro i (And.intro rfl ?_) | refine Exists.intro _ (And.intro get ?_) | refine .pure _ [] hw ?_ | refine .pure _ [] hf ?_ | exact rfl | refine And.intro (fun _ => ?_) (fun h => absurd (show true = false from h) (by decide)) | refine And.intro (fun h => absurd (show false = true from h) (by decide)) (fun _ => ?_) | refine And.intro (fun h => ?_) (fun h => absurd (of_decide_eq_false h) (by omega)) | refine And.intro (fun h => absurd (of_decide_eq_true h) (by omega)) (fun h => ?_) | refine And.intro (fun h => ?_) (fun h => ?_) | refine Or.inl (And.intro (And.intro (by simp only [kmin]; omega) (by simp only [kmax]; omega)) ?_) | refine Exists.intro _ (And.intro rfl ?_) | refine And.intro (by decide) ?_ | refine And.intro (by omega) ?_ | fail
      exact To.cut [1, 3, 6, 9, 10] 2 rfl rfl rfl rfl next
    | true =>
      cases bf with
      | false =>
        have next := ih hr
        refine goes hE 100 ?_
        conv => whnf
        refine And.intro (fun h => ?_) (fun h => absurd (of_decide_eq_false h) (by omega))
        repeat' first | (refine goN hE 100 rfl ?_; conv => whnf) | refine Exists.intro i (And.intro rfl ?_) | refine Exists.intro _ (And.intro get ?_) | refine .pure _ [] hw ?_ | refine .pure _ [] hf ?_ | exact rfl | refine And.intro (fun _ => ?_) (fun h => absurd (show true = false from h) (by decide)) | refine And.intro (fun h => absurd (show false = true from h) (by decide)) (fun _ => ?_) | refine And.intro (fun h => ?_) (fun h => absurd (of_decide_eq_false h) (by omega)) | refine And.intro (fun h => absurd (of_decide_eq_true h) (by omega)) (fun h => ?_) | refine And.intro (fun h => ?_) (fun h => ?_) | refine Or.inl (And.intro (And.intro (by simp only [kmin]; omega) (by simp only [kmax]; omega)) ?_) | refine Exists.intro _ (And.intro rfl ?_) | refine And.intro (by decide) ?_ | refine And.intro (by omega) ?_ | fail
        exact To.cut [1, 3, 6, 9, 10] 2 rfl rfl rfl rfl next
      | true =>
        have hr : true = r := hr
        subst hr
        refine goes hE 100 ?_
        conv => whnf
        refine And.intro (fun h => ?_) (fun h => absurd (of_decide_eq_false h) (by omega))
        repeat' first | (refine goN hE 100 rfl ?_; conv => whnf) | refine Exists.intro i (And.intro rfl ?_) | refine Exists.intro _ (And.intro get ?_) | refine .pure _ [] hw ?_ | refine .pure _ [] hf ?_ | exact rfl | refine And.intro (fun _ => ?_) (fun h => absurd (show true = false from h) (by decide)) | refine And.intro (fun h => absurd (show false = true from h) (by decide)) (fun _ => ?_) | refine And.intro (fun h => ?_) (fun h => absurd (of_decide_eq_false h) (by omega)) | refine And.intro (fun h => absurd (of_decide_eq_true h) (by omega)) (fun h => ?_) | refine And.intro (fun h => ?_) (fun h => ?_) | refine Or.inl (And.intro (And.intro (by simp only [kmin]; omega) (by simp only [kmax]; omega)) ?_) | refine Exists.intro _ (And.intro rfl ?_) | refine And.intro (by decide) ?_ | refine And.intro (by omega) ?_ | fail
theorem chk_ok (c : Con) (hc : c.sm) (free : List V3) (g : Gan) (hv : validB g.need = true) (hs : List Int) (hH : hs.length ≤ 1048576) : CallOK Tryz.prog 32 [c.av, .slice 3 (vav free) .no, g.av, .slice 1 (iv hs) .no] [] (.ret (.bool (chkB c free g hs))) [] := by
  have hok := gpL_ok c g.lev
  have hch := hc.hs
  have hlen : (iv hs).length = hs.length := by simp
  have hgr := rgroups_ok c hc g.lev
  have hlp := chk_loop c free g hv hs hH (gpL c g.lev) (by omega) (fun x hx => by have := (hok.2 x hx).2.1; omega) ((gpL c g.lev).any (chkG free g.need hs)) (gpL c g.lev).length 0 (by omega) rfl
  unfold chkB
  by_cases h1 : (hs.length : Int) = g.pods
  · rw [if_pos h1]
    generalize (gpL c g.lev).any (chkG free g.need hs) = r at hlp
    have hk : ((((iv hs).length : Nat) : Int) != g.pods) = false := by rw [hlen]; simp [h1]
    refine CallOK.to (E := E) (fn := Tryz.f32) (g := .pure _) (by rfl) (by rfl) (by rfl) (fun _ _ => by rfl) (by decide +kernel) (by rfl) (by rfl) (by rfl) fun _ => ?_
    refine goes hE 100 ?_
    conv => whnf
    repeat' first | (refine goN hE 100 rfl ?_; conv => whnf) | refine .pure _ [] hgr ?_ | refine And.intro (fun h => absurd h (by rw [hk]; decide)) (fun h => ?_) | exact rfl | refine And.intro (fun _ => ?_) (fun h => absurd (show true = false from h) (by decide)) | refine And.intro (fun h => absurd (show false = true from h) (by decide)) (fun _ => ?_) | refine And.intro (fun h => ?_) (fun h => absurd (of_decide_eq_false h) (by omega)) | refine And.intro (fun h => absurd (of_decide_eq_true h) (by omega)) (fun h => ?_) | refine And.intro (fun h => ?_) (fun h => ?_) | refine Or.inl (And.intro (And.intro (by simp only [kmin]; omega) (by simp only [kmax]; omega)) ?_) | refine Exists.intro _ (And.intro rfl ?_) | refine And.intro (by decide) ?_ | refine And.intro (by omega) ?_ | fail
    exact To.cut [1, 3, 6, 9, 10] 2 rfl rfl rfl rfl hlp
  · rw [if_neg h1]
    refine CallOK.to (E := E) (fn := Tryz.f32) (g := .pure _) (by rfl) (by rfl) (by rfl) (fun _ _ => by rfl) (by decide +kernel) (by rfl) (by rfl) (by rfl) fun _ => ?_
    have hk : ((((iv hs).length : Nat) : Int) != g.pods) = true := by rw [hlen]; simp [h1]
    refine goes hE 100 ?_
    conv => whnf
    repeat' first | (refine goN hE 100 rfl ?_; conv => whnf) | refine .pure _ [] hgr ?_ | refine And.intro (fun h => ?_) (fun h => absurd h (by rw [hk]; decide)) | exact rfl | refine And.intro (fun _ => ?_) (fun h => absurd (show true = false from h) (by decide)) | refine And.intro (fun h => absurd (show false = true from h) (by decide)) (fun _ => ?_) | refine And.intro (fun h => ?_) (fun h => absurd (of_decide_eq_false h) (by omega)) | refine And.intro (fun h => absurd (of_decide_eq_true h) (by omega)) (fun h => ?_) | refine And.intro (fun h => ?_) (fun h => ?_) | refine Or.inl (And.intro (And.intro (by simp only [kmin]; omega) (by simp only [kmax]; omega)) ?_) | refine Exists.intro _ (And.intro rfl ?_) | refine And.intro (by decide) ?_ | refine And.intro (by omega) ?_ | fail
end Go.Proofs.YtlalcoklkafnnaaGreat

namespace Go.Proofs.YtlalcoklkafnnaaGreat
open Go Go.AW Go.Proofs
set_option maxRecDepth 10000

/- ---------- groups ---------- -/
theorem al_iff {c : Con} {lv a b : Int} (h0 : 0 ≤ lv) (h3 : lv ≤ 3) : alB c lv a b = true ↔ keyG c lv a = keyG c lv b := by
  rw [al_key c lv a b h0 h3]
  simp
theorem rf_key {c : Con} {lv a b : Int} (h0 : 0 ≤ lv) (h3 : lv ≤ 3) (h : keyG c lv a = keyG c lv b) : ∀ (s : List (List Int)) (n : Nat), rfindG c lv a s n = rfindG c lv b s n
  | [], n => rfl
  | g :: r, n => by
    unfold rfindG
    rw [rf_key h0 h3 h r (n + 1), al_key c lv _ a h0 h3, al_key c lv _ b h0 h3, h]
theorem rf_set (c : Con) (lv i x : Int) : ∀ (s : List (List Int)) (k n : Nat), (∀ g ∈ s, g ≠ []) → rfindG c lv i (s.set k ((s[k]?).getD [] ++ [x])) n = rfindG c lv i s n
  | [], k, n, _ => by simp
  | g :: r, 0, n, h => by
    have hg := h g (List.mem_cons_self ..)
    cases g with
    | nil => exact absurd rfl hg
    | cons a t => rfl
  | g :: r, k + 1, n, h => by
    have ih := rf_set c lv i x r k (n + 1) (fun g hg => h g (List.mem_cons_of_mem _ hg))
    show rfindG c lv i (g :: r.set k ((r[k]?).getD [] ++ [x])) n = _
    unfold rfindG
    rw [ih]
theorem rf_snoc (c : Con) (lv i : Int) (g : List Int) : ∀ (s : List (List Int)) (n : Nat), rfindG c lv i (s ++ [g]) n = match rfindG c lv i s n with
      | some k => some k
      | none => if alB c lv (g.headD 0) i = true then some (n + s.length) else none
  | [], n => by simp [rfindG]
  | q :: r, n => by
    show rfindG c lv i (q :: (r ++ [g])) n = _
    unfold rfindG
    by_cases h : alB c lv (q.headD 0) i = true
    · rw [if_pos h, if_pos h]
    · rw [if_neg h, if_neg h, rf_snoc c lv i g r (n + 1)]
      rw [show n + (q :: r).length = n + 1 + r.length from by simp; omega]
theorem rf_some {c : Con} {lv i : Int} : ∀ {s : List (List Int)} {n k : Nat}, rfindG c lv i s n = some k → n ≤ k ∧ ∃ G, s[k - n]? = some G ∧ alB c lv (G.headD 0) i = true
  | [], n, k, h => by cases h
  | g :: r, n, k, h => by
    unfold rfindG at h
    by_cases h1 : alB c lv (g.headD 0) i = true
    · rw [if_pos h1] at h
      cases h
      exact ⟨Nat.le_refl _, g, by simp, h1⟩
    · rw [if_neg h1] at h
      obtain ⟨h2, G, h3, h4⟩ := rf_some h
      refine ⟨by omega, G, ?_, h4⟩
      rw [show k - n = (k - (n + 1)) + 1 from by omega]
      exact h3
def GrpI (c : Con) (lv : Int) (m : Nat) (s : List (List Int)) : Prop :=
  (∀ a : Nat, a < m → ∃ k G, rfindG c lv (a : Int) s 0 = some k ∧ s[k]? = some G ∧ (a : Int) ∈ G) ∧ ∀ G ∈ s, G ≠ [] ∧ G.Nodup ∧ ∀ x ∈ G, 0 ≤ x ∧ x < (m : Int) ∧ alB c lv (G.headD 0) x = true
theorem grp_step {c : Con} {lv : Int} (h0 : 0 ≤ lv) (h3 : lv ≤ 3) {m : Nat} {s : List (List Int)} (h : GrpI c lv m s) : GrpI c lv (m + 1) (rgS c lv s m) := by
  obtain ⟨h1, h2⟩ := h
  have hne : ∀ g ∈ s, g ≠ [] := fun g hg => (h2 g hg).1
  unfold rgS
  cases hq : rfindG c lv (m : Int) s 0 with
  | some k =>
    obtain ⟨_, G0, hG0, hal⟩ := rf_some hq
    rw [Nat.sub_zero] at hG0
    have hk : k < s.length := (List.getElem?_eq_some_iff.1 hG0).1
    have hmem : G0 ∈ s := List.mem_of_getElem? hG0
    refine ⟨fun a ha => ?_, fun G hG => ?_⟩
    · show ∃ k' G, rfindG c lv (a : Int) (s.set k ((s[k]?).getD [] ++ [(m : Int)])) 0 = some k' ∧ (s.set k ((s[k]?).getD [] ++ [(m : Int)]))[k']? = some G ∧ (a : Int) ∈ G
      rw [rf_set c lv (a : Int) (m : Int) s k 0 hne, hG0]
      by_cases ham : a = m
      · subst ham
        refine ⟨k, _, hq, by rw [List.getElem?_set_self hk], by simp⟩
      · obtain ⟨k', G', e1, e2, e3⟩ := h1 a (by omega)
        by_cases hkk : k = k'
        · subst hkk
          rw [hG0] at e2
          cases e2
          exact ⟨k, G0 ++ [(m : Int)], e1, by rw [List.getElem?_set_self hk]; rfl, List.mem_append.2 (.inl e3)⟩
        · exact ⟨k', G', e1, by rw [List.getElem?_set_ne hkk]; exact e2, e3⟩
    · have hG : G ∈ s.set k ((s[k]?).getD [] ++ [(m : Int)]) := hG
      rw [hG0] at hG
      have hG : G ∈ s.set k (G0 ++ [(m : Int)]) := hG
      rcases List.mem_or_eq_of_mem_set hG with hG | rfl
      · obtain ⟨a1, a2, a3⟩ := h2 G hG
        exact ⟨a1, a2, fun x hx => ⟨(a3 x hx).1, by have := (a3 x hx).2.1; omega, (a3 x hx).2.2⟩⟩
      · obtain ⟨a1, a2, a3⟩ := h2 G0 hmem
        have hhd : (G0 ++ [(m : Int)]).headD 0 = G0.headD 0 := by
          cases G0 with
          | nil => exact absurd rfl a1
          | cons y t => rfl
        refine ⟨by simp, ?_, fun x hx => ?_⟩
        · rw [List.nodup_append]
          refine ⟨a2, by simp, fun x hx y hy => ?_⟩
          simp at hy
          subst hy
          have := (a3 x hx).2.1
          omega
        · rw [hhd]
          rcases List.mem_append.1 hx with hx | hx
          · exact ⟨(a3 x hx).1, by have := (a3 x hx).2.1; omega, (a3 x hx).2.2⟩
          · simp at hx
            subst hx
            exact ⟨by omega, by omega, hal⟩
  | none =>
    refine ⟨fun a ha => ?_, fun G hG => ?_⟩
    · show ∃ k' G, rfindG c lv (a : Int) (s ++ [[(m : Int)]]) 0 = some k' ∧ (s ++ [[(m : Int)]])[k']? = some G ∧ (a : Int) ∈ G
      rw [rf_snoc]
      by_cases ham : a = m
      · subst ham
        rw [hq]
        refine ⟨0 + s.length, [(a : Int)], if_pos ((al_iff h0 h3).2 rfl), by simp, by simp⟩
      · obtain ⟨k', G', e1, e2, e3⟩ := h1 a (by omega)
        rw [e1]
        refine ⟨k', G', rfl, ?_, e3⟩
        rw [List.getElem?_append_left (List.getElem?_eq_some_iff.1 e2).1]
        exact e2
    · have hG : G ∈ s ++ [[(m : Int)]] := hG
      rcases List.mem_append.1 hG with hG | hG
      · obtain ⟨a1, a2, a3⟩ := h2 G hG
        exact ⟨a1, a2, fun x hx => ⟨(a3 x hx).1, by have := (a3 x hx).2.1; omega, (a3 x hx).2.2⟩⟩
      · simp at hG
        subst hG
        refine ⟨by simp, by simp, fun x hx => ?_⟩
        simp at hx
        subst hx
        exact ⟨by omega, by omega, (al_iff h0 h3).2 rfl⟩
theorem grp_all {c : Con} {lv : Int} (h0 : 0 ≤ lv) (h3 : lv ≤ 3) : GrpI c lv c.hs.length (gpL c lv) := by
  rw [← rgL_eq]
  unfold rgL
  rw [if_neg (by simp; omega), if_neg (by simp; omega)]
  have key : ∀ m : Nat, GrpI c lv m ((List.range m).foldl (rgS c lv) []) := fun m => by
    induction m with
    | zero => exact ⟨fun a ha => by omega, fun G hG => by cases hG⟩
    | succ m ih =>
      rw [List.range_succ, List.foldl_append]
      exact grp_step h0 h3 ih
  exact key _
theorem key_up {c : Con} {lv lw a b : Int} (h : lv ≤ lw) (hk : keyG c lv a = keyG c lv b) : keyG c lw a = keyG c lw b := by
  unfold keyG ofK at *
  simp only [List.cons.injEq, and_true] at hk ⊢
  obtain ⟨k1, k2, k3, k4⟩ := hk
  refine ⟨k1, ?_, ?_, ?_⟩
  · by_cases h2 : 2 < lw
    · simp [h2]
    · have : ¬ 2 < lv := by omega
      simpa [h2, this] using k2
  · by_cases h2 : 1 < lw
    · simp [h2]
    · have : ¬ 1 < lv := by omega
      simpa [h2, this] using k3
  · by_cases h2 : 0 < lw
    · simp [h2]
    · have : ¬ 0 < lv := by omega
      simpa [h2, this] using k4
/-- a group lies in one of each wider level -/
theorem grp_in {c : Con} {lv lw : Int} (h0 : 0 ≤ lv) (h : lv ≤ lw) (h3 : lw ≤ 3) {gr : List Int} (hg : gr ∈ gpL c lv) : gr.Nodup ∧ ∃ G ∈ gpL c lw, ∀ x ∈ gr, x ∈ G := by
  obtain ⟨_, a2⟩ := grp_all (c := c) h0 (Int.le_trans h h3)
  obtain ⟨b1, _⟩ := grp_all (c := c) (Int.le_trans h0 h) h3
  obtain ⟨c1, c2, c3⟩ := a2 gr hg
  refine ⟨c2, ?_⟩
  have hh : gr.headD 0 ∈ gr := by
    cases gr with
    | nil => exact absurd rfl c1
    | cons y t => exact List.mem_cons_self ..
  obtain ⟨d1, d2, _⟩ := c3 _ hh
  have hn : (gr.headD 0) = ((gr.headD 0).toNat : Int) := by omega
  obtain ⟨k, G, e1, e2, _⟩ := b1 (gr.headD 0).toNat (by omega)
  rw [← hn] at e1
  refine ⟨G, List.mem_of_getElem? e2, fun x hx => ?_⟩
  obtain ⟨f1, f2, f3⟩ := c3 x hx
  have hk := key_up h ((al_iff h0 (Int.le_trans h h3)).1 f3)
  rw [rf_key (Int.le_trans h0 h) h3 hk] at e1
  have hxn : x = (x.toNat : Int) := by omega
  obtain ⟨k', G', g1, g2, g3⟩ := b1 x.toNat (by omega)
  rw [← hxn] at g1 g3
  rw [g1] at e1
  cases e1
  rw [g2] at e2
  cases e2
  exact g3

/- ---------- the hosts of a group ---------- -/
theorem inL_in {free : List V3} {g : Gan} : ∀ (gr out : List Int) (h : Int), h ∈ gr.foldl (inS free g) out → h ∈ out ∨ (h ∈ gr ∧ 0 ≤ h ∧ h < (free.length : Int))
  | [], out, h, hh => .inl hh
  | u :: r, out, h, hh => by
    rw [List.foldl_cons] at hh
    rcases inL_in r _ h hh with hh | hh
    · unfold inS at hh
      by_cases h1 : u < 0
      · rw [if_pos (decide_eq_true h1)] at hh
        exact .inl hh
      · rw [if_neg (by rw [decide_eq_false h1]; decide)] at hh
        by_cases h2 : (free.length : Int) ≤ u
        · rw [if_pos (decide_eq_true h2)] at hh
          exact .inl hh
        · rw [if_neg (by rw [decide_eq_false h2]; decide)] at hh
          rcases List.mem_append.1 hh with hh | hh
          · exact .inl hh
          · have := (List.mem_replicate.1 hh).2
            subst this
            exact .inr ⟨List.mem_cons_self .., by omega, by omega⟩
    · exact .inr ⟨List.mem_cons_of_mem _ hh.1, hh.2⟩
def rmN (free : List V3) (g : Gan) (h : Int) : Nat := (max (roomI ((free[h.toNat]?).getD V3.zero) g.need) 0).toNat
theorem inS_cnt (free : List V3) (g : Gan) (out : List Int) (u h : Int) : (inS free g out u).count h ≤ out.count h + (if u = h then rmN free g h else 0) := by
  unfold inS
  split
  · omega
  · split
    · omega
    · rw [List.count_append, List.count_replicate]
      by_cases hu : u = h
      · subst hu
        rw [if_pos rfl]
        simp only [beq_self_eq_true, if_true]
        unfold rmN inN
        omega
      · rw [if_neg hu]
        simp [hu]
theorem inL_cnt (free : List V3) (g : Gan) (h : Int) : ∀ (gr out : List Int), gr.Nodup → (gr.foldl (inS free g) out).count h ≤ out.count h + (if h ∈ gr then rmN free g h else 0)
  | [], out, _ => by simp
  | u :: r, out, hn => by
    rw [List.foldl_cons]
    have h1 := inL_cnt free g h r (inS free g out u) (List.nodup_cons.1 hn).2
    have h2 := inS_cnt free g out u h
    by_cases hu : u = h
    · subst hu
      rw [if_neg (List.nodup_cons.1 hn).1] at h1
      rw [if_pos rfl] at h2
      rw [if_pos (List.mem_cons_self ..)]
      omega
    · rw [if_neg hu] at h2
      by_cases hm : h ∈ r
      · rw [if_pos hm] at h1
        rw [if_pos (List.mem_cons_of_mem _ hm)]
        omega
      · rw [if_neg hm] at h1
        omega
theorem cnt_eq (h : Int) : ∀ (l : List Int) (n : Int), l.foldl (cntS h) n = n + (l.count h : Nat)
  | [], n => by simp
  | y :: r, n => by
    rw [List.foldl_cons, cnt_eq h r]
    unfold cntS
    by_cases hy : y = h
    · subst hy
      rw [if_pos rfl, List.count_cons_self]
      omega
    · rw [if_neg hy, List.count_cons_of_ne (by simpa using hy)]
theorem with_iff {G hs : List Int} : withB G hs = true ↔ ∀ h ∈ hs, h ∈ G := by
  have key : ∀ (h : Int) (G : List Int) (b : Bool), G.foldl (wiS h) b = true ↔ b = true ∨ h ∈ G := fun h G => by
    induction G with
    | nil => intro b; simp
    | cons y r ih =>
      intro b
      rw [List.foldl_cons, ih]
      unfold wiS
      cases b with
      | true => simp
      | false => simp [eq_comm]
  unfold withB
  rw [List.all_eq_true]
  constructor
  · intro q h hh
    have := (key h G false).1 (q h hh)
    simpa using this
  · intro q h hh
    exact (key h G false).2 (.inr (q h hh))
/-- what was found may be -/
theorem find_fit {c : Con} {free : List V3} {g : Gan} (hv : validB g.need = true) (hg : 1 ≤ g.pods) (hl : 0 ≤ g.pref ∧ g.pref ≤ g.lev ∧ g.lev ≤ 3) {x : Int × List Int} (h : findL c free g = some x) :
    (∀ u ∈ x.2, 0 ≤ u ∧ u < (free.length : Int) ∧ ((x.2.count u : Nat) : Int) ≤ roomI ((free[u.toNat]?).getD V3.zero) g.need) ∧ chkB c free g x.2 = true := by
  have gstep : ∀ (gs : List (List Int)) , fdG c free g gs = some x → ∃ gr ∈ gs, x.2 = inL free g gr ∧ ¬ ((inL free g gr).length : Int) < g.pods := fun gs => by
    induction gs with
    | nil => intro h; cases h
    | cons gr r ih =>
      intro h
      unfold fdG at h
      by_cases h1 : ((inL free g gr).length : Int) < g.pods
      · rw [if_pos (decide_eq_true h1)] at h
        obtain ⟨q, q1, q2⟩ := ih h
        exact ⟨q, List.mem_cons_of_mem _ q1, q2⟩
      · rw [if_neg (by rw [decide_eq_false h1]; decide)] at h
        cases h
        exact ⟨gr, List.mem_cons_self .., rfl, h1⟩
  have lstep : ∀ (n : Nat) (lv : Int), fdL c free g n lv = some x → ∃ lw, lv ≤ lw ∧ lw < lv + n ∧ fdG c free g (gpL c lw) = some x := fun n => by
    induction n with
    | zero => intro lv h; cases h
    | succ n ih =>
      intro lv h
      unfold fdL at h
      cases hq : fdG c free g (gpL c lv) with
      | some y =>
        rw [hq] at h
        cases h
        exact ⟨lv, Int.le_refl _, by omega, hq⟩
      | none =>
        rw [hq] at h
        obtain ⟨lw, q1, q2, q3⟩ := ih (lv + 1) h
        exact ⟨lw, by omega, by omega, q3⟩
  unfold findL at h
  obtain ⟨lw, l1, l2, l3⟩ := lstep _ _ h
  obtain ⟨gr, g1, g2, g3⟩ := gstep _ l3
  have hlw : 0 ≤ lw ∧ lw ≤ g.lev := by omega
  obtain ⟨hn, G, hG, hsub⟩ := grp_in hlw.1 hlw.2 hl.2.2 g1
  have hlen : ((inL free g gr).length : Int) ≤ g.pods := by
    have key : ∀ (l : List Int) (out : List Int), (out.length : Int) ≤ g.pods → ((l.foldl (inS free g) out).length : Int) ≤ g.pods := fun l => by
      induction l with
      | nil => intro out h; exact h
      | cons x r ih => intro out h; exact ih _ (inS_len free g out x h)
    exact key gr [] (by simp; omega)
  have hin : ∀ u ∈ x.2, u ∈ gr ∧ 0 ≤ u ∧ u < (free.length : Int) := fun u hu => by
    rw [g2] at hu
    rcases inL_in gr [] u hu with hu | hu
    · cases hu
    · exact hu
  have hcnt : ∀ u ∈ x.2, ((x.2.count u : Nat) : Int) ≤ roomI ((free[u.toNat]?).getD V3.zero) g.need := fun u hu => by
    have h1 := inL_cnt free g u gr [] hn
    have h2 : 0 < x.2.count u := List.count_pos_iff.2 hu
    rw [if_pos (hin u hu).1, show gr.foldl (inS free g) [] = x.2 from g2.symm] at h1
    unfold rmN at h1
    simp only [List.count_nil] at h1
    omega
  refine ⟨fun u hu => ⟨(hin u hu).2.1, (hin u hu).2.2, hcnt u hu⟩, ?_⟩
  unfold chkB
  rw [if_pos (by rw [g2]; omega), List.any_eq_true]
  refine ⟨G, hG, ?_⟩
  unfold chkG
  rw [with_iff.2 fun u hu => hsub u (hin u hu).1, Bool.true_and]
  unfold fitsB
  rw [List.all_eq_true]
  intro u hu
  unfold fitH
  rw [if_neg (by have := (hin u hu).2.1; simp; omega), if_neg (by have := (hin u hu).2.2; simp; omega)]
  have := hcnt u hu
  have e : cntI u x.2 = ((x.2.count u : Nat) : Int) := by unfold cntI; rw [cnt_eq]; omega
  rw [e]
  simp
  omega

/- ---------- hosts behind it ---------- -/
theorem fold_free {p : V3 → Int} (hp : Prj p) (need : V3) (hn : 0 ≤ p need ∧ p need ≤ 1048576) (j : Nat) : ∀ (hs : List Int) (xs : List V3), j < xs.length → p need * ((hs.count (j : Int) : Nat) : Int) ≤ p ((xs[j]?).getD V3.zero) → p need * ((hs.count (j : Int) : Nat) : Int) ≤ FarI → 0 ≤ p (((hs.foldl (freeS need) xs)[j]?).getD V3.zero)
  | [], xs, _, h, _ => by simpa using h
  | u :: r, xs, hj, h, hf => by
    rw [List.foldl_cons]
    have e := freeS_get need xs u j
    by_cases hu : u = (j : Int)
    · subst hu
      rw [if_pos ⟨by omega, by omega, by omega⟩] at e
      rw [List.count_cons_self] at h hf
      have hm : p need * (((r.count (j : Int) + 1 : Nat) : Nat) : Int) = p need * ((r.count (j : Int) : Nat) : Int) + p need := by rw [Int.natCast_add, Int.mul_add]; simp
      rw [hm] at h hf
      have hz : 0 ≤ p need * ((r.count (j : Int) : Nat) : Int) := Int.mul_nonneg hn.1 (by omega)
      refine fold_free hp need hn j r _ (by rw [freeS_len]; exact hj) ?_ (by omega)
      rw [e, hp.sub]
      generalize p need * ((r.count (j : Int) : Nat) : Int) = q at *
      generalize p ((xs[j]?).getD V3.zero) = v at *
      unfold subI cutI
      unfold FarI at hf
      omega
    · rw [if_neg (by omega)] at e
      rw [List.count_cons_of_ne (by simpa using hu)] at h hf
      refine fold_free hp need hn j r _ (by rw [freeS_len]; exact hj) ?_ hf
      rw [e]
      exact h
theorem free_after {c : Con} {l : List Rn} {x : Rn} (hv : validB x.g.need = true) {u : Int} (h0 : 0 ≤ u) (hl : u < ((freeL c l).length : Int)) (hc : ((x.hs.count u : Nat) : Int) ≤ roomI (((freeL c l)[u.toNat]?).getD V3.zero) x.g.need) (hm : u ∈ x.hs) : vfits V3.zero (((freeL c (l ++ [x]))[u.toNat]?).getD V3.zero) = true := by
  have e : freeL c (l ++ [x]) = x.hs.foldl (freeS x.g.need) (freeL c l) := by
    unfold freeL
    rw [List.foldl_append]
    rfl
  rw [e, vfits_le]
  have hn : u = (u.toNat : Int) := by omega
  have hpos : 0 < x.hs.count u := List.count_pos_iff.2 hm
  obtain ⟨v1, v2, v3⟩ := validB_iff hv
  have hfit : vfits x.g.need (((freeL c l)[u.toNat]?).getD V3.zero) = true := by
    cases hq : vfits x.g.need (((freeL c l)[u.toNat]?).getD V3.zero) with
    | true => rfl
    | false =>
      unfold roomI at hc
      rw [if_neg (by rw [hq]; decide)] at hc
      omega
  obtain ⟨r1, r2, r3, r4⟩ := (room_le hv hfit _).1 hc
  have hb : ∀ a : Int, 0 ≤ a → a ≤ 1048576 → a * ((x.hs.count u : Nat) : Int) ≤ FarI := fun a h1 h2 => by
    have := (mul16 h1 h2 (show (0 : Int) ≤ ((x.hs.count u : Nat) : Int) by omega) r1).2
    unfold FarI
    omega
  have hj : u.toNat < (freeL c l).length := by omega
  have b1 := hb _ v1.1 v1.2
  have b2 := hb _ v2.1 v2.2
  have b3 := hb _ v3.1 v3.2
  rw [hn] at r2 r3 r4 b1 b2 b3
  rw [Int.toNat_natCast] at r2 r3 r4
  exact ⟨fold_free prjA x.g.need v1 u.toNat x.hs _ hj r2 b1, fold_free prjB x.g.need v2 u.toNat x.hs _ hj r3 b2, fold_free prjC x.g.need v3 u.toNat x.hs _ hj r4 b3⟩
end Go.Proofs.YtlalcoklkafnnaaGreat

namespace Go.Proofs.YtlalcoklkafnnaaGreat
open Go Go.AW Go.Proofs
set_option maxRecDepth 10000

/- ---------- a tenant has nobody below it ---------- -/
theorem up_child {ns : List Nod} : ∀ (f : Nat) (s x : Int), x ∈ upF ns f s → x = s ∨ ∃ d ∈ ns, d.p = x
  | 0, s, x, h => by cases h
  | f + 1, s, x, h => by
    unfold upF at h
    by_cases h0 : 0 ≤ s
    · rw [if_pos (decide_eq_true h0)] at h
      by_cases h1 : s.toNat < ns.length
      · rw [dif_pos h1] at h
        by_cases h2 : s ≤ (ns[s.toNat]).p
        · rw [if_pos (decide_eq_true h2)] at h
          simp at h
          exact .inl h
        · rw [if_neg (by rw [decide_eq_false h2]; decide)] at h
          rcases List.mem_cons.1 h with h | h
          · exact .inl h
          · rcases up_child f _ x h with rfl | h
            · exact .inr ⟨_, List.getElem_mem h1, rfl⟩
            · exact .inr h
      · rw [dif_neg h1] at h
        cases h
    · rw [if_neg (by rw [decide_eq_false h0]; decide)] at h
      cases h
theorem leaf_none {ns : List Nod} {t : Int} (h : leafB ns t = true) : ∀ d ∈ ns, d.p ≠ t := by
  obtain ⟨h0, h1⟩ := leafB_ok h
  unfold leafB at h
  rw [if_pos (decide_eq_true h0), if_pos (decide_eq_true (by omega)), any_find] at h
  intro d hd e
  have : (ns.any fun x => x.p == t) = true := List.any_eq_true.2 ⟨d, hd, by simp [e]⟩
  rw [this] at h
  cases h
theorem leaf_up {ns : List Nod} {t s : Int} (h : leafB ns t = true) (hs : t ∈ upL ns s) : t = s := by
  rcases up_child _ _ _ hs with h1 | ⟨d, hd, e⟩
  · exact h1
  · exact absurd e (leaf_none h d hd)
theorem self_up {ns : List Nod} {t : Int} (h0 : 0 ≤ t) (h1 : t.toNat < ns.length) : t ∈ upL ns t := by
  obtain ⟨r, hr⟩ := upL_head h0 h1
  rw [hr]
  exact List.mem_cons_self ..
theorem leaf_in {ns : List Nod} {t : Int} (h : leafB ns t = true) : t ∈ leavesL ns := by
  obtain ⟨h0, h1⟩ := leafB_ok h
  have key : ∀ (m i : Nat), i ≤ t.toNat → t.toNat < i + m → t ∈ lvF ns m i := fun m => by
    induction m with
    | zero => intro i a b; omega
    | succ m ih =>
      intro i a b
      unfold lvF
      by_cases hi : i = t.toNat
      · subst hi
        rw [show ((t.toNat : Nat) : Int) = t from by omega, if_pos h]
        exact List.mem_cons_self ..
      · have := ih (i + 1) (by omega) (by omega)
        split
        · exact List.mem_cons_of_mem _ this
        · exact this
  exact key _ 0 (by omega) (by omega)
theorem leaf_below {ns : List Nod} {t : Int} (h : leafB ns t = true) : belowL ns t = [t] := by
  obtain ⟨h0, h1⟩ := leafB_ok h
  have hself := self_up h0 h1
  have hit : ∀ s : Int, hitL ns t s = if s = t then [t] else [] := fun s => by
    unfold hitL
    by_cases e : s = t
    · subst e
      rw [if_pos hself, if_pos rfl]
    · rw [if_neg e, if_neg fun q => e (leaf_up h q).symm]
  have lo : ∀ (m i : Nat), t.toNat < i → (lvF ns m i).flatMap (hitL ns t) = [] := fun m i hi => by
    rw [List.flatMap_eq_nil_iff]
    intro s hs
    have := lvF_mem ns m i s hs
    rw [hit, if_neg (by omega)]
  have key : ∀ (m i : Nat), i ≤ t.toNat → t.toNat < i + m → (lvF ns m i).flatMap (hitL ns t) = [t] := fun m => by
    induction m with
    | zero => intro i a b; omega
    | succ m ih =>
      intro i a b
      unfold lvF
      by_cases hi : i = t.toNat
      · subst hi
        rw [show ((t.toNat : Nat) : Int) = t from by omega, if_pos h, List.flatMap_cons, lo _ _ (by omega), hit, if_pos rfl]
        rfl
      · have := ih (i + 1) (by omega) (by omega)
        split
        · rw [List.flatMap_cons, hit, if_neg (by omega), this]
          rfl
        · exact this
  exact key _ 0 (by omega) (by omega)

/- ---------- what a node uses, and what those below it use ---------- -/
section
variable {p : V3 → Int} (hp : Prj p)
include hp
def uE (c : Con) (p : V3 → Int) (j : Int) (x : Rn) : Int := if leafB c.ns x.g.ten = true ∧ j ∈ upL c.ns x.g.ten then p (dem x.g) else 0
theorem use_sum {c : Con} {j : Nat} : ∀ (l : List Rn) (v : V3), (∀ x ∈ l, 0 ≤ p (dem x.g)) → 0 ≤ p v → p v ≤ FarI → p (l.foldl (useF c j) v) = min (p v + sumI (l.map (uE c p (j : Int)))) FarI ∧ 0 ≤ sumI (l.map (uE c p (j : Int)))
  | [], v, _, h0, h1 => by
    show p v = min (p v + 0) FarI ∧ (0 : Int) ≤ 0
    omega
  | x :: r, v, hd, h0, h1 => by
    rw [List.foldl_cons, List.map_cons]
    show _ = min (p v + (uE c p (j : Int) x + sumI (r.map (uE c p (j : Int))))) FarI ∧ 0 ≤ uE c p (j : Int) x + sumI (r.map (uE c p (j : Int)))
    have hx := hd x (List.mem_cons_self ..)
    have e : p (useF c j v x) = min (p v + uE c p (j : Int) x) FarI := by
      unfold useF uE
      by_cases hc : leafB c.ns x.g.ten = true ∧ (j : Int) ∈ upL c.ns x.g.ten
      · rw [if_pos hc, if_pos hc, hp.add, addI_sat h0 h1 hx]
      · rw [if_neg hc, if_neg hc]
        omega
    have hu : 0 ≤ uE c p (j : Int) x := by unfold uE; split <;> omega
    obtain ⟨ih, ih0⟩ := use_sum r (useF c j v x) (fun y hy => hd y (List.mem_cons_of_mem _ hy)) (by rw [e]; unfold FarI; omega) (by rw [e]; unfold FarI; omega)
    rw [ih, e]
    unfold FarI
    omega
omit hp in
theorem sum_add {α : Type} (f g : α → Int) : ∀ (l : List α), sumI (l.map fun x => f x + g x) = sumI (l.map f) + sumI (l.map g)
  | [] => rfl
  | x :: r => by
    rw [List.map_cons, List.map_cons, List.map_cons]
    show f x + g x + sumI _ = (f x + sumI _) + (g x + sumI _)
    rw [sum_add f g r]
    omega
omit hp in
theorem sum_one {α : Type} (f : α → Int) : ∀ (l : List α), (∀ y ∈ l, 0 ≤ f y) → ∀ x ∈ l, f x ≤ sumI (l.map f)
  | [], _, x, h => by cases h
  | y :: r, hf, x, h => by
    rw [List.map_cons]
    show f x ≤ f y + sumI _
    have h1 := sumI_pos (es := r.map f) fun e he => by
      obtain ⟨z, hz, rfl⟩ := List.mem_map.1 he
      exact hf z (List.mem_cons_of_mem _ hz)
    have h2 := hf y (List.mem_cons_self ..)
    rcases List.mem_cons.1 h with rfl | h
    · omega
    · have := sum_one f r (fun z hz => hf z (List.mem_cons_of_mem _ hz)) x h
      omega
omit hp in
theorem sum_sat {α : Type} (f : α → Int) : ∀ (l : List α), (∀ y ∈ l, 0 ≤ f y) → min (sumI (l.map f)) FarI ≤ sumI (l.map fun y => min (f y) FarI) ∧ 0 ≤ sumI (l.map f)
  | [], _ => by
    show min (0 : Int) FarI ≤ 0 ∧ (0 : Int) ≤ 0
    unfold FarI
    omega
  | y :: r, hf => by
    rw [List.map_cons, List.map_cons]
    show min (f y + sumI _) FarI ≤ min (f y) FarI + sumI _ ∧ 0 ≤ f y + sumI _
    have h2 := hf y (List.mem_cons_self ..)
    obtain ⟨a, b⟩ := sum_sat f r fun z hz => hf z (List.mem_cons_of_mem _ hz)
    unfold FarI at *
    omega
omit hp in
theorem below_sum {c : Con} {n : Int} : ∀ (l : List Rn), (∀ x ∈ l, 0 ≤ p (dem x.g)) → sumI (l.map (uE c p n)) ≤ sumI ((belowL c.ns n).map fun s => sumI (l.map (uE c p s)))
  | [], _ => by
    show 0 ≤ sumI ((belowL c.ns n).map fun s => (0 : Int))
    exact sumI_pos fun e he => by
      obtain ⟨z, _, rfl⟩ := List.mem_map.1 he
      exact Int.le_refl _
  | x :: r, hd => by
    have ih := below_sum (c := c) (n := n) r fun y hy => hd y (List.mem_cons_of_mem _ hy)
    have e : sumI ((belowL c.ns n).map fun s => sumI ((x :: r).map (uE c p s))) = sumI ((belowL c.ns n).map fun s => uE c p s x) + sumI ((belowL c.ns n).map fun s => sumI (r.map (uE c p s))) := sum_add _ _ _
    rw [e, List.map_cons]
    show uE c p n x + sumI _ ≤ _
    have hx := hd x (List.mem_cons_self ..)
    have hnn : ∀ s ∈ belowL c.ns n, 0 ≤ uE c p s x := fun s _ => by unfold uE; split <;> omega
    have h1 : uE c p n x ≤ sumI ((belowL c.ns n).map fun s => uE c p s x) := by
      by_cases hc : leafB c.ns x.g.ten = true ∧ n ∈ upL c.ns x.g.ten
      · have hin : x.g.ten ∈ belowL c.ns n := by
          unfold belowL
          rw [List.mem_flatMap]
          refine ⟨x.g.ten, leaf_in hc.1, ?_⟩
          unfold hitL
          rw [if_pos hc.2]
          simp
        have := sum_one (fun s => uE c p s x) (belowL c.ns n) hnn _ hin
        have e2 : uE c p x.g.ten x = uE c p n x := by
          obtain ⟨h0, h1⟩ := leafB_ok hc.1
          unfold uE
          rw [if_pos hc, if_pos ⟨hc.1, self_up h0 h1⟩]
        rw [← e2]
        exact this
      · have e2 : uE c p n x = 0 := by unfold uE; rw [if_neg hc]
        rw [e2]
        exact sumI_pos fun e he => by
          obtain ⟨z, hz, rfl⟩ := List.mem_map.1 he
          exact hnn z hz
    omega
theorem use_at {c : Con} {l : List Rn} (hd : ∀ x ∈ l, 0 ≤ p (dem x.g)) {n : Int} (hn : c.ok n) : p (atV (ofL c l) n) = min (sumI (l.map (uE c p n))) FarI ∧ 0 ≤ sumI (l.map (uE c p n)) := by
  have hz : p V3.zero = 0 := hp.zero
  obtain ⟨a, b⟩ := use_sum hp (c := c) (j := n.toNat) l V3.zero hd (by rw [hz]; exact Int.le_refl _) (by rw [hz]; decide)
  rw [of_at hn, a, hz]
  have e : ((n.toNat : Nat) : Int) = n := by have := hn.1; omega
  rw [e] at b ⊢
  exact ⟨by omega, b⟩
theorem sum_at {c : Con} {l : List Rn} (hd : ∀ x ∈ l, 0 ≤ p (dem x.g)) (n : Int) : p (sumL c.ns n (ofL c l)) = min (sumI ((belowL c.ns n).map fun s => min (sumI (l.map (uE c p s))) FarI)) FarI := by
  have hz : p V3.zero = 0 := hp.zero
  have e : (belowL c.ns n).map (fun t => p (atV (ofL c l) t)) = (belowL c.ns n).map fun s => min (sumI (l.map (uE c p s))) FarI := List.map_congr_left fun s hs => (use_at hp hd (below_ok' c n s hs)).1
  unfold sumL
  rw [sm_fold hp, e, hz, sat_fold (Int.le_refl _) (by decide) fun e he => by
    obtain ⟨s, hs, rfl⟩ := List.mem_map.1 he
    have := (use_at hp hd (below_ok' c n s hs)).2
    unfold FarI
    omega]
  omega
theorem use_le_sum {c : Con} {l : List Rn} (hd : ∀ x ∈ l, 0 ≤ p (dem x.g)) {n : Int} (hn : c.ok n) : p (atV (ofL c l) n) ≤ p (sumL c.ns n (ofL c l)) ∧ 0 ≤ p (atV (ofL c l) n) ∧ p (sumL c.ns n (ofL c l)) ≤ FarI := by
  obtain ⟨a, a0⟩ := use_at hp hd hn
  rw [a, sum_at hp hd n]
  have h1 := below_sum (p := p) (c := c) (n := n) l hd
  obtain ⟨h2, h3⟩ := sum_sat (fun s => sumI (l.map (uE c p s))) (belowL c.ns n) fun s hs => (use_at hp hd (below_ok' c n s hs)).2
  unfold FarI at *
  omega
theorem kept_pos (ns : List Nod) (us : List V3) (n t : Int) : 0 ≤ p (keptL ns us n t) := by
  have hz : p V3.zero = 0 := hp.zero
  have a2 : ∀ e ∈ (belowL ns n).map (kE ns p us t), 0 ≤ e := fun e he => by
    obtain ⟨s, _, rfl⟩ := List.mem_map.1 he
    unfold kE
    split <;> omega
  have s2 := sumI_pos a2
  unfold keptL
  rw [kp_fold hp _ _ _ _ _ (by rw [hz]; exact Int.le_refl _) (by rw [hz]; decide), hz, sat_fold (Int.le_refl _) (by decide) a2]
  unfold FarI
  omega
theorem all_low {c : Con} {l : List Rn} (hd : ∀ x ∈ l, 0 ≤ p (dem x.g)) {need : V3} (hn : 0 ≤ p need) {n t : Int} (ho : c.ok n) : p (vadd (atV (ofL c l) n) need) ≤ p (vadd (vadd (sumL c.ns n (ofL c l)) need) (keptL c.ns (ofL c l) n t)) := by
  obtain ⟨h1, h2, h3⟩ := use_le_sum hp hd ho
  have hk := kept_pos hp c.ns (ofL c l) n t
  rw [hp.add, hp.add, hp.add]
  have a1 := addI_mono (d := p need) h1
  have a2 := addI_r (a := p (sumL c.ns n (ofL c l))) (by omega) hn
  have a3 := addI_up a2.1 a2.2 hk
  omega
end
theorem addI_idem (x y z : Int) : addI (addI (addI 0 x) 0) y = addI x y ∧ addI (addI 0 x) y = addI x y := by
  unfold addI cutI
  omega
theorem vadd_zero (x y : V3) : vadd (vadd V3.zero x) y = vadd x y := by
  unfold vadd V3.map2 V3.zero
  rw [(addI_idem x.a y.a 0).2, (addI_idem x.b y.b 0).2, (addI_idem x.c y.c 0).2]
theorem nom_at {c : Con} {t : Int} (h : c.ok t) : atV (nomL c.ns) t = (nodAt c.ns t).n := by
  obtain ⟨h0, h1⟩ := h
  unfold atV nomL
  rw [if_neg (by simp; omega), List.getElem?_map, List.getElem?_range h1]
  show (nodAt c.ns ((t.toNat : Nat) : Int)).n = _
  rw [show ((t.toNat : Nat) : Int) = t from by omega]
def mostV (c : Con) (t n : Int) : V3 := if n = t then vadd (sumL c.ns n (nomL c.ns)) (nodAt c.ns n).b else sumL c.ns n (nomL c.ns)
/-- who fits leaves no tenant and no cohort overfull -/
theorem quota_after {c : Con} {l : List Rn} {x : Rn} (hd : ∀ y ∈ l, (dem y.g).pos) (hx : (dem x.g).pos) (h : mayB c (ofL c l) x.g.ten (dem x.g) = true) : ∀ n ∈ pathL c.ns x.g.ten, c.ok n ∧ vfits (atV (ofL c (l ++ [x])) n) (mostV c x.g.ten n) = true := by
  intro n hn
  unfold pathL at hn
  rw [List.mem_reverse] at hn
  have hok : c.ok n := upF_mem c _ _ _ hn
  refine ⟨hok, ?_⟩
  unfold mayB at h
  by_cases hl : leafB c.ns x.g.ten = true
  · rw [if_pos hl, List.all_eq_true] at h
    have hq := h n hn
    have e : atV (ofL c (l ++ [x])) n = vadd (atV (ofL c l) n) (dem x.g) := by
      rw [of_at hok, of_at hok, List.foldl_append]
      show useF c n.toNat _ x = _
      unfold useF
      rw [if_pos ⟨hl, by rw [show ((n.toNat : Nat) : Int) = n from by have := hok.1; omega]; exact hn⟩]
    rw [e]
    unfold mayP at hq
    unfold mostV
    by_cases ht : n = x.g.ten
    · rw [if_pos (decide_eq_true ht)] at hq
      rw [if_pos ht]
      unfold ownB at hq
      have e2 : sumL c.ns n (nomL c.ns) = vadd V3.zero (nodAt c.ns n).n := by
        unfold sumL
        rw [leaf_below (by rw [ht]; exact hl)]
        show vadd V3.zero (atV (nomL c.ns) n) = _
        rw [nom_at hok]
      rw [e2, vadd_zero]
      exact hq
    · rw [if_neg (by rw [decide_eq_false ht]; decide)] at hq
      rw [if_neg ht]
      unfold allB at hq
      rw [vfits_le] at hq ⊢
      exact ⟨Int.le_trans (all_low prjA (fun y hy => (hd y hy).1) hx.1 hok) hq.1, Int.le_trans (all_low prjB (fun y hy => (hd y hy).2.1) hx.2.1 hok) hq.2.1, Int.le_trans (all_low prjC (fun y hy => (hd y hy).2.2) hx.2.2 hok) hq.2.2⟩
  · rw [if_neg hl] at h
    cases h
end Go.Proofs.YtlalcoklkafnnaaGreat

namespace Go.Proofs.YtlalcoklkafnnaaGreat
open Go Go.AW Go.Proofs
set_option maxRecDepth 10000

noncomputable abbrev fLSafe : Func := Tryz.f8
abbrev sfO (c : Con) (now k : Int) (ws : List AVal) (l : List Rn) (zs : List AVal) (g : Gan) : List AObj := [.cells 30 (stCs c now k ws l zs), .cells 34 g.cs]
theorem sf_frz (c : Con) (now k : Int) (ws : List AVal) (l : List Rn) (zs : List AVal) (g : Gan) : frzs [0, 1] (sfO c now k ws l zs g) = [.fcells (stCs c now k ws l zs), .fcells g.cs] := by kernel_rfl
theorem sf_frzF (c : Con) (now k : Int) (ws : List AVal) (l : List Rn) (zs : List AVal) (g : Gan) : frzF [2, 3] (oget [.fcells (stCs c now k ws l zs), .fcells g.cs]) [(2, .ref 0 0), (3, .ref 1 0), (4, .bool false)] = [(2, .ptr (stCs c now k ws l zs)), (3, .ptr g.cs), (4, .bool false)] := by kernel_rfl
theorem sf_step {G : Goal} {ks : List KI} (c : Con) (now k : Int) (ws : List AVal) (l : List Rn) (zs : List AVal) (g : Gan) (h : To (Er [] []) fLSafe G (.code ks [(2, .ptr (stCs c now k ws l zs)), (3, .ptr g.cs), (4, .bool false)] [.fcells (stCs c now k ws l zs), .fcells g.cs])) :
    To (Er [] []) fLSafe G (.code ks [(2, .ref 0 0), (3, .ref 1 0), (4, .bool false)] (sfO c now k ws l zs g)) := by
  refine To.frz [2, 3] [0, 1] ?_
  rw [sf_frz, sf_frzF]
  exact h
theorem vav_at {l : List V3} {u : Int} (h0 : 0 ≤ u) (h1 : u < (l.length : Int)) : (vav l)[u.toNat]? = some ((l[u.toNat]?).getD V3.zero).av := by
  rw [List.getElem?_eq_getElem (show u.toNat < l.length by omega)]
  exact vav_get (by omega)
theorem used_at {c : Con} {l : List Rn} {n : Int} (h : c.ok n) : (vav (ofL c l))[n.toNat]? = some (atV (ofL c l) n).av := by
  obtain ⟨h0, h1⟩ := h
  have hl := ofL_len c l
  unfold atV
  rw [if_neg (by simp; omega)]
  exact vav_at h0 (by omega)
abbrev sfF2 (c : Con) (now k : Int) (ws : List AVal) (l : List Rn) (zs : List AVal) (g : Gan) (hs : List Int) (us : List V3) (ps : List Int) (i : Int) : List (Nat × AVal) := [(2, .ptr (stCs c now k ws l zs)), (3, .ptr g.cs), (6, .slice 1 (iv hs) .no), (11, .slice 3 (vav us) .no), (12, .slice 1 (iv ps) .no), (13, ii i)]
theorem sf_two (c : Con) (hc : c.sm) (now k : Int) (ws : List AVal) (l : List Rn) (hs : Sm l) (zs : List AVal) (g : Gan) (hv : validB g.need = true) (ho : List Int) (hh : ho.length ≤ 1048576) (hck : chkB c (freeL c l) g ho = true) (us : List V3) (ps : List Int) (hpl : ps.length ≤ 1048576)
    (hps : ∀ n ∈ ps, c.ok n ∧ (vav us)[n.toNat]? = some (atV us n).av ∧ vfits (atV us n) (mostV c g.ten n) = true) : ∀ (m i : Nat), i + m = ps.length →
    To (Er [] []) fLSafe (.pure (.ret (.bool true))) (.head (stk fLSafe 1) (sfF2 c now k ws l zs g ho us ps (i : Int)) []) := by
  have hlen : (iv ps).length = ps.length := by simp
  intro m
  induction m with
  | zero =>
    intro i hi
    have h1 := rfree_ok c hc l hs
    have h2 := chk_ok c hc (freeL c l) g hv ho hh
    rw [hck] at h2
    generalize freeL c l = fr at h1 h2
    refine goes (hEr [] []) 100 ?_
    conv => whnf
    refine And.intro (fun h => absurd (of_decide_eq_true h) (by omega)) (fun h => ?_)
    repeat' first | (refine goN (hEr [] []) 100 rfl ?_; conv => whnf) | refine .pure _ [] h1 ?_ | refine .pure _ [] h2 ?_ | refine .pure _ [] awake19_ok ?_ | exact rfl | refine And.intro (fun _ => ?_) (fun h => absurd (show true = false from h) (by decide)) | refine And.intro (fun h => absurd (show false = true from h) (by decide)) (fun _ => ?_) | refine And.intro (fun h => ?_) (fun h => absurd (of_decide_eq_false h) (by omega)) | refine And.intro (fun h => absurd (of_decide_eq_true h) (by omega)) (fun h => ?_) | refine And.intro (fun h => ?_) (fun h => ?_) | refine Or.inl (And.intro (And.intro (by simp only [kmin]; omega) (by simp only [kmax]; omega)) ?_) | refine Exists.intro _ (And.intro rfl ?_) | refine And.intro (by decide) ?_ | refine And.intro (by omega) ?_ | fail
  | succ m ih =>
    intro i hi
    have hlt : i < ps.length := by omega
    have get := iv_get hlt
    obtain ⟨hok, gu, hfit⟩ := hps _ (List.getElem_mem hlt)
    have next := ih (i + 1) (by omega)
    generalize ps[i] = n at get hok gu hfit
    have hn : n = (n.toNat : Int) := by have := hok.1; omega
    have hnom := rnom_ok c hc n
    have gn := nod_get hok
    unfold mostV at hfit
    generalize sumL c.ns n (nomL c.ns) = sm at hnom hfit
    generalize nodAt c.ns n = nd at gn hfit
    generalize atV us n = uv at gu hfit
    by_cases ht : n = g.ten
    · rw [if_pos ht] at hfit
      have hadd := radd_ok sm nd.b
      generalize vadd sm nd.b = mo at hadd hfit
      have hf := rfits_ok uv mo
      rw [hfit] at hf
      refine goes (hEr [] []) 100 ?_
      conv => whnf
      refine And.intro (fun h => ?_) (fun h => absurd (of_decide_eq_false h) (by omega))
      repeat' first | (refine goN (hEr [] []) 100 rfl ?_; conv => whnf) | refine Exists.intro i (And.intro rfl ?_) | refine Exists.intro n.toNat (And.intro hn ?_) | refine Exists.intro _ (And.intro get ?_) | refine Exists.intro _ (And.intro gu ?_) | refine Exists.intro _ (And.intro gn ?_) | refine .pure _ [] hnom ?_ | refine .pure _ [] hadd ?_ | refine .pure _ [] hf ?_ | exact rfl | refine And.intro (fun _ => ?_) (fun h => absurd (show true = false from h) (by decide)) | refine And.intro (fun h => absurd (show false = true from h) (by decide)) (fun _ => ?_) | refine And.intro (fun h => ?_) (fun h => absurd (of_decide_eq_false h) (by omega)) | refine And.intro (fun h => absurd (of_decide_eq_true h) (by omega)) (fun h => ?_) | refine And.intro (fun h => ?_) (fun h => ?_) | refine Or.inl (And.intro (And.intro (by simp only [kmin]; omega) (by simp only [kmax]; omega)) ?_) | refine Exists.intro _ (And.intro rfl ?_) | refine And.intro (by decide) ?_ | refine And.intro (by omega) ?_ | fail
      exact To.cut [2, 3, 6, 11, 12, 13] 0 rfl rfl rfl rfl next
    · rw [if_neg ht] at hfit
      have hf := rfits_ok uv sm
      rw [hfit] at hf
      refine goes (hEr [] []) 100 ?_
      conv => whnf
      refine And.intro (fun h => ?_) (fun h => absurd (of_decide_eq_false h) (by omega))
      repeat' first | (refine goN (hEr [] []) 100 rfl ?_; conv => whnf) | refine Exists.intro i (And.intro rfl ?_) | refine Exists.intro n.toNat (And.intro hn ?_) | refine Exists.intro _ (And.intro get ?_) | refine Exists.intro _ (And.intro gu ?_) | refine Exists.intro _ (And.intro gn ?_) | refine .pure _ [] hnom ?_ | refine .pure _ [] hf ?_ | exact rfl | refine And.intro (fun _ => ?_) (fun h => absurd (show true = false from h) (by decide)) | refine And.intro (fun h => absurd (show false = true from h) (by decide)) (fun _ => ?_) | refine And.intro (fun h => ?_) (fun h => absurd (of_decide_eq_false h) (by omega)) | refine And.intro (fun h => absurd (of_decide_eq_true h) (by omega)) (fun h => ?_) | refine And.intro (fun h => ?_) (fun h => ?_) | refine Or.inl (And.intro (And.intro (by simp only [kmin]; omega) (by simp only [kmax]; omega)) ?_) | refine Exists.intro _ (And.intro rfl ?_) | refine And.intro (by decide) ?_ | refine And.intro (by omega) ?_ | fail
      exact To.cut [2, 3, 6, 11, 12, 13] 0 rfl rfl rfl rfl next
abbrev sfF1 (c : Con) (now k : Int) (ws : List AVal) (l : List Rn) (zs : List AVal) (g : Gan) (hs : List Int) (more : List Rn) (fr : List V3) (i : Int) : List (Nat × AVal) := [(2, .ptr (stCs c now k ws l zs)), (3, .ptr g.cs), (6, .slice 1 (iv hs) .no), (8, .slice 14 (rav more) .no), (9, .slice 3 (vav fr) .no), (10, ii i)]
theorem sf_one (c : Con) (hc : c.sm) (now k : Int) (ws : List AVal) (l : List Rn) (zs : List AVal) (g : Gan) (ho : List Int) (hol : ho.length ≤ 1048576) (more : List Rn) (hml : more.length ≤ 1048576) (fr : List V3) (hfr : ∀ u ∈ ho, 0 ≤ u ∧ u < (fr.length : Int) ∧ vfits V3.zero ((fr[u.toNat]?).getD V3.zero) = true)
    (hfin : To (Er [] []) fLSafe (.pure (.ret (.bool true))) (.head (stk fLSafe 1) (sfF2 c now k ws l zs g ho (ofL c more) (pathL c.ns g.ten) (0 : Nat)) [])) : ∀ (m i : Nat), i + m = ho.length →
    To (Er [] []) fLSafe (.pure (.ret (.bool true))) (.head (stk fLSafe 0) (sfF1 c now k ws l zs g ho more fr (i : Int)) []) := by
  have hlen : (iv ho).length = ho.length := by simp
  have hfl : (vav fr).length = fr.length := by simp
  intro m
  induction m with
  | zero =>
    intro i hi
    have h1 := rof_ok c hc more hml
    have h2 := rpath_ok c hc g.ten
    generalize ofL c more = us at h1 hfin
    generalize pathL c.ns g.ten = ps at h2 hfin
    refine goes (hEr [] []) 100 ?_
    conv => whnf
    refine And.intro (fun h => absurd (of_decide_eq_true h) (by omega)) (fun h => ?_)
    repeat' first | (refine goN (hEr [] []) 100 rfl ?_; conv => whnf) | refine .pure _ [] h1 ?_ | refine .pure _ [] h2 ?_ | exact rfl | refine And.intro (fun _ => ?_) (fun h => absurd (show true = false from h) (by decide)) | refine And.intro (fun h => absurd (show false = true from h) (by decide)) (fun _ => ?_) | refine And.intro (fun h => ?_) (fun h => absurd (of_decide_eq_false h) (by omega)) | refine And.intro (fun h => absurd (of_decide_eq_true h) (by omega)) (fun h => ?_) | refine And.intro (fun h => ?_) (fun h => ?_) | refine Or.inl (And.intro (And.intro (by simp only [kmin]; omega) (by simp only [kmax]; omega)) ?_) | refine Exists.intro _ (And.intro rfl ?_) | refine And.intro (by decide) ?_ | refine And.intro (by omega) ?_ | fail
    exact To.cut [2, 3, 6, 11, 12, 13] 0 rfl rfl rfl rfl hfin
  | succ m ih =>
    intro i hi
    have hlt : i < ho.length := by omega
    have get := iv_get hlt
    obtain ⟨h0, h1, hfit⟩ := hfr _ (List.getElem_mem hlt)
    have next := ih (i + 1) (by omega)
    generalize ho[i] = n at get h0 h1 hfit
    have hn : n = (n.toNat : Int) := by omega
    have gf := vav_at h0 h1
    generalize (fr[n.toNat]?).getD V3.zero = fv at gf hfit
    have hf := rfits_ok V3.zero fv
    rw [hfit] at hf
    refine goes (hEr [] []) 100 ?_
    conv => whnf
    refine And.intro (fun h => ?_) (fun h => absurd (of_decide_eq_false h) (by omega))
    repeat' first | (refine goN (hEr [] []) 100 rfl ?_; conv => whnf) | refine Exists.intro i (And.intro rfl ?_) | refine Exists.intro n.toNat (And.intro hn ?_) | refine Exists.intro _ (And.intro get ?_) | refine Exists.intro _ (And.intro gf ?_) | refine .pure _ [] hf ?_ | exact rfl | refine And.intro (fun _ => ?_) (fun h => absurd (show true = false from h) (by decide)) | refine And.intro (fun h => absurd (show false = true from h) (by decide)) (fun _ => ?_) | refine And.intro (fun h => ?_) (fun h => absurd (of_decide_eq_false h) (by omega)) | refine And.intro (fun h => absurd (of_decide_eq_true h) (by omega)) (fun h => ?_) | refine And.intro (fun h => ?_) (fun h => ?_) | refine Or.inl (And.intro (And.intro (by simp only [kmin]; omega) (by simp only [kmax]; omega)) ?_) | refine Exists.intro _ (And.intro rfl ?_) | refine And.intro (by decide) ?_ | refine And.intro (by omega) ?_ | fail
    exact To.cut [2, 3, 6, 8, 9, 10] 0 rfl rfl rfl rfl next
theorem safe_walk (c : Con) (now k : Int) (ws : List AVal) (l : List Rn) (hl2 : l.length ≤ 32) (zs : List AVal) (g : Gan) (fi gi n : Int) (ho : List Int) (hk : (fi == 0) = false) (hk2 : (gi == 0) = false) (fr : List V3)
    (hfw : CallOK Tryz.prog 18 [c.av, ii now, .slice 14 (rav l) .no] [] (.ret (ii fi)) [])
    (hgg : CallOK Tryz.prog 19 [c.av, g.av] [] (.ret (ii gi)) [])
    (hf : CallOK Tryz.prog 21 [c.av, .slice 14 (rav l) .no, g.av] [] (.ret (.tup [ii n, .slice 1 (iv ho) .no, .bool true])) [])
    (hfr : CallOK Tryz.prog 26 [c.av, .slice 14 (rav l ++ [(⟨g, 0, 0, now, n, ho⟩ : Rn).av]) .no] [] (.ret (.slice 3 (vav fr) .no)) [])
    (hfin : To (Er [] []) fLSafe (.pure (.ret (.bool true))) (.head (stk fLSafe 0) [(2, .ptr (stCs c now k ws l zs)), (3, .ptr g.cs), (6, .slice 1 (iv ho) .no), (8, .slice 14 (rav l ++ [(⟨g, 0, 0, now, n, ho⟩ : Rn).av]) .no), (9, .slice 3 (vav fr) .no), (10, ii (0 : Nat))] [])) :
    CallOK Tryz.prog 8 [.agg (stCs c now k ws l zs), g.av] [] (.ret (.bool true)) [] := by
  have hlen : (rav l).length = l.length := by simp
  refine CallOK.to (E := (Er [] [])) (fn := Tryz.f8) (g := .pure _) (by rfl) (by rfl) (by rfl) (fun _ _ => by rfl) (by decide +kernel) (by rfl) (by rfl) (by rfl) fun _ => ?_
  refine goes (hEr [] []) 13 ?_
  conv => whnf
  refine To.cutC [2, 3, 4] 2 rfl rfl rfl rfl ?_
  refine sf_step c now k ws l zs g ?_
  repeat' first | (refine goN (hEr [] []) 100 rfl ?_; conv => whnf) | refine .pure _ [] hfw ?_ | refine .pure _ [] hgg ?_ | refine And.intro (fun h => absurd h (by rw [hk]; decide)) (fun h => ?_) | refine And.intro (fun h => absurd h (by rw [hk2]; decide)) (fun h => ?_) | refine .pure _ [] hf ?_ | refine .pure _ [] (CallOK.strip hfr) ?_ | refine And.intro (And.intro (by simp only [maxLen]; simp; omega) (by simp; omega)) ?_ | refine .pure _ [] awake19_ok ?_ | exact rfl | refine And.intro (fun _ => ?_) (fun h => absurd (show true = false from h) (by decide)) | refine And.intro (fun h => absurd (show false = true from h) (by decide)) (fun _ => ?_) | refine And.intro (fun h => ?_) (fun h => absurd (of_decide_eq_false h) (by omega)) | refine And.intro (fun h => absurd (of_decide_eq_true h) (by omega)) (fun h => ?_) | refine And.intro (fun h => ?_) (fun h => ?_) | refine Or.inl (And.intro (And.intro (by simp only [kmin]; omega) (by simp only [kmax]; omega)) ?_) | refine Exists.intro _ (And.intro rfl ?_) | refine And.intro (by decide) ?_ | refine And.intro (by omega) ?_ | fail
  refine To.part [2, 3, 6, 8, 9, 10] [] rfl rfl rfl ?_
  exact hfin
theorem safe_facts {c : Con} {l : List Rn} {x : Rn} {n : Int} (hv : validB x.g.need = true) (hg : 0 ≤ x.g.pods ∧ x.g.pods ≤ 16) (hgl : 1 ≤ x.g.pods ∧ 0 ≤ x.g.pref ∧ x.g.pref ≤ x.g.lev ∧ x.g.lev ≤ 3) (hd : ∀ y ∈ l, (dem y.g).pos) (hm : mayB c (ofL c l) x.g.ten (dem x.g) = true) (hQ : findL c (freeL c l) x.g = some (n, x.hs)) :
    (∀ u ∈ x.hs, 0 ≤ u ∧ u < ((freeL c (l ++ [x])).length : Int) ∧ vfits V3.zero (((freeL c (l ++ [x]))[u.toNat]?).getD V3.zero) = true) ∧ chkB c (freeL c l) x.g x.hs = true ∧ (∀ n ∈ pathL c.ns x.g.ten, c.ok n ∧ (vav (ofL c (l ++ [x])))[n.toNat]? = some (atV (ofL c (l ++ [x])) n).av ∧ vfits (atV (ofL c (l ++ [x])) n) (mostV c x.g.ten n) = true) := by
  obtain ⟨hin, hck⟩ := find_fit hv hgl.1 hgl.2 hQ
  have hq := quota_after hd (dem_pos hv hg) hm
  have hll : (freeL c (l ++ [x])).length = (freeL c l).length := by
    unfold freeL
    rw [List.foldl_append]
    exact freeX_len _ _
  refine ⟨fun u hu => ?_, hck, fun n hn => ⟨(hq n hn).1, used_at (hq n hn).1, (hq n hn).2⟩⟩
  obtain ⟨h0, h1, h2⟩ := hin u hu
  have h3 := free_after hv h0 h1 h2 hu
  refine ⟨h0, ?_, h3⟩
  rw [hll]
  exact h1
theorem reserve_safe (c : Con) (hc : c.sm) (now k : Int) (ws : List AVal) (l : List Rn) (hs : Sm l) (zs : List AVal) (g : Gan) : CallOK Tryz.prog 8 [.agg (stCs c now k ws l zs), g.av] [] (.ret (.bool true)) [] := by
  have hfw := few_ok c hc now l hs
  have hgg := gang_ok c hc g
  by_cases p1 : fewI c now l = 0
  · rw [p1] at hfw
    have hk : ((1 : Int) == 0) = false := by decide
    have hk2 : ((1 : Int) == 0) = false := by decide
    have hf := awake19_ok
    have hfr := awake19_ok
    refine CallOK.to (E := (Er [] [])) (fn := Tryz.f8) (g := .pure _) (by rfl) (by rfl) (by rfl) (fun _ _ => by rfl) (by decide +kernel) (by rfl) (by rfl) (by rfl) fun _ => ?_
    refine goes (hEr [] []) 13 ?_
    conv => whnf
    refine To.cutC [2, 3, 4] 2 rfl rfl rfl rfl ?_
    refine sf_step c now k ws l zs g ?_
    repeat' first | (refine goN (hEr [] []) 100 rfl ?_; conv => whnf) | refine .pure _ [] hfw ?_ | refine .pure _ [] hgg ?_ | refine And.intro (fun h => absurd h (by rw [hk]; decide)) (fun h => ?_) | refine And.intro (fun h => absurd h (by rw [hk2]; decide)) (fun h => ?_) | refine .pure _ [] hf ?_ | refine .pure _ [] (CallOK.strip hfr) ?_ | refine And.intro (And.intro (by simp only [maxLen]; simp; omega) (by simp; omega)) ?_ | refine .pure _ [] awake19_ok ?_ | exact rfl | refine And.intro (fun _ => ?_) (fun h => absurd (show true = false from h) (by decide)) | refine And.intro (fun h => absurd (show false = true from h) (by decide)) (fun _ => ?_) | refine And.intro (fun h => ?_) (fun h => absurd (of_decide_eq_false h) (by omega)) | refine And.intro (fun h => absurd (of_decide_eq_true h) (by omega)) (fun h => ?_) | refine And.intro (fun h => ?_) (fun h => ?_) | refine Or.inl (And.intro (And.intro (by simp only [kmin]; omega) (by simp only [kmax]; omega)) ?_) | refine Exists.intro _ (And.intro rfl ?_) | refine And.intro (by decide) ?_ | refine And.intro (by omega) ?_ | fail
  have hfl := few_len p1
  have hone : fewI c now l = 1 := by unfold fewI at p1 ⊢; split at p1 <;> (try split at p1) <;> simp_all
  have hd := few_pos hone
  generalize fewI c now l = fi at hfw p1
  have hk : (fi == 0) = false := by simp [p1]
  by_cases p2 : gangI c.ns g = 0
  · rw [p2] at hgg
    have hk2 : ((1 : Int) == 0) = false := by decide
    have hf := awake19_ok
    have hfr := awake19_ok
    refine CallOK.to (E := (Er [] [])) (fn := Tryz.f8) (g := .pure _) (by rfl) (by rfl) (by rfl) (fun _ _ => by rfl) (by decide +kernel) (by rfl) (by rfl) (by rfl) fun _ => ?_
    refine goes (hEr [] []) 13 ?_
    conv => whnf
    refine To.cutC [2, 3, 4] 2 rfl rfl rfl rfl ?_
    refine sf_step c now k ws l zs g ?_
    repeat' first | (refine goN (hEr [] []) 100 rfl ?_; conv => whnf) | refine .pure _ [] hfw ?_ | refine .pure _ [] hgg ?_ | refine And.intro (fun h => absurd h (by rw [hk]; decide)) (fun h => ?_) | refine And.intro (fun h => absurd h (by rw [hk2]; decide)) (fun h => ?_) | refine .pure _ [] hf ?_ | refine .pure _ [] (CallOK.strip hfr) ?_ | refine And.intro (And.intro (by simp only [maxLen]; simp; omega) (by simp; omega)) ?_ | refine .pure _ [] awake19_ok ?_ | exact rfl | refine And.intro (fun _ => ?_) (fun h => absurd (show true = false from h) (by decide)) | refine And.intro (fun h => absurd (show false = true from h) (by decide)) (fun _ => ?_) | refine And.intro (fun h => ?_) (fun h => absurd (of_decide_eq_false h) (by omega)) | refine And.intro (fun h => absurd (of_decide_eq_true h) (by omega)) (fun h => ?_) | refine And.intro (fun h => ?_) (fun h => ?_) | refine Or.inl (And.intro (And.intro (by simp only [kmin]; omega) (by simp only [kmax]; omega)) ?_) | refine Exists.intro _ (And.intro rfl ?_) | refine And.intro (by decide) ?_ | refine And.intro (by omega) ?_ | fail
  have hg := gang_pods p2
  have hv := gang_valid p2
  have hgl : 1 ≤ g.pods ∧ 0 ≤ g.pref ∧ g.pref ≤ g.lev ∧ g.lev ≤ 3 := by
    unfold gangI at p2
    split at p2
    · rename_i hb
      unfold gangB at hb
      simp only [Bool.and_eq_true, decide_eq_true_eq] at hb
      omega
    · exact absurd rfl p2
  generalize gangI c.ns g = gi at hgg p2
  have hk2 : (gi == 0) = false := by simp [p2]
  have hf := fits_ok c hc l hs g hg
  cases hQ : fitsL c l g with
  | none =>
    rw [hQ] at hf
    unfold fdA at hf
    have hfr := awake19_ok
    refine CallOK.to (E := (Er [] [])) (fn := Tryz.f8) (g := .pure _) (by rfl) (by rfl) (by rfl) (fun _ _ => by rfl) (by decide +kernel) (by rfl) (by rfl) (by rfl) fun _ => ?_
    refine goes (hEr [] []) 13 ?_
    conv => whnf
    refine To.cutC [2, 3, 4] 2 rfl rfl rfl rfl ?_
    refine sf_step c now k ws l zs g ?_
    repeat' first | (refine goN (hEr [] []) 100 rfl ?_; conv => whnf) | refine .pure _ [] hfw ?_ | refine .pure _ [] hgg ?_ | refine And.intro (fun h => absurd h (by rw [hk]; decide)) (fun h => ?_) | refine And.intro (fun h => absurd h (by rw [hk2]; decide)) (fun h => ?_) | refine .pure _ [] hf ?_ | refine .pure _ [] (CallOK.strip hfr) ?_ | refine And.intro (And.intro (by simp only [maxLen]; simp; omega) (by simp; omega)) ?_ | refine .pure _ [] awake19_ok ?_ | exact rfl | refine And.intro (fun _ => ?_) (fun h => absurd (show true = false from h) (by decide)) | refine And.intro (fun h => absurd (show false = true from h) (by decide)) (fun _ => ?_) | refine And.intro (fun h => ?_) (fun h => absurd (of_decide_eq_false h) (by omega)) | refine And.intro (fun h => absurd (of_decide_eq_true h) (by omega)) (fun h => ?_) | refine And.intro (fun h => ?_) (fun h => ?_) | refine Or.inl (And.intro (And.intro (by simp only [kmin]; omega) (by simp only [kmax]; omega)) ?_) | refine Exists.intro _ (And.intro rfl ?_) | refine And.intro (by decide) ?_ | refine And.intro (by omega) ?_ | fail
  | some y =>
    rw [hQ] at hf
    have hyl : y.2.length ≤ 1048576 := fits_len hg hQ
    unfold fitsL at hQ
    by_cases hm : mayB c (ofL c l) g.ten (dem g) = true
    · rw [if_pos hm] at hQ
      obtain ⟨n, ho⟩ := y
      have hx : ∃ x : Rn, x = ⟨g, 0, 0, now, n, ho⟩ := ⟨_, rfl⟩
      obtain ⟨x, hx⟩ := hx
      have x1 : x.g = g := by rw [hx]
      have x2 : x.hs = ho := by rw [hx]
      have hyl : x.hs.length ≤ 1048576 := by rw [x2]; exact hyl
      have hsx := sm_snoc hs (by omega) hyl
      have hfr := rfree_ok c hc (l ++ [x]) hsx
      have e : rav (l ++ [x]) = rav l ++ [x.av] := by simp
      have hF := safe_facts (c := c) (l := l) (x := x) (n := n) (by rw [x1]; exact hv) (by rw [x1]; exact hg) (by rw [x1]; exact hgl) hd (by rw [x1]; exact hm) (by rw [x1, x2]; exact hQ)
      rw [x1] at hF
      obtain ⟨hF1, hF2, hF3⟩ := hF
      have hpl : (pathL c.ns g.ten).length ≤ 1048576 := by
        have h1 := upL_len c.ns g.ten
        have h2 := hc.ns
        unfold pathL
        rw [List.length_reverse]
        omega
      have h2 := sf_two c hc now k ws l hs zs g hv x.hs hyl hF2 (ofL c (l ++ [x])) (pathL c.ns g.ten) hpl hF3 (pathL c.ns g.ten).length 0 (by omega)
      have hfin := sf_one c hc now k ws l zs g x.hs hyl (l ++ [x]) hsx.1 (freeL c (l ++ [x])) hF1 h2 x.hs.length 0 (by omega)
      clear hF1 hF2 hF3 h2
      generalize freeL c (l ++ [x]) = fr at hfr hfin
      unfold sfF1 at hfin
      rw [e] at hfr hfin
      rw [x2, hx] at hfin
      rw [hx] at hfr
      exact safe_walk c now k ws l hfl zs g fi gi n ho hk hk2 fr hfw hgg hf hfr hfin
    · rw [if_neg hm] at hQ
      cases hQ
end Go.Proofs.YtlalcoklkafnnaaGreat

namespace Go.Proofs.YtlalcoklkafnnaaGreat
open Go Go.AW Go.Proofs
open Go.ChangeShapes Go.WideShapes Go.ChangeAt Go.RowKit
set_option maxRecDepth 100000

theorem tnRunsM {N n : Nat} {cs : List AVal} (hN0 : N ≤ 1048576) (h : TyN Tryz.prog N (n + 5) 27 cs) : ∃ l : List Rn, cs = [.slice 14 (rav l) .no] ∧ Sm l ∧ l.length ≤ N := by
  unfold TyN at h
  rw [Tryz.underlying27] at h
  obtain ⟨xs, rfl, hN, hx⟩ := h
  have hc : Tryz.prog.cellsOf 43 = 14 := by kernel_rfl
  obtain ⟨l, rfl, hl⟩ := allsN (av := Rn.av) (Q := fun x => x.hs.length ≤ 1048576) (P := fun x => x ∈ xs) (fun x hm => by
    obtain ⟨cs, rfl⟩ := (hx x hm).2.1 (by kernel_rfl)
    obtain ⟨p, hp, hq⟩ := tnRun (n := n) (hx _ hm).1
    exact ⟨p, by unfold Rn.av; rw [← hp]; rfl, Nat.le_trans hq hN0⟩) xs fun x hm => hm
  exact ⟨l, by rw [hc], ⟨Nat.le_trans (by simpa using hN) hN0, hl⟩, by simpa using hN⟩
theorem tnConM {N n : Nat} {cs : List AVal} (hN0 : N ≤ 1048576) (h : TyN Tryz.prog N (n + 5) 25 cs) : ∃ c : Con, cs = c.cs ∧ c.sm := by
  unfold TyN at h
  rw [Tryz.underlying25] at h
  obtain ⟨x0, r, rfl, h0, x1, r, rfl, h1, x2, r, rfl, h2, x3, r, rfl, h3, rfl⟩ := h
  obtain ⟨ns, rfl, l0⟩ := tnNodes (n := n) h0
  obtain ⟨hs, rfl, l1⟩ := tnHosts (n := n) h1
  obtain ⟨a2, rfl⟩ := tnInt h2
  obtain ⟨a3, rfl⟩ := tnInt h3
  exact ⟨⟨ns, hs, a2, a3⟩, rfl, ⟨Nat.le_trans l0 hN0, Nat.le_trans l1 hN0⟩⟩
theorem tnStM {N n : Nat} {cs : List AVal} (hN0 : N ≤ 1048576) (h : TyN Tryz.prog N (n + 6) 30 cs) : ∃ (c : Con) (now k : Int) (ws : List AVal) (l : List Rn) (zs : List AVal), cs = stCs c now k ws l zs ∧ c.sm ∧ Sm l ∧ l.length ≤ N := by
  unfold TyN at h
  rw [Tryz.underlying30] at h
  obtain ⟨x0, r, rfl, h0, x1, r, rfl, h1, x2, r, rfl, h2, x3, r, rfl, h3, x4, r, rfl, h4, x5, r, rfl, h5, rfl⟩ := h
  obtain ⟨c, rfl, hc⟩ := tnConM (n := n) hN0 h0
  obtain ⟨now, rfl⟩ := tnInt h1
  obtain ⟨k, rfl⟩ := tnInt h2
  obtain ⟨ws, rfl⟩ := tnAny (n := n + 4) Tryz.underlying26 h3
  obtain ⟨l, rfl, hl⟩ := tnRunsM (n := n) hN0 h4
  obtain ⟨zs, rfl⟩ := tnAny (n := n + 4) Tryz.underlying28 h5
  have e1 : Tryz.prog.cellsOf 194 = 11 := by kernel_rfl
  have e2 : Tryz.prog.cellsOf 195 = 1 := by kernel_rfl
  rw [e1, e2]
  exact ⟨c, now, k, ws, l, zs, rfl, hc, hl⟩
section
variable {H : Type} {enc : TypeId × Value → H} {W : World} {r : Reach} {base b0 : Nat} {spare : Nat → Bool} {held : Bool} {v : Value} {d : DataW H} {ps : List MemPlace}
theorem open_stateM {N : Nat} (hN0 : N ≤ 1048576) (hv : Value.okWide Tryz.prog W r b0 30 v) (h : DataW.Trod enc Tryz.prog W base spare held 30 v d ps) (hG : Rows.uptoBulk d ≤ N) : ∃ (c : Con) (now k : Int) (ws : List AVal) (l : List Rn) (zs : List AVal), Rep (Mw W) [] v (.agg (stCs c now k ws l zs)) ∧ c.sm ∧ Sm l ∧ l.length ≤ N := by
  obtain ⟨cs0, hr, ht⟩ := arg_aggN (n := 6) (bulkN H N) (by kernel_rfl) (by kernel_rfl) hv h hG
  obtain ⟨c, now, k, ws, l, zs, rfl, hc, hl⟩ := tnStM (n := 0) hN0 ht
  exact ⟨c, now, k, ws, l, zs, hr, hc, hl⟩
end
end Go.Proofs.YtlalcoklkafnnaaGreat
