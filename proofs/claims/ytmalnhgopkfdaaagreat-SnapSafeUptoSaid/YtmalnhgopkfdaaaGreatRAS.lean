/-
  The references, as walks; what fits leaves nobody overfull.
-/
import Derived.Test.YtmalnhgopkfdaaaGreatHAS
set_option linter.all false
namespace Go.Proofs.YtmalnhgopkfdaaaGreat
open Go Go.AW Go.Proofs
set_option maxRecDepth 10000
theorem rcut_ok (n m : Int) (h0 : 0 ≤ m) (h1 : m ≤ 1099511627776) : CallOK Tryz.prog 101 [ii n, ii m] [] (.ret (ii (cutI n m))) [] := by
 have e : cutI n m = max (0 - m) (min n m) := by unfold cutI; omega
 rw [e]
 refine cT (E := E) (fn := Tryz.f101) (g := .pure _) fun _ => ?_
 repeat' first | (refine gN hE rfl ?_; conv => whnf) | exact rfl | refine aY ?_ | refine aN ?_ | refine aT (by omega) fun h => ?_ | refine aF (by omega) fun h => ?_ | refine ⟨fun h => ?_, fun h => ?_⟩ | refine aJ (by omega) (by omega) ?_ | refine ⟨_, rfl, ?_⟩ | refine ⟨by decide, ?_⟩ | refine ⟨by omega, ?_⟩ | fail
theorem radd_ok (a b : V3) : CallOK Tryz.prog 52 [a.av, b.av] [] (.ret (vadd a b).av) [] := by
 have r1 := cutI_r a.a 1099511627776 (by decide)
 have r2 := cutI_r a.b 1099511627776 (by decide)
 have r3 := cutI_r a.c 1099511627776 (by decide)
 have r4 := cutI_r b.a 1099511627776 (by decide)
 have r5 := cutI_r b.b 1099511627776 (by decide)
 have r6 := cutI_r b.c 1099511627776 (by decide)
 refine cT (E := E) (fn := Tryz.f52) (g := .pure _) fun _ => ?_
 repeat' first
  | (refine gW hE ?_; conv => whnf)
  | refine .pure _ [] (rcut_ok _ _ (by decide) (by decide)) ?_
  | exact rfl
  | refine aY ?_
  | refine aN ?_
  | refine aJ (by omega) (by omega) ?_
  | refine Exists.intro _ (And.intro rfl ?_)
  | refine And.intro (by decide) ?_
theorem rsub_ok (a b : V3) : CallOK Tryz.prog 97 [a.av, b.av] [] (.ret (vsub a b).av) [] := by
 have r1 := cutI_r a.a 1099511627776 (by decide)
 have r2 := cutI_r a.b 1099511627776 (by decide)
 have r3 := cutI_r a.c 1099511627776 (by decide)
 have r4 := cutI_r b.a 1099511627776 (by decide)
 have r5 := cutI_r b.b 1099511627776 (by decide)
 have r6 := cutI_r b.c 1099511627776 (by decide)
 refine cT (E := E) (fn := Tryz.f97) (g := .pure _) fun _ => ?_
 repeat' first
  | (refine gW hE ?_; conv => whnf)
  | refine .pure _ [] (rcut_ok _ _ (by decide) (by decide)) ?_
  | exact rfl
  | refine aY ?_
  | refine aN ?_
  | refine aJ (by omega) (by omega) ?_
  | refine Exists.intro _ (And.intro rfl ?_)
  | refine And.intro (by decide) ?_
theorem rmul_ok (a : V3) (n : Int) : CallOK Tryz.prog 145 [a.av, ii n] [] (.ret (vmul a n).av) [] := by
 have r1 := mul_r a.a n
 have r2 := mul_r a.b n
 have r3 := mul_r a.c n
 refine cT (E := E) (fn := Tryz.f145) (g := .pure _) fun _ => ?_
 repeat' first
  | (refine gW hE ?_; conv => whnf)
  | refine .pure _ [] (rcut_ok _ _ (by decide) (by decide)) ?_
  | exact rfl
  | refine aY ?_
  | refine aN ?_
  | refine aJ (by omega) (by omega) ?_
  | refine Exists.intro _ (And.intro rfl ?_)
  | refine And.intro (by decide) ?_
theorem rdem_ok (g : Gan) : CallOK Tryz.prog 99 [g.av] [] (.ret (dem g).av) [] := by
 refine cT (E := E) (fn := Tryz.f99) (g := .pure _) fun _ => ?_
 repeat' first | (refine gN hE rfl ?_; conv => whnf) | refine .pure _ [] (rmul_ok g.need g.pods) ?_ | exact rfl | refine aY ?_ | refine aN ?_ | refine aT (by omega) fun h => ?_ | refine aF (by omega) fun h => ?_ | refine ⟨fun h => ?_, fun h => ?_⟩ | refine aJ (by omega) (by omega) ?_ | refine ⟨_, rfl, ?_⟩ | refine ⟨by decide, ?_⟩ | refine ⟨by omega, ?_⟩ | fail
theorem rat3_any (l : List V3) (n : Int) (r : V3) (hr : atV l n = r) : CallOK Tryz.prog 147 [.slice 3 (vav l) .no, ii n] [] (.ret r.av) [] := by
 have hl : (vav l).length = l.length := by simp
 unfold atV at hr
 by_cases h1 : n < 0
 ·rw [if_pos (decide_eq_true h1)] at hr
  subst hr
  refine cT (E := E) (fn := Tryz.f147) (g := .pure _) fun _ => ?_
  repeat' first | (refine gN hE rfl ?_; conv => whnf) | exact rfl | refine aY ?_ | refine aN ?_ | refine aT (by omega) fun h => ?_ | refine aF (by omega) fun h => ?_ | refine ⟨fun h => ?_, fun h => ?_⟩ | refine aJ (by omega) (by omega) ?_ | refine ⟨_, rfl, ?_⟩ | refine ⟨by decide, ?_⟩ | refine ⟨by omega, ?_⟩ | fail
 ·rw [if_neg (by rw [decide_eq_false h1]; decide)] at hr
  by_cases h2 : n.toNat < l.length
  ·rw [List.getElem?_eq_getElem h2] at hr
   have get := vav_get h2
   have hr : l[n.toNat] = r := hr
   rw [hr] at get
   have hn : n = (n.toNat : Int) := by omega
   refine cT (E := E) (fn := Tryz.f147) (g := .pure _) fun _ => ?_
   repeat' first | (refine gN hE rfl ?_; conv => whnf) | refine ⟨n.toNat, hn, ?_⟩ | refine ⟨_, get, ?_⟩ | exact rfl | refine aY ?_ | refine aN ?_ | refine aT (by omega) fun h => ?_ | refine aF (by omega) fun h => ?_ | refine ⟨fun h => ?_, fun h => ?_⟩ | refine aJ (by omega) (by omega) ?_ | refine ⟨_, rfl, ?_⟩ | refine ⟨by decide, ?_⟩ | refine ⟨by omega, ?_⟩ | fail
  ·rw [List.getElem?_eq_none (by omega)] at hr
   subst hr
   refine cT (E := E) (fn := Tryz.f147) (g := .pure _) fun _ => ?_
   repeat' first | (refine gN hE rfl ?_; conv => whnf) | exact rfl | refine aY ?_ | refine aN ?_ | refine aT (by omega) fun h => ?_ | refine aF (by omega) fun h => ?_ | refine ⟨fun h => ?_, fun h => ?_⟩ | refine aJ (by omega) (by omega) ?_ | refine ⟨_, rfl, ?_⟩ | refine ⟨by decide, ?_⟩ | refine ⟨by omega, ?_⟩ | fail
theorem rat3_ok (l : List V3) (n : Int) : CallOK Tryz.prog 147 [.slice 3 (vav l) .no, ii n] [] (.ret (atV l n).av) [] := rat3_any l n _ rfl
theorem any_find (n : Int) : ∀ (l : List Nod) (i : Nat), decide (0 ≤ findP n l i) = l.any fun x => x.p == n
 | [], i => by simp [findP]
 | x :: r, i => by
  unfold findP
  rw [List.any_cons]
  by_cases h : x.p = n
  ·simp [h]
  ·have := any_find n r (i + 1)
   simp [h, this]
theorem all_not_any (l : List Nod) (n : Int) : (l.all fun x => !(x.p == n)) = !(l.any fun x => x.p == n) := by
 induction l with
 | nil => rfl
 | cons x r ih => rw [List.all_cons, List.any_cons, ih]; cases (x.p == n) <;> simp
theorem rlB_eq (ns : List Nod) (t : Int) : rlB ns t = leafB ns t := by
 unfold rlB leafB
 rw [any_find, all_not_any]
 generalize (ns.any fun x => x.p == t) = b
 by_cases h1 : t < 0
 ·have h2 : ¬ 0 ≤ t := by omega
  simp [h1, h2]
 ·have h3 : 0 ≤ t := by omega
  by_cases h2 : (ns.length : Int) ≤ t
  ·have h4 : ¬ t < (ns.length : Int) := by omega
   simp [h1, h3, h2, h4]
  ·have h4 : t < (ns.length : Int) := by omega
   simp [h1, h3, h2, h4]
def pathL (ns : List Nod) (n : Int) : List Int := (upL ns n).reverse
theorem foldl_rev {α β : Type} (f : β → α → β) (hf : ∀ b x y, f (f b x) y = f (f b y) x) : ∀ (l : List α) (b : β), l.reverse.foldl f b = l.foldl f b
 | [], b => rfl
 | x :: r, b => by
  have h : ∀ (l : List α) (b : β), l.foldl f (f b x) = f (l.foldl f b) x := fun l => by
   induction l with
   | nil => intro b; rfl
   | cons y r ih => intro b; rw [List.foldl_cons, List.foldl_cons, hf, ih]
  rw [List.reverse_cons, List.foldl_append, foldl_rev f hf r b]
  show f (r.foldl f b) x = r.foldl f (f b x)
  rw [h]
def addP (v : V3) (xs : List V3) (k : Int) : List V3 := xs.set k.toNat (vadd ((xs[k.toNat]?).getD V3.zero) v)
theorem addP_len (v : V3) (xs : List V3) (k : Int) : (addP v xs k).length = xs.length := by unfold addP; simp
theorem addP_get (v : V3) (xs : List V3) (k : Int) (j : Nat) : (addP v xs k)[j]? = if k.toNat = j then (xs[j]?).map fun x => vadd x v else xs[j]? := by
 unfold addP
 rw [List.getElem?_set]
 by_cases h : k.toNat = j
 ·subst h
  rw [if_pos rfl, if_pos rfl]
  by_cases h2 : k.toNat < xs.length
  ·rw [if_pos h2, List.getElem?_eq_getElem h2]
   rfl
  ·rw [if_neg h2, List.getElem?_eq_none (by omega)]
   rfl
 ·rw [if_neg h, if_neg h]
theorem addP_comm (v : V3) (xs : List V3) (a b : Int) : addP v (addP v xs a) b = addP v (addP v xs b) a := by
 refine List.ext_getElem? fun j => ?_
 rw [addP_get, addP_get, addP_get, addP_get]
 by_cases h1 : a.toNat = j <;> by_cases h2 : b.toNat = j <;> simp [h1, h2]
def rofX (c : Con) (xs : List V3) (x : Rn) : List V3 := if leafB c.ns x.g.ten = true then (pathL c.ns x.g.ten).foldl (addP (dem x.g)) xs else xs
def rofL (c : Con) (l : List Rn) : List V3 := l.foldl (rofX c) (List.replicate c.ns.length V3.zero)
theorem addP_fold_len (v : V3) : ∀ (ks : List Int) (xs : List V3), (ks.foldl (addP v) xs).length = xs.length
 | [], _ => rfl
 | k :: r, xs => by rw [List.foldl_cons, addP_fold_len v r, addP_len]
theorem rofX_len (c : Con) (xs : List V3) (x : Rn) : (rofX c xs x).length = xs.length := by
 unfold rofX
 split
 ·exact addP_fold_len _ _ _
 ·rfl
def LedN (L : Led) : Prop := (L.map Prod.fst).Nodup
theorem lput_keys (n : Int) (v : V3) : ∀ (L : Led) (k : Int), k ∈ (lput L n v).map Prod.fst → k = n ∨ k ∈ L.map Prod.fst
 | [], k, h => by simp [lput] at h; exact .inl h
 | (j, w) :: r, k, h => by
  unfold lput at h
  split at h
  ·rename_i hj
   simp only [List.map_cons, List.mem_cons] at h ⊢
   rcases h with rfl | h
   ·exact .inl rfl
   ·exact .inr (.inr h)
  ·simp only [List.map_cons, List.mem_cons] at h ⊢
   rcases h with rfl | h
   ·exact .inr (.inl rfl)
   ·rcases lput_keys n v r k h with h | h
    ·exact .inl h
    ·exact .inr (.inr h)
theorem lput_n (n : Int) (v : V3) : ∀ (L : Led), LedN L → LedN (lput L n v)
 | [], _ => by simp [lput, LedN]
 | (j, w) :: r, h => by
  have h1 := (List.nodup_cons.1 h)
  unfold lput
  split
  ·rename_i hj
   subst hj
   exact h
  ·rename_i hj
   refine List.nodup_cons.2 ⟨fun hm => ?_, lput_n n v r h1.2⟩
   rcases lput_keys n v r _ hm with h | h
   ·exact hj h
   ·exact h1.1 h
theorem ldel_keys (n : Int) : ∀ (L : Led) (k : Int), k ∈ (ldel L n).map Prod.fst → k ∈ L.map Prod.fst
 | [], k, h => h
 | (j, w) :: r, k, h => by
  unfold ldel at h
  simp only [List.map_cons, List.mem_cons]
  split at h
  ·exact .inr h
  ·simp only [List.map_cons, List.mem_cons] at h
   rcases h with h | h
   ·exact .inl h
   ·exact .inr (ldel_keys n r k h)
theorem ldel_n (n : Int) : ∀ (L : Led), LedN L → LedN (ldel L n)
 | [], h => h
 | (j, w) :: r, h => by
  have h1 := (List.nodup_cons.1 h)
  unfold ldel
  split
  ·exact h1.2
  ·exact List.nodup_cons.2 ⟨fun hm => h1.1 (ldel_keys n r _ hm), ldel_n n r h1.2⟩
theorem lget_out : ∀ (L : Led) (n : Int), n ∉ L.map Prod.fst → lgetO L n = none
 | [], n, h => rfl
 | (j, w) :: r, n, h => by
  simp only [List.map_cons, List.mem_cons, not_or] at h
  unfold lgetO
  rw [if_neg (fun e => h.1 e.symm)]
  exact lget_out r n h.2
theorem lget_put (n : Int) (v : V3) (k : Int) : ∀ (L : Led), lgetO (lput L n v) k = if k = n then some v else lgetO L k
 | [] => by
  unfold lput lgetO lgetO
  by_cases h : k = n
  ·rw [if_pos h, if_pos h.symm]
  ·rw [if_neg h, if_neg (fun e => h e.symm)]
 | (j, w) :: r => by
  have ih := lget_put n v k r
  unfold lput
  split
  ·rename_i hj
   subst hj
   unfold lgetO
   by_cases h : k = j
   ·rw [if_pos h, if_pos h.symm]
   ·rw [if_neg h, if_neg (fun e => h e.symm), if_neg (fun e => h e.symm)]
  ·rename_i hj
   unfold lgetO
   rw [ih]
   by_cases h : j = k
   ·rw [if_pos h, if_pos h, if_neg (fun e => hj (h.trans e))]
   ·rw [if_neg h, if_neg h]
theorem lget_del (n : Int) (k : Int) : ∀ (L : Led), LedN L → lgetO (ldel L n) k = if k = n then none else lgetO L k
 | [], _ => by
  unfold ldel lgetO
  split <;> rfl
 | (j, w) :: r, h => by
  have h1 := (List.nodup_cons.1 h)
  have ih := lget_del n k r h1.2
  unfold ldel
  split
  ·rename_i hj
   subst hj
   by_cases h2 : k = j
   ·rw [if_pos h2, h2]
    exact lget_out r j h1.1
   ·rw [if_neg h2]
    conv => rhs; unfold lgetO
    rw [if_neg (fun e => h2 e.symm)]
  ·rename_i hj
   unfold lgetO
   rw [ih]
   by_cases h2 : j = k
   ·rw [if_pos h2, if_pos h2, if_neg (fun e => hj (h2.trans e))]
   ·rw [if_neg h2, if_neg h2]
theorem isZ_zero {v : V3} (h : isZ v = true) : v = V3.zero := by
 obtain ⟨a, b, c⟩ := v
 unfold isZ at h
 simp at h
 obtain ⟨rfl, rfl, rfl⟩ := h
 rfl
theorem lset_n {L : Led} (h : LedN L) (n : Int) (v : V3) : LedN (lset L n v) := by
 unfold lset
 split
 ·exact ldel_n n L h
 ·exact lput_n n v L h
theorem lset_get {L : Led} (h : LedN L) (n : Int) (v : V3) (k : Int) : lgetV (lset L n v) k = if k = n then v else lgetV L k := by
 unfold lset lgetV
 split
 ·rename_i hz
  rw [lget_del n k L h]
  by_cases h2 : k = n
  ·rw [if_pos h2, if_pos h2, isZ_zero hz]; rfl
  ·rw [if_neg h2, if_neg h2]
 ·rw [lget_put]
  by_cases h2 : k = n
  ·rw [if_pos h2, if_pos h2]; rfl
  ·rw [if_neg h2, if_neg h2]
theorem allL_get (n : Nat) (L : Led) (j : Nat) : (allL n L)[j]? = if j < n then some (lgetV L (j : Int)) else none := by
 unfold allL
 rw [List.getElem?_map]
 by_cases h : j < n
 ·rw [if_pos h, List.getElem?_range h]; rfl
 ·rw [if_neg h, List.getElem?_eq_none (by simp; omega)]; rfl
theorem chg_all {n : Nat} {L : Led} (h : LedN L) (v : V3) (k : Int) (h0 : 0 ≤ k) (hk : k.toNat < n) : allL n (chgS v L k) = addP v (allL n L) k := by
 refine List.ext_getElem? fun j => ?_
 rw [addP_get, allL_get, allL_get]
 unfold chgS
 rw [lset_get h]
 by_cases h1 : j < n
 ·rw [if_pos h1, if_pos h1]
  by_cases h2 : k.toNat = j
  ·rw [if_pos h2, if_pos (by omega)]
   have : k = (j : Int) := by omega
   rw [this]
   rfl
  ·rw [if_neg h2, if_neg (by omega)]
 ·rw [if_neg h1, if_neg h1]
  split <;> rfl
theorem chg_n {L : Led} (h : LedN L) (v : V3) (k : Int) : LedN (chgS v L k) := lset_n h _ _
theorem chg_fold {n : Nat} (v : V3) : ∀ (ks : List Int) (L : Led), LedN L → (∀ k ∈ ks, 0 ≤ k ∧ k.toNat < n) → allL n (ks.foldl (chgS v) L) = ks.foldl (addP v) (allL n L) ∧ LedN (ks.foldl (chgS v) L)
 | [], L, h, _ => ⟨rfl, h⟩
 | k :: r, L, h, hk => by
  have h1 := hk k (by simp)
  obtain ⟨e1, e2⟩ := chg_fold v r (chgS v L k) (chg_n h v k) fun x hx => hk x (by simp [hx])
  exact ⟨by rw [List.foldl_cons, e1, chg_all h v k h1.1 h1.2]; rfl, e2⟩
theorem upF_ok (ns : List Nod) : ∀ (f : Nat) (n x : Int), x ∈ upF ns f n → 0 ≤ x ∧ x.toNat < ns.length
 | 0, n, x, h => by simp [upF] at h
 | f + 1, n, x, h => by
  unfold upF at h
  split at h
  ·rename_i h0
   have h0 := of_decide_eq_true h0
   split at h
   ·rename_i h1
    split at h
    ·simp at h; subst h; exact ⟨h0, h1⟩
    ·rcases List.mem_cons.1 h with rfl | h
     ·exact ⟨h0, h1⟩
     ·exact upF_ok ns f _ x h
   ·simp at h
  ·simp at h
theorem ofStep_all (c : Con) (L : Led) (h : LedN L) (x : Rn) : allL c.ns.length (ofStep c L x) = rofX c (allL c.ns.length L) x ∧ LedN (ofStep c L x) := by
 unfold ofStep rofX pathL
 split
 ·obtain ⟨e1, e2⟩ := chg_fold (n := c.ns.length) (dem x.g) (upL c.ns x.g.ten) L h fun k hk => upF_ok _ _ _ _ hk
  exact ⟨by rw [e1, foldl_rev _ (addP_comm _)], e2⟩
 ·exact ⟨rfl, h⟩
theorem of_eq (c : Con) (l : List Rn) : rofL c l = ofL c l := by
 have key : ∀ (l : List Rn) (L : Led), LedN L → l.foldl (rofX c) (allL c.ns.length L) = allL c.ns.length (l.foldl (ofStep c) L) := fun l => by
  induction l with
  | nil => intro L _; rfl
  | cons x r ih =>
   intro L h
   obtain ⟨e1, e2⟩ := ofStep_all c L h x
   rw [List.foldl_cons, List.foldl_cons, ← e1, ih _ e2]
 have h0 : allL c.ns.length [] = List.replicate c.ns.length V3.zero := by
  refine List.ext_getElem? fun j => ?_
  rw [allL_get, List.getElem?_replicate]
  rfl
 unfold rofL ofL
 rw [← h0, key l [] (by simp [LedN])]
noncomputable abbrev fRLvs : Func := Tryz.f171
theorem rlvs_loop (c : Con) (hc : c.sm) (R : List Int) : ∀ (m i : Nat) (acc : List Int), i + m = c.ns.length → acc.length ≤ i → acc ++ lvF c.ns m i = R →
  To (Eo [3] []) fRLvs (.pure (.ret (.slice 1 (iv R) .no))) (.head (stk fRLvs 0) [(1, .ref 0 0), (3, .slice 1 (iv acc) (.own 1 0)), (4, .int .i64 i)] [.cells 26 c.cs, .tail 0 1 3]) := by
 have hlen : (nav c.ns).length = c.ns.length := by simp
 have h1 := hc.ns
 intro m
 induction m with
 | zero =>
  intro i acc hi ha hR
  unfold lvF at hR
  rw [List.append_nil] at hR
  subst hR
  refine gW (hEo [3] []) ?_; conv => whnf
  refine aF (by omega) fun h => ?_
  repeat' first | (refine gN (hEo [3] []) rfl ?_; conv => whnf) | exact rfl | refine aY ?_ | refine aN ?_ | refine aT (by omega) fun h => ?_ | refine aF (by omega) fun h => ?_ | refine ⟨fun h => ?_, fun h => ?_⟩ | refine aJ (by omega) (by omega) ?_ | refine ⟨_, rfl, ?_⟩ | refine ⟨by decide, ?_⟩ | refine ⟨by omega, ?_⟩ | fail
 | succ m ih =>
  intro i acc hi ha hR
  have hla : (iv acc).length = acc.length := by simp
  have hlf := rleaf_ok c hc i
  rw [rlB_eq] at hlf
  unfold lvF at hR
  refine gW (hEo [3] []) ?_; conv => whnf
  refine aT (by omega) fun h => ?_
  refine gW (hEo [3] []) ?_; conv => whnf
  refine .pure _ [] hlf ?_
  refine gW (hEo [3] []) ?_; conv => whnf
  refine And.intro (fun h2 => ?_) (fun h2 => ?_)
  ·have h2 : leafB c.ns (i : Int) = true := h2
   rw [if_pos h2] at hR
   have next := ih (i + 1) (acc ++ [(i : Int)]) (by omega) (by simp; omega) (by rw [List.append_assoc]; exact hR)
   have e : iv (acc ++ [(i : Int)]) = iv acc ++ [ii i] := by simp
   rw [e] at next
   refine gW (hEo [3] []) ?_; conv => whnf
   refine ⟨⟨by simp only [maxLen]; simp; omega, by simp; omega⟩, ?_⟩
   refine gW (hEo [3] []) ?_; conv => whnf
   refine aJ (by omega) (by omega) ?_
   refine gW (hEo [3] []) ?_; conv => whnf
   refine To.part [1, 3, 4] [0, 1] rfl rfl rfl ?_
   exact next
  ·have h2 : leafB c.ns (i : Int) = false := h2
   rw [if_neg (by rw [h2]; decide)] at hR
   have next := ih (i + 1) acc (by omega) (by omega) hR
   refine gW (hEo [3] []) ?_; conv => whnf
   refine aJ (by omega) (by omega) ?_
   refine gW (hEo [3] []) ?_; conv => whnf
   refine To.part [1, 3, 4] [0, 1] rfl rfl rfl ?_
   exact next
theorem rlvs_ok (c : Con) (hc : c.sm) : CallOK Tryz.prog 171 [c.av] [] (.ret (.slice 1 (iv (leavesL c.ns)) .no)) [] := by
 refine cT (E := (Eo [3] [])) (fn := Tryz.f171) (g := .pure _) fun _ => ?_
 refine gW (hEo [3] []) ?_; conv => whnf
 refine To.part [1, 3, 4] [0, 1] rfl rfl rfl ?_
 exact rlvs_loop c hc _ c.ns.length 0 [] (by omega) (by simp) rfl
noncomputable abbrev fRPath : Func := Tryz.f98
theorem rpath_loop (c : Con) (hc : c.sm) (R : List Int) : ∀ (f : Nat) (n : Int) (acc : List Int) (tk : Tk), (tk = .nil ∨ tk = .no) → (0 ≤ n → n.toNat < f) → (0 ≤ n → n.toNat < c.ns.length → acc.length + n.toNat < 1048577) → (upF c.ns f n).reverse ++ acc = R →
  To E fRPath (.pure (.ret (.slice 1 (iv R) .no))) (.head (stk fRPath 0) [(1, ii n), (2, .ref 0 0), (5, .slice 1 (iv acc) tk)] [.cells 26 c.cs]) := by
 have hlen : (nav c.ns).length = c.ns.length := by simp
 have hcn := hc.ns
 intro f
 induction f with
 | zero =>
  intro n acc tk ht hf hb hR
  have hla : (iv acc).length = acc.length := by simp
  have h1 : ¬ 0 ≤ n := fun h => by have := hf h; omega
  have hR : acc = R := hR
  subst hR
  rcases ht with rfl | rfl
  ·refine gW hE ?_; conv => whnf
   repeat' first | (refine gN hE rfl ?_; conv => whnf) | exact rfl | refine aY ?_ | refine aN ?_ | refine aT (by omega) fun h => ?_ | refine aF (by omega) fun h => ?_ | refine ⟨fun h => ?_, fun h => ?_⟩ | refine aJ (by omega) (by omega) ?_ | refine ⟨_, rfl, ?_⟩ | refine ⟨by decide, ?_⟩ | refine ⟨by omega, ?_⟩ | fail
  ·refine gW hE ?_; conv => whnf
   repeat' first | (refine gN hE rfl ?_; conv => whnf) | exact rfl | refine aY ?_ | refine aN ?_ | refine aT (by omega) fun h => ?_ | refine aF (by omega) fun h => ?_ | refine ⟨fun h => ?_, fun h => ?_⟩ | refine aJ (by omega) (by omega) ?_ | refine ⟨_, rfl, ?_⟩ | refine ⟨by decide, ?_⟩ | refine ⟨by omega, ?_⟩ | fail
 | succ f ih =>
  intro n acc tk ht hf hb hR
  have hla : (iv acc).length = acc.length := by simp
  unfold upF at hR
  rcases ht with rfl | rfl
  ·by_cases h1 : 0 ≤ n
   ·rw [if_pos (decide_eq_true h1)] at hR
    by_cases h2 : n.toNat < c.ns.length
    ·rw [dif_pos h2] at hR
     have hb := hb h1 h2
     generalize hx : c.ns[n.toNat] = x at hR
     have get : (nav c.ns)[n.toNat]? = some x.av := (nav_get h2).trans (by rw [hx])
     have hn : n = (n.toNat : Int) := by omega
     by_cases h3 : n ≤ x.p
     ·rw [if_pos (decide_eq_true h3)] at hR
      have hR : n :: acc = R := hR
      subst hR
      refine gW hE ?_; conv => whnf
      repeat' first | (refine gN hE rfl ?_; conv => whnf) | refine ⟨n.toNat, hn, ?_⟩ | refine ⟨_, get, ?_⟩ | refine ⟨⟨by simp only [maxLen]; simp; omega, by simp; omega⟩, ?_⟩ | exact rfl | refine aY ?_ | refine aN ?_ | refine aT (by omega) fun h => ?_ | refine aF (by omega) fun h => ?_ | refine ⟨fun h => ?_, fun h => ?_⟩ | refine aJ (by omega) (by omega) ?_ | refine ⟨_, rfl, ?_⟩ | refine ⟨by decide, ?_⟩ | refine ⟨by omega, ?_⟩ | fail
     ·rw [if_neg (by rw [decide_eq_false h3]; decide), List.reverse_cons, List.append_assoc] at hR
      have next := ih x.p (n :: acc) .no (.inr rfl) (fun _ => by have := hf h1; omega) (fun _ _ => by simp; omega) hR
      refine gW hE ?_; conv => whnf
      repeat' first | (refine gN hE rfl ?_; conv => whnf) | refine ⟨n.toNat, hn, ?_⟩ | refine ⟨_, get, ?_⟩ | refine ⟨⟨by simp only [maxLen]; simp; omega, by simp; omega⟩, ?_⟩ | exact rfl | refine aY ?_ | refine aN ?_ | refine aT (by omega) fun h => ?_ | refine aF (by omega) fun h => ?_ | refine ⟨fun h => ?_, fun h => ?_⟩ | refine aJ (by omega) (by omega) ?_ | refine ⟨_, rfl, ?_⟩ | refine ⟨by decide, ?_⟩ | refine ⟨by omega, ?_⟩ | fail
      refine To.part [1, 2, 5] [0] rfl rfl rfl ?_
      exact next
    ·rw [dif_neg h2] at hR
     have hR : acc = R := hR
     subst hR
     refine gW hE ?_; conv => whnf
     repeat' first | (refine gN hE rfl ?_; conv => whnf) | exact rfl | refine aY ?_ | refine aN ?_ | refine aT (by omega) fun h => ?_ | refine aF (by omega) fun h => ?_ | refine ⟨fun h => ?_, fun h => ?_⟩ | refine aJ (by omega) (by omega) ?_ | refine ⟨_, rfl, ?_⟩ | refine ⟨by decide, ?_⟩ | refine ⟨by omega, ?_⟩ | fail
   ·rw [if_neg (by rw [decide_eq_false h1]; decide)] at hR
    have hR : acc = R := hR
    subst hR
    refine gW hE ?_; conv => whnf
    repeat' first | (refine gN hE rfl ?_; conv => whnf) | exact rfl | refine aY ?_ | refine aN ?_ | refine aT (by omega) fun h => ?_ | refine aF (by omega) fun h => ?_ | refine ⟨fun h => ?_, fun h => ?_⟩ | refine aJ (by omega) (by omega) ?_ | refine ⟨_, rfl, ?_⟩ | refine ⟨by decide, ?_⟩ | refine ⟨by omega, ?_⟩ | fail
  ·by_cases h1 : 0 ≤ n
   ·rw [if_pos (decide_eq_true h1)] at hR
    by_cases h2 : n.toNat < c.ns.length
    ·rw [dif_pos h2] at hR
     have hb := hb h1 h2
     generalize hx : c.ns[n.toNat] = x at hR
     have get : (nav c.ns)[n.toNat]? = some x.av := (nav_get h2).trans (by rw [hx])
     have hn : n = (n.toNat : Int) := by omega
     by_cases h3 : n ≤ x.p
     ·rw [if_pos (decide_eq_true h3)] at hR
      have hR : n :: acc = R := hR
      subst hR
      refine gW hE ?_; conv => whnf
      repeat' first | (refine gN hE rfl ?_; conv => whnf) | refine ⟨n.toNat, hn, ?_⟩ | refine ⟨_, get, ?_⟩ | refine ⟨⟨by simp only [maxLen]; simp; omega, by simp; omega⟩, ?_⟩ | exact rfl | refine aY ?_ | refine aN ?_ | refine aT (by omega) fun h => ?_ | refine aF (by omega) fun h => ?_ | refine ⟨fun h => ?_, fun h => ?_⟩ | refine aJ (by omega) (by omega) ?_ | refine ⟨_, rfl, ?_⟩ | refine ⟨by decide, ?_⟩ | refine ⟨by omega, ?_⟩ | fail
     ·rw [if_neg (by rw [decide_eq_false h3]; decide), List.reverse_cons, List.append_assoc] at hR
      have next := ih x.p (n :: acc) .no (.inr rfl) (fun _ => by have := hf h1; omega) (fun _ _ => by simp; omega) hR
      refine gW hE ?_; conv => whnf
      repeat' first | (refine gN hE rfl ?_; conv => whnf) | refine ⟨n.toNat, hn, ?_⟩ | refine ⟨_, get, ?_⟩ | refine ⟨⟨by simp only [maxLen]; simp; omega, by simp; omega⟩, ?_⟩ | exact rfl | refine aY ?_ | refine aN ?_ | refine aT (by omega) fun h => ?_ | refine aF (by omega) fun h => ?_ | refine ⟨fun h => ?_, fun h => ?_⟩ | refine aJ (by omega) (by omega) ?_ | refine ⟨_, rfl, ?_⟩ | refine ⟨by decide, ?_⟩ | refine ⟨by omega, ?_⟩ | fail
      refine To.part [1, 2, 5] [0] rfl rfl rfl ?_
      exact next
    ·rw [dif_neg h2] at hR
     have hR : acc = R := hR
     subst hR
     refine gW hE ?_; conv => whnf
     repeat' first | (refine gN hE rfl ?_; conv => whnf) | exact rfl | refine aY ?_ | refine aN ?_ | refine aT (by omega) fun h => ?_ | refine aF (by omega) fun h => ?_ | refine ⟨fun h => ?_, fun h => ?_⟩ | refine aJ (by omega) (by omega) ?_ | refine ⟨_, rfl, ?_⟩ | refine ⟨by decide, ?_⟩ | refine ⟨by omega, ?_⟩ | fail
   ·rw [if_neg (by rw [decide_eq_false h1]; decide)] at hR
    have hR : acc = R := hR
    subst hR
    refine gW hE ?_; conv => whnf
    repeat' first | (refine gN hE rfl ?_; conv => whnf) | exact rfl | refine aY ?_ | refine aN ?_ | refine aT (by omega) fun h => ?_ | refine aF (by omega) fun h => ?_ | refine ⟨fun h => ?_, fun h => ?_⟩ | refine aJ (by omega) (by omega) ?_ | refine ⟨_, rfl, ?_⟩ | refine ⟨by decide, ?_⟩ | refine ⟨by omega, ?_⟩ | fail
theorem rpath_ok (c : Con) (hc : c.sm) (n : Int) : CallOK Tryz.prog 98 [c.av, ii n] [] (.ret (.slice 1 (iv (pathL c.ns n)) .no)) [] := by
 have hcn := hc.ns
 refine cT (E := E) (fn := Tryz.f98) (g := .pure _) fun _ => ?_
 refine gW hE ?_; conv => whnf
 refine To.part [1, 2, 5] [0] rfl rfl rfl ?_
 exact rpath_loop c hc _ (n.toNat + 1) n [] .nil (.inl rfl) (fun _ => by omega) (fun _ _ => by simp; omega) (by unfold pathL upL; simp)
theorem upF_len (ns : List Nod) : ∀ (f : Nat) (n : Int), (upF ns f n).length ≤ n.toNat + 1 ∧ (upF ns f n).length ≤ f
 | 0, n => by simp [upF]
 | f + 1, n => by
  unfold upF
  split
  ·split
   ·split
    ·simp
    ·rename_i h0 h1 h2
     have ih := upF_len ns f (ns[n.toNat]).p
     have h2 : ¬ n ≤ (ns[n.toNat]).p := fun h => h2 (decide_eq_true h)
     have h0 := of_decide_eq_true h0
     simp only [List.length_cons]
     refine ⟨?_, by omega⟩
     by_cases h4 : 0 ≤ (ns[n.toNat]).p
     ·omega
     ·have e : (upF ns f (ns[n.toNat]).p) = [] := by
       cases f with
       | zero => rfl
       | succ f =>
               unfold upF
               rw [if_neg (by rw [decide_eq_false h4]; decide)]
      rw [e]
      simp
   ·simp
  ·simp
theorem upL_len (ns : List Nod) (n : Int) : (upL ns n).length ≤ ns.length := by
 by_cases h : 0 ≤ n ∧ n.toNat < ns.length
 ·have := (upF_len ns (n.toNat + 1) n).1
  unfold upL
  omega
 ·unfold upL upF
  by_cases h0 : 0 ≤ n
  ·rw [if_pos (decide_eq_true h0), dif_neg (by omega)]
   simp
  ·rw [if_neg (by rw [decide_eq_false h0]; decide)]
   simp
theorem pathL_len (ns : List Nod) (n : Int) : (pathL ns n).length ≤ ns.length := by
 unfold pathL
 rw [List.length_reverse]
 exact upL_len ns n
noncomputable abbrev fROn : Func := Tryz.f172
def onB (ns : List Nod) (n t : Int) : Bool := (pathL ns t).any fun x => x == n
theorem onB_eq (ns : List Nod) (n t : Int) : onB ns n t = decide (n ∈ upL ns t) := by
 unfold onB pathL
 rw [List.any_reverse, Bool.eq_iff_iff]
 simp
theorem ron_loop (c : Con) (n : Int) (l : List Int) (hl : l.length ≤ 1048576) (r : Bool) : ∀ (m i : Nat), i + m = l.length → ((l.drop i).any fun x => x == n) = r →
  To E fROn (.pure (.ret (.bool r))) (.head (stk fROn 0) [(1, ii n), (7, .slice 1 (iv l) .no), (8, ii i)] [.cells 26 c.cs]) := by
 have hlen : (iv l).length = l.length := by simp
 intro m
 induction m with
 | zero =>
  intro i hi hr
  rw [List.drop_eq_nil_of_le (by omega)] at hr
  have hr : false = r := hr
  subst hr
  refine gW hE ?_; conv => whnf
  refine aF (by omega) fun h => ?_
  repeat' first | (refine gN hE rfl ?_; conv => whnf) | exact rfl | refine aY ?_ | refine aN ?_ | refine aT (by omega) fun h => ?_ | refine aF (by omega) fun h => ?_ | refine ⟨fun h => ?_, fun h => ?_⟩ | refine aJ (by omega) (by omega) ?_ | refine ⟨_, rfl, ?_⟩ | refine ⟨by decide, ?_⟩ | refine ⟨by omega, ?_⟩ | fail
 | succ m ih =>
  intro i hi hr
  have hlt : i < l.length := by omega
  rw [List.drop_eq_getElem_cons hlt, List.any_cons] at hr
  have get := iv_get hlt
  generalize l[i] = x at hr get
  have ih := ih (i + 1) (by omega)
  refine gW hE ?_; conv => whnf
  refine aT (by omega) fun h => ?_
  refine gW hE ?_; conv => whnf
  refine ⟨i, rfl, ?_⟩
  refine gW hE ?_; conv => whnf
  refine ⟨_, get, ?_⟩
  refine gW hE ?_; conv => whnf
  refine And.intro (fun h2 => ?_) (fun h2 => ?_)
  ·have h2 : (x == n) = true := h2
   rw [h2] at hr
   have hr : true = r := hr
   subst hr
   repeat' first | (refine gN hE rfl ?_; conv => whnf) | exact rfl | refine aY ?_ | refine aN ?_ | refine aT (by omega) fun h => ?_ | refine aF (by omega) fun h => ?_ | refine ⟨fun h => ?_, fun h => ?_⟩ | refine aJ (by omega) (by omega) ?_ | refine ⟨_, rfl, ?_⟩ | refine ⟨by decide, ?_⟩ | refine ⟨by omega, ?_⟩ | fail
  ·have h2 : (x == n) = false := h2
   rw [h2, Bool.false_or] at hr
   repeat' first | (refine gN hE rfl ?_; conv => whnf) | exact rfl | refine aY ?_ | refine aN ?_ | refine aT (by omega) fun h => ?_ | refine aF (by omega) fun h => ?_ | refine ⟨fun h => ?_, fun h => ?_⟩ | refine aJ (by omega) (by omega) ?_ | refine ⟨_, rfl, ?_⟩ | refine ⟨by decide, ?_⟩ | refine ⟨by omega, ?_⟩ | fail
   exact To.cut [1, 7, 8] 1 rfl rfl rfl rfl (ih hr)
theorem ron_ok (c : Con) (hc : c.sm) (n t : Int) : CallOK Tryz.prog 172 [c.av, ii n, ii t] [] (.ret (.bool (onB c.ns n t))) [] := by
 have h1 := pathL_len c.ns t
 have hcn := hc.ns
 have hp := rpath_ok c hc t
 unfold onB
 generalize pathL c.ns t = l at h1 hp
 refine cT (E := E) (fn := Tryz.f172) (g := .pure _) fun _ => ?_
 repeat' first | (refine gN hE rfl ?_; conv => whnf) | refine .pure _ [] hp ?_ | exact rfl | refine aY ?_ | refine aN ?_ | refine aT (by omega) fun h => ?_ | refine aF (by omega) fun h => ?_ | refine ⟨fun h => ?_, fun h => ?_⟩ | refine aJ (by omega) (by omega) ?_ | refine ⟨_, rfl, ?_⟩ | refine ⟨by decide, ?_⟩ | refine ⟨by omega, ?_⟩ | fail
 exact To.cut [1, 7, 8] 1 rfl rfl rfl rfl (ron_loop c n l (by omega) _ l.length 0 (by omega) rfl)
noncomputable abbrev fRBel : Func := Tryz.f146
theorem rbelow_loop (c : Con) (hc : c.sm) (n : Int) (l : List Int) (hl : l.length ≤ 1048576) (R : List Int) : ∀ (m i : Nat) (acc : List Int), i + m = l.length → acc.length ≤ i → acc ++ (l.drop i).flatMap (hitL c.ns n) = R →
  To (Eo [5] []) fRBel (.pure (.ret (.slice 1 (iv R) .no))) (.head (stk fRBel 0) [(1, ii n), (2, .ref 0 0), (5, .slice 1 (iv acc) (.own 1 0)), (6, .slice 1 (iv l) .no), (7, ii i)] [.cells 26 c.cs, .tail 0 1 3]) := by
 have hlen : (iv l).length = l.length := by simp
 intro m
 induction m with
 | zero =>
  intro i acc hi ha hR
  rw [List.drop_eq_nil_of_le (by omega)] at hR
  have hR : acc ++ [] = R := hR
  rw [List.append_nil] at hR
  subst hR
  refine gW (hEo [5] []) ?_; conv => whnf
  refine aF (by omega) fun h => ?_
  repeat' first | (refine gN (hEo [5] []) rfl ?_; conv => whnf) | exact rfl | refine aY ?_ | refine aN ?_ | refine aT (by omega) fun h => ?_ | refine aF (by omega) fun h => ?_ | refine ⟨fun h => ?_, fun h => ?_⟩ | refine aJ (by omega) (by omega) ?_ | refine ⟨_, rfl, ?_⟩ | refine ⟨by decide, ?_⟩ | refine ⟨by omega, ?_⟩ | fail
 | succ m ih =>
  intro i acc hi ha hR
  have hla : (iv acc).length = acc.length := by simp
  have hlt : i < l.length := by omega
  rw [List.drop_eq_getElem_cons hlt, List.flatMap_cons] at hR
  have get := iv_get hlt
  generalize l[i] = x at hR get
  have hon := ron_ok c hc n x
  rw [onB_eq] at hon
  unfold hitL at hR
  by_cases h2 : n ∈ upL c.ns x
  ·rw [if_pos h2] at hR
   rw [decide_eq_true h2] at hon
   have next := ih (i + 1) (acc ++ [x]) (by omega) (by simp; omega) (by rw [List.append_assoc]; exact hR)
   have e : iv (acc ++ [x]) = iv acc ++ [ii x] := by simp
   rw [e] at next
   refine gW (hEo [5] []) ?_; conv => whnf
   refine aT (by omega) fun h => ?_
   repeat' first | (refine gN (hEo [5] []) rfl ?_; conv => whnf) | refine ⟨i, rfl, ?_⟩ | refine ⟨_, get, ?_⟩ | refine .pure _ [] hon ?_ | refine ⟨⟨by simp only [maxLen]; simp; omega, by simp; omega⟩, ?_⟩ | exact rfl | refine aY ?_ | refine aN ?_ | refine aT (by omega) fun h => ?_ | refine aF (by omega) fun h => ?_ | refine ⟨fun h => ?_, fun h => ?_⟩ | refine aJ (by omega) (by omega) ?_ | refine ⟨_, rfl, ?_⟩ | refine ⟨by decide, ?_⟩ | refine ⟨by omega, ?_⟩ | fail
   refine To.part [1, 2, 5, 6, 7] [0, 1] rfl rfl rfl ?_
   exact next
  ·rw [if_neg h2] at hR
   rw [decide_eq_false h2] at hon
   have next := ih (i + 1) acc (by omega) (by omega) hR
   refine gW (hEo [5] []) ?_; conv => whnf
   refine aT (by omega) fun h => ?_
   repeat' first | (refine gN (hEo [5] []) rfl ?_; conv => whnf) | refine ⟨i, rfl, ?_⟩ | refine ⟨_, get, ?_⟩ | refine .pure _ [] hon ?_ | exact rfl | refine aY ?_ | refine aN ?_ | refine aT (by omega) fun h => ?_ | refine aF (by omega) fun h => ?_ | refine ⟨fun h => ?_, fun h => ?_⟩ | refine aJ (by omega) (by omega) ?_ | refine ⟨_, rfl, ?_⟩ | refine ⟨by decide, ?_⟩ | refine ⟨by omega, ?_⟩ | fail
   refine To.part [1, 2, 5, 6, 7] [0, 1] rfl rfl rfl ?_
   exact next
theorem rbelow_ok (c : Con) (hc : c.sm) (n : Int) : CallOK Tryz.prog 146 [c.av, ii n] [] (.ret (.slice 1 (iv (belowL c.ns n)) .no)) [] := by
 have hcn := hc.ns
 have h1 : (leavesL c.ns).length ≤ c.ns.length := lvF_len c.ns c.ns.length 0
 have hlv := rlvs_ok c hc
 unfold belowL
 generalize leavesL c.ns = l at h1 hlv
 refine cT (E := (Eo [5] [])) (fn := Tryz.f146) (g := .pure _) fun _ => ?_
 repeat' first | (refine gN (hEo [5] []) rfl ?_; conv => whnf) | refine .pure _ [] hlv ?_ | exact rfl | refine aY ?_ | refine aN ?_ | refine aT (by omega) fun h => ?_ | refine aF (by omega) fun h => ?_ | refine ⟨fun h => ?_, fun h => ?_⟩ | refine aJ (by omega) (by omega) ?_ | refine ⟨_, rfl, ?_⟩ | refine ⟨by decide, ?_⟩ | refine ⟨by omega, ?_⟩ | fail
 refine To.part [1, 2, 5, 6, 7] [0, 1] rfl rfl rfl ?_
 exact rbelow_loop c hc n l (by omega) _ l.length 0 [] (by omega) (by simp) rfl
noncomputable abbrev fRSum : Func := Tryz.f100
theorem rsum_loop (c : Con) (l : List V3) (b : List Int) (hb : b.length ≤ 1048576) (R : V3) : ∀ (m i : Nat) (v : V3), i + m = b.length → (b.drop i).foldl (smS l) v = R →
  To E fRSum (.pure (.ret R.av)) (.head (stk fRSum 0) [(2, .slice 3 (vav l) .no), (6, .ref 1 0), (7, .ref 2 0), (8, .slice 1 (iv b) .no), (9, ii i)] [.cells 26 c.cs, .cells 57 V3.zero.cs, .cells 57 v.cs]) := by
 have hlen : (iv b).length = b.length := by simp
 intro m
 induction m with
 | zero =>
  intro i v hi hR
  rw [List.drop_eq_nil_of_le (by omega)] at hR
  have hR : v = R := hR
  subst hR
  refine gW hE ?_; conv => whnf
  refine aF (by omega) fun h => ?_
  repeat' first | (refine gN hE rfl ?_; conv => whnf) | exact rfl | refine aY ?_ | refine aN ?_ | refine aT (by omega) fun h => ?_ | refine aF (by omega) fun h => ?_ | refine ⟨fun h => ?_, fun h => ?_⟩ | refine aJ (by omega) (by omega) ?_ | refine ⟨_, rfl, ?_⟩ | refine ⟨by decide, ?_⟩ | refine ⟨by omega, ?_⟩ | fail
 | succ m ih =>
  intro i v hi hR
  have hlt : i < b.length := by omega
  rw [List.drop_eq_getElem_cons hlt, List.foldl_cons] at hR
  have get := iv_get hlt
  generalize b[i] = x at hR get
  have hat := rat3_ok l x
  have next := ih (i + 1) (smS l v x) (by omega) hR
  unfold smS at next
  generalize atV l x = u at hat next
  have had := radd_ok v u
  generalize vadd v u = q at had next
  refine gW hE ?_; conv => whnf
  refine aT (by omega) fun h => ?_
  repeat' first | (refine gN hE rfl ?_; conv => whnf) | refine ⟨i, rfl, ?_⟩ | refine ⟨_, get, ?_⟩ | refine .pure _ [] hat ?_ | refine .pure _ [] had ?_ | exact rfl | refine aY ?_ | refine aN ?_ | refine aT (by omega) fun h => ?_ | refine aF (by omega) fun h => ?_ | refine ⟨fun h => ?_, fun h => ?_⟩ | refine aJ (by omega) (by omega) ?_ | refine ⟨_, rfl, ?_⟩ | refine ⟨by decide, ?_⟩ | refine ⟨by omega, ?_⟩ | fail
  exact To.cut [2, 6, 7, 8, 9] 3 rfl rfl rfl rfl next
theorem rsum_ok (c : Con) (hc : c.sm) (n : Int) (l : List V3) : CallOK Tryz.prog 100 [c.av, ii n, .slice 3 (vav l) .no] [] (.ret (sumL c.ns n l).av) [] := by
 have h1 := below_len c hc n
 have hbl := rbelow_ok c hc n
 unfold sumL
 generalize belowL c.ns n = b at h1 hbl
 refine cT (E := E) (fn := Tryz.f100) (g := .pure _) fun _ => ?_
 repeat' first | (refine gN hE rfl ?_; conv => whnf) | refine .pure _ [] hbl ?_ | exact rfl | refine aY ?_ | refine aN ?_ | refine aT (by omega) fun h => ?_ | refine aF (by omega) fun h => ?_ | refine ⟨fun h => ?_, fun h => ?_⟩ | refine aJ (by omega) (by omega) ?_ | refine ⟨_, rfl, ?_⟩ | refine ⟨by decide, ?_⟩ | refine ⟨by omega, ?_⟩ | fail
 exact To.cut [2, 6, 7, 8, 9] 3 rfl rfl rfl rfl (rsum_loop c l b h1 _ b.length 0 V3.zero (by omega) rfl)
noncomputable abbrev fRNom : Func := Tryz.f50
theorem rnod_get {c : Con} {i : Nat} (h : i < c.ns.length) : (nav c.ns)[i]? = some (nodAt c.ns (i : Int)).av := by
 unfold nodAt
 rw [Int.toNat_natCast, List.getElem?_eq_getElem h]
 exact nav_get h
theorem rnom_loop (c : Con) (hc : c.sm) (n : Int) : ∀ (m i : Nat) (acc : List V3), i + m = c.ns.length → acc = (List.range i).map (fun j : Nat => (nodAt c.ns (j : Int)).n) →
  To (Eo [5] []) fRNom (.pure (.ret (sumL c.ns n (nomL c.ns)).av)) (.head (stk fRNom 0) [(1, ii n), (2, .ref 0 0), (4, .ref 1 0), (5, .slice 3 (vav acc) (.own 2 0)), (6, ii i)] [.cells 26 c.cs, .cells 57 V3.zero.cs, .tail 0 3 57]) := by
 have hlen : (nav c.ns).length = c.ns.length := by simp
 have hcn := hc.ns
 intro m
 induction m with
 | zero =>
  intro i acc hi ha
  have hi : i = c.ns.length := by omega
  have ha : acc = nomL c.ns := by rw [ha, hi]; rfl
  subst ha
  have hs := rsum_ok c hc n (nomL c.ns)
  generalize sumL c.ns n (nomL c.ns) = S at hs
  refine gW (hEo [5] []) ?_; conv => whnf
  refine aF (by omega) fun h => ?_
  repeat' first | (refine gN (hEo [5] []) rfl ?_; conv => whnf) | refine .pure _ [] (CallOK.strip hs) ?_ | exact rfl | refine aY ?_ | refine aN ?_ | refine aT (by omega) fun h => ?_ | refine aF (by omega) fun h => ?_ | refine ⟨fun h => ?_, fun h => ?_⟩ | refine aJ (by omega) (by omega) ?_ | refine ⟨_, rfl, ?_⟩ | refine ⟨by decide, ?_⟩ | refine ⟨by omega, ?_⟩ | fail
 | succ m ih =>
  intro i acc hi ha
  have hla : (vav acc).length = acc.length := by simp
  have hla2 : acc.length = i := by rw [ha]; simp
  have get := rnod_get (c := c) (i := i) (by omega)
  have next := ih (i + 1) (acc ++ [(nodAt c.ns (i : Int)).n]) (by omega) (by rw [ha, List.range_succ, List.map_append]; rfl)
  have e : vav (acc ++ [(nodAt c.ns (i : Int)).n]) = vav acc ++ [(nodAt c.ns (i : Int)).n.av] := by simp
  rw [e] at next
  generalize nodAt c.ns (i : Int) = x at get next
  refine gW (hEo [5] []) ?_; conv => whnf
  refine aT (by omega) fun h => ?_
  repeat' first | (refine gN (hEo [5] []) rfl ?_; conv => whnf) | refine ⟨i, rfl, ?_⟩ | refine ⟨_, get, ?_⟩ | refine ⟨⟨by simp only [maxLen]; simp; omega, by simp; omega⟩, ?_⟩ | exact rfl | refine aY ?_ | refine aN ?_ | refine aT (by omega) fun h => ?_ | refine aF (by omega) fun h => ?_ | refine ⟨fun h => ?_, fun h => ?_⟩ | refine aJ (by omega) (by omega) ?_ | refine ⟨_, rfl, ?_⟩ | refine ⟨by decide, ?_⟩ | refine ⟨by omega, ?_⟩ | fail
  refine To.part [1, 2, 4, 5, 6] [0, 1, 2] rfl rfl rfl ?_
  exact next
theorem rnom_ok (c : Con) (hc : c.sm) (n : Int) : CallOK Tryz.prog 50 [c.av, ii n] [] (.ret (sumL c.ns n (nomL c.ns)).av) [] := by
 refine cT (E := (Eo [5] [])) (fn := Tryz.f50) (g := .pure _) fun _ => ?_
 refine gW (hEo [5] []) ?_; conv => whnf
 refine To.part [1, 2, 4, 5, 6] [0, 1, 2] rfl rfl rfl ?_
 exact rnom_loop c hc n c.ns.length 0 [] (by omega) rfl
noncomputable abbrev fROf : Func := Tryz.f49
abbrev ofO (c : Con) (xs : List V3) : List AObj := [.cells 26 c.cs, .row 0 3 57 (vav xs)]
theorem rof_in (c : Con) (l : List Rn) (R : List V3) (x : Rn) (j : Nat) (hj : j < 1048576) (hx : (rav l)[j]? = some x.av) (p : List Int) (hpl : p.length ≤ 1048576) (hpo : ∀ k ∈ p, 0 ≤ k ∧ k.toNat < c.ns.length) :
  ∀ (m i : Nat) (xs : List V3), xs.length = c.ns.length → i + m = p.length →
   To E fROf (.pure (.ret (.slice 3 (vav R) .no))) (.head (stk fROf 0) [(1, .slice 14 (rav l) .no), (2, .ref 0 0), (5, .row 1 0), (6, ii ((j : Int) + 1))] (ofO c ((p.drop i).foldl (addP (dem x.g)) xs))) →
  To E fROf (.pure (.ret (.slice 3 (vav R) .no))) (.head (stk fROf 1) [(1, .slice 14 (rav l) .no), (2, .ref 0 0), (5, .row 1 0), (6, ii j), (7, .slice 1 (iv p) .no), (8, ii i)] (ofO c xs)) := by
 have hlen : (iv p).length = p.length := by simp
 have hll : (rav l).length = l.length := by simp
 intro m
 induction m with
 | zero =>
  intro i xs hxl hi hto
  rw [List.drop_eq_nil_of_le (by omega)] at hto
  refine gW hE ?_; conv => whnf
  refine aF (by omega) fun h => ?_
  refine gW hE ?_; conv => whnf
  refine aJ (by omega) (by omega) ?_
  refine gW hE ?_; conv => whnf
  exact To.cut [1, 2, 5, 6] 2 rfl rfl rfl rfl hto
 | succ m ih =>
  intro i xs hxl hi hto
  have hlt : i < p.length := by omega
  obtain ⟨k0, k1⟩ := hpo _ (List.getElem_mem hlt)
  rw [List.drop_eq_getElem_cons hlt, List.foldl_cons] at hto
  have get := iv_get hlt
  generalize p[i] = k at hto get k0 k1
  have hn : k = (k.toNat : Int) := by omega
  have hvl : (vav xs).length = xs.length := by simp
  have next := ih (i + 1) (addP (dem x.g) xs k) (by rw [addP_len]; exact hxl) (by omega) hto
  have hl2 : k.toNat < xs.length := by omega
  have gv : (vav xs)[k.toNat]? = some xs[k.toNat].av := vav_get hl2
  unfold addP at next
  rw [List.getElem?_eq_getElem hl2, show ((some xs[k.toNat]).getD V3.zero) = xs[k.toNat] from rfl] at next
  generalize xs[k.toNat] = u at gv next
  have hd := rdem_ok x.g
  generalize dem x.g = d at hd next hto
  have ha := radd_ok u d
  generalize vadd u d = q at ha next
  unfold ofO at next
  rw [← vav_set] at next
  refine gW hE ?_; conv => whnf
  refine aT (by omega) fun h => ?_
  repeat' first
   | (refine gN hE rfl ?_; conv => whnf)
   | refine Exists.intro i (And.intro rfl ?_)
   | refine Exists.intro k.toNat (And.intro hn ?_)
   | refine Exists.intro j (And.intro rfl ?_)
   | refine Exists.intro _ (And.intro get ?_)
   | refine Exists.intro _ (And.intro gv ?_)
   | refine Exists.intro _ (And.intro hx ?_)
   | refine .pure _ [] hd ?_
   | refine .pure _ [] ha ?_
   | refine And.intro (by omega) ?_
   | refine aJ (by omega) (by omega) ?_
   | fail
  exact To.cut [1, 2, 5, 6, 7, 8] 2 rfl rfl rfl rfl next
theorem rof_out (c : Con) (hc : c.sm) (l : List Rn) (hl : l.length ≤ 1048576) (R : List V3) : ∀ (m i : Nat) (xs : List V3), i + m = l.length → xs.length = c.ns.length → (l.drop i).foldl (rofX c) xs = R →
  To E fROf (.pure (.ret (.slice 3 (vav R) .no))) (.head (stk fROf 0) [(1, .slice 14 (rav l) .no), (2, .ref 0 0), (5, .row 1 0), (6, ii i)] (ofO c xs)) := by
 have hlen : (rav l).length = l.length := by simp
 have hcn := hc.ns
 intro m
 induction m with
 | zero =>
  intro i xs hi hx hR
  rw [List.drop_eq_nil_of_le (by omega)] at hR
  subst hR
  refine gW hE ?_; conv => whnf
  refine aF (by omega) fun h => ?_
  repeat' first | (refine gN hE rfl ?_; conv => whnf) | exact rfl | refine aY ?_ | refine aN ?_ | refine aT (by omega) fun h => ?_ | refine aF (by omega) fun h => ?_ | refine ⟨fun h => ?_, fun h => ?_⟩ | refine aJ (by omega) (by omega) ?_ | refine ⟨_, rfl, ?_⟩ | refine ⟨by decide, ?_⟩ | refine ⟨by omega, ?_⟩ | fail
 | succ m ih =>
  intro i xs hi hx hR
  have hlt : i < l.length := by omega
  rw [List.drop_eq_getElem_cons hlt, List.foldl_cons] at hR
  have get : (rav l)[i]? = some l[i].av := rav_get hlt
  generalize l[i] = x at hR get
  have next := ih (i + 1) (rofX c xs x) (by omega) (by rw [rofX_len]; exact hx) hR
  have hlf := rleaf_ok c hc x.g.ten
  rw [rlB_eq] at hlf
  unfold rofX at next
  cases hq : leafB c.ns x.g.ten with
  | false =>
   rw [hq] at hlf
   rw [if_neg (by rw [hq]; decide)] at next
   refine gW hE ?_; conv => whnf
   refine aT (by omega) fun h => ?_
   repeat' first | (refine gN hE rfl ?_; conv => whnf) | refine ⟨i, rfl, ?_⟩ | refine ⟨_, get, ?_⟩ | refine .pure _ [] hlf ?_ | exact rfl | refine aY ?_ | refine aN ?_ | refine aT (by omega) fun h => ?_ | refine aF (by omega) fun h => ?_ | refine ⟨fun h => ?_, fun h => ?_⟩ | refine aJ (by omega) (by omega) ?_ | refine ⟨_, rfl, ?_⟩ | refine ⟨by decide, ?_⟩ | refine ⟨by omega, ?_⟩ | fail
   exact To.cut [1, 2, 5, 6] 2 rfl rfl rfl rfl next
  | true =>
   rw [hq] at hlf
   rw [if_pos hq] at next
   have hp := rpath_ok c hc x.g.ten
   have hpl := pathL_len c.ns x.g.ten
   have hpo : ∀ k ∈ pathL c.ns x.g.ten, 0 ≤ k ∧ k.toNat < c.ns.length := fun k hk => upF_ok _ _ _ _ (List.mem_reverse.1 hk)
   generalize pathL c.ns x.g.ten = p at hp hpl hpo next
   have hin := rof_in c l R x i (by omega) get p (by omega) hpo p.length 0 xs hx (by omega) next
   refine gW hE ?_; conv => whnf
   refine aT (by omega) fun h => ?_
   repeat' first | (refine gN hE rfl ?_; conv => whnf) | refine ⟨i, rfl, ?_⟩ | refine ⟨_, get, ?_⟩ | refine .pure _ [] hlf ?_ | refine .pure _ [] hp ?_ | exact rfl | refine aY ?_ | refine aN ?_ | refine aT (by omega) fun h => ?_ | refine aF (by omega) fun h => ?_ | refine ⟨fun h => ?_, fun h => ?_⟩ | refine aJ (by omega) (by omega) ?_ | refine ⟨_, rfl, ?_⟩ | refine ⟨by decide, ?_⟩ | refine ⟨by omega, ?_⟩ | fail
   exact To.cut [1, 2, 5, 6, 7, 8] 2 rfl rfl rfl rfl hin
theorem rof_ok (c : Con) (hc : c.sm) (l : List Rn) (hl : l.length ≤ 1048576) : CallOK Tryz.prog 49 [c.av, .slice 14 (rav l) .no] [] (.ret (.slice 3 (vav (ofL c l)) .no)) [] := by
 have h1 := hc.ns
 have hlen : (nav c.ns).length = c.ns.length := by simp
 rw [← of_eq]
 have next := rof_out c hc l hl (rofL c l) l.length 0 (List.replicate c.ns.length V3.zero) (by omega) (by simp) rfl
 unfold ofO at next
 rw [show vav (List.replicate c.ns.length V3.zero) = List.replicate c.ns.length (AVal.agg [ii 0, ii 0, ii 0]) from by simp [vav, V3.av, V3.zero, V3.cs]] at next
 generalize rofL c l = R at next
 refine cT (E := E) (fn := Tryz.f49) (g := .pure _) fun _ => ?_
 refine gW hE ?_; conv => whnf
 refine ⟨c.ns.length, by rw [hlen], ?_⟩
 refine gW hE ?_; conv => whnf
 refine ⟨⟨rfl, by omega, by simp only [maxLen]; omega⟩, ?_⟩
 refine gW hE ?_; conv => whnf
 exact To.cut [1, 2, 5, 6] 2 rfl rfl rfl rfl next
noncomputable abbrev fRFree : Func := Tryz.f47
theorem rfree_in (c : Con) (r : List Rn) (R : List V3) (x : Rn) (j : Nat) (hj : j < 1048576) (hx : (rav r)[j]? = some x.av) (hh : x.hs.length ≤ 1048576) (hc : c.hs.length ≤ 1048576) :
  ∀ (m i : Nat) (xs : List V3), xs.length = c.hs.length → i + m = x.hs.length →
   To (Er [5] []) fRFree (.pure (.ret (.slice 3 (vav R) .no))) (.head (stk fRFree 1) [(1, .slice 14 (rav r) .no), (5, .row 1 0), (7, ii ((j : Int) + 1))] (ofO c ((x.hs.drop i).foldl (freeS x.g.need) xs))) →
  To (Er [5] []) fRFree (.pure (.ret (.slice 3 (vav R) .no))) (.head (stk fRFree 2) [(1, .slice 14 (rav r) .no), (5, .row 1 0), (7, ii j), (8, ii i)] (ofO c xs)) := by
 have hlen : (iv x.hs).length = x.hs.length := by simp
 have hll : (rav r).length = r.length := by simp
 intro m
 induction m with
 | zero =>
  intro i xs hxl hi hto
  rw [List.drop_eq_nil_of_le (by omega)] at hto
  refine gW (hEr [5] []) ?_; conv => whnf
  refine ⟨j, rfl, ?_⟩
  refine gW (hEr [5] []) ?_; conv => whnf
  refine ⟨_, hx, ?_⟩
  refine gW (hEr [5] []) ?_; conv => whnf
  refine aF (by omega) fun h => ?_
  refine gW (hEr [5] []) ?_; conv => whnf
  refine aJ (by omega) (by omega) ?_
  refine gW (hEr [5] []) ?_; conv => whnf
  refine To.part [1, 5, 7] [0, 1] rfl rfl rfl ?_
  exact hto
 | succ m ih =>
  intro i xs hxl hi hto
  have hlt : i < x.hs.length := by omega
  rw [List.drop_eq_getElem_cons hlt, List.foldl_cons] at hto
  have get := iv_get hlt
  generalize x.hs[i] = u0 at hto get
  have hvl : (vav xs).length = xs.length := by simp
  have next := ih (i + 1) (freeS x.g.need xs u0) (by rw [freeS_len]; exact hxl) (by omega) hto
  unfold freeS ofO at next
  by_cases h1 : 0 ≤ u0
  ·rw [if_pos (decide_eq_true h1)] at next
   by_cases h2 : u0 < (xs.length : Int)
   ·rw [if_pos (decide_eq_true h2)] at next
    have hl2 : u0.toNat < xs.length := by omega
    have hn : u0 = (u0.toNat : Int) := by omega
    rw [List.getElem?_eq_getElem hl2] at next
    have gv : (vav xs)[u0.toNat]? = some xs[u0.toNat].av := vav_get hl2
    rw [show ((some xs[u0.toNat]).getD V3.zero) = xs[u0.toNat] from rfl] at next
    generalize xs[u0.toNat] = u at gv next
    have hsb := rsub_ok u x.g.need
    generalize vsub u x.g.need = q at hsb next
    rw [← vav_set] at next
    refine gW (hEr [5] []) ?_; conv => whnf
    refine ⟨j, rfl, ?_⟩
    refine gW (hEr [5] []) ?_; conv => whnf
    refine ⟨_, hx, ?_⟩
    refine gW (hEr [5] []) ?_; conv => whnf
    refine aT (by omega) fun h => ?_
    repeat' first | (refine gN (hEr [5] []) rfl ?_; conv => whnf) | refine ⟨i, rfl, ?_⟩ | refine ⟨j, rfl, ?_⟩ | refine ⟨u0.toNat, hn, ?_⟩ | refine ⟨_, get, ?_⟩ | refine ⟨_, hx, ?_⟩ | refine ⟨_, gv, ?_⟩ | refine .pure _ [] hsb ?_ | exact rfl | refine aY ?_ | refine aN ?_ | refine aT (by omega) fun h => ?_ | refine aF (by omega) fun h => ?_ | refine ⟨fun h => ?_, fun h => ?_⟩ | refine aJ (by omega) (by omega) ?_ | refine ⟨_, rfl, ?_⟩ | refine ⟨by decide, ?_⟩ | refine ⟨by omega, ?_⟩ | fail
    refine To.part [1, 5, 7, 8] [0, 1] rfl rfl rfl ?_
    exact next
   ·rw [if_neg (by rw [decide_eq_false h2]; decide)] at next
    refine gW (hEr [5] []) ?_; conv => whnf
    refine ⟨j, rfl, ?_⟩
    refine gW (hEr [5] []) ?_; conv => whnf
    refine ⟨_, hx, ?_⟩
    refine gW (hEr [5] []) ?_; conv => whnf
    refine aT (by omega) fun h => ?_
    repeat' first | (refine gN (hEr [5] []) rfl ?_; conv => whnf) | refine ⟨i, rfl, ?_⟩ | refine ⟨j, rfl, ?_⟩ | refine ⟨_, get, ?_⟩ | refine ⟨_, hx, ?_⟩ | exact rfl | refine aY ?_ | refine aN ?_ | refine aT (by omega) fun h => ?_ | refine aF (by omega) fun h => ?_ | refine ⟨fun h => ?_, fun h => ?_⟩ | refine aJ (by omega) (by omega) ?_ | refine ⟨_, rfl, ?_⟩ | refine ⟨by decide, ?_⟩ | refine ⟨by omega, ?_⟩ | fail
    refine To.part [1, 5, 7, 8] [0, 1] rfl rfl rfl ?_
    exact next
  ·rw [if_neg (by rw [decide_eq_false h1]; decide)] at next
   refine gW (hEr [5] []) ?_; conv => whnf
   refine ⟨j, rfl, ?_⟩
   refine gW (hEr [5] []) ?_; conv => whnf
   refine ⟨_, hx, ?_⟩
   refine gW (hEr [5] []) ?_; conv => whnf
   refine aT (by omega) fun h => ?_
   repeat' first | (refine gN (hEr [5] []) rfl ?_; conv => whnf) | refine ⟨i, rfl, ?_⟩ | refine ⟨j, rfl, ?_⟩ | refine ⟨_, get, ?_⟩ | refine ⟨_, hx, ?_⟩ | exact rfl | refine aY ?_ | refine aN ?_ | refine aT (by omega) fun h => ?_ | refine aF (by omega) fun h => ?_ | refine ⟨fun h => ?_, fun h => ?_⟩ | refine aJ (by omega) (by omega) ?_ | refine ⟨_, rfl, ?_⟩ | refine ⟨by decide, ?_⟩ | refine ⟨by omega, ?_⟩ | fail
   refine To.part [1, 5, 7, 8] [0, 1] rfl rfl rfl ?_
   exact next
theorem rfree_out (c : Con) (hc : c.sm) (r : List Rn) (hr : Sm r) (R : List V3) : ∀ (m i : Nat) (xs : List V3), i + m = r.length → xs.length = c.hs.length → (r.drop i).foldl freeX xs = R →
  To (Er [5] []) fRFree (.pure (.ret (.slice 3 (vav R) .no))) (.head (stk fRFree 1) [(1, .slice 14 (rav r) .no), (5, .row 1 0), (7, ii i)] (ofO c xs)) := by
 have hlen : (rav r).length = r.length := by simp
 have hl := hr.1
 intro m
 induction m with
 | zero =>
  intro i xs hi hx hR
  rw [List.drop_eq_nil_of_le (by omega)] at hR
  subst hR
  refine gW (hEr [5] []) ?_; conv => whnf
  refine aF (by omega) fun h => ?_
  repeat' first | (refine gN (hEr [5] []) rfl ?_; conv => whnf) | exact rfl | refine aY ?_ | refine aN ?_ | refine aT (by omega) fun h => ?_ | refine aF (by omega) fun h => ?_ | refine ⟨fun h => ?_, fun h => ?_⟩ | refine aJ (by omega) (by omega) ?_ | refine ⟨_, rfl, ?_⟩ | refine ⟨by decide, ?_⟩ | refine ⟨by omega, ?_⟩ | fail
 | succ m ih =>
  intro i xs hi hx hR
  have hlt : i < r.length := by omega
  have hb := hr.at hlt
  rw [List.drop_eq_getElem_cons hlt, List.foldl_cons] at hR
  generalize hq : r[i] = x at hR hb
  have get : (rav r)[i]? = some x.av := (rav_get hlt).trans (by rw [hq])
  have next := ih (i + 1) (freeX xs x) (by omega) (by rw [freeX_len]; exact hx) hR
  refine gW (hEr [5] []) ?_; conv => whnf
  refine aT (by omega) fun h => ?_
  refine gW (hEr [5] []) ?_; conv => whnf
  refine To.part [1, 5, 7, 8] [0, 1] rfl rfl rfl ?_
  exact rfree_in c r R x i (by omega) get hb hc.hs x.hs.length 0 xs hx (by omega) next
theorem rfree_fill (c : Con) (hc : c.sm) (r : List Rn) (hr : Sm r) : ∀ (m i : Nat) (xs : List V3), i + m = c.hs.length → xs = (List.range i).map (fun j : Nat => (hosAt c.hs (j : Int)).c) →
  To (Er [5] []) fRFree (.pure (.ret (.slice 3 (vav (freeL c r)) .no))) (.head (stk fRFree 0) [(1, .slice 14 (rav r) .no), (2, .ref 0 0), (5, .row 1 0), (6, ii i)] (ofO c xs)) := by
 have hlen : (hav c.hs).length = c.hs.length := by simp
 have h1 := hc.hs
 intro m
 induction m with
 | zero =>
  intro i xs hi hx
  have hi : i = c.hs.length := by omega
  subst hi
  have next := rfree_out c hc r hr (freeL c r) r.length 0 xs (by omega) (by rw [hx]; simp) (by rw [hx]; rfl)
  refine gW (hEr [5] []) ?_; conv => whnf
  refine aF (by omega) fun h => ?_
  refine gW (hEr [5] []) ?_; conv => whnf
  refine To.part [1, 5, 7] [0, 1] rfl rfl rfl ?_
  exact next
 | succ m ih =>
  intro i xs hi hx
  have hxl : xs.length = i := by rw [hx]; simp
  have hvl : (vav xs).length = xs.length := by simp
  have gn : (hav c.hs)[i]? = some (hosAt c.hs (i : Int)).av := hos_get (by omega)
  have next := ih (i + 1) (xs ++ [(hosAt c.hs (i : Int)).c]) (by omega) (by rw [hx, List.range_succ, List.map_append]; rfl)
  unfold ofO at next
  have e : vav (xs ++ [(hosAt c.hs (i : Int)).c]) = vav xs ++ [(hosAt c.hs (i : Int)).c.av] := by simp
  rw [e] at next
  generalize hosAt c.hs (i : Int) = x at gn next
  refine gW (hEr [5] []) ?_; conv => whnf
  refine aT (by omega) fun h => ?_
  repeat' first | (refine gN (hEr [5] []) rfl ?_; conv => whnf) | refine ⟨i, rfl, ?_⟩ | refine ⟨_, gn, ?_⟩ | refine ⟨⟨by simp only [maxLen]; simp; omega, by simp; omega⟩, ?_⟩ | exact rfl | refine aY ?_ | refine aN ?_ | refine aT (by omega) fun h => ?_ | refine aF (by omega) fun h => ?_ | refine ⟨fun h => ?_, fun h => ?_⟩ | refine aJ (by omega) (by omega) ?_ | refine ⟨_, rfl, ?_⟩ | refine ⟨by decide, ?_⟩ | refine ⟨by omega, ?_⟩ | fail
  refine To.part [1, 2, 5, 6] [0, 1] rfl rfl rfl ?_
  exact next
theorem rfree_ok (c : Con) (hc : c.sm) (r : List Rn) (hr : Sm r) : CallOK Tryz.prog 47 [c.av, .slice 14 (rav r) .no] [] (.ret (.slice 3 (vav (freeL c r)) .no)) [] := by
 refine cT (E := (Er [5] [])) (fn := Tryz.f47) (g := .pure _) fun _ => ?_
 refine gW (hEr [5] []) ?_; conv => whnf
 refine To.part [1, 2, 5, 6] [0, 1] rfl rfl rfl ?_
 exact rfree_fill c hc r hr c.hs.length 0 [] (by omega) rfl
theorem validB_iff {v : V3} (h : validB v = true) : (0 ≤ v.a ∧ v.a ≤ 1048576) ∧ (0 ≤ v.b ∧ v.b ≤ 1048576) ∧ (0 ≤ v.c ∧ v.c ≤ 1048576) := by
 unfold validB at h
 simpa [Bool.and_eq_true, and_assoc] using h
theorem vfits_iff {a b : V3} : vfits a b = true ↔ a.a ≤ b.a ∧ a.b ≤ b.b ∧ a.c ≤ b.c := by
 unfold vfits
 by_cases h1 : b.a < a.a
 ·first | (simp [h1]; done) | (simp [h1]; omega)
 by_cases h2 : b.b < a.b
 ·first | (simp [h1, h2]; done) | (simp [h1, h2]; omega)
 by_cases h3 : b.c < a.c
 ·first | (simp [h1, h2, h3]; done) | (simp [h1, h2, h3]; omega)
 first | (simp [h1, h2, h3]; done) | (simp [h1, h2, h3]; omega)
theorem roomS_le {m f k n : Int} (hk : 0 ≤ k) (hf : k ≤ f) : n ≤ roomS m f k ↔ n ≤ m ∧ k * n ≤ f := by
 unfold roomS
 by_cases h : 0 < k
 ·rw [if_pos (decide_eq_true h), Int.tdiv_eq_ediv_of_nonneg (by omega)]
  have := Int.le_ediv_iff_mul_le h (a := n) (b := f)
  rw [Int.mul_comm] at this
  omega
 ·have : k = 0 := by omega
  subst this
  rw [if_neg (by decide)]
  omega
theorem room_le {free need : V3} (hv : validB need = true) (hf : vfits need free = true) (n : Int) : n ≤ roomI free need ↔ n ≤ 16 ∧ need.a * n ≤ free.a ∧ need.b * n ≤ free.b ∧ need.c * n ≤ free.c := by
 obtain ⟨⟨a1, _⟩, ⟨b1, _⟩, c1, _⟩ := validB_iff hv
 obtain ⟨h1, h2, h3⟩ := vfits_iff.1 hf
 unfold roomI
 rw [if_pos hf, roomS_le c1 h3, roomS_le b1 h2, roomS_le a1 h1]
 constructor
 ·rintro ⟨⟨⟨p1, p2⟩, p3⟩, p4⟩; exact ⟨p1, p2, p3, p4⟩
 ·rintro ⟨p1, p2, p3, p4⟩; exact ⟨⟨⟨p1, p2⟩, p3⟩, p4⟩
def vH (c : Con) (a : Int) : Prop := 0 ≤ a ∧ a.toNat < c.hs.length
structure GH (c : Con) (i : Nat) (s : List (List Int)) : Prop where
 len : s.length ≤ i
 one : ∀ g ∈ s, g.length ≤ i ∧ ∃ a r, g = a :: r ∧ vH c a
abbrev inO (c : Con) (g : Gan) : List AObj := [.cells 26 c.cs, .cells 59 g.cs, .tail 0 1 3]
def findI (p : Int → Bool) : List Int → Nat → Int
 | [], _ => -1
 | x :: r, i => if p x = true then (i : Int) else findI p r (i + 1)
theorem findI_iff (p : Int → Bool) : ∀ (l : List Int) (i : Nat), decide (0 ≤ findI p l i) = l.any p
 | [], i => by simp [findI]
 | x :: r, i => by
  unfold findI
  rw [List.any_cons]
  cases h : p x with
  | true => simp
  | false => simp [findI_iff p r (i + 1)]
def inB (v : Int) (l : List Int) : Bool := l.any fun x => v == x
noncomputable abbrev fIdxI : Func := Tryz.f180
theorem idxI_loop (l : List Int) (hl : l.length ≤ 1048576) (v r : Int) : ∀ (m i : Nat), i + m = l.length → findI (fun x => v == x) (l.drop i) i = r →
  To E fIdxI (.pure (.ret (ii r))) (.head (stk fIdxI 0) [(0, .slice 1 (iv l) .no), (1, ii v), (7, .int .i64 ((iv l).length : Nat)), (8, ii i)] []) := by
 have hlen : (iv l).length = l.length := by simp
 intro m
 induction m with
 | zero =>
  intro i hi hr
  rw [List.drop_eq_nil_of_le (by omega)] at hr
  have hr : -1 = r := hr
  subst hr
  refine gW hE ?_; conv => whnf
  refine aF (by omega) fun h => ?_
  repeat' first | (refine gN hE rfl ?_; conv => whnf) | exact rfl | refine aY ?_ | refine aN ?_ | refine aT (by omega) fun h => ?_ | refine aF (by omega) fun h => ?_ | refine ⟨fun h => ?_, fun h => ?_⟩ | refine aJ (by omega) (by omega) ?_ | refine ⟨_, rfl, ?_⟩ | refine ⟨by decide, ?_⟩ | refine ⟨by omega, ?_⟩ | fail
 | succ m ih =>
  intro i hi hr
  have hlt : i < l.length := by omega
  rw [List.drop_eq_getElem_cons hlt] at hr
  have get := iv_get hlt
  generalize l[i] = x at hr get
  unfold findI at hr
  have ih := ih (i + 1) (by omega)
  cases hq : (v == x) with
  | true =>
   rw [if_pos hq] at hr
   subst hr
   refine gW hE ?_; conv => whnf
   refine aT (by omega) fun h => ?_
   repeat' first | (refine gN hE rfl ?_; conv => whnf) | refine ⟨i, rfl, ?_⟩ | refine ⟨_, get, ?_⟩ | refine And.intro (fun h => ?_) (fun h => absurd h (by rw [hq]; decide)) | exact rfl | refine aY ?_ | refine aN ?_ | refine aT (by omega) fun h => ?_ | refine aF (by omega) fun h => ?_ | refine ⟨fun h => ?_, fun h => ?_⟩ | refine aJ (by omega) (by omega) ?_ | refine ⟨_, rfl, ?_⟩ | refine ⟨by decide, ?_⟩ | refine ⟨by omega, ?_⟩ | fail
  | false =>
   rw [if_neg (by rw [hq]; decide)] at hr
   have next := ih hr
   refine gW hE ?_; conv => whnf
   refine aT (by omega) fun h => ?_
   repeat' first | (refine gN hE rfl ?_; conv => whnf) | refine ⟨i, rfl, ?_⟩ | refine ⟨_, get, ?_⟩ | refine And.intro (fun h => absurd h (by rw [hq]; decide)) (fun h => ?_) | exact rfl | refine aY ?_ | refine aN ?_ | refine aT (by omega) fun h => ?_ | refine aF (by omega) fun h => ?_ | refine ⟨fun h => ?_, fun h => ?_⟩ | refine aJ (by omega) (by omega) ?_ | refine ⟨_, rfl, ?_⟩ | refine ⟨by decide, ?_⟩ | refine ⟨by omega, ?_⟩ | fail
   exact To.cut [0, 1, 7, 8] 0 rfl rfl rfl rfl next
theorem idxI_ok (l : List Int) (hl : l.length ≤ 1048576) (v : Int) : CallOK Tryz.prog 180 [.slice 1 (iv l) .no, ii v] [] (.ret (ii (findI (fun x => v == x) l 0))) [] := by
 refine cT (E := E) (fn := Tryz.f180) (g := .pure _) fun _ => ?_
 refine gW hE ?_; conv => whnf
 exact To.cut [0, 1, 7, 8] 0 rfl rfl rfl rfl (idxI_loop l hl v _ l.length 0 (by omega) rfl)
theorem contI_ok (l : List Int) (hl : l.length ≤ 1048576) (v : Int) : CallOK Tryz.prog 157 [.slice 1 (iv l) .no, ii v] [] (.ret (.bool (inB v l))) [] := by
 have h := idxI_ok l hl v
 have e := findI_iff (fun x => v == x) l 0
 unfold inB
 rw [← e]
 generalize findI (fun x => v == x) l 0 = q at h
 refine cT (E := E) (fn := Tryz.f157) (g := .pure _) fun _ => ?_
 repeat' first | (refine gN hE rfl ?_; conv => whnf) | refine .pure _ [] h ?_ | exact rfl | refine aY ?_ | refine aN ?_ | refine aT (by omega) fun h => ?_ | refine aF (by omega) fun h => ?_ | refine ⟨fun h => ?_, fun h => ?_⟩ | refine aJ (by omega) (by omega) ?_ | refine ⟨_, rfl, ?_⟩ | refine ⟨by decide, ?_⟩ | refine ⟨by omega, ?_⟩ | fail
def withoutL (l : List Rn) (ids : List Int) : List Rn := l.filter fun x => !(inB x.g.id ids)
theorem without_pos {x : Rn} {r : List Rn} {ids : List Int} (h : inB x.g.id ids = false) : withoutL (x :: r) ids = x :: withoutL r ids := List.filter_cons_of_pos (by rw [h]; rfl)
theorem without_neg {x : Rn} {r : List Rn} {ids : List Int} (h : inB x.g.id ids = true) : withoutL (x :: r) ids = withoutL r ids := List.filter_cons_of_neg (by rw [h]; decide)
theorem without_sm {l : List Rn} (hs : Sm l) (ids : List Int) : Sm (withoutL l ids) :=
 ⟨Nat.le_trans (List.length_filter_le _ _) hs.1, fun x hx => hs.2 x (List.mem_filter.1 hx).1⟩
noncomputable abbrev fWo : Func := Tryz.f133
theorem wo_loop (l : List Rn) (hs : Sm l) (ids : List Int) (hd : ids.length ≤ 1048576) (R : List Rn) : ∀ (m i : Nat) (acc : List Rn), i + m = l.length → acc.length ≤ i → acc ++ withoutL (l.drop i) ids = R →
  To (Eo [5] []) fWo (.pure (.ret (.slice 14 (rav R) .no))) (.head (stk fWo 0) [(1, .slice 1 (iv ids) .no), (5, .slice 14 (rav acc) (.own 0 0)), (8, .slice 14 (rav l) .no), (9, .int .i64 ((rav l).length : Nat)), (10, ii i)] [.tail 0 14 70]) := by
 have hlen : (rav l).length = l.length := by simp
 have hl := hs.1
 intro m
 induction m with
 | zero =>
  intro i acc hi ha hR
  rw [List.drop_eq_nil_of_le (by omega)] at hR
  have hR : acc ++ [] = R := hR
  rw [List.append_nil] at hR
  subst hR
  refine gW (hEo [5] []) ?_; conv => whnf
  refine aF (by omega) fun h => ?_
  repeat' first | (refine gN (hEo [5] []) rfl ?_; conv => whnf) | exact rfl | refine aY ?_ | refine aN ?_ | refine aT (by omega) fun h => ?_ | refine aF (by omega) fun h => ?_ | refine ⟨fun h => ?_, fun h => ?_⟩ | refine aJ (by omega) (by omega) ?_ | refine ⟨_, rfl, ?_⟩ | refine ⟨by decide, ?_⟩ | refine ⟨by omega, ?_⟩ | fail
 | succ m ih =>
  intro i acc hi ha hR
  have hlt : i < l.length := by omega
  have hb := hs.at hlt
  rw [List.drop_eq_getElem_cons hlt] at hR
  generalize hq : l[i] = x at hR hb
  have get : (rav l)[i]? = some x.av := (rav_get hlt).trans (by rw [hq])
  have hla : (rav acc).length = acc.length := by simp
  have hc := contI_ok ids hd x.g.id
  cases hw : inB x.g.id ids with
  | true =>
   rw [hw] at hc
   rw [without_neg hw] at hR
   have next := ih (i + 1) acc (by omega) (by omega) hR
   refine gW (hEo [5] []) ?_; conv => whnf
   refine aT (by omega) fun h => ?_
   repeat' first | (refine gN (hEo [5] []) rfl ?_; conv => whnf) | refine ⟨i, rfl, ?_⟩ | refine ⟨_, get, ?_⟩ | refine .pure _ [] hc ?_ | exact rfl | refine aY ?_ | refine aN ?_ | refine aT (by omega) fun h => ?_ | refine aF (by omega) fun h => ?_ | refine ⟨fun h => ?_, fun h => ?_⟩ | refine aJ (by omega) (by omega) ?_ | refine ⟨_, rfl, ?_⟩ | refine ⟨by decide, ?_⟩ | refine ⟨by omega, ?_⟩ | fail
   refine To.part [1, 5, 8, 9, 10] [0] rfl rfl rfl ?_
   exact next
  | false =>
   rw [hw] at hc
   rw [without_pos hw] at hR
   have next := ih (i + 1) (acc ++ [x]) (by omega) (by simp; omega) (by rw [List.append_assoc]; exact hR)
   have e : rav (acc ++ [x]) = rav acc ++ [x.av] := by simp
   rw [e] at next
   refine gW (hEo [5] []) ?_; conv => whnf
   refine aT (by omega) fun h => ?_
   repeat' first | (refine gN (hEo [5] []) rfl ?_; conv => whnf) | refine ⟨i, rfl, ?_⟩ | refine ⟨_, get, ?_⟩ | refine .pure _ [] hc ?_ | refine .pure _ [] (vown_ok x hb) ?_ | refine ⟨⟨by simp only [maxLen]; simp; omega, by simp; omega⟩, ?_⟩ | exact rfl | refine aY ?_ | refine aN ?_ | refine aT (by omega) fun h => ?_ | refine aF (by omega) fun h => ?_ | refine ⟨fun h => ?_, fun h => ?_⟩ | refine aJ (by omega) (by omega) ?_ | refine ⟨_, rfl, ?_⟩ | refine ⟨by decide, ?_⟩ | refine ⟨by omega, ?_⟩ | fail
   refine To.part [1, 5, 8, 9, 10] [0] rfl rfl rfl ?_
   exact next
theorem without_ok (l : List Rn) (hs : Sm l) (ids : List Int) (hd : ids.length ≤ 1048576) : CallOK Tryz.prog 133 [.slice 14 (rav l) .no, .slice 1 (iv ids) .no] [] (.ret (.slice 14 (rav (withoutL l ids)) .no)) [] := by
 refine cT (E := (Eo [5] [])) (fn := Tryz.f133) (g := .pure _) fun _ => ?_
 refine gW (hEo [5] []) ?_; conv => whnf
 refine To.part [1, 5, 8, 9, 10] [0] rfl rfl rfl ?_
 exact wo_loop l hs ids hd _ l.length 0 [] (by omega) (by simp) rfl
def V3.le (a b : V3) : Prop := a.a ≤ b.a ∧ a.b ≤ b.b ∧ a.c ≤ b.c
def V3.pos (d : V3) : Prop := 0 ≤ d.a ∧ 0 ≤ d.b ∧ 0 ≤ d.c
theorem vfits_le {a b : V3} : vfits a b = true ↔ a.le b := by
 obtain ⟨a1, a2, a3⟩ := a
 obtain ⟨b1, b2, b3⟩ := b
 unfold vfits V3.le
 by_cases h1 : b1 < a1
 ·first | (simp [h1]; done) | (simp [h1]; omega)
 by_cases h2 : b2 < a2
 ·first | (simp [h1, h2]; done) | (simp [h1, h2]; omega)
 by_cases h3 : b3 < a3
 ·first | (simp [h1, h2, h3]; done) | (simp [h1, h2, h3]; omega)
 first | (simp [h1, h2, h3]; done) | (simp [h1, h2, h3]; omega)
abbrev FarI : Int := 1099511627776
def sumI : List Int → Int
 | [] => 0
 | x :: r => x + sumI r
structure Prj (p : V3 → Int) : Prop where
 add : ∀ u v, p (vadd u v) = addI (p u) (p v)
 sub : ∀ u v, p (vsub u v) = subI (p u) (p v)
 pos : ∀ u, p (pos0 u) = max (p u) 0
 zero : p V3.zero = 0
theorem prjA : Prj V3.a := ⟨fun _ _ => rfl, fun _ _ => rfl, fun _ => rfl, rfl⟩
theorem prjB : Prj V3.b := ⟨fun _ _ => rfl, fun _ _ => rfl, fun _ => rfl, rfl⟩
theorem prjC : Prj V3.c := ⟨fun _ _ => rfl, fun _ _ => rfl, fun _ => rfl, rfl⟩
section
variable {p : V3 → Int} (hp : Prj p)
include hp
end
theorem freeS_get (need : V3) (xs : List V3) (h : Int) (j : Nat) : ((freeS need xs h)[j]?).getD V3.zero = if 0 ≤ h ∧ h.toNat < xs.length ∧ h.toNat = j then vsub ((xs[j]?).getD V3.zero) need else (xs[j]?).getD V3.zero := by
 unfold freeS
 by_cases h1 : 0 ≤ h
 ·rw [if_pos (decide_eq_true h1)]
  by_cases h2 : h < (xs.length : Int)
  ·rw [if_pos (decide_eq_true h2), List.getElem?_set]
   by_cases h3 : h.toNat = j
   ·rw [if_pos h3, if_pos (by omega), if_pos ⟨h1, by omega, h3⟩, h3]
    rfl
   ·rw [if_neg h3, if_neg (fun q => h3 q.2.2)]
  ·rw [if_neg (by rw [decide_eq_false h2]; decide), if_neg (fun q => by omega)]
 ·rw [if_neg (by rw [decide_eq_false h1]; decide), if_neg (fun q => h1 q.1)]
def wiS (h : Int) (b : Bool) (y : Int) : Bool := if b = true then true else decide (y = h)
def withB (G hs : List Int) : Bool := hs.all fun h => G.foldl (wiS h) false
def cntS (h n y : Int) : Int := if y = h then n + 1 else n
def cntI (h : Int) (l : List Int) : Int := l.foldl (cntS h) 0
def fitH (free : List V3) (need : V3) (hs : List Int) (h : Int) : Bool := if decide (h < 0) = true then false else if decide ((free.length : Int) ≤ h) = true then false else !decide (roomI ((free[h.toNat]?).getD V3.zero) need < cntI h hs)
def fitsB (free : List V3) (need : V3) (hs : List Int) : Bool := hs.all (fitH free need hs)
def chkG (free : List V3) (need : V3) (hs : List Int) (G : List Int) : Bool := withB G hs && fitsB free need hs
def chkB (c : Con) (free : List V3) (g : Gan) (hs : List Int) : Bool := if ((hs.length : Int) = g.pods) then (gpL c g.lev).any (chkG free g.need hs) else false
theorem cnt_eq (h : Int) : ∀ (l : List Int) (n : Int), l.foldl (cntS h) n = n + (l.count h : Nat)
 | [], n => by simp
 | y :: r, n => by
  rw [List.foldl_cons, cnt_eq h r]
  unfold cntS
  by_cases hy : y = h
  ·subst hy
   rw [if_pos rfl, List.count_cons_self]
   omega
  ·rw [if_neg hy, List.count_cons_of_ne (by simpa using hy)]
theorem with_iff {G hs : List Int} : withB G hs = true ↔ ∀ h ∈ hs, h ∈ G := by
 have key : ∀ (h : Int) (G : List Int) (b : Bool), G.foldl (wiS h) b = true ↔ b = true ∨ h ∈ G := fun h G => by
  induction G with
  | nil => intro b; simp
  | cons y r ih =>
   intro b
   rw [List.foldl_cons, ih]
   unfold wiS
   cases b with
   | true => simp
   | false => simp [eq_comm]
 unfold withB
 rw [List.all_eq_true]
 constructor
 ·intro q h hh
  have := (key h G false).1 (q h hh)
  simpa using this
 ·intro q h hh
  exact (key h G false).2 (.inr (q h hh))
section
variable {p : V3 → Int} (hp : Prj p)
include hp
end
end Go.Proofs.YtmalnhgopkfdaaaGreat
