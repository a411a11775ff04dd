/-
  The references, as walks; what fits leaves nobody overfull.
-/
import Derived.Test.YtmalnhgopkfdaaaGreatHAB
set_option linter.all false
namespace Go.Proofs.YtmalnhgopkfdaaaGreat
open Go Go.AW Go.Proofs
set_option maxRecDepth 10000
theorem any_find (n : Int) : ∀ (l : List Nod) (i : Nat), decide (0 ≤ findP n l i) = l.any fun x => x.p == n
 | [], i => by simp [findP]
 | x :: r, i => by
  unfold findP
  rw [List.any_cons]
  by_cases h : x.p = n
  ·simp [h]
  ·have := any_find n r (i + 1)
   simp [h, this]
theorem all_not_any (l : List Nod) (n : Int) : (l.all fun x => !(x.p == n)) = !(l.any fun x => x.p == n) := by
 induction l with
 | nil => rfl
 | cons x r ih => rw [List.all_cons, List.any_cons, ih]; cases (x.p == n) <;> simp
theorem rlB_eq (ns : List Nod) (t : Int) : rlB ns t = leafB ns t := by
 unfold rlB leafB
 rw [any_find, all_not_any]
 generalize (ns.any fun x => x.p == t) = b
 by_cases h1 : t < 0
 ·have h2 : ¬ 0 ≤ t := by omega
  simp [h1, h2]
 ·have h3 : 0 ≤ t := by omega
  by_cases h2 : (ns.length : Int) ≤ t
  ·have h4 : ¬ t < (ns.length : Int) := by omega
   simp [h1, h3, h2, h4]
  ·have h4 : t < (ns.length : Int) := by omega
   simp [h1, h3, h2, h4]
def alB (c : Con) (lv a b : Int) : Bool :=
 if lv = 0 then decide (a = b)
 else if lv = 1 then decide ((hosAt c.hs a).f = (hosAt c.hs b).f ∧ (hosAt c.hs a).b = (hosAt c.hs b).b ∧ (hosAt c.hs a).r = (hosAt c.hs b).r)
 else if lv = 2 then decide ((hosAt c.hs a).f = (hosAt c.hs b).f ∧ (hosAt c.hs a).b = (hosAt c.hs b).b)
 else decide ((hosAt c.hs a).f = (hosAt c.hs b).f)
def rfindG (c : Con) (lv i : Int) : List (List Int) → Nat → Option Nat
 | [], _ => none
 | g :: r, k => if alB c lv (g.headD 0) i = true then some k else rfindG c lv i r (k + 1)
def rgS (c : Con) (lv : Int) (s : List (List Int)) (i : Nat) : List (List Int) :=
 match rfindG c lv (i : Int) s 0 with
 | some k => s.set k ((s[k]?).getD [] ++ [(i : Int)])
 | none => s ++ [[(i : Int)]]
def vH (c : Con) (a : Int) : Prop := 0 ≤ a ∧ a.toNat < c.hs.length
structure GH (c : Con) (i : Nat) (s : List (List Int)) : Prop where
 len : s.length ≤ i
 one : ∀ g ∈ s, g.length ≤ i ∧ ∃ a r, g = a :: r ∧ vH c a
theorem GH.step {c : Con} {lv : Int} {i : Nat} {s : List (List Int)} (h : GH c i s) (hi : i < c.hs.length) : GH c (i + 1) (rgS c lv s i) := by
 obtain ⟨h1, h2⟩ := h
 unfold rgS
 split
 ·rename_i k hk
  refine ⟨by simp; omega, fun g hg => ?_⟩
  rcases List.mem_or_eq_of_mem_set hg with hg | rfl
  ·obtain ⟨q1, q2⟩ := h2 g hg
   exact ⟨by omega, q2⟩
  ·by_cases hk2 : k < s.length
   ·rw [List.getElem?_eq_getElem hk2]
    obtain ⟨q1, a, r, q2, q3⟩ := h2 _ (List.getElem_mem hk2)
    refine ⟨by simp; omega, a, r ++ [(i : Int)], ?_, q3⟩
    show s[k] ++ _ = _
    rw [q2]; rfl
   ·rw [List.getElem?_eq_none (by omega)]
    exact ⟨by simp, (i : Int), [], rfl, ⟨by omega, by omega⟩⟩
 ·refine ⟨by simp; omega, fun g hg => ?_⟩
  rcases List.mem_append.1 hg with hg | hg
  ·obtain ⟨q1, q2⟩ := h2 g hg
   exact ⟨by omega, q2⟩
  ·simp at hg
   subst hg
   exact ⟨by simp, (i : Int), [], rfl, ⟨by omega, by omega⟩⟩
abbrev inO (c : Con) (g : Gan) : List AObj := [.cells 26 c.cs, .cells 59 g.cs, .tail 0 1 3]
def findI (p : Int → Bool) : List Int → Nat → Int
 | [], _ => -1
 | x :: r, i => if p x = true then (i : Int) else findI p r (i + 1)
theorem findI_iff (p : Int → Bool) : ∀ (l : List Int) (i : Nat), decide (0 ≤ findI p l i) = l.any p
 | [], i => by simp [findI]
 | x :: r, i => by
  unfold findI
  rw [List.any_cons]
  cases h : p x with
  | true => simp
  | false => simp [findI_iff p r (i + 1)]
def inB (v : Int) (l : List Int) : Bool := l.any fun x => v == x
noncomputable abbrev fIdxI : Func := Tryz.f180
theorem idxI_loop (l : List Int) (hl : l.length ≤ 1048576) (v r : Int) : ∀ (m i : Nat), i + m = l.length → findI (fun x => v == x) (l.drop i) i = r →
  To E fIdxI (.pure (.ret (ii r))) (.head (stk fIdxI 0) [(0, .slice 1 (iv l) .no), (1, ii v), (7, .int .i64 ((iv l).length : Nat)), (8, ii i)] []) := by
 have hlen : (iv l).length = l.length := by simp
 intro m
 induction m with
 | zero =>
  intro i hi hr
  rw [List.drop_eq_nil_of_le (by omega)] at hr
  have hr : -1 = r := hr
  subst hr
  refine goes hE 100 ?_; conv => whnf
  refine aF (by omega) fun h => ?_
  repeat' first | (refine goN hE 100 rfl ?_; conv => whnf) | exact rfl | refine aY ?_ | refine aN ?_ | refine aT (by omega) fun h => ?_ | refine aF (by omega) fun h => ?_ | refine And.intro (fun h => ?_) (fun h => ?_) | refine aJ (by omega) (by omega) ?_ | refine Exists.intro _ (And.intro rfl ?_) | refine And.intro (by decide) ?_ | refine And.intro (by omega) ?_ | fail
 | succ m ih =>
  intro i hi hr
  have hlt : i < l.length := by omega
  rw [List.drop_eq_getElem_cons hlt] at hr
  have get := iv_get hlt
  generalize l[i] = x at hr get
  unfold findI at hr
  have ih := ih (i + 1) (by omega)
  cases hq : (v == x) with
  | true =>
   rw [if_pos hq] at hr
   subst hr
   refine goes hE 100 ?_; conv => whnf
   refine aT (by omega) fun h => ?_
   repeat' first | (refine goN hE 100 rfl ?_; conv => whnf) | refine Exists.intro i (And.intro rfl ?_) | refine Exists.intro _ (And.intro get ?_) | refine And.intro (fun h => ?_) (fun h => absurd h (by rw [hq]; decide)) | exact rfl | refine aY ?_ | refine aN ?_ | refine aT (by omega) fun h => ?_ | refine aF (by omega) fun h => ?_ | refine And.intro (fun h => ?_) (fun h => ?_) | refine aJ (by omega) (by omega) ?_ | refine Exists.intro _ (And.intro rfl ?_) | refine And.intro (by decide) ?_ | refine And.intro (by omega) ?_ | fail
  | false =>
   rw [if_neg (by rw [hq]; decide)] at hr
   have next := ih hr
   refine goes hE 100 ?_; conv => whnf
   refine aT (by omega) fun h => ?_
   repeat' first | (refine goN hE 100 rfl ?_; conv => whnf) | refine Exists.intro i (And.intro rfl ?_) | refine Exists.intro _ (And.intro get ?_) | refine And.intro (fun h => absurd h (by rw [hq]; decide)) (fun h => ?_) | exact rfl | refine aY ?_ | refine aN ?_ | refine aT (by omega) fun h => ?_ | refine aF (by omega) fun h => ?_ | refine And.intro (fun h => ?_) (fun h => ?_) | refine aJ (by omega) (by omega) ?_ | refine Exists.intro _ (And.intro rfl ?_) | refine And.intro (by decide) ?_ | refine And.intro (by omega) ?_ | fail
   exact To.cut [0, 1, 7, 8] 0 rfl rfl rfl rfl next
theorem idxI_ok (l : List Int) (hl : l.length ≤ 1048576) (v : Int) : CallOK Tryz.prog 180 [.slice 1 (iv l) .no, ii v] [] (.ret (ii (findI (fun x => v == x) l 0))) [] := by
 refine CallOK.to (E := E) (fn := Tryz.f180) (g := .pure _) (by rfl) (by rfl) (by rfl) (fun _ _ => by rfl) (by decide +kernel) (by rfl) (by rfl) (by rfl) fun _ => ?_
 refine goes hE 100 ?_; conv => whnf
 exact To.cut [0, 1, 7, 8] 0 rfl rfl rfl rfl (idxI_loop l hl v _ l.length 0 (by omega) rfl)
theorem contI_ok (l : List Int) (hl : l.length ≤ 1048576) (v : Int) : CallOK Tryz.prog 157 [.slice 1 (iv l) .no, ii v] [] (.ret (.bool (inB v l))) [] := by
 have h := idxI_ok l hl v
 have e := findI_iff (fun x => v == x) l 0
 unfold inB
 rw [← e]
 generalize findI (fun x => v == x) l 0 = q at h
 refine CallOK.to (E := E) (fn := Tryz.f157) (g := .pure _) (by rfl) (by rfl) (by rfl) (fun _ _ => by rfl) (by decide +kernel) (by rfl) (by rfl) (by rfl) fun _ => ?_
 repeat' first | (refine goN hE 100 rfl ?_; conv => whnf) | refine .pure _ [] h ?_ | exact rfl | refine aY ?_ | refine aN ?_ | refine aT (by omega) fun h => ?_ | refine aF (by omega) fun h => ?_ | refine And.intro (fun h => ?_) (fun h => ?_) | refine aJ (by omega) (by omega) ?_ | refine Exists.intro _ (And.intro rfl ?_) | refine And.intro (by decide) ?_ | refine And.intro (by omega) ?_ | fail
def withoutL (l : List Rn) (ids : List Int) : List Rn := l.filter fun x => !(inB x.g.id ids)
theorem without_pos {x : Rn} {r : List Rn} {ids : List Int} (h : inB x.g.id ids = false) : withoutL (x :: r) ids = x :: withoutL r ids := List.filter_cons_of_pos (by rw [h]; rfl)
theorem without_neg {x : Rn} {r : List Rn} {ids : List Int} (h : inB x.g.id ids = true) : withoutL (x :: r) ids = withoutL r ids := List.filter_cons_of_neg (by rw [h]; decide)
theorem without_sm {l : List Rn} (hs : Sm l) (ids : List Int) : Sm (withoutL l ids) :=
 ⟨Nat.le_trans (List.length_filter_le _ _) hs.1, fun x hx => hs.2 x (List.mem_filter.1 hx).1⟩
noncomputable abbrev fWo : Func := Tryz.f133
theorem wo_loop (l : List Rn) (hs : Sm l) (ids : List Int) (hd : ids.length ≤ 1048576) (R : List Rn) : ∀ (m i : Nat) (acc : List Rn), i + m = l.length → acc.length ≤ i → acc ++ withoutL (l.drop i) ids = R →
  To (Eo [5] []) fWo (.pure (.ret (.slice 14 (rav R) .no))) (.head (stk fWo 0) [(1, .slice 1 (iv ids) .no), (5, .slice 14 (rav acc) (.own 0 0)), (8, .slice 14 (rav l) .no), (9, .int .i64 ((rav l).length : Nat)), (10, ii i)] [.tail 0 14 70]) := by
 have hlen : (rav l).length = l.length := by simp
 have hl := hs.1
 intro m
 induction m with
 | zero =>
  intro i acc hi ha hR
  rw [List.drop_eq_nil_of_le (by omega)] at hR
  have hR : acc ++ [] = R := hR
  rw [List.append_nil] at hR
  subst hR
  refine goes (hEo [5] []) 100 ?_; conv => whnf
  refine aF (by omega) fun h => ?_
  repeat' first | (refine goN (hEo [5] []) 100 rfl ?_; conv => whnf) | exact rfl | refine aY ?_ | refine aN ?_ | refine aT (by omega) fun h => ?_ | refine aF (by omega) fun h => ?_ | refine And.intro (fun h => ?_) (fun h => ?_) | refine aJ (by omega) (by omega) ?_ | refine Exists.intro _ (And.intro rfl ?_) | refine And.intro (by decide) ?_ | refine And.intro (by omega) ?_ | fail
 | succ m ih =>
  intro i acc hi ha hR
  have hlt : i < l.length := by omega
  have hb := hs.at hlt
  rw [List.drop_eq_getElem_cons hlt] at hR
  generalize hq : l[i] = x at hR hb
  have get : (rav l)[i]? = some x.av := (rav_get hlt).trans (by rw [hq])
  have hla : (rav acc).length = acc.length := by simp
  have hc := contI_ok ids hd x.g.id
  cases hw : inB x.g.id ids with
  | true =>
   rw [hw] at hc
   rw [without_neg hw] at hR
   have next := ih (i + 1) acc (by omega) (by omega) hR
   refine goes (hEo [5] []) 100 ?_; conv => whnf
   refine aT (by omega) fun h => ?_
   repeat' first | (refine goN (hEo [5] []) 100 rfl ?_; conv => whnf) | refine Exists.intro i (And.intro rfl ?_) | refine Exists.intro _ (And.intro get ?_) | refine .pure _ [] hc ?_ | exact rfl | refine aY ?_ | refine aN ?_ | refine aT (by omega) fun h => ?_ | refine aF (by omega) fun h => ?_ | refine And.intro (fun h => ?_) (fun h => ?_) | refine aJ (by omega) (by omega) ?_ | refine Exists.intro _ (And.intro rfl ?_) | refine And.intro (by decide) ?_ | refine And.intro (by omega) ?_ | fail
   refine To.part [1, 5, 8, 9, 10] [0] rfl rfl rfl ?_
   exact next
  | false =>
   rw [hw] at hc
   rw [without_pos hw] at hR
   have next := ih (i + 1) (acc ++ [x]) (by omega) (by simp; omega) (by rw [List.append_assoc]; exact hR)
   have e : rav (acc ++ [x]) = rav acc ++ [x.av] := by simp
   rw [e] at next
   refine goes (hEo [5] []) 100 ?_; conv => whnf
   refine aT (by omega) fun h => ?_
   repeat' first | (refine goN (hEo [5] []) 100 rfl ?_; conv => whnf) | refine Exists.intro i (And.intro rfl ?_) | refine Exists.intro _ (And.intro get ?_) | refine .pure _ [] hc ?_ | refine .pure _ [] (vown_ok x hb) ?_ | refine And.intro (And.intro (by simp only [maxLen]; simp; omega) (by simp; omega)) ?_ | exact rfl | refine aY ?_ | refine aN ?_ | refine aT (by omega) fun h => ?_ | refine aF (by omega) fun h => ?_ | refine And.intro (fun h => ?_) (fun h => ?_) | refine aJ (by omega) (by omega) ?_ | refine Exists.intro _ (And.intro rfl ?_) | refine And.intro (by decide) ?_ | refine And.intro (by omega) ?_ | fail
   refine To.part [1, 5, 8, 9, 10] [0] rfl rfl rfl ?_
   exact next
theorem without_ok (l : List Rn) (hs : Sm l) (ids : List Int) (hd : ids.length ≤ 1048576) : CallOK Tryz.prog 133 [.slice 14 (rav l) .no, .slice 1 (iv ids) .no] [] (.ret (.slice 14 (rav (withoutL l ids)) .no)) [] := by
 refine CallOK.to (E := (Eo [5] [])) (fn := Tryz.f133) (g := .pure _) (by rfl) (by rfl) (by rfl) (fun _ _ => by rfl) (by decide +kernel) (by rfl) (by rfl) (by rfl) fun _ => ?_
 refine goes (hEo [5] []) 100 ?_; conv => whnf
 refine To.part [1, 5, 8, 9, 10] [0] rfl rfl rfl ?_
 exact wo_loop l hs ids hd _ l.length 0 [] (by omega) (by simp) rfl
def V3.pos (d : V3) : Prop := 0 ≤ d.a ∧ 0 ≤ d.b ∧ 0 ≤ d.c
structure Prj (p : V3 → Int) : Prop where
 add : ∀ u v, p (vadd u v) = addI (p u) (p v)
 sub : ∀ u v, p (vsub u v) = subI (p u) (p v)
 pos : ∀ u, p (pos0 u) = max (p u) 0
 zero : p V3.zero = 0
section
variable {p : V3 → Int} (hp : Prj p)
include hp
end
def wiS (h : Int) (b : Bool) (y : Int) : Bool := if b = true then true else decide (y = h)
def withB (G hs : List Int) : Bool := hs.all fun h => G.foldl (wiS h) false
def cntS (h n y : Int) : Int := if y = h then n + 1 else n
def cntI (h : Int) (l : List Int) : Int := l.foldl (cntS h) 0
def fitH (free : List V3) (need : V3) (hs : List Int) (h : Int) : Bool := if decide (h < 0) = true then false else if decide ((free.length : Int) ≤ h) = true then false else !decide (roomI ((free[h.toNat]?).getD V3.zero) need < cntI h hs)
def fitsB (free : List V3) (need : V3) (hs : List Int) : Bool := hs.all (fitH free need hs)
def chkG (free : List V3) (need : V3) (hs : List Int) (G : List Int) : Bool := withB G hs && fitsB free need hs
def chkB (c : Con) (free : List V3) (g : Gan) (hs : List Int) : Bool := if ((hs.length : Int) = g.pods) then (gpL c g.lev).any (chkG free g.need hs) else false
theorem cnt_eq (h : Int) : ∀ (l : List Int) (n : Int), l.foldl (cntS h) n = n + (l.count h : Nat)
 | [], n => by simp
 | y :: r, n => by
  rw [List.foldl_cons, cnt_eq h r]
  unfold cntS
  by_cases hy : y = h
  ·subst hy
   rw [if_pos rfl, List.count_cons_self]
   omega
  ·rw [if_neg hy, List.count_cons_of_ne (by simpa using hy)]
theorem with_iff {G hs : List Int} : withB G hs = true ↔ ∀ h ∈ hs, h ∈ G := by
 have key : ∀ (h : Int) (G : List Int) (b : Bool), G.foldl (wiS h) b = true ↔ b = true ∨ h ∈ G := fun h G => by
  induction G with
  | nil => intro b; simp
  | cons y r ih =>
   intro b
   rw [List.foldl_cons, ih]
   unfold wiS
   cases b with
   | true => simp
   | false => simp [eq_comm]
 unfold withB
 rw [List.all_eq_true]
 constructor
 ·intro q h hh
  have := (key h G false).1 (q h hh)
  simpa using this
 ·intro q h hh
  exact (key h G false).2 (.inr (q h hh))
section
variable {p : V3 → Int} (hp : Prj p)
include hp
end
end Go.Proofs.YtmalnhgopkfdaaaGreat
