/-
  The row of those that wait; which states may be, as walks.
-/
import Derived.Test.YtmalnhgopkfdaaaGreatCAS
set_option linter.all false
namespace Go.Proofs.YtmalnhgopkfdaaaGreat.Q2
open Go Go.AW Go.Proofs
structure Pend where
 (id tenant pods n0 n1 n2 run level prefer seq since : Int)
 deriving DecidableEq
def Pend.cs (p : Pend) : List AVal := [.int .i64 p.id, .int .i64 p.tenant, .int .i64 p.pods, .int .i64 p.n0, .int .i64 p.n1, .int .i64 p.n2, .int .i64 p.run, .int .i64 p.level, .int .i64 p.prefer, .int .i64 p.seq, .int .i64 p.since]
def Pend.av (p : Pend) : AVal := .agg p.cs
abbrev pav (l : List Pend) : List AVal := l.map Pend.av
theorem in64 {n : Int} (h1 : -9223372036854775808 ≤ n) (h2 : n ≤ 9223372036854775807) : inR .i64 n := ⟨by simp only [kmin]; omega, by simp only [kmax]; omega⟩
def idx (p : Pend → Bool) : List Pend → Int → Int
 | [], _ => -1
 | x :: r, i => if p x then i else idx p r (i + 1)
def findP (a : Int) (l : List Pend) : Int := idx (fun x => x.id == a) l 0
theorem pav_get {l : List Pend} {i : Nat} (h : i < l.length) : (pav l)[i]? = some l[i].av := by
 simp [pav, h]
set_option maxRecDepth 10000
theorem id_ok (p : Pend) : CallOK Tryz.prog 217 [p.av] [] (.ret (.int .i64 p.id)) [] := by
 refine cT (E := E) (fn := Tryz.f217) (g := .pure _) fun _ => ?_
 refine gW hE ?_; conv => whnf
theorem seq_ok (p : Pend) : CallOK Tryz.prog 218 [p.av] [] (.ret (.int .i64 p.seq)) [] := by
 refine cT (E := E) (fn := Tryz.f218) (g := .pure _) fun _ => ?_
 refine gW hE ?_; conv => whnf
theorem is_ok (p : Pend) (b : Int) : CallOK Tryz.prog 128 [.iface 141 p.av, .int .i64 b] [] (.ret (.bool (p.id == b))) [] := by
 refine cT (E := E) (fn := Tryz.f128) (g := .pure _) fun _ => ?_
 refine gW hE ?_; conv => whnf
 refine .pure _ [] (id_ok p) ?_
 refine gW hE ?_; conv => whnf
theorem behind_ok (p q : Pend) : CallOK Tryz.prog 84 [.iface 141 p.av, .iface 141 q.av] [] (.ret (.bool (decide (q.seq < p.seq)))) [] := by
 refine cT (E := E) (fn := Tryz.f84) (g := .pure _) fun _ => ?_
 refine gW hE ?_; conv => whnf
 refine .pure _ [] (seq_ok p) ?_
 refine gW hE ?_; conv => whnf
 refine .pure _ [] (seq_ok q) ?_
 refine gW hE ?_; conv => whnf
theorem findC_ok (x : Pend) (a : Int) : CallOK Tryz.prog 127 [x.av, .ptr [.int .i64 a]] [] (.ret (.bool (x.id == a))) [] := by
 refine cT (E := E) (fn := Tryz.f127) (g := .pure _) fun _ => ?_
 refine gW hE ?_; conv => whnf
 refine .pure _ [] (is_ok x a) ?_
 refine gW hE ?_; conv => whnf
theorem index_loop (f : FuncId) (l : List AVal) (xs : List Pend) (p : Pend → Bool) (hf : ∀ x ∈ xs, CallOK Tryz.prog f [x.av, .ptr l] [] (.ret (.bool (p x))) []) (hl : ((pav xs).length : Int) ≤ 9223372036854775807) (r : Int) :
  ∀ (n i : Nat), i + n = xs.length → idx p (xs.drop i) i = r →
  To E Tryz.f126 (.pure (.ret (.int .i64 r))) (.head (stk Tryz.f126 0)
   [(0, .slice 11 (pav xs) .no), (1, .func (.func f) [] [.ptr l]), (7, .int .i64 ((pav xs).length : Nat)), (8, .int .i64 i)] []) := by
 have hlen : (pav xs).length = xs.length := by simp
 intro n
 induction n with
 | zero =>
  intro i hi hr
  refine gW hE ?_; conv => whnf
  refine ⟨fun h => ?_, fun h => ?_⟩
  ·exact absurd (of_decide_eq_true h) (by omega)
  ·refine gW hE ?_; conv => whnf
   rw [List.drop_eq_nil_of_le (by omega)] at hr
   rw [← hr]
   rfl
 | succ n ih =>
  intro i hi hr
  have hlt : i < xs.length := by omega
  refine gW hE ?_; conv => whnf
  refine ⟨fun h => ?_, fun h => ?_⟩
  ·refine gW hE ?_; conv => whnf
   refine ⟨i, rfl, ?_⟩
   refine gW hE ?_; conv => whnf
   refine ⟨_, pav_get hlt, ?_⟩
   refine gW hE ?_; conv => whnf
   refine .pure _ [] (hf xs[i] (List.getElem_mem hlt)) ?_
   refine gW hE ?_; conv => whnf
   rw [List.drop_eq_getElem_cons hlt] at hr
   have hr : (if p xs[i] then (i : Int) else idx p (xs.drop (i + 1)) ((i : Int) + 1)) = r := hr
   refine ⟨fun h2 => ?_, fun h2 => ?_⟩
   ·refine gW hE ?_; conv => whnf
    rw [if_pos h2] at hr
    rw [hr]
   ·refine gW hE ?_; conv => whnf
    rw [if_neg (by rw [h2]; simp)] at hr
    refine .inl ⟨⟨by simp only [kmin]; omega, by simp only [kmax]; omega⟩, ?_⟩
    refine gW hE ?_; conv => whnf
    refine To.head [0, 1, 7, 8] ?_
    exact ih (i + 1) (by omega) (by rw [← hr]; push_cast; rfl)
  ·exact absurd (of_decide_eq_false h) (by omega)
theorem index_ok (f : FuncId) (l : List AVal) (xs : List Pend) (p : Pend → Bool) (hf : ∀ x ∈ xs, CallOK Tryz.prog f [x.av, .ptr l] [] (.ret (.bool (p x))) []) :
  CallOK Tryz.prog 126 [.slice 11 (pav xs) .no, .func (.func f) [] [.ptr l]] [] (.ret (.int .i64 (idx p xs 0))) [] := by
 refine cT (E := E) (fn := Tryz.f126) (g := .pure _) fun ho => ?_
 refine gW hE ?_; conv => whnf
 refine To.head [0, 1, 7, 8] ?_
 exact index_loop f l xs p hf ho.1 _ xs.length 0 (by omega) (by simp)
theorem find_ok (xs : List Pend) (a : Int) : CallOK Tryz.prog 85 [.slice 11 (pav xs) .no, .int .i64 a] [] (.ret (.int .i64 (findP a xs))) [] := by
 refine cT (E := E) (fn := Tryz.f85) (g := .pure _) fun _ => ?_
 refine gW hE ?_; conv => whnf
 refine .pure _ [] (index_ok _ _ xs (fun x => x.id == a) fun x _ => findC_ok x a) ?_
 refine gW hE ?_; conv => whnf
 rfl
theorem findref_loop (xs : List Pend) (a : Int) (hl : ((pav xs).length : Int) ≤ 9223372036854775807) (r : Int) : ∀ (n i : Nat), i + n = xs.length → idx (fun x => x.id == a) (xs.drop i) i = r →
  To E Tryz.f96 (.pure (.ret (.int .i64 r))) (.head (stk Tryz.f96 0) [(0, .slice 11 (pav xs) .no), (1, .int .i64 a), (5, .int .i64 i)] []) := by
 have hlen : (pav xs).length = xs.length := by simp
 intro n
 induction n with
 | zero =>
  intro i hi hr
  refine gW hE ?_; conv => whnf
  refine ⟨fun h => ?_, fun h => ?_⟩
  ·exact absurd (of_decide_eq_true h) (by omega)
  ·refine gW hE ?_; conv => whnf
   rw [List.drop_eq_nil_of_le (by omega)] at hr
   rw [← hr]
   rfl
 | succ n ih =>
  intro i hi hr
  have hlt : i < xs.length := by omega
  refine gW hE ?_; conv => whnf
  refine ⟨fun h => ?_, fun h => ?_⟩
  ·refine gW hE ?_; conv => whnf
   refine ⟨i, rfl, ?_⟩
   refine gW hE ?_; conv => whnf
   refine ⟨_, pav_get hlt, ?_⟩
   refine gW hE ?_; conv => whnf
   rw [List.drop_eq_getElem_cons hlt] at hr
   have hr : (if xs[i].id == a then (i : Int) else idx (fun x => x.id == a) (xs.drop (i + 1)) ((i : Int) + 1)) = r := hr
   refine ⟨fun h2 => ?_, fun h2 => ?_⟩
   ·refine gW hE ?_; conv => whnf
    rw [if_pos h2] at hr
    rw [hr]
   ·refine gW hE ?_; conv => whnf
    rw [if_neg (by rw [h2]; simp)] at hr
    refine .inl ⟨in64 (by omega) (by omega), ?_⟩
    refine gW hE ?_; conv => whnf
    refine To.head [0, 1, 5] ?_
    exact ih (i + 1) (by omega) (by rw [← hr]; push_cast; rfl)
  ·exact absurd (of_decide_eq_false h) (by omega)
theorem findref_ok (xs : List Pend) (a : Int) : CallOK Tryz.prog 96 [.slice 11 (pav xs) .no, .int .i64 a] [] (.ret (.int .i64 (findP a xs))) [] := by
 refine cT (E := E) (fn := Tryz.f96) (g := .pure _) fun ho => ?_
 refine gW hE ?_; conv => whnf
 refine To.head [0, 1, 5] ?_
 exact findref_loop xs a ho.1 _ xs.length 0 (by omega) (by simp [findP])
def okAt (l : List Pend) (i : Nat) : Bool := match l[i]?, l[i - 1]? with
 | some c, some p => !((decide (0 < i) && !decide (p.seq < c.seq)) || (findP c.id l != (i : Int)))
 | _, _ => true
def checkFrom (l : List Pend) : Nat → Nat → Bool
 | 0, _ => true
 | n + 1, i => okAt l i && checkFrom l n (i + 1)
def checkP (l : List Pend) : Bool := checkFrom l l.length 0
theorem check_loop (l : List Pend) (hl : l.length ≤ 1000000) (r : Bool) : ∀ (n i : Nat), i + n = l.length → checkFrom l n i = r →
  To E Tryz.f39 (.pure (.ret (.bool r))) (.head (stk Tryz.f39 0) [(0, .slice 11 (pav l) .no), (5, .slice 11 (pav l) .no), (6, .int .i64 ((pav l).length : Nat)), (7, .int .i64 i)] []) := by
 have hlen : (pav l).length = l.length := by simp
 intro n
 induction n with
 | zero =>
  intro i hi hr
  refine gW hE ?_; conv => whnf
  refine ⟨fun h => ?_, fun h => ?_⟩
  ·exact absurd (of_decide_eq_true h) (by omega)
  ·refine gW hE ?_; conv => whnf
   rw [← hr]
   rfl
 | succ n ih =>
  intro i hi hr
  have hlt : i < l.length := by omega
  have hr : (okAt l i && checkFrom l n (i + 1)) = r := hr
  have back : checkFrom l n (i + 1) = r → inR .i64 ((i : Int) + 1) ∧ To E Tryz.f39 (.pure (.ret (.bool r))) (.head (stk Tryz.f39 0) [(0, .slice 11 (pav l) .no), (5, .slice 11 (pav l) .no), (6, .int .i64 ((pav l).length : Nat)), (7, .int .i64 ((i : Int) + 1))] []) := fun h =>
   ⟨in64 (by omega) (by omega), by have := ih (i + 1) (by omega) h; push_cast at this; exact this⟩
  refine gW hE ?_; conv => whnf
  refine ⟨fun h => ?_, fun h => ?_⟩
  ·refine gW hE ?_; conv => whnf
   refine ⟨i, rfl, ?_⟩
   refine gW hE ?_; conv => whnf
   refine ⟨_, pav_get hlt, ?_⟩
   refine gW hE ?_; conv => whnf
   refine ⟨fun h1 => ?_, fun h1 => ?_⟩
   ·have hpos : 0 < i := by have := of_decide_eq_true h1; omega
    have hlt1 : i - 1 < l.length := by omega
    have hok : okAt l i = !((true && !decide (l[i - 1].seq < l[i].seq)) || (findP l[i].id l != (i : Int))) := by
     unfold okAt
     rw [List.getElem?_eq_getElem hlt, List.getElem?_eq_getElem hlt1, decide_eq_true hpos]
    refine gW hE ?_; conv => whnf
    refine .inl ⟨in64 (by omega) (by omega), ?_⟩
    refine gW hE ?_; conv => whnf
    refine ⟨i - 1, by omega, ?_⟩
    refine gW hE ?_; conv => whnf
    refine ⟨_, pav_get hlt1, ?_⟩
    refine gW hE ?_; conv => whnf
    refine .pure _ [] (behind_ok _ _) ?_
    refine gW hE ?_; conv => whnf
    refine ⟨fun h2 => ?_, fun h2 => ?_⟩
    ·refine gW hE ?_; conv => whnf
     refine ⟨fun _ => ?_, fun h3 => (by cases h3)⟩
     refine gW hE ?_; conv => whnf
     rw [hok, h2] at hr
     rw [← hr]
     rfl
    ·refine gW hE ?_; conv => whnf
     refine .pure _ [] (find_ok _ _) ?_
     refine gW hE ?_; conv => whnf
     refine ⟨fun h3 => ?_, fun h3 => ?_⟩
     ·refine gW hE ?_; conv => whnf
      rw [hok, h2, h3] at hr
      rw [← hr]
      rfl
     ·refine gW hE ?_; conv => whnf
      rw [hok, h2, h3] at hr
      obtain ⟨b1, b2⟩ := back hr
      refine .inl ⟨b1, ?_⟩
      refine gW hE ?_; conv => whnf
      refine To.cut [0, 5, 6, 7] 0 rfl rfl rfl rfl ?_
      exact b2
   ·have h0 : i = 0 := by have := of_decide_eq_false h1; omega
    have hok : okAt l i = !((false && false) || (findP l[i].id l != (i : Int))) := by
     unfold okAt
     have hlt1 : i - 1 < l.length := by omega
     rw [List.getElem?_eq_getElem hlt, List.getElem?_eq_getElem hlt1]
     subst h0
     simp
    refine gW hE ?_; conv => whnf
    refine ⟨fun h2 => (by cases h2), fun _ => ?_⟩
    refine gW hE ?_; conv => whnf
    refine .pure _ [] (find_ok _ _) ?_
    refine gW hE ?_; conv => whnf
    refine ⟨fun h3 => ?_, fun h3 => ?_⟩
    ·refine gW hE ?_; conv => whnf
     rw [hok, h3] at hr
     rw [← hr]
     rfl
    ·refine gW hE ?_; conv => whnf
     rw [hok, h3] at hr
     obtain ⟨b1, b2⟩ := back hr
     refine .inl ⟨b1, ?_⟩
     refine gW hE ?_; conv => whnf
     refine To.cut [0, 5, 6, 7] 0 rfl rfl rfl rfl ?_
     exact b2
  ·exact absurd (of_decide_eq_false h) (by omega)
theorem check_ok (l : List Pend) (hl : l.length ≤ 1000000) : CallOK Tryz.prog 39 [.slice 11 (pav l) .no] [] (.ret (.bool (checkP l))) [] := by
 refine cT (E := E) (fn := Tryz.f39) (g := .pure _) fun _ => ?_
 refine gW hE ?_; conv => whnf
 refine To.cut [0, 5, 6, 7] 0 rfl rfl rfl rfl ?_
 exact check_loop l hl _ l.length 0 (by omega) rfl
theorem checkref_loop (l : List Pend) (hl : l.length ≤ 1000000) (r : Bool) : ∀ (n i : Nat), i + n = l.length → checkFrom l n i = r →
  To E Tryz.f45 (.pure (.ret (.bool r))) (.head (stk Tryz.f45 0) [(0, .slice 11 (pav l) .no), (3, .int .i64 i)] []) := by
 have hlen : (pav l).length = l.length := by simp
 intro n
 induction n with
 | zero =>
  intro i hi hr
  refine gW hE ?_; conv => whnf
  refine ⟨fun h => ?_, fun h => ?_⟩
  ·exact absurd (of_decide_eq_true h) (by omega)
  ·refine gW hE ?_; conv => whnf
   rw [← hr]
   rfl
 | succ n ih =>
  intro i hi hr
  have hlt : i < l.length := by omega
  have hr : (okAt l i && checkFrom l n (i + 1)) = r := hr
  have back : checkFrom l n (i + 1) = r → inR .i64 ((i : Int) + 1) ∧ To E Tryz.f45 (.pure (.ret (.bool r))) (.head (stk Tryz.f45 0) [(0, .slice 11 (pav l) .no), (3, .int .i64 ((i : Int) + 1))] []) := fun h =>
   ⟨in64 (by omega) (by omega), by have := ih (i + 1) (by omega) h; push_cast at this; exact this⟩
  refine gW hE ?_; conv => whnf
  refine ⟨fun h => ?_, fun h => ?_⟩
  ·refine gW hE ?_; conv => whnf
   refine ⟨fun h1 => ?_, fun h1 => ?_⟩
   ·have hpos : 0 < i := by have := of_decide_eq_true h1; omega
    have hlt1 : i - 1 < l.length := by omega
    have hok : okAt l i = !((true && !decide (l[i - 1].seq < l[i].seq)) || (findP l[i].id l != (i : Int))) := by
     unfold okAt
     rw [List.getElem?_eq_getElem hlt, List.getElem?_eq_getElem hlt1, decide_eq_true hpos]
    have hle : (!decide (l[i - 1].seq < l[i].seq)) = decide (l[i].seq ≤ l[i - 1].seq) := by
     by_cases hq : l[i - 1].seq < l[i].seq
     ·rw [decide_eq_true hq, decide_eq_false (by omega)]; rfl
     ·rw [decide_eq_false hq, decide_eq_true (by omega)]; rfl
    rw [hle] at hok
    refine gW hE ?_; conv => whnf
    refine ⟨i, rfl, ?_⟩
    refine gW hE ?_; conv => whnf
    refine ⟨_, pav_get hlt, ?_⟩
    refine gW hE ?_; conv => whnf
    refine .inl ⟨in64 (by omega) (by omega), ?_⟩
    refine gW hE ?_; conv => whnf
    refine ⟨i - 1, by omega, ?_⟩
    refine gW hE ?_; conv => whnf
    refine ⟨_, pav_get hlt1, ?_⟩
    refine gW hE ?_; conv => whnf
    refine ⟨fun h2 => ?_, fun h2 => ?_⟩
    ·refine gW hE ?_; conv => whnf
     refine ⟨fun _ => ?_, fun h3 => (by cases h3)⟩
     refine gW hE ?_; conv => whnf
     rw [hok, h2] at hr
     rw [← hr]
     rfl
    ·refine gW hE ?_; conv => whnf
     refine ⟨i, rfl, ?_⟩
     refine gW hE ?_; conv => whnf
     refine ⟨_, pav_get hlt, ?_⟩
     refine gW hE ?_; conv => whnf
     refine .pure _ [] (findref_ok _ _) ?_
     refine gW hE ?_; conv => whnf
     refine ⟨fun h3 => ?_, fun h3 => ?_⟩
     ·refine gW hE ?_; conv => whnf
      rw [hok, h2, h3] at hr
      rw [← hr]
      rfl
     ·refine gW hE ?_; conv => whnf
      rw [hok, h2, h3] at hr
      obtain ⟨b1, b2⟩ := back hr
      refine .inl ⟨b1, ?_⟩
      refine gW hE ?_; conv => whnf
      refine To.cut [0, 3] 0 rfl rfl rfl rfl ?_
      exact b2
   ·have h0 : i = 0 := by have := of_decide_eq_false h1; omega
    have hok : okAt l i = !((false && false) || (findP l[i].id l != (i : Int))) := by
     unfold okAt
     have hlt1 : i - 1 < l.length := by omega
     rw [List.getElem?_eq_getElem hlt, List.getElem?_eq_getElem hlt1]
     subst h0
     simp
    refine gW hE ?_; conv => whnf
    refine ⟨fun h2 => (by cases h2), fun _ => ?_⟩
    refine gW hE ?_; conv => whnf
    refine ⟨i, rfl, ?_⟩
    refine gW hE ?_; conv => whnf
    refine ⟨_, pav_get hlt, ?_⟩
    refine gW hE ?_; conv => whnf
    refine .pure _ [] (findref_ok _ _) ?_
    refine gW hE ?_; conv => whnf
    refine ⟨fun h3 => ?_, fun h3 => ?_⟩
    ·refine gW hE ?_; conv => whnf
     rw [hok, h3] at hr
     rw [← hr]
     rfl
    ·refine gW hE ?_; conv => whnf
     rw [hok, h3] at hr
     obtain ⟨b1, b2⟩ := back hr
     refine .inl ⟨b1, ?_⟩
     refine gW hE ?_; conv => whnf
     refine To.cut [0, 3] 0 rfl rfl rfl rfl ?_
     exact b2
  ·exact absurd (of_decide_eq_false h) (by omega)
theorem checkref_ok (l : List Pend) (hl : l.length ≤ 1000000) : CallOK Tryz.prog 45 [.slice 11 (pav l) .no] [] (.ret (.bool (checkP l))) [] := by
 refine cT (E := E) (fn := Tryz.f45) (g := .pure _) fun _ => ?_
 refine gW hE ?_; conv => whnf
 refine To.cut [0, 3] 0 rfl rfl rfl rfl ?_
 exact checkref_loop l hl _ l.length 0 (by omega) rfl
def eqP (x y : Pend) : Bool := (x.id == y.id) && ((x.tenant == y.tenant) && ((x.pods == y.pods) && ((x.n0 == y.n0) && ((x.n1 == y.n1) && ((x.n2 == y.n2) && ((x.run == y.run) && ((x.level == y.level) && ((x.prefer == y.prefer) && ((x.seq == y.seq) && ((x.since == y.since) && true))))))))))
theorem eqP_iff {x y : Pend} : eqP x y = true ↔ x = y := by
 obtain ⟨a0, a1, a2, a3, a4, a5, a6, a7, a8, a9, a10⟩ := x
 obtain ⟨b0, b1, b2, b3, b4, b5, b6, b7, b8, b9, b10⟩ := y
 simp [eqP]
theorem same_loop (a b : List Pend) (hab : a.length = b.length) (hl : ((pav a).length : Int) ≤ 9223372036854775807) (r : Bool) : ∀ (n i : Nat), i + n = a.length → decide (a.drop i = b.drop i) = r →
  To E Tryz.f28 (.pure (.ret (.bool r))) (.head (stk Tryz.f28 0) [(0, .slice 11 (pav a) .no), (1, .slice 11 (pav b) .no), (5, .int .i64 i)] []) := by
 have hlen : (pav a).length = a.length := by simp
 intro n
 induction n with
 | zero =>
  intro i hi hr
  refine gW hE ?_; conv => whnf
  refine ⟨fun h => ?_, fun h => ?_⟩
  ·exact absurd (of_decide_eq_true h) (by omega)
  ·refine gW hE ?_; conv => whnf
   rw [List.drop_eq_nil_of_le (by omega), List.drop_eq_nil_of_le (by omega)] at hr
   rw [← hr]
   rfl
 | succ n ih =>
  intro i hi hr
  have hlt : i < a.length := by omega
  have hlt2 : i < b.length := by omega
  rw [List.drop_eq_getElem_cons hlt, List.drop_eq_getElem_cons hlt2] at hr
  refine gW hE ?_; conv => whnf
  refine ⟨fun h => ?_, fun h => ?_⟩
  ·refine gW hE ?_; conv => whnf
   refine ⟨i, rfl, ?_⟩
   refine gW hE ?_; conv => whnf
   refine ⟨_, pav_get hlt, ?_⟩
   refine gW hE ?_; conv => whnf
   refine ⟨i, rfl, ?_⟩
   refine gW hE ?_; conv => whnf
   refine ⟨_, pav_get hlt2, ?_⟩
   refine gW hE ?_; conv => whnf
   refine ⟨fun h2 => ?_, fun h2 => ?_⟩
   ·have h3 : (!eqP a[i] b[i]) = true := h2
    refine gW hE ?_; conv => whnf
    have hne : a[i] ≠ b[i] := fun e => by rw [eqP_iff.2 e] at h3; cases h3
    rw [← hr, decide_eq_false fun e => hne (List.cons.inj e).1]
   ·have h3 : (!eqP a[i] b[i]) = false := h2
    have he : a[i] = b[i] := eqP_iff.1 (by simpa using h3)
    refine gW hE ?_; conv => whnf
    refine .inl ⟨in64 (by omega) (by omega), ?_⟩
    refine gW hE ?_; conv => whnf
    refine To.head [0, 1, 5] ?_
    have := ih (i + 1) (by omega) (by rw [← hr, he]; exact decide_eq_decide.2 ⟨fun e => by rw [e], fun e => (List.cons.inj e).2⟩)
    push_cast at this
    exact this
  ·exact absurd (of_decide_eq_false h) (by omega)
theorem same_ok (a b : List Pend) : CallOK Tryz.prog 28 [.slice 11 (pav a) .no, .slice 11 (pav b) .no] [] (.ret (.bool (decide (a = b)))) [] := by
 have hlen : (pav a).length = a.length := by simp
 have hlen2 : (pav b).length = b.length := by simp
 refine cT (E := E) (fn := Tryz.f28) (g := .pure _) fun ho => ?_
 refine gW hE ?_; conv => whnf
 refine ⟨fun h => ?_, fun h => ?_⟩
 ·refine gW hE ?_; conv => whnf
  have hne : a ≠ b := fun e => by subst e; simp at h
  rw [decide_eq_false hne]
 ·have hab : a.length = b.length := by
   have : ((a.length : Nat) : Int) = b.length := by simpa using h
   omega
  refine gW hE ?_; conv => whnf
  refine To.head [0, 1, 5] ?_
  exact same_loop a b hab ho.1 _ a.length 0 (by omega) (by simp)
end Go.Proofs.YtmalnhgopkfdaaaGreat.Q2
namespace Go.Proofs.YtmalnhgopkfdaaaGreat
open Go Go.AW Go.Proofs
structure Pn where
 g : Gan
 (seq at' : Int)
 deriving DecidableEq
def Pn.cs (x : Pn) : List AVal := [ii x.g.id, ii x.g.ten, ii x.g.pods, ii x.g.need.a, ii x.g.need.b, ii x.g.need.c, ii x.g.run, ii x.g.lev, ii x.g.pref, ii x.seq, ii x.at']
def Pn.av (x : Pn) : AVal := .agg x.cs
abbrev pnv (l : List Pn) : List AVal := l.map Pn.av
theorem pnv_get {l : List Pn} {i : Nat} (h : i < l.length) : (pnv l)[i]? = some l[i].av := by simp [pnv, h]
abbrev fv (l : List Nat) : List AVal := l.map fun x : Nat => .int .u64 (x : Int)
structure Sta where
 c : Con
 (now nxt : Int)
 pend : List Pn
 run : List Rn
 hist : List Nat
 deriving DecidableEq
def Sta.cs (s : Sta) : List AVal := [.slice 11 (nav s.c.ns) .no, .slice 6 (hav s.c.hs) .no, ii s.c.half, ii s.c.age, ii s.now, ii s.nxt, .slice 11 (pnv s.pend) .no, .slice 14 (rav s.run) .no, .slice 1 (fv s.hist) .no]
def Sta.av (s : Sta) : AVal := .agg s.cs
def emptyC (c : Con) : Bool := decide (c.ns = []) && (decide (c.hs = []) && (decide (c.half = 0) && decide (c.age = 0)))
def basG (g : Gan) : Bool := decide (1 ≤ g.id ∧ g.id ≤ 1073741824 ∧ 1 ≤ g.pods ∧ g.pods ≤ 16) && (validB g.need && decide (1 ≤ g.run ∧ g.run ≤ 1048576 ∧ 0 ≤ g.lev ∧ g.lev ≤ 3 ∧ 0 ≤ g.pref ∧ g.pref ≤ g.lev))
def gangE (c : Con) (g : Gan) : Int := if basG g = true then (if leafB c.ns g.ten = true then 0 else 3) else 1
def Rn.pn (r : Rn) : Pn := ⟨r.g, r.seq, r.at'⟩
def pnB (s : Sta) (p : Pn) : Bool := decide (gangE s.c p.g = 0) && (!(fitsL s.c [] p.g).isNone && decide ((0 ≤ p.seq ∧ p.seq < s.nxt) ∧ 0 ≤ p.at' ∧ p.at' ≤ s.now))
def rnB (s : Sta) (r : Rn) : Bool := decide ((r.at' ≤ r.st ∧ r.st ≤ s.now) ∧ s.now < endR r) && (chkB s.c (freeL s.c (s.run.filter fun x => !(x.g.id == r.g.id))) r.g r.hs && decide ((hosAt s.c.hs (r.hs.headD 0)).f = r.fl))
def mostI (c : Con) (n : Int) : V3 := if leafB c.ns n = true then vadd (sumL c.ns n (nomL c.ns)) (nodAt c.ns n).b else sumL c.ns n (nomL c.ns)
def quoB (s : Sta) : Bool := (List.range s.c.ns.length).all fun i : Nat => vfits (atV (ofL s.c s.run) (i : Int)) (mostI s.c (i : Int))
def Pn.q (x : Pn) : Q2.Pend := ⟨x.g.id, x.g.ten, x.g.pods, x.g.need.a, x.g.need.b, x.g.need.c, x.g.run, x.g.lev, x.g.pref, x.seq, x.at'⟩
theorem pav_q (l : List Pn) : Q2.pav (l.map Pn.q) = pnv l := by simp [Q2.pav, pnv, Pn.q, Q2.Pend.av, Q2.Pend.cs, Pn.av, Pn.cs]
def rowB (l : List Pn) : Bool := Q2.checkP (l.map Pn.q)
def ids (s : Sta) : List Int := s.pend.map (fun p => p.g.id) ++ s.run.map fun r => r.g.id
def seqs (s : Sta) : List Int := s.pend.map (fun p => p.seq) ++ s.run.map fun r => r.seq
def headB (s : Sta) : Bool := (emptyC s.c || decide (checkI s.c = 0)) && decide ((0 ≤ s.now ∧ s.now ≤ 1099511627776) ∧ (1 ≤ s.nxt ∧ s.nxt ≤ 1099511627776) ∧ s.hist.length = s.c.ns.length ∧ s.pend.length + s.run.length ≤ 32)
def chkS (s : Sta) : Bool := headB s && (rowB s.pend && ((s.pend.all (pnB s) && s.run.all fun r => pnB s r.pn && rnB s r) && (decide (ids s).Nodup && (decide (seqs s).Nodup && quoB s))))
theorem gangE_iff {c : Con} {g : Gan} : gangE c g = 0 ↔ basG g = true ∧ leafB c.ns g.ten = true := by
 unfold gangE
 cases basG g <;> cases leafB c.ns g.ten <;> decide
theorem gangE_I {c : Con} {g : Gan} (h : gangE c g = 0) : gangI c.ns g = 1 := by
 obtain ⟨h1, h2⟩ := gangE_iff.1 h
 unfold basG at h1
 unfold gangI gangB
 rw [rlB_eq, h2]
 simp only [Bool.and_eq_true] at h1
 rw [h1.1, h1.2.1, h1.2.2]
 rfl
def takeX (p : V3 → Int) (u : Int) (x : Rn) : Int := p x.g.need * ((x.hs.count u : Nat) : Int)
theorem left_host {p : V3 → Int} (hp : Prj p) (need : V3) (hn : 0 ≤ p need ∧ p need ≤ 1048576) (j : Nat) : ∀ (hs : List Int) (xs : List V3) (v : Int), j < xs.length → v ≤ FarI → p ((xs[j]?).getD V3.zero) = max v (-FarI) → p (((hs.foldl (freeS need) xs)[j]?).getD V3.zero) = max (v - p need * ((hs.count (j : Int) : Nat) : Int)) (-FarI)
 | [], xs, v, _, _, h => by simpa using h
 | u :: r, xs, v, hj, hv, h => by
  rw [List.foldl_cons]
  have e := freeS_get need xs u j
  by_cases hu : u = (j : Int)
  ·subst hu
   rw [if_pos ⟨by omega, by omega, by omega⟩] at e
   rw [List.count_cons_self]
   have hm : p need * (((r.count (j : Int) + 1 : Nat) : Nat) : Int) = p need * ((r.count (j : Int) : Nat) : Int) + p need := by rw [Int.natCast_add, Int.mul_add]; simp
   rw [hm]
   have e2 : p (((freeS need xs (j : Int))[j]?).getD V3.zero) = max (v - p need) (-FarI) := by
    rw [e, hp.sub, h]
    unfold subI cutI FarI at *
    omega
   rw [left_host hp need hn j r _ (v - p need) (by rw [freeS_len]; exact hj) (by omega) e2]
   omega
  ·rw [if_neg (by omega)] at e
   rw [List.count_cons_of_ne (by simpa using hu)]
   exact left_host hp need hn j r _ v (by rw [freeS_len]; exact hj) hv (by rw [e]; exact h)
theorem left_all {p : V3 → Int} (hp : Prj p) (j : Nat) : ∀ (l : List Rn) (xs : List V3) (v : Int), (∀ x ∈ l, 0 ≤ p x.g.need ∧ p x.g.need ≤ 1048576) → j < xs.length → v ≤ FarI → p ((xs[j]?).getD V3.zero) = max v (-FarI) → p (((l.foldl freeX xs)[j]?).getD V3.zero) = max (v - sumI (l.map (takeX p (j : Int)))) (-FarI)
 | [], xs, v, _, _, _, h => by
  show _ = max (v - 0) _
  rw [Int.sub_zero]
  exact h
 | x :: r, xs, v, hn, hj, hv, h => by
  have hx := hn x (List.mem_cons_self ..)
  have e := left_host hp x.g.need hx j x.hs xs v hj hv h
  have hz : 0 ≤ p x.g.need * ((x.hs.count (j : Int) : Nat) : Int) := Int.mul_nonneg hx.1 (by omega)
  rw [List.foldl_cons, List.map_cons]
  have ih := left_all hp j r (freeX xs x) (v - p x.g.need * ((x.hs.count (j : Int) : Nat) : Int)) (fun y hy => hn y (List.mem_cons_of_mem _ hy)) (by rw [freeX_len]; exact hj) (by omega) e
  rw [ih]
  show _ = max (v - (takeX p (j : Int) x + sumI _)) _
  unfold takeX
  congr 1
  omega
theorem chk_head {s : Sta} (h : chkS s = true) (hn : s.c.ns ≠ []) : checkI s.c = 0 ∧ (0 ≤ s.now ∧ s.now ≤ 1099511627776) ∧ s.hist.length = s.c.ns.length ∧ s.pend.length + s.run.length ≤ 32 := by
 unfold chkS headB at h
 simp only [Bool.and_eq_true, Bool.or_eq_true, decide_eq_true_eq] at h
 obtain ⟨⟨h1, h2⟩, _⟩ := h
 refine ⟨?_, h2.1, h2.2.2.1, h2.2.2.2⟩
 rcases h1 with h1 | h1
 ·unfold emptyC at h1
  simp only [Bool.and_eq_true, decide_eq_true_eq] at h1
  exact absurd h1.1 hn
 ·exact h1
structure RnOK (s : Sta) (r : Rn) : Prop where
 gang : gangE s.c r.g = 0
 st : 0 ≤ r.st ∧ r.st ≤ s.now
 chk : chkB s.c (freeL s.c (s.run.filter fun x => !(x.g.id == r.g.id))) r.g r.hs = true
theorem chk_run {s : Sta} (h : chkS s = true) {r : Rn} (hr : r ∈ s.run) : RnOK s r := by
 unfold chkS at h
 simp only [Bool.and_eq_true, List.all_eq_true] at h
 have h1 := h.2.2.1.2 r hr
 unfold pnB rnB at h1
 simp only [Bool.and_eq_true, decide_eq_true_eq] at h1
 obtain ⟨⟨a, _, b⟩, c, d, _⟩ := h1
 exact ⟨a, ⟨Int.le_trans b.2.1 c.1.1, c.1.2⟩, d⟩
theorem chk_pend {s : Sta} (h : chkS s = true) {p : Pn} (hp : p ∈ s.pend) : gangE s.c p.g = 0 ∧ 0 ≤ p.at' ∧ p.at' ≤ s.now := by
 unfold chkS at h
 simp only [Bool.and_eq_true, List.all_eq_true] at h
 have h1 := h.2.2.1.1 p hp
 unfold pnB at h1
 simp only [Bool.and_eq_true, decide_eq_true_eq] at h1
 exact ⟨h1.1, h1.2.2.2⟩
theorem chk_ids {s : Sta} (h : chkS s = true) : (ids s).Nodup ∧ (seqs s).Nodup ∧ quoB s = true ∧ rowB s.pend = true := by
 unfold chkS at h
 simp only [Bool.and_eq_true, decide_eq_true_eq] at h
 exact ⟨h.2.2.2.1, h.2.2.2.2.1, h.2.2.2.2.2, h.2.1⟩
theorem chkB_at {c : Con} {free : List V3} {g : Gan} {hs : List Int} (h : chkB c free g hs = true) : (hs.length : Int) = g.pods ∧ ∀ u ∈ hs, 0 ≤ u ∧ u < (free.length : Int) ∧ ((hs.count u : Nat) : Int) ≤ roomI ((free[u.toNat]?).getD V3.zero) g.need := by
 unfold chkB at h
 by_cases hl : (hs.length : Int) = g.pods
 ·rw [if_pos hl, List.any_eq_true] at h
  obtain ⟨G, _, hG⟩ := h
  refine ⟨hl, fun u hu => ?_⟩
  unfold chkG fitsB at hG
  simp only [Bool.and_eq_true, List.all_eq_true] at hG
  have hf := hG.2 u hu
  unfold fitH at hf
  by_cases h1 : u < 0
  ·rw [if_pos (decide_eq_true h1)] at hf
   cases hf
  ·rw [if_neg (by rw [decide_eq_false h1]; decide)] at hf
   by_cases h2 : (free.length : Int) ≤ u
   ·rw [if_pos (decide_eq_true h2)] at hf
    cases hf
   ·rw [if_neg (by rw [decide_eq_false h2]; decide)] at hf
    have e : cntI u hs = ((hs.count u : Nat) : Int) := by unfold cntI; rw [cnt_eq]; omega
    rw [e] at hf
    simp at hf
    exact ⟨by omega, by omega, hf⟩
 ·rw [if_neg hl] at h
  cases h
theorem free_len (c : Con) (l : List Rn) : (freeL c l).length = c.hs.length := by
 have key : ∀ (l : List Rn) (xs : List V3), (l.foldl freeX xs).length = xs.length := fun l => by
  induction l with
  | nil => intro xs; rfl
  | cons x r ih => intro xs; rw [List.foldl_cons, ih, freeX_len]
 unfold freeL
 rw [key]
 simp
theorem cap_at (c : Con) {j : Nat} (hj : j < c.hs.length) : (((List.range c.hs.length).map fun i : Nat => (hosAt c.hs (i : Int)).c)[j]?).getD V3.zero = (hosAt c.hs (j : Int)).c := by
 rw [List.getElem?_map, List.getElem?_range hj]
 rfl
theorem cap_ok {c : Con} (h : checkI c = 0) {j : Nat} (hj : j < c.hs.length) : validB (hosAt c.hs (j : Int)).c = true := by
 unfold checkI at h
 split at h
 ·split at h
  ·split at h
   ·rename_i ha
    rw [List.all_eq_true] at ha
    have hh : hosAt c.hs (j : Int) = c.hs[j] := by unfold hosAt; rw [Int.toNat_natCast, List.getElem?_eq_getElem hj]; rfl
    have := ha c.hs[j] (List.getElem_mem hj)
    unfold hostX at this
    split at this
    ·cases this
    ·rw [hh]; exact this
   ·cases h
  ·cases h
 ·cases h
theorem free_at {p : V3 → Int} (hp : Prj p) {c : Con} (hcap : ∀ j : Nat, j < c.hs.length → 0 ≤ p (hosAt c.hs (j : Int)).c ∧ p (hosAt c.hs (j : Int)).c ≤ 1048576) {l : List Rn} (hn : ∀ x ∈ l, 0 ≤ p x.g.need ∧ p x.g.need ≤ 1048576) {j : Nat} (hj : j < c.hs.length) : p (((freeL c l)[j]?).getD V3.zero) = max (p (hosAt c.hs (j : Int)).c - sumI (l.map (takeX p (j : Int)))) (-FarI) := by
 have h0 := hcap j hj
 unfold freeL
 exact left_all hp j l _ _ hn (by simpa using hj) (by unfold FarI; omega) (by rw [cap_at c hj]; unfold FarI; omega)
theorem sum_out {f : Rn → Int} {r : Rn} : ∀ {l : List Rn}, r ∈ l → (l.map fun x => x.g.id).Nodup → sumI (l.map f) = sumI ((l.filter fun x => !(x.g.id == r.g.id)).map f) + f r
 | [], h, _ => by cases h
 | x :: l, h, hd => by
  rw [List.map_cons, List.nodup_cons] at hd
  rw [List.map_cons]
  show f x + sumI (l.map f) = _
  rcases List.mem_cons.1 h with rfl | h
  ·rw [List.filter_cons_of_neg (by simp)]
   have e : l.filter (fun x => !(x.g.id == r.g.id)) = l := by
    rw [List.filter_eq_self]
    intro y hy
    have : y.g.id ≠ r.g.id := fun q => hd.1 (by rw [← q]; exact List.mem_map.2 ⟨y, hy, rfl⟩)
    simpa using this
   rw [e]
   omega
  ·have hne : x.g.id ≠ r.g.id := fun q => hd.1 (by rw [q]; exact List.mem_map.2 ⟨r, h, rfl⟩)
   rw [List.filter_cons_of_pos (by simpa using hne), List.map_cons]
   show _ = (f x + sumI _) + f r
   rw [sum_out h hd.2]
   omega
theorem hosts_proj {p : V3 → Int} (hp : Prj p) {s : Sta} (h : chkS s = true) (hn : s.c.ns ≠ []) (hv : ∀ v, validB v = true → 0 ≤ p v ∧ p v ≤ 1048576)
  (hr : ∀ free need (n : Int), validB need = true → 1 ≤ n → n ≤ roomI free need → p need * n ≤ p free) {j : Nat} (hj : j < s.c.hs.length) : 0 ≤ p (((freeL s.c s.run)[j]?).getD V3.zero) := by
 obtain ⟨hc, _⟩ := chk_head h hn
 have hcap : ∀ j : Nat, j < s.c.hs.length → 0 ≤ p (hosAt s.c.hs (j : Int)).c ∧ p (hosAt s.c.hs (j : Int)).c ≤ 1048576 := fun j hj => hv _ (cap_ok hc hj)
 have hneed : ∀ x ∈ s.run, validB x.g.need = true := fun x hx => by
  have h1 := (gangE_iff.1 (chk_run h hx).gang).1
  unfold basG at h1
  simp only [Bool.and_eq_true] at h1
  exact h1.2.1
 have hnn : ∀ x ∈ s.run, 0 ≤ p x.g.need ∧ p x.g.need ≤ 1048576 := fun x hx => hv _ (hneed x hx)
 rw [free_at hp hcap hnn hj]
 have hcj := hcap j hj
 by_cases hu : ∃ r ∈ s.run, (j : Int) ∈ r.hs
 ·obtain ⟨r, hrm, hm⟩ := hu
  have hk := chk_run h hrm
  obtain ⟨_, hin⟩ := chkB_at hk.chk
  obtain ⟨_, _, hcnt⟩ := hin _ hm
  have hpos : 0 < r.hs.count (j : Int) := List.count_pos_iff.2 hm
  have h1 := hr _ _ _ (hneed r hrm) (by omega) hcnt
  rw [Int.toNat_natCast, free_at hp hcap (fun x hx => hnn x (List.mem_filter.1 hx).1) hj] at h1
  have hd : (s.run.map fun x => x.g.id).Nodup := by
   have := (chk_ids h).1
   unfold ids at this
   exact (List.nodup_append.1 this).2.1
  have hs := sum_out (f := takeX p (j : Int)) hrm hd
  have e : takeX p (j : Int) r = p r.g.need * ((r.hs.count (j : Int) : Nat) : Int) := rfl
  have hz : 0 ≤ takeX p (j : Int) r := Int.mul_nonneg (hnn r hrm).1 (by omega)
  rw [← e] at h1
  unfold FarI at *
  omega
 ·have hz : sumI (s.run.map (takeX p (j : Int))) = 0 := by
   have key : ∀ l : List Rn, (∀ x ∈ l, (j : Int) ∉ x.hs) → sumI (l.map (takeX p (j : Int))) = 0 := fun l => by
    induction l with
    | nil => intro _; rfl
    | cons x r ih =>
     intro hl
     rw [List.map_cons]
     show takeX p (j : Int) x + sumI _ = 0
     rw [ih fun y hy => hl y (List.mem_cons_of_mem _ hy)]
     unfold takeX
     rw [List.count_eq_zero.2 (hl x (List.mem_cons_self ..))]
     simp
   exact key s.run fun x hx q => hu ⟨x, hx, q⟩
  rw [hz]
  omega
theorem room_need {free need : V3} {n : Int} (hv : validB need = true) (h1 : 1 ≤ n) (h : n ≤ roomI free need) : need.a * n ≤ free.a ∧ need.b * n ≤ free.b ∧ need.c * n ≤ free.c := by
 have hfit : vfits need free = true := by
  cases hq : vfits need free with
  | true => rfl
  | false =>
   unfold roomI at h
   rw [if_neg (by rw [hq]; decide)] at h
   omega
 exact ((room_le hv hfit _).1 h).2
theorem hosts_safe {s : Sta} (h : chkS s = true) (hn : s.c.ns ≠ []) {j : Nat} (hj : j < s.c.hs.length) : vfits V3.zero (((freeL s.c s.run)[j]?).getD V3.zero) = true :=
 vfits_le.2 ⟨hosts_proj prjA h hn (fun _ hv => (validB_iff hv).1) (fun _ _ _ hv h1 hr => (room_need hv h1 hr).1) hj, hosts_proj prjB h hn (fun _ hv => (validB_iff hv).2.1) (fun _ _ _ hv h1 hr => (room_need hv h1 hr).2.1) hj, hosts_proj prjC h hn (fun _ hv => (validB_iff hv).2.2) (fun _ _ _ hv h1 hr => (room_need hv h1 hr).2.2) hj⟩
theorem few_safe {s : Sta} (h : chkS s = true) (hn : s.c.ns ≠ []) : fewI s.c s.now s.run = 1 := by
 obtain ⟨hc, hnow, _, hl⟩ := chk_head h hn
 unfold fewI
 rw [if_neg (by unfold badF; rw [hc]; omega), if_pos]
 rw [List.all_eq_true]
 intro x hx
 have hk := chk_run h hx
 obtain ⟨hlen, hin⟩ := chkB_at hk.chk
 unfold runX
 rw [if_neg (by unfold badR; rw [gangE_I hk.gang]; have := hk.st; omega)]
 unfold hostsX
 rw [List.all_eq_true]
 intro u hu
 obtain ⟨h0, h1, _⟩ := hin u hu
 rw [free_len] at h1
 exact decide_eq_true ⟨h0, h1⟩
set_option maxRecDepth 10000
def betB (n lo hi : Int) : Bool := decide (lo ≤ n) && decide (n ≤ hi)
theorem betB_iff {n lo hi : Int} : betB n lo hi = true ↔ lo ≤ n ∧ n ≤ hi := by unfold betB; simp
theorem btw_ok (n lo hi : Int) : CallOK Tryz.prog 81 [ii n, ii lo, ii hi] [] (.ret (.bool (betB n lo hi))) [] := by
 unfold betB
 by_cases h1 : lo ≤ n
 ·rw [decide_eq_true h1, Bool.true_and]
  refine cT (E := E) (fn := Tryz.f81) (g := .pure _) fun _ => ?_
  repeat' first | (refine gN hE rfl ?_; conv => whnf) | exact rfl | refine aY ?_ | refine aN ?_ | refine aT (by omega) fun h => ?_ | refine aF (by omega) fun h => ?_ | refine ⟨fun h => ?_, fun h => ?_⟩ | refine aJ (by omega) (by omega) ?_ | refine ⟨_, rfl, ?_⟩ | refine ⟨by decide, ?_⟩ | refine ⟨by omega, ?_⟩ | fail
 ·rw [decide_eq_false h1, Bool.false_and]
  refine cT (E := E) (fn := Tryz.f81) (g := .pure _) fun _ => ?_
  repeat' first | (refine gN hE rfl ?_; conv => whnf) | exact rfl | refine aY ?_ | refine aN ?_ | refine aT (by omega) fun h => ?_ | refine aF (by omega) fun h => ?_ | refine ⟨fun h => ?_, fun h => ?_⟩ | refine aJ (by omega) (by omega) ?_ | refine ⟨_, rfl, ?_⟩ | refine ⟨by decide, ?_⟩ | refine ⟨by omega, ?_⟩ | fail
theorem sbtw_ok (n lo hi : Int) : CallOK Tryz.prog 129 [ii n, ii lo, ii hi] [] (.ret (.bool (betB n lo hi))) [] := by
 unfold betB
 by_cases h1 : lo ≤ n
 ·rw [decide_eq_true h1, Bool.true_and]
  refine cT (E := E) (fn := Tryz.f129) (g := .pure _) fun _ => ?_
  repeat' first | (refine gN hE rfl ?_; conv => whnf) | exact rfl | refine aY ?_ | refine aN ?_ | refine aT (by omega) fun h => ?_ | refine aF (by omega) fun h => ?_ | refine ⟨fun h => ?_, fun h => ?_⟩ | refine aJ (by omega) (by omega) ?_ | refine ⟨_, rfl, ?_⟩ | refine ⟨by decide, ?_⟩ | refine ⟨by omega, ?_⟩ | fail
 ·rw [decide_eq_false h1, Bool.false_and]
  refine cT (E := E) (fn := Tryz.f129) (g := .pure _) fun _ => ?_
  repeat' first | (refine gN hE rfl ?_; conv => whnf) | exact rfl | refine aY ?_ | refine aN ?_ | refine aT (by omega) fun h => ?_ | refine aF (by omega) fun h => ?_ | refine ⟨fun h => ?_, fun h => ?_⟩ | refine aJ (by omega) (by omega) ?_ | refine ⟨_, rfl, ?_⟩ | refine ⟨by decide, ?_⟩ | refine ⟨by omega, ?_⟩ | fail
theorem pvalid_any (v : V3) (b : Bool) (hb : validB v = b) : CallOK Tryz.prog 124 [v.av] [] (.ret (.bool b)) [] := by
 unfold validB at hb
 refine cT (E := E) (fn := Tryz.f124) (g := .pure _) fun _ => ?_
 repeat' first
  | (refine gW hE ?_; conv => whnf)
  | exact hb
  | refine aY ?_
  | refine aN ?_
  | refine And.intro (fun h => ?_) (fun h => ?_)
  | refine aJ (by omega) (by omega) ?_
  | refine Exists.intro _ (And.intro rfl ?_)
  | refine And.intro (by decide) ?_
 all_goals (refine congrArg (fun b => Res.ret (AVal.bool b)) ?_; rw [← hb]; simp only [decide_eq_true_eq, decide_eq_false_iff_not] at *)
 ·rw [decide_eq_false (p := 0 ≤ v.a ∧ v.a ≤ 1048576) (by omega)]; rfl
 ·rw [decide_eq_false (p := 0 ≤ v.a ∧ v.a ≤ 1048576) (by omega)]; rfl
 ·rw [decide_eq_false (p := 0 ≤ v.b ∧ v.b ≤ 1048576) (by omega), Bool.and_false]; rfl
 ·rw [decide_eq_false (p := 0 ≤ v.b ∧ v.b ≤ 1048576) (by omega), Bool.and_false]; rfl
 ·rw [decide_eq_false (p := 0 ≤ v.c ∧ v.c ≤ 1048576) (by omega), Bool.and_false]
 ·rw [decide_eq_false (p := 0 ≤ v.c ∧ v.c ≤ 1048576) (by omega), Bool.and_false]
 ·rw [decide_eq_true (p := 0 ≤ v.a ∧ v.a ≤ 1048576) (by omega), decide_eq_true (p := 0 ≤ v.b ∧ v.b ≤ 1048576) (by omega), decide_eq_true (p := 0 ≤ v.c ∧ v.c ≤ 1048576) (by omega)]; rfl
theorem pvalid_ok (v : V3) : CallOK Tryz.prog 124 [v.av] [] (.ret (.bool (validB v))) [] := pvalid_any v _ rfl
def hostB (x : Hos) : Bool := betB x.f 0 100 && (betB x.b 0 100 && (betB x.r 0 100 && validB x.c))
theorem host_ok (x : Hos) : CallOK Tryz.prog 83 [x.av] [] (.ret (.bool (hostB x))) [] := by
 have h1 := btw_ok x.f 0 100
 have h2 := btw_ok x.b 0 100
 have h3 := btw_ok x.r 0 100
 have h4 := pvalid_ok x.c
 unfold hostB
 generalize betB x.f 0 100 = b1 at h1
 generalize betB x.b 0 100 = b2 at h2
 generalize betB x.r 0 100 = b3 at h3
 generalize validB x.c = b4 at h4
 cases b1 <;> cases b2 <;> cases b3 <;> cases b4
 all_goals
  refine cT (E := E) (fn := Tryz.f83) (g := .pure _) fun _ => ?_
  repeat' first | (refine gN hE rfl ?_; conv => whnf) | refine .pure _ [] h1 ?_ | refine .pure _ [] h2 ?_ | refine .pure _ [] h3 ?_ | refine .pure _ [] h4 ?_ | exact rfl | refine aY ?_ | refine aN ?_ | refine aT (by omega) fun h => ?_ | refine aF (by omega) fun h => ?_ | refine ⟨fun h => ?_, fun h => ?_⟩ | refine aJ (by omega) (by omega) ?_ | refine ⟨_, rfl, ?_⟩ | refine ⟨by decide, ?_⟩ | refine ⟨by omega, ?_⟩ | fail
theorem hostB_eq (x : Hos) : hostB x = hostX x := by
 rw [Bool.eq_iff_iff]
 unfold hostB hostX
 by_cases h : badH x
 ·rw [if_pos h]
  unfold badH at h
  simp only [Bool.and_eq_true, betB_iff]
  constructor
  ·intro q; omega
  ·intro q; cases q
 ·rw [if_neg h]
  unfold badH at h
  simp only [Bool.and_eq_true, betB_iff]
  constructor
  ·intro q; exact q.2.2.2
  ·intro q; exact ⟨by omega, by omega, by omega, q⟩
theorem pnode_bad (c : Con) (i : Nat) (hi : i < 1048576) (x : Nod) (get : (nav c.ns)[i]? = some x.av) (hb : badN i x) : CallOK Tryz.prog 82 [c.av, ii i] [] (.ret (.bool false)) [] := by
 have b1 := btw_ok x.p 0 ((i : Int) - 1)
 have b2 := btw_ok x.w 1 1000
 have hl := btw_ok x.w 1 1000
 have v1 := pvalid_ok x.n
 have v2 := pvalid_ok x.b
 have v3 := pvalid_ok x.l
 have v4 := vfits_ok x.l x.n
 unfold badN at hb
 by_cases h0 : i = 0
 ·by_cases hp : x.p = -1
  ·have e2 : betB x.w 1 1000 = false := by
    cases hq : betB x.w 1 1000 with
    | false => rfl
    | true => have := betB_iff.1 hq; omega
   rw [e2] at b2
   subst h0
   refine cT (E := E) (fn := Tryz.f82) (g := .pure _) fun _ => ?_
   repeat' first | (refine gN hE rfl ?_; conv => whnf) | refine ⟨i, rfl, ?_⟩ | refine ⟨_, get, ?_⟩ | refine .pure _ [] b1 ?_ | refine .pure _ [] b2 ?_ | refine .pure _ [] hl ?_ | refine .pure _ [] v1 ?_ | refine .pure _ [] v2 ?_ | refine .pure _ [] v3 ?_ | refine .pure _ [] v4 ?_ | exact rfl | refine aY ?_ | refine aN ?_ | refine aT (by omega) fun h => ?_ | refine aF (by omega) fun h => ?_ | refine ⟨fun h => ?_, fun h => ?_⟩ | refine aJ (by omega) (by omega) ?_ | refine ⟨_, rfl, ?_⟩ | refine ⟨by decide, ?_⟩ | refine ⟨by omega, ?_⟩ | fail
  ·subst h0
   refine cT (E := E) (fn := Tryz.f82) (g := .pure _) fun _ => ?_
   repeat' first | (refine gN hE rfl ?_; conv => whnf) | refine ⟨i, rfl, ?_⟩ | refine ⟨_, get, ?_⟩ | refine .pure _ [] b1 ?_ | refine .pure _ [] b2 ?_ | refine .pure _ [] hl ?_ | refine .pure _ [] v1 ?_ | refine .pure _ [] v2 ?_ | refine .pure _ [] v3 ?_ | refine .pure _ [] v4 ?_ | exact rfl | refine aY ?_ | refine aN ?_ | refine aT (by omega) fun h => ?_ | refine aF (by omega) fun h => ?_ | refine ⟨fun h => ?_, fun h => ?_⟩ | refine aJ (by omega) (by omega) ?_ | refine ⟨_, rfl, ?_⟩ | refine ⟨by decide, ?_⟩ | refine ⟨by omega, ?_⟩ | fail
   all_goals (exfalso; simp at *; omega)
 ·cases hq : betB x.p 0 ((i : Int) - 1) with
  | false =>
   rw [hq] at b1
   refine cT (E := E) (fn := Tryz.f82) (g := .pure _) fun _ => ?_
   repeat' first | (refine gN hE rfl ?_; conv => whnf) | refine ⟨i, rfl, ?_⟩ | refine ⟨_, get, ?_⟩ | refine .pure _ [] b1 ?_ | refine .pure _ [] b2 ?_ | refine .pure _ [] hl ?_ | refine .pure _ [] v1 ?_ | refine .pure _ [] v2 ?_ | refine .pure _ [] v3 ?_ | refine .pure _ [] v4 ?_ | exact rfl | refine aY ?_ | refine aN ?_ | refine aT (by omega) fun h => ?_ | refine aF (by omega) fun h => ?_ | refine ⟨fun h => ?_, fun h => ?_⟩ | refine aJ (by omega) (by omega) ?_ | refine ⟨_, rfl, ?_⟩ | refine ⟨by decide, ?_⟩ | refine ⟨by omega, ?_⟩ | fail
  | true =>
   rw [hq] at b1
   have := betB_iff.1 hq
   have e2 : betB x.w 1 1000 = false := by
    cases hq : betB x.w 1 1000 with
    | false => rfl
    | true => have := betB_iff.1 hq; omega
   rw [e2] at b2
   refine cT (E := E) (fn := Tryz.f82) (g := .pure _) fun _ => ?_
   repeat' first | (refine gN hE rfl ?_; conv => whnf) | refine ⟨i, rfl, ?_⟩ | refine ⟨_, get, ?_⟩ | refine .pure _ [] b1 ?_ | refine .pure _ [] b2 ?_ | refine .pure _ [] hl ?_ | refine .pure _ [] v1 ?_ | refine .pure _ [] v2 ?_ | refine .pure _ [] v3 ?_ | refine .pure _ [] v4 ?_ | exact rfl | refine aY ?_ | refine aN ?_ | refine aT (by omega) fun h => ?_ | refine aF (by omega) fun h => ?_ | refine ⟨fun h => ?_, fun h => ?_⟩ | refine aJ (by omega) (by omega) ?_ | refine ⟨_, rfl, ?_⟩ | refine ⟨by decide, ?_⟩ | refine ⟨by omega, ?_⟩ | fail
set_option maxHeartbeats 2000000 in
theorem pnode_leaf (c : Con) (i : Nat) (hi : i < 1048576) (x : Nod) (get : (nav c.ns)[i]? = some x.av) (hb : ¬ badN i x) (hlf : leafB c.ns (i : Int) = true) : CallOK Tryz.prog 82 [c.av, ii i] [] (.ret (.bool (validB x.n && (validB x.b && (validB x.l && vfits x.l x.n))))) [] := by
 have b1 := btw_ok x.p 0 ((i : Int) - 1)
 have b2 := btw_ok x.w 1 1000
 have hl := leaf_ok c (i : Int)
 rw [hlf] at hl
 have v1 := pvalid_ok x.n
 have v2 := pvalid_ok x.b
 have v3 := pvalid_ok x.l
 have v4 := vfits_ok x.l x.n
 unfold badN at hb
 rw [betB_iff.2 (show 1 ≤ x.w ∧ x.w ≤ 1000 by omega)] at b2
 generalize validB x.n = q1 at v1
 generalize validB x.b = q2 at v2
 generalize validB x.l = q3 at v3
 generalize vfits x.l x.n = q4 at v4
 by_cases h0 : i = 0
 ·have hp : x.p = -1 := by omega
  subst h0
  cases q1 <;> cases q2 <;> cases q3 <;> cases q4
  all_goals
   refine cT (E := E) (fn := Tryz.f82) (g := .pure _) fun _ => ?_
   repeat' first | (refine gN hE rfl ?_; conv => whnf) | refine ⟨i, rfl, ?_⟩ | refine ⟨_, get, ?_⟩ | refine .pure _ [] b1 ?_ | refine .pure _ [] b2 ?_ | refine .pure _ [] hl ?_ | refine .pure _ [] v1 ?_ | refine .pure _ [] v2 ?_ | refine .pure _ [] v3 ?_ | refine .pure _ [] v4 ?_ | exact rfl | refine aY ?_ | refine aN ?_ | refine aT (by omega) fun h => ?_ | refine aF (by omega) fun h => ?_ | refine ⟨fun h => ?_, fun h => ?_⟩ | refine aJ (by omega) (by omega) ?_ | refine ⟨_, rfl, ?_⟩ | refine ⟨by decide, ?_⟩ | refine ⟨by omega, ?_⟩ | fail
   all_goals (exfalso; simp at *; omega)
 ·rw [betB_iff.2 (show 0 ≤ x.p ∧ x.p ≤ (i : Int) - 1 by omega)] at b1
  cases q1 <;> cases q2 <;> cases q3 <;> cases q4
  all_goals
   refine cT (E := E) (fn := Tryz.f82) (g := .pure _) fun _ => ?_
   repeat' first | (refine gN hE rfl ?_; conv => whnf) | refine ⟨i, rfl, ?_⟩ | refine ⟨_, get, ?_⟩ | refine .pure _ [] b1 ?_ | refine .pure _ [] b2 ?_ | refine .pure _ [] hl ?_ | refine .pure _ [] v1 ?_ | refine .pure _ [] v2 ?_ | refine .pure _ [] v3 ?_ | refine .pure _ [] v4 ?_ | exact rfl | refine aY ?_ | refine aN ?_ | refine aT (by omega) fun h => ?_ | refine aF (by omega) fun h => ?_ | refine ⟨fun h => ?_, fun h => ?_⟩ | refine aJ (by omega) (by omega) ?_ | refine ⟨_, rfl, ?_⟩ | refine ⟨by decide, ?_⟩ | refine ⟨by omega, ?_⟩ | fail
theorem pnode_in (c : Con) (i : Nat) (hi : i < 1048576) (x : Nod) (get : (nav c.ns)[i]? = some x.av) (hb : ¬ badN i x) (hlf : leafB c.ns (i : Int) = false) (r : Bool) (hr : (zB x.n && (zB x.b && zB x.l)) = r) : CallOK Tryz.prog 82 [c.av, ii i] [] (.ret (.bool r)) [] := by
 have b1 := btw_ok x.p 0 ((i : Int) - 1)
 have b2 := btw_ok x.w 1 1000
 have hl := leaf_ok c (i : Int)
 rw [hlf] at hl
 have v1 := pvalid_ok x.n
 have v2 := pvalid_ok x.b
 have v3 := pvalid_ok x.l
 have v4 := vfits_ok x.l x.n
 unfold badN at hb
 rw [betB_iff.2 (show 1 ≤ x.w ∧ x.w ≤ 1000 by omega)] at b2
 have fin : (((x.p == x.p) && ((x.w == x.w) && ((x.n.a == 0) && ((x.n.b == 0) && ((x.n.c == 0) && ((x.b.a == 0) && ((x.b.b == 0) && ((x.b.c == 0) && ((x.l.a == 0) && ((x.l.b == 0) && ((x.l.c == 0) && true))))))))))) = r) := by
  rw [← hr]
  unfold zB
  simp [Bool.and_assoc]
 by_cases h0 : i = 0
 ·have hp : x.p = -1 := by omega
  subst h0
  refine cT (E := E) (fn := Tryz.f82) (g := .pure _) fun _ => ?_
  repeat' first | (refine gN hE rfl ?_; conv => whnf) | refine ⟨i, rfl, ?_⟩ | refine ⟨_, get, ?_⟩ | refine .pure _ [] b1 ?_ | refine .pure _ [] b2 ?_ | refine .pure _ [] hl ?_ | refine .pure _ [] v1 ?_ | refine .pure _ [] v2 ?_ | refine .pure _ [] v3 ?_ | refine .pure _ [] v4 ?_ | exact rfl | refine aY ?_ | refine aN ?_ | refine aT (by omega) fun h => ?_ | refine aF (by omega) fun h => ?_ | refine ⟨fun h => ?_, fun h => ?_⟩ | refine aJ (by omega) (by omega) ?_ | refine ⟨_, rfl, ?_⟩ | refine ⟨by decide, ?_⟩ | refine ⟨by omega, ?_⟩ | fail
  ·exact absurd (show (x.p != -1) = true by assumption) (by rw [hp]; decide)
  ·exact congrArg (fun b => Res.ret (AVal.bool b)) fin
 ·rw [betB_iff.2 (show 0 ≤ x.p ∧ x.p ≤ (i : Int) - 1 by omega)] at b1
  refine cT (E := E) (fn := Tryz.f82) (g := .pure _) fun _ => ?_
  repeat' first | (refine gN hE rfl ?_; conv => whnf) | refine ⟨i, rfl, ?_⟩ | refine ⟨_, get, ?_⟩ | refine .pure _ [] b1 ?_ | refine .pure _ [] b2 ?_ | refine .pure _ [] hl ?_ | refine .pure _ [] v1 ?_ | refine .pure _ [] v2 ?_ | refine .pure _ [] v3 ?_ | refine .pure _ [] v4 ?_ | exact rfl | refine aY ?_ | refine aN ?_ | refine aT (by omega) fun h => ?_ | refine aF (by omega) fun h => ?_ | refine ⟨fun h => ?_, fun h => ?_⟩ | refine aJ (by omega) (by omega) ?_ | refine ⟨_, rfl, ?_⟩ | refine ⟨by decide, ?_⟩ | refine ⟨by omega, ?_⟩ | fail
  exact congrArg (fun b => Res.ret (AVal.bool b)) fin
theorem pnode_ok (c : Con) (i : Nat) (hi : i < 1048576) (x : Nod) (get : (nav c.ns)[i]? = some x.av) : CallOK Tryz.prog 82 [c.av, ii i] [] (.ret (.bool (nodeX (leafB c.ns (i : Int)) i x))) [] := by
 unfold nodeX
 by_cases hb : badN i x
 ·rw [if_pos hb]
  exact pnode_bad c i hi x get hb
 ·rw [if_neg hb]
  cases hl : leafB c.ns (i : Int) with
  | false => rw [if_neg (by decide)]; exact pnode_in c i hi x get hb hl _ rfl
  | true => rw [if_pos rfl]; exact pnode_leaf c i hi x get hb hl
noncomputable abbrev fPChk : Func := Tryz.f38
def nodesP (ns : List Nod) : Nat → List Nod → Bool
 | _, [] => true
 | i, x :: r => nodeX (leafB ns (i : Int)) i x && nodesP ns (i + 1) r
theorem pchk_hosts (c : Con) (hc : c.sm) (r : Int) : ∀ (m i : Nat) (b : Bool), i + m = c.hs.length → (if (b && (c.hs.drop i).all hostX) = true then (0 : Int) else 2) = r →
  To E fPChk (.pure (.ret (ii r))) (.head (stk fPChk 1) [(1, .ref 0 0), (3, .bool b), (5, ii i)] [.cells 26 c.cs]) := by
 have hlen : (hav c.hs).length = c.hs.length := by simp
 have h1 := hc.hs
 intro m
 induction m with
 | zero =>
  intro i b hi hr
  rw [List.drop_eq_nil_of_le (by omega)] at hr
  cases b with
  | false =>
   have hr : 2 = r := hr
   subst hr
   refine gW hE ?_; conv => whnf
   repeat' first | (refine gN hE rfl ?_; conv => whnf) | exact rfl | refine aY ?_ | refine aN ?_ | refine aT (by omega) fun h => ?_ | refine aF (by omega) fun h => ?_ | refine ⟨fun h => ?_, fun h => ?_⟩ | refine aJ (by omega) (by omega) ?_ | refine ⟨_, rfl, ?_⟩ | refine ⟨by decide, ?_⟩ | refine ⟨by omega, ?_⟩ | fail
  | true =>
   have hr : 0 = r := hr
   subst hr
   refine gW hE ?_; conv => whnf
   repeat' first | (refine gN hE rfl ?_; conv => whnf) | exact rfl | refine aY ?_ | refine aN ?_ | refine aT (by omega) fun h => ?_ | refine aF (by omega) fun h => ?_ | refine ⟨fun h => ?_, fun h => ?_⟩ | refine aJ (by omega) (by omega) ?_ | refine ⟨_, rfl, ?_⟩ | refine ⟨by decide, ?_⟩ | refine ⟨by omega, ?_⟩ | fail
 | succ m ih =>
  intro i b hi hr
  cases b with
  | false =>
   have hr : 2 = r := hr
   subst hr
   refine gW hE ?_; conv => whnf
   repeat' first | (refine gN hE rfl ?_; conv => whnf) | exact rfl | refine aY ?_ | refine aN ?_ | refine aT (by omega) fun h => ?_ | refine aF (by omega) fun h => ?_ | refine ⟨fun h => ?_, fun h => ?_⟩ | refine aJ (by omega) (by omega) ?_ | refine ⟨_, rfl, ?_⟩ | refine ⟨by decide, ?_⟩ | refine ⟨by omega, ?_⟩ | fail
  | true =>
   have hlt : i < c.hs.length := by omega
   rw [List.drop_eq_getElem_cons hlt, List.all_cons, ← hostB_eq] at hr
   have get := hav_get hlt
   generalize c.hs[i] = x at hr get
   have hcal := host_ok x
   have next := ih (i + 1) (hostB x) (by omega) hr
   generalize hostB x = q at hcal next
   refine gW hE ?_; conv => whnf
   repeat' first | (refine gN hE rfl ?_; conv => whnf) | refine ⟨i, rfl, ?_⟩ | refine ⟨_, get, ?_⟩ | refine .pure _ [] hcal ?_ | exact rfl | refine aY ?_ | refine aN ?_ | refine aT (by omega) fun h => ?_ | refine aF (by omega) fun h => ?_ | refine ⟨fun h => ?_, fun h => ?_⟩ | refine aJ (by omega) (by omega) ?_ | refine ⟨_, rfl, ?_⟩ | refine ⟨by decide, ?_⟩ | refine ⟨by omega, ?_⟩ | fail
   exact To.cut [1, 3, 5] 1 rfl rfl rfl rfl next
theorem pchk_nodes (c : Con) (hc : c.sm) (r : Int) : ∀ (m i : Nat) (b : Bool), i + m = c.ns.length → (if ((b && nodesP c.ns i (c.ns.drop i)) && c.hs.all hostX) = true then (0 : Int) else 2) = r →
  To E fPChk (.pure (.ret (ii r))) (.head (stk fPChk 0) [(1, .ref 0 0), (3, .bool b), (4, ii i)] [.cells 26 c.cs]) := by
 have hlen : (nav c.ns).length = c.ns.length := by simp
 have h1 := hc.ns
 intro m
 induction m with
 | zero =>
  intro i b hi hr
  rw [List.drop_eq_nil_of_le (by omega)] at hr
  have next := pchk_hosts c hc r c.hs.length 0 b (by omega) (by rw [← hr]; show _ = if ((b && true) && _) = true then (0 : Int) else 2; rw [Bool.and_true]; rfl)
  cases b with
  | false =>
   refine gW hE ?_; conv => whnf
   repeat' first | (refine gN hE rfl ?_; conv => whnf) | exact rfl | refine aY ?_ | refine aN ?_ | refine aT (by omega) fun h => ?_ | refine aF (by omega) fun h => ?_ | refine ⟨fun h => ?_, fun h => ?_⟩ | refine aJ (by omega) (by omega) ?_ | refine ⟨_, rfl, ?_⟩ | refine ⟨by decide, ?_⟩ | refine ⟨by omega, ?_⟩ | fail
   exact To.cut [1, 3, 5] 1 rfl rfl rfl rfl next
  | true =>
   refine gW hE ?_; conv => whnf
   repeat' first | (refine gN hE rfl ?_; conv => whnf) | exact rfl | refine aY ?_ | refine aN ?_ | refine aT (by omega) fun h => ?_ | refine aF (by omega) fun h => ?_ | refine ⟨fun h => ?_, fun h => ?_⟩ | refine aJ (by omega) (by omega) ?_ | refine ⟨_, rfl, ?_⟩ | refine ⟨by decide, ?_⟩ | refine ⟨by omega, ?_⟩ | fail
   exact To.cut [1, 3, 5] 1 rfl rfl rfl rfl next
 | succ m ih =>
  intro i b hi hr
  cases b with
  | false =>
   have next := pchk_hosts c hc r c.hs.length 0 false (by omega) (by rw [← hr]; rfl)
   refine gW hE ?_; conv => whnf
   repeat' first | (refine gN hE rfl ?_; conv => whnf) | exact rfl | refine aY ?_ | refine aN ?_ | refine aT (by omega) fun h => ?_ | refine aF (by omega) fun h => ?_ | refine ⟨fun h => ?_, fun h => ?_⟩ | refine aJ (by omega) (by omega) ?_ | refine ⟨_, rfl, ?_⟩ | refine ⟨by decide, ?_⟩ | refine ⟨by omega, ?_⟩ | fail
   exact To.cut [1, 3, 5] 1 rfl rfl rfl rfl next
  | true =>
   have hlt : i < c.ns.length := by omega
   rw [List.drop_eq_getElem_cons hlt] at hr
   have get := nav_get hlt
   generalize c.ns[i] = x at hr get
   have hcal := pnode_ok c i (by omega) x get
   have next := ih (i + 1) (nodeX (leafB c.ns (i : Int)) i x) (by omega) hr
   generalize nodeX (leafB c.ns (i : Int)) i x = q at hcal next
   refine gW hE ?_; conv => whnf
   repeat' first | (refine gN hE rfl ?_; conv => whnf) | refine .pure _ [] hcal ?_ | exact rfl | refine aY ?_ | refine aN ?_ | refine aT (by omega) fun h => ?_ | refine aF (by omega) fun h => ?_ | refine ⟨fun h => ?_, fun h => ?_⟩ | refine aJ (by omega) (by omega) ?_ | refine ⟨_, rfl, ?_⟩ | refine ⟨by decide, ?_⟩ | refine ⟨by omega, ?_⟩ | fail
   exact To.cut [1, 3, 4] 1 rfl rfl rfl rfl next
theorem nodes_eq (ns : List Nod) : ∀ (l : List Nod) (i : Nat), nodesP ns i l = nodesX ns i l
 | [], _ => rfl
 | x :: r, i => by
  unfold nodesP nodesX
  rw [nodes_eq ns r (i + 1), rlB_eq]
  cases nodeX (leafB ns (i : Int)) i x <;> rfl
def sizP (c : Con) : Bool := betB c.ns.length 1 12 && (betB c.hs.length 1 24 && (betB c.half 1 1048576 && betB c.age 0 1048576))
theorem sizP_iff (c : Con) : sizP c = true ↔ sizB c := by
 unfold sizP sizB
 simp only [Bool.and_eq_true, betB_iff]
 omega
theorem checkP_eq (c : Con) : (if ((sizP c && nodesP c.ns 0 (c.ns.drop 0)) && c.hs.all hostX) = true then (0 : Int) else 2) = checkI c := by
 unfold checkI
 rw [List.drop_zero, nodes_eq]
 cases hs : sizP c with
 | false =>
  rw [if_neg (c := sizB c) (fun q => by rw [(sizP_iff c).2 q] at hs; cases hs)]
  rfl
 | true =>
  rw [if_pos (c := sizB c) ((sizP_iff c).1 hs)]
  cases nodesX c.ns 0 c.ns <;> cases c.hs.all hostX <;> rfl
set_option maxHeartbeats 2000000 in
theorem pcheck_ok (c : Con) (hc : c.sm) : CallOK Tryz.prog 38 [c.av] [] (.ret (ii (checkI c))) [] := by
 have hln : (nav c.ns).length = c.ns.length := by simp
 have hlh : (hav c.hs).length = c.hs.length := by simp
 have h := pchk_nodes c hc (checkI c) c.ns.length 0 (sizP c) (by omega) (checkP_eq c)
 have b1 := btw_ok ((nav c.ns).length : Nat) 1 12
 have b2 := btw_ok ((hav c.hs).length : Nat) 1 24
 have b3 := btw_ok c.half 1 1048576
 have b4 := btw_ok c.age 0 1048576
 unfold sizP at h
 rw [← hln, ← hlh] at h
 generalize betB ((nav c.ns).length : Nat) 1 12 = q1 at b1 h
 generalize betB ((hav c.hs).length : Nat) 1 24 = q2 at b2 h
 generalize betB c.half 1 1048576 = q3 at b3 h
 generalize betB c.age 0 1048576 = q4 at b4 h
 generalize checkI c = r at h
 cases q1 <;> cases q2 <;> cases q3 <;> cases q4
 all_goals
  refine cT (E := E) (fn := Tryz.f38) (g := .pure _) fun _ => ?_
  repeat' first | (refine gN hE rfl ?_; conv => whnf) | refine .pure _ [] b1 ?_ | refine .pure _ [] b2 ?_ | refine .pure _ [] b3 ?_ | refine .pure _ [] b4 ?_ | exact rfl | refine aY ?_ | refine aN ?_ | refine aT (by omega) fun h => ?_ | refine aF (by omega) fun h => ?_ | refine ⟨fun h => ?_, fun h => ?_⟩ | refine aJ (by omega) (by omega) ?_ | refine ⟨_, rfl, ?_⟩ | refine ⟨by decide, ?_⟩ | refine ⟨by omega, ?_⟩ | fail
  exact To.cut [1, 3, 4] 1 rfl rfl rfl rfl h
def basP (g : Gan) : Bool := betB g.id 1 1073741824 && (betB g.pods 1 16 && (validB g.need && (betB g.run 1 1048576 && (betB g.lev 0 3 && betB g.pref 0 g.lev))))
theorem basP_eq (g : Gan) : basP g = basG g := by
 rw [Bool.eq_iff_iff]
 unfold basP basG
 simp only [Bool.and_eq_true, betB_iff, decide_eq_true_eq]
 constructor
 ·rintro ⟨a, b, c, d, e, f⟩
  exact ⟨⟨a.1, a.2, b.1, b.2⟩, c, d.1, d.2, e.1, e.2, f.1, f.2⟩
 ·rintro ⟨⟨a, b, c, d⟩, v, e, f, h, i, j, k⟩
  exact ⟨⟨a, b⟩, ⟨c, d⟩, v, ⟨e, f⟩, ⟨h, i⟩, j, k⟩
theorem sgang_ok (c : Con) (g : Gan) : CallOK Tryz.prog 88 [c.av, g.av] [] (.ret (ii (gangE c g))) [] := by
 have b1 := sbtw_ok g.id 1 1073741824
 have b2 := sbtw_ok g.pods 1 16
 have b3 := pvalid_ok g.need
 have b4 := sbtw_ok g.run 1 1048576
 have b5 := sbtw_ok g.lev 0 3
 have b6 := sbtw_ok g.pref 0 g.lev
 have b7 := leaf_ok c g.ten
 unfold gangE
 rw [← basP_eq]
 unfold basP
 generalize betB g.id 1 1073741824 = q1 at b1
 generalize betB g.pods 1 16 = q2 at b2
 generalize validB g.need = q3 at b3
 generalize betB g.run 1 1048576 = q4 at b4
 generalize betB g.lev 0 3 = q5 at b5
 generalize betB g.pref 0 g.lev = q6 at b6
 generalize leafB c.ns g.ten = q7 at b7
 cases q1 with
 | false =>
  refine cT (E := E) (fn := Tryz.f88) (g := .pure _) fun _ => ?_
  repeat' first | (refine gN hE rfl ?_; conv => whnf) | refine .pure _ [] b1 ?_ | refine .pure _ [] b2 ?_ | refine .pure _ [] b3 ?_ | refine .pure _ [] b4 ?_ | refine .pure _ [] b5 ?_ | refine .pure _ [] b6 ?_ | refine .pure _ [] b7 ?_ | exact rfl | refine aY ?_ | refine aN ?_ | refine aT (by omega) fun h => ?_ | refine aF (by omega) fun h => ?_ | refine ⟨fun h => ?_, fun h => ?_⟩ | refine aJ (by omega) (by omega) ?_ | refine ⟨_, rfl, ?_⟩ | refine ⟨by decide, ?_⟩ | refine ⟨by omega, ?_⟩ | fail
 | true =>
  cases q2 with
  | false =>
   refine cT (E := E) (fn := Tryz.f88) (g := .pure _) fun _ => ?_
   repeat' first | (refine gN hE rfl ?_; conv => whnf) | refine .pure _ [] b1 ?_ | refine .pure _ [] b2 ?_ | refine .pure _ [] b3 ?_ | refine .pure _ [] b4 ?_ | refine .pure _ [] b5 ?_ | refine .pure _ [] b6 ?_ | refine .pure _ [] b7 ?_ | exact rfl | refine aY ?_ | refine aN ?_ | refine aT (by omega) fun h => ?_ | refine aF (by omega) fun h => ?_ | refine ⟨fun h => ?_, fun h => ?_⟩ | refine aJ (by omega) (by omega) ?_ | refine ⟨_, rfl, ?_⟩ | refine ⟨by decide, ?_⟩ | refine ⟨by omega, ?_⟩ | fail
  | true =>
   cases q3 with
   | false =>
    refine cT (E := E) (fn := Tryz.f88) (g := .pure _) fun _ => ?_
    repeat' first | (refine gN hE rfl ?_; conv => whnf) | refine .pure _ [] b1 ?_ | refine .pure _ [] b2 ?_ | refine .pure _ [] b3 ?_ | refine .pure _ [] b4 ?_ | refine .pure _ [] b5 ?_ | refine .pure _ [] b6 ?_ | refine .pure _ [] b7 ?_ | exact rfl | refine aY ?_ | refine aN ?_ | refine aT (by omega) fun h => ?_ | refine aF (by omega) fun h => ?_ | refine ⟨fun h => ?_, fun h => ?_⟩ | refine aJ (by omega) (by omega) ?_ | refine ⟨_, rfl, ?_⟩ | refine ⟨by decide, ?_⟩ | refine ⟨by omega, ?_⟩ | fail
   | true =>
    cases q4 with
    | false =>
     refine cT (E := E) (fn := Tryz.f88) (g := .pure _) fun _ => ?_
     repeat' first | (refine gN hE rfl ?_; conv => whnf) | refine .pure _ [] b1 ?_ | refine .pure _ [] b2 ?_ | refine .pure _ [] b3 ?_ | refine .pure _ [] b4 ?_ | refine .pure _ [] b5 ?_ | refine .pure _ [] b6 ?_ | refine .pure _ [] b7 ?_ | exact rfl | refine aY ?_ | refine aN ?_ | refine aT (by omega) fun h => ?_ | refine aF (by omega) fun h => ?_ | refine ⟨fun h => ?_, fun h => ?_⟩ | refine aJ (by omega) (by omega) ?_ | refine ⟨_, rfl, ?_⟩ | refine ⟨by decide, ?_⟩ | refine ⟨by omega, ?_⟩ | fail
    | true =>
     cases q5 with
     | false =>
      refine cT (E := E) (fn := Tryz.f88) (g := .pure _) fun _ => ?_
      repeat' first | (refine gN hE rfl ?_; conv => whnf) | refine .pure _ [] b1 ?_ | refine .pure _ [] b2 ?_ | refine .pure _ [] b3 ?_ | refine .pure _ [] b4 ?_ | refine .pure _ [] b5 ?_ | refine .pure _ [] b6 ?_ | refine .pure _ [] b7 ?_ | exact rfl | refine aY ?_ | refine aN ?_ | refine aT (by omega) fun h => ?_ | refine aF (by omega) fun h => ?_ | refine ⟨fun h => ?_, fun h => ?_⟩ | refine aJ (by omega) (by omega) ?_ | refine ⟨_, rfl, ?_⟩ | refine ⟨by decide, ?_⟩ | refine ⟨by omega, ?_⟩ | fail
     | true =>
      cases q6 with
      | false =>
       refine cT (E := E) (fn := Tryz.f88) (g := .pure _) fun _ => ?_
       repeat' first | (refine gN hE rfl ?_; conv => whnf) | refine .pure _ [] b1 ?_ | refine .pure _ [] b2 ?_ | refine .pure _ [] b3 ?_ | refine .pure _ [] b4 ?_ | refine .pure _ [] b5 ?_ | refine .pure _ [] b6 ?_ | refine .pure _ [] b7 ?_ | exact rfl | refine aY ?_ | refine aN ?_ | refine aT (by omega) fun h => ?_ | refine aF (by omega) fun h => ?_ | refine ⟨fun h => ?_, fun h => ?_⟩ | refine aJ (by omega) (by omega) ?_ | refine ⟨_, rfl, ?_⟩ | refine ⟨by decide, ?_⟩ | refine ⟨by omega, ?_⟩ | fail
      | true =>
       cases q7 with
       | false =>
        refine cT (E := E) (fn := Tryz.f88) (g := .pure _) fun _ => ?_
        repeat' first | (refine gN hE rfl ?_; conv => whnf) | refine .pure _ [] b1 ?_ | refine .pure _ [] b2 ?_ | refine .pure _ [] b3 ?_ | refine .pure _ [] b4 ?_ | refine .pure _ [] b5 ?_ | refine .pure _ [] b6 ?_ | refine .pure _ [] b7 ?_ | exact rfl | refine aY ?_ | refine aN ?_ | refine aT (by omega) fun h => ?_ | refine aF (by omega) fun h => ?_ | refine ⟨fun h => ?_, fun h => ?_⟩ | refine aJ (by omega) (by omega) ?_ | refine ⟨_, rfl, ?_⟩ | refine ⟨by decide, ?_⟩ | refine ⟨by omega, ?_⟩ | fail
       | true =>
        refine cT (E := E) (fn := Tryz.f88) (g := .pure _) fun _ => ?_
        repeat' first | (refine gN hE rfl ?_; conv => whnf) | refine .pure _ [] b1 ?_ | refine .pure _ [] b2 ?_ | refine .pure _ [] b3 ?_ | refine .pure _ [] b4 ?_ | refine .pure _ [] b5 ?_ | refine .pure _ [] b6 ?_ | refine .pure _ [] b7 ?_ | exact rfl | refine aY ?_ | refine aN ?_ | refine aT (by omega) fun h => ?_ | refine aF (by omega) fun h => ?_ | refine ⟨fun h => ?_, fun h => ?_⟩ | refine aJ (by omega) (by omega) ?_ | refine ⟨_, rfl, ?_⟩ | refine ⟨by decide, ?_⟩ | refine ⟨by omega, ?_⟩ | fail
def emptyP (c : Con) : Bool := C8.eqL Nod.eqb c.ns [] && (C8.eqL Hos.eqb c.hs [] && (c.half == 0 && c.age == 0))
theorem emptyP_eq (c : Con) : emptyP c = emptyC c := by
 obtain ⟨ns, hs, hf, ag⟩ := c
 unfold emptyP emptyC
 cases ns <;> cases hs <;> simp [C8.eqL] <;> rfl
def con0 : Con := ⟨[], [], 0, 0⟩
theorem same0_ok (c : Con) : CallOK Tryz.prog 80 [c.av, con0.av] [] (.ret (.bool (emptyC c))) [] := by
 have h1 := C8.eqN_ok c.ns []
 have h2 := C8.eqH_ok c.hs []
 rw [← emptyP_eq]
 unfold emptyP
 generalize C8.eqL Nod.eqb c.ns [] = q1 at h1
 generalize C8.eqL Hos.eqb c.hs [] = q2 at h2
 obtain ⟨R, hR⟩ : ∃ R : Bool, R = (q1 && (q2 && (c.half == 0 && c.age == 0))) := ⟨_, rfl⟩
 rw [← hR]
 cases q1 with
 | false =>
  have hR : R = false := hR
  subst hR
  refine cT (E := E) (fn := Tryz.f80) (g := .pure _) fun _ => ?_
  repeat' first | (refine gN hE rfl ?_; conv => whnf) | refine .pure _ [] h1 ?_ | refine .pure _ [] h2 ?_ | exact rfl | refine aY ?_ | refine aN ?_ | refine aT (by omega) fun h => ?_ | refine aF (by omega) fun h => ?_ | refine ⟨fun h => ?_, fun h => ?_⟩ | refine aJ (by omega) (by omega) ?_ | refine ⟨_, rfl, ?_⟩ | refine ⟨by decide, ?_⟩ | refine ⟨by omega, ?_⟩ | fail
 | true =>
  cases q2 with
  | false =>
   have hR : R = false := hR
   subst hR
   refine cT (E := E) (fn := Tryz.f80) (g := .pure _) fun _ => ?_
   repeat' first | (refine gN hE rfl ?_; conv => whnf) | refine .pure _ [] h1 ?_ | refine .pure _ [] h2 ?_ | exact rfl | refine aY ?_ | refine aN ?_ | refine aT (by omega) fun h => ?_ | refine aF (by omega) fun h => ?_ | refine ⟨fun h => ?_, fun h => ?_⟩ | refine aJ (by omega) (by omega) ?_ | refine ⟨_, rfl, ?_⟩ | refine ⟨by decide, ?_⟩ | refine ⟨by omega, ?_⟩ | fail
  | true =>
   have hR : R = (c.half == 0 && c.age == 0) := hR
   refine cT (E := E) (fn := Tryz.f80) (g := .pure _) fun _ => ?_
   repeat' first | (refine gN hE rfl ?_; conv => whnf) | refine .pure _ [] h1 ?_ | refine .pure _ [] h2 ?_ | exact rfl | refine aY ?_ | refine aN ?_ | refine aT (by omega) fun h => ?_ | refine aF (by omega) fun h => ?_ | refine ⟨fun h => ?_, fun h => ?_⟩ | refine aJ (by omega) (by omega) ?_ | refine ⟨_, rfl, ?_⟩ | refine ⟨by decide, ?_⟩ | refine ⟨by omega, ?_⟩ | fail
   all_goals (rw [hR]; simp_all [con0])
theorem empty_ok (c : Con) : CallOK Tryz.prog 37 [c.av] [] (.ret (.bool (emptyC c))) [] := by
 have h := same0_ok c
 generalize emptyC c = q at h
 refine cT (E := E) (fn := Tryz.f37) (g := .pure _) fun _ => ?_
 repeat' first | (refine gN hE rfl ?_; conv => whnf) | refine .pure _ [] (CallOK.strip h) ?_ | exact rfl | refine aY ?_ | refine aN ?_ | refine aT (by omega) fun h => ?_ | refine aF (by omega) fun h => ?_ | refine ⟨fun h => ?_, fun h => ?_⟩ | refine aJ (by omega) (by omega) ?_ | refine ⟨_, rfl, ?_⟩ | refine ⟨by decide, ?_⟩ | refine ⟨by omega, ?_⟩ | fail
def idxA {α : Type} (p : α → Bool) : List α → Int → Int
 | [], _ => -1
 | x :: r, i => if p x = true then i else idxA p r (i + 1)
theorem idxA_iff {α : Type} (p : α → Bool) : ∀ (l : List α) (i : Int), 0 ≤ i → decide (0 ≤ idxA p l i) = l.any p
 | [], i, _ => rfl
 | x :: r, i, h => by
  unfold idxA
  rw [List.any_cons]
  cases hp : p x with
  | true => rw [if_pos rfl, decide_eq_true h]; rfl
  | false => rw [if_neg (by decide), idxA_iff p r (i + 1) (by omega)]; rfl
theorem idxN_loop' (f : FuncId) (cap : List AVal) (xs : List Int) (p : Int → Bool) (hf : ∀ x ∈ xs, CallOK Tryz.prog f [ii x, .ptr cap] [] (.ret (.bool (p x))) []) (hl : ((iv xs).length : Int) ≤ 9223372036854775807) (r : Int) :
  ∀ (n i : Nat), i + n = xs.length → idxA p (xs.drop i) i = r →
  To E Tryz.f184 (.pure (.ret (.int .i64 r))) (.head (stk Tryz.f184 0) [(0, .slice 1 (iv xs) .no), (1, .func (.func f) [] [.ptr cap]), (7, .int .i64 ((iv xs).length : Nat)), (8, .int .i64 i)] []) := by
  have hlen : (iv xs).length = xs.length := by simp
  intro n
  induction n with
  | zero =>
   intro i hi hr
   refine gW hE ?_; conv => whnf
   refine aF (by omega) fun h => ?_
   refine gW hE ?_; conv => whnf
   rw [List.drop_eq_nil_of_le (by omega)] at hr
   rw [← hr]
   rfl
  | succ n ih =>
   intro i hi hr
   have hlt : i < xs.length := by omega
   refine gW hE ?_; conv => whnf
   refine aT (by omega) fun h => ?_
   refine gW hE ?_; conv => whnf
   refine ⟨i, rfl, ?_⟩
   refine gW hE ?_; conv => whnf
   refine ⟨_, iv_get hlt, ?_⟩
   refine gW hE ?_; conv => whnf
   refine .pure _ [] (hf xs[i] (List.getElem_mem hlt)) ?_
   refine gW hE ?_; conv => whnf
   rw [List.drop_eq_getElem_cons hlt] at hr
   have hr : (if p xs[i] = true then (i : Int) else idxA p (xs.drop (i + 1)) ((i : Int) + 1)) = r := hr
   refine ⟨fun h2 => ?_, fun h2 => ?_⟩
   ·refine gW hE ?_; conv => whnf
    rw [if_pos h2] at hr
    rw [hr]
   ·refine gW hE ?_; conv => whnf
    rw [if_neg (by rw [h2]; simp)] at hr
    refine .inl ⟨⟨by simp only [kmin]; omega, by simp only [kmax]; omega⟩, ?_⟩
    refine gW hE ?_; conv => whnf
    refine To.head [0, 1, 7, 8] ?_
    exact ih (i + 1) (by omega) (by rw [← hr]; push_cast; rfl)
theorem idxG_loop' (f : FuncId) (cap : List AVal) (xs : List (List Int)) (p : List Int → Bool) (hf : ∀ x ∈ xs, CallOK Tryz.prog f [.slice 1 (iv x) .no, .ptr cap] [] (.ret (.bool (p x))) []) (hl : ((gav xs).length : Int) ≤ 9223372036854775807) (r : Int) :
  ∀ (n i : Nat), i + n = xs.length → idxA p (xs.drop i) i = r →
  To E Tryz.f182 (.pure (.ret (.int .i64 r))) (.head (stk Tryz.f182 0) [(0, .slice 1 (gav xs) .no), (1, .func (.func f) [] [.ptr cap]), (7, .int .i64 ((gav xs).length : Nat)), (8, .int .i64 i)] []) := by
  have hlen : (gav xs).length = xs.length := by simp
  intro n
  induction n with
  | zero =>
   intro i hi hr
   refine gW hE ?_; conv => whnf
   refine aF (by omega) fun h => ?_
   refine gW hE ?_; conv => whnf
   rw [List.drop_eq_nil_of_le (by omega)] at hr
   rw [← hr]
   rfl
  | succ n ih =>
   intro i hi hr
   have hlt : i < xs.length := by omega
   refine gW hE ?_; conv => whnf
   refine aT (by omega) fun h => ?_
   refine gW hE ?_; conv => whnf
   refine ⟨i, rfl, ?_⟩
   refine gW hE ?_; conv => whnf
   refine ⟨_, gav_get hlt, ?_⟩
   refine gW hE ?_; conv => whnf
   refine .pure _ [] (hf xs[i] (List.getElem_mem hlt)) ?_
   refine gW hE ?_; conv => whnf
   rw [List.drop_eq_getElem_cons hlt] at hr
   have hr : (if p xs[i] = true then (i : Int) else idxA p (xs.drop (i + 1)) ((i : Int) + 1)) = r := hr
   refine ⟨fun h2 => ?_, fun h2 => ?_⟩
   ·refine gW hE ?_; conv => whnf
    rw [if_pos h2] at hr
    rw [hr]
   ·refine gW hE ?_; conv => whnf
    rw [if_neg (by rw [h2]; simp)] at hr
    refine .inl ⟨⟨by simp only [kmin]; omega, by simp only [kmax]; omega⟩, ?_⟩
    refine gW hE ?_; conv => whnf
    refine To.head [0, 1, 7, 8] ?_
    exact ih (i + 1) (by omega) (by rw [← hr]; push_cast; rfl)
theorem contN_ok (f : FuncId) (cap : List AVal) (xs : List Int) (p : Int → Bool) (hf : ∀ x ∈ xs, CallOK Tryz.prog f [ii x, .ptr cap] [] (.ret (.bool (p x))) []) :
  CallOK Tryz.prog 163 [.slice 1 (iv xs) .no, .func (.func f) [] [.ptr cap]] [] (.ret (.bool (xs.any p))) [] := by
 have hi : CallOK Tryz.prog 184 [.slice 1 (iv xs) .no, .func (.func f) [] [.ptr cap]] [] (.ret (.int .i64 (idxA p xs 0))) [] := by
  refine cT (E := E) (fn := Tryz.f184) (g := .pure _) fun ho => ?_
  refine gW hE ?_; conv => whnf
  refine To.head [0, 1, 7, 8] ?_
  exact idxN_loop' f cap xs p hf ho.1 _ xs.length 0 (by omega) (by simp)
 rw [← idxA_iff p xs 0 (Int.le_refl _)]
 refine cT (E := E) (fn := Tryz.f163) (g := .pure _) fun _ => ?_
 repeat' first | (refine gN hE rfl ?_; conv => whnf) | refine .pure _ [] hi ?_ | exact rfl | refine aY ?_ | refine aN ?_ | refine aT (by omega) fun h => ?_ | refine aF (by omega) fun h => ?_ | refine ⟨fun h => ?_, fun h => ?_⟩ | refine aJ (by omega) (by omega) ?_ | refine ⟨_, rfl, ?_⟩ | refine ⟨by decide, ?_⟩ | refine ⟨by omega, ?_⟩ | fail
theorem contG_ok (f : FuncId) (cap : List AVal) (xs : List (List Int)) (p : List Int → Bool) (hf : ∀ x ∈ xs, CallOK Tryz.prog f [.slice 1 (iv x) .no, .ptr cap] [] (.ret (.bool (p x))) []) :
  CallOK Tryz.prog 160 [.slice 1 (gav xs) .no, .func (.func f) [] [.ptr cap]] [] (.ret (.bool (xs.any p))) [] := by
 have hi : CallOK Tryz.prog 182 [.slice 1 (gav xs) .no, .func (.func f) [] [.ptr cap]] [] (.ret (.int .i64 (idxA p xs 0))) [] := by
  refine cT (E := E) (fn := Tryz.f182) (g := .pure _) fun ho => ?_
  refine gW hE ?_; conv => whnf
  refine To.head [0, 1, 7, 8] ?_
  exact idxG_loop' f cap xs p hf ho.1 _ xs.length 0 (by omega) (by simp)
 rw [← idxA_iff p xs 0 (Int.le_refl _)]
 refine cT (E := E) (fn := Tryz.f160) (g := .pure _) fun _ => ?_
 repeat' first | (refine gN hE rfl ?_; conv => whnf) | refine .pure _ [] hi ?_ | exact rfl | refine aY ?_ | refine aN ?_ | refine aT (by omega) fun h => ?_ | refine aF (by omega) fun h => ?_ | refine ⟨fun h => ?_, fun h => ?_⟩ | refine aJ (by omega) (by omega) ?_ | refine ⟨_, rfl, ?_⟩ | refine ⟨by decide, ?_⟩ | refine ⟨by omega, ?_⟩ | fail
theorem ck11_ok (G : List Int) (hG : G.length ≤ 1048576) (h : Int) : CallOK Tryz.prog 164 [ii h, .ptr [.slice 1 (iv G) .no]] [] (.ret (.bool (!inB h G))) [] := by
 have hc := contI_ok G hG h
 refine cT (E := E) (fn := Tryz.f164) (g := .pure _) fun _ => ?_
 repeat' first | (refine gN hE rfl ?_; conv => whnf) | refine .pure _ [] hc ?_ | exact rfl | refine aY ?_ | refine aN ?_ | refine aT (by omega) fun h => ?_ | refine aF (by omega) fun h => ?_ | refine ⟨fun h => ?_, fun h => ?_⟩ | refine aJ (by omega) (by omega) ?_ | refine ⟨_, rfl, ?_⟩ | refine ⟨by decide, ?_⟩ | refine ⟨by omega, ?_⟩ | fail
theorem ck1_ok (G l : List Int) (hG : G.length ≤ 1048576) : CallOK Tryz.prog 162 [.slice 1 (iv G) .no, .ptr [.slice 1 (iv l) .no]] [] (.ret (.bool (!(l.any fun h => !inB h G)))) [] := by
 have hc := contN_ok 164 [.slice 1 (iv G) .no] l (fun h => !inB h G) fun x _ => ck11_ok G hG x
 refine cT (E := E) (fn := Tryz.f162) (g := .pure _) fun _ => ?_
 refine goes hE 10 ?_; conv => whnf
 refine To.frz [2] [0] ?_
 repeat' first | (refine gN hE rfl ?_; conv => whnf) | refine .pure _ [] hc ?_ | exact rfl | refine aY ?_ | refine aN ?_ | refine aT (by omega) fun h => ?_ | refine aF (by omega) fun h => ?_ | refine ⟨fun h => ?_, fun h => ?_⟩ | refine aJ (by omega) (by omega) ?_ | refine ⟨_, rfl, ?_⟩ | refine ⟨by decide, ?_⟩ | refine ⟨by omega, ?_⟩ | fail
theorem vav_at {l : List V3} {u : Int} (h0 : 0 ≤ u) (h1 : u < (l.length : Int)) : (vav l)[u.toNat]? = some ((l[u.toNat]?).getD V3.zero).av := by
 rw [List.getElem?_eq_getElem (show u.toNat < l.length by omega)]
 exact vav_get (by omega)
theorem used_at {c : Con} {l : List Rn} {n : Int} (h : c.ok n) : (vav (ofL c l))[n.toNat]? = some (atV (ofL c l) n).av := by
 obtain ⟨h0, h1⟩ := h
 have hl : (ofL c l).length = c.ns.length := by unfold ofL allL; simp
 unfold atV
 rw [if_neg (by simp; omega)]
 exact vav_at h0 (by omega)
theorem mf_put (k : List Int) (v : AVal) (x : List Int) : ∀ (es : List (List Int × AVal)), mfind (mput es k v) x = if k = x then some v else mfind es x
 | [] => rfl
 | (j, w) :: r => by
  show mfind (if j = k then (k, v) :: r else (j, w) :: mput r k v) x = if k = x then some v else (if j = x then some w else mfind r x)
  by_cases hj : j = k
  ·subst hj
   rw [if_pos rfl]
   show (if j = x then some v else mfind r x) = _
   by_cases hx : j = x
   ·rw [if_pos hx, if_pos hx]
   ·rw [if_neg hx, if_neg hx, if_neg hx]
  ·rw [if_neg hj]
   show (if j = x then some w else mfind (mput r k v) x) = _
   rw [mf_put k v x r]
   by_cases hx : j = x
   ·subst hx
    rw [if_pos rfl, if_neg (fun q => hj q.symm), if_pos rfl]
   ·rw [if_neg hx, if_neg hx]
def MapC (es : List (List Int × AVal)) (pre : List Int) : Prop := ∀ h : Int, mfind es [h] = if pre.count h = 0 then none else some (ii ((pre.count h : Nat) : Int))
theorem mapC_put {es : List (List Int × AVal)} {pre : List Int} (hm : MapC es pre) (h v : Int) (hv : v = ((pre.count h : Nat) : Int) + 1) : MapC (mput es [h] (ii v)) (pre ++ [h]) := fun x => by
 rw [mf_put, List.count_append]
 by_cases hx : h = x
 ·subst hx
  rw [if_pos rfl, if_neg (by simp), hv]
  simp
 ·rw [if_neg (by simpa using hx), hm x]
  have : [h].count x = 0 := List.count_eq_zero.2 (by simpa using fun q => hx q.symm)
  rw [this, Nat.add_zero]
def plS (free : List V3) (need : V3) (n h : Int) : Bool := if decide (h < 0) = true then false else if decide ((free.length : Int) ≤ h) = true then false else !decide (roomI ((free[h.toNat]?).getD V3.zero) need < n)
def plB (free : List V3) (need : V3) : List Int → List Int → Bool
 | _, [] => true
 | pre, h :: r => plS free need (((pre.count h : Nat) : Int) + 1) h && plB free need (pre ++ [h]) r
noncomputable abbrev fPla : Func := Tryz.f134
def grpB (l : List Int) (G : List Int) : Bool := !(l.any fun h => !inB h G)
abbrev plF (c : Con) (free : List V3) (g : Gan) (l : List Int) (i : Int) : List (Nat × AVal) := [(1, .slice 3 (vav free) .no), (4, .ptr c.cs), (6, .ptr g.cs), (7, .ptr [.slice 1 (iv l) .no]), (9, .mref 0), (18, .slice 1 (iv l) .no), (19, .int .i64 ((iv l).length : Nat)), (20, ii i)]
theorem pla_loop (c : Con) (hc : c.sm) (free : List V3) (g : Gan) (l : List Int) (hl : l.length ≤ 1048576) (A : Bool) (hA : (gpL c g.lev).any (grpB l) = A) (r : Bool) : ∀ (m i : Nat) (es : List (List Int × AVal)), i + m = l.length → MapC es (l.take i) → (plB free g.need (l.take i) (l.drop i) && A) = r →
  To E fPla (.pure (.ret (.bool r))) (.head (stk fPla 0) (plF c free g l (i : Int)) [.mp false es]) := by
 have hlen : (iv l).length = l.length := by simp
 have hfl : (vav free).length = free.length := by simp
 intro m
 induction m with
 | zero =>
  intro i es hi hm hr
  rw [List.drop_eq_nil_of_le (by omega)] at hr
  have hr : A = r := hr
  subst hr
  have hok := gpL_ok c g.lev
  have hch := hc.hs
  have h1 := groups_ok c hc g.lev
  have h2 := contG_ok 162 [.slice 1 (iv l) .no] (gpL c g.lev) (grpB l) fun G hG => ck1_ok G l (by have := (hok.2 G hG).2.1; omega)
  rw [hA] at h2
  generalize gpL c g.lev = gs at h1 h2
  refine gW hE ?_; conv => whnf
  refine aF (by omega) fun h => ?_
  repeat' first | (refine gN hE rfl ?_; conv => whnf) | refine .pure _ [] h1 ?_ | refine .pure _ [] h2 ?_ | exact rfl | refine aY ?_ | refine aN ?_ | refine aT (by omega) fun h => ?_ | refine aF (by omega) fun h => ?_ | refine ⟨fun h => ?_, fun h => ?_⟩ | refine aJ (by omega) (by omega) ?_ | refine ⟨_, rfl, ?_⟩ | refine ⟨by decide, ?_⟩ | refine ⟨by omega, ?_⟩ | fail
 | succ m ih =>
  intro i es hi hm hr
  have hlt : i < l.length := by omega
  have htk : l.take (i + 1) = l.take i ++ [l[i]] := by rw [List.take_add_one, List.getElem?_eq_getElem hlt]; rfl
  rw [List.drop_eq_getElem_cons hlt] at hr
  have get := iv_get hlt
  have ih := fun es => ih (i + 1) es (by omega)
  rw [htk] at ih
  generalize l[i] = u0 at hr get ih
  have hcnt : ((l.take i).count u0) ≤ 1048576 := Nat.le_trans List.count_le_length (by simp; omega)
  have next := fun v (hv : v = (((l.take i).count u0 : Nat) : Int) + 1) => ih (mput es [u0] (ii v)) (mapC_put hm u0 v hv)
  have hf := hm u0
  have hf2 : ∀ v, mfind (mput es [u0] v) [u0] = some v := fun v => by rw [mf_put, if_pos rfl]
  have hr : ((plS free g.need ((((l.take i).count u0 : Nat) : Int) + 1) u0 && plB free g.need (l.take i ++ [u0]) (l.drop (i + 1))) && A) = r := hr
  generalize plB free g.need (l.take i ++ [u0]) (l.drop (i + 1)) = B at hr next
  generalize (l.take i).count u0 = k at hcnt hf hr next
  unfold plS at hr
  have go : ∀ (w : Int), w = (k : Int) → (∃ o, mfind es [u0] = o ∧ (o = none ∧ w = 0 ∨ o = some (ii w))) → To E fPla (.pure (.ret (.bool r))) (.head (stk fPla 0) (plF c free g l (i : Int)) [.mp false es]) := fun w hwk ⟨o, ho, hw⟩ => by
   have next := next (w + 1) (by omega)
   rw [show ((k : Int) + 1) = w + 1 from by omega] at hr
   by_cases h1 : u0 < 0
   ·rw [decide_eq_true h1] at hr
    have hr : false = r := hr
    subst hr
    rcases hw with ⟨rfl, rfl⟩ | rfl
    ·refine gW hE ?_; conv => whnf
     refine aT (by omega) fun h => ?_
     repeat' first | (refine gN hE rfl ?_; conv => whnf) | refine ⟨i, rfl, ?_⟩ | refine ⟨u0.toNat, hn, ?_⟩ | refine ⟨_, get, ?_⟩ | refine ⟨_, gv, ?_⟩ | refine ⟨_, ho, ?_⟩ | refine Exists.intro _ (And.intro (hf2 _) ?_) | refine .pure _ [] hroom ?_ | exact rfl | refine aY ?_ | refine aN ?_ | refine aT (by omega) fun h => ?_ | refine aF (by omega) fun h => ?_ | refine ⟨fun h => ?_, fun h => ?_⟩ | refine aJ (by omega) (by omega) ?_ | refine ⟨_, rfl, ?_⟩ | refine ⟨by decide, ?_⟩ | refine ⟨by omega, ?_⟩ | fail
    ·refine gW hE ?_; conv => whnf
     refine aT (by omega) fun h => ?_
     repeat' first | (refine gN hE rfl ?_; conv => whnf) | refine ⟨i, rfl, ?_⟩ | refine ⟨u0.toNat, hn, ?_⟩ | refine ⟨_, get, ?_⟩ | refine ⟨_, gv, ?_⟩ | refine ⟨_, ho, ?_⟩ | refine Exists.intro _ (And.intro (hf2 _) ?_) | refine .pure _ [] hroom ?_ | exact rfl | refine aY ?_ | refine aN ?_ | refine aT (by omega) fun h => ?_ | refine aF (by omega) fun h => ?_ | refine ⟨fun h => ?_, fun h => ?_⟩ | refine aJ (by omega) (by omega) ?_ | refine ⟨_, rfl, ?_⟩ | refine ⟨by decide, ?_⟩ | refine ⟨by omega, ?_⟩ | fail
   ·rw [decide_eq_false h1, if_neg (by decide)] at hr
    by_cases h2 : (free.length : Int) ≤ u0
    ·rw [decide_eq_true h2] at hr
     have hr : false = r := hr
     subst hr
     rcases hw with ⟨rfl, rfl⟩ | rfl
     ·refine gW hE ?_; conv => whnf
      refine aT (by omega) fun h => ?_
      repeat' first | (refine gN hE rfl ?_; conv => whnf) | refine ⟨i, rfl, ?_⟩ | refine ⟨u0.toNat, hn, ?_⟩ | refine ⟨_, get, ?_⟩ | refine ⟨_, gv, ?_⟩ | refine ⟨_, ho, ?_⟩ | refine Exists.intro _ (And.intro (hf2 _) ?_) | refine .pure _ [] hroom ?_ | exact rfl | refine aY ?_ | refine aN ?_ | refine aT (by omega) fun h => ?_ | refine aF (by omega) fun h => ?_ | refine ⟨fun h => ?_, fun h => ?_⟩ | refine aJ (by omega) (by omega) ?_ | refine ⟨_, rfl, ?_⟩ | refine ⟨by decide, ?_⟩ | refine ⟨by omega, ?_⟩ | fail
     ·refine gW hE ?_; conv => whnf
      refine aT (by omega) fun h => ?_
      repeat' first | (refine gN hE rfl ?_; conv => whnf) | refine ⟨i, rfl, ?_⟩ | refine ⟨u0.toNat, hn, ?_⟩ | refine ⟨_, get, ?_⟩ | refine ⟨_, gv, ?_⟩ | refine ⟨_, ho, ?_⟩ | refine Exists.intro _ (And.intro (hf2 _) ?_) | refine .pure _ [] hroom ?_ | exact rfl | refine aY ?_ | refine aN ?_ | refine aT (by omega) fun h => ?_ | refine aF (by omega) fun h => ?_ | refine ⟨fun h => ?_, fun h => ?_⟩ | refine aJ (by omega) (by omega) ?_ | refine ⟨_, rfl, ?_⟩ | refine ⟨by decide, ?_⟩ | refine ⟨by omega, ?_⟩ | fail
    ·rw [decide_eq_false h2, if_neg (by decide)] at hr
     have hn : u0 = (u0.toNat : Int) := by omega
     have gv := vav_at (l := free) (u := u0) (by omega) (by omega)
     generalize (free[u0.toNat]?).getD V3.zero = fv at gv hr
     have hroom := room_ok fv g.need
     generalize roomI fv g.need = q at hroom hr
     by_cases h3 : q < w + 1
     ·rw [decide_eq_true h3] at hr
      have hr : false = r := hr
      subst hr
      rcases hw with ⟨rfl, rfl⟩ | rfl
      ·refine gW hE ?_; conv => whnf
       refine aT (by omega) fun h => ?_
       repeat' first | (refine gN hE rfl ?_; conv => whnf) | refine ⟨i, rfl, ?_⟩ | refine ⟨u0.toNat, hn, ?_⟩ | refine ⟨_, get, ?_⟩ | refine ⟨_, gv, ?_⟩ | refine ⟨_, ho, ?_⟩ | refine Exists.intro _ (And.intro (hf2 _) ?_) | refine .pure _ [] hroom ?_ | exact rfl | refine aY ?_ | refine aN ?_ | refine aT (by omega) fun h => ?_ | refine aF (by omega) fun h => ?_ | refine ⟨fun h => ?_, fun h => ?_⟩ | refine aJ (by omega) (by omega) ?_ | refine ⟨_, rfl, ?_⟩ | refine ⟨by decide, ?_⟩ | refine ⟨by omega, ?_⟩ | fail
      ·refine gW hE ?_; conv => whnf
       refine aT (by omega) fun h => ?_
       repeat' first | (refine gN hE rfl ?_; conv => whnf) | refine ⟨i, rfl, ?_⟩ | refine ⟨u0.toNat, hn, ?_⟩ | refine ⟨_, get, ?_⟩ | refine ⟨_, gv, ?_⟩ | refine ⟨_, ho, ?_⟩ | refine Exists.intro _ (And.intro (hf2 _) ?_) | refine .pure _ [] hroom ?_ | exact rfl | refine aY ?_ | refine aN ?_ | refine aT (by omega) fun h => ?_ | refine aF (by omega) fun h => ?_ | refine ⟨fun h => ?_, fun h => ?_⟩ | refine aJ (by omega) (by omega) ?_ | refine ⟨_, rfl, ?_⟩ | refine ⟨by decide, ?_⟩ | refine ⟨by omega, ?_⟩ | fail
     ·rw [decide_eq_false h3] at hr
      have next := next hr
      rcases hw with ⟨rfl, rfl⟩ | rfl
      ·refine gW hE ?_; conv => whnf
       refine aT (by omega) fun h => ?_
       repeat' first | (refine gN hE rfl ?_; conv => whnf) | refine ⟨i, rfl, ?_⟩ | refine ⟨u0.toNat, hn, ?_⟩ | refine ⟨_, get, ?_⟩ | refine ⟨_, gv, ?_⟩ | refine ⟨_, ho, ?_⟩ | refine Exists.intro _ (And.intro (hf2 _) ?_) | refine .pure _ [] hroom ?_ | exact rfl | refine aY ?_ | refine aN ?_ | refine aT (by omega) fun h => ?_ | refine aF (by omega) fun h => ?_ | refine ⟨fun h => ?_, fun h => ?_⟩ | refine aJ (by omega) (by omega) ?_ | refine ⟨_, rfl, ?_⟩ | refine ⟨by decide, ?_⟩ | refine ⟨by omega, ?_⟩ | fail
       exact To.cut [1, 4, 6, 7, 9, 18, 19, 20] 1 rfl rfl rfl rfl next
      ·refine gW hE ?_; conv => whnf
       refine aT (by omega) fun h => ?_
       repeat' first | (refine gN hE rfl ?_; conv => whnf) | refine ⟨i, rfl, ?_⟩ | refine ⟨u0.toNat, hn, ?_⟩ | refine ⟨_, get, ?_⟩ | refine ⟨_, gv, ?_⟩ | refine ⟨_, ho, ?_⟩ | refine Exists.intro _ (And.intro (hf2 _) ?_) | refine .pure _ [] hroom ?_ | exact rfl | refine aY ?_ | refine aN ?_ | refine aT (by omega) fun h => ?_ | refine aF (by omega) fun h => ?_ | refine ⟨fun h => ?_, fun h => ?_⟩ | refine aJ (by omega) (by omega) ?_ | refine ⟨_, rfl, ?_⟩ | refine ⟨by decide, ?_⟩ | refine ⟨by omega, ?_⟩ | fail
       exact To.cut [1, 4, 6, 7, 9, 18, 19, 20] 1 rfl rfl rfl rfl next
  by_cases hk : k = 0
  ·rw [if_pos hk] at hf
   exact go 0 (by omega) ⟨_, hf, .inl ⟨rfl, rfl⟩⟩
  ·rw [if_neg hk] at hf
   exact go k rfl ⟨_, hf, .inr rfl⟩
theorem plS_iff {free : List V3} {need : V3} {n h : Int} : plS free need n h = true ↔ 0 ≤ h ∧ h < (free.length : Int) ∧ n ≤ roomI ((free[h.toNat]?).getD V3.zero) need := by
 unfold plS
 by_cases h1 : h < 0
 ·rw [if_pos (decide_eq_true h1)]
  constructor
  ·intro q; cases q
  ·intro q; omega
 ·rw [if_neg (by rw [decide_eq_false h1]; decide)]
  by_cases h2 : (free.length : Int) ≤ h
  ·rw [if_pos (decide_eq_true h2)]
   constructor
   ·intro q; cases q
   ·intro q; omega
  ·rw [if_neg (by rw [decide_eq_false h2]; decide)]
   simp
   omega
theorem plB_iff {free : List V3} {need : V3} : ∀ (l pre : List Int), plB free need pre l = true ↔ ∀ u ∈ l, 0 ≤ u ∧ u < (free.length : Int) ∧ (((pre ++ l).count u : Nat) : Int) ≤ roomI ((free[u.toNat]?).getD V3.zero) need
 | [], pre => by simp [plB]
 | h :: r, pre => by
  unfold plB
  rw [Bool.and_eq_true, plS_iff, plB_iff r (pre ++ [h]), List.append_assoc]
  show _ ↔ ∀ u ∈ h :: r, 0 ≤ u ∧ u < (free.length : Int) ∧ (((pre ++ h :: r).count u : Nat) : Int) ≤ roomI ((free[u.toNat]?).getD V3.zero) need
  have e : pre ++ ([h] ++ r) = pre ++ h :: r := rfl
  rw [e]
  constructor
  ·rintro ⟨⟨a, b, c⟩, d⟩ u hu
   by_cases hr : u ∈ r
   ·exact d u hr
   ·rcases List.mem_cons.1 hu with rfl | hu
    ·refine ⟨a, b, ?_⟩
     rw [List.count_append, List.count_cons_self, List.count_eq_zero.2 hr]
     simpa using c
    ·exact absurd hu hr
  ·intro d
   refine ⟨?_, fun u hu => d u (List.mem_cons_of_mem _ hu)⟩
   obtain ⟨a, b, c⟩ := d h (List.mem_cons_self ..)
   refine ⟨a, b, ?_⟩
   rw [List.count_append, List.count_cons_self] at c
   omega
theorem fitsB_iff {free : List V3} {need : V3} {hs : List Int} : fitsB free need hs = true ↔ ∀ u ∈ hs, 0 ≤ u ∧ u < (free.length : Int) ∧ ((hs.count u : Nat) : Int) ≤ roomI ((free[u.toNat]?).getD V3.zero) need := by
 unfold fitsB
 rw [List.all_eq_true]
 have key : ∀ u, fitH free need hs u = plS free need (cntI u hs) u := fun u => rfl
 constructor
 ·intro q u hu
  have := q u hu
  rw [key, plS_iff] at this
  have e : cntI u hs = ((hs.count u : Nat) : Int) := by unfold cntI; rw [cnt_eq]; omega
  rw [e] at this
  exact this
 ·intro q u hu
  rw [key, plS_iff]
  have e : cntI u hs = ((hs.count u : Nat) : Int) := by unfold cntI; rw [cnt_eq]; omega
  rw [e]
  exact q u hu
theorem grpB_eq (l G : List Int) : grpB l G = withB G l := by
 rw [Bool.eq_iff_iff, with_iff]
 unfold grpB inB
 simp [List.any_eq_true]
theorem chk_eq (c : Con) (free : List V3) (g : Gan) (l : List Int) (hl : (l.length : Int) = g.pods) : (plB free g.need [] l && (gpL c g.lev).any (grpB l)) = chkB c free g l := by
 unfold chkB
 rw [if_pos hl]
 have e : plB free g.need [] l = fitsB free g.need l := by
  rw [Bool.eq_iff_iff, plB_iff, fitsB_iff]
  rfl
 rw [e, Bool.eq_iff_iff, Bool.and_eq_true, List.any_eq_true, List.any_eq_true]
 unfold chkG
 simp only [grpB_eq, Bool.and_eq_true]
 constructor
 ·rintro ⟨a, G, b, d⟩
  exact ⟨G, b, d, a⟩
 ·rintro ⟨G, b, d, a⟩
  exact ⟨a, G, b, d⟩
theorem pla_ok (c : Con) (hc : c.sm) (free : List V3) (g : Gan) (l : List Int) (hl : l.length ≤ 1048576) : CallOK Tryz.prog 134 [c.av, .slice 3 (vav free) .no, g.av, .slice 1 (iv l) .no] [] (.ret (.bool (chkB c free g l))) [] := by
 have hlen : (iv l).length = l.length := by simp
 by_cases h1 : (l.length : Int) = g.pods
 ·have hlp := pla_loop c hc free g l hl _ rfl (chkB c free g l) l.length 0 [] (by omega) (fun h => by simp [mfind]) (chk_eq c free g l h1)
  have hk : ((((iv l).length : Nat) : Int) != g.pods) = false := by rw [hlen]; simp [h1]
  generalize chkB c free g l = r at hlp
  refine cT (E := E) (fn := Tryz.f134) (g := .pure _) fun _ => ?_
  refine goes hE 16 ?_; conv => whnf
  refine To.frz [4, 6, 7] [0, 1, 2] ?_
  repeat' first | (refine gN hE rfl ?_; conv => whnf) | refine And.intro (fun h => absurd h (by rw [hk]; decide)) (fun h => ?_) | exact rfl | refine aY ?_ | refine aN ?_ | refine aT (by omega) fun h => ?_ | refine aF (by omega) fun h => ?_ | refine ⟨fun h => ?_, fun h => ?_⟩ | refine aJ (by omega) (by omega) ?_ | refine ⟨_, rfl, ?_⟩ | refine ⟨by decide, ?_⟩ | refine ⟨by omega, ?_⟩ | fail
  refine To.part [1, 4, 6, 7, 9, 18, 19, 20] [3] rfl rfl rfl ?_
  exact hlp
 ·have hk : ((((iv l).length : Nat) : Int) != g.pods) = true := by rw [hlen]; simp [h1]
  have e : chkB c free g l = false := if_neg h1
  rw [e]
  refine cT (E := E) (fn := Tryz.f134) (g := .pure _) fun _ => ?_
  refine goes hE 16 ?_; conv => whnf
  refine To.frz [4, 6, 7] [0, 1, 2] ?_
  repeat' first | (refine gN hE rfl ?_; conv => whnf) | refine And.intro (fun h => ?_) (fun h => absurd h (by rw [hk]; decide)) | exact rfl | refine aY ?_ | refine aN ?_ | refine aT (by omega) fun h => ?_ | refine aF (by omega) fun h => ?_ | refine ⟨fun h => ?_, fun h => ?_⟩ | refine aJ (by omega) (by omega) ?_ | refine ⟨_, rfl, ?_⟩ | refine ⟨by decide, ?_⟩ | refine ⟨by omega, ?_⟩ | fail
abbrev itP (p : Pn) : AVal := .iface 67 p.av
abbrev itR (r : Rn) : AVal := .iface 70 r.av
abbrev itPs (l : List Pn) : List AVal := l.map itP
abbrev itRs (l : List Rn) : List AVal := l.map itR
noncomputable abbrev fSAll : Func := Tryz.f86
abbrev alO (s : Sta) : List AObj := [.cells 31 s.cs, .tail 0 1 20]
theorem all_two (s : Sta) (hr : s.run.length ≤ 1000000) (l : List AVal) (R : List AVal) : ∀ (m i : Nat) (acc : List AVal), i + m = s.run.length → acc.length ≤ 1000000 + i → acc ++ itRs (s.run.drop i) = R →
  To (Eo [3] []) fSAll (.pure (.ret (.slice 1 R .no))) (.head (stk fSAll 1) [(1, .ref 0 0), (3, .slice 1 acc (.own 1 0)), (22, .slice 14 (rav s.run) .no), (23, .int .i64 ((rav s.run).length : Nat)), (24, ii i)] (alO s)) := by
 have hlen : (rav s.run).length = s.run.length := by simp
 intro m
 induction m with
 | zero =>
  intro i acc hi ha hR
  rw [List.drop_eq_nil_of_le (by omega)] at hR
  have hR : acc ++ [] = R := hR
  rw [List.append_nil] at hR
  subst hR
  refine gW (hEo [3] []) ?_; conv => whnf
  refine aF (by omega) fun h => ?_
  repeat' first | (refine gN (hEo [3] []) rfl ?_; conv => whnf) | exact rfl | refine aY ?_ | refine aN ?_ | refine aT (by omega) fun h => ?_ | refine aF (by omega) fun h => ?_ | refine ⟨fun h => ?_, fun h => ?_⟩ | refine aJ (by omega) (by omega) ?_ | refine ⟨_, rfl, ?_⟩ | refine ⟨by decide, ?_⟩ | refine ⟨by omega, ?_⟩ | fail
 | succ m ih =>
  intro i acc hi ha hR
  have hlt : i < s.run.length := by omega
  rw [List.drop_eq_getElem_cons hlt] at hR
  have get := rav_get hlt
  generalize s.run[i] = x at hR get
  have next := ih (i + 1) (acc ++ [itR x]) (by omega) (by simp; omega) (by rw [List.append_assoc]; exact hR)
  refine gW (hEo [3] []) ?_; conv => whnf
  refine aT (by omega) fun h => ?_
  repeat' first | (refine gN (hEo [3] []) rfl ?_; conv => whnf) | refine ⟨i, rfl, ?_⟩ | refine ⟨_, get, ?_⟩ | refine And.intro (And.intro (show acc.length + 1 ≤ maxLen by simp only [maxLen]; omega) (show (acc.length + 1) * 16 ≤ 140737488355328 by omega)) ?_ | exact rfl | refine aY ?_ | refine aN ?_ | refine aT (by omega) fun h => ?_ | refine aF (by omega) fun h => ?_ | refine ⟨fun h => ?_, fun h => ?_⟩ | refine aJ (by omega) (by omega) ?_ | refine ⟨_, rfl, ?_⟩ | refine ⟨by decide, ?_⟩ | refine ⟨by omega, ?_⟩ | fail
  refine To.part [1, 3, 22, 23, 24] [0, 1] rfl rfl rfl ?_
  exact next
theorem all_one (s : Sta) (hp : s.pend.length ≤ 1000000) (hr : s.run.length ≤ 1000000) (R : List AVal) : ∀ (m i : Nat) (acc : List AVal), i + m = s.pend.length → acc.length ≤ i → (acc ++ itPs (s.pend.drop i)) ++ itRs s.run = R →
  To (Eo [3] []) fSAll (.pure (.ret (.slice 1 R .no))) (.head (stk fSAll 0) [(1, .ref 0 0), (3, .slice 1 acc (.own 1 0)), (9, .slice 11 (pnv s.pend) .no), (10, .int .i64 ((pnv s.pend).length : Nat)), (11, ii i)] (alO s)) := by
 have hlen : (pnv s.pend).length = s.pend.length := by simp
 intro m
 induction m with
 | zero =>
  intro i acc hi ha hR
  rw [List.drop_eq_nil_of_le (by omega)] at hR
  have hR : (acc ++ []) ++ itRs s.run = R := hR
  rw [List.append_nil] at hR
  have next := all_two s hr [] R s.run.length 0 acc (by omega) (by omega) hR
  refine gW (hEo [3] []) ?_; conv => whnf
  refine aF (by omega) fun h => ?_
  repeat' first | (refine gN (hEo [3] []) rfl ?_; conv => whnf) | exact rfl | refine aY ?_ | refine aN ?_ | refine aT (by omega) fun h => ?_ | refine aF (by omega) fun h => ?_ | refine ⟨fun h => ?_, fun h => ?_⟩ | refine aJ (by omega) (by omega) ?_ | refine ⟨_, rfl, ?_⟩ | refine ⟨by decide, ?_⟩ | refine ⟨by omega, ?_⟩ | fail
  refine To.part [1, 3, 22, 23, 24] [0, 1] rfl rfl rfl ?_
  exact next
 | succ m ih =>
  intro i acc hi ha hR
  have hlt : i < s.pend.length := by omega
  rw [List.drop_eq_getElem_cons hlt] at hR
  have get := pnv_get hlt
  generalize s.pend[i] = x at hR get
  have next := ih (i + 1) (acc ++ [itP x]) (by omega) (by simp; omega) (by rw [List.append_assoc acc]; exact hR)
  refine gW (hEo [3] []) ?_; conv => whnf
  refine aT (by omega) fun h => ?_
  repeat' first | (refine gN (hEo [3] []) rfl ?_; conv => whnf) | refine ⟨i, rfl, ?_⟩ | refine ⟨_, get, ?_⟩ | refine And.intro (And.intro (show acc.length + 1 ≤ maxLen by simp only [maxLen]; omega) (show (acc.length + 1) * 16 ≤ 140737488355328 by omega)) ?_ | exact rfl | refine aY ?_ | refine aN ?_ | refine aT (by omega) fun h => ?_ | refine aF (by omega) fun h => ?_ | refine ⟨fun h => ?_, fun h => ?_⟩ | refine aJ (by omega) (by omega) ?_ | refine ⟨_, rfl, ?_⟩ | refine ⟨by decide, ?_⟩ | refine ⟨by omega, ?_⟩ | fail
  refine To.part [1, 3, 9, 10, 11] [0, 1] rfl rfl rfl ?_
  exact next
theorem sall_ok (s : Sta) (hp : s.pend.length ≤ 1000000) (hr : s.run.length ≤ 1000000) : CallOK Tryz.prog 86 [s.av] [] (.ret (.slice 1 (itPs s.pend ++ itRs s.run) .no)) [] := by
 have next := all_one s hp hr (itPs s.pend ++ itRs s.run) s.pend.length 0 [] (by omega) (by simp) rfl
 refine cT (E := (Eo [3] [])) (fn := Tryz.f86) (g := .pure _) fun _ => ?_
 refine gW (hEo [3] []) ?_; conv => whnf
 refine To.part [1, 3, 9, 10, 11] [0, 1] rfl rfl rfl ?_
 exact next
theorem whoP_ok (p : Pn) : CallOK Tryz.prog 87 [itP p] [] (.ret (.tup [p.av, .bool true])) [] := by
 refine cT (E := E) (fn := Tryz.f87) (g := .pure _) fun _ => ?_
 repeat' first | (refine gN hE rfl ?_; conv => whnf) | exact rfl | refine aY ?_ | refine aN ?_ | refine aT (by omega) fun h => ?_ | refine aF (by omega) fun h => ?_ | refine ⟨fun h => ?_, fun h => ?_⟩ | refine aJ (by omega) (by omega) ?_ | refine ⟨_, rfl, ?_⟩ | refine ⟨by decide, ?_⟩ | refine ⟨by omega, ?_⟩ | fail
theorem whoR_ok (r : Rn) : CallOK Tryz.prog 87 [itR r] [] (.ret (.tup [r.pn.av, .bool true])) [] := by
 refine cT (E := E) (fn := Tryz.f87) (g := .pure _) fun _ => ?_
 repeat' first | (refine gN hE rfl ?_; conv => whnf) | exact rfl | refine aY ?_ | refine aN ?_ | refine aT (by omega) fun h => ?_ | refine aF (by omega) fun h => ?_ | refine ⟨fun h => ?_, fun h => ?_⟩ | refine aJ (by omega) (by omega) ?_ | refine ⟨_, rfl, ?_⟩ | refine ⟨by decide, ?_⟩ | refine ⟨by omega, ?_⟩ | fail
theorem wo_one (l : List Rn) (id : Int) : withoutL l [id] = l.filter fun x => !(x.g.id == id) := by
 unfold withoutL
 congr 1
 funext x
 simp [inB]
theorem hosn_get {l : List Hos} {n : Int} (h0 : 0 ≤ n) (h1 : n < (l.length : Int)) : (hav l)[n.toNat]? = some (hosAt l n).av := by
 have h : n.toNat < l.length := by omega
 unfold hosAt
 rw [List.getElem?_map, List.getElem?_eq_getElem h]
 rfl
theorem chkB_head {c : Con} {free : List V3} {g : Gan} {l : List Int} (hf : free.length = c.hs.length) (hp : 1 ≤ g.pods) (h : chkB c free g l = true) : (iv l)[0]? = some (ii (l.headD 0)) ∧ 0 ≤ l.headD 0 ∧ l.headD 0 < (c.hs.length : Int) := by
 unfold chkB at h
 by_cases hl : (l.length : Int) = g.pods
 ·rw [if_pos hl] at h
  cases l with
  | nil => simp at hl; omega
  | cons u r =>
   rw [List.any_eq_true] at h
   obtain ⟨G, hG, hk⟩ := h
   unfold chkG at hk
   rw [Bool.and_eq_true] at hk
   have hk2 := fitsB_iff.1 hk.2 u (List.mem_cons_self ..)
   refine ⟨rfl, hk2.1, ?_⟩
   have := hk2.2.1
   show u < _
   omega
 ·rw [if_neg hl] at h
  cases h
noncomputable abbrev fRns : Func := Tryz.f90
def rnO (s : Sta) (r : Rn) : List AObj := [.cells 31 s.cs, .cells 70 r.cs]
def rnO' (s : Sta) (r : Rn) : List AObj := [.fcells s.cs, .fcells r.cs]
theorem rn_frz (s : Sta) (r : Rn) : frzs [0, 1] (rnO s r) = rnO' s r := by kernel_rfl
theorem rn_frzF (s : Sta) (r : Rn) : frzF [2, 3] (oget (rnO' s r)) [(2, .ref 0 0), (3, .ref 1 0)] = [(2, .ptr s.cs), (3, .ptr r.cs)] := by kernel_rfl
theorem rn_step {g : Goal} {ks : List KI} (s : Sta) (r : Rn) (h : To E fRns g (.code ks [(2, .ptr s.cs), (3, .ptr r.cs)] (rnO' s r))) : To E fRns g (.code ks [(2, .ref 0 0), (3, .ref 1 0)] (rnO s r)) := by
 refine To.frz [2, 3] [0, 1] ?_
 rw [rn_frz, rn_frzF]
 exact h
theorem runs_any (s : Sta) (r : Rn) (W : List Rn) (F : List V3) (e1 : Int) (k : Bool) (b : Bool)
  (h1 : CallOK Tryz.prog 131 [r.av] [] (.ret (ii e1)) [])
  (h2 : CallOK Tryz.prog 133 [.slice 14 (rav s.run) .no, .slice 1 (iv [r.g.id]) .no] [] (.ret (.slice 14 (rav W) .no)) [])
  (h3 : CallOK Tryz.prog 132 [s.c.av, .slice 14 (rav W) .no] [] (.ret (.slice 3 (vav F) .no)) [])
  (h4 : CallOK Tryz.prog 134 [s.c.av, .slice 3 (vav F) .no, r.g.av, .slice 1 (iv r.hs) .no] [] (.ret (.bool k)) [])
  (hk : k = true → (iv r.hs)[0]? = some (ii (r.hs.headD 0)) ∧ 0 ≤ r.hs.headD 0 ∧ (hav s.c.hs)[(r.hs.headD 0).toNat]? = some (hosAt s.c.hs (r.hs.headD 0)).av)
  (hb : (decide ((r.at' ≤ r.st ∧ r.st ≤ s.now) ∧ s.now < e1) && (k && decide ((hosAt s.c.hs (r.hs.headD 0)).f = r.fl))) = b) :
  CallOK Tryz.prog 90 [s.av, r.av] [] (.ret (.bool b)) [] := by
 have h2 : CallOK Tryz.prog 133 [.slice 14 (rav s.run) .no, .slice 1 (iv [r.g.id]) .full] [] (.ret (.slice 14 (rav W) .no)) [] := CallOK.strip h2
 cases k with
 | true =>
  obtain ⟨g1, g2, g3⟩ := hk rfl
  generalize r.hs.headD 0 = u at g1 g2 g3 hb
  generalize hosAt s.c.hs u = y at g3 hb
  refine cT (E := E) (fn := Tryz.f90) (g := .pure _) fun _ => ?_
  refine goes hE 13 ?_; conv => whnf
  refine To.cutC [2, 3] 2 rfl rfl rfl rfl ?_
  refine rn_step s r ?_
  repeat' first | (refine gN hE rfl ?_; conv => whnf) | refine .pure _ [] h1 ?_ | refine .pure _ [] h2 ?_ | refine .pure _ [] h3 ?_ | refine .pure _ [] h4 ?_ | refine ⟨0, rfl, ?_⟩ | refine ⟨_, g1, ?_⟩ | refine Exists.intro u.toNat (And.intro (by simp only [Int.toNat_of_nonneg g2]) ?_) | refine ⟨_, g3, ?_⟩ | exact rfl | refine aY ?_ | refine aN ?_ | refine aT (by omega) fun h => ?_ | refine aF (by omega) fun h => ?_ | refine ⟨fun h => ?_, fun h => ?_⟩ | refine aJ (by omega) (by omega) ?_ | refine ⟨_, rfl, ?_⟩ | refine ⟨by decide, ?_⟩ | refine ⟨by omega, ?_⟩ | fail
  all_goals
   subst hb
   refine congrArg (fun q => Res.ret (AVal.bool q)) ?_
   simp only [decide_eq_true_eq, decide_eq_false_iff_not] at *
   first | (rw [decide_eq_false (by omega)]; rfl) | (rw [decide_eq_true (by omega)]; rfl)
 | false =>
  refine cT (E := E) (fn := Tryz.f90) (g := .pure _) fun _ => ?_
  refine goes hE 13 ?_; conv => whnf
  refine To.cutC [2, 3] 2 rfl rfl rfl rfl ?_
  refine rn_step s r ?_
  repeat' first | (refine gN hE rfl ?_; conv => whnf) | refine .pure _ [] h1 ?_ | refine .pure _ [] h2 ?_ | refine .pure _ [] h3 ?_ | refine .pure _ [] h4 ?_ | exact rfl | refine aY ?_ | refine aN ?_ | refine aT (by omega) fun h => ?_ | refine aF (by omega) fun h => ?_ | refine ⟨fun h => ?_, fun h => ?_⟩ | refine aJ (by omega) (by omega) ?_ | refine ⟨_, rfl, ?_⟩ | refine ⟨by decide, ?_⟩ | refine ⟨by omega, ?_⟩ | fail
  all_goals
   subst hb
   refine congrArg (fun q => Res.ret (AVal.bool q)) ?_
   simp only [decide_eq_true_eq, decide_eq_false_iff_not] at *
   first | (rw [decide_eq_false (by omega)]; rfl) | (rw [decide_eq_true (by omega)]; rfl)
theorem runs_ok (s : Sta) (hc : s.c.sm) (hs : Sm s.run) (r : Rn) (hp : 1 ≤ r.g.pods) (hr : r.hs.length ≤ 1048576) : CallOK Tryz.prog 90 [s.av, r.av] [] (.ret (.bool (rnB s r))) [] := by
 have hw := without_sm hs [r.g.id]
 have h2 := without_ok s.run hs [r.g.id] (by simp)
 have h3 := free_ok s.c hc (withoutL s.run [r.g.id]) hw
 have hf := free_len s.c (withoutL s.run [r.g.id])
 have h4 := pla_ok s.c hc (freeL s.c (withoutL s.run [r.g.id])) r.g r.hs hr
 refine runs_any s r _ _ _ _ _ (end_ok r) h2 h3 h4 (fun hk => ?_) ?_
 ·obtain ⟨a1, a2, a3⟩ := chkB_head hf hp hk
  exact ⟨a1, a2, hosn_get a2 a3⟩
 ·rw [wo_one]
  rfl
noncomputable abbrev fGgs : Func := Tryz.f40
def MapB (es : List (List Int × AVal)) (l : List Int) : Prop := ∀ h : Int, mfind es [h] = if l.contains h = true then some (.bool true) else none
theorem mapB_put {es : List (List Int × AVal)} {l : List Int} (hm : MapB es l) (h : Int) : MapB (mput es [h] (.bool true)) (h :: l) := fun x => by
 rw [mf_put, List.contains_cons]
 by_cases hx : h = x
 ·subst hx; simp
 ·have e1 : (x == h) = false := by simp; exact fun q => hx q.symm
  rw [if_neg (by simpa using hx), hm x, e1, Bool.false_or]
def ggO (s : Sta) : List AObj := [.cells 31 s.cs]
def ggO' (s : Sta) : List AObj := [.fcells s.cs]
theorem gg_frz (s : Sta) : frzs [0] (ggO s) = ggO' s := by kernel_rfl
theorem gg_frzF (s : Sta) : frzF [1] (oget (ggO' s)) [(1, .ref 0 0)] = [(1, .ptr s.cs)] := by kernel_rfl
theorem gg_step {g : Goal} {ks : List KI} (s : Sta) (h : To (Er [] [64, 65, 66]) fGgs g (.code ks [(1, .ptr s.cs)] (ggO' s))) : To (Er [] [64, 65, 66]) fGgs g (.code ks [(1, .ref 0 0)] (ggO s)) := by
 refine To.frz [1] [0] ?_
 rw [gg_frz, gg_frzF]
 exact h
abbrev ggF (s : Sta) (xs : List AVal) (i : Int) : List (Nat × AVal) := [(1, .ptr s.cs), (3, .mref 0), (4, .mref 1), (14, .slice 1 xs .no), (15, .int .i64 (xs.length : Nat)), (16, ii i)]
def gbF (s : Sta) (xs : List AVal) (i : Int) (x : AVal) : List (Nat × AVal) := [(1, .ptr s.cs), (3, .mref 0), (4, .mref 1), (6, x), (7, .ref 2 0), (14, .slice 1 xs .no), (15, .int .i64 (xs.length : Nat)), (16, ii i)]
def gbF' (s : Sta) (xs : List AVal) (i : Int) (x : AVal) (p : Pn) : List (Nat × AVal) := [(1, .ptr s.cs), (3, .mref 0), (4, .mref 1), (6, x), (7, .ptr p.cs), (14, .slice 1 xs .no), (15, .int .i64 (xs.length : Nat)), (16, ii i)]
abbrev Ent : Type := List (List Int × AVal)
def gbO (es1 es2 : Ent) (p : Pn) : List AObj := [.mp false es1, .mp false es2, .cells 67 p.cs]
def gbO' (es1 es2 : Ent) (p : Pn) : List AObj := [.mp false es1, .mp false es2, .fcells p.cs]
theorem gb_frz (es1 es2 : Ent) (p : Pn) : frzs [2] (gbO es1 es2 p) = gbO' es1 es2 p := by kernel_rfl
theorem gb_frzF (s : Sta) (xs : List AVal) (i : Int) (x : AVal) (es1 es2 : Ent) (p : Pn) : frzF [7] (oget (gbO' es1 es2 p)) (gbF s xs i x) = gbF' s xs i x p := by kernel_rfl
theorem gb_step {g : Goal} {ks : List KI} {s : Sta} {xs : List AVal} {i : Int} {x : AVal} {es1 es2 : Ent} (p : Pn) (h : To (Er [] [64, 65, 66]) fGgs g (.code ks (gbF' s xs i x p) (gbO' es1 es2 p))) : To (Er [] [64, 65, 66]) fGgs g (.code ks (gbF s xs i x) (gbO es1 es2 p)) := by
 refine To.frz [7] [2] ?_
 rw [gb_frz, gb_frzF]
 exact h
def gcB (s : Sta) (p : Pn) (o1 o2 : Bool) (G : Int) (N Q : Bool) : Bool := !o1 && (!o2 && (decide ((0 ≤ p.seq ∧ p.seq < s.nxt) ∧ 0 ≤ p.at' ∧ p.at' ≤ s.now) && (decide (G = 0) && (!N && Q))))
theorem ggP (s : Sta) (xs : List AVal) (hxs : xs.length ≤ 1048576) (i : Nat) (hi : i < xs.length) (p : Pn) (get : xs[i]? = some (itP p)) (es1 es2 : Ent) (m1 : mfind es1 [p.g.id] = none) (m2 : mfind es2 [p.seq] = none) (G : Int) (N b : Bool)
  (hG : CallOK Tryz.prog 88 [s.c.av, p.g.av] [] (.ret (ii G)) []) (hN : G = 0 → CallOK Tryz.prog 89 [s.c.av, p.g.av] [] (.ret (.bool N)) [])
  (hbad : gcB s p false false G N true = false → b = false)
  (hnext : gcB s p false false G N true = true → To (Er [] [64, 65, 66]) fGgs (.pure (.ret (.bool b))) (.head (stk fGgs 0) (ggF s xs ((i : Int) + 1)) [.mp false (mput es1 [p.g.id] (.bool true)), .mp false (mput es2 [p.seq] (.bool true))])) :
  To (Er [] [64, 65, 66]) fGgs (.pure (.ret (.bool b))) (.head (stk fGgs 0) (ggF s xs (i : Int)) [.mp false es1, .mp false es2]) := by
 have hw := whoP_ok p
 cases N <;> skip
 all_goals
  refine gW (hEr [] [64, 65, 66]) ?_; conv => whnf
  refine aT (by omega) fun h => ?_
  refine gW (hEr [] [64, 65, 66]) ?_; conv => whnf
  refine ⟨i, rfl, ?_⟩
  refine gW (hEr [] [64, 65, 66]) ?_; conv => whnf
  refine ⟨_, get, ?_⟩
  refine gW (hEr [] [64, 65, 66]) ?_; conv => whnf
  refine .pure _ [] hw ?_
  refine goes (hEr [] [64, 65, 66]) 20 ?_; conv => whnf
  refine To.cutC [1, 3, 4, 6, 7, 14, 15, 16] 3 rfl rfl rfl rfl ?_
  refine gb_step p ?_
  repeat' first | (refine gN (hEr [] [64, 65, 66]) rfl ?_; conv => whnf) | refine ⟨_, m1, ?_⟩ | refine ⟨_, m2, ?_⟩ | refine .pure _ [] hG ?_ | refine .pure _ [] (hN (by simpa using ‹(G != 0) = false›)) ?_ | exact rfl | refine aY ?_ | refine aN ?_ | refine aT (by omega) fun h => ?_ | refine aF (by omega) fun h => ?_ | refine ⟨fun h => ?_, fun h => ?_⟩ | refine aJ (by omega) (by omega) ?_ | refine ⟨_, rfl, ?_⟩ | refine ⟨by decide, ?_⟩ | refine ⟨by omega, ?_⟩ | fail
  all_goals (try (
   refine congrArg (fun q => Res.ret (AVal.bool q)) (hbad ?_).symm
   clear hbad hnext
   simp only [decide_eq_true_eq, decide_eq_false_iff_not, bne_iff_ne, ne_eq, bne_eq_false_iff_eq, Decidable.not_not] at *
   simp [gcB]
   try omega))
  all_goals
   refine To.part [1, 3, 4, 14, 15, 16] [0, 1] rfl rfl rfl ?_
   refine hnext ?_
   clear hbad hnext
   simp only [decide_eq_true_eq, decide_eq_false_iff_not, bne_iff_ne, ne_eq, bne_eq_false_iff_eq, Decidable.not_not] at *
   simp [gcB]
   try omega
theorem ggR (s : Sta) (xs : List AVal) (hxs : xs.length ≤ 1048576) (i : Nat) (hi : i < xs.length) (r : Rn) (p : Pn) (hp : r.pn = p) (get : xs[i]? = some (itR r)) (es1 es2 : Ent) (m1 : mfind es1 [p.g.id] = none) (m2 : mfind es2 [p.seq] = none) (G : Int) (N Q b : Bool)
  (hG : CallOK Tryz.prog 88 [s.c.av, p.g.av] [] (.ret (ii G)) []) (hN : G = 0 → CallOK Tryz.prog 89 [s.c.av, p.g.av] [] (.ret (.bool N)) [])
  (hQ : G = 0 → CallOK Tryz.prog 90 [s.av, r.av] [] (.ret (.bool Q)) [])
  (hbad : gcB s p false false G N Q = false → b = false)
  (hnext : gcB s p false false G N Q = true → To (Er [] [64, 65, 66]) fGgs (.pure (.ret (.bool b))) (.head (stk fGgs 0) (ggF s xs ((i : Int) + 1)) [.mp false (mput es1 [p.g.id] (.bool true)), .mp false (mput es2 [p.seq] (.bool true))])) :
  To (Er [] [64, 65, 66]) fGgs (.pure (.ret (.bool b))) (.head (stk fGgs 0) (ggF s xs (i : Int)) [.mp false es1, .mp false es2]) := by
 have hw := whoR_ok r
 rw [hp] at hw
 cases N <;> cases Q
 all_goals
  refine gW (hEr [] [64, 65, 66]) ?_; conv => whnf
  refine aT (by omega) fun h => ?_
  refine gW (hEr [] [64, 65, 66]) ?_; conv => whnf
  refine ⟨i, rfl, ?_⟩
  refine gW (hEr [] [64, 65, 66]) ?_; conv => whnf
  refine ⟨_, get, ?_⟩
  refine gW (hEr [] [64, 65, 66]) ?_; conv => whnf
  refine .pure _ [] hw ?_
  refine goes (hEr [] [64, 65, 66]) 20 ?_; conv => whnf
  refine To.cutC [1, 3, 4, 6, 7, 14, 15, 16] 3 rfl rfl rfl rfl ?_
  refine gb_step p ?_
  repeat' first | (refine gN (hEr [] [64, 65, 66]) rfl ?_; conv => whnf) | refine ⟨_, m1, ?_⟩ | refine ⟨_, m2, ?_⟩ | refine .pure _ [] hG ?_ | refine .pure _ [] (hN (by simpa using ‹(G != 0) = false›)) ?_ | refine .pure _ [] (hQ (by simpa using ‹(G != 0) = false›)) ?_ | exact rfl | refine aY ?_ | refine aN ?_ | refine aT (by omega) fun h => ?_ | refine aF (by omega) fun h => ?_ | refine ⟨fun h => ?_, fun h => ?_⟩ | refine aJ (by omega) (by omega) ?_ | refine ⟨_, rfl, ?_⟩ | refine ⟨by decide, ?_⟩ | refine ⟨by omega, ?_⟩ | fail
  all_goals (try (
   refine congrArg (fun q => Res.ret (AVal.bool q)) (hbad ?_).symm
   clear hbad hnext
   simp only [decide_eq_true_eq, decide_eq_false_iff_not, bne_iff_ne, ne_eq, bne_eq_false_iff_eq, Decidable.not_not] at *
   simp [gcB]
   try omega))
  all_goals
   refine To.part [1, 3, 4, 14, 15, 16] [0, 1] rfl rfl rfl ?_
   refine hnext ?_
   clear hbad hnext
   simp only [decide_eq_true_eq, decide_eq_false_iff_not, bne_iff_ne, ne_eq, bne_eq_false_iff_eq, Decidable.not_not] at *
   simp [gcB]
   try omega
theorem ggDp (s : Sta) (xs : List AVal) (hxs : xs.length ≤ 1048576) (i : Nat) (hi : i < xs.length) (p : Pn) (get : xs[i]? = some (itP p)) (es1 es2 : Ent) (m : mfind es1 [p.g.id] = some (.bool true) ∨ mfind es1 [p.g.id] = none ∧ mfind es2 [p.seq] = some (.bool true)) :
  To (Er [] [64, 65, 66]) fGgs (.pure (.ret (.bool false))) (.head (stk fGgs 0) (ggF s xs (i : Int)) [.mp false es1, .mp false es2]) := by
 have hw := whoP_ok p
 rcases m with m1 | ⟨m1, m2⟩
 ·refine gW (hEr [] [64, 65, 66]) ?_; conv => whnf
  refine aT (by omega) fun h => ?_
  refine gW (hEr [] [64, 65, 66]) ?_; conv => whnf
  refine ⟨i, rfl, ?_⟩
  refine gW (hEr [] [64, 65, 66]) ?_; conv => whnf
  refine ⟨_, get, ?_⟩
  refine gW (hEr [] [64, 65, 66]) ?_; conv => whnf
  refine .pure _ [] hw ?_
  refine goes (hEr [] [64, 65, 66]) 20 ?_; conv => whnf
  refine To.cutC [1, 3, 4, 6, 7, 14, 15, 16] 3 rfl rfl rfl rfl ?_
  refine gb_step p ?_
  repeat' first | (refine gN (hEr [] [64, 65, 66]) rfl ?_; conv => whnf) | refine ⟨_, m1, ?_⟩ | exact rfl | refine aY ?_ | refine aN ?_ | refine aT (by omega) fun h => ?_ | refine aF (by omega) fun h => ?_ | refine ⟨fun h => ?_, fun h => ?_⟩ | refine aJ (by omega) (by omega) ?_ | refine ⟨_, rfl, ?_⟩ | refine ⟨by decide, ?_⟩ | refine ⟨by omega, ?_⟩ | fail
 ·refine gW (hEr [] [64, 65, 66]) ?_; conv => whnf
  refine aT (by omega) fun h => ?_
  refine gW (hEr [] [64, 65, 66]) ?_; conv => whnf
  refine ⟨i, rfl, ?_⟩
  refine gW (hEr [] [64, 65, 66]) ?_; conv => whnf
  refine ⟨_, get, ?_⟩
  refine gW (hEr [] [64, 65, 66]) ?_; conv => whnf
  refine .pure _ [] hw ?_
  refine goes (hEr [] [64, 65, 66]) 20 ?_; conv => whnf
  refine To.cutC [1, 3, 4, 6, 7, 14, 15, 16] 3 rfl rfl rfl rfl ?_
  refine gb_step p ?_
  repeat' first | (refine gN (hEr [] [64, 65, 66]) rfl ?_; conv => whnf) | refine ⟨_, m1, ?_⟩ | refine ⟨_, m2, ?_⟩ | exact rfl | refine aY ?_ | refine aN ?_ | refine aT (by omega) fun h => ?_ | refine aF (by omega) fun h => ?_ | refine ⟨fun h => ?_, fun h => ?_⟩ | refine aJ (by omega) (by omega) ?_ | refine ⟨_, rfl, ?_⟩ | refine ⟨by decide, ?_⟩ | refine ⟨by omega, ?_⟩ | fail
theorem ggDr (s : Sta) (xs : List AVal) (hxs : xs.length ≤ 1048576) (i : Nat) (hi : i < xs.length) (r : Rn) (p : Pn) (hp : r.pn = p) (get : xs[i]? = some (itR r)) (es1 es2 : Ent) (m : mfind es1 [p.g.id] = some (.bool true) ∨ mfind es1 [p.g.id] = none ∧ mfind es2 [p.seq] = some (.bool true)) :
  To (Er [] [64, 65, 66]) fGgs (.pure (.ret (.bool false))) (.head (stk fGgs 0) (ggF s xs (i : Int)) [.mp false es1, .mp false es2]) := by
 have hw := whoR_ok r
 rw [hp] at hw
 rcases m with m1 | ⟨m1, m2⟩
 ·refine gW (hEr [] [64, 65, 66]) ?_; conv => whnf
  refine aT (by omega) fun h => ?_
  refine gW (hEr [] [64, 65, 66]) ?_; conv => whnf
  refine ⟨i, rfl, ?_⟩
  refine gW (hEr [] [64, 65, 66]) ?_; conv => whnf
  refine ⟨_, get, ?_⟩
  refine gW (hEr [] [64, 65, 66]) ?_; conv => whnf
  refine .pure _ [] hw ?_
  refine goes (hEr [] [64, 65, 66]) 20 ?_; conv => whnf
  refine To.cutC [1, 3, 4, 6, 7, 14, 15, 16] 3 rfl rfl rfl rfl ?_
  refine gb_step p ?_
  repeat' first | (refine gN (hEr [] [64, 65, 66]) rfl ?_; conv => whnf) | refine ⟨_, m1, ?_⟩ | exact rfl | refine aY ?_ | refine aN ?_ | refine aT (by omega) fun h => ?_ | refine aF (by omega) fun h => ?_ | refine ⟨fun h => ?_, fun h => ?_⟩ | refine aJ (by omega) (by omega) ?_ | refine ⟨_, rfl, ?_⟩ | refine ⟨by decide, ?_⟩ | refine ⟨by omega, ?_⟩ | fail
 ·refine gW (hEr [] [64, 65, 66]) ?_; conv => whnf
  refine aT (by omega) fun h => ?_
  refine gW (hEr [] [64, 65, 66]) ?_; conv => whnf
  refine ⟨i, rfl, ?_⟩
  refine gW (hEr [] [64, 65, 66]) ?_; conv => whnf
  refine ⟨_, get, ?_⟩
  refine gW (hEr [] [64, 65, 66]) ?_; conv => whnf
  refine .pure _ [] hw ?_
  refine goes (hEr [] [64, 65, 66]) 20 ?_; conv => whnf
  refine To.cutC [1, 3, 4, 6, 7, 14, 15, 16] 3 rfl rfl rfl rfl ?_
  refine gb_step p ?_
  repeat' first | (refine gN (hEr [] [64, 65, 66]) rfl ?_; conv => whnf) | refine ⟨_, m1, ?_⟩ | refine ⟨_, m2, ?_⟩ | exact rfl | refine aY ?_ | refine aN ?_ | refine aT (by omega) fun h => ?_ | refine aF (by omega) fun h => ?_ | refine ⟨fun h => ?_, fun h => ?_⟩ | refine aJ (by omega) (by omega) ?_ | refine ⟨_, rfl, ?_⟩ | refine ⟨by decide, ?_⟩ | refine ⟨by omega, ?_⟩ | fail
inductive It where
 | p (x : Pn)
 | r (x : Rn)
def It.av : It → AVal
 | .p x => itP x
 | .r x => itR x
def It.pn : It → Pn
 | .p x => x
 | .r x => x.pn
def It.q (s : Sta) : It → Bool
 | .p _ => true
 | .r x => rnB s x
def It.sm : It → Prop
 | .p _ => True
 | .r x => x.hs.length ≤ 1048576
def gaB (s : Sta) : List Int → List Int → List It → Bool
 | _, _, [] => true
 | a, b, x :: l => gcB s x.pn (a.contains x.pn.g.id) (b.contains x.pn.seq) (gangE s.c x.pn.g) (fitsL s.c [] x.pn.g).isNone (x.q s) && gaB s (x.pn.g.id :: a) (x.pn.seq :: b) l
theorem gangE_pods {c : Con} {g : Gan} (h : gangE c g = 0) : 1 ≤ g.pods ∧ g.pods ≤ 16 := by
 obtain ⟨h1, _⟩ := gangE_iff.1 h
 unfold basG at h1
 rw [Bool.and_eq_true] at h1
 have := of_decide_eq_true h1.1
 omega
theorem gg_loop (s : Sta) (hc : s.c.sm) (hs : Sm s.run) (l : List It) (hl : l.length ≤ 1048576) (hsm : ∀ x ∈ l, x.sm) (b : Bool) : ∀ (m i : Nat) (es1 es2 : Ent) (a1 a2 : List Int), i + m = l.length → MapB es1 a1 → MapB es2 a2 → gaB s a1 a2 (l.drop i) = b →
  To (Er [] [64, 65, 66]) fGgs (.pure (.ret (.bool b))) (.head (stk fGgs 0) (ggF s (l.map It.av) (i : Int)) [.mp false es1, .mp false es2]) := by
 have hlen : (l.map It.av).length = l.length := by simp
 intro m
 induction m with
 | zero =>
  intro i es1 es2 a1 a2 hi h1 h2 hb
  rw [List.drop_eq_nil_of_le (by omega)] at hb
  have hb : true = b := hb
  subst hb
  refine gW (hEr [] [64, 65, 66]) ?_; conv => whnf
  refine aF (by omega) fun h => ?_
  repeat' first | (refine gN (hEr [] [64, 65, 66]) rfl ?_; conv => whnf) | exact rfl | refine aY ?_ | refine aN ?_ | refine aT (by omega) fun h => ?_ | refine aF (by omega) fun h => ?_ | refine ⟨fun h => ?_, fun h => ?_⟩ | refine aJ (by omega) (by omega) ?_ | refine ⟨_, rfl, ?_⟩ | refine ⟨by decide, ?_⟩ | refine ⟨by omega, ?_⟩ | fail
 | succ m ih =>
  intro i es1 es2 a1 a2 hi h1 h2 hb
  have hlt : i < l.length := by omega
  rw [List.drop_eq_getElem_cons hlt] at hb
  have get : (l.map It.av)[i]? = some (l[i].av) := by simp [hlt]
  have hx := hsm l[i] (List.getElem_mem hlt)
  have ih := fun es1 es2 a1 a2 => ih (i + 1) es1 es2 a1 a2 (by omega)
  generalize l[i] = x at hb get hx
  have hb : (gcB s x.pn (a1.contains x.pn.g.id) (a2.contains x.pn.seq) (gangE s.c x.pn.g) (fitsL s.c [] x.pn.g).isNone (x.q s) && gaB s (x.pn.g.id :: a1) (x.pn.seq :: a2) (l.drop (i + 1))) = b := hb
  have m1 := h1 x.pn.g.id
  have m2 := h2 x.pn.seq
  have next := ih _ _ (x.pn.g.id :: a1) (x.pn.seq :: a2) (mapB_put h1 x.pn.g.id) (mapB_put h2 x.pn.seq)
  generalize gaB s (x.pn.g.id :: a1) (x.pn.seq :: a2) (l.drop (i + 1)) = R at hb next
  cases o1 : a1.contains x.pn.g.id with
  | true =>
   rw [o1] at hb m1
   have hb : false = b := by rw [← hb]; rfl
   subst hb
   cases x with
   | p x => exact ggDp s _ (by omega) i (by omega) x get es1 es2 (.inl m1)
   | r x => exact ggDr s _ (by omega) i (by omega) x x.pn rfl get es1 es2 (.inl m1)
  | false =>
   rw [o1] at hb m1
   cases o2 : a2.contains x.pn.seq with
   | true =>
    rw [o2] at hb m2
    have hb : false = b := by rw [← hb]; rfl
    subst hb
    cases x with
    | p x => exact ggDp s _ (by omega) i (by omega) x get es1 es2 (.inr ⟨m1, m2⟩)
    | r x => exact ggDr s _ (by omega) i (by omega) x x.pn rfl get es1 es2 (.inr ⟨m1, m2⟩)
   | false =>
    rw [o2] at hb m2
    have hG := sgang_ok s.c x.pn.g
    have hN := fun h : gangE s.c x.pn.g = 0 => never_ok s.c hc x.pn.g (by have := gangE_pods h; omega)
    cases x with
    | p x =>
     refine ggP s _ (by omega) i (by omega) x get es1 es2 m1 m2 _ _ b hG hN (fun hq => ?_) (fun hq => ?_)
     ·exact hb.symm.trans (congrArg (fun q : Bool => q && R) hq)
     ·exact next ((congrArg (fun q : Bool => q && R) hq).symm.trans hb)
    | r x =>
     have hQ := fun h : gangE s.c x.pn.g = 0 => runs_ok s hc hs x (gangE_pods (g := x.g) h).1 hx
     refine ggR s _ (by omega) i (by omega) x x.pn rfl get es1 es2 m1 m2 _ _ _ b hG hN hQ (fun hq => ?_) (fun hq => ?_)
     ·exact hb.symm.trans (congrArg (fun q : Bool => q && R) hq)
     ·exact next ((congrArg (fun q : Bool => q && R) hq).symm.trans hb)
def itsL (s : Sta) : List It := s.pend.map It.p ++ s.run.map It.r
theorem its_av (s : Sta) : (itsL s).map It.av = itPs s.pend ++ itRs s.run := by
 unfold itsL
 rw [List.map_append, List.map_map, List.map_map]
 rfl
theorem gangs_ok (s : Sta) (hc : s.c.sm) (hp : s.pend.length ≤ 1000) (hr : s.run.length ≤ 1000) (hs : Sm s.run) : CallOK Tryz.prog 40 [s.av] [] (.ret (.bool (gaB s [] [] (itsL s)))) [] := by
 have ha := sall_ok s (by omega) (by omega)
 rw [← its_av] at ha
 have hlen : (itsL s).length ≤ 2000 := by unfold itsL; simp; omega
 have next := gg_loop s hc hs (itsL s) (by omega) (fun x hx => by
  unfold itsL at hx
  rw [List.mem_append, List.mem_map, List.mem_map] at hx
  rcases hx with ⟨y, _, rfl⟩ | ⟨y, hy, rfl⟩
  ·trivial
  ·exact hs.2 y hy) _ (itsL s).length 0 [] [] [] [] (by omega) (fun h => rfl) (fun h => rfl) rfl
 rw [List.drop_zero] at next
 generalize (itsL s).map It.av = xs at ha next
 generalize gaB s [] [] (itsL s) = b at next
 refine cT (E := (Er [] [64, 65, 66])) (fn := Tryz.f40) (g := .pure _) fun _ => ?_
 refine goes (hEr [] [64, 65, 66]) 10 ?_; conv => whnf
 refine To.cutC [1] 1 rfl rfl rfl rfl ?_
 refine gg_step s ?_
 repeat' first | (refine gN (hEr [] [64, 65, 66]) rfl ?_; conv => whnf) | refine .pure _ [] ha ?_ | exact rfl | refine aY ?_ | refine aN ?_ | refine aT (by omega) fun h => ?_ | refine aF (by omega) fun h => ?_ | refine ⟨fun h => ?_, fun h => ?_⟩ | refine aJ (by omega) (by omega) ?_ | refine ⟨_, rfl, ?_⟩ | refine ⟨by decide, ?_⟩ | refine ⟨by omega, ?_⟩ | fail
 refine To.part [1, 3, 4, 14, 15, 16] [1, 2] rfl rfl rfl ?_
 exact next
theorem gcB_eq (s : Sta) (p : Pn) (q o1 o2 : Bool) : gcB s p o1 o2 (gangE s.c p.g) (fitsL s.c [] p.g).isNone q = (!o1 && (!o2 && (pnB s p && q))) := by
 unfold gcB pnB
 generalize decide (gangE s.c p.g = 0) = a
 generalize (fitsL s.c [] p.g).isNone = b
 generalize decide ((0 ≤ p.seq ∧ p.seq < s.nxt) ∧ 0 ≤ p.at' ∧ p.at' ≤ s.now) = c
 cases o1 <;> cases o2 <;> cases a <;> cases b <;> cases c <;> cases q <;> rfl
theorem gaB_iff (s : Sta) : ∀ (l : List It) (a b : List Int), gaB s a b l = true ↔ (∀ x ∈ l, (pnB s x.pn && x.q s) = true) ∧ ((l.map fun x => x.pn.g.id).Nodup ∧ ∀ x ∈ l, x.pn.g.id ∉ a) ∧ ((l.map fun x => x.pn.seq).Nodup ∧ ∀ x ∈ l, x.pn.seq ∉ b)
 | [], a, b => by simp [gaB]
 | x :: r, a, b => by
  unfold gaB
  rw [gcB_eq, Bool.and_eq_true, gaB_iff s r]
  simp only [Bool.and_eq_true, Bool.not_eq_true', List.contains_eq_mem, decide_eq_false_iff_not, List.map_cons, List.nodup_cons, List.mem_cons, forall_eq_or_imp, not_or, List.mem_map, not_exists, not_and]
  constructor
  ·rintro ⟨⟨h1, h2, h3⟩, h4, ⟨h5, h6⟩, h7, h8⟩
   exact ⟨⟨h3, h4⟩, ⟨⟨fun y hy e => (h6 y hy).1 e, h5⟩, h1, fun y hy => (h6 y hy).2⟩, ⟨fun y hy e => (h8 y hy).1 e, h7⟩, h2, fun y hy => (h8 y hy).2⟩
  ·rintro ⟨⟨h3, h4⟩, ⟨⟨h6, h5⟩, h1, h9⟩, ⟨h8, h7⟩, h2, h10⟩
   exact ⟨⟨h1, h2, h3⟩, h4, ⟨h5, fun y hy => ⟨fun e => h6 y hy e, h9 y hy⟩⟩, h7, fun y hy => ⟨fun e => h8 y hy e, h10 y hy⟩⟩
theorem gaB_eq (s : Sta) : gaB s [] [] (itsL s) = ((s.pend.all (pnB s) && s.run.all fun r => pnB s r.pn && rnB s r) && (decide (ids s).Nodup && decide (seqs s).Nodup)) := by
 rw [Bool.eq_iff_iff, gaB_iff]
 have e1 : ((itsL s).map fun x => x.pn.g.id) = ids s := by
  unfold itsL ids
  rw [List.map_append, List.map_map, List.map_map]
  rfl
 have e2 : ((itsL s).map fun x => x.pn.seq) = seqs s := by
  unfold itsL seqs
  rw [List.map_append, List.map_map, List.map_map]
  rfl
 rw [e1, e2]
 simp only [List.not_mem_nil, not_false_eq_true, implies_true, and_true, Bool.and_eq_true, decide_eq_true_eq, List.all_eq_true]
 have e3 : (∀ x ∈ itsL s, pnB s x.pn = true ∧ x.q s = true) ↔ (∀ x ∈ s.pend, pnB s x = true) ∧ ∀ x ∈ s.run, pnB s x.pn = true ∧ rnB s x = true := by
  unfold itsL
  constructor
  ·intro h
   exact ⟨fun x hx => (h (.p x) (List.mem_append_left _ (List.mem_map_of_mem hx))).1, fun x hx => h (.r x) (List.mem_append_right _ (List.mem_map_of_mem hx))⟩
  ·rintro ⟨h1, h2⟩ x hx
   rw [List.mem_append, List.mem_map, List.mem_map] at hx
   rcases hx with ⟨y, hy, rfl⟩ | ⟨y, hy, rfl⟩
   ·exact ⟨h1 y hy, rfl⟩
   ·exact h2 y hy
 rw [e3]
noncomputable abbrev fQuo : Func := Tryz.f41
def quO (s : Sta) : List AObj := [.cells 31 s.cs]
def quO' (s : Sta) : List AObj := [.fcells s.cs]
theorem qu_frz (s : Sta) : frzs [0] (quO s) = quO' s := by kernel_rfl
theorem qu_frzF (s : Sta) : frzF [1] (oget (quO' s)) [(1, .ref 0 0)] = [(1, .ptr s.cs)] := by kernel_rfl
theorem qu_step {g : Goal} {ks : List KI} (s : Sta) (h : To E fQuo g (.code ks [(1, .ptr s.cs)] (quO' s))) : To E fQuo g (.code ks [(1, .ref 0 0)] (quO s)) := by
 refine To.frz [1] [0] ?_
 rw [qu_frz, qu_frzF]
 exact h
theorem qu_loop (s : Sta) (hc : s.c.sm) (U : List V3) (hU : U.length = s.c.ns.length) (hg : ∀ i : Nat, i < U.length → (vav U)[i]? = some (atV U (i : Int)).av) (b : Bool) : ∀ (m i : Nat), i + m = U.length → ((List.range' i m).all fun i : Nat => vfits (atV U (i : Int)) (mostI s.c (i : Int))) = b →
  To E fQuo (.pure (.ret (.bool b))) (.head (stk fQuo 0) [(1, .ptr s.cs), (10, .slice 3 (vav U) .no), (11, .int .i64 ((vav U).length : Nat)), (12, ii (i : Int))] []) := by
 have hlen : (vav U).length = U.length := by simp
 have h1 := hc.ns
 intro m
 induction m with
 | zero =>
  intro i hi hb
  have hb : true = b := hb
  subst hb
  refine gW hE ?_; conv => whnf
  refine aF (by omega) fun h => ?_
  repeat' first | (refine gN hE rfl ?_; conv => whnf) | exact rfl | refine aY ?_ | refine aN ?_ | refine aT (by omega) fun h => ?_ | refine aF (by omega) fun h => ?_ | refine ⟨fun h => ?_, fun h => ?_⟩ | refine aJ (by omega) (by omega) ?_ | refine ⟨_, rfl, ?_⟩ | refine ⟨by decide, ?_⟩ | refine ⟨by omega, ?_⟩ | fail
 | succ m ih =>
  intro i hi hb
  have hlt : i < U.length := by omega
  have hb : (vfits (atV U (i : Int)) (mostI s.c (i : Int)) && ((List.range' (i + 1) m).all fun i : Nat => vfits (atV U (i : Int)) (mostI s.c (i : Int)))) = b := hb
  have next := ih (i + 1) (by omega)
  generalize ((List.range' (i + 1) m).all fun i : Nat => vfits (atV U (i : Int)) (mostI s.c (i : Int))) = R at hb next
  have get := hg i hlt
  have gn := nod_get (c := s.c) (n := (i : Int)) ⟨by omega, by omega⟩
  have hn := nom_ok s.c hc (i : Int)
  have hl := leaf_ok s.c (i : Int)
  unfold mostI at hb
  generalize atV U (i : Int) = u at hb get
  generalize nodAt s.c.ns (i : Int) = y at hb gn
  generalize sumL s.c.ns (i : Int) (nomL s.c.ns) = v at hb hn
  cases hq : leafB s.c.ns (i : Int) with
  | true =>
   rw [hq] at hb hl
   have ha := vadd_ok v y.b
   have hb : (vfits u (vadd v y.b) && R) = b := hb
   generalize vadd v y.b = w at ha hb
   have ho := vover_ok u w
   cases hf : vfits u w with
   | true =>
    rw [hf] at hb ho
    have next := next hb
    refine gW hE ?_; conv => whnf
    refine aT (by omega) fun h => ?_
    repeat' first | (refine gN hE rfl ?_; conv => whnf) | refine ⟨i, rfl, ?_⟩ | refine ⟨_, get, ?_⟩ | refine .pure _ [] hn ?_ | refine .pure _ [] hl ?_ | refine ⟨_, gn, ?_⟩ | refine .pure _ [] ha ?_ | refine .pure _ [] ho ?_ | exact rfl | refine aY ?_ | refine aN ?_ | refine aT (by omega) fun h => ?_ | refine aF (by omega) fun h => ?_ | refine ⟨fun h => ?_, fun h => ?_⟩ | refine aJ (by omega) (by omega) ?_ | refine ⟨_, rfl, ?_⟩ | refine ⟨by decide, ?_⟩ | refine ⟨by omega, ?_⟩ | fail
    refine To.part [1, 10, 11, 12] [] rfl rfl rfl ?_
    exact next
   | false =>
    rw [hf] at hb ho
    have hb : false = b := hb
    subst hb
    refine gW hE ?_; conv => whnf
    refine aT (by omega) fun h => ?_
    repeat' first | (refine gN hE rfl ?_; conv => whnf) | refine ⟨i, rfl, ?_⟩ | refine ⟨_, get, ?_⟩ | refine .pure _ [] hn ?_ | refine .pure _ [] hl ?_ | refine ⟨_, gn, ?_⟩ | refine .pure _ [] ha ?_ | refine .pure _ [] ho ?_ | exact rfl | refine aY ?_ | refine aN ?_ | refine aT (by omega) fun h => ?_ | refine aF (by omega) fun h => ?_ | refine ⟨fun h => ?_, fun h => ?_⟩ | refine aJ (by omega) (by omega) ?_ | refine ⟨_, rfl, ?_⟩ | refine ⟨by decide, ?_⟩ | refine ⟨by omega, ?_⟩ | fail
  | false =>
   rw [hq] at hb hl
   have hb : (vfits u v && R) = b := hb
   have ho := vover_ok u v
   cases hf : vfits u v with
   | true =>
    rw [hf] at hb ho
    have next := next hb
    refine gW hE ?_; conv => whnf
    refine aT (by omega) fun h => ?_
    repeat' first | (refine gN hE rfl ?_; conv => whnf) | refine ⟨i, rfl, ?_⟩ | refine ⟨_, get, ?_⟩ | refine .pure _ [] hn ?_ | refine .pure _ [] hl ?_ | refine .pure _ [] ho ?_ | exact rfl | refine aY ?_ | refine aN ?_ | refine aT (by omega) fun h => ?_ | refine aF (by omega) fun h => ?_ | refine ⟨fun h => ?_, fun h => ?_⟩ | refine aJ (by omega) (by omega) ?_ | refine ⟨_, rfl, ?_⟩ | refine ⟨by decide, ?_⟩ | refine ⟨by omega, ?_⟩ | fail
    refine To.part [1, 10, 11, 12] [] rfl rfl rfl ?_
    exact next
   | false =>
    rw [hf] at hb ho
    have hb : false = b := hb
    subst hb
    refine gW hE ?_; conv => whnf
    refine aT (by omega) fun h => ?_
    repeat' first | (refine gN hE rfl ?_; conv => whnf) | refine ⟨i, rfl, ?_⟩ | refine ⟨_, get, ?_⟩ | refine .pure _ [] hn ?_ | refine .pure _ [] hl ?_ | refine .pure _ [] ho ?_ | exact rfl | refine aY ?_ | refine aN ?_ | refine aT (by omega) fun h => ?_ | refine aF (by omega) fun h => ?_ | refine ⟨fun h => ?_, fun h => ?_⟩ | refine aJ (by omega) (by omega) ?_ | refine ⟨_, rfl, ?_⟩ | refine ⟨by decide, ?_⟩ | refine ⟨by omega, ?_⟩ | fail
theorem ofL_len' (c : Con) (l : List Rn) : (ofL c l).length = c.ns.length := by unfold ofL allL; simp
theorem quotas_ok (s : Sta) (hc : s.c.sm) (hr : s.run.length ≤ 1048576) : CallOK Tryz.prog 41 [s.av] [] (.ret (.bool (quoB s))) [] := by
 have ho := of_ok s.c hc s.run hr
 have hU := ofL_len' s.c s.run
 have next := qu_loop s hc (ofL s.c s.run) hU (fun i hi => by
  have := used_at (c := s.c) (l := s.run) (n := (i : Int)) ⟨by omega, by omega⟩
  rw [Int.toNat_natCast] at this
  exact this) _ (ofL s.c s.run).length 0 (by omega) rfl
 have e : ((List.range' 0 (ofL s.c s.run).length).all fun i : Nat => vfits (atV (ofL s.c s.run) (i : Int)) (mostI s.c (i : Int))) = quoB s := by
  unfold quoB
  rw [hU, List.range_eq_range']
 rw [e] at next
 generalize quoB s = q at next
 generalize ofL s.c s.run = U at ho next
 refine cT (E := E) (fn := Tryz.f41) (g := .pure _) fun _ => ?_
 refine goes hE 10 ?_; conv => whnf
 refine To.cutC [1] 1 rfl rfl rfl rfl ?_
 refine qu_step s ?_
 repeat' first | (refine gN hE rfl ?_; conv => whnf) | refine .pure _ [] ho ?_ | exact rfl | refine aY ?_ | refine aN ?_ | refine aT (by omega) fun h => ?_ | refine aF (by omega) fun h => ?_ | refine ⟨fun h => ?_, fun h => ?_⟩ | refine aJ (by omega) (by omega) ?_ | refine ⟨_, rfl, ?_⟩ | refine ⟨by decide, ?_⟩ | refine ⟨by omega, ?_⟩ | fail
 refine To.part [1, 10, 11, 12] [] rfl rfl rfl ?_
 exact next
def lensB (s : Sta) : Prop := (0 ≤ s.now ∧ s.now ≤ 1099511627776) ∧ (1 ≤ s.nxt ∧ s.nxt ≤ 1099511627776) ∧ s.hist.length = s.c.ns.length ∧ s.pend.length + s.run.length ≤ 32
instance (s : Sta) : Decidable (lensB s) := by unfold lensB; infer_instance
theorem scheck_any (s : Sta) (e : Bool) (k : Int) (q g u : Bool) (b : Int)
  (he : CallOK Tryz.prog 37 [s.c.av] [] (.ret (.bool e)) [])
  (hk : CallOK Tryz.prog 38 [s.c.av] [] (.ret (ii k)) [])
  (hq : s.pend.length + s.run.length ≤ 32 → CallOK Tryz.prog 39 [.slice 11 (pnv s.pend) .no] [] (.ret (.bool q)) [])
  (hg : s.pend.length + s.run.length ≤ 32 → CallOK Tryz.prog 40 [s.av] [] (.ret (.bool g)) [])
  (hu : s.pend.length + s.run.length ≤ 32 → CallOK Tryz.prog 41 [s.av] [] (.ret (.bool u)) [])
  (hb : (if (((e || decide (k = 0)) && decide (lensB s)) && (q && (g && u))) = true then 0 else 1) = b) :
  CallOK Tryz.prog 13 [s.av] [] (.ret (ii b)) [] := by
 have hlp : (pnv s.pend).length = s.pend.length := by simp
 have hlr : (rav s.run).length = s.run.length := by simp
 have hlh : (fv s.hist).length = s.hist.length := by simp
 have hln : (nav s.c.ns).length = s.c.ns.length := by simp
 refine cT (E := E) (fn := Tryz.f13) (g := .pure _) fun _ => ?_
 repeat' first | (refine gN hE rfl ?_; conv => whnf) | refine Or.inl (And.intro (And.intro (by simp only [kmin, decide_eq_true_eq] at *; omega) (by simp only [kmax, decide_eq_true_eq] at *; omega)) ?_) | refine .pure _ [] he ?_ | refine .pure _ [] hk ?_ | refine .pure _ [] (hq (by simp only [decide_eq_true_eq, decide_eq_false_iff_not, Bool.not_eq_true', Bool.not_eq_false'] at *; omega)) ?_ | refine .pure _ [] (hg (by simp only [decide_eq_true_eq, decide_eq_false_iff_not, Bool.not_eq_true', Bool.not_eq_false'] at *; omega)) ?_ | refine .pure _ [] (hu (by simp only [decide_eq_true_eq, decide_eq_false_iff_not, Bool.not_eq_true', Bool.not_eq_false'] at *; omega)) ?_ | exact rfl | refine aY ?_ | refine aN ?_ | refine aT (by omega) fun h => ?_ | refine aF (by omega) fun h => ?_ | refine ⟨fun h => ?_, fun h => ?_⟩ | refine aJ (by omega) (by omega) ?_ | refine ⟨_, rfl, ?_⟩ | refine ⟨by decide, ?_⟩ | refine ⟨by omega, ?_⟩ | fail
 all_goals
  subst hb
  refine congrArg (fun n => Res.ret (AVal.int .i64 n)) ?_
  simp only [decide_eq_true_eq, decide_eq_false_iff_not, Bool.not_eq_true', Bool.not_eq_false', beq_iff_eq, beq_eq_false_iff_ne, ne_eq] at *
  first
  | (exfalso; omega)
  | (by_cases hL : lensB s
     ·rw [decide_eq_true hL]
      unfold lensB at hL
      first
      | (exfalso; omega)
      | simp [*]
     ·rw [decide_eq_false hL]
      first
      | (exfalso; unfold lensB at hL; omega)
      | simp)
theorem scheck_ok (s : Sta) (hc : s.c.sm) (hs : Sm s.run) : CallOK Tryz.prog 13 [s.av] [] (.ret (ii (if chkS s = true then 0 else 1))) [] := by
 refine scheck_any s (emptyC s.c) (checkI s.c) (rowB s.pend) (gaB s [] [] (itsL s)) (quoB s) _ (empty_ok s.c) (pcheck_ok s.c hc) (fun h => ?_) (fun h => gangs_ok s hc (by omega) (by omega) hs) (fun h => quotas_ok s hc (by omega)) ?_
 ·have := Q2.check_ok (s.pend.map Pn.q) (by rw [List.length_map]; omega)
  rw [pav_q] at this
  exact this
 ·rw [gaB_eq]
  unfold chkS headB lensB
  congr 1
  simp only [Bool.and_assoc]
end Go.Proofs.YtmalnhgopkfdaaaGreat
