/-
  When: profiles, reserves, backfilling, as walks; the laws.
-/
import Derived.Shelf.Sort.Plain
import Derived.Shelf.Slices.In.SortNone
import Derived.Test.YtlalcoklkafnnaaGreatRows
import Derived.Test.YtlalcoklkafnnaaGreatHA
namespace Go.Proofs.YtlalcoklkafnnaaGreat
open Go Go.AW Go.Proofs
set_option maxRecDepth 10000

theorem rn_b (x : Rn) (M : Imm) (ob : Hs) (vs : List Value) (h : RepL M ob vs [x.av]) : inR .i64 x.st ∧ inR .i64 x.g.run := by
  have hl : 0 < vs.length := by rw [h.1]; simp
  have := h.2 0 _ x.av (List.getElem?_eq_getElem hl) rfl
  exact ⟨rep_agg_at this 11 _ rfl, rep_agg_at this 6 _ rfl⟩
/-- when one ends -/
def endR (x : Rn) : Int := if 9223372036854775807 < x.st + x.g.run then 9223372036854775807 else if x.st + x.g.run < -9223372036854775808 then -9223372036854775808 else x.st + x.g.run
theorem end_any (x : Rn) (r : Int) (hr : endR x = r) : CallOK Tryz.prog 76 [x.av] [] (.ret (ii r)) [] := by
  refine CallOK.get _ (rn_b x) fun ⟨⟨a1, a2⟩, ⟨b1, b2⟩⟩ => ?_
  simp only [kmin, kmax] at a1 a2 b1 b2
  unfold endR at hr
  by_cases h1 : 9223372036854775807 < x.st + x.g.run
  · rw [if_pos h1] at hr
    subst hr
    have e := wrap_hi h1 (by omega)
    refine CallOK.to (E := E) (fn := Tryz.f76) (g := .pure _) (by rfl) (by rfl) (by rfl) (fun _ _ => by rfl) (by decide +kernel) (by rfl) (by rfl) (by rfl) fun _ => ?_
    refine goes hE 100 ?_
    conv => whnf
    refine .inr ?_
    repeat' first
      | (refine goN hE 100 rfl ?_; conv => whnf)
      | exact rfl
      | refine And.intro (fun _ => ?_) (fun h => absurd (show true = false from h) (by decide))
      | refine And.intro (fun h => absurd (show false = true from h) (by decide)) (fun _ => ?_)
      | refine And.intro (fun h => ?_) (fun h => absurd (of_decide_eq_false h) (by omega))
      | refine And.intro (fun h => absurd (of_decide_eq_true h) (by omega)) (fun h => ?_)
      | refine And.intro (fun h => ?_) (fun h => ?_)
      | refine Or.inl (And.intro (And.intro (by simp only [kmin]; omega) (by simp only [kmax]; omega)) ?_)
      | refine Exists.intro _ (And.intro rfl ?_)
      | refine And.intro (by decide) ?_
      | refine And.intro (by omega) ?_
      | fail
  · rw [if_neg h1] at hr
    by_cases h2 : x.st + x.g.run < -9223372036854775808
    · rw [if_pos h2] at hr
      subst hr
      have e := wrap_lo h2 (by omega)
      refine CallOK.to (E := E) (fn := Tryz.f76) (g := .pure _) (by rfl) (by rfl) (by rfl) (fun _ _ => by rfl) (by decide +kernel) (by rfl) (by rfl) (by rfl) fun _ => ?_
      refine goes hE 100 ?_
      conv => whnf
      refine .inr ?_
      repeat' first
        | (refine goN hE 100 rfl ?_; conv => whnf)
        | exact rfl
        | refine And.intro (fun _ => ?_) (fun h => absurd (show true = false from h) (by decide))
        | refine And.intro (fun h => absurd (show false = true from h) (by decide)) (fun _ => ?_)
        | refine And.intro (fun h => ?_) (fun h => absurd (of_decide_eq_false h) (by omega))
        | refine And.intro (fun h => absurd (of_decide_eq_true h) (by omega)) (fun h => ?_)
        | refine And.intro (fun h => ?_) (fun h => ?_)
        | refine Or.inl (And.intro (And.intro (by simp only [kmin]; omega) (by simp only [kmax]; omega)) ?_)
        | refine Exists.intro _ (And.intro rfl ?_)
        | refine And.intro (by decide) ?_
        | refine And.intro (by omega) ?_
        | fail
    · rw [if_neg h2] at hr
      refine CallOK.to (E := E) (fn := Tryz.f76) (g := .pure _) (by rfl) (by rfl) (by rfl) (fun _ _ => by rfl) (by decide +kernel) (by rfl) (by rfl) (by rfl) fun _ => ?_
      repeat' first
        | (refine goN hE 100 rfl ?_; conv => whnf)
        | exact rfl
        | refine And.intro (fun _ => ?_) (fun h => absurd (show true = false from h) (by decide))
        | refine And.intro (fun h => absurd (show false = true from h) (by decide)) (fun _ => ?_)
        | refine And.intro (fun h => ?_) (fun h => absurd (of_decide_eq_false h) (by omega))
        | refine And.intro (fun h => absurd (of_decide_eq_true h) (by omega)) (fun h => ?_)
        | refine And.intro (fun h => ?_) (fun h => ?_)
        | refine Or.inl (And.intro (And.intro (by simp only [kmin]; omega) (by simp only [kmax]; omega)) ?_)
        | refine Exists.intro _ (And.intro rfl ?_)
        | refine And.intro (by decide) ?_
        | refine And.intro (by omega) ?_
        | fail
      all_goals first | exact hr ▸ rfl | (exfalso; simp at *; omega)
theorem end_ok (x : Rn) : CallOK Tryz.prog 76 [x.av] [] (.ret (ii (endR x))) [] := end_any x _ rfl
theorem rend_any (x : Rn) (r : Int) (hr : endR x = r) : CallOK Tryz.prog 108 [x.av] [] (.ret (ii r)) [] := by
  refine CallOK.get _ (rn_b x) fun ⟨⟨a1, a2⟩, ⟨b1, b2⟩⟩ => ?_
  simp only [kmin, kmax] at a1 a2 b1 b2
  unfold endR at hr
  by_cases h1 : 9223372036854775807 < x.st + x.g.run
  · rw [if_pos h1] at hr
    subst hr
    refine CallOK.to (E := E) (fn := Tryz.f108) (g := .pure _) (by rfl) (by rfl) (by rfl) (fun _ _ => by rfl) (by decide +kernel) (by rfl) (by rfl) (by rfl) fun _ => ?_
    repeat' first
      | (refine goN hE 100 rfl ?_; conv => whnf)
      | exact rfl
      | refine And.intro (fun _ => ?_) (fun h => absurd (show true = false from h) (by decide))
      | refine And.intro (fun h => absurd (show false = true from h) (by decide)) (fun _ => ?_)
      | refine And.intro (fun h => ?_) (fun h => absurd (of_decide_eq_false h) (by omega))
      | refine And.intro (fun h => absurd (of_decide_eq_true h) (by omega)) (fun h => ?_)
      | refine And.intro (fun h => ?_) (fun h => absurd (of_decide_eq_false h) (by simp only [decide_eq_true_eq, decide_eq_false_iff_not] at *; omega))
      | refine And.intro (fun h => absurd (of_decide_eq_true h) (by simp only [decide_eq_true_eq, decide_eq_false_iff_not] at *; omega)) (fun h => ?_)
      | refine And.intro (fun h => ?_) (fun h => ?_)
      | refine Or.inl (And.intro (And.intro (by simp only [kmin]; omega) (by simp only [kmax]; omega)) ?_)
      | refine Exists.intro _ (And.intro rfl ?_)
      | refine And.intro (by decide) ?_
      | refine And.intro (by omega) ?_
      | refine Or.inl (And.intro (And.intro (by simp only [kmin]; simp only [decide_eq_true_eq, decide_eq_false_iff_not] at *; omega) (by simp only [kmax]; simp only [decide_eq_true_eq, decide_eq_false_iff_not] at *; omega)) ?_)
      | fail
  · rw [if_neg h1] at hr
    by_cases h2 : x.st + x.g.run < -9223372036854775808
    · rw [if_pos h2] at hr
      subst hr
      refine CallOK.to (E := E) (fn := Tryz.f108) (g := .pure _) (by rfl) (by rfl) (by rfl) (fun _ _ => by rfl) (by decide +kernel) (by rfl) (by rfl) (by rfl) fun _ => ?_
      repeat' first
        | (refine goN hE 100 rfl ?_; conv => whnf)
        | exact rfl
        | refine And.intro (fun _ => ?_) (fun h => absurd (show true = false from h) (by decide))
        | refine And.intro (fun h => absurd (show false = true from h) (by decide)) (fun _ => ?_)
        | refine And.intro (fun h => ?_) (fun h => absurd (of_decide_eq_false h) (by omega))
        | refine And.intro (fun h => absurd (of_decide_eq_true h) (by omega)) (fun h => ?_)
        | refine And.intro (fun h => ?_) (fun h => absurd (of_decide_eq_false h) (by simp only [decide_eq_true_eq, decide_eq_false_iff_not] at *; omega))
        | refine And.intro (fun h => absurd (of_decide_eq_true h) (by simp only [decide_eq_true_eq, decide_eq_false_iff_not] at *; omega)) (fun h => ?_)
        | refine And.intro (fun h => ?_) (fun h => ?_)
        | refine Or.inl (And.intro (And.intro (by simp only [kmin]; omega) (by simp only [kmax]; omega)) ?_)
        | refine Exists.intro _ (And.intro rfl ?_)
        | refine And.intro (by decide) ?_
        | refine And.intro (by omega) ?_
        | refine Or.inl (And.intro (And.intro (by simp only [kmin]; simp only [decide_eq_true_eq, decide_eq_false_iff_not] at *; omega) (by simp only [kmax]; simp only [decide_eq_true_eq, decide_eq_false_iff_not] at *; omega)) ?_)
        | fail
    · rw [if_neg h2] at hr
      subst hr
      refine CallOK.to (E := E) (fn := Tryz.f108) (g := .pure _) (by rfl) (by rfl) (by rfl) (fun _ _ => by rfl) (by decide +kernel) (by rfl) (by rfl) (by rfl) fun _ => ?_
      repeat' first
        | (refine goN hE 100 rfl ?_; conv => whnf)
        | exact rfl
        | refine And.intro (fun _ => ?_) (fun h => absurd (show true = false from h) (by decide))
        | refine And.intro (fun h => absurd (show false = true from h) (by decide)) (fun _ => ?_)
        | refine And.intro (fun h => ?_) (fun h => absurd (of_decide_eq_false h) (by omega))
        | refine And.intro (fun h => absurd (of_decide_eq_true h) (by omega)) (fun h => ?_)
        | refine And.intro (fun h => ?_) (fun h => absurd (of_decide_eq_false h) (by simp only [decide_eq_true_eq, decide_eq_false_iff_not] at *; omega))
        | refine And.intro (fun h => absurd (of_decide_eq_true h) (by simp only [decide_eq_true_eq, decide_eq_false_iff_not] at *; omega)) (fun h => ?_)
        | refine And.intro (fun h => ?_) (fun h => ?_)
        | refine Or.inl (And.intro (And.intro (by simp only [kmin]; omega) (by simp only [kmax]; omega)) ?_)
        | refine Exists.intro _ (And.intro rfl ?_)
        | refine And.intro (by decide) ?_
        | refine And.intro (by omega) ?_
        | refine Or.inl (And.intro (And.intro (by simp only [kmin]; simp only [decide_eq_true_eq, decide_eq_false_iff_not] at *; omega) (by simp only [kmax]; simp only [decide_eq_true_eq, decide_eq_false_iff_not] at *; omega)) ?_)
        | fail
theorem rend_ok (x : Rn) : CallOK Tryz.prog 108 [x.av] [] (.ret (ii (endR x))) [] := rend_any x _ rfl
end Go.Proofs.YtlalcoklkafnnaaGreat

namespace Go.Proofs.YtlalcoklkafnnaaGreat
open Go Go.AW Go.Proofs
set_option maxRecDepth 10000

theorem cloneI_ok (l : List Int) (h : l.length ≤ 1048576) : CallOK Tryz.prog 47 [.slice 1 (iv l) .no] [] (.ret (.slice 1 (iv l) .no)) [] := by
  have hlen : (iv l).length = l.length := by simp
  refine CallOK.to (E := E) (fn := Tryz.f47) (g := .pure _) (by rfl) (by rfl) (by rfl) (fun _ _ => by rfl) (by decide +kernel) (by rfl) (by rfl) (by rfl) fun _ => ?_
  refine goes hE 100 ?_
  conv => whnf
  intro b hb
  refine goes hE 100 ?_
  conv => whnf
  refine And.intro (fun h => ?_) (fun h => ?_)
  · have h : b = true := h
    have e : iv l = [] := hb h
    refine goes hE 100 ?_
    conv => whnf
    rw [e]
  · have h : b = false := h
    refine goes hE 100 ?_
    conv => whnf
    refine And.intro (And.intro (by simp only [maxLen]; simp; omega) (by simp; omega)) ?_
    refine goes hE 100 ?_
    conv => whnf
    rfl
theorem rown_ok (x : Rn) (h : x.hs.length ≤ 1048576) : CallOK Tryz.prog 107 [x.av] [] (.ret x.av) [] := by
  refine CallOK.to (E := E) (fn := Tryz.f107) (g := .pure _) (by rfl) (by rfl) (by rfl) (fun _ _ => by rfl) (by decide +kernel) (by rfl) (by rfl) (by rfl) fun _ => ?_
  repeat' first
    | (refine goN hE 100 rfl ?_; conv => whnf)
    | refine .pure _ [] (cloneI_ok x.hs h) ?_
    | exact rfl
    | refine And.intro (fun _ => ?_) (fun h => absurd (show true = false from h) (by decide))
    | refine And.intro (fun h => absurd (show false = true from h) (by decide)) (fun _ => ?_)
    | refine And.intro (fun h => ?_) (fun h => absurd (of_decide_eq_false h) (by omega))
    | refine And.intro (fun h => absurd (of_decide_eq_true h) (by omega)) (fun h => ?_)
    | refine And.intro (fun h => ?_) (fun h => ?_)
    | refine Or.inl (And.intro (And.intro (by simp only [kmin]; omega) (by simp only [kmax]; omega)) ?_)
    | refine Exists.intro _ (And.intro rfl ?_)
    | refine And.intro (by decide) ?_
    | refine And.intro (by omega) ?_
    | fail

def atL (l : List Rn) (t : Int) : List Rn := l.filter fun x => decide (t < endR x)
theorem atL_pos {x : Rn} {r : List Rn} {t : Int} (h : decide (t < endR x) = true) : atL (x :: r) t = x :: atL r t := List.filter_cons_of_pos h
theorem atL_neg {x : Rn} {r : List Rn} {t : Int} (h : decide (t < endR x) = false) : atL (x :: r) t = atL r t := List.filter_cons_of_neg (by rw [h]; decide)
noncomputable abbrev fAt : Func := Tryz.f65
theorem at_loop (l : List Rn) (hs : Sm l) (t : Int) (R : List Rn) : ∀ (n i : Nat) (acc : List Rn), i + n = l.length → acc.length ≤ i → acc ++ atL (l.drop i) t = R →
    To (Eo [5] []) fAt (.pure (.ret (.slice 14 (rav R) .no))) (.head (stk fAt 0) [(1, .int .i64 t), (5, .slice 14 (rav acc) (.own 0 0)), (8, .slice 14 (rav l) .no), (9, .int .i64 ((rav l).length : Nat)), (10, .int .i64 i)] [.tail 0 14 43]) := by
  have hlen : (rav l).length = l.length := by simp
  have hl := hs.1
  intro n
  induction n with
  | zero =>
    intro i acc hi ha hR
    rw [List.drop_eq_nil_of_le (by omega)] at hR
    have hR : acc ++ [] = R := hR
    rw [List.append_nil] at hR
    subst hR
    refine goes (hEo [5] []) 100 ?_
    conv => whnf
    refine And.intro (fun h => absurd (of_decide_eq_true h) (by omega)) (fun h => ?_)
    repeat' first
      | (refine goN (hEo [5] []) 100 rfl ?_; conv => whnf)
      | exact rfl
      | refine And.intro (fun _ => ?_) (fun h => absurd (show true = false from h) (by decide))
      | refine And.intro (fun h => absurd (show false = true from h) (by decide)) (fun _ => ?_)
      | refine And.intro (fun h => ?_) (fun h => absurd (of_decide_eq_false h) (by omega))
      | refine And.intro (fun h => absurd (of_decide_eq_true h) (by omega)) (fun h => ?_)
      | refine And.intro (fun h => ?_) (fun h => ?_)
      | refine Or.inl (And.intro (And.intro (by simp only [kmin]; omega) (by simp only [kmax]; omega)) ?_)
      | refine Exists.intro _ (And.intro rfl ?_)
      | refine And.intro (by decide) ?_
      | refine And.intro (by omega) ?_
      | fail
  | succ n ih =>
    intro i acc hi ha hR
    have hlt : i < l.length := by omega
    rw [List.drop_eq_getElem_cons hlt] at hR
    have hb := hs.at hlt
    generalize hx : l[i] = x at hR hb
    have get : (rav l)[i]? = some x.av := (rav_get hlt).trans (by rw [hx])
    have hla : (rav acc).length = acc.length := by simp
    refine goes (hEo [5] []) 100 ?_
    conv => whnf
    refine And.intro (fun h => ?_) (fun h => absurd (of_decide_eq_false h) (by omega))
    refine goes (hEo [5] []) 100 ?_
    conv => whnf
    refine ⟨i, rfl, ?_⟩
    refine goes (hEo [5] []) 100 ?_
    conv => whnf
    refine ⟨_, get, ?_⟩
    refine goes (hEo [5] []) 100 ?_
    conv => whnf
    refine .pure _ [] (end_ok x) ?_
    refine goes (hEo [5] []) 100 ?_
    conv => whnf
    refine And.intro (fun h2 => ?_) (fun h2 => ?_)
    · have h2 : decide (t < endR x) = true := h2
      rw [atL_pos h2] at hR
      refine goes (hEo [5] []) 100 ?_
      conv => whnf
      refine .pure _ [] (rown_ok x hb) ?_
      refine goes (hEo [5] []) 100 ?_
      conv => whnf
      refine And.intro (And.intro (by simp only [maxLen]; simp; omega) (by simp; omega)) ?_
      refine goes (hEo [5] []) 100 ?_
      conv => whnf
      refine Or.inl (And.intro (And.intro (by simp only [kmin]; omega) (by simp only [kmax]; omega)) ?_)
      refine goes (hEo [5] []) 100 ?_
      conv => whnf
      refine To.part [1, 5, 8, 9, 10] [0] rfl rfl rfl ?_
      have next := ih (i + 1) (acc ++ [x]) (by omega) (by simp; omega) (by rw [List.append_assoc]; exact hR)
      have e : rav (acc ++ [x]) = rav acc ++ [x.av] := by simp
      rw [e] at next
      exact next
    · have h2' : decide (t < endR x) = false := h2
      rw [atL_neg h2'] at hR
      refine goes (hEo [5] []) 100 ?_
      conv => whnf
      refine Or.inl (And.intro (And.intro (by simp only [kmin]; omega) (by simp only [kmax]; omega)) ?_)
      refine goes (hEo [5] []) 100 ?_
      conv => whnf
      refine To.part [1, 5, 8, 9, 10] [0] rfl rfl rfl ?_
      exact ih (i + 1) acc (by omega) (by omega) hR
theorem at_ok (l : List Rn) (hs : Sm l) (t : Int) : CallOK Tryz.prog 65 [.slice 14 (rav l) .no, ii t] [] (.ret (.slice 14 (rav (atL l t)) .no)) [] := by
  refine CallOK.to (E := (Eo [5] [])) (fn := Tryz.f65) (g := .pure _) (by rfl) (by rfl) (by rfl) (fun _ _ => by rfl) (by decide +kernel) (by rfl) (by rfl) (by rfl) fun _ => ?_
  refine goes (hEo [5] []) 100 ?_
  conv => whnf
  refine To.part [1, 5, 8, 9, 10] [0] rfl rfl rfl ?_
  exact at_loop l hs t _ l.length 0 [] (by omega) (by simp) rfl
noncomputable abbrev fRAt : Func := Tryz.f67
theorem rat_loop (l : List Rn) (hs : Sm l) (t : Int) (R : List Rn) : ∀ (n i : Nat) (acc : List Rn), i + n = l.length → acc.length ≤ i → acc ++ atL (l.drop i) t = R →
    To (Eo [5] []) fRAt (.pure (.ret (.slice 14 (rav R) .no))) (.head (stk fRAt 0) [(0, .slice 14 (rav l) .no), (1, .int .i64 t), (5, .slice 14 (rav acc) (.own 0 0)), (6, .int .i64 i)] [.tail 0 14 43]) := by
  have hlen : (rav l).length = l.length := by simp
  have hl := hs.1
  intro n
  induction n with
  | zero =>
    intro i acc hi ha hR
    rw [List.drop_eq_nil_of_le (by omega)] at hR
    have hR : acc ++ [] = R := hR
    rw [List.append_nil] at hR
    subst hR
    refine goes (hEo [5] []) 100 ?_
    conv => whnf
    refine And.intro (fun h => absurd (of_decide_eq_true h) (by omega)) (fun h => ?_)
    repeat' first
      | (refine goN (hEo [5] []) 100 rfl ?_; conv => whnf)
      | exact rfl
      | refine And.intro (fun _ => ?_) (fun h => absurd (show true = false from h) (by decide))
      | refine And.intro (fun h => absurd (show false = true from h) (by decide)) (fun _ => ?_)
      | refine And.intro (fun h => ?_) (fun h => absurd (of_decide_eq_false h) (by omega))
      | refine And.intro (fun h => absurd (of_decide_eq_true h) (by omega)) (fun h => ?_)
      | refine And.intro (fun h => ?_) (fun h => ?_)
      | refine Or.inl (And.intro (And.intro (by simp only [kmin]; omega) (by simp only [kmax]; omega)) ?_)
      | refine Exists.intro _ (And.intro rfl ?_)
      | refine And.intro (by decide) ?_
      | refine And.intro (by omega) ?_
      | fail
  | succ n ih =>
    intro i acc hi ha hR
    have hlt : i < l.length := by omega
    rw [List.drop_eq_getElem_cons hlt] at hR
    generalize hx : l[i] = x at hR
    have get : (rav l)[i]? = some x.av := (rav_get hlt).trans (by rw [hx])
    have hla : (rav acc).length = acc.length := by simp
    refine goes (hEo [5] []) 100 ?_
    conv => whnf
    refine And.intro (fun h => ?_) (fun h => absurd (of_decide_eq_false h) (by omega))
    refine goes (hEo [5] []) 100 ?_
    conv => whnf
    refine ⟨i, rfl, ?_⟩
    refine goes (hEo [5] []) 100 ?_
    conv => whnf
    refine ⟨_, get, ?_⟩
    refine goes (hEo [5] []) 100 ?_
    conv => whnf
    refine .pure _ [] (rend_ok x) ?_
    refine goes (hEo [5] []) 100 ?_
    conv => whnf
    refine And.intro (fun h2 => ?_) (fun h2 => ?_)
    · have h2 : decide (t < endR x) = true := h2
      rw [atL_pos h2] at hR
      refine goes (hEo [5] []) 100 ?_
      conv => whnf
      refine ⟨i, rfl, ?_⟩
      refine goes (hEo [5] []) 100 ?_
      conv => whnf
      refine ⟨_, get, ?_⟩
      refine goes (hEo [5] []) 100 ?_
      conv => whnf
      refine And.intro (And.intro (by simp only [maxLen]; simp; omega) (by simp; omega)) ?_
      refine goes (hEo [5] []) 100 ?_
      conv => whnf
      refine Or.inl (And.intro (And.intro (by simp only [kmin]; omega) (by simp only [kmax]; omega)) ?_)
      refine goes (hEo [5] []) 100 ?_
      conv => whnf
      refine To.part [0, 1, 5, 6] [0] rfl rfl rfl ?_
      have next := ih (i + 1) (acc ++ [x]) (by omega) (by simp; omega) (by rw [List.append_assoc]; exact hR)
      have e : rav (acc ++ [x]) = rav acc ++ [x.av] := by simp
      rw [e] at next
      exact next
    · have h2' : decide (t < endR x) = false := h2
      rw [atL_neg h2'] at hR
      refine goes (hEo [5] []) 100 ?_
      conv => whnf
      refine Or.inl (And.intro (And.intro (by simp only [kmin]; omega) (by simp only [kmax]; omega)) ?_)
      refine goes (hEo [5] []) 100 ?_
      conv => whnf
      refine To.part [0, 1, 5, 6] [0] rfl rfl rfl ?_
      exact ih (i + 1) acc (by omega) (by omega) hR
theorem rat_ok (l : List Rn) (hs : Sm l) (t : Int) : CallOK Tryz.prog 67 [.slice 14 (rav l) .no, ii t] [] (.ret (.slice 14 (rav (atL l t)) .no)) [] := by
  refine CallOK.to (E := (Eo [5] [])) (fn := Tryz.f67) (g := .pure _) (by rfl) (by rfl) (by rfl) (fun _ _ => by rfl) (by decide +kernel) (by rfl) (by rfl) (by rfl) fun _ => ?_
  refine goes (hEo [5] []) 100 ?_
  conv => whnf
  refine To.part [0, 1, 5, 6] [0] rfl rfl rfl ?_
  exact rat_loop l hs t _ l.length 0 [] (by omega) (by simp) rfl
theorem atL_sm {l : List Rn} (h : Sm l) (t : Int) : Sm (atL l t) :=
  ⟨Nat.le_trans (List.length_filter_le _ _) h.1, fun x hx => h.2 x (List.mem_filter.1 hx).1⟩
end Go.Proofs.YtlalcoklkafnnaaGreat

namespace Go.Proofs.YtlalcoklkafnnaaGreat
open Go Go.AW Go.Proofs Go.Shelf
set_option maxRecDepth 100000

def sortRen : Go.Shelf.Ren := ⟨fun | 125 => 134 | 128 => 151 | 129 => 152 | 189 => 106 | 215 => 137 | 216 => 148 | 257 => 133 | 294 => 142 | 295 => 143 | 296 => 144 | 297 => 145 | 298 => 146 | 299 => 147 | 300 => 149 | 301 => 150 | 328 => 158 | 329 => 159 | 330 => 160 | 331 => 161 | 332 => 162 | 343 => 164 | n => n, fun | 0 => 0 | 3 => 3 | 4 => 4 | 5 => 5 | 9 => 9 | 28 => 37 | 46 => 145 | 51 => 160 | 53 => 162 | 131 => 49 | 182 => 152 | 183 => 153 | 218 => 168 | 222 => 172 | 228 => 175 | 229 => 176 | n => n, fun n => n⟩
theorem sortLays : Lays.n189 Tryz.prog sortRen where
  mixed := by kernel_rfl
  f125 := Tryz.func134.trans (congrArg some (by kernel_rfl))
  f128 := Tryz.func151.trans (congrArg some (by kernel_rfl))
  f129 := Tryz.func152.trans (congrArg some (by kernel_rfl))
  f189 := Tryz.func106.trans (congrArg some (by kernel_rfl))
  f215 := Tryz.func137.trans (congrArg some (by kernel_rfl))
  f216 := Tryz.func148.trans (congrArg some (by kernel_rfl))
  f257 := Tryz.func133.trans (congrArg some (by kernel_rfl))
  f294 := Tryz.func142.trans (congrArg some (by kernel_rfl))
  f295 := Tryz.func143.trans (congrArg some (by kernel_rfl))
  f296 := Tryz.func144.trans (congrArg some (by kernel_rfl))
  f297 := Tryz.func145.trans (congrArg some (by kernel_rfl))
  f298 := Tryz.func146.trans (congrArg some (by kernel_rfl))
  f299 := Tryz.func147.trans (congrArg some (by kernel_rfl))
  f300 := Tryz.func149.trans (congrArg some (by kernel_rfl))
  f301 := Tryz.func150.trans (congrArg some (by kernel_rfl))
  f328 := Tryz.func158.trans (congrArg some (by kernel_rfl))
  f329 := Tryz.func159.trans (congrArg some (by kernel_rfl))
  f330 := Tryz.func160.trans (congrArg some (by kernel_rfl))
  f331 := Tryz.func161.trans (congrArg some (by kernel_rfl))
  f332 := Tryz.func162.trans (congrArg some (by kernel_rfl))
  f343 := Tryz.func164.trans (congrArg some (by kernel_rfl))
  t0 := Tryz.underlying0
  a0 := Tryz.isAgg0
  z0 := Tryz.sizeOf0
  v0 := Tryz.zeroValue0
  t3 := Tryz.underlying3
  a3 := Tryz.isAgg3
  z3 := Tryz.sizeOf3
  v3 := Tryz.zeroValue3
  t4 := Tryz.underlying4
  a4 := Tryz.isAgg4
  z4 := Tryz.sizeOf4
  v4 := Tryz.zeroValue4
  t5 := Tryz.underlying5
  a5 := Tryz.isAgg5
  z5 := Tryz.sizeOf5
  v5 := Tryz.zeroValue5
  t9 := Tryz.underlying9
  a9 := Tryz.isAgg9
  z9 := Tryz.sizeOf9
  v9 := Tryz.zeroValue9
  t28 := Tryz.underlying37
  a28 := Tryz.isAgg37
  z28 := Tryz.sizeOf37
  v28 := Tryz.zeroValue37
  t46 := Tryz.underlying145
  a46 := Tryz.isAgg145
  z46 := Tryz.sizeOf145
  v46 := Tryz.zeroValue145
  t51 := Tryz.underlying160
  a51 := Tryz.isAgg160
  z51 := Tryz.sizeOf160
  v51 := Tryz.zeroValue160
  t53 := Tryz.underlying162
  a53 := Tryz.isAgg162
  z53 := Tryz.sizeOf162
  v53 := Tryz.zeroValue162
  t131 := Tryz.underlying49
  a131 := Tryz.isAgg49
  z131 := Tryz.sizeOf49
  v131 := Tryz.zeroValue49
  t182 := Tryz.underlying152
  a182 := Tryz.isAgg152
  z182 := Tryz.sizeOf152
  v182 := Tryz.zeroValue152
  t183 := Tryz.underlying153
  a183 := Tryz.isAgg153
  z183 := Tryz.sizeOf153
  v183 := Tryz.zeroValue153
  t218 := Tryz.underlying168
  a218 := Tryz.isAgg168
  z218 := Tryz.sizeOf168
  v218 := Tryz.zeroValue168
  t222 := Tryz.underlying172
  a222 := Tryz.isAgg172
  z222 := Tryz.sizeOf172
  v222 := Tryz.zeroValue172
  t228 := Tryz.underlying175
  a228 := Tryz.isAgg175
  z228 := Tryz.sizeOf175
  v228 := Tryz.zeroValue175
  t229 := Tryz.underlying176
  a229 := Tryz.isAgg176
  z229 := Tryz.sizeOf176
  v229 := Tryz.zeroValue176

def sortI (l : List Int) : List Int := l.mergeSort fun x y => decide (x ≤ y)
theorem sort_ok (l : List Int) (hl : l.length ≤ 1000000000) : CallOK Tryz.prog 106 [.row 0 0] [.row 0 1 3 (iv l)] (.ret (.tup [])) [.row 0 1 3 (iv (sortI l))] :=
  sort_contract (fun _ _ => by rfl) (fun p cap w => Any.slices_Sort_int_none sortLays p cap w) (fun blk off cap zs w hH hb hz => Any.slices_Sort_int sortLays blk off cap zs w hH hb hz) 3 l hl
end Go.Proofs.YtlalcoklkafnnaaGreat

namespace Go.Proofs.YtlalcoklkafnnaaGreat
open Go Go.AW Go.Proofs
set_option maxRecDepth 10000

def kyv (n : Int) : AVal := .agg [ii n]
abbrev kv (l : List Int) : List AVal := l.map kyv
theorem kv_get {l : List Int} {i : Nat} (h : i < l.length) : (kv l)[i]? = some (kyv l[i]) := by simp [kv, h]
abbrev keyF (n : Int) : AVal := .func (.func 105) [] [.ptr [ii n]]
theorem key_ok (x n : Int) : CallOK Tryz.prog 105 [kyv x, .ptr [ii n]] [] (.ret (.bool (x == n && true))) [] := by
  refine CallOK.to (E := E) (fn := Tryz.f105) (g := .pure _) (by rfl) (by rfl) (by rfl) (fun _ _ => by rfl) (by decide +kernel) (by rfl) (by rfl) (by rfl) fun _ => ?_
  repeat' first
    | (refine goN hE 100 rfl ?_; conv => whnf)
    | exact rfl
    | refine And.intro (fun _ => ?_) (fun h => absurd (show true = false from h) (by decide))
    | refine And.intro (fun h => absurd (show false = true from h) (by decide)) (fun _ => ?_)
    | refine And.intro (fun h => ?_) (fun h => absurd (of_decide_eq_false h) (by omega))
    | refine And.intro (fun h => absurd (of_decide_eq_true h) (by omega)) (fun h => ?_)
    | refine And.intro (fun h => ?_) (fun h => ?_)
    | refine Or.inl (And.intro (And.intro (by simp only [kmin]; omega) (by simp only [kmax]; omega)) ?_)
    | refine Exists.intro _ (And.intro rfl ?_)
    | refine And.intro (by decide) ?_
    | refine And.intro (by omega) ?_
    | fail
/-- where a key stands -/
def findK (n : Int) : List Int → Nat → Int
  | [], _ => -1
  | x :: r, i => if (x == n && true) then (i : Int) else findK n r (i + 1)
theorem findK_ge (n : Int) : ∀ (l : List Int) (i : Nat), -1 ≤ findK n l i
  | [], _ => by simp [findK]
  | x :: r, i => by
    unfold findK
    split
    · omega
    · exact findK_ge n r (i + 1)
def has (l : List Int) (n : Int) : Bool := decide (0 ≤ findK n l 0)
noncomputable abbrev fIdx : Func := Tryz.f132
theorem idx_loop (l : List Int) (n : Int) (hl : ((kv l).length : Int) ≤ 9223372036854775807) (r : Int) : ∀ (m i : Nat), i + m = l.length → findK n (l.drop i) i = r →
    To E fIdx (.pure (.ret (ii r))) (.head (stk fIdx 0) [(0, .slice 1 (kv l) .no), (1, keyF n), (7, .int .i64 ((kv l).length : Nat)), (8, .int .i64 i)] []) := by
  have hlen : (kv l).length = l.length := by simp
  intro m
  induction m with
  | zero =>
    intro i hi hr
    rw [List.drop_eq_nil_of_le (by omega)] at hr
    subst hr
    refine goes hE 100 ?_
    conv => whnf
    refine And.intro (fun h => absurd (of_decide_eq_true h) (by omega)) (fun h => ?_)
    repeat' first
      | (refine goN hE 100 rfl ?_; conv => whnf)
      | exact rfl
      | refine And.intro (fun _ => ?_) (fun h => absurd (show true = false from h) (by decide))
      | refine And.intro (fun h => absurd (show false = true from h) (by decide)) (fun _ => ?_)
      | refine And.intro (fun h => ?_) (fun h => absurd (of_decide_eq_false h) (by omega))
      | refine And.intro (fun h => absurd (of_decide_eq_true h) (by omega)) (fun h => ?_)
      | refine And.intro (fun h => ?_) (fun h => ?_)
      | refine Or.inl (And.intro (And.intro (by simp only [kmin]; omega) (by simp only [kmax]; omega)) ?_)
      | refine Exists.intro _ (And.intro rfl ?_)
      | refine And.intro (by decide) ?_
      | refine And.intro (by omega) ?_
      | fail
  | succ m ih =>
    intro i hi hr
    have hlt : i < l.length := by omega
    rw [List.drop_eq_getElem_cons hlt] at hr
    generalize hx : l[i] = x at hr
    have get : (kv l)[i]? = some (kyv x) := (kv_get hlt).trans (by rw [hx])
    unfold findK at hr
    refine goes hE 100 ?_
    conv => whnf
    refine And.intro (fun h => ?_) (fun h => absurd (of_decide_eq_false h) (by omega))
    repeat' first
      | (refine goN hE 100 rfl ?_; conv => whnf)
      | refine Exists.intro _ (And.intro get ?_)
      | refine .pure _ [] (key_ok x n) ?_
      | exact rfl
      | refine And.intro (fun _ => ?_) (fun h => absurd (show true = false from h) (by decide))
      | refine And.intro (fun h => absurd (show false = true from h) (by decide)) (fun _ => ?_)
      | refine And.intro (fun h => ?_) (fun h => absurd (of_decide_eq_false h) (by omega))
      | refine And.intro (fun h => absurd (of_decide_eq_true h) (by omega)) (fun h => ?_)
      | refine And.intro (fun h => ?_) (fun h => ?_)
      | refine Or.inl (And.intro (And.intro (by simp only [kmin]; omega) (by simp only [kmax]; omega)) ?_)
      | refine Exists.intro _ (And.intro rfl ?_)
      | refine And.intro (by decide) ?_
      | refine And.intro (by omega) ?_
      | fail
    · have h : (x == n && true) = true := h
      rw [if_pos h] at hr
      rw [← hr]
    · have h : (x == n && true) = false := h
      rw [if_neg (by rw [h]; decide)] at hr
      refine To.head [0, 1, 7, 8] ?_
      exact ih (i + 1) (by omega) hr
theorem idx_ok (l : List Int) (n : Int) : CallOK Tryz.prog 132 [.slice 1 (kv l) .no, keyF n] [] (.ret (ii (findK n l 0))) [] := by
  refine CallOK.to (E := E) (fn := Tryz.f132) (g := .pure _) (by rfl) (by rfl) (by rfl) (fun _ _ => by rfl) (by decide +kernel) (by rfl) (by rfl) (by rfl) fun ho => ?_
  have hl : ((kv l).length : Int) ≤ 9223372036854775807 := ho.1
  refine goes hE 100 ?_
  conv => whnf
  refine To.head [0, 1, 7, 8] ?_
  exact idx_loop l n hl _ l.length 0 (by omega) rfl
theorem has_ok (l : List Int) (n : Int) : CallOK Tryz.prog 104 [.slice 1 (kv l) .no, keyF n] [] (.ret (.bool (has l n))) [] := by
  refine CallOK.to (E := E) (fn := Tryz.f104) (g := .pure _) (by rfl) (by rfl) (by rfl) (fun _ _ => by rfl) (by decide +kernel) (by rfl) (by rfl) (by rfl) fun _ => ?_
  repeat' first
    | (refine goN hE 100 rfl ?_; conv => whnf)
    | refine .pure _ [] (idx_ok l n) ?_
    | exact rfl
    | refine And.intro (fun _ => ?_) (fun h => absurd (show true = false from h) (by decide))
    | refine And.intro (fun h => absurd (show false = true from h) (by decide)) (fun _ => ?_)
    | refine And.intro (fun h => ?_) (fun h => absurd (of_decide_eq_false h) (by omega))
    | refine And.intro (fun h => absurd (of_decide_eq_true h) (by omega)) (fun h => ?_)
    | refine And.intro (fun h => ?_) (fun h => ?_)
    | refine Or.inl (And.intro (And.intro (by simp only [kmin]; omega) (by simp only [kmax]; omega)) ?_)
    | refine Exists.intro _ (And.intro rfl ?_)
    | refine And.intro (by decide) ?_
    | refine And.intro (by omega) ?_
    | fail

def keysL (now : Int) : List Rn → List Int → List Int
  | [], ks => ks
  | x :: r, ks => keysL now r (if decide (now < endR x) && !has ks (endR x) then ks ++ [endR x] else ks)
theorem keysL_len (now : Int) : ∀ (l : List Rn) (ks : List Int), (keysL now l ks).length ≤ ks.length + l.length
  | [], ks => by simp [keysL]
  | x :: r, ks => by
    unfold keysL
    have := keysL_len now r (if decide (now < endR x) && !has ks (endR x) then ks ++ [endR x] else ks)
    split at this
    · rename_i h; rw [if_pos h]; simp only [List.length_append, List.length_cons, List.length_nil] at this ⊢; omega
    · rename_i h; rw [if_neg h]; simp only [List.length_cons]; omega
noncomputable abbrev fEnds : Func := Tryz.f64
noncomputable abbrev En : Env := Ex [5] [9] []
theorem hEn : EnvOK En := hEx _ _ _
theorem ends2_loop (ks : List Int) (hk : ks.length ≤ 1048576) : ∀ (n i : Nat) (acc : List Int), i + n = ks.length → acc = ks.take i →
    To En fEnds (.pure (.ret (.slice 1 (iv (sortI ks)) .no))) (.head (stk fEnds 1) [(9, .row 0 0), (36, .slice 1 (kv ks) .no), (37, .int .i64 ((kv ks).length : Nat)), (38, .int .i64 i)] [.row 0 1 3 (iv acc)]) := by
  have hlen : (kv ks).length = ks.length := by simp
  intro n
  induction n with
  | zero =>
    intro i acc hi ha
    rw [List.take_of_length_le (by omega)] at ha
    subst ha
    refine goes hEn 100 ?_
    conv => whnf
    refine And.intro (fun h => absurd (of_decide_eq_true h) (by omega)) (fun h => ?_)
    refine goes hEn 100 ?_
    conv => whnf
    refine .eff [] [0] _ _ rfl (sort_ok acc (by omega)) ?_
    repeat' first
      | (refine goN hEn 100 rfl ?_; conv => whnf)
      | exact rfl
      | refine And.intro (fun _ => ?_) (fun h => absurd (show true = false from h) (by decide))
      | refine And.intro (fun h => absurd (show false = true from h) (by decide)) (fun _ => ?_)
      | refine And.intro (fun h => ?_) (fun h => absurd (of_decide_eq_false h) (by omega))
      | refine And.intro (fun h => absurd (of_decide_eq_true h) (by omega)) (fun h => ?_)
      | refine And.intro (fun h => ?_) (fun h => ?_)
      | refine Or.inl (And.intro (And.intro (by simp only [kmin]; omega) (by simp only [kmax]; omega)) ?_)
      | refine Exists.intro _ (And.intro rfl ?_)
      | refine And.intro (by decide) ?_
      | refine And.intro (by omega) ?_
      | fail
  | succ n ih =>
    intro i acc hi ha
    have hlt : i < ks.length := by omega
    generalize hx : ks[i] = x
    have get : (kv ks)[i]? = some (kyv x) := (kv_get hlt).trans (by rw [hx])
    have hal : acc.length = i := by rw [ha]; simp; omega
    have hia : (iv acc).length = acc.length := by simp
    refine goes hEn 100 ?_
    conv => whnf
    refine And.intro (fun h => ?_) (fun h => absurd (of_decide_eq_false h) (by omega))
    refine goes hEn 100 ?_
    conv => whnf
    refine ⟨i, rfl, ?_⟩
    refine goes hEn 100 ?_
    conv => whnf
    refine ⟨_, get, ?_⟩
    refine goes hEn 100 ?_
    conv => whnf
    refine ⟨⟨by decide, by decide⟩, ?_⟩
    refine goes hEn 100 ?_
    conv => whnf
    refine And.intro (And.intro (by simp only [maxLen]; simp; omega) (by simp; omega)) ?_
    refine goes hEn 100 ?_
    conv => whnf
    refine Or.inl (And.intro (And.intro (by simp only [kmin]; omega) (by simp only [kmax]; omega)) ?_)
    refine goes hEn 100 ?_
    conv => whnf
    refine To.part [9, 36, 37, 38] [0] rfl rfl rfl ?_
    have next := ih (i + 1) (acc ++ [x]) (by omega) (by rw [ha, ← hx]; exact List.take_append_getElem hlt)
    have e : iv (acc ++ [x]) = iv acc ++ [ii x] := by simp
    rw [e] at next
    exact next
theorem ends_loop (l : List Rn) (hs : Sm l) (now : Int) (R : List Int) : ∀ (n i : Nat) (ks : List Int), i + n = l.length → ks.length ≤ i → sortI (keysL now (l.drop i) ks) = R →
    To En fEnds (.pure (.ret (.slice 1 (iv R) .no))) (.head (stk fEnds 0) [(1, .int .i64 now), (5, .slice 1 (kv ks) (.own 0 0)), (12, .slice 14 (rav l) .no), (13, .int .i64 ((rav l).length : Nat)), (14, .int .i64 i)] [.tail 0 1 122]) := by
  have hlen : (rav l).length = l.length := by simp
  have hl := hs.1
  intro n
  induction n with
  | zero =>
    intro i ks hi hk hR
    rw [List.drop_eq_nil_of_le (by omega)] at hR
    have hR : sortI ks = R := hR
    subst hR
    refine goes hEn 100 ?_
    conv => whnf
    refine And.intro (fun h => absurd (of_decide_eq_true h) (by omega)) (fun h => ?_)
    refine goes hEn 100 ?_
    conv => whnf
    refine To.part [9, 36, 37, 38] [1] rfl rfl rfl ?_
    exact ends2_loop ks (by omega) ks.length 0 [] (by omega) (by simp)
  | succ n ih =>
    intro i ks hi hk hR
    have hlt : i < l.length := by omega
    rw [List.drop_eq_getElem_cons hlt] at hR
    generalize hx : l[i] = x at hR
    have get : (rav l)[i]? = some x.av := (rav_get hlt).trans (by rw [hx])
    have hkl : (kv ks).length = ks.length := by simp
    unfold keysL at hR
    refine goes hEn 100 ?_
    conv => whnf
    refine And.intro (fun h => ?_) (fun h => absurd (of_decide_eq_false h) (by omega))
    refine goes hEn 100 ?_
    conv => whnf
    refine ⟨i, rfl, ?_⟩
    refine goes hEn 100 ?_
    conv => whnf
    refine ⟨_, get, ?_⟩
    refine goes hEn 100 ?_
    conv => whnf
    refine .pure _ [] (end_ok x) ?_
    refine goes hEn 100 ?_
    conv => whnf
    refine ⟨⟨by decide, by decide⟩, ?_⟩
    refine goes hEn 100 ?_
    conv => whnf
    refine And.intro (fun h1 => ?_) (fun h1 => ?_)
    · have h1 : decide (now < endR x) = true := h1
      refine goes hEn 100 ?_
      conv => whnf
      refine .pure _ [] (has_ok ks (endR x)) ?_
      refine goes hEn 100 ?_
      conv => whnf
      refine And.intro (fun h2 => ?_) (fun h2 => ?_)
      · have h2 : (!has ks (endR x)) = true := h2
        rw [h1, h2, if_pos (by decide)] at hR
        refine goes hEn 100 ?_
        conv => whnf
        refine And.intro (And.intro (by simp only [maxLen]; simp; omega) (by simp; omega)) ?_
        refine goes hEn 100 ?_
        conv => whnf
        refine Or.inl (And.intro (And.intro (by simp only [kmin]; omega) (by simp only [kmax]; omega)) ?_)
        refine goes hEn 100 ?_
        conv => whnf
        refine To.part [1, 5, 12, 13, 14] [0] rfl rfl rfl ?_
        have next := ih (i + 1) (ks ++ [endR x]) (by omega) (by simp; omega) hR
        have e : kv (ks ++ [endR x]) = kv ks ++ [kyv (endR x)] := by simp
        rw [e] at next
        exact next
      · have h2 : (!has ks (endR x)) = false := h2
        rw [h1, h2, if_neg (by decide)] at hR
        refine goes hEn 100 ?_
        conv => whnf
        refine Or.inl (And.intro (And.intro (by simp only [kmin]; omega) (by simp only [kmax]; omega)) ?_)
        refine goes hEn 100 ?_
        conv => whnf
        refine To.part [1, 5, 12, 13, 14] [0] rfl rfl rfl ?_
        exact ih (i + 1) ks (by omega) (by omega) hR
    · have h1 : decide (now < endR x) = false := h1
      rw [h1, Bool.false_and, if_neg (by decide)] at hR
      repeat' first
        | (refine goN hEn 100 rfl ?_; conv => whnf)
        | exact rfl
        | refine And.intro (fun _ => ?_) (fun h => absurd (show true = false from h) (by decide))
        | refine And.intro (fun h => absurd (show false = true from h) (by decide)) (fun _ => ?_)
        | refine And.intro (fun h => ?_) (fun h => absurd (of_decide_eq_false h) (by omega))
        | refine And.intro (fun h => absurd (of_decide_eq_true h) (by omega)) (fun h => ?_)
        | refine And.intro (fun h => ?_) (fun h => ?_)
        | refine Or.inl (And.intro (And.intro (by simp only [kmin]; omega) (by simp only [kmax]; omega)) ?_)
        | refine Exists.intro _ (And.intro rfl ?_)
        | refine And.intro (by decide) ?_
        | refine And.intro (by omega) ?_
        | fail
      refine To.part [1, 5, 12, 13, 14] [0] rfl rfl rfl ?_
      exact ih (i + 1) ks (by omega) (by omega) hR
def endsL (l : List Rn) (now : Int) : List Int := sortI (keysL now l [])
theorem ends_ok (l : List Rn) (hs : Sm l) (now : Int) : CallOK Tryz.prog 64 [.slice 14 (rav l) .no, ii now] [] (.ret (.slice 1 (iv (endsL l now)) .no)) [] := by
  refine CallOK.to (E := En) (fn := Tryz.f64) (g := .pure _) (by rfl) (by rfl) (by rfl) (fun _ _ => by rfl) (by decide +kernel) (by rfl) (by rfl) (by rfl) fun _ => ?_
  refine goes hEn 100 ?_
  conv => whnf
  refine To.part [1, 5, 12, 13, 14] [0] rfl rfl rfl ?_
  exact ends_loop l hs now _ l.length 0 [] (by omega) (by simp) rfl
end Go.Proofs.YtlalcoklkafnnaaGreat

namespace Go.Proofs.YtlalcoklkafnnaaGreat
open Go Go.AW Go.Proofs
set_option maxRecDepth 10000

/-- one more in a row in order, but for one that is there -/
def insU (n : Int) : List Int → List Int
  | [] => [n]
  | x :: r => if x < n then x :: insU n r else if x = n then x :: r else n :: x :: r
def rE (now : Int) : List Rn → List Int → List Int
  | [], out => out
  | x :: r, out => rE now r (if endR x ≤ now then out else insU (endR x) out)
theorem insU_len (n : Int) : ∀ (l : List Int), (insU n l).length ≤ l.length + 1
  | [] => by simp [insU]
  | x :: r => by
    have := insU_len n r
    unfold insU
    split
    · simp only [List.length_cons]; omega
    · split <;> simp
noncomputable abbrev fREnds : Func := Tryz.f66
noncomputable abbrev Ee : Env := Ex [5, 54] [] [58, 59, 60]
theorem hEe : EnvOK Ee := hEx _ _ _
abbrev reO : List AObj := [.tail 0 1 3]
def reF (l : List Rn) (now : Int) (out : List Int) (i : Nat) : List (Nat × AVal) := [(0, .slice 14 (rav l) .no), (1, .int .i64 now), (5, .slice 1 (iv out) (.own 0 0)), (6, .int .i64 i)]
theorem rends_inner (l : List Rn) (now : Int) (R : List Int) (i : Nat) (hi : i < 1048576) (n : Int) (out : List Int) (ho : out.length ≤ i) (rest : List Rn)
    (ih : ∀ (out' : List Int), out'.length ≤ i + 1 → rE now rest out' = R → To Ee fREnds (.pure (.ret (.slice 1 (iv R) .no))) (.head (stk fREnds 0) [(0, .slice 14 (rav l) .no), (1, .int .i64 now), (5, .slice 1 (iv out') (.own 0 0)), (6, .int .i64 ((i : Int) + 1))] reO))
    (hR : rE now rest (if n ≤ now then out else insU n out) = R) : ∀ (m k : Nat), k + m = out.length → insU n out = out.take k ++ insU n (out.drop k) →
    To Ee fREnds (.pure (.ret (.slice 1 (iv R) .no))) (.head (stk fREnds 1) [(0, .slice 14 (rav l) .no), (1, .int .i64 now), (5, .slice 1 (iv out) (.own 0 0)), (6, .int .i64 i), (7, .int .i64 n), (8, .int .i64 k)] reO) := by
  have hlo : (iv out).length = out.length := by simp
  intro m
  induction m with
  | zero =>
    intro k hk hins
    rw [List.drop_eq_nil_of_le (by omega), List.take_of_length_le (by omega)] at hins
    have hins : insU n out = out ++ [n] := hins
    have hd : List.drop k (iv out) = [] := List.drop_eq_nil_of_le (by omega)
    have ht : List.take k (iv out) = iv out := List.take_of_length_le (by omega)
    refine goes hEe 100 ?_
    conv => whnf
    refine And.intro (fun h => absurd (of_decide_eq_true h) (by omega)) (fun h => ?_)
    refine goes hEe 100 ?_
    conv => whnf
    refine And.intro (fun h => absurd (show false = true from h) (by decide)) (fun _ => ?_)
    refine goes hEe 100 ?_
    conv => whnf
    refine And.intro (fun h1 => ?_) (fun h1 => ?_)
    · have hnow := of_decide_eq_true h1
      repeat' first
        | (refine goN hEe 100 rfl ?_; conv => whnf)
        | exact rfl
        | refine And.intro (fun _ => ?_) (fun h => absurd (show true = false from h) (by decide))
        | refine And.intro (fun h => absurd (show false = true from h) (by decide)) (fun _ => ?_)
        | refine And.intro (fun h => ?_) (fun h => absurd (of_decide_eq_false h) (by omega))
        | refine And.intro (fun h => absurd (of_decide_eq_true h) (by omega)) (fun h => ?_)
        | refine And.intro (fun h => ?_) (fun h => ?_)
        | refine Or.inl (And.intro (And.intro (by simp only [kmin]; omega) (by simp only [kmax]; omega)) ?_)
        | refine Exists.intro _ (And.intro rfl ?_)
        | refine And.intro (by decide) ?_
        | refine And.intro (by omega) ?_
        | fail
      refine To.part [0, 1, 5, 6] [0] rfl rfl rfl ?_
      exact ih out (by omega) (by rw [if_pos hnow] at hR; exact hR)
    · have hnow := of_decide_eq_false h1
      refine goes hEe 100 ?_
      conv => whnf
      refine And.intro (fun h => absurd (of_decide_eq_true h) (by omega)) (fun h => ?_)
      refine goes hEe 100 ?_
      conv => whnf
      refine And.intro (fun h => absurd (show false = true from h) (by decide)) (fun _ => ?_)
      refine goes hEe 100 ?_
      conv => whnf
      refine ⟨k, rfl, ?_⟩
      refine goes hEe 100 ?_
      conv => whnf
      refine ⟨by omega, ?_⟩
      refine goes hEe 100 ?_
      conv => whnf
      refine And.intro (And.intro (by simp only [maxLen]; simp; omega) (by simp; omega)) ?_
      refine goes hEe 100 ?_
      conv => whnf
      refine And.intro (And.intro (by simp only [maxLen]; simp; omega) (by simp; omega)) ?_
      refine goes hEe 100 ?_
      conv => whnf
      refine ⟨k, rfl, ?_⟩
      refine goes hEe 100 ?_
      conv => whnf
      refine ⟨by omega, ?_⟩
      refine goes hEe 100 ?_
      conv => whnf
      refine And.intro (And.intro (by simp only [maxLen]; simp; omega) (by simp; omega)) ?_
      refine goes hEe 100 ?_
      conv => whnf
      refine Or.inl (And.intro (And.intro (by simp only [kmin]; omega) (by simp only [kmax]; omega)) ?_)
      refine goes hEe 100 ?_
      conv => whnf
      refine To.part [0, 1, 5, 6] [1] rfl rfl rfl ?_
      rw [if_neg hnow, hins] at hR
      have next := ih (out ++ [n]) (by simp; omega) hR
      have e : iv (out ++ [n]) = List.take k (iv out) ++ [ii n] ++ List.drop k (iv out) := by rw [hd, ht]; simp
      rw [e] at next
      exact next
  | succ m ihm =>
    intro k hk hins
    have hlt : k < out.length := by omega
    rw [List.drop_eq_getElem_cons hlt] at hins
    have htk : out.take k ++ [out[k]] = out.take (k + 1) := List.take_append_getElem hlt
    have hdk : out.drop k = out[k] :: out.drop (k + 1) := List.drop_eq_getElem_cons hlt
    generalize hx : out[k] = x at hins htk hdk
    have get : (iv out)[k]? = some (ii x) := (iv_get hlt).trans (by rw [hx])
    have hins : insU n out = out.take k ++ (if x < n then x :: insU n (out.drop (k + 1)) else if x = n then x :: out.drop (k + 1) else n :: x :: out.drop (k + 1)) := hins
    refine goes hEe 100 ?_
    conv => whnf
    refine And.intro (fun h => ?_) (fun h => absurd (of_decide_eq_false h) (by omega))
    refine goes hEe 100 ?_
    conv => whnf
    refine ⟨k, rfl, ?_⟩
    refine goes hEe 100 ?_
    conv => whnf
    refine ⟨_, get, ?_⟩
    refine goes hEe 100 ?_
    conv => whnf
    refine And.intro (fun h1 => ?_) (fun h1 => ?_)
    · have hxn := of_decide_eq_true h1
      rw [if_pos hxn] at hins
      refine goes hEe 100 ?_
      conv => whnf
      refine Or.inl (And.intro (And.intro (by simp only [kmin]; omega) (by simp only [kmax]; omega)) ?_)
      refine goes hEe 100 ?_
      conv => whnf
      refine To.part [0, 1, 5, 6, 7, 8] [0] rfl rfl rfl ?_
      exact ihm (k + 1) (by omega) (by rw [hins, ← htk, List.append_assoc]; rfl)
    · have hxn := of_decide_eq_false h1
      rw [if_neg hxn] at hins
      refine goes hEe 100 ?_
      conv => whnf
      refine And.intro (fun h2 => ?_) (fun h2 => ?_)
      · have hnow := of_decide_eq_true h2
        repeat' first
          | (refine goN hEe 100 rfl ?_; conv => whnf)
          | exact rfl
          | refine And.intro (fun _ => ?_) (fun h => absurd (show true = false from h) (by decide))
          | refine And.intro (fun h => absurd (show false = true from h) (by decide)) (fun _ => ?_)
          | refine And.intro (fun h => ?_) (fun h => absurd (of_decide_eq_false h) (by omega))
          | refine And.intro (fun h => absurd (of_decide_eq_true h) (by omega)) (fun h => ?_)
          | refine And.intro (fun h => ?_) (fun h => ?_)
          | refine Or.inl (And.intro (And.intro (by simp only [kmin]; omega) (by simp only [kmax]; omega)) ?_)
          | refine Exists.intro _ (And.intro rfl ?_)
          | refine And.intro (by decide) ?_
          | refine And.intro (by omega) ?_
          | fail
        refine To.part [0, 1, 5, 6] [0] rfl rfl rfl ?_
        exact ih out (by omega) (by rw [if_pos hnow] at hR; exact hR)
      · have hnow := of_decide_eq_false h2
        rw [if_neg hnow] at hR
        refine goes hEe 100 ?_
        conv => whnf
        refine And.intro (fun h => ?_) (fun h => absurd (of_decide_eq_false h) (by omega))
        refine goes hEe 100 ?_
        conv => whnf
        refine ⟨k, rfl, ?_⟩
        refine goes hEe 100 ?_
        conv => whnf
        refine ⟨_, get, ?_⟩
        refine goes hEe 100 ?_
        conv => whnf
        refine And.intro (fun h3 => ?_) (fun h3 => ?_)
        · have h3 : (x == n) = true := h3
          have h3 : x = n := by simpa using h3
          rw [if_pos h3] at hins
          have e : insU n out = out := by rw [hins, ← hdk, List.take_append_drop]
          rw [e] at hR
          repeat' first
            | (refine goN hEe 100 rfl ?_; conv => whnf)
            | exact rfl
            | refine And.intro (fun _ => ?_) (fun h => absurd (show true = false from h) (by decide))
            | refine And.intro (fun h => absurd (show false = true from h) (by decide)) (fun _ => ?_)
            | refine And.intro (fun h => ?_) (fun h => absurd (of_decide_eq_false h) (by omega))
            | refine And.intro (fun h => absurd (of_decide_eq_true h) (by omega)) (fun h => ?_)
            | refine And.intro (fun h => ?_) (fun h => ?_)
            | refine Or.inl (And.intro (And.intro (by simp only [kmin]; omega) (by simp only [kmax]; omega)) ?_)
            | refine Exists.intro _ (And.intro rfl ?_)
            | refine And.intro (by decide) ?_
            | refine And.intro (by omega) ?_
            | fail
          refine To.part [0, 1, 5, 6] [0] rfl rfl rfl ?_
          exact ih out (by omega) hR
        · have h3 : (x == n) = false := h3
          have h3 : ¬ x = n := by simpa using h3
          rw [if_neg h3, ← hdk] at hins
          refine goes hEe 100 ?_
          conv => whnf
          refine ⟨k, rfl, ?_⟩
          refine goes hEe 100 ?_
          conv => whnf
          refine ⟨by omega, ?_⟩
          refine goes hEe 100 ?_
          conv => whnf
          refine And.intro (And.intro (by simp only [maxLen]; simp; omega) (by simp; omega)) ?_
          refine goes hEe 100 ?_
          conv => whnf
          refine And.intro (And.intro (by simp only [maxLen]; simp; omega) (by simp; omega)) ?_
          refine goes hEe 100 ?_
          conv => whnf
          refine ⟨k, rfl, ?_⟩
          refine goes hEe 100 ?_
          conv => whnf
          refine ⟨by omega, ?_⟩
          refine goes hEe 100 ?_
          conv => whnf
          refine And.intro (And.intro (by simp only [maxLen]; simp; omega) (by simp; omega)) ?_
          refine goes hEe 100 ?_
          conv => whnf
          refine Or.inl (And.intro (And.intro (by simp only [kmin]; omega) (by simp only [kmax]; omega)) ?_)
          refine goes hEe 100 ?_
          conv => whnf
          refine To.part [0, 1, 5, 6] [1] rfl rfl rfl ?_
          rw [hins] at hR
          have next := ih (out.take k ++ n :: out.drop k) (by simp; omega) hR
          have e : iv (out.take k ++ n :: out.drop k) = List.take k (iv out) ++ [ii n] ++ List.drop k (iv out) := by simp
          rw [e] at next
          exact next
theorem rends_loop (l : List Rn) (hs : Sm l) (now : Int) (R : List Int) : ∀ (m i : Nat) (out : List Int), i + m = l.length → out.length ≤ i → rE now (l.drop i) out = R →
    To Ee fREnds (.pure (.ret (.slice 1 (iv R) .no))) (.head (stk fREnds 0) [(0, .slice 14 (rav l) .no), (1, .int .i64 now), (5, .slice 1 (iv out) (.own 0 0)), (6, .int .i64 i)] reO) := by
  have hlen : (rav l).length = l.length := by simp
  have hl := hs.1
  intro m
  induction m with
  | zero =>
    intro i out hi ho hR
    rw [List.drop_eq_nil_of_le (by omega)] at hR
    have hR : out = R := hR
    subst hR
    refine goes hEe 100 ?_
    conv => whnf
    refine And.intro (fun h => absurd (of_decide_eq_true h) (by omega)) (fun h => ?_)
    repeat' first
      | (refine goN hEe 100 rfl ?_; conv => whnf)
      | exact rfl
      | refine And.intro (fun _ => ?_) (fun h => absurd (show true = false from h) (by decide))
      | refine And.intro (fun h => absurd (show false = true from h) (by decide)) (fun _ => ?_)
      | refine And.intro (fun h => ?_) (fun h => absurd (of_decide_eq_false h) (by omega))
      | refine And.intro (fun h => absurd (of_decide_eq_true h) (by omega)) (fun h => ?_)
      | refine And.intro (fun h => ?_) (fun h => ?_)
      | refine Or.inl (And.intro (And.intro (by simp only [kmin]; omega) (by simp only [kmax]; omega)) ?_)
      | refine Exists.intro _ (And.intro rfl ?_)
      | refine And.intro (by decide) ?_
      | refine And.intro (by omega) ?_
      | fail
  | succ m ih =>
    intro i out hi ho hR
    have hlt : i < l.length := by omega
    rw [List.drop_eq_getElem_cons hlt] at hR
    generalize hx : l[i] = x at hR
    have get : (rav l)[i]? = some x.av := (rav_get hlt).trans (by rw [hx])
    unfold rE at hR
    refine goes hEe 100 ?_
    conv => whnf
    refine And.intro (fun h => ?_) (fun h => absurd (of_decide_eq_false h) (by omega))
    refine goes hEe 100 ?_
    conv => whnf
    refine ⟨i, rfl, ?_⟩
    refine goes hEe 100 ?_
    conv => whnf
    refine ⟨_, get, ?_⟩
    refine goes hEe 100 ?_
    conv => whnf
    refine .pure _ [] (rend_ok x) ?_
    refine goes hEe 100 ?_
    conv => whnf
    refine To.part [0, 1, 5, 6, 7, 8] [0] rfl rfl rfl ?_
    exact rends_inner l now R i (by omega) (endR x) out ho (l.drop (i + 1)) (fun out' h1 h2 => ih (i + 1) out' (by omega) h1 h2) hR out.length 0 (by omega) (by simp)
theorem rends_ok (l : List Rn) (hs : Sm l) (now : Int) : CallOK Tryz.prog 66 [.slice 14 (rav l) .no, ii now] [] (.ret (.slice 1 (iv (rE now l [])) .no)) [] := by
  refine CallOK.to (E := Ee) (fn := Tryz.f66) (g := .pure _) (by rfl) (by rfl) (by rfl) (fun _ _ => by rfl) (by decide +kernel) (by rfl) (by rfl) (by rfl) fun _ => ?_
  refine goes hEe 100 ?_
  conv => whnf
  refine To.part [0, 1, 5, 6] [0] rfl rfl rfl ?_
  exact rends_loop l hs now _ l.length 0 [] (by omega) (by simp) rfl
end Go.Proofs.YtlalcoklkafnnaaGreat

namespace Go.Proofs.YtlalcoklkafnnaaGreat
open Go Go.AW Go.Proofs
set_option maxRecDepth 10000

/-- the first of these times at which it fits -/
def stF (c : Con) (l : List Rn) (g : Gan) : List Int → Option Int
  | [] => none
  | t :: r => if (fitsL c (atL l t) g).isSome = true then some t else stF c l g r
def stA : Option Int → AVal
  | some t => .tup [ii t, .bool true]
  | none => .tup [ii 0, .bool false]
def startL (c : Con) (now : Int) (l : List Rn) (g : Gan) : Option Int := stF c l g (now :: endsL l now)
noncomputable abbrev fStart : Func := Tryz.f24
theorem start_loop (c : Con) (hc : c.sm) (now : Int) (l : List Rn) (hs : Sm l) (g : Gan) (hg : 0 ≤ g.pods ∧ g.pods ≤ 16) (es : List Int) (hes : es.length ≤ 1048576) (R : Option Int) : ∀ (m i : Nat), i + m = es.length + 1 → stF c l g ((now :: es).drop i) = R →
    To E fStart (.pure (.ret (stA R))) (.head (stk fStart 0) [(1, ii now), (2, .slice 14 (rav l) .no), (4, .ref 0 0), (7, .ref 1 0), (10, .slice 1 (iv es) .no), (21, .int .i64 (((iv es).length : Nat) + 1)), (22, ii i)] (fdObs c g)) := by
  have hlen : (iv es).length = es.length := by simp
  intro m
  induction m with
  | zero =>
    intro i hi hR
    rw [List.drop_eq_nil_of_le (by simp; omega)] at hR
    have hR : none = R := hR
    subst hR
    refine goes hE 100 ?_
    conv => whnf
    refine And.intro (fun h => absurd (of_decide_eq_true h) (by omega)) (fun h => ?_)
    repeat' first
      | (refine goN hE 100 rfl ?_; conv => whnf)
      | exact rfl
      | refine And.intro (fun _ => ?_) (fun h => absurd (show true = false from h) (by decide))
      | refine And.intro (fun h => absurd (show false = true from h) (by decide)) (fun _ => ?_)
      | refine And.intro (fun h => ?_) (fun h => absurd (of_decide_eq_false h) (by omega))
      | refine And.intro (fun h => absurd (of_decide_eq_true h) (by omega)) (fun h => ?_)
      | refine And.intro (fun h => ?_) (fun h => ?_)
      | refine Or.inl (And.intro (And.intro (by simp only [kmin]; omega) (by simp only [kmax]; omega)) ?_)
      | refine Exists.intro _ (And.intro rfl ?_)
      | refine And.intro (by decide) ?_
      | refine And.intro (by omega) ?_
      | fail
  | succ m ih =>
    intro i hi hR
    have hlt : i < (now :: es).length := by simp; omega
    rw [List.drop_eq_getElem_cons hlt] at hR
    have ih := ih (i + 1) (by omega)
    cases i with
    | zero =>
      have hR : stF c l g (now :: (now :: es).drop 1) = R := hR
      have hf := fits_ok c hc (atL l now) (atL_sm hs now) g hg
      have hat := at_ok l hs now
      unfold stF at hR
      generalize fitsL c (atL l now) g = Q at hR hf
      unfold fdA at hf
      generalize atL l now = al at hat hf
      refine goes hE 100 ?_
      conv => whnf
      refine And.intro (fun h => ?_) (fun h => absurd (of_decide_eq_false h) (by omega))
      refine goes hE 100 ?_
      conv => whnf
      refine And.intro (fun h => absurd (of_decide_eq_true h) (by omega)) (fun h => ?_)
      refine goes hE 100 ?_
      conv => whnf
      refine .pure _ [] hat ?_
      refine goes hE 100 ?_
      conv => whnf
      cases Q with
      | none =>
        rw [if_neg (by decide)] at hR
        have next := ih hR
        refine .pure _ [] hf ?_
        repeat' first
          | (refine goN hE 100 rfl ?_; conv => whnf)
          | exact rfl
          | refine And.intro (fun _ => ?_) (fun h => absurd (show true = false from h) (by decide))
          | refine And.intro (fun h => absurd (show false = true from h) (by decide)) (fun _ => ?_)
          | refine And.intro (fun h => ?_) (fun h => absurd (of_decide_eq_false h) (by omega))
          | refine And.intro (fun h => absurd (of_decide_eq_true h) (by omega)) (fun h => ?_)
          | refine And.intro (fun h => ?_) (fun h => ?_)
          | refine Or.inl (And.intro (And.intro (by simp only [kmin]; omega) (by simp only [kmax]; omega)) ?_)
          | refine Exists.intro _ (And.intro rfl ?_)
          | refine And.intro (by decide) ?_
          | refine And.intro (by omega) ?_
          | fail
        exact To.cut [1, 2, 4, 7, 10, 21, 22] 2 rfl rfl rfl rfl next
      | some x =>
        rw [if_pos (show (some x).isSome = true from rfl)] at hR
        subst hR
        refine .pure _ [] hf ?_
        repeat' first
          | (refine goN hE 100 rfl ?_; conv => whnf)
          | exact rfl
          | refine And.intro (fun _ => ?_) (fun h => absurd (show true = false from h) (by decide))
          | refine And.intro (fun h => absurd (show false = true from h) (by decide)) (fun _ => ?_)
          | refine And.intro (fun h => ?_) (fun h => absurd (of_decide_eq_false h) (by omega))
          | refine And.intro (fun h => absurd (of_decide_eq_true h) (by omega)) (fun h => ?_)
          | refine And.intro (fun h => ?_) (fun h => ?_)
          | refine Or.inl (And.intro (And.intro (by simp only [kmin]; omega) (by simp only [kmax]; omega)) ?_)
          | refine Exists.intro _ (And.intro rfl ?_)
          | refine And.intro (by decide) ?_
          | refine And.intro (by omega) ?_
          | fail
    | succ j =>
      have hj : j < es.length := by simp at hlt; omega
      have hR : stF c l g (es[j] :: (now :: es).drop (j + 1 + 1)) = R := hR
      have get : (iv es)[j]? = some (ii es[j]) := iv_get hj
      generalize es[j] = t at hR get
      have hf := fits_ok c hc (atL l t) (atL_sm hs t) g hg
      have hat := at_ok l hs t
      unfold stF at hR
      generalize fitsL c (atL l t) g = Q at hR hf
      unfold fdA at hf
      generalize atL l t = al at hat hf
      refine goes hE 100 ?_
      conv => whnf
      refine And.intro (fun h => ?_) (fun h => absurd (of_decide_eq_false h) (by omega))
      refine goes hE 100 ?_
      conv => whnf
      refine And.intro (fun h => ?_) (fun h => absurd (of_decide_eq_false h) (by omega))
      refine goes hE 100 ?_
      conv => whnf
      refine Or.inl (And.intro (And.intro (by simp only [kmin]; omega) (by simp only [kmax]; omega)) ?_)
      refine goes hE 100 ?_
      conv => whnf
      refine ⟨j, by omega, ?_⟩
      refine goes hE 100 ?_
      conv => whnf
      refine ⟨_, get, ?_⟩
      refine goes hE 100 ?_
      conv => whnf
      refine .pure _ [] hat ?_
      refine goes hE 100 ?_
      conv => whnf
      cases Q with
      | none =>
        rw [if_neg (by decide)] at hR
        have next := ih hR
        refine .pure _ [] hf ?_
        repeat' first
          | (refine goN hE 100 rfl ?_; conv => whnf)
          | exact rfl
          | refine And.intro (fun _ => ?_) (fun h => absurd (show true = false from h) (by decide))
          | refine And.intro (fun h => absurd (show false = true from h) (by decide)) (fun _ => ?_)
          | refine And.intro (fun h => ?_) (fun h => absurd (of_decide_eq_false h) (by omega))
          | refine And.intro (fun h => absurd (of_decide_eq_true h) (by omega)) (fun h => ?_)
          | refine And.intro (fun h => ?_) (fun h => ?_)
          | refine Or.inl (And.intro (And.intro (by simp only [kmin]; omega) (by simp only [kmax]; omega)) ?_)
          | refine Exists.intro _ (And.intro rfl ?_)
          | refine And.intro (by decide) ?_
          | refine And.intro (by omega) ?_
          | fail
        exact To.cut [1, 2, 4, 7, 10, 21, 22] 2 rfl rfl rfl rfl next
      | some x =>
        rw [if_pos (show (some x).isSome = true from rfl)] at hR
        subst hR
        refine .pure _ [] hf ?_
        repeat' first
          | (refine goN hE 100 rfl ?_; conv => whnf)
          | exact rfl
          | refine And.intro (fun _ => ?_) (fun h => absurd (show true = false from h) (by decide))
          | refine And.intro (fun h => absurd (show false = true from h) (by decide)) (fun _ => ?_)
          | refine And.intro (fun h => ?_) (fun h => absurd (of_decide_eq_false h) (by omega))
          | refine And.intro (fun h => absurd (of_decide_eq_true h) (by omega)) (fun h => ?_)
          | refine And.intro (fun h => ?_) (fun h => ?_)
          | refine Or.inl (And.intro (And.intro (by simp only [kmin]; omega) (by simp only [kmax]; omega)) ?_)
          | refine Exists.intro _ (And.intro rfl ?_)
          | refine And.intro (by decide) ?_
          | refine And.intro (by omega) ?_
          | fail
theorem start_ok (c : Con) (hc : c.sm) (now : Int) (l : List Rn) (hs : Sm l) (g : Gan) (hg : 0 ≤ g.pods ∧ g.pods ≤ 16) : CallOK Tryz.prog 24 [c.av, ii now, .slice 14 (rav l) .no, g.av] [] (.ret (stA (startL c now l g))) [] := by
  have hel : (endsL l now).length ≤ 1048576 := by
    unfold endsL sortI
    rw [List.length_mergeSort]
    have := keysL_len now l []
    have := hs.1
    simp at *
    omega
  have he := ends_ok l hs now
  unfold startL
  generalize endsL l now = es at hel he
  have hlen : (iv es).length = es.length := by simp
  refine CallOK.to (E := E) (fn := Tryz.f24) (g := .pure _) (by rfl) (by rfl) (by rfl) (fun _ _ => by rfl) (by decide +kernel) (by rfl) (by rfl) (by rfl) fun _ => ?_
  refine goes hE 100 ?_
  conv => whnf
  refine .pure _ [] he ?_
  refine goes hE 100 ?_
  conv => whnf
  refine Or.inl (And.intro (And.intro (by simp only [kmin]; omega) (by simp only [kmax]; omega)) ?_)
  refine goes hE 100 ?_
  conv => whnf
  exact To.cut [1, 2, 4, 7, 10, 21, 22] 2 rfl rfl rfl rfl (start_loop c hc now l hs g hg es hel _ (es.length + 1) 0 (by omega) rfl)
end Go.Proofs.YtlalcoklkafnnaaGreat

namespace Go.Proofs.YtlalcoklkafnnaaGreat
open Go Go.AW Go.Proofs
set_option maxRecDepth 10000

def bmB (now : Int) (g : Gan) (t : Int) : Bool := decide (endR ⟨g, 0, 0, now, 0, []⟩ ≤ t)
theorem bmay_any (now : Int) (g : Gan) (t : Int) (b : Bool) (hb : bmB now g t = b) : CallOK Tryz.prog 36 [ii now, g.av, ii t] [] (.ret (.bool b)) [] := by
  have he := end_ok ⟨g, 0, 0, now, 0, []⟩
  unfold bmB at hb
  generalize endR ⟨g, 0, 0, now, 0, []⟩ = x at hb he
  subst hb
  refine CallOK.to (E := E) (fn := Tryz.f36) (g := .pure _) (by rfl) (by rfl) (by rfl) (fun _ _ => by rfl) (by decide +kernel) (by rfl) (by rfl) (by rfl) fun _ => ?_
  repeat' first
    | (refine goN hE 100 rfl ?_; conv => whnf)
    | refine .pure _ [] he ?_
    | exact rfl
    | refine And.intro (fun _ => ?_) (fun h => absurd (show true = false from h) (by decide))
    | refine And.intro (fun h => absurd (show false = true from h) (by decide)) (fun _ => ?_)
    | refine And.intro (fun h => ?_) (fun h => absurd (of_decide_eq_false h) (by omega))
    | refine And.intro (fun h => absurd (of_decide_eq_true h) (by omega)) (fun h => ?_)
    | refine And.intro (fun h => ?_) (fun h => ?_)
    | refine Or.inl (And.intro (And.intro (by simp only [kmin]; omega) (by simp only [kmax]; omega)) ?_)
    | refine Exists.intro _ (And.intro rfl ?_)
    | refine And.intro (by decide) ?_
    | refine And.intro (by omega) ?_
    | fail
theorem bmay_ok (now : Int) (g : Gan) (t : Int) : CallOK Tryz.prog 36 [ii now, g.av, ii t] [] (.ret (.bool (bmB now g t))) [] := bmay_any now g t _ rfl
theorem clipR_ok (l : List Rn) (hl : l.length ≤ 1048576) : CallOK Tryz.prog 75 [.slice 14 (rav l) .no] [] (.ret (.slice 14 (rav l) .full)) [] := by
  have hlen : (rav l).length = l.length := by simp
  refine CallOK.to (E := E) (fn := Tryz.f75) (g := .pure _) (by rfl) (by rfl) (by rfl) (fun _ _ => by rfl) (by decide +kernel) (by rfl) (by rfl) (by rfl) fun _ => ?_
  refine goes hE 100 ?_
  conv => whnf
  refine ⟨(rav l).length, rfl, ?_⟩
  refine goes hE 100 ?_
  conv => whnf
  refine ⟨(rav l).length, rfl, ?_⟩
  refine goes hE 100 ?_
  conv => whnf
  refine ⟨⟨Nat.le_refl _, rfl⟩, ?_⟩
  refine goes hE 100 ?_
  conv => whnf
  rw [List.take_length]
def laterL (c : Con) (now : Int) (l : List Rn) (g : Gan) (x : Rn) : Bool :=
  match startL c now l g with
  | none => false
  | some t => match startL c now (l ++ [x]) g with
    | none => true
    | some u => decide (t < u)
theorem vstart_ok (c : Con) (hc : c.sm) (now : Int) (l : List Rn) (hs : Sm l) (g : Gan) (hg : 0 ≤ g.pods ∧ g.pods ≤ 16) : CallOK Tryz.prog 74 [.agg [.slice 11 (nav c.ns) .no, .slice 6 (hav c.hs) .no, ii c.half, ii c.age, ii now, .slice 14 (rav l) .no], g.av] [] (.ret (stA (startL c now l g))) [] := by
  have hst := start_ok c hc now l hs g hg
  generalize startL c now l g = Q at hst
  unfold stA at hst ⊢
  cases Q with
  | none =>
    refine CallOK.to (E := E) (fn := Tryz.f74) (g := .pure _) (by rfl) (by rfl) (by rfl) (fun _ _ => by rfl) (by decide +kernel) (by rfl) (by rfl) (by rfl) fun _ => ?_
    repeat' first
      | (refine goN hE 100 rfl ?_; conv => whnf)
      | refine .pure _ [] hst ?_
      | exact rfl
      | refine And.intro (fun _ => ?_) (fun h => absurd (show true = false from h) (by decide))
      | refine And.intro (fun h => absurd (show false = true from h) (by decide)) (fun _ => ?_)
      | refine And.intro (fun h => ?_) (fun h => absurd (of_decide_eq_false h) (by omega))
      | refine And.intro (fun h => absurd (of_decide_eq_true h) (by omega)) (fun h => ?_)
      | refine And.intro (fun h => ?_) (fun h => ?_)
      | refine Or.inl (And.intro (And.intro (by simp only [kmin]; omega) (by simp only [kmax]; omega)) ?_)
      | refine Exists.intro _ (And.intro rfl ?_)
      | refine And.intro (by decide) ?_
      | refine And.intro (by omega) ?_
      | fail
  | some t =>
    refine CallOK.to (E := E) (fn := Tryz.f74) (g := .pure _) (by rfl) (by rfl) (by rfl) (fun _ _ => by rfl) (by decide +kernel) (by rfl) (by rfl) (by rfl) fun _ => ?_
    repeat' first
      | (refine goN hE 100 rfl ?_; conv => whnf)
      | refine .pure _ [] hst ?_
      | exact rfl
      | refine And.intro (fun _ => ?_) (fun h => absurd (show true = false from h) (by decide))
      | refine And.intro (fun h => absurd (show false = true from h) (by decide)) (fun _ => ?_)
      | refine And.intro (fun h => ?_) (fun h => absurd (of_decide_eq_false h) (by omega))
      | refine And.intro (fun h => absurd (of_decide_eq_true h) (by omega)) (fun h => ?_)
      | refine And.intro (fun h => ?_) (fun h => ?_)
      | refine Or.inl (And.intro (And.intro (by simp only [kmin]; omega) (by simp only [kmax]; omega)) ?_)
      | refine Exists.intro _ (And.intro rfl ?_)
      | refine And.intro (by decide) ?_
      | refine And.intro (by omega) ?_
      | fail
theorem later_any (c : Con) (hc : c.sm) (now : Int) (l : List Rn) (hs : Sm l) (hl2 : l.length ≤ 1000000) (g : Gan) (hg : 0 ≤ g.pods ∧ g.pods ≤ 16) (x : Rn) (hx : x.hs.length ≤ 1048576) (b : Bool) (hb : laterL c now l g x = b) : CallOK Tryz.prog 34 [c.av, ii now, .slice 14 (rav l) .no, g.av, x.av] [] (.ret (.bool b)) [] := by
  have hcl := clipR_ok l hs.1
  have hs2 : Sm (l ++ [x]) := ⟨by simp; omega, fun y hy => by
    rcases List.mem_append.1 hy with hy | hy
    · exact hs.2 y hy
    · simp at hy; subst hy; exact hx⟩
  have h1 := vstart_ok c hc now l hs g hg
  have h2 := vstart_ok c hc now (l ++ [x]) hs2 g hg
  have e : rav (l ++ [x]) = rav l ++ [x.av] := by simp
  rw [e] at h2
  have hlen : (rav l).length = l.length := by simp
  unfold laterL at hb
  generalize startL c now l g = Q1 at h1 hb
  generalize startL c now (l ++ [x]) g = Q2 at h2 hb
  unfold stA at h1 h2
  cases Q1 with
  | none =>
    have hb : false = b := hb
    subst hb
    cases Q2 with
    | none =>
      refine CallOK.to (E := E) (fn := Tryz.f34) (g := .pure _) (by rfl) (by rfl) (by rfl) (fun _ _ => by rfl) (by decide +kernel) (by rfl) (by rfl) (by rfl) fun _ => ?_
      repeat' first
        | (refine goN hE 100 rfl ?_; conv => whnf)
        | refine .pure _ [] hcl ?_
        | refine And.intro (And.intro (by show (rav l).length + 1 ≤ _; simp only [maxLen]; omega) (by show ((rav l).length + 1) * 128 ≤ _; omega)) ?_
        | refine .pure _ [] h1 ?_
        | refine .pure _ [] h2 ?_
        | exact rfl
        | refine And.intro (fun _ => ?_) (fun h => absurd (show true = false from h) (by decide))
        | refine And.intro (fun h => absurd (show false = true from h) (by decide)) (fun _ => ?_)
        | refine And.intro (fun h => ?_) (fun h => absurd (of_decide_eq_false h) (by omega))
        | refine And.intro (fun h => absurd (of_decide_eq_true h) (by omega)) (fun h => ?_)
        | refine And.intro (fun h => ?_) (fun h => ?_)
        | refine Or.inl (And.intro (And.intro (by simp only [kmin]; omega) (by simp only [kmax]; omega)) ?_)
        | refine Exists.intro _ (And.intro rfl ?_)
        | refine And.intro (by decide) ?_
        | refine And.intro (by omega) ?_
        | fail
    | some u =>
      refine CallOK.to (E := E) (fn := Tryz.f34) (g := .pure _) (by rfl) (by rfl) (by rfl) (fun _ _ => by rfl) (by decide +kernel) (by rfl) (by rfl) (by rfl) fun _ => ?_
      repeat' first
        | (refine goN hE 100 rfl ?_; conv => whnf)
        | refine .pure _ [] hcl ?_
        | refine And.intro (And.intro (by show (rav l).length + 1 ≤ _; simp only [maxLen]; omega) (by show ((rav l).length + 1) * 128 ≤ _; omega)) ?_
        | refine .pure _ [] h1 ?_
        | refine .pure _ [] h2 ?_
        | exact rfl
        | refine And.intro (fun _ => ?_) (fun h => absurd (show true = false from h) (by decide))
        | refine And.intro (fun h => absurd (show false = true from h) (by decide)) (fun _ => ?_)
        | refine And.intro (fun h => ?_) (fun h => absurd (of_decide_eq_false h) (by omega))
        | refine And.intro (fun h => absurd (of_decide_eq_true h) (by omega)) (fun h => ?_)
        | refine And.intro (fun h => ?_) (fun h => ?_)
        | refine Or.inl (And.intro (And.intro (by simp only [kmin]; omega) (by simp only [kmax]; omega)) ?_)
        | refine Exists.intro _ (And.intro rfl ?_)
        | refine And.intro (by decide) ?_
        | refine And.intro (by omega) ?_
        | fail
  | some t =>
    cases Q2 with
    | none =>
      have hb : true = b := hb
      subst hb
      refine CallOK.to (E := E) (fn := Tryz.f34) (g := .pure _) (by rfl) (by rfl) (by rfl) (fun _ _ => by rfl) (by decide +kernel) (by rfl) (by rfl) (by rfl) fun _ => ?_
      repeat' first
        | (refine goN hE 100 rfl ?_; conv => whnf)
        | refine .pure _ [] hcl ?_
        | refine And.intro (And.intro (by show (rav l).length + 1 ≤ _; simp only [maxLen]; omega) (by show ((rav l).length + 1) * 128 ≤ _; omega)) ?_
        | refine .pure _ [] h1 ?_
        | refine .pure _ [] h2 ?_
        | exact rfl
        | refine And.intro (fun _ => ?_) (fun h => absurd (show true = false from h) (by decide))
        | refine And.intro (fun h => absurd (show false = true from h) (by decide)) (fun _ => ?_)
        | refine And.intro (fun h => ?_) (fun h => absurd (of_decide_eq_false h) (by omega))
        | refine And.intro (fun h => absurd (of_decide_eq_true h) (by omega)) (fun h => ?_)
        | refine And.intro (fun h => ?_) (fun h => ?_)
        | refine Or.inl (And.intro (And.intro (by simp only [kmin]; omega) (by simp only [kmax]; omega)) ?_)
        | refine Exists.intro _ (And.intro rfl ?_)
        | refine And.intro (by decide) ?_
        | refine And.intro (by omega) ?_
        | fail
    | some u =>
      have hb : decide (t < u) = b := hb
      subst hb
      refine CallOK.to (E := E) (fn := Tryz.f34) (g := .pure _) (by rfl) (by rfl) (by rfl) (fun _ _ => by rfl) (by decide +kernel) (by rfl) (by rfl) (by rfl) fun _ => ?_
      repeat' first
        | (refine goN hE 100 rfl ?_; conv => whnf)
        | refine .pure _ [] hcl ?_
        | refine And.intro (And.intro (by show (rav l).length + 1 ≤ _; simp only [maxLen]; omega) (by show ((rav l).length + 1) * 128 ≤ _; omega)) ?_
        | refine .pure _ [] h1 ?_
        | refine .pure _ [] h2 ?_
        | exact rfl
        | refine And.intro (fun _ => ?_) (fun h => absurd (show true = false from h) (by decide))
        | refine And.intro (fun h => absurd (show false = true from h) (by decide)) (fun _ => ?_)
        | refine And.intro (fun h => ?_) (fun h => absurd (of_decide_eq_false h) (by omega))
        | refine And.intro (fun h => absurd (of_decide_eq_true h) (by omega)) (fun h => ?_)
        | refine And.intro (fun h => ?_) (fun h => ?_)
        | refine Or.inl (And.intro (And.intro (by simp only [kmin]; omega) (by simp only [kmax]; omega)) ?_)
        | refine Exists.intro _ (And.intro rfl ?_)
        | refine And.intro (by decide) ?_
        | refine And.intro (by omega) ?_
        | fail
theorem later_ok (c : Con) (hc : c.sm) (now : Int) (l : List Rn) (hs : Sm l) (hl2 : l.length ≤ 1000000) (g : Gan) (hg : 0 ≤ g.pods ∧ g.pods ≤ 16) (x : Rn) (hx : x.hs.length ≤ 1048576) : CallOK Tryz.prog 34 [c.av, ii now, .slice 14 (rav l) .no, g.av, x.av] [] (.ret (.bool (laterL c now l g x))) [] := later_any c hc now l hs hl2 g hg x hx _ rfl
end Go.Proofs.YtlalcoklkafnnaaGreat

namespace Go.Proofs.YtlalcoklkafnnaaGreat
open Go Go.AW Go.Proofs
set_option maxRecDepth 10000

def c20 : Con := ⟨[⟨-1, 1, ⟨4, 4, 4⟩, V3.zero, V3.zero⟩], [⟨0, 0, 0, ⟨4, 4, 4⟩⟩], 1, 0⟩
def g20 : Gan := ⟨1, 0, 1, ⟨4, 4, 4⟩, 9, 0, 0⟩
def r20 : Rn := ⟨g20, 0, 0, 5, 0, [0]⟩
theorem ends_nil (now : Int) : endsL [] now = [] := by
  unfold endsL sortI keysL
  simp
theorem r20_ends : endsL [r20] 5 = [14] := by
  unfold endsL sortI
  rw [show keysL 5 [r20] [] = [14] from by decide +kernel]
  simp
theorem c20_start : startL c20 5 [] g20 = some 5 := by
  unfold startL
  rw [ends_nil]
  decide +kernel
theorem c20_start2 : startL c20 5 [r20] g20 = some 14 := by
  unfold startL
  rw [r20_ends]
  decide +kernel
theorem c20_later : laterL c20 5 [] g20 r20 = true := by
  unfold laterL
  rw [c20_start]
  show (match startL c20 5 [r20] g20 with | none => true | some u => decide (5 < u)) = true
  rw [c20_start2]
  decide
theorem c20_sm : c20.sm := ⟨by decide, by decide⟩
theorem CallOK.nil3 {P : Program} {f : FuncId} {a b : AVal} {qs : List AVal} {sz : Nat} {obs obs' : List AObj} {r : Res} (h : CallOK P f (a :: b :: .slice sz [] .no :: qs) obs r obs') : CallOK P f (a :: b :: .nilslice :: qs) obs r obs' :=
  fun M ob w vargs hm hr => h M ob w vargs hm ⟨hr.1, fun i v x hv hx => by
    match i with
    | 0 => exact hr.2 0 v x hv hx
    | 1 => exact hr.2 1 v x hv hx
    | 2 =>
      have hx : AVal.slice sz [] .no = x := by simpa using hx
      subst hx
      have := hr.2 2 v .nilslice hv rfl
      cases this
      exact .slnil _ _ trivial
    | i + 3 => exact hr.2 (i + 3) v x hv hx⟩
theorem awake20_ok : CallOK Tryz.prog 33 [] [] (.ret (.bool true)) [] := by
  have hl := later_ok c20 c20_sm 5 [] ⟨by decide, fun x h => by simp at h⟩ (by decide) g20 (by decide) r20 (by decide)
  rw [c20_later] at hl
  have m1 := bmay_ok 5 ⟨0, 0, 0, V3.zero, 3, 0, 0⟩ 8
  rw [show bmB 5 ⟨0, 0, 0, V3.zero, 3, 0, 0⟩ 8 = true from by decide +kernel] at m1
  have m2 := bmay_ok 5 ⟨0, 0, 0, V3.zero, 4, 0, 0⟩ 8
  rw [show bmB 5 ⟨0, 0, 0, V3.zero, 4, 0, 0⟩ 8 = false from by decide +kernel] at m2
  refine CallOK.to (E := E) (fn := Tryz.f33) (g := .pure _) (by rfl) (by rfl) (by rfl) (fun _ _ => by rfl) (by decide +kernel) (by rfl) (by rfl) (by rfl) fun _ => ?_
  repeat' first
    | (refine goN hE 100 rfl ?_; conv => whnf)
    | refine .pure _ [] m1 ?_
    | refine .pure _ [] m2 ?_
    | refine .pure _ [] (CallOK.strip (CallOK.nil3 hl)) ?_
    | exact rfl
    | refine And.intro (fun _ => ?_) (fun h => absurd (show true = false from h) (by decide))
    | refine And.intro (fun h => absurd (show false = true from h) (by decide)) (fun _ => ?_)
    | refine And.intro (fun h => ?_) (fun h => absurd (of_decide_eq_false h) (by omega))
    | refine And.intro (fun h => absurd (of_decide_eq_true h) (by omega)) (fun h => ?_)
    | refine And.intro (fun h => ?_) (fun h => ?_)
    | refine Or.inl (And.intro (And.intro (by simp only [kmin]; omega) (by simp only [kmax]; omega)) ?_)
    | refine Exists.intro _ (And.intro rfl ?_)
    | refine And.intro (by decide) ?_
    | refine And.intro (by omega) ?_
    | fail
end Go.Proofs.YtlalcoklkafnnaaGreat

namespace Go.Proofs.YtlalcoklkafnnaaGreat
open Go Go.AW Go.Proofs
open Go.ChangeShapes Go.WideShapes Go.ChangeAt Go.RowKit
set_option maxRecDepth 100000

theorem tyInt {n : Nat} {cs : List AVal} (h : TyC Tryz.prog (n + 1) 3 cs) : ∃ m : Int, cs = [ii m] := by
  unfold TyC at h
  rw [Tryz.underlying3] at h
  obtain ⟨m, h, _⟩ := h
  exact ⟨m, h⟩
theorem tyVec {n : Nat} {cs : List AVal} (h : TyC Tryz.prog (n + 2) 32 cs) : ∃ v : V3, cs = v.cs := by
  unfold TyC at h
  rw [Tryz.underlying32] at h
  obtain ⟨xs, hl, hx, rfl⟩ := h
  match xs, hl, hx with
  | [x, y, z], _, hx =>
    obtain ⟨a, rfl⟩ := tyInt (hx x (by simp))
    obtain ⟨b, rfl⟩ := tyInt (hx y (by simp))
    obtain ⟨c, rfl⟩ := tyInt (hx z (by simp))
    exact ⟨⟨a, b, c⟩, rfl⟩
theorem tyGang {n : Nat} {cs : List AVal} (h : TyC Tryz.prog (n + 3) 34 cs) : ∃ g : Gan, cs = g.cs := by
  unfold TyC at h
  rw [Tryz.underlying34] at h
  obtain ⟨x0, r, rfl, h0, x1, r, rfl, h1, x2, r, rfl, h2, x3, r, rfl, h3, x4, r, rfl, h4, x5, r, rfl, h5, x6, r, rfl, h6, rfl⟩ := h
  obtain ⟨a0, rfl⟩ := tyInt h0
  obtain ⟨a1, rfl⟩ := tyInt h1
  obtain ⟨a2, rfl⟩ := tyInt h2
  obtain ⟨v, rfl⟩ := tyVec h3
  obtain ⟨a4, rfl⟩ := tyInt h4
  obtain ⟨a5, rfl⟩ := tyInt h5
  obtain ⟨a6, rfl⟩ := tyInt h6
  exact ⟨⟨a0, a1, a2, v, a4, a5, a6⟩, rfl⟩
section
variable {H : Type} {enc : TypeId × Value → H} {W : World} {r : Reach} {base b0 : Nat} {spare : Nat → Bool} {held : Bool} {v : Value} {d : DataW H} {ps : List MemPlace}
theorem open_gang (hv : Value.okWide Tryz.prog W r b0 34 v) (h : DataW.Trod enc Tryz.prog W base spare held 34 v d ps) : ∃ x : Gan, Rep (Mw W) [] v x.av := by
  obtain ⟨cs0, hr, ht⟩ := arg_agg (n := 3) (by kernel_rfl) (by kernel_rfl) hv h
  obtain ⟨x, rfl⟩ := tyGang (n := 0) ht
  exact ⟨x, hr⟩
theorem open_int (hv : Value.okWide Tryz.prog W r b0 3 v) : ∃ n : Int, Rep (Mw W) [] v (ii n) := by
  obtain ⟨m, rfl, h⟩ := okC_int (k := .i64) (by kernel_rfl) (okV_cell (by kernel_rfl) hv)
  exact ⟨m, .int _ m h⟩
end
end Go.Proofs.YtlalcoklkafnnaaGreat

namespace Go.Proofs.YtlalcoklkafnnaaGreat
open Go Go.AW Go.Proofs
set_option maxRecDepth 10000

def g19 : Gan := ⟨1, 0, 2, ⟨2, 2, 2⟩, 3, 0, 0⟩
def r19 : Rn := ⟨g19, 0, 0, 5, 0, [0, 0]⟩
def o19 : AVal := .agg [.slice 11 (nav c20.ns) .full, .slice 6 (hav c20.hs) .full, ii c20.half, ii c20.age]
theorem one19_ok : CallOK Tryz.prog 60 [] [] (.ret o19) [] := by
  refine CallOK.to (E := E) (fn := Tryz.f60) (g := .pure _) (by rfl) (by rfl) (by rfl) (fun _ _ => by rfl) (by decide +kernel) (by rfl) (by rfl) (by rfl) fun _ => ?_
  repeat' first
    | (refine goN hE 100 rfl ?_; conv => whnf)
    | exact rfl
    | refine And.intro (fun _ => ?_) (fun h => absurd (show true = false from h) (by decide))
    | refine And.intro (fun h => absurd (show false = true from h) (by decide)) (fun _ => ?_)
    | refine And.intro (fun h => ?_) (fun h => absurd (of_decide_eq_false h) (by omega))
    | refine And.intro (fun h => absurd (of_decide_eq_true h) (by omega)) (fun h => ?_)
    | refine And.intro (fun h => ?_) (fun h => ?_)
    | refine Or.inl (And.intro (And.intro (by simp only [kmin]; omega) (by simp only [kmax]; omega)) ?_)
    | refine Exists.intro _ (And.intro rfl ?_)
    | refine And.intro (by decide) ?_
    | refine And.intro (by omega) ?_
    | fail
theorem r19_ends : endsL [r19] 6 = [8] := by
  unfold endsL sortI
  rw [show keysL 6 [r19] [] = [8] from by decide +kernel]
  simp
theorem c19_start : startL c20 6 [r19] g19 = some 8 := by
  unfold startL
  rw [r19_ends]
  decide +kernel
theorem c19_fits0 : fitsL c20 [] g19 = some (0, [0, 0]) := by decide +kernel
theorem c19_fits1 : fitsL c20 [r19] g19 = none := by decide +kernel
theorem c19_never : fitsL c20 [] { g19 with pods := 3 } = none := by decide +kernel
theorem awake19_ok : CallOK Tryz.prog 20 [] [] (.ret (.bool true)) [] := by
  have sm0 : Sm [] := ⟨by decide, fun x h => by simp at h⟩
  have sm1 : Sm [r19] := ⟨by decide, by decide⟩
  have hs := start_ok c20 c20_sm 6 [r19] sm1 g19 (by decide)
  rw [c19_start] at hs
  have f0 := fits_ok c20 c20_sm [] sm0 g19 (by decide)
  rw [c19_fits0] at f0
  have f1 := fits_ok c20 c20_sm [r19] sm1 g19 (by decide)
  rw [c19_fits1] at f1
  have n0 := never_ok c20 c20_sm g19 (by decide)
  rw [c19_fits0] at n0
  have n1 := never_ok c20 c20_sm { g19 with pods := 3 } (by decide)
  rw [c19_never] at n1
  refine CallOK.to (E := E) (fn := Tryz.f20) (g := .pure _) (by rfl) (by rfl) (by rfl) (fun _ _ => by rfl) (by decide +kernel) (by rfl) (by rfl) (by rfl) fun _ => ?_
  repeat' first
    | (refine goN hE 100 rfl ?_; conv => whnf)
    | refine .pure _ [] one19_ok ?_
    | refine .pure _ [] (CallOK.strip hs) ?_
    | refine .pure _ [] (CallOK.strip (CallOK.nil2 f0)) ?_
    | refine .pure _ [] (CallOK.strip f1) ?_
    | refine .pure _ [] (CallOK.strip n0) ?_
    | refine .pure _ [] (CallOK.strip n1) ?_
    | exact rfl
    | refine And.intro (fun _ => ?_) (fun h => absurd (show true = false from h) (by decide))
    | refine And.intro (fun h => absurd (show false = true from h) (by decide)) (fun _ => ?_)
    | refine And.intro (fun h => ?_) (fun h => absurd (of_decide_eq_false h) (by omega))
    | refine And.intro (fun h => absurd (of_decide_eq_true h) (by omega)) (fun h => ?_)
    | refine And.intro (fun h => ?_) (fun h => ?_)
    | refine Or.inl (And.intro (And.intro (by simp only [kmin]; omega) (by simp only [kmax]; omega)) ?_)
    | refine Exists.intro _ (And.intro rfl ?_)
    | refine And.intro (by decide) ?_
    | refine And.intro (by omega) ?_
    | fail
end Go.Proofs.YtlalcoklkafnnaaGreat

namespace Go.Proofs.YtlalcoklkafnnaaGreat
open Go Go.AW Go.Proofs
set_option maxRecDepth 10000

def validB (v : V3) : Bool := decide (0 ≤ v.a ∧ v.a ≤ 1048576) && decide (0 ≤ v.b ∧ v.b ≤ 1048576) && decide (0 ≤ v.c ∧ v.c ≤ 1048576)
noncomputable abbrev fVal : Func := Tryz.f58
theorem valid_any (v : V3) (b : Bool) (hb : validB v = b) : CallOK Tryz.prog 58 [v.av] [] (.ret (.bool b)) [] := by
  unfold validB at hb
  refine CallOK.to (E := E) (fn := Tryz.f58) (g := .pure _) (by rfl) (by rfl) (by rfl) (fun _ _ => by rfl) (by decide +kernel) (by rfl) (by rfl) (by rfl) fun _ => ?_
  repeat' first
    | (refine goes hE 100 ?_; conv => whnf)
    | exact hb
    | refine And.intro (fun _ => ?_) (fun h => absurd (show true = false from h) (by decide))
    | refine And.intro (fun h => absurd (show false = true from h) (by decide)) (fun _ => ?_)
    | refine And.intro (fun h => ?_) (fun h => ?_)
    | refine Or.inl (And.intro (And.intro (by simp only [kmin]; omega) (by simp only [kmax]; omega)) ?_)
    | refine Exists.intro _ (And.intro rfl ?_)
    | refine And.intro (by decide) ?_
  all_goals (refine congrArg (fun b => Res.ret (AVal.bool b)) ?_; rw [← hb]; simp only [decide_eq_true_eq, decide_eq_false_iff_not] at *)
  · rw [decide_eq_false (p := 0 ≤ v.a ∧ v.a ≤ 1048576) (by omega)]; rfl
  · rw [decide_eq_false (p := 0 ≤ v.a ∧ v.a ≤ 1048576) (by omega)]; rfl
  · rw [decide_eq_false (p := 0 ≤ v.b ∧ v.b ≤ 1048576) (by omega), Bool.and_false]; rfl
  · rw [decide_eq_false (p := 0 ≤ v.b ∧ v.b ≤ 1048576) (by omega), Bool.and_false]; rfl
  · rw [decide_eq_false (p := 0 ≤ v.c ∧ v.c ≤ 1048576) (by omega), Bool.and_false]
  · rw [decide_eq_false (p := 0 ≤ v.c ∧ v.c ≤ 1048576) (by omega), Bool.and_false]
  · rw [decide_eq_true (p := 0 ≤ v.a ∧ v.a ≤ 1048576) (by omega), decide_eq_true (p := 0 ≤ v.b ∧ v.b ≤ 1048576) (by omega), decide_eq_true (p := 0 ≤ v.c ∧ v.c ≤ 1048576) (by omega)]; rfl
theorem valid_ok (v : V3) : CallOK Tryz.prog 58 [v.av] [] (.ret (.bool (validB v))) [] := valid_any v _ rfl
/-- a leaf, as the reference tells it -/
def rlB (ns : List Nod) (t : Int) : Bool := if decide (t < 0) = true then false else if decide ((ns.length : Int) ≤ t) = true then false else ns.all fun x => !(x.p == t)
noncomputable abbrev fRLeaf : Func := Tryz.f59
theorem rleaf_loop (c : Con) (hc : c.sm) (t : Int) (r : Bool) : ∀ (m i : Nat), i + m = c.ns.length → ((c.ns.drop i).all fun x => !(x.p == t)) = r →
    To E fRLeaf (.pure (.ret (.bool r))) (.head (stk fRLeaf 0) [(1, ii t), (2, .ref 0 0), (5, ii i)] [.cells 25 c.cs]) := by
  have hlen : (nav c.ns).length = c.ns.length := by simp
  have h1 := hc.ns
  intro m
  induction m with
  | zero =>
    intro i hi hr
    rw [List.drop_eq_nil_of_le (by omega)] at hr
    have hr : true = r := hr
    subst hr
    refine goes hE 100 ?_
    conv => whnf
    refine And.intro (fun h => absurd (of_decide_eq_true h) (by omega)) (fun h => ?_)
    repeat' first
      | (refine goN hE 100 rfl ?_; conv => whnf)
      | exact rfl
      | refine And.intro (fun _ => ?_) (fun h => absurd (show true = false from h) (by decide))
      | refine And.intro (fun h => absurd (show false = true from h) (by decide)) (fun _ => ?_)
      | refine And.intro (fun h => ?_) (fun h => absurd (of_decide_eq_false h) (by omega))
      | refine And.intro (fun h => absurd (of_decide_eq_true h) (by omega)) (fun h => ?_)
      | refine And.intro (fun h => ?_) (fun h => ?_)
      | refine Or.inl (And.intro (And.intro (by simp only [kmin]; omega) (by simp only [kmax]; omega)) ?_)
      | refine Exists.intro _ (And.intro rfl ?_)
      | refine And.intro (by decide) ?_
      | refine And.intro (by omega) ?_
      | fail
  | succ m ih =>
    intro i hi hr
    have hlt : i < c.ns.length := by omega
    rw [List.drop_eq_getElem_cons hlt, List.all_cons] at hr
    have get := nav_get hlt
    generalize c.ns[i] = x at hr get
    have ih := ih (i + 1) (by omega)
    refine goes hE 100 ?_
    conv => whnf
    refine And.intro (fun h => ?_) (fun h => absurd (of_decide_eq_false h) (by omega))
    refine goes hE 100 ?_
    conv => whnf
    refine ⟨i, rfl, ?_⟩
    refine goes hE 100 ?_
    conv => whnf
    refine ⟨_, get, ?_⟩
    refine goes hE 100 ?_
    conv => whnf
    refine And.intro (fun h2 => ?_) (fun h2 => ?_)
    · have h2 : (x.p == t) = true := h2
      rw [h2] at hr
      have hr : false = r := hr
      subst hr
      repeat' first
        | (refine goN hE 100 rfl ?_; conv => whnf)
        | exact rfl
        | refine And.intro (fun _ => ?_) (fun h => absurd (show true = false from h) (by decide))
        | refine And.intro (fun h => absurd (show false = true from h) (by decide)) (fun _ => ?_)
        | refine And.intro (fun h => ?_) (fun h => absurd (of_decide_eq_false h) (by omega))
        | refine And.intro (fun h => absurd (of_decide_eq_true h) (by omega)) (fun h => ?_)
        | refine And.intro (fun h => ?_) (fun h => ?_)
        | refine Or.inl (And.intro (And.intro (by simp only [kmin]; omega) (by simp only [kmax]; omega)) ?_)
        | refine Exists.intro _ (And.intro rfl ?_)
        | refine And.intro (by decide) ?_
        | refine And.intro (by omega) ?_
        | fail
    · have h2 : (x.p == t) = false := h2
      rw [h2] at hr
      have hr : ((c.ns.drop (i + 1)).all fun x => !(x.p == t)) = r := hr
      repeat' first
        | (refine goN hE 100 rfl ?_; conv => whnf)
        | exact rfl
        | refine And.intro (fun _ => ?_) (fun h => absurd (show true = false from h) (by decide))
        | refine And.intro (fun h => absurd (show false = true from h) (by decide)) (fun _ => ?_)
        | refine And.intro (fun h => ?_) (fun h => absurd (of_decide_eq_false h) (by omega))
        | refine And.intro (fun h => absurd (of_decide_eq_true h) (by omega)) (fun h => ?_)
        | refine And.intro (fun h => ?_) (fun h => ?_)
        | refine Or.inl (And.intro (And.intro (by simp only [kmin]; omega) (by simp only [kmax]; omega)) ?_)
        | refine Exists.intro _ (And.intro rfl ?_)
        | refine And.intro (by decide) ?_
        | refine And.intro (by omega) ?_
        | fail
      exact To.cut [1, 2, 5] 1 rfl rfl rfl rfl (ih hr)
theorem rleaf_any (c : Con) (hc : c.sm) (t : Int) (r : Bool) (hr : rlB c.ns t = r) : CallOK Tryz.prog 59 [c.av, ii t] [] (.ret (.bool r)) [] := by
  have hlen : (nav c.ns).length = c.ns.length := by simp
  unfold rlB at hr
  by_cases p1 : t < 0
  · rw [if_pos (decide_eq_true p1)] at hr
    subst hr
    refine CallOK.to (E := E) (fn := Tryz.f59) (g := .pure _) (by rfl) (by rfl) (by rfl) (fun _ _ => by rfl) (by decide +kernel) (by rfl) (by rfl) (by rfl) fun _ => ?_
    repeat' first
      | (refine goN hE 100 rfl ?_; conv => whnf)
      | exact rfl
      | refine And.intro (fun _ => ?_) (fun h => absurd (show true = false from h) (by decide))
      | refine And.intro (fun h => absurd (show false = true from h) (by decide)) (fun _ => ?_)
      | refine And.intro (fun h => ?_) (fun h => absurd (of_decide_eq_false h) (by omega))
      | refine And.intro (fun h => absurd (of_decide_eq_true h) (by omega)) (fun h => ?_)
      | refine And.intro (fun h => ?_) (fun h => ?_)
      | refine Or.inl (And.intro (And.intro (by simp only [kmin]; omega) (by simp only [kmax]; omega)) ?_)
      | refine Exists.intro _ (And.intro rfl ?_)
      | refine And.intro (by decide) ?_
      | refine And.intro (by omega) ?_
      | fail
  rw [if_neg (by rw [decide_eq_false p1]; decide)] at hr
  by_cases p2 : (c.ns.length : Int) ≤ t
  · rw [if_pos (decide_eq_true p2)] at hr
    subst hr
    refine CallOK.to (E := E) (fn := Tryz.f59) (g := .pure _) (by rfl) (by rfl) (by rfl) (fun _ _ => by rfl) (by decide +kernel) (by rfl) (by rfl) (by rfl) fun _ => ?_
    repeat' first
      | (refine goN hE 100 rfl ?_; conv => whnf)
      | exact rfl
      | refine And.intro (fun _ => ?_) (fun h => absurd (show true = false from h) (by decide))
      | refine And.intro (fun h => absurd (show false = true from h) (by decide)) (fun _ => ?_)
      | refine And.intro (fun h => ?_) (fun h => absurd (of_decide_eq_false h) (by omega))
      | refine And.intro (fun h => absurd (of_decide_eq_true h) (by omega)) (fun h => ?_)
      | refine And.intro (fun h => ?_) (fun h => ?_)
      | refine Or.inl (And.intro (And.intro (by simp only [kmin]; omega) (by simp only [kmax]; omega)) ?_)
      | refine Exists.intro _ (And.intro rfl ?_)
      | refine And.intro (by decide) ?_
      | refine And.intro (by omega) ?_
      | fail
  rw [if_neg (by rw [decide_eq_false p2]; decide)] at hr
  refine CallOK.to (E := E) (fn := Tryz.f59) (g := .pure _) (by rfl) (by rfl) (by rfl) (fun _ _ => by rfl) (by decide +kernel) (by rfl) (by rfl) (by rfl) fun _ => ?_
  repeat' first
    | (refine goN hE 100 rfl ?_; conv => whnf)
    | exact rfl
    | refine And.intro (fun _ => ?_) (fun h => absurd (show true = false from h) (by decide))
    | refine And.intro (fun h => absurd (show false = true from h) (by decide)) (fun _ => ?_)
    | refine And.intro (fun h => ?_) (fun h => absurd (of_decide_eq_false h) (by omega))
    | refine And.intro (fun h => absurd (of_decide_eq_true h) (by omega)) (fun h => ?_)
    | refine And.intro (fun h => ?_) (fun h => ?_)
    | refine Or.inl (And.intro (And.intro (by simp only [kmin]; omega) (by simp only [kmax]; omega)) ?_)
    | refine Exists.intro _ (And.intro rfl ?_)
    | refine And.intro (by decide) ?_
    | refine And.intro (by omega) ?_
    | fail
  exact To.cut [1, 2, 5] 1 rfl rfl rfl rfl (rleaf_loop c hc t r c.ns.length 0 (by omega) hr)
theorem rleaf_ok (c : Con) (hc : c.sm) (t : Int) : CallOK Tryz.prog 59 [c.av, ii t] [] (.ret (.bool (rlB c.ns t))) [] := rleaf_any c hc t _ rfl
end Go.Proofs.YtlalcoklkafnnaaGreat

namespace Go.Proofs.YtlalcoklkafnnaaGreat
open Go Go.AW Go.Proofs
set_option maxRecDepth 10000

def gangB (ns : List Nod) (g : Gan) : Bool := decide (1 ≤ g.id ∧ g.id ≤ 1073741824 ∧ 1 ≤ g.pods ∧ g.pods ≤ 16) && (validB g.need && (decide (1 ≤ g.run ∧ g.run ≤ 1048576 ∧ 0 ≤ g.lev ∧ g.lev ≤ 3 ∧ 0 ≤ g.pref ∧ g.pref ≤ g.lev) && rlB ns g.ten))
def gangI (ns : List Nod) (g : Gan) : Int := if gangB ns g = true then 1 else 0
theorem gang_any (c : Con) (hc : c.sm) (g : Gan) (r : Int) (hr : gangI c.ns g = r) : CallOK Tryz.prog 19 [c.av, g.av] [] (.ret (ii r)) [] := by
  have hv := valid_ok g.need
  have hl := rleaf_ok c hc g.ten
  unfold gangI gangB at hr
  generalize validB g.need = bv at hr hv
  generalize rlB c.ns g.ten = bl at hr hl
  by_cases p1 : 1 ≤ g.id ∧ g.id ≤ 1073741824 ∧ 1 ≤ g.pods ∧ g.pods ≤ 16
  · rw [decide_eq_true p1] at hr
    cases bv with
    | false =>
      have hr : 0 = r := hr
      subst hr
      refine CallOK.to (E := E) (fn := Tryz.f19) (g := .pure _) (by rfl) (by rfl) (by rfl) (fun _ _ => by rfl) (by decide +kernel) (by rfl) (by rfl) (by rfl) fun _ => ?_
      repeat' first
        | (refine goes hE 100 ?_; conv => whnf)
        | exact rfl
        | refine .pure _ [] hv ?_
        | refine .pure _ [] hl ?_
        | refine And.intro (fun _ => ?_) (fun h => absurd (show true = false from h) (by decide))
        | refine And.intro (fun h => absurd (show false = true from h) (by decide)) (fun _ => ?_)
        | refine And.intro (fun h => absurd (of_decide_eq_true h) (by omega)) (fun h => ?_)
        | refine And.intro (fun h => ?_) (fun h => absurd (of_decide_eq_false h) (by omega))
        | refine And.intro (fun h => ?_) (fun h => ?_)
    | true =>
      by_cases p2 : 1 ≤ g.run ∧ g.run ≤ 1048576 ∧ 0 ≤ g.lev ∧ g.lev ≤ 3 ∧ 0 ≤ g.pref ∧ g.pref ≤ g.lev
      · rw [decide_eq_true p2] at hr
        cases bl with
        | false =>
          have hr : 0 = r := hr
          subst hr
          refine CallOK.to (E := E) (fn := Tryz.f19) (g := .pure _) (by rfl) (by rfl) (by rfl) (fun _ _ => by rfl) (by decide +kernel) (by rfl) (by rfl) (by rfl) fun _ => ?_
          repeat' first
            | (refine goes hE 100 ?_; conv => whnf)
            | exact rfl
            | refine .pure _ [] hv ?_
            | refine .pure _ [] hl ?_
            | refine And.intro (fun _ => ?_) (fun h => absurd (show true = false from h) (by decide))
            | refine And.intro (fun h => absurd (show false = true from h) (by decide)) (fun _ => ?_)
            | refine And.intro (fun h => absurd (of_decide_eq_true h) (by omega)) (fun h => ?_)
            | refine And.intro (fun h => ?_) (fun h => absurd (of_decide_eq_false h) (by omega))
            | refine And.intro (fun h => ?_) (fun h => ?_)
        | true =>
          have hr : 1 = r := hr
          subst hr
          refine CallOK.to (E := E) (fn := Tryz.f19) (g := .pure _) (by rfl) (by rfl) (by rfl) (fun _ _ => by rfl) (by decide +kernel) (by rfl) (by rfl) (by rfl) fun _ => ?_
          repeat' first
            | (refine goes hE 100 ?_; conv => whnf)
            | exact rfl
            | refine .pure _ [] hv ?_
            | refine .pure _ [] hl ?_
            | refine And.intro (fun _ => ?_) (fun h => absurd (show true = false from h) (by decide))
            | refine And.intro (fun h => absurd (show false = true from h) (by decide)) (fun _ => ?_)
            | refine And.intro (fun h => absurd (of_decide_eq_true h) (by omega)) (fun h => ?_)
            | refine And.intro (fun h => ?_) (fun h => absurd (of_decide_eq_false h) (by omega))
            | refine And.intro (fun h => ?_) (fun h => ?_)
      · rw [decide_eq_false p2] at hr
        have hr : 0 = r := hr
        subst hr
        refine CallOK.to (E := E) (fn := Tryz.f19) (g := .pure _) (by rfl) (by rfl) (by rfl) (fun _ _ => by rfl) (by decide +kernel) (by rfl) (by rfl) (by rfl) fun _ => ?_
        repeat' first
          | (refine goes hE 100 ?_; conv => whnf)
          | exact rfl
          | refine .pure _ [] hv ?_
          | refine .pure _ [] hl ?_
          | refine And.intro (fun _ => ?_) (fun h => absurd (show true = false from h) (by decide))
          | refine And.intro (fun h => absurd (show false = true from h) (by decide)) (fun _ => ?_)
          | refine And.intro (fun h => absurd (of_decide_eq_true h) (by omega)) (fun h => ?_)
          | refine And.intro (fun h => ?_) (fun h => absurd (of_decide_eq_false h) (by omega))
          | refine And.intro (fun h => ?_) (fun h => ?_)
        all_goals (exfalso; simp only [decide_eq_true_eq] at *; omega)
  · rw [decide_eq_false p1] at hr
    have hr : 0 = r := hr
    subst hr
    refine CallOK.to (E := E) (fn := Tryz.f19) (g := .pure _) (by rfl) (by rfl) (by rfl) (fun _ _ => by rfl) (by decide +kernel) (by rfl) (by rfl) (by rfl) fun _ => ?_
    repeat' first
      | (refine goes hE 100 ?_; conv => whnf)
      | exact rfl
      | refine .pure _ [] hv ?_
      | refine .pure _ [] hl ?_
      | refine And.intro (fun _ => ?_) (fun h => absurd (show true = false from h) (by decide))
      | refine And.intro (fun h => absurd (show false = true from h) (by decide)) (fun _ => ?_)
      | refine And.intro (fun h => absurd (of_decide_eq_true h) (by omega)) (fun h => ?_)
      | refine And.intro (fun h => ?_) (fun h => absurd (of_decide_eq_false h) (by omega))
      | refine And.intro (fun h => ?_) (fun h => ?_)
    all_goals (exfalso; simp only [decide_eq_true_eq] at *; omega)
theorem gang_ok (c : Con) (hc : c.sm) (g : Gan) : CallOK Tryz.prog 19 [c.av, g.av] [] (.ret (ii (gangI c.ns g))) [] := gang_any c hc g _ rfl
end Go.Proofs.YtlalcoklkafnnaaGreat

namespace Go.Proofs.YtlalcoklkafnnaaGreat
open Go Go.AW Go.Proofs
set_option maxRecDepth 10000

theorem rfits_any (a b : V3) (r : Bool) (hr : vfits a b = r) : CallOK Tryz.prog 27 [a.av, b.av] [] (.ret (.bool r)) [] := by
  unfold vfits at hr
  refine CallOK.to (E := E) (fn := Tryz.f27) (g := .pure _) (by rfl) (by rfl) (by rfl) (fun _ _ => by rfl) (by decide +kernel) (by rfl) (by rfl) (by rfl) fun _ => ?_
  repeat' first
    | (refine goes hE 100 ?_; conv => whnf)
    | exact hr
    | refine And.intro (fun _ => ?_) (fun h => absurd (show true = false from h) (by decide))
    | refine And.intro (fun h => absurd (show false = true from h) (by decide)) (fun _ => ?_)
    | refine And.intro (fun h => ?_) (fun h => ?_)
    | refine Or.inl (And.intro (And.intro (by simp only [kmin]; omega) (by simp only [kmax]; omega)) ?_)
    | refine Exists.intro _ (And.intro rfl ?_)
    | refine And.intro (by decide) ?_
  all_goals (rw [← hr]; simp_all)
theorem rfits_ok (a b : V3) : CallOK Tryz.prog 27 [a.av, b.av] [] (.ret (.bool (vfits a b))) [] := rfits_any a b _ rfl
def zB (v : V3) : Bool := v.a == 0 && (v.b == 0 && (v.c == 0 && true))
def badN (i : Nat) (x : Nod) : Prop := (i = 0 ∧ x.p ≠ -1) ∨ (0 < i ∧ (x.p < 0 ∨ (i : Int) ≤ x.p)) ∨ x.w < 1 ∨ 1000 < x.w
instance (i : Nat) (x : Nod) : Decidable (badN i x) := by unfold badN; infer_instance
def nodeX (bl : Bool) (i : Nat) (x : Nod) : Bool := if badN i x then false else if bl = true then validB x.n && (validB x.b && (validB x.l && vfits x.l x.n)) else zB x.n && (zB x.b && zB x.l)
theorem node_bad (c : Con) (i : Nat) (x : Nod) (hx : (nav c.ns)[i]? = some x.av) (hb : badN i x) : CallOK Tryz.prog 98 [c.av, ii i] [] (.ret (.bool false)) [] := by
  unfold badN at hb
  refine CallOK.to (E := E) (fn := Tryz.f98) (g := .pure _) (by rfl) (by rfl) (by rfl) (fun _ _ => by rfl) (by decide +kernel) (by rfl) (by rfl) (by rfl) fun _ => ?_
  repeat' first
    | (refine goes hE 100 ?_; conv => whnf)
    | exact rfl
    | refine Exists.intro i (And.intro rfl ?_)
    | refine Exists.intro _ (And.intro hx ?_)
    | refine And.intro (fun _ => ?_) (fun h => absurd (show true = false from h) (by decide))
    | refine And.intro (fun h => absurd (show false = true from h) (by decide)) (fun _ => ?_)
    | refine And.intro (fun h => absurd (of_decide_eq_true h) (by omega)) (fun h => ?_)
    | refine And.intro (fun h => ?_) (fun h => absurd (of_decide_eq_false h) (by omega))
    | refine And.intro (fun h => ?_) (fun h => ?_)
  all_goals (exfalso; simp at *; omega)
theorem node_leaf (c : Con) (i : Nat) (x : Nod) (hx : (nav c.ns)[i]? = some x.av) (hb : ¬ badN i x) (b1 b2 b3 b4 : Bool) (hl : CallOK Tryz.prog 59 [c.av, ii i] [] (.ret (.bool true)) [])
    (v1 : CallOK Tryz.prog 58 [x.n.av] [] (.ret (.bool b1)) []) (v2 : CallOK Tryz.prog 58 [x.b.av] [] (.ret (.bool b2)) []) (v3 : CallOK Tryz.prog 58 [x.l.av] [] (.ret (.bool b3)) [])
    (v4 : CallOK Tryz.prog 27 [x.l.av, x.n.av] [] (.ret (.bool b4)) []) : CallOK Tryz.prog 98 [c.av, ii i] [] (.ret (.bool (b1 && (b2 && (b3 && b4))))) [] := by
  unfold badN at hb
  refine CallOK.to (E := E) (fn := Tryz.f98) (g := .pure _) (by rfl) (by rfl) (by rfl) (fun _ _ => by rfl) (by decide +kernel) (by rfl) (by rfl) (by rfl) fun _ => ?_
  repeat' first
    | (refine goes hE 100 ?_; conv => whnf)
    | exact rfl
    | refine .pure _ [] hl ?_
    | refine .pure _ [] v1 ?_
    | refine .pure _ [] v2 ?_
    | refine .pure _ [] v3 ?_
    | refine .pure _ [] v4 ?_
    | refine Exists.intro i (And.intro rfl ?_)
    | refine Exists.intro _ (And.intro hx ?_)
    | refine And.intro (fun _ => ?_) (fun h => absurd (show true = false from h) (by decide))
    | refine And.intro (fun h => absurd (show false = true from h) (by decide)) (fun _ => ?_)
    | refine And.intro (fun h => absurd (of_decide_eq_true h) (by omega)) (fun h => ?_)
    | refine And.intro (fun h => ?_) (fun h => absurd (of_decide_eq_false h) (by omega))
    | refine And.intro (fun h => ?_) (fun h => ?_)
  all_goals first
    | (simp only [*, Bool.true_and, Bool.false_and, Bool.and_false]; done)
    | (exfalso; simp at *; omega)
theorem node_inner (c : Con) (i : Nat) (x : Nod) (hx : (nav c.ns)[i]? = some x.av) (hb : ¬ badN i x) (hl : CallOK Tryz.prog 59 [c.av, ii i] [] (.ret (.bool false)) []) : CallOK Tryz.prog 98 [c.av, ii i] [] (.ret (.bool (zB x.n && (zB x.b && zB x.l)))) [] := by
  unfold badN at hb
  unfold zB
  refine CallOK.to (E := E) (fn := Tryz.f98) (g := .pure _) (by rfl) (by rfl) (by rfl) (fun _ _ => by rfl) (by decide +kernel) (by rfl) (by rfl) (by rfl) fun _ => ?_
  repeat' first
    | (refine goes hE 100 ?_; conv => whnf)
    | exact rfl
    | refine .pure _ [] hl ?_
    | refine Exists.intro i (And.intro rfl ?_)
    | refine Exists.intro _ (And.intro hx ?_)
    | refine And.intro (fun _ => ?_) (fun h => absurd (show true = false from h) (by decide))
    | refine And.intro (fun h => absurd (show false = true from h) (by decide)) (fun _ => ?_)
    | refine And.intro (fun h => absurd (of_decide_eq_true h) (by omega)) (fun h => ?_)
    | refine And.intro (fun h => ?_) (fun h => absurd (of_decide_eq_false h) (by omega))
    | refine And.intro (fun h => ?_) (fun h => ?_)
  all_goals first
    | (simp only [*, Bool.true_and, Bool.false_and, Bool.and_false]; done)
    | (exfalso; simp at *; omega)
theorem node_ok (c : Con) (hc : c.sm) (i : Nat) (x : Nod) (hx : (nav c.ns)[i]? = some x.av) : CallOK Tryz.prog 98 [c.av, ii i] [] (.ret (.bool (nodeX (rlB c.ns i) i x))) [] := by
  have hl := rleaf_ok c hc i
  unfold nodeX
  by_cases hb : badN i x
  · rw [if_pos hb]; exact node_bad c i x hx hb
  · rw [if_neg hb]
    cases hq : rlB c.ns i with
    | true =>
      rw [hq] at hl
      rw [if_pos rfl]
      exact node_leaf c i x hx hb _ _ _ _ hl (valid_ok x.n) (valid_ok x.b) (valid_ok x.l) (rfits_ok x.l x.n)
    | false =>
      rw [hq] at hl
      rw [if_neg (by decide)]
      exact node_inner c i x hx hb hl
end Go.Proofs.YtlalcoklkafnnaaGreat

namespace Go.Proofs.YtlalcoklkafnnaaGreat
open Go Go.AW Go.Proofs
set_option maxRecDepth 10000

def badH (x : Hos) : Prop := x.f < 0 ∨ 100 < x.f ∨ x.b < 0 ∨ 100 < x.b ∨ x.r < 0 ∨ 100 < x.r
instance (x : Hos) : Decidable (badH x) := by unfold badH; infer_instance
def hostX (x : Hos) : Bool := if badH x then false else validB x.c
def nodesX (ns : List Nod) : Nat → List Nod → Bool
  | _, [] => true
  | i, x :: r => if nodeX (rlB ns i) i x = true then nodesX ns (i + 1) r else false
def sizB (c : Con) : Prop := (1 ≤ c.ns.length ∧ c.ns.length ≤ 12) ∧ (1 ≤ c.hs.length ∧ c.hs.length ≤ 24) ∧ (1 ≤ c.half ∧ c.half ≤ 1048576) ∧ 0 ≤ c.age ∧ c.age ≤ 1048576
instance (c : Con) : Decidable (sizB c) := by unfold sizB; infer_instance
def checkI (c : Con) : Int := if sizB c then (if nodesX c.ns 0 c.ns = true then (if c.hs.all hostX = true then 0 else 2) else 2) else 2
noncomputable abbrev fCheck : Func := Tryz.f57
theorem check_hosts (c : Con) (hc : c.sm) (r : Int) : ∀ (m i : Nat), i + m = c.hs.length → (if (c.hs.drop i).all hostX = true then (0 : Int) else 2) = r →
    To E fCheck (.pure (.ret (ii r))) (.head (stk fCheck 1) [(1, .ref 0 0), (4, ii i)] [.cells 25 c.cs]) := by
  have hlen : (hav c.hs).length = c.hs.length := by simp
  have h1 := hc.hs
  intro m
  induction m with
  | zero =>
    intro i hi hr
    rw [List.drop_eq_nil_of_le (by omega)] at hr
    have hr : 0 = r := hr
    subst hr
    refine goes hE 100 ?_
    conv => whnf
    refine And.intro (fun h => absurd (of_decide_eq_true h) (by omega)) (fun h => ?_)
    repeat' first
      | (refine goN hE 100 rfl ?_; conv => whnf)
      | exact rfl
      | refine And.intro (fun _ => ?_) (fun h => absurd (show true = false from h) (by decide))
      | refine And.intro (fun h => absurd (show false = true from h) (by decide)) (fun _ => ?_)
      | refine And.intro (fun h => ?_) (fun h => absurd (of_decide_eq_false h) (by omega))
      | refine And.intro (fun h => absurd (of_decide_eq_true h) (by omega)) (fun h => ?_)
      | refine And.intro (fun h => ?_) (fun h => ?_)
      | refine Or.inl (And.intro (And.intro (by simp only [kmin]; omega) (by simp only [kmax]; omega)) ?_)
      | refine Exists.intro _ (And.intro rfl ?_)
      | refine And.intro (by decide) ?_
      | refine And.intro (by omega) ?_
      | fail
  | succ m ih =>
    intro i hi hr
    have hlt : i < c.hs.length := by omega
    rw [List.drop_eq_getElem_cons hlt, List.all_cons] at hr
    have get := hav_get hlt
    generalize c.hs[i] = x at hr get
    have ih := ih (i + 1) (by omega)
    have hv := valid_ok x.c
    unfold hostX at hr
    generalize validB x.c = b at hv hr
    by_cases hb : badH x
    · rw [if_pos hb] at hr
      have hr : 2 = r := hr
      subst hr
      unfold badH at hb
      refine goes hE 100 ?_
      conv => whnf
      refine And.intro (fun h => ?_) (fun h => absurd (of_decide_eq_false h) (by omega))
      repeat' first
        | (refine goN hE 100 rfl ?_; conv => whnf)
        | exact rfl
        | refine Exists.intro i (And.intro rfl ?_)
        | refine Exists.intro _ (And.intro get ?_)
        | refine And.intro (fun _ => ?_) (fun h => absurd (show true = false from h) (by decide))
        | refine And.intro (fun h => absurd (show false = true from h) (by decide)) (fun _ => ?_)
        | refine And.intro (fun h => absurd (of_decide_eq_true h) (by omega)) (fun h => ?_)
        | refine And.intro (fun h => ?_) (fun h => absurd (of_decide_eq_false h) (by omega))
        | refine And.intro (fun h => ?_) (fun h => ?_)
      all_goals (exfalso; simp at *; omega)
    · rw [if_neg hb] at hr
      unfold badH at hb
      cases b with
      | false =>
        have hr : 2 = r := hr
        subst hr
        refine goes hE 100 ?_
        conv => whnf
        refine And.intro (fun h => ?_) (fun h => absurd (of_decide_eq_false h) (by omega))
        repeat' first
          | (refine goN hE 100 rfl ?_; conv => whnf)
          | refine Exists.intro i (And.intro rfl ?_)
          | refine Exists.intro _ (And.intro get ?_)
          | refine .pure _ [] hv ?_
          | exact rfl
          | refine And.intro (fun _ => ?_) (fun h => absurd (show true = false from h) (by decide))
          | refine And.intro (fun h => absurd (show false = true from h) (by decide)) (fun _ => ?_)
          | refine And.intro (fun h => ?_) (fun h => absurd (of_decide_eq_false h) (by omega))
          | refine And.intro (fun h => absurd (of_decide_eq_true h) (by omega)) (fun h => ?_)
          | refine And.intro (fun h => ?_) (fun h => ?_)
          | refine Or.inl (And.intro (And.intro (by simp only [kmin]; omega) (by simp only [kmax]; omega)) ?_)
          | refine Exists.intro _ (And.intro rfl ?_)
          | refine And.intro (by decide) ?_
          | refine And.intro (by omega) ?_
          | fail
      | true =>
        have ih := ih hr
        refine goes hE 100 ?_
        conv => whnf
        refine And.intro (fun h => ?_) (fun h => absurd (of_decide_eq_false h) (by omega))
        repeat' first
          | (refine goN hE 100 rfl ?_; conv => whnf)
          | refine Exists.intro i (And.intro rfl ?_)
          | refine Exists.intro _ (And.intro get ?_)
          | refine .pure _ [] hv ?_
          | exact rfl
          | refine And.intro (fun _ => ?_) (fun h => absurd (show true = false from h) (by decide))
          | refine And.intro (fun h => absurd (show false = true from h) (by decide)) (fun _ => ?_)
          | refine And.intro (fun h => ?_) (fun h => absurd (of_decide_eq_false h) (by omega))
          | refine And.intro (fun h => absurd (of_decide_eq_true h) (by omega)) (fun h => ?_)
          | refine And.intro (fun h => ?_) (fun h => ?_)
          | refine Or.inl (And.intro (And.intro (by simp only [kmin]; omega) (by simp only [kmax]; omega)) ?_)
          | refine Exists.intro _ (And.intro rfl ?_)
          | refine And.intro (by decide) ?_
          | refine And.intro (by omega) ?_
          | fail
        exact To.cut [1, 4] 1 rfl rfl rfl rfl ih
theorem check_nodes (c : Con) (hc : c.sm) (r : Int) : ∀ (m i : Nat), i + m = c.ns.length → (if nodesX c.ns i (c.ns.drop i) = true then (if c.hs.all hostX = true then (0 : Int) else 2) else 2) = r →
    To E fCheck (.pure (.ret (ii r))) (.head (stk fCheck 0) [(1, .ref 0 0), (3, ii i)] [.cells 25 c.cs]) := by
  have hlen : (nav c.ns).length = c.ns.length := by simp
  have h1 := hc.ns
  intro m
  induction m with
  | zero =>
    intro i hi hr
    rw [List.drop_eq_nil_of_le (by omega)] at hr
    have hr : (if c.hs.all hostX = true then (0 : Int) else 2) = r := hr
    refine goes hE 100 ?_
    conv => whnf
    refine And.intro (fun h => absurd (of_decide_eq_true h) (by omega)) (fun h => ?_)
    repeat' first
      | (refine goN hE 100 rfl ?_; conv => whnf)
      | exact rfl
      | refine And.intro (fun _ => ?_) (fun h => absurd (show true = false from h) (by decide))
      | refine And.intro (fun h => absurd (show false = true from h) (by decide)) (fun _ => ?_)
      | refine And.intro (fun h => ?_) (fun h => absurd (of_decide_eq_false h) (by omega))
      | refine And.intro (fun h => absurd (of_decide_eq_true h) (by omega)) (fun h => ?_)
      | refine And.intro (fun h => ?_) (fun h => ?_)
      | refine Or.inl (And.intro (And.intro (by simp only [kmin]; omega) (by simp only [kmax]; omega)) ?_)
      | refine Exists.intro _ (And.intro rfl ?_)
      | refine And.intro (by decide) ?_
      | refine And.intro (by omega) ?_
      | fail
    exact To.cut [1, 4] 1 rfl rfl rfl rfl (check_hosts c hc r c.hs.length 0 (by omega) hr)
  | succ m ih =>
    intro i hi hr
    have hlt : i < c.ns.length := by omega
    rw [List.drop_eq_getElem_cons hlt] at hr
    have hn := node_ok c hc i _ (nav_get hlt)
    unfold nodesX at hr
    have ih := ih (i + 1) (by omega)
    generalize nodeX (rlB c.ns i) i c.ns[i] = b at hr hn
    cases b with
    | false =>
      have hr : 2 = r := hr
      subst hr
      refine goes hE 100 ?_
      conv => whnf
      refine And.intro (fun h => ?_) (fun h => absurd (of_decide_eq_false h) (by omega))
      repeat' first
        | (refine goN hE 100 rfl ?_; conv => whnf)
        | refine .pure _ [] hn ?_
        | exact rfl
        | refine And.intro (fun _ => ?_) (fun h => absurd (show true = false from h) (by decide))
        | refine And.intro (fun h => absurd (show false = true from h) (by decide)) (fun _ => ?_)
        | refine And.intro (fun h => ?_) (fun h => absurd (of_decide_eq_false h) (by omega))
        | refine And.intro (fun h => absurd (of_decide_eq_true h) (by omega)) (fun h => ?_)
        | refine And.intro (fun h => ?_) (fun h => ?_)
        | refine Or.inl (And.intro (And.intro (by simp only [kmin]; omega) (by simp only [kmax]; omega)) ?_)
        | refine Exists.intro _ (And.intro rfl ?_)
        | refine And.intro (by decide) ?_
        | refine And.intro (by omega) ?_
        | fail
    | true =>
      rw [if_pos (show true = true from rfl)] at hr
      have ih := ih hr
      refine goes hE 100 ?_
      conv => whnf
      refine And.intro (fun h => ?_) (fun h => absurd (of_decide_eq_false h) (by omega))
      repeat' first
        | (refine goN hE 100 rfl ?_; conv => whnf)
        | refine .pure _ [] hn ?_
        | exact rfl
        | refine And.intro (fun _ => ?_) (fun h => absurd (show true = false from h) (by decide))
        | refine And.intro (fun h => absurd (show false = true from h) (by decide)) (fun _ => ?_)
        | refine And.intro (fun h => ?_) (fun h => absurd (of_decide_eq_false h) (by omega))
        | refine And.intro (fun h => absurd (of_decide_eq_true h) (by omega)) (fun h => ?_)
        | refine And.intro (fun h => ?_) (fun h => ?_)
        | refine Or.inl (And.intro (And.intro (by simp only [kmin]; omega) (by simp only [kmax]; omega)) ?_)
        | refine Exists.intro _ (And.intro rfl ?_)
        | refine And.intro (by decide) ?_
        | refine And.intro (by omega) ?_
        | fail
      exact To.cut [1, 3] 1 rfl rfl rfl rfl ih
theorem check_any (c : Con) (hc : c.sm) (r : Int) (hr : checkI c = r) : CallOK Tryz.prog 57 [c.av] [] (.ret (ii r)) [] := by
  have hln : (nav c.ns).length = c.ns.length := by simp
  have hlh : (hav c.hs).length = c.hs.length := by simp
  unfold checkI at hr
  by_cases hb : sizB c
  · rw [if_pos hb] at hr
    unfold sizB at hb
    refine CallOK.to (E := E) (fn := Tryz.f57) (g := .pure _) (by rfl) (by rfl) (by rfl) (fun _ _ => by rfl) (by decide +kernel) (by rfl) (by rfl) (by rfl) fun _ => ?_
    repeat' first
      | (refine goN hE 100 rfl ?_; conv => whnf)
      | exact rfl
      | refine And.intro (fun _ => ?_) (fun h => absurd (show true = false from h) (by decide))
      | refine And.intro (fun h => absurd (show false = true from h) (by decide)) (fun _ => ?_)
      | refine And.intro (fun h => ?_) (fun h => absurd (of_decide_eq_false h) (by omega))
      | refine And.intro (fun h => absurd (of_decide_eq_true h) (by omega)) (fun h => ?_)
      | refine And.intro (fun h => ?_) (fun h => ?_)
      | refine Or.inl (And.intro (And.intro (by simp only [kmin]; omega) (by simp only [kmax]; omega)) ?_)
      | refine Exists.intro _ (And.intro rfl ?_)
      | refine And.intro (by decide) ?_
      | refine And.intro (by omega) ?_
      | fail
    exact To.cut [1, 3] 1 rfl rfl rfl rfl (check_nodes c hc r c.ns.length 0 (by omega) hr)
  · rw [if_neg hb] at hr
    subst hr
    unfold sizB at hb
    refine CallOK.to (E := E) (fn := Tryz.f57) (g := .pure _) (by rfl) (by rfl) (by rfl) (fun _ _ => by rfl) (by decide +kernel) (by rfl) (by rfl) (by rfl) fun _ => ?_
    repeat' first
      | (refine goN hE 100 rfl ?_; conv => whnf)
      | exact rfl
      | refine And.intro (fun _ => ?_) (fun h => absurd (show true = false from h) (by decide))
      | refine And.intro (fun h => absurd (show false = true from h) (by decide)) (fun _ => ?_)
      | refine And.intro (fun h => absurd (of_decide_eq_true h) (by omega)) (fun h => ?_)
      | refine And.intro (fun h => ?_) (fun h => absurd (of_decide_eq_false h) (by omega))
      | refine And.intro (fun h => ?_) (fun h => ?_)
    all_goals (exfalso; simp at *; omega)
theorem check_ok (c : Con) (hc : c.sm) : CallOK Tryz.prog 57 [c.av] [] (.ret (ii (checkI c))) [] := check_any c hc _ rfl
end Go.Proofs.YtlalcoklkafnnaaGreat

namespace Go.Proofs.YtlalcoklkafnnaaGreat
open Go Go.AW Go.Proofs
set_option maxRecDepth 10000

def hostsX (n : Nat) (l : List Int) : Bool := l.all fun h => decide (0 ≤ h ∧ h < (n : Int))
def badR (c : Con) (now : Int) (x : Rn) : Prop := gangI c.ns x.g = 0 ∨ x.st < 0 ∨ now < x.st ∨ (x.hs.length : Int) ≠ x.g.pods
instance (c : Con) (now : Int) (x : Rn) : Decidable (badR c now x) := by unfold badR; infer_instance
def runX (c : Con) (now : Int) (x : Rn) : Bool := if badR c now x then false else hostsX c.hs.length x.hs
def badF (c : Con) (now : Int) (l : List Rn) : Prop := checkI c ≠ 0 ∨ 32 < l.length ∨ now < 0 ∨ 1099511627776 < now
instance (c : Con) (now : Int) (l : List Rn) : Decidable (badF c now l) := by unfold badF; infer_instance
def fewI (c : Con) (now : Int) (l : List Rn) : Int := if badF c now l then 0 else if l.all (runX c now) = true then 1 else 0
noncomputable abbrev fFew : Func := Tryz.f18
theorem few_in (c : Con) (hc : c.sm) (now : Int) (l : List Rn) (x : Rn) (hxl : x.hs.length ≤ 1048576) (r : Int) (j : Nat) (hj : j < 1048576) :
    ∀ (m i : Nat), i + m = x.hs.length → (hostsX c.hs.length (x.hs.drop i) = false → r = 0) → (hostsX c.hs.length (x.hs.drop i) = true → To E fFew (.pure (.ret (ii r))) (.head (stk fFew 0) [(1, ii now), (2, .slice 14 (rav l) .no), (3, .ref 0 0), (7, ii ((j : Int) + 1))] [.cells 25 c.cs])) →
    To E fFew (.pure (.ret (ii r))) (.head (stk fFew 1) [(1, ii now), (2, .slice 14 (rav l) .no), (3, .ref 0 0), (7, ii j), (8, .ref 1 0), (9, ii i)] [.cells 25 c.cs, .cells 43 x.cs]) := by
  have hlen : (iv x.hs).length = x.hs.length := by simp
  have hhl : (hav c.hs).length = c.hs.length := by simp
  have h1 := hc.hs
  intro m
  induction m with
  | zero =>
    intro i hi hn hy
    rw [List.drop_eq_nil_of_le (by omega)] at hy
    have hy := hy rfl
    refine goes hE 100 ?_
    conv => whnf
    refine And.intro (fun h => absurd (of_decide_eq_true h) (by omega)) (fun h => ?_)
    repeat' first
      | (refine goN hE 100 rfl ?_; conv => whnf)
      | exact rfl
      | refine And.intro (fun _ => ?_) (fun h => absurd (show true = false from h) (by decide))
      | refine And.intro (fun h => absurd (show false = true from h) (by decide)) (fun _ => ?_)
      | refine And.intro (fun h => ?_) (fun h => absurd (of_decide_eq_false h) (by omega))
      | refine And.intro (fun h => absurd (of_decide_eq_true h) (by omega)) (fun h => ?_)
      | refine And.intro (fun h => ?_) (fun h => ?_)
      | refine Or.inl (And.intro (And.intro (by simp only [kmin]; omega) (by simp only [kmax]; omega)) ?_)
      | refine Exists.intro _ (And.intro rfl ?_)
      | refine And.intro (by decide) ?_
      | refine And.intro (by omega) ?_
      | fail
    exact To.cut [1, 2, 3, 7] 1 rfl rfl rfl rfl hy
  | succ m ih =>
    intro i hi hn hy
    have hlt : i < x.hs.length := by omega
    rw [List.drop_eq_getElem_cons hlt] at hn hy
    have get := iv_get hlt
    generalize x.hs[i] = u at hn hy get
    have ih := ih (i + 1) (by omega)
    unfold hostsX at hn hy
    rw [List.all_cons] at hn hy
    by_cases hb : 0 ≤ u ∧ u < (c.hs.length : Int)
    · rw [decide_eq_true hb] at hn hy
      have next := ih hn hy
      refine goes hE 100 ?_
      conv => whnf
      refine And.intro (fun h => ?_) (fun h => absurd (of_decide_eq_false h) (by omega))
      repeat' first
        | (refine goN hE 100 rfl ?_; conv => whnf)
        | refine Exists.intro i (And.intro rfl ?_)
        | refine Exists.intro _ (And.intro get ?_)
        | exact rfl
        | refine And.intro (fun _ => ?_) (fun h => absurd (show true = false from h) (by decide))
        | refine And.intro (fun h => absurd (show false = true from h) (by decide)) (fun _ => ?_)
        | refine And.intro (fun h => ?_) (fun h => absurd (of_decide_eq_false h) (by omega))
        | refine And.intro (fun h => absurd (of_decide_eq_true h) (by omega)) (fun h => ?_)
        | refine And.intro (fun h => ?_) (fun h => ?_)
        | refine Or.inl (And.intro (And.intro (by simp only [kmin]; omega) (by simp only [kmax]; omega)) ?_)
        | refine Exists.intro _ (And.intro rfl ?_)
        | refine And.intro (by decide) ?_
        | refine And.intro (by omega) ?_
        | fail
      exact To.cut [1, 2, 3, 7, 8, 9] 2 rfl rfl rfl rfl next
    · rw [decide_eq_false hb] at hn
      have hr := hn rfl
      subst hr
      refine goes hE 100 ?_
      conv => whnf
      refine And.intro (fun h => ?_) (fun h => absurd (of_decide_eq_false h) (by omega))
      repeat' first
        | (refine goN hE 100 rfl ?_; conv => whnf)
        | exact rfl
        | refine Exists.intro i (And.intro rfl ?_)
        | refine Exists.intro _ (And.intro get ?_)
        | refine And.intro (fun _ => ?_) (fun h => absurd (show true = false from h) (by decide))
        | refine And.intro (fun h => absurd (show false = true from h) (by decide)) (fun _ => ?_)
        | refine And.intro (fun h => absurd (of_decide_eq_true h) (by omega)) (fun h => ?_)
        | refine And.intro (fun h => ?_) (fun h => absurd (of_decide_eq_false h) (by omega))
        | refine And.intro (fun h => ?_) (fun h => ?_)
      all_goals (exfalso; simp at *; omega)
theorem few_out (c : Con) (hc : c.sm) (now : Int) (l : List Rn) (hs : Sm l) (r : Int) : ∀ (m i : Nat), i + m = l.length → (if (l.drop i).all (runX c now) = true then (1 : Int) else 0) = r →
    To E fFew (.pure (.ret (ii r))) (.head (stk fFew 0) [(1, ii now), (2, .slice 14 (rav l) .no), (3, .ref 0 0), (7, ii i)] [.cells 25 c.cs]) := by
  have hlen : (rav l).length = l.length := by simp
  have h1 := hs.1
  intro m
  induction m with
  | zero =>
    intro i hi hr
    rw [List.drop_eq_nil_of_le (by omega)] at hr
    have hr : 1 = r := hr
    subst hr
    refine goes hE 100 ?_
    conv => whnf
    refine And.intro (fun h => absurd (of_decide_eq_true h) (by omega)) (fun h => ?_)
    repeat' first
      | (refine goN hE 100 rfl ?_; conv => whnf)
      | exact rfl
      | refine And.intro (fun _ => ?_) (fun h => absurd (show true = false from h) (by decide))
      | refine And.intro (fun h => absurd (show false = true from h) (by decide)) (fun _ => ?_)
      | refine And.intro (fun h => ?_) (fun h => absurd (of_decide_eq_false h) (by omega))
      | refine And.intro (fun h => absurd (of_decide_eq_true h) (by omega)) (fun h => ?_)
      | refine And.intro (fun h => ?_) (fun h => ?_)
      | refine Or.inl (And.intro (And.intro (by simp only [kmin]; omega) (by simp only [kmax]; omega)) ?_)
      | refine Exists.intro _ (And.intro rfl ?_)
      | refine And.intro (by decide) ?_
      | refine And.intro (by omega) ?_
      | fail
  | succ m ih =>
    intro i hi hr
    have hlt : i < l.length := by omega
    have hb1 := hs.at hlt
    rw [List.drop_eq_getElem_cons hlt, List.all_cons] at hr
    have get := rav_get hlt
    generalize l[i] = x at hr get hb1
    have ih := ih (i + 1) (by omega)
    have hgg := gang_ok c hc x.g
    have hxl : (iv x.hs).length = x.hs.length := by simp
    unfold runX at hr
    by_cases hb : badR c now x
    · rw [if_pos hb] at hr
      have hr : 0 = r := hr
      subst hr
      unfold badR at hb
      generalize gangI c.ns x.g = gi at hb hgg
      refine goes hE 100 ?_
      conv => whnf
      refine And.intro (fun h => ?_) (fun h => absurd (of_decide_eq_false h) (by omega))
      repeat' first
        | (refine goN hE 100 rfl ?_; conv => whnf)
        | exact rfl
        | refine .pure _ [] hgg ?_
        | refine Exists.intro i (And.intro rfl ?_)
        | refine Exists.intro _ (And.intro get ?_)
        | refine And.intro (fun _ => ?_) (fun h => absurd (show true = false from h) (by decide))
        | refine And.intro (fun h => absurd (show false = true from h) (by decide)) (fun _ => ?_)
        | refine And.intro (fun h => absurd (of_decide_eq_true h) (by omega)) (fun h => ?_)
        | refine And.intro (fun h => ?_) (fun h => absurd (of_decide_eq_false h) (by omega))
        | refine And.intro (fun h => ?_) (fun h => ?_)
      all_goals (exfalso; simp at *; omega)
    · rw [if_neg hb] at hr
      unfold badR at hb
      generalize gangI c.ns x.g = gi at hb hgg
      have hgi : (gi == 0) = false := by simp; omega
      have hpl : ((x.hs.length : Int) != x.g.pods) = false := by simp; omega
      have hin := few_in c hc now l x hb1 r i (by omega) x.hs.length 0 (by omega) (fun h => by
        have h : hostsX c.hs.length x.hs = false := h
        rw [h] at hr
        exact hr.symm) (fun h => by
        have h : hostsX c.hs.length x.hs = true := h
        rw [h] at hr
        exact ih hr)
      refine goes hE 100 ?_
      conv => whnf
      refine And.intro (fun h => ?_) (fun h => absurd (of_decide_eq_false h) (by omega))
      repeat' first
        | (refine goN hE 100 rfl ?_; conv => whnf)
        | refine .pure _ [] hgg ?_
        | refine Exists.intro i (And.intro rfl ?_)
        | refine Exists.intro _ (And.intro get ?_)
        | refine And.intro (fun _ => ?_) (fun h => absurd (show true = false from h) (by decide))
        | refine And.intro (fun h => absurd (show false = true from h) (by decide)) (fun _ => ?_)
        | refine And.intro (fun h => absurd (of_decide_eq_true h) (by omega)) (fun h => ?_)
        | refine And.intro (fun h => ?_) (fun h => absurd (of_decide_eq_false h) (by omega))
        | refine And.intro (fun h => absurd (show (gi == 0) = true from h) (by rw [hgi]; decide)) (fun h => ?_)
        | refine And.intro (fun h => absurd h (by rw [hxl, hpl]; decide)) (fun h => ?_)
      all_goals exact To.cut [1, 2, 3, 7, 8, 9] 2 rfl rfl rfl rfl hin
theorem few_any (c : Con) (hc : c.sm) (now : Int) (l : List Rn) (hs : Sm l) (r : Int) (hr : fewI c now l = r) : CallOK Tryz.prog 18 [c.av, ii now, .slice 14 (rav l) .no] [] (.ret (ii r)) [] := by
  have hlen : (rav l).length = l.length := by simp
  have hck := check_ok c hc
  unfold fewI at hr
  by_cases hb : badF c now l
  · rw [if_pos hb] at hr
    subst hr
    unfold badF at hb
    generalize checkI c = k at hb hck
    refine CallOK.to (E := E) (fn := Tryz.f18) (g := .pure _) (by rfl) (by rfl) (by rfl) (fun _ _ => by rfl) (by decide +kernel) (by rfl) (by rfl) (by rfl) fun _ => ?_
    repeat' first
      | (refine goN hE 100 rfl ?_; conv => whnf)
      | exact rfl
      | refine .pure _ [] hck ?_
      | refine And.intro (fun _ => ?_) (fun h => absurd (show true = false from h) (by decide))
      | refine And.intro (fun h => absurd (show false = true from h) (by decide)) (fun _ => ?_)
      | refine And.intro (fun h => absurd (of_decide_eq_true h) (by omega)) (fun h => ?_)
      | refine And.intro (fun h => ?_) (fun h => absurd (of_decide_eq_false h) (by omega))
      | refine And.intro (fun h => ?_) (fun h => ?_)
    all_goals (exfalso; simp at *; omega)
  · rw [if_neg hb] at hr
    unfold badF at hb
    generalize checkI c = k at hb hck
    have hk : (k != 0) = false := by simp; omega
    refine CallOK.to (E := E) (fn := Tryz.f18) (g := .pure _) (by rfl) (by rfl) (by rfl) (fun _ _ => by rfl) (by decide +kernel) (by rfl) (by rfl) (by rfl) fun _ => ?_
    repeat' first
      | (refine goN hE 100 rfl ?_; conv => whnf)
      | refine .pure _ [] hck ?_
      | refine And.intro (fun _ => ?_) (fun h => absurd (show true = false from h) (by decide))
      | refine And.intro (fun h => absurd (show false = true from h) (by decide)) (fun _ => ?_)
      | refine And.intro (fun h => absurd (of_decide_eq_true h) (by omega)) (fun h => ?_)
      | refine And.intro (fun h => ?_) (fun h => absurd (of_decide_eq_false h) (by omega))
      | refine And.intro (fun h => absurd h (by rw [hk]; decide)) (fun h => ?_)
    all_goals exact To.cut [1, 2, 3, 7] 1 rfl rfl rfl rfl (few_out c hc now l hs r l.length 0 (by omega) hr)
theorem few_ok (c : Con) (hc : c.sm) (now : Int) (l : List Rn) (hs : Sm l) : CallOK Tryz.prog 18 [c.av, ii now, .slice 14 (rav l) .no] [] (.ret (ii (fewI c now l))) [] := few_any c hc now l hs _ rfl
end Go.Proofs.YtlalcoklkafnnaaGreat

namespace Go.Proofs.YtlalcoklkafnnaaGreat
open Go Go.AW Go.Proofs

/-- in order, each once -/
abbrev St (l : List Int) : Prop := l.Pairwise (· < ·)
theorem insU_mem {n x : Int} : ∀ {l : List Int}, x ∈ insU n l ↔ x = n ∨ x ∈ l
  | [] => by simp [insU]
  | y :: r => by
    have ih := insU_mem (n := n) (x := x) (l := r)
    unfold insU
    split
    · simp only [List.mem_cons, ih]
      constructor
      · rintro (h | h | h)
        · exact .inr (.inl h)
        · exact .inl h
        · exact .inr (.inr h)
      · rintro (h | h | h)
        · exact .inr (.inl h)
        · exact .inl h
        · exact .inr (.inr h)
    · split
      · rename_i h
        subst h
        simp only [List.mem_cons]
        constructor
        · rintro (h | h)
          · exact .inl h
          · exact .inr (.inr h)
        · rintro (h | h | h)
          · exact .inl h
          · exact .inl h
          · exact .inr h
      · simp only [List.mem_cons]
theorem insU_st {n : Int} : ∀ {l : List Int}, St l → St (insU n l)
  | [], _ => by simp [insU]
  | y :: r, h => by
    have h' := List.pairwise_cons.1 h
    unfold insU
    split
    · rename_i hy
      refine List.pairwise_cons.2 ⟨fun z hz => ?_, insU_st h'.2⟩
      rcases insU_mem.1 hz with rfl | hz
      · exact hy
      · exact h'.1 z hz
    · split
      · exact h
      · rename_i h1 h2
        refine List.pairwise_cons.2 ⟨fun z hz => ?_, h⟩
        rcases List.mem_cons.1 hz with rfl | hz
        · omega
        · have := h'.1 z hz
          omega
theorem rE_st {now : Int} : ∀ {l : List Rn} {out : List Int}, St out → St (rE now l out)
  | [], _, h => h
  | x :: r, out, h => by
    unfold rE
    split
    · exact rE_st h
    · exact rE_st (insU_st h)
theorem rE_mem {now n : Int} : ∀ {l : List Rn} {out : List Int}, n ∈ rE now l out ↔ n ∈ out ∨ ∃ x ∈ l, endR x = n ∧ now < n
  | [], out => by simp [rE]
  | x :: r, out => by
    unfold rE
    split
    · rename_i h
      rw [rE_mem (l := r)]
      constructor
      · rintro (h1 | ⟨y, hy, h1⟩)
        · exact .inl h1
        · exact .inr ⟨y, List.mem_cons_of_mem _ hy, h1⟩
      · rintro (h1 | ⟨y, hy, h1, h2⟩)
        · exact .inl h1
        · rcases List.mem_cons.1 hy with rfl | hy
          · omega
          · exact .inr ⟨y, hy, h1, h2⟩
    · rename_i h
      rw [rE_mem (l := r), insU_mem]
      constructor
      · rintro ((h1 | h1) | ⟨y, hy, h1⟩)
        · exact .inr ⟨x, by simp, h1.symm, by omega⟩
        · exact .inl h1
        · exact .inr ⟨y, List.mem_cons_of_mem _ hy, h1⟩
      · rintro (h1 | ⟨y, hy, h1, h2⟩)
        · exact .inl (.inr h1)
        · rcases List.mem_cons.1 hy with rfl | hy
          · exact .inl (.inl h1.symm)
          · exact .inr ⟨y, hy, h1, h2⟩
theorem findK_iff {n : Int} : ∀ {l : List Int} {i : Nat}, 0 ≤ findK n l i ↔ n ∈ l
  | [], i => by simp [findK]
  | x :: r, i => by
    unfold findK
    split
    · rename_i h
      have : x = n := by simpa using h
      simp [this]
    · rename_i h
      have : ¬ x = n := by simpa using h
      rw [findK_iff (l := r), List.mem_cons]
      constructor
      · exact .inr
      · rintro (h | h)
        · exact absurd h.symm this
        · exact h
theorem has_iff {l : List Int} {n : Int} : has l n = true ↔ n ∈ l := by
  unfold has
  rw [decide_eq_true_eq, findK_iff]
theorem keysL_mem {now n : Int} : ∀ {l : List Rn} {ks : List Int}, n ∈ keysL now l ks ↔ n ∈ ks ∨ ∃ x ∈ l, endR x = n ∧ now < n
  | [], ks => by simp [keysL]
  | x :: r, ks => by
    unfold keysL
    rw [keysL_mem (l := r)]
    split
    · rename_i h
      simp only [Bool.and_eq_true, decide_eq_true_eq] at h
      simp only [List.mem_append, List.mem_cons, List.not_mem_nil, or_false]
      constructor
      · rintro ((h1 | h1) | ⟨y, hy, h1⟩)
        · exact .inl h1
        · exact .inr ⟨x, .inl rfl, h1.symm, by omega⟩
        · exact .inr ⟨y, .inr hy, h1⟩
      · rintro (h1 | ⟨y, rfl | hy, h1, h2⟩)
        · exact .inl (.inl h1)
        · exact .inl (.inr h1.symm)
        · exact .inr ⟨y, hy, h1, h2⟩
    · rename_i h
      simp only [List.mem_cons]
      constructor
      · rintro (h1 | ⟨y, hy, h1⟩)
        · exact .inl h1
        · exact .inr ⟨y, .inr hy, h1⟩
      · rintro (h1 | ⟨y, rfl | hy, h1, h2⟩)
        · exact .inl h1
        · cases hh : has ks (endR y) with
          | true => exact .inl (h1 ▸ has_iff.1 hh)
          | false =>
            refine absurd ?_ h
            rw [hh, decide_eq_true (by omega)]
            rfl
        · exact .inr ⟨y, hy, h1, h2⟩
theorem keysL_nodup {now : Int} : ∀ {l : List Rn} {ks : List Int}, ks.Nodup → (keysL now l ks).Nodup
  | [], _, h => h
  | x :: r, ks, h => by
    unfold keysL
    split
    · rename_i hc
      refine keysL_nodup ?_
      simp only [Bool.and_eq_true, Bool.not_eq_true'] at hc
      have hn : endR x ∉ ks := fun hm => by
        have := has_iff.2 hm
        rw [this] at hc
        cases hc.2
      exact List.nodup_append.2 ⟨h, by simp, fun a ha b hb => by
        simp only [List.mem_cons, List.not_mem_nil, or_false] at hb
        subst hb
        exact fun e => hn (e ▸ ha)⟩
    · exact keysL_nodup h
theorem sortI_mem {l : List Int} {n : Int} : n ∈ sortI l ↔ n ∈ l := (List.mergeSort_perm l _).mem_iff
theorem sortI_st {l : List Int} (h : l.Nodup) : St (sortI l) := by
  have h1 : (sortI l).Pairwise (fun a b => decide (a ≤ b) = true) := List.pairwise_mergeSort (fun a b c h1 h2 => by simp at *; omega) (fun a b => by simp; omega) l
  have h2 : (sortI l).Nodup := (List.mergeSort_perm l _).nodup_iff.2 h
  exact (h1.and h2).imp fun ⟨a, b⟩ => by simp at a; omega
theorem st_eq : ∀ {a b : List Int}, St a → St b → (∀ x, x ∈ a ↔ x ∈ b) → a = b
  | [], [], _, _, _ => rfl
  | [], y :: s, _, _, h => absurd ((h y).2 (by simp)) (by simp)
  | x :: r, [], _, _, h => absurd ((h x).1 (by simp)) (by simp)
  | x :: r, y :: s, ha, hb, h => by
    have ha' := List.pairwise_cons.1 ha
    have hb' := List.pairwise_cons.1 hb
    have e : x = y := by
      rcases List.mem_cons.1 ((h x).1 (by simp)) with e | h1
      · exact e
      · rcases List.mem_cons.1 ((h y).2 (by simp)) with e | h2
        · exact e.symm
        · have := hb'.1 x h1
          have := ha'.1 y h2
          omega
    subst e
    rw [st_eq ha'.2 hb'.2 fun z => ?_]
    constructor
    · intro hz
      rcases List.mem_cons.1 ((h z).1 (List.mem_cons_of_mem _ hz)) with rfl | h1
      · have := ha'.1 z hz; omega
      · exact h1
    · intro hz
      rcases List.mem_cons.1 ((h z).2 (List.mem_cons_of_mem _ hz)) with rfl | h1
      · have := hb'.1 z hz; omega
      · exact h1
/-- THE PROGRAM's ENDS ARE THE DOCUMENT's -/
theorem endsL_eq (l : List Rn) (now : Int) : endsL l now = rE now l [] := by
  refine st_eq (sortI_st (keysL_nodup (by simp))) (rE_st (by simp)) fun x => ?_
  unfold endsL
  rw [sortI_mem, keysL_mem, rE_mem]
theorem endsL_st (l : List Rn) (now : Int) : St (endsL l now) := by rw [endsL_eq]; exact rE_st (by simp)
theorem endsL_mem {l : List Rn} {now n : Int} : n ∈ endsL l now ↔ ∃ x ∈ l, endR x = n ∧ now < n := by
  rw [endsL_eq, rE_mem]
  simp
theorem rE_len (now : Int) : ∀ (l : List Rn) (out : List Int), (rE now l out).length ≤ out.length + l.length
  | [], out => by simp [rE]
  | x :: r, out => by
    unfold rE
    split
    · have := rE_len now r out
      simp only [List.length_cons]; omega
    · have := rE_len now r (insU (endR x) out)
      have := insU_len (endR x) out
      simp only [List.length_cons]; omega
theorem endsL_len (l : List Rn) (now : Int) : (endsL l now).length ≤ l.length := by
  rw [endsL_eq]
  have := rE_len now l []
  simpa using this

/- ---------- later fewer run ---------- -/
theorem atL_atL (l : List Rn) {a b : Int} (h : a ≤ b) : atL (atL l a) b = atL l b := by
  unfold atL
  rw [List.filter_filter]
  congr 1
  funext x
  by_cases hb : b < endR x
  · rw [decide_eq_true hb, decide_eq_true (show a < endR x by omega)]; rfl
  · rw [decide_eq_false hb, Bool.false_and]
theorem atL_le (l : List Rn) {a b : Int} (h : a ≤ b) : (atL l b).length ≤ (atL l a).length := by
  rw [← atL_atL l h]
  exact List.length_filter_le _ _
theorem atL_none {l : List Rn} {t : Int} : atL l t = [] ↔ ∀ x ∈ l, endR x ≤ t := by
  unfold atL
  rw [List.filter_eq_nil_iff]
  constructor
  · intro h x hx
    have := h x hx
    simp at this
    exact this
  · intro h x hx
    have := h x hx
    simp
    exact this
theorem ends_none {l : List Rn} {a : Int} (h : endsL l a = []) : atL l a = [] := by
  refine atL_none.2 fun x hx => ?_
  refine Int.not_lt.1 fun hlt => ?_
  have : endR x ∈ endsL l a := endsL_mem.2 ⟨x, hx, rfl, hlt⟩
  rw [h] at this
  cases this
theorem st_last {l : List Int} (h : St l) (h0 : 0 < l.length) : ∀ x ∈ l, x ≤ l[l.length - 1] := fun x hx => by
  obtain ⟨i, hi⟩ := List.getElem?_of_mem hx
  have hlt := (List.getElem?_eq_some_iff.1 hi).1
  have hv := (List.getElem?_eq_some_iff.1 hi).2
  rcases Nat.lt_or_ge i (l.length - 1) with h1 | h1
  · have := List.pairwise_iff_getElem.1 h i (l.length - 1) hlt (by omega) h1
    rw [hv] at this
    omega
  · have : i = l.length - 1 := by omega
    subst this
    rw [hv]
    exact Int.le_refl _
theorem ends_last {l : List Rn} {a : Int} (h0 : 0 < (endsL l a).length) : atL l (endsL l a)[(endsL l a).length - 1] = [] := by
  refine atL_none.2 fun x hx => ?_
  have hm := (endsL_mem (l := l) (now := a)).1 (List.getElem_mem (show (endsL l a).length - 1 < (endsL l a).length by omega))
  obtain ⟨_, _, _, hgt⟩ := hm
  by_cases hlt : a < endR x
  · exact st_last (endsL_st l a) h0 _ (endsL_mem.2 ⟨x, hx, rfl, hlt⟩)
  · omega
/-- the last end no later than a tick -/
def fromL (tick : Int) : List Int → Int → Int
  | [], f => f
  | x :: r, f => fromL tick r (if x ≤ tick then x else f)
theorem fromL_spec {tick : Int} : ∀ {e : List Int} {f : Int}, St e → f ≤ tick → (∀ x ∈ e, f < x) → f ≤ fromL tick e f ∧ fromL tick e f ≤ tick ∧ ∀ x ∈ e, x ≤ tick → x ≤ fromL tick e f
  | [], f, _, h, _ => ⟨Int.le_refl _, h, fun x hx => by cases hx⟩
  | y :: r, f, hs, h, hl => by
    have hs' := List.pairwise_cons.1 hs
    unfold fromL
    by_cases hy : y ≤ tick
    · rw [if_pos hy]
      obtain ⟨h1, h2, h3⟩ := fromL_spec (f := y) hs'.2 hy hs'.1
      have := hl y (by simp)
      refine ⟨by omega, h2, fun x hx ht => ?_⟩
      rcases List.mem_cons.1 hx with rfl | hx
      · exact h1
      · exact h3 x hx ht
    · rw [if_neg hy]
      obtain ⟨h1, h2, h3⟩ := fromL_spec (f := f) hs'.2 h fun x hx => hl x (by simp [hx])
      refine ⟨h1, h2, fun x hx ht => ?_⟩
      rcases List.mem_cons.1 hx with rfl | hx
      · omega
      · exact h3 x hx ht
theorem between {l : List Rn} {now tick : Int} (h : now ≤ tick) : atL l (fromL tick (endsL l now) now) = atL l tick := by
  obtain ⟨h1, h2, h3⟩ := fromL_spec (tick := tick) (f := now) (endsL_st l now) h fun x hx => by
    obtain ⟨_, _, _, h⟩ := endsL_mem.1 hx
    exact h
  unfold atL
  refine List.filter_congr fun x hx => ?_
  by_cases ht : tick < endR x
  · rw [decide_eq_true ht, decide_eq_true (by omega)]
  · rw [decide_eq_false ht, decide_eq_false]
    intro hlt
    have := h3 (endR x) (endsL_mem.2 ⟨x, hx, rfl, by omega⟩) (by omega)
    omega
end Go.Proofs.YtlalcoklkafnnaaGreat

namespace Go.Proofs.YtlalcoklkafnnaaGreat
open Go Go.AW

theorem stF_some {c : Con} {l : List Rn} {g : Gan} {t : Int} : ∀ {es : List Int}, stF c l g es = some t → t ∈ es ∧ (fitsL c (atL l t) g).isSome = true ∧ (St es → ∀ u ∈ es, u < t → (fitsL c (atL l u) g).isSome = false)
  | [], h => by cases h
  | e :: r, h => by
    unfold stF at h
    split at h
    · rename_i hf
      cases h
      refine ⟨by simp, hf, fun hs u hu hlt => ?_⟩
      rcases List.mem_cons.1 hu with rfl | hu
      · omega
      · have := (List.pairwise_cons.1 hs).1 u hu
        omega
    · rename_i hf
      obtain ⟨h1, h2, h3⟩ := stF_some h
      refine ⟨by simp [h1], h2, fun hs u hu hlt => ?_⟩
      rcases List.mem_cons.1 hu with rfl | hu
      · simpa using hf
      · exact h3 (List.pairwise_cons.1 hs).2 u hu hlt
theorem stF_none {c : Con} {l : List Rn} {g : Gan} : ∀ {es : List Int}, stF c l g es = none → ∀ u ∈ es, (fitsL c (atL l u) g).isSome = false
  | [], _ => fun u h => by cases h
  | e :: r, h => by
    unfold stF at h
    split at h
    · cases h
    · rename_i hf
      intro u hu
      rcases List.mem_cons.1 hu with rfl | hu
      · simpa using hf
      · exact stF_none h u hu
theorem start_st (l : List Rn) (now : Int) : St (now :: endsL l now) := List.pairwise_cons.2 ⟨fun x hx => by
  obtain ⟨_, _, _, h⟩ := endsL_mem.1 hx
  exact h, endsL_st l now⟩
theorem fromL_mem {tick : Int} : ∀ {e : List Int} {f : Int}, fromL tick e f ∈ f :: e
  | [], f => by simp [fromL]
  | x :: r, f => by
    unfold fromL
    have := fromL_mem (tick := tick) (e := r) (f := if x ≤ tick then x else f)
    rcases List.mem_cons.1 this with h | h
    · rw [h]; split <;> simp
    · simp [h]
/-- FIRST: it fits then, and at no time before -/
theorem start_first {c : Con} {l : List Rn} {g : Gan} {now t : Int} (h : startL c now l g = some t) : now ≤ t ∧ (fitsL c (atL l t) g).isSome = true ∧ ∀ a, now ≤ a → a < t → (fitsL c (atL l a) g).isSome = false := by
  obtain ⟨h1, h2, h3⟩ := stF_some h
  have hst := start_st l now
  refine ⟨?_, h2, fun a ha hlt => ?_⟩
  · rcases List.mem_cons.1 h1 with rfl | h1
    · exact Int.le_refl _
    · exact Int.le_of_lt ((List.pairwise_cons.1 hst).1 t h1)
  · have hb := between (l := l) ha
    obtain ⟨q1, q2, _⟩ := fromL_spec (tick := a) (f := now) (endsL_st l now) ha (List.pairwise_cons.1 hst).1
    have := h3 hst _ fromL_mem (show fromL a (endsL l now) now < t from by omega)
    rwa [hb] at this
/-- SOME: if it can fit at all, there is a start; and it is no later than the last end -/
theorem start_some {c : Con} {l : List Rn} {g : Gan} {now : Int} (hf : (fitsL c [] g).isSome = true) : ∃ t, startL c now l g = some t := by
  cases hs : startL c now l g with
  | some t => exact ⟨t, rfl⟩
  | none =>
    exfalso
    have h := stF_none hs
    by_cases h0 : 0 < (endsL l now).length
    · have := h _ (List.mem_cons_of_mem now (List.getElem_mem (show (endsL l now).length - 1 < (endsL l now).length from by omega)))
      rw [ends_last h0, hf] at this
      cases this
    · have := h now (by simp)
      rw [ends_none (List.eq_nil_of_length_eq_zero (by omega)), hf] at this
      cases this
theorem start_last {c : Con} {l : List Rn} {g : Gan} {now t : Int} (h : startL c now l g = some t) : now ≤ t ∧ t ≤ ((endsL l now)[(endsL l now).length - 1]?).getD now := by
  obtain ⟨h1, _, _⟩ := stF_some h
  refine ⟨(start_first h).1, ?_⟩
  rcases List.mem_cons.1 h1 with rfl | h1
  · by_cases h0 : 0 < (endsL l t).length
    · rw [List.getElem?_eq_getElem (by omega)]
      have := (List.pairwise_cons.1 (start_st l t)).1 _ (List.getElem_mem (show (endsL l t).length - 1 < (endsL l t).length from by omega))
      exact Int.le_of_lt this
    · rw [List.getElem?_eq_none (by omega)]
      exact Int.le_refl _
  · have h0 : 0 < (endsL l now).length := List.length_pos_of_mem h1
    rw [List.getElem?_eq_getElem (by omega)]
    exact st_last (endsL_st l now) h0 t h1
end Go.Proofs.YtlalcoklkafnnaaGreat

namespace Go.Proofs.YtlalcoklkafnnaaGreat
open Go Go.AW Go.Proofs
set_option maxRecDepth 10000

def stCs (c : Con) (now k : Int) (ws : List AVal) (l : List Rn) (zs : List AVal) : List AVal := [.slice 11 (nav c.ns) .no, .slice 6 (hav c.hs) .no, ii c.half, ii c.age, ii now, ii k, .slice 11 ws .no, .slice 14 (rav l) .no, .slice 1 zs .no]
theorem gang_pods {ns : List Nod} {g : Gan} (h : gangI ns g ≠ 0) : 0 ≤ g.pods ∧ g.pods ≤ 16 := by
  unfold gangI at h
  split at h
  · rename_i hb
    unfold gangB at hb
    simp only [Bool.and_eq_true, decide_eq_true_eq] at hb
    omega
  · exact absurd rfl h
end Go.Proofs.YtlalcoklkafnnaaGreat

namespace Go.Proofs.YtlalcoklkafnnaaGreat
open Go Go.AW Go.Proofs
open Go.ChangeShapes Go.WideShapes Go.ChangeAt Go.RowKit
set_option maxRecDepth 100000

theorem bulk_one {H : Type} (d : DataW H) : 1 ≤ Rows.uptoBulk d := by
  cases d with
  | lit l => cases l <;> simp [Rows.uptoBulk]
  | _ => simp [Rows.uptoBulk]
theorem bulk_part {H : Type} {d : DataW H} : ∀ {l : List (DataW H)}, d ∈ l → Rows.uptoBulk d ≤ Rows.uptoBulkAll l
  | [], h => by cases h
  | x :: r, h => by
    simp only [Rows.uptoBulkAll]
    rcases List.mem_cons.1 h with rfl | h
    · omega
    · have := bulk_part h
      omega
theorem bulk_len {H : Type} : ∀ (l : List (DataW H)), l.length ≤ Rows.uptoBulkAll l
  | [] => by simp
  | x :: r => by
    have := bulk_one x
    have := bulk_len r
    simp only [Rows.uptoBulkAll, List.length_cons]
    omega
/-- the bound holds of each part -/
theorem bulkN (H : Type) (N : Nat) : Bulk H N (fun d => Rows.uptoBulk d ≤ N) where
  str l h := by
    simp only [Rows.uptoBulk] at h
    omega
  sl e r h := by
    simp only [Rows.uptoBulk] at h
    have := bulk_len e
    exact ⟨by omega, fun d hd => by have := bulk_part hd; omega⟩
  agg l h := by
    simp only [Rows.uptoBulk] at h
    exact fun d hd => by have := bulk_part hd; omega

section
variable {N : Nat}
theorem tnInt {n : Nat} {cs : List AVal} (h : TyN Tryz.prog N (n + 1) 3 cs) : ∃ m : Int, cs = [ii m] := by
  unfold TyN at h
  rw [Tryz.underlying3] at h
  obtain ⟨m, h, _⟩ := h
  exact ⟨m, h⟩
theorem tnVec {n : Nat} {cs : List AVal} (h : TyN Tryz.prog N (n + 2) 32 cs) : ∃ v : V3, cs = v.cs := by
  unfold TyN at h
  rw [Tryz.underlying32] at h
  obtain ⟨xs, hl, hx, rfl⟩ := h
  match xs, hl, hx with
  | [x, y, z], _, hx =>
    obtain ⟨a, rfl⟩ := tnInt (hx x (by simp))
    obtain ⟨b, rfl⟩ := tnInt (hx y (by simp))
    obtain ⟨c, rfl⟩ := tnInt (hx z (by simp))
    exact ⟨⟨a, b, c⟩, rfl⟩
theorem tnGang {n : Nat} {cs : List AVal} (h : TyN Tryz.prog N (n + 3) 34 cs) : ∃ g : Gan, cs = g.cs := by
  unfold TyN at h
  rw [Tryz.underlying34] at h
  obtain ⟨x0, r, rfl, h0, x1, r, rfl, h1, x2, r, rfl, h2, x3, r, rfl, h3, x4, r, rfl, h4, x5, r, rfl, h5, x6, r, rfl, h6, rfl⟩ := h
  obtain ⟨a0, rfl⟩ := tnInt h0
  obtain ⟨a1, rfl⟩ := tnInt h1
  obtain ⟨a2, rfl⟩ := tnInt h2
  obtain ⟨v, rfl⟩ := tnVec h3
  obtain ⟨a4, rfl⟩ := tnInt h4
  obtain ⟨a5, rfl⟩ := tnInt h5
  obtain ⟨a6, rfl⟩ := tnInt h6
  exact ⟨⟨a0, a1, a2, v, a4, a5, a6⟩, rfl⟩
theorem allsN {α : Type} {av : α → AVal} {P : AVal → Prop} {Q : α → Prop} (hP : ∀ x, P x → ∃ p : α, x = av p ∧ Q p) : ∀ (xs : List AVal), (∀ x ∈ xs, P x) → ∃ l : List α, xs = l.map av ∧ ∀ p ∈ l, Q p
  | [], _ => ⟨[], rfl, fun p h => by cases h⟩
  | x :: xs, h => by
    obtain ⟨p, rfl, hp⟩ := hP x (h x (by simp))
    obtain ⟨l, rfl, hl⟩ := allsN hP xs fun x hx => h x (by simp [hx])
    exact ⟨p :: l, rfl, fun q hq => by
      rcases List.mem_cons.1 hq with rfl | hq
      · exact hp
      · exact hl q hq⟩
theorem tnInts {n : Nat} {cs : List AVal} (h : TyN Tryz.prog N (n + 2) 37 cs) : ∃ l : List Int, cs = [.slice 1 (iv l) .no] ∧ l.length ≤ N := by
  unfold TyN at h
  rw [Tryz.underlying37] at h
  obtain ⟨xs, rfl, hN, hx⟩ := h
  have hc : Tryz.prog.cellsOf 3 = 1 := by kernel_rfl
  have ha : isAggT Tryz.prog 3 = false := by kernel_rfl
  obtain ⟨l, rfl, _⟩ := allsN (av := fun m : Int => ii m) (Q := fun _ => True) (P := fun x => x ∈ xs) (fun x hm => by
    obtain ⟨m, e⟩ := tnInt (n := n) (hx x hm).1
    have e2 := (hx x hm).2.2 ha
    rw [e] at e2
    exact ⟨m, (List.cons.inj e2).1.symm, trivial⟩) xs fun x hm => hm
  exact ⟨l, by rw [hc], by simpa using hN⟩
theorem tnRun {n : Nat} {cs : List AVal} (h : TyN Tryz.prog N (n + 4) 43 cs) : ∃ x : Rn, cs = x.cs ∧ x.hs.length ≤ N := by
  unfold TyN at h
  rw [Tryz.underlying43] at h
  obtain ⟨x0, r, rfl, h0, x1, r, rfl, h1, x2, r, rfl, h2, x3, r, rfl, h3, x4, r, rfl, h4, x5, r, rfl, h5, rfl⟩ := h
  obtain ⟨g, rfl⟩ := tnGang h0
  obtain ⟨a1, rfl⟩ := tnInt h1
  obtain ⟨a2, rfl⟩ := tnInt h2
  obtain ⟨a3, rfl⟩ := tnInt h3
  obtain ⟨a4, rfl⟩ := tnInt h4
  obtain ⟨l, rfl, hl⟩ := tnInts (n := n + 1) h5
  exact ⟨⟨g, a1, a2, a3, a4, l⟩, rfl, hl⟩
end
section
variable {N : Nat}
theorem tnNode {n : Nat} {cs : List AVal} (h : TyN Tryz.prog N (n + 3) 58 cs) : ∃ x : Nod, cs = x.cs := by
  unfold TyN at h
  rw [Tryz.underlying58] at h
  obtain ⟨x0, r, rfl, h0, x1, r, rfl, h1, x2, r, rfl, h2, x3, r, rfl, h3, x4, r, rfl, h4, rfl⟩ := h
  obtain ⟨a0, rfl⟩ := tnInt h0
  obtain ⟨a1, rfl⟩ := tnInt h1
  obtain ⟨u, rfl⟩ := tnVec h2
  obtain ⟨v, rfl⟩ := tnVec h3
  obtain ⟨w, rfl⟩ := tnVec h4
  exact ⟨⟨a0, a1, u, v, w⟩, rfl⟩
theorem tnHost {n : Nat} {cs : List AVal} (h : TyN Tryz.prog N (n + 3) 65 cs) : ∃ x : Hos, cs = x.cs := by
  unfold TyN at h
  rw [Tryz.underlying65] at h
  obtain ⟨x0, r, rfl, h0, x1, r, rfl, h1, x2, r, rfl, h2, x3, r, rfl, h3, rfl⟩ := h
  obtain ⟨a0, rfl⟩ := tnInt h0
  obtain ⟨a1, rfl⟩ := tnInt h1
  obtain ⟨a2, rfl⟩ := tnInt h2
  obtain ⟨v, rfl⟩ := tnVec h3
  exact ⟨⟨a0, a1, a2, v⟩, rfl⟩
theorem tnNodes {n : Nat} {cs : List AVal} (h : TyN Tryz.prog N (n + 4) 22 cs) : ∃ l : List Nod, cs = [.slice 11 (nav l) .no] ∧ l.length ≤ N := by
  unfold TyN at h
  rw [Tryz.underlying22] at h
  obtain ⟨xs, rfl, hN, hx⟩ := h
  have hc : Tryz.prog.cellsOf 58 = 11 := by kernel_rfl
  obtain ⟨l, rfl, hl⟩ := allsN (av := Nod.av) (Q := fun x => True) (P := fun x => x ∈ xs) (fun x hm => by
    obtain ⟨cs, rfl⟩ := (hx x hm).2.1 (by kernel_rfl)
    obtain ⟨p, hp⟩ := tnNode (n := n) (hx _ hm).1
    exact ⟨p, by unfold Nod.av; rw [← hp]; rfl, trivial⟩) xs fun x hm => hm
  exact ⟨l, by rw [hc], by simpa using hN⟩
theorem tnHosts {n : Nat} {cs : List AVal} (h : TyN Tryz.prog N (n + 4) 23 cs) : ∃ l : List Hos, cs = [.slice 6 (hav l) .no] ∧ l.length ≤ N := by
  unfold TyN at h
  rw [Tryz.underlying23] at h
  obtain ⟨xs, rfl, hN, hx⟩ := h
  have hc : Tryz.prog.cellsOf 65 = 6 := by kernel_rfl
  obtain ⟨l, rfl, hl⟩ := allsN (av := Hos.av) (Q := fun x => True) (P := fun x => x ∈ xs) (fun x hm => by
    obtain ⟨cs, rfl⟩ := (hx x hm).2.1 (by kernel_rfl)
    obtain ⟨p, hp⟩ := tnHost (n := n) (hx _ hm).1
    exact ⟨p, by unfold Hos.av; rw [← hp]; rfl, trivial⟩) xs fun x hm => hm
  exact ⟨l, by rw [hc], by simpa using hN⟩
theorem tnRuns {n : Nat} {cs : List AVal} (h : TyN Tryz.prog 1048576 (n + 5) 27 cs) : ∃ l : List Rn, cs = [.slice 14 (rav l) .no] ∧ Sm l := by
  unfold TyN at h
  rw [Tryz.underlying27] at h
  obtain ⟨xs, rfl, hN, hx⟩ := h
  have hc : Tryz.prog.cellsOf 43 = 14 := by kernel_rfl
  obtain ⟨l, rfl, hl⟩ := allsN (av := Rn.av) (Q := fun x => x.hs.length ≤ 1048576) (P := fun x => x ∈ xs) (fun x hm => by
    obtain ⟨cs, rfl⟩ := (hx x hm).2.1 (by kernel_rfl)
    obtain ⟨p, hp, hq⟩ := tnRun (n := n) (hx _ hm).1
    exact ⟨p, by unfold Rn.av; rw [← hp]; rfl, hq⟩) xs fun x hm => hm
  exact ⟨l, by rw [hc], by simpa using hN, hl⟩
theorem tnAny {n : Nat} {t e : TypeId} {cs : List AVal} (hu : Tryz.prog.underlying t = some (.slice e)) (h : TyN Tryz.prog N (n + 1) t cs) : ∃ xs : List AVal, cs = [.slice (Tryz.prog.cellsOf e) xs .no] := by
  unfold TyN at h
  rw [hu] at h
  obtain ⟨xs, rfl, _⟩ := h
  exact ⟨xs, rfl⟩
theorem tnCon {n : Nat} {cs : List AVal} (h : TyN Tryz.prog 1048576 (n + 5) 25 cs) : ∃ c : Con, cs = c.cs ∧ c.sm := by
  unfold TyN at h
  rw [Tryz.underlying25] at h
  obtain ⟨x0, r, rfl, h0, x1, r, rfl, h1, x2, r, rfl, h2, x3, r, rfl, h3, rfl⟩ := h
  obtain ⟨ns, rfl, l0⟩ := tnNodes (n := n) h0
  obtain ⟨hs, rfl, l1⟩ := tnHosts (n := n) h1
  obtain ⟨a2, rfl⟩ := tnInt h2
  obtain ⟨a3, rfl⟩ := tnInt h3
  exact ⟨⟨ns, hs, a2, a3⟩, rfl, ⟨l0, l1⟩⟩
theorem tnSt {n : Nat} {cs : List AVal} (h : TyN Tryz.prog 1048576 (n + 6) 30 cs) : ∃ (c : Con) (now k : Int) (ws : List AVal) (l : List Rn) (zs : List AVal), cs = stCs c now k ws l zs ∧ c.sm ∧ Sm l := by
  unfold TyN at h
  rw [Tryz.underlying30] at h
  obtain ⟨x0, r, rfl, h0, x1, r, rfl, h1, x2, r, rfl, h2, x3, r, rfl, h3, x4, r, rfl, h4, x5, r, rfl, h5, rfl⟩ := h
  obtain ⟨c, rfl, hc⟩ := tnCon (n := n) h0
  obtain ⟨now, rfl⟩ := tnInt h1
  obtain ⟨k, rfl⟩ := tnInt h2
  obtain ⟨ws, rfl⟩ := tnAny (n := n + 4) Tryz.underlying26 h3
  obtain ⟨l, rfl, hl⟩ := tnRuns (n := n) h4
  obtain ⟨zs, rfl⟩ := tnAny (n := n + 4) Tryz.underlying28 h5
  have e1 : Tryz.prog.cellsOf 194 = 11 := by kernel_rfl
  have e2 : Tryz.prog.cellsOf 195 = 1 := by kernel_rfl
  rw [e1, e2]
  exact ⟨c, now, k, ws, l, zs, rfl, hc, hl⟩
end
section
variable {H : Type} {enc : TypeId × Value → H} {W : World} {r : Reach} {base b0 : Nat} {spare : Nat → Bool} {held : Bool} {v : Value} {d : DataW H} {ps : List MemPlace}
theorem open_stateN (hv : Value.okWide Tryz.prog W r b0 30 v) (h : DataW.Trod enc Tryz.prog W base spare held 30 v d ps) (hG : Rows.uptoBulk d ≤ 1048576) : ∃ (c : Con) (now k : Int) (ws : List AVal) (l : List Rn) (zs : List AVal), Rep (Mw W) [] v (.agg (stCs c now k ws l zs)) ∧ c.sm ∧ Sm l := by
  obtain ⟨cs0, hr, ht⟩ := arg_aggN (n := 6) (bulkN H 1048576) (by kernel_rfl) (by kernel_rfl) hv h hG
  obtain ⟨c, now, k, ws, l, zs, rfl, hc, hl⟩ := tnSt (n := 0) ht
  exact ⟨c, now, k, ws, l, zs, hr, hc, hl⟩
theorem open_gangN (hv : Value.okWide Tryz.prog W r b0 34 v) (h : DataW.Trod enc Tryz.prog W base spare held 34 v d ps) (hG : Rows.uptoBulk d ≤ 1048576) : ∃ x : Gan, Rep (Mw W) [] v x.av := by
  obtain ⟨cs0, hr, ht⟩ := arg_aggN (n := 3) (bulkN H 1048576) (by kernel_rfl) (by kernel_rfl) hv h hG
  obtain ⟨x, rfl⟩ := tnGang (n := 0) ht
  exact ⟨x, hr⟩
theorem open_intN (hv : Value.okWide Tryz.prog W r b0 3 v) : ∃ n : Int, Rep (Mw W) [] v (ii n) := by
  obtain ⟨m, rfl, h⟩ := okC_int (k := .i64) (by kernel_rfl) (okV_cell (by kernel_rfl) hv)
  exact ⟨m, .int _ m h⟩
end
end Go.Proofs.YtlalcoklkafnnaaGreat
