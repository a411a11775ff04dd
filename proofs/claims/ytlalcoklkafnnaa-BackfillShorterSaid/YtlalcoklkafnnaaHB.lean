/-
  When: profiles, reserves, backfilling, as walks; the laws.
-/
import Derived.Shelf.Sort.Plain
import Derived.Shelf.Slices.In.SortNone
import Derived.Test.YtlalcoklkafnnaaHA
namespace Go.Proofs.Ytlalcoklkafnnaa
open Go Go.AW Go.Proofs
set_option maxRecDepth 10000

theorem rn_b (x : Rn) (M : Imm) (ob : Hs) (vs : List Value) (h : RepL M ob vs [x.av]) : inR .i64 x.st ∧ inR .i64 x.g.run := by
  have hl : 0 < vs.length := by rw [h.1]; simp
  have := h.2 0 _ x.av (List.getElem?_eq_getElem hl) rfl
  exact ⟨rep_agg_at this 11 _ rfl, rep_agg_at this 6 _ rfl⟩
/-- when one ends -/
def endR (x : Rn) : Int := if 9223372036854775807 < x.st + x.g.run then 9223372036854775807 else if x.st + x.g.run < -9223372036854775808 then -9223372036854775808 else x.st + x.g.run
theorem end_any (x : Rn) (r : Int) (hr : endR x = r) : CallOK Try.prog 65 [x.av] [] (.ret (ii r)) [] := by
  refine CallOK.get _ (rn_b x) fun ⟨⟨a1, a2⟩, ⟨b1, b2⟩⟩ => ?_
  simp only [kmin, kmax] at a1 a2 b1 b2
  unfold endR at hr
  by_cases h1 : 9223372036854775807 < x.st + x.g.run
  · rw [if_pos h1] at hr
    subst hr
    have e := wrap_hi h1 (by omega)
    refine CallOK.to (E := E) (fn := Try.f65) (g := .pure _) (by rfl) (by rfl) (by rfl) (fun _ _ => by rfl) (by decide +kernel) (by rfl) (by rfl) (by rfl) fun _ => ?_
    refine goes hE 100 ?_
    conv => whnf
    refine .inr ?_
    repeat' first
      | (refine goN hE 100 rfl ?_; conv => whnf)
      | exact rfl
      | refine And.intro (fun _ => ?_) (fun h => absurd (show true = false from h) (by decide))
      | refine And.intro (fun h => absurd (show false = true from h) (by decide)) (fun _ => ?_)
      | refine And.intro (fun h => ?_) (fun h => absurd (of_decide_eq_false h) (by omega))
      | refine And.intro (fun h => absurd (of_decide_eq_true h) (by omega)) (fun h => ?_)
      | refine And.intro (fun h => ?_) (fun h => ?_)
      | refine Or.inl (And.intro (And.intro (by simp only [kmin]; omega) (by simp only [kmax]; omega)) ?_)
      | refine Exists.intro _ (And.intro rfl ?_)
      | refine And.intro (by decide) ?_
      | refine And.intro (by omega) ?_
      | fail
  · rw [if_neg h1] at hr
    by_cases h2 : x.st + x.g.run < -9223372036854775808
    · rw [if_pos h2] at hr
      subst hr
      have e := wrap_lo h2 (by omega)
      refine CallOK.to (E := E) (fn := Try.f65) (g := .pure _) (by rfl) (by rfl) (by rfl) (fun _ _ => by rfl) (by decide +kernel) (by rfl) (by rfl) (by rfl) fun _ => ?_
      refine goes hE 100 ?_
      conv => whnf
      refine .inr ?_
      repeat' first
        | (refine goN hE 100 rfl ?_; conv => whnf)
        | exact rfl
        | refine And.intro (fun _ => ?_) (fun h => absurd (show true = false from h) (by decide))
        | refine And.intro (fun h => absurd (show false = true from h) (by decide)) (fun _ => ?_)
        | refine And.intro (fun h => ?_) (fun h => absurd (of_decide_eq_false h) (by omega))
        | refine And.intro (fun h => absurd (of_decide_eq_true h) (by omega)) (fun h => ?_)
        | refine And.intro (fun h => ?_) (fun h => ?_)
        | refine Or.inl (And.intro (And.intro (by simp only [kmin]; omega) (by simp only [kmax]; omega)) ?_)
        | refine Exists.intro _ (And.intro rfl ?_)
        | refine And.intro (by decide) ?_
        | refine And.intro (by omega) ?_
        | fail
    · rw [if_neg h2] at hr
      refine CallOK.to (E := E) (fn := Try.f65) (g := .pure _) (by rfl) (by rfl) (by rfl) (fun _ _ => by rfl) (by decide +kernel) (by rfl) (by rfl) (by rfl) fun _ => ?_
      repeat' first
        | (refine goN hE 100 rfl ?_; conv => whnf)
        | exact rfl
        | refine And.intro (fun _ => ?_) (fun h => absurd (show true = false from h) (by decide))
        | refine And.intro (fun h => absurd (show false = true from h) (by decide)) (fun _ => ?_)
        | refine And.intro (fun h => ?_) (fun h => absurd (of_decide_eq_false h) (by omega))
        | refine And.intro (fun h => absurd (of_decide_eq_true h) (by omega)) (fun h => ?_)
        | refine And.intro (fun h => ?_) (fun h => ?_)
        | refine Or.inl (And.intro (And.intro (by simp only [kmin]; omega) (by simp only [kmax]; omega)) ?_)
        | refine Exists.intro _ (And.intro rfl ?_)
        | refine And.intro (by decide) ?_
        | refine And.intro (by omega) ?_
        | fail
      all_goals first | exact hr ▸ rfl | (exfalso; simp at *; omega)
theorem end_ok (x : Rn) : CallOK Try.prog 65 [x.av] [] (.ret (ii (endR x))) [] := end_any x _ rfl
theorem rend_any (x : Rn) (r : Int) (hr : endR x = r) : CallOK Try.prog 61 [x.av] [] (.ret (ii r)) [] := by
  refine CallOK.get _ (rn_b x) fun ⟨⟨a1, a2⟩, ⟨b1, b2⟩⟩ => ?_
  simp only [kmin, kmax] at a1 a2 b1 b2
  unfold endR at hr
  by_cases h1 : 9223372036854775807 < x.st + x.g.run
  · rw [if_pos h1] at hr
    subst hr
    refine CallOK.to (E := E) (fn := Try.f61) (g := .pure _) (by rfl) (by rfl) (by rfl) (fun _ _ => by rfl) (by decide +kernel) (by rfl) (by rfl) (by rfl) fun _ => ?_
    repeat' first
      | (refine goN hE 100 rfl ?_; conv => whnf)
      | exact rfl
      | refine And.intro (fun _ => ?_) (fun h => absurd (show true = false from h) (by decide))
      | refine And.intro (fun h => absurd (show false = true from h) (by decide)) (fun _ => ?_)
      | refine And.intro (fun h => ?_) (fun h => absurd (of_decide_eq_false h) (by omega))
      | refine And.intro (fun h => absurd (of_decide_eq_true h) (by omega)) (fun h => ?_)
      | refine And.intro (fun h => ?_) (fun h => absurd (of_decide_eq_false h) (by simp only [decide_eq_true_eq, decide_eq_false_iff_not] at *; omega))
      | refine And.intro (fun h => absurd (of_decide_eq_true h) (by simp only [decide_eq_true_eq, decide_eq_false_iff_not] at *; omega)) (fun h => ?_)
      | refine And.intro (fun h => ?_) (fun h => ?_)
      | refine Or.inl (And.intro (And.intro (by simp only [kmin]; omega) (by simp only [kmax]; omega)) ?_)
      | refine Exists.intro _ (And.intro rfl ?_)
      | refine And.intro (by decide) ?_
      | refine And.intro (by omega) ?_
      | refine Or.inl (And.intro (And.intro (by simp only [kmin]; simp only [decide_eq_true_eq, decide_eq_false_iff_not] at *; omega) (by simp only [kmax]; simp only [decide_eq_true_eq, decide_eq_false_iff_not] at *; omega)) ?_)
      | fail
  · rw [if_neg h1] at hr
    by_cases h2 : x.st + x.g.run < -9223372036854775808
    · rw [if_pos h2] at hr
      subst hr
      refine CallOK.to (E := E) (fn := Try.f61) (g := .pure _) (by rfl) (by rfl) (by rfl) (fun _ _ => by rfl) (by decide +kernel) (by rfl) (by rfl) (by rfl) fun _ => ?_
      repeat' first
        | (refine goN hE 100 rfl ?_; conv => whnf)
        | exact rfl
        | refine And.intro (fun _ => ?_) (fun h => absurd (show true = false from h) (by decide))
        | refine And.intro (fun h => absurd (show false = true from h) (by decide)) (fun _ => ?_)
        | refine And.intro (fun h => ?_) (fun h => absurd (of_decide_eq_false h) (by omega))
        | refine And.intro (fun h => absurd (of_decide_eq_true h) (by omega)) (fun h => ?_)
        | refine And.intro (fun h => ?_) (fun h => absurd (of_decide_eq_false h) (by simp only [decide_eq_true_eq, decide_eq_false_iff_not] at *; omega))
        | refine And.intro (fun h => absurd (of_decide_eq_true h) (by simp only [decide_eq_true_eq, decide_eq_false_iff_not] at *; omega)) (fun h => ?_)
        | refine And.intro (fun h => ?_) (fun h => ?_)
        | refine Or.inl (And.intro (And.intro (by simp only [kmin]; omega) (by simp only [kmax]; omega)) ?_)
        | refine Exists.intro _ (And.intro rfl ?_)
        | refine And.intro (by decide) ?_
        | refine And.intro (by omega) ?_
        | refine Or.inl (And.intro (And.intro (by simp only [kmin]; simp only [decide_eq_true_eq, decide_eq_false_iff_not] at *; omega) (by simp only [kmax]; simp only [decide_eq_true_eq, decide_eq_false_iff_not] at *; omega)) ?_)
        | fail
    · rw [if_neg h2] at hr
      subst hr
      refine CallOK.to (E := E) (fn := Try.f61) (g := .pure _) (by rfl) (by rfl) (by rfl) (fun _ _ => by rfl) (by decide +kernel) (by rfl) (by rfl) (by rfl) fun _ => ?_
      repeat' first
        | (refine goN hE 100 rfl ?_; conv => whnf)
        | exact rfl
        | refine And.intro (fun _ => ?_) (fun h => absurd (show true = false from h) (by decide))
        | refine And.intro (fun h => absurd (show false = true from h) (by decide)) (fun _ => ?_)
        | refine And.intro (fun h => ?_) (fun h => absurd (of_decide_eq_false h) (by omega))
        | refine And.intro (fun h => absurd (of_decide_eq_true h) (by omega)) (fun h => ?_)
        | refine And.intro (fun h => ?_) (fun h => absurd (of_decide_eq_false h) (by simp only [decide_eq_true_eq, decide_eq_false_iff_not] at *; omega))
        | refine And.intro (fun h => absurd (of_decide_eq_true h) (by simp only [decide_eq_true_eq, decide_eq_false_iff_not] at *; omega)) (fun h => ?_)
        | refine And.intro (fun h => ?_) (fun h => ?_)
        | refine Or.inl (And.intro (And.intro (by simp only [kmin]; omega) (by simp only [kmax]; omega)) ?_)
        | refine Exists.intro _ (And.intro rfl ?_)
        | refine And.intro (by decide) ?_
        | refine And.intro (by omega) ?_
        | refine Or.inl (And.intro (And.intro (by simp only [kmin]; simp only [decide_eq_true_eq, decide_eq_false_iff_not] at *; omega) (by simp only [kmax]; simp only [decide_eq_true_eq, decide_eq_false_iff_not] at *; omega)) ?_)
        | fail
theorem rend_ok (x : Rn) : CallOK Try.prog 61 [x.av] [] (.ret (ii (endR x))) [] := rend_any x _ rfl
end Go.Proofs.Ytlalcoklkafnnaa

namespace Go.Proofs.Ytlalcoklkafnnaa
open Go Go.AW Go.Proofs
set_option maxRecDepth 10000

theorem cloneI_ok (l : List Int) (h : l.length ≤ 1048576) : CallOK Try.prog 47 [.slice 1 (iv l) .no] [] (.ret (.slice 1 (iv l) .no)) [] := by
  have hlen : (iv l).length = l.length := by simp
  refine CallOK.to (E := E) (fn := Try.f47) (g := .pure _) (by rfl) (by rfl) (by rfl) (fun _ _ => by rfl) (by decide +kernel) (by rfl) (by rfl) (by rfl) fun _ => ?_
  refine goes hE 100 ?_
  conv => whnf
  intro b hb
  refine goes hE 100 ?_
  conv => whnf
  refine And.intro (fun h => ?_) (fun h => ?_)
  · have h : b = true := h
    have e : iv l = [] := hb h
    refine goes hE 100 ?_
    conv => whnf
    rw [e]
  · have h : b = false := h
    refine goes hE 100 ?_
    conv => whnf
    refine And.intro (And.intro (by simp only [maxLen]; simp; omega) (by simp; omega)) ?_
    refine goes hE 100 ?_
    conv => whnf
    rfl
theorem rown_ok (x : Rn) (h : x.hs.length ≤ 1048576) : CallOK Try.prog 85 [x.av] [] (.ret x.av) [] := by
  refine CallOK.to (E := E) (fn := Try.f85) (g := .pure _) (by rfl) (by rfl) (by rfl) (fun _ _ => by rfl) (by decide +kernel) (by rfl) (by rfl) (by rfl) fun _ => ?_
  repeat' first
    | (refine goN hE 100 rfl ?_; conv => whnf)
    | refine .pure _ [] (cloneI_ok x.hs h) ?_
    | exact rfl
    | refine And.intro (fun _ => ?_) (fun h => absurd (show true = false from h) (by decide))
    | refine And.intro (fun h => absurd (show false = true from h) (by decide)) (fun _ => ?_)
    | refine And.intro (fun h => ?_) (fun h => absurd (of_decide_eq_false h) (by omega))
    | refine And.intro (fun h => absurd (of_decide_eq_true h) (by omega)) (fun h => ?_)
    | refine And.intro (fun h => ?_) (fun h => ?_)
    | refine Or.inl (And.intro (And.intro (by simp only [kmin]; omega) (by simp only [kmax]; omega)) ?_)
    | refine Exists.intro _ (And.intro rfl ?_)
    | refine And.intro (by decide) ?_
    | refine And.intro (by omega) ?_
    | fail

def atL (l : List Rn) (t : Int) : List Rn := l.filter fun x => decide (t < endR x)
theorem atL_pos {x : Rn} {r : List Rn} {t : Int} (h : decide (t < endR x) = true) : atL (x :: r) t = x :: atL r t := List.filter_cons_of_pos h
theorem atL_neg {x : Rn} {r : List Rn} {t : Int} (h : decide (t < endR x) = false) : atL (x :: r) t = atL r t := List.filter_cons_of_neg (by rw [h]; decide)
noncomputable abbrev fAt : Func := Try.f60
theorem at_loop (l : List Rn) (hs : Sm l) (t : Int) (R : List Rn) : ∀ (n i : Nat) (acc : List Rn), i + n = l.length → acc.length ≤ i → acc ++ atL (l.drop i) t = R →
    To (Eo [5] []) fAt (.pure (.ret (.slice 14 (rav R) .no))) (.head (stk fAt 0) [(1, .int .i64 t), (5, .slice 14 (rav acc) (.own 0 0)), (8, .slice 14 (rav l) .no), (9, .int .i64 ((rav l).length : Nat)), (10, .int .i64 i)] [.tail 0 14 31]) := by
  have hlen : (rav l).length = l.length := by simp
  have hl := hs.1
  intro n
  induction n with
  | zero =>
    intro i acc hi ha hR
    rw [List.drop_eq_nil_of_le (by omega)] at hR
    have hR : acc ++ [] = R := hR
    rw [List.append_nil] at hR
    subst hR
    refine goes (hEo [5] []) 100 ?_
    conv => whnf
    refine And.intro (fun h => absurd (of_decide_eq_true h) (by omega)) (fun h => ?_)
    repeat' first
      | (refine goN (hEo [5] []) 100 rfl ?_; conv => whnf)
      | exact rfl
      | refine And.intro (fun _ => ?_) (fun h => absurd (show true = false from h) (by decide))
      | refine And.intro (fun h => absurd (show false = true from h) (by decide)) (fun _ => ?_)
      | refine And.intro (fun h => ?_) (fun h => absurd (of_decide_eq_false h) (by omega))
      | refine And.intro (fun h => absurd (of_decide_eq_true h) (by omega)) (fun h => ?_)
      | refine And.intro (fun h => ?_) (fun h => ?_)
      | refine Or.inl (And.intro (And.intro (by simp only [kmin]; omega) (by simp only [kmax]; omega)) ?_)
      | refine Exists.intro _ (And.intro rfl ?_)
      | refine And.intro (by decide) ?_
      | refine And.intro (by omega) ?_
      | fail
  | succ n ih =>
    intro i acc hi ha hR
    have hlt : i < l.length := by omega
    rw [List.drop_eq_getElem_cons hlt] at hR
    have hb := hs.at hlt
    generalize hx : l[i] = x at hR hb
    have get : (rav l)[i]? = some x.av := (rav_get hlt).trans (by rw [hx])
    have hla : (rav acc).length = acc.length := by simp
    refine goes (hEo [5] []) 100 ?_
    conv => whnf
    refine And.intro (fun h => ?_) (fun h => absurd (of_decide_eq_false h) (by omega))
    refine goes (hEo [5] []) 100 ?_
    conv => whnf
    refine ⟨i, rfl, ?_⟩
    refine goes (hEo [5] []) 100 ?_
    conv => whnf
    refine ⟨_, get, ?_⟩
    refine goes (hEo [5] []) 100 ?_
    conv => whnf
    refine .pure _ [] (end_ok x) ?_
    refine goes (hEo [5] []) 100 ?_
    conv => whnf
    refine And.intro (fun h2 => ?_) (fun h2 => ?_)
    · have h2 : decide (t < endR x) = true := h2
      rw [atL_pos h2] at hR
      refine goes (hEo [5] []) 100 ?_
      conv => whnf
      refine .pure _ [] (rown_ok x hb) ?_
      refine goes (hEo [5] []) 100 ?_
      conv => whnf
      refine And.intro (And.intro (by simp only [maxLen]; simp; omega) (by simp; omega)) ?_
      refine goes (hEo [5] []) 100 ?_
      conv => whnf
      refine Or.inl (And.intro (And.intro (by simp only [kmin]; omega) (by simp only [kmax]; omega)) ?_)
      refine goes (hEo [5] []) 100 ?_
      conv => whnf
      refine To.part [1, 5, 8, 9, 10] [0] rfl rfl rfl ?_
      have next := ih (i + 1) (acc ++ [x]) (by omega) (by simp; omega) (by rw [List.append_assoc]; exact hR)
      have e : rav (acc ++ [x]) = rav acc ++ [x.av] := by simp
      rw [e] at next
      exact next
    · have h2' : decide (t < endR x) = false := h2
      rw [atL_neg h2'] at hR
      refine goes (hEo [5] []) 100 ?_
      conv => whnf
      refine Or.inl (And.intro (And.intro (by simp only [kmin]; omega) (by simp only [kmax]; omega)) ?_)
      refine goes (hEo [5] []) 100 ?_
      conv => whnf
      refine To.part [1, 5, 8, 9, 10] [0] rfl rfl rfl ?_
      exact ih (i + 1) acc (by omega) (by omega) hR
theorem at_ok (l : List Rn) (hs : Sm l) (t : Int) : CallOK Try.prog 60 [.slice 14 (rav l) .no, ii t] [] (.ret (.slice 14 (rav (atL l t)) .no)) [] := by
  refine CallOK.to (E := (Eo [5] [])) (fn := Try.f60) (g := .pure _) (by rfl) (by rfl) (by rfl) (fun _ _ => by rfl) (by decide +kernel) (by rfl) (by rfl) (by rfl) fun _ => ?_
  refine goes (hEo [5] []) 100 ?_
  conv => whnf
  refine To.part [1, 5, 8, 9, 10] [0] rfl rfl rfl ?_
  exact at_loop l hs t _ l.length 0 [] (by omega) (by simp) rfl
noncomputable abbrev fRAt : Func := Try.f29
theorem rat_loop (l : List Rn) (hs : Sm l) (t : Int) (R : List Rn) : ∀ (n i : Nat) (acc : List Rn), i + n = l.length → acc.length ≤ i → acc ++ atL (l.drop i) t = R →
    To (Eo [5] []) fRAt (.pure (.ret (.slice 14 (rav R) .no))) (.head (stk fRAt 0) [(0, .slice 14 (rav l) .no), (1, .int .i64 t), (5, .slice 14 (rav acc) (.own 0 0)), (6, .int .i64 i)] [.tail 0 14 31]) := by
  have hlen : (rav l).length = l.length := by simp
  have hl := hs.1
  intro n
  induction n with
  | zero =>
    intro i acc hi ha hR
    rw [List.drop_eq_nil_of_le (by omega)] at hR
    have hR : acc ++ [] = R := hR
    rw [List.append_nil] at hR
    subst hR
    refine goes (hEo [5] []) 100 ?_
    conv => whnf
    refine And.intro (fun h => absurd (of_decide_eq_true h) (by omega)) (fun h => ?_)
    repeat' first
      | (refine goN (hEo [5] []) 100 rfl ?_; conv => whnf)
      | exact rfl
      | refine And.intro (fun _ => ?_) (fun h => absurd (show true = false from h) (by decide))
      | refine And.intro (fun h => absurd (show false = true from h) (by decide)) (fun _ => ?_)
      | refine And.intro (fun h => ?_) (fun h => absurd (of_decide_eq_false h) (by omega))
      | refine And.intro (fun h => absurd (of_decide_eq_true h) (by omega)) (fun h => ?_)
      | refine And.intro (fun h => ?_) (fun h => ?_)
      | refine Or.inl (And.intro (And.intro (by simp only [kmin]; omega) (by simp only [kmax]; omega)) ?_)
      | refine Exists.intro _ (And.intro rfl ?_)
      | refine And.intro (by decide) ?_
      | refine And.intro (by omega) ?_
      | fail
  | succ n ih =>
    intro i acc hi ha hR
    have hlt : i < l.length := by omega
    rw [List.drop_eq_getElem_cons hlt] at hR
    generalize hx : l[i] = x at hR
    have get : (rav l)[i]? = some x.av := (rav_get hlt).trans (by rw [hx])
    have hla : (rav acc).length = acc.length := by simp
    refine goes (hEo [5] []) 100 ?_
    conv => whnf
    refine And.intro (fun h => ?_) (fun h => absurd (of_decide_eq_false h) (by omega))
    refine goes (hEo [5] []) 100 ?_
    conv => whnf
    refine ⟨i, rfl, ?_⟩
    refine goes (hEo [5] []) 100 ?_
    conv => whnf
    refine ⟨_, get, ?_⟩
    refine goes (hEo [5] []) 100 ?_
    conv => whnf
    refine .pure _ [] (rend_ok x) ?_
    refine goes (hEo [5] []) 100 ?_
    conv => whnf
    refine And.intro (fun h2 => ?_) (fun h2 => ?_)
    · have h2 : decide (t < endR x) = true := h2
      rw [atL_pos h2] at hR
      refine goes (hEo [5] []) 100 ?_
      conv => whnf
      refine ⟨i, rfl, ?_⟩
      refine goes (hEo [5] []) 100 ?_
      conv => whnf
      refine ⟨_, get, ?_⟩
      refine goes (hEo [5] []) 100 ?_
      conv => whnf
      refine And.intro (And.intro (by simp only [maxLen]; simp; omega) (by simp; omega)) ?_
      refine goes (hEo [5] []) 100 ?_
      conv => whnf
      refine Or.inl (And.intro (And.intro (by simp only [kmin]; omega) (by simp only [kmax]; omega)) ?_)
      refine goes (hEo [5] []) 100 ?_
      conv => whnf
      refine To.part [0, 1, 5, 6] [0] rfl rfl rfl ?_
      have next := ih (i + 1) (acc ++ [x]) (by omega) (by simp; omega) (by rw [List.append_assoc]; exact hR)
      have e : rav (acc ++ [x]) = rav acc ++ [x.av] := by simp
      rw [e] at next
      exact next
    · have h2' : decide (t < endR x) = false := h2
      rw [atL_neg h2'] at hR
      refine goes (hEo [5] []) 100 ?_
      conv => whnf
      refine Or.inl (And.intro (And.intro (by simp only [kmin]; omega) (by simp only [kmax]; omega)) ?_)
      refine goes (hEo [5] []) 100 ?_
      conv => whnf
      refine To.part [0, 1, 5, 6] [0] rfl rfl rfl ?_
      exact ih (i + 1) acc (by omega) (by omega) hR
theorem rat_ok (l : List Rn) (hs : Sm l) (t : Int) : CallOK Try.prog 29 [.slice 14 (rav l) .no, ii t] [] (.ret (.slice 14 (rav (atL l t)) .no)) [] := by
  refine CallOK.to (E := (Eo [5] [])) (fn := Try.f29) (g := .pure _) (by rfl) (by rfl) (by rfl) (fun _ _ => by rfl) (by decide +kernel) (by rfl) (by rfl) (by rfl) fun _ => ?_
  refine goes (hEo [5] []) 100 ?_
  conv => whnf
  refine To.part [0, 1, 5, 6] [0] rfl rfl rfl ?_
  exact rat_loop l hs t _ l.length 0 [] (by omega) (by simp) rfl
theorem atL_sm {l : List Rn} (h : Sm l) (t : Int) : Sm (atL l t) :=
  ⟨Nat.le_trans (List.length_filter_le _ _) h.1, fun x hx => h.2 x (List.mem_filter.1 hx).1⟩
end Go.Proofs.Ytlalcoklkafnnaa

namespace Go.Proofs.Ytlalcoklkafnnaa
open Go Go.AW Go.Proofs Go.Shelf
set_option maxRecDepth 100000

def sortRen : Go.Shelf.Ren := ⟨fun | 125 => 103 | 128 => 124 | 129 => 125 | 189 => 84 | 215 => 93 | 216 => 121 | 257 => 102 | 294 => 115 | 295 => 116 | 296 => 117 | 297 => 118 | 298 => 119 | 299 => 120 | 300 => 122 | 301 => 123 | 328 => 129 | 329 => 130 | 330 => 131 | 331 => 132 | 332 => 133 | 343 => 139 | n => n, fun | 0 => 0 | 3 => 3 | 4 => 4 | 5 => 5 | 9 => 9 | 28 => 23 | 46 => 132 | 51 => 152 | 53 => 154 | 131 => 54 | 182 => 144 | 183 => 145 | 218 => 157 | 222 => 161 | 228 => 169 | 229 => 170 | n => n, fun n => n⟩
theorem sortLays : Lays.n189 Try.prog sortRen where
  mixed := by kernel_rfl
  f125 := Try.func103.trans (congrArg some (by kernel_rfl))
  f128 := Try.func124.trans (congrArg some (by kernel_rfl))
  f129 := Try.func125.trans (congrArg some (by kernel_rfl))
  f189 := Try.func84.trans (congrArg some (by kernel_rfl))
  f215 := Try.func93.trans (congrArg some (by kernel_rfl))
  f216 := Try.func121.trans (congrArg some (by kernel_rfl))
  f257 := Try.func102.trans (congrArg some (by kernel_rfl))
  f294 := Try.func115.trans (congrArg some (by kernel_rfl))
  f295 := Try.func116.trans (congrArg some (by kernel_rfl))
  f296 := Try.func117.trans (congrArg some (by kernel_rfl))
  f297 := Try.func118.trans (congrArg some (by kernel_rfl))
  f298 := Try.func119.trans (congrArg some (by kernel_rfl))
  f299 := Try.func120.trans (congrArg some (by kernel_rfl))
  f300 := Try.func122.trans (congrArg some (by kernel_rfl))
  f301 := Try.func123.trans (congrArg some (by kernel_rfl))
  f328 := Try.func129.trans (congrArg some (by kernel_rfl))
  f329 := Try.func130.trans (congrArg some (by kernel_rfl))
  f330 := Try.func131.trans (congrArg some (by kernel_rfl))
  f331 := Try.func132.trans (congrArg some (by kernel_rfl))
  f332 := Try.func133.trans (congrArg some (by kernel_rfl))
  f343 := Try.func139.trans (congrArg some (by kernel_rfl))
  t0 := Try.underlying0
  a0 := Try.isAgg0
  z0 := Try.sizeOf0
  v0 := Try.zeroValue0
  t3 := Try.underlying3
  a3 := Try.isAgg3
  z3 := Try.sizeOf3
  v3 := Try.zeroValue3
  t4 := Try.underlying4
  a4 := Try.isAgg4
  z4 := Try.sizeOf4
  v4 := Try.zeroValue4
  t5 := Try.underlying5
  a5 := Try.isAgg5
  z5 := Try.sizeOf5
  v5 := Try.zeroValue5
  t9 := Try.underlying9
  a9 := Try.isAgg9
  z9 := Try.sizeOf9
  v9 := Try.zeroValue9
  t28 := Try.underlying23
  a28 := Try.isAgg23
  z28 := Try.sizeOf23
  v28 := Try.zeroValue23
  t46 := Try.underlying132
  a46 := Try.isAgg132
  z46 := Try.sizeOf132
  v46 := Try.zeroValue132
  t51 := Try.underlying152
  a51 := Try.isAgg152
  z51 := Try.sizeOf152
  v51 := Try.zeroValue152
  t53 := Try.underlying154
  a53 := Try.isAgg154
  z53 := Try.sizeOf154
  v53 := Try.zeroValue154
  t131 := Try.underlying54
  a131 := Try.isAgg54
  z131 := Try.sizeOf54
  v131 := Try.zeroValue54
  t182 := Try.underlying144
  a182 := Try.isAgg144
  z182 := Try.sizeOf144
  v182 := Try.zeroValue144
  t183 := Try.underlying145
  a183 := Try.isAgg145
  z183 := Try.sizeOf145
  v183 := Try.zeroValue145
  t218 := Try.underlying157
  a218 := Try.isAgg157
  z218 := Try.sizeOf157
  v218 := Try.zeroValue157
  t222 := Try.underlying161
  a222 := Try.isAgg161
  z222 := Try.sizeOf161
  v222 := Try.zeroValue161
  t228 := Try.underlying169
  a228 := Try.isAgg169
  z228 := Try.sizeOf169
  v228 := Try.zeroValue169
  t229 := Try.underlying170
  a229 := Try.isAgg170
  z229 := Try.sizeOf170
  v229 := Try.zeroValue170

def sortI (l : List Int) : List Int := l.mergeSort fun x y => decide (x ≤ y)
theorem sort_ok (l : List Int) (hl : l.length ≤ 1000000000) : CallOK Try.prog 84 [.row 0 0] [.row 0 1 3 (iv l)] (.ret (.tup [])) [.row 0 1 3 (iv (sortI l))] :=
  sort_contract (fun _ _ => by rfl) (fun p cap w => Any.slices_Sort_int_none sortLays p cap w) (fun blk off cap zs w hH hb hz => Any.slices_Sort_int sortLays blk off cap zs w hH hb hz) 3 l hl
end Go.Proofs.Ytlalcoklkafnnaa

namespace Go.Proofs.Ytlalcoklkafnnaa
open Go Go.AW Go.Proofs
set_option maxRecDepth 10000

def kyv (n : Int) : AVal := .agg [ii n]
abbrev kv (l : List Int) : List AVal := l.map kyv
theorem kv_get {l : List Int} {i : Nat} (h : i < l.length) : (kv l)[i]? = some (kyv l[i]) := by simp [kv, h]
abbrev keyF (n : Int) : AVal := .func (.func 83) [] [.ptr [ii n]]
theorem key_ok (x n : Int) : CallOK Try.prog 83 [kyv x, .ptr [ii n]] [] (.ret (.bool (x == n && true))) [] := by
  refine CallOK.to (E := E) (fn := Try.f83) (g := .pure _) (by rfl) (by rfl) (by rfl) (fun _ _ => by rfl) (by decide +kernel) (by rfl) (by rfl) (by rfl) fun _ => ?_
  repeat' first
    | (refine goN hE 100 rfl ?_; conv => whnf)
    | exact rfl
    | refine And.intro (fun _ => ?_) (fun h => absurd (show true = false from h) (by decide))
    | refine And.intro (fun h => absurd (show false = true from h) (by decide)) (fun _ => ?_)
    | refine And.intro (fun h => ?_) (fun h => absurd (of_decide_eq_false h) (by omega))
    | refine And.intro (fun h => absurd (of_decide_eq_true h) (by omega)) (fun h => ?_)
    | refine And.intro (fun h => ?_) (fun h => ?_)
    | refine Or.inl (And.intro (And.intro (by simp only [kmin]; omega) (by simp only [kmax]; omega)) ?_)
    | refine Exists.intro _ (And.intro rfl ?_)
    | refine And.intro (by decide) ?_
    | refine And.intro (by omega) ?_
    | fail
/-- where a key stands -/
def findK (n : Int) : List Int → Nat → Int
  | [], _ => -1
  | x :: r, i => if (x == n && true) then (i : Int) else findK n r (i + 1)
theorem findK_ge (n : Int) : ∀ (l : List Int) (i : Nat), -1 ≤ findK n l i
  | [], _ => by simp [findK]
  | x :: r, i => by
    unfold findK
    split
    · omega
    · exact findK_ge n r (i + 1)
def has (l : List Int) (n : Int) : Bool := decide (0 ≤ findK n l 0)
noncomputable abbrev fIdx : Func := Try.f101
theorem idx_loop (l : List Int) (n : Int) (hl : ((kv l).length : Int) ≤ 9223372036854775807) (r : Int) : ∀ (m i : Nat), i + m = l.length → findK n (l.drop i) i = r →
    To E fIdx (.pure (.ret (ii r))) (.head (stk fIdx 0) [(0, .slice 1 (kv l) .no), (1, keyF n), (7, .int .i64 ((kv l).length : Nat)), (8, .int .i64 i)] []) := by
  have hlen : (kv l).length = l.length := by simp
  intro m
  induction m with
  | zero =>
    intro i hi hr
    rw [List.drop_eq_nil_of_le (by omega)] at hr
    subst hr
    refine goes hE 100 ?_
    conv => whnf
    refine And.intro (fun h => absurd (of_decide_eq_true h) (by omega)) (fun h => ?_)
    repeat' first
      | (refine goN hE 100 rfl ?_; conv => whnf)
      | exact rfl
      | refine And.intro (fun _ => ?_) (fun h => absurd (show true = false from h) (by decide))
      | refine And.intro (fun h => absurd (show false = true from h) (by decide)) (fun _ => ?_)
      | refine And.intro (fun h => ?_) (fun h => absurd (of_decide_eq_false h) (by omega))
      | refine And.intro (fun h => absurd (of_decide_eq_true h) (by omega)) (fun h => ?_)
      | refine And.intro (fun h => ?_) (fun h => ?_)
      | refine Or.inl (And.intro (And.intro (by simp only [kmin]; omega) (by simp only [kmax]; omega)) ?_)
      | refine Exists.intro _ (And.intro rfl ?_)
      | refine And.intro (by decide) ?_
      | refine And.intro (by omega) ?_
      | fail
  | succ m ih =>
    intro i hi hr
    have hlt : i < l.length := by omega
    rw [List.drop_eq_getElem_cons hlt] at hr
    generalize hx : l[i] = x at hr
    have get : (kv l)[i]? = some (kyv x) := (kv_get hlt).trans (by rw [hx])
    unfold findK at hr
    refine goes hE 100 ?_
    conv => whnf
    refine And.intro (fun h => ?_) (fun h => absurd (of_decide_eq_false h) (by omega))
    repeat' first
      | (refine goN hE 100 rfl ?_; conv => whnf)
      | refine Exists.intro _ (And.intro get ?_)
      | refine .pure _ [] (key_ok x n) ?_
      | exact rfl
      | refine And.intro (fun _ => ?_) (fun h => absurd (show true = false from h) (by decide))
      | refine And.intro (fun h => absurd (show false = true from h) (by decide)) (fun _ => ?_)
      | refine And.intro (fun h => ?_) (fun h => absurd (of_decide_eq_false h) (by omega))
      | refine And.intro (fun h => absurd (of_decide_eq_true h) (by omega)) (fun h => ?_)
      | refine And.intro (fun h => ?_) (fun h => ?_)
      | refine Or.inl (And.intro (And.intro (by simp only [kmin]; omega) (by simp only [kmax]; omega)) ?_)
      | refine Exists.intro _ (And.intro rfl ?_)
      | refine And.intro (by decide) ?_
      | refine And.intro (by omega) ?_
      | fail
    · have h : (x == n && true) = true := h
      rw [if_pos h] at hr
      rw [← hr]
    · have h : (x == n && true) = false := h
      rw [if_neg (by rw [h]; decide)] at hr
      refine To.head [0, 1, 7, 8] ?_
      exact ih (i + 1) (by omega) hr
theorem idx_ok (l : List Int) (n : Int) : CallOK Try.prog 101 [.slice 1 (kv l) .no, keyF n] [] (.ret (ii (findK n l 0))) [] := by
  refine CallOK.to (E := E) (fn := Try.f101) (g := .pure _) (by rfl) (by rfl) (by rfl) (fun _ _ => by rfl) (by decide +kernel) (by rfl) (by rfl) (by rfl) fun ho => ?_
  have hl : ((kv l).length : Int) ≤ 9223372036854775807 := ho.1
  refine goes hE 100 ?_
  conv => whnf
  refine To.head [0, 1, 7, 8] ?_
  exact idx_loop l n hl _ l.length 0 (by omega) rfl
theorem has_ok (l : List Int) (n : Int) : CallOK Try.prog 82 [.slice 1 (kv l) .no, keyF n] [] (.ret (.bool (has l n))) [] := by
  refine CallOK.to (E := E) (fn := Try.f82) (g := .pure _) (by rfl) (by rfl) (by rfl) (fun _ _ => by rfl) (by decide +kernel) (by rfl) (by rfl) (by rfl) fun _ => ?_
  repeat' first
    | (refine goN hE 100 rfl ?_; conv => whnf)
    | refine .pure _ [] (idx_ok l n) ?_
    | exact rfl
    | refine And.intro (fun _ => ?_) (fun h => absurd (show true = false from h) (by decide))
    | refine And.intro (fun h => absurd (show false = true from h) (by decide)) (fun _ => ?_)
    | refine And.intro (fun h => ?_) (fun h => absurd (of_decide_eq_false h) (by omega))
    | refine And.intro (fun h => absurd (of_decide_eq_true h) (by omega)) (fun h => ?_)
    | refine And.intro (fun h => ?_) (fun h => ?_)
    | refine Or.inl (And.intro (And.intro (by simp only [kmin]; omega) (by simp only [kmax]; omega)) ?_)
    | refine Exists.intro _ (And.intro rfl ?_)
    | refine And.intro (by decide) ?_
    | refine And.intro (by omega) ?_
    | fail

def keysL (now : Int) : List Rn → List Int → List Int
  | [], ks => ks
  | x :: r, ks => keysL now r (if decide (now < endR x) && !has ks (endR x) then ks ++ [endR x] else ks)
theorem keysL_len (now : Int) : ∀ (l : List Rn) (ks : List Int), (keysL now l ks).length ≤ ks.length + l.length
  | [], ks => by simp [keysL]
  | x :: r, ks => by
    unfold keysL
    have := keysL_len now r (if decide (now < endR x) && !has ks (endR x) then ks ++ [endR x] else ks)
    split at this
    · rename_i h; rw [if_pos h]; simp only [List.length_append, List.length_cons, List.length_nil] at this ⊢; omega
    · rename_i h; rw [if_neg h]; simp only [List.length_cons]; omega
noncomputable abbrev fEnds : Func := Try.f59
noncomputable abbrev En : Env := Ex [5] [9] []
theorem hEn : EnvOK En := hEx _ _ _
theorem ends2_loop (ks : List Int) (hk : ks.length ≤ 1048576) : ∀ (n i : Nat) (acc : List Int), i + n = ks.length → acc = ks.take i →
    To En fEnds (.pure (.ret (.slice 1 (iv (sortI ks)) .no))) (.head (stk fEnds 1) [(9, .row 0 0), (36, .slice 1 (kv ks) .no), (37, .int .i64 ((kv ks).length : Nat)), (38, .int .i64 i)] [.row 0 1 3 (iv acc)]) := by
  have hlen : (kv ks).length = ks.length := by simp
  intro n
  induction n with
  | zero =>
    intro i acc hi ha
    rw [List.take_of_length_le (by omega)] at ha
    subst ha
    refine goes hEn 100 ?_
    conv => whnf
    refine And.intro (fun h => absurd (of_decide_eq_true h) (by omega)) (fun h => ?_)
    refine goes hEn 100 ?_
    conv => whnf
    refine .eff [] [0] _ _ rfl (sort_ok acc (by omega)) ?_
    repeat' first
      | (refine goN hEn 100 rfl ?_; conv => whnf)
      | exact rfl
      | refine And.intro (fun _ => ?_) (fun h => absurd (show true = false from h) (by decide))
      | refine And.intro (fun h => absurd (show false = true from h) (by decide)) (fun _ => ?_)
      | refine And.intro (fun h => ?_) (fun h => absurd (of_decide_eq_false h) (by omega))
      | refine And.intro (fun h => absurd (of_decide_eq_true h) (by omega)) (fun h => ?_)
      | refine And.intro (fun h => ?_) (fun h => ?_)
      | refine Or.inl (And.intro (And.intro (by simp only [kmin]; omega) (by simp only [kmax]; omega)) ?_)
      | refine Exists.intro _ (And.intro rfl ?_)
      | refine And.intro (by decide) ?_
      | refine And.intro (by omega) ?_
      | fail
  | succ n ih =>
    intro i acc hi ha
    have hlt : i < ks.length := by omega
    generalize hx : ks[i] = x
    have get : (kv ks)[i]? = some (kyv x) := (kv_get hlt).trans (by rw [hx])
    have hal : acc.length = i := by rw [ha]; simp; omega
    have hia : (iv acc).length = acc.length := by simp
    refine goes hEn 100 ?_
    conv => whnf
    refine And.intro (fun h => ?_) (fun h => absurd (of_decide_eq_false h) (by omega))
    refine goes hEn 100 ?_
    conv => whnf
    refine ⟨i, rfl, ?_⟩
    refine goes hEn 100 ?_
    conv => whnf
    refine ⟨_, get, ?_⟩
    refine goes hEn 100 ?_
    conv => whnf
    refine ⟨⟨by decide, by decide⟩, ?_⟩
    refine goes hEn 100 ?_
    conv => whnf
    refine And.intro (And.intro (by simp only [maxLen]; simp; omega) (by simp; omega)) ?_
    refine goes hEn 100 ?_
    conv => whnf
    refine Or.inl (And.intro (And.intro (by simp only [kmin]; omega) (by simp only [kmax]; omega)) ?_)
    refine goes hEn 100 ?_
    conv => whnf
    refine To.part [9, 36, 37, 38] [0] rfl rfl rfl ?_
    have next := ih (i + 1) (acc ++ [x]) (by omega) (by rw [ha, ← hx]; exact List.take_append_getElem hlt)
    have e : iv (acc ++ [x]) = iv acc ++ [ii x] := by simp
    rw [e] at next
    exact next
theorem ends_loop (l : List Rn) (hs : Sm l) (now : Int) (R : List Int) : ∀ (n i : Nat) (ks : List Int), i + n = l.length → ks.length ≤ i → sortI (keysL now (l.drop i) ks) = R →
    To En fEnds (.pure (.ret (.slice 1 (iv R) .no))) (.head (stk fEnds 0) [(1, .int .i64 now), (5, .slice 1 (kv ks) (.own 0 0)), (12, .slice 14 (rav l) .no), (13, .int .i64 ((rav l).length : Nat)), (14, .int .i64 i)] [.tail 0 1 105]) := by
  have hlen : (rav l).length = l.length := by simp
  have hl := hs.1
  intro n
  induction n with
  | zero =>
    intro i ks hi hk hR
    rw [List.drop_eq_nil_of_le (by omega)] at hR
    have hR : sortI ks = R := hR
    subst hR
    refine goes hEn 100 ?_
    conv => whnf
    refine And.intro (fun h => absurd (of_decide_eq_true h) (by omega)) (fun h => ?_)
    refine goes hEn 100 ?_
    conv => whnf
    refine To.part [9, 36, 37, 38] [1] rfl rfl rfl ?_
    exact ends2_loop ks (by omega) ks.length 0 [] (by omega) (by simp)
  | succ n ih =>
    intro i ks hi hk hR
    have hlt : i < l.length := by omega
    rw [List.drop_eq_getElem_cons hlt] at hR
    generalize hx : l[i] = x at hR
    have get : (rav l)[i]? = some x.av := (rav_get hlt).trans (by rw [hx])
    have hkl : (kv ks).length = ks.length := by simp
    unfold keysL at hR
    refine goes hEn 100 ?_
    conv => whnf
    refine And.intro (fun h => ?_) (fun h => absurd (of_decide_eq_false h) (by omega))
    refine goes hEn 100 ?_
    conv => whnf
    refine ⟨i, rfl, ?_⟩
    refine goes hEn 100 ?_
    conv => whnf
    refine ⟨_, get, ?_⟩
    refine goes hEn 100 ?_
    conv => whnf
    refine .pure _ [] (end_ok x) ?_
    refine goes hEn 100 ?_
    conv => whnf
    refine ⟨⟨by decide, by decide⟩, ?_⟩
    refine goes hEn 100 ?_
    conv => whnf
    refine And.intro (fun h1 => ?_) (fun h1 => ?_)
    · have h1 : decide (now < endR x) = true := h1
      refine goes hEn 100 ?_
      conv => whnf
      refine .pure _ [] (has_ok ks (endR x)) ?_
      refine goes hEn 100 ?_
      conv => whnf
      refine And.intro (fun h2 => ?_) (fun h2 => ?_)
      · have h2 : (!has ks (endR x)) = true := h2
        rw [h1, h2, if_pos (by decide)] at hR
        refine goes hEn 100 ?_
        conv => whnf
        refine And.intro (And.intro (by simp only [maxLen]; simp; omega) (by simp; omega)) ?_
        refine goes hEn 100 ?_
        conv => whnf
        refine Or.inl (And.intro (And.intro (by simp only [kmin]; omega) (by simp only [kmax]; omega)) ?_)
        refine goes hEn 100 ?_
        conv => whnf
        refine To.part [1, 5, 12, 13, 14] [0] rfl rfl rfl ?_
        have next := ih (i + 1) (ks ++ [endR x]) (by omega) (by simp; omega) hR
        have e : kv (ks ++ [endR x]) = kv ks ++ [kyv (endR x)] := by simp
        rw [e] at next
        exact next
      · have h2 : (!has ks (endR x)) = false := h2
        rw [h1, h2, if_neg (by decide)] at hR
        refine goes hEn 100 ?_
        conv => whnf
        refine Or.inl (And.intro (And.intro (by simp only [kmin]; omega) (by simp only [kmax]; omega)) ?_)
        refine goes hEn 100 ?_
        conv => whnf
        refine To.part [1, 5, 12, 13, 14] [0] rfl rfl rfl ?_
        exact ih (i + 1) ks (by omega) (by omega) hR
    · have h1 : decide (now < endR x) = false := h1
      rw [h1, Bool.false_and, if_neg (by decide)] at hR
      repeat' first
        | (refine goN hEn 100 rfl ?_; conv => whnf)
        | exact rfl
        | refine And.intro (fun _ => ?_) (fun h => absurd (show true = false from h) (by decide))
        | refine And.intro (fun h => absurd (show false = true from h) (by decide)) (fun _ => ?_)
        | refine And.intro (fun h => ?_) (fun h => absurd (of_decide_eq_false h) (by omega))
        | refine And.intro (fun h => absurd (of_decide_eq_true h) (by omega)) (fun h => ?_)
        | refine And.intro (fun h => ?_) (fun h => ?_)
        | refine Or.inl (And.intro (And.intro (by simp only [kmin]; omega) (by simp only [kmax]; omega)) ?_)
        | refine Exists.intro _ (And.intro rfl ?_)
        | refine And.intro (by decide) ?_
        | refine And.intro (by omega) ?_
        | fail
      refine To.part [1, 5, 12, 13, 14] [0] rfl rfl rfl ?_
      exact ih (i + 1) ks (by omega) (by omega) hR
def endsL (l : List Rn) (now : Int) : List Int := sortI (keysL now l [])
theorem ends_ok (l : List Rn) (hs : Sm l) (now : Int) : CallOK Try.prog 59 [.slice 14 (rav l) .no, ii now] [] (.ret (.slice 1 (iv (endsL l now)) .no)) [] := by
  refine CallOK.to (E := En) (fn := Try.f59) (g := .pure _) (by rfl) (by rfl) (by rfl) (fun _ _ => by rfl) (by decide +kernel) (by rfl) (by rfl) (by rfl) fun _ => ?_
  refine goes hEn 100 ?_
  conv => whnf
  refine To.part [1, 5, 12, 13, 14] [0] rfl rfl rfl ?_
  exact ends_loop l hs now _ l.length 0 [] (by omega) (by simp) rfl
end Go.Proofs.Ytlalcoklkafnnaa

namespace Go.Proofs.Ytlalcoklkafnnaa
open Go Go.AW Go.Proofs
set_option maxRecDepth 10000

/-- one more in a row in order, but for one that is there -/
def insU (n : Int) : List Int → List Int
  | [] => [n]
  | x :: r => if x < n then x :: insU n r else if x = n then x :: r else n :: x :: r
def rE (now : Int) : List Rn → List Int → List Int
  | [], out => out
  | x :: r, out => rE now r (if endR x ≤ now then out else insU (endR x) out)
theorem insU_len (n : Int) : ∀ (l : List Int), (insU n l).length ≤ l.length + 1
  | [] => by simp [insU]
  | x :: r => by
    have := insU_len n r
    unfold insU
    split
    · simp only [List.length_cons]; omega
    · split <;> simp
noncomputable abbrev fREnds : Func := Try.f27
noncomputable abbrev Ee : Env := Ex [5, 54] [] [58, 59, 60]
theorem hEe : EnvOK Ee := hEx _ _ _
abbrev reO : List AObj := [.tail 0 1 3]
def reF (l : List Rn) (now : Int) (out : List Int) (i : Nat) : List (Nat × AVal) := [(0, .slice 14 (rav l) .no), (1, .int .i64 now), (5, .slice 1 (iv out) (.own 0 0)), (6, .int .i64 i)]
theorem rends_inner (l : List Rn) (now : Int) (R : List Int) (i : Nat) (hi : i < 1048576) (n : Int) (out : List Int) (ho : out.length ≤ i) (rest : List Rn)
    (ih : ∀ (out' : List Int), out'.length ≤ i + 1 → rE now rest out' = R → To Ee fREnds (.pure (.ret (.slice 1 (iv R) .no))) (.head (stk fREnds 0) [(0, .slice 14 (rav l) .no), (1, .int .i64 now), (5, .slice 1 (iv out') (.own 0 0)), (6, .int .i64 ((i : Int) + 1))] reO))
    (hR : rE now rest (if n ≤ now then out else insU n out) = R) : ∀ (m k : Nat), k + m = out.length → insU n out = out.take k ++ insU n (out.drop k) →
    To Ee fREnds (.pure (.ret (.slice 1 (iv R) .no))) (.head (stk fREnds 1) [(0, .slice 14 (rav l) .no), (1, .int .i64 now), (5, .slice 1 (iv out) (.own 0 0)), (6, .int .i64 i), (7, .int .i64 n), (8, .int .i64 k)] reO) := by
  have hlo : (iv out).length = out.length := by simp
  intro m
  induction m with
  | zero =>
    intro k hk hins
    rw [List.drop_eq_nil_of_le (by omega), List.take_of_length_le (by omega)] at hins
    have hins : insU n out = out ++ [n] := hins
    have hd : List.drop k (iv out) = [] := List.drop_eq_nil_of_le (by omega)
    have ht : List.take k (iv out) = iv out := List.take_of_length_le (by omega)
    refine goes hEe 100 ?_
    conv => whnf
    refine And.intro (fun h => absurd (of_decide_eq_true h) (by omega)) (fun h => ?_)
    refine goes hEe 100 ?_
    conv => whnf
    refine And.intro (fun h => absurd (show false = true from h) (by decide)) (fun _ => ?_)
    refine goes hEe 100 ?_
    conv => whnf
    refine And.intro (fun h1 => ?_) (fun h1 => ?_)
    · have hnow := of_decide_eq_true h1
      repeat' first
        | (refine goN hEe 100 rfl ?_; conv => whnf)
        | exact rfl
        | refine And.intro (fun _ => ?_) (fun h => absurd (show true = false from h) (by decide))
        | refine And.intro (fun h => absurd (show false = true from h) (by decide)) (fun _ => ?_)
        | refine And.intro (fun h => ?_) (fun h => absurd (of_decide_eq_false h) (by omega))
        | refine And.intro (fun h => absurd (of_decide_eq_true h) (by omega)) (fun h => ?_)
        | refine And.intro (fun h => ?_) (fun h => ?_)
        | refine Or.inl (And.intro (And.intro (by simp only [kmin]; omega) (by simp only [kmax]; omega)) ?_)
        | refine Exists.intro _ (And.intro rfl ?_)
        | refine And.intro (by decide) ?_
        | refine And.intro (by omega) ?_
        | fail
      refine To.part [0, 1, 5, 6] [0] rfl rfl rfl ?_
      exact ih out (by omega) (by rw [if_pos hnow] at hR; exact hR)
    · have hnow := of_decide_eq_false h1
      refine goes hEe 100 ?_
      conv => whnf
      refine And.intro (fun h => absurd (of_decide_eq_true h) (by omega)) (fun h => ?_)
      refine goes hEe 100 ?_
      conv => whnf
      refine And.intro (fun h => absurd (show false = true from h) (by decide)) (fun _ => ?_)
      refine goes hEe 100 ?_
      conv => whnf
      refine ⟨k, rfl, ?_⟩
      refine goes hEe 100 ?_
      conv => whnf
      refine ⟨by omega, ?_⟩
      refine goes hEe 100 ?_
      conv => whnf
      refine And.intro (And.intro (by simp only [maxLen]; simp; omega) (by simp; omega)) ?_
      refine goes hEe 100 ?_
      conv => whnf
      refine And.intro (And.intro (by simp only [maxLen]; simp; omega) (by simp; omega)) ?_
      refine goes hEe 100 ?_
      conv => whnf
      refine ⟨k, rfl, ?_⟩
      refine goes hEe 100 ?_
      conv => whnf
      refine ⟨by omega, ?_⟩
      refine goes hEe 100 ?_
      conv => whnf
      refine And.intro (And.intro (by simp only [maxLen]; simp; omega) (by simp; omega)) ?_
      refine goes hEe 100 ?_
      conv => whnf
      refine Or.inl (And.intro (And.intro (by simp only [kmin]; omega) (by simp only [kmax]; omega)) ?_)
      refine goes hEe 100 ?_
      conv => whnf
      refine To.part [0, 1, 5, 6] [1] rfl rfl rfl ?_
      rw [if_neg hnow, hins] at hR
      have next := ih (out ++ [n]) (by simp; omega) hR
      have e : iv (out ++ [n]) = List.take k (iv out) ++ [ii n] ++ List.drop k (iv out) := by rw [hd, ht]; simp
      rw [e] at next
      exact next
  | succ m ihm =>
    intro k hk hins
    have hlt : k < out.length := by omega
    rw [List.drop_eq_getElem_cons hlt] at hins
    have htk : out.take k ++ [out[k]] = out.take (k + 1) := List.take_append_getElem hlt
    have hdk : out.drop k = out[k] :: out.drop (k + 1) := List.drop_eq_getElem_cons hlt
    generalize hx : out[k] = x at hins htk hdk
    have get : (iv out)[k]? = some (ii x) := (iv_get hlt).trans (by rw [hx])
    have hins : insU n out = out.take k ++ (if x < n then x :: insU n (out.drop (k + 1)) else if x = n then x :: out.drop (k + 1) else n :: x :: out.drop (k + 1)) := hins
    refine goes hEe 100 ?_
    conv => whnf
    refine And.intro (fun h => ?_) (fun h => absurd (of_decide_eq_false h) (by omega))
    refine goes hEe 100 ?_
    conv => whnf
    refine ⟨k, rfl, ?_⟩
    refine goes hEe 100 ?_
    conv => whnf
    refine ⟨_, get, ?_⟩
    refine goes hEe 100 ?_
    conv => whnf
    refine And.intro (fun h1 => ?_) (fun h1 => ?_)
    · have hxn := of_decide_eq_true h1
      rw [if_pos hxn] at hins
      refine goes hEe 100 ?_
      conv => whnf
      refine Or.inl (And.intro (And.intro (by simp only [kmin]; omega) (by simp only [kmax]; omega)) ?_)
      refine goes hEe 100 ?_
      conv => whnf
      refine To.part [0, 1, 5, 6, 7, 8] [0] rfl rfl rfl ?_
      exact ihm (k + 1) (by omega) (by rw [hins, ← htk, List.append_assoc]; rfl)
    · have hxn := of_decide_eq_false h1
      rw [if_neg hxn] at hins
      refine goes hEe 100 ?_
      conv => whnf
      refine And.intro (fun h2 => ?_) (fun h2 => ?_)
      · have hnow := of_decide_eq_true h2
        repeat' first
          | (refine goN hEe 100 rfl ?_; conv => whnf)
          | exact rfl
          | refine And.intro (fun _ => ?_) (fun h => absurd (show true = false from h) (by decide))
          | refine And.intro (fun h => absurd (show false = true from h) (by decide)) (fun _ => ?_)
          | refine And.intro (fun h => ?_) (fun h => absurd (of_decide_eq_false h) (by omega))
          | refine And.intro (fun h => absurd (of_decide_eq_true h) (by omega)) (fun h => ?_)
          | refine And.intro (fun h => ?_) (fun h => ?_)
          | refine Or.inl (And.intro (And.intro (by simp only [kmin]; omega) (by simp only [kmax]; omega)) ?_)
          | refine Exists.intro _ (And.intro rfl ?_)
          | refine And.intro (by decide) ?_
          | refine And.intro (by omega) ?_
          | fail
        refine To.part [0, 1, 5, 6] [0] rfl rfl rfl ?_
        exact ih out (by omega) (by rw [if_pos hnow] at hR; exact hR)
      · have hnow := of_decide_eq_false h2
        rw [if_neg hnow] at hR
        refine goes hEe 100 ?_
        conv => whnf
        refine And.intro (fun h => ?_) (fun h => absurd (of_decide_eq_false h) (by omega))
        refine goes hEe 100 ?_
        conv => whnf
        refine ⟨k, rfl, ?_⟩
        refine goes hEe 100 ?_
        conv => whnf
        refine ⟨_, get, ?_⟩
        refine goes hEe 100 ?_
        conv => whnf
        refine And.intro (fun h3 => ?_) (fun h3 => ?_)
        · have h3 : (x == n) = true := h3
          have h3 : x = n := by simpa using h3
          rw [if_pos h3] at hins
          have e : insU n out = out := by rw [hins, ← hdk, List.take_append_drop]
          rw [e] at hR
          repeat' first
            | (refine goN hEe 100 rfl ?_; conv => whnf)
            | exact rfl
            | refine And.intro (fun _ => ?_) (fun h => absurd (show true = false from h) (by decide))
            | refine And.intro (fun h => absurd (show false = true from h) (by decide)) (fun _ => ?_)
            | refine And.intro (fun h => ?_) (fun h => absurd (of_decide_eq_false h) (by omega))
            | refine And.intro (fun h => absurd (of_decide_eq_true h) (by omega)) (fun h => ?_)
            | refine And.intro (fun h => ?_) (fun h => ?_)
            | refine Or.inl (And.intro (And.intro (by simp only [kmin]; omega) (by simp only [kmax]; omega)) ?_)
            | refine Exists.intro _ (And.intro rfl ?_)
            | refine And.intro (by decide) ?_
            | refine And.intro (by omega) ?_
            | fail
          refine To.part [0, 1, 5, 6] [0] rfl rfl rfl ?_
          exact ih out (by omega) hR
        · have h3 : (x == n) = false := h3
          have h3 : ¬ x = n := by simpa using h3
          rw [if_neg h3, ← hdk] at hins
          refine goes hEe 100 ?_
          conv => whnf
          refine ⟨k, rfl, ?_⟩
          refine goes hEe 100 ?_
          conv => whnf
          refine ⟨by omega, ?_⟩
          refine goes hEe 100 ?_
          conv => whnf
          refine And.intro (And.intro (by simp only [maxLen]; simp; omega) (by simp; omega)) ?_
          refine goes hEe 100 ?_
          conv => whnf
          refine And.intro (And.intro (by simp only [maxLen]; simp; omega) (by simp; omega)) ?_
          refine goes hEe 100 ?_
          conv => whnf
          refine ⟨k, rfl, ?_⟩
          refine goes hEe 100 ?_
          conv => whnf
          refine ⟨by omega, ?_⟩
          refine goes hEe 100 ?_
          conv => whnf
          refine And.intro (And.intro (by simp only [maxLen]; simp; omega) (by simp; omega)) ?_
          refine goes hEe 100 ?_
          conv => whnf
          refine Or.inl (And.intro (And.intro (by simp only [kmin]; omega) (by simp only [kmax]; omega)) ?_)
          refine goes hEe 100 ?_
          conv => whnf
          refine To.part [0, 1, 5, 6] [1] rfl rfl rfl ?_
          rw [hins] at hR
          have next := ih (out.take k ++ n :: out.drop k) (by simp; omega) hR
          have e : iv (out.take k ++ n :: out.drop k) = List.take k (iv out) ++ [ii n] ++ List.drop k (iv out) := by simp
          rw [e] at next
          exact next
theorem rends_loop (l : List Rn) (hs : Sm l) (now : Int) (R : List Int) : ∀ (m i : Nat) (out : List Int), i + m = l.length → out.length ≤ i → rE now (l.drop i) out = R →
    To Ee fREnds (.pure (.ret (.slice 1 (iv R) .no))) (.head (stk fREnds 0) [(0, .slice 14 (rav l) .no), (1, .int .i64 now), (5, .slice 1 (iv out) (.own 0 0)), (6, .int .i64 i)] reO) := by
  have hlen : (rav l).length = l.length := by simp
  have hl := hs.1
  intro m
  induction m with
  | zero =>
    intro i out hi ho hR
    rw [List.drop_eq_nil_of_le (by omega)] at hR
    have hR : out = R := hR
    subst hR
    refine goes hEe 100 ?_
    conv => whnf
    refine And.intro (fun h => absurd (of_decide_eq_true h) (by omega)) (fun h => ?_)
    repeat' first
      | (refine goN hEe 100 rfl ?_; conv => whnf)
      | exact rfl
      | refine And.intro (fun _ => ?_) (fun h => absurd (show true = false from h) (by decide))
      | refine And.intro (fun h => absurd (show false = true from h) (by decide)) (fun _ => ?_)
      | refine And.intro (fun h => ?_) (fun h => absurd (of_decide_eq_false h) (by omega))
      | refine And.intro (fun h => absurd (of_decide_eq_true h) (by omega)) (fun h => ?_)
      | refine And.intro (fun h => ?_) (fun h => ?_)
      | refine Or.inl (And.intro (And.intro (by simp only [kmin]; omega) (by simp only [kmax]; omega)) ?_)
      | refine Exists.intro _ (And.intro rfl ?_)
      | refine And.intro (by decide) ?_
      | refine And.intro (by omega) ?_
      | fail
  | succ m ih =>
    intro i out hi ho hR
    have hlt : i < l.length := by omega
    rw [List.drop_eq_getElem_cons hlt] at hR
    generalize hx : l[i] = x at hR
    have get : (rav l)[i]? = some x.av := (rav_get hlt).trans (by rw [hx])
    unfold rE at hR
    refine goes hEe 100 ?_
    conv => whnf
    refine And.intro (fun h => ?_) (fun h => absurd (of_decide_eq_false h) (by omega))
    refine goes hEe 100 ?_
    conv => whnf
    refine ⟨i, rfl, ?_⟩
    refine goes hEe 100 ?_
    conv => whnf
    refine ⟨_, get, ?_⟩
    refine goes hEe 100 ?_
    conv => whnf
    refine .pure _ [] (rend_ok x) ?_
    refine goes hEe 100 ?_
    conv => whnf
    refine To.part [0, 1, 5, 6, 7, 8] [0] rfl rfl rfl ?_
    exact rends_inner l now R i (by omega) (endR x) out ho (l.drop (i + 1)) (fun out' h1 h2 => ih (i + 1) out' (by omega) h1 h2) hR out.length 0 (by omega) (by simp)
theorem rends_ok (l : List Rn) (hs : Sm l) (now : Int) : CallOK Try.prog 27 [.slice 14 (rav l) .no, ii now] [] (.ret (.slice 1 (iv (rE now l [])) .no)) [] := by
  refine CallOK.to (E := Ee) (fn := Try.f27) (g := .pure _) (by rfl) (by rfl) (by rfl) (fun _ _ => by rfl) (by decide +kernel) (by rfl) (by rfl) (by rfl) fun _ => ?_
  refine goes hEe 100 ?_
  conv => whnf
  refine To.part [0, 1, 5, 6] [0] rfl rfl rfl ?_
  exact rends_loop l hs now _ l.length 0 [] (by omega) (by simp) rfl
end Go.Proofs.Ytlalcoklkafnnaa

namespace Go.Proofs.Ytlalcoklkafnnaa
open Go Go.AW Go.Proofs
set_option maxRecDepth 10000

/-- the first of these times at which it fits -/
def stF (c : Con) (l : List Rn) (g : Gan) : List Int → Option Int
  | [] => none
  | t :: r => if (fitsL c (atL l t) g).isSome = true then some t else stF c l g r
def stA : Option Int → AVal
  | some t => .tup [ii t, .bool true]
  | none => .tup [ii 0, .bool false]
def startL (c : Con) (now : Int) (l : List Rn) (g : Gan) : Option Int := stF c l g (now :: endsL l now)
noncomputable abbrev fStart : Func := Try.f25
theorem start_loop (c : Con) (hc : c.sm) (now : Int) (l : List Rn) (hs : Sm l) (g : Gan) (hg : 0 ≤ g.pods ∧ g.pods ≤ 16) (es : List Int) (hes : es.length ≤ 1048576) (R : Option Int) : ∀ (m i : Nat), i + m = es.length + 1 → stF c l g ((now :: es).drop i) = R →
    To E fStart (.pure (.ret (stA R))) (.head (stk fStart 0) [(1, ii now), (2, .slice 14 (rav l) .no), (4, .ref 0 0), (7, .ref 1 0), (10, .slice 1 (iv es) .no), (21, .int .i64 (((iv es).length : Nat) + 1)), (22, ii i)] (fdObs c g)) := by
  have hlen : (iv es).length = es.length := by simp
  intro m
  induction m with
  | zero =>
    intro i hi hR
    rw [List.drop_eq_nil_of_le (by simp; omega)] at hR
    have hR : none = R := hR
    subst hR
    refine goes hE 100 ?_
    conv => whnf
    refine And.intro (fun h => absurd (of_decide_eq_true h) (by omega)) (fun h => ?_)
    repeat' first
      | (refine goN hE 100 rfl ?_; conv => whnf)
      | exact rfl
      | refine And.intro (fun _ => ?_) (fun h => absurd (show true = false from h) (by decide))
      | refine And.intro (fun h => absurd (show false = true from h) (by decide)) (fun _ => ?_)
      | refine And.intro (fun h => ?_) (fun h => absurd (of_decide_eq_false h) (by omega))
      | refine And.intro (fun h => absurd (of_decide_eq_true h) (by omega)) (fun h => ?_)
      | refine And.intro (fun h => ?_) (fun h => ?_)
      | refine Or.inl (And.intro (And.intro (by simp only [kmin]; omega) (by simp only [kmax]; omega)) ?_)
      | refine Exists.intro _ (And.intro rfl ?_)
      | refine And.intro (by decide) ?_
      | refine And.intro (by omega) ?_
      | fail
  | succ m ih =>
    intro i hi hR
    have hlt : i < (now :: es).length := by simp; omega
    rw [List.drop_eq_getElem_cons hlt] at hR
    have ih := ih (i + 1) (by omega)
    cases i with
    | zero =>
      have hR : stF c l g (now :: (now :: es).drop 1) = R := hR
      have hf := fits_ok c hc (atL l now) (atL_sm hs now) g hg
      have hat := at_ok l hs now
      unfold stF at hR
      generalize fitsL c (atL l now) g = Q at hR hf
      unfold fdA at hf
      generalize atL l now = al at hat hf
      refine goes hE 100 ?_
      conv => whnf
      refine And.intro (fun h => ?_) (fun h => absurd (of_decide_eq_false h) (by omega))
      refine goes hE 100 ?_
      conv => whnf
      refine And.intro (fun h => absurd (of_decide_eq_true h) (by omega)) (fun h => ?_)
      refine goes hE 100 ?_
      conv => whnf
      refine .pure _ [] hat ?_
      refine goes hE 100 ?_
      conv => whnf
      cases Q with
      | none =>
        rw [if_neg (by decide)] at hR
        have next := ih hR
        refine .pure _ [] hf ?_
        repeat' first
          | (refine goN hE 100 rfl ?_; conv => whnf)
          | exact rfl
          | refine And.intro (fun _ => ?_) (fun h => absurd (show true = false from h) (by decide))
          | refine And.intro (fun h => absurd (show false = true from h) (by decide)) (fun _ => ?_)
          | refine And.intro (fun h => ?_) (fun h => absurd (of_decide_eq_false h) (by omega))
          | refine And.intro (fun h => absurd (of_decide_eq_true h) (by omega)) (fun h => ?_)
          | refine And.intro (fun h => ?_) (fun h => ?_)
          | refine Or.inl (And.intro (And.intro (by simp only [kmin]; omega) (by simp only [kmax]; omega)) ?_)
          | refine Exists.intro _ (And.intro rfl ?_)
          | refine And.intro (by decide) ?_
          | refine And.intro (by omega) ?_
          | fail
        exact To.cut [1, 2, 4, 7, 10, 21, 22] 2 rfl rfl rfl rfl next
      | some x =>
        rw [if_pos (show (some x).isSome = true from rfl)] at hR
        subst hR
        refine .pure _ [] hf ?_
        repeat' first
          | (refine goN hE 100 rfl ?_; conv => whnf)
          | exact rfl
          | refine And.intro (fun _ => ?_) (fun h => absurd (show true = false from h) (by decide))
          | refine And.intro (fun h => absurd (show false = true from h) (by decide)) (fun _ => ?_)
          | refine And.intro (fun h => ?_) (fun h => absurd (of_decide_eq_false h) (by omega))
          | refine And.intro (fun h => absurd (of_decide_eq_true h) (by omega)) (fun h => ?_)
          | refine And.intro (fun h => ?_) (fun h => ?_)
          | refine Or.inl (And.intro (And.intro (by simp only [kmin]; omega) (by simp only [kmax]; omega)) ?_)
          | refine Exists.intro _ (And.intro rfl ?_)
          | refine And.intro (by decide) ?_
          | refine And.intro (by omega) ?_
          | fail
    | succ j =>
      have hj : j < es.length := by simp at hlt; omega
      have hR : stF c l g (es[j] :: (now :: es).drop (j + 1 + 1)) = R := hR
      have get : (iv es)[j]? = some (ii es[j]) := iv_get hj
      generalize es[j] = t at hR get
      have hf := fits_ok c hc (atL l t) (atL_sm hs t) g hg
      have hat := at_ok l hs t
      unfold stF at hR
      generalize fitsL c (atL l t) g = Q at hR hf
      unfold fdA at hf
      generalize atL l t = al at hat hf
      refine goes hE 100 ?_
      conv => whnf
      refine And.intro (fun h => ?_) (fun h => absurd (of_decide_eq_false h) (by omega))
      refine goes hE 100 ?_
      conv => whnf
      refine And.intro (fun h => ?_) (fun h => absurd (of_decide_eq_false h) (by omega))
      refine goes hE 100 ?_
      conv => whnf
      refine Or.inl (And.intro (And.intro (by simp only [kmin]; omega) (by simp only [kmax]; omega)) ?_)
      refine goes hE 100 ?_
      conv => whnf
      refine ⟨j, by omega, ?_⟩
      refine goes hE 100 ?_
      conv => whnf
      refine ⟨_, get, ?_⟩
      refine goes hE 100 ?_
      conv => whnf
      refine .pure _ [] hat ?_
      refine goes hE 100 ?_
      conv => whnf
      cases Q with
      | none =>
        rw [if_neg (by decide)] at hR
        have next := ih hR
        refine .pure _ [] hf ?_
        repeat' first
          | (refine goN hE 100 rfl ?_; conv => whnf)
          | exact rfl
          | refine And.intro (fun _ => ?_) (fun h => absurd (show true = false from h) (by decide))
          | refine And.intro (fun h => absurd (show false = true from h) (by decide)) (fun _ => ?_)
          | refine And.intro (fun h => ?_) (fun h => absurd (of_decide_eq_false h) (by omega))
          | refine And.intro (fun h => absurd (of_decide_eq_true h) (by omega)) (fun h => ?_)
          | refine And.intro (fun h => ?_) (fun h => ?_)
          | refine Or.inl (And.intro (And.intro (by simp only [kmin]; omega) (by simp only [kmax]; omega)) ?_)
          | refine Exists.intro _ (And.intro rfl ?_)
          | refine And.intro (by decide) ?_
          | refine And.intro (by omega) ?_
          | fail
        exact To.cut [1, 2, 4, 7, 10, 21, 22] 2 rfl rfl rfl rfl next
      | some x =>
        rw [if_pos (show (some x).isSome = true from rfl)] at hR
        subst hR
        refine .pure _ [] hf ?_
        repeat' first
          | (refine goN hE 100 rfl ?_; conv => whnf)
          | exact rfl
          | refine And.intro (fun _ => ?_) (fun h => absurd (show true = false from h) (by decide))
          | refine And.intro (fun h => absurd (show false = true from h) (by decide)) (fun _ => ?_)
          | refine And.intro (fun h => ?_) (fun h => absurd (of_decide_eq_false h) (by omega))
          | refine And.intro (fun h => absurd (of_decide_eq_true h) (by omega)) (fun h => ?_)
          | refine And.intro (fun h => ?_) (fun h => ?_)
          | refine Or.inl (And.intro (And.intro (by simp only [kmin]; omega) (by simp only [kmax]; omega)) ?_)
          | refine Exists.intro _ (And.intro rfl ?_)
          | refine And.intro (by decide) ?_
          | refine And.intro (by omega) ?_
          | fail
theorem start_ok (c : Con) (hc : c.sm) (now : Int) (l : List Rn) (hs : Sm l) (g : Gan) (hg : 0 ≤ g.pods ∧ g.pods ≤ 16) : CallOK Try.prog 25 [c.av, ii now, .slice 14 (rav l) .no, g.av] [] (.ret (stA (startL c now l g))) [] := by
  have hel : (endsL l now).length ≤ 1048576 := by
    unfold endsL sortI
    rw [List.length_mergeSort]
    have := keysL_len now l []
    have := hs.1
    simp at *
    omega
  have he := ends_ok l hs now
  unfold startL
  generalize endsL l now = es at hel he
  have hlen : (iv es).length = es.length := by simp
  refine CallOK.to (E := E) (fn := Try.f25) (g := .pure _) (by rfl) (by rfl) (by rfl) (fun _ _ => by rfl) (by decide +kernel) (by rfl) (by rfl) (by rfl) fun _ => ?_
  refine goes hE 100 ?_
  conv => whnf
  refine .pure _ [] he ?_
  refine goes hE 100 ?_
  conv => whnf
  refine Or.inl (And.intro (And.intro (by simp only [kmin]; omega) (by simp only [kmax]; omega)) ?_)
  refine goes hE 100 ?_
  conv => whnf
  exact To.cut [1, 2, 4, 7, 10, 21, 22] 2 rfl rfl rfl rfl (start_loop c hc now l hs g hg es hel _ (es.length + 1) 0 (by omega) rfl)
end Go.Proofs.Ytlalcoklkafnnaa

namespace Go.Proofs.Ytlalcoklkafnnaa
open Go Go.AW Go.Proofs
set_option maxRecDepth 10000

def bmB (now : Int) (g : Gan) (t : Int) : Bool := decide (endR ⟨g, 0, 0, now, 0, []⟩ ≤ t)
theorem bmay_any (now : Int) (g : Gan) (t : Int) (b : Bool) (hb : bmB now g t = b) : CallOK Try.prog 30 [ii now, g.av, ii t] [] (.ret (.bool b)) [] := by
  have he := end_ok ⟨g, 0, 0, now, 0, []⟩
  unfold bmB at hb
  generalize endR ⟨g, 0, 0, now, 0, []⟩ = x at hb he
  subst hb
  refine CallOK.to (E := E) (fn := Try.f30) (g := .pure _) (by rfl) (by rfl) (by rfl) (fun _ _ => by rfl) (by decide +kernel) (by rfl) (by rfl) (by rfl) fun _ => ?_
  repeat' first
    | (refine goN hE 100 rfl ?_; conv => whnf)
    | refine .pure _ [] he ?_
    | exact rfl
    | refine And.intro (fun _ => ?_) (fun h => absurd (show true = false from h) (by decide))
    | refine And.intro (fun h => absurd (show false = true from h) (by decide)) (fun _ => ?_)
    | refine And.intro (fun h => ?_) (fun h => absurd (of_decide_eq_false h) (by omega))
    | refine And.intro (fun h => absurd (of_decide_eq_true h) (by omega)) (fun h => ?_)
    | refine And.intro (fun h => ?_) (fun h => ?_)
    | refine Or.inl (And.intro (And.intro (by simp only [kmin]; omega) (by simp only [kmax]; omega)) ?_)
    | refine Exists.intro _ (And.intro rfl ?_)
    | refine And.intro (by decide) ?_
    | refine And.intro (by omega) ?_
    | fail
theorem bmay_ok (now : Int) (g : Gan) (t : Int) : CallOK Try.prog 30 [ii now, g.av, ii t] [] (.ret (.bool (bmB now g t))) [] := bmay_any now g t _ rfl
theorem rmay_any (now : Int) (g : Gan) (t : Int) (b : Bool) (hb : bmB now g t = b) : CallOK Try.prog 31 [ii now, g.av, ii t] [] (.ret (.bool b)) [] := by
  have he := rend_ok ⟨g, 0, 0, now, 0, []⟩
  unfold bmB at hb
  generalize endR ⟨g, 0, 0, now, 0, []⟩ = x at hb he
  subst hb
  refine CallOK.to (E := E) (fn := Try.f31) (g := .pure _) (by rfl) (by rfl) (by rfl) (fun _ _ => by rfl) (by decide +kernel) (by rfl) (by rfl) (by rfl) fun _ => ?_
  repeat' first
    | (refine goN hE 100 rfl ?_; conv => whnf)
    | refine .pure _ [] he ?_
    | exact rfl
    | refine And.intro (fun _ => ?_) (fun h => absurd (show true = false from h) (by decide))
    | refine And.intro (fun h => absurd (show false = true from h) (by decide)) (fun _ => ?_)
    | refine And.intro (fun h => ?_) (fun h => absurd (of_decide_eq_false h) (by omega))
    | refine And.intro (fun h => absurd (of_decide_eq_true h) (by omega)) (fun h => ?_)
    | refine And.intro (fun h => ?_) (fun h => ?_)
    | refine Or.inl (And.intro (And.intro (by simp only [kmin]; omega) (by simp only [kmax]; omega)) ?_)
    | refine Exists.intro _ (And.intro rfl ?_)
    | refine And.intro (by decide) ?_
    | refine And.intro (by omega) ?_
    | fail
theorem rmay_ok (now : Int) (g : Gan) (t : Int) : CallOK Try.prog 31 [ii now, g.av, ii t] [] (.ret (.bool (bmB now g t))) [] := rmay_any now g t _ rfl
theorem clipR_ok (l : List Rn) (hl : l.length ≤ 1048576) : CallOK Try.prog 92 [.slice 14 (rav l) .no] [] (.ret (.slice 14 (rav l) .full)) [] := by
  have hlen : (rav l).length = l.length := by simp
  refine CallOK.to (E := E) (fn := Try.f92) (g := .pure _) (by rfl) (by rfl) (by rfl) (fun _ _ => by rfl) (by decide +kernel) (by rfl) (by rfl) (by rfl) fun _ => ?_
  refine goes hE 100 ?_
  conv => whnf
  refine ⟨(rav l).length, rfl, ?_⟩
  refine goes hE 100 ?_
  conv => whnf
  refine ⟨(rav l).length, rfl, ?_⟩
  refine goes hE 100 ?_
  conv => whnf
  refine ⟨⟨Nat.le_refl _, rfl⟩, ?_⟩
  refine goes hE 100 ?_
  conv => whnf
  rw [List.take_length]
def laterL (c : Con) (now : Int) (l : List Rn) (g : Gan) (x : Rn) : Bool :=
  match startL c now l g with
  | none => false
  | some t => match startL c now (l ++ [x]) g with
    | none => true
    | some u => decide (t < u)
theorem vstart_ok (c : Con) (hc : c.sm) (now : Int) (l : List Rn) (hs : Sm l) (g : Gan) (hg : 0 ≤ g.pods ∧ g.pods ≤ 16) : CallOK Try.prog 91 [.agg [.slice 11 (nav c.ns) .no, .slice 6 (hav c.hs) .no, ii c.half, ii c.age, ii now, .slice 14 (rav l) .no], g.av] [] (.ret (stA (startL c now l g))) [] := by
  have hst := start_ok c hc now l hs g hg
  generalize startL c now l g = Q at hst
  unfold stA at hst ⊢
  cases Q with
  | none =>
    refine CallOK.to (E := E) (fn := Try.f91) (g := .pure _) (by rfl) (by rfl) (by rfl) (fun _ _ => by rfl) (by decide +kernel) (by rfl) (by rfl) (by rfl) fun _ => ?_
    repeat' first
      | (refine goN hE 100 rfl ?_; conv => whnf)
      | refine .pure _ [] hst ?_
      | exact rfl
      | refine And.intro (fun _ => ?_) (fun h => absurd (show true = false from h) (by decide))
      | refine And.intro (fun h => absurd (show false = true from h) (by decide)) (fun _ => ?_)
      | refine And.intro (fun h => ?_) (fun h => absurd (of_decide_eq_false h) (by omega))
      | refine And.intro (fun h => absurd (of_decide_eq_true h) (by omega)) (fun h => ?_)
      | refine And.intro (fun h => ?_) (fun h => ?_)
      | refine Or.inl (And.intro (And.intro (by simp only [kmin]; omega) (by simp only [kmax]; omega)) ?_)
      | refine Exists.intro _ (And.intro rfl ?_)
      | refine And.intro (by decide) ?_
      | refine And.intro (by omega) ?_
      | fail
  | some t =>
    refine CallOK.to (E := E) (fn := Try.f91) (g := .pure _) (by rfl) (by rfl) (by rfl) (fun _ _ => by rfl) (by decide +kernel) (by rfl) (by rfl) (by rfl) fun _ => ?_
    repeat' first
      | (refine goN hE 100 rfl ?_; conv => whnf)
      | refine .pure _ [] hst ?_
      | exact rfl
      | refine And.intro (fun _ => ?_) (fun h => absurd (show true = false from h) (by decide))
      | refine And.intro (fun h => absurd (show false = true from h) (by decide)) (fun _ => ?_)
      | refine And.intro (fun h => ?_) (fun h => absurd (of_decide_eq_false h) (by omega))
      | refine And.intro (fun h => absurd (of_decide_eq_true h) (by omega)) (fun h => ?_)
      | refine And.intro (fun h => ?_) (fun h => ?_)
      | refine Or.inl (And.intro (And.intro (by simp only [kmin]; omega) (by simp only [kmax]; omega)) ?_)
      | refine Exists.intro _ (And.intro rfl ?_)
      | refine And.intro (by decide) ?_
      | refine And.intro (by omega) ?_
      | fail
theorem later_any (c : Con) (hc : c.sm) (now : Int) (l : List Rn) (hs : Sm l) (hl2 : l.length ≤ 1000000) (g : Gan) (hg : 0 ≤ g.pods ∧ g.pods ≤ 16) (x : Rn) (hx : x.hs.length ≤ 1048576) (b : Bool) (hb : laterL c now l g x = b) : CallOK Try.prog 66 [c.av, ii now, .slice 14 (rav l) .no, g.av, x.av] [] (.ret (.bool b)) [] := by
  have hcl := clipR_ok l hs.1
  have hs2 : Sm (l ++ [x]) := ⟨by simp; omega, fun y hy => by
    rcases List.mem_append.1 hy with hy | hy
    · exact hs.2 y hy
    · simp at hy; subst hy; exact hx⟩
  have h1 := vstart_ok c hc now l hs g hg
  have h2 := vstart_ok c hc now (l ++ [x]) hs2 g hg
  have e : rav (l ++ [x]) = rav l ++ [x.av] := by simp
  rw [e] at h2
  have hlen : (rav l).length = l.length := by simp
  unfold laterL at hb
  generalize startL c now l g = Q1 at h1 hb
  generalize startL c now (l ++ [x]) g = Q2 at h2 hb
  unfold stA at h1 h2
  cases Q1 with
  | none =>
    have hb : false = b := hb
    subst hb
    cases Q2 with
    | none =>
      refine CallOK.to (E := E) (fn := Try.f66) (g := .pure _) (by rfl) (by rfl) (by rfl) (fun _ _ => by rfl) (by decide +kernel) (by rfl) (by rfl) (by rfl) fun _ => ?_
      repeat' first
        | (refine goN hE 100 rfl ?_; conv => whnf)
        | refine .pure _ [] hcl ?_
        | refine And.intro (And.intro (by show (rav l).length + 1 ≤ _; simp only [maxLen]; omega) (by show ((rav l).length + 1) * 128 ≤ _; omega)) ?_
        | refine .pure _ [] h1 ?_
        | refine .pure _ [] h2 ?_
        | exact rfl
        | refine And.intro (fun _ => ?_) (fun h => absurd (show true = false from h) (by decide))
        | refine And.intro (fun h => absurd (show false = true from h) (by decide)) (fun _ => ?_)
        | refine And.intro (fun h => ?_) (fun h => absurd (of_decide_eq_false h) (by omega))
        | refine And.intro (fun h => absurd (of_decide_eq_true h) (by omega)) (fun h => ?_)
        | refine And.intro (fun h => ?_) (fun h => ?_)
        | refine Or.inl (And.intro (And.intro (by simp only [kmin]; omega) (by simp only [kmax]; omega)) ?_)
        | refine Exists.intro _ (And.intro rfl ?_)
        | refine And.intro (by decide) ?_
        | refine And.intro (by omega) ?_
        | fail
    | some u =>
      refine CallOK.to (E := E) (fn := Try.f66) (g := .pure _) (by rfl) (by rfl) (by rfl) (fun _ _ => by rfl) (by decide +kernel) (by rfl) (by rfl) (by rfl) fun _ => ?_
      repeat' first
        | (refine goN hE 100 rfl ?_; conv => whnf)
        | refine .pure _ [] hcl ?_
        | refine And.intro (And.intro (by show (rav l).length + 1 ≤ _; simp only [maxLen]; omega) (by show ((rav l).length + 1) * 128 ≤ _; omega)) ?_
        | refine .pure _ [] h1 ?_
        | refine .pure _ [] h2 ?_
        | exact rfl
        | refine And.intro (fun _ => ?_) (fun h => absurd (show true = false from h) (by decide))
        | refine And.intro (fun h => absurd (show false = true from h) (by decide)) (fun _ => ?_)
        | refine And.intro (fun h => ?_) (fun h => absurd (of_decide_eq_false h) (by omega))
        | refine And.intro (fun h => absurd (of_decide_eq_true h) (by omega)) (fun h => ?_)
        | refine And.intro (fun h => ?_) (fun h => ?_)
        | refine Or.inl (And.intro (And.intro (by simp only [kmin]; omega) (by simp only [kmax]; omega)) ?_)
        | refine Exists.intro _ (And.intro rfl ?_)
        | refine And.intro (by decide) ?_
        | refine And.intro (by omega) ?_
        | fail
  | some t =>
    cases Q2 with
    | none =>
      have hb : true = b := hb
      subst hb
      refine CallOK.to (E := E) (fn := Try.f66) (g := .pure _) (by rfl) (by rfl) (by rfl) (fun _ _ => by rfl) (by decide +kernel) (by rfl) (by rfl) (by rfl) fun _ => ?_
      repeat' first
        | (refine goN hE 100 rfl ?_; conv => whnf)
        | refine .pure _ [] hcl ?_
        | refine And.intro (And.intro (by show (rav l).length + 1 ≤ _; simp only [maxLen]; omega) (by show ((rav l).length + 1) * 128 ≤ _; omega)) ?_
        | refine .pure _ [] h1 ?_
        | refine .pure _ [] h2 ?_
        | exact rfl
        | refine And.intro (fun _ => ?_) (fun h => absurd (show true = false from h) (by decide))
        | refine And.intro (fun h => absurd (show false = true from h) (by decide)) (fun _ => ?_)
        | refine And.intro (fun h => ?_) (fun h => absurd (of_decide_eq_false h) (by omega))
        | refine And.intro (fun h => absurd (of_decide_eq_true h) (by omega)) (fun h => ?_)
        | refine And.intro (fun h => ?_) (fun h => ?_)
        | refine Or.inl (And.intro (And.intro (by simp only [kmin]; omega) (by simp only [kmax]; omega)) ?_)
        | refine Exists.intro _ (And.intro rfl ?_)
        | refine And.intro (by decide) ?_
        | refine And.intro (by omega) ?_
        | fail
    | some u =>
      have hb : decide (t < u) = b := hb
      subst hb
      refine CallOK.to (E := E) (fn := Try.f66) (g := .pure _) (by rfl) (by rfl) (by rfl) (fun _ _ => by rfl) (by decide +kernel) (by rfl) (by rfl) (by rfl) fun _ => ?_
      repeat' first
        | (refine goN hE 100 rfl ?_; conv => whnf)
        | refine .pure _ [] hcl ?_
        | refine And.intro (And.intro (by show (rav l).length + 1 ≤ _; simp only [maxLen]; omega) (by show ((rav l).length + 1) * 128 ≤ _; omega)) ?_
        | refine .pure _ [] h1 ?_
        | refine .pure _ [] h2 ?_
        | exact rfl
        | refine And.intro (fun _ => ?_) (fun h => absurd (show true = false from h) (by decide))
        | refine And.intro (fun h => absurd (show false = true from h) (by decide)) (fun _ => ?_)
        | refine And.intro (fun h => ?_) (fun h => absurd (of_decide_eq_false h) (by omega))
        | refine And.intro (fun h => absurd (of_decide_eq_true h) (by omega)) (fun h => ?_)
        | refine And.intro (fun h => ?_) (fun h => ?_)
        | refine Or.inl (And.intro (And.intro (by simp only [kmin]; omega) (by simp only [kmax]; omega)) ?_)
        | refine Exists.intro _ (And.intro rfl ?_)
        | refine And.intro (by decide) ?_
        | refine And.intro (by omega) ?_
        | fail
theorem later_ok (c : Con) (hc : c.sm) (now : Int) (l : List Rn) (hs : Sm l) (hl2 : l.length ≤ 1000000) (g : Gan) (hg : 0 ≤ g.pods ∧ g.pods ≤ 16) (x : Rn) (hx : x.hs.length ≤ 1048576) : CallOK Try.prog 66 [c.av, ii now, .slice 14 (rav l) .no, g.av, x.av] [] (.ret (.bool (laterL c now l g x))) [] := later_any c hc now l hs hl2 g hg x hx _ rfl
end Go.Proofs.Ytlalcoklkafnnaa

namespace Go.Proofs.Ytlalcoklkafnnaa
open Go Go.AW Go.Proofs
set_option maxRecDepth 10000

def c20 : Con := ⟨[⟨-1, 1, ⟨4, 4, 4⟩, V3.zero, V3.zero⟩], [⟨0, 0, 0, ⟨4, 4, 4⟩⟩], 1, 0⟩
def g20 : Gan := ⟨1, 0, 1, ⟨4, 4, 4⟩, 9, 0, 0⟩
def r20 : Rn := ⟨g20, 0, 0, 5, 0, [0]⟩
theorem ends_nil (now : Int) : endsL [] now = [] := by
  unfold endsL sortI keysL
  simp
theorem r20_ends : endsL [r20] 5 = [14] := by
  unfold endsL sortI
  rw [show keysL 5 [r20] [] = [14] from by decide +kernel]
  simp
theorem c20_start : startL c20 5 [] g20 = some 5 := by
  unfold startL
  rw [ends_nil]
  decide +kernel
theorem c20_start2 : startL c20 5 [r20] g20 = some 14 := by
  unfold startL
  rw [r20_ends]
  decide +kernel
theorem c20_later : laterL c20 5 [] g20 r20 = true := by
  unfold laterL
  rw [c20_start]
  show (match startL c20 5 [r20] g20 with | none => true | some u => decide (5 < u)) = true
  rw [c20_start2]
  decide
theorem c20_sm : c20.sm := ⟨by decide, by decide⟩
theorem CallOK.nil3 {P : Program} {f : FuncId} {a b : AVal} {qs : List AVal} {sz : Nat} {obs obs' : List AObj} {r : Res} (h : CallOK P f (a :: b :: .slice sz [] .no :: qs) obs r obs') : CallOK P f (a :: b :: .nilslice :: qs) obs r obs' :=
  fun M ob w vargs hm hr => h M ob w vargs hm ⟨hr.1, fun i v x hv hx => by
    match i with
    | 0 => exact hr.2 0 v x hv hx
    | 1 => exact hr.2 1 v x hv hx
    | 2 =>
      have hx : AVal.slice sz [] .no = x := by simpa using hx
      subst hx
      have := hr.2 2 v .nilslice hv rfl
      cases this
      exact .slnil _ _ trivial
    | i + 3 => exact hr.2 (i + 3) v x hv hx⟩
theorem awake20_ok : CallOK Try.prog 32 [] [] (.ret (.bool true)) [] := by
  have hl := later_ok c20 c20_sm 5 [] ⟨by decide, fun x h => by simp at h⟩ (by decide) g20 (by decide) r20 (by decide)
  rw [c20_later] at hl
  have m1 := bmay_ok 5 ⟨0, 0, 0, V3.zero, 3, 0, 0⟩ 8
  rw [show bmB 5 ⟨0, 0, 0, V3.zero, 3, 0, 0⟩ 8 = true from by decide +kernel] at m1
  have m2 := bmay_ok 5 ⟨0, 0, 0, V3.zero, 4, 0, 0⟩ 8
  rw [show bmB 5 ⟨0, 0, 0, V3.zero, 4, 0, 0⟩ 8 = false from by decide +kernel] at m2
  refine CallOK.to (E := E) (fn := Try.f32) (g := .pure _) (by rfl) (by rfl) (by rfl) (fun _ _ => by rfl) (by decide +kernel) (by rfl) (by rfl) (by rfl) fun _ => ?_
  repeat' first
    | (refine goN hE 100 rfl ?_; conv => whnf)
    | refine .pure _ [] m1 ?_
    | refine .pure _ [] m2 ?_
    | refine .pure _ [] (CallOK.strip (CallOK.nil3 hl)) ?_
    | exact rfl
    | refine And.intro (fun _ => ?_) (fun h => absurd (show true = false from h) (by decide))
    | refine And.intro (fun h => absurd (show false = true from h) (by decide)) (fun _ => ?_)
    | refine And.intro (fun h => ?_) (fun h => absurd (of_decide_eq_false h) (by omega))
    | refine And.intro (fun h => absurd (of_decide_eq_true h) (by omega)) (fun h => ?_)
    | refine And.intro (fun h => ?_) (fun h => ?_)
    | refine Or.inl (And.intro (And.intro (by simp only [kmin]; omega) (by simp only [kmax]; omega)) ?_)
    | refine Exists.intro _ (And.intro rfl ?_)
    | refine And.intro (by decide) ?_
    | refine And.intro (by omega) ?_
    | fail
end Go.Proofs.Ytlalcoklkafnnaa

namespace Go.Proofs.Ytlalcoklkafnnaa
open Go Go.AW Go.Proofs
set_option maxRecDepth 10000

theorem mays_ok (now : Int) (g : Gan) (t : Int) : CallOK Try.prog 7 [ii now, g.av, ii t] [] (.ret (.bool true)) [] := by
  have h1 := bmay_ok now g t
  have h2 := rmay_ok now g t
  generalize bmB now g t = b at h1 h2
  cases b with
  | false =>
    refine CallOK.to (E := E) (fn := Try.f7) (g := .pure _) (by rfl) (by rfl) (by rfl) (fun _ _ => by rfl) (by decide +kernel) (by rfl) (by rfl) (by rfl) fun _ => ?_
    repeat' first
      | (refine goN hE 100 rfl ?_; conv => whnf)
      | refine .pure _ [] h1 ?_
      | refine .pure _ [] h2 ?_
      | refine .pure _ [] awake20_ok ?_
      | exact rfl
      | refine And.intro (fun _ => ?_) (fun h => absurd (show true = false from h) (by decide))
      | refine And.intro (fun h => absurd (show false = true from h) (by decide)) (fun _ => ?_)
      | refine And.intro (fun h => ?_) (fun h => absurd (of_decide_eq_false h) (by omega))
      | refine And.intro (fun h => absurd (of_decide_eq_true h) (by omega)) (fun h => ?_)
      | refine And.intro (fun h => ?_) (fun h => ?_)
      | refine Or.inl (And.intro (And.intro (by simp only [kmin]; omega) (by simp only [kmax]; omega)) ?_)
      | refine Exists.intro _ (And.intro rfl ?_)
      | refine And.intro (by decide) ?_
      | refine And.intro (by omega) ?_
      | fail
  | true =>
    refine CallOK.to (E := E) (fn := Try.f7) (g := .pure _) (by rfl) (by rfl) (by rfl) (fun _ _ => by rfl) (by decide +kernel) (by rfl) (by rfl) (by rfl) fun _ => ?_
    repeat' first
      | (refine goN hE 100 rfl ?_; conv => whnf)
      | refine .pure _ [] h1 ?_
      | refine .pure _ [] h2 ?_
      | refine .pure _ [] awake20_ok ?_
      | exact rfl
      | refine And.intro (fun _ => ?_) (fun h => absurd (show true = false from h) (by decide))
      | refine And.intro (fun h => absurd (show false = true from h) (by decide)) (fun _ => ?_)
      | refine And.intro (fun h => ?_) (fun h => absurd (of_decide_eq_false h) (by omega))
      | refine And.intro (fun h => absurd (of_decide_eq_true h) (by omega)) (fun h => ?_)
      | refine And.intro (fun h => ?_) (fun h => ?_)
      | refine Or.inl (And.intro (And.intro (by simp only [kmin]; omega) (by simp only [kmax]; omega)) ?_)
      | refine Exists.intro _ (And.intro rfl ?_)
      | refine And.intro (by decide) ?_
      | refine And.intro (by omega) ?_
      | fail
theorem tdiv_abs (a : Int) : (Int.tdiv a 2).natAbs ≤ a.natAbs / 2 := by
  rw [Int.natAbs_tdiv]
  exact Nat.le_refl _
theorem short_r (now : Int) (g : Gan) (t : Int) (M : Imm) (ob : Hs) (vs : List Value) (h : RepL M ob vs [ii now, g.av, ii t]) : inR .i64 g.run ∧ inR .i64 t := by
  have hl : vs.length = 3 := h.1
  have h1 := h.2 1 _ g.av (List.getElem?_eq_getElem (by omega)) rfl
  have h2 := h.2 2 _ (ii t) (List.getElem?_eq_getElem (by omega)) rfl
  exact ⟨rep_agg_at h1 6 _ rfl, h2.okA⟩
theorem bmB_short {now : Int} {g : Gan} {t : Int} (hr : 0 ≤ g.run) (h : bmB now g t = true) : bmB now { g with run := Int.tdiv g.run 2 } t = true := by
  have h3 : 0 ≤ Int.tdiv g.run 2 := Int.tdiv_nonneg hr (by omega)
  have h4 : Int.tdiv g.run 2 ≤ g.run := by
    have h5 := tdiv_abs g.run
    omega
  unfold bmB at h ⊢
  have h := of_decide_eq_true h
  refine decide_eq_true ?_
  unfold endR at h ⊢
  dsimp only at h ⊢
  split at h <;> split <;> (try split at h) <;> (try split) <;> omega
theorem bmB_next {now : Int} {g : Gan} {t : Int} (h : bmB now g t = true) : bmB now g (t + 1) = true := by
  unfold bmB at h ⊢
  have h := of_decide_eq_true h
  exact decide_eq_true (by omega)
theorem shorter_ok (now : Int) (g : Gan) (t : Int) : CallOK Try.prog 8 [ii now, g.av, ii t] [] (.ret (.bool true)) [] := by
  refine CallOK.get _ (short_r now g t) fun ⟨⟨r1, r2⟩, ⟨t1, t2⟩⟩ => ?_
  simp only [kmin, kmax] at r1 r2 t1 t2
  have htd : inR .i64 (Int.tdiv g.run 2) := by
    have := tdiv_abs g.run
    exact in64 (by omega) (by omega)
  have h1 := bmay_ok now g t
  cases hb : bmB now g t with
  | false =>
    rw [hb] at h1
    refine CallOK.to (E := E) (fn := Try.f8) (g := .pure _) (by rfl) (by rfl) (by rfl) (fun _ _ => by rfl) (by decide +kernel) (by rfl) (by rfl) (by rfl) fun _ => ?_
    repeat' first
      | (refine goN hE 100 rfl ?_; conv => whnf)
      | refine .pure _ [] h1 ?_
      | refine .pure _ [] awake20_ok ?_
      | exact rfl
      | refine And.intro (fun _ => ?_) (fun h => absurd (show true = false from h) (by decide))
      | refine And.intro (fun h => absurd (show false = true from h) (by decide)) (fun _ => ?_)
      | refine And.intro (fun h => ?_) (fun h => absurd (of_decide_eq_false h) (by omega))
      | refine And.intro (fun h => absurd (of_decide_eq_true h) (by omega)) (fun h => ?_)
      | refine And.intro (fun h => ?_) (fun h => ?_)
      | refine Or.inl (And.intro (And.intro (by simp only [kmin]; omega) (by simp only [kmax]; omega)) ?_)
      | refine Exists.intro _ (And.intro rfl ?_)
      | refine And.intro (by decide) ?_
      | refine And.intro (by omega) ?_
      | fail
  | true =>
    rw [hb] at h1
    have h3 := bmay_ok now g (t + 1)
    rw [bmB_next hb] at h3
    by_cases hr : g.run < 0
    · refine CallOK.to (E := E) (fn := Try.f8) (g := .pure _) (by rfl) (by rfl) (by rfl) (fun _ _ => by rfl) (by decide +kernel) (by rfl) (by rfl) (by rfl) fun _ => ?_
      repeat' first
        | (refine goN hE 100 rfl ?_; conv => whnf)
        | refine Or.inl (And.intro htd ?_)
        | refine Or.inl (And.intro (by have := of_decide_eq_true (show decide (t < 4611686018427387904) = true from by assumption); exact in64 (by omega) (by omega)) ?_)
        | refine .pure _ [] h1 ?_
        | refine .pure _ [] h3 ?_
        | refine .pure _ [] awake20_ok ?_
        | exact rfl
        | refine And.intro (fun _ => ?_) (fun h => absurd (show true = false from h) (by decide))
        | refine And.intro (fun h => absurd (show false = true from h) (by decide)) (fun _ => ?_)
        | refine And.intro (fun h => ?_) (fun h => absurd (of_decide_eq_false h) (by omega))
        | refine And.intro (fun h => absurd (of_decide_eq_true h) (by omega)) (fun h => ?_)
        | refine And.intro (fun h => ?_) (fun h => ?_)
        | refine Or.inl (And.intro (And.intro (by simp only [kmin]; omega) (by simp only [kmax]; omega)) ?_)
        | refine Exists.intro _ (And.intro rfl ?_)
        | refine And.intro (by decide) ?_
        | refine And.intro (by omega) ?_
        | fail
    · have h2 := bmay_ok now { g with run := Int.tdiv g.run 2 } t
      rw [bmB_short (by omega) hb] at h2
      refine CallOK.to (E := E) (fn := Try.f8) (g := .pure _) (by rfl) (by rfl) (by rfl) (fun _ _ => by rfl) (by decide +kernel) (by rfl) (by rfl) (by rfl) fun _ => ?_
      repeat' first
        | (refine goN hE 100 rfl ?_; conv => whnf)
        | refine Or.inl (And.intro htd ?_)
        | refine Or.inl (And.intro (by have := of_decide_eq_true (show decide (t < 4611686018427387904) = true from by assumption); exact in64 (by omega) (by omega)) ?_)
        | refine .pure _ [] h1 ?_
        | refine .pure _ [] h2 ?_
        | refine .pure _ [] h3 ?_
        | refine .pure _ [] awake20_ok ?_
        | exact rfl
        | refine And.intro (fun _ => ?_) (fun h => absurd (show true = false from h) (by decide))
        | refine And.intro (fun h => absurd (show false = true from h) (by decide)) (fun _ => ?_)
        | refine And.intro (fun h => ?_) (fun h => absurd (of_decide_eq_false h) (by omega))
        | refine And.intro (fun h => absurd (of_decide_eq_true h) (by omega)) (fun h => ?_)
        | refine And.intro (fun h => ?_) (fun h => ?_)
        | refine Or.inl (And.intro (And.intro (by simp only [kmin]; omega) (by simp only [kmax]; omega)) ?_)
        | refine Exists.intro _ (And.intro rfl ?_)
        | refine And.intro (by decide) ?_
        | refine And.intro (by omega) ?_
        | fail
end Go.Proofs.Ytlalcoklkafnnaa

namespace Go.Proofs.Ytlalcoklkafnnaa
open Go Go.AW Go.Proofs
open Go.ChangeShapes Go.WideShapes Go.ChangeAt Go.RowKit
set_option maxRecDepth 100000

theorem tyInt {n : Nat} {cs : List AVal} (h : TyC Try.prog (n + 1) 3 cs) : ∃ m : Int, cs = [ii m] := by
  unfold TyC at h
  rw [Try.underlying3] at h
  obtain ⟨m, h, _⟩ := h
  exact ⟨m, h⟩
theorem tyVec {n : Nat} {cs : List AVal} (h : TyC Try.prog (n + 2) 27 cs) : ∃ v : V3, cs = v.cs := by
  unfold TyC at h
  rw [Try.underlying27] at h
  obtain ⟨xs, hl, hx, rfl⟩ := h
  match xs, hl, hx with
  | [x, y, z], _, hx =>
    obtain ⟨a, rfl⟩ := tyInt (hx x (by simp))
    obtain ⟨b, rfl⟩ := tyInt (hx y (by simp))
    obtain ⟨c, rfl⟩ := tyInt (hx z (by simp))
    exact ⟨⟨a, b, c⟩, rfl⟩
theorem tyGang {n : Nat} {cs : List AVal} (h : TyC Try.prog (n + 3) 29 cs) : ∃ g : Gan, cs = g.cs := by
  unfold TyC at h
  rw [Try.underlying29] at h
  obtain ⟨x0, r, rfl, h0, x1, r, rfl, h1, x2, r, rfl, h2, x3, r, rfl, h3, x4, r, rfl, h4, x5, r, rfl, h5, x6, r, rfl, h6, rfl⟩ := h
  obtain ⟨a0, rfl⟩ := tyInt h0
  obtain ⟨a1, rfl⟩ := tyInt h1
  obtain ⟨a2, rfl⟩ := tyInt h2
  obtain ⟨v, rfl⟩ := tyVec h3
  obtain ⟨a4, rfl⟩ := tyInt h4
  obtain ⟨a5, rfl⟩ := tyInt h5
  obtain ⟨a6, rfl⟩ := tyInt h6
  exact ⟨⟨a0, a1, a2, v, a4, a5, a6⟩, rfl⟩
section
variable {H : Type} {enc : TypeId × Value → H} {W : World} {r : Reach} {base b0 : Nat} {spare : Nat → Bool} {held : Bool} {v : Value} {d : DataW H} {ps : List MemPlace}
theorem open_gang (hv : Value.okWide Try.prog W r b0 29 v) (h : DataW.Trod enc Try.prog W base spare held 29 v d ps) : ∃ x : Gan, Rep (Mw W) [] v x.av := by
  obtain ⟨cs0, hr, ht⟩ := arg_agg (n := 3) (by kernel_rfl) (by kernel_rfl) hv h
  obtain ⟨x, rfl⟩ := tyGang (n := 0) ht
  exact ⟨x, hr⟩
theorem open_int (hv : Value.okWide Try.prog W r b0 3 v) : ∃ n : Int, Rep (Mw W) [] v (ii n) := by
  obtain ⟨m, rfl, h⟩ := okC_int (k := .i64) (by kernel_rfl) (okV_cell (by kernel_rfl) hv)
  exact ⟨m, .int _ m h⟩
end
end Go.Proofs.Ytlalcoklkafnnaa
