/-
  The reference's Same at one row; law21: VictimsOrder, VictimsBorrow, as contracts.
-/
import Derived.Test.YtlalcoklkafnnaaVA
namespace Go.Proofs.Ytlalcoklkafnnaa
open Go Go.AW Go.Proofs
set_option maxRecDepth 10000

theorem bne_self (x : Int) : (x != x) = false := by simp
noncomputable abbrev fOne : Func := Try.f33
theorem ones_loop (x : Rn) (hl : x.hs.length ≤ 1048576) : ∀ (m i : Nat), i + m = x.hs.length →
    To E fOne (.pure (.ret (.bool true))) (.head (stk fOne 0) [(2, .ref 0 0), (3, .ref 1 0), (5, ii i)] [.cells 31 x.cs, .cells 31 x.cs]) := by
  have hlen : (iv x.hs).length = x.hs.length := by simp
  intro m
  induction m with
  | zero =>
    intro i hi
    refine goes hE 100 ?_
    conv => whnf
    refine And.intro (fun h => absurd (of_decide_eq_true h) (by omega)) (fun h => ?_)
    repeat' first
      | (refine goN hE 100 rfl ?_; conv => whnf)
      | exact rfl
      | refine And.intro (fun _ => ?_) (fun h => absurd (show true = false from h) (by decide))
      | refine And.intro (fun h => absurd (show false = true from h) (by decide)) (fun _ => ?_)
      | refine And.intro (fun h => ?_) (fun h => absurd (of_decide_eq_false h) (by omega))
      | refine And.intro (fun h => absurd (of_decide_eq_true h) (by omega)) (fun h => ?_)
      | refine And.intro (fun h => ?_) (fun h => ?_)
      | refine Or.inl (And.intro (And.intro (by simp only [kmin]; omega) (by simp only [kmax]; omega)) ?_)
      | refine Exists.intro _ (And.intro rfl ?_)
      | refine And.intro (by decide) ?_
      | refine And.intro (by omega) ?_
      | fail
  | succ m ih =>
    intro i hi
    have hlt : i < x.hs.length := by omega
    have get := iv_get hlt
    generalize x.hs[i] = y at get
    have hy := bne_self y
    have next := ih (i + 1) (by omega)
    refine goes hE 100 ?_
    conv => whnf
    refine And.intro (fun h => ?_) (fun h => absurd (of_decide_eq_false h) (by omega))
    repeat' first
      | (refine goN hE 100 rfl ?_; conv => whnf)
      | refine Exists.intro i (And.intro rfl ?_)
      | refine Exists.intro _ (And.intro get ?_)
      | refine And.intro (fun h => absurd h (by rw [hy]; decide)) (fun h => ?_)
      | exact rfl
      | refine And.intro (fun _ => ?_) (fun h => absurd (show true = false from h) (by decide))
      | refine And.intro (fun h => absurd (show false = true from h) (by decide)) (fun _ => ?_)
      | refine And.intro (fun h => ?_) (fun h => absurd (of_decide_eq_false h) (by omega))
      | refine And.intro (fun h => absurd (of_decide_eq_true h) (by omega)) (fun h => ?_)
      | refine And.intro (fun h => ?_) (fun h => ?_)
      | refine Or.inl (And.intro (And.intro (by simp only [kmin]; omega) (by simp only [kmax]; omega)) ?_)
      | refine Exists.intro _ (And.intro rfl ?_)
      | refine And.intro (by decide) ?_
      | refine And.intro (by omega) ?_
      | fail
    exact To.cut [2, 3, 5] 2 rfl rfl rfl rfl next
theorem ones_ok (x : Rn) (hl : x.hs.length ≤ 1048576) : CallOK Try.prog 33 [x.av, x.av] [] (.ret (.bool true)) [] := by
  have hlen : (iv x.hs).length = x.hs.length := by simp
  refine CallOK.to (E := E) (fn := Try.f33) (g := .pure _) (by rfl) (by rfl) (by rfl) (fun _ _ => by rfl) (by decide +kernel) (by rfl) (by rfl) (by rfl) fun _ => ?_
  repeat' first
    | (refine goN hE 100 rfl ?_; conv => whnf)
    | refine And.intro (fun h => absurd h (by simp)) (fun h => ?_)
    | refine And.intro (fun h => absurd (show (!_) = true from h) (by simp)) (fun h => ?_)
    | exact rfl
    | refine And.intro (fun _ => ?_) (fun h => absurd (show true = false from h) (by decide))
    | refine And.intro (fun h => absurd (show false = true from h) (by decide)) (fun _ => ?_)
    | refine And.intro (fun h => ?_) (fun h => absurd (of_decide_eq_false h) (by omega))
    | refine And.intro (fun h => absurd (of_decide_eq_true h) (by omega)) (fun h => ?_)
    | refine And.intro (fun h => ?_) (fun h => ?_)
    | refine Or.inl (And.intro (And.intro (by simp only [kmin]; omega) (by simp only [kmax]; omega)) ?_)
    | refine Exists.intro _ (And.intro rfl ?_)
    | refine And.intro (by decide) ?_
    | refine And.intro (by omega) ?_
    | fail
  exact To.cut [2, 3, 5] 2 rfl rfl rfl rfl (ones_loop x hl x.hs.length 0 (by omega))
noncomputable abbrev fSame : Func := Try.f11
theorem sames_loop (l : List Rn) (hs : Sm l) : ∀ (m i : Nat), i + m = l.length →
    To E fSame (.pure (.ret (.bool true))) (.head (stk fSame 0) [(0, .slice 14 (rav l) .no), (1, .slice 14 (rav l) .no), (5, ii i)] []) := by
  have hlen : (rav l).length = l.length := by simp
  have hl := hs.1
  intro m
  induction m with
  | zero =>
    intro i hi
    refine goes hE 100 ?_
    conv => whnf
    refine And.intro (fun h => absurd (of_decide_eq_true h) (by omega)) (fun h => ?_)
    repeat' first
      | (refine goN hE 100 rfl ?_; conv => whnf)
      | exact rfl
      | refine And.intro (fun _ => ?_) (fun h => absurd (show true = false from h) (by decide))
      | refine And.intro (fun h => absurd (show false = true from h) (by decide)) (fun _ => ?_)
      | refine And.intro (fun h => ?_) (fun h => absurd (of_decide_eq_false h) (by omega))
      | refine And.intro (fun h => absurd (of_decide_eq_true h) (by omega)) (fun h => ?_)
      | refine And.intro (fun h => ?_) (fun h => ?_)
      | refine Or.inl (And.intro (And.intro (by simp only [kmin]; omega) (by simp only [kmax]; omega)) ?_)
      | refine Exists.intro _ (And.intro rfl ?_)
      | refine And.intro (by decide) ?_
      | refine And.intro (by omega) ?_
      | fail
  | succ m ih =>
    intro i hi
    have hlt : i < l.length := by omega
    have hb := hs.at hlt
    generalize hq : l[i] = x at hb
    have get : (rav l)[i]? = some x.av := (rav_get hlt).trans (by rw [hq])
    have next := ih (i + 1) (by omega)
    refine goes hE 100 ?_
    conv => whnf
    refine And.intro (fun h => ?_) (fun h => absurd (of_decide_eq_false h) (by omega))
    repeat' first
      | (refine goN hE 100 rfl ?_; conv => whnf)
      | refine Exists.intro i (And.intro rfl ?_)
      | refine Exists.intro _ (And.intro get ?_)
      | refine .pure _ [] (ones_ok x hb) ?_
      | exact rfl
      | refine And.intro (fun _ => ?_) (fun h => absurd (show true = false from h) (by decide))
      | refine And.intro (fun h => absurd (show false = true from h) (by decide)) (fun _ => ?_)
      | refine And.intro (fun h => ?_) (fun h => absurd (of_decide_eq_false h) (by omega))
      | refine And.intro (fun h => absurd (of_decide_eq_true h) (by omega)) (fun h => ?_)
      | refine And.intro (fun h => ?_) (fun h => ?_)
      | refine Or.inl (And.intro (And.intro (by simp only [kmin]; omega) (by simp only [kmax]; omega)) ?_)
      | refine Exists.intro _ (And.intro rfl ?_)
      | refine And.intro (by decide) ?_
      | refine And.intro (by omega) ?_
      | fail
    exact To.cut [0, 1, 5] 0 rfl rfl rfl rfl next
theorem sames_ok (l : List Rn) (hs : Sm l) : CallOK Try.prog 11 [.slice 14 (rav l) .no, .slice 14 (rav l) .no] [] (.ret (.bool true)) [] := by
  have hll := bne_self ((rav l).length : Int)
  refine CallOK.to (E := E) (fn := Try.f11) (g := .pure _) (by rfl) (by rfl) (by rfl) (fun _ _ => by rfl) (by decide +kernel) (by rfl) (by rfl) (by rfl) fun _ => ?_
  repeat' first
    | (refine goN hE 100 rfl ?_; conv => whnf)
    | refine And.intro (fun h => absurd h (by rw [hll]; decide)) (fun h => ?_)
    | exact rfl
    | refine And.intro (fun _ => ?_) (fun h => absurd (show true = false from h) (by decide))
    | refine And.intro (fun h => absurd (show false = true from h) (by decide)) (fun _ => ?_)
    | refine And.intro (fun h => ?_) (fun h => absurd (of_decide_eq_false h) (by omega))
    | refine And.intro (fun h => absurd (of_decide_eq_true h) (by omega)) (fun h => ?_)
    | refine And.intro (fun h => ?_) (fun h => ?_)
    | refine Or.inl (And.intro (And.intro (by simp only [kmin]; omega) (by simp only [kmax]; omega)) ?_)
    | refine Exists.intro _ (And.intro rfl ?_)
    | refine And.intro (by decide) ?_
    | refine And.intro (by omega) ?_
    | fail
  exact To.cut [0, 1, 5] 0 rfl rfl rfl rfl (sames_loop l hs l.length 0 (by omega))

/- ---------- VictimsOrder ---------- -/
noncomputable abbrev fVO : Func := Try.f3
theorem vo_loop (l : List Rn) (hs : Sm l) (hl : l.length ≤ 60) (ho : OnceP l) (ids : List Int) (hd : ids.length ≤ 1048576) : ∀ (m i : Nat), i + m = l.length →
    To E fVO (.pure (.ret (.bool true))) (.head (stk fVO 0) [(0, .slice 14 (rav l) .no), (1, .slice 1 (iv ids) .no), (5, ii i)] []) := by
  have hlen : (rav l).length = l.length := by simp
  intro m
  induction m with
  | zero =>
    intro i hi
    have h1 := order_ok l hs
    rw [order_eq ho] at h1
    have h2 := rorder_ok l (by omega)
    have hso : Sm (rOrd l) := by rw [← order_eq ho]; exact order_sm hs
    have h3 := sames_ok (rOrd l) hso
    have h4 := without_ok l hs ids hd
    have h5 := rwithout_ok l hs ids hd
    have h6 := sames_ok (withoutL l ids) (without_sm hs ids)
    generalize rOrd l = o at h1 h2 h3
    generalize withoutL l ids = w at h4 h5 h6
    refine goes hE 100 ?_
    conv => whnf
    refine And.intro (fun h => absurd (of_decide_eq_true h) (by omega)) (fun h => ?_)
    repeat' first
      | (refine goN hE 100 rfl ?_; conv => whnf)
      | refine .pure _ [] h1 ?_
      | refine .pure _ [] h2 ?_
      | refine .pure _ [] h3 ?_
      | refine .pure _ [] h4 ?_
      | refine .pure _ [] h5 ?_
      | refine .pure _ [] h6 ?_
      | refine .pure _ [] awake21_ok ?_
      | exact rfl
      | refine And.intro (fun _ => ?_) (fun h => absurd (show true = false from h) (by decide))
      | refine And.intro (fun h => absurd (show false = true from h) (by decide)) (fun _ => ?_)
      | refine And.intro (fun h => ?_) (fun h => absurd (of_decide_eq_false h) (by omega))
      | refine And.intro (fun h => absurd (of_decide_eq_true h) (by omega)) (fun h => ?_)
      | refine And.intro (fun h => ?_) (fun h => ?_)
      | refine Or.inl (And.intro (And.intro (by simp only [kmin]; omega) (by simp only [kmax]; omega)) ?_)
      | refine Exists.intro _ (And.intro rfl ?_)
      | refine And.intro (by decide) ?_
      | refine And.intro (by omega) ?_
      | fail
  | succ m ih =>
    intro i hi
    have hlt : i < l.length := by omega
    generalize hq : l[i] = x
    have get : (rav l)[i]? = some x.av := (rav_get hlt).trans (by rw [hq])
    have hil : (iv x.hs).length = x.hs.length := by simp
    have next := ih (i + 1) (by omega)
    by_cases hb : x.hs.length ≤ 100
    · refine goes hE 100 ?_
      conv => whnf
      refine And.intro (fun h => ?_) (fun h => absurd (of_decide_eq_false h) (by omega))
      repeat' first
        | (refine goN hE 100 rfl ?_; conv => whnf)
        | refine Exists.intro i (And.intro rfl ?_)
        | refine Exists.intro _ (And.intro get ?_)
        | exact rfl
        | refine And.intro (fun _ => ?_) (fun h => absurd (show true = false from h) (by decide))
        | refine And.intro (fun h => absurd (show false = true from h) (by decide)) (fun _ => ?_)
        | refine And.intro (fun h => ?_) (fun h => absurd (of_decide_eq_false h) (by omega))
        | refine And.intro (fun h => absurd (of_decide_eq_true h) (by omega)) (fun h => ?_)
        | refine And.intro (fun h => ?_) (fun h => ?_)
        | refine Or.inl (And.intro (And.intro (by simp only [kmin]; omega) (by simp only [kmax]; omega)) ?_)
        | refine Exists.intro _ (And.intro rfl ?_)
        | refine And.intro (by decide) ?_
        | refine And.intro (by omega) ?_
        | fail
      exact To.cut [0, 1, 5] 0 rfl rfl rfl rfl next
    · refine goes hE 100 ?_
      conv => whnf
      refine And.intro (fun h => ?_) (fun h => absurd (of_decide_eq_false h) (by omega))
      repeat' first
        | (refine goN hE 100 rfl ?_; conv => whnf)
        | refine Exists.intro i (And.intro rfl ?_)
        | refine Exists.intro _ (And.intro get ?_)
        | refine .pure _ [] awake21_ok ?_
        | exact rfl
        | refine And.intro (fun _ => ?_) (fun h => absurd (show true = false from h) (by decide))
        | refine And.intro (fun h => absurd (show false = true from h) (by decide)) (fun _ => ?_)
        | refine And.intro (fun h => ?_) (fun h => absurd (of_decide_eq_false h) (by omega))
        | refine And.intro (fun h => absurd (of_decide_eq_true h) (by omega)) (fun h => ?_)
        | refine And.intro (fun h => ?_) (fun h => ?_)
        | refine Or.inl (And.intro (And.intro (by simp only [kmin]; omega) (by simp only [kmax]; omega)) ?_)
        | refine Exists.intro _ (And.intro rfl ?_)
        | refine And.intro (by decide) ?_
        | refine And.intro (by omega) ?_
        | fail
theorem vorder_ok (l : List Rn) (hs : Sm l) (ids : List Int) (hd : ids.length ≤ 1048576) : CallOK Try.prog 3 [.slice 14 (rav l) .no, .slice 1 (iv ids) .no] [] (.ret (.bool true)) [] := by
  have hlen : (rav l).length = l.length := by simp
  have hil : (iv ids).length = ids.length := by simp
  have hon := once_ok l hs.1
  by_cases p1 : 60 < l.length
  · refine CallOK.to (E := E) (fn := Try.f3) (g := .pure _) (by rfl) (by rfl) (by rfl) (fun _ _ => by rfl) (by decide +kernel) (by rfl) (by rfl) (by rfl) fun _ => ?_
    repeat' first
      | (refine goN hE 100 rfl ?_; conv => whnf)
      | refine .pure _ [] awake21_ok ?_
      | exact rfl
      | refine And.intro (fun _ => ?_) (fun h => absurd (show true = false from h) (by decide))
      | refine And.intro (fun h => absurd (show false = true from h) (by decide)) (fun _ => ?_)
      | refine And.intro (fun h => ?_) (fun h => absurd (of_decide_eq_false h) (by omega))
      | refine And.intro (fun h => absurd (of_decide_eq_true h) (by omega)) (fun h => ?_)
      | refine And.intro (fun h => ?_) (fun h => ?_)
      | refine Or.inl (And.intro (And.intro (by simp only [kmin]; omega) (by simp only [kmax]; omega)) ?_)
      | refine Exists.intro _ (And.intro rfl ?_)
      | refine And.intro (by decide) ?_
      | refine And.intro (by omega) ?_
      | fail
  · by_cases p2 : 100 < ids.length
    · refine CallOK.to (E := E) (fn := Try.f3) (g := .pure _) (by rfl) (by rfl) (by rfl) (fun _ _ => by rfl) (by decide +kernel) (by rfl) (by rfl) (by rfl) fun _ => ?_
      repeat' first
        | (refine goN hE 100 rfl ?_; conv => whnf)
        | refine .pure _ [] awake21_ok ?_
        | exact rfl
        | refine And.intro (fun _ => ?_) (fun h => absurd (show true = false from h) (by decide))
        | refine And.intro (fun h => absurd (show false = true from h) (by decide)) (fun _ => ?_)
        | refine And.intro (fun h => ?_) (fun h => absurd (of_decide_eq_false h) (by omega))
        | refine And.intro (fun h => absurd (of_decide_eq_true h) (by omega)) (fun h => ?_)
        | refine And.intro (fun h => ?_) (fun h => ?_)
        | refine Or.inl (And.intro (And.intro (by simp only [kmin]; omega) (by simp only [kmax]; omega)) ?_)
        | refine Exists.intro _ (And.intro rfl ?_)
        | refine And.intro (by decide) ?_
        | refine And.intro (by omega) ?_
        | fail
    · cases p3 : onceB l with
      | false =>
        rw [p3] at hon
        refine CallOK.to (E := E) (fn := Try.f3) (g := .pure _) (by rfl) (by rfl) (by rfl) (fun _ _ => by rfl) (by decide +kernel) (by rfl) (by rfl) (by rfl) fun _ => ?_
        repeat' first
          | (refine goN hE 100 rfl ?_; conv => whnf)
          | refine .pure _ [] hon ?_
          | refine .pure _ [] awake21_ok ?_
          | exact rfl
          | refine And.intro (fun _ => ?_) (fun h => absurd (show true = false from h) (by decide))
          | refine And.intro (fun h => absurd (show false = true from h) (by decide)) (fun _ => ?_)
          | refine And.intro (fun h => ?_) (fun h => absurd (of_decide_eq_false h) (by omega))
          | refine And.intro (fun h => absurd (of_decide_eq_true h) (by omega)) (fun h => ?_)
          | refine And.intro (fun h => ?_) (fun h => ?_)
          | refine Or.inl (And.intro (And.intro (by simp only [kmin]; omega) (by simp only [kmax]; omega)) ?_)
          | refine Exists.intro _ (And.intro rfl ?_)
          | refine And.intro (by decide) ?_
          | refine And.intro (by omega) ?_
          | fail
      | true =>
        rw [p3] at hon
        have hlp := vo_loop l hs (by omega) (onceB_iff p3) ids hd l.length 0 (by omega)
        refine CallOK.to (E := E) (fn := Try.f3) (g := .pure _) (by rfl) (by rfl) (by rfl) (fun _ _ => by rfl) (by decide +kernel) (by rfl) (by rfl) (by rfl) fun _ => ?_
        repeat' first
          | (refine goN hE 100 rfl ?_; conv => whnf)
          | refine .pure _ [] hon ?_
          | exact rfl
          | refine And.intro (fun _ => ?_) (fun h => absurd (show true = false from h) (by decide))
          | refine And.intro (fun h => absurd (show false = true from h) (by decide)) (fun _ => ?_)
          | refine And.intro (fun h => ?_) (fun h => absurd (of_decide_eq_false h) (by omega))
          | refine And.intro (fun h => absurd (of_decide_eq_true h) (by omega)) (fun h => ?_)
          | refine And.intro (fun h => ?_) (fun h => ?_)
          | refine Or.inl (And.intro (And.intro (by simp only [kmin]; omega) (by simp only [kmax]; omega)) ?_)
          | refine Exists.intro _ (And.intro rfl ?_)
          | refine And.intro (by decide) ?_
          | refine And.intro (by omega) ?_
          | fail
        exact To.cut [0, 1, 5] 0 rfl rfl rfl rfl hlp

/- ---------- VictimsBorrow ---------- -/
noncomputable abbrev fVB : Func := Try.f4
abbrev vbO (c : Con) (now k : Int) (ws : List AVal) (l : List Rn) (zs : List AVal) (g : Gan) : List AObj := [.cells 43 (stCs c now k ws l zs), .cells 29 g.cs]
abbrev vbF (ids : List Int) (us : List V3) (i : Int) : List (Nat × AVal) := [(2, .ref 0 0), (5, .slice 1 (iv ids) .no), (7, .slice 3 (vav us) .no), (8, ii i)]
theorem vb_in (c : Con) (hc : c.sm) (now kk : Int) (ws : List AVal) (l : List Rn) (zs : List AVal) (g : Gan) (ids : List Int) (hd : ids.length ≤ 1048576) (us : List V3) (i : Nat) (hi : i < 1048576) (x : Rn) (gi : (rav l)[i]? = some x.av)
    (H : ∀ n ∈ ids, x.g.id = n → borrowsB c us x.g.ten = true)
    (next : To E fVB (.pure (.ret (.bool true))) (.head (stk fVB 0) (vbF ids us ((i : Int) + 1)) (vbO c now kk ws l zs g))) : ∀ (m k : Nat), k + m = ids.length →
    To E fVB (.pure (.ret (.bool true))) (.head (stk fVB 1) (vbF ids us i ++ [(9, ii k)]) (vbO c now kk ws l zs g)) := by
  have hlen : (iv ids).length = ids.length := by simp
  have hb := rborrows_ok c hc us x.g.ten
  intro m
  induction m with
  | zero =>
    intro k hk
    refine goes hE 100 ?_
    conv => whnf
    refine And.intro (fun h => absurd (of_decide_eq_true h) (by omega)) (fun h => ?_)
    repeat' first
      | (refine goN hE 100 rfl ?_; conv => whnf)
      | exact rfl
      | refine And.intro (fun _ => ?_) (fun h => absurd (show true = false from h) (by decide))
      | refine And.intro (fun h => absurd (show false = true from h) (by decide)) (fun _ => ?_)
      | refine And.intro (fun h => ?_) (fun h => absurd (of_decide_eq_false h) (by omega))
      | refine And.intro (fun h => absurd (of_decide_eq_true h) (by omega)) (fun h => ?_)
      | refine And.intro (fun h => ?_) (fun h => ?_)
      | refine Or.inl (And.intro (And.intro (by simp only [kmin]; omega) (by simp only [kmax]; omega)) ?_)
      | refine Exists.intro _ (And.intro rfl ?_)
      | refine And.intro (by decide) ?_
      | refine And.intro (by omega) ?_
      | fail
    exact To.cut [2, 5, 7, 8] 2 rfl rfl rfl rfl next
  | succ m ih =>
    intro k hk
    have hlt : k < ids.length := by omega
    have hH := H _ (List.getElem_mem hlt)
    have gk := iv_get hlt
    generalize ids[k] = n at hH gk
    have nx := ih (k + 1) (by omega)
    by_cases hq : x.g.id = n
    · rw [hH hq] at hb
      have q2 : (x.g.id == n) = true := by simp [hq]
      refine goes hE 100 ?_
      conv => whnf
      refine And.intro (fun h => ?_) (fun h => absurd (of_decide_eq_false h) (by omega))
      repeat' first
        | (refine goN hE 100 rfl ?_; conv => whnf)
        | refine Exists.intro k (And.intro rfl ?_)
        | refine Exists.intro i (And.intro rfl ?_)
        | refine Exists.intro _ (And.intro gk ?_)
        | refine Exists.intro _ (And.intro gi ?_)
        | refine And.intro (fun h => ?_) (fun h => absurd h (by rw [q2]; decide))
        | refine .pure _ [] hb ?_
        | exact rfl
        | refine And.intro (fun _ => ?_) (fun h => absurd (show true = false from h) (by decide))
        | refine And.intro (fun h => absurd (show false = true from h) (by decide)) (fun _ => ?_)
        | refine And.intro (fun h => ?_) (fun h => absurd (of_decide_eq_false h) (by omega))
        | refine And.intro (fun h => absurd (of_decide_eq_true h) (by omega)) (fun h => ?_)
        | refine And.intro (fun h => ?_) (fun h => ?_)
        | refine Or.inl (And.intro (And.intro (by simp only [kmin]; omega) (by simp only [kmax]; omega)) ?_)
        | refine Exists.intro _ (And.intro rfl ?_)
        | refine And.intro (by decide) ?_
        | refine And.intro (by omega) ?_
        | fail
      exact To.cut [2, 5, 7, 8, 9] 2 rfl rfl rfl rfl nx
    · have q2 : (x.g.id == n) = false := by simp [hq]
      refine goes hE 100 ?_
      conv => whnf
      refine And.intro (fun h => ?_) (fun h => absurd (of_decide_eq_false h) (by omega))
      repeat' first
        | (refine goN hE 100 rfl ?_; conv => whnf)
        | refine Exists.intro k (And.intro rfl ?_)
        | refine Exists.intro i (And.intro rfl ?_)
        | refine Exists.intro _ (And.intro gk ?_)
        | refine Exists.intro _ (And.intro gi ?_)
        | refine And.intro (fun h => absurd h (by rw [q2]; decide)) (fun h => ?_)
        | exact rfl
        | refine And.intro (fun _ => ?_) (fun h => absurd (show true = false from h) (by decide))
        | refine And.intro (fun h => absurd (show false = true from h) (by decide)) (fun _ => ?_)
        | refine And.intro (fun h => ?_) (fun h => absurd (of_decide_eq_false h) (by omega))
        | refine And.intro (fun h => absurd (of_decide_eq_true h) (by omega)) (fun h => ?_)
        | refine And.intro (fun h => ?_) (fun h => ?_)
        | refine Or.inl (And.intro (And.intro (by simp only [kmin]; omega) (by simp only [kmax]; omega)) ?_)
        | refine Exists.intro _ (And.intro rfl ?_)
        | refine And.intro (by decide) ?_
        | refine And.intro (by omega) ?_
        | fail
      exact To.cut [2, 5, 7, 8, 9] 2 rfl rfl rfl rfl nx
theorem vb_out (c : Con) (hc : c.sm) (now kk : Int) (ws : List AVal) (l : List Rn) (hl : l.length ≤ 1048576) (zs : List AVal) (g : Gan) (ids : List Int) (hd : ids.length ≤ 1048576) (us : List V3)
    (H : ∀ x ∈ l, ∀ n ∈ ids, x.g.id = n → borrowsB c us x.g.ten = true) : ∀ (m i : Nat), i + m = l.length →
    To E fVB (.pure (.ret (.bool true))) (.head (stk fVB 0) (vbF ids us i) (vbO c now kk ws l zs g)) := by
  have hlen : (rav l).length = l.length := by simp
  intro m
  induction m with
  | zero =>
    intro i hi
    refine goes hE 100 ?_
    conv => whnf
    refine And.intro (fun h => absurd (of_decide_eq_true h) (by omega)) (fun h => ?_)
    repeat' first
      | (refine goN hE 100 rfl ?_; conv => whnf)
      | refine .pure _ [] awake21_ok ?_
      | exact rfl
      | refine And.intro (fun _ => ?_) (fun h => absurd (show true = false from h) (by decide))
      | refine And.intro (fun h => absurd (show false = true from h) (by decide)) (fun _ => ?_)
      | refine And.intro (fun h => ?_) (fun h => absurd (of_decide_eq_false h) (by omega))
      | refine And.intro (fun h => absurd (of_decide_eq_true h) (by omega)) (fun h => ?_)
      | refine And.intro (fun h => ?_) (fun h => ?_)
      | refine Or.inl (And.intro (And.intro (by simp only [kmin]; omega) (by simp only [kmax]; omega)) ?_)
      | refine Exists.intro _ (And.intro rfl ?_)
      | refine And.intro (by decide) ?_
      | refine And.intro (by omega) ?_
      | fail
  | succ m ih =>
    intro i hi
    have hlt : i < l.length := by omega
    have hH := H _ (List.getElem_mem hlt)
    have gi : (rav l)[i]? = some l[i].av := rav_get hlt
    generalize l[i] = x at hH gi
    have hin := vb_in c hc now kk ws l zs g ids hd us i (by omega) x gi hH (ih (i + 1) (by omega)) ids.length 0 (by omega)
    refine goes hE 100 ?_
    conv => whnf
    refine And.intro (fun h => ?_) (fun h => absurd (of_decide_eq_false h) (by omega))
    repeat' first
      | (refine goN hE 100 rfl ?_; conv => whnf)
      | exact rfl
      | refine And.intro (fun _ => ?_) (fun h => absurd (show true = false from h) (by decide))
      | refine And.intro (fun h => absurd (show false = true from h) (by decide)) (fun _ => ?_)
      | refine And.intro (fun h => ?_) (fun h => absurd (of_decide_eq_false h) (by omega))
      | refine And.intro (fun h => absurd (of_decide_eq_true h) (by omega)) (fun h => ?_)
      | refine And.intro (fun h => ?_) (fun h => ?_)
      | refine Or.inl (And.intro (And.intro (by simp only [kmin]; omega) (by simp only [kmax]; omega)) ?_)
      | refine Exists.intro _ (And.intro rfl ?_)
      | refine And.intro (by decide) ?_
      | refine And.intro (by omega) ?_
      | fail
    exact To.cut [2, 5, 7, 8, 9] 2 rfl rfl rfl rfl hin
theorem vborrow_ok (c : Con) (hc : c.sm) (now k : Int) (ws : List AVal) (l : List Rn) (hs : Sm l) (zs : List AVal) (g : Gan) : CallOK Try.prog 4 [.agg (stCs c now k ws l zs), g.av] [] (.ret (.bool true)) [] := by
  by_cases hP : fewP c now l g
  · have hfw := few21_yes c hc now k ws l hs zs g hP
    obtain ⟨p1, p2, p3⟩ := hP
    have hgi : gangI c.ns g ≠ 0 := by rw [p3]; decide
    have hg := gang_pods hgi
    have ho := onceB_iff p2
    have hd := few_pos p1
    have hch := choose_ok c hc l hs g hg
    have hof := rof_ok c hc l hs.1
    have hdm := rdem_ok g
    have hw := rwithin_ok c hc (ofL c l) g.ten (dem g)
    cases hR : chooseL c l g with
    | none =>
      rw [hR] at hch
      unfold chR at hch
      have hlp := vb_out c hc now k ws l hs.1 zs g [] (by simp) (ofL c l) (fun x _ n hn => by simp at hn) l.length 0 (by omega)
      generalize ofL c l = us at hof hw hlp
      refine CallOK.to (E := E) (fn := Try.f4) (g := .pure _) (by rfl) (by rfl) (by rfl) (fun _ _ => by rfl) (by decide +kernel) (by rfl) (by rfl) (by rfl) fun _ => ?_
      repeat' first
        | (refine goN hE 100 rfl ?_; conv => whnf)
        | refine .pure _ [] hfw ?_
        | refine .pure _ [] hch ?_
        | refine .pure _ [] hof ?_
        | refine .pure _ [] hdm ?_
        | refine .pure _ [] hw ?_
        | exact rfl
        | refine And.intro (fun _ => ?_) (fun h => absurd (show true = false from h) (by decide))
        | refine And.intro (fun h => absurd (show false = true from h) (by decide)) (fun _ => ?_)
        | refine And.intro (fun h => ?_) (fun h => absurd (of_decide_eq_false h) (by omega))
        | refine And.intro (fun h => absurd (of_decide_eq_true h) (by omega)) (fun h => ?_)
        | refine And.intro (fun h => ?_) (fun h => ?_)
        | refine Or.inl (And.intro (And.intro (by simp only [kmin]; omega) (by simp only [kmax]; omega)) ?_)
        | refine Exists.intro _ (And.intro rfl ?_)
        | refine And.intro (by decide) ?_
        | refine And.intro (by omega) ?_
        | fail
      exact To.cut [2, 5, 7, 8] 2 rfl rfl rfl rfl hlp
    | some ids =>
      rw [hR] at hch
      unfold chR at hch
      obtain ⟨w1, w2, w3, w4⟩ := choose_spec hR
      have hwl := without_len ho w2 fun n hn => by
        obtain ⟨_, x, h1, h2, _⟩ := w3 n hn
        exact ⟨x, h1, h2⟩
      have hl := hs.1
      rw [w1] at hw
      have hlp := vb_out c hc now k ws l hs.1 zs g ids (by omega) (ofL c l) (fun x hx n hn he => was_borrows hd ho hx (by rw [he]; exact w3 n hn)) l.length 0 (by omega)
      generalize ofL c l = us at hof hw hlp
      refine CallOK.to (E := E) (fn := Try.f4) (g := .pure _) (by rfl) (by rfl) (by rfl) (fun _ _ => by rfl) (by decide +kernel) (by rfl) (by rfl) (by rfl) fun _ => ?_
      repeat' first
        | (refine goN hE 100 rfl ?_; conv => whnf)
        | refine .pure _ [] hfw ?_
        | refine .pure _ [] hch ?_
        | refine .pure _ [] hof ?_
        | refine .pure _ [] hdm ?_
        | refine .pure _ [] hw ?_
        | exact rfl
        | refine And.intro (fun _ => ?_) (fun h => absurd (show true = false from h) (by decide))
        | refine And.intro (fun h => absurd (show false = true from h) (by decide)) (fun _ => ?_)
        | refine And.intro (fun h => ?_) (fun h => absurd (of_decide_eq_false h) (by omega))
        | refine And.intro (fun h => absurd (of_decide_eq_true h) (by omega)) (fun h => ?_)
        | refine And.intro (fun h => ?_) (fun h => ?_)
        | refine Or.inl (And.intro (And.intro (by simp only [kmin]; omega) (by simp only [kmax]; omega)) ?_)
        | refine Exists.intro _ (And.intro rfl ?_)
        | refine And.intro (by decide) ?_
        | refine And.intro (by omega) ?_
        | fail
      exact To.cut [2, 5, 7, 8] 2 rfl rfl rfl rfl hlp
  · have hfw := few21_no c hc now k ws l hs zs g hP
    refine CallOK.to (E := E) (fn := Try.f4) (g := .pure _) (by rfl) (by rfl) (by rfl) (fun _ _ => by rfl) (by decide +kernel) (by rfl) (by rfl) (by rfl) fun _ => ?_
    repeat' first
      | (refine goN hE 100 rfl ?_; conv => whnf)
      | refine .pure _ [] hfw ?_
      | refine .pure _ [] awake21_ok ?_
      | exact rfl
      | refine And.intro (fun _ => ?_) (fun h => absurd (show true = false from h) (by decide))
      | refine And.intro (fun h => absurd (show false = true from h) (by decide)) (fun _ => ?_)
      | refine And.intro (fun h => ?_) (fun h => absurd (of_decide_eq_false h) (by omega))
      | refine And.intro (fun h => absurd (of_decide_eq_true h) (by omega)) (fun h => ?_)
      | refine And.intro (fun h => ?_) (fun h => ?_)
      | refine Or.inl (And.intro (And.intro (by simp only [kmin]; omega) (by simp only [kmax]; omega)) ?_)
      | refine Exists.intro _ (And.intro rfl ?_)
      | refine And.intro (by decide) ?_
      | refine And.intro (by omega) ?_
      | fail
open Go.ChangeShapes Go.WideShapes Go.ChangeAt Go.RowKit
set_option maxRecDepth 100000
section
variable {H : Type} {enc : TypeId × Value → H} {W : World} {r : Reach} {base b0 : Nat} {spare : Nat → Bool} {held : Bool} {v : Value} {d : DataW H} {ps : List MemPlace}
theorem open_intsN (hv : Value.okWide Try.prog W r b0 23 v) (h : DataW.Trod enc Try.prog W base spare held 23 v d ps) (hG : Rows.uptoBulk d ≤ 1048576) : ∃ l : List Int, Rep (Mw W) [] v (.slice 1 (iv l) .no) ∧ l.length ≤ 1048576 := by
  obtain ⟨xs, hr, hN, hx⟩ := arg_sliceN (n := 1) (bulkN H 1048576) Try.underlying23 (by kernel_rfl) hv h hG
  have hc : Try.prog.cellsOf 3 = 1 := by kernel_rfl
  have ha : isAggT Try.prog 3 = false := by kernel_rfl
  obtain ⟨l, rfl, _⟩ := allsN (av := fun m : Int => ii m) (Q := fun _ => True) (P := fun x => x ∈ xs) (fun x hm => by
    obtain ⟨m, e⟩ := tnInt (n := 0) (hx x hm).1
    have e2 := (hx x hm).2.2 ha
    rw [e] at e2
    exact ⟨m, (List.cons.inj e2).1.symm, trivial⟩) xs fun x hm => hm
  rw [hc] at hr
  exact ⟨l, hr, by simpa using hN⟩
theorem open_runsN (hv : Value.okWide Try.prog W r b0 22 v) (h : DataW.Trod enc Try.prog W base spare held 22 v d ps) (hG : Rows.uptoBulk d ≤ 1048576) : ∃ l : List Rn, Rep (Mw W) [] v (.slice 14 (rav l) .no) ∧ Sm l := by
  obtain ⟨xs, hr, hN, hx⟩ := arg_sliceN (n := 4) (bulkN H 1048576) Try.underlying22 (by kernel_rfl) hv h hG
  have hc : Try.prog.cellsOf 31 = 14 := by kernel_rfl
  obtain ⟨l, rfl, hl⟩ := allsN (av := Rn.av) (Q := fun x => x.hs.length ≤ 1048576) (P := fun x => x ∈ xs) (fun x hm => by
    obtain ⟨cs, rfl⟩ := (hx x hm).2.1 (by kernel_rfl)
    obtain ⟨p, hp, hq⟩ := tnRun (n := 0) (hx _ hm).1
    exact ⟨p, by unfold Rn.av; rw [← hp]; rfl, hq⟩) xs fun x hm => hm
  rw [hc] at hr
  exact ⟨l, hr, by simpa using hN, hl⟩
end
end Go.Proofs.Ytlalcoklkafnnaa
