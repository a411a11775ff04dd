/-
  THE ENGINE: structs and arrays of integers are compared cell by cell. Over any program.
-/
import Derived.Test.YtgjcojagbgdpnaaEng27
import Derived.ChangeKeysEq
namespace Go.AM
open Go.RowKit

abbrev C3 := IntKind × Int × Int
def vA (cs : List C3) : List Value := cs.map fun c => .int c.1 c.2.1
def vB (cs : List C3) : List Value := cs.map fun c => .int c.1 c.2.2
def allE : List C3 → Bool
  | [] => true
  | c :: r => (c.2.1 == c.2.2) && allE r

theorem allE_append (a b : List C3) : allE (a ++ b) = (allE a && allE b) := by
  induction a with
  | nil => simp [allE]
  | cons c r ih => simp [allE, ih, Bool.and_assoc]

def packT (P : Program) (t : TypeId) (l : List Value) : Value := if isAggT P t then .agg l.toArray else l.headD undef

def tilesB (P : Program) (fa : TypeId → Bool) : Nat → List Field → Nat → Bool
  | off, [], total => Nat.beq off total
  | off, f :: fs, total => ((f.name != "_") && Nat.beq f.offset off) && ((fa f.type && (P.info? f.type).isSome) && tilesB P fa (off + P.cellsOf f.type) fs total)
def flatAt (P : Program) : Nat → TypeId → Bool
  | 0, _ => false
  | m + 1, t => match P.underlying t with
    | some (.int _) => Nat.beq (P.cellsOf t) 1
    | some (.array n e) => (flatAt P m e && (P.info? e).isSome) && Nat.beq (P.cellsOf t) (n * P.cellsOf e)
    | some (.struct fs) => !P.stoodInHeld t && tilesB P (flatAt P m) 0 fs.toList (P.cellsOf t)
    | _ => false

def EqI (P : Program) (d : Nat) (t : TypeId) : Prop := ∀ (w : World) (cs : List C3), cs.length = P.cellsOf t → (Op.equalIn d t (packT P t (vA cs)) (packT P t (vB cs))).run P w = .ok (allE cs) w

section
variable {P : Program} (w : World)

theorem flatAt_under {m : Nat} {t : TypeId} (h : flatAt P m t = true) : (P.underlying t).isSome = true ∧ (isAggT P t = false → P.cellsOf t = 1) := by
  cases m with
  | zero => cases h
  | succ m =>
    unfold flatAt at h
    unfold isAggT
    split at h
    · rename_i hu; rw [hu]; exact ⟨rfl, fun _ => beq_yes h⟩
    · rename_i hu; rw [hu]; exact ⟨rfl, fun h => by cases h⟩
    · rename_i hu; rw [hu]; exact ⟨rfl, fun h => by cases h⟩
    · cases h

theorem run_part_flat {e : TypeId} (hu : (P.underlying e).isSome = true) (hi : (P.info? e).isSome = true) (h1 : isAggT P e = false → P.cellsOf e = 1) (l : List Value) (off : Nat) (hoff : off + P.cellsOf e ≤ l.length) :
    (part e l.toArray off).run P w = .ok (packT P e ((l.drop off).take (P.cellsOf e))) w := by
  unfold part
  simp only [Sem.run_bind, run_isAgg hu, Result.andThen_ok]
  unfold packT
  obtain ⟨i, hi'⟩ := Option.isSome_iff_exists.1 hi
  have hsz : (P.info? e).map (·.size) = some (P.cellsOf e) := by simp [Program.cellsOf, hi']
  cases ha : isAggT P e with
  | true =>
    simp only [if_true, Sem.run_bind, AM.run_sizeOf hsz, Result.andThen_ok, Sem.run_pure]
    simp [List.extract_eq_take_drop]
  | false =>
    have hc := h1 ha
    have hlt : off < l.length := by omega
    simp only [Bool.false_eq_true, if_false]
    simp only [List.getElem?_toArray, List.getElem?_eq_getElem hlt, Sem.run_pure]
    rw [hc]
    congr 1
    rw [List.drop_eq_getElem_cons hlt]
    rfl

theorem vA_len (cs : List C3) : (vA cs).length = cs.length := by simp [vA]
theorem vB_len (cs : List C3) : (vB cs).length = cs.length := by simp [vB]
theorem vA_cut (cs : List C3) (o n : Nat) : ((vA cs).drop o).take n = vA ((cs.drop o).take n) := by simp [vA, List.map_drop, List.map_take]
theorem vB_cut (cs : List C3) (o n : Nat) : ((vB cs).drop o).take n = vB ((cs.drop o).take n) := by simp [vB, List.map_drop, List.map_take]

theorem run_step {d m : Nat} {e : TypeId} (hf : flatAt P m e = true) (hi : (P.info? e).isSome = true) (IH : EqI P d e) (cs : List C3) (off : Nat) (hoff : off + P.cellsOf e ≤ cs.length) :
    ∃ a b, (part e (vA cs).toArray off).run P w = .ok a w ∧ (part e (vB cs).toArray off).run P w = .ok b w ∧ (Op.equalIn d e a b).run P w = .ok (allE ((cs.drop off).take (P.cellsOf e))) w := by
  obtain ⟨hu, h1⟩ := flatAt_under hf
  refine ⟨_, _, run_part_flat w hu hi h1 _ _ (by rw [vA_len]; exact hoff), run_part_flat w hu hi h1 _ _ (by rw [vB_len]; exact hoff), ?_⟩
  rw [vA_cut, vB_cut]
  exact IH w _ (by simp; omega)

theorem take_add (cs : List C3) (o a b : Nat) : (cs.drop o).take (a + b) = (cs.drop o).take a ++ (cs.drop (o + a)).take b := by
  rw [List.take_add, List.drop_drop]

theorem run_items {d m : Nat} {e : TypeId} (hf : flatAt P m e = true) (hi : (P.info? e).isSome = true) (IH : EqI P d e) (cs : List C3) : ∀ (n k : Nat), (k + n) * P.cellsOf e ≤ cs.length →
    (Op.eqItems d e (P.cellsOf e) (vA cs).toArray (vB cs).toArray (List.range' k n)).run P w = .ok (allE ((cs.drop (k * P.cellsOf e)).take (n * P.cellsOf e))) w := by
  intro n
  induction n with
  | zero => intro k _; simp [Op.eqItems, allE]
  | succ n ih =>
    intro k hk
    have hk1 : (k + 1) * P.cellsOf e ≤ (k + (n + 1)) * P.cellsOf e := Nat.mul_le_mul_right _ (by omega)
    have hk2 : (k + 1) * P.cellsOf e = k * P.cellsOf e + P.cellsOf e := by rw [Nat.add_mul, Nat.one_mul]
    obtain ⟨a, b, p1, p2, p3⟩ := run_step w hf hi IH cs (k * P.cellsOf e) (by omega)
    have ih' := ih (k + 1) (by rw [show k + 1 + n = k + (n + 1) from by omega]; exact hk)
    have hn : (n + 1) * P.cellsOf e = P.cellsOf e + n * P.cellsOf e := by rw [Nat.add_mul, Nat.one_mul, Nat.add_comm]
    rw [hn, take_add, allE_append, ← hk2]
    simp only [List.range'_succ, Op.eqItems, Sem.run_bind, p1, p2, p3, Result.andThen_ok]
    cases allE ((cs.drop (k * P.cellsOf e)).take (P.cellsOf e)) with
    | true => simpa using ih'
    | false => simp

theorem run_fields {d m : Nat} (IH : ∀ t, flatAt P m t = true → EqI P d t) (cs : List C3) : ∀ (fs : List Field) (off : Nat), tilesB P (flatAt P m) off fs cs.length = true →
    (Op.eqFields d (vA cs).toArray (vB cs).toArray fs).run P w = .ok (allE (cs.drop off)) w ∧ off ≤ cs.length := by
  intro fs
  induction fs with
  | nil =>
    intro off h
    have := beq_yes h
    subst this
    exact ⟨by simp [Op.eqFields, allE], Nat.le_refl _⟩
  | cons f fs ih =>
    intro off h
    simp only [tilesB, Bool.and_eq_true] at h
    obtain ⟨⟨h1, h2⟩, ⟨h3, h4⟩, h5⟩ := h
    obtain ⟨ih1, ih2⟩ := ih _ h5
    have hoff := beq_yes h2
    obtain ⟨a, b, p1, p2, p3⟩ := run_step w h3 h4 (IH _ h3) cs f.offset (by omega)
    refine ⟨?_, by omega⟩
    have hd : cs.drop off = (cs.drop off).take (P.cellsOf f.type) ++ cs.drop (off + P.cellsOf f.type) := by rw [← List.drop_drop, List.take_append_drop]
    rw [hd, allE_append]
    have hne : f.name ≠ "_" := by simpa using h1
    simp only [Op.eqFields, hne, ne_eq, not_false_eq_true, if_true, Sem.run_bind, p1, p2, p3, Result.andThen_ok]
    rw [hoff] at *
    cases allE ((cs.drop off).take (P.cellsOf f.type)) with
    | true => simpa using ih1
    | false => simp
end

theorem eqI_of {P : Program} (d : Nat) : ∀ (m : Nat) (t : TypeId), flatAt P m t = true → EqI P (d + m) t
  | 0, _, h => by cases h
  | m + 1, t, h => by
    intro w cs hlen
    have IH : ∀ t, flatAt P m t = true → EqI P (d + m) t := fun t h => eqI_of d m t h
    unfold flatAt at h
    split at h
    · rename_i k hu
      have hag : isAggT P t = false := by unfold isAggT; rw [hu]
      have h1 := beq_yes h
      rw [h1] at hlen
      match cs, hlen with
      | [(k', a, b)], _ =>
        simp only [packT, hag, vA, vB, List.map_cons, List.map_nil, List.headD_cons, Bool.false_eq_true, if_false, allE, Bool.and_true]
        exact run_equalIn_int w (d + m) t k' k a b hu
    · rename_i n e hu
      simp only [Bool.and_eq_true] at h
      obtain ⟨⟨h1, h2⟩, h3⟩ := h
      have hag : isAggT P t = true := by unfold isAggT; rw [hu]
      obtain ⟨i, hi⟩ := Option.isSome_iff_exists.1 h2
      have hc := beq_yes h3
      simp only [packT, hag, if_true]
      rw [show d + (m + 1) = (d + m) + 1 from rfl, run_equalIn_array w (d + m) _ _ hu hi, List.range_eq_range', run_items w h1 h2 (IH e h1) cs n 0 (by rw [Nat.zero_add]; omega)]
      rw [Nat.zero_mul, List.drop_zero, List.take_of_length_le (by omega)]
    · rename_i fs hu
      simp only [Bool.and_eq_true, Bool.not_eq_true'] at h
      obtain ⟨h1, h2⟩ := h
      have hag : isAggT P t = true := by unfold isAggT; rw [hu]
      have hfs : P.fieldsOf t = fs := by simp [Program.fieldsOf, hu]
      simp only [packT, hag, if_true]
      rw [← hlen] at h2
      rw [show d + (m + 1) = (d + m) + 1 from rfl, run_equalIn_struct w (d + m) t _ _ (by rw [hfs]; exact hu) h1, hfs]
      simpa using (run_fields w IH cs fs.toList 0 h2).1
    · cases h

theorem ceq_c3 : ∀ {xs ys : List AVal} {c : Bool} {vs us : List Value}, ceq xs ys = some c → RepL (fun _ _ => none) [] [] vs xs → RepL (fun _ _ => none) [] [] us ys → ∃ cs : List C3, vs = vA cs ∧ us = vB cs ∧ c = allE cs
  | [], [], c, vs, us, h, h1, h2 => by
    cases h
    have e1 : vs = [] := by simpa using h1.1
    have e2 : us = [] := by simpa using h2.1
    exact ⟨[], by simp [vA, e1], by simp [vB, e2], rfl⟩
  | x :: xs, y :: ys, c, vs, us, h, h1, h2 => by
    cases x <;> first | (simp [ceq] at h; done) | skip
    cases y <;> first | (simp [ceq] at h; done) | skip
    rename_i k a k' b
    simp only [ceq] at h
    obtain ⟨hk, h3⟩ := cond_some h
    have := kbeq_eq hk
    subst this
    cases hr : ceq xs ys with
    | none => rw [hr] at h3; cases h3
    | some c' =>
      rw [hr] at h3
      cases h3
      match vs, us, h1, h2 with
      | v :: vs, u :: us, h1, h2 =>
        have hv := (h1.2 0 v _ rfl rfl).int_inv
        have hu := (h2.2 0 u _ rfl rfl).int_inv
        subst hv hu
        obtain ⟨cs, e1, e2, e3⟩ := ceq_c3 (vs := vs) (us := us) hr ⟨by simpa using h1.1, fun i v a hv ha => h1.2 (i + 1) v a (by simpa using hv) (by simpa using ha)⟩ ⟨by simpa using h2.1, fun i v a hv ha => h2.2 (i + 1) v a (by simpa using hv) (by simpa using ha)⟩
        exact ⟨(k, a, b) :: cs, by simp [vA, e1], by simp [vB, e2], by simp [allE, e3]⟩
  | [], _ :: _, c, vs, us, h, _, _ => by cases h
  | x :: _, [], c, vs, us, h, _, _ => by cases x <;> cases h

theorem c3_len : ∀ {xs ys : List AVal} {c : Bool}, ceq xs ys = some c → xs.length = ys.length
  | [], [], _, _ => rfl
  | x :: xs, y :: ys, c, h => by
    cases x <;> first | (simp [ceq] at h; done) | skip
    cases y <;> first | (simp [ceq] at h; done) | skip
    simp only [ceq] at h
    obtain ⟨hk, h3⟩ := cond_some h
    cases hr : ceq xs ys with
    | none => rw [hr] at h3; cases h3
    | some c' => simp [c3_len hr]
  | [], _ :: _, c, h => by cases h
  | x :: _, [], c, h => by cases x <;> cases h

def flatB (P : Program) (t n : Nat) : Bool := (isAggT P t && flatAt P 8 t) && (!P.eqGuardType P.depth t && Nat.beq (P.cellsOf t) n)

theorem flatB_ok {P : Program} {t n : Nat} (h : flatB P t n = true) : FlatOK P t n := by
  simp only [flatB, Bool.and_eq_true, Bool.not_eq_true'] at h
  obtain ⟨⟨h1, h2⟩, h3, h4⟩ := h
  have hn := beq_yes h4
  intro w x y xs ys vs us c hq hlen hv hu
  obtain ⟨cs, rfl, rfl, rfl⟩ := ceq_c3 hq hv hu
  refine ⟨fun op => run_eqGuard_agg w op t x y _ _ h3, ?_⟩
  have hl : cs.length = P.cellsOf t := by
    have := hv.1
    rw [vA_len] at this
    omega
  have := eqI_of 9992 8 t h2 w cs hl
  simp only [packT, h1, if_true] at this
  exact this

def flatsB (P : Program) : List (Nat × Nat) → Bool
  | [] => true
  | (t, n) :: r => flatB P t n && flatsB P r

theorem flats_ok {P : Program} : ∀ {l : List (Nat × Nat)}, flatsB P l = true → ∀ t, 0 < fget l t → FlatOK P t (fget l t)
  | [], _, t, h => by cases h
  | (i, n) :: r, hb, t, h => by
    simp only [flatsB, Bool.and_eq_true] at hb
    simp only [fget] at h ⊢
    cases hx : Nat.beq i t with
    | true =>
      rw [hx] at h
      rw [← beq_yes hx]
      exact flatB_ok hb.1
    | false => rw [hx] at h; exact flats_ok hb.2 t h
end Go.AM
