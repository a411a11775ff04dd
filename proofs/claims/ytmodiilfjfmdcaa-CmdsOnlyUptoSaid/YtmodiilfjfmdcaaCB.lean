/-
  Layer 8, second part: what is read, by the program and by the document's answer; that both are one the other's way back; the laws.
-/
import Derived.Test.YtmodiilfjfmdcaaCA
namespace Go.Proofs.Ytmodiilfjfmdcaa
open Go Go.AW Go.Proofs
set_option maxRecDepth 10000

theorem get_loop (l : List UInt8) : ∀ (f i acc : Nat) (rest : List UInt8), i + f = 9 → rest = l.drop i → i ≤ l.length → acc < 2 ^ (7 * i) →
    To E Try.f69 (.pure (.ret (getV (getR f i acc rest)))) (.head (stk Try.f69 0) [(0, .str l), (5, .int .i64 acc), (10, .int .i64 (min (l.length : Int) 9)), (11, .int .i64 i)] []) := by
  intro f
  induction f with
  | zero =>
    intro i acc rest hi hr hl ha
    refine goes hE 100 ?_
    conv => whnf
    refine And.intro (fun h => absurd (of_decide_eq_true h) (by omega)) (fun h => ?_)
    refine goes hE 100 ?_
    conv => whnf
    rfl
  | succ f ih =>
    intro i acc rest hi hr hl ha
    cases rest with
    | nil =>
      have hle : l.length ≤ i := by simpa using hr.symm
      refine goes hE 100 ?_
      conv => whnf
      refine And.intro (fun h => absurd (of_decide_eq_true h) (by omega)) (fun h => ?_)
      refine goes hE 100 ?_
      conv => whnf
      rfl
    | cons c r =>
      have hc : l[i]? = some c := by
        have : (l.drop i)[0]? = some c := by rw [← hr]; rfl
        simpa using this
      have hil : i < l.length := (List.getElem?_eq_some_iff.1 hc).1
      have hr' : r = l.drop (i + 1) := by rw [← List.drop_drop, ← hr]; rfl
      have h5 : 2 ^ (7 * (i + 1)) = 128 * 2 ^ (7 * i) := by rw [Nat.mul_add, Nat.pow_add]; omega
      have h3 : c.toNat % 128 ≤ 127 := by omega
      have h4 : (c.toNat % 128) * 2 ^ (7 * i) ≤ 127 * 2 ^ (7 * i) := Nat.mul_le_mul_right _ h3
      have h6 : 2 ^ (7 * (i + 1)) ≤ 2 ^ 63 := Nat.pow_le_pow_right (by decide) (by omega)
      have hc2 : c.toNat < 256 := c.toNat_lt
      have e1 : ebits .and .u8 (c.toNat : Int) 127 = ((c.toNat % 128 : Nat) : Int) := by
        have := ebits_and .u8 c.toNat 127 (by simp only [kmax]; omega) (by decide)
        rw [show (127 : Nat) = 2 ^ 7 - 1 from rfl, and_mod] at this
        exact this
      have e2 : (7 * (i : Int)).toNat = 7 * i := by omega
      have e3 : ((c.toNat % 128 : Nat) : Int) * 2 ^ (7 * i) = ((c.toNat % 128 * 2 ^ (7 * i) : Nat) : Int) := by simp
      have e4 : ebits .or .i64 (acc : Int) ((c.toNat % 128 * 2 ^ (7 * i) : Nat) : Int) = ((acc + c.toNat % 128 * 2 ^ (7 * i) : Nat) : Int) := by
        rw [ebits_or .i64 _ _ (by simp only [kmax]; omega) (by simp only [kmax]; omega), or_add ha]
      refine goes hE 100 ?_
      conv => whnf
      refine And.intro (fun h => ?_) (fun h => absurd (of_decide_eq_false h) (by omega))
      refine goes hE 100 ?_
      conv => whnf
      refine ⟨i, rfl, ?_⟩
      refine goes hE 100 ?_
      conv => whnf
      refine ⟨c, hc, ?_⟩
      refine goes hE 100 ?_
      conv => whnf
      refine .inl ⟨by rw [e1]; exact inR_nat (by simp only [kmax]; omega), ?_⟩
      refine goes hE 100 ?_
      conv => whnf
      refine Or.inl (And.intro (And.intro (by simp only [kmin]; omega) (by simp only [kmax]; omega)) ?_)
      refine goes hE 100 ?_
      conv => whnf
      refine ⟨by omega, ?_⟩
      refine goes hE 100 ?_
      conv => whnf
      refine .inl ⟨⟨by rw [e2]; simp only [IntKind.bits]; omega, by rw [e1, e2, e3]; exact inR_nat (by simp only [kmax]; omega)⟩, ?_⟩
      refine goes hE 100 ?_
      conv => whnf
      rw [e1, e2, e3, e4]
      refine And.intro (fun h => ?_) (fun h => ?_)
      · have hlt : c.toNat < 128 := by have := of_decide_eq_true h; omega
        have hd : ¬ (c.toNat = 0 ∧ 0 < i) → getR (f + 1) i acc (c :: r) = some (acc + (c.toNat % 128) * 2 ^ (7 * i), i + 1) := fun hz => by
          rw [getR, if_pos hlt, if_neg hz]
        refine goes hE 100 ?_
        conv => whnf
        refine And.intro (fun hz => ?_) (fun hz => ?_)
        · have hz : c.toNat = 0 := by
            have hz : ((c.toNat : Int) == 0) = true := hz
            have := eq_of_beq hz
            omega
          refine goes hE 100 ?_
          conv => whnf
          refine And.intro (fun h0 => ?_) (fun h0 => ?_)
          · have h0 : 0 < i := by have := of_decide_eq_true h0; omega
            refine goes hE 100 ?_
            conv => whnf
            rw [getR, if_pos hlt, if_pos ⟨hz, h0⟩]
            rfl
          · have h0 : ¬ 0 < i := by have := of_decide_eq_false h0; omega
            rw [hd (by omega)]
            refine goes hE 100 ?_
            conv => whnf
            refine Or.inl (And.intro (And.intro (by simp only [kmin]; omega) (by simp only [kmax]; omega)) ?_)
            refine goes hE 100 ?_
            conv => whnf
            rfl
        · have hz : ¬ c.toNat = 0 := by
            have hz : ((c.toNat : Int) == 0) = false := hz
            intro e
            rw [e] at hz
            cases hz
          rw [hd (by omega)]
          refine goes hE 100 ?_
          conv => whnf
          refine And.intro (fun h => absurd (show false = true from h) (by decide)) (fun _ => ?_)
          refine goes hE 100 ?_
          conv => whnf
          refine Or.inl (And.intro (And.intro (by simp only [kmin]; omega) (by simp only [kmax]; omega)) ?_)
          refine goes hE 100 ?_
          conv => whnf
          rfl
      · have hlt : ¬ c.toNat < 128 := by have := of_decide_eq_false h; omega
        rw [getR, if_neg hlt]
        refine goes hE 100 ?_
        conv => whnf
        refine Or.inl (And.intro (And.intro (by simp only [kmin]; omega) (by simp only [kmax]; omega)) ?_)
        refine goes hE 100 ?_
        conv => whnf
        refine To.head [0, 5, 10, 11] ?_
        exact ih (i + 1) (acc + (c.toNat % 128) * 2 ^ (7 * i)) r (by omega) hr' (by omega) (by omega)

theorem get_ok (l : List UInt8) : CallOK Try.prog 69 [.str l] [] (.ret (getV (getN l))) [] := by
  refine CallOK.to (E := E) (fn := Try.f69) (g := .pure _) (by rfl) (by rfl) (by rfl) (fun _ _ => by rfl) (by decide +kernel) (by rfl) (by rfl) (by rfl) fun _ => ?_
  refine goes hE 100 ?_
  conv => whnf
  refine To.head [0, 5, 10, 11] ?_
  exact get_loop l 9 0 0 l rfl rfl (Nat.zero_le _) (by decide)

theorem rget_loop (l : List UInt8) : ∀ (f i acc : Nat) (rest : List UInt8), i + f = 9 → rest = l.drop i → i ≤ l.length → acc < 2 ^ (7 * i) →
    To E Try.f72 (.pure (.ret (getV (getR f i acc rest)))) (.head (stk Try.f72 0) [(0, .str l), (5, .int .i64 acc), (6, .int .i64 i)] []) := by
  intro f
  induction f with
  | zero =>
    intro i acc rest hi hr hl ha
    refine goes hE 100 ?_
    conv => whnf
    repeat' first
      | (refine goN hE 100 rfl ?_; conv => whnf)
      | refine And.intro (fun h => absurd (of_decide_eq_true h) (by omega)) (fun h => ?_)
      | exact rfl
      | refine And.intro (fun _ => ?_) (fun h => absurd (show true = false from h) (by decide))
      | refine And.intro (fun h => absurd (show false = true from h) (by decide)) (fun _ => ?_)
      | refine And.intro (fun h => ?_) (fun h => absurd (of_decide_eq_false h) (by omega))
      | refine And.intro (fun h => absurd (of_decide_eq_true h) (by omega)) (fun h => ?_)
      | refine And.intro (fun h => ?_) (fun h => ?_)
      | refine Or.inl (And.intro (And.intro (by simp only [kmin]; omega) (by simp only [kmax]; omega)) ?_)
      | refine Exists.intro _ (And.intro rfl ?_)
      | refine And.intro (by decide) ?_
      | refine And.intro (by omega) ?_
  | succ f ih =>
    intro i acc rest hi hr hl ha
    cases rest with
    | nil =>
      have hle : l.length ≤ i := by simpa using hr.symm
      refine goes hE 100 ?_
      conv => whnf
      refine And.intro (fun h => absurd (of_decide_eq_true h) (by omega)) (fun h => ?_)
      refine goes hE 100 ?_
      conv => whnf
      refine And.intro (fun h => absurd (show false = true from h) (by decide)) (fun _ => ?_)
      refine goes hE 100 ?_
      conv => whnf
      rfl
    | cons c r =>
      have hc : l[i]? = some c := by
        have : (l.drop i)[0]? = some c := by rw [← hr]; rfl
        simpa using this
      have hil : i < l.length := (List.getElem?_eq_some_iff.1 hc).1
      have hr' : r = l.drop (i + 1) := by rw [← List.drop_drop, ← hr]; rfl
      have h5 : 2 ^ (7 * (i + 1)) = 128 * 2 ^ (7 * i) := by rw [Nat.mul_add, Nat.pow_add]; omega
      have h3 : c.toNat % 128 ≤ 127 := by omega
      have h4 : (c.toNat % 128) * 2 ^ (7 * i) ≤ 127 * 2 ^ (7 * i) := Nat.mul_le_mul_right _ h3
      have h6 : 2 ^ (7 * (i + 1)) ≤ 2 ^ 63 := Nat.pow_le_pow_right (by decide) (by omega)
      have hc2 : c.toNat < 256 := c.toNat_lt
      have e1 : Int.tmod (c.toNat : Int) 128 = ((c.toNat % 128 : Nat) : Int) := by
        rw [Int.tmod_eq_emod_of_nonneg (by omega)]
        omega
      have e2 : (7 * (i : Int)).toNat = 7 * i := by omega
      have e3 : ((c.toNat % 128 : Nat) : Int) * 2 ^ (7 * i) = ((c.toNat % 128 * 2 ^ (7 * i) : Nat) : Int) := by simp
      have e4 : (acc : Int) + ((c.toNat % 128 * 2 ^ (7 * i) : Nat) : Int) = ((acc + c.toNat % 128 * 2 ^ (7 * i) : Nat) : Int) := by omega
      refine goes hE 100 ?_
      conv => whnf
      refine And.intro (fun h => ?_) (fun h => absurd (of_decide_eq_false h) (by omega))
      refine goes hE 100 ?_
      conv => whnf
      refine And.intro (fun h => ?_) (fun h => absurd (of_decide_eq_false h) (by omega))
      refine goes hE 100 ?_
      conv => whnf
      refine ⟨i, rfl, ?_⟩
      refine goes hE 100 ?_
      conv => whnf
      refine ⟨c, hc, ?_⟩
      refine goes hE 100 ?_
      conv => whnf
      refine ⟨by decide, ?_⟩
      refine goes hE 100 ?_
      conv => whnf
      refine .inl ⟨by rw [e1]; exact inR_nat (by simp only [kmax]; omega), ?_⟩
      refine goes hE 100 ?_
      conv => whnf
      refine Or.inl (And.intro (And.intro (by simp only [kmin]; omega) (by simp only [kmax]; omega)) ?_)
      refine goes hE 100 ?_
      conv => whnf
      refine Or.inl (And.intro (And.intro (by simp only [kmin]; omega) (by simp only [kmax]; omega)) ?_)
      refine goes hE 100 ?_
      conv => whnf
      refine ⟨by omega, ?_⟩
      refine goes hE 100 ?_
      conv => whnf
      refine .inl ⟨⟨by rw [e2]; simp only [IntKind.bits]; omega, by rw [e1, e2, e3]; exact inR_nat (by simp only [kmax]; omega)⟩, ?_⟩
      refine goes hE 100 ?_
      conv => whnf
      refine .inl ⟨by rw [e1, e2, e3, e4]; exact inR_nat (by simp only [kmax]; omega), ?_⟩
      refine goes hE 100 ?_
      conv => whnf
      refine ⟨i, rfl, ?_⟩
      refine goes hE 100 ?_
      conv => whnf
      refine ⟨c, hc, ?_⟩
      refine goes hE 100 ?_
      conv => whnf
      rw [e1, e2, e3, e4]
      refine And.intro (fun h => ?_) (fun h => ?_)
      · have hlt : ¬ c.toNat < 128 := by have := of_decide_eq_true h; omega
        rw [getR, if_neg hlt]
        refine goes hE 100 ?_
        conv => whnf
        refine Or.inl (And.intro (And.intro (by simp only [kmin]; omega) (by simp only [kmax]; omega)) ?_)
        refine goes hE 100 ?_
        conv => whnf
        refine To.head [0, 5, 6] ?_
        exact ih (i + 1) (acc + (c.toNat % 128) * 2 ^ (7 * i)) r (by omega) hr' (by omega) (by omega)
      · have hlt : c.toNat < 128 := by have := of_decide_eq_false h; omega
        have hd : ¬ (c.toNat = 0 ∧ 0 < i) → getR (f + 1) i acc (c :: r) = some (acc + (c.toNat % 128) * 2 ^ (7 * i), i + 1) := fun hz => by
          rw [getR, if_pos hlt, if_neg hz]
        refine goes hE 100 ?_
        conv => whnf
        refine ⟨i, rfl, ?_⟩
        refine goes hE 100 ?_
        conv => whnf
        refine ⟨c, hc, ?_⟩
        refine goes hE 100 ?_
        conv => whnf
        refine And.intro (fun hz => ?_) (fun hz => ?_)
        · have hz : c.toNat = 0 := by
            have hz : ((c.toNat : Int) == 0) = true := hz
            have := eq_of_beq hz
            omega
          refine goes hE 100 ?_
          conv => whnf
          refine And.intro (fun h0 => ?_) (fun h0 => ?_)
          · have h0 : 0 < i := by have := of_decide_eq_true h0; omega
            refine goes hE 100 ?_
            conv => whnf
            rw [getR, if_pos hlt, if_pos ⟨hz, h0⟩]
            rfl
          · have h0 : ¬ 0 < i := by have := of_decide_eq_false h0; omega
            rw [hd (by omega)]
            refine goes hE 100 ?_
            conv => whnf
            refine Or.inl (And.intro (And.intro (by simp only [kmin]; omega) (by simp only [kmax]; omega)) ?_)
            refine goes hE 100 ?_
            conv => whnf
            rfl
        · have hz : ¬ c.toNat = 0 := by
            have hz : ((c.toNat : Int) == 0) = false := hz
            intro e
            rw [e] at hz
            cases hz
          rw [hd (by omega)]
          refine goes hE 100 ?_
          conv => whnf
          refine And.intro (fun h => absurd (show false = true from h) (by decide)) (fun _ => ?_)
          refine goes hE 100 ?_
          conv => whnf
          refine Or.inl (And.intro (And.intro (by simp only [kmin]; omega) (by simp only [kmax]; omega)) ?_)
          refine goes hE 100 ?_
          conv => whnf
          rfl

theorem rget_ok (l : List UInt8) : CallOK Try.prog 72 [.str l] [] (.ret (getV (getN l))) [] := by
  refine CallOK.to (E := E) (fn := Try.f72) (g := .pure _) (by rfl) (by rfl) (by rfl) (fun _ _ => by rfl) (by decide +kernel) (by rfl) (by rfl) (by rfl) fun _ => ?_
  refine goes hE 100 ?_
  conv => whnf
  refine To.head [0, 5, 6] ?_
  exact rget_loop l 9 0 0 l rfl rfl (Nat.zero_le _) (by decide)
end Go.Proofs.Ytmodiilfjfmdcaa

namespace Go.Proofs.Ytmodiilfjfmdcaa
open Go Go.AW Go.Proofs
set_option maxRecDepth 10000

theorem opt_elim {α : Type} {o : Option α} {C : Prop} (h0 : o = none → C) (h1 : ∀ x, o = some x → C) : C := by
  cases o with
  | none => exact h0 rfl
  | some x => exact h1 x rfl
theorem bool_elim {b : Bool} {C : Prop} (h1 : b = true → C) (h0 : b = false → C) : C := by
  cases b with
  | true => exact h1 rfl
  | false => exact h0 rfl
abbrev tRd : TypeId := 79
abbrev rdO (s : List UInt8) : List AObj := [.cells tRd [.str s]]
abbrev rdU : List AObj := [.cells tRd [.undef]]
def rNum (s : List UInt8) : Option (Int × List UInt8) := match getN s with
  | some (n, k) => some ((n : Int), s.drop k)
  | none => none
def resR {α : Type} (av : α → AVal) : Option (α × List UInt8) → Res
  | some (a, _) => .ret (av a)
  | none => .pan (stopV 10)
def objR {α : Type} : Option (α × List UInt8) → List AObj
  | some (_, s) => rdO s
  | none => rdU

theorem num_ok {s s' : List UInt8} {n : Int} (h : rNum s = some (n, s')) : CallOK Try.prog 48 [.ref 0 0] (rdO s) (.ret (ii n)) (rdO s') := by
  unfold rNum at h
  split at h
  · rename_i m k hg
    cases h
    have hc := get_ok s
    rw [hg] at hc
    have hb := getN_lt hg
    refine CallOK.to (E := E) (fn := Try.f48) (g := .full 1 _ _) (by rfl) (by rfl) (by rfl) (fun _ _ => by rfl) (by decide +kernel) (by rfl) (by rfl) (by rfl) fun _ => ?_
    refine goes hE 100 ?_
    conv => whnf
    refine .pure _ [] hc ?_
    refine goes hE 100 ?_
    conv => whnf
    refine .pure _ [] (must_ok _ _ rfl) ?_
    refine goes hE 100 ?_
    conv => whnf
    refine ⟨k, rfl, ?_⟩
    refine goes hE 100 ?_
    conv => whnf
    refine ⟨by omega, ?_⟩
    refine goes hE 100 ?_
    conv => whnf
    exact ⟨[], [0], ⟨rfl, rfl⟩, rfl, rfl⟩
  · cases h
theorem num_bad {s : List UInt8} (h : rNum s = none) : CallOK Try.prog 48 [.ref 0 0] (rdO s) (.pan (stopV 10)) rdU := by
  unfold rNum at h
  split at h
  · cases h
  · rename_i hg
    have hc := get_ok s
    rw [hg] at hc
    refine CallOK.blur (obs' := rdO s) ?_
    refine CallOK.to (E := E) (fn := Try.f48) (g := .full 1 _ _) (by rfl) (by rfl) (by rfl) (fun _ _ => by rfl) (by decide +kernel) (by rfl) (by rfl) (by rfl) fun _ => ?_
    refine goes hE 100 ?_
    conv => whnf
    refine .pure _ [] hc ?_
    refine goes hE 100 ?_
    conv => whnf
    refine .pan _ (must_bad _ _ rfl) ?_
    exact ⟨[], [0], ⟨rfl, rfl⟩, rfl, rfl⟩
def rCount (s : List UInt8) : Option (Int × List UInt8) := match rNum s with
  | some (n, s') => if decide (n ≤ (s'.length : Int)) then some (n, s') else none
  | none => none
theorem count_ok {s s' : List UInt8} {n : Int} (h : rCount s = some (n, s')) : CallOK Try.prog 70 [.ref 0 0] (rdO s) (.ret (ii n)) (rdO s') := by
  unfold rCount at h
  split at h
  · rename_i m s2 hn
    split at h
    · rename_i hd
      cases h
      refine CallOK.to (E := E) (fn := Try.f70) (g := .full 1 _ _) (by rfl) (by rfl) (by rfl) (fun _ _ => by rfl) (by decide +kernel) (by rfl) (by rfl) (by rfl) fun _ => ?_
      refine goes hE 100 ?_
      conv => whnf
      refine .eff [] [0] _ _ rfl (num_ok hn) ?_
      refine goes hE 100 ?_
      conv => whnf
      refine .pure _ [] (must_ok _ _ hd) ?_
      refine goes hE 100 ?_
      conv => whnf
      exact ⟨[], [0], ⟨rfl, rfl⟩, rfl, rfl⟩
    · cases h
  · cases h
theorem count_bad {s : List UInt8} (h : rCount s = none) : CallOK Try.prog 70 [.ref 0 0] (rdO s) (.pan (stopV 10)) rdU := by
  unfold rCount at h
  split at h
  · rename_i m s2 hn
    split at h
    · cases h
    · rename_i hd
      refine CallOK.blur (obs' := rdO s2) ?_
      refine CallOK.to (E := E) (fn := Try.f70) (g := .full 1 _ _) (by rfl) (by rfl) (by rfl) (fun _ _ => by rfl) (by decide +kernel) (by rfl) (by rfl) (by rfl) fun _ => ?_
      refine goes hE 100 ?_
      conv => whnf
      refine .eff [] [0] _ _ rfl (num_ok hn) ?_
      refine goes hE 100 ?_
      conv => whnf
      refine .pan _ (must_bad _ _ (by simpa using hd)) ?_
      exact ⟨[], [0], ⟨rfl, rfl⟩, rfl, rfl⟩
  · rename_i hn
    refine CallOK.to (E := E) (fn := Try.f70) (g := .full 1 _ _) (by rfl) (by rfl) (by rfl) (fun _ _ => by rfl) (by decide +kernel) (by rfl) (by rfl) (by rfl) fun _ => ?_
    refine goes hE 100 ?_
    conv => whnf
    refine .effp [] [0] _ _ rfl (num_bad hn) ?_
    exact ⟨[], [0], ⟨rfl, rfl⟩, rfl, rfl⟩

def rVec (s : List UInt8) : Option (V3 × List UInt8) := match rNum s with
  | none => none
  | some (a, s) => match rNum s with
    | none => none
    | some (b, s) => match rNum s with
      | none => none
      | some (c, s) => some (⟨a, b, c⟩, s)
theorem vec_any (s : List UInt8) (r : Res) (O : List AObj) (hr : resR (fun v : V3 => .agg v.cs) (rVec s) = r) (ho : objR (rVec s) = O) : CallOK Try.prog 71 [.ref 0 0] (rdO s) r O := by
  unfold rVec at hr ho
  refine CallOK.to (E := E) (fn := Try.f71) (g := .full 1 _ _) (by rfl) (by rfl) (by rfl) (fun _ _ => by rfl) (by decide +kernel) (by rfl) (by rfl) (by rfl) fun _ => ?_
  refine goes hE 100 ?_
  conv => whnf
  refine goes hE 100 ?_
  conv => whnf
  refine And.intro (fun _ => ?_) (fun h => absurd (show true = false from h) (by decide))
  refine goes hE 100 ?_
  conv => whnf
  refine opt_elim (o := rNum s) (fun h1 => ?_) (fun ⟨a, s1⟩ h1 => ?_)
  · simp only [h1] at hr ho
    have hr : Res.pan (stopV 10) = r := hr
    have ho : rdU = O := ho
    subst hr ho
    refine .effp [] [0] _ _ rfl (num_bad h1) ?_
    exact ⟨[], [0], ⟨rfl, rfl⟩, rfl, rfl⟩
  simp only [h1] at hr ho
  refine .eff [] [0] _ _ rfl (num_ok h1) ?_
  refine goes hE 100 ?_
  conv => whnf
  refine ⟨⟨by decide, by decide⟩, ?_⟩
  refine goes hE 100 ?_
  conv => whnf
  refine Or.inl (And.intro (And.intro (by simp only [kmin]; omega) (by simp only [kmax]; omega)) ?_)
  refine goes hE 100 ?_
  conv => whnf
  refine goes hE 100 ?_
  conv => whnf
  refine And.intro (fun _ => ?_) (fun h => absurd (show true = false from h) (by decide))
  refine goes hE 100 ?_
  conv => whnf
  refine opt_elim (o := rNum s1) (fun h2 => ?_) (fun ⟨b, s2⟩ h2 => ?_)
  · simp only [h2] at hr ho
    have hr : Res.pan (stopV 10) = r := hr
    have ho : rdU = O := ho
    subst hr ho
    refine .effp [] [0] _ _ rfl (num_bad h2) ?_
    exact ⟨[], [0], ⟨rfl, rfl⟩, rfl, rfl⟩
  simp only [h2] at hr ho
  refine .eff [] [0] _ _ rfl (num_ok h2) ?_
  refine goes hE 100 ?_
  conv => whnf
  refine ⟨⟨by decide, by decide⟩, ?_⟩
  refine goes hE 100 ?_
  conv => whnf
  refine Or.inl (And.intro (And.intro (by simp only [kmin]; omega) (by simp only [kmax]; omega)) ?_)
  refine goes hE 100 ?_
  conv => whnf
  refine goes hE 100 ?_
  conv => whnf
  refine And.intro (fun _ => ?_) (fun h => absurd (show true = false from h) (by decide))
  refine goes hE 100 ?_
  conv => whnf
  refine opt_elim (o := rNum s2) (fun h3 => ?_) (fun ⟨c, s3⟩ h3 => ?_)
  · simp only [h3] at hr ho
    have hr : Res.pan (stopV 10) = r := hr
    have ho : rdU = O := ho
    subst hr ho
    refine .effp [] [0] _ _ rfl (num_bad h3) ?_
    exact ⟨[], [0], ⟨rfl, rfl⟩, rfl, rfl⟩
  simp only [h3] at hr ho
  refine .eff [] [0] _ _ rfl (num_ok h3) ?_
  refine goes hE 100 ?_
  conv => whnf
  refine ⟨⟨by decide, by decide⟩, ?_⟩
  refine goes hE 100 ?_
  conv => whnf
  refine Or.inl (And.intro (And.intro (by simp only [kmin]; omega) (by simp only [kmax]; omega)) ?_)
  refine goes hE 100 ?_
  conv => whnf
  refine goes hE 100 ?_
  conv => whnf
  refine And.intro (fun h => absurd (show false = true from h) (by decide)) (fun _ => ?_)
  refine goes hE 100 ?_
  conv => whnf
  subst hr ho
  refine ⟨[], [0], ⟨rfl, rfl⟩, ?_⟩
  exact ⟨rfl, rfl⟩
theorem vec_ok2 {s s' : List UInt8} {v : V3} (h : rVec s = some (v, s')) : CallOK Try.prog 71 [.ref 0 0] (rdO s) (.ret (.agg v.cs)) (rdO s') := vec_any s _ _ (by rw [h]; rfl) (by rw [h]; rfl)
theorem vec_bad {s : List UInt8} (h : rVec s = none) : CallOK Try.prog 71 [.ref 0 0] (rdO s) (.pan (stopV 10)) rdU := vec_any s _ _ (by rw [h]; rfl) (by rw [h]; rfl)
def rGan (s : List UInt8) : Option (Gan × List UInt8) := match rNum s with
  | none => none
  | some (a, s) => match rNum s with
    | none => none
    | some (b, s) => match rNum s with
      | none => none
      | some (c, s) => match rVec s with
        | none => none
        | some (v, s) => match rNum s with
          | none => none
          | some (d, s) => match rNum s with
            | none => none
            | some (e, s) => match rNum s with
              | none => none
              | some (f, s) => some (⟨a, b, c, v, d, e, f⟩, s)
theorem rgan_any (s : List UInt8) (r : Res) (O : List AObj) (hr : resR Gan.av (rGan s) = r) (ho : objR (rGan s) = O) : CallOK Try.prog 50 [.ref 0 0] (rdO s) r O := by
  unfold rGan at hr ho
  refine CallOK.to (E := E) (fn := Try.f50) (g := .full 1 _ _) (by rfl) (by rfl) (by rfl) (fun _ _ => by rfl) (by decide +kernel) (by rfl) (by rfl) (by rfl) fun _ => ?_
  refine goes hE 100 ?_
  conv => whnf
  refine opt_elim (o := rNum s) (fun h1 => ?_) (fun ⟨a, s1⟩ h1 => ?_)
  · simp only [h1] at hr ho
    have hr : Res.pan (stopV 10) = r := hr
    have ho : rdU = O := ho
    subst hr ho
    refine .effp [] [0] _ _ rfl (num_bad h1) ?_
    exact ⟨[], [0], ⟨rfl, rfl⟩, rfl, rfl⟩
  simp only [h1] at hr ho
  refine .eff [] [0] _ _ rfl (num_ok h1) ?_
  refine goes hE 100 ?_
  conv => whnf
  refine opt_elim (o := rNum s1) (fun h2 => ?_) (fun ⟨b, s2⟩ h2 => ?_)
  · simp only [h2] at hr ho
    have hr : Res.pan (stopV 10) = r := hr
    have ho : rdU = O := ho
    subst hr ho
    refine .effp [] [0] _ _ rfl (num_bad h2) ?_
    exact ⟨[], [0], ⟨rfl, rfl⟩, rfl, rfl⟩
  simp only [h2] at hr ho
  refine .eff [] [0] _ _ rfl (num_ok h2) ?_
  refine goes hE 100 ?_
  conv => whnf
  refine opt_elim (o := rNum s2) (fun h3 => ?_) (fun ⟨c, s3⟩ h3 => ?_)
  · simp only [h3] at hr ho
    have hr : Res.pan (stopV 10) = r := hr
    have ho : rdU = O := ho
    subst hr ho
    refine .effp [] [0] _ _ rfl (num_bad h3) ?_
    exact ⟨[], [0], ⟨rfl, rfl⟩, rfl, rfl⟩
  simp only [h3] at hr ho
  refine .eff [] [0] _ _ rfl (num_ok h3) ?_
  refine goes hE 100 ?_
  conv => whnf
  refine opt_elim (o := rVec s3) (fun h4 => ?_) (fun ⟨v, s4⟩ h4 => ?_)
  · simp only [h4] at hr ho
    have hr : Res.pan (stopV 10) = r := hr
    have ho : rdU = O := ho
    subst hr ho
    refine .effp [] [0] _ _ rfl (vec_bad h4) ?_
    exact ⟨[], [0], ⟨rfl, rfl⟩, rfl, rfl⟩
  simp only [h4] at hr ho
  refine .eff [] [0] _ _ rfl (vec_ok2 h4) ?_
  refine goes hE 100 ?_
  conv => whnf
  refine opt_elim (o := rNum s4) (fun h5 => ?_) (fun ⟨d, s5⟩ h5 => ?_)
  · simp only [h5] at hr ho
    have hr : Res.pan (stopV 10) = r := hr
    have ho : rdU = O := ho
    subst hr ho
    refine .effp [] [0] _ _ rfl (num_bad h5) ?_
    exact ⟨[], [0], ⟨rfl, rfl⟩, rfl, rfl⟩
  simp only [h5] at hr ho
  refine .eff [] [0] _ _ rfl (num_ok h5) ?_
  refine goes hE 100 ?_
  conv => whnf
  refine opt_elim (o := rNum s5) (fun h6 => ?_) (fun ⟨e, s6⟩ h6 => ?_)
  · simp only [h6] at hr ho
    have hr : Res.pan (stopV 10) = r := hr
    have ho : rdU = O := ho
    subst hr ho
    refine .effp [] [0] _ _ rfl (num_bad h6) ?_
    exact ⟨[], [0], ⟨rfl, rfl⟩, rfl, rfl⟩
  simp only [h6] at hr ho
  refine .eff [] [0] _ _ rfl (num_ok h6) ?_
  refine goes hE 100 ?_
  conv => whnf
  refine opt_elim (o := rNum s6) (fun h7 => ?_) (fun ⟨f, s7⟩ h7 => ?_)
  · simp only [h7] at hr ho
    have hr : Res.pan (stopV 10) = r := hr
    have ho : rdU = O := ho
    subst hr ho
    refine .effp [] [0] _ _ rfl (num_bad h7) ?_
    exact ⟨[], [0], ⟨rfl, rfl⟩, rfl, rfl⟩
  simp only [h7] at hr ho
  refine .eff [] [0] _ _ rfl (num_ok h7) ?_
  refine goes hE 100 ?_
  conv => whnf
  subst hr ho
  refine ⟨[], [0], ⟨rfl, rfl⟩, ?_⟩
  exact ⟨rfl, rfl⟩
theorem rgan_ok {s s' : List UInt8} {v : Gan} (h : rGan s = some (v, s')) : CallOK Try.prog 50 [.ref 0 0] (rdO s) (.ret v.av) (rdO s') := rgan_any s _ _ (by rw [h]; rfl) (by rw [h]; rfl)
theorem rgan_bad {s : List UInt8} (h : rGan s = none) : CallOK Try.prog 50 [.ref 0 0] (rdO s) (.pan (stopV 10)) rdU := rgan_any s _ _ (by rw [h]; rfl) (by rw [h]; rfl)
end Go.Proofs.Ytmodiilfjfmdcaa

namespace Go.Proofs.Ytmodiilfjfmdcaa
open Go Go.AW Go.Proofs
set_option maxRecDepth 10000

theorem rNum_b {s s' : List UInt8} {n : Int} (h : rNum s = some (n, s')) : 0 ≤ n ∧ n ≤ 9223372036854775807 ∧ s'.length + 1 ≤ s.length := by
  unfold rNum at h
  split at h
  · rename_i m k hg
    cases h
    have := getN_lt hg
    simp only [List.length_drop]
    omega
  · cases h
theorem rCount_b {s s' : List UInt8} {n : Int} (h : rCount s = some (n, s')) : 0 ≤ n ∧ n ≤ 9223372036854775807 ∧ s'.length + 1 ≤ s.length ∧ n ≤ s'.length := by
  unfold rCount at h
  split at h
  · rename_i m s2 hn
    split at h
    · rename_i hd
      cases h
      have := rNum_b hn
      have := of_decide_eq_true hd
      omega
    · cases h
  · cases h
theorem rVec_b {s s' : List UInt8} {v : V3} (h : rVec s = some (v, s')) : s'.length + 1 ≤ s.length := by
  unfold rVec at h
  split at h
  · cases h
  · rename_i h1
    split at h
    · cases h
    · rename_i h2
      split at h
      · cases h
      · rename_i h3
        cases h
        have := rNum_b h1
        have := rNum_b h2
        have := rNum_b h3
        omega

def rNod (s : List UInt8) : Option (Nod × List UInt8) := match rNum s with
  | none => none
  | some (p, s) => match rNum s with
    | none => none
    | some (w, s) => match rVec s with
      | none => none
      | some (a, s) => match rVec s with
        | none => none
        | some (b, s) => match rVec s with
          | none => none
          | some (c, s) => some (⟨p - 1, w, a, b, c⟩, s)
def rHos (s : List UInt8) : Option (Hos × List UInt8) := match rNum s with
  | none => none
  | some (f, s) => match rNum s with
    | none => none
    | some (b, s) => match rNum s with
      | none => none
      | some (r, s) => match rVec s with
        | none => none
        | some (c, s) => some (⟨f, b, r, c⟩, s)
def rFin (ns : List Nod) (hs : List Hos) (s : List UInt8) : Option (Con × List UInt8) := match rNum s with
  | none => none
  | some (a, s) => match rNum s with
    | none => none
    | some (b, s) => some (⟨ns, hs, a, b⟩, s)
def rH (ns : List Nod) : Nat → List Hos → List UInt8 → Option (Con × List UInt8)
  | 0, hs, s => rFin ns hs s
  | m + 1, hs, s => match rHos s with
    | none => none
    | some (x, s) => rH ns m (hs ++ [x]) s
def rHs (ns : List Nod) (s : List UInt8) : Option (Con × List UInt8) := match rCount s with
  | none => none
  | some (n, s) => rH ns n.toNat [] s
def rN : Nat → List Nod → List UInt8 → Option (Con × List UInt8)
  | 0, ns, s => rHs ns s
  | m + 1, ns, s => match rNod s with
    | none => none
    | some (x, s) => rN m (ns ++ [x]) s
def rCon (s : List UInt8) : Option (Con × List UInt8) := match rCount s with
  | none => none
  | some (n, s) => rN n.toNat [] s

noncomputable abbrev fRc : Func := Try.f49

theorem rch_loop (ns : List Nod) (n : Int) (hn : n ≤ 9223372036854775807) (r : Res) (O : List AObj) : ∀ (m i : Nat) (s : List UInt8) (hs : List Hos), (i + m : Int) = n → hs.length + s.length ≤ 1000000000 → resR Con.av (rH ns m hs s) = r → objR (rH ns m hs s) = O →
    To E fRc (.full 1 r O) (.head (stk fRc 1) [(0, .ref 0 0), (2, .ref 1 0), (32, .int .i64 n), (33, .int .i64 i)] [.cells tRd [.str s], .cells 25 [.slice 11 (nav ns) .no, .slice 6 (hav hs) (.own 2 0), ii 0, ii 0], .tail 0 6 93]) := by
  intro m
  induction m with
  | zero =>
    intro i s hs hi hl hr ho
    unfold rH rFin at hr ho
    refine goes hE 100 ?_
    conv => whnf
    refine And.intro (fun h => absurd (of_decide_eq_true h) (by omega)) (fun h => ?_)
    refine goes hE 100 ?_
    conv => whnf
    refine opt_elim (o := rNum s) (fun h1 => ?_) (fun ⟨a, s1⟩ h1 => ?_)
    · simp only [h1] at hr ho
      have hr : Res.pan (stopV 10) = r := hr
      have ho : rdU = O := ho
      subst hr ho
      refine .effp [] [0] _ _ rfl (num_bad h1) ?_
      exact ⟨[], [0], ⟨rfl, rfl⟩, rfl, rfl⟩
    simp only [h1] at hr ho
    refine .eff [] [0] _ _ rfl (num_ok h1) ?_
    refine goes hE 100 ?_
    conv => whnf
    refine opt_elim (o := rNum s1) (fun h2 => ?_) (fun ⟨b, s2⟩ h2 => ?_)
    · simp only [h2] at hr ho
      have hr : Res.pan (stopV 10) = r := hr
      have ho : rdU = O := ho
      subst hr ho
      refine .effp [] [0] _ _ rfl (num_bad h2) ?_
      exact ⟨[], [0], ⟨rfl, rfl⟩, rfl, rfl⟩
    simp only [h2] at hr ho
    refine .eff [] [0] _ _ rfl (num_ok h2) ?_
    refine goes hE 100 ?_
    conv => whnf
    subst hr ho
    refine ⟨[], [0], ⟨rfl, rfl⟩, ?_⟩
    exact ⟨rfl, rfl⟩
  | succ m ih =>
    intro i s hs hi hl hr ho
    unfold rH rHos at hr ho
    have hlen : (hav hs).length = hs.length := by simp
    refine goes hE 100 ?_
    conv => whnf
    refine And.intro (fun h => ?_) (fun h => absurd (of_decide_eq_false h) (by omega))
    refine goes hE 100 ?_
    conv => whnf
    refine opt_elim (o := rNum s) (fun h1 => ?_) (fun ⟨a, s1⟩ h1 => ?_)
    · simp only [h1] at hr ho
      have hr : Res.pan (stopV 10) = r := hr
      have ho : rdU = O := ho
      subst hr ho
      refine .effp [] [0] _ _ rfl (num_bad h1) ?_
      exact ⟨[], [0], ⟨rfl, rfl⟩, rfl, rfl⟩
    simp only [h1] at hr ho
    refine .eff [] [0] _ _ rfl (num_ok h1) ?_
    refine goes hE 100 ?_
    conv => whnf
    refine opt_elim (o := rNum s1) (fun h2 => ?_) (fun ⟨b, s2⟩ h2 => ?_)
    · simp only [h2] at hr ho
      have hr : Res.pan (stopV 10) = r := hr
      have ho : rdU = O := ho
      subst hr ho
      refine .effp [] [0] _ _ rfl (num_bad h2) ?_
      exact ⟨[], [0], ⟨rfl, rfl⟩, rfl, rfl⟩
    simp only [h2] at hr ho
    refine .eff [] [0] _ _ rfl (num_ok h2) ?_
    refine goes hE 100 ?_
    conv => whnf
    refine opt_elim (o := rNum s2) (fun h3 => ?_) (fun ⟨c, s3⟩ h3 => ?_)
    · simp only [h3] at hr ho
      have hr : Res.pan (stopV 10) = r := hr
      have ho : rdU = O := ho
      subst hr ho
      refine .effp [] [0] _ _ rfl (num_bad h3) ?_
      exact ⟨[], [0], ⟨rfl, rfl⟩, rfl, rfl⟩
    simp only [h3] at hr ho
    refine .eff [] [0] _ _ rfl (num_ok h3) ?_
    refine goes hE 100 ?_
    conv => whnf
    refine opt_elim (o := rVec s3) (fun h4 => ?_) (fun ⟨v, s4⟩ h4 => ?_)
    · simp only [h4] at hr ho
      have hr : Res.pan (stopV 10) = r := hr
      have ho : rdU = O := ho
      subst hr ho
      refine .effp [] [0] _ _ rfl (vec_bad h4) ?_
      exact ⟨[], [0], ⟨rfl, rfl⟩, rfl, rfl⟩
    simp only [h4] at hr ho
    refine .eff [] [0] _ _ rfl (vec_ok2 h4) ?_
    refine goes hE 100 ?_
    conv => whnf
    have b1 := rNum_b h1
    have b2 := rNum_b h2
    have b3 := rNum_b h3
    have b4 := rVec_b h4
    refine And.intro ⟨by simp only [maxLen]; simp; omega, by simp; omega⟩ ?_
    refine goes hE 100 ?_
    conv => whnf
    refine Or.inl (And.intro (And.intro (by simp only [kmin]; omega) (by simp only [kmax]; omega)) ?_)
    refine goes hE 100 ?_
    conv => whnf
    refine To.part [0, 2, 32, 33] [0, 1, 2] rfl rfl rfl ?_
    have next := ih (i + 1) s4 (hs ++ [⟨a, b, c, v⟩]) (by omega) (by simp; omega) hr ho
    have e : hav (hs ++ [⟨a, b, c, v⟩]) = hav hs ++ [Hos.av ⟨a, b, c, v⟩] := by simp
    rw [e] at next
    exact next
theorem rcn_loop (n : Int) (hn : n ≤ 9223372036854775807) (r : Res) (O : List AObj) : ∀ (m i : Nat) (s : List UInt8) (ns : List Nod), (i + m : Int) = n → ns.length + s.length ≤ 1000000000 → resR Con.av (rN m ns s) = r → objR (rN m ns s) = O →
    To E fRc (.full 1 r O) (.head (stk fRc 0) [(0, .ref 0 0), (2, .ref 1 0), (6, .int .i64 n), (7, .int .i64 i)] [.cells tRd [.str s], .cells 25 [.slice 11 (nav ns) (.own 2 0), .slice 6 [] .nil, ii 0, ii 0], .tail 0 11 90]) := by
  intro m
  induction m with
  | zero =>
    intro i s ns hi hl hr ho
    unfold rN rHs at hr ho
    refine goes hE 100 ?_
    conv => whnf
    refine And.intro (fun h => absurd (of_decide_eq_true h) (by omega)) (fun h => ?_)
    refine goes hE 100 ?_
    conv => whnf
    refine opt_elim (o := rCount s) (fun h1 => ?_) (fun ⟨k, s1⟩ h1 => ?_)
    · simp only [h1] at hr ho
      have hr : Res.pan (stopV 10) = r := hr
      have ho : rdU = O := ho
      subst hr ho
      refine .effp [] [0] _ _ rfl (count_bad h1) ?_
      exact ⟨[], [0], ⟨rfl, rfl⟩, rfl, rfl⟩
    simp only [h1] at hr ho
    refine .eff [] [0] _ _ rfl (count_ok h1) ?_
    refine goes hE 100 ?_
    conv => whnf
    have b1 := rCount_b h1
    refine To.part [0, 2, 32, 33] [0, 1] rfl rfl rfl ?_
    refine To.begin 1 1 93 rfl rfl ?_
    exact rch_loop ns k (by omega) r O k.toNat 0 s1 [] (by omega) (by simp; omega) hr ho
  | succ m ih =>
    intro i s ns hi hl hr ho
    unfold rN rNod at hr ho
    have hlen : (nav ns).length = ns.length := by simp
    refine goes hE 100 ?_
    conv => whnf
    refine And.intro (fun h => ?_) (fun h => absurd (of_decide_eq_false h) (by omega))
    refine goes hE 100 ?_
    conv => whnf
    refine opt_elim (o := rNum s) (fun h1 => ?_) (fun ⟨a, s1⟩ h1 => ?_)
    · simp only [h1] at hr ho
      have hr : Res.pan (stopV 10) = r := hr
      have ho : rdU = O := ho
      subst hr ho
      refine .effp [] [0] _ _ rfl (num_bad h1) ?_
      exact ⟨[], [0], ⟨rfl, rfl⟩, rfl, rfl⟩
    simp only [h1] at hr ho
    refine .eff [] [0] _ _ rfl (num_ok h1) ?_
    refine goes hE 100 ?_
    conv => whnf
    have b1 := rNum_b h1
    refine Or.inl (And.intro (And.intro (by simp only [kmin]; omega) (by simp only [kmax]; omega)) ?_)
    refine goes hE 100 ?_
    conv => whnf
    refine opt_elim (o := rNum s1) (fun h2 => ?_) (fun ⟨b, s2⟩ h2 => ?_)
    · simp only [h2] at hr ho
      have hr : Res.pan (stopV 10) = r := hr
      have ho : rdU = O := ho
      subst hr ho
      refine .effp [] [0] _ _ rfl (num_bad h2) ?_
      exact ⟨[], [0], ⟨rfl, rfl⟩, rfl, rfl⟩
    simp only [h2] at hr ho
    refine .eff [] [0] _ _ rfl (num_ok h2) ?_
    refine goes hE 100 ?_
    conv => whnf
    refine opt_elim (o := rVec s2) (fun h3 => ?_) (fun ⟨c, s3⟩ h3 => ?_)
    · simp only [h3] at hr ho
      have hr : Res.pan (stopV 10) = r := hr
      have ho : rdU = O := ho
      subst hr ho
      refine .effp [] [0] _ _ rfl (vec_bad h3) ?_
      exact ⟨[], [0], ⟨rfl, rfl⟩, rfl, rfl⟩
    simp only [h3] at hr ho
    refine .eff [] [0] _ _ rfl (vec_ok2 h3) ?_
    refine goes hE 100 ?_
    conv => whnf
    refine opt_elim (o := rVec s3) (fun h4 => ?_) (fun ⟨d, s4⟩ h4 => ?_)
    · simp only [h4] at hr ho
      have hr : Res.pan (stopV 10) = r := hr
      have ho : rdU = O := ho
      subst hr ho
      refine .effp [] [0] _ _ rfl (vec_bad h4) ?_
      exact ⟨[], [0], ⟨rfl, rfl⟩, rfl, rfl⟩
    simp only [h4] at hr ho
    refine .eff [] [0] _ _ rfl (vec_ok2 h4) ?_
    refine goes hE 100 ?_
    conv => whnf
    refine opt_elim (o := rVec s4) (fun h5 => ?_) (fun ⟨e, s5⟩ h5 => ?_)
    · simp only [h5] at hr ho
      have hr : Res.pan (stopV 10) = r := hr
      have ho : rdU = O := ho
      subst hr ho
      refine .effp [] [0] _ _ rfl (vec_bad h5) ?_
      exact ⟨[], [0], ⟨rfl, rfl⟩, rfl, rfl⟩
    simp only [h5] at hr ho
    refine .eff [] [0] _ _ rfl (vec_ok2 h5) ?_
    refine goes hE 100 ?_
    conv => whnf
    have b2 := rNum_b h2
    have b3 := rVec_b h3
    have b4 := rVec_b h4
    have b5 := rVec_b h5
    refine And.intro ⟨by simp only [maxLen]; simp; omega, by simp; omega⟩ ?_
    refine goes hE 100 ?_
    conv => whnf
    refine Or.inl (And.intro (And.intro (by simp only [kmin]; omega) (by simp only [kmax]; omega)) ?_)
    refine goes hE 100 ?_
    conv => whnf
    refine To.part [0, 2, 6, 7] [0, 1, 2] rfl rfl rfl ?_
    have next := ih (i + 1) s5 (ns ++ [⟨a - 1, b, c, d, e⟩]) (by omega) (by simp; omega) hr ho
    have e : nav (ns ++ [⟨a - 1, b, c, d, e⟩]) = nav ns ++ [Nod.av ⟨a - 1, b, c, d, e⟩] := by simp
    rw [e] at next
    exact next
theorem rcon_any (s : List UInt8) (hs : s.length ≤ 1000000000) (r : Res) (O : List AObj) (hr : resR Con.av (rCon s) = r) (ho : objR (rCon s) = O) : CallOK Try.prog 49 [.ref 0 0] (rdO s) r O := by
  unfold rCon at hr ho
  refine CallOK.to (E := E) (fn := Try.f49) (g := .full 1 _ _) (by rfl) (by rfl) (by rfl) (fun _ _ => by rfl) (by decide +kernel) (by rfl) (by rfl) (by rfl) fun _ => ?_
  refine goes hE 100 ?_
  conv => whnf
  refine opt_elim (o := rCount s) (fun h1 => ?_) (fun ⟨k, s1⟩ h1 => ?_)
  · simp only [h1] at hr ho
    have hr : Res.pan (stopV 10) = r := hr
    have ho : rdU = O := ho
    subst hr ho
    refine .effp [] [0] _ _ rfl (count_bad h1) ?_
    exact ⟨[], [0], ⟨rfl, rfl⟩, rfl, rfl⟩
  simp only [h1] at hr ho
  refine .eff [] [0] _ _ rfl (count_ok h1) ?_
  refine goes hE 100 ?_
  conv => whnf
  have b1 := rCount_b h1
  refine To.part [0, 2, 6, 7] [0, 1] rfl rfl rfl ?_
  refine To.begin 1 0 90 rfl rfl ?_
  exact rcn_loop k (by omega) r O k.toNat 0 s1 [] (by omega) (by simp; omega) hr ho
theorem rcon_ok {s s' : List UInt8} (hs : s.length ≤ 1000000000) {v : Con} (h : rCon s = some (v, s')) : CallOK Try.prog 49 [.ref 0 0] (rdO s) (.ret v.av) (rdO s') := rcon_any s hs _ _ (by rw [h]; rfl) (by rw [h]; rfl)
theorem rcon_bad {s : List UInt8} (hs : s.length ≤ 1000000000) (h : rCon s = none) : CallOK Try.prog 49 [.ref 0 0] (rdO s) (.pan (stopV 10)) rdU := rcon_any s hs _ _ (by rw [h]; rfl) (by rw [h]; rfl)
end Go.Proofs.Ytmodiilfjfmdcaa

namespace Go.Proofs.Ytmodiilfjfmdcaa
open Go Go.AW Go.Proofs
set_option maxRecDepth 10000

def Con.zero : Con := ⟨[], [], 0, 0⟩
def rCmd (s : List UInt8) : Option (Cmd × List UInt8) := match rNum s with
  | none => none
  | some (k, s) => if k == 1 then (match rCon s with
      | none => none
      | some (c, s) => some (⟨k, c, Gan.zero, 0⟩, s))
    else if k == 2 then (match rGan s with
      | none => none
      | some (g, s) => some (⟨k, Con.zero, g, 0⟩, s))
    else if (k == 3 || k == 4) || k == 5 then (match rNum s with
      | none => none
      | some (n, s) => some (⟨k, Con.zero, Gan.zero, n⟩, s))
    else some (⟨k, Con.zero, Gan.zero, 0⟩, s)

abbrev zCs : List AVal := [ii 0, .slice 11 [] .nil, .slice 6 [] .nil, ii 0, ii 0, ii 0, ii 0, ii 0, ii 0, ii 0, ii 0, ii 0, ii 0, ii 0, ii 0]
abbrev dcO (s : List UInt8) : List AObj := [.cells 31 zCs, .cells tRd [.str s], .cells 77 [.ref 1 0]]
abbrev dcX (x : Cmd) (s : List UInt8) : List AObj := [.cells 31 x.cs, .cells tRd [.str s], .cells 77 [.ref 1 0]]
abbrev dcU : List AObj := mapOL (fun _ => .undef) (dcO [])
noncomputable abbrev fD1 : Nat := 47
theorem d1_none {s : List UInt8} (h : rNum s = none) : CallOK Try.prog 47 [.ref 2 0, .ref 0 0] (dcO s) (.pan (stopV 10)) dcU := by
  refine CallOK.blur (obs' := [.cells 31 zCs, .cells tRd [.undef], .cells 77 [.ref 1 0]]) ?_
  refine CallOK.to (E := E) (fn := Try.f47) (g := .full 3 _ _) (by rfl) (by rfl) (by rfl) (fun _ _ => by rfl) (by decide +kernel) (by rfl) (by rfl) (by rfl) fun _ => ?_
  refine goes hE 100 ?_
  conv => whnf
  refine .effp [] [1] _ _ rfl (num_bad h) ?_
  exact ⟨[], [0, 1, 2], ⟨rfl, rfl⟩, rfl, rfl⟩
theorem d1_c0 {s s1 : List UInt8} (hs : s1.length ≤ 1000000000) (h : rNum s = some (1, s1)) (h2 : rCon s1 = none) : CallOK Try.prog 47 [.ref 2 0, .ref 0 0] (dcO s) (.pan (stopV 10)) dcU := by
  refine CallOK.blur (obs' := [.cells 31 (ii 1 :: zCs.tail), .cells tRd [.undef], .cells 77 [.ref 1 0]]) ?_
  refine CallOK.to (E := E) (fn := Try.f47) (g := .full 3 _ _) (by rfl) (by rfl) (by rfl) (fun _ _ => by rfl) (by decide +kernel) (by rfl) (by rfl) (by rfl) fun _ => ?_
  refine goes hE 100 ?_
  conv => whnf
  refine .eff [] [1] _ _ rfl (num_ok h) ?_
  refine goes hE 100 ?_
  conv => whnf
  refine And.intro (fun _ => ?_) (fun h => absurd (show true = false from h) (by decide))
  refine goes hE 100 ?_
  conv => whnf
  refine .effp [] [1] _ _ rfl (rcon_bad hs h2) ?_
  exact ⟨[], [0, 1, 2], ⟨rfl, rfl⟩, rfl, rfl⟩
theorem d1_c {s s1 s2 : List UInt8} {c : Con} (hs : s1.length ≤ 1000000000) (h : rNum s = some (1, s1)) (h2 : rCon s1 = some (c, s2)) : CallOK Try.prog 47 [.ref 2 0, .ref 0 0] (dcO s) (.ret (.tup [])) (dcX ⟨1, c, Gan.zero, 0⟩ s2) := by
  refine CallOK.to (E := E) (fn := Try.f47) (g := .full 3 _ _) (by rfl) (by rfl) (by rfl) (fun _ _ => by rfl) (by decide +kernel) (by rfl) (by rfl) (by rfl) fun _ => ?_
  refine goes hE 100 ?_
  conv => whnf
  refine .eff [] [1] _ _ rfl (num_ok h) ?_
  refine goes hE 100 ?_
  conv => whnf
  refine And.intro (fun _ => ?_) (fun h => absurd (show true = false from h) (by decide))
  refine goes hE 100 ?_
  conv => whnf
  refine .eff [] [1] _ _ rfl (rcon_ok hs h2) ?_
  refine goes hE 100 ?_
  conv => whnf
  exact ⟨[], [0, 1, 2], ⟨rfl, rfl⟩, rfl, rfl⟩
theorem d1_g0 {s s1 : List UInt8} (h : rNum s = some (2, s1)) (h2 : rGan s1 = none) : CallOK Try.prog 47 [.ref 2 0, .ref 0 0] (dcO s) (.pan (stopV 10)) dcU := by
  refine CallOK.blur (obs' := [.cells 31 (ii 2 :: zCs.tail), .cells tRd [.undef], .cells 77 [.ref 1 0]]) ?_
  refine CallOK.to (E := E) (fn := Try.f47) (g := .full 3 _ _) (by rfl) (by rfl) (by rfl) (fun _ _ => by rfl) (by decide +kernel) (by rfl) (by rfl) (by rfl) fun _ => ?_
  refine goes hE 100 ?_
  conv => whnf
  refine .eff [] [1] _ _ rfl (num_ok h) ?_
  refine goes hE 100 ?_
  conv => whnf
  refine And.intro (fun h => absurd (show false = true from h) (by decide)) (fun _ => ?_)
  refine goes hE 100 ?_
  conv => whnf
  refine And.intro (fun _ => ?_) (fun h => absurd (show true = false from h) (by decide))
  refine goes hE 100 ?_
  conv => whnf
  refine .effp [] [1] _ _ rfl (rgan_bad h2) ?_
  exact ⟨[], [0, 1, 2], ⟨rfl, rfl⟩, rfl, rfl⟩
theorem d1_g {s s1 s2 : List UInt8} {g : Gan} (h : rNum s = some (2, s1)) (h2 : rGan s1 = some (g, s2)) : CallOK Try.prog 47 [.ref 2 0, .ref 0 0] (dcO s) (.ret (.tup [])) (dcX ⟨2, Con.zero, g, 0⟩ s2) := by
  refine CallOK.loose (obs' := [.cells 31 [ii 2, .slice 11 [] .nil, .slice 6 [] .nil, ii 0, ii 0, ii g.id, ii g.ten, ii g.pods, ii g.need.a, ii g.need.b, ii g.need.c, ii g.run, ii g.lev, ii g.pref, ii 0], .cells tRd [.str s2], .cells 77 [.ref 1 0]]) ?_
  refine CallOK.to (E := E) (fn := Try.f47) (g := .full 3 _ _) (by rfl) (by rfl) (by rfl) (fun _ _ => by rfl) (by decide +kernel) (by rfl) (by rfl) (by rfl) fun _ => ?_
  refine goes hE 100 ?_
  conv => whnf
  refine .eff [] [1] _ _ rfl (num_ok h) ?_
  refine goes hE 100 ?_
  conv => whnf
  refine And.intro (fun h => absurd (show false = true from h) (by decide)) (fun _ => ?_)
  refine goes hE 100 ?_
  conv => whnf
  refine And.intro (fun _ => ?_) (fun h => absurd (show true = false from h) (by decide))
  refine goes hE 100 ?_
  conv => whnf
  refine .eff [] [1] _ _ rfl (rgan_ok h2) ?_
  refine goes hE 100 ?_
  conv => whnf
  exact ⟨[], [0, 1, 2], ⟨rfl, rfl⟩, rfl, rfl⟩
theorem d1_n0 {s s1 : List UInt8} {k : Int} (hk : k = 3 ∨ k = 4 ∨ k = 5) (h : rNum s = some (k, s1)) (h2 : rNum s1 = none) : CallOK Try.prog 47 [.ref 2 0, .ref 0 0] (dcO s) (.pan (stopV 10)) dcU := by
  rcases hk with rfl | rfl | rfl
  · refine CallOK.blur (obs' := [.cells 31 (ii 3 :: zCs.tail), .cells tRd [.undef], .cells 77 [.ref 1 0]]) ?_
    refine CallOK.to (E := E) (fn := Try.f47) (g := .full 3 _ _) (by rfl) (by rfl) (by rfl) (fun _ _ => by rfl) (by decide +kernel) (by rfl) (by rfl) (by rfl) fun _ => ?_
    refine goes hE 100 ?_
    conv => whnf
    refine .eff [] [1] _ _ rfl (num_ok h) ?_
    refine goes hE 100 ?_
    conv => whnf
    repeat' first
      | (refine goN hE 100 rfl ?_; conv => whnf)
      | refine .effp [] [1] _ _ rfl (num_bad h2) ?_
      | exact rfl
      | refine And.intro (fun _ => ?_) (fun h => absurd (show true = false from h) (by decide))
      | refine And.intro (fun h => absurd (show false = true from h) (by decide)) (fun _ => ?_)
      | refine And.intro (fun h => ?_) (fun h => absurd (of_decide_eq_false h) (by omega))
      | refine And.intro (fun h => absurd (of_decide_eq_true h) (by omega)) (fun h => ?_)
      | refine And.intro (fun h => ?_) (fun h => ?_)
      | refine Or.inl (And.intro (And.intro (by simp only [kmin]; omega) (by simp only [kmax]; omega)) ?_)
      | refine Exists.intro _ (And.intro rfl ?_)
      | refine And.intro (by decide) ?_
      | refine And.intro (by omega) ?_
    exact ⟨[], [0, 1, 2], ⟨rfl, rfl⟩, rfl, rfl⟩
  · refine CallOK.blur (obs' := [.cells 31 (ii 4 :: zCs.tail), .cells tRd [.undef], .cells 77 [.ref 1 0]]) ?_
    refine CallOK.to (E := E) (fn := Try.f47) (g := .full 3 _ _) (by rfl) (by rfl) (by rfl) (fun _ _ => by rfl) (by decide +kernel) (by rfl) (by rfl) (by rfl) fun _ => ?_
    refine goes hE 100 ?_
    conv => whnf
    refine .eff [] [1] _ _ rfl (num_ok h) ?_
    refine goes hE 100 ?_
    conv => whnf
    repeat' first
      | (refine goN hE 100 rfl ?_; conv => whnf)
      | refine .effp [] [1] _ _ rfl (num_bad h2) ?_
      | exact rfl
      | refine And.intro (fun _ => ?_) (fun h => absurd (show true = false from h) (by decide))
      | refine And.intro (fun h => absurd (show false = true from h) (by decide)) (fun _ => ?_)
      | refine And.intro (fun h => ?_) (fun h => absurd (of_decide_eq_false h) (by omega))
      | refine And.intro (fun h => absurd (of_decide_eq_true h) (by omega)) (fun h => ?_)
      | refine And.intro (fun h => ?_) (fun h => ?_)
      | refine Or.inl (And.intro (And.intro (by simp only [kmin]; omega) (by simp only [kmax]; omega)) ?_)
      | refine Exists.intro _ (And.intro rfl ?_)
      | refine And.intro (by decide) ?_
      | refine And.intro (by omega) ?_
    exact ⟨[], [0, 1, 2], ⟨rfl, rfl⟩, rfl, rfl⟩
  · refine CallOK.blur (obs' := [.cells 31 (ii 5 :: zCs.tail), .cells tRd [.undef], .cells 77 [.ref 1 0]]) ?_
    refine CallOK.to (E := E) (fn := Try.f47) (g := .full 3 _ _) (by rfl) (by rfl) (by rfl) (fun _ _ => by rfl) (by decide +kernel) (by rfl) (by rfl) (by rfl) fun _ => ?_
    refine goes hE 100 ?_
    conv => whnf
    refine .eff [] [1] _ _ rfl (num_ok h) ?_
    refine goes hE 100 ?_
    conv => whnf
    repeat' first
      | (refine goN hE 100 rfl ?_; conv => whnf)
      | refine .effp [] [1] _ _ rfl (num_bad h2) ?_
      | exact rfl
      | refine And.intro (fun _ => ?_) (fun h => absurd (show true = false from h) (by decide))
      | refine And.intro (fun h => absurd (show false = true from h) (by decide)) (fun _ => ?_)
      | refine And.intro (fun h => ?_) (fun h => absurd (of_decide_eq_false h) (by omega))
      | refine And.intro (fun h => absurd (of_decide_eq_true h) (by omega)) (fun h => ?_)
      | refine And.intro (fun h => ?_) (fun h => ?_)
      | refine Or.inl (And.intro (And.intro (by simp only [kmin]; omega) (by simp only [kmax]; omega)) ?_)
      | refine Exists.intro _ (And.intro rfl ?_)
      | refine And.intro (by decide) ?_
      | refine And.intro (by omega) ?_
    exact ⟨[], [0, 1, 2], ⟨rfl, rfl⟩, rfl, rfl⟩
abbrev nCs (k n : Int) : List AVal := [ii k, .slice 11 [] .nil, .slice 6 [] .nil, ii 0, ii 0, ii 0, ii 0, ii 0, ii 0, ii 0, ii 0, ii 0, ii 0, ii 0, ii n]
theorem d1_n {s s1 s2 : List UInt8} {k n : Int} (hk : k = 3 ∨ k = 4 ∨ k = 5) (h : rNum s = some (k, s1)) (h2 : rNum s1 = some (n, s2)) : CallOK Try.prog 47 [.ref 2 0, .ref 0 0] (dcO s) (.ret (.tup [])) (dcX ⟨k, Con.zero, Gan.zero, n⟩ s2) := by
  refine CallOK.loose (obs' := [.cells 31 (nCs k n), .cells tRd [.str s2], .cells 77 [.ref 1 0]]) ?_
  rcases hk with rfl | rfl | rfl
  · refine CallOK.to (E := E) (fn := Try.f47) (g := .full 3 _ _) (by rfl) (by rfl) (by rfl) (fun _ _ => by rfl) (by decide +kernel) (by rfl) (by rfl) (by rfl) fun _ => ?_
    refine goes hE 100 ?_
    conv => whnf
    refine .eff [] [1] _ _ rfl (num_ok h) ?_
    refine goes hE 100 ?_
    conv => whnf
    repeat' first
      | (refine goN hE 100 rfl ?_; conv => whnf)
      | refine .eff [] [1] _ _ rfl (num_ok h2) ?_
      | exact rfl
      | refine And.intro (fun _ => ?_) (fun h => absurd (show true = false from h) (by decide))
      | refine And.intro (fun h => absurd (show false = true from h) (by decide)) (fun _ => ?_)
      | refine And.intro (fun h => ?_) (fun h => absurd (of_decide_eq_false h) (by omega))
      | refine And.intro (fun h => absurd (of_decide_eq_true h) (by omega)) (fun h => ?_)
      | refine And.intro (fun h => ?_) (fun h => ?_)
      | refine Or.inl (And.intro (And.intro (by simp only [kmin]; omega) (by simp only [kmax]; omega)) ?_)
      | refine Exists.intro _ (And.intro rfl ?_)
      | refine And.intro (by decide) ?_
      | refine And.intro (by omega) ?_
    exact ⟨[], [0, 1, 2], ⟨rfl, rfl⟩, rfl, rfl⟩
  · refine CallOK.to (E := E) (fn := Try.f47) (g := .full 3 _ _) (by rfl) (by rfl) (by rfl) (fun _ _ => by rfl) (by decide +kernel) (by rfl) (by rfl) (by rfl) fun _ => ?_
    refine goes hE 100 ?_
    conv => whnf
    refine .eff [] [1] _ _ rfl (num_ok h) ?_
    refine goes hE 100 ?_
    conv => whnf
    repeat' first
      | (refine goN hE 100 rfl ?_; conv => whnf)
      | refine .eff [] [1] _ _ rfl (num_ok h2) ?_
      | exact rfl
      | refine And.intro (fun _ => ?_) (fun h => absurd (show true = false from h) (by decide))
      | refine And.intro (fun h => absurd (show false = true from h) (by decide)) (fun _ => ?_)
      | refine And.intro (fun h => ?_) (fun h => absurd (of_decide_eq_false h) (by omega))
      | refine And.intro (fun h => absurd (of_decide_eq_true h) (by omega)) (fun h => ?_)
      | refine And.intro (fun h => ?_) (fun h => ?_)
      | refine Or.inl (And.intro (And.intro (by simp only [kmin]; omega) (by simp only [kmax]; omega)) ?_)
      | refine Exists.intro _ (And.intro rfl ?_)
      | refine And.intro (by decide) ?_
      | refine And.intro (by omega) ?_
    exact ⟨[], [0, 1, 2], ⟨rfl, rfl⟩, rfl, rfl⟩
  · refine CallOK.to (E := E) (fn := Try.f47) (g := .full 3 _ _) (by rfl) (by rfl) (by rfl) (fun _ _ => by rfl) (by decide +kernel) (by rfl) (by rfl) (by rfl) fun _ => ?_
    refine goes hE 100 ?_
    conv => whnf
    refine .eff [] [1] _ _ rfl (num_ok h) ?_
    refine goes hE 100 ?_
    conv => whnf
    repeat' first
      | (refine goN hE 100 rfl ?_; conv => whnf)
      | refine .eff [] [1] _ _ rfl (num_ok h2) ?_
      | exact rfl
      | refine And.intro (fun _ => ?_) (fun h => absurd (show true = false from h) (by decide))
      | refine And.intro (fun h => absurd (show false = true from h) (by decide)) (fun _ => ?_)
      | refine And.intro (fun h => ?_) (fun h => absurd (of_decide_eq_false h) (by omega))
      | refine And.intro (fun h => absurd (of_decide_eq_true h) (by omega)) (fun h => ?_)
      | refine And.intro (fun h => ?_) (fun h => ?_)
      | refine Or.inl (And.intro (And.intro (by simp only [kmin]; omega) (by simp only [kmax]; omega)) ?_)
      | refine Exists.intro _ (And.intro rfl ?_)
      | refine And.intro (by decide) ?_
      | refine And.intro (by omega) ?_
    exact ⟨[], [0, 1, 2], ⟨rfl, rfl⟩, rfl, rfl⟩
theorem d1_o {s s1 : List UInt8} {k : Int} (h1 : (k == 1) = false) (h2 : (k == 2) = false) (h3 : (k == 3) = false) (h4 : (k == 4) = false) (h5 : (k == 5) = false) (h : rNum s = some (k, s1)) :
    CallOK Try.prog 47 [.ref 2 0, .ref 0 0] (dcO s) (.ret (.tup [])) (dcX ⟨k, Con.zero, Gan.zero, 0⟩ s1) := by
  refine CallOK.loose (obs' := [.cells 31 (nCs k 0), .cells tRd [.str s1], .cells 77 [.ref 1 0]]) ?_
  refine CallOK.to (E := E) (fn := Try.f47) (g := .full 3 _ _) (by rfl) (by rfl) (by rfl) (fun _ _ => by rfl) (by decide +kernel) (by rfl) (by rfl) (by rfl) fun _ => ?_
  refine goes hE 100 ?_
  conv => whnf
  refine .eff [] [1] _ _ rfl (num_ok h) ?_
  refine goes hE 100 ?_
  conv => whnf
  refine And.intro (fun h => absurd (h.symm.trans h1) (by decide)) (fun _ => ?_)
  refine goes hE 100 ?_
  conv => whnf
  refine And.intro (fun h => absurd (h.symm.trans h2) (by decide)) (fun _ => ?_)
  refine goes hE 100 ?_
  conv => whnf
  refine And.intro (fun h => absurd (h.symm.trans h3) (by decide)) (fun _ => ?_)
  refine goes hE 100 ?_
  conv => whnf
  refine And.intro (fun h => absurd (h.symm.trans h4) (by decide)) (fun _ => ?_)
  refine goes hE 100 ?_
  conv => whnf
  refine And.intro (fun h => absurd (h.symm.trans h5) (by decide)) (fun _ => ?_)
  refine goes hE 100 ?_
  conv => whnf
  exact ⟨[], [0, 1, 2], ⟨rfl, rfl⟩, rfl, rfl⟩
theorem d1_ok {s s' : List UInt8} {x : Cmd} (hs : s.length ≤ 1000000000) (h : rCmd s = some (x, s')) : CallOK Try.prog 47 [.ref 2 0, .ref 0 0] (dcO s) (.ret (.tup [])) (dcX x s') := by
  unfold rCmd at h
  split at h
  · cases h
  · rename_i k s1 h1
    have hb := rNum_b h1
    split at h
    · rename_i hk
      have hk := eq_of_beq hk
      subst hk
      split at h
      · cases h
      · rename_i h2
        cases h
        exact d1_c (by omega) h1 h2
    · rename_i hk1
      split at h
      · rename_i hk
        have hk := eq_of_beq hk
        subst hk
        split at h
        · cases h
        · rename_i h2
          cases h
          exact d1_g h1 h2
      · rename_i hk2
        split at h
        · rename_i hk
          simp at hk
          split at h
          · cases h
          · rename_i h2
            cases h
            exact d1_n (by omega) h1 h2
        · rename_i hk3
          cases h
          simp only [Bool.or_eq_true, not_or, Bool.not_eq_true] at hk1 hk2 hk3
          exact d1_o hk1 hk2 hk3.1.1 hk3.1.2 hk3.2 h1
theorem d1_bad {s : List UInt8} (hs : s.length ≤ 1000000000) (h : rCmd s = none) : CallOK Try.prog 47 [.ref 2 0, .ref 0 0] (dcO s) (.pan (stopV 10)) dcU := by
  unfold rCmd at h
  split at h
  · rename_i h1
    exact d1_none h1
  · rename_i k s1 h1
    have hb := rNum_b h1
    split at h
    · rename_i hk
      have hk := eq_of_beq hk
      subst hk
      split at h
      · rename_i h2
        exact d1_c0 (by omega) h1 h2
      · cases h
    · split at h
      · rename_i hk
        have hk := eq_of_beq hk
        subst hk
        split at h
        · rename_i h2
          exact d1_g0 h1 h2
        · cases h
      · split at h
        · rename_i hk
          simp at hk
          split at h
          · rename_i h2
            exact d1_n0 (by omega) h1 h2
          · cases h
        · cases h
end Go.Proofs.Ytmodiilfjfmdcaa

namespace Go.Proofs.Ytmodiilfjfmdcaa
open Go Go.AW Go.Proofs
set_option maxRecDepth 10000

abbrev d1V : AVal := .func (.func 47) [] [.ref 2 0, .ref 0 0]
noncomputable abbrev Et : Env := Ed [(37, [.ref 3 0])]
theorem hEt : EnvOK Et := hEd _
theorem try_ok {s s' : List UInt8} {x : Cmd} (hs : s.length ≤ 1000000000) (h : rCmd s = some (x, s')) : CallOK Try.prog 46 [d1V] (dcO s) (.ret (ii 0)) (dcX x s') := by
  refine CallOK.to (E := E) (fn := Try.f46) (g := .full 3 _ _) (by rfl) (by rfl) (by rfl) (fun _ _ => by rfl) (by decide +kernel) (by rfl) (by rfl) (by rfl) fun _ => ?_
  refine goes hE 100 ?_
  conv => whnf
  refine To.defer (f := 37) (args := [.ref 3 0]) _ rfl rfl ?_
  refine goes hEt 100 ?_
  conv => whnf
  refine .eff [] [0, 1, 2] _ _ rfl (d1_ok hs h) ?_
  refine goes hEt 100 ?_
  conv => whnf
  refine To.leave (f := 37) (args := [.ref 3 0]) [] rfl [] [3] rfl (catch_ret 0) ?_
  refine To.left hE rfl rfl ?_
  refine ⟨[], [0, 1, 2], ⟨rfl, rfl⟩, ?_⟩
  exact ⟨rfl, rfl⟩
theorem try_bad {s : List UInt8} (hs : s.length ≤ 1000000000) (h : rCmd s = none) : CallOK Try.prog 46 [d1V] (dcO s) (.ret (ii 10)) dcU := by
  refine CallOK.to (E := E) (fn := Try.f46) (g := .full 3 _ _) (by rfl) (by rfl) (by rfl) (fun _ _ => by rfl) (by decide +kernel) (by rfl) (by rfl) (by rfl) fun _ => ?_
  refine goes hE 100 ?_
  conv => whnf
  refine To.defer (f := 37) (args := [.ref 3 0]) _ rfl rfl ?_
  refine goes hEt 100 ?_
  conv => whnf
  refine .effp [] [0, 1, 2] _ _ rfl (d1_bad hs h) ?_
  conv => whnf
  refine To.leave (f := 37) (args := [.ref 3 0]) [] rfl [] [3] rfl (catch_pan 0 10) ?_
  refine To.left hE rfl rfl ?_
  refine ⟨[], [0, 1, 2], ⟨rfl, rfl⟩, ?_⟩
  exact ⟨rfl, rfl⟩
def Cmd.zero : Cmd := ⟨0, Con.zero, Gan.zero, 0⟩
/-- the command of bytes -/
def dec (s : List UInt8) : Option Cmd := match rCmd s with
  | some (x, r) => if r = [] ∧ chk x = 0 then some x else none
  | none => none
def decX (s : List UInt8) : Cmd := (dec s).getD Cmd.zero
def decE (s : List UInt8) : Int := match dec s with | some _ => 0 | none => 10
theorem decode_ok (s : List UInt8) (hs : s.length ≤ 1000000000) : CallOK Try.prog 18 [.str s] [] (.ret (.tup [(decX s).av, ii (decE s)])) [] := by
  refine CallOK.to (E := E) (fn := Try.f18) (g := .pure _) (by rfl) (by rfl) (by rfl) (fun _ _ => by rfl) (by decide +kernel) (by rfl) (by rfl) (by rfl) fun _ => ?_
  refine goes hE 100 ?_
  conv => whnf
  refine opt_elim (o := rCmd s) (fun h => ?_) (fun ⟨x, r⟩ h => ?_)
  · have e1 : decX s = Cmd.zero := by unfold decX dec; rw [h]; rfl
    have e2 : decE s = 10 := by unfold decE dec; rw [h]
    rw [e1, e2]
    refine .eff [] [1, 2, 3] _ _ rfl (try_bad hs h) ?_
    repeat' first
      | (refine goN hE 100 rfl ?_; conv => whnf)
      | exact rfl
      | refine And.intro (fun _ => ?_) (fun h => absurd (show true = false from h) (by decide))
      | refine And.intro (fun h => absurd (show false = true from h) (by decide)) (fun _ => ?_)
      | refine And.intro (fun h => ?_) (fun h => absurd (of_decide_eq_false h) (by omega))
      | refine And.intro (fun h => absurd (of_decide_eq_true h) (by omega)) (fun h => ?_)
      | refine And.intro (fun h => ?_) (fun h => ?_)
      | refine Or.inl (And.intro (And.intro (by simp only [kmin]; omega) (by simp only [kmax]; omega)) ?_)
      | refine Exists.intro _ (And.intro rfl ?_)
      | refine And.intro (by decide) ?_
      | refine And.intro (by omega) ?_
  · refine .eff [] [1, 2, 3] _ _ rfl (try_ok hs h) ?_
    refine goes hE 100 ?_
    conv => whnf
    refine And.intro (fun h => absurd (show false = true from h) (by decide)) (fun _ => ?_)
    refine goes hE 100 ?_
    conv => whnf
    refine And.intro (fun hr => ?_) (fun hr => ?_)
    · have hr : (!(r == [])) = true := hr
      have hr0 : ¬ r = [] := by intro e; rw [e] at hr; simp at hr
      have e0 : dec s = none := by unfold dec; rw [h]; exact if_neg (fun h => hr0 h.1)
      have e1 : decX s = Cmd.zero := by unfold decX; rw [e0]; rfl
      have e2 : decE s = 10 := by unfold decE; rw [e0]
      rw [e1, e2]
      repeat' first
        | (refine goN hE 100 rfl ?_; conv => whnf)
        | exact rfl
        | refine And.intro (fun _ => ?_) (fun h => absurd (show true = false from h) (by decide))
        | refine And.intro (fun h => absurd (show false = true from h) (by decide)) (fun _ => ?_)
        | refine And.intro (fun h => ?_) (fun h => absurd (of_decide_eq_false h) (by omega))
        | refine And.intro (fun h => absurd (of_decide_eq_true h) (by omega)) (fun h => ?_)
        | refine And.intro (fun h => ?_) (fun h => ?_)
        | refine Or.inl (And.intro (And.intro (by simp only [kmin]; omega) (by simp only [kmax]; omega)) ?_)
        | refine Exists.intro _ (And.intro rfl ?_)
        | refine And.intro (by decide) ?_
        | refine And.intro (by omega) ?_
    · have hr : (!(r == [])) = false := hr
      have hr0 : r = [] := by simpa using hr
      refine goes hE 100 ?_
      conv => whnf
      refine .pure _ [] (check_ok x) ?_
      refine goes hE 100 ?_
      conv => whnf
      refine And.intro (fun hc => ?_) (fun hc => ?_)
      · have hc : (chk x != 0) = true := hc
        have hc0 : ¬ chk x = 0 := by simpa using hc
        have e0 : dec s = none := by unfold dec; rw [h]; exact if_neg (fun h => hc0 h.2)
        have e1 : decX s = Cmd.zero := by unfold decX; rw [e0]; rfl
        have e2 : decE s = 10 := by unfold decE; rw [e0]
        rw [e1, e2]
        repeat' first
          | (refine goN hE 100 rfl ?_; conv => whnf)
          | exact rfl
          | refine And.intro (fun _ => ?_) (fun h => absurd (show true = false from h) (by decide))
          | refine And.intro (fun h => absurd (show false = true from h) (by decide)) (fun _ => ?_)
          | refine And.intro (fun h => ?_) (fun h => absurd (of_decide_eq_false h) (by omega))
          | refine And.intro (fun h => absurd (of_decide_eq_true h) (by omega)) (fun h => ?_)
          | refine And.intro (fun h => ?_) (fun h => ?_)
          | refine Or.inl (And.intro (And.intro (by simp only [kmin]; omega) (by simp only [kmax]; omega)) ?_)
          | refine Exists.intro _ (And.intro rfl ?_)
          | refine And.intro (by decide) ?_
          | refine And.intro (by omega) ?_
      · have hc : (chk x != 0) = false := hc
        have hc0 : chk x = 0 := by simpa using hc
        have e0 : dec s = some x := by unfold dec; rw [h]; exact if_pos ⟨hr0, hc0⟩
        have e1 : decX s = x := by unfold decX; rw [e0]; rfl
        have e2 : decE s = 0 := by unfold decE; rw [e0]
        rw [e1, e2]
        repeat' first
          | (refine goN hE 100 rfl ?_; conv => whnf)
          | exact rfl
          | refine And.intro (fun _ => ?_) (fun h => absurd (show true = false from h) (by decide))
          | refine And.intro (fun h => absurd (show false = true from h) (by decide)) (fun _ => ?_)
          | refine And.intro (fun h => ?_) (fun h => absurd (of_decide_eq_false h) (by omega))
          | refine And.intro (fun h => absurd (of_decide_eq_true h) (by omega)) (fun h => ?_)
          | refine And.intro (fun h => ?_) (fun h => ?_)
          | refine Or.inl (And.intro (And.intro (by simp only [kmin]; omega) (by simp only [kmax]; omega)) ?_)
          | refine Exists.intro _ (And.intro rfl ?_)
          | refine And.intro (by decide) ?_
          | refine And.intro (by omega) ?_
end Go.Proofs.Ytmodiilfjfmdcaa

namespace Go.Proofs.Ytmodiilfjfmdcaa
open Go Go.AW Go.Proofs
set_option maxRecDepth 10000

structure PS where
  s : List UInt8
  b : Bool
abbrev pO (p : PS) : List AObj := [.cells 86 [.str p.s, .bool p.b]]
def pNum (p : PS) : Int × PS := match rNum p.s with
  | none => (0, ⟨p.s, true⟩)
  | some (n, s) => if p.b then (0, ⟨p.s, true⟩) else (n, ⟨s, false⟩)
theorem pNum_b (p : PS) : 0 ≤ (pNum p).1 ∧ (pNum p).1 ≤ 9223372036854775807 ∧ (pNum p).2.s.length ≤ p.s.length := by
  unfold pNum
  split
  · simp
  · rename_i n s h
    have := rNum_b h
    split
    · simp
    · dsimp only; omega
theorem getV_some {s s' : List UInt8} {n : Int} (h : rNum s = some (n, s')) : ∃ k : Nat, getV (getN s) = .tup [ii n, ii k, ii 0] ∧ s' = s.drop k ∧ k ≤ s.length := by
  unfold rNum at h
  split at h
  · rename_i m k hg
    cases h
    rw [hg]
    have := getN_lt hg
    exact ⟨k, rfl, rfl, by omega⟩
  · cases h
theorem getV_none {s : List UInt8} (h : rNum s = none) : getV (getN s) = .tup [ii 0, ii 0, ii 10] := by
  unfold rNum at h
  split at h
  · cases h
  · rename_i hg
    rw [hg]; rfl
theorem pair_elim {α β : Type} {o : α × β} {C : Prop} (h : ∀ a b, o = (a, b) → C) : C := h o.1 o.2 rfl
theorem pnum_ok (p : PS) : CallOK Try.prog 51 [.ref 0 0] (pO p) (.ret (ii (pNum p).1)) (pO (pNum p).2) := by
  obtain ⟨s, b⟩ := p
  have hc := rget_ok s
  refine opt_elim (o := rNum s) (fun h => ?_) (fun ⟨n, s'⟩ h => ?_)
  · have e : pNum ⟨s, b⟩ = (0, ⟨s, true⟩) := by unfold pNum; rw [h]
    rw [e]
    rw [getV_none h] at hc
    refine CallOK.to (E := E) (fn := Try.f51) (g := .full 1 _ _) (by rfl) (by rfl) (by rfl) (fun _ _ => by rfl) (by decide +kernel) (by rfl) (by rfl) (by rfl) fun _ => ?_
    refine goes hE 100 ?_
    conv => whnf
    refine .pure _ [] hc ?_
    repeat' first
      | (refine goN hE 100 rfl ?_; conv => whnf)
      | exact rfl
      | refine And.intro (fun _ => ?_) (fun h => absurd (show true = false from h) (by decide))
      | refine And.intro (fun h => absurd (show false = true from h) (by decide)) (fun _ => ?_)
      | refine And.intro (fun h => ?_) (fun h => absurd (of_decide_eq_false h) (by omega))
      | refine And.intro (fun h => absurd (of_decide_eq_true h) (by omega)) (fun h => ?_)
      | refine And.intro (fun h => ?_) (fun h => ?_)
      | refine Or.inl (And.intro (And.intro (by simp only [kmin]; omega) (by simp only [kmax]; omega)) ?_)
      | refine Exists.intro _ (And.intro rfl ?_)
      | refine And.intro (by decide) ?_
      | refine And.intro (by omega) ?_
    exact ⟨[], [0], ⟨rfl, rfl⟩, rfl, rfl⟩
  · obtain ⟨k, e1, e2, e3⟩ := getV_some h
    rw [e1] at hc
    subst e2
    cases b with
    | true =>
      have e : pNum ⟨s, true⟩ = (0, ⟨s, true⟩) := by unfold pNum; rw [h]; rfl
      rw [e]
      refine CallOK.to (E := E) (fn := Try.f51) (g := .full 1 _ _) (by rfl) (by rfl) (by rfl) (fun _ _ => by rfl) (by decide +kernel) (by rfl) (by rfl) (by rfl) fun _ => ?_
      refine goes hE 100 ?_
      conv => whnf
      refine .pure _ [] hc ?_
      repeat' first
        | (refine goN hE 100 rfl ?_; conv => whnf)
        | exact rfl
        | refine And.intro (fun _ => ?_) (fun h => absurd (show true = false from h) (by decide))
        | refine And.intro (fun h => absurd (show false = true from h) (by decide)) (fun _ => ?_)
        | refine And.intro (fun h => ?_) (fun h => absurd (of_decide_eq_false h) (by omega))
        | refine And.intro (fun h => absurd (of_decide_eq_true h) (by omega)) (fun h => ?_)
        | refine And.intro (fun h => ?_) (fun h => ?_)
        | refine Or.inl (And.intro (And.intro (by simp only [kmin]; omega) (by simp only [kmax]; omega)) ?_)
        | refine Exists.intro _ (And.intro rfl ?_)
        | refine And.intro (by decide) ?_
        | refine And.intro (by omega) ?_
      exact ⟨[], [0], ⟨rfl, rfl⟩, rfl, rfl⟩
    | false =>
      have e : pNum ⟨s, false⟩ = (n, ⟨s.drop k, false⟩) := by unfold pNum; rw [h]; rfl
      rw [e]
      refine CallOK.to (E := E) (fn := Try.f51) (g := .full 1 _ _) (by rfl) (by rfl) (by rfl) (fun _ _ => by rfl) (by decide +kernel) (by rfl) (by rfl) (by rfl) fun _ => ?_
      refine goes hE 100 ?_
      conv => whnf
      refine .pure _ [] hc ?_
      repeat' first
        | (refine goN hE 100 rfl ?_; conv => whnf)
        | exact rfl
        | refine And.intro (fun _ => ?_) (fun h => absurd (show true = false from h) (by decide))
        | refine And.intro (fun h => absurd (show false = true from h) (by decide)) (fun _ => ?_)
        | refine And.intro (fun h => ?_) (fun h => absurd (of_decide_eq_false h) (by omega))
        | refine And.intro (fun h => absurd (of_decide_eq_true h) (by omega)) (fun h => ?_)
        | refine And.intro (fun h => ?_) (fun h => ?_)
        | refine Or.inl (And.intro (And.intro (by simp only [kmin]; omega) (by simp only [kmax]; omega)) ?_)
        | refine Exists.intro _ (And.intro rfl ?_)
        | refine And.intro (by decide) ?_
        | refine And.intro (by omega) ?_
      exact ⟨[], [0], ⟨rfl, rfl⟩, rfl, rfl⟩
theorem pnum_at {p p' : PS} {n : Int} (h : pNum p = (n, p')) : CallOK Try.prog 51 [.ref 0 0] (pO p) (.ret (ii n)) (pO p') := by
  have := pnum_ok p
  rw [h] at this
  exact this
def pVec (p : PS) : V3 × PS :=
  let a := pNum p
  let b := pNum a.2
  let c := pNum b.2
  (⟨a.1, b.1, c.1⟩, c.2)
theorem pvec_at {p : PS} {v : V3} {p' : PS} (hr : pVec p = (v, p')) : CallOK Try.prog 73 [.ref 0 0] (pO p) (.ret (.agg v.cs)) (pO p') := by
  refine CallOK.to (E := E) (fn := Try.f73) (g := .full 1 _ _) (by rfl) (by rfl) (by rfl) (fun _ _ => by rfl) (by decide +kernel) (by rfl) (by rfl) (by rfl) fun _ => ?_
  refine goes hE 100 ?_
  conv => whnf
  refine pair_elim (o := pNum p) (fun a p1 h1 => ?_)
  refine .eff [] [0] _ _ rfl (pnum_at h1) ?_
  refine goes hE 100 ?_
  conv => whnf
  refine pair_elim (o := pNum p1) (fun b p2 h2 => ?_)
  refine .eff [] [0] _ _ rfl (pnum_at h2) ?_
  refine goes hE 100 ?_
  conv => whnf
  refine pair_elim (o := pNum p2) (fun c p3 h3 => ?_)
  refine .eff [] [0] _ _ rfl (pnum_at h3) ?_
  refine goes hE 100 ?_
  conv => whnf
  simp only [pVec, h1, h2, h3] at hr
  cases hr
  refine ⟨[], [0], ⟨rfl, rfl⟩, ?_⟩
  exact ⟨rfl, rfl⟩
def pGan (p : PS) : Gan × PS :=
  let a := pNum p
  let b := pNum a.2
  let c := pNum b.2
  let v := pVec c.2
  let d := pNum v.2
  let e := pNum d.2
  let f := pNum e.2
  (⟨a.1, b.1, c.1, v.1, d.1, e.1, f.1⟩, f.2)
theorem pgan_at {p : PS} {v : Gan} {p' : PS} (hr : pGan p = (v, p')) : CallOK Try.prog 53 [.ref 0 0] (pO p) (.ret v.av) (pO p') := by
  refine CallOK.to (E := E) (fn := Try.f53) (g := .full 1 _ _) (by rfl) (by rfl) (by rfl) (fun _ _ => by rfl) (by decide +kernel) (by rfl) (by rfl) (by rfl) fun _ => ?_
  refine goes hE 100 ?_
  conv => whnf
  refine pair_elim (o := pNum p) (fun a p1 h1 => ?_)
  refine .eff [] [0] _ _ rfl (pnum_at h1) ?_
  refine goes hE 100 ?_
  conv => whnf
  refine pair_elim (o := pNum p1) (fun b p2 h2 => ?_)
  refine .eff [] [0] _ _ rfl (pnum_at h2) ?_
  refine goes hE 100 ?_
  conv => whnf
  refine pair_elim (o := pNum p2) (fun c p3 h3 => ?_)
  refine .eff [] [0] _ _ rfl (pnum_at h3) ?_
  refine goes hE 100 ?_
  conv => whnf
  refine pair_elim (o := pVec p3) (fun v p4 h4 => ?_)
  refine .eff [] [0] _ _ rfl (pvec_at h4) ?_
  refine goes hE 100 ?_
  conv => whnf
  refine pair_elim (o := pNum p4) (fun d p5 h5 => ?_)
  refine .eff [] [0] _ _ rfl (pnum_at h5) ?_
  refine goes hE 100 ?_
  conv => whnf
  refine pair_elim (o := pNum p5) (fun e p6 h6 => ?_)
  refine .eff [] [0] _ _ rfl (pnum_at h6) ?_
  refine goes hE 100 ?_
  conv => whnf
  refine pair_elim (o := pNum p6) (fun f p7 h7 => ?_)
  refine .eff [] [0] _ _ rfl (pnum_at h7) ?_
  refine goes hE 100 ?_
  conv => whnf
  simp only [pGan, h1, h2, h3, h4, h5, h6, h7] at hr
  cases hr
  refine ⟨[], [0], ⟨rfl, rfl⟩, ?_⟩
  exact ⟨rfl, rfl⟩
def pNod (p : PS) : Nod × PS :=
  let a := pNum p
  let b := pNum a.2
  let u := pVec b.2
  let v := pVec u.2
  let w := pVec v.2
  (⟨a.1 - 1, b.1, u.1, v.1, w.1⟩, w.2)
def pHos (p : PS) : Hos × PS :=
  let a := pNum p
  let b := pNum a.2
  let c := pNum b.2
  let v := pVec c.2
  (⟨a.1, b.1, c.1, v.1⟩, v.2)
def pN : Nat → Nat → Int → List Nod → PS → List Nod × PS
  | 0, _, _, ns, p => (ns, p)
  | f + 1, i, n, ns, p => if decide ((i : Int) < n) && !p.b then pN f (i + 1) n (ns ++ [(pNod p).1]) (pNod p).2 else (ns, p)
def pH : Nat → Nat → Int → List Hos → PS → List Hos × PS
  | 0, _, _, hs, p => (hs, p)
  | f + 1, i, n, hs, p => if decide ((i : Int) < n) && !p.b then pH f (i + 1) n (hs ++ [(pHos p).1]) (pHos p).2 else (hs, p)
def pFin (ns : List Nod) (h : List Hos × PS) : Con × PS := (⟨ns, h.1, (pNum h.2).1, (pNum (pNum h.2).2).1⟩, (pNum (pNum h.2).2).2)
def pRest (n : List Nod × PS) : Con × PS := pFin n.1 (pH 25 0 (pNum n.2).1 [] (pNum n.2).2)
def pCon (p : PS) : Con × PS := pRest (pN 13 0 (pNum p).1 [] (pNum p).2)

noncomputable abbrev fPc : Func := Try.f52
theorem pch_loop (ns : List Nod) (n : Int) (c : Con) (q : PS) : ∀ (f i : Nat) (hs : List Hos) (s : List UInt8) (b : Bool), i + f = 25 → hs.length ≤ i → pFin ns (pH f i n hs ⟨s, b⟩) = (c, q) →
    To E fPc (.full 1 (.ret c.av) (pO q)) (.head (stk fPc 1) [(0, .ref 0 0), (2, .ref 1 0), (3, .ref 2 0), (4, .int .i64 n), (7, .int .i64 i)] [.cells 86 [.str s, .bool b], .cells 25 [.slice 11 [] .nil, .slice 6 [] .nil, ii 0, ii 0], .cells 25 [.slice 11 (nav ns) .no, .slice 6 (hav hs) (.own 3 0), ii 0, ii 0], .tail 0 6 93]) := by
  intro f
  induction f with
  | zero =>
    intro i hs s b hi hl hr
    unfold pH at hr
    refine goes hE 100 ?_
    conv => whnf
    refine And.intro (fun h => ?_) (fun h => ?_)
    · cases b with
      | true =>
        repeat' first
          | (refine goN hE 100 rfl ?_; conv => whnf)
          | exact rfl
          | refine And.intro (fun _ => ?_) (fun h => absurd (show true = false from h) (by decide))
          | refine And.intro (fun h => absurd (show false = true from h) (by decide)) (fun _ => ?_)
          | refine And.intro (fun h => ?_) (fun h => absurd (of_decide_eq_false h) (by omega))
          | refine And.intro (fun h => absurd (of_decide_eq_true h) (by omega)) (fun h => ?_)
          | refine And.intro (fun h => ?_) (fun h => ?_)
          | refine Or.inl (And.intro (And.intro (by simp only [kmin]; omega) (by simp only [kmax]; omega)) ?_)
          | refine Exists.intro _ (And.intro rfl ?_)
          | refine And.intro (by decide) ?_
          | refine And.intro (by omega) ?_
        refine pair_elim (o := pNum ⟨s, true⟩) (fun a p1 h1 => ?_)
        refine .eff [] [0] _ _ rfl (pnum_at h1) ?_
        refine goes hE 100 ?_
        conv => whnf
        refine pair_elim (o := pNum p1) (fun b p2 h2 => ?_)
        refine .eff [] [0] _ _ rfl (pnum_at h2) ?_
        refine goes hE 100 ?_
        conv => whnf
        simp only [pFin, h1, h2] at hr
        cases hr
        refine ⟨[], [0], ⟨rfl, rfl⟩, ?_⟩
        exact ⟨rfl, rfl⟩
      | false =>
        refine goes hE 100 ?_
        conv => whnf
        refine And.intro (fun _ => ?_) (fun h => absurd (show true = false from h) (by decide))
        refine goes hE 100 ?_
        conv => whnf
        refine And.intro (fun h => absurd (of_decide_eq_true h) (by omega)) (fun h => ?_)
        refine goes hE 100 ?_
        conv => whnf
        refine pair_elim (o := pNum ⟨s, false⟩) (fun a p1 h1 => ?_)
        refine .eff [] [0] _ _ rfl (pnum_at h1) ?_
        refine goes hE 100 ?_
        conv => whnf
        refine pair_elim (o := pNum p1) (fun b p2 h2 => ?_)
        refine .eff [] [0] _ _ rfl (pnum_at h2) ?_
        refine goes hE 100 ?_
        conv => whnf
        simp only [pFin, h1, h2] at hr
        cases hr
        refine ⟨[], [0], ⟨rfl, rfl⟩, ?_⟩
        exact ⟨rfl, rfl⟩
    · repeat' first
        | (refine goN hE 100 rfl ?_; conv => whnf)
        | exact rfl
        | refine And.intro (fun _ => ?_) (fun h => absurd (show true = false from h) (by decide))
        | refine And.intro (fun h => absurd (show false = true from h) (by decide)) (fun _ => ?_)
        | refine And.intro (fun h => ?_) (fun h => absurd (of_decide_eq_false h) (by omega))
        | refine And.intro (fun h => absurd (of_decide_eq_true h) (by omega)) (fun h => ?_)
        | refine And.intro (fun h => ?_) (fun h => ?_)
        | refine Or.inl (And.intro (And.intro (by simp only [kmin]; omega) (by simp only [kmax]; omega)) ?_)
        | refine Exists.intro _ (And.intro rfl ?_)
        | refine And.intro (by decide) ?_
        | refine And.intro (by omega) ?_
      refine pair_elim (o := pNum ⟨s, b⟩) (fun a p1 h1 => ?_)
      refine .eff [] [0] _ _ rfl (pnum_at h1) ?_
      refine goes hE 100 ?_
      conv => whnf
      refine pair_elim (o := pNum p1) (fun b p2 h2 => ?_)
      refine .eff [] [0] _ _ rfl (pnum_at h2) ?_
      refine goes hE 100 ?_
      conv => whnf
      simp only [pFin, h1, h2] at hr
      cases hr
      refine ⟨[], [0], ⟨rfl, rfl⟩, ?_⟩
      exact ⟨rfl, rfl⟩
  | succ f ih =>
    intro i hs s b hi hl hr
    unfold pH at hr
    have hlen : (hav hs).length = hs.length := by simp
    refine goes hE 100 ?_
    conv => whnf
    refine And.intro (fun h => ?_) (fun h => ?_)
    · have h : decide ((i : Int) < n) = true := h
      rw [h, Bool.true_and] at hr
      cases b with
      | true =>
        have hr : pFin ns (hs, ⟨s, true⟩) = (c, q) := hr
        repeat' first
          | (refine goN hE 100 rfl ?_; conv => whnf)
          | exact rfl
          | refine And.intro (fun _ => ?_) (fun h => absurd (show true = false from h) (by decide))
          | refine And.intro (fun h => absurd (show false = true from h) (by decide)) (fun _ => ?_)
          | refine And.intro (fun h => ?_) (fun h => absurd (of_decide_eq_false h) (by omega))
          | refine And.intro (fun h => absurd (of_decide_eq_true h) (by omega)) (fun h => ?_)
          | refine And.intro (fun h => ?_) (fun h => ?_)
          | refine Or.inl (And.intro (And.intro (by simp only [kmin]; omega) (by simp only [kmax]; omega)) ?_)
          | refine Exists.intro _ (And.intro rfl ?_)
          | refine And.intro (by decide) ?_
          | refine And.intro (by omega) ?_
        refine pair_elim (o := pNum ⟨s, true⟩) (fun a p1 h1 => ?_)
        refine .eff [] [0] _ _ rfl (pnum_at h1) ?_
        refine goes hE 100 ?_
        conv => whnf
        refine pair_elim (o := pNum p1) (fun b p2 h2 => ?_)
        refine .eff [] [0] _ _ rfl (pnum_at h2) ?_
        refine goes hE 100 ?_
        conv => whnf
        simp only [pFin, h1, h2] at hr
        cases hr
        refine ⟨[], [0], ⟨rfl, rfl⟩, ?_⟩
        exact ⟨rfl, rfl⟩
      | false =>
        have hr : pFin ns (pH f (i + 1) n (hs ++ [(pHos ⟨s, false⟩).1]) (pHos ⟨s, false⟩).2) = (c, q) := hr
        refine goes hE 100 ?_
        conv => whnf
        refine And.intro (fun _ => ?_) (fun h => absurd (show true = false from h) (by decide))
        refine goes hE 100 ?_
        conv => whnf
        refine And.intro (fun _ => ?_) (fun h => absurd (of_decide_eq_false h) (by omega))
        refine goes hE 100 ?_
        conv => whnf
        refine pair_elim (o := pNum ⟨s, false⟩) (fun a p1 h1 => ?_)
        refine .eff [] [0] _ _ rfl (pnum_at h1) ?_
        refine goes hE 100 ?_
        conv => whnf
        refine pair_elim (o := pNum p1) (fun b p2 h2 => ?_)
        refine .eff [] [0] _ _ rfl (pnum_at h2) ?_
        refine goes hE 100 ?_
        conv => whnf
        refine pair_elim (o := pNum p2) (fun d p3 h3 => ?_)
        refine .eff [] [0] _ _ rfl (pnum_at h3) ?_
        refine goes hE 100 ?_
        conv => whnf
        refine pair_elim (o := pVec p3) (fun v p4 h4 => ?_)
        refine .eff [] [0] _ _ rfl (pvec_at h4) ?_
        refine goes hE 100 ?_
        conv => whnf
        simp only [pHos, h1, h2, h3, h4] at hr
        refine And.intro (And.intro (by simp only [maxLen]; simp; omega) (by simp; omega)) ?_
        refine goes hE 100 ?_
        conv => whnf
        refine Or.inl (And.intro (And.intro (by simp only [kmin]; omega) (by simp only [kmax]; omega)) ?_)
        refine goes hE 100 ?_
        conv => whnf
        refine To.part [0, 2, 3, 4, 7] [0, 1, 2, 3] rfl rfl rfl ?_
        have next := ih (i + 1) (hs ++ [⟨a, b, d, v⟩]) p4.s p4.b (by omega) (by simp; omega) hr
        have e : hav (hs ++ [⟨a, b, d, v⟩]) = hav hs ++ [Hos.av ⟨a, b, d, v⟩] := by simp
        rw [e] at next
        exact next
    · have h : decide ((i : Int) < n) = false := h
      rw [h, Bool.false_and] at hr
      have hr : pFin ns (hs, ⟨s, b⟩) = (c, q) := hr
      repeat' first
        | (refine goN hE 100 rfl ?_; conv => whnf)
        | exact rfl
        | refine And.intro (fun _ => ?_) (fun h => absurd (show true = false from h) (by decide))
        | refine And.intro (fun h => absurd (show false = true from h) (by decide)) (fun _ => ?_)
        | refine And.intro (fun h => ?_) (fun h => absurd (of_decide_eq_false h) (by omega))
        | refine And.intro (fun h => absurd (of_decide_eq_true h) (by omega)) (fun h => ?_)
        | refine And.intro (fun h => ?_) (fun h => ?_)
        | refine Or.inl (And.intro (And.intro (by simp only [kmin]; omega) (by simp only [kmax]; omega)) ?_)
        | refine Exists.intro _ (And.intro rfl ?_)
        | refine And.intro (by decide) ?_
        | refine And.intro (by omega) ?_
      refine pair_elim (o := pNum ⟨s, b⟩) (fun a p1 h1 => ?_)
      refine .eff [] [0] _ _ rfl (pnum_at h1) ?_
      refine goes hE 100 ?_
      conv => whnf
      refine pair_elim (o := pNum p1) (fun b p2 h2 => ?_)
      refine .eff [] [0] _ _ rfl (pnum_at h2) ?_
      refine goes hE 100 ?_
      conv => whnf
      simp only [pFin, h1, h2] at hr
      cases hr
      refine ⟨[], [0], ⟨rfl, rfl⟩, ?_⟩
      exact ⟨rfl, rfl⟩
end Go.Proofs.Ytmodiilfjfmdcaa

namespace Go.Proofs.Ytmodiilfjfmdcaa
open Go Go.AW Go.Proofs
set_option maxRecDepth 10000

theorem pcn_loop (n : Int) (c : Con) (q : PS) : ∀ (f i : Nat) (ns : List Nod) (s : List UInt8) (b : Bool), i + f = 13 → ns.length ≤ i → pRest (pN f i n ns ⟨s, b⟩) = (c, q) →
    To E fPc (.full 1 (.ret c.av) (pO q)) (.head (stk fPc 0) [(0, .ref 0 0), (2, .ref 1 0), (3, .ref 2 0), (4, .int .i64 n), (5, .int .i64 i)] [.cells 86 [.str s, .bool b], .cells 25 [.slice 11 [] .nil, .slice 6 [] .nil, ii 0, ii 0], .cells 25 [.slice 11 (nav ns) (.own 3 0), .slice 6 [] .nil, ii 0, ii 0], .tail 0 11 90]) := by
  intro f
  induction f with
  | zero =>
    intro i ns s b hi hl hr
    unfold pN at hr
    refine goes hE 100 ?_
    conv => whnf
    refine And.intro (fun h => ?_) (fun h => ?_)
    · cases b with
      | true =>
        repeat' first
          | (refine goN hE 100 rfl ?_; conv => whnf)
          | exact rfl
          | refine And.intro (fun _ => ?_) (fun h => absurd (show true = false from h) (by decide))
          | refine And.intro (fun h => absurd (show false = true from h) (by decide)) (fun _ => ?_)
          | refine And.intro (fun h => ?_) (fun h => absurd (of_decide_eq_false h) (by omega))
          | refine And.intro (fun h => absurd (of_decide_eq_true h) (by omega)) (fun h => ?_)
          | refine And.intro (fun h => ?_) (fun h => ?_)
          | refine Or.inl (And.intro (And.intro (by simp only [kmin]; omega) (by simp only [kmax]; omega)) ?_)
          | refine Exists.intro _ (And.intro rfl ?_)
          | refine And.intro (by decide) ?_
          | refine And.intro (by omega) ?_
        refine pair_elim (o := pNum ⟨s, true⟩) (fun k p0 h0 => ?_)
        refine .eff [] [0] _ _ rfl (pnum_at h0) ?_
        refine goes hE 100 ?_
        conv => whnf
        simp only [pRest, h0] at hr
        refine To.part [0, 2, 3, 4, 7] [0, 1, 2] rfl rfl rfl ?_
        refine To.begin 2 1 93 rfl rfl ?_
        exact pch_loop ns k c q 25 0 [] p0.s p0.b rfl (by simp) hr
      | false =>
        refine goes hE 100 ?_
        conv => whnf
        refine And.intro (fun _ => ?_) (fun h => absurd (show true = false from h) (by decide))
        refine goes hE 100 ?_
        conv => whnf
        refine And.intro (fun h => absurd (of_decide_eq_true h) (by omega)) (fun h => ?_)
        refine goes hE 100 ?_
        conv => whnf
        refine pair_elim (o := pNum ⟨s, false⟩) (fun k p0 h0 => ?_)
        refine .eff [] [0] _ _ rfl (pnum_at h0) ?_
        refine goes hE 100 ?_
        conv => whnf
        simp only [pRest, h0] at hr
        refine To.part [0, 2, 3, 4, 7] [0, 1, 2] rfl rfl rfl ?_
        refine To.begin 2 1 93 rfl rfl ?_
        exact pch_loop ns k c q 25 0 [] p0.s p0.b rfl (by simp) hr
    · repeat' first
        | (refine goN hE 100 rfl ?_; conv => whnf)
        | exact rfl
        | refine And.intro (fun _ => ?_) (fun h => absurd (show true = false from h) (by decide))
        | refine And.intro (fun h => absurd (show false = true from h) (by decide)) (fun _ => ?_)
        | refine And.intro (fun h => ?_) (fun h => absurd (of_decide_eq_false h) (by omega))
        | refine And.intro (fun h => absurd (of_decide_eq_true h) (by omega)) (fun h => ?_)
        | refine And.intro (fun h => ?_) (fun h => ?_)
        | refine Or.inl (And.intro (And.intro (by simp only [kmin]; omega) (by simp only [kmax]; omega)) ?_)
        | refine Exists.intro _ (And.intro rfl ?_)
        | refine And.intro (by decide) ?_
        | refine And.intro (by omega) ?_
      refine pair_elim (o := pNum ⟨s, b⟩) (fun k p0 h0 => ?_)
      refine .eff [] [0] _ _ rfl (pnum_at h0) ?_
      refine goes hE 100 ?_
      conv => whnf
      simp only [pRest, h0] at hr
      refine To.part [0, 2, 3, 4, 7] [0, 1, 2] rfl rfl rfl ?_
      refine To.begin 2 1 93 rfl rfl ?_
      exact pch_loop ns k c q 25 0 [] p0.s p0.b rfl (by simp) hr
  | succ f ih =>
    intro i ns s b hi hl hr
    unfold pN at hr
    have hlen : (nav ns).length = ns.length := by simp
    refine goes hE 100 ?_
    conv => whnf
    refine And.intro (fun h => ?_) (fun h => ?_)
    · have h : decide ((i : Int) < n) = true := h
      rw [h, Bool.true_and] at hr
      cases b with
      | true =>
        have hr : pRest (ns, ⟨s, true⟩) = (c, q) := hr
        repeat' first
          | (refine goN hE 100 rfl ?_; conv => whnf)
          | exact rfl
          | refine And.intro (fun _ => ?_) (fun h => absurd (show true = false from h) (by decide))
          | refine And.intro (fun h => absurd (show false = true from h) (by decide)) (fun _ => ?_)
          | refine And.intro (fun h => ?_) (fun h => absurd (of_decide_eq_false h) (by omega))
          | refine And.intro (fun h => absurd (of_decide_eq_true h) (by omega)) (fun h => ?_)
          | refine And.intro (fun h => ?_) (fun h => ?_)
          | refine Or.inl (And.intro (And.intro (by simp only [kmin]; omega) (by simp only [kmax]; omega)) ?_)
          | refine Exists.intro _ (And.intro rfl ?_)
          | refine And.intro (by decide) ?_
          | refine And.intro (by omega) ?_
        refine pair_elim (o := pNum ⟨s, true⟩) (fun k p0 h0 => ?_)
        refine .eff [] [0] _ _ rfl (pnum_at h0) ?_
        refine goes hE 100 ?_
        conv => whnf
        simp only [pRest, h0] at hr
        refine To.part [0, 2, 3, 4, 7] [0, 1, 2] rfl rfl rfl ?_
        refine To.begin 2 1 93 rfl rfl ?_
        exact pch_loop ns k c q 25 0 [] p0.s p0.b rfl (by simp) hr
      | false =>
        have hr : pRest (pN f (i + 1) n (ns ++ [(pNod ⟨s, false⟩).1]) (pNod ⟨s, false⟩).2) = (c, q) := hr
        refine goes hE 100 ?_
        conv => whnf
        refine And.intro (fun _ => ?_) (fun h => absurd (show true = false from h) (by decide))
        refine goes hE 100 ?_
        conv => whnf
        refine And.intro (fun _ => ?_) (fun h => absurd (of_decide_eq_false h) (by omega))
        refine goes hE 100 ?_
        conv => whnf
        have b1 := pNum_b ⟨s, false⟩
        refine pair_elim (o := pNum ⟨s, false⟩) (fun a p1 h1 => ?_)
        refine .eff [] [0] _ _ rfl (pnum_at h1) ?_
        refine goes hE 100 ?_
        conv => whnf
        rw [h1] at b1
        have b1 : 0 ≤ a ∧ a ≤ 9223372036854775807 ∧ _ := b1
        refine Or.inl (And.intro (And.intro (by simp only [kmin]; omega) (by simp only [kmax]; omega)) ?_)
        refine goes hE 100 ?_
        conv => whnf
        refine pair_elim (o := pNum p1) (fun b p2 h2 => ?_)
        refine .eff [] [0] _ _ rfl (pnum_at h2) ?_
        refine goes hE 100 ?_
        conv => whnf
        refine pair_elim (o := pVec p2) (fun u p3 h3 => ?_)
        refine .eff [] [0] _ _ rfl (pvec_at h3) ?_
        refine goes hE 100 ?_
        conv => whnf
        refine pair_elim (o := pVec p3) (fun v p4 h4 => ?_)
        refine .eff [] [0] _ _ rfl (pvec_at h4) ?_
        refine goes hE 100 ?_
        conv => whnf
        refine pair_elim (o := pVec p4) (fun w p5 h5 => ?_)
        refine .eff [] [0] _ _ rfl (pvec_at h5) ?_
        refine goes hE 100 ?_
        conv => whnf
        simp only [pNod, h1, h2, h3, h4, h5] at hr
        refine And.intro (And.intro (by simp only [maxLen]; simp; omega) (by simp; omega)) ?_
        refine goes hE 100 ?_
        conv => whnf
        refine Or.inl (And.intro (And.intro (by simp only [kmin]; omega) (by simp only [kmax]; omega)) ?_)
        refine goes hE 100 ?_
        conv => whnf
        refine To.part [0, 2, 3, 4, 5] [0, 1, 2, 3] rfl rfl rfl ?_
        have next := ih (i + 1) (ns ++ [⟨a - 1, b, u, v, w⟩]) p5.s p5.b (by omega) (by simp; omega) hr
        have e : nav (ns ++ [⟨a - 1, b, u, v, w⟩]) = nav ns ++ [Nod.av ⟨a - 1, b, u, v, w⟩] := by simp
        rw [e] at next
        exact next
    · have h : decide ((i : Int) < n) = false := h
      rw [h, Bool.false_and] at hr
      have hr : pRest (ns, ⟨s, b⟩) = (c, q) := hr
      repeat' first
        | (refine goN hE 100 rfl ?_; conv => whnf)
        | exact rfl
        | refine And.intro (fun _ => ?_) (fun h => absurd (show true = false from h) (by decide))
        | refine And.intro (fun h => absurd (show false = true from h) (by decide)) (fun _ => ?_)
        | refine And.intro (fun h => ?_) (fun h => absurd (of_decide_eq_false h) (by omega))
        | refine And.intro (fun h => absurd (of_decide_eq_true h) (by omega)) (fun h => ?_)
        | refine And.intro (fun h => ?_) (fun h => ?_)
        | refine Or.inl (And.intro (And.intro (by simp only [kmin]; omega) (by simp only [kmax]; omega)) ?_)
        | refine Exists.intro _ (And.intro rfl ?_)
        | refine And.intro (by decide) ?_
        | refine And.intro (by omega) ?_
      refine pair_elim (o := pNum ⟨s, b⟩) (fun k p0 h0 => ?_)
      refine .eff [] [0] _ _ rfl (pnum_at h0) ?_
      refine goes hE 100 ?_
      conv => whnf
      simp only [pRest, h0] at hr
      refine To.part [0, 2, 3, 4, 7] [0, 1, 2] rfl rfl rfl ?_
      refine To.begin 2 1 93 rfl rfl ?_
      exact pch_loop ns k c q 25 0 [] p0.s p0.b rfl (by simp) hr
theorem pcon_at {p : PS} {c : Con} {q : PS} (hr : pCon p = (c, q)) : CallOK Try.prog 52 [.ref 0 0] (pO p) (.ret c.av) (pO q) := by
  refine CallOK.to (E := E) (fn := Try.f52) (g := .full 1 _ _) (by rfl) (by rfl) (by rfl) (fun _ _ => by rfl) (by decide +kernel) (by rfl) (by rfl) (by rfl) fun _ => ?_
  refine goes hE 100 ?_
  conv => whnf
  refine pair_elim (o := pNum p) (fun k p1 h1 => ?_)
  refine .eff [] [0] _ _ rfl (pnum_at h1) ?_
  refine goes hE 100 ?_
  conv => whnf
  simp only [pCon, h1] at hr
  refine To.part [0, 2, 3, 4, 5] [0, 1, 2] rfl rfl rfl ?_
  refine To.begin 2 0 90 rfl rfl ?_
  exact pcn_loop k c q 13 0 [] p1.s p1.b rfl (by simp) hr

/-- the command of bytes, as the document has it -/
def pCmd (p : PS) : Cmd × PS :=
  let k := pNum p
  if k.1 == 1 then (⟨k.1, (pCon k.2).1, Gan.zero, 0⟩, (pCon k.2).2)
  else if k.1 == 2 then (⟨k.1, Con.zero, (pGan k.2).1, 0⟩, (pGan k.2).2)
  else if (k.1 == 3 || k.1 == 4) || k.1 == 5 then (⟨k.1, Con.zero, Gan.zero, (pNum k.2).1⟩, (pNum k.2).2)
  else (⟨k.1, Con.zero, Gan.zero, 0⟩, k.2)
def rdec (s : List UInt8) : Option Cmd :=
  let x := pCmd ⟨s, false⟩
  if x.2.b = false ∧ x.2.s = [] ∧ chk x.1 = 0 ∧ pl x.1.il = s then some x.1 else none
def rdecX (s : List UInt8) : Cmd := (rdec s).getD Cmd.zero
def rdecE (s : List UInt8) : Int := match rdec s with | some _ => 0 | none => 10
theorem rdec_some {s : List UInt8} {x : Cmd} {q : PS} (h : pCmd ⟨s, false⟩ = (x, q)) (h1 : q.b = false) (h2 : q.s = []) (h3 : chk x = 0) (h4 : pl x.il = s) : rdecX s = x ∧ rdecE s = 0 := by
  have : rdec s = some x := by unfold rdec; simp only [h]; exact if_pos ⟨h1, h2, h3, h4⟩
  unfold rdecX rdecE
  rw [this]
  exact ⟨rfl, rfl⟩
theorem rdec_none {s : List UInt8} {x : Cmd} {q : PS} (h : pCmd ⟨s, false⟩ = (x, q)) (h1 : ¬ (q.b = false ∧ q.s = [] ∧ chk x = 0 ∧ pl x.il = s)) : rdecX s = Cmd.zero ∧ rdecE s = 10 := by
  have : rdec s = none := by unfold rdec; simp only [h]; exact if_neg h1
  unfold rdecX rdecE
  rw [this]
  exact ⟨rfl, rfl⟩
noncomputable abbrev fRd : Func := Try.f19
theorem rdec_any (s : List UInt8) (R : Res) (hR : Res.ret (.tup [(rdecX s).av, ii (rdecE s)]) = R) : CallOK Try.prog 19 [.str s] [] R [] := by
  refine CallOK.to (E := E) (fn := Try.f19) (g := .pure _) (by rfl) (by rfl) (by rfl) (fun _ _ => by rfl) (by decide +kernel) (by rfl) (by rfl) (by rfl) fun _ => ?_
  refine goes hE 100 ?_
  conv => whnf
  refine pair_elim (o := pNum ⟨s, false⟩) (fun k p1 hk => ?_)
  refine .eff [] [1] _ _ rfl (pnum_at hk) ?_
  refine goes hE 100 ?_
  conv => whnf
  refine And.intro (fun k1 => ?_) (fun k1 => ?_)
  · have k1 : (k == 1) = true := k1
    refine goes hE 100 ?_
    conv => whnf
    refine pair_elim (o := pCon p1) (fun c p2 h2 => ?_)
    have h : pCmd ⟨s, false⟩ = (⟨k, c, Gan.zero, 0⟩, p2) := by simp only [pCmd, hk, h2, k1, if_true]
    refine .eff [] [1] _ _ rfl (pcon_at h2) ?_
    obtain ⟨qs, qb⟩ := p2
    cases qb with
    | true =>
      have e := rdec_none h (fun hh => absurd (show true = false from hh.1) (by decide))
      repeat' first
        | (refine goN hE 100 rfl ?_; conv => whnf)
        | exact rfl
        | refine And.intro (fun _ => ?_) (fun h => absurd (show true = false from h) (by decide))
        | refine And.intro (fun h => absurd (show false = true from h) (by decide)) (fun _ => ?_)
        | refine And.intro (fun h => ?_) (fun h => absurd (of_decide_eq_false h) (by omega))
        | refine And.intro (fun h => absurd (of_decide_eq_true h) (by omega)) (fun h => ?_)
        | refine And.intro (fun h => ?_) (fun h => ?_)
        | refine Or.inl (And.intro (And.intro (by simp only [kmin]; omega) (by simp only [kmax]; omega)) ?_)
        | refine Exists.intro _ (And.intro rfl ?_)
        | refine And.intro (by decide) ?_
        | refine And.intro (by omega) ?_
      rw [← hR, e.1, e.2]
      rfl
    | false =>
      refine goes hE 100 ?_
      conv => whnf
      refine And.intro (fun h => absurd (show false = true from h) (by decide)) (fun _ => ?_)
      refine goes hE 100 ?_
      conv => whnf
      refine And.intro (fun h1 => ?_) (fun h1 => ?_)
      · have h1 : (!(qs == [])) = true := h1
        have e := rdec_none h (fun hh => by have e : qs = [] := hh.2.1; rw [e] at h1; simp at h1)
        repeat' first
          | (refine goN hE 100 rfl ?_; conv => whnf)
          | exact rfl
          | refine And.intro (fun _ => ?_) (fun h => absurd (show true = false from h) (by decide))
          | refine And.intro (fun h => absurd (show false = true from h) (by decide)) (fun _ => ?_)
          | refine And.intro (fun h => ?_) (fun h => absurd (of_decide_eq_false h) (by omega))
          | refine And.intro (fun h => absurd (of_decide_eq_true h) (by omega)) (fun h => ?_)
          | refine And.intro (fun h => ?_) (fun h => ?_)
          | refine Or.inl (And.intro (And.intro (by simp only [kmin]; omega) (by simp only [kmax]; omega)) ?_)
          | refine Exists.intro _ (And.intro rfl ?_)
          | refine And.intro (by decide) ?_
          | refine And.intro (by omega) ?_
        rw [← hR, e.1, e.2]
        rfl
      · have h1 : (!(qs == [])) = false := h1
        have h1 : qs = [] := by simpa using h1
        refine goes hE 100 ?_
        conv => whnf
        refine .pure _ [] (rcheck_ok (⟨k, c, Gan.zero, 0⟩ : Cmd)) ?_
        refine goes hE 100 ?_
        conv => whnf
        refine And.intro (fun h2 => ?_) (fun h2 => ?_)
        · have h2 : (chk (⟨k, c, Gan.zero, 0⟩ : Cmd) != 0) = true := h2
          have e := rdec_none h (fun hh => by have e : chk (⟨k, c, Gan.zero, 0⟩ : Cmd) = 0 := hh.2.2.1; rw [e] at h2; simp at h2)
          repeat' first
            | (refine goN hE 100 rfl ?_; conv => whnf)
            | exact rfl
            | refine And.intro (fun _ => ?_) (fun h => absurd (show true = false from h) (by decide))
            | refine And.intro (fun h => absurd (show false = true from h) (by decide)) (fun _ => ?_)
            | refine And.intro (fun h => ?_) (fun h => absurd (of_decide_eq_false h) (by omega))
            | refine And.intro (fun h => absurd (of_decide_eq_true h) (by omega)) (fun h => ?_)
            | refine And.intro (fun h => ?_) (fun h => ?_)
            | refine Or.inl (And.intro (And.intro (by simp only [kmin]; omega) (by simp only [kmax]; omega)) ?_)
            | refine Exists.intro _ (And.intro rfl ?_)
            | refine And.intro (by decide) ?_
            | refine And.intro (by omega) ?_
          rw [← hR, e.1, e.2]
          rfl
        · have h2 : (chk (⟨k, c, Gan.zero, 0⟩ : Cmd) != 0) = false := h2
          have h2 : chk (⟨k, c, Gan.zero, 0⟩ : Cmd) = 0 := by simpa using h2
          refine goes hE 100 ?_
          conv => whnf
          refine .pure _ [] (rput2_ok (⟨k, c, Gan.zero, 0⟩ : Cmd) (chk_told h2)) ?_
          refine goes hE 100 ?_
          conv => whnf
          refine And.intro (fun h3 => ?_) (fun h3 => ?_)
          · have h3 : (!(pl (Cmd.il (⟨k, c, Gan.zero, 0⟩ : Cmd)) == s)) = true := h3
            have e := rdec_none h (fun hh => by have e : pl (Cmd.il (⟨k, c, Gan.zero, 0⟩ : Cmd)) = s := hh.2.2.2; rw [e] at h3; simp at h3)
            repeat' first
              | (refine goN hE 100 rfl ?_; conv => whnf)
              | exact rfl
              | refine And.intro (fun _ => ?_) (fun h => absurd (show true = false from h) (by decide))
              | refine And.intro (fun h => absurd (show false = true from h) (by decide)) (fun _ => ?_)
              | refine And.intro (fun h => ?_) (fun h => absurd (of_decide_eq_false h) (by omega))
              | refine And.intro (fun h => absurd (of_decide_eq_true h) (by omega)) (fun h => ?_)
              | refine And.intro (fun h => ?_) (fun h => ?_)
              | refine Or.inl (And.intro (And.intro (by simp only [kmin]; omega) (by simp only [kmax]; omega)) ?_)
              | refine Exists.intro _ (And.intro rfl ?_)
              | refine And.intro (by decide) ?_
              | refine And.intro (by omega) ?_
            rw [← hR, e.1, e.2]
            rfl
          · have h3 : (!(pl (Cmd.il (⟨k, c, Gan.zero, 0⟩ : Cmd)) == s)) = false := h3
            have h3 : pl (Cmd.il (⟨k, c, Gan.zero, 0⟩ : Cmd)) = s := by simpa using h3
            obtain ⟨e1, e2⟩ := rdec_some h rfl h1 h2 h3
            repeat' first
              | (refine goN hE 100 rfl ?_; conv => whnf)
              | exact rfl
              | refine And.intro (fun _ => ?_) (fun h => absurd (show true = false from h) (by decide))
              | refine And.intro (fun h => absurd (show false = true from h) (by decide)) (fun _ => ?_)
              | refine And.intro (fun h => ?_) (fun h => absurd (of_decide_eq_false h) (by omega))
              | refine And.intro (fun h => absurd (of_decide_eq_true h) (by omega)) (fun h => ?_)
              | refine And.intro (fun h => ?_) (fun h => ?_)
              | refine Or.inl (And.intro (And.intro (by simp only [kmin]; omega) (by simp only [kmax]; omega)) ?_)
              | refine Exists.intro _ (And.intro rfl ?_)
              | refine And.intro (by decide) ?_
              | refine And.intro (by omega) ?_
            rw [← hR, e1, e2]
            rfl
  · have k1 : (k == 1) = false := k1
    refine goes hE 100 ?_
    conv => whnf
    refine And.intro (fun k2 => ?_) (fun k2 => ?_)
    · have k2 : (k == 2) = true := k2
      refine goes hE 100 ?_
      conv => whnf
      refine pair_elim (o := pGan p1) (fun g p2 h2 => ?_)
      have h : pCmd ⟨s, false⟩ = (⟨k, Con.zero, g, 0⟩, p2) := by simp only [pCmd, hk, h2, k1, k2, Bool.false_eq_true, if_false, if_true]
      refine .eff [] [1] _ _ rfl (pgan_at h2) ?_
      obtain ⟨qs, qb⟩ := p2
      cases qb with
      | true =>
        have e := rdec_none h (fun hh => absurd (show true = false from hh.1) (by decide))
        repeat' first
          | (refine goN hE 100 rfl ?_; conv => whnf)
          | exact rfl
          | refine And.intro (fun _ => ?_) (fun h => absurd (show true = false from h) (by decide))
          | refine And.intro (fun h => absurd (show false = true from h) (by decide)) (fun _ => ?_)
          | refine And.intro (fun h => ?_) (fun h => absurd (of_decide_eq_false h) (by omega))
          | refine And.intro (fun h => absurd (of_decide_eq_true h) (by omega)) (fun h => ?_)
          | refine And.intro (fun h => ?_) (fun h => ?_)
          | refine Or.inl (And.intro (And.intro (by simp only [kmin]; omega) (by simp only [kmax]; omega)) ?_)
          | refine Exists.intro _ (And.intro rfl ?_)
          | refine And.intro (by decide) ?_
          | refine And.intro (by omega) ?_
        rw [← hR, e.1, e.2]
        rfl
      | false =>
        refine goes hE 100 ?_
        conv => whnf
        refine And.intro (fun h => absurd (show false = true from h) (by decide)) (fun _ => ?_)
        refine goes hE 100 ?_
        conv => whnf
        refine And.intro (fun h1 => ?_) (fun h1 => ?_)
        · have h1 : (!(qs == [])) = true := h1
          have e := rdec_none h (fun hh => by have e : qs = [] := hh.2.1; rw [e] at h1; simp at h1)
          repeat' first
            | (refine goN hE 100 rfl ?_; conv => whnf)
            | exact rfl
            | refine And.intro (fun _ => ?_) (fun h => absurd (show true = false from h) (by decide))
            | refine And.intro (fun h => absurd (show false = true from h) (by decide)) (fun _ => ?_)
            | refine And.intro (fun h => ?_) (fun h => absurd (of_decide_eq_false h) (by omega))
            | refine And.intro (fun h => absurd (of_decide_eq_true h) (by omega)) (fun h => ?_)
            | refine And.intro (fun h => ?_) (fun h => ?_)
            | refine Or.inl (And.intro (And.intro (by simp only [kmin]; omega) (by simp only [kmax]; omega)) ?_)
            | refine Exists.intro _ (And.intro rfl ?_)
            | refine And.intro (by decide) ?_
            | refine And.intro (by omega) ?_
          rw [← hR, e.1, e.2]
          rfl
        · have h1 : (!(qs == [])) = false := h1
          have h1 : qs = [] := by simpa using h1
          refine goes hE 100 ?_
          conv => whnf
          refine .pure _ [] (rcheck_ok (⟨k, Con.zero, g, 0⟩ : Cmd)) ?_
          refine goes hE 100 ?_
          conv => whnf
          refine And.intro (fun h2 => ?_) (fun h2 => ?_)
          · have h2 : (chk (⟨k, Con.zero, g, 0⟩ : Cmd) != 0) = true := h2
            have e := rdec_none h (fun hh => by have e : chk (⟨k, Con.zero, g, 0⟩ : Cmd) = 0 := hh.2.2.1; rw [e] at h2; simp at h2)
            repeat' first
              | (refine goN hE 100 rfl ?_; conv => whnf)
              | exact rfl
              | refine And.intro (fun _ => ?_) (fun h => absurd (show true = false from h) (by decide))
              | refine And.intro (fun h => absurd (show false = true from h) (by decide)) (fun _ => ?_)
              | refine And.intro (fun h => ?_) (fun h => absurd (of_decide_eq_false h) (by omega))
              | refine And.intro (fun h => absurd (of_decide_eq_true h) (by omega)) (fun h => ?_)
              | refine And.intro (fun h => ?_) (fun h => ?_)
              | refine Or.inl (And.intro (And.intro (by simp only [kmin]; omega) (by simp only [kmax]; omega)) ?_)
              | refine Exists.intro _ (And.intro rfl ?_)
              | refine And.intro (by decide) ?_
              | refine And.intro (by omega) ?_
            rw [← hR, e.1, e.2]
            rfl
          · have h2 : (chk (⟨k, Con.zero, g, 0⟩ : Cmd) != 0) = false := h2
            have h2 : chk (⟨k, Con.zero, g, 0⟩ : Cmd) = 0 := by simpa using h2
            refine goes hE 100 ?_
            conv => whnf
            refine .pure _ [] (rput2_ok (⟨k, Con.zero, g, 0⟩ : Cmd) (chk_told h2)) ?_
            refine goes hE 100 ?_
            conv => whnf
            refine And.intro (fun h3 => ?_) (fun h3 => ?_)
            · have h3 : (!(pl (Cmd.il (⟨k, Con.zero, g, 0⟩ : Cmd)) == s)) = true := h3
              have e := rdec_none h (fun hh => by have e : pl (Cmd.il (⟨k, Con.zero, g, 0⟩ : Cmd)) = s := hh.2.2.2; rw [e] at h3; simp at h3)
              repeat' first
                | (refine goN hE 100 rfl ?_; conv => whnf)
                | exact rfl
                | refine And.intro (fun _ => ?_) (fun h => absurd (show true = false from h) (by decide))
                | refine And.intro (fun h => absurd (show false = true from h) (by decide)) (fun _ => ?_)
                | refine And.intro (fun h => ?_) (fun h => absurd (of_decide_eq_false h) (by omega))
                | refine And.intro (fun h => absurd (of_decide_eq_true h) (by omega)) (fun h => ?_)
                | refine And.intro (fun h => ?_) (fun h => ?_)
                | refine Or.inl (And.intro (And.intro (by simp only [kmin]; omega) (by simp only [kmax]; omega)) ?_)
                | refine Exists.intro _ (And.intro rfl ?_)
                | refine And.intro (by decide) ?_
                | refine And.intro (by omega) ?_
              rw [← hR, e.1, e.2]
              rfl
            · have h3 : (!(pl (Cmd.il (⟨k, Con.zero, g, 0⟩ : Cmd)) == s)) = false := h3
              have h3 : pl (Cmd.il (⟨k, Con.zero, g, 0⟩ : Cmd)) = s := by simpa using h3
              obtain ⟨e1, e2⟩ := rdec_some h rfl h1 h2 h3
              repeat' first
                | (refine goN hE 100 rfl ?_; conv => whnf)
                | exact rfl
                | refine And.intro (fun _ => ?_) (fun h => absurd (show true = false from h) (by decide))
                | refine And.intro (fun h => absurd (show false = true from h) (by decide)) (fun _ => ?_)
                | refine And.intro (fun h => ?_) (fun h => absurd (of_decide_eq_false h) (by omega))
                | refine And.intro (fun h => absurd (of_decide_eq_true h) (by omega)) (fun h => ?_)
                | refine And.intro (fun h => ?_) (fun h => ?_)
                | refine Or.inl (And.intro (And.intro (by simp only [kmin]; omega) (by simp only [kmax]; omega)) ?_)
                | refine Exists.intro _ (And.intro rfl ?_)
                | refine And.intro (by decide) ?_
                | refine And.intro (by omega) ?_
              rw [← hR, e1, e2]
              rfl
    · have k2 : (k == 2) = false := k2
      refine goes hE 100 ?_
      conv => whnf
      refine And.intro (fun e3 => ?_) (fun e3 => ?_)
      · have e3 : (k == 3) = true := e3
        have k3 : ((k == 3 || k == 4) || k == 5) = true := by rw [e3]; rfl
        refine goes hE 100 ?_
        conv => whnf
        refine And.intro (fun _ => ?_) (fun h => absurd (e3.symm.trans h) (by decide))
        refine goes hE 100 ?_
        conv => whnf
        refine pair_elim (o := pNum p1) (fun n p2 h2 => ?_)
        have h : pCmd ⟨s, false⟩ = (⟨k, Con.zero, Gan.zero, n⟩, p2) := by simp only [pCmd, hk, h2, k1, k2, k3, Bool.false_eq_true, if_false, if_true]
        refine .eff [] [1] _ _ rfl (pnum_at h2) ?_
        obtain ⟨qs, qb⟩ := p2
        cases qb with
        | true =>
          have e := rdec_none h (fun hh => absurd (show true = false from hh.1) (by decide))
          repeat' first
            | (refine goN hE 100 rfl ?_; conv => whnf)
            | exact rfl
            | refine And.intro (fun _ => ?_) (fun h => absurd (show true = false from h) (by decide))
            | refine And.intro (fun h => absurd (show false = true from h) (by decide)) (fun _ => ?_)
            | refine And.intro (fun h => ?_) (fun h => absurd (of_decide_eq_false h) (by omega))
            | refine And.intro (fun h => absurd (of_decide_eq_true h) (by omega)) (fun h => ?_)
            | refine And.intro (fun h => ?_) (fun h => ?_)
            | refine Or.inl (And.intro (And.intro (by simp only [kmin]; omega) (by simp only [kmax]; omega)) ?_)
            | refine Exists.intro _ (And.intro rfl ?_)
            | refine And.intro (by decide) ?_
            | refine And.intro (by omega) ?_
          rw [← hR, e.1, e.2]
          rfl
        | false =>
          refine goes hE 100 ?_
          conv => whnf
          refine And.intro (fun h => absurd (show false = true from h) (by decide)) (fun _ => ?_)
          refine goes hE 100 ?_
          conv => whnf
          refine And.intro (fun h1 => ?_) (fun h1 => ?_)
          · have h1 : (!(qs == [])) = true := h1
            have e := rdec_none h (fun hh => by have e : qs = [] := hh.2.1; rw [e] at h1; simp at h1)
            repeat' first
              | (refine goN hE 100 rfl ?_; conv => whnf)
              | exact rfl
              | refine And.intro (fun _ => ?_) (fun h => absurd (show true = false from h) (by decide))
              | refine And.intro (fun h => absurd (show false = true from h) (by decide)) (fun _ => ?_)
              | refine And.intro (fun h => ?_) (fun h => absurd (of_decide_eq_false h) (by omega))
              | refine And.intro (fun h => absurd (of_decide_eq_true h) (by omega)) (fun h => ?_)
              | refine And.intro (fun h => ?_) (fun h => ?_)
              | refine Or.inl (And.intro (And.intro (by simp only [kmin]; omega) (by simp only [kmax]; omega)) ?_)
              | refine Exists.intro _ (And.intro rfl ?_)
              | refine And.intro (by decide) ?_
              | refine And.intro (by omega) ?_
            rw [← hR, e.1, e.2]
            rfl
          · have h1 : (!(qs == [])) = false := h1
            have h1 : qs = [] := by simpa using h1
            refine goes hE 100 ?_
            conv => whnf
            refine .pure _ [] (rcheck_ok (⟨k, Con.zero, Gan.zero, n⟩ : Cmd)) ?_
            refine goes hE 100 ?_
            conv => whnf
            refine And.intro (fun h2 => ?_) (fun h2 => ?_)
            · have h2 : (chk (⟨k, Con.zero, Gan.zero, n⟩ : Cmd) != 0) = true := h2
              have e := rdec_none h (fun hh => by have e : chk (⟨k, Con.zero, Gan.zero, n⟩ : Cmd) = 0 := hh.2.2.1; rw [e] at h2; simp at h2)
              repeat' first
                | (refine goN hE 100 rfl ?_; conv => whnf)
                | exact rfl
                | refine And.intro (fun _ => ?_) (fun h => absurd (show true = false from h) (by decide))
                | refine And.intro (fun h => absurd (show false = true from h) (by decide)) (fun _ => ?_)
                | refine And.intro (fun h => ?_) (fun h => absurd (of_decide_eq_false h) (by omega))
                | refine And.intro (fun h => absurd (of_decide_eq_true h) (by omega)) (fun h => ?_)
                | refine And.intro (fun h => ?_) (fun h => ?_)
                | refine Or.inl (And.intro (And.intro (by simp only [kmin]; omega) (by simp only [kmax]; omega)) ?_)
                | refine Exists.intro _ (And.intro rfl ?_)
                | refine And.intro (by decide) ?_
                | refine And.intro (by omega) ?_
              rw [← hR, e.1, e.2]
              rfl
            · have h2 : (chk (⟨k, Con.zero, Gan.zero, n⟩ : Cmd) != 0) = false := h2
              have h2 : chk (⟨k, Con.zero, Gan.zero, n⟩ : Cmd) = 0 := by simpa using h2
              refine goes hE 100 ?_
              conv => whnf
              refine .pure _ [] (rput2_ok (⟨k, Con.zero, Gan.zero, n⟩ : Cmd) (chk_told h2)) ?_
              refine goes hE 100 ?_
              conv => whnf
              refine And.intro (fun h3 => ?_) (fun h3 => ?_)
              · have h3 : (!(pl (Cmd.il (⟨k, Con.zero, Gan.zero, n⟩ : Cmd)) == s)) = true := h3
                have e := rdec_none h (fun hh => by have e : pl (Cmd.il (⟨k, Con.zero, Gan.zero, n⟩ : Cmd)) = s := hh.2.2.2; rw [e] at h3; simp at h3)
                repeat' first
                  | (refine goN hE 100 rfl ?_; conv => whnf)
                  | exact rfl
                  | refine And.intro (fun _ => ?_) (fun h => absurd (show true = false from h) (by decide))
                  | refine And.intro (fun h => absurd (show false = true from h) (by decide)) (fun _ => ?_)
                  | refine And.intro (fun h => ?_) (fun h => absurd (of_decide_eq_false h) (by omega))
                  | refine And.intro (fun h => absurd (of_decide_eq_true h) (by omega)) (fun h => ?_)
                  | refine And.intro (fun h => ?_) (fun h => ?_)
                  | refine Or.inl (And.intro (And.intro (by simp only [kmin]; omega) (by simp only [kmax]; omega)) ?_)
                  | refine Exists.intro _ (And.intro rfl ?_)
                  | refine And.intro (by decide) ?_
                  | refine And.intro (by omega) ?_
                rw [← hR, e.1, e.2]
                rfl
              · have h3 : (!(pl (Cmd.il (⟨k, Con.zero, Gan.zero, n⟩ : Cmd)) == s)) = false := h3
                have h3 : pl (Cmd.il (⟨k, Con.zero, Gan.zero, n⟩ : Cmd)) = s := by simpa using h3
                obtain ⟨e1, e2⟩ := rdec_some h rfl h1 h2 h3
                repeat' first
                  | (refine goN hE 100 rfl ?_; conv => whnf)
                  | exact rfl
                  | refine And.intro (fun _ => ?_) (fun h => absurd (show true = false from h) (by decide))
                  | refine And.intro (fun h => absurd (show false = true from h) (by decide)) (fun _ => ?_)
                  | refine And.intro (fun h => ?_) (fun h => absurd (of_decide_eq_false h) (by omega))
                  | refine And.intro (fun h => absurd (of_decide_eq_true h) (by omega)) (fun h => ?_)
                  | refine And.intro (fun h => ?_) (fun h => ?_)
                  | refine Or.inl (And.intro (And.intro (by simp only [kmin]; omega) (by simp only [kmax]; omega)) ?_)
                  | refine Exists.intro _ (And.intro rfl ?_)
                  | refine And.intro (by decide) ?_
                  | refine And.intro (by omega) ?_
                rw [← hR, e1, e2]
                rfl
      · have e3 : (k == 3) = false := e3
        refine goes hE 100 ?_
        conv => whnf
        refine And.intro (fun e4 => ?_) (fun e4 => ?_)
        · have e4 : (k == 4) = true := e4
          have k3 : ((k == 3 || k == 4) || k == 5) = true := by rw [e3, e4]; rfl
          refine goes hE 100 ?_
          conv => whnf
          refine And.intro (fun _ => ?_) (fun h => absurd (e4.symm.trans h) (by decide))
          refine goes hE 100 ?_
          conv => whnf
          refine pair_elim (o := pNum p1) (fun n p2 h2 => ?_)
          have h : pCmd ⟨s, false⟩ = (⟨k, Con.zero, Gan.zero, n⟩, p2) := by simp only [pCmd, hk, h2, k1, k2, k3, Bool.false_eq_true, if_false, if_true]
          refine .eff [] [1] _ _ rfl (pnum_at h2) ?_
          obtain ⟨qs, qb⟩ := p2
          cases qb with
          | true =>
            have e := rdec_none h (fun hh => absurd (show true = false from hh.1) (by decide))
            repeat' first
              | (refine goN hE 100 rfl ?_; conv => whnf)
              | exact rfl
              | refine And.intro (fun _ => ?_) (fun h => absurd (show true = false from h) (by decide))
              | refine And.intro (fun h => absurd (show false = true from h) (by decide)) (fun _ => ?_)
              | refine And.intro (fun h => ?_) (fun h => absurd (of_decide_eq_false h) (by omega))
              | refine And.intro (fun h => absurd (of_decide_eq_true h) (by omega)) (fun h => ?_)
              | refine And.intro (fun h => ?_) (fun h => ?_)
              | refine Or.inl (And.intro (And.intro (by simp only [kmin]; omega) (by simp only [kmax]; omega)) ?_)
              | refine Exists.intro _ (And.intro rfl ?_)
              | refine And.intro (by decide) ?_
              | refine And.intro (by omega) ?_
            rw [← hR, e.1, e.2]
            rfl
          | false =>
            refine goes hE 100 ?_
            conv => whnf
            refine And.intro (fun h => absurd (show false = true from h) (by decide)) (fun _ => ?_)
            refine goes hE 100 ?_
            conv => whnf
            refine And.intro (fun h1 => ?_) (fun h1 => ?_)
            · have h1 : (!(qs == [])) = true := h1
              have e := rdec_none h (fun hh => by have e : qs = [] := hh.2.1; rw [e] at h1; simp at h1)
              repeat' first
                | (refine goN hE 100 rfl ?_; conv => whnf)
                | exact rfl
                | refine And.intro (fun _ => ?_) (fun h => absurd (show true = false from h) (by decide))
                | refine And.intro (fun h => absurd (show false = true from h) (by decide)) (fun _ => ?_)
                | refine And.intro (fun h => ?_) (fun h => absurd (of_decide_eq_false h) (by omega))
                | refine And.intro (fun h => absurd (of_decide_eq_true h) (by omega)) (fun h => ?_)
                | refine And.intro (fun h => ?_) (fun h => ?_)
                | refine Or.inl (And.intro (And.intro (by simp only [kmin]; omega) (by simp only [kmax]; omega)) ?_)
                | refine Exists.intro _ (And.intro rfl ?_)
                | refine And.intro (by decide) ?_
                | refine And.intro (by omega) ?_
              rw [← hR, e.1, e.2]
              rfl
            · have h1 : (!(qs == [])) = false := h1
              have h1 : qs = [] := by simpa using h1
              refine goes hE 100 ?_
              conv => whnf
              refine .pure _ [] (rcheck_ok (⟨k, Con.zero, Gan.zero, n⟩ : Cmd)) ?_
              refine goes hE 100 ?_
              conv => whnf
              refine And.intro (fun h2 => ?_) (fun h2 => ?_)
              · have h2 : (chk (⟨k, Con.zero, Gan.zero, n⟩ : Cmd) != 0) = true := h2
                have e := rdec_none h (fun hh => by have e : chk (⟨k, Con.zero, Gan.zero, n⟩ : Cmd) = 0 := hh.2.2.1; rw [e] at h2; simp at h2)
                repeat' first
                  | (refine goN hE 100 rfl ?_; conv => whnf)
                  | exact rfl
                  | refine And.intro (fun _ => ?_) (fun h => absurd (show true = false from h) (by decide))
                  | refine And.intro (fun h => absurd (show false = true from h) (by decide)) (fun _ => ?_)
                  | refine And.intro (fun h => ?_) (fun h => absurd (of_decide_eq_false h) (by omega))
                  | refine And.intro (fun h => absurd (of_decide_eq_true h) (by omega)) (fun h => ?_)
                  | refine And.intro (fun h => ?_) (fun h => ?_)
                  | refine Or.inl (And.intro (And.intro (by simp only [kmin]; omega) (by simp only [kmax]; omega)) ?_)
                  | refine Exists.intro _ (And.intro rfl ?_)
                  | refine And.intro (by decide) ?_
                  | refine And.intro (by omega) ?_
                rw [← hR, e.1, e.2]
                rfl
              · have h2 : (chk (⟨k, Con.zero, Gan.zero, n⟩ : Cmd) != 0) = false := h2
                have h2 : chk (⟨k, Con.zero, Gan.zero, n⟩ : Cmd) = 0 := by simpa using h2
                refine goes hE 100 ?_
                conv => whnf
                refine .pure _ [] (rput2_ok (⟨k, Con.zero, Gan.zero, n⟩ : Cmd) (chk_told h2)) ?_
                refine goes hE 100 ?_
                conv => whnf
                refine And.intro (fun h3 => ?_) (fun h3 => ?_)
                · have h3 : (!(pl (Cmd.il (⟨k, Con.zero, Gan.zero, n⟩ : Cmd)) == s)) = true := h3
                  have e := rdec_none h (fun hh => by have e : pl (Cmd.il (⟨k, Con.zero, Gan.zero, n⟩ : Cmd)) = s := hh.2.2.2; rw [e] at h3; simp at h3)
                  repeat' first
                    | (refine goN hE 100 rfl ?_; conv => whnf)
                    | exact rfl
                    | refine And.intro (fun _ => ?_) (fun h => absurd (show true = false from h) (by decide))
                    | refine And.intro (fun h => absurd (show false = true from h) (by decide)) (fun _ => ?_)
                    | refine And.intro (fun h => ?_) (fun h => absurd (of_decide_eq_false h) (by omega))
                    | refine And.intro (fun h => absurd (of_decide_eq_true h) (by omega)) (fun h => ?_)
                    | refine And.intro (fun h => ?_) (fun h => ?_)
                    | refine Or.inl (And.intro (And.intro (by simp only [kmin]; omega) (by simp only [kmax]; omega)) ?_)
                    | refine Exists.intro _ (And.intro rfl ?_)
                    | refine And.intro (by decide) ?_
                    | refine And.intro (by omega) ?_
                  rw [← hR, e.1, e.2]
                  rfl
                · have h3 : (!(pl (Cmd.il (⟨k, Con.zero, Gan.zero, n⟩ : Cmd)) == s)) = false := h3
                  have h3 : pl (Cmd.il (⟨k, Con.zero, Gan.zero, n⟩ : Cmd)) = s := by simpa using h3
                  obtain ⟨e1, e2⟩ := rdec_some h rfl h1 h2 h3
                  repeat' first
                    | (refine goN hE 100 rfl ?_; conv => whnf)
                    | exact rfl
                    | refine And.intro (fun _ => ?_) (fun h => absurd (show true = false from h) (by decide))
                    | refine And.intro (fun h => absurd (show false = true from h) (by decide)) (fun _ => ?_)
                    | refine And.intro (fun h => ?_) (fun h => absurd (of_decide_eq_false h) (by omega))
                    | refine And.intro (fun h => absurd (of_decide_eq_true h) (by omega)) (fun h => ?_)
                    | refine And.intro (fun h => ?_) (fun h => ?_)
                    | refine Or.inl (And.intro (And.intro (by simp only [kmin]; omega) (by simp only [kmax]; omega)) ?_)
                    | refine Exists.intro _ (And.intro rfl ?_)
                    | refine And.intro (by decide) ?_
                    | refine And.intro (by omega) ?_
                  rw [← hR, e1, e2]
                  rfl
        · have e4 : (k == 4) = false := e4
          refine goes hE 100 ?_
          conv => whnf
          refine And.intro (fun e5 => ?_) (fun e5 => ?_)
          · have e5 : (k == 5) = true := e5
            have k3 : ((k == 3 || k == 4) || k == 5) = true := by rw [e3, e4, e5]; rfl
            refine goes hE 100 ?_
            conv => whnf
            refine pair_elim (o := pNum p1) (fun n p2 h2 => ?_)
            have h : pCmd ⟨s, false⟩ = (⟨k, Con.zero, Gan.zero, n⟩, p2) := by simp only [pCmd, hk, h2, k1, k2, k3, Bool.false_eq_true, if_false, if_true]
            refine .eff [] [1] _ _ rfl (pnum_at h2) ?_
            obtain ⟨qs, qb⟩ := p2
            cases qb with
            | true =>
              have e := rdec_none h (fun hh => absurd (show true = false from hh.1) (by decide))
              repeat' first
                | (refine goN hE 100 rfl ?_; conv => whnf)
                | exact rfl
                | refine And.intro (fun _ => ?_) (fun h => absurd (show true = false from h) (by decide))
                | refine And.intro (fun h => absurd (show false = true from h) (by decide)) (fun _ => ?_)
                | refine And.intro (fun h => ?_) (fun h => absurd (of_decide_eq_false h) (by omega))
                | refine And.intro (fun h => absurd (of_decide_eq_true h) (by omega)) (fun h => ?_)
                | refine And.intro (fun h => ?_) (fun h => ?_)
                | refine Or.inl (And.intro (And.intro (by simp only [kmin]; omega) (by simp only [kmax]; omega)) ?_)
                | refine Exists.intro _ (And.intro rfl ?_)
                | refine And.intro (by decide) ?_
                | refine And.intro (by omega) ?_
              rw [← hR, e.1, e.2]
              rfl
            | false =>
              refine goes hE 100 ?_
              conv => whnf
              refine And.intro (fun h => absurd (show false = true from h) (by decide)) (fun _ => ?_)
              refine goes hE 100 ?_
              conv => whnf
              refine And.intro (fun h1 => ?_) (fun h1 => ?_)
              · have h1 : (!(qs == [])) = true := h1
                have e := rdec_none h (fun hh => by have e : qs = [] := hh.2.1; rw [e] at h1; simp at h1)
                repeat' first
                  | (refine goN hE 100 rfl ?_; conv => whnf)
                  | exact rfl
                  | refine And.intro (fun _ => ?_) (fun h => absurd (show true = false from h) (by decide))
                  | refine And.intro (fun h => absurd (show false = true from h) (by decide)) (fun _ => ?_)
                  | refine And.intro (fun h => ?_) (fun h => absurd (of_decide_eq_false h) (by omega))
                  | refine And.intro (fun h => absurd (of_decide_eq_true h) (by omega)) (fun h => ?_)
                  | refine And.intro (fun h => ?_) (fun h => ?_)
                  | refine Or.inl (And.intro (And.intro (by simp only [kmin]; omega) (by simp only [kmax]; omega)) ?_)
                  | refine Exists.intro _ (And.intro rfl ?_)
                  | refine And.intro (by decide) ?_
                  | refine And.intro (by omega) ?_
                rw [← hR, e.1, e.2]
                rfl
              · have h1 : (!(qs == [])) = false := h1
                have h1 : qs = [] := by simpa using h1
                refine goes hE 100 ?_
                conv => whnf
                refine .pure _ [] (rcheck_ok (⟨k, Con.zero, Gan.zero, n⟩ : Cmd)) ?_
                refine goes hE 100 ?_
                conv => whnf
                refine And.intro (fun h2 => ?_) (fun h2 => ?_)
                · have h2 : (chk (⟨k, Con.zero, Gan.zero, n⟩ : Cmd) != 0) = true := h2
                  have e := rdec_none h (fun hh => by have e : chk (⟨k, Con.zero, Gan.zero, n⟩ : Cmd) = 0 := hh.2.2.1; rw [e] at h2; simp at h2)
                  repeat' first
                    | (refine goN hE 100 rfl ?_; conv => whnf)
                    | exact rfl
                    | refine And.intro (fun _ => ?_) (fun h => absurd (show true = false from h) (by decide))
                    | refine And.intro (fun h => absurd (show false = true from h) (by decide)) (fun _ => ?_)
                    | refine And.intro (fun h => ?_) (fun h => absurd (of_decide_eq_false h) (by omega))
                    | refine And.intro (fun h => absurd (of_decide_eq_true h) (by omega)) (fun h => ?_)
                    | refine And.intro (fun h => ?_) (fun h => ?_)
                    | refine Or.inl (And.intro (And.intro (by simp only [kmin]; omega) (by simp only [kmax]; omega)) ?_)
                    | refine Exists.intro _ (And.intro rfl ?_)
                    | refine And.intro (by decide) ?_
                    | refine And.intro (by omega) ?_
                  rw [← hR, e.1, e.2]
                  rfl
                · have h2 : (chk (⟨k, Con.zero, Gan.zero, n⟩ : Cmd) != 0) = false := h2
                  have h2 : chk (⟨k, Con.zero, Gan.zero, n⟩ : Cmd) = 0 := by simpa using h2
                  refine goes hE 100 ?_
                  conv => whnf
                  refine .pure _ [] (rput2_ok (⟨k, Con.zero, Gan.zero, n⟩ : Cmd) (chk_told h2)) ?_
                  refine goes hE 100 ?_
                  conv => whnf
                  refine And.intro (fun h3 => ?_) (fun h3 => ?_)
                  · have h3 : (!(pl (Cmd.il (⟨k, Con.zero, Gan.zero, n⟩ : Cmd)) == s)) = true := h3
                    have e := rdec_none h (fun hh => by have e : pl (Cmd.il (⟨k, Con.zero, Gan.zero, n⟩ : Cmd)) = s := hh.2.2.2; rw [e] at h3; simp at h3)
                    repeat' first
                      | (refine goN hE 100 rfl ?_; conv => whnf)
                      | exact rfl
                      | refine And.intro (fun _ => ?_) (fun h => absurd (show true = false from h) (by decide))
                      | refine And.intro (fun h => absurd (show false = true from h) (by decide)) (fun _ => ?_)
                      | refine And.intro (fun h => ?_) (fun h => absurd (of_decide_eq_false h) (by omega))
                      | refine And.intro (fun h => absurd (of_decide_eq_true h) (by omega)) (fun h => ?_)
                      | refine And.intro (fun h => ?_) (fun h => ?_)
                      | refine Or.inl (And.intro (And.intro (by simp only [kmin]; omega) (by simp only [kmax]; omega)) ?_)
                      | refine Exists.intro _ (And.intro rfl ?_)
                      | refine And.intro (by decide) ?_
                      | refine And.intro (by omega) ?_
                    rw [← hR, e.1, e.2]
                    rfl
                  · have h3 : (!(pl (Cmd.il (⟨k, Con.zero, Gan.zero, n⟩ : Cmd)) == s)) = false := h3
                    have h3 : pl (Cmd.il (⟨k, Con.zero, Gan.zero, n⟩ : Cmd)) = s := by simpa using h3
                    obtain ⟨e1, e2⟩ := rdec_some h rfl h1 h2 h3
                    repeat' first
                      | (refine goN hE 100 rfl ?_; conv => whnf)
                      | exact rfl
                      | refine And.intro (fun _ => ?_) (fun h => absurd (show true = false from h) (by decide))
                      | refine And.intro (fun h => absurd (show false = true from h) (by decide)) (fun _ => ?_)
                      | refine And.intro (fun h => ?_) (fun h => absurd (of_decide_eq_false h) (by omega))
                      | refine And.intro (fun h => absurd (of_decide_eq_true h) (by omega)) (fun h => ?_)
                      | refine And.intro (fun h => ?_) (fun h => ?_)
                      | refine Or.inl (And.intro (And.intro (by simp only [kmin]; omega) (by simp only [kmax]; omega)) ?_)
                      | refine Exists.intro _ (And.intro rfl ?_)
                      | refine And.intro (by decide) ?_
                      | refine And.intro (by omega) ?_
                    rw [← hR, e1, e2]
                    rfl
          · have e5 : (k == 5) = false := e5
            have k3 : ((k == 3 || k == 4) || k == 5) = false := by rw [e3, e4, e5]; rfl
            have h : pCmd ⟨s, false⟩ = (⟨k, Con.zero, Gan.zero, 0⟩, p1) := by simp only [pCmd, hk, k1, k2, k3, Bool.false_eq_true, if_false]
            obtain ⟨qs, qb⟩ := p1
            cases qb with
            | true =>
              have e := rdec_none h (fun hh => absurd (show true = false from hh.1) (by decide))
              repeat' first
                | (refine goN hE 100 rfl ?_; conv => whnf)
                | exact rfl
                | refine And.intro (fun _ => ?_) (fun h => absurd (show true = false from h) (by decide))
                | refine And.intro (fun h => absurd (show false = true from h) (by decide)) (fun _ => ?_)
                | refine And.intro (fun h => ?_) (fun h => absurd (of_decide_eq_false h) (by omega))
                | refine And.intro (fun h => absurd (of_decide_eq_true h) (by omega)) (fun h => ?_)
                | refine And.intro (fun h => ?_) (fun h => ?_)
                | refine Or.inl (And.intro (And.intro (by simp only [kmin]; omega) (by simp only [kmax]; omega)) ?_)
                | refine Exists.intro _ (And.intro rfl ?_)
                | refine And.intro (by decide) ?_
                | refine And.intro (by omega) ?_
              rw [← hR, e.1, e.2]
              rfl
            | false =>
              refine goes hE 100 ?_
              conv => whnf
              refine And.intro (fun h => absurd (show false = true from h) (by decide)) (fun _ => ?_)
              refine goes hE 100 ?_
              conv => whnf
              refine And.intro (fun h1 => ?_) (fun h1 => ?_)
              · have h1 : (!(qs == [])) = true := h1
                have e := rdec_none h (fun hh => by have e : qs = [] := hh.2.1; rw [e] at h1; simp at h1)
                repeat' first
                  | (refine goN hE 100 rfl ?_; conv => whnf)
                  | exact rfl
                  | refine And.intro (fun _ => ?_) (fun h => absurd (show true = false from h) (by decide))
                  | refine And.intro (fun h => absurd (show false = true from h) (by decide)) (fun _ => ?_)
                  | refine And.intro (fun h => ?_) (fun h => absurd (of_decide_eq_false h) (by omega))
                  | refine And.intro (fun h => absurd (of_decide_eq_true h) (by omega)) (fun h => ?_)
                  | refine And.intro (fun h => ?_) (fun h => ?_)
                  | refine Or.inl (And.intro (And.intro (by simp only [kmin]; omega) (by simp only [kmax]; omega)) ?_)
                  | refine Exists.intro _ (And.intro rfl ?_)
                  | refine And.intro (by decide) ?_
                  | refine And.intro (by omega) ?_
                rw [← hR, e.1, e.2]
                rfl
              · have h1 : (!(qs == [])) = false := h1
                have h1 : qs = [] := by simpa using h1
                refine goes hE 100 ?_
                conv => whnf
                refine .pure _ [] (rcheck_ok (⟨k, Con.zero, Gan.zero, 0⟩ : Cmd)) ?_
                refine goes hE 100 ?_
                conv => whnf
                refine And.intro (fun h2 => ?_) (fun h2 => ?_)
                · have h2 : (chk (⟨k, Con.zero, Gan.zero, 0⟩ : Cmd) != 0) = true := h2
                  have e := rdec_none h (fun hh => by have e : chk (⟨k, Con.zero, Gan.zero, 0⟩ : Cmd) = 0 := hh.2.2.1; rw [e] at h2; simp at h2)
                  repeat' first
                    | (refine goN hE 100 rfl ?_; conv => whnf)
                    | exact rfl
                    | refine And.intro (fun _ => ?_) (fun h => absurd (show true = false from h) (by decide))
                    | refine And.intro (fun h => absurd (show false = true from h) (by decide)) (fun _ => ?_)
                    | refine And.intro (fun h => ?_) (fun h => absurd (of_decide_eq_false h) (by omega))
                    | refine And.intro (fun h => absurd (of_decide_eq_true h) (by omega)) (fun h => ?_)
                    | refine And.intro (fun h => ?_) (fun h => ?_)
                    | refine Or.inl (And.intro (And.intro (by simp only [kmin]; omega) (by simp only [kmax]; omega)) ?_)
                    | refine Exists.intro _ (And.intro rfl ?_)
                    | refine And.intro (by decide) ?_
                    | refine And.intro (by omega) ?_
                  rw [← hR, e.1, e.2]
                  rfl
                · have h2 : (chk (⟨k, Con.zero, Gan.zero, 0⟩ : Cmd) != 0) = false := h2
                  have h2 : chk (⟨k, Con.zero, Gan.zero, 0⟩ : Cmd) = 0 := by simpa using h2
                  refine goes hE 100 ?_
                  conv => whnf
                  refine .pure _ [] (rput2_ok (⟨k, Con.zero, Gan.zero, 0⟩ : Cmd) (chk_told h2)) ?_
                  refine goes hE 100 ?_
                  conv => whnf
                  refine And.intro (fun h3 => ?_) (fun h3 => ?_)
                  · have h3 : (!(pl (Cmd.il (⟨k, Con.zero, Gan.zero, 0⟩ : Cmd)) == s)) = true := h3
                    have e := rdec_none h (fun hh => by have e : pl (Cmd.il (⟨k, Con.zero, Gan.zero, 0⟩ : Cmd)) = s := hh.2.2.2; rw [e] at h3; simp at h3)
                    repeat' first
                      | (refine goN hE 100 rfl ?_; conv => whnf)
                      | exact rfl
                      | refine And.intro (fun _ => ?_) (fun h => absurd (show true = false from h) (by decide))
                      | refine And.intro (fun h => absurd (show false = true from h) (by decide)) (fun _ => ?_)
                      | refine And.intro (fun h => ?_) (fun h => absurd (of_decide_eq_false h) (by omega))
                      | refine And.intro (fun h => absurd (of_decide_eq_true h) (by omega)) (fun h => ?_)
                      | refine And.intro (fun h => ?_) (fun h => ?_)
                      | refine Or.inl (And.intro (And.intro (by simp only [kmin]; omega) (by simp only [kmax]; omega)) ?_)
                      | refine Exists.intro _ (And.intro rfl ?_)
                      | refine And.intro (by decide) ?_
                      | refine And.intro (by omega) ?_
                    rw [← hR, e.1, e.2]
                    rfl
                  · have h3 : (!(pl (Cmd.il (⟨k, Con.zero, Gan.zero, 0⟩ : Cmd)) == s)) = false := h3
                    have h3 : pl (Cmd.il (⟨k, Con.zero, Gan.zero, 0⟩ : Cmd)) = s := by simpa using h3
                    obtain ⟨e1, e2⟩ := rdec_some h rfl h1 h2 h3
                    repeat' first
                      | (refine goN hE 100 rfl ?_; conv => whnf)
                      | exact rfl
                      | refine And.intro (fun _ => ?_) (fun h => absurd (show true = false from h) (by decide))
                      | refine And.intro (fun h => absurd (show false = true from h) (by decide)) (fun _ => ?_)
                      | refine And.intro (fun h => ?_) (fun h => absurd (of_decide_eq_false h) (by omega))
                      | refine And.intro (fun h => absurd (of_decide_eq_true h) (by omega)) (fun h => ?_)
                      | refine And.intro (fun h => ?_) (fun h => ?_)
                      | refine Or.inl (And.intro (And.intro (by simp only [kmin]; omega) (by simp only [kmax]; omega)) ?_)
                      | refine Exists.intro _ (And.intro rfl ?_)
                      | refine And.intro (by decide) ?_
                      | refine And.intro (by omega) ?_
                    rw [← hR, e1, e2]
                    rfl
theorem rdec_ok (s : List UInt8) : CallOK Try.prog 19 [.str s] [] (.ret (.tup [(rdecX s).av, ii (rdecE s)])) [] := rdec_any s _ rfl
end Go.Proofs.Ytmodiilfjfmdcaa

namespace Go.Proofs.Ytmodiilfjfmdcaa
open Go Go.AW Go.Proofs
set_option maxRecDepth 10000

def sameC (a b : Con) : Bool := eqL Nod.eqb a.ns b.ns && (eqL Hos.eqb a.hs b.hs && ((a.half == b.half) && (a.age == b.age)))
def same (a b : Cmd) : Bool := (a.k == b.k) && (a.g.eqb b.g && ((a.n == b.n) && sameC a.c b.c))
noncomputable abbrev fRcf : Func := Try.f54

theorem rsh_loop (a b : Con) (hab : a.hs.length = b.hs.length) (hl : ((hav a.hs).length : Int) ≤ 9223372036854775807) (r : Bool) : ∀ (n i : Nat), i + n = a.hs.length → eqL Hos.eqb (a.hs.drop i) (b.hs.drop i) = r →
    To E fRcf (.pure (.ret (.bool r))) (.head (stk fRcf 1) [(2, .ref 0 0), (3, .ref 1 0), (6, .int .i64 i)] [.cells 25 a.cs, .cells 25 b.cs]) := by
  have hlen : (hav a.hs).length = a.hs.length := by simp
  intro n
  induction n with
  | zero =>
    intro i hi hr
    rw [List.drop_eq_nil_of_le (by omega), List.drop_eq_nil_of_le (by omega)] at hr
    subst hr
    refine goes hE 100 ?_
    conv => whnf
    repeat' first
      | (refine goN hE 100 rfl ?_; conv => whnf)
      | exact rfl
      | refine And.intro (fun _ => ?_) (fun h => absurd (show true = false from h) (by decide))
      | refine And.intro (fun h => absurd (show false = true from h) (by decide)) (fun _ => ?_)
      | refine And.intro (fun h => ?_) (fun h => absurd (of_decide_eq_false h) (by omega))
      | refine And.intro (fun h => absurd (of_decide_eq_true h) (by omega)) (fun h => ?_)
      | refine And.intro (fun h => ?_) (fun h => ?_)
      | refine Or.inl (And.intro (And.intro (by simp only [kmin]; omega) (by simp only [kmax]; omega)) ?_)
      | refine Exists.intro _ (And.intro rfl ?_)
      | refine And.intro (by decide) ?_
      | refine And.intro (by omega) ?_
  | succ n ih =>
    intro i hi hr
    have h1 : i < a.hs.length := by omega
    have h2 : i < b.hs.length := by omega
    rw [List.drop_eq_getElem_cons h1, List.drop_eq_getElem_cons h2] at hr
    have hr : (Hos.eqb a.hs[i] b.hs[i] && eqL Hos.eqb (a.hs.drop (i + 1)) (b.hs.drop (i + 1))) = r := hr
    generalize hx : a.hs[i] = x at hr
    generalize hy : b.hs[i] = y at hr
    have ga : (hav a.hs)[i]? = some (Hos.av x) := by simp [hx, h1]
    have gb : (hav b.hs)[i]? = some (Hos.av y) := by simp [hy, h2]
    refine goes hE 100 ?_
    conv => whnf
    refine And.intro (fun h => ?_) (fun h => absurd (of_decide_eq_false h) (by omega))
    repeat' first
      | (refine goN hE 100 rfl ?_; conv => whnf)
      | refine Exists.intro _ (And.intro ga ?_)
      | refine Exists.intro _ (And.intro gb ?_)
      | exact rfl
      | refine And.intro (fun _ => ?_) (fun h => absurd (show true = false from h) (by decide))
      | refine And.intro (fun h => absurd (show false = true from h) (by decide)) (fun _ => ?_)
      | refine And.intro (fun h => ?_) (fun h => absurd (of_decide_eq_false h) (by omega))
      | refine And.intro (fun h => absurd (of_decide_eq_true h) (by omega)) (fun h => ?_)
      | refine And.intro (fun h => ?_) (fun h => ?_)
      | refine Or.inl (And.intro (And.intro (by simp only [kmin]; omega) (by simp only [kmax]; omega)) ?_)
      | refine Exists.intro _ (And.intro rfl ?_)
      | refine And.intro (by decide) ?_
      | refine And.intro (by omega) ?_
    · have h : Hos.eqb x y = false := not_t h
      rw [h] at hr
      rw [← hr]; rfl
    · have h : Hos.eqb x y = true := not_f h
      rw [h, Bool.true_and] at hr
      refine To.head [2, 3, 6] ?_
      exact ih (i + 1) (by omega) hr
theorem rsn_loop (a b : Con) (hab : a.ns.length = b.ns.length) (hhs : a.hs.length = b.hs.length) (hl : ((nav a.ns).length : Int) ≤ 9223372036854775807) (hlh : ((hav a.hs).length : Int) ≤ 9223372036854775807) (r : Bool) : ∀ (n i : Nat), i + n = a.ns.length → (eqL Nod.eqb (a.ns.drop i) (b.ns.drop i) && eqL Hos.eqb a.hs b.hs) = r →
    To E fRcf (.pure (.ret (.bool r))) (.head (stk fRcf 0) [(2, .ref 0 0), (3, .ref 1 0), (5, .int .i64 i)] [.cells 25 a.cs, .cells 25 b.cs]) := by
  have hlen : (nav a.ns).length = a.ns.length := by simp
  intro n
  induction n with
  | zero =>
    intro i hi hr
    rw [List.drop_eq_nil_of_le (by omega), List.drop_eq_nil_of_le (by omega)] at hr
    have hr : eqL Hos.eqb a.hs b.hs = r := hr
    refine goes hE 100 ?_
    conv => whnf
    refine And.intro (fun h => absurd (of_decide_eq_true h) (by omega)) (fun h => ?_)
    refine goes hE 100 ?_
    conv => whnf
    refine To.head [2, 3, 6] ?_
    exact rsh_loop a b hhs hlh r a.hs.length 0 (by omega) hr
  | succ n ih =>
    intro i hi hr
    have h1 : i < a.ns.length := by omega
    have h2 : i < b.ns.length := by omega
    rw [List.drop_eq_getElem_cons h1, List.drop_eq_getElem_cons h2] at hr
    have hr : ((Nod.eqb a.ns[i] b.ns[i] && eqL Nod.eqb (a.ns.drop (i + 1)) (b.ns.drop (i + 1))) && eqL Hos.eqb a.hs b.hs) = r := hr
    generalize hx : a.ns[i] = x at hr
    generalize hy : b.ns[i] = y at hr
    have ga : (nav a.ns)[i]? = some (Nod.av x) := by simp [hx, h1]
    have gb : (nav b.ns)[i]? = some (Nod.av y) := by simp [hy, h2]
    refine goes hE 100 ?_
    conv => whnf
    refine And.intro (fun h => ?_) (fun h => absurd (of_decide_eq_false h) (by omega))
    repeat' first
      | (refine goN hE 100 rfl ?_; conv => whnf)
      | refine Exists.intro _ (And.intro ga ?_)
      | refine Exists.intro _ (And.intro gb ?_)
      | exact rfl
      | refine And.intro (fun _ => ?_) (fun h => absurd (show true = false from h) (by decide))
      | refine And.intro (fun h => absurd (show false = true from h) (by decide)) (fun _ => ?_)
      | refine And.intro (fun h => ?_) (fun h => absurd (of_decide_eq_false h) (by omega))
      | refine And.intro (fun h => absurd (of_decide_eq_true h) (by omega)) (fun h => ?_)
      | refine And.intro (fun h => ?_) (fun h => ?_)
      | refine Or.inl (And.intro (And.intro (by simp only [kmin]; omega) (by simp only [kmax]; omega)) ?_)
      | refine Exists.intro _ (And.intro rfl ?_)
      | refine And.intro (by decide) ?_
      | refine And.intro (by omega) ?_
    · have h : Nod.eqb x y = false := not_t h
      rw [h] at hr
      rw [← hr]; rfl
    · have h : Nod.eqb x y = true := not_f h
      rw [h, Bool.true_and] at hr
      refine To.head [2, 3, 5] ?_
      exact ih (i + 1) (by omega) hr
theorem con_lens (a b : Con) (M : Imm) (ob : Hs) (vs : List Value) (h : RepL M ob vs [a.av, b.av]) : ((nav a.ns).length : Int) ≤ 9223372036854775807 ∧ ((hav a.hs).length : Int) ≤ 9223372036854775807 := by
  have hl : 0 < vs.length := by rw [h.1]; simp
  have := h.2 0 _ a.av (List.getElem?_eq_getElem hl) rfl
  exact ⟨rep_agg_at this 0 _ rfl, rep_agg_at this 1 _ rfl⟩
theorem ne_cast {a b : Nat} (h : ((a : Int) != (b : Int)) = true) : a ≠ b := by
  intro e; rw [e] at h; simp at h
theorem eq_cast {a b : Nat} (h : ((a : Int) != (b : Int)) = false) : a = b := by
  simp at h; omega
theorem rsame_ca (a b : Con) (r : Bool) (hr : sameC a b = r) : CallOK Try.prog 54 [a.av, b.av] [] (.ret (.bool r)) [] := by
  refine CallOK.get _ (con_lens a b) fun ⟨hl, hlh⟩ => ?_
  have la : (nav a.ns).length = a.ns.length := by simp
  have lb : (nav b.ns).length = b.ns.length := by simp
  have ka : (hav a.hs).length = a.hs.length := by simp
  have kb : (hav b.hs).length = b.hs.length := by simp
  refine CallOK.to (E := E) (fn := Try.f54) (g := .pure _) (by rfl) (by rfl) (by rfl) (fun _ _ => by rfl) (by decide +kernel) (by rfl) (by rfl) (by rfl) fun _ => ?_
  refine goes hE 100 ?_
  conv => whnf
  refine And.intro (fun h1 => ?_) (fun h1 => ?_)
  · have h1 : (((nav a.ns).length : Int) != ((nav b.ns).length : Int)) = true := h1
    have e : sameC a b = false := by unfold sameC; rw [eqL_len (by rw [← la, ← lb]; exact ne_cast h1)]; rfl
    rw [e] at hr
    subst hr
    repeat' first
      | (refine goN hE 100 rfl ?_; conv => whnf)
      | exact rfl
      | refine And.intro (fun _ => ?_) (fun h => absurd (show true = false from h) (by decide))
      | refine And.intro (fun h => absurd (show false = true from h) (by decide)) (fun _ => ?_)
      | refine And.intro (fun h => ?_) (fun h => absurd (of_decide_eq_false h) (by omega))
      | refine And.intro (fun h => absurd (of_decide_eq_true h) (by omega)) (fun h => ?_)
      | refine And.intro (fun h => ?_) (fun h => ?_)
      | refine Or.inl (And.intro (And.intro (by simp only [kmin]; omega) (by simp only [kmax]; omega)) ?_)
      | refine Exists.intro _ (And.intro rfl ?_)
      | refine And.intro (by decide) ?_
      | refine And.intro (by omega) ?_
  · have h1 : (((nav a.ns).length : Int) != ((nav b.ns).length : Int)) = false := h1
    refine goes hE 100 ?_
    conv => whnf
    refine And.intro (fun h2 => ?_) (fun h2 => ?_)
    · have h2 : (((hav a.hs).length : Int) != ((hav b.hs).length : Int)) = true := h2
      have e : sameC a b = false := by unfold sameC; rw [eqL_len (f := Hos.eqb) (by rw [← ka, ← kb]; exact ne_cast h2), Bool.false_and, Bool.and_false]
      rw [e] at hr
      subst hr
      repeat' first
        | (refine goN hE 100 rfl ?_; conv => whnf)
        | exact rfl
        | refine And.intro (fun _ => ?_) (fun h => absurd (show true = false from h) (by decide))
        | refine And.intro (fun h => absurd (show false = true from h) (by decide)) (fun _ => ?_)
        | refine And.intro (fun h => ?_) (fun h => absurd (of_decide_eq_false h) (by omega))
        | refine And.intro (fun h => absurd (of_decide_eq_true h) (by omega)) (fun h => ?_)
        | refine And.intro (fun h => ?_) (fun h => ?_)
        | refine Or.inl (And.intro (And.intro (by simp only [kmin]; omega) (by simp only [kmax]; omega)) ?_)
        | refine Exists.intro _ (And.intro rfl ?_)
        | refine And.intro (by decide) ?_
        | refine And.intro (by omega) ?_
    · have h2 : (((hav a.hs).length : Int) != ((hav b.hs).length : Int)) = false := h2
      have p1 := eq_cast h1
      have p2 := eq_cast h2
      refine goes hE 100 ?_
      conv => whnf
      refine And.intro (fun h3 => ?_) (fun h3 => ?_)
      · have h3 : (!(a.half == b.half)) = true := h3
        have h3 := not_t h3
        have e : sameC a b = false := by unfold sameC; rw [h3, Bool.false_and, Bool.and_false, Bool.and_false]
        rw [e] at hr
        subst hr
        repeat' first
          | (refine goN hE 100 rfl ?_; conv => whnf)
          | exact rfl
          | refine And.intro (fun _ => ?_) (fun h => absurd (show true = false from h) (by decide))
          | refine And.intro (fun h => absurd (show false = true from h) (by decide)) (fun _ => ?_)
          | refine And.intro (fun h => ?_) (fun h => absurd (of_decide_eq_false h) (by omega))
          | refine And.intro (fun h => absurd (of_decide_eq_true h) (by omega)) (fun h => ?_)
          | refine And.intro (fun h => ?_) (fun h => ?_)
          | refine Or.inl (And.intro (And.intro (by simp only [kmin]; omega) (by simp only [kmax]; omega)) ?_)
          | refine Exists.intro _ (And.intro rfl ?_)
          | refine And.intro (by decide) ?_
          | refine And.intro (by omega) ?_
      · have h3 : (!(a.half == b.half)) = false := h3
        have h3 := not_f h3
        refine goes hE 100 ?_
        conv => whnf
        refine And.intro (fun h4 => ?_) (fun h4 => ?_)
        · have h4 : (!(a.age == b.age)) = true := h4
          have h4 := not_t h4
          have e : sameC a b = false := by unfold sameC; rw [h4, Bool.and_false, Bool.and_false, Bool.and_false]
          rw [e] at hr
          subst hr
          repeat' first
            | (refine goN hE 100 rfl ?_; conv => whnf)
            | exact rfl
            | refine And.intro (fun _ => ?_) (fun h => absurd (show true = false from h) (by decide))
            | refine And.intro (fun h => absurd (show false = true from h) (by decide)) (fun _ => ?_)
            | refine And.intro (fun h => ?_) (fun h => absurd (of_decide_eq_false h) (by omega))
            | refine And.intro (fun h => absurd (of_decide_eq_true h) (by omega)) (fun h => ?_)
            | refine And.intro (fun h => ?_) (fun h => ?_)
            | refine Or.inl (And.intro (And.intro (by simp only [kmin]; omega) (by simp only [kmax]; omega)) ?_)
            | refine Exists.intro _ (And.intro rfl ?_)
            | refine And.intro (by decide) ?_
            | refine And.intro (by omega) ?_
        · have h4 : (!(a.age == b.age)) = false := h4
          have h4 := not_f h4
          have e : sameC a b = (eqL Nod.eqb a.ns b.ns && eqL Hos.eqb a.hs b.hs) := by unfold sameC; rw [h3, h4, Bool.and_true, Bool.and_true]
          rw [e] at hr
          refine goes hE 100 ?_
          conv => whnf
          refine To.head [2, 3, 5] ?_
          exact rsn_loop a b (by omega) (by omega) hl hlh _ a.ns.length 0 (by omega) hr
theorem rsame_c (a b : Con) : CallOK Try.prog 54 [a.av, b.av] [] (.ret (.bool (sameC a b))) [] := rsame_ca a b _ rfl
theorem rsame_any (a b : Cmd) (r : Bool) (hr : same a b = r) : CallOK Try.prog 20 [a.av, b.av] [] (.ret (.bool r)) [] := by
  refine CallOK.to (E := E) (fn := Try.f20) (g := .pure _) (by rfl) (by rfl) (by rfl) (fun _ _ => by rfl) (by decide +kernel) (by rfl) (by rfl) (by rfl) fun _ => ?_
  unfold same at hr
  repeat' first
    | (refine goN hE 100 rfl ?_; conv => whnf)
    | refine .pure _ [] (rsame_c a.c b.c) ?_
    | exact rfl
    | refine And.intro (fun _ => ?_) (fun h => absurd (show true = false from h) (by decide))
    | refine And.intro (fun h => absurd (show false = true from h) (by decide)) (fun _ => ?_)
    | refine And.intro (fun h => ?_) (fun h => absurd (of_decide_eq_false h) (by omega))
    | refine And.intro (fun h => absurd (of_decide_eq_true h) (by omega)) (fun h => ?_)
    | refine And.intro (fun h => ?_) (fun h => ?_)
    | refine Or.inl (And.intro (And.intro (by simp only [kmin]; omega) (by simp only [kmax]; omega)) ?_)
    | refine Exists.intro _ (And.intro rfl ?_)
    | refine And.intro (by decide) ?_
    | refine And.intro (by omega) ?_
  all_goals (rw [← hr]; clear hr; simp only [Gan.eqb, *, Bool.true_and, Bool.false_and, Bool.and_false])
theorem rsame_ok (a b : Cmd) : CallOK Try.prog 20 [a.av, b.av] [] (.ret (.bool (same a b))) [] := rsame_any a b _ rfl
set_option maxHeartbeats 2000000
theorem same_any (a b : Cmd) (r : Bool) (hr : same a b = r) : CallOK Try.prog 21 [a.av, b.av] [] (.ret (.bool r)) [] := by
  refine CallOK.to (E := (Er [] [9,10])) (fn := Try.f21) (g := .pure _) (by rfl) (by rfl) (by rfl) (fun _ _ => by rfl) (by decide +kernel) (by rfl) (by rfl) (by rfl) fun _ => ?_
  unfold same sameC at hr
  refine goes (hEr [] [9,10]) 13 ?_
  conv => whnf
  refine To.frz [2, 3] [0, 1] ?_
  repeat' first
    | (refine goN (hEr [] [9,10]) 100 rfl ?_; conv => whnf)
    | refine .pure _ [] (eqN_ok a.c.ns b.c.ns) ?_
    | refine .pure _ [] (eqH_ok a.c.hs b.c.hs) ?_
    | exact rfl
    | refine And.intro (fun _ => ?_) (fun h => absurd (show true = false from h) (by decide))
    | refine And.intro (fun h => absurd (show false = true from h) (by decide)) (fun _ => ?_)
    | refine And.intro (fun h => ?_) (fun h => absurd (of_decide_eq_false h) (by omega))
    | refine And.intro (fun h => absurd (of_decide_eq_true h) (by omega)) (fun h => ?_)
    | refine And.intro (fun h => ?_) (fun h => ?_)
    | refine Or.inl (And.intro (And.intro (by simp only [kmin]; omega) (by simp only [kmax]; omega)) ?_)
    | refine Exists.intro _ (And.intro rfl ?_)
    | refine And.intro (by decide) ?_
    | refine And.intro (by omega) ?_
  all_goals (rw [← hr]; clear hr; simp only [Gan.eqb, *, Bool.true_and, Bool.false_and, Bool.and_false])
theorem same_ok (a b : Cmd) : CallOK Try.prog 21 [a.av, b.av] [] (.ret (.bool (same a b))) [] := same_any a b _ rfl
end Go.Proofs.Ytmodiilfjfmdcaa

namespace Go.Proofs.Ytmodiilfjfmdcaa
open Go Go.AW Go.Proofs
set_option maxRecDepth 10000

def xA : Cmd := ⟨5, Con.zero, Gan.zero, 5⟩
def xB : Cmd := ⟨6, Con.zero, Gan.zero, 0⟩
theorem xA_chk : chk xA = 0 := by rfl
theorem xA_enc : encB xA = [5, 5] := by
  unfold encB
  rw [if_pos xA_chk]
  have : putN (5 : Int).toNat = [5] := by rw [putN]; rfl
  show putN (5 : Int).toNat ++ (putN (5 : Int).toNat ++ []) = _
  rw [this]
  rfl
theorem encA_ok : CallOK Try.prog 14 [xA.av] [] (.ret (.tup [.str [5, 5], ii 0])) [] := by
  have := enc_ok xA
  rw [xA_enc, xA_chk] at this
  exact this
theorem decA_ok : CallOK Try.prog 18 [.str [6, 0]] [] (.ret (.tup [Cmd.zero.av, ii 10])) [] := decode_ok [6, 0] (by decide)
theorem decB_ok : CallOK Try.prog 18 [.str [6]] [] (.ret (.tup [xB.av, ii 0])) [] := decode_ok [6] (by decide)
theorem chkZ_ok : CallOK Try.prog 16 [Cmd.zero.av] [] (.ret (ii 1)) [] := check_ok Cmd.zero
theorem sameB_ok : CallOK Try.prog 21 [xB.av, xB.av] [] (.ret (.bool true)) [] := same_ok xB xB
theorem sameZ_ok : CallOK Try.prog 21 [xB.av, Cmd.zero.av] [] (.ret (.bool false)) [] := same_ok xB Cmd.zero
theorem awake_ok : CallOK Try.prog 13 [] [] (.ret (.bool true)) [] := by
  refine CallOK.to (E := E) (fn := Try.f13) (g := .pure _) (by rfl) (by rfl) (by rfl) (fun _ _ => by rfl) (by decide +kernel) (by rfl) (by rfl) (by rfl) fun _ => ?_
  repeat' first
    | (refine goN hE 100 rfl ?_; conv => whnf)
    | refine .pure _ [] encA_ok ?_
    | refine .pure _ [] decA_ok ?_
    | refine .pure _ [] decB_ok ?_
    | refine .pure _ [] chkZ_ok ?_
    | refine .pure _ [] sameB_ok ?_
    | refine .pure _ [] sameZ_ok ?_
    | exact rfl
    | refine And.intro (fun _ => ?_) (fun h => absurd (show true = false from h) (by decide))
    | refine And.intro (fun h => absurd (show false = true from h) (by decide)) (fun _ => ?_)
    | refine And.intro (fun h => ?_) (fun h => absurd (of_decide_eq_false h) (by omega))
    | refine And.intro (fun h => absurd (of_decide_eq_true h) (by omega)) (fun h => ?_)
    | refine And.intro (fun h => ?_) (fun h => ?_)
    | refine Or.inl (And.intro (And.intro (by simp only [kmin]; omega) (by simp only [kmax]; omega)) ?_)
    | refine Exists.intro _ (And.intro rfl ?_)
    | refine And.intro (by decide) ?_
    | refine And.intro (by omega) ?_
end Go.Proofs.Ytmodiilfjfmdcaa

namespace Go.Proofs.Ytmodiilfjfmdcaa
open Go Go.AW Go.Proofs

/- ---------- written, then read ---------- -/
theorem rNum_put {n : Int} (h0 : 0 ≤ n) (h : n ≤ 1099511627777) (s : List UInt8) : rNum (putN n.toNat ++ s) = some (n, s) := by
  unfold rNum
  rw [getN_put n.toNat s (by omega)]
  simp only [List.drop_left, Option.some.injEq, Prod.mk.injEq, and_true]
  omega
theorem rVec_put {v : V3} (h : okI v.l = true) (s : List UInt8) : rVec (pl v.l ++ s) = some (v, s) := by
  obtain ⟨h1, h2, h3⟩ := v3_b h
  have e : pl v.l ++ s = putN v.a.toNat ++ (putN v.b.toNat ++ (putN v.c.toNat ++ s)) := by simp [pl, V3.l]
  rw [e]
  unfold rVec
  rw [rNum_put h1.1 (by omega)]
  dsimp only
  rw [rNum_put h2.1 (by omega)]
  dsimp only
  rw [rNum_put h3.1 (by omega)]
theorem rGan_put {g : Gan} (h : g.ok = true) (s : List UInt8) : rGan (pl g.il ++ s) = some (g, s) := by
  obtain ⟨h1, h2, h3⟩ := gan_b h
  have b1 := okI_b h1 g.id (by simp)
  have b2 := okI_b h1 g.ten (by simp)
  have b3 := okI_b h1 g.pods (by simp)
  have b4 := okI_b h3 g.run (by simp)
  have b5 := okI_b h3 g.lev (by simp)
  have b6 := okI_b h3 g.pref (by simp)
  have e : pl g.il ++ s = putN g.id.toNat ++ (putN g.ten.toNat ++ (putN g.pods.toNat ++ (pl g.need.l ++ (putN g.run.toNat ++ (putN g.lev.toNat ++ (putN g.pref.toNat ++ s)))))) := by simp [pl, Gan.il, V3.l]
  rw [e]
  unfold rGan
  rw [rNum_put b1.1 (by omega)]
  dsimp only
  rw [rNum_put b2.1 (by omega)]
  dsimp only
  rw [rNum_put b3.1 (by omega)]
  dsimp only
  rw [rVec_put h2]
  dsimp only
  rw [rNum_put b4.1 (by omega)]
  dsimp only
  rw [rNum_put b5.1 (by omega)]
  dsimp only
  rw [rNum_put b6.1 (by omega)]
theorem rNod_put {x : Nod} (h : x.ok = true) (s : List UInt8) : rNod (pl x.il ++ s) = some (x, s) := by
  obtain ⟨h1, h2, h3, h4, h5⟩ := nod_b h
  have e : pl x.il ++ s = putN (x.p + 1).toNat ++ (putN x.w.toNat ++ (pl x.n.l ++ (pl x.b.l ++ (pl x.l.l ++ s)))) := by simp [pl, Nod.il, V3.l]
  rw [e]
  unfold rNod
  rw [rNum_put (by omega) (by omega)]
  dsimp only
  rw [rNum_put h2.1 (by omega)]
  dsimp only
  rw [rVec_put h3]
  dsimp only
  rw [rVec_put h4]
  dsimp only
  rw [rVec_put h5]
  simp
theorem rHos_put {x : Hos} (h : x.ok = true) (s : List UInt8) : rHos (pl x.il ++ s) = some (x, s) := by
  obtain ⟨h1, h2⟩ := hos_b h
  have b1 := okI_b h1 x.f (by simp)
  have b2 := okI_b h1 x.b (by simp)
  have b3 := okI_b h1 x.r (by simp)
  have e : pl x.il ++ s = putN x.f.toNat ++ (putN x.b.toNat ++ (putN x.r.toNat ++ (pl x.c.l ++ s))) := by simp [pl, Hos.il, V3.l]
  rw [e]
  unfold rHos
  rw [rNum_put b1.1 (by omega)]
  dsimp only
  rw [rNum_put b2.1 (by omega)]
  dsimp only
  rw [rNum_put b3.1 (by omega)]
  dsimp only
  rw [rVec_put h2]
theorem putN_pos (n : Nat) : 1 ≤ (putN n).length := by rw [putN]; split <;> simp
theorem nodL_len : ∀ (l : List Nod), l.length ≤ (pl (nodL l)).length
  | [] => by simp
  | x :: r => by
    have h1 := nodL_len r
    have h2 := putN_pos (x.p + 1).toNat
    simp only [nodL, pl_append, List.length_append, List.length_cons]
    have : 1 ≤ (pl x.il).length := by simp only [Nod.il, pl, List.length_append]; omega
    omega
theorem hosL_len : ∀ (l : List Hos), l.length ≤ (pl (hosL l)).length
  | [] => by simp
  | x :: r => by
    have h1 := hosL_len r
    have h2 := putN_pos x.f.toNat
    simp only [hosL, pl_append, List.length_append, List.length_cons]
    have : 1 ≤ (pl x.il).length := by simp only [Hos.il, pl, List.length_append]; omega
    omega
theorem rCount_put {n : Int} (h0 : 0 ≤ n) (h : n ≤ 1099511627777) (s : List UInt8) (hs : n ≤ s.length) : rCount (putN n.toNat ++ s) = some (n, s) := by
  unfold rCount
  rw [rNum_put h0 h]
  dsimp only
  rw [if_pos (by simpa using hs)]
theorem rN_put : ∀ (l : List Nod) (acc : List Nod) (s : List UInt8), allN l = true → rN l.length acc (pl (nodL l) ++ s) = rHs (acc ++ l) s
  | [], acc, s, _ => by simp [rN, nodL, pl]
  | x :: r, acc, s, h => by
    simp only [allN, Bool.and_eq_true] at h
    have e : pl (nodL (x :: r)) ++ s = pl x.il ++ (pl (nodL r) ++ s) := by simp [nodL, pl_append]
    rw [e, List.length_cons]
    unfold rN
    rw [rNod_put h.1]
    dsimp only
    rw [rN_put r (acc ++ [x]) s h.2]
    simp
theorem rH_put (ns : List Nod) : ∀ (l : List Hos) (acc : List Hos) (s : List UInt8), allH l = true → rH ns l.length acc (pl (hosL l) ++ s) = rFin ns (acc ++ l) s
  | [], acc, s, _ => by simp [rH, hosL, pl]
  | x :: r, acc, s, h => by
    simp only [allH, Bool.and_eq_true] at h
    have e : pl (hosL (x :: r)) ++ s = pl x.il ++ (pl (hosL r) ++ s) := by simp [hosL, pl_append]
    rw [e, List.length_cons]
    unfold rH
    rw [rHos_put h.1]
    dsimp only
    rw [rH_put ns r (acc ++ [x]) s h.2]
    simp
theorem rCon_put {c : Con} (h : c.ok = true) (hn : c.ns.length ≤ 12) (hh : c.hs.length ≤ 24) (s : List UInt8) : rCon (pl c.il ++ s) = some (c, s) := by
  simp only [Con.ok, Bool.and_eq_true] at h
  obtain ⟨⟨h1, h2⟩, h3⟩ := h
  have b1 := okI_b h3 c.half (by simp)
  have b2 := okI_b h3 c.age (by simp)
  have l1 : (nav c.ns).length = c.ns.length := by simp
  have l2 : (hav c.hs).length = c.hs.length := by simp
  have k1 := nodL_len c.ns
  have k2 := hosL_len c.hs
  have e : pl c.il ++ s = putN ((nav c.ns).length : Int).toNat ++ (pl (nodL c.ns) ++ (putN ((hav c.hs).length : Int).toNat ++ (pl (hosL c.hs) ++ (putN c.half.toNat ++ (putN c.age.toNat ++ s))))) := by simp [pl, pl_append, Con.il]
  rw [e]
  unfold rCon
  rw [rCount_put (by omega) (by omega) _ (by simp only [List.length_append]; omega)]
  dsimp only
  rw [Int.toNat_natCast, l1, rN_put c.ns [] _ h1]
  unfold rHs
  rw [rCount_put (by omega) (by omega) _ (by simp only [List.length_append]; omega)]
  dsimp only
  rw [Int.toNat_natCast, l2, rH_put _ c.hs [] _ h2]
  unfold rFin
  rw [rNum_put b1.1 (by omega)]
  dsimp only
  rw [rNum_put b2.1 (by omega)]
  simp
theorem con_none {c : Con} (h : c.non = true) : c = Con.zero := by
  simp only [Con.non, Bool.and_eq_true, beq_iff_eq] at h
  obtain ⟨⟨⟨h1, h2⟩, h3⟩, h4⟩ := h
  obtain ⟨ns, hs, half, age⟩ := c
  dsimp only at h1 h2 h3 h4
  have e1 : ns = [] := by cases ns with | nil => rfl | cons a l => simp at h1; omega
  have e2 : hs = [] := by cases hs with | nil => rfl | cons a l => simp at h2; omega
  subst e1 e2 h3 h4
  rfl
theorem gan_none {g : Gan} (h : g.isZ = true) : g = Gan.zero := Gan.eqb_eq.1 h
/-- WHAT IS WRITTEN IS READ AS IT WAS -/
theorem rCmd_put {x : Cmd} (T : Told x) : rCmd (pl x.il) = some (x, []) := by
  obtain ⟨k, c, g, n⟩ := x
  have l1 : (nav c.ns).length = c.ns.length := by simp
  have l2 : (hav c.hs).length = c.hs.length := by simp
  have hln : ((nav c.ns).length : Int) ≤ 12 := T.ln
  have hlh : ((hav c.hs).length : Int) ≤ 24 := T.lh
  have hkk : 1 ≤ k ∧ k ≤ 6 := T.k
  have Tc : k = 1 ∨ c.non = true := T.c
  have Tg : k = 2 ∨ g.isZ = true := T.g
  have Tn : (k = 3 ∨ k = 4 ∨ k = 5) ∨ n = 0 := T.n
  have Tnn : 0 ≤ n ∧ n ≤ 1099511627776 := T.nok
  have cok : c.ok = true := T.cok
  have gok : g.ok = true := T.gok
  clear T
  have e : pl (Cmd.il ⟨k, c, g, n⟩) = putN k.toNat ++ pl (if k == 1 then c.il else if k == 2 then g.il else if k == 6 then [] else [n]) := rfl
  rw [e]
  unfold rCmd
  rw [rNum_put (by omega) (by omega)]
  dsimp only
  rcases Tc with rfl | hc
  · have hg : g = Gan.zero := gan_none (Tg.resolve_left (by omega))
    have hn : n = 0 := Tn.resolve_left (by omega)
    subst hg hn
    have := rCon_put cok (by omega) (by omega) []
    rw [List.append_nil] at this
    simp only [beq_self_eq_true, if_true]
    rw [this]
  · have hc : c = Con.zero := con_none hc
    subst hc
    rcases Tg with rfl | hg
    · have hn : n = 0 := Tn.resolve_left (by omega)
      subst hn
      have := rGan_put gok []
      rw [List.append_nil] at this
      simp only [show ((2 : Int) == 1) = false from rfl, show ((2 : Int) == 2) = true from rfl, if_true, Bool.false_eq_true, if_false]
      rw [this]
    · have hg : g = Gan.zero := gan_none hg
      subst hg
      have one : rNum (pl [n]) = some (n, []) := rNum_put Tnn.1 (by omega) []
      have t3 : (match rNum (pl [n]) with | none => none | some (n, s) => some ((⟨3, Con.zero, Gan.zero, n⟩ : Cmd), s)) = some (⟨3, Con.zero, Gan.zero, n⟩, []) := by rw [one]
      have t4 : (match rNum (pl [n]) with | none => none | some (n, s) => some ((⟨4, Con.zero, Gan.zero, n⟩ : Cmd), s)) = some (⟨4, Con.zero, Gan.zero, n⟩, []) := by rw [one]
      have t5 : (match rNum (pl [n]) with | none => none | some (n, s) => some ((⟨5, Con.zero, Gan.zero, n⟩ : Cmd), s)) = some (⟨5, Con.zero, Gan.zero, n⟩, []) := by rw [one]
      have hk : k = 1 ∨ k = 2 ∨ k = 3 ∨ k = 4 ∨ k = 5 ∨ k = 6 := by omega
      rcases hk with rfl | rfl | rfl | rfl | rfl | rfl
      · have hn : n = 0 := Tn.resolve_left (by omega)
        subst hn
        have := rCon_put (c := Con.zero) rfl (by decide) (by decide) []
        rw [List.append_nil] at this
        simp only [beq_self_eq_true, if_true]
        rw [this]
      · have hn : n = 0 := Tn.resolve_left (by omega)
        subst hn
        have := rGan_put (g := Gan.zero) rfl []
        rw [List.append_nil] at this
        simp only [show ((2 : Int) == 1) = false from rfl, show ((2 : Int) == 2) = true from rfl, if_true, Bool.false_eq_true, if_false]
        rw [this]
      · exact t3
      · exact t4
      · exact t5
      · have hn : n = 0 := Tn.resolve_left (by omega)
        subst hn
        rfl

/- ---------- read, then written ---------- -/
theorem rNum_can {s s' : List UInt8} {n : Int} (h : rNum s = some (n, s')) : s = putN n.toNat ++ s' := by
  unfold rNum at h
  split at h
  · rename_i m k hg
    cases h
    obtain ⟨x, e1, e2, _⟩ := putN_get 9 0 0 s m k rfl (by decide) hg
    have : x = m := by omega
    subst this
    rw [Int.toNat_natCast, e2, Nat.sub_zero, List.take_append_drop]
  · cases h
theorem rVec_can {s s' : List UInt8} {v : V3} (h : rVec s = some (v, s')) : s = pl v.l ++ s' := by
  unfold rVec at h
  split at h
  · cases h
  · rename_i h1
    split at h
    · cases h
    · rename_i h2
      split at h
      · cases h
      · rename_i h3
        cases h
        rw [rNum_can h1, rNum_can h2, rNum_can h3]
        simp [pl, V3.l]
theorem rGan_can {s s' : List UInt8} {v : Gan} (h : rGan s = some (v, s')) : s = pl v.il ++ s' := by
  unfold rGan at h
  split at h
  · cases h
  · rename_i h1
    split at h
    · cases h
    · rename_i h2
      split at h
      · cases h
      · rename_i h3
        split at h
        · cases h
        · rename_i h4
          split at h
          · cases h
          · rename_i h5
            split at h
            · cases h
            · rename_i h6
              split at h
              · cases h
              · rename_i h7
                cases h
                rw [rNum_can h1, rNum_can h2, rNum_can h3, rVec_can h4, rNum_can h5, rNum_can h6, rNum_can h7]
                simp [pl, Gan.il, V3.l]
theorem rNod_can {s s' : List UInt8} {v : Nod} (h : rNod s = some (v, s')) : s = pl v.il ++ s' := by
  unfold rNod at h
  split at h
  · cases h
  · rename_i h1
    split at h
    · cases h
    · rename_i h2
      split at h
      · cases h
      · rename_i h3
        split at h
        · cases h
        · rename_i h4
          split at h
          · cases h
          · rename_i h5
            cases h
            rw [rNum_can h1, rNum_can h2, rVec_can h3, rVec_can h4, rVec_can h5]
            simp [pl, Nod.il, V3.l]
theorem rHos_can {s s' : List UInt8} {v : Hos} (h : rHos s = some (v, s')) : s = pl v.il ++ s' := by
  unfold rHos at h
  split at h
  · cases h
  · rename_i h1
    split at h
    · cases h
    · rename_i h2
      split at h
      · cases h
      · rename_i h3
        split at h
        · cases h
        · rename_i h4
          cases h
          rw [rNum_can h1, rNum_can h2, rNum_can h3, rVec_can h4]
          simp [pl, Hos.il, V3.l]
theorem rCount_can {s s' : List UInt8} {n : Int} (h : rCount s = some (n, s')) : rNum s = some (n, s') := by
  unfold rCount at h
  split at h
  · rename_i h1
    split at h
    · cases h; exact h1
    · cases h
  · cases h
theorem rH_can (ns : List Nod) : ∀ (m : Nat) (acc : List Hos) (s s' : List UInt8) (c : Con), rH ns m acc s = some (c, s') → ∃ l, c.ns = ns ∧ c.hs = acc ++ l ∧ l.length = m ∧ s = pl (hosL l) ++ (pl [c.half, c.age] ++ s')
  | 0, acc, s, s', c, h => by
    unfold rH rFin at h
    split at h
    · cases h
    · rename_i h1
      split at h
      · cases h
      · rename_i h2
        cases h
        exact ⟨[], rfl, by simp, rfl, by rw [rNum_can h1, rNum_can h2]; simp [pl, hosL]⟩
  | m + 1, acc, s, s', c, h => by
    unfold rH at h
    split at h
    · cases h
    · rename_i x s1 h1
      obtain ⟨l, e1, e2, e3, e4⟩ := rH_can ns m _ _ _ _ h
      exact ⟨x :: l, e1, by rw [e2]; simp, by simp [e3], by rw [rHos_can h1, e4]; simp [hosL, pl_append]⟩
theorem rN_can : ∀ (m : Nat) (acc : List Nod) (s s' : List UInt8) (c : Con), rN m acc s = some (c, s') → ∃ l, c.ns = acc ++ l ∧ l.length = m ∧ s = pl (nodL l) ++ (pl [((hav c.hs).length : Int)] ++ (pl (hosL c.hs) ++ (pl [c.half, c.age] ++ s')))
  | 0, acc, s, s', c, h => by
    unfold rN rHs at h
    split at h
    · cases h
    · rename_i n s1 h1
      have hb := rCount_b h1
      obtain ⟨l, e1, e2, e3, e4⟩ := rH_can acc n.toNat [] s1 s' c h
      refine ⟨[], by simp [e1], rfl, ?_⟩
      have hl : (((hav c.hs).length : Nat) : Int) = n := by
        have : (hav c.hs).length = l.length := by rw [e2]; simp
        rw [this, e3]
        omega
      have e2 : c.hs = l := by rw [e2]; simp
      rw [rNum_can (rCount_can h1), e4, hl, e2]
      simp [pl, nodL]
  | m + 1, acc, s, s', c, h => by
    unfold rN at h
    split at h
    · cases h
    · rename_i x s1 h1
      obtain ⟨l, e1, e2, e3⟩ := rN_can m _ _ _ _ h
      exact ⟨x :: l, by rw [e1]; simp, by simp [e2], by rw [rNod_can h1, e3]; simp [nodL, pl_append]⟩
theorem rCon_can {s s' : List UInt8} {c : Con} (h : rCon s = some (c, s')) : s = pl c.il ++ s' := by
  unfold rCon at h
  split at h
  · cases h
  · rename_i n s1 h1
    have hb := rCount_b h1
    obtain ⟨l, e1, e2, e3⟩ := rN_can n.toNat [] s1 s' c h
    have e1 : c.ns = l := by rw [e1]; simp
    have hl : (((nav c.ns).length : Nat) : Int) = n := by
      have : (nav c.ns).length = l.length := by rw [e1]; simp
      rw [this, e2]
      omega
    rw [rNum_can (rCount_can h1), e3]
    simp only [Con.il, pl_append, List.append_assoc, hl, e1]
    simp [pl]
    rw [e2]
/-- WHAT IS READ IS WRITTEN THE SAME -/
theorem rCmd_can {s s' : List UInt8} {x : Cmd} (hk : 1 ≤ x.k ∧ x.k ≤ 6) (h : rCmd s = some (x, s')) : s = pl x.il ++ s' := by
  unfold rCmd at h
  split at h
  · cases h
  · rename_i k s1 h1
    have e0 := rNum_can h1
    split at h
    · rename_i h2
      split at h
      · cases h
      · rename_i h3
        cases h
        rw [e0, rCon_can h3, ← il_cons ⟨k, _, Gan.zero, 0⟩ _ rfl, h2]
        simp
    · rename_i h2
      split at h
      · rename_i h3
        split at h
        · cases h
        · rename_i h4
          cases h
          rw [e0, rGan_can h4, ← il_cons ⟨k, Con.zero, _, 0⟩ _ rfl, h3, Bool.eq_false_iff.2 h2]
          simp
      · rename_i h3
        split at h
        · rename_i h4
          have h6 : (k == 6) = false := by
            simp at h4
            rcases h4 with (rfl | rfl) | rfl <;> rfl
          split at h
          · cases h
          · rename_i h5
            cases h
            rw [e0, rNum_can h5, ← il_cons ⟨k, Con.zero, Gan.zero, _⟩ _ rfl, Bool.eq_false_iff.2 h2, Bool.eq_false_iff.2 h3, h6]
            simp [pl]
        · rename_i h4
          cases h
          have h6 : (k == 6) = true := by
            simp at h2 h3 h4 ⊢
            have hk : 1 ≤ k ∧ k ≤ 6 := hk
            omega
          rw [e0, ← il_cons ⟨k, Con.zero, Gan.zero, _⟩ _ rfl, Bool.eq_false_iff.2 h2, Bool.eq_false_iff.2 h3, h6]
          simp [pl]

/- ---------- the document's parser ---------- -/
theorem pNum_of {s s' : List UInt8} {n : Int} (h : rNum s = some (n, s')) : pNum ⟨s, false⟩ = (n, ⟨s', false⟩) := by
  unfold pNum
  rw [h]
  rfl
theorem pVec_of {s s' : List UInt8} {v : V3} (h : rVec s = some (v, s')) : pVec ⟨s, false⟩ = (v, ⟨s', false⟩) := by
  unfold rVec at h
  split at h
  · cases h
  · rename_i h1
    split at h
    · cases h
    · rename_i h2
      split at h
      · cases h
      · rename_i h3
        cases h
        simp only [pVec, pNum_of h1, pNum_of h2, pNum_of h3]
theorem pGan_of {s s' : List UInt8} {v : Gan} (h : rGan s = some (v, s')) : pGan ⟨s, false⟩ = (v, ⟨s', false⟩) := by
  unfold rGan at h
  split at h
  · cases h
  · rename_i h1
    split at h
    · cases h
    · rename_i h2
      split at h
      · cases h
      · rename_i h3
        split at h
        · cases h
        · rename_i h4
          split at h
          · cases h
          · rename_i h5
            split at h
            · cases h
            · rename_i h6
              split at h
              · cases h
              · rename_i h7
                cases h
                simp only [pGan, pNum_of h1, pNum_of h2, pNum_of h3, pVec_of h4, pNum_of h5, pNum_of h6, pNum_of h7]
theorem pNod_of {s s' : List UInt8} {v : Nod} (h : rNod s = some (v, s')) : pNod ⟨s, false⟩ = (v, ⟨s', false⟩) := by
  unfold rNod at h
  split at h
  · cases h
  · rename_i h1
    split at h
    · cases h
    · rename_i h2
      split at h
      · cases h
      · rename_i h3
        split at h
        · cases h
        · rename_i h4
          split at h
          · cases h
          · rename_i h5
            cases h
            simp only [pNod, pNum_of h1, pNum_of h2, pVec_of h3, pVec_of h4, pVec_of h5]
theorem pHos_of {s s' : List UInt8} {v : Hos} (h : rHos s = some (v, s')) : pHos ⟨s, false⟩ = (v, ⟨s', false⟩) := by
  unfold rHos at h
  split at h
  · cases h
  · rename_i h1
    split at h
    · cases h
    · rename_i h2
      split at h
      · cases h
      · rename_i h3
        split at h
        · cases h
        · rename_i h4
          cases h
          simp only [pHos, pNum_of h1, pNum_of h2, pNum_of h3, pVec_of h4]
theorem pH_of (ns : List Nod) (n : Int) : ∀ (m f i : Nat) (acc : List Hos) (s s' : List UInt8) (c : Con), m ≤ f → (i + m : Int) = n → rH ns m acc s = some (c, s') → pFin ns (pH f i n acc ⟨s, false⟩) = (c, ⟨s', false⟩)
  | 0, f, i, acc, s, s', c, hf, hi, h => by
    have hz : pH f i n acc ⟨s, false⟩ = (acc, ⟨s, false⟩) := by
      cases f with
      | zero => rfl
      | succ f =>
        unfold pH
        rw [if_neg (by simp; omega)]
    rw [hz]
    unfold rH rFin at h
    split at h
    · cases h
    · rename_i h1
      split at h
      · cases h
      · rename_i h2
        cases h
        simp only [pFin, pNum_of h1, pNum_of h2]
  | m + 1, 0, i, acc, s, s', c, hf, hi, h => by omega
  | m + 1, f + 1, i, acc, s, s', c, hf, hi, h => by
    unfold rH at h
    split at h
    · cases h
    · rename_i x s1 h1
      unfold pH
      rw [if_pos (by simp; omega), pHos_of h1]
      exact pH_of ns n m f (i + 1) _ _ _ _ (by omega) (by omega) h
theorem pN_of (n : Int) : ∀ (m f i : Nat) (acc : List Nod) (s s' : List UInt8) (c : Con), m ≤ f → (i + m : Int) = n → c.hs.length ≤ 24 → rN m acc s = some (c, s') → pRest (pN f i n acc ⟨s, false⟩) = (c, ⟨s', false⟩)
  | 0, f, i, acc, s, s', c, hf, hi, hh, h => by
    have hz : pN f i n acc ⟨s, false⟩ = (acc, ⟨s, false⟩) := by
      cases f with
      | zero => rfl
      | succ f =>
        unfold pN
        rw [if_neg (by simp; omega)]
    rw [hz]
    unfold rN rHs at h
    split at h
    · cases h
    · rename_i k s1 h1
      have hb := rCount_b h1
      obtain ⟨l, e1, e2, e3, _⟩ := rH_can acc k.toNat [] s1 s' c h
      have : c.hs.length = k.toNat := by rw [e2, ← e3]; simp
      simp only [pRest, pNum_of (rCount_can h1)]
      exact pH_of acc k k.toNat 25 0 [] s1 s' c (by omega) (by omega) h
  | m + 1, 0, i, acc, s, s', c, hf, hi, hh, h => by omega
  | m + 1, f + 1, i, acc, s, s', c, hf, hi, hh, h => by
    unfold rN at h
    split at h
    · cases h
    · rename_i x s1 h1
      unfold pN
      rw [if_pos (by simp; omega), pNod_of h1]
      exact pN_of n m f (i + 1) _ _ _ _ (by omega) (by omega) hh h
theorem pCon_of {s s' : List UInt8} {c : Con} (hn : c.ns.length ≤ 12) (hh : c.hs.length ≤ 24) (h : rCon s = some (c, s')) : pCon ⟨s, false⟩ = (c, ⟨s', false⟩) := by
  unfold rCon at h
  split at h
  · cases h
  · rename_i n s1 h1
    have hb := rCount_b h1
    obtain ⟨l, e1, e2, _⟩ := rN_can n.toNat [] s1 s' c h
    have : c.ns.length = n.toNat := by rw [e1, ← e2]; simp
    simp only [pCon, pNum_of (rCount_can h1)]
    exact pN_of n n.toNat 13 0 [] s1 s' c (by omega) (by omega) hh h
theorem pCmd_of {s s' : List UInt8} {x : Cmd} (hn : x.c.ns.length ≤ 12) (hh : x.c.hs.length ≤ 24) (h : rCmd s = some (x, s')) : pCmd ⟨s, false⟩ = (x, ⟨s', false⟩) := by
  unfold rCmd at h
  split at h
  · cases h
  · rename_i k s1 h1
    split at h
    · rename_i h2
      split at h
      · cases h
      · rename_i h3
        cases h
        simp only [pCmd, pNum_of h1, h2, pCon_of hn hh h3, if_true]
    · rename_i h2
      split at h
      · rename_i h3
        split at h
        · cases h
        · rename_i h4
          cases h
          simp only [pCmd, pNum_of h1, h2, h3, pGan_of h4, if_true, if_false, Bool.false_eq_true]
      · rename_i h3
        split at h
        · rename_i h4
          split at h
          · cases h
          · rename_i h5
            cases h
            simp only [pCmd, pNum_of h1, h2, h3, h4, pNum_of h5, if_true, if_false, Bool.false_eq_true]
        · rename_i h4
          cases h
          simp only [pCmd, pNum_of h1, h2, h3, h4, if_false, Bool.false_eq_true]
theorem told_len {x : Cmd} (T : Told x) : x.c.ns.length ≤ 12 ∧ x.c.hs.length ≤ 24 := by
  have h1 := T.ln
  have h2 := T.lh
  have l1 : (nav x.c.ns).length = x.c.ns.length := by simp
  have l2 : (hav x.c.hs).length = x.c.hs.length := by simp
  omega
theorem dec_spec {s : List UInt8} {x : Cmd} (h : dec s = some x) : rCmd s = some (x, []) ∧ chk x = 0 := by
  unfold dec at h
  split at h
  · rename_i y r h1
    split at h
    · rename_i h2
      cases h
      exact ⟨by rw [h1, h2.1], h2.2⟩
    · cases h
  · cases h
theorem dec_can {s : List UInt8} {x : Cmd} (h : dec s = some x) : pl x.il = s := by
  obtain ⟨h1, h2⟩ := dec_spec h
  have := rCmd_can (chk_told h2).k h1
  rw [List.append_nil] at this
  exact this.symm
/-- THE DOCUMENT'S PARSER GIVES THE SAME -/
theorem rdec_eq (s : List UInt8) : rdec s = dec s := by
  unfold rdec
  dsimp only
  split
  · rename_i h
    obtain ⟨h1, h2, h3, h4⟩ := h
    have := rCmd_put (chk_told h3)
    rw [h4] at this
    unfold dec
    rw [this]
    exact (if_pos ⟨rfl, h3⟩).symm
  · rename_i h
    cases hd : dec s with
    | none => rfl
    | some x =>
      obtain ⟨h1, h2⟩ := dec_spec hd
      have hl := told_len (chk_told h2)
      have hp := pCmd_of hl.1 hl.2 h1
      refine absurd ?_ h
      rw [hp]
      exact ⟨rfl, rfl, h2, dec_can hd⟩
theorem rdecX_eq (s : List UInt8) : rdecX s = decX s := by unfold rdecX decX; rw [rdec_eq]
theorem rdecE_eq (s : List UInt8) : rdecE s = decE s := by unfold rdecE decE; rw [rdec_eq] <;> rfl
theorem same_self (x : Cmd) : same x x = true := by
  have h1 : x.g.eqb x.g = true := Gan.eqb_eq.2 rfl
  have h2 : eqL Nod.eqb x.c.ns x.c.ns = true := eqL_self (fun y => Nod.eqb_eq.2 rfl) _
  have h3 : eqL Hos.eqb x.c.hs x.c.hs = true := eqL_self (fun y => Hos.eqb_eq.2 rfl) _
  simp [same, sameC, h1, h2, h3]
/-- what Encode gives is read as it was -/
theorem dec_enc {x : Cmd} (h : chk x = 0) : decX (encB x) = x ∧ decE (encB x) = 0 := by
  have e : encB x = pl x.il := if_pos h
  have hd : dec (encB x) = some x := by
    unfold dec
    rw [e, rCmd_put (chk_told h)]
    exact if_pos ⟨rfl, h⟩
  unfold decX decE
  rw [hd]
  exact ⟨rfl, rfl⟩
theorem enc_dec {s : List UInt8} (h : decE s = 0) : encB (decX s) = s ∧ chk (decX s) = 0 := by
  unfold decE at h
  split at h
  · rename_i x hd
    have e : decX s = x := by unfold decX; rw [hd]; rfl
    obtain ⟨_, h2⟩ := dec_spec hd
    rw [e]
    exact ⟨by unfold encB; rw [if_pos h2]; exact dec_can hd, h2⟩
  · cases h
theorem dec_kind {s : List UInt8} (h : ¬ decE s = 0) : (decX s).k = 0 := by
  unfold decE at h
  split at h
  · exact absurd rfl h
  · rename_i hd
    unfold decX
    rw [hd]
    rfl
end Go.Proofs.Ytmodiilfjfmdcaa

namespace Go.Proofs.Ytmodiilfjfmdcaa
open Go Go.AW Go.Proofs
set_option maxRecDepth 10000

theorem checks_ok (x : Cmd) : CallOK Try.prog 3 [x.av] [] (.ret (.bool true)) [] := by
  refine CallOK.to (E := E) (fn := Try.f3) (g := .pure _) (by rfl) (by rfl) (by rfl) (fun _ _ => by rfl) (by decide +kernel) (by rfl) (by rfl) (by rfl) fun _ => ?_
  repeat' first
    | (refine goN hE 100 rfl ?_; conv => whnf)
    | refine .pure _ [] (few_ok x) ?_
    | refine .pure _ [] awake_ok ?_
    | refine .pure _ [] (enc_ok x) ?_
    | refine .pure _ [] (renc_ok x) ?_
    | refine .pure _ [] (check_ok x) ?_
    | refine .pure _ [] (rcheck_ok x) ?_
    | exact rfl
    | refine And.intro (fun _ => ?_) (fun h => absurd (show true = false from h) (by decide))
    | refine And.intro (fun h => absurd (show false = true from h) (by decide)) (fun _ => ?_)
    | refine And.intro (fun h => ?_) (fun h => absurd (of_decide_eq_false h) (by omega))
    | refine And.intro (fun h => absurd (of_decide_eq_true h) (by omega)) (fun h => ?_)
    | refine And.intro (fun h => ?_) (fun h => ?_)
    | refine Or.inl (And.intro (And.intro (by simp only [kmin]; omega) (by simp only [kmax]; omega)) ?_)
    | refine Exists.intro _ (And.intro rfl ?_)
    | refine And.intro (by decide) ?_
    | refine And.intro (by omega) ?_
  all_goals simp_all

theorem decodes_ok (s : List UInt8) : CallOK Try.prog 4 [.str s] [] (.ret (.bool true)) [] := by
  have h2 := rdec_ok s
  rw [rdecX_eq, rdecE_eq] at h2
  have h3 := rsame_ok (decX s) (decX s)
  rw [same_self] at h3
  refine CallOK.to (E := E) (fn := Try.f4) (g := .pure _) (by rfl) (by rfl) (by rfl) (fun _ _ => by rfl) (by decide +kernel) (by rfl) (by rfl) (by rfl) fun _ => ?_
  refine goes hE 100 ?_
  conv => whnf
  refine And.intro (fun h => ?_) (fun h => ?_)
  · repeat' first
      | (refine goN hE 100 rfl ?_; conv => whnf)
      | refine .pure _ [] awake_ok ?_
      | exact rfl
      | refine And.intro (fun _ => ?_) (fun h => absurd (show true = false from h) (by decide))
      | refine And.intro (fun h => absurd (show false = true from h) (by decide)) (fun _ => ?_)
      | refine And.intro (fun h => ?_) (fun h => absurd (of_decide_eq_false h) (by omega))
      | refine And.intro (fun h => absurd (of_decide_eq_true h) (by omega)) (fun h => ?_)
      | refine And.intro (fun h => ?_) (fun h => ?_)
      | refine Or.inl (And.intro (And.intro (by simp only [kmin]; omega) (by simp only [kmax]; omega)) ?_)
      | refine Exists.intro _ (And.intro rfl ?_)
      | refine And.intro (by decide) ?_
      | refine And.intro (by omega) ?_
  · have hl := of_decide_eq_false h
    have h1 := decode_ok s (by omega)
    repeat' first
      | (refine goN hE 100 rfl ?_; conv => whnf)
      | refine .pure _ [] awake_ok ?_
      | refine .pure _ [] h1 ?_
      | refine .pure _ [] h2 ?_
      | refine .pure _ [] h3 ?_
      | exact rfl
      | refine And.intro (fun _ => ?_) (fun h => absurd (show true = false from h) (by decide))
      | refine And.intro (fun h => absurd (show false = true from h) (by decide)) (fun _ => ?_)
      | refine And.intro (fun h => ?_) (fun h => absurd (of_decide_eq_false h) (by omega))
      | refine And.intro (fun h => absurd (of_decide_eq_true h) (by omega)) (fun h => ?_)
      | refine And.intro (fun h => ?_) (fun h => ?_)
      | refine Or.inl (And.intro (And.intro (by simp only [kmin]; omega) (by simp only [kmax]; omega)) ?_)
      | refine Exists.intro _ (And.intro rfl ?_)
      | refine And.intro (by decide) ?_
      | refine And.intro (by omega) ?_
    all_goals simp_all

theorem nodL_max : ∀ {l : List Nod}, allN l = true → (pl (nodL l)).length ≤ 110 * l.length
  | [], _ => by simp [nodL, pl]
  | x :: r, h => by
    simp only [allN, Bool.and_eq_true] at h
    have h1 := il_len x h.1
    have h2 := nodL_max h.2
    simp only [nodL, pl_append, List.length_append, List.length_cons]
    omega
theorem hosL_max : ∀ {l : List Hos}, allH l = true → (pl (hosL l)).length ≤ 60 * l.length
  | [], _ => by simp [hosL, pl]
  | x :: r, h => by
    simp only [allH, Bool.and_eq_true] at h
    have h1 := ih_len x h.1
    have h2 := hosL_max h.2
    simp only [hosL, pl_append, List.length_append, List.length_cons]
    omega
theorem encB_len (x : Cmd) : (encB x).length ≤ 1000000 := by
  unfold encB
  split
  · rename_i h
    have T := chk_told h
    have hl := told_len T
    have hc := T.cok
    simp only [Con.ok, Bool.and_eq_true] at hc
    obtain ⟨⟨h1, h2⟩, h3⟩ := hc
    have a1 := nodL_max h1
    have a2 := hosL_max h2
    have l1 : (nav x.c.ns).length = x.c.ns.length := by simp
    have l2 : (hav x.c.hs).length = x.c.hs.length := by simp
    have a3 := pn_len (n := x.k) (by have := T.k; omega)
    have a4 := pn_len (n := x.n) (by have := T.nok; omega)
    have a5 := pl_len (gan_bb T.gok)
    have a6 := pn_len (n := ((nav x.c.ns).length : Int)) (by omega)
    have a7 := pn_len (n := ((hav x.c.hs).length : Int)) (by omega)
    have a8 := pn_len (n := x.c.half) (by have := okI_b h3 x.c.half (by simp); omega)
    have a9 := pn_len (n := x.c.age) (by have := okI_b h3 x.c.age (by simp); omega)
    have b1 : (pl x.c.il).length ≤ 3000 := by
      simp only [Con.il, pl_append, pl, List.length_append, List.length_nil]
      omega
    have b2 : (pl x.g.il).length ≤ 90 := a5
    have b3 : (pl [x.n]).length ≤ 10 := by simpa [pl] using a4
    have e := il_cons x _ rfl
    rw [← e, List.length_append]
    split
    · omega
    · split
      · omega
      · split
        · simp [pl]; omega
        · omega
  · simp

theorem back_ok (x : Cmd) : CallOK Try.prog 5 [x.av] [] (.ret (.bool true)) [] := by
  have h1 := enc_ok x
  have h2 := decode_ok (encB x) (by have := encB_len x; omega)
  by_cases hc : chk x = 0
  · obtain ⟨e1, e2⟩ := dec_enc hc
    rw [e1, e2] at h2
    rw [hc] at h1
    have h3 := rsame_ok x x
    rw [same_self] at h3
    generalize encB x = B at h1 h2
    refine CallOK.to (E := E) (fn := Try.f5) (g := .pure _) (by rfl) (by rfl) (by rfl) (fun _ _ => by rfl) (by decide +kernel) (by rfl) (by rfl) (by rfl) fun _ => ?_
    repeat' first
      | (refine goN hE 100 rfl ?_; conv => whnf)
      | refine .pure _ [] (few_ok x) ?_
      | refine .pure _ [] awake_ok ?_
      | refine .pure _ [] h1 ?_
      | refine .pure _ [] h2 ?_
      | refine .pure _ [] h3 ?_
      | exact rfl
      | refine And.intro (fun _ => ?_) (fun h => absurd (show true = false from h) (by decide))
      | refine And.intro (fun h => absurd (show false = true from h) (by decide)) (fun _ => ?_)
      | refine And.intro (fun h => ?_) (fun h => absurd (of_decide_eq_false h) (by omega))
      | refine And.intro (fun h => absurd (of_decide_eq_true h) (by omega)) (fun h => ?_)
      | refine And.intro (fun h => ?_) (fun h => ?_)
      | refine Or.inl (And.intro (And.intro (by simp only [kmin]; omega) (by simp only [kmax]; omega)) ?_)
      | refine Exists.intro _ (And.intro rfl ?_)
      | refine And.intro (by decide) ?_
      | refine And.intro (by omega) ?_
  · have e : encB x = [] := if_neg hc
    rw [e] at h1
    refine CallOK.to (E := E) (fn := Try.f5) (g := .pure _) (by rfl) (by rfl) (by rfl) (fun _ _ => by rfl) (by decide +kernel) (by rfl) (by rfl) (by rfl) fun _ => ?_
    refine goes hE 100 ?_
    conv => whnf
    refine .pure _ [] (few_ok x) ?_
    refine goes hE 100 ?_
    conv => whnf
    refine And.intro (fun h => ?_) (fun h => ?_)
    · repeat' first
        | (refine goN hE 100 rfl ?_; conv => whnf)
        | refine .pure _ [] awake_ok ?_
        | exact rfl
        | refine And.intro (fun _ => ?_) (fun h => absurd (show true = false from h) (by decide))
        | refine And.intro (fun h => absurd (show false = true from h) (by decide)) (fun _ => ?_)
        | refine And.intro (fun h => ?_) (fun h => absurd (of_decide_eq_false h) (by omega))
        | refine And.intro (fun h => absurd (of_decide_eq_true h) (by omega)) (fun h => ?_)
        | refine And.intro (fun h => ?_) (fun h => ?_)
        | refine Or.inl (And.intro (And.intro (by simp only [kmin]; omega) (by simp only [kmax]; omega)) ?_)
        | refine Exists.intro _ (And.intro rfl ?_)
        | refine And.intro (by decide) ?_
        | refine And.intro (by omega) ?_
    · refine goes hE 100 ?_
      conv => whnf
      refine .pure _ [] h1 ?_
      refine goes hE 100 ?_
      conv => whnf
      refine And.intro (fun _ => ?_) (fun h => absurd (by simpa using h) hc)
      repeat' first
        | (refine goN hE 100 rfl ?_; conv => whnf)
        | refine .pure _ [] awake_ok ?_
        | exact rfl
        | refine And.intro (fun _ => ?_) (fun h => absurd (show true = false from h) (by decide))
        | refine And.intro (fun h => absurd (show false = true from h) (by decide)) (fun _ => ?_)
        | refine And.intro (fun h => ?_) (fun h => absurd (of_decide_eq_false h) (by omega))
        | refine And.intro (fun h => absurd (of_decide_eq_true h) (by omega)) (fun h => ?_)
        | refine And.intro (fun h => ?_) (fun h => ?_)
        | refine Or.inl (And.intro (And.intro (by simp only [kmin]; omega) (by simp only [kmax]; omega)) ?_)
        | refine Exists.intro _ (And.intro rfl ?_)
        | refine And.intro (by decide) ?_
        | refine And.intro (by omega) ?_

theorem only_ok (s : List UInt8) (hs : s.length ≤ 1000000000) : CallOK Try.prog 6 [.str s] [] (.ret (.bool true)) [] := by
  have h1 := decode_ok s hs
  by_cases hc : decE s = 0
  · obtain ⟨e1, e2⟩ := enc_dec hc
    have h2 := enc_ok (decX s)
    rw [e1, e2] at h2
    rw [hc] at h1
    refine CallOK.to (E := E) (fn := Try.f6) (g := .pure _) (by rfl) (by rfl) (by rfl) (fun _ _ => by rfl) (by decide +kernel) (by rfl) (by rfl) (by rfl) fun _ => ?_
    repeat' first
      | (refine goN hE 100 rfl ?_; conv => whnf)
      | refine .pure _ [] awake_ok ?_
      | refine .pure _ [] h1 ?_
      | refine .pure _ [] h2 ?_
      | exact rfl
      | refine And.intro (fun _ => ?_) (fun h => absurd (show true = false from h) (by decide))
      | refine And.intro (fun h => absurd (show false = true from h) (by decide)) (fun _ => ?_)
      | refine And.intro (fun h => ?_) (fun h => absurd (of_decide_eq_false h) (by omega))
      | refine And.intro (fun h => absurd (of_decide_eq_true h) (by omega)) (fun h => ?_)
      | refine And.intro (fun h => ?_) (fun h => ?_)
      | refine Or.inl (And.intro (And.intro (by simp only [kmin]; omega) (by simp only [kmax]; omega)) ?_)
      | refine Exists.intro _ (And.intro rfl ?_)
      | refine And.intro (by decide) ?_
      | refine And.intro (by omega) ?_
    all_goals simp_all
  · have e := dec_kind hc
    generalize decX s = x at h1 e
    obtain ⟨k, c, g, n⟩ := x
    have e : k = 0 := e
    subst e
    refine CallOK.to (E := E) (fn := Try.f6) (g := .pure _) (by rfl) (by rfl) (by rfl) (fun _ _ => by rfl) (by decide +kernel) (by rfl) (by rfl) (by rfl) fun _ => ?_
    refine goes hE 100 ?_
    conv => whnf
    refine .pure _ [] h1 ?_
    refine goes hE 100 ?_
    conv => whnf
    refine And.intro (fun _ => ?_) (fun h => absurd (by simpa using h) hc)
    repeat' first
      | (refine goN hE 100 rfl ?_; conv => whnf)
      | refine .pure _ [] awake_ok ?_
      | exact rfl
      | refine And.intro (fun _ => ?_) (fun h => absurd (show true = false from h) (by decide))
      | refine And.intro (fun h => absurd (show false = true from h) (by decide)) (fun _ => ?_)
      | refine And.intro (fun h => ?_) (fun h => absurd (of_decide_eq_false h) (by omega))
      | refine And.intro (fun h => absurd (of_decide_eq_true h) (by omega)) (fun h => ?_)
      | refine And.intro (fun h => ?_) (fun h => ?_)
      | refine Or.inl (And.intro (And.intro (by simp only [kmin]; omega) (by simp only [kmax]; omega)) ?_)
      | refine Exists.intro _ (And.intro rfl ?_)
      | refine And.intro (by decide) ?_
      | refine And.intro (by omega) ?_

theorem sames_ok (x y : Cmd) : CallOK Try.prog 7 [x.av, y.av] [] (.ret (.bool true)) [] := by
  have h3 := same_ok x x
  rw [same_self] at h3
  refine CallOK.to (E := E) (fn := Try.f7) (g := .pure _) (by rfl) (by rfl) (by rfl) (fun _ _ => by rfl) (by decide +kernel) (by rfl) (by rfl) (by rfl) fun _ => ?_
  repeat' first
    | (refine goN hE 100 rfl ?_; conv => whnf)
    | refine .pure _ [] (few_ok x) ?_
    | refine .pure _ [] (few_ok y) ?_
    | refine .pure _ [] awake_ok ?_
    | refine .pure _ [] h3 ?_
    | refine .pure _ [] (same_ok x y) ?_
    | refine .pure _ [] (rsame_ok x y) ?_
    | exact rfl
    | refine And.intro (fun _ => ?_) (fun h => absurd (show true = false from h) (by decide))
    | refine And.intro (fun h => absurd (show false = true from h) (by decide)) (fun _ => ?_)
    | refine And.intro (fun h => ?_) (fun h => absurd (of_decide_eq_false h) (by omega))
    | refine And.intro (fun h => absurd (of_decide_eq_true h) (by omega)) (fun h => ?_)
    | refine And.intro (fun h => ?_) (fun h => ?_)
    | refine Or.inl (And.intro (And.intro (by simp only [kmin]; omega) (by simp only [kmax]; omega)) ?_)
    | refine Exists.intro _ (And.intro rfl ?_)
    | refine And.intro (by decide) ?_
    | refine And.intro (by omega) ?_
  all_goals simp_all
end Go.Proofs.Ytmodiilfjfmdcaa

namespace Go.Proofs.Ytmodiilfjfmdcaa
open Go Go.AW Go.Proofs
open Go.ChangeShapes Go.WideShapes Go.ChangeAt Go.RowKit
set_option maxRecDepth 100000

theorem tyInt {n : Nat} {cs : List AVal} (h : TyC Try.prog (n + 1) 3 cs) : ∃ m : Int, cs = [ii m] := by
  unfold TyC at h
  rw [Try.underlying3] at h
  obtain ⟨m, h, _⟩ := h
  exact ⟨m, h⟩
theorem tyVec {n : Nat} {cs : List AVal} (h : TyC Try.prog (n + 2) 27 cs) : ∃ v : V3, cs = v.cs := by
  unfold TyC at h
  rw [Try.underlying27] at h
  obtain ⟨xs, hl, hx, rfl⟩ := h
  match xs, hl, hx with
  | [x, y, z], _, hx =>
    obtain ⟨a, rfl⟩ := tyInt (hx x (by simp))
    obtain ⟨b, rfl⟩ := tyInt (hx y (by simp))
    obtain ⟨c, rfl⟩ := tyInt (hx z (by simp))
    exact ⟨⟨a, b, c⟩, rfl⟩
theorem tyGang {n : Nat} {cs : List AVal} (h : TyC Try.prog (n + 3) 29 cs) : ∃ g : Gan, cs = g.cs := by
  unfold TyC at h
  rw [Try.underlying29] at h
  obtain ⟨x0, r, rfl, h0, x1, r, rfl, h1, x2, r, rfl, h2, x3, r, rfl, h3, x4, r, rfl, h4, x5, r, rfl, h5, x6, r, rfl, h6, rfl⟩ := h
  obtain ⟨a0, rfl⟩ := tyInt h0
  obtain ⟨a1, rfl⟩ := tyInt h1
  obtain ⟨a2, rfl⟩ := tyInt h2
  obtain ⟨v, rfl⟩ := tyVec h3
  obtain ⟨a4, rfl⟩ := tyInt h4
  obtain ⟨a5, rfl⟩ := tyInt h5
  obtain ⟨a6, rfl⟩ := tyInt h6
  exact ⟨⟨a0, a1, a2, v, a4, a5, a6⟩, rfl⟩
theorem tyNode {n : Nat} {cs : List AVal} (h : TyC Try.prog (n + 3) 90 cs) : ∃ x : Nod, cs = x.cs := by
  unfold TyC at h
  rw [Try.underlying90] at h
  obtain ⟨x0, r, rfl, h0, x1, r, rfl, h1, x2, r, rfl, h2, x3, r, rfl, h3, x4, r, rfl, h4, rfl⟩ := h
  obtain ⟨a0, rfl⟩ := tyInt h0
  obtain ⟨a1, rfl⟩ := tyInt h1
  obtain ⟨u, rfl⟩ := tyVec h2
  obtain ⟨v, rfl⟩ := tyVec h3
  obtain ⟨w, rfl⟩ := tyVec h4
  exact ⟨⟨a0, a1, u, v, w⟩, rfl⟩
theorem tyHost {n : Nat} {cs : List AVal} (h : TyC Try.prog (n + 3) 93 cs) : ∃ x : Hos, cs = x.cs := by
  unfold TyC at h
  rw [Try.underlying93] at h
  obtain ⟨x0, r, rfl, h0, x1, r, rfl, h1, x2, r, rfl, h2, x3, r, rfl, h3, rfl⟩ := h
  obtain ⟨a0, rfl⟩ := tyInt h0
  obtain ⟨a1, rfl⟩ := tyInt h1
  obtain ⟨a2, rfl⟩ := tyInt h2
  obtain ⟨v, rfl⟩ := tyVec h3
  exact ⟨⟨a0, a1, a2, v⟩, rfl⟩
theorem alls {α : Type} {av : α → AVal} {P : AVal → Prop} (hP : ∀ x, P x → ∃ p : α, x = av p) : ∀ (xs : List AVal), (∀ x ∈ xs, P x) → ∃ l : List α, xs = l.map av
  | [], _ => ⟨[], rfl⟩
  | x :: xs, h => by
    obtain ⟨p, rfl⟩ := hP x (h x (by simp))
    obtain ⟨l, rfl⟩ := alls hP xs fun x hx => h x (by simp [hx])
    exact ⟨p :: l, rfl⟩
theorem tyNodes {n : Nat} {cs : List AVal} (h : TyC Try.prog (n + 4) 22 cs) : ∃ l : List Nod, cs = [.slice 11 (nav l) .no] := by
  unfold TyC at h
  rw [Try.underlying22] at h
  obtain ⟨xs, rfl, _, hx⟩ := h
  have hc : Try.prog.cellsOf 90 = 11 := by kernel_rfl
  obtain ⟨l, rfl⟩ := alls (av := Nod.av) (P := fun x => TyC Try.prog (n + 3) 90 x.cells ∧ (isAggT Try.prog 90 = true → ∃ l, x = .agg l)) (fun x ⟨h1, h2⟩ => by
    obtain ⟨l, rfl⟩ := h2 (by kernel_rfl)
    obtain ⟨p, hp⟩ := tyNode (n := n) h1
    exact ⟨p, by unfold Nod.av; rw [← hp]; rfl⟩) xs hx
  exact ⟨l, by rw [hc]⟩
theorem tyHosts {n : Nat} {cs : List AVal} (h : TyC Try.prog (n + 4) 23 cs) : ∃ l : List Hos, cs = [.slice 6 (hav l) .no] := by
  unfold TyC at h
  rw [Try.underlying23] at h
  obtain ⟨xs, rfl, _, hx⟩ := h
  have hc : Try.prog.cellsOf 93 = 6 := by kernel_rfl
  obtain ⟨l, rfl⟩ := alls (av := Hos.av) (P := fun x => TyC Try.prog (n + 3) 93 x.cells ∧ (isAggT Try.prog 93 = true → ∃ l, x = .agg l)) (fun x ⟨h1, h2⟩ => by
    obtain ⟨l, rfl⟩ := h2 (by kernel_rfl)
    obtain ⟨p, hp⟩ := tyHost (n := n) h1
    exact ⟨p, by unfold Hos.av; rw [← hp]; rfl⟩) xs hx
  exact ⟨l, by rw [hc]⟩
theorem tyConf {n : Nat} {cs : List AVal} (h : TyC Try.prog (n + 5) 25 cs) : ∃ c : Con, cs = c.cs := by
  unfold TyC at h
  rw [Try.underlying25] at h
  obtain ⟨x0, r, rfl, h0, x1, r, rfl, h1, x2, r, rfl, h2, x3, r, rfl, h3, rfl⟩ := h
  obtain ⟨l, rfl⟩ := tyNodes h0
  obtain ⟨m, rfl⟩ := tyHosts h1
  obtain ⟨a, rfl⟩ := tyInt h2
  obtain ⟨b, rfl⟩ := tyInt h3
  exact ⟨⟨l, m, a, b⟩, rfl⟩
theorem tyCmd {n : Nat} {cs : List AVal} (h : TyC Try.prog (n + 6) 31 cs) : ∃ x : Cmd, cs = x.cs := by
  unfold TyC at h
  rw [Try.underlying31] at h
  obtain ⟨x0, r, rfl, h0, x1, r, rfl, h1, x2, r, rfl, h2, x3, r, rfl, h3, rfl⟩ := h
  obtain ⟨k, rfl⟩ := tyInt h0
  obtain ⟨c, rfl⟩ := tyConf h1
  obtain ⟨g, rfl⟩ := tyGang (n := n + 2) h2
  obtain ⟨m, rfl⟩ := tyInt h3
  exact ⟨⟨k, c, g, m⟩, rfl⟩
section
variable {H : Type} {enc : TypeId × Value → H} {W : World} {r : Reach} {base b0 : Nat} {spare : Nat → Bool} {held : Bool} {v : Value} {d : DataW H} {ps : List MemPlace}
theorem open_cmd (hv : Value.okWide Try.prog W r b0 31 v) (h : DataW.Trod enc Try.prog W base spare held 31 v d ps) : ∃ x : Cmd, Rep (Mw W) [] v x.av := by
  obtain ⟨cs0, hr, ht⟩ := arg_agg (n := 6) (by kernel_rfl) (by kernel_rfl) hv h
  obtain ⟨x, rfl⟩ := tyCmd (n := 0) ht
  exact ⟨x, hr⟩
theorem open_text (hv : Value.okWide Try.prog W r b0 9 v) : ∃ l : List UInt8, v = .string ⟨l.toArray⟩ ∧ Rep (Mw W) [] v (.str l) := by
  obtain ⟨l, rfl, h⟩ := okC_str (by kernel_rfl) (okV_cell (by kernel_rfl) hv)
  exact ⟨l, rfl, .str l h⟩
end
end Go.Proofs.Ytmodiilfjfmdcaa
