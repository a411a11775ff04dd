/-
  NUMBERS AS BYTES: what is written, what is read. No program in sight.
-/
import Derived.Test.YtgjcojagbgdpnaaEng26
namespace Go.Proofs.Ytgjcojagbgdpnaa
open Go Go.AM

/-- the number that bytes begin with, and how many of them it takes -/
def getR : Nat → Nat → Nat → List UInt8 → Option (Nat × Nat)
  | 0, _, _, _ => none
  | _ + 1, _, _, [] => none
  | f + 1, i, acc, c :: r => if c.toNat < 128 then (if c.toNat = 0 ∧ 0 < i then none else some (acc + (c.toNat % 128) * 2 ^ (7 * i), i + 1)) else getR f (i + 1) (acc + (c.toNat % 128) * 2 ^ (7 * i)) r
def getN (l : List UInt8) : Option (Nat × Nat) := getR 9 0 0 l

def getV : Option (Nat × Nat) → AVal
  | some (n, k) => .tup [.int .i64 n, .int .i64 k, .int .i64 0]
  | none => .tup [.int .i64 0, .int .i64 0, .int .i64 10]

/-- a number's bytes -/
def putN (n : Nat) : List UInt8 := if n < 128 then [UInt8.ofNat n] else UInt8.ofNat (128 + n % 128) :: putN (n / 128)
termination_by n
decreasing_by omega

theorem getR_lt : ∀ (f i acc : Nat) (l : List UInt8) (n k : Nat), i + f = 9 → acc < 2 ^ (7 * i) → getR f i acc l = some (n, k) → n < 2 ^ 63 ∧ i < k ∧ k ≤ 9 ∧ k ≤ i + l.length
  | 0, _, _, _, _, _, _, _, h => by cases h
  | f + 1, i, acc, [], _, _, _, _, h => by cases h
  | f + 1, i, acc, c :: r, n, k, hi, ha, h => by
    have h2 : acc + (c.toNat % 128) * 2 ^ (7 * i) < 2 ^ (7 * (i + 1)) := by
      have h3 : c.toNat % 128 ≤ 127 := by omega
      have h4 : (c.toNat % 128) * 2 ^ (7 * i) ≤ 127 * 2 ^ (7 * i) := Nat.mul_le_mul_right _ h3
      have h5 : 2 ^ (7 * (i + 1)) = 128 * 2 ^ (7 * i) := by rw [Nat.mul_add, Nat.pow_add]; omega
      omega
    simp only [getR] at h
    split at h
    · split at h
      · cases h
      · cases h
        have : 2 ^ (7 * (i + 1)) ≤ 2 ^ 63 := Nat.pow_le_pow_right (by decide) (by omega)
        simp only [List.length_cons]
        omega
    · have := getR_lt f (i + 1) _ r n k (by omega) h2 h
      simp only [List.length_cons]
      omega

/-- what is read is written the same -/
theorem putN_get : ∀ (f i acc : Nat) (l : List UInt8) (n k : Nat), i + f = 9 → acc < 2 ^ (7 * i) → getR f i acc l = some (n, k) → ∃ m, n = acc + m * 2 ^ (7 * i) ∧ putN m = l.take (k - i) ∧ (0 < i → 0 < m)
  | 0, _, _, _, _, _, _, _, h => by cases h
  | f + 1, i, acc, [], _, _, _, _, h => by cases h
  | f + 1, i, acc, c :: r, n, k, hi, ha, h => by
    have h5 : 2 ^ (7 * (i + 1)) = 128 * 2 ^ (7 * i) := by rw [Nat.mul_add, Nat.pow_add]; omega
    simp only [getR] at h
    split at h
    · rename_i hc
      split at h
      · cases h
      · rename_i hz
        cases h
        refine ⟨c.toNat, by rw [Nat.mod_eq_of_lt hc], ?_, fun hi => by omega⟩
        rw [putN, if_pos hc, Nat.add_sub_cancel_left]
        simp
    · rename_i hc
      have h2 : acc + (c.toNat % 128) * 2 ^ (7 * i) < 2 ^ (7 * (i + 1)) := by
        have h3 : c.toNat % 128 ≤ 127 := by omega
        have h4 : (c.toNat % 128) * 2 ^ (7 * i) ≤ 127 * 2 ^ (7 * i) := Nat.mul_le_mul_right _ h3
        omega
      obtain ⟨m, e1, e2, e3⟩ := putN_get f (i + 1) _ r n k (by omega) h2 h
      have hm := e3 (by omega)
      have hk := (getR_lt f (i + 1) _ r n k (by omega) h2 h).2.1
      have hc2 : c.toNat < 256 := c.toNat_lt
      refine ⟨c.toNat % 128 + 128 * m, ?_, ?_, fun _ => by omega⟩
      · rw [e1, h5, Nat.add_mul]
        have : m * (128 * 2 ^ (7 * i)) = 128 * m * 2 ^ (7 * i) := by rw [Nat.mul_left_comm, Nat.mul_assoc]
        omega
      · rw [putN, if_neg (by omega), show (c.toNat % 128 + 128 * m) / 128 = m from by omega, show 128 + (c.toNat % 128 + 128 * m) % 128 = c.toNat from by omega, e2, show k - i = (k - (i + 1)) + 1 from by omega]
        simp

/-- what is written is read as it was -/
theorem getR_put : ∀ (f i acc n : Nat) (s : List UInt8), i + f = 9 → n < 2 ^ (7 * f) → (0 < i → 0 < n) → getR f i acc (putN n ++ s) = some (acc + n * 2 ^ (7 * i), i + (putN n).length)
  | 0, i, acc, n, s, _, hn, h0 => by simp at hn; omega
  | f + 1, i, acc, n, s, hi, hn, h0 => by
    have h5 : 2 ^ (7 * (f + 1)) = 128 * 2 ^ (7 * f) := by rw [Nat.mul_add, Nat.pow_add]; omega
    have h6 : 2 ^ (7 * (i + 1)) = 128 * 2 ^ (7 * i) := by rw [Nat.mul_add, Nat.pow_add]; omega
    rw [putN]
    by_cases h : n < 128
    · have e : (UInt8.ofNat n).toNat = n := by rw [UInt8.toNat_ofNat', Nat.mod_eq_of_lt (by omega)]
      rw [if_pos h]
      simp only [List.cons_append, List.nil_append, getR, e, if_pos h, Nat.mod_eq_of_lt h]
      rw [if_neg (by omega)]
      simp
    · have e : (UInt8.ofNat (128 + n % 128)).toNat = 128 + n % 128 := by rw [UInt8.toNat_ofNat', Nat.mod_eq_of_lt (by omega)]
      rw [if_neg h]
      simp only [List.cons_append, getR, e]
      rw [if_neg (by omega), getR_put f (i + 1) _ (n / 128) s (by omega) (by omega) (fun _ => by omega)]
      have e2 : (128 + n % 128) % 128 = n % 128 := by omega
      rw [e2, h6]
      have e3 : n * 2 ^ (7 * i) = (n % 128) * 2 ^ (7 * i) + n / 128 * (128 * 2 ^ (7 * i)) := by
        rw [← Nat.mul_assoc, ← Nat.add_mul]
        congr 1
        omega
      simp only [List.length_cons, Option.some.injEq, Prod.mk.injEq]
      omega

/-- three numbers -/
def getVecR (l : List UInt8) : Option (Nat × Nat × Nat × Nat) :=
  match getN l with
  | none => none
  | some (a, i) => match getN (l.drop i) with
    | none => none
    | some (b, j) => match getN (l.drop (i + j)) with
      | none => none
      | some (c, k) => some (a, b, c, i + j + k)
def getVecV : Option (Nat × Nat × Nat × Nat) → AVal
  | some (a, b, c, n) => .tup [.agg [.int .i64 a, .int .i64 b, .int .i64 c], .int .i64 n, .int .i64 0]
  | none => .tup [.agg [.int .i64 0, .int .i64 0, .int .i64 0], .int .i64 0, .int .i64 10]

theorem getN_lt {l : List UInt8} {n k : Nat} (h : getN l = some (n, k)) : n < 2 ^ 63 ∧ 0 < k ∧ k ≤ 9 ∧ k ≤ l.length := by
  have := getR_lt 9 0 0 l n k rfl (by decide) h
  omega

/-- bytes, the least first -/
def leN : List UInt8 → Nat
  | [] => 0
  | c :: r => c.toNat + 256 * leN r

theorem leN_lt : ∀ (l : List UInt8), leN l < 2 ^ (8 * l.length)
  | [] => by simp [leN]
  | c :: r => by
    have := leN_lt r
    have h := c.toNat_lt
    simp only [leN, List.length_cons, Nat.mul_add, Nat.pow_add]
    omega

theorem leN_snoc : ∀ (l : List UInt8) (c : UInt8), leN (l ++ [c]) = leN l + c.toNat * 2 ^ (8 * l.length)
  | [], c => by simp [leN]
  | d :: r, c => by
    simp only [List.cons_append, leN, leN_snoc r c, List.length_cons, Nat.mul_add, Nat.pow_add]
    have : c.toNat * (2 ^ (8 * r.length) * 2 ^ (8 * 1)) = 256 * (c.toNat * 2 ^ (8 * r.length)) := by
      rw [← Nat.mul_assoc, Nat.mul_comm]
    omega

theorem take_snoc {l : List UInt8} {i : Nat} {c : UInt8} (h : l[i]? = some c) : l.take (i + 1) = l.take i ++ [c] := by
  rw [List.take_add_one, h]
  rfl

/-- a byte, as the evaluator has it -/
def ub (c : UInt8) : AVal := .int .u8 c.toNat

theorem wrap_u8 (n : Nat) : IntKind.u8.wrap (n : Int) = ((n % 256 : Nat) : Int) := by
  simp [IntKind.wrap, IntKind.signed, IntKind.bits]

set_option maxRecDepth 8000 in
theorem or_128 : ∀ m : Fin 256, m.val ||| 128 = 128 + m.val % 128 := by decide

theorem ub_ofNat {m : Nat} (h : m < 256) : ub (UInt8.ofNat m) = .int .u8 m := by
  simp only [ub]
  rw [UInt8.toNat_ofNat', Nat.mod_eq_of_lt (by simpa using h)]
end Go.Proofs.Ytgjcojagbgdpnaa
