/-
  THE ENGINE, 26: bits of numbers that are not negative.
-/
import Derived.Test.YtgjcojagbgdpnaaEng25
namespace Go.AM
open Go.RowKit

theorem kmax_pow (k : IntKind) : ∃ p, kmax k + 1 = 2 ^ p ∧ p ≤ k.bits := by
  cases k
  · exact ⟨7, by decide, by decide⟩
  · exact ⟨15, by decide, by decide⟩
  · exact ⟨31, by decide, by decide⟩
  · exact ⟨63, by decide, by decide⟩
  · exact ⟨8, by decide, by decide⟩
  · exact ⟨16, by decide, by decide⟩
  · exact ⟨32, by decide, by decide⟩
  · exact ⟨64, by decide, by decide⟩

theorem kmin_le (k : IntKind) : kmin k ≤ 0 := by cases k <;> decide

theorem inR_nat {k : IntKind} {a : Nat} (h : (a : Int) ≤ kmax k) : inR k a := ⟨Int.le_trans (kmin_le k) (Int.natCast_nonneg a), h⟩

theorem ofInt_nat (n a : Nat) (h : a < 2 ^ n) : (BitVec.ofInt n (a : Int)).toNat = a := by
  rw [BitVec.ofInt_natCast, BitVec.toNat_ofNat, Nat.mod_eq_of_lt h]

theorem lt_pow {k : IntKind} {a p : Nat} (hp : kmax k + 1 = 2 ^ p) (h : (a : Int) ≤ kmax k) : a < 2 ^ p := by
  have h1 : (a : Int) < 2 ^ p := by omega
  have : ((2 ^ p : Nat) : Int) = 2 ^ p := by simp
  omega
theorem le_max {k : IntKind} {a p : Nat} (hp : kmax k + 1 = 2 ^ p) (h : a < 2 ^ p) : (a : Int) ≤ kmax k := by
  have : ((2 ^ p : Nat) : Int) = 2 ^ p := by simp
  omega

theorem ebits_or (k : IntKind) (a b : Nat) (ha : (a : Int) ≤ kmax k) (hb : (b : Int) ≤ kmax k) : ebits .or k a b = ((a ||| b : Nat) : Int) := by
  obtain ⟨p, hp, hpk⟩ := kmax_pow k
  have h1 := lt_pow hp ha
  have h2 := lt_pow hp hb
  have hle : 2 ^ p ≤ 2 ^ k.bits := Nat.pow_le_pow_right (by decide) hpk
  simp only [ebits, BitVec.toNat_or, ofInt_nat k.bits a (by omega), ofInt_nat k.bits b (by omega)]
  exact wrap_inR (inR_nat (le_max hp (Nat.or_lt_two_pow h1 h2)))

theorem ebits_and (k : IntKind) (a b : Nat) (ha : (a : Int) ≤ kmax k) (hb : (b : Int) ≤ kmax k) : ebits .and k a b = ((a &&& b : Nat) : Int) := by
  obtain ⟨p, hp, hpk⟩ := kmax_pow k
  have h1 := lt_pow hp ha
  have h2 := lt_pow hp hb
  have hle : 2 ^ p ≤ 2 ^ k.bits := Nat.pow_le_pow_right (by decide) hpk
  simp only [ebits, BitVec.toNat_and, ofInt_nat k.bits a (by omega), ofInt_nat k.bits b (by omega)]
  exact wrap_inR (inR_nat (le_max hp (Nat.and_lt_two_pow _ h2)))

theorem or_add {a b i : Nat} (h : a < 2 ^ i) : a ||| (b * 2 ^ i) = a + b * 2 ^ i := by
  have := Nat.two_pow_add_eq_or_of_lt h b
  rw [Nat.or_comm, Nat.mul_comm b, ← this, Nat.add_comm]

theorem and_mod (a p : Nat) : a &&& (2 ^ p - 1) = a % 2 ^ p := Nat.and_two_pow_sub_one_eq_mod a p
end Go.AM
