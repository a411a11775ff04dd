/-
  nums.GetFix: the walk.
-/
import Derived.Test.YtgjcojagbgdpnaaNEnv
import Derived.Test.YtgjcojagbgdpnaaNSpec
namespace Go.Proofs.Ytgjcojagbgdpnaa
open Go Go.AM Go.Proofs

def getFixV (l : List UInt8) : AVal := if l.length < 8 then .tup [.int .u64 0, .int .i64 0, .int .i64 10] else .tup [.int .u64 (leN (l.take 8)), .int .i64 8, .int .i64 0]

set_option maxRecDepth 10000 in
theorem getFix_loop (l : List UInt8) (hl : 8 ≤ l.length) : ∀ (f i : Nat), i + f = 8 →
    GoesC E Try.f20 (.ret (.tup [.int .u64 (leN (l.take 8)), .int .i64 8, .int .i64 0])) (stk Try.f20 0) [(0, .str l), (5, .int .u64 (leN (l.take i))), (10, .int .i64 i)] [] 0 := by
  intro f
  induction f with
  | zero =>
    intro i hi
    have e : i = 8 := by omega
    subst e
    refine GoesC.ret (x := .tup [.int .u64 _, .int .i64 8, .int .i64 0]) hE 100 _ [.f] rfl rfl rfl (.inl rfl) ⟨by decide, trivial⟩ rfl
  | succ f ih =>
    intro i hi
    obtain ⟨c, hc⟩ : ∃ c, l[i]? = some c := ⟨l[i]'(by omega), List.getElem?_eq_getElem (by omega)⟩
    have hc2 : c.toNat < 256 := c.toNat_lt
    have hacc := leN_lt (l.take i)
    rw [List.length_take, Nat.min_eq_left (by omega)] at hacc
    have h5 : 2 ^ (8 * (i + 1)) = 256 * 2 ^ (8 * i) := by rw [Nat.mul_add, Nat.pow_add]; omega
    have h4 : c.toNat * 2 ^ (8 * i) ≤ 255 * 2 ^ (8 * i) := Nat.mul_le_mul_right _ (by omega)
    have h6 : 2 ^ (8 * (i + 1)) ≤ 2 ^ 64 := Nat.pow_le_pow_right (by decide) (by omega)
    have e2 : (8 * (i : Int)).toNat = 8 * i := by omega
    have e3 : (c.toNat : Int) * 2 ^ (8 * i) = ((c.toNat * 2 ^ (8 * i) : Nat) : Int) := by simp
    have e4 : ebits .or .u64 (leN (l.take i) : Int) ((c.toNat * 2 ^ (8 * i) : Nat) : Int) = ((leN (l.take (i + 1)) : Nat) : Int) := by
      rw [ebits_or .u64 _ _ (by simp only [kmax]; omega) (by simp only [kmax]; omega), or_add hacc, take_snoc hc, leN_snoc, List.length_take, Nat.min_eq_left (by omega)]
    refine GoesC.stop hE 100 _ [.t, .v (.int .u8 c.toNat)] (stk Try.f20 0) [0, 5, 10] rfl rfl ?_ ?_
    · simp only [All, e2, e3, Int.toNat_natCast]
      refine ⟨⟨by simp only [kmin]; omega, by simp only [kmax]; omega⟩, inR_nat (by simp only [kmax]; omega), by simp only [IntKind.bits]; omega, by omega, ⟨by simp only [kmin]; omega, by simp only [kmax]; omega⟩, inR_nat (by simp only [kmax]; omega), by rw [hc]; rfl, by omega, by simp; omega, trivial⟩
    · dsimp only [pickS, getS, Nat.beq, cond_true, cond_false]
      rw [e2, e3, e4]
      exact ih (i + 1) (by omega)

set_option maxRecDepth 10000 in
theorem getFix_ok (l : List UInt8) : CallOK Try.prog 20 [.str l] [] 0 (.ret (getFixV l)) [] 0 := by
  unfold getFixV
  split
  · rename_i h
    refine CallOK.ofC (E := E) (fn := Try.f20) rfl rfl (fun _ _ => rfl) (by kernel_rfl) rfl rfl ?_
    refine GoesC.ret (x := .tup [.int .u64 0, .int .i64 0, .int .i64 10]) hE 100 _ [.t] rfl rfl rfl (.inl rfl) ?_ rfl
    exact ⟨by simpa using (by omega : (l.length : Int) < 8), trivial⟩
  · rename_i h
    refine CallOK.ofC (E := E) (fn := Try.f20) rfl rfl (fun _ _ => rfl) (by kernel_rfl) rfl rfl ?_
    refine GoesC.stop hE 100 _ [.f] (stk Try.f20 0) [0, 5, 10] rfl rfl ?_ ?_
    · exact ⟨by simpa using (by omega : (8 : Int) ≤ l.length), trivial⟩
    · exact getFix_loop l (by omega) 8 0 rfl
end Go.Proofs.Ytgjcojagbgdpnaa
