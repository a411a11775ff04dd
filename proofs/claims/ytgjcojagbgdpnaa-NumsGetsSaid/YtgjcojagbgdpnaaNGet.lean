/-
  nums.Get: the walk.
-/
import Derived.Test.YtgjcojagbgdpnaaNEnv
import Derived.Test.YtgjcojagbgdpnaaNSpec
namespace Go.Proofs.Ytgjcojagbgdpnaa
open Go Go.AM Go.Proofs

set_option maxRecDepth 10000 in
theorem get_loop (l : List UInt8) : ∀ (f i acc : Nat) (rest : List UInt8), i + f = 9 → rest = l.drop i → i ≤ l.length → acc < 2 ^ (7 * i) →
    Goes E Try.f12 0 (.ret (getV (getR f i acc rest))) [] 0 (stk Try.f12 0) [(0, .str l), (5, .int .i64 acc), (10, .int .i64 (min (l.length : Int) 9)), (11, .int .i64 i)] [] 0 := by
  intro f
  induction f with
  | zero =>
    intro i acc rest hi hr hl ha
    refine Goes.ret hE 100 _ [.f] rfl rfl rfl (.inl rfl) ?_ rfl
    simp only [All]
    exact ⟨by simp; omega, trivial⟩
  | succ f ih =>
    intro i acc rest hi hr hl ha
    cases rest with
    | nil =>
      have hle : l.length ≤ i := by simpa using hr.symm
      refine Goes.ret hE 100 _ [.f] rfl rfl rfl (.inl rfl) ?_ rfl
      simp only [All]
      exact ⟨by simp; omega, trivial⟩
    | cons c r =>
      have hc : l[i]? = some c := by
        have : (l.drop i)[0]? = some c := by rw [← hr]; rfl
        simpa using this
      have hil : i < l.length := (List.getElem?_eq_some_iff.1 hc).1
      have hr' : r = l.drop (i + 1) := by rw [← List.drop_drop, ← hr]; rfl
      have h5 : 2 ^ (7 * (i + 1)) = 128 * 2 ^ (7 * i) := by rw [Nat.mul_add, Nat.pow_add]; omega
      have h3 : c.toNat % 128 ≤ 127 := by omega
      have h4 : (c.toNat % 128) * 2 ^ (7 * i) ≤ 127 * 2 ^ (7 * i) := Nat.mul_le_mul_right _ h3
      have h6 : 2 ^ (7 * (i + 1)) ≤ 2 ^ 63 := Nat.pow_le_pow_right (by decide) (by omega)
      have hc2 : c.toNat < 256 := c.toNat_lt
      have e1 : ebits .and .u8 (c.toNat : Int) 127 = ((c.toNat % 128 : Nat) : Int) := by
        have := ebits_and .u8 c.toNat 127 (by simp only [kmax]; omega) (by decide)
        rw [show (127 : Nat) = 2 ^ 7 - 1 from rfl, and_mod] at this
        exact this
      have e2 : (7 * (i : Int)).toNat = 7 * i := by omega
      have e3 : ((c.toNat % 128 : Nat) : Int) * 2 ^ (7 * i) = ((c.toNat % 128 * 2 ^ (7 * i) : Nat) : Int) := by simp
      have e4 : ebits .or .i64 (acc : Int) ((c.toNat % 128 * 2 ^ (7 * i) : Nat) : Int) = ((acc + c.toNat % 128 * 2 ^ (7 * i) : Nat) : Int) := by
        rw [ebits_or .i64 _ _ (by simp only [kmax]; omega) (by simp only [kmax]; omega), or_add ha]
      have conds : inR .i64 (((c.toNat % 128 : Nat) : Int) * 2 ^ (7 * i)) ∧ 7 * i ≤ IntKind.i64.bits ∧ 0 ≤ 7 * (i : Int) ∧ inR .i64 (7 * (i : Int)) ∧ inR .i64 ((c.toNat % 128 : Nat) : Int) ∧
          Option.map (fun (x : UInt8) => (x.toNat : Int)) l[i]? = some (c.toNat : Int) ∧ (0 : Int) ≤ i ∧ decide ((i : Int) < min (l.length : Int) 9) = true ∧ True := by
        rw [e3]
        refine ⟨inR_nat (by simp only [kmax]; omega), by simp only [IntKind.bits]; omega, by omega, ⟨by simp only [kmin]; omega, by simp only [kmax]; omega⟩, inR_nat (by simp only [kmax]; omega), by rw [hc]; rfl, by omega, by simp; omega, trivial⟩
      have e5 : (i : Int).toNat = i := by simp
      by_cases hlt : c.toNat < 128
      · by_cases hz : c.toNat = 0
        · by_cases hi0 : 0 < i
          · refine Goes.ret (x := .tup [.int .i64 0, .int .i64 0, .int .i64 10]) hE 100 _ [.t, .v (.int .u8 c.toNat), .t, .t, .t] rfl ?_ rfl (.inl rfl) ?_ rfl
            · simp [getR, getV, hz, hi0]
            · simp only [All, e1, e2, e5]
              exact ⟨by simpa using hi0, by simpa using hz, by simpa using (by omega : (c.toNat : Int) < 128), conds⟩
          · refine Goes.ret (x := .tup [.int .i64 _, .int .i64 _, .int .i64 0]) hE 100 _ [.t, .v (.int .u8 c.toNat), .t, .t, .f] rfl ?_ rfl (.inl rfl) ?_ rfl
            · simp only [e1, e2, e3, e4]
              simp [getR, getV, hlt, hi0]
            · simp only [All, e1, e2, e5]
              exact ⟨⟨by simp only [kmin]; omega, by simp only [kmax]; omega⟩, by simpa using hi0, by simpa using hz, by simpa using (by omega : (c.toNat : Int) < 128), conds⟩
        · refine Goes.ret (x := .tup [.int .i64 _, .int .i64 _, .int .i64 0]) hE 100 _ [.t, .v (.int .u8 c.toNat), .t, .f, .f] rfl ?_ rfl (.inl rfl) ?_ rfl
          · simp only [e1, e2, e3, e4]
            simp [getR, getV, hlt, hz]
          · simp only [All, e1, e2, e5]
            exact ⟨⟨by simp only [kmin]; omega, by simp only [kmax]; omega⟩, trivial, by simpa using hz, by simpa using (by omega : (c.toNat : Int) < 128), conds⟩
      · refine Goes.stop hE 100 _ [.t, .v (.int .u8 c.toNat), .f] (stk Try.f12 0) [0, 5, 10, 11] rfl rfl ?_ ?_
        · simp only [All, e1, e2, e5]
          exact ⟨⟨by simp only [kmin]; omega, by simp only [kmax]; omega⟩, by simpa using (by omega : 128 ≤ (c.toNat : Int)), conds⟩
        · rw [getR, if_neg hlt]
          have := ih (i + 1) (acc + (c.toNat % 128) * 2 ^ (7 * i)) r (by omega) hr' (by omega) (by omega)
          dsimp only [pickS, getS, Nat.beq, cond_true, cond_false]
          rw [e1, e2, e3, e4]
          exact this

set_option maxRecDepth 10000 in
theorem get_ok (l : List UInt8) : CallOK Try.prog 12 [.str l] [] 0 (.ret (getV (getN l))) [] 0 := by
  refine CallOK.of (E := E) (fn := Try.f12) rfl rfl (fun _ _ => rfl) (by kernel_rfl) rfl ?_
  refine Goes.stop hE 100 _ [] (stk Try.f12 0) [0, 5, 10, 11] rfl rfl trivial ?_
  exact get_loop l 9 0 0 l rfl rfl (Nat.zero_le _) (by decide)
end Go.Proofs.Ytgjcojagbgdpnaa
