/-
  tithebarnref07.Get: the walk.
-/
import Derived.Test.YtgjcojagbgdpnaaNEnv
import Derived.Test.YtgjcojagbgdpnaaNSpec
namespace Go.Proofs.Ytgjcojagbgdpnaa
open Go Go.AM Go.Proofs

set_option maxRecDepth 10000 in
theorem getRef_loop (l : List UInt8) : ∀ (f i acc : Nat) (rest : List UInt8), i + f = 9 → rest = l.drop i → i ≤ l.length → acc < 2 ^ (7 * i) →
    GoesC E Try.f22 (.ret (getV (getR f i acc rest))) (stk Try.f22 0) [(0, .str l), (5, .int .i64 acc), (6, .int .i64 i)] [] 0 := by
  intro f
  induction f with
  | zero =>
    intro i acc rest hi hr hl ha
    by_cases h9 : i < l.length
    · refine GoesC.ret (x := .tup [.int .i64 0, .int .i64 0, .int .i64 10]) hE 100 _ [.t, .f] rfl rfl rfl (.inl rfl) ?_ rfl
      exact ⟨by simp; omega, by simpa using h9, trivial⟩
    · refine GoesC.ret (x := .tup [.int .i64 0, .int .i64 0, .int .i64 10]) hE 100 _ [.f, .f] rfl rfl rfl (.inl rfl) ?_ rfl
      exact ⟨rfl, by simp; omega, trivial⟩
  | succ f ih =>
    intro i acc rest hi hr hl ha
    cases rest with
    | nil =>
      have hle : l.length ≤ i := by simpa using hr.symm
      refine GoesC.ret (x := .tup [.int .i64 0, .int .i64 0, .int .i64 10]) hE 100 _ [.f, .f] rfl rfl rfl (.inl rfl) ?_ rfl
      exact ⟨rfl, by simp; omega, trivial⟩
    | cons c r =>
      have hc : l[i]? = some c := by
        have : (l.drop i)[0]? = some c := by rw [← hr]; rfl
        simpa using this
      have hil : i < l.length := (List.getElem?_eq_some_iff.1 hc).1
      have hr' : r = l.drop (i + 1) := by rw [← List.drop_drop, ← hr]; rfl
      have h5 : 2 ^ (7 * (i + 1)) = 128 * 2 ^ (7 * i) := by rw [Nat.mul_add, Nat.pow_add]; omega
      have h3 : c.toNat % 128 ≤ 127 := by omega
      have h4 : (c.toNat % 128) * 2 ^ (7 * i) ≤ 127 * 2 ^ (7 * i) := Nat.mul_le_mul_right _ h3
      have h6 : 2 ^ (7 * (i + 1)) ≤ 2 ^ 63 := Nat.pow_le_pow_right (by decide) (by omega)
      have hc2 : c.toNat < 256 := c.toNat_lt
      have e1 : Int.tmod (c.toNat : Int) 128 = ((c.toNat % 128 : Nat) : Int) := by
        rw [Int.tmod_eq_emod_of_nonneg (by omega)]
        omega
      have e2 : (7 * (i : Int)).toNat = 7 * i := by omega
      have e3 : ((c.toNat % 128 : Nat) : Int) * 2 ^ (7 * i) = ((c.toNat % 128 * 2 ^ (7 * i) : Nat) : Int) := by simp
      have e4 : (acc : Int) + ((c.toNat % 128 * 2 ^ (7 * i) : Nat) : Int) = ((acc + c.toNat % 128 * 2 ^ (7 * i) : Nat) : Int) := by omega
      have e5 : (i : Int).toNat = i := by simp
      have hx : Option.map (fun (x : UInt8) => (x.toNat : Int)) l[i]? = some (c.toNat : Int) := by rw [hc]; rfl
      have conds : inR .i64 ((acc + c.toNat % 128 * 2 ^ (7 * i) : Nat) : Int) ∧ inR .i64 ((c.toNat % 128 * 2 ^ (7 * i) : Nat) : Int) ∧ 7 * i ≤ IntKind.i64.bits ∧ 0 ≤ 7 * (i : Int) ∧ inR .u64 (7 * (i : Int)) ∧ inR .i64 (7 * (i : Int)) ∧ inR .i64 ((c.toNat % 128 : Nat) : Int) ∧ (128 : Int) ≠ 0 ∧
          Option.map (fun (x : UInt8) => (x.toNat : Int)) l[i]? = some (c.toNat : Int) ∧ (0 : Int) ≤ i ∧ decide ((i : Int) < 9) = true ∧ decide ((i : Int) < l.length) = true ∧ True := by
        refine ⟨inR_nat (by simp only [kmax]; omega), inR_nat (by simp only [kmax]; omega), by simp only [IntKind.bits]; omega, by omega, ⟨by simp only [kmin]; omega, by simp only [kmax]; omega⟩, ⟨by simp only [kmin]; omega, by simp only [kmax]; omega⟩, inR_nat (by simp only [kmax]; omega), by decide, hx, by omega, by simp; omega, by simp; omega, trivial⟩
      by_cases hlt : c.toNat < 128
      · have h128 : decide ((128 : Int) ≤ c.toNat) = false := by simp; omega
        by_cases hz : c.toNat = 0
        · by_cases hi0 : 0 < i
          · refine GoesC.ret (x := .tup [.int .i64 0, .int .i64 0, .int .i64 10]) hE 100 _ [.t, .t, .v (.int .u8 c.toNat), .v (.int .u8 c.toNat), .f, .v (.int .u8 c.toNat), .t, .t] rfl ?_ rfl (.inl rfl) ?_ rfl
            · simp [getR, getV, hz, hi0]
            · simp only [All, e1, e2, e3, e4, e5]
              exact ⟨by simpa using hi0, by simpa using hz, hx, by omega, h128, hx, by omega, conds⟩
          · refine GoesC.ret (x := .tup [.int .i64 _, .int .i64 _, .int .i64 0]) hE 100 _ [.t, .t, .v (.int .u8 c.toNat), .v (.int .u8 c.toNat), .f, .v (.int .u8 c.toNat), .t, .f] rfl ?_ rfl (.inl rfl) ?_ rfl
            · simp only [e1, e2, e3, e4]
              simp [getR, getV, hlt, hi0]
            · simp only [All, e1, e2, e3, e4, e5]
              exact ⟨⟨by simp only [kmin]; omega, by simp only [kmax]; omega⟩, by simpa using hi0, by simpa using hz, hx, by omega, h128, hx, by omega, conds⟩
        · refine GoesC.ret (x := .tup [.int .i64 _, .int .i64 _, .int .i64 0]) hE 100 _ [.t, .t, .v (.int .u8 c.toNat), .v (.int .u8 c.toNat), .f, .v (.int .u8 c.toNat), .f, .f] rfl ?_ rfl (.inl rfl) ?_ rfl
          · simp only [e1, e2, e3, e4]
            simp [getR, getV, hlt, hz]
          · simp only [All, e1, e2, e3, e4, e5]
            exact ⟨⟨by simp only [kmin]; omega, by simp only [kmax]; omega⟩, trivial, by simpa using hz, hx, by omega, h128, hx, by omega, conds⟩
      · refine GoesC.stop hE 100 _ [.t, .t, .v (.int .u8 c.toNat), .v (.int .u8 c.toNat), .t] (stk Try.f22 0) [0, 5, 6] rfl rfl ?_ ?_
        · simp only [All, e1, e2, e3, e4, e5]
          exact ⟨⟨by simp only [kmin]; omega, by simp only [kmax]; omega⟩, by simpa using (by omega : (128 : Int) ≤ c.toNat), hx, by omega, conds⟩
        · rw [getR, if_neg hlt]
          have := ih (i + 1) (acc + (c.toNat % 128) * 2 ^ (7 * i)) r (by omega) hr' (by omega) (by omega)
          dsimp only [pickS, getS, Nat.beq, cond_true, cond_false]
          rw [e1, e2, e3, e4]
          exact this

set_option maxRecDepth 10000 in
theorem getRef_ok (l : List UInt8) : CallOK Try.prog 22 [.str l] [] 0 (.ret (getV (getN l))) [] 0 := by
  refine CallOK.ofC (E := E) (fn := Try.f22) rfl rfl (fun _ _ => rfl) (by kernel_rfl) rfl (by cases getN l <;> rfl) ?_
  refine GoesC.stop hE 100 _ [] (stk Try.f22 0) [0, 5, 6] rfl rfl trivial ?_
  exact getRef_loop l 9 0 0 l rfl rfl (Nat.zero_le _) (by decide)
end Go.Proofs.Ytgjcojagbgdpnaa
