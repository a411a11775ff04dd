/-
  nums.Put: the walk.
-/
import Derived.Test.YtgjcojagbgdpnaaNEnv
import Derived.Test.YtgjcojagbgdpnaaNSpec
namespace Go.Proofs.Ytgjcojagbgdpnaa
open Go Go.AM Go.Proofs

theorem putN_len (n : Nat) : ∀ b, n < 2 ^ (7 * b) → (putN n).length ≤ b + 1 := by
  induction n using Nat.strongRecOn with
  | ind n ih =>
    intro b hb
    rw [putN]
    split
    · simp
    · rename_i h
      cases b with
      | zero => simp at hb; omega
      | succ b =>
        have := ih (n / 128) (by omega) b (by rw [Nat.mul_add, Nat.pow_add] at hb; omega)
        simp only [List.length_cons]
        omega

set_option maxRecDepth 10000 in
theorem put_loop (n : Nat) : ∀ (acc : List UInt8) (nl : Bool), acc.length + (putN n).length ≤ 100 → (n : Int) ≤ 9223372036854775807 →
    Goes E Try.f14 0 (.ret (.str (acc ++ putN n))) [] 2 (stk Try.f14 0) [(0, .int .i64 n), (3, .slice 1 nl (acc.map ub) (some (0, 5)))] [] 1 := by
  induction n using Nat.strongRecOn with
  | ind n ih =>
    intro acc nl hlen hn
    have e1 : (n : Int).fdiv (2 ^ Int.toNat 7) = ((n / 128 : Nat) : Int) := by
      rw [Int.fdiv_eq_ediv_of_nonneg _ (by decide)]
      simp
    have e2 := wrap_u8 n
    have hp : 1 ≤ (putN n).length := by rw [putN]; split <;> simp
    by_cases h : 127 < n
    · have e3 : ebits .or .u8 ((n % 256 : Nat) : Int) 128 = ((128 + n % 128 : Nat) : Int) := by
        have := ebits_or .u8 (n % 256) 128 (by simp only [kmax]; omega) (by decide)
        rw [or_128 ⟨n % 256, by omega⟩] at this
        simp only at this
        rw [show n % 256 % 128 = n % 128 from by omega] at this
        exact this
      have hput : putN n = UInt8.ofNat (128 + n % 128) :: putN (n / 128) := by rw [putN, if_neg (by omega)]
      refine Goes.stop hE 100 _ [.t, .wrap] (stk Try.f14 0) [0, 3] rfl rfl ?_ ?_
      · simp only [All, List.length_map, List.length_cons, List.length_nil]
        refine ⟨by decide, by decide, by omega, by simp only [maxLen]; omega, by simpa using (by omega : (127 : Int) < n), trivial⟩
      · dsimp only [pickS, getS, Nat.beq, cond_true, cond_false]
        refine Goes.cut 0 1 rfl (by omega) rfl rfl ?_
        rw [e1, e2, e3, ← ub_ofNat (by omega)]
        have := ih (n / 128) (by omega) (acc ++ [UInt8.ofNat (128 + n % 128)]) (nlApp nl [ub (UInt8.ofNat (128 + n % 128))]) (by rw [hput] at hlen; simp at hlen ⊢; omega) (by omega)
        rw [hput]
        simpa using this
    · have hput : putN n = [UInt8.ofNat n] := by rw [putN, if_pos (by omega)]
      refine Goes.ret (x := .str _) (o := [.f, .wrap, .v (.str (acc ++ [UInt8.ofNat n]))]) hE 100 _ rfl ?_ rfl (.inl rfl) ?_ rfl
      · rw [hput]
      · simp only [All, e2]
        refine ⟨?_, ?_, ?_, by simpa using (by omega : (n : Int) ≤ 127), trivial⟩
        · rw [Nat.mod_eq_of_lt (by omega)]
          simp [ub]
          omega
        · simp; omega
        · simp [maxLen]; omega

set_option maxRecDepth 10000 in
theorem put_ok (n : Int) (hn : n ≤ 9223372036854775807) : CallOK Try.prog 14 [.int .i64 n] [] 0 (.ret (.str (putN n.toNat))) [] 0 := by
  refine CallOK.cut (nt' := 2) (obs' := []) 0 0 rfl (by omega) rfl rfl ?_
  refine CallOK.of (E := E) (fn := Try.f14) rfl rfl (fun _ _ => rfl) (by kernel_rfl) rfl ?_
  refine Goes.stop hE 100 _ [] (stk Try.f14 0) [0, 3] rfl rfl trivial ?_
  have := putN_len n.toNat 9 (by omega)
  have e : max n 0 = (n.toNat : Int) := by omega
  have h := put_loop n.toNat [] true (by simpa using (by omega : (putN n.toNat).length ≤ 100)) (by omega)
  dsimp only [pickS, getS, Nat.beq, cond_true, cond_false]
  rw [e]
  exact h
end Go.Proofs.Ytgjcojagbgdpnaa
