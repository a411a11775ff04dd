/-
  NumsBack: the walk.
-/
import Derived.Test.YtgjcojagbgdpnaaNAwake
import Derived.Test.YtgjcojagbgdpnaaNGetFix
namespace Go.Proofs.Ytgjcojagbgdpnaa
open Go Go.AM Go.Proofs

theorem leN_fix (x : Nat) (hx : x < 2 ^ 64) : leN (fixL x) = x := by
  have e : ∀ y, y < 256 → (UInt8.ofNat y).toNat = y := fun y h => by rw [UInt8.toNat_ofNat', Nat.mod_eq_of_lt (by omega)]
  simp only [fixL, leN]
  rw [e _ (by omega), e _ (by omega), e _ (by omega), e _ (by omega), e _ (by omega), e _ (by omega), e _ (by omega), e _ (by omega)]
  omega

set_option maxRecDepth 10000 in
theorem back_ok (n : Int) (x : Nat) (s : List UInt8) (hn : n ≤ 9223372036854775807) (hx : x < 2 ^ 64) :
    CallOK Try.prog 5 [.int .i64 n, .int .u64 x, .str s] [] 0 (.ret (.bool true)) [] 0 := by
  refine CallOK.ofC (E := E) (fn := Try.f5) rfl rfl (fun _ _ => rfl) (by kernel_rfl) rfl rfl ?_
  by_cases h1 : n < 0
  · refine GoesC.ret (x := .bool true) (o := [.t, .t, .call (.bool true)]) hE 100 _ rfl rfl rfl (.inl rfl) ?_ rfl
    exact ⟨awake_ok, rfl, by simpa using h1, trivial⟩
  · by_cases h2 : 10000 < s.length
    · refine GoesC.ret (x := .bool true) (o := [.f, .t, .call (.bool true)]) hE 100 _ rfl rfl rfl (.inl rfl) ?_ rfl
      exact ⟨awake_ok, by simpa using (by omega : (10000 : Int) < s.length), by simpa using h1, trivial⟩
    · obtain ⟨m, rfl⟩ : ∃ m : Nat, n = m := ⟨n.toNat, by omega⟩
      have hlen := putN_len m 9 (by omega)
      have hg := get_ok (putN m ++ s)
      have hr : getN (putN m ++ s) = some (m, (putN m).length) := by
        have := getR_put 9 0 0 m s rfl (by omega) (fun h => by omega)
        simpa [getN] using this
      rw [hr] at hg
      have hf := getFix_ok (fixL x ++ s)
      have hf2 : getFixV (fixL x ++ s) = .tup [.int .u64 x, .int .i64 8, .int .i64 0] := by
        unfold getFixV
        rw [if_neg (by simp [fixL])]
        have : (fixL x ++ s).take 8 = fixL x := by simp [fixL]
        rw [this, leN_fix x hx]
      rw [hf2] at hf
      refine GoesC.ret (x := .bool true) (o := [.f, .f, .call (.str (putN m)), .call (.tup [.int .i64 m, .int .i64 (putN m).length, .int .i64 0]), .call (.str (fixL x)), .call (.tup [.int .u64 x, .int .i64 8, .int .i64 0]), .t, .t, .t, .t, .t, .t, .call (.bool true)]) hE 100 _ rfl rfl rfl (.inl rfl) ?_ rfl
      have hlf : (fixL x).length = 8 := rfl
      exact ⟨awake_ok, rfl, rfl, by simp, rfl, by simp, by simp, hf, by omega, putFix_ok x, hg, by omega, put_ok m hn, by simp; omega, by simp, trivial⟩
end Go.Proofs.Ytgjcojagbgdpnaa
