/-
  NumsOnly: the walk.
-/
import Derived.Test.YtgjcojagbgdpnaaNAwake
namespace Go.Proofs.Ytgjcojagbgdpnaa
open Go Go.AM Go.Proofs

set_option maxRecDepth 10000 in
theorem only_ok (s : List UInt8) : CallOK Try.prog 3 [.str s] [] 0 (.ret (.bool true)) [] 0 := by
  refine CallOK.ofC (E := E) (fn := Try.f3) rfl rfl (fun _ _ => rfl) (by kernel_rfl) rfl rfl ?_
  have h1 := get_ok s
  cases hg : getN s with
  | none =>
    rw [hg] at h1
    refine GoesC.ret (x := .bool true) (o := [.call (.tup [.int .i64 0, .int .i64 0, .int .i64 10]), .t, .t, .t, .call (.bool true)]) hE 100 _ rfl rfl rfl (.inl rfl) ?_ rfl
    exact ⟨awake_ok, rfl, rfl, rfl, h1, trivial⟩
  | some p =>
    obtain ⟨n, k⟩ := p
    rw [hg] at h1
    refine GoesC.ret (x := .bool true) (o := [.call (.tup [.int .i64 n, .int .i64 k, .int .i64 0]), .f, .t, .t, .t, .call (.str (putN n)), .t, .call (.bool true)]) hE 100 _ rfl rfl rfl (.inl rfl) ?_ rfl
    obtain ⟨c1, c2, c3, c4⟩ := getR_lt 9 0 0 s n k rfl (by decide) hg
    obtain ⟨m, e1, e2, _⟩ := putN_get 9 0 0 s n k rfl (by decide) hg
    have hput := put_ok n (by omega)
    have em : m = n := by omega
    rw [em, Nat.sub_zero] at e2
    have h3 : (putN n == List.take (k : Int).toNat s) = true := by rw [e2]; simp
    exact ⟨awake_ok, h3, by omega, by omega, hput, by simp; omega, by simp; omega, by simp; omega, rfl, h1, trivial⟩
end Go.Proofs.Ytgjcojagbgdpnaa
