/-
  awake: chapter 7's examples; NumsOnly.
-/
import Derived.Test.YtgjcojagbgdpnaaNGet
import Derived.Test.YtgjcojagbgdpnaaNPut
import Derived.Test.YtgjcojagbgdpnaaNFix
namespace Go.Proofs.Ytgjcojagbgdpnaa
open Go Go.AM Go.Proofs

theorem put300 : putN 300 = [172, 2] := by
  rw [putN, if_neg (by decide), show 300 / 128 = 2 from rfl, putN, if_pos (by decide)]
  rfl

set_option maxRecDepth 10000 in
theorem awake_ok : CallOK Try.prog 13 [] [] 0 (.ret (.bool true)) [] 0 := by
  refine CallOK.ofC (E := E) (fn := Try.f13) rfl rfl (fun _ _ => rfl) (by kernel_rfl) rfl rfl ?_
  refine GoesC.ret (x := .bool true) (o := [.call (.tup [.int .i64 0, .int .i64 0, .int .i64 10]), .call (.tup [.int .i64 300, .int .i64 2, .int .i64 0]), .call (.str [172, 2]), .t, .t, .t, .t, .t, .call (.str [1, 0, 0, 0, 0, 0, 0, 0])]) hE 100 _ rfl rfl rfl (.inl rfl) ?_ rfl
  have h1 := get_ok [128, 0]
  have h2 := get_ok [172, 2, 120]
  have h3 := put_ok 300 (by decide)
  have h4 := putFix_ok 1
  rw [show (300 : Int).toNat = 300 from rfl, put300] at h3
  exact ⟨h4, rfl, rfl, rfl, rfl, rfl, h3, h2, h1, trivial⟩
end Go.Proofs.Ytgjcojagbgdpnaa
