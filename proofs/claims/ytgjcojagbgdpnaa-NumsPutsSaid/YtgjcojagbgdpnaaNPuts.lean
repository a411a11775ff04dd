/-
  NumsPuts: the walk.
-/
import Derived.Test.YtgjcojagbgdpnaaNAwake
import Derived.Test.YtgjcojagbgdpnaaNPutRef
import Derived.Test.YtgjcojagbgdpnaaNFixRef
namespace Go.Proofs.Ytgjcojagbgdpnaa
open Go Go.AM Go.Proofs

set_option maxRecDepth 10000 in
theorem puts_ok (n a b c : Int) (x : Nat) (hn : n ≤ 9223372036854775807) (ha : a ≤ 9223372036854775807) (hb : b ≤ 9223372036854775807) (hc : c ≤ 9223372036854775807) :
    CallOK Try.prog 4 [.int .i64 n, .agg [.int .i64 a, .int .i64 b, .int .i64 c], .int .u64 x] [] 0 (.ret (.bool true)) [] 0 := by
  refine CallOK.ofC (E := E) (fn := Try.f4) rfl rfl (fun _ _ => rfl) (by kernel_rfl) rfl rfl ?_
  refine GoesC.ret (x := .bool true) (o := [.call (.str (putN n.toNat)), .call (.str (putN n.toNat)), .t, .call (.str (putN a.toNat ++ (putN b.toNat ++ putN c.toNat))), .call (.str (putN a.toNat ++ (putN b.toNat ++ putN c.toNat))), .t,
    .call (.str (fixL x)), .call (.str (fixL x)), .t, .call (.bool true)]) hE 100 _ rfl rfl rfl (.inl rfl) ?_ rfl
  exact ⟨awake_ok, by simp, putFixRef_ok x, putFix_ok x, by simp, putVecRef_ok a b c ha hb hc, putVec_ok a b c ha hb hc, by simp, putRef_ok n hn, put_ok n hn, trivial⟩
end Go.Proofs.Ytgjcojagbgdpnaa
