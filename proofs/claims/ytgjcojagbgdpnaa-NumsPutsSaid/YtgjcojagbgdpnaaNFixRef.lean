/-
  tithebarnref07.PutFix: the walk.
-/
import Derived.Test.YtgjcojagbgdpnaaNFix
namespace Go.Proofs.Ytgjcojagbgdpnaa
open Go Go.AM Go.Proofs

set_option maxRecDepth 10000 in
theorem putFixRef_ok (x : Nat) : CallOK Try.prog 19 [.int .u64 x] [] 0 (.ret (.str (fixL x))) [] 0 := by
  refine CallOK.ofC (E := E) (fn := Try.f19) rfl rfl (fun _ _ => rfl) (by kernel_rfl) rfl rfl ?_
  refine GoesC.stop hE 100 _ [] (stk Try.f19 0) [0, 3, 4] rfl rfl trivial ?_
  refine GoesC.stop hE 100 _ [.t, .wrap, .wrap, .wrap, .v (.str [UInt8.ofNat (x / 2 ^ 0 % 256)])] (stk Try.f19 0) [0, 3, 4] rfl rfl ?_ ?_
  · refine ⟨?_, ?_, ?_, by decide, by decide, by decide, trivial⟩
    · exact ⟨by decide, by decide⟩
    · simp
    · exact congrArg (fun y => [AVal.int .u8 y]) (fixB x 0)
  refine GoesC.cut 0 0 (by omega) rfl rfl ?_
  refine GoesC.stop hE 100 _ [.t, .wrap, .wrap, .wrap, .v (.str [UInt8.ofNat (x / 2 ^ 8 % 256)])] (stk Try.f19 0) [0, 3, 4] rfl rfl ?_ ?_
  · refine ⟨?_, ?_, ?_, by decide, by decide, by decide, trivial⟩
    · exact ⟨by decide, by decide⟩
    · simp
    · exact congrArg (fun y => [AVal.int .u8 y]) (fixB x 8)
  refine GoesC.cut 0 0 (by omega) rfl rfl ?_
  refine GoesC.stop hE 100 _ [.t, .wrap, .wrap, .wrap, .v (.str [UInt8.ofNat (x / 2 ^ 16 % 256)])] (stk Try.f19 0) [0, 3, 4] rfl rfl ?_ ?_
  · refine ⟨?_, ?_, ?_, by decide, by decide, by decide, trivial⟩
    · exact ⟨by decide, by decide⟩
    · simp
    · exact congrArg (fun y => [AVal.int .u8 y]) (fixB x 16)
  refine GoesC.cut 0 0 (by omega) rfl rfl ?_
  refine GoesC.stop hE 100 _ [.t, .wrap, .wrap, .wrap, .v (.str [UInt8.ofNat (x / 2 ^ 24 % 256)])] (stk Try.f19 0) [0, 3, 4] rfl rfl ?_ ?_
  · refine ⟨?_, ?_, ?_, by decide, by decide, by decide, trivial⟩
    · exact ⟨by decide, by decide⟩
    · simp
    · exact congrArg (fun y => [AVal.int .u8 y]) (fixB x 24)
  refine GoesC.cut 0 0 (by omega) rfl rfl ?_
  refine GoesC.stop hE 100 _ [.t, .wrap, .wrap, .wrap, .v (.str [UInt8.ofNat (x / 2 ^ 32 % 256)])] (stk Try.f19 0) [0, 3, 4] rfl rfl ?_ ?_
  · refine ⟨?_, ?_, ?_, by decide, by decide, by decide, trivial⟩
    · exact ⟨by decide, by decide⟩
    · simp
    · exact congrArg (fun y => [AVal.int .u8 y]) (fixB x 32)
  refine GoesC.cut 0 0 (by omega) rfl rfl ?_
  refine GoesC.stop hE 100 _ [.t, .wrap, .wrap, .wrap, .v (.str [UInt8.ofNat (x / 2 ^ 40 % 256)])] (stk Try.f19 0) [0, 3, 4] rfl rfl ?_ ?_
  · refine ⟨?_, ?_, ?_, by decide, by decide, by decide, trivial⟩
    · exact ⟨by decide, by decide⟩
    · simp
    · exact congrArg (fun y => [AVal.int .u8 y]) (fixB x 40)
  refine GoesC.cut 0 0 (by omega) rfl rfl ?_
  refine GoesC.stop hE 100 _ [.t, .wrap, .wrap, .wrap, .v (.str [UInt8.ofNat (x / 2 ^ 48 % 256)])] (stk Try.f19 0) [0, 3, 4] rfl rfl ?_ ?_
  · refine ⟨?_, ?_, ?_, by decide, by decide, by decide, trivial⟩
    · exact ⟨by decide, by decide⟩
    · simp
    · exact congrArg (fun y => [AVal.int .u8 y]) (fixB x 48)
  refine GoesC.cut 0 0 (by omega) rfl rfl ?_
  refine GoesC.stop hE 100 _ [.t, .wrap, .wrap, .wrap, .v (.str [UInt8.ofNat (x / 2 ^ 56 % 256)])] (stk Try.f19 0) [0, 3, 4] rfl rfl ?_ ?_
  · refine ⟨?_, ?_, ?_, by decide, by decide, by decide, trivial⟩
    · exact ⟨by decide, by decide⟩
    · simp
    · exact congrArg (fun y => [AVal.int .u8 y]) (fixB x 56)
  refine GoesC.cut 0 0 (by omega) rfl rfl ?_
  refine GoesC.ret (x := .str _) (o := [.f]) hE 100 _ rfl ?_ rfl (.inl rfl) ⟨by decide, trivial⟩ rfl
  simp [fixL]
end Go.Proofs.Ytgjcojagbgdpnaa
