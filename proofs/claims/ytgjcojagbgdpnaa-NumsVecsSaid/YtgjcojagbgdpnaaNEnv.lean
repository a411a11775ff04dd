/-
  THE TABLE OF THIS PROGRAM, AND ITS CHECK.
-/
import Derived.Test.YtgjcojagbgdpnaaProg
import Derived.Test.YtgjcojagbgdpnaaEngF
namespace Go.Proofs.Ytgjcojagbgdpnaa
open Go Go.AM Go.Proofs

noncomputable def T0 : Tab := [
  (2, .mk (.int .i64) 1 false (.int .i64 0)),
  (3, .mk (.int .i64) 1 false (.int .i64 0)),
  (4, .mk .bool 1 false (.bool false)),
  (5, .mk (.int .u8) 1 false (.int .u8 0)),
  (9, .mk .str 1 false (.str [])),
  (20, .mk .iface 1 false .nilif),
  (21, .mk (.int .i32) 1 false (.int .i32 0)),
  (22, .mk (.int .i64) 1 false (.int .i64 0)),
  (28, .mk (.arr 3 1 false) 3 true (.agg [.int .i64 0, .int .i64 0, .int .i64 0])),
  (29, .mk (.arr 3 1 false) 3 true (.agg [.int .i64 0, .int .i64 0, .int .i64 0])),
  (30, .mk (.int .u64) 1 false (.int .u64 0)),
  (31, .mk (.int .u64) 1 false (.int .u64 0)),
  (47, .mk (.slc 51 11 88) 1 false (.slice 0 true [] none)),
  (48, .mk (.strct [(0, 1, false), (1, 1, false), (2, 1, false), (3, 3, true), (6, 1, false), (7, 1, false), (8, 1, false)]) 9 true (.agg [.int .i64 0, .int .i64 0, .int .i64 0, .int .i64 0, .int .i64 0, .int .i64 0, .int .i64 0, .int .i64 0, .int .i64 0])),
  (49, .mk (.strct [(0, 1, false), (1, 1, false), (2, 1, false), (3, 3, true), (6, 1, false), (7, 1, false), (8, 1, false)]) 9 true (.agg [.int .i64 0, .int .i64 0, .int .i64 0, .int .i64 0, .int .i64 0, .int .i64 0, .int .i64 0, .int .i64 0, .int .i64 0])),
  (50, .mk (.strct [(0, 9, true), (9, 1, false), (10, 1, false)]) 11 true (.agg [.int .i64 0, .int .i64 0, .int .i64 0, .int .i64 0, .int .i64 0, .int .i64 0, .int .i64 0, .int .i64 0, .int .i64 0, .int .i64 0, .int .i64 0])),
  (51, .mk (.strct [(0, 9, true), (9, 1, false), (10, 1, false)]) 11 true (.agg [.int .i64 0, .int .i64 0, .int .i64 0, .int .i64 0, .int .i64 0, .int .i64 0, .int .i64 0, .int .i64 0, .int .i64 0, .int .i64 0, .int .i64 0])),
  (60, .mk (.slc 5 1 1) 1 false (.slice 0 true [] none)),
  (61, .mk (.int .u64) 1 false (.int .u64 0)),
  (66, .mk (.strct [(0, 9, true), (9, 1, false), (10, 1, false)]) 11 true (.agg [.int .i64 0, .int .i64 0, .int .i64 0, .int .i64 0, .int .i64 0, .int .i64 0, .int .i64 0, .int .i64 0, .int .i64 0, .int .i64 0, .int .i64 0])),
  (67, .mk .other 1 false .nilfunc),
  (72, .mk (.slc 9 1 16) 1 false (.slice 0 true [] none)),
  (74, .mk .iface 1 false .nilif)]

def F0 : List (Nat × Nat) := [(28, 3), (29, 3), (48, 9), (49, 9), (50, 11), (51, 11), (66, 11)]

noncomputable def E : Env := ⟨Try.prog, T0, [], F0⟩

theorem hE : EnvOK E where
  mix := by kernel_rfl
  tab := tab_ok (by kernel_rfl) (by kernel_rfl)
  mth := fun t name g h => by cases h
  fl := flats_ok (by kernel_rfl)
end Go.Proofs.Ytgjcojagbgdpnaa
