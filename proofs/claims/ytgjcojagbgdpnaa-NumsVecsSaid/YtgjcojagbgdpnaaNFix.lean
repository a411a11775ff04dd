/-
  nums.PutFix: the walk.
-/
import Derived.Test.YtgjcojagbgdpnaaNEnv
import Derived.Test.YtgjcojagbgdpnaaNSpec
namespace Go.Proofs.Ytgjcojagbgdpnaa
open Go Go.AM Go.Proofs

def fixL (x : Nat) : List UInt8 := [UInt8.ofNat (x % 256), UInt8.ofNat (x / 2 ^ 8 % 256), UInt8.ofNat (x / 2 ^ 16 % 256), UInt8.ofNat (x / 2 ^ 24 % 256), UInt8.ofNat (x / 2 ^ 32 % 256), UInt8.ofNat (x / 2 ^ 40 % 256), UInt8.ofNat (x / 2 ^ 48 % 256), UInt8.ofNat (x / 2 ^ 56 % 256)]

theorem conds_of {p : Prop} (h : p) : p := h

theorem fixB (x i : Nat) : IntKind.u8.wrap ((x : Int).fdiv (2 ^ i)) = (((UInt8.ofNat (x / 2 ^ i % 256)).toNat : Nat) : Int) := by
  rw [Int.fdiv_eq_ediv_of_nonneg _ (by exact Int.le_of_lt (Int.pow_pos (by decide)))]
  have : (x : Int) / 2 ^ i = ((x / 2 ^ i : Nat) : Int) := by simp
  rw [this, wrap_u8, UInt8.toNat_ofNat', Nat.mod_mod]

set_option maxRecDepth 10000 in
theorem putFix_ok (x : Nat) : CallOK Try.prog 18 [.int .u64 x] [] 0 (.ret (.str (fixL x))) [] 0 := by
  refine CallOK.ofC (E := E) (fn := Try.f18) rfl rfl (fun _ _ => rfl) (by kernel_rfl) rfl rfl ?_
  refine GoesC.stop hE 100 _ [] (stk Try.f18 0) [0, 3, 7, 8] rfl rfl ?_ ?_
  · simp only [All]; decide
  refine GoesC.stop hE 100 _ [.t, .wrap, .wrap, .v (.int .u8 0)] (stk Try.f18 0) [0, 3, 7, 8] rfl rfl ?_ ?_
  · exact conds_of (by simp only [All]; repeat' apply And.intro
                       all_goals first | trivial | rfl | decide)
  refine GoesC.stop hE 100 _ [.t, .wrap, .wrap, .v (.int .u8 0)] (stk Try.f18 0) [0, 3, 7, 8] rfl rfl ?_ ?_
  · exact conds_of (by simp only [All]; repeat' apply And.intro
                       all_goals first | trivial | rfl | decide)
  refine GoesC.stop hE 100 _ [.t, .wrap, .wrap, .v (.int .u8 0)] (stk Try.f18 0) [0, 3, 7, 8] rfl rfl ?_ ?_
  · exact conds_of (by simp only [All]; repeat' apply And.intro
                       all_goals first | trivial | rfl | decide)
  refine GoesC.stop hE 100 _ [.t, .wrap, .wrap, .v (.int .u8 0)] (stk Try.f18 0) [0, 3, 7, 8] rfl rfl ?_ ?_
  · exact conds_of (by simp only [All]; repeat' apply And.intro
                       all_goals first | trivial | rfl | decide)
  refine GoesC.stop hE 100 _ [.t, .wrap, .wrap, .v (.int .u8 0)] (stk Try.f18 0) [0, 3, 7, 8] rfl rfl ?_ ?_
  · exact conds_of (by simp only [All]; repeat' apply And.intro
                       all_goals first | trivial | rfl | decide)
  refine GoesC.stop hE 100 _ [.t, .wrap, .wrap, .v (.int .u8 0)] (stk Try.f18 0) [0, 3, 7, 8] rfl rfl ?_ ?_
  · exact conds_of (by simp only [All]; repeat' apply And.intro
                       all_goals first | trivial | rfl | decide)
  refine GoesC.stop hE 100 _ [.t, .wrap, .wrap, .v (.int .u8 0)] (stk Try.f18 0) [0, 3, 7, 8] rfl rfl ?_ ?_
  · exact conds_of (by simp only [All]; repeat' apply And.intro
                       all_goals first | trivial | rfl | decide)
  refine GoesC.stop hE 100 _ [.t, .wrap, .wrap, .v (.int .u8 0)] (stk Try.f18 0) [0, 3, 7, 8] rfl rfl ?_ ?_
  · exact conds_of (by simp only [All]; repeat' apply And.intro
                       all_goals first | trivial | rfl | decide)
  refine GoesC.ret (x := .str (fixL x)) (o := [.f, .v (.str (fixL x))]) hE 100 _ rfl rfl rfl (.inl rfl) ?_ rfl
  simp only [All]
  refine ⟨rfl, ?_, by decide, trivial⟩
  have h0 : IntKind.u8.wrap ((x : Int).fdiv (2 ^ (IntKind.i64.wrap (8 * 0)).toNat)) = _ := fixB x 0
  have h1 : IntKind.u8.wrap ((x : Int).fdiv (2 ^ (IntKind.i64.wrap (8 * (0 + 1))).toNat)) = _ := fixB x 8
  have h2 : IntKind.u8.wrap ((x : Int).fdiv (2 ^ (IntKind.i64.wrap (8 * (0 + 1 + 1))).toNat)) = _ := fixB x 16
  have h3 : IntKind.u8.wrap ((x : Int).fdiv (2 ^ (IntKind.i64.wrap (8 * (0 + 1 + 1 + 1))).toNat)) = _ := fixB x 24
  have h4 : IntKind.u8.wrap ((x : Int).fdiv (2 ^ (IntKind.i64.wrap (8 * (0 + 1 + 1 + 1 + 1))).toNat)) = _ := fixB x 32
  have h5 : IntKind.u8.wrap ((x : Int).fdiv (2 ^ (IntKind.i64.wrap (8 * (0 + 1 + 1 + 1 + 1 + 1))).toNat)) = _ := fixB x 40
  have h6 : IntKind.u8.wrap ((x : Int).fdiv (2 ^ (IntKind.i64.wrap (8 * (0 + 1 + 1 + 1 + 1 + 1 + 1))).toNat)) = _ := fixB x 48
  have h7 : IntKind.u8.wrap ((x : Int).fdiv (2 ^ (IntKind.i64.wrap (8 * (0 + 1 + 1 + 1 + 1 + 1 + 1 + 1))).toNat)) = _ := fixB x 56
  rw [h0, h1, h2, h3, h4, h5, h6, h7]
  simp [fixL, remk, only1, List.replicate]
end Go.Proofs.Ytgjcojagbgdpnaa
