/-
  tithebarn/tithebarnref07.GetVec: the walk.
-/
import Derived.Test.YtgjcojagbgdpnaaNEnv
import Derived.Test.YtgjcojagbgdpnaaNGetRef
namespace Go.Proofs.Ytgjcojagbgdpnaa
open Go Go.AM Go.Proofs

set_option maxRecDepth 10000 in
theorem getVecRef_err0 (l : List UInt8) (p : Nat) (hp : p ≤ l.length) (h : getN (l.drop p) = none) : GoesC E Try.f23 (.ret (getVecV none)) (stk Try.f23 0) [(0, .str l), (2, .ref 0 0), (5, .ref 1 0), (6, .int .i64 p), (7, .int .i64 0)] [.cells [.int .i64 0, .int .i64 0, .int .i64 0], .cells [.int .i64 0, .int .i64 0, .int .i64 0]] 0 := by
  have hg := getRef_ok (l.drop p)
  rw [h] at hg
  refine GoesC.ret (x := .tup [.agg [.int .i64 0, .int .i64 0, .int .i64 0], .int .i64 0, .int .i64 10]) hE 100 _ [.t, .call (.tup [.int .i64 0, .int .i64 0, .int .i64 10]), .t] rfl rfl rfl (.inl rfl) ?_ rfl
  exact ⟨rfl, hg, by omega, by omega, by decide, trivial⟩

set_option maxRecDepth 10000 in
theorem getVecRef_round0 (l : List UInt8) (p n k : Nat) (r : Res) (hp : p ≤ l.length) (hl : (l.length : Int) ≤ 9223372036854775807) (h : getN (l.drop p) = some (n, k))
    (hk : GoesC E Try.f23 r (stk Try.f23 0) [(0, .str l), (2, .ref 0 0), (5, .ref 1 0), (6, .int .i64 ((p + k : Nat) : Int)), (7, .int .i64 (0 + 1))] [.cells [.int .i64 0, .int .i64 0, .int .i64 0], .cells [.int .i64 n, .int .i64 0, .int .i64 0]] 0) :
    GoesC E Try.f23 r (stk Try.f23 0) [(0, .str l), (2, .ref 0 0), (5, .ref 1 0), (6, .int .i64 p), (7, .int .i64 0)] [.cells [.int .i64 0, .int .i64 0, .int .i64 0], .cells [.int .i64 0, .int .i64 0, .int .i64 0]] 0 := by
  have hg := getRef_ok (l.drop p)
  rw [h] at hg
  have hlt := getN_lt h
  rw [List.length_drop] at hlt
  refine GoesC.stop hE 100 _ [.t, .call (.tup [.int .i64 n, .int .i64 k, .int .i64 0]), .f] (stk Try.f23 0) [0, 2, 5, 6, 7] rfl rfl ?_ ?_
  · exact ⟨⟨by decide, by decide⟩, ⟨by simp only [kmin]; omega, by simp only [kmax]; omega⟩, by decide, by decide, rfl, hg, by omega, by omega, by decide, trivial⟩
  · dsimp only [pickS, getS, Nat.beq, cond_true, cond_false]
    exact hk

set_option maxRecDepth 10000 in
theorem getVecRef_err1 (l : List UInt8) (p : Nat) (a : Nat) (hp : p ≤ l.length) (h : getN (l.drop p) = none) : GoesC E Try.f23 (.ret (getVecV none)) (stk Try.f23 0) [(0, .str l), (2, .ref 0 0), (5, .ref 1 0), (6, .int .i64 p), (7, .int .i64 (0 + 1))] [.cells [.int .i64 0, .int .i64 0, .int .i64 0], .cells [.int .i64 a, .int .i64 0, .int .i64 0]] 0 := by
  have hg := getRef_ok (l.drop p)
  rw [h] at hg
  refine GoesC.ret (x := .tup [.agg [.int .i64 0, .int .i64 0, .int .i64 0], .int .i64 0, .int .i64 10]) hE 100 _ [.t, .call (.tup [.int .i64 0, .int .i64 0, .int .i64 10]), .t] rfl rfl rfl (.inl rfl) ?_ rfl
  exact ⟨rfl, hg, by omega, by omega, by decide, trivial⟩

set_option maxRecDepth 10000 in
theorem getVecRef_round1 (l : List UInt8) (p n k : Nat) (a : Nat) (r : Res) (hp : p ≤ l.length) (hl : (l.length : Int) ≤ 9223372036854775807) (h : getN (l.drop p) = some (n, k))
    (hk : GoesC E Try.f23 r (stk Try.f23 0) [(0, .str l), (2, .ref 0 0), (5, .ref 1 0), (6, .int .i64 ((p + k : Nat) : Int)), (7, .int .i64 (0 + 1 + 1))] [.cells [.int .i64 0, .int .i64 0, .int .i64 0], .cells [.int .i64 a, .int .i64 n, .int .i64 0]] 0) :
    GoesC E Try.f23 r (stk Try.f23 0) [(0, .str l), (2, .ref 0 0), (5, .ref 1 0), (6, .int .i64 p), (7, .int .i64 (0 + 1))] [.cells [.int .i64 0, .int .i64 0, .int .i64 0], .cells [.int .i64 a, .int .i64 0, .int .i64 0]] 0 := by
  have hg := getRef_ok (l.drop p)
  rw [h] at hg
  have hlt := getN_lt h
  rw [List.length_drop] at hlt
  refine GoesC.stop hE 100 _ [.t, .call (.tup [.int .i64 n, .int .i64 k, .int .i64 0]), .f] (stk Try.f23 0) [0, 2, 5, 6, 7] rfl rfl ?_ ?_
  · exact ⟨⟨by decide, by decide⟩, ⟨by simp only [kmin]; omega, by simp only [kmax]; omega⟩, by decide, by decide, rfl, hg, by omega, by omega, by decide, trivial⟩
  · dsimp only [pickS, getS, Nat.beq, cond_true, cond_false]
    exact hk

set_option maxRecDepth 10000 in
theorem getVecRef_err2 (l : List UInt8) (p : Nat) (a b : Nat) (hp : p ≤ l.length) (h : getN (l.drop p) = none) : GoesC E Try.f23 (.ret (getVecV none)) (stk Try.f23 0) [(0, .str l), (2, .ref 0 0), (5, .ref 1 0), (6, .int .i64 p), (7, .int .i64 (0 + 1 + 1))] [.cells [.int .i64 0, .int .i64 0, .int .i64 0], .cells [.int .i64 a, .int .i64 b, .int .i64 0]] 0 := by
  have hg := getRef_ok (l.drop p)
  rw [h] at hg
  refine GoesC.ret (x := .tup [.agg [.int .i64 0, .int .i64 0, .int .i64 0], .int .i64 0, .int .i64 10]) hE 100 _ [.t, .call (.tup [.int .i64 0, .int .i64 0, .int .i64 10]), .t] rfl rfl rfl (.inl rfl) ?_ rfl
  exact ⟨rfl, hg, by omega, by omega, by decide, trivial⟩

set_option maxRecDepth 10000 in
theorem getVecRef_round2 (l : List UInt8) (p n k : Nat) (a b : Nat) (r : Res) (hp : p ≤ l.length) (hl : (l.length : Int) ≤ 9223372036854775807) (h : getN (l.drop p) = some (n, k))
    (hk : GoesC E Try.f23 r (stk Try.f23 0) [(0, .str l), (2, .ref 0 0), (5, .ref 1 0), (6, .int .i64 ((p + k : Nat) : Int)), (7, .int .i64 (0 + 1 + 1 + 1))] [.cells [.int .i64 0, .int .i64 0, .int .i64 0], .cells [.int .i64 a, .int .i64 b, .int .i64 n]] 0) :
    GoesC E Try.f23 r (stk Try.f23 0) [(0, .str l), (2, .ref 0 0), (5, .ref 1 0), (6, .int .i64 p), (7, .int .i64 (0 + 1 + 1))] [.cells [.int .i64 0, .int .i64 0, .int .i64 0], .cells [.int .i64 a, .int .i64 b, .int .i64 0]] 0 := by
  have hg := getRef_ok (l.drop p)
  rw [h] at hg
  have hlt := getN_lt h
  rw [List.length_drop] at hlt
  refine GoesC.stop hE 100 _ [.t, .call (.tup [.int .i64 n, .int .i64 k, .int .i64 0]), .f] (stk Try.f23 0) [0, 2, 5, 6, 7] rfl rfl ?_ ?_
  · exact ⟨⟨by decide, by decide⟩, ⟨by simp only [kmin]; omega, by simp only [kmax]; omega⟩, by decide, by decide, rfl, hg, by omega, by omega, by decide, trivial⟩
  · dsimp only [pickS, getS, Nat.beq, cond_true, cond_false]
    exact hk

theorem getVecRef_gd (o : Option (Nat × Nat × Nat × Nat)) : gd 0 0 (getVecV o) = true := by
  cases o with
  | none => rfl
  | some x => rfl

set_option maxRecDepth 10000 in
theorem getVecRef_ok (l : List UInt8) (hl : (l.length : Int) ≤ 9223372036854775807) : CallOK Try.prog 23 [.str l] [] 0 (.ret (getVecV (getVecR l))) [] 0 := by
  refine CallOK.ofC (E := E) (fn := Try.f23) rfl rfl (fun _ _ => rfl) (by kernel_rfl) rfl (getVecRef_gd _) ?_
  refine GoesC.stop hE 100 _ [] (stk Try.f23 0) [0, 2, 5, 6, 7] rfl rfl trivial ?_
  show GoesC E Try.f23 (.ret (getVecV (getVecR l))) (stk Try.f23 0) [(0, .str l), (2, .ref 0 0), (5, .ref 1 0), (6, .int .i64 ((0 : Nat) : Int)), (7, .int .i64 0)] [.cells [.int .i64 0, .int .i64 0, .int .i64 0], .cells [.int .i64 0, .int .i64 0, .int .i64 0]] 0
  unfold getVecR
  cases h1 : getN l with
  | none => exact getVecRef_err0 l 0 (Nat.zero_le _) h1
  | some x =>
    obtain ⟨a, i⟩ := x
    have l1 := getN_lt h1
    refine getVecRef_round0 l 0 a i _ (Nat.zero_le _) hl h1 ?_
    rw [Nat.zero_add]
    dsimp only
    cases h2 : getN (l.drop i) with
    | none => exact getVecRef_err1 l i a (by omega) h2
    | some y =>
      obtain ⟨b, j⟩ := y
      have l2 := getN_lt h2
      rw [List.length_drop] at l2
      refine getVecRef_round1 l i b j a _ (by omega) hl h2 ?_
      dsimp only
      cases h3 : getN (l.drop (i + j)) with
      | none => exact getVecRef_err2 l (i + j) a b (by omega) h3
      | some z =>
        obtain ⟨c, k⟩ := z
        have l3 := getN_lt h3
        rw [List.length_drop] at l3
        refine getVecRef_round2 l (i + j) c k a b _ (by omega) hl h3 ?_
        dsimp only
        refine GoesC.ret (x := .tup [.agg [.int .i64 a, .int .i64 b, .int .i64 c], .int .i64 ((i + j + k : Nat) : Int), .int .i64 0]) hE 100 _ [.f] rfl rfl rfl (.inl rfl) ?_ rfl
        exact ⟨by decide, trivial⟩
end Go.Proofs.Ytgjcojagbgdpnaa
