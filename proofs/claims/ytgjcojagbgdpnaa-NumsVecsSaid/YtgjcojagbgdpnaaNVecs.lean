/-
  NumsVecs, NumsGets: the walks.
-/
import Derived.Test.YtgjcojagbgdpnaaNAwake
import Derived.Test.YtgjcojagbgdpnaaNPutRef
import Derived.Test.YtgjcojagbgdpnaaNGetVec
import Derived.Test.YtgjcojagbgdpnaaNGetVecRef
import Derived.Test.YtgjcojagbgdpnaaNGetFixRef
namespace Go.Proofs.Ytgjcojagbgdpnaa
open Go Go.AM Go.Proofs

theorem getN_put (n : Nat) (s : List UInt8) (hn : n < 2 ^ 63) : getN (putN n ++ s) = some (n, (putN n).length) := by
  have := getR_put 9 0 0 n s rfl (by omega) (fun h => by omega)
  simpa [getN] using this

theorem getVecR_put (a b c : Nat) (s : List UInt8) (ha : a < 2 ^ 63) (hb : b < 2 ^ 63) (hc : c < 2 ^ 63) :
    getVecR ((putN a ++ (putN b ++ putN c)) ++ s) = some (a, b, c, (putN a).length + (putN b).length + (putN c).length) := by
  unfold getVecR
  have e0 : (putN a ++ (putN b ++ putN c)) ++ s = putN a ++ (putN b ++ (putN c ++ s)) := by simp
  have e1 : (putN a ++ (putN b ++ (putN c ++ s))).drop (putN a).length = putN b ++ (putN c ++ s) := by simp
  have e2 : (putN a ++ (putN b ++ (putN c ++ s))).drop ((putN a).length + (putN b).length) = putN c ++ s := by rw [← List.drop_drop, e1]; simp
  rw [e0, getN_put a _ ha]
  dsimp only
  rw [e1, getN_put b _ hb]
  dsimp only
  rw [e2, getN_put c _ hc]

set_option maxRecDepth 10000 in
theorem vecs_ok (a b c : Int) (s : List UInt8) (ha : a ≤ 9223372036854775807) (hb : b ≤ 9223372036854775807) (hc : c ≤ 9223372036854775807) :
    CallOK Try.prog 6 [.agg [.int .i64 a, .int .i64 b, .int .i64 c], .str s] [] 0 (.ret (.bool true)) [] 0 := by
  refine CallOK.ofC (E := E) (fn := Try.f6) rfl rfl (fun _ _ => rfl) (by kernel_rfl) rfl rfl ?_
  have z (x : Int) (h : x < 0) : decide (x < 0) = true := by simpa using h
  have y (x : Int) (h : ¬ x < 0) : decide (x < 0) = false := by simpa using h
  by_cases h1 : a < 0
  · refine GoesC.ret (x := .bool true) (o := [.t, .t, .t, .t, .call (.bool true)]) hE 100 _ rfl rfl rfl (.inl rfl) ?_ rfl
    exact ⟨awake_ok, rfl, rfl, rfl, z a h1, by decide, by decide, trivial⟩
  by_cases h2 : b < 0
  · refine GoesC.ret (x := .bool true) (o := [.f, .t, .t, .t, .call (.bool true)]) hE 100 _ rfl rfl rfl (.inl rfl) ?_ rfl
    exact ⟨awake_ok, rfl, rfl, z b h2, by decide, by decide, y a h1, by decide, by decide, trivial⟩
  by_cases h3 : c < 0
  · refine GoesC.ret (x := .bool true) (o := [.f, .f, .t, .t, .call (.bool true)]) hE 100 _ rfl rfl rfl (.inl rfl) ?_ rfl
    exact ⟨awake_ok, rfl, z c h3, by decide, by decide, y b h2, by decide, by decide, y a h1, by decide, by decide, trivial⟩
  by_cases h4 : 10000 < s.length
  · refine GoesC.ret (x := .bool true) (o := [.f, .f, .f, .t, .call (.bool true)]) hE 100 _ rfl rfl rfl (.inl rfl) ?_ rfl
    exact ⟨awake_ok, by simpa using (by omega : (10000 : Int) < s.length), y c h3, by decide, by decide, y b h2, by decide, by decide, y a h1, by decide, by decide, trivial⟩
  obtain ⟨a, rfl⟩ : ∃ m : Nat, a = m := ⟨a.toNat, by omega⟩
  obtain ⟨b, rfl⟩ : ∃ m : Nat, b = m := ⟨b.toNat, by omega⟩
  obtain ⟨c, rfl⟩ : ∃ m : Nat, c = m := ⟨c.toNat, by omega⟩
  have la := putN_len a 9 (by omega)
  have lb := putN_len b 9 (by omega)
  have lc := putN_len c 9 (by omega)
  have hg := getVec_ok ((putN a ++ (putN b ++ putN c)) ++ s) (by simp; omega)
  rw [getVecR_put a b c s (by omega) (by omega) (by omega)] at hg
  have hp := putVec_ok a b c ha hb hc
  simp only [Int.toNat_natCast] at hp
  refine GoesC.ret (x := .bool true) (o := [.f, .f, .f, .f, .call (.str (putN a ++ (putN b ++ putN c))), .call (.tup [.agg [.int .i64 a, .int .i64 b, .int .i64 c], .int .i64 ((putN a).length + (putN b).length + (putN c).length : Nat), .int .i64 0]), .t, .t, .t, .call (.bool true)]) hE 100 _ rfl rfl rfl (.inl rfl) ?_ rfl
  exact ⟨awake_ok, rfl, by simp; omega, by simp, hg, by simp; omega, hp, by simpa using (by omega : (s.length : Int) ≤ 10000), y c h3, by decide, by decide, y b h2, by decide, by decide, y a h1, by decide, by decide, trivial⟩

set_option maxRecDepth 100000 in
theorem gets_walk (s : List UInt8) (n k e a b c m g x u o : Int) (h1 : CallOK Try.prog 12 [.str s] [] 0 (.ret (.tup [.int .i64 n, .int .i64 k, .int .i64 e])) [] 0)
    (h2 : CallOK Try.prog 22 [.str s] [] 0 (.ret (.tup [.int .i64 n, .int .i64 k, .int .i64 e])) [] 0)
    (h3 : CallOK Try.prog 21 [.str s] [] 0 (.ret (.tup [.agg [.int .i64 a, .int .i64 b, .int .i64 c], .int .i64 m, .int .i64 g])) [] 0)
    (h4 : CallOK Try.prog 23 [.str s] [] 0 (.ret (.tup [.agg [.int .i64 a, .int .i64 b, .int .i64 c], .int .i64 m, .int .i64 g])) [] 0)
    (h5 : CallOK Try.prog 20 [.str s] [] 0 (.ret (.tup [.int .u64 x, .int .i64 u, .int .i64 o])) [] 0)
    (h6 : CallOK Try.prog 24 [.str s] [] 0 (.ret (.tup [.int .u64 x, .int .i64 u, .int .i64 o])) [] 0) :
    CallOK Try.prog 7 [.str s] [] 0 (.ret (.bool true)) [] 0 := by
  refine CallOK.ofC (E := E) (fn := Try.f7) rfl rfl (fun _ _ => rfl) (by kernel_rfl) rfl rfl ?_
  refine GoesC.ret (x := .bool true) (o := [.call (.tup [.int .i64 n, .int .i64 k, .int .i64 e]), .call (.tup [.int .i64 n, .int .i64 k, .int .i64 e]), .call (.tup [.agg [.int .i64 a, .int .i64 b, .int .i64 c], .int .i64 m, .int .i64 g]),
    .call (.tup [.agg [.int .i64 a, .int .i64 b, .int .i64 c], .int .i64 m, .int .i64 g]), .call (.tup [.int .u64 x, .int .i64 u, .int .i64 o]), .call (.tup [.int .u64 x, .int .i64 u, .int .i64 o]), .t, .t, .t, .t, .t, .t, .t, .t, .t, .call (.bool true)]) hE 100 _ rfl rfl rfl (.inl rfl) ?_ rfl
  exact ⟨awake_ok, by simp, by simp, by simp, by simp, by simp, by simp, by simp, by simp, by simp, h6, h5, h4, h3, h2, h1, trivial⟩

theorem gets_ok (s : List UInt8) (hs : (s.length : Int) ≤ 9223372036854775807) : CallOK Try.prog 7 [.str s] [] 0 (.ret (.bool true)) [] 0 := by
  have h1 := get_ok s
  have h2 := getRef_ok s
  have h3 := getVec_ok s hs
  have h4 := getVecRef_ok s hs
  have h5 := getFix_ok s
  have h6 := getFixRef_ok s
  have e1 : ∃ n k e : Int, getV (getN s) = .tup [.int .i64 n, .int .i64 k, .int .i64 e] := by
    cases getN s with
    | none => exact ⟨_, _, _, rfl⟩
    | some p => exact ⟨_, _, _, rfl⟩
  have e2 : ∃ a b c m g : Int, getVecV (getVecR s) = .tup [.agg [.int .i64 a, .int .i64 b, .int .i64 c], .int .i64 m, .int .i64 g] := by
    cases getVecR s with
    | none => exact ⟨_, _, _, _, _, rfl⟩
    | some p => exact ⟨_, _, _, _, _, rfl⟩
  have e3 : ∃ x u o : Int, getFixV s = .tup [.int .u64 x, .int .i64 u, .int .i64 o] := by
    unfold getFixV
    split
    · exact ⟨_, _, _, rfl⟩
    · exact ⟨_, _, _, rfl⟩
  obtain ⟨n, k, e, e1⟩ := e1
  obtain ⟨a, b, c, m, g, e2⟩ := e2
  obtain ⟨x, u, o, e3⟩ := e3
  rw [e1] at h1 h2
  rw [e2] at h3 h4
  rw [e3] at h5 h6
  exact gets_walk s n k e a b c m g x u o h1 h2 h3 h4 h5 h6
end Go.Proofs.Ytgjcojagbgdpnaa
