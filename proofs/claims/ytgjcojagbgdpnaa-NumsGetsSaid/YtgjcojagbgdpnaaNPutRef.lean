/-
  tithebarnref07.Put, nums.join, PutVec, both: the walks.
-/
import Derived.Test.YtgjcojagbgdpnaaNPut
namespace Go.Proofs.Ytgjcojagbgdpnaa
open Go Go.AM Go.Proofs

set_option maxRecDepth 10000 in
theorem putRef_loop (n : Nat) : ∀ (acc : List UInt8), acc.length + (putN n).length ≤ 100 → (n : Int) ≤ 9223372036854775807 →
    GoesC E Try.f15 (.ret (.str (acc ++ putN n))) (stk Try.f15 0) [(0, .int .i64 n), (3, .str acc)] [] 0 := by
  induction n using Nat.strongRecOn with
  | ind n ih =>
    intro acc hlen hn
    have hp : 1 ≤ (putN n).length := by rw [putN]; split <;> simp
    by_cases h : 127 < n
    · have hput : putN n = UInt8.ofNat (128 + n % 128) :: putN (n / 128) := by rw [putN, if_neg (by omega)]
      have e1 : (128 : Int) + Int.tmod (n : Int) 128 = ((128 + n % 128 : Nat) : Int) := by
        rw [Int.tmod_eq_emod_of_nonneg (by omega)]
        omega
      have e2 : Int.tdiv (n : Int) 128 = ((n / 128 : Nat) : Int) := by
        rw [Int.tdiv_eq_ediv_of_nonneg (by omega)]
        omega
      refine GoesC.stop hE 100 _ [.t, .v (.str [UInt8.ofNat (128 + n % 128)])] (stk Try.f15 0) [0, 3] rfl rfl ?_ ?_
      · simp only [All, e1, e2]
        refine ⟨inR_nat (by simp only [kmax]; omega), by decide, by simp; omega, ?_, inR_nat (by simp only [kmax]; omega), inR_nat (by simp only [kmax]; omega), by decide, by simpa using (by omega : (128 : Int) ≤ n), trivial⟩
        rw [← ub_ofNat (by omega)]
        rfl
      · dsimp only [pickS, getS, Nat.beq, cond_true, cond_false]
        refine GoesC.cut 0 0 (by omega) rfl rfl ?_
        rw [e2]
        have := ih (n / 128) (by omega) (acc ++ [UInt8.ofNat (128 + n % 128)]) (by rw [hput] at hlen; simp at hlen ⊢; omega) (by omega)
        rw [hput]
        simpa using this
    · have hput : putN n = [UInt8.ofNat n] := by rw [putN, if_pos (by omega)]
      refine GoesC.ret (x := .str _) (o := [.f, .v (.str [UInt8.ofNat n])]) hE 100 _ rfl ?_ rfl (.inl rfl) ?_ rfl
      · rw [hput]
      · simp only [All]
        refine ⟨by simp; omega, ?_, inR_nat (by simp only [kmax]; omega), by simpa using (by omega : (n : Int) < 128), trivial⟩
        rw [← ub_ofNat (by omega)]
        rfl

set_option maxRecDepth 10000 in
theorem putRef_ok (n : Int) (hn : n ≤ 9223372036854775807) : CallOK Try.prog 15 [.int .i64 n] [] 0 (.ret (.str (putN n.toNat))) [] 0 := by
  refine CallOK.ofC (E := E) (fn := Try.f15) rfl rfl (fun _ _ => rfl) (by kernel_rfl) rfl rfl ?_
  refine GoesC.stop hE 100 _ [] (stk Try.f15 0) [0, 3] rfl rfl trivial ?_
  have := putN_len n.toNat 9 (by omega)
  have e : max n 0 = (n.toNat : Int) := by omega
  dsimp only [pickS, getS, Nat.beq, cond_true, cond_false]
  rw [e]
  exact putRef_loop n.toNat [] (by simpa using (by omega : (putN n.toNat).length ≤ 100)) (by omega)

set_option maxRecDepth 10000 in
theorem join_loop (ss : List (List UInt8)) (hmax : ss.flatten.length ≤ 9223372036854775807) (hlen : ss.length ≤ 9223372036854775806) : ∀ (rest : List (List UInt8)) (i : Nat) (acc : List UInt8), rest = ss.drop i → i ≤ ss.length → acc ++ rest.flatten = ss.flatten →
    GoesC E Try.f36 (.ret (.str ss.flatten)) (stk Try.f36 0) [(3, .str acc), (6, .slice 1 false (ss.map .str) none), (7, .int .i64 ss.length), (8, .int .i64 i)] [] 0 := by
  intro rest
  induction rest with
  | nil =>
    intro i acc hr hi hacc
    have hle : ss.length ≤ i := by simpa using hr.symm
    refine GoesC.ret (x := .str acc) (o := [.f]) hE 100 _ rfl ?_ rfl (.inl rfl) ?_ rfl
    · rw [← hacc]; simp
    · simp only [All]
      exact ⟨by simp; omega, trivial⟩
  | cons s rest ih =>
    intro i acc hr hi hacc
    have hs : ss[i]? = some s := by
      have : (ss.drop i)[0]? = some s := by rw [← hr]; rfl
      simpa using this
    have hil : i < ss.length := (List.getElem?_eq_some_iff.1 hs).1
    have hr' : rest = ss.drop (i + 1) := by rw [← List.drop_drop, ← hr]; rfl
    refine GoesC.stop hE 100 _ [.t, .v (.str s)] (stk Try.f36 0) [3, 6, 7, 8] rfl rfl ?_ ?_
    · have hfl : acc.length + (s.length + rest.flatten.length) = ss.flatten.length := by rw [← hacc]; simp
      simp only [All]
      exact ⟨⟨by simp only [kmin]; omega, by simp only [kmax]; omega⟩, by omega, by simp [hs], by omega, by simp; omega, trivial⟩
    · dsimp only [pickS, getS, Nat.beq, cond_true, cond_false]
      exact ih (i + 1) (acc ++ s) hr' (by omega) (by rw [← hacc]; simp)

set_option maxRecDepth 10000 in
theorem join_ok (ss : List (List UInt8)) (hmax : ss.flatten.length ≤ 9223372036854775807) (hlen : ss.length ≤ 9223372036854775806) : CallOK Try.prog 36 [.slice 1 false (ss.map .str) none] [] 0 (.ret (.str ss.flatten)) [] 0 := by
  refine CallOK.ofC (E := E) (fn := Try.f36) rfl rfl (fun _ _ => rfl) (by kernel_rfl) rfl rfl ?_
  refine GoesC.stop hE 100 _ [] (stk Try.f36 0) [3, 6, 7, 8] rfl rfl ?_ ?_
  · trivial
  · dsimp only [pickS, getS, Nat.beq, cond_true, cond_false]
    have := join_loop ss hmax hlen ss 0 [] rfl (Nat.zero_le _) rfl
    rw [List.length_map]
    exact this

set_option maxRecDepth 10000 in
theorem putVec_ok (a b c : Int) (ha : a ≤ 9223372036854775807) (hb : b ≤ 9223372036854775807) (hc : c ≤ 9223372036854775807) :
    CallOK Try.prog 16 [.agg [.int .i64 a, .int .i64 b, .int .i64 c]] [] 0 (.ret (.str (putN a.toNat ++ (putN b.toNat ++ putN c.toNat)))) [] 0 := by
  refine CallOK.ofC (E := E) (fn := Try.f16) rfl rfl (fun _ _ => rfl) (by kernel_rfl) rfl rfl ?_
  refine GoesC.ret (x := .str _) (o := [.call (.str (putN a.toNat)), .call (.str (putN b.toNat)), .call (.str (putN c.toNat)), .call (.str (putN a.toNat ++ (putN b.toNat ++ putN c.toNat)))]) hE 100 _ rfl rfl rfl (.inl rfl) ?_ rfl
  have la := putN_len a.toNat 9 (by omega)
  have lb := putN_len b.toNat 9 (by omega)
  have lc := putN_len c.toNat 9 (by omega)
  have hj := join_ok [putN a.toNat, putN b.toNat, putN c.toNat] (by simp; omega) (by simp)
  simp only [List.flatten_cons, List.flatten_nil, List.append_nil] at hj
  exact ⟨hj, put_ok c hc, by decide, by decide, put_ok b hb, by decide, by decide, put_ok a ha, by decide, by decide, trivial⟩

set_option maxRecDepth 10000 in
theorem putVecRef_ok (a b c : Int) (ha : a ≤ 9223372036854775807) (hb : b ≤ 9223372036854775807) (hc : c ≤ 9223372036854775807) :
    CallOK Try.prog 17 [.agg [.int .i64 a, .int .i64 b, .int .i64 c]] [] 0 (.ret (.str (putN a.toNat ++ (putN b.toNat ++ putN c.toNat)))) [] 0 := by
  refine CallOK.ofC (E := E) (fn := Try.f17) rfl rfl (fun _ _ => rfl) (by kernel_rfl) rfl rfl ?_
  refine GoesC.ret (x := .str _) (o := [.call (.str (putN a.toNat)), .call (.str (putN b.toNat)), .call (.str (putN c.toNat))]) hE 100 _ rfl ?_ rfl (.inl rfl) ?_ rfl
  · rw [List.append_assoc]
  have la := putN_len a.toNat 9 (by omega)
  have lb := putN_len b.toNat 9 (by omega)
  have lc := putN_len c.toNat 9 (by omega)
  exact ⟨by simp; omega, putRef_ok c hc, by decide, by decide, by omega, putRef_ok b hb, by decide, by decide, putRef_ok a ha, by decide, by decide, trivial⟩
end Go.Proofs.Ytgjcojagbgdpnaa
