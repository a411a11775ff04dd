/-
  tithebarnref07.GetFix: the walk.
-/
import Derived.Test.YtgjcojagbgdpnaaNGetFix
namespace Go.Proofs.Ytgjcojagbgdpnaa
open Go Go.AM Go.Proofs

theorem leN_drop {l : List UInt8} {i : Nat} {c : UInt8} (h : l[i]? = some c) : leN (l.drop i) = c.toNat + 256 * leN (l.drop (i + 1)) := by
  obtain ⟨hlt, he⟩ := List.getElem?_eq_some_iff.1 h
  rw [List.drop_eq_getElem_cons hlt, he]
  rfl

set_option maxRecDepth 10000 in
theorem getFixRef_loop (l : List UInt8) (hl : 8 ≤ l.length) : ∀ (f : Nat), f ≤ 8 →
    GoesC E Try.f24 (.ret (.tup [.int .u64 (leN (l.take 8)), .int .i64 8, .int .i64 0])) (stk Try.f24 0) [(0, .str l), (5, .int .u64 (leN ((l.take 8).drop f))), (6, .int .i64 ((f : Int) - 1))] [] 0 := by
  intro f
  induction f with
  | zero =>
    intro hf
    refine GoesC.ret (x := .tup [.int .u64 _, .int .i64 8, .int .i64 0]) hE 100 _ [.f] rfl rfl rfl (.inl rfl) ⟨by decide, trivial⟩ rfl
  | succ f ih =>
    intro hf
    obtain ⟨c, hc⟩ : ∃ c, l[f]? = some c := ⟨l[f]'(by omega), List.getElem?_eq_getElem (by omega)⟩
    have hc' : (l.take 8)[f]? = some c := by rw [List.getElem?_take, if_pos (by omega)]; exact hc
    have hc2 : c.toNat < 256 := c.toNat_lt
    have hacc := leN_lt ((l.take 8).drop (f + 1))
    rw [List.length_drop, List.length_take, Nat.min_eq_left (by omega)] at hacc
    have h6 : 2 ^ (8 * (8 - (f + 1))) ≤ 2 ^ 56 := Nat.pow_le_pow_right (by decide) (by omega)
    have e1 : (((f + 1 : Nat) : Int) - 1) = (f : Int) := by omega
    have e2 : (leN ((l.take 8).drop (f + 1)) : Int) * 256 + (c.toNat : Int) = ((leN ((l.take 8).drop f) : Nat) : Int) := by
      rw [leN_drop hc']; omega
    have hb : leN ((l.take 8).drop f) < 2 ^ 64 := by rw [leN_drop hc']; omega
    rw [e1]
    refine GoesC.stop hE 100 _ [.t, .v (.int .u8 c.toNat)] (stk Try.f24 0) [0, 5, 6] rfl rfl ?_ ?_
    · simp only [All, e2, Int.toNat_natCast]
      refine ⟨⟨by simp only [kmin]; omega, by simp only [kmax]; omega⟩, inR_nat (by simp only [kmax]; omega), inR_nat (by simp only [kmax]; omega), by rw [hc]; rfl, by omega, ⟨by simp only [kmin]; omega, by simp only [kmax]; omega⟩, by simp, trivial⟩
    · dsimp only [pickS, getS, Nat.beq, cond_true, cond_false]
      rw [e2]
      exact ih (by omega)

set_option maxRecDepth 10000 in
theorem getFixRef_ok (l : List UInt8) : CallOK Try.prog 24 [.str l] [] 0 (.ret (getFixV l)) [] 0 := by
  unfold getFixV
  split
  · rename_i h
    refine CallOK.ofC (E := E) (fn := Try.f24) rfl rfl (fun _ _ => rfl) (by kernel_rfl) rfl rfl ?_
    refine GoesC.ret (x := .tup [.int .u64 0, .int .i64 0, .int .i64 10]) hE 100 _ [.t] rfl rfl rfl (.inl rfl) ?_ rfl
    exact ⟨by simpa using (by omega : (l.length : Int) < 8), trivial⟩
  · rename_i h
    refine CallOK.ofC (E := E) (fn := Try.f24) rfl rfl (fun _ _ => rfl) (by kernel_rfl) rfl rfl ?_
    refine GoesC.stop hE 100 _ [.f] (stk Try.f24 0) [0, 5, 6] rfl rfl ?_ ?_
    · exact ⟨by simpa using (by omega : (8 : Int) ≤ l.length), trivial⟩
    · have := getFixRef_loop l (by omega) 8 (Nat.le_refl _)
      rw [List.drop_of_length_le (by simp; omega)] at this
      exact this
end Go.Proofs.Ytgjcojagbgdpnaa
