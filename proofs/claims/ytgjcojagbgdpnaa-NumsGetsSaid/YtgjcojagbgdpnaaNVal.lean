/-
  What comes in: an amount, a Fix.
-/
import Derived.Test.YtgjcojagbgdpnaaNEnv
import Derived.Test.YtgjcojagbgdpnaaEngT
namespace Go.Proofs.Ytgjcojagbgdpnaa
open Go Go.AM Go.Proofs

theorem ok_vec {w : World} {r : Reach} {base : Nat} {v : Value} (h : Value.okWide Try.prog w r base 29 v) :
    ∃ a b c : Int, v = .agg ([a, b, c].map (Value.int .i64)).toArray ∧ inR .i64 a ∧ inR .i64 b ∧ inR .i64 c := by
  obtain ⟨ns, rfl, hl, hi⟩ := okV_ints (k := .i64) (ts := [3, 3, 3]) (by kernel_rfl) (by kernel_rfl) (by kernel_rfl) (fun u hu => (by
    have e : u = 3 := by simpa using hu
    subst e
    exact Try.underlying3)) h
  match ns, hl with
  | [a, b, c], _ => exact ⟨a, b, c, rfl, hi a (by simp), hi b (by simp), hi c (by simp)⟩

theorem ok_fix {w : World} {r : Reach} {base : Nat} {v : Value} (h : Value.okWide Try.prog w r base 31 v) : ∃ x : Nat, v = .int .u64 x ∧ (x : Int) ≤ 18446744073709551615 := by
  obtain ⟨x, rfl, hx⟩ := okC_int (k := .u64) (by kernel_rfl) (okV_cell (by kernel_rfl) h)
  have h1 := hx.1
  have h2 := hx.2
  simp only [kmin, kmax] at h1 h2
  exact ⟨x.toNat, by rw [Int.toNat_of_nonneg h1], by omega⟩
end Go.Proofs.Ytgjcojagbgdpnaa
