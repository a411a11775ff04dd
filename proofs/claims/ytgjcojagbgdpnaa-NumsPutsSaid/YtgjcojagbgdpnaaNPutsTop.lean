/-
  NumsPuts: the statement.
-/
import Derived.Test.YtgjcojagbgdpnaaRows
import Derived.Test.YtgjcojagbgdpnaaNPuts
import Derived.Test.YtgjcojagbgdpnaaNVal
import Derived.Test.YtgjcojagbgdpnaaEngT
namespace Go.Proofs.Ytgjcojagbgdpnaa
open Go Go.AM Go.Proofs
open Go.ChangeShapes Go.WideShapes Go.ChangeAt Go.RowKit

set_option maxRecDepth 100000 in
theorem numsPuts_lifted (os : Os) (started : os.Started) (H : Type) (enc : TypeId × Value → H) :
    ReturnsInHanded {} Try.checked os 4 .any (Rows.numsPutsSpec.pre6 enc Try.prog Try.f4 Rows.numsPutsRow.domain false) (Rows.numsPutsSpec.post enc Try.prog Try.f4 false true false false) := by
  refine returnsInHanded_of_change (C := Try.checked) (by kernel_rfl) started (by kernel_rfl) Try.func4
    (ChangeSpec.witness6 (enc := enc) (C := Try.checked) false ⟨#[], #[.int .i64 0, .agg #[.int .i64 0, .int .i64 0, .int .i64 0], .int .u64 0], []⟩ 8 (by kernel_rfl) (by kernel_rfl) (by kernel_rfl) (by kernel_rfl)) ?_
  intro W base args ds gs before hval0 hW _ _
  have hval : ∀ (j : Nat) t v, Try.f4.params[j]? = some t → args[j]? = some v → Value.okWide Try.prog W .any base t v := hval0
  clear hval0
  have hlen : args.toList.length = Try.f4.params.toList.length := by
    obtain ⟨_, _, hA, _⟩ := hW
    exact (trodAll_len hA).1
  rw [Try.params4] at hval hlen
  have hW2 : DataW.Whole enc Try.prog Try.f4.params.toList Rows.numsPutsSpec.vars false W args.toList ds gs before := hW
  clear hW
  obtain ⟨v0, v1, v2, rfl⟩ := arr3 hlen
  obtain ⟨n, rfl, hn⟩ := okC_int Try.underlying3 (okV_cell (by kernel_rfl) (hval 0 3 v0 rfl rfl))
  obtain ⟨a, b, c, rfl, hv⟩ := ok_vec (hval 1 29 v1 rfl rfl)
  obtain ⟨x, rfl, hx⟩ := ok_fix (hval 2 31 v2 rfl rfl)
  refine (calls_true (puts_ok n a b c x hn.2 hv.1.2 hv.2.1.2 hv.2.2.2) (mem0 W) (repL1 (.int _ _) (repL1 (rep_ints .i64 [a, b, c]) (repL1 (.int _ _) repL0)))).mono fun e W' ⟨he, hg⟩ => ?_
  subst he
  exact ⟨_, rfl, post_true (by kernel_rfl) (by kernel_rfl) rfl rfl Try.underlying4 hW2 hg fun hds => by
    rw [Try.params4] at hds
    match ds, hds with
    | [_, _, _], _ => exact ⟨rfl, rfl, rfl⟩⟩

theorem numsPuts_proved : Rows.NumsPutsSaid :=
  OpenClaim.holds_of_wide 4 Try.f4 rfl rfl rfl rfl rfl rfl rfl ⟨rfl, rfl, rfl, rfl, rfl⟩ rfl rfl rfl rfl rfl (by kernel_rfl) Try.func4 (by kernel_rfl)
    (of_decide_eq_true (by kernel_rfl)) (by unfold Func.isWrapper; first | (rw [if_pos (by decide +kernel)]; kernel_rfl) | (rw [if_neg (by decide +kernel)]; exact ⟨rfl, rfl⟩))
    (fun os started H enc _ => numsPuts_lifted os started H enc)
end Go.Proofs.Ytgjcojagbgdpnaa
