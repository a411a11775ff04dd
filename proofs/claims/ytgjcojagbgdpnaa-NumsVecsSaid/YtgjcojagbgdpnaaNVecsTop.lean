/-
  NumsVecs: the statement.
-/
import Derived.Test.YtgjcojagbgdpnaaRows
import Derived.Test.YtgjcojagbgdpnaaNVecs
import Derived.Test.YtgjcojagbgdpnaaNVal
import Derived.Test.YtgjcojagbgdpnaaEngT
namespace Go.Proofs.Ytgjcojagbgdpnaa
open Go Go.AM Go.Proofs
open Go.ChangeShapes Go.WideShapes Go.ChangeAt Go.RowKit

set_option maxRecDepth 100000 in
theorem numsVecs_lifted (os : Os) (started : os.Started) (H : Type) (enc : TypeId × Value → H) :
    ReturnsInHanded {} Try.checked os 6 .any (Rows.numsVecsSpec.pre6 enc Try.prog Try.f6 Rows.numsVecsRow.domain false) (Rows.numsVecsSpec.post enc Try.prog Try.f6 false true false false) := by
  refine returnsInHanded_of_change (C := Try.checked) (by kernel_rfl) started (by kernel_rfl) Try.func6
    (ChangeSpec.witness6 (enc := enc) (C := Try.checked) false ⟨#[], #[.agg #[.int .i64 0, .int .i64 0, .int .i64 0], .string .empty], []⟩ 8 (by kernel_rfl) (by kernel_rfl) (by kernel_rfl) (by kernel_rfl)) ?_
  intro W base args ds gs before hval0 hW _ _
  have hval : ∀ (j : Nat) t v, Try.f6.params[j]? = some t → args[j]? = some v → Value.okWide Try.prog W .any base t v := hval0
  clear hval0
  have hlen : args.toList.length = Try.f6.params.toList.length := by
    obtain ⟨_, _, hA, _⟩ := hW
    exact (trodAll_len hA).1
  rw [Try.params6] at hval hlen
  have hW2 : DataW.Whole enc Try.prog Try.f6.params.toList Rows.numsVecsSpec.vars false W args.toList ds gs before := hW
  clear hW
  obtain ⟨v0, v1, rfl⟩ := arr2 hlen
  obtain ⟨a, b, c, rfl, hv⟩ := ok_vec (hval 0 29 v0 rfl rfl)
  obtain ⟨l, rfl, _⟩ := okC_str Try.underlying9 (okV_cell (by kernel_rfl) (hval 1 9 v1 rfl rfl))
  refine (calls_true (vecs_ok a b c l hv.1.2 hv.2.1.2 hv.2.2.2) (mem0 W) (repL1 (rep_ints .i64 [a, b, c]) (repL1 (.str l) repL0))).mono fun e W' ⟨he, hg⟩ => ?_
  subst he
  exact ⟨_, rfl, post_true (by kernel_rfl) (by kernel_rfl) rfl rfl Try.underlying4 hW2 hg fun hds => by
    rw [Try.params6] at hds
    match ds, hds with
    | [_, _], _ => exact ⟨rfl, rfl, rfl⟩⟩

theorem numsVecs_proved : Rows.NumsVecsSaid :=
  OpenClaim.holds_of_wide 6 Try.f6 rfl rfl rfl rfl rfl rfl rfl ⟨rfl, rfl, rfl, rfl, rfl⟩ rfl rfl rfl rfl rfl (by kernel_rfl) Try.func6 (by kernel_rfl)
    (of_decide_eq_true (by kernel_rfl)) (by unfold Func.isWrapper; first | (rw [if_pos (by decide +kernel)]; kernel_rfl) | (rw [if_neg (by decide +kernel)]; exact ⟨rfl, rfl⟩))
    (fun os started H enc _ => numsVecs_lifted os started H enc)
end Go.Proofs.Ytgjcojagbgdpnaa
