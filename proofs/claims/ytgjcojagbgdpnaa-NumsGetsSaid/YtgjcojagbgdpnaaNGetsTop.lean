/-
  NumsGets: the statement.
-/
import Derived.Test.YtgjcojagbgdpnaaRows
import Derived.Test.YtgjcojagbgdpnaaNVecs
import Derived.Test.YtgjcojagbgdpnaaNVal
import Derived.Test.YtgjcojagbgdpnaaEngT
namespace Go.Proofs.Ytgjcojagbgdpnaa
open Go Go.AM Go.Proofs
open Go.ChangeShapes Go.WideShapes Go.ChangeAt Go.RowKit

set_option maxRecDepth 100000 in
theorem numsGets_lifted (os : Os) (started : os.Started) (H : Type) (enc : TypeId × Value → H) :
    ReturnsInHanded {} Try.checked os 7 .any (Rows.numsGetsSpec.pre6 enc Try.prog Try.f7 Rows.numsGetsRow.domain false) (Rows.numsGetsSpec.post enc Try.prog Try.f7 false true false false) := by
  refine returnsInHanded_of_change (C := Try.checked) (by kernel_rfl) started (by kernel_rfl) Try.func7
    (ChangeSpec.witness6 (enc := enc) (C := Try.checked) false ⟨#[], #[.string .empty], []⟩ 8 (by kernel_rfl) (by kernel_rfl) (by kernel_rfl) (by kernel_rfl)) ?_
  intro W base args ds gs before hval0 hW _ _
  have hval : ∀ (j : Nat) t v, Try.f7.params[j]? = some t → args[j]? = some v → Value.okWide Try.prog W .any base t v := hval0
  clear hval0
  have hlen : args.toList.length = Try.f7.params.toList.length := by
    obtain ⟨_, _, hA, _⟩ := hW
    exact (trodAll_len hA).1
  rw [Try.params7] at hval hlen
  have hW2 : DataW.Whole enc Try.prog Try.f7.params.toList Rows.numsGetsSpec.vars false W args.toList ds gs before := hW
  clear hW
  obtain ⟨v0, rfl⟩ := arr1 hlen
  obtain ⟨l, rfl, hs⟩ := okC_str Try.underlying9 (okV_cell (by kernel_rfl) (hval 0 9 v0 rfl rfl))
  refine (calls_true (gets_ok l hs) (mem0 W) (repL1 (.str l) repL0)).mono fun e W' ⟨he, hg⟩ => ?_
  subst he
  exact ⟨_, rfl, post_true (by kernel_rfl) (by kernel_rfl) rfl rfl Try.underlying4 hW2 hg fun hds => by
    rw [Try.params7] at hds
    match ds, hds with
    | [_], _ => exact ⟨rfl, rfl, rfl⟩⟩

theorem numsGets_proved : Rows.NumsGetsSaid :=
  OpenClaim.holds_of_wide 7 Try.f7 rfl rfl rfl rfl rfl rfl rfl ⟨rfl, rfl, rfl, rfl, rfl⟩ rfl rfl rfl rfl rfl (by kernel_rfl) Try.func7 (by kernel_rfl)
    (of_decide_eq_true (by kernel_rfl)) (by unfold Func.isWrapper; first | (rw [if_pos (by decide +kernel)]; kernel_rfl) | (rw [if_neg (by decide +kernel)]; exact ⟨rfl, rfl⟩))
    (fun os started H enc _ => numsGets_lifted os started H enc)
end Go.Proofs.Ytgjcojagbgdpnaa
