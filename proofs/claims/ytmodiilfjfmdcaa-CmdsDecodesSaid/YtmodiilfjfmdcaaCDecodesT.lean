/-
  CmdsDecodes: the statement.
-/
import Derived.Test.YtmodiilfjfmdcaaRows
import Derived.Test.YtmodiilfjfmdcaaCB
namespace Go.Proofs.Ytmodiilfjfmdcaa
open Go Go.AW Go.Proofs
open Go.ChangeShapes Go.WideShapes Go.ChangeAt Go.RowKit

set_option maxRecDepth 100000 in
theorem cmdsDecodes_lifted (os : Os) (started : os.Started) (H : Type) (enc : TypeId × Value → H) :
    ReturnsInHanded {} Try.checked os 4 .any (Rows.cmdsDecodesSpec.pre6 enc Try.prog Try.f4 Rows.cmdsDecodesRow.domain false) (Rows.cmdsDecodesSpec.post enc Try.prog Try.f4 false true false false) := by
  refine returnsInHanded_of_change (C := Try.checked) (by kernel_rfl) started (by kernel_rfl) Try.func4
    (ChangeSpec.witness6 (enc := enc) (C := Try.checked) false ⟨#[], #[.string .empty], []⟩ 8 (by kernel_rfl) (by kernel_rfl) (by kernel_rfl) (by kernel_rfl)) ?_
  intro W base args ds gs before hval0 hW _ _
  have hval : ∀ (j : Nat) t v, Try.f4.params[j]? = some t → args[j]? = some v → Value.okWide Try.prog W .any base t v := hval0
  clear hval0
  have hlen : args.toList.length = Try.f4.params.toList.length := by
    obtain ⟨_, _, hA, _⟩ := hW
    exact (trodAll_len hA).1
  rw [Try.params4] at hval hlen
  have hW2 : DataW.Whole enc Try.prog Try.f4.params.toList Rows.cmdsDecodesSpec.vars false W args.toList ds gs before := hW
  clear hW
  obtain ⟨v0, rfl⟩ := arr1 hlen
  obtain ⟨l, _, hl⟩ := open_text (hval 0 9 _ rfl rfl)
  refine (calls_true (fun _ _ => by rfl) (decodes_ok l) (memW W) (repL1 hl repL0)).mono fun e W' ⟨he, hg⟩ => ?_
  subst he
  exact ⟨_, rfl, post_true (by kernel_rfl) (by kernel_rfl) rfl rfl Try.underlying4 hW2 hg fun hds => by
    rw [Try.params4] at hds
    match ds, hds with
    | [_], _ => exact ⟨rfl, rfl, rfl⟩⟩

theorem cmdsDecodes_proved : Rows.CmdsDecodesSaid :=
  OpenClaim.holds_of_wide 4 Try.f4 rfl rfl rfl rfl rfl rfl rfl ⟨rfl, rfl, rfl, rfl, rfl⟩ rfl rfl rfl rfl rfl (by kernel_rfl) Try.func4 (by kernel_rfl)
    (of_decide_eq_true (by kernel_rfl)) (by unfold Func.isWrapper; first | (rw [if_pos (by decide +kernel)]; kernel_rfl) | (rw [if_neg (by decide +kernel)]; exact ⟨rfl, rfl⟩))
    (fun os started H enc _ => cmdsDecodes_lifted os started H enc)
end Go.Proofs.Ytmodiilfjfmdcaa
