/-
  CmdsBack: the statement.
-/
import Derived.Test.YtmodiilfjfmdcaaRows
import Derived.Test.YtmodiilfjfmdcaaCB
namespace Go.Proofs.Ytmodiilfjfmdcaa
open Go Go.AW Go.Proofs
open Go.ChangeShapes Go.WideShapes Go.ChangeAt Go.RowKit

set_option maxRecDepth 100000 in
theorem cmdsBack_lifted (os : Os) (started : os.Started) (H : Type) (enc : TypeId × Value → H) :
    ReturnsInHanded {} Try.checked os 5 .any (Rows.cmdsBackSpec.pre6 enc Try.prog Try.f5 Rows.cmdsBackRow.domain false) (Rows.cmdsBackSpec.post enc Try.prog Try.f5 false true false false) := by
  refine returnsInHanded_of_change (C := Try.checked) (by kernel_rfl) started (by kernel_rfl) Try.func5
    (ChangeSpec.witness6 (enc := enc) (C := Try.checked) false ⟨#[], #[.agg #[.int .i64 0, .slice none 0 0, .slice none 0 0, .int .i64 0, .int .i64 0, .int .i64 0, .int .i64 0, .int .i64 0, .int .i64 0, .int .i64 0, .int .i64 0, .int .i64 0, .int .i64 0, .int .i64 0, .int .i64 0]], []⟩ 8 (by kernel_rfl) (by kernel_rfl) (by kernel_rfl) (by kernel_rfl)) ?_
  intro W base args ds gs before hval0 hW _ _
  have hval : ∀ (j : Nat) t v, Try.f5.params[j]? = some t → args[j]? = some v → Value.okWide Try.prog W .any base t v := hval0
  clear hval0
  have hlen : args.toList.length = Try.f5.params.toList.length := by
    obtain ⟨_, _, hA, _⟩ := hW
    exact (trodAll_len hA).1
  rw [Try.params5] at hval hlen
  have hW2 : DataW.Whole enc Try.prog Try.f5.params.toList Rows.cmdsBackSpec.vars false W args.toList ds gs before := hW
  clear hW
  obtain ⟨v0, rfl⟩ := arr1 hlen
  obtain ⟨_, _, hA, _⟩ := id hW2
  obtain ⟨_, _, _, _, _, _, e1, e2, e3, h0, h1⟩ := trodAll_cons hA
  cases e1
  obtain ⟨x, hx⟩ := open_cmd (hval 0 31 _ rfl rfl) h0
  refine (calls_true (fun _ _ => by rfl) (back_ok x) (memW W) (repL1 hx repL0)).mono fun e W' ⟨he, hg⟩ => ?_
  subst he
  exact ⟨_, rfl, post_true (by kernel_rfl) (by kernel_rfl) rfl rfl Try.underlying4 hW2 hg fun hds => by
    rw [Try.params5] at hds
    match ds, hds with
    | [_], _ => exact ⟨rfl, rfl, rfl⟩⟩

theorem cmdsBack_proved : Rows.CmdsBackSaid :=
  OpenClaim.holds_of_wide 5 Try.f5 rfl rfl rfl rfl rfl rfl rfl ⟨rfl, rfl, rfl, rfl, rfl⟩ rfl rfl rfl rfl rfl (by kernel_rfl) Try.func5 (by kernel_rfl)
    (of_decide_eq_true (by kernel_rfl)) (by unfold Func.isWrapper; first | (rw [if_pos (by decide +kernel)]; kernel_rfl) | (rw [if_neg (by decide +kernel)]; exact ⟨rfl, rfl⟩))
    (fun os started H enc _ => cmdsBack_lifted os started H enc)
end Go.Proofs.Ytmodiilfjfmdcaa
