/-
  NumsBack: the statement.
-/
import Derived.Test.YtgjcojagbgdpnaaRows
import Derived.Test.YtgjcojagbgdpnaaNBack
import Derived.Test.YtgjcojagbgdpnaaNVal
import Derived.Test.YtgjcojagbgdpnaaEngT
namespace Go.Proofs.Ytgjcojagbgdpnaa
open Go Go.AM Go.Proofs
open Go.ChangeShapes Go.WideShapes Go.ChangeAt Go.RowKit

set_option maxRecDepth 100000 in
theorem numsBack_lifted (os : Os) (started : os.Started) (H : Type) (enc : TypeId × Value → H) :
    ReturnsInHanded {} Try.checked os 5 .any (Rows.numsBackSpec.pre6 enc Try.prog Try.f5 Rows.numsBackRow.domain false) (Rows.numsBackSpec.post enc Try.prog Try.f5 false true false false) := by
  refine returnsInHanded_of_change (C := Try.checked) (by kernel_rfl) started (by kernel_rfl) Try.func5
    (ChangeSpec.witness6 (enc := enc) (C := Try.checked) false ⟨#[], #[.int .i64 0, .int .u64 0, .string .empty], []⟩ 8 (by kernel_rfl) (by kernel_rfl) (by kernel_rfl) (by kernel_rfl)) ?_
  intro W base args ds gs before hval0 hW _ _
  have hval : ∀ (j : Nat) t v, Try.f5.params[j]? = some t → args[j]? = some v → Value.okWide Try.prog W .any base t v := hval0
  clear hval0
  have hlen : args.toList.length = Try.f5.params.toList.length := by
    obtain ⟨_, _, hA, _⟩ := hW
    exact (trodAll_len hA).1
  rw [Try.params5] at hval hlen
  have hW2 : DataW.Whole enc Try.prog Try.f5.params.toList Rows.numsBackSpec.vars false W args.toList ds gs before := hW
  clear hW
  obtain ⟨v0, v1, v2, rfl⟩ := arr3 hlen
  obtain ⟨n, rfl, hn⟩ := okC_int Try.underlying3 (okV_cell (by kernel_rfl) (hval 0 3 v0 rfl rfl))
  obtain ⟨x, rfl, hx⟩ := ok_fix (hval 1 31 v1 rfl rfl)
  obtain ⟨l, rfl, _⟩ := okC_str Try.underlying9 (okV_cell (by kernel_rfl) (hval 2 9 v2 rfl rfl))
  refine (calls_true (back_ok n x l hn.2 (by omega)) (mem0 W) (repL1 (.int _ _) (repL1 (.int _ _) (repL1 (.str l) repL0)))).mono fun e W' ⟨he, hg⟩ => ?_
  subst he
  exact ⟨_, rfl, post_true (by kernel_rfl) (by kernel_rfl) rfl rfl Try.underlying4 hW2 hg fun hds => by
    rw [Try.params5] at hds
    match ds, hds with
    | [_, _, _], _ => exact ⟨rfl, rfl, rfl⟩⟩

theorem numsBack_proved : Rows.NumsBackSaid :=
  OpenClaim.holds_of_wide 5 Try.f5 rfl rfl rfl rfl rfl rfl rfl ⟨rfl, rfl, rfl, rfl, rfl⟩ rfl rfl rfl rfl rfl (by kernel_rfl) Try.func5 (by kernel_rfl)
    (of_decide_eq_true (by kernel_rfl)) (by unfold Func.isWrapper; first | (rw [if_pos (by decide +kernel)]; kernel_rfl) | (rw [if_neg (by decide +kernel)]; exact ⟨rfl, rfl⟩))
    (fun os started H enc _ => numsBack_lifted os started H enc)
end Go.Proofs.Ytgjcojagbgdpnaa
