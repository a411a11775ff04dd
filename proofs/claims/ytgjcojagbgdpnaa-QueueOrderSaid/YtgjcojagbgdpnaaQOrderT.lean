/-
  QueueOrder: the statement.
-/
import Derived.Test.YtgjcojagbgdpnaaRows
import Derived.Test.YtgjcojagbgdpnaaQA
import Derived.Test.YtgjcojagbgdpnaaWC
namespace Go.Proofs.Ytgjcojagbgdpnaa
open Go Go.AW Go.Proofs
open Go.ChangeShapes Go.WideShapes Go.ChangeAt Go.RowKit

set_option maxRecDepth 100000 in
theorem queueOrder_lifted (os : Os) (started : os.Started) (H : Type) (enc : TypeId × Value → H) :
    ReturnsInHanded {} Try.checked os 11 .any (Rows.queueOrderSpec.pre6 enc Try.prog Try.f11 Rows.queueOrderRow.domain false) (Rows.queueOrderSpec.post enc Try.prog Try.f11 false true false false) := by
  refine returnsInHanded_of_change (C := Try.checked) (by kernel_rfl) started (by kernel_rfl) Try.func11
    (ChangeSpec.witness6 (enc := enc) (C := Try.checked) false ⟨#[], #[.slice none 0 0, .int .i64 0], []⟩ 8 (by kernel_rfl) (by kernel_rfl) (by kernel_rfl) (by kernel_rfl)) ?_
  intro W base args ds gs before hval0 hW _ _
  have hval : ∀ (j : Nat) t v, Try.f11.params[j]? = some t → args[j]? = some v → Value.okWide Try.prog W .any base t v := hval0
  clear hval0
  have hlen : args.toList.length = Try.f11.params.toList.length := by
    obtain ⟨_, _, hA, _⟩ := hW
    exact (trodAll_len hA).1
  rw [Try.params11] at hval hlen
  have hW2 : DataW.Whole enc Try.prog Try.f11.params.toList Rows.queueOrderSpec.vars false W args.toList ds gs before := hW
  clear hW
  obtain ⟨v0, v1, rfl⟩ := arr2 hlen
  obtain ⟨_, _, hA, _⟩ := id hW2
  obtain ⟨_, _, _, _, _, _, e1, e2, e3, h0, h1⟩ := trodAll_cons hA
  cases e1
  obtain ⟨l, hl⟩ := open_pav (hval 0 47 _ rfl rfl) h0
  obtain ⟨p, hp⟩ := open_int (hval 1 3 _ rfl rfl)
  refine (calls_true (fun _ _ => by rfl) (order_ok l p) (memW W) (repL1 hl (repL1 hp repL0))).mono fun e W' ⟨he, hg⟩ => ?_
  subst he
  exact ⟨_, rfl, post_true (by kernel_rfl) (by kernel_rfl) rfl rfl Try.underlying4 hW2 hg fun hds => by
    rw [Try.params11] at hds
    match ds, hds with
    | [_, _], _ => exact ⟨rfl, rfl, rfl⟩⟩

theorem queueOrder_proved : Rows.QueueOrderSaid :=
  OpenClaim.holds_of_wide 11 Try.f11 rfl rfl rfl rfl rfl rfl rfl ⟨rfl, rfl, rfl, rfl, rfl⟩ rfl rfl rfl rfl rfl (by kernel_rfl) Try.func11 (by kernel_rfl)
    (of_decide_eq_true (by kernel_rfl)) (by unfold Func.isWrapper; first | (rw [if_pos (by decide +kernel)]; kernel_rfl) | (rw [if_neg (by decide +kernel)]; exact ⟨rfl, rfl⟩))
    (fun os started H enc _ => queueOrder_lifted os started H enc)
end Go.Proofs.Ytgjcojagbgdpnaa
