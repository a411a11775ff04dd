/-
  ProfileBetween: the statement of the second form: where what comes in is of bulk at most 1048576.
-/
import Derived.Test.YtmodiilfjfmdcaaRows
import Derived.Test.YtmodiilfjfmdcaaPA
import Derived.JoinedCond
namespace Go.Proofs.Ytmodiilfjfmdcaa
open Go Go.AW Go.Proofs
open Go.ChangeShapes Go.WideShapes Go.ChangeAt Go.RowKit

set_option maxRecDepth 100000 in
theorem profileBetween_lifted (os : Os) (started : os.Started) (H : Type) (enc : TypeId × Value → H) (F : Stop.Interp) :
    ReturnsInHanded {} Try.checked os 11 .any ((Rows.OpenSpec.upto Rows.profileBetweenSpec).pre6 enc Try.prog Try.f11 Rows.profileBetweenUptoRow.domain false) (((Rows.OpenSpec.upto Rows.profileBetweenSpec).at F).post enc Try.prog Try.f11 false true false false) := by
  refine returnsInHanded_of_cond (C := Try.checked) (s := Rows.OpenSpec.upto Rows.profileBetweenSpec) (k := Rows.uptoSmall) rfl (by kernel_rfl) started (by kernel_rfl) Try.func11
    (OpenSpec.witness (enc := enc) (C := Try.checked) (s := Rows.OpenSpec.upto Rows.profileBetweenSpec) (k := Rows.uptoSmall) rfl false ⟨#[], #[.slice none 0 0, .int .i64 0, .int .i64 0], []⟩ 8 (by kernel_rfl) (by kernel_rfl) (by kernel_rfl)
      (x := ([.nil, .lit (.int .i64 0), .lit (.int .i64 0)], [], [])) (by kernel_rfl) rfl (by kernel_rfl)) ?_
  intro W base args ds gs before hval0 hW _ hk _
  have hval : ∀ (j : Nat) t v, Try.f11.params[j]? = some t → args[j]? = some v → Value.okWide Try.prog W .any base t v := hval0
  clear hval0
  have hlen : args.toList.length = Try.f11.params.toList.length := by
    obtain ⟨_, _, hA, _⟩ := hW
    exact (trodAll_len hA).1
  rw [Try.params11] at hval hlen
  have hW2 : DataW.Whole enc Try.prog Try.f11.params.toList Rows.profileBetweenSpec.vars false W args.toList ds gs before := hW
  clear hW
  obtain ⟨v0, v1, v2, rfl⟩ := arr3 hlen
  obtain ⟨_, _, hA, _⟩ := id hW2
  obtain ⟨_, _, _, _, _, _, e1, e2, e3, h0, h1⟩ := trodAll_cons hA
  cases e1
  have hG := of_decide_eq_true hk
  rw [e2] at hG
  simp only [List.cons_append, Rows.uptoBulkAll] at hG
  obtain ⟨l, hl, hs⟩ := open_runs (hval 0 47 _ rfl rfl) h0 (by omega)
  obtain ⟨n1, hn1⟩ := open_int (hval 1 3 _ rfl rfl)
  obtain ⟨n2, hn2⟩ := open_int (hval 2 3 _ rfl rfl)
  refine (calls_true (fun _ _ => by rfl) (between_ok l hs n1 n2) (memW W) (repL1 hl (repL1 hn1 (repL1 hn2 repL0)))).mono fun e W' ⟨he, hg⟩ => ?_
  subst he
  exact ⟨_, rfl, post_true (s := Rows.profileBetweenSpec) (by kernel_rfl) (by kernel_rfl) rfl rfl Try.underlying4 hW2 hg fun hds => by
    rw [Try.params11] at hds
    match ds, hds with
    | [_, _, _], _ => exact ⟨rfl, rfl, rfl⟩⟩

theorem profileBetween_proved : Rows.ProfileBetweenUptoSaid :=
  OpenClaim.holds_of_cond 11 Try.f11 rfl rfl rfl rfl rfl rfl rfl ⟨rfl, rfl, rfl, rfl, rfl⟩ rfl rfl rfl rfl rfl (by kernel_rfl) Try.func11 (by kernel_rfl)
    (of_decide_eq_true (by kernel_rfl)) (by unfold Func.isWrapper; first | (rw [if_pos (by decide +kernel)]; kernel_rfl) | (rw [if_neg (by decide +kernel)]; exact ⟨rfl, rfl⟩))
    (fun os started H enc _ F => profileBetween_lifted os started H enc F)
end Go.Proofs.Ytmodiilfjfmdcaa
