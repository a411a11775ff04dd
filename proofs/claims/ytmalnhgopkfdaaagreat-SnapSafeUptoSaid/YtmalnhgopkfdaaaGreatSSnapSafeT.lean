/-
  SnapSafe: the statement of the second form: where what comes in is of bulk at most 1048576.
-/
import Derived.Test.YtmalnhgopkfdaaaGreatRows
import Derived.Test.YtmalnhgopkfdaaaGreatSBS
import Derived.JoinedCond
set_option linter.all false
namespace Go.Proofs.YtmalnhgopkfdaaaGreat
open Go Go.AW Go.Proofs
open Go.ChangeShapes Go.WideShapes Go.ChangeAt Go.RowKit

set_option maxRecDepth 100000 in
theorem snapSafe_lifted (os : Os) (started : os.Started) (H : Type) (enc : TypeId × Value → H) (F : Stop.Interp) :
    ReturnsInHanded {} Tryz.checked os 6 .any ((Rows.OpenSpec.upto Rows.snapSafeSpec).pre6 enc Tryz.prog Tryz.f6 Rows.snapSafeUptoRow.domain false) (((Rows.OpenSpec.upto Rows.snapSafeSpec).at F).post enc Tryz.prog Tryz.f6 false true false false) := by
  refine returnsInHanded_of_cond (C := Tryz.checked) (s := Rows.OpenSpec.upto Rows.snapSafeSpec) (k := Rows.uptoSmall) rfl (by kernel_rfl) started (by kernel_rfl) Tryz.func6
    (OpenSpec.witness (enc := enc) (C := Tryz.checked) (s := Rows.OpenSpec.upto Rows.snapSafeSpec) (k := Rows.uptoSmall) rfl false ⟨#[], #[.agg #[.slice none 0 0, .slice none 0 0, .int .i64 0, .int .i64 0, .int .i64 0, .int .i64 0, .slice none 0 0, .slice none 0 0, .slice none 0 0]], []⟩ 8 (by kernel_rfl) (by kernel_rfl) (by kernel_rfl)
      (x := ([.agg [.agg [.nil, .nil, .lit (.int .i64 0), .lit (.int .i64 0)], .lit (.int .i64 0), .lit (.int .i64 0), .nil, .nil, .nil]], [], [])) (by kernel_rfl) rfl (by kernel_rfl)) ?_
  intro W base args ds gs before hval0 hW _ hk _
  have hval : ∀ (j : Nat) t v, Tryz.f6.params[j]? = some t → args[j]? = some v → Value.okWide Tryz.prog W .any base t v := hval0
  clear hval0
  have hlen : args.toList.length = Tryz.f6.params.toList.length := by
    obtain ⟨_, _, hA, _⟩ := hW
    exact (trodAll_len hA).1
  rw [Tryz.params6] at hval hlen
  have hW2 : DataW.Whole enc Tryz.prog Tryz.f6.params.toList Rows.snapSafeSpec.vars false W args.toList ds gs before := hW
  clear hW
  obtain ⟨v0, rfl⟩ := arr1 hlen
  obtain ⟨_, _, hA, _⟩ := id hW2
  obtain ⟨_, _, _, _, _, _, e1, e2, e3, h0, h1⟩ := trodAll_cons hA
  cases e1
  have hG := of_decide_eq_true hk
  rw [e2] at hG
  simp only [List.cons_append, Rows.uptoBulkAll] at hG
  obtain ⟨s, hst, hs⟩ := open_sta (hval 0 31 _ rfl rfl) h0 (by omega)
  refine (calls_true (fun _ _ => by rfl) (ssafe_ok s hs.c hs.pend hs.hist hs.run) (memW W) (repL1 hst repL0)).mono fun e W' ⟨he, hg⟩ => ?_
  subst he
  exact ⟨_, rfl, post_true (s := Rows.snapSafeSpec) (by kernel_rfl) (by kernel_rfl) rfl rfl Tryz.underlying4 hW2 hg fun hds => by
    rw [Tryz.params6] at hds
    match ds, hds with
    | [_], _ => exact ⟨rfl, rfl, rfl⟩⟩

theorem snapSafe_proved : Rows.SnapSafeUptoSaid :=
  OpenClaim.holds_of_cond 6 Tryz.f6 rfl rfl rfl rfl rfl rfl rfl ⟨rfl, rfl, rfl, rfl, rfl⟩ rfl rfl rfl rfl rfl (by kernel_rfl) Tryz.func6 (by kernel_rfl)
    (of_decide_eq_true (by kernel_rfl)) (by unfold Func.isWrapper; first | (rw [if_pos (by decide +kernel)]; kernel_rfl) | (rw [if_neg (by decide +kernel)]; exact ⟨rfl, rfl⟩))
    (fun os started H enc _ F => snapSafe_lifted os started H enc F)
end Go.Proofs.YtmalnhgopkfdaaaGreat
