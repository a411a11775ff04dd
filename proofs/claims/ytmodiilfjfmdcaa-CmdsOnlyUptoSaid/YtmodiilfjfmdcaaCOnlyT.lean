/-
  CmdsOnly: the statement of the second form: where what comes in is of bulk at most 1048576.
-/
import Derived.Test.YtmodiilfjfmdcaaRows
import Derived.Test.YtmodiilfjfmdcaaCB
import Derived.JoinedCond
namespace Go.Proofs.Ytmodiilfjfmdcaa
open Go Go.AW Go.Proofs
open Go.ChangeShapes Go.WideShapes Go.ChangeAt Go.RowKit

set_option maxRecDepth 100000 in
theorem cmdsOnly_lifted (os : Os) (started : os.Started) (H : Type) (enc : TypeId × Value → H) (F : Stop.Interp) :
    ReturnsInHanded {} Try.checked os 6 .any ((Rows.OpenSpec.upto Rows.cmdsOnlySpec).pre6 enc Try.prog Try.f6 Rows.cmdsOnlyUptoRow.domain false) (((Rows.OpenSpec.upto Rows.cmdsOnlySpec).at F).post enc Try.prog Try.f6 false true false false) := by
  refine returnsInHanded_of_cond (C := Try.checked) (s := Rows.OpenSpec.upto Rows.cmdsOnlySpec) (k := Rows.uptoSmall) rfl (by kernel_rfl) started (by kernel_rfl) Try.func6
    (OpenSpec.witness (enc := enc) (C := Try.checked) (s := Rows.OpenSpec.upto Rows.cmdsOnlySpec) (k := Rows.uptoSmall) rfl false ⟨#[], #[.string .empty], []⟩ 8 (by kernel_rfl) (by kernel_rfl) (by kernel_rfl)
      (x := ([.lit (.string [])], [], [])) (by kernel_rfl) rfl (by kernel_rfl)) ?_
  intro W base args ds gs before hval0 hW _ hk _
  have hval : ∀ (j : Nat) t v, Try.f6.params[j]? = some t → args[j]? = some v → Value.okWide Try.prog W .any base t v := hval0
  clear hval0
  have hlen : args.toList.length = Try.f6.params.toList.length := by
    obtain ⟨_, _, hA, _⟩ := hW
    exact (trodAll_len hA).1
  rw [Try.params6] at hval hlen
  have hW2 : DataW.Whole enc Try.prog Try.f6.params.toList Rows.cmdsOnlySpec.vars false W args.toList ds gs before := hW
  clear hW
  obtain ⟨v0, rfl⟩ := arr1 hlen
  obtain ⟨_, _, hA, _⟩ := id hW2
  obtain ⟨_, _, _, _, _, _, e1, e2, e3, h0, h1⟩ := trodAll_cons hA
  cases e1
  obtain ⟨l, hv, hl⟩ := open_text (hval 0 9 _ rfl rfl)
  obtain ⟨s, hs, hd, _, _⟩ := Go.ChangeMaps.open_string Try.underlying9 (hval 0 9 _ rfl rfl) h0
  have hlen : l.length ≤ 1000000000 := by
    have h := of_decide_eq_true hk
    rw [e2, hd] at h
    simp only [List.cons_append, Rows.uptoBulkAll, Rows.uptoBulk] at h
    have : s.data.toList = l := by
      rw [hv] at hs
      cases hs
      rfl
    rw [this] at h
    omega
  refine (calls_true (fun _ _ => by rfl) (only_ok l hlen) (memW W) (repL1 hl repL0)).mono fun e W' ⟨he, hg⟩ => ?_
  subst he
  exact ⟨_, rfl, post_true (s := Rows.cmdsOnlySpec) (by kernel_rfl) (by kernel_rfl) rfl rfl Try.underlying4 hW2 hg fun hds => by
    rw [Try.params6] at hds
    match ds, hds with
    | [_], _ => exact ⟨rfl, rfl, rfl⟩⟩

theorem cmdsOnly_proved : Rows.CmdsOnlyUptoSaid :=
  OpenClaim.holds_of_cond 6 Try.f6 rfl rfl rfl rfl rfl rfl rfl ⟨rfl, rfl, rfl, rfl, rfl⟩ rfl rfl rfl rfl rfl (by kernel_rfl) Try.func6 (by kernel_rfl)
    (of_decide_eq_true (by kernel_rfl)) (by unfold Func.isWrapper; first | (rw [if_pos (by decide +kernel)]; kernel_rfl) | (rw [if_neg (by decide +kernel)]; exact ⟨rfl, rfl⟩))
    (fun os started H enc _ F => cmdsOnly_lifted os started H enc F)
end Go.Proofs.Ytmodiilfjfmdcaa
