/-
  BackfillShorter: the statement.
-/
import Derived.Test.YtlalcoklkafnnaaRows
import Derived.Test.YtlalcoklkafnnaaHB
namespace Go.Proofs.Ytlalcoklkafnnaa
open Go Go.AW Go.Proofs
open Go.ChangeShapes Go.WideShapes Go.ChangeAt Go.RowKit

set_option maxRecDepth 100000 in
theorem backfillShorter_lifted (os : Os) (started : os.Started) (H : Type) (enc : TypeId × Value → H) :
    ReturnsInHanded {} Try.checked os 8 .any (Rows.backfillShorterSpec.pre6 enc Try.prog Try.f8 Rows.backfillShorterRow.domain false) (Rows.backfillShorterSpec.post enc Try.prog Try.f8 false true false false) := by
  refine returnsInHanded_of_change (C := Try.checked) (by kernel_rfl) started (by kernel_rfl) Try.func8
    (ChangeSpec.witness6 (enc := enc) (C := Try.checked) false ⟨#[], #[.int .i64 0, .agg #[.int .i64 0, .int .i64 0, .int .i64 0, .int .i64 0, .int .i64 0, .int .i64 0, .int .i64 0, .int .i64 0, .int .i64 0], .int .i64 0], []⟩ 8 (by kernel_rfl) (by kernel_rfl) (by kernel_rfl) (by kernel_rfl)) ?_
  intro W base args ds gs before hval0 hW _ _
  have hval : ∀ (j : Nat) t v, Try.f8.params[j]? = some t → args[j]? = some v → Value.okWide Try.prog W .any base t v := hval0
  clear hval0
  have hlen : args.toList.length = Try.f8.params.toList.length := by
    obtain ⟨_, _, hA, _⟩ := hW
    exact (trodAll_len hA).1
  rw [Try.params8] at hval hlen
  have hW2 : DataW.Whole enc Try.prog Try.f8.params.toList Rows.backfillShorterSpec.vars false W args.toList ds gs before := hW
  clear hW
  obtain ⟨v0, v1, v2, rfl⟩ := arr3 hlen
  obtain ⟨_, _, hA, _⟩ := id hW2
  obtain ⟨_, _, _, _, _, _, e1, e2, e3, h0, h1⟩ := trodAll_cons hA
  cases e1
  obtain ⟨n, hn⟩ := open_int (hval 0 3 _ rfl rfl)
  obtain ⟨_, _, _, _, _, _, f1, f2, f3, h2, h3⟩ := trodAll_cons h1
  cases f1
  obtain ⟨x, hx⟩ := open_gang (hval 1 29 _ rfl rfl) h2
  obtain ⟨t, ht⟩ := open_int (hval 2 3 _ rfl rfl)
  refine (calls_true (fun _ _ => by rfl) (shorter_ok n x t) (memW W) (repL1 hn (repL1 hx (repL1 ht repL0)))).mono fun e W' ⟨he, hg⟩ => ?_
  subst he
  exact ⟨_, rfl, post_true (by kernel_rfl) (by kernel_rfl) rfl rfl Try.underlying4 hW2 hg fun hds => by
    rw [Try.params8] at hds
    match ds, hds with
    | [_, _, _], _ => exact ⟨rfl, rfl, rfl⟩⟩

theorem backfillShorter_proved : Rows.BackfillShorterSaid :=
  OpenClaim.holds_of_wide 8 Try.f8 rfl rfl rfl rfl rfl rfl rfl ⟨rfl, rfl, rfl, rfl, rfl⟩ rfl rfl rfl rfl rfl (by kernel_rfl) Try.func8 (by kernel_rfl)
    (of_decide_eq_true (by kernel_rfl)) (by unfold Func.isWrapper; first | (rw [if_pos (by decide +kernel)]; kernel_rfl) | (rw [if_neg (by decide +kernel)]; exact ⟨rfl, rfl⟩))
    (fun os started H enc _ => backfillShorter_lifted os started H enc)
end Go.Proofs.Ytlalcoklkafnnaa
