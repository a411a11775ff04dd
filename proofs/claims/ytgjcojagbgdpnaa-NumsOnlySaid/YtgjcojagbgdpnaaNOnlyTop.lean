/-
  NumsOnly: the statement.
-/
import Derived.Test.YtgjcojagbgdpnaaRows
import Derived.Test.YtgjcojagbgdpnaaNOnly
import Derived.WalkKit
import Derived.ProofKit
import Derived.OpenShut
namespace Go.Proofs.Ytgjcojagbgdpnaa
open Go Go.AM Go.Proofs
open Go.ChangeShapes Go.WideShapes Go.ChangeAt Go.RowKit
open Go.ChangeMaps (open_string shut_string)

theorem own : ownKnob Try.prog.godebug = none := by kernel_rfl

/-- nothing of what was there is turned -/
theorem below_of {M M' : Imm} {w w' : World} (h : Ext M [] [] w M' [] [] w') : Below w.heap.size w w' :=
  ⟨h.os, h.tape, h.output, h.size, fun k hk => h.keep k hk (by simp) (fun t ht => by simp at ht)⟩

theorem mem0 (w : World) : Mem (fun _ _ => none) [] [] [] w where
  imm b o x h := by cases h
  len := rfl
  obj k c h := by simp at h
  lt b h := by simp at h
  inj := List.nodup_nil
  tok τ t h := by simp at h
  tokobj τ t g h := by simp at h
  tokinj τ τ' t t' g h := by simp at h

theorem calls_true {f : FuncId} {args : List AVal} {vargs : List Value} {w : World} {M : Imm} (h : CallOK Try.prog f args [] 0 (.ret (.bool true)) [] 0) (hm : Mem M [] [] [] w) (hr : RepL M [] [] vargs args) :
    Calls Try.prog f vargs.toArray w fun e w' => e = .returned (.bool true) ∧ Below w.heap.size w w' := by
  refine (h.2 M [] [] w vargs hm rfl hr).mono fun e w' ⟨M', ob', tk', h1, h2, h3, h4⟩ => ?_
  have e1 : ob' = [] := by have := h2.len; simpa using this
  have e2 : tk' = [] := by simpa using h3
  subst e1 e2
  refine ⟨?_, below_of h1⟩
  cases e with
  | returned v => rw [Rep.bool_inv h4]
  | panicked ch => exact h4.elim
  | outgrown => exact h4.elim

set_option maxRecDepth 100000 in
theorem only_lifted (os : Os) (started : os.Started) (H : Type) (enc : TypeId × Value → H) :
    ReturnsInHanded {} Try.checked os 3 .any (Rows.numsOnlySpec.pre6 enc Try.prog Try.f3 Rows.numsOnlyRow.domain false) (Rows.numsOnlySpec.post enc Try.prog Try.f3 false true false false) := by
  refine returnsInHanded_of_change (C := Try.checked) own started (by kernel_rfl) Try.func3
    (ChangeSpec.witness6 (enc := enc) (C := Try.checked) false ⟨#[], #[.string .empty], []⟩ 8 (by kernel_rfl) (by kernel_rfl) (by kernel_rfl) (by kernel_rfl)) ?_
  intro W base args ds gs before hval0 hW hcnd _
  have hval : ∀ (j : Nat) t v, Try.f3.params[j]? = some t → args[j]? = some v → Value.okWide Try.prog W .any base t v := hval0
  have hW' := hW
  obtain ⟨p, q, hA0, hV, rfl, hfz, hnd⟩ := hW
  have hA : DataW.TrodAll enc Try.prog W 0 (fun _ => true) true Try.f3.params.toList args.toList ds p := hA0
  rw [Try.params3] at hA hval
  obtain ⟨v0, vs0, d0, ds0, p0, q0, hargs, rfl, rfl, h0, r0⟩ := trodAll_cons hA
  obtain ⟨rfl, rfl, rfl⟩ := trodAll_nil r0
  obtain rfl : args = #[v0] := by cases args; simp_all
  obtain ⟨rfl, rfl⟩ := trodVars_none hV
  obtain ⟨s, rfl, rfl, rfl, hmax⟩ := open_string Try.underlying9 (hval 0 9 v0 rfl rfl) h0
  clear hA0 hval0
  simp only [List.append_nil] at hW'
  obtain ⟨⟨l⟩⟩ := s
  refine (calls_true (only_ok l) (mem0 W) ⟨rfl, fun i v a hv ha => ?_⟩).mono fun e W' ⟨he, hg⟩ => ?_
  · cases i with
    | zero => simp at hv ha; subst hv ha; exact .str l
    | succ i => simp at hv
  subst he
  refine ⟨_, rfl, _, _, _, [], [], [], hW', trodAll_cons_mk (shut_bool Try.underlying4 _) trodAll_mk0, trodAll_cons_mk (shut_string Try.underlying9 hmax) trodAll_mk0, rfl, hg.frame _, fun h => by cases h⟩

theorem numsOnly_proved : Rows.NumsOnlySaid :=
  OpenClaim.holds_of_wide 3 Try.f3 rfl rfl rfl rfl rfl rfl rfl ⟨rfl, rfl, rfl, rfl, rfl⟩ rfl rfl rfl rfl rfl (by kernel_rfl) Try.func3 (by kernel_rfl)
    (of_decide_eq_true (by kernel_rfl)) (by unfold Func.isWrapper; first | (rw [if_pos (by decide +kernel)]; kernel_rfl) | (rw [if_neg (by decide +kernel)]; exact ⟨rfl, rfl⟩))
    (fun os started H enc _ => only_lifted os started H enc)
end Go.Proofs.Ytgjcojagbgdpnaa
