/-
  SnapDecodes: the statement.
-/
import Derived.Test.YtmalnhgopkfdaaaGreatRows
import Derived.Test.YtmalnhgopkfdaaaGreatSBD
set_option linter.all false
open Go.Value renaming okWide->Js
namespace Go.Proofs.YtmalnhgopkfdaaaGreat
open Go Go.AW Go.Proofs
open Go.ChangeShapes Go.WideShapes Go.ChangeAt Go.RowKit

set_option maxRecDepth 100000 in
theorem pR (os:Os) (started:os.Started) (H:Type) (enc:TypeId×Value->H):
    ReturnsInHanded {} Tryz.checked os 3 .any (Rows.snapDecodesSpec.pre6 enc Tryz.prog Tryz.f3 Rows.snapDecodesRow.domain false) (Rows.snapDecodesSpec.post enc Tryz.prog Tryz.f3 false true false false):=by
  refine returnsInHanded_of_change (C:=Tryz.checked) (by kernel_rfl) started (by kernel_rfl) Tryz.func3
    (ChangeSpec.witness6 (enc:=enc) (C:=Tryz.checked) false ⟨#[],#[.string .empty],[]⟩ 8 (by kernel_rfl) (by kernel_rfl) (by kernel_rfl) (by kernel_rfl)) ?_
  intro W base args ds gs oD hval0 hW _ _
  have hval:∀ (j:Nat) t v,Tryz.f3.params[j]? =some t->args[j]? =some v->Js Tryz.prog W .any base t v:=hval0
  clear hval0
  have hlen:args.toList.length=Tryz.f3.params.toList.length:=by
    obtain ⟨_,_,hA,_⟩:=hW
    exact (tQ hA).1
  rw [Tryz.params3] at hval hlen
  have hW2:DataW.Whole enc Tryz.prog Tryz.f3.params.toList Rows.snapDecodesSpec.vars false W args.toList ds gs oD:=hW
  clear hW
  obtain ⟨v0,rfl⟩:=aCB hlen
  obtain ⟨l,hl⟩:=MJ (hval 0 9 _ rfl rfl)
  refine (IR (fun _ _=>by rfl) (DK l) (aCw W) (aBx hl aBy)).mono fun e W' ⟨he,hg⟩=>?_
  subst he
  exact ⟨_,rfl,MD (by kernel_rfl) (by kernel_rfl) rfl rfl Tryz.underlying4 hW2 hg fun hds=>by
    rw [Tryz.params3] at hds
    match ds,hds with
    | [_],_=>exact ⟨rfl,rfl,rfl⟩⟩

theorem snapDecodes_proved:Rows.SnapDecodesSaid:=
  OpenClaim.holds_of_wide 3 Tryz.f3 rfl rfl rfl rfl rfl rfl rfl ⟨rfl,rfl,rfl,rfl,rfl⟩ rfl rfl rfl rfl rfl (by kernel_rfl) Tryz.func3 (by kernel_rfl)
    (of_decide_eq_true (by kernel_rfl)) (by unfold Func.isWrapper;first | (rw [if_pos (by decide+kernel)];kernel_rfl) | (rw [if_neg (by decide+kernel)];exact ⟨rfl,rfl⟩))
    (fun os started H enc _=>pR os started H enc)
end Go.Proofs.YtmalnhgopkfdaaaGreat
