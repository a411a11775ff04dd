/-
  SnapOnly: the statement.
-/
import Derived.Test.YtmalnhgopkfdaaaGreatRows
import Derived.Test.YtmalnhgopkfdaaaGreatSBO
set_option linter.all false
open Go.Value renaming okWide->Iv
namespace Go.Proofs.YtmalnhgopkfdaaaGreat
open Go Go.AW Go.Proofs
open Go.ChangeShapes Go.WideShapes Go.ChangeAt Go.RowKit

set_option maxRecDepth 100000 in
theorem qP (os:Os) (started:os.Started) (H:Type) (enc:TypeId×Value->H):
    ReturnsInHanded {} Tryz.checked os 5 .any (Rows.snapOnlySpec.pre6 enc Tryz.prog Tryz.f5 Rows.snapOnlyRow.domain false) (Rows.snapOnlySpec.post enc Tryz.prog Tryz.f5 false true false false):=by
  refine returnsInHanded_of_change (C:=Tryz.checked) (by kernel_rfl) started (by kernel_rfl) Tryz.func5
    (ChangeSpec.witness6 (enc:=enc) (C:=Tryz.checked) false ⟨#[],#[.string .empty],[]⟩ 8 (by kernel_rfl) (by kernel_rfl) (by kernel_rfl) (by kernel_rfl)) ?_
  intro W base args ds gs yU hval0 hW _ _
  have hval:∀ (j:Nat) t v,Tryz.f5.params[j]? =some t->args[j]? =some v->Iv Tryz.prog W .any base t v:=hval0
  clear hval0
  have hlen:args.toList.length=Tryz.f5.params.toList.length:=by
    obtain ⟨_,_,hA,_⟩:=hW
    exact (pW hA).1
  rw [Tryz.params5] at hval hlen
  have hW2:DataW.Whole enc Tryz.prog Tryz.f5.params.toList Rows.snapOnlySpec.vars false W args.toList ds gs yU:=hW
  clear hW
  obtain ⟨v0,rfl⟩:=VZ hlen
  obtain ⟨l,hl⟩:=GG (hval 0 9 _ rfl rfl)
  refine (DN (fun _ _=>by rfl) (IB l) (VR W) (UH hl UI)).mono fun e W' ⟨he,hg⟩=>?_
  subst he
  exact ⟨_,rfl,GB (by kernel_rfl) (by kernel_rfl) rfl rfl Tryz.underlying4 hW2 hg fun hds=>by
    rw [Tryz.params5] at hds
    match ds,hds with
    | [_],_=>exact ⟨rfl,rfl,rfl⟩⟩

theorem snapOnly_proved:Rows.SnapOnlySaid:=
  OpenClaim.holds_of_wide 5 Tryz.f5 rfl rfl rfl rfl rfl rfl rfl ⟨rfl,rfl,rfl,rfl,rfl⟩ rfl rfl rfl rfl rfl (by kernel_rfl) Tryz.func5 (by kernel_rfl)
    (of_decide_eq_true (by kernel_rfl)) (by unfold Func.isWrapper;first | (rw [if_pos (by decide+kernel)];kernel_rfl) | (rw [if_neg (by decide+kernel)];exact ⟨rfl,rfl⟩))
    (fun os started H enc _=>qP os started H enc)
end Go.Proofs.YtmalnhgopkfdaaaGreat
