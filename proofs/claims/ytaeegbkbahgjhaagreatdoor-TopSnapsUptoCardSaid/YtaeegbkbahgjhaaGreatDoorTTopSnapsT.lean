/-
  TopSnaps: the card of the second form: where what comes in is of bulk at most 1048576.
-/
import Derived.Test.YtaeegbkbahgjhaaGreatDoorCards
import Derived.Test.YtaeegbkbahgjhaaGreatDoorTie
import Derived.JoinedCond
import Derived.Test.YtaeegbkbahgjhaaGreatDoorLTSn
set_option linter.all false
open Bool renaming and_assoc->Ih,and_eq_true->Ad
open Go.Value renaming okWide->La
open List renaming all_eq_true->Cr,cons_append->Ce
open Option.some renaming inj->Mp
namespace Go.Proofs.YtaeegbkbahgjhaaGreatDoor
open Go Go.AW Go.Proofs
open Go.ChangeShapes Go.WideShapes Go.ChangeAt Go.RowKit

theorem CB(os:Os){H:Type}(enc:TypeId×Value->H):∃ places,DataW.whole enc Tryz.prog ((yB os).forCall (λ_ _=>0) ⟨#[],#[.slice none 0 0],[]⟩).memory Tryz.f3.params.toList Rows.topSnapsSpec.vars false (#[.slice none 0 0]:Array Value).toList 8=some ([.nil],[],places):=⟨[],by kernel_rfl⟩
set_option maxRecDepth 100000 in
theorem AR(os:Os)(started:os.Started)(H:Type)(enc:TypeId×Value->H)(F:Stop.Interp):
    ReturnsInHanded {} Tryz.checked os 3 .any ((Rows.OpenSpec.upto Rows.topSnapsSpec).preRow enc Tryz.prog Tryz.f3 Rows.topSnapsUptoRow.domain false Rows.topSnapsUptoRow.laid) (((Rows.OpenSpec.upto Rows.topSnapsSpec).at F).post enc Tryz.prog Tryz.f3 false true false false):=by
  obtain ⟨places,hx⟩:=CB os enc
  refine returnsInHanded_of_row (C:=Tryz.checked) (s:=Rows.OpenSpec.upto Rows.topSnapsSpec) own started (by kernel_rfl) Tryz.func3
    (witness_row_atRef (enc:=enc) (C:=Tryz.checked) false (yB os) #[.slice none 0 0] rfl (by kernel_rfl) (by kernel_rfl) (by kernel_rfl)
      (OpenSpec.preRow_of_cond 8 hx (by kernel_rfl) (λ k hk=>by cases hk;kernel_rfl) (by kernel_rfl) (aCI os _))) ?_
  intro W base args ds gs iZ hval0 hW _ hcond _ hL _ _;have hk:=hcond _ rfl;obtain ⟨u,hv1,hv2,hv3⟩:=OV (W:=W) hL;have hval:∀ (j:Nat) t v,Tryz.f3.params[j]? =some t->args[j]? =some v->La Tryz.prog W .any base t v:=hval0;clear hval0;have hlen:args.toList.length=Tryz.f3.params.toList.length:=by
    obtain ⟨_,_,hA,_⟩:=hW;exact (zK hA).1
  rw [Tryz.params3] at hval hlen;have hW2:DataW.Whole enc Tryz.prog Tryz.f3.params.toList Rows.topSnapsSpec.vars false W args.toList ds gs iZ:=hW;clear hW;obtain ⟨v0,rfl⟩:=aN3 hlen;obtain ⟨_,_,hA,_⟩:=id hW2;obtain ⟨_,_,_,_,_,_,e1,e2,e3,h0,h1⟩:=trodAll_cons hA;cases e1;have hG:=of_decide_eq_true hk;rw [e2] at hG;simp only [Ce,Rows.uptoBulkAll] at hG;obtain ⟨l,hl,hll,hls⟩:=YU (hval 0 22 _ rfl rfl) h0 (by omega);refine (PL (λ_ _=>by rfl) (XU l hll (λ p hp=>(hls p hp).c) SK) hv1 hv2 hv3 (aMu hl aMv)).mono λ e W' ⟨he,hg⟩=>?_;subst he
  exact ⟨_,rfl,YQ (s:=Rows.topSnapsSpec) (by kernel_rfl) (by kernel_rfl) rfl rfl Tryz.underlying4 hW2 hg λ hds=>by
    rw [Tryz.params3] at hds
    match ds,hds with
    | [_],_=>exact ⟨rfl,rfl,rfl⟩⟩

set_option maxHeartbeats 8000000 in
theorem AT:joinedFacts Tryz.pinned.checked.prog 3 Tryz.f3 (Rows.OpenSpec.upto Rows.topSnapsSpec).bare Rows.topSnapsUptoRow=true:=by
  unfold joinedFacts;iterate 9 rw [Ih]
  refine (Ad _ _).mpr ⟨?_,by as_aux_lemma=>kernel_rfl⟩;iterate 10 rw [Ih]
  exact (Ad _ _).mpr ⟨by as_aux_lemma=>kernel_rfl,by as_aux_lemma=>kernel_rfl⟩
theorem qR:Tryz.pinned.checked.prog.funcNamed Rows.topSnapsUptoRow.func=some 3:=by kernel_rfl
theorem FB:Rows.TopSnapsUptoSaid:=
  OpenClaim.holds_of_cond 3 Tryz.f3 rfl rfl rfl rfl rfl rfl rfl ⟨rfl,rfl,rfl,rfl,rfl⟩ rfl rfl rfl rfl rfl qR Tryz.func3 (by exact AT)
    (of_decide_eq_true (by kernel_rfl)) (by unfold Func.isWrapper;first | (rw [if_pos (by decide+kernel)];kernel_rfl) | (rw [if_neg (by decide+kernel)];exact ⟨rfl,rfl⟩))
    (λ os started H enc _ F=>by rw [OpenClaim.pre_eq_preRow];exact AR os started H enc F)
theorem CC(f:FuncId)(fn:Func)(hf:Tryz.pinned.checked.prog.funcNamed Rows.topSnapsUptoRow.func=some f)(hfn:Tryz.pinned.checked.prog.funcs[f]? =some fn):
    true=Tryz.pinned.checked.prog.looks []/\∀ (j:Nat) t,fn.params[j]? =some t->Tryz.pinned.checked.prog.wantsStandIn t=false:=by
  obtain rfl:f=3:=Mp (qR.symm.trans hf) |>.symm;obtain rfl:fn=Tryz.f3:=(Mp (Tryz.func3.symm.trans hfn)).symm;refine ⟨by kernel_rfl,λ j t ht=>?_⟩;have hm:t∈Tryz.f3.params.toList:=by
    have:=Array.mem_of_getElem? ht;simpa using this
  rw [Tryz.params3] at hm;revert hm;revert t;exact λ t _ hm=>Cr.1 (show ([22]).all (λ t=>!Tryz.pinned.checked.prog.wantsStandIn t)=true by kernel_rfl) t hm |> λ h=>by simpa using h
theorem topSnaps_proved:Rows.TopSnapsUptoCardSaid:=
  Claim7.holds_tied_plain_at .later [] _ _ _ _ FB (λ_ h=>by cases h) (by kernel_rfl) (λ_ h=>by cases h) topSnapsUpto_row_tie rfl ⟨rfl,rfl⟩ (by kernel_rfl) rfl CC (by kernel_rfl)
end Go.Proofs.YtaeegbkbahgjhaaGreatDoor
