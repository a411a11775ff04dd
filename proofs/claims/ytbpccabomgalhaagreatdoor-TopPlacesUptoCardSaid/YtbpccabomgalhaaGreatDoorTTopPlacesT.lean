/-
  TopPlaces: the card of the second form: where what comes in is of bulk at most 1048576.
-/
import Derived.Test.YtbpccabomgalhaaGreatDoorCards
import Derived.Test.YtbpccabomgalhaaGreatDoorTie
import Derived.JoinedCond
import Derived.Test.YtbpccabomgalhaaGreatDoorLTP
set_option linter.all false
open Bool renaming and_assoc->Ia,and_eq_true->Ad
open Go.Value renaming okWide->Kx
open List renaming all_eq_true->Ct,cons_append->Ca
open Option.some renaming inj->Mi
namespace Go.Proofs.YtbpccabomgalhaaGreatDoor
open Go Go.AW Go.Proofs
open Go.ChangeShapes Go.WideShapes Go.ChangeAt Go.RowKit

theorem AH(os:Os){H:Type}(enc:TypeId×Value->H):∃ places,DataW.whole enc Tryz.prog ((xX os).forCall (λ_ _=>0) ⟨#[],#[.slice none 0 0],[]⟩).memory Tryz.f3.params.toList Rows.topPlacesSpec.vars false (#[.slice none 0 0]:Array Value).toList 8=some ([.nil],[],places):=⟨[],by kernel_rfl⟩
set_option maxRecDepth 100000 in
theorem xH(os:Os)(started:os.Started)(H:Type)(enc:TypeId×Value->H)(F:Stop.Interp):
    ReturnsInHanded {} Tryz.checked os 3 .any ((Rows.OpenSpec.upto Rows.topPlacesSpec).preRow enc Tryz.prog Tryz.f3 Rows.topPlacesUptoRow.domain false Rows.topPlacesUptoRow.laid) (((Rows.OpenSpec.upto Rows.topPlacesSpec).at F).post enc Tryz.prog Tryz.f3 false true false false):=by
  obtain ⟨places,hx⟩:=AH os enc
  refine returnsInHanded_of_row (C:=Tryz.checked) (s:=Rows.OpenSpec.upto Rows.topPlacesSpec) own started (by kernel_rfl) Tryz.func3
    (witness_row_atRef (enc:=enc) (C:=Tryz.checked) false (xX os) #[.slice none 0 0] rfl (by kernel_rfl) (by kernel_rfl) (by kernel_rfl)
      (OpenSpec.preRow_of_cond 8 hx (by kernel_rfl) (λ k hk=>by cases hk;kernel_rfl) (by kernel_rfl) (aCG os _))) ?_
  intro W base args ds gs rZ hval0 hW _ hcond _ hL _ _;have hk:=hcond _ rfl;obtain ⟨u,hv1,hv2,hv3⟩:=OG (W:=W) hL;have hval:∀ (j:Nat) t v,Tryz.f3.params[j]? =some t->args[j]? =some v->Kx Tryz.prog W .any base t v:=hval0;clear hval0;have hlen:args.toList.length=Tryz.f3.params.toList.length:=by
    obtain ⟨_,_,hA,_⟩:=hW;exact (zD hA).1
  rw [Tryz.params3] at hval hlen;have hW2:DataW.Whole enc Tryz.prog Tryz.f3.params.toList Rows.topPlacesSpec.vars false W args.toList ds gs rZ:=hW;clear hW;obtain ⟨v0,rfl⟩:=aN4 hlen;obtain ⟨_,_,hA,_⟩:=id hW2;obtain ⟨_,_,_,_,_,_,e1,e2,e3,h0,h1⟩:=trodAll_cons hA;cases e1;have hG:=of_decide_eq_true hk;rw [e2] at hG;simp only [Ca,Rows.uptoBulkAll] at hG;obtain ⟨l,hl,hll,hls⟩:=X8 (hval 0 22 _ rfl rfl) h0 (by omega);refine (O3 (λ_ _=>by rfl) (PZ l hll (λ x hx=>(hls x hx).c) R1) hv1 hv2 hv3 (aMq hl aMr)).mono λ e W' ⟨he,hg⟩=>?_;subst he
  exact ⟨_,rfl,X3 (s:=Rows.topPlacesSpec) (by kernel_rfl) (by kernel_rfl) rfl rfl Tryz.underlying4 hW2 hg λ hds=>by
    rw [Tryz.params3] at hds
    match ds,hds with
    | [_],_=>exact ⟨rfl,rfl,rfl⟩⟩

set_option maxHeartbeats 8000000 in
theorem xI:joinedFacts Tryz.pinned.checked.prog 3 Tryz.f3 (Rows.OpenSpec.upto Rows.topPlacesSpec).bare Rows.topPlacesUptoRow=true:=by
  unfold joinedFacts;iterate 9 rw [Ia]
  refine (Ad _ _).mpr ⟨?_,by as_aux_lemma=>kernel_rfl⟩;iterate 10 rw [Ia]
  exact (Ad _ _).mpr ⟨by as_aux_lemma=>kernel_rfl,by as_aux_lemma=>kernel_rfl⟩
theorem pZ:Tryz.pinned.checked.prog.funcNamed Rows.topPlacesUptoRow.func=some 3:=by kernel_rfl
theorem BX:Rows.TopPlacesUptoSaid:=
  OpenClaim.holds_of_cond 3 Tryz.f3 rfl rfl rfl rfl rfl rfl rfl ⟨rfl,rfl,rfl,rfl,rfl⟩ rfl rfl rfl rfl rfl pZ Tryz.func3 (by exact xI)
    (of_decide_eq_true (by kernel_rfl)) (by unfold Func.isWrapper;first | (rw [if_pos (by decide+kernel)];kernel_rfl) | (rw [if_neg (by decide+kernel)];exact ⟨rfl,rfl⟩))
    (λ os started H enc _ F=>by rw [OpenClaim.pre_eq_preRow];exact xH os started H enc F)
theorem AI(f:FuncId)(fn:Func)(hf:Tryz.pinned.checked.prog.funcNamed Rows.topPlacesUptoRow.func=some f)(hfn:Tryz.pinned.checked.prog.funcs[f]? =some fn):
    true=Tryz.pinned.checked.prog.looks []/\∀ (j:Nat) t,fn.params[j]? =some t->Tryz.pinned.checked.prog.wantsStandIn t=false:=by
  obtain rfl:f=3:=Mi (pZ.symm.trans hf) |>.symm;obtain rfl:fn=Tryz.f3:=(Mi (Tryz.func3.symm.trans hfn)).symm;refine ⟨by kernel_rfl,λ j t ht=>?_⟩;have hm:t∈Tryz.f3.params.toList:=by
    have:=Array.mem_of_getElem? ht;simpa using this
  rw [Tryz.params3] at hm;revert hm;revert t;exact λ t _ hm=>Ct.1 (show ([22]).all (λ t=>!Tryz.pinned.checked.prog.wantsStandIn t)=true by kernel_rfl) t hm |> λ h=>by simpa using h
theorem topPlaces_proved:Rows.TopPlacesUptoCardSaid:=
  Claim7.holds_tied_plain_at .later [] _ _ _ _ BX (λ_ h=>by cases h) (by kernel_rfl) (λ_ h=>by cases h) topPlacesUpto_row_tie rfl ⟨rfl,rfl⟩ (by kernel_rfl) rfl AI (by kernel_rfl)
end Go.Proofs.YtbpccabomgalhaaGreatDoor
