/-
  TopBytes: the card of the second form: where what comes in is of bulk at most 1048576.
-/
import Derived.Test.YtidhfoefaomodaaGreatDoorCards
import Derived.Test.YtidhfoefaomodaaGreatDoorTie
import Derived.JoinedCond
import Derived.Test.YtidhfoefaomodaaGreatDoorMLTB
set_option linter.all false
open Array renaming mem_of_getElem?->Ez
open Bool renaming and_assoc->Dd,and_eq_true->Af
open Go.Value renaming okWide->Bt
open List renaming all_eq_true->Cb,cons_append->Bu
open Option.some renaming inj->Db
namespace Go.Proofs.YtidhfoefaomodaaGreatDoor
open Go Go.AW Go.Proofs
open Go.ChangeShapes Go.WideShapes Go.ChangeAt Go.RowKit

theorem GM(os:Os){H:Type}(enc:TypeId×Value->H):∃ places,DataW.whole enc Tryz.prog ((cV os).forCall (λ_ _=>0) ⟨#[],#[.slice none 0 0],[]⟩).memory Tryz.f11.params.toList Rows.topBytesSpec.vars false (#[.slice none 0 0]:Array Value).toList 8=some ([.nil],[],places):=⟨[],by kernel_rfl⟩
set_option maxRecDepth 100000 in
theorem EO(os:Os)(started:os.Started)(H:Type)(enc:TypeId×Value->H)(F:Stop.Interp):
    ReturnsInHanded {} Tryz.checked os 11 .any ((Rows.OpenSpec.upto Rows.topBytesSpec).preRow enc Tryz.prog Tryz.f11 Rows.topBytesUptoRow.domain false Rows.topBytesUptoRow.laid) (((Rows.OpenSpec.upto Rows.topBytesSpec).at F).post enc Tryz.prog Tryz.f11 false true false false):=by
  obtain ⟨places,hx⟩:=GM os enc
  refine returnsInHanded_of_row (C:=Tryz.checked) (s:=Rows.OpenSpec.upto Rows.topBytesSpec) own started (by kernel_rfl) Tryz.func11
    (witness_row_atRef (enc:=enc) (C:=Tryz.checked) false (cV os) #[.slice none 0 0] rfl (by kernel_rfl) (by kernel_rfl) (by kernel_rfl)
      (OpenSpec.preRow_of_cond 8 hx (by kernel_rfl) (λ k hk=>by cases hk;kernel_rfl) (by kernel_rfl) (nC os _))) ?_
  intro W base args ds gs iC hval0 hW _ hcond _ hL _ _;have hk:=hcond _ rfl;obtain ⟨u,hv1,hv2,hv3⟩:=gG (W:=W) hL;have hval:∀ (j:Nat) t v,Tryz.f11.params[j]? =some t->args[j]? =some v->Bt Tryz.prog W .any base t v:=hval0;clear hval0;have hlen:args.toList.length=Tryz.f11.params.toList.length:=by
    obtain ⟨_,_,hA,_⟩:=hW;exact (eU hA).1
  rw [Tryz.params11] at hval hlen;have hW2:DataW.Whole enc Tryz.prog Tryz.f11.params.toList Rows.topBytesSpec.vars false W args.toList ds gs iC:=hW;clear hW;obtain ⟨v0,rfl⟩:=YP hlen;obtain ⟨_,_,hA,_⟩:=id hW2;obtain ⟨_,_,_,_,_,_,e1,e2,e3,h0,h1⟩:=trodAll_cons hA;cases e1;have hG:=of_decide_eq_true hk;rw [e2] at hG;simp only [Bu,Rows.uptoBulkAll] at hG;obtain ⟨l,hl,hll,hls⟩:=mA (hval 0 53 _ rfl rfl) h0 (by omega);refine (gH (λ_ _=>by rfl) (aDG l hll (λ p hp=>(hls p hp).c) BU) hv1 hv2 hv3 (tY hl D5)).mono λ e W' ⟨he,hg⟩=>?_;subst he
  exact ⟨_,rfl,kK (s:=Rows.topBytesSpec) (by kernel_rfl) (by kernel_rfl) rfl rfl Tryz.underlying4 hW2 hg λ hds=>by
    rw [Tryz.params11] at hds
    match ds,hds with
    | [_],_=>exact ⟨rfl,rfl,rfl⟩⟩

set_option maxHeartbeats 8000000 in
theorem EP:joinedFacts Tryz.pinned.checked.prog 11 Tryz.f11 (Rows.OpenSpec.upto Rows.topBytesSpec).bare Rows.topBytesUptoRow=true:=by
  unfold joinedFacts;iterate 9 rw [Dd]
  refine (Af _ _).mpr ⟨?_,by as_aux_lemma=>kernel_rfl⟩;iterate 10 rw [Dd]
  exact (Af _ _).mpr ⟨by as_aux_lemma=>kernel_rfl,by as_aux_lemma=>kernel_rfl⟩
theorem vC:Tryz.pinned.checked.prog.funcNamed Rows.topBytesUptoRow.func=some 11:=by kernel_rfl
theorem J9:Rows.TopBytesUptoSaid:=
  OpenClaim.holds_of_cond 11 Tryz.f11 rfl rfl rfl rfl rfl rfl rfl ⟨rfl,rfl,rfl,rfl,rfl⟩ rfl rfl rfl rfl rfl vC Tryz.func11 (by exact EP)
    (of_decide_eq_true (by kernel_rfl)) (by unfold Func.isWrapper;first | (rw [if_pos (by decide+kernel)];kernel_rfl) | (rw [if_neg (by decide+kernel)];exact ⟨rfl,rfl⟩))
    (λ os started H enc _ F=>by rw [OpenClaim.pre_eq_preRow];exact EO os started H enc F)
theorem GN(f:FuncId)(fn:Func)(hf:Tryz.pinned.checked.prog.funcNamed Rows.topBytesUptoRow.func=some f)(hfn:Tryz.pinned.checked.prog.funcs[f]? =some fn):
    true=Tryz.pinned.checked.prog.looks []/\∀ (j:Nat) t,fn.params[j]? =some t->Tryz.pinned.checked.prog.wantsStandIn t=false:=by
  obtain rfl:f=11:=Db (vC.symm.trans hf) |>.symm;obtain rfl:fn=Tryz.f11:=(Db (Tryz.func11.symm.trans hfn)).symm;refine ⟨by kernel_rfl,λ j t ht=>?_⟩;have hm:t∈Tryz.f11.params.toList:=by
    have:=Ez ht;simpa using this
  rw [Tryz.params11] at hm;revert hm;revert t;exact λ t _ hm=>Cb.1 (show ([53]).all (λ t=>!Tryz.pinned.checked.prog.wantsStandIn t)=true by kernel_rfl) t hm |> λ h=>by simpa using h
theorem topBytes_proved:Rows.TopBytesUptoCardSaid:=
  Claim7.holds_tied_plain_at .later [] _ _ _ _ J9 (λ_ h=>by cases h) (by kernel_rfl) (λ_ h=>by cases h) topBytesUpto_row_tie rfl ⟨rfl,rfl⟩ (by kernel_rfl) rfl GN (by kernel_rfl)
end Go.Proofs.YtidhfoefaomodaaGreatDoor
