/-
  DriverNone: the card of the second form: where what comes in is of bulk at most 1048576.
-/
import Derived.Test.YtidhfoefaomodaaGreatDoorCards
import Derived.Test.YtidhfoefaomodaaGreatDoorTie
import Derived.Test.YtidhfoefaomodaaGreatDoorTA
import Derived.JoinedCond
set_option linter.all false
open Bool renaming and_assoc->Ij,and_eq_true->Ad
open Go.Value renaming okWide->Lc
open List renaming all_eq_true->Cq,cons_append->Cc
open Option.some renaming inj->Nn
namespace Go.Proofs.YtidhfoefaomodaaGreatDoor
open Go Go.AW Go.Proofs
open Go.ChangeShapes Go.WideShapes Go.ChangeAt Go.RowKit

theorem xU (os:Os) {H:Type} (enc:TypeId×Value->H):∃ places,DataW.whole enc Tryz.prog ((xI os).forCall (λ_ _=>0) ⟨#[],#[.agg #[.int .i64 0,.int .i64 0,.slice none 0 0,.slice none 0 0,.int .i64 0,.int .i64 0,.int .i64 0,.int .i64 0,.int .i64 0,.int .i64 0,.int .i64 0,.int .i64 0,.int .i64 0,.int .i64 0,.int .i64 0,.int .i64 0,.int .i64 0]],[]⟩).memory Tryz.f9.params.toList Rows.driverNoneSpec.vars false (#[.agg #[.int .i64 0,.int .i64 0,.slice none 0 0,.slice none 0 0,.int .i64 0,.int .i64 0,.int .i64 0,.int .i64 0,.int .i64 0,.int .i64 0,.int .i64 0,.int .i64 0,.int .i64 0,.int .i64 0,.int .i64 0,.int .i64 0,.int .i64 0]]:Array Value).toList 8=some ([.agg [.lit (.int .i64 0),.agg [.lit (.int .i64 0),.agg [.nil,.nil,.lit (.int .i64 0),.lit (.int .i64 0)],.agg [.lit (.int .i64 0),.lit (.int .i64 0),.lit (.int .i64 0),.agg [.lit (.int .i64 0),.lit (.int .i64 0),.lit (.int .i64 0)],.lit (.int .i64 0),.lit (.int .i64 0),.lit (.int .i64 0)],.lit (.int .i64 0)],.lit (.int .i64 0)]],[],places):=⟨[],by kernel_rfl⟩
set_option maxRecDepth 100000 in
theorem wK (os:Os) (started:os.Started) (H:Type) (enc:TypeId×Value->H) (F:Stop.Interp):
    ReturnsInHanded {} Tryz.checked os 9 .any ((Rows.OpenSpec.upto Rows.driverNoneSpec).preRow enc Tryz.prog Tryz.f9 Rows.driverNoneUptoRow.domain false Rows.driverNoneUptoRow.laid) (((Rows.OpenSpec.upto Rows.driverNoneSpec).at F).post enc Tryz.prog Tryz.f9 false true false false):=by
  obtain ⟨places,hx⟩:=xU os enc
  refine returnsInHanded_of_row (C:=Tryz.checked) (s:=Rows.OpenSpec.upto Rows.driverNoneSpec) own started (by kernel_rfl) Tryz.func9
    (witness_row_atRef (enc:=enc) (C:=Tryz.checked) false (xI os) #[.agg #[.int .i64 0,.int .i64 0,.slice none 0 0,.slice none 0 0,.int .i64 0,.int .i64 0,.int .i64 0,.int .i64 0,.int .i64 0,.int .i64 0,.int .i64 0,.int .i64 0,.int .i64 0,.int .i64 0,.int .i64 0,.int .i64 0,.int .i64 0]] rfl (by kernel_rfl) (by kernel_rfl) (by kernel_rfl)
      (OpenSpec.preRow_of_cond 8 hx (by kernel_rfl) (λ k hk=>by cases hk;kernel_rfl) (by kernel_rfl) (aBZ os _))) ?_
  intro W base args ds gs JW hval0 hW _ hcond _ hL _ _;have hk:=hcond _ rfl;obtain ⟨u,hv1,hv2,hv3⟩:=NU (W:=W) hL;have hval:∀ (j:Nat) t v,Tryz.f9.params[j]? =some t->args[j]? =some v->Lc Tryz.prog W .any base t v:=hval0;clear hval0;have hlen:args.toList.length=Tryz.f9.params.toList.length:=by
    obtain ⟨_,_,hA,_⟩:=hW;exact (yN hA).1
  rw [Tryz.params9] at hval hlen;have hW2:DataW.Whole enc Tryz.prog Tryz.f9.params.toList Rows.driverNoneSpec.vars false W args.toList ds gs JW:=hW;clear hW;obtain ⟨v0,rfl⟩:=aMX hlen;obtain ⟨_,_,hA,_⟩:=id hW2;obtain ⟨_,_,_,_,_,_,e1,e2,e3,h0,h1⟩:=trodAll_cons hA;cases e1;have hG:=of_decide_eq_true hk;rw [e2] at hG;simp only [Cc,Rows.uptoBulkAll] at hG;obtain ⟨p,hp,hps⟩:=aBp (hval 0 60 _ rfl rfl) h0 (by omega);refine (OG (λ_ _=>by rfl) (aDj p Q5) hv1 hv2 hv3 (aLk hp aLl)).mono λ e W' ⟨he,hg⟩=>?_;subst he
  exact ⟨_,rfl,XE (s:=Rows.driverNoneSpec) (by kernel_rfl) (by kernel_rfl) rfl rfl Tryz.underlying4 hW2 hg λ hds=>by
    rw [Tryz.params9] at hds
    match ds,hds with
    | [_],_=>exact ⟨rfl,rfl,rfl⟩⟩

set_option maxHeartbeats 8000000 in
theorem wL:joinedFacts Tryz.pinned.checked.prog 9 Tryz.f9 (Rows.OpenSpec.upto Rows.driverNoneSpec).bare Rows.driverNoneUptoRow=true:=by
  unfold joinedFacts;iterate 9 rw [Ij]
  refine (Ad _ _).mpr ⟨?_,by as_aux_lemma=>kernel_rfl⟩;iterate 10 rw [Ij]
  exact (Ad _ _).mpr ⟨by as_aux_lemma=>kernel_rfl,by as_aux_lemma=>kernel_rfl⟩
theorem oC:Tryz.pinned.checked.prog.funcNamed Rows.driverNoneUptoRow.func=some 9:=by kernel_rfl
theorem zZ:Rows.DriverNoneUptoSaid:=
  OpenClaim.holds_of_cond 9 Tryz.f9 rfl rfl rfl rfl rfl rfl rfl ⟨rfl,rfl,rfl,rfl,rfl⟩ rfl rfl rfl rfl rfl oC Tryz.func9 (by exact wL)
    (of_decide_eq_true (by kernel_rfl)) (by unfold Func.isWrapper;first | (rw [if_pos (by decide+kernel)];kernel_rfl) | (rw [if_neg (by decide+kernel)];exact ⟨rfl,rfl⟩))
    (λ os started H enc _ F=>by rw [OpenClaim.pre_eq_preRow];exact wK os started H enc F)
theorem xV (f:FuncId) (fn:Func) (hf:Tryz.pinned.checked.prog.funcNamed Rows.driverNoneUptoRow.func=some f) (hfn:Tryz.pinned.checked.prog.funcs[f]? =some fn):
    true=Tryz.pinned.checked.prog.looks []/\∀ (j:Nat) t,fn.params[j]? =some t->Tryz.pinned.checked.prog.wantsStandIn t=false:=by
  obtain rfl:f=9:=Nn (oC.symm.trans hf) |>.symm;obtain rfl:fn=Tryz.f9:=(Nn (Tryz.func9.symm.trans hfn)).symm;refine ⟨by kernel_rfl,λ j t ht=>?_⟩;have hm:t∈Tryz.f9.params.toList:=by
    have:=Array.mem_of_getElem? ht;simpa using this
  rw [Tryz.params9] at hm;revert hm;revert t;exact λ t _ hm=>Cq.1 (show ([60]).all (λ t=>!Tryz.pinned.checked.prog.wantsStandIn t)=true by kernel_rfl) t hm |> λ h=>by simpa using h
theorem driverNone_proved:Rows.DriverNoneUptoCardSaid:=
  Claim7.holds_tied_plain_at .later [] _ _ _ _ zZ (λ_ h=>by cases h) (by kernel_rfl) (λ_ h=>by cases h) driverNoneUpto_row_tie rfl ⟨rfl,rfl⟩ (by kernel_rfl) rfl xV (by kernel_rfl)
end Go.Proofs.YtidhfoefaomodaaGreatDoor
