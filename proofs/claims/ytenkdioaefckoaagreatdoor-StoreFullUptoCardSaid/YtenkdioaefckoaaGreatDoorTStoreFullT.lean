/-
  StoreFull: the card of the second form: where what comes in is of bulk at most 1048576.
-/
import Derived.Test.YtenkdioaefckoaaGreatDoorCards
import Derived.Test.YtenkdioaefckoaaGreatDoorTie
import Derived.JoinedCond
import Derived.Test.YtenkdioaefckoaaGreatDoorLSF
set_option linter.all false
open Bool renaming and_assoc->Ey,and_eq_true->Af
namespace Go.Proofs.YtenkdioaefckoaaGreatDoor
open Go Go.AW Go.Proofs
open Go.ChangeShapes Go.WideShapes Go.ChangeAt Go.RowKit

theorem EY(os:Os){H:Type}(enc:TypeId×Value->H):∃places,DataW.whole enc Tryz.prog ((iG os).forCall (λ_ _=>0) ⟨#[],#[.slice none 0 0,.int .i64 0],[]⟩).memory Tryz.f4.params.toList Rows.storeFullSpec.vars false (#[.slice none 0 0,.int .i64 0]:Array Value).toList 8=some ([.nil,.lit (.int .i64 0)],[],places):=⟨[],by kernel_rfl⟩
set_option maxRecDepth 100000 in
theorem CJ(os:Os)(started:os.Started)(H:Type)(enc:TypeId×Value->H)(F:Stop.Interp):
    ReturnsInHanded {} Tryz.checked os 4 .any ((Rows.OpenSpec.upto Rows.storeFullSpec).preRow enc Tryz.prog Tryz.f4 Rows.storeFullUptoRow.domain false Rows.storeFullUptoRow.laid) (((Rows.OpenSpec.upto Rows.storeFullSpec).at F).post enc Tryz.prog Tryz.f4 false true false false):=by
  obtain⟨places,hx⟩:=EY os enc
  refine returnsInHanded_of_row (C:=Tryz.checked) (s:=Rows.OpenSpec.upto Rows.storeFullSpec) own started (by kernel_rfl) Tryz.func4
    (witness_row_atRef (enc:=enc) (C:=Tryz.checked) false (iG os) #[.slice none 0 0,.int .i64 0] rfl (by kernel_rfl) (by kernel_rfl) (by kernel_rfl)
      (OpenSpec.preRow_of_cond 8 hx (by kernel_rfl) (λk hk=>by cases hk;kernel_rfl) (by kernel_rfl) (BH os _))) ?_
  intro W base args ds gs jF hval0 hW _ hcond _ hL _ _;have hk:=hcond _ rfl;obtain⟨u,hv1,hv2,hv3⟩:=pS (W:=W) hL;have hval:∀(j:Nat) t v,Tryz.f4.params[j]? =some t->args[j]? =some v->Go.Value.okWide Tryz.prog W .any base t v:=hval0;clear hval0;have hlen:args.toList.length=Tryz.f4.params.toList.length:=by
    obtain⟨_,_,hA,_⟩:=hW;exact(lZ hA).1
  rw[Tryz.params4]at hval hlen;have hW2:DataW.Whole enc Tryz.prog Tryz.f4.params.toList Rows.storeFullSpec.vars false W args.toList ds gs jF:=hW;clear hW;obtain⟨v0,v1,rfl⟩:=aUb hlen;obtain⟨_,_,hA,_⟩:=id hW2;obtain⟨_,_,_,_,_,_,e1,e2,e3,h0,h1⟩:=trodAll_cons hA;cases e1;have hG:=bn hk;rw[e2]at hG;obtain⟨_,_,_,_,_,_,f1,f2,f3,h2,h3⟩:=trodAll_cons h1;cases f1;rw[f2]at hG;simp only[List.cons_append,Rows.uptoBulkAll]at hG;obtain⟨l,hl,hll,hls⟩:=CV (hval 0 54 _ rfl rfl) h0 (by omega);obtain⟨n,hn⟩:=HX (hval 1 3 _ rfl rfl);refine(pY (λ_ _=>by rfl) (aFX l hll (λx hx=>hls x hx) n KY) hv1 hv2 hv3 (HG hl (HG hn aBh))).mono λe W' ⟨he,hg⟩=>?_;subst he
  exact⟨_,rfl,wW (s:=Rows.storeFullSpec) (by kernel_rfl) (by kernel_rfl) rfl rfl Tryz.underlying4 hW2 hg λhds=>by
    rw[Tryz.params4]at hds
    match ds,hds with
    | [_,_],_=>exact⟨rfl,rfl,rfl⟩⟩

set_option maxHeartbeats 8000000 in
theorem CK:joinedFacts Tryz.pinned.checked.prog 4 Tryz.f4 (Rows.OpenSpec.upto Rows.storeFullSpec).bare Rows.storeFullUptoRow=true:=by
  unfold joinedFacts
  repeat' (with_reducible refine (Bool.and_eq_true _ _).mpr ⟨?_,?_⟩)
  all_goals
   as_aux_lemma=>kernel_rfl
theorem tM:Tryz.pinned.checked.prog.funcNamed Rows.storeFullUptoRow.func=some 4:=by kernel_rfl
theorem GW:Rows.StoreFullUptoSaid:=
  OpenClaim.holds_of_cond 4 Tryz.f4 rfl rfl rfl rfl rfl rfl rfl ⟨rfl,rfl,rfl,rfl,rfl⟩ rfl rfl rfl rfl rfl tM Tryz.func4 (by exact CK)
    (bn (by as_aux_lemma=>kernel_rfl)) (by unfold Func.isWrapper;first|(rw[bu (by decide+kernel)];kernel_rfl)|(rw[bt (by decide+kernel)];exact⟨rfl,rfl⟩))
    (λos started H enc _ F=>by rw[OpenClaim.pre_eq_preRow];exact CJ os started H enc F)
theorem EZ(f:FuncId)(fn:Func)(hf:Tryz.pinned.checked.prog.funcNamed Rows.storeFullUptoRow.func=some f)(hfn:Tryz.pinned.checked.prog.funcs[f]? =some fn):
    true=Tryz.pinned.checked.prog.looks []/\∀(j:Nat) t,fn.params[j]? =some t->Tryz.pinned.checked.prog.wantsStandIn t=false:=by
  obtain rfl:f=4:=Option.some.inj (tM.symm.trans hf) |>.symm;obtain rfl:fn=Tryz.f4:=(Option.some.inj (Tryz.func4.symm.trans hfn)).symm;refine⟨by as_aux_lemma=>kernel_rfl,λj t ht=>?_⟩;have hm:t∈Tryz.f4.params.toList:=by
    have:=Array.mem_of_getElem? ht;simpa using this
  rw[Tryz.params4]at hm;revert hm;revert t;exact λt _ hm=>List.all_eq_true.1 (show([54,3]).all (λt=>!Tryz.pinned.checked.prog.wantsStandIn t)=true by kernel_rfl) t hm |> λh=>by simpa using h
theorem storeFull_proved:Rows.StoreFullUptoCardSaid:=
  Claim7.holds_tied_plain_at .later [] _ _ _ _ GW (λ_ h=>by cases h) (by as_aux_lemma=>kernel_rfl) (λ_ h=>by cases h) storeFullUpto_row_tie rfl ⟨rfl,rfl⟩ (by as_aux_lemma=>kernel_rfl) rfl EZ (by as_aux_lemma=>kernel_rfl)
end Go.Proofs.YtenkdioaefckoaaGreatDoor
