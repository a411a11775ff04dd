/-
  DriverTorn: the card of the second form: where what comes in is of bulk at most 1048576.
-/
import Derived.Test.YtenkdioaefckoaaGreatDoorCards
import Derived.Test.YtenkdioaefckoaaGreatDoorTie
import Derived.JoinedCond
import Derived.Test.YtenkdioaefckoaaGreatDoorLDT
set_option linter.all false
open Bool renaming and_assoc->Gc,and_eq_true->Af
namespace Go.Proofs.YtenkdioaefckoaaGreatDoor
open Go Go.AW Go.Proofs
open Go.ChangeShapes Go.WideShapes Go.ChangeAt Go.RowKit

theorem BF(os:Os){H:Type}(enc:TypeId×Value->H):∃places,DataW.whole enc Tryz.prog ((qA os).forCall (λ_ _=>0) ⟨#[],#[.slice none 0 0],[]⟩).memory Tryz.f6.params.toList Rows.driverTornSpec.vars false (#[.slice none 0 0]:Array Value).toList 8=some ([.nil],[],places):=⟨[],by kernel_rfl⟩
set_option maxRecDepth 100000 in
theorem zY(os:Os)(started:os.Started)(H:Type)(enc:TypeId×Value->H)(F:Stop.Interp):
    ReturnsInHanded {} Tryz.checked os 6 .any ((Rows.OpenSpec.upto Rows.driverTornSpec).preRow enc Tryz.prog Tryz.f6 Rows.driverTornUptoRow.domain false Rows.driverTornUptoRow.laid) (((Rows.OpenSpec.upto Rows.driverTornSpec).at F).post enc Tryz.prog Tryz.f6 false true false false):=by
  obtain⟨places,hx⟩:=BF os enc
  refine returnsInHanded_of_row (C:=Tryz.checked) (s:=Rows.OpenSpec.upto Rows.driverTornSpec) own started (by kernel_rfl) Tryz.func6
    (witness_row_atRef (enc:=enc) (C:=Tryz.checked) false (qA os) #[.slice none 0 0] rfl (by kernel_rfl) (by kernel_rfl) (by kernel_rfl)
      (OpenSpec.preRow_of_cond 8 hx (by kernel_rfl) (λk hk=>by cases hk;kernel_rfl) (by kernel_rfl) (R8 os _))) ?_
  intro W base args ds gs nW hval0 hW _ hcond _ hL _ _;have hk:=hcond _ rfl;obtain⟨u,hv1,hv2,hv3⟩:=CI (W:=W) hL;have hval:∀(j:Nat) t v,Tryz.f6.params[j]? =some t->args[j]? =some v->Go.Value.okWide Tryz.prog W .any base t v:=hval0;clear hval0;have hlen:args.toList.length=Tryz.f6.params.toList.length:=by
    obtain⟨_,_,hA,_⟩:=hW;exact(sS hA).1
  rw[Tryz.params6]at hval hlen;have hW2:DataW.Whole enc Tryz.prog Tryz.f6.params.toList Rows.driverTornSpec.vars false W args.toList ds gs nW:=hW;clear hW;obtain⟨v0,rfl⟩:=aSG hlen;obtain⟨_,_,hA,_⟩:=id hW2;obtain⟨_,_,_,_,_,_,e1,e2,e3,h0,h1⟩:=trodAll_cons hA;cases e1;have hG:=bn hk;rw[e2]at hG;simp only[List.cons_append,Rows.uptoBulkAll]at hG;obtain⟨l,hl,hll,hls⟩:=JM (hval 0 22 _ rfl rfl) h0 (by omega);refine(CM (λ_ _=>by rfl) (aH7 l hll hls TF) hv1 hv2 hv3 (aNv hl aNw)).mono λe W' ⟨he,hg⟩=>?_;subst he
  exact⟨_,rfl,JH (s:=Rows.driverTornSpec) (by kernel_rfl) (by kernel_rfl) rfl rfl Tryz.underlying4 hW2 hg λhds=>by
    rw[Tryz.params6]at hds
    match ds,hds with
    |[_],_=>exact⟨rfl,rfl,rfl⟩⟩

set_option maxHeartbeats 8000000 in
theorem zZ:joinedFacts Tryz.pinned.checked.prog 6 Tryz.f6 (Rows.OpenSpec.upto Rows.driverTornSpec).bare Rows.driverTornUptoRow=true:=by
  unfold joinedFacts
  repeat' (with_reducible refine (Bool.and_eq_true _ _).mpr ⟨?_,?_⟩)
  all_goals
   as_aux_lemma=>kernel_rfl
theorem qJ:Tryz.pinned.checked.prog.funcNamed Rows.driverTornUptoRow.func=some 6:=by kernel_rfl
theorem C4:Rows.DriverTornUptoSaid:=
  OpenClaim.holds_of_cond 6 Tryz.f6 rfl rfl rfl rfl rfl rfl rfl ⟨rfl,rfl,rfl,rfl,rfl⟩ rfl rfl rfl rfl rfl qJ Tryz.func6 (by exact zZ)
    (bn (by as_aux_lemma=>kernel_rfl)) (by unfold Func.isWrapper;first|(rw[bu (by decide+kernel)];kernel_rfl)|(rw[bt (by decide+kernel)];exact⟨rfl,rfl⟩))
    (λos started H enc _ F=>by rw[OpenClaim.pre_eq_preRow];exact zY os started H enc F)
theorem BG(f:FuncId)(fn:Func)(hf:Tryz.pinned.checked.prog.funcNamed Rows.driverTornUptoRow.func=some f)(hfn:Tryz.pinned.checked.prog.funcs[f]? =some fn):
    true=Tryz.pinned.checked.prog.looks []/\∀(j:Nat) t,fn.params[j]? =some t->Tryz.pinned.checked.prog.wantsStandIn t=false:=by
  obtain rfl:f=6:=Option.some.inj (qJ.symm.trans hf) |>.symm;obtain rfl:fn=Tryz.f6:=(Option.some.inj (Tryz.func6.symm.trans hfn)).symm;refine⟨by as_aux_lemma=>kernel_rfl,λj t ht=>?_⟩;have hm:t∈Tryz.f6.params.toList:=by
    have:=Array.mem_of_getElem? ht;simpa using this
  rw[Tryz.params6]at hm;revert hm;revert t;exact λt _ hm=>List.all_eq_true.1 (show([22]).all (λt=>!Tryz.pinned.checked.prog.wantsStandIn t)=true by kernel_rfl) t hm |> λh=>by simpa using h
theorem driverTorn_proved:Rows.DriverTornUptoCardSaid:=
  Claim7.holds_tied_plain_at .later [] _ _ _ _ C4 (λ_ h=>by cases h) (by as_aux_lemma=>kernel_rfl) (λ_ h=>by cases h) driverTornUpto_row_tie rfl ⟨rfl,rfl⟩ (by as_aux_lemma=>kernel_rfl) rfl BG (by as_aux_lemma=>kernel_rfl)
end Go.Proofs.YtenkdioaefckoaaGreatDoor
