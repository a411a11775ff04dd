/-
  StateTicks: the statement of the second form: where what comes in is of bulk at most 1048576.
-/
import Derived.Test.YtpomiadgghchnaaGreatRows
import Derived.Test.YtpomiadgghchnaaGreatYA
import Derived.JoinedCond
set_option linter.all false
open Bool renaming and_assoc->Ej,and_eq_true->Ag
open Go.Value renaming okWide->Ei
open List renaming cons_append->Cd
namespace Go.Proofs.YtpomiadgghchnaaGreat
open Go Go.AW Go.Proofs
open Go.ChangeShapes Go.WideShapes Go.ChangeAt Go.RowKit

set_option maxRecDepth 100000 in
theorem tC (os:Os) (started:os.Started) (H:Type) (enc:TypeId×Value->H) (F:Stop.Interp):
    ReturnsInHanded {} Tryz.checked os 12 .any ((Rows.OpenSpec.upto Rows.stateTicksSpec).pre6 enc Tryz.prog Tryz.f12 Rows.stateTicksUptoRow.domain false) (((Rows.OpenSpec.upto Rows.stateTicksSpec).at F).post enc Tryz.prog Tryz.f12 false true false false):=by
  refine returnsInHanded_of_cond (C:=Tryz.checked) (s:=Rows.OpenSpec.upto Rows.stateTicksSpec) (k:=Rows.uptoSmall) rfl (by kernel_rfl) started (by kernel_rfl) Tryz.func12
    (OpenSpec.witness (enc:=enc) (C:=Tryz.checked) (s:=Rows.OpenSpec.upto Rows.stateTicksSpec) (k:=Rows.uptoSmall) rfl false ⟨#[],#[.agg #[.slice none 0 0,.slice none 0 0,.int .i64 0,.int .i64 0,.int .i64 0,.int .i64 0,.slice none 0 0,.slice none 0 0,.slice none 0 0],.agg #[.int .i64 0,.int .i64 0]],[]⟩ 8 (by kernel_rfl) (by kernel_rfl) (by kernel_rfl)
      (x:=([.agg [.agg [.nil,.nil,.lit (.int .i64 0),.lit (.int .i64 0)],.lit (.int .i64 0),.lit (.int .i64 0),.nil,.nil,.nil],.agg [.lit (.int .i64 0),.lit (.int .i64 0)]],[],[])) (by kernel_rfl) rfl (by kernel_rfl)) ?_
  intro W base args ds gs jV hval0 hW _ hk _
  have hval:∀ (j:Nat) t v,Tryz.f12.params[j]? =some t->args[j]? =some v->Ei Tryz.prog W .any base t v:=hval0
  clear hval0
  have hlen:args.toList.length=Tryz.f12.params.toList.length:=by
    obtain ⟨_,_,hA,_⟩:=hW
    exact (gO hA).1
  rw [Tryz.params12] at hval hlen
  have hW2:DataW.Whole enc Tryz.prog Tryz.f12.params.toList Rows.stateTicksSpec.vars false W args.toList ds gs jV:=hW
  clear hW
  obtain ⟨v0,v1,rfl⟩:=aE4 hlen
  obtain ⟨_,_,hA,_⟩:=id hW2
  obtain ⟨_,_,_,_,_,_,e1,e2,e3,h0,h1⟩:=trodAll_cons hA
  cases e1
  have hG:=of_decide_eq_true hk
  rw [e2] at hG
  obtain ⟨_,_,_,_,_,_,f1,f2,f3,h2,h3⟩:=trodAll_cons h1
  cases f1
  rw [f2] at hG
  simp only [Cd,Rows.uptoBulkAll] at hG
  obtain ⟨s,hst,hs⟩:=pN (hval 0 31 _ rfl rfl) h0 (by omega)
  obtain ⟨a,b,hab⟩:=Y5 (hval 1 74 _ rfl rfl) h2 (by omega)
  refine (lF (fun _ _=>by rfl) (WW s a b hs.c hs.run hs.pend hs.fix) (ZT W) (tL hst (tL hab JI))).mono fun e W' ⟨he,hg⟩=>?_
  subst he
  exact ⟨_,rfl,mU (s:=Rows.stateTicksSpec) (by kernel_rfl) (by kernel_rfl) rfl rfl Tryz.underlying4 hW2 hg fun hds=>by
    rw [Tryz.params12] at hds
    match ds,hds with
    | [_,_],_=>exact ⟨rfl,rfl,rfl⟩⟩

set_option maxHeartbeats 8000000 in
theorem tD:joinedFacts Tryz.pinned.checked.prog 12 Tryz.f12 (Rows.OpenSpec.upto Rows.stateTicksSpec).bare Rows.stateTicksUptoRow=true:=by
  unfold joinedFacts
  iterate 9 rw [Ej]
  refine (Ag _ _).mpr ⟨?_,by as_aux_lemma=>kernel_rfl⟩
  iterate 10 rw [Ej]
  exact (Ag _ _).mpr ⟨by as_aux_lemma=>kernel_rfl,by as_aux_lemma=>kernel_rfl⟩
theorem uT:Tryz.pinned.checked.prog.funcNamed Rows.stateTicksUptoRow.func=some 12:=by kernel_rfl
theorem stateTicks_proved:Rows.StateTicksUptoSaid:=
  OpenClaim.holds_of_cond 12 Tryz.f12 rfl rfl rfl rfl rfl rfl rfl ⟨rfl,rfl,rfl,rfl,rfl⟩ rfl rfl rfl rfl rfl uT Tryz.func12 (by exact tD)
    (of_decide_eq_true (by kernel_rfl)) (by unfold Func.isWrapper;first | (rw [if_pos (by decide+kernel)];kernel_rfl) | (rw [if_neg (by decide+kernel)];exact ⟨rfl,rfl⟩))
    (fun os started H enc _ F=>tC os started H enc F)
end Go.Proofs.YtpomiadgghchnaaGreat
