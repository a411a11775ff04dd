/-
  WatchEvents: the statement of the second form: where what comes in is of bulk at most 1048576.
-/
import Derived.Test.YtlanfgblaebddaaGreatRows
import Derived.JoinedCond
import Derived.Test.YtlanfgblaebddaaGreatLWE
set_option linter.all false
open Bool renaming and_assoc->Ge,and_eq_true->Af
open Go.Value renaming okWide->Eb
open List renaming cons_append->Jd
namespace Go.Proofs.YtlanfgblaebddaaGreat
open Go Go.AW Go.Proofs
open Go.ChangeShapes Go.WideShapes Go.ChangeAt Go.RowKit

set_option maxRecDepth 100000 in
theorem sU (os:Os) (started:os.Started) (H:Type) (enc:TypeId×Value->H) (F:Stop.Interp):
    ReturnsInHanded {} Tryz.checked os 3 .any ((Rows.OpenSpec.upto Rows.watchEventsSpec).pre6 enc Tryz.prog Tryz.f3 Rows.watchEventsUptoRow.domain false) (((Rows.OpenSpec.upto Rows.watchEventsSpec).at F).post enc Tryz.prog Tryz.f3 false true false false):=by
  refine returnsInHanded_of_cond (C:=Tryz.checked) (s:=Rows.OpenSpec.upto Rows.watchEventsSpec) (k:=Rows.uptoSmall) rfl (by kernel_rfl) started (by kernel_rfl) Tryz.func3
    (OpenSpec.witness (enc:=enc) (C:=Tryz.checked) (s:=Rows.OpenSpec.upto Rows.watchEventsSpec) (k:=Rows.uptoSmall) rfl false ⟨#[],#[.agg #[.slice none 0 0,.slice none 0 0,.int .i64 0,.int .i64 0,.int .i64 0,.int .i64 0,.slice none 0 0,.slice none 0 0,.slice none 0 0],.agg #[.slice none 0 0,.slice none 0 0,.int .i64 0,.int .i64 0,.int .i64 0,.int .i64 0,.slice none 0 0,.slice none 0 0,.slice none 0 0]],[]⟩ 8 (by kernel_rfl) (by kernel_rfl) (by kernel_rfl)
      (x:=([.agg [.agg [.nil,.nil,.lit (.int .i64 0),.lit (.int .i64 0)],.lit (.int .i64 0),.lit (.int .i64 0),.nil,.nil,.nil],.agg [.agg [.nil,.nil,.lit (.int .i64 0),.lit (.int .i64 0)],.lit (.int .i64 0),.lit (.int .i64 0),.nil,.nil,.nil]],[],[])) (by kernel_rfl) rfl (by kernel_rfl)) ?_
  intro W base args ds gs gQ hval0 hW _ hk _
  have hval:∀ (j:Nat) t v,Tryz.f3.params[j]? =some t->args[j]? =some v->Eb Tryz.prog W .any base t v:=hval0
  clear hval0
  have hlen:args.toList.length=Tryz.f3.params.toList.length:=by
    obtain ⟨_,_,hA,_⟩:=hW
    exact (lN hA).1
  rw [Tryz.params3] at hval hlen
  have hW2:DataW.Whole enc Tryz.prog Tryz.f3.params.toList Rows.watchEventsSpec.vars false W args.toList ds gs gQ:=hW
  clear hW
  obtain ⟨v0,v1,rfl⟩:=aHn hlen
  obtain ⟨_,_,hA,_⟩:=id hW2
  obtain ⟨_,_,_,_,_,_,e1,e2,e3,h0,h1⟩:=trodAll_cons hA
  cases e1
  have hG:=of_decide_eq_true hk
  rw [e2] at hG
  obtain ⟨_,_,_,_,_,_,f1,f2,f3,h2,h3⟩:=trodAll_cons h1
  cases f1
  rw [f2] at hG
  simp only [Jd,Rows.uptoBulkAll] at hG
  obtain ⟨s,hst,hs⟩:=uR (hval 0 30 _ rfl rfl) h0 (by omega)
  obtain ⟨t,htt,ht⟩:=uR (hval 1 30 _ rfl rfl) h2 (by omega)
  refine (tO (fun _ _=>by rfl) (NF s t hs.c hs.run hs.pend ht.c ht.run ht.pend) (aGu W) (KN hst (KN htt ZB))).mono fun e W' ⟨he,hg⟩=>?_
  subst he
  exact ⟨_,rfl,wM (s:=Rows.watchEventsSpec) (by kernel_rfl) (by kernel_rfl) rfl rfl Tryz.underlying4 hW2 hg fun hds=>by
    rw [Tryz.params3] at hds
    match ds,hds with
    | [_,_],_=>exact ⟨rfl,rfl,rfl⟩⟩

set_option maxHeartbeats 8000000 in
theorem sV:joinedFacts Tryz.pinned.checked.prog 3 Tryz.f3 (Rows.OpenSpec.upto Rows.watchEventsSpec).bare Rows.watchEventsUptoRow=true:=by
  unfold joinedFacts
  iterate 9 rw [Ge]
  refine (Af _ _).mpr ⟨?_,by as_aux_lemma=>kernel_rfl⟩
  iterate 10 rw [Ge]
  exact (Af _ _).mpr ⟨by as_aux_lemma=>kernel_rfl,by as_aux_lemma=>kernel_rfl⟩
theorem tX:Tryz.pinned.checked.prog.funcNamed Rows.watchEventsUptoRow.func=some 3:=by kernel_rfl
theorem watchEvents_proved:Rows.WatchEventsUptoSaid:=
  OpenClaim.holds_of_cond 3 Tryz.f3 rfl rfl rfl rfl rfl rfl rfl ⟨rfl,rfl,rfl,rfl,rfl⟩ rfl rfl rfl rfl rfl tX Tryz.func3 (by exact sV)
    (of_decide_eq_true (by kernel_rfl)) (by unfold Func.isWrapper;first | (rw [if_pos (by decide+kernel)];kernel_rfl) | (rw [if_neg (by decide+kernel)];exact ⟨rfl,rfl⟩))
    (fun os started H enc _ F=>sU os started H enc F)
end Go.Proofs.YtlanfgblaebddaaGreat
