/-
  StatePlays: the statement of the second form: where what comes in is of bulk at most 1048576.
-/
import Derived.Test.YticlgfdibfobdaaGreatRows
import Derived.Test.YticlgfdibfobdaaGreatYA
import Derived.JoinedCond
set_option linter.all false
open Bool renaming and_assoc->Gw,and_eq_true->Ag
open Go.Value renaming okWide->Gd
open List renaming cons_append->Cm
namespace Go.Proofs.YticlgfdibfobdaaGreat
open Go Go.AW Go.Proofs
open Go.ChangeShapes Go.WideShapes Go.ChangeAt Go.RowKit

set_option maxRecDepth 100000 in
theorem uQ (os:Os) (started:os.Started) (H:Type) (enc:TypeId×Value->H) (F:Stop.Interp):
    ReturnsInHanded {} Tryz.checked os 5 .any ((Rows.OpenSpec.upto Rows.statePlaysSpec).pre6 enc Tryz.prog Tryz.f5 Rows.statePlaysUptoRow.domain false) (((Rows.OpenSpec.upto Rows.statePlaysSpec).at F).post enc Tryz.prog Tryz.f5 false true false false):=by
  refine returnsInHanded_of_cond (C:=Tryz.checked) (s:=Rows.OpenSpec.upto Rows.statePlaysSpec) (k:=Rows.uptoSmall) rfl (by kernel_rfl) started (by kernel_rfl) Tryz.func5
    (OpenSpec.witness (enc:=enc) (C:=Tryz.checked) (s:=Rows.OpenSpec.upto Rows.statePlaysSpec) (k:=Rows.uptoSmall) rfl false ⟨#[],#[.slice none 0 0],[]⟩ 8 (by kernel_rfl) (by kernel_rfl) (by kernel_rfl)
      (x:=([.nil],[],[])) (by kernel_rfl) rfl (by kernel_rfl)) ?_
  intro W base args ds gs nG hval0 hW _ hk _
  have hval:∀ (j:Nat) t v,Tryz.f5.params[j]? =some t->args[j]? =some v->Gd Tryz.prog W .any base t v:=hval0
  clear hval0
  have hlen:args.toList.length=Tryz.f5.params.toList.length:=by
    obtain ⟨_,_,hA,_⟩:=hW
    exact (pY hA).1
  rw [Tryz.params5] at hval hlen
  have hW2:DataW.Whole enc Tryz.prog Tryz.f5.params.toList Rows.statePlaysSpec.vars false W args.toList ds gs nG:=hW
  clear hW
  obtain ⟨v0,rfl⟩:=aMb hlen
  obtain ⟨_,_,hA,_⟩:=id hW2
  obtain ⟨_,_,_,_,_,_,e1,e2,e3,h0,h1⟩:=trodAll_cons hA
  cases e1
  have hG:=of_decide_eq_true hk
  rw [e2] at hG
  simp only [Cm,Rows.uptoBulkAll] at hG
  obtain ⟨l,hl,hll,hls⟩:=XQ (hval 0 22 _ rfl rfl) h0 (by omega)
  refine (D6 (fun _ _=>by rfl) (aBp l hll (fun x hx=>(hls x hx).c) (fun x hx=>(hls x hx).n)) (aKN W) (aA6 hl aHj)).mono fun e W' ⟨he,hg⟩=>?_
  subst he
  exact ⟨_,rfl,FQ (s:=Rows.statePlaysSpec) (by kernel_rfl) (by kernel_rfl) rfl rfl Tryz.underlying4 hW2 hg fun hds=>by
    rw [Tryz.params5] at hds
    match ds,hds with
    | [_],_=>exact ⟨rfl,rfl,rfl⟩⟩

set_option maxHeartbeats 8000000 in
theorem uR:joinedFacts Tryz.pinned.checked.prog 5 Tryz.f5 (Rows.OpenSpec.upto Rows.statePlaysSpec).bare Rows.statePlaysUptoRow=true:=by
  unfold joinedFacts
  iterate 9 rw [Gw]
  refine (Ag _ _).mpr ⟨?_,by as_aux_lemma=>kernel_rfl⟩
  iterate 10 rw [Gw]
  exact (Ag _ _).mpr ⟨by as_aux_lemma=>kernel_rfl,by as_aux_lemma=>kernel_rfl⟩
theorem wM:Tryz.pinned.checked.prog.funcNamed Rows.statePlaysUptoRow.func=some 5:=by kernel_rfl
theorem statePlays_proved:Rows.StatePlaysUptoSaid:=
  OpenClaim.holds_of_cond 5 Tryz.f5 rfl rfl rfl rfl rfl rfl rfl ⟨rfl,rfl,rfl,rfl,rfl⟩ rfl rfl rfl rfl rfl wM Tryz.func5 (by exact uR)
    (of_decide_eq_true (by kernel_rfl)) (by unfold Func.isWrapper;first | (rw [if_pos (by decide+kernel)];kernel_rfl) | (rw [if_neg (by decide+kernel)];exact ⟨rfl,rfl⟩))
    (fun os started H enc _ F=>uQ os started H enc F)
end Go.Proofs.YticlgfdibfobdaaGreat
