/-
  StateSafe: the statement of the second form: where what comes in is of bulk at most 1048576.
-/
import Derived.Test.YtpomiadgghchnaaGreatRows
import Derived.Test.YtpomiadgghchnaaGreatYA
import Derived.JoinedCond
set_option linter.all false
open Bool renaming and_assoc->Ej,and_eq_true->Ag
open Go.Value renaming okWide->Ei
open List renaming cons_append->Cd
namespace Go.Proofs.YtpomiadgghchnaaGreat
open Go Go.AW Go.Proofs
open Go.ChangeShapes Go.WideShapes Go.ChangeAt Go.RowKit

set_option maxRecDepth 100000 in
theorem uY (os:Os) (started:os.Started) (H:Type) (enc:TypeId×Value->H) (F:Stop.Interp):
    ReturnsInHanded {} Tryz.checked os 10 .any ((Rows.OpenSpec.upto Rows.stateSafeSpec).pre6 enc Tryz.prog Tryz.f10 Rows.stateSafeUptoRow.domain false) (((Rows.OpenSpec.upto Rows.stateSafeSpec).at F).post enc Tryz.prog Tryz.f10 false true false false):=by
  refine returnsInHanded_of_cond (C:=Tryz.checked) (s:=Rows.OpenSpec.upto Rows.stateSafeSpec) (k:=Rows.uptoSmall) rfl (by kernel_rfl) started (by kernel_rfl) Tryz.func10
    (OpenSpec.witness (enc:=enc) (C:=Tryz.checked) (s:=Rows.OpenSpec.upto Rows.stateSafeSpec) (k:=Rows.uptoSmall) rfl false ⟨#[],#[.slice none 0 0],[]⟩ 8 (by kernel_rfl) (by kernel_rfl) (by kernel_rfl)
      (x:=([.nil],[],[])) (by kernel_rfl) rfl (by kernel_rfl)) ?_
  intro W base args ds gs jV hval0 hW _ hk _
  have hval:∀ (j:Nat) t v,Tryz.f10.params[j]? =some t->args[j]? =some v->Ei Tryz.prog W .any base t v:=hval0
  clear hval0
  have hlen:args.toList.length=Tryz.f10.params.toList.length:=by
    obtain ⟨_,_,hA,_⟩:=hW
    exact (gO hA).1
  rw [Tryz.params10] at hval hlen
  have hW2:DataW.Whole enc Tryz.prog Tryz.f10.params.toList Rows.stateSafeSpec.vars false W args.toList ds gs jV:=hW
  clear hW
  obtain ⟨v0,rfl⟩:=aJq hlen
  obtain ⟨_,_,hA,_⟩:=id hW2
  obtain ⟨_,_,_,_,_,_,e1,e2,e3,h0,h1⟩:=trodAll_cons hA
  cases e1
  have hG:=of_decide_eq_true hk
  rw [e2] at hG
  simp only [Cd,Rows.uptoBulkAll] at hG
  obtain ⟨l,hl,hll,hls⟩:=T7 (hval 0 22 _ rfl rfl) h0 (by omega)
  refine (lF (fun _ _=>by rfl) (TA l hll (fun x hx=>(hls x hx).c)) (ZT W) (tL hl JI)).mono fun e W' ⟨he,hg⟩=>?_
  subst he
  exact ⟨_,rfl,mU (s:=Rows.stateSafeSpec) (by kernel_rfl) (by kernel_rfl) rfl rfl Tryz.underlying4 hW2 hg fun hds=>by
    rw [Tryz.params10] at hds
    match ds,hds with
    | [_],_=>exact ⟨rfl,rfl,rfl⟩⟩

set_option maxHeartbeats 8000000 in
theorem uZ:joinedFacts Tryz.pinned.checked.prog 10 Tryz.f10 (Rows.OpenSpec.upto Rows.stateSafeSpec).bare Rows.stateSafeUptoRow=true:=by
  unfold joinedFacts
  iterate 9 rw [Ej]
  refine (Ag _ _).mpr ⟨?_,by as_aux_lemma=>kernel_rfl⟩
  iterate 10 rw [Ej]
  exact (Ag _ _).mpr ⟨by as_aux_lemma=>kernel_rfl,by as_aux_lemma=>kernel_rfl⟩
theorem xU:Tryz.pinned.checked.prog.funcNamed Rows.stateSafeUptoRow.func=some 10:=by kernel_rfl
theorem stateSafe_proved:Rows.StateSafeUptoSaid:=
  OpenClaim.holds_of_cond 10 Tryz.f10 rfl rfl rfl rfl rfl rfl rfl ⟨rfl,rfl,rfl,rfl,rfl⟩ rfl rfl rfl rfl rfl xU Tryz.func10 (by exact uZ)
    (of_decide_eq_true (by kernel_rfl)) (by unfold Func.isWrapper;first | (rw [if_pos (by decide+kernel)];kernel_rfl) | (rw [if_neg (by decide+kernel)];exact ⟨rfl,rfl⟩))
    (fun os started H enc _ F=>uY os started H enc F)
end Go.Proofs.YtpomiadgghchnaaGreat
