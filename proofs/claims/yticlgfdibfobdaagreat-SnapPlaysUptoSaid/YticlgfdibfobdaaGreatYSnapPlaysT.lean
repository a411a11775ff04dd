/-
  SnapPlays: the statement of the second form: where what comes in is of bulk at most 1048576.
-/
import Derived.Test.YticlgfdibfobdaaGreatRows
import Derived.Test.YticlgfdibfobdaaGreatYAP
import Derived.JoinedCond
set_option linter.all false
open Bool renaming and_assoc->Gr,and_eq_true->Af
open Go.Value renaming okWide->Ki
open List renaming cons_append->Je
namespace Go.Proofs.YticlgfdibfobdaaGreat
open Go Go.AW Go.Proofs
open Go.ChangeShapes Go.WideShapes Go.ChangeAt Go.RowKit

set_option maxRecDepth 100000 in
theorem tZ (os:Os) (started:os.Started) (H:Type) (enc:TypeId×Value->H) (F:Stop.Interp):
    ReturnsInHanded {} Tryz.checked os 3 .any ((Rows.OpenSpec.upto Rows.snapPlaysSpec).pre6 enc Tryz.prog Tryz.f3 Rows.snapPlaysUptoRow.domain false) (((Rows.OpenSpec.upto Rows.snapPlaysSpec).at F).post enc Tryz.prog Tryz.f3 false true false false):=by
  refine returnsInHanded_of_cond (C:=Tryz.checked) (s:=Rows.OpenSpec.upto Rows.snapPlaysSpec) (k:=Rows.uptoSmall) rfl (by kernel_rfl) started (by kernel_rfl) Tryz.func3
    (OpenSpec.witness (enc:=enc) (C:=Tryz.checked) (s:=Rows.OpenSpec.upto Rows.snapPlaysSpec) (k:=Rows.uptoSmall) rfl false ⟨#[],#[.slice none 0 0],[]⟩ 8 (by kernel_rfl) (by kernel_rfl) (by kernel_rfl)
      (x:=([.nil],[],[])) (by kernel_rfl) rfl (by kernel_rfl)) ?_
  intro W base args ds gs pO hval0 hW _ hk _
  have hval:∀ (j:Nat) t v,Tryz.f3.params[j]? =some t->args[j]? =some v->Ki Tryz.prog W .any base t v:=hval0
  clear hval0
  have hlen:args.toList.length=Tryz.f3.params.toList.length:=by
    obtain ⟨_,_,hA,_⟩:=hW
    exact (vT hA).1
  rw [Tryz.params3] at hval hlen
  have hW2:DataW.Whole enc Tryz.prog Tryz.f3.params.toList Rows.snapPlaysSpec.vars false W args.toList ds gs pO:=hW
  clear hW
  obtain ⟨v0,rfl⟩:=aIu hlen
  obtain ⟨_,_,hA,_⟩:=id hW2
  obtain ⟨_,_,_,_,_,_,e1,e2,e3,h0,h1⟩:=trodAll_cons hA
  cases e1
  have hG:=of_decide_eq_true hk
  rw [e2] at hG
  simp only [Je,Rows.uptoBulkAll] at hG
  obtain ⟨l,hl,hll,hls⟩:=TG (hval 0 22 _ rfl rfl) h0 (by omega)
  refine (OI (fun _ _=>by rfl) (R5 l hll (fun x hx=>(hls x hx).c) (fun x hx=>(hls x hx).n)) (aIn W) (aG8 hl aG9)).mono fun e W' ⟨he,hg⟩=>?_
  subst he
  exact ⟨_,rfl,S7 (s:=Rows.snapPlaysSpec) (by kernel_rfl) (by kernel_rfl) rfl rfl Tryz.underlying4 hW2 hg fun hds=>by
    rw [Tryz.params3] at hds
    match ds,hds with
    | [_],_=>exact ⟨rfl,rfl,rfl⟩⟩

set_option maxHeartbeats 8000000 in
theorem uA:joinedFacts Tryz.pinned.checked.prog 3 Tryz.f3 (Rows.OpenSpec.upto Rows.snapPlaysSpec).bare Rows.snapPlaysUptoRow=true:=by
  unfold joinedFacts
  iterate 9 rw [Gr]
  refine (Af _ _).mpr ⟨?_,by as_aux_lemma=>kernel_rfl⟩
  iterate 10 rw [Gr]
  exact (Af _ _).mpr ⟨by as_aux_lemma=>kernel_rfl,by as_aux_lemma=>kernel_rfl⟩
theorem wT:Tryz.pinned.checked.prog.funcNamed Rows.snapPlaysUptoRow.func=some 3:=by kernel_rfl
theorem snapPlays_proved:Rows.SnapPlaysUptoSaid:=
  OpenClaim.holds_of_cond 3 Tryz.f3 rfl rfl rfl rfl rfl rfl rfl ⟨rfl,rfl,rfl,rfl,rfl⟩ rfl rfl rfl rfl rfl wT Tryz.func3 (by exact uA)
    (of_decide_eq_true (by kernel_rfl)) (by unfold Func.isWrapper;first | (rw [if_pos (by decide+kernel)];kernel_rfl) | (rw [if_neg (by decide+kernel)];exact ⟨rfl,rfl⟩))
    (fun os started H enc _ F=>tZ os started H enc F)
end Go.Proofs.YticlgfdibfobdaaGreat
