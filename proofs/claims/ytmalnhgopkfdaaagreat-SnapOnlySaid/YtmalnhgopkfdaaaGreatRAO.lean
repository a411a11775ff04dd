/-
  The references, as walks; what fits leaves nobody overfull.
-/
import Derived.Test.YtmalnhgopkfdaaaGreatHAO
set_option linter.all false
set_option maxHeartbeats 1000000
open And renaming intro->Ad
open List renaming all_cons->Gz,all_eq_true->Ck,any_cons->Ih,append_assoc->Al,append_nil->Bd,count_cons_self->Hc,drop_eq_getElem_cons->Ag,drop_eq_nil_of_le->Ai,foldl_cons->Cs,mem_filter->Jf
open Nat renaming le_trans->Cq
namespace Go.Proofs.YtmalnhgopkfdaaaGreat
open Go Go.AW Go.Proofs
set_option maxRecDepth 10000
theorem B1 (n:Int):∀ (l:List Nod) (i:Nat),decide (0<=iK n l i)=l.any fun x=>x.p==n
 | [],i=>by simp [iK]
 | x::r,i=>by
  unfold iK
  rw [Ih]
  by_cases h:x.p=n
  .simp [h]
  .have:=B1 n r (i+1)
   simp [h,this]
theorem B2 (l:List Nod) (n:Int):(l.all fun x=>!(x.p==n))= !(l.any fun x=>x.p==n):=by
 induction l with
 | nil=>rfl
 | cons x r ih=>rw [Gz,Ih,ih];cases (x.p==n)<;>simp
theorem R8 (ns:List Nod) (t:Int):rlB ns t=cC ns t:=by
 unfold rlB cC
 rw [B1,B2]
 generalize (ns.any fun x=>x.p==t)=b
 by_cases h1:t<0
 .have h2:¬ 0<=t:=by omega
  simp [h1,h2]
 .have h3:0<=t:=by omega
  by_cases h2:(ns.length:Int)<=t
  .have h4:¬ t<(ns.length:Int):=by omega
   simp [h1,h3,h2,h4]
  .have h4:t<(ns.length:Int):=by omega
   simp [h1,h3,h2,h4]
def vH (c:Con) (a:Int):Prop:=0<=a/\a.toNat<c.hs.length
structure GH (c:Con) (i:Nat) (s:List (List Int)):Prop where
 len:s.length<=i
 one:∀ g∈s,g.length<=i/\∃ a r,g=a::r/\vH c a
abbrev inO (c:Con) (g:Gan):List AObj:=[.cells 26 c.cs,.cells 59 g.cs,.tail 0 1 3]
def qH (p:Int->Bool):List Int->Nat->Int
 | [],_=> -1
 | x::r,i=>if p x=true then (i:Int) else qH p r (i+1)
theorem wP (p:Int->Bool):∀ (l:List Int) (i:Nat),decide (0<=qH p l i)=l.any p
 | [],i=>by simp [qH]
 | x::r,i=>by
  unfold qH
  rw [Ih]
  cases h:p x with
  | true=>simp
  | false=>simp [wP p r (i+1)]
def inB (v:Int) (l:List Int):Bool:=l.any fun x=>v==x
noncomputable abbrev RM:Func:=Tryz.f180
theorem GU (l:List Int) (hl:l.length<=1048576) (v r:Int):∀ (m i:Nat),i+m=l.length->qH (fun x=>v==x) (l.drop i) i=r->
  To E RM (.pure (.ret (ii r))) (.head (stk RM 0) [(0,.slice 1 (iv l) .no),(1,ii v),(7,.int .i64 ((iv l).length:Nat)),(8,ii i)] []):=by
 have hlen:(iv l).length=l.length:=by simp
 intro m
 induction m with
 | zero=>
  intro i hi hr
  rw [Ai (by omega)] at hr
  have hr: -1=r:=hr
  subst hr
  refine gW hE ?_;conv=>whnf
  refine aF fun h=>?_
  repeat' first | (refine gN hE ?_;conv=>whnf) | exact rfl | refine aY ?_ | refine aN ?_ | refine aT fun h=>?_ | refine aF fun h=>?_ | refine ⟨fun h=>?_,fun h=>?_⟩ | refine aJ ?_ | refine ⟨_,rfl,?_⟩ | refine aD ?_ | fail
 | succ m ih=>
  intro i hi hr
  have hlt:i<l.length:=by omega
  rw [Ag hlt] at hr
  have get:=gU hlt
  generalize l[i]=x at hr get
  unfold qH at hr
  have ih:=ih (i+1) (by omega)
  cases hq:(v==x) with
  | true=>
   rw [if_pos hq] at hr
   subst hr
   refine gW hE ?_;conv=>whnf
   refine aT fun h=>?_
   repeat' first | (refine gN hE ?_;conv=>whnf) | refine ⟨i,rfl,?_⟩ | refine ⟨_,get,?_⟩ | refine Ad (fun h=>?_) (fun h=>absurd h (by rw [hq];decide)) | exact rfl | refine aY ?_ | refine aN ?_ | refine aT fun h=>?_ | refine aF fun h=>?_ | refine ⟨fun h=>?_,fun h=>?_⟩ | refine aJ ?_ | refine ⟨_,rfl,?_⟩ | refine aD ?_ | fail
  | false=>
   rw [if_neg (by rw [hq];decide)] at hr
   have next:=ih hr
   refine gW hE ?_;conv=>whnf
   refine aT fun h=>?_
   repeat' first | (refine gN hE ?_;conv=>whnf) | refine ⟨i,rfl,?_⟩ | refine ⟨_,get,?_⟩ | refine Ad (fun h=>absurd h (by rw [hq];decide)) (fun h=>?_) | exact rfl | refine aY ?_ | refine aN ?_ | refine aT fun h=>?_ | refine aF fun h=>?_ | refine ⟨fun h=>?_,fun h=>?_⟩ | refine aJ ?_ | refine ⟨_,rfl,?_⟩ | refine aD ?_ | fail
   exact To.cut [0,1,7,8] 0 rfl rfl rfl rfl next
theorem O9 (l:List Int) (hl:l.length<=1048576) (v:Int):aA Tryz.prog 180 [.slice 1 (iv l) .no,ii v] [] (.ret (ii (qH (fun x=>v==x) l 0))) []:=by
 refine cT (E:=E) (fn:=Tryz.f180) (g:=.pure _) fun _=>?_
 refine gW hE ?_;conv=>whnf
 exact To.cut [0,1,7,8] 0 rfl rfl rfl rfl (GU l hl v _ l.length 0 (by omega) rfl)
theorem BN (l:List Int) (hl:l.length<=1048576) (v:Int):aA Tryz.prog 157 [.slice 1 (iv l) .no,ii v] [] (.ret (.bool (inB v l))) []:=by
 have h:=O9 l hl v
 have e:=wP (fun x=>v==x) l 0
 unfold inB
 rw [<-e]
 generalize qH (fun x=>v==x) l 0=q at h
 refine cT (E:=E) (fn:=Tryz.f157) (g:=.pure _) fun _=>?_
 repeat' first | (refine gN hE ?_;conv=>whnf) | refine .pure _ [] h ?_ | exact rfl | refine aY ?_ | refine aN ?_ | refine aT fun h=>?_ | refine aF fun h=>?_ | refine ⟨fun h=>?_,fun h=>?_⟩ | refine aJ ?_ | refine ⟨_,rfl,?_⟩ | refine aD ?_ | fail
def dG (l:List Rn) (ids:List Int):List Rn:=l.filter fun x=>!(inB x.g.id ids)
theorem yZ {x:Rn} {r:List Rn} {ids:List Int} (h:inB x.g.id ids=false):dG (x::r) ids=x::dG r ids:=List.filter_cons_of_pos (by rw [h];rfl)
theorem zA {x:Rn} {r:List Rn} {ids:List Int} (h:inB x.g.id ids=true):dG (x::r) ids=dG r ids:=List.filter_cons_of_neg (by rw [h];decide)
theorem B5 {l:List Rn} (hs:Sm l) (ids:List Int):Sm (dG l ids):=
 ⟨Cq (List.length_filter_le _ _) hs.1,fun x hx=>hs.2 x (Jf.1 hx).1⟩
noncomputable abbrev fWo:Func:=Tryz.f133
theorem M9 (l:List Rn) (hs:Sm l) (ids:List Int) (hd:ids.length<=1048576) (R:List Rn):∀ (m i:Nat) (acc:List Rn),i+m=l.length->acc.length<=i->acc++dG (l.drop i) ids=R->
  To (Eo [5] []) fWo (.pure (.ret (.slice 14 (rav R) .no))) (.head (stk fWo 0) [(1,.slice 1 (iv ids) .no),(5,.slice 14 (rav acc) (.own 0 0)),(8,.slice 14 (rav l) .no),(9,.int .i64 ((rav l).length:Nat)),(10,ii i)] [.tail 0 14 70]):=by
 have hlen:(rav l).length=l.length:=by simp
 have hl:=hs.1
 intro m
 induction m with
 | zero=>
  intro i acc hi ha hR
  rw [Ai (by omega)] at hR
  have hR:acc++[]=R:=hR
  rw [Bd] at hR
  subst hR
  refine gW (hEo [5] []) ?_;conv=>whnf
  refine aF fun h=>?_
  repeat' first | (refine gN (hEo [5] []) ?_;conv=>whnf) | exact rfl | refine aY ?_ | refine aN ?_ | refine aT fun h=>?_ | refine aF fun h=>?_ | refine ⟨fun h=>?_,fun h=>?_⟩ | refine aJ ?_ | refine ⟨_,rfl,?_⟩ | refine aD ?_ | fail
 | succ m ih=>
  intro i acc hi ha hR
  have hlt:i<l.length:=by omega
  have hb:=hs.at hlt
  rw [Ag hlt] at hR
  generalize hq:l[i]=x at hR hb
  have get:(rav l)[i]? =some x.av:=(mD hlt).trans (by rw [hq])
  have hla:(rav acc).length=acc.length:=by simp
  have hc:=BN ids hd x.g.id
  cases hw:inB x.g.id ids with
  | true=>
   rw [hw] at hc
   rw [zA hw] at hR
   have next:=ih (i+1) acc (by omega) (by omega) hR
   refine gW (hEo [5] []) ?_;conv=>whnf
   refine aT fun h=>?_
   repeat' first | (refine gN (hEo [5] []) ?_;conv=>whnf) | refine ⟨i,rfl,?_⟩ | refine ⟨_,get,?_⟩ | refine .pure _ [] hc ?_ | exact rfl | refine aY ?_ | refine aN ?_ | refine aT fun h=>?_ | refine aF fun h=>?_ | refine ⟨fun h=>?_,fun h=>?_⟩ | refine aJ ?_ | refine ⟨_,rfl,?_⟩ | refine aD ?_ | fail
   refine To.part [1,5,8,9,10] [0] rfl rfl rfl ?_
   exact next
  | false=>
   rw [hw] at hc
   rw [yZ hw] at hR
   have next:=ih (i+1) (acc++[x]) (by omega) (by simp;omega) (by rw [Al];exact hR)
   have e:rav (acc++[x])=rav acc++[x.av]:=by simp
   rw [e] at next
   refine gW (hEo [5] []) ?_;conv=>whnf
   refine aT fun h=>?_
   repeat' first | (refine gN (hEo [5] []) ?_;conv=>whnf) | refine ⟨i,rfl,?_⟩ | refine ⟨_,get,?_⟩ | refine .pure _ [] hc ?_ | refine .pure _ [] (NA x hb) ?_ | refine ⟨⟨by simp only [maxLen];simp;omega,by simp;omega⟩,?_⟩ | exact rfl | refine aY ?_ | refine aN ?_ | refine aT fun h=>?_ | refine aF fun h=>?_ | refine ⟨fun h=>?_,fun h=>?_⟩ | refine aJ ?_ | refine ⟨_,rfl,?_⟩ | refine aD ?_ | fail
   refine To.part [1,5,8,9,10] [0] rfl rfl rfl ?_
   exact next
theorem B6 (l:List Rn) (hs:Sm l) (ids:List Int) (hd:ids.length<=1048576):aA Tryz.prog 133 [.slice 14 (rav l) .no,.slice 1 (iv ids) .no] [] (.ret (.slice 14 (rav (dG l ids)) .no)) []:=by
 refine cT (E:=(Eo [5] [])) (fn:=Tryz.f133) (g:=.pure _) fun _=>?_
 refine gW (hEo [5] []) ?_;conv=>whnf
 refine To.part [1,5,8,9,10] [0] rfl rfl rfl ?_
 exact M9 l hs ids hd _ l.length 0 [] (by omega) (by simp) rfl
def V3.pos (d:V3):Prop:=0<=d.a/\0<=d.b/\0<=d.c
structure Prj (p:V3->Int):Prop where
 add:∀ u v,p (oQ u v)=Q5 (p u) (p v)
 sub:∀ u v,p (zD u v)=NM (p u) (p v)
 pos:∀ u,p (SH u)=max (p u) 0
 zero:p V3.zero=0
section
variable {p:V3->Int} (hp:Prj p)
include hp
end
def wiS (h:Int) (b:Bool) (y:Int):Bool:=if b=true then true else decide (y=h)
def vI (G hs:List Int):Bool:=hs.all fun h=>G.foldl (wiS h) false
def T1 (h n y:Int):Int:=if y=h then n+1 else n
def BP (h:Int) (l:List Int):Int:=l.foldl (T1 h) 0
def TF (free:List V3) (need:V3) (hs:List Int) (h:Int):Bool:=if decide (h<0)=true then false else if decide ((free.length:Int)<=h)=true then false else !decide (gO ((free[h.toNat]?).getD V3.zero) need<BP h hs)
def BF (free:List V3) (need:V3) (hs:List Int):Bool:=hs.all (TF free need hs)
def chkG (free:List V3) (need:V3) (hs:List Int) (G:List Int):Bool:=vI G hs&&BF free need hs
def qU (c:Con) (free:List V3) (g:Gan) (hs:List Int):Bool:=if ((hs.length:Int)=g.pods) then (gpL c g.lev).any (chkG free g.need hs) else false
theorem yP (h:Int):∀ (l:List Int) (n:Int),l.foldl (T1 h) n=n+(l.count h:Nat)
 | [],n=>by simp
 | y::r,n=>by
  rw [Cs,yP h r]
  unfold T1
  by_cases hy:y=h
  .subst hy
   rw [if_pos rfl,Hc]
   omega
  .rw [if_neg hy,List.count_cons_of_ne (by simpa using hy)]
theorem HR {G hs:List Int}:vI G hs=true↔ ∀ h∈hs,h∈G:=by
 have key:∀ (h:Int) (G:List Int) (b:Bool),G.foldl (wiS h) b=true↔b=true\/h∈G:=fun h G=>by
  induction G with
  | nil=>intro b;simp
  | cons y r ih=>
   intro b
   rw [Cs,ih]
   unfold wiS
   cases b with
   | true=>simp
   | false=>simp [eq_comm]
 unfold vI
 rw [Ck]
 constructor
 .intro q h hh
  have:=(key h G false).1 (q h hh)
  simpa using this
 .intro q h hh
  exact (key h G false).2 (.inr (q h hh))
section
variable {p:V3->Int} (hp:Prj p)
include hp
end
end Go.Proofs.YtmalnhgopkfdaaaGreat
