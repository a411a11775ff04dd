/- Part 17 of what the statement rests on. -/
import Derived.Test.YtidhfoefaomodaaGreatDoorMTA
set_option linter.all false
set_option maxRecDepth 10000
set_option maxHeartbeats 1000000
open And renaming intro->Ae
open Bool renaming false_eq_true->Cr,true_and->Bw
open Go.Value renaming okWide->Bt
open Int renaming le_refl->Dc,le_trans->Ds,toNat_natCast->Br
open List renaming all_eq_true->Cb,append_assoc->Ag,append_nil->Ar,cons_append->Bu,drop_eq_getElem_cons->Aa,drop_eq_nil_of_le->Ab,drop_zero->Ap,filter_cons->Hg,filter_cons_of_neg->Fc,filter_eq_self->Gf,foldl_cons->Bb,getElem?_eq_getElem->Ac,getElem?_eq_none->Bm,getElem?_map->Bi,getElem?_range->Dr,getElem_mem->Ax,length_append->Ai,length_cons->Ak,length_replicate->Fu,map_cons->Bj,mem_append->Bd,mem_append_left->Cf,mem_append_right->Ct,mem_cons->Aw,mem_cons_of_mem->Av,mem_cons_self->Ao,mem_map->Ce,mem_map_of_mem->Cq,mem_reverse->Hy,mem_singleton->Dp,nodup_cons->Cl,pairwise_append->Cj,take_add_one->Jn,take_of_length_le->Cn
open Nat renaming le_refl->Bh
open Option.some renaming inj->Db
namespace Go.AW
open Go.RowKit Go.ChangeShapes Go.WideShapes Go.ChangeAt
section
variable {P:Program} {w:World} {r:Reach} {base:Nat} {t:TypeId} {v:Value}
def zqto0{P:Prop}(h:P:=by
 refine To.part [3,5,7,8,9,11] [0,1,2] rfl rfl rfl ?_
 exact next):P:=h
def zqto1{P:Prop}(h:P:=by
 refine To.part [0,2,4,5] [0] rfl rfl rfl ?_
 exact next):P:=h
def eB(a:aK P t=false)(h:Bt P w r base t v):Cell.okWide P w r base t v:=by
 unfold Bt at h;unfold aK at a;split at h
 .grind
 .grind
 .exact h
end
def YP{args:Array Value}(h:args.toList.length=1):∃ a,args= #[a]:=by
 obtain ⟨l⟩:=args
 match l,h with
 | [a],_=>simp
section
variable {H:Type} {enc:TypeId×Value->H} {P:Program} {w:World} {base:Nat} {spare:Nat->Bool} {held:Bool}
def fR{r:Reach}{b0:Nat}{t e:TypeId}{v:Value}(b:P.underlying t=some (.slice e))(h:Cell.okWide P w r b0 t v):∃ a n c,v= .slice a n c:=by unfold Cell.okWide at h;rw [b] at h;unfold Cell.ok at h;rw [b] at h;cases v<;>simp at h;simp
end
section
variable {H:Type} {N:Nat} {G:DataW H->Prop} {enc:TypeId×Value->H} {P:Program} {w:World} {base:Nat} {spare:Nat->Bool} {held:Bool}
def eO(o:Bulk H N G){r:Reach}{b0:Nat}{n:Nat}{t e:TypeId}{v:Value}{d:DataW H}{ps:List MemPlace}(f:P.underlying t=some (.slice e))(i:lD P (n+1) t=true)(p:Bt P w r b0 t v)(h:DataW.Trod enc P w base spare held t v d ps)(k:G d):
  ∃ xs,Rep (Mw w) [] v (.slice (P.cellsOf e) xs .no)/\xs.length<=N/\∀ x∈xs,TyN P N n e x.cells/\(aK P e=true->∃ l,x= .agg l)/\(aK P e=false->x.cells=[x]):=by
 obtain ⟨a,m,c,rfl⟩:=fR f (eB (by unfold aK;rw [f]) p);obtain ⟨b,h⟩:=h;obtain ⟨as0,h1,g⟩:=iS o (n+1) t i b _ _ h k;unfold TyN at g;rw [f] at g;obtain ⟨xs,rfl,hl,j⟩:=g;exact ⟨xs,(h1.2 0 _ _ rfl rfl).rep,hl,j⟩
end
end Go.AW
namespace Go.Proofs.YtidhfoefaomodaaGreatDoor
open Go Go.AW Go.Proofs
set_option maxRecDepth 10000
def aDN{α:Type}{f g f' g':α->Int}:∀ (l:List α),(∀ s∈l,f' s+g' s<=f s+g s)->cI (l.map f')+cI (l.map g')<=cI (l.map f)+cI (l.map g)
 | [],_=>by simp [cI]
 | x::r,h=>by have h1:=aDN r λ s hs=>h s (by simp [hs]);have a:=h x s_;simp only [Bj,cI];omega
section
variable {p:V3->Int} (hp:Prj p)
include hp
def JR{ns:bc}{us c:a8}{need:V3}{t n:Int}(B:0<=p need)(i:∀ s,0<=p (atV c s)/\p (atV c s)<=p (atV us s)/\p (atV us s)<=cD):
  p (fK (fK (lY ns n c) need) (yE ns c n t))<=p (fK (fK (lY ns n us) need) (yE ns us n t)):=by
 have hz:p V3.zero=0:=hp.zero;have d:∀ (vs:a8),(∀ s,0<=p (atV vs s))->p (fK (fK (lY ns n vs) need) (yE ns vs n t))=min (cI ((bI ns n).map λ s=>p (atV vs s))+p need+cI ((bI ns n).map (kE ns p vs t))) cD/\0<=cI ((bI ns n).map λ s=>p (atV vs s))/\0<=cI ((bI ns n).map (kE ns p vs t)):=λ vs C=>by
  have k:∀ e∈(bI ns n).map (λ s=>p (atV vs s)),0<=e:=λ e j=>by obtain ⟨s,_,rfl⟩:=Ce.1 j;exact C s
  have q:∀ e∈(bI ns n).map (kE ns p vs t),0<=e:=λ e j=>by obtain ⟨s,_,rfl⟩:=Ce.1 j;unfold kE;split<;>omega
  have u:=kS k;have o:=kS q;refine ⟨?_,u,o⟩;rw [hp.add,hp.add];unfold lY yE;rw [FE hp,O4 hp _ _ _ _ _ (by rw [hz];exact Dc _) (by rw [hz];decide),hz,rK (Dc _) d_ k,rK (Dc _) d_ q];generalize cI ((bI ns n).map λ s=>p (atV vs s))=A at u;generalize cI ((bI ns n).map (kE ns p vs t))=K at o;rw [pF (v:=min (0+A) cD) (by unfold cD;omega) o_ B];rw [pF (by unfold cD;omega) o_ (by unfold cD;omega)];unfold cD;omega
 obtain ⟨D,G,H⟩:=d c λ s=>(i s).1;obtain ⟨w,I,F⟩:=d us λ s=>Ds (i s).1 (i s).2.1;rw [D,w];have hs:=aDN (f:=λ s=>p (atV us s)) (g:=kE ns p us t) (f':=λ s=>p (atV c s)) (g':=kE ns p c t) (bI ns n) λ s _=>by
  obtain ⟨h1,r,h3⟩:=i s;show p (atV c s)+kE ns p c t s<=p (atV us s)+kE ns p us t s;unfold kE;by_cases h:s=t
  .rw [if_pos h,if_pos h];omega
  .rw [if_neg h,if_neg h,hp.sub];generalize p (atV c s)=x at h1 r;generalize p (atV us s)=y at r h3;have hm: -cD<=sT (p (cZ ns s).n) (p (cZ ns s).l)/\sT (p (cZ ns s).n) (p (cZ ns s).l)<=cD:=by unfold sT iB cD;omega
   generalize sT (p (cZ ns s).n) (p (cZ ns s).l)=m at hm;have f:∀ z,0<=z->z<=cD->max (sT m z) 0=max (m-z) 0:=λ z a b=>by unfold sT iB;unfold cD at *;omega
   rw [f x h1 o_,f y o_ h3];omega
 omega
end
def aFp{c:Con}{us d:a8}{t:Int}{need:V3}(g:need.pos)(e:∀ s,(0<=(atV d s).a/\0<=(atV d s).b/\0<=(atV d s).c)/\(atV d s).le (atV us s)/\((atV us s).a<=cD/\(atV us s).b<=cD/\(atV us s).c<=cD))(h:EX c us t need=true):EX c d t need=true:=by
 unfold EX at h⊢;cases i:bL c.ns t with
 | false=>rw [i] at h;cases h
 | true=>
  rw [i,if_pos rfl] at h;rw [if_pos rfl];rw [Cb] at h⊢;intro x j;have h:=h x j;unfold SU at h⊢;by_cases f:x=t
  .rw [if_pos (decide_eq_true f)] at h⊢;unfold aEW at h⊢;exact jO.2 ((K5 need (e x).2.1).trans (jO.1 h))
  .rw [if_neg (by rw [decide_eq_false f];decide)] at h⊢;unfold aHF at h⊢;refine jO.2 (V3.le.trans ⟨?_,?_,?_⟩ (jO.1 h))
   .exact JR aEM g.1 λ s=>⟨(e s).1.1,(e s).2.1.1,(e s).2.2.1⟩
   .exact JR aEL g.2.1 λ s=>⟨(e s).1.2.1,(e s).2.1.2.1,(e s).2.2.2.1⟩
   .exact JR aEK g.2.2 λ s=>⟨(e s).1.2.2,(e s).2.1.2.2,(e s).2.2.2.2⟩
def PW(xs ys:a8):Prop:=xs.length=ys.length/\∀ j:Nat,((xs[j]?).getD V3.zero).le ((ys[j]?).getD V3.zero)
def aC5(xs:a8):Prop:=∀ j:Nat,-cD<=((xs[j]?).getD V3.zero).a/\ -cD<=((xs[j]?).getD V3.zero).b/\ -cD<=((xs[j]?).getD V3.zero).c
def CE{a b n:Int}(h:a<=b):sT a n<=sT b n:=by unfold sT iB;omega
def CF{a n:Int}(h: -cD<=a)(b:0<=n):sT a n<=a:=by unfold sT iB;unfold cD at h;omega
def GS(a n:Int): -cD<=sT a n:=by unfold sT iB cD;omega
def W9{need:V3}{xs ys:a8}(h:Int)(hp:PW xs ys):PW (lS need xs h) (lS need ys h):=by
 refine ⟨by rw [mB,mB];exact hp.1,λ j=>?_⟩;rw [sA,sA,hp.1];split
 .have:=hp.2 j;exact ⟨CE this.1,CE this.2.1,CE this.2.2⟩
 .exact hp.2 j
def XA{need:V3}{xs ys:a8}(a:need.pos)(hl:aC5 xs)(h:Int)(hp:PW xs ys):PW (lS need xs h) ys:=by
 refine ⟨by rw [mB];exact hp.1,λ j=>?_⟩;rw [sA];split
 .have:=hl j;exact V3.le.trans ⟨CF this.1 a.1,CF this.2.1 a.2.1,CF this.2.2 a.2.2⟩ (hp.2 j)
 .exact hp.2 j
def IK{need:V3}{xs:a8}(hl:aC5 xs)(h:Int):aC5 (lS need xs h):=λ j=>by
 rw [sA];split
 .exact ⟨GS _ _,GS _ _,GS _ _⟩
 .exact hl j
def yZ{x:Rn}(b:x.g.need.pos):∀ (hs:ax) (xs ys:a8),aC5 xs->PW xs ys->aC5 (hs.foldl (lS x.g.need) xs)/\PW (hs.foldl (lS x.g.need) xs) (hs.foldl (lS x.g.need) ys)/\PW (hs.foldl (lS x.g.need) xs) ys
 | [],xs,ys,h,hp=>⟨h,hp,hp⟩
 | a::r,xs,ys,h,hp=>by rw [Bb,Bb];obtain ⟨c,d,_⟩:=yZ b r _ _ (IK h a) (W9 a hp);obtain ⟨_,_,e⟩:=yZ b r _ _ (IK h a) (XA b h a hp);exact ⟨c,d,e⟩
def C7(q:Rn->Bool):∀ (l:a6) (xs ys:a8),(∀ x∈l,x.g.need.pos)->aC5 xs->PW xs ys->PW (l.foldl yF xs) ((l.filter q).foldl yF ys)
 | [],xs,ys,_,_,hp=>hp
 | x::r,xs,ys,hn,hl,hp=>by
  obtain ⟨b,c,d⟩:=yZ (hn x s_) x.hs xs ys hl hp;rw [Bb,Hg];cases q x with
  | true=>
   rw [if_pos rfl,Bb];exact C7 q r _ _ (λ y a=>hn y (by simp [a])) b c
  | false=>
   rw [if_neg d_];exact C7 q r _ _ (λ y a=>hn y (by simp [a])) b d
def ZW{f need:V3}(a:bH need=true):0<=dN f need:=by
 by_cases h:dC need f=true
 .refine (AT a h 0).2 ?_;obtain ⟨⟨b,_⟩,⟨e,_⟩,c,_⟩:=cN a;obtain ⟨h1,d,h3⟩:=CB.1 h;simp only [Int.mul_zero];omega
 .unfold dN;rw [if_neg h];omega
def aBJ{f f' need:V3}(b:bH need=true)(h:f.le f'):dN f need<=dN f' need:=by
 by_cases a:dC need f=true
 .have c:dC need f'=true:=jO.2 ((jO.1 a).trans h);have h1:=(AT b a (dN f need)).1 (Dc _);exact (AT b c _).2 ⟨h1.1,Ds h1.2.1 h.1,Ds h1.2.2.1 h.2.1,Ds h1.2.2.2 h.2.2⟩
 .have:=ZW (f:=f') b;have e:dN f need=0:=by unfold dN;rw [if_neg a]
  omega
def aAx{free free':a8}{g:Gan}(b:bH g.need=true)(hp:PW free free'):∀ (c:ax) (o a:ax),o.length<=a.length->(a.length:Int)<=g.pods->(c.foldl (inS free g) o).length<=(c.foldl (inS free' g) a).length
 | [],o,a,h,_=>h
 | x::r,o,a,h,hb=>by
  rw [Bb,Bb];refine aAx b hp r _ _ ?_ (FO free' g a x hb);unfold inS;by_cases h1:x<0
  .rw [if_pos (decide_eq_true h1),if_pos (decide_eq_true h1)];exact h
  .simp only [h1,decide_false,Cr,if_false,hp.1];by_cases d:(free'.length:Int)<=x
   .simp only [d,decide_true,if_true];exact h
   .simp only [d,decide_false,Cr,if_false];have i:=aBJ b (hp.2 x.toNat);have e:=ZW (f:=(free[x.toNat]?).getD V3.zero) b;simp only [Ai,Fu];unfold inN;omega
def TX{c:Con}{free free':a8}{g:Gan}(a:0<=g.pods)(d:bH g.need=true)(hp:PW free free'):∀ (b:List ax),(fdG c free g b).isSome=true->(fdG c free' g b).isSome=true
 | [],h=>by cases h
 | gr::r,h=>by
  have hm:=aAx (free:=free) (free':=free') (g:=g) d hp gr [] [] (Bh _) (by simpa using a);have hm:(inL free g gr).length<=(inL free' g gr).length:=hm;unfold fdG at h⊢;by_cases h1:((inL free' g gr).length:Int)<g.pods
  .rw [if_pos (decide_eq_true h1)];rw [if_pos (decide_eq_true o_)] at h;exact TX a d hp r h
  .rw [if_neg (by rw [decide_eq_false h1];decide)];rfl
def TW{c:Con}{free free':a8}{g:Gan}(a:0<=g.pods)(d:bH g.need=true)(hp:PW free free'):∀ (n:Nat) (lv:Int),(fdL c free g n lv).isSome=true->(fdL c free' g n lv).isSome=true
 | 0,lv,h=>by cases h
 | n+1,lv,h=>by
  unfold fdL at h⊢;have hm:=TX (c:=c) a d hp (gpL c lv);cases e:fdG c free' g (gpL c lv) with
  | some x=>rfl
  | none=>
   rw [e] at hm;cases b:fdG c free g (gpL c lv) with
   | some x=>rw [b] at hm;exact absurd (hm rfl) d_
   | none=>
    rw [b] at h;exact TW a d hp n (lv+1) h
def aCm{c:Con}{l:a6}{g:Gan}(d:∀ h∈c.hs,h.c.pos)(hd:∀ x∈l,(dem x.g).pos)(m:∀ x∈l,x.g.need.pos)(k:0<=g.pods)(f:(dem g).pos)(i:bH g.need=true)(q:Rn->Bool)(h:(bM c l g).isSome=true):(bM c (l.filter q) g).isSome=true:=by
 unfold bM at h⊢;cases hm:EX c (ofL c l) g.ten (dem g) with
 | false=>rw [hm] at h;cases h
 | true=>
  rw [hm,if_pos rfl] at h;rw [aFp f (aAd hd q) hm,if_pos rfl];unfold BN at h⊢;refine TW k i ?_ _ _ h;unfold lT;refine C7 q l _ _ m (λ j=>?_) ⟨rfl,λ j=>BA _⟩;rw [Bi];by_cases e:j<c.hs.length
  .rw [Dr e];have:=d (bQ c.hs (j:Int)) (by unfold bQ;rw [Br,Ac e];exact Ax e);show -cD<=(bQ c.hs (j:Int)).c.a/\_/\_;exact ⟨Ds d_ this.1,Ds d_ this.2.1,Ds d_ this.2.2⟩
  .rw [Bm q_];show -cD<=V3.zero.a/\ -cD<=V3.zero.b/\ -cD<=V3.zero.c;decide
def BS{l:bb}{i:Nat}(h:i<l.length):(evv l)[i]? =some l[i].av:=by simp [evv,h]
abbrev cmv(l:bj):ay:=l.map Cmd.av
noncomputable abbrev aLY:Func:=Tryz.f46
def nN:bj->Sta->ax->Sta×ax
 | [],s,es=>(s,es)
 | x::l,s,es=>nN l (aC s x).1 (es++[(aC s x).2.2])
set_option maxHeartbeats 1000000 in
def aBV(L:bj)(p:L.length<=1000000)(d:Sta->bj->Prop)(n:∀ s x l,d s (x::l)->lZ s x (aC s x)/\d (aC s x).1 l)(R:Sta×ax):∀ (m i:Nat) (s:Sta) (es:ax),i+m=L.length->es.length<=i->d s (L.drop i)->nN (L.drop i) s es=R->
  To (Eo [5] []) aLY (.pure (.ret (.tup [R.1.av,.slice 1 (iv R.2) .no]))) (.head (stk aLY 0) [(2,.ref 0 0),(4,.ref 1 0),(5,.slice 1 (iv es) (.own 2 0)),(10,.slice 15 (cmv L) .no),(11,.int .i64 ((cmv L).length:Nat)),(12,ii i)] [uT,uH s,.tail 0 1 61]):=by
 have f:(cmv L).length=L.length:=by simp
 intro m;induction m with
 | zero=>
  intro i s es j o _ a;rw [Ab o_] at a;have a:(s,es)=R:=a;subst a;refine gV ?_;exact zW
 | succ m e=>
  intro i s es j o c a;have b:i<L.length:=o_;rw [Aa b] at a c;have get:(cmv L)[i]? =some L[i].av:=by simp [b]
  generalize L[i]=x at a c get;obtain ⟨h1,k⟩:=n _ _ _ c;have next:=e (i+1) (aC s x).1 (es++[(aC s x).2.2]) o_ q_ k a
  have h:(iv es).length<=1048576:=by simp;omega
  have g:iv (es++[(aC s x).2.2])=iv es++[ii (aC s x).2.2]:=by simp
  rw [g] at next
  generalize aC s x=r at *
  clear e a g;refine gV ?_;exact zW
def aDZ(L:bj)(b:L.length<=1000000)(a:Sta->bj->Prop)(c:∀ s x l,a s (x::l)->lZ s x (aC s x)/\a (aC s x).1 l)(d:a cA L):
  aq 46 [.slice 15 (cmv L) .no] [] (.ret (.tup [(nN L cA []).1.av,.slice 1 (iv (nN L cA []).2) .no])) []:=by
 have h:=aBV L b a c (nN L cA []) L.length 0 cA [] o_ s_ (by rw [Ap];exact d) (by rw [Ap]);have e:=AO;generalize nN L cA []=R at *
 refine cT (E:=(Eo [5] [])) (fn:=Tryz.f46) (g:=.pure _) λ_=>?_;exact zW
def gB:V3:=⟨4,4,4⟩
def OkL(s:Sta)(l:bj):Prop:=OkT s/\s.nxt+(l.length:Int)<=1099511627776/\∀ x∈l,x.k=1->x.c.sm
def SF:∀ s x l,OkL s (x::l)->lZ s x (aC s x)/\OkL (aC s x).1 l:=by intro s x l ⟨h1,b,h3⟩;rw [Ak] at b;obtain ⟨a,d,e⟩:=h1.apply o_ x;exact ⟨CO s x (h1.ok.st h1.lt) (h3 x (Ao ..)),a,by omega,λ y c=>h3 y (Av _ c)⟩
def SE{l:bj}(h:l.length<=1000000)(a:∀ x∈l,x.c.sm):OkL cA l:=⟨AL,by show (1:Int)+_<=_;omega,λ x b _=>a x b⟩
open Go.ChangeShapes Go.WideShapes Go.ChangeAt Go.RowKit
set_option maxRecDepth 100000
section
variable {H:Type} {enc:TypeId×Value->H} {W:World} {r:Reach} {base b0:Nat} {spare:Nat->Bool} {held:Bool} {v:Value} {d:DataW H} {ps:List MemPlace}
def CW(f:Bt Tryz.prog W r b0 22 v)(h:DataW.Trod enc Tryz.prog W base spare held 22 v d ps)(e:Rows.uptoBulk d<=1048576):∃ l:bj,Rep (Mw W) [] v (.slice 15 (cmv l) .no)/\l.length<=1048576/\∀ x∈l,CmSm x:=by
 obtain ⟨xs,b,i,a⟩:=eO (n:=6) (EF H 1048576) Tryz.underlying22 (by kernel_rfl) f h e;have c:Tryz.prog.cellsOf 58=15:=by kernel_rfl
 obtain ⟨l,rfl,hl⟩:=B8 (av:=Cmd.av) (Q:=CmSm) (P:=λ x=>x∈xs) (λ x hm=>by
  obtain ⟨cs,rfl⟩:=(a x hm).2.1 (by kernel_rfl);obtain ⟨p,hp,g⟩:=D0 (n:=0) (a _ hm).1
  exact ⟨p,by unfold Cmd.av;rw [<-hp];rfl,g⟩) xs λ x hm=>hm
 rw [c] at b;exact ⟨l,b,by simpa using i,hl⟩
end
abbrev drN(g:aw)(n:Int)(x:aw)(m:Int)(S:Sta):au:=[aO g,.cells tDr [.ref 2 0,.ref 4 0],dkC n (sfV false 3 x) aV false,jnO 2 m,.cells tSt (.ref 3 0::S.cs)]
def iV(g:aw)(n:Int)(S:Sta)(m:Int)(a:aq 59 [.ref 0 0] (.cells tDr [.ref 1 0,pv true]::dkC (min (max n 0) 1048576) (sfV false 2 []) aV false::sfT false++[aO g]) (.ret (ii 0)) (drS false false g (min (max n 0) 1048576) [] m S)):
  aq 18 [ii n] [aO g] (.ret (.ref 1 0)) (drN g (min (max n 0) 1048576) [] m S):=by
 have h1:=gZ n;generalize min (max n 0) 1048576=N at *
 refine cT (E:=E) (fn:=Tryz.f18) (g:=.full 1 _ _) λ_=>?_
 repeat' first | (refine gN hE ?_;conv=>whnf) | refine .pure _ _ h1 ?_ | refine .eff [] [2,1,0] _ _ rfl a ?_ | exact rfl | refine zt ?_ | refine zu ?_ ?_ | intro h | fail
 exact zx [0,2,1,3,4]
def eJ(f f':Bool)(a:f'=true->f=true)(g:aw)(n:Int)(x:aw)(m:Int)(S R:Sta)
  (h1:aq 30 [.ref 0 0] (stS S m f' n x) (.ret R.av) (stS S m f' n x)):
  aq 22 [.ref 0 0] (drS f f' g n x m S) (.ret R.av) (drS f f' g n x m S):=by
 cases f<;>cases f'
 case false.true=>exact absurd (a rfl) d_
 all_goals
  refine cT (E:=E) (fn:=Tryz.f22) (g:=.full _ _ _) λ_=>?_
  repeat' first | (refine gN hE ?_;conv=>whnf) | refine .eff [] [4,3,1] _ _ rfl h1 ?_ | refine .eff [] [5,4,1] _ _ rfl h1 ?_ | refine .eff [] [5,4,1,2] _ _ rfl h1 ?_ | exact zx [0,1,2,3,4] | exact zx [0,1,2,3,4,5] | exact rfl | refine zt ?_ | refine zu ?_ ?_ | intro h | fail
def aZ:bf->Kst->Kst
 | [],t=>t
 | p::l,t=>aZ l (aG t p).1
def cC:bf->Kst->List (bb×Int)
 | [],_=>[]
 | p::l,t=>(aG t p).2::cC l (aG t p).1
def qX:Con:=⟨[⟨-1,1,V3.zero,V3.zero,V3.zero⟩,⟨0,1,gB,gB,gB⟩,⟨0,1,gB,gB,gB⟩],[⟨0,0,0,gB⟩,⟨0,0,1,gB⟩],10,0⟩
def mX(id t run:Int):Cmd:=⟨2,E3,⟨id,t,2,⟨2,2,2⟩,run,3,0⟩,0⟩
def uY:Cmd:=⟨6,E3,Gan.zero,0⟩
def gC:bj:=[⟨1,qX,Gan.zero,0⟩,mX 1 1 50,mX 2 1 50,uY]
def eV:bj:=[mX 3 2 9,uY]
def qW:bf:=gC.map (λ c=>⟨1,c,0⟩)++[⟨3,Cmd.zero,0⟩]++eV.map (λ c=>⟨1,c,0⟩)
def evS:bj->Sta->List (bb×Int)
 | [],_=>[]
 | c::l,s=>(aC s c).2::evS l (aC s c).1
def oT:bj->Sta->Sta
 | [],s=>s
 | c::l,s=>oT l (aC s c).1
def oU:∀ (l:bj) (t:Kst) (m:Int),(∀ c∈l,c.il.length<=60/\∀ n∈c.il,n<=9223372036854775807)->(∀ a∈evS l t.s,a.2=0)->gT t (m+609*l.length)->0<=m->
  ∃ d i,aZ (l.map λ c=>⟨1,c,0⟩) t=⟨d,i,oT l t.s⟩/\cC (l.map λ c=>⟨1,c,0⟩) t=evS l t.s/\gT ⟨d,i,oT l t.s⟩ m
 | [],t,m,_,_,hr,_=>⟨t.d,t.n,rfl,rfl,by unfold gT at *;simp at hr;exact hr⟩
 | c::l,t,m,h,he,hr,hm=>by
  obtain ⟨h1,j⟩:=h c (Ao ..);have b:(aC t.s c).2.2=0:=he _ (Ao ..);have u:aC t.s c=((aC t.s c).1,(aC t.s c).2.1,0):=by rw [<-b]
  obtain ⟨d,i,e,_,r⟩:=fL (t:=t) (c:=c) 0 60 (m+609*l.length) u h1 j d_ (by unfold gT at *;simp only [Ak] at hr;omega) o_;obtain ⟨f,q,v,p,k⟩:=oU l ⟨d,i,(aC t.s c).1⟩ m (λ x g=>h x (Av _ g)) (λ a o=>he a (Av _ o)) r hm;refine ⟨f,q,?_,?_,k⟩
  .show aZ (l.map λ c=>⟨1,c,0⟩) (aG t ⟨1,c,0⟩).1=_;rw [e];exact v
  .show (aG t ⟨1,c,0⟩).2::cC (l.map λ c=>⟨1,c,0⟩) (aG t ⟨1,c,0⟩).1=(aC t.s c).2::evS l (aC t.s c).1;rw [e];dsimp only;rw [p,<-b]
def dO:∀ (l m:bf) (t:Kst),aZ (l++m) t=aZ m (aZ l t)
 | [],_,_=>rfl
 | p::l,m,t=>dO l m _
def jA:∀ (l m:bf) (t:Kst),cC (l++m) t=cC l t++cC m (aZ l t)
 | [],_,_=>rfl
 | p::l,m,t=>by show _::cC (l++m) _=_;rw [jA l m];rfl
def tS1:Sta:=oT gC cA
def tS2:Sta:=oT eV tS1
def w28:cC qW (bC 5000)=evS gC cA++[([],0)]++evS eV tS1/\(aZ qW (bC 5000)).s=tS2:=by
 obtain ⟨d,i,e,g,r⟩:=oU gC (bC 5000) 1300 (by decide+kernel) (by decide+kernel) (by show ((0:Nat):Int)+_<=_;decide) d_;have hs:oT gC (bC 5000).s=tS1:=rfl;have b:evS gC (bC 5000).s=evS gC cA:=rfl;rw [hs] at e r;rw [b] at g;have hz:∀ a∈evS eV tS1,a.2=0:=by decide+kernel
 have hz2:tS2=oT eV tS1:=rfl;have k:∀ c∈eV,c.il.length<=60/\∀ n∈c.il,n<=9223372036854775807:=by decide+kernel
 have hl:eV.length=2:=rfl;clear hs b;unfold qW;rw [hz2];generalize tS1=S at *
 obtain ⟨o,p,m,l,_⟩:=oU eV ⟨d,i,S⟩ 0 k hz (by unfold gT at *;rw [hl];dsimp only at *;omega) d_;have h:∀ t,aG t ⟨3,Cmd.zero,0⟩=(t,[],0):=λ_=>rfl;have j:cC [⟨3,Cmd.zero,0⟩] ⟨d,i,S⟩=[([],0)]:=by simp only [cC,h]
 have f:aZ [⟨3,Cmd.zero,0⟩] ⟨d,i,S⟩=⟨d,i,S⟩:=by simp only [aZ,h]
 constructor
 .rw [jA,jA,dO,g,e,j,f,l]
 .rw [dO,dO,e,f,m]
def aDf:∃ a b c d e f:bb×Int,∃ x y:Ev,evS gC cA++[([],0)]++evS eV tS1=[a,b,c,([x,y],d.2),e,f,([⟨2,2,0⟩,⟨1,3,0⟩],0)]:=by refine ⟨([],0),([],0),([],0),([],0),([],0),([],0),⟨1,1,0⟩,⟨1,2,0⟩,?_⟩;decide+kernel
def aDe:tS2.run.length=2/\tS2.pend.length=1/\(tS2.run[1]?).map (λ r=>r.g.id)=some 3:=by decide+kernel
def cO(n:Int)(g:aw):aq 18 [ii n] [aO g] (.ret (.ref 1 0)) (drN g (bC n).d.size [] 0 cA):=iV g n cA 0 ((kb0 n).dop true false g)
def KB.stt{t:Kst}{k:Nat}(h:KB t k)(f:Bool)(g:aw):aq 22 [.ref 0 0] (drS f f g t.d.size t.d.safe t.n t.s) (.ret t.s.av) (drS f f g t.d.size t.d.safe t.n t.s):=by have a:=h.sap Cmd.zero (λ e=>by cases e);have h1:=kJ t.s _ a t.n f t.d.size t.d.safe;rw [(nJ t.s).1] at h1;exact eJ f f id g _ _ _ _ _ h1
abbrev stv(l:bf):ay:=l.map Kstp.av
noncomputable abbrev fPl:Func:=Tryz.f35
abbrev JQ(a:bb×Int):aa:=sJ a.1 a.2
abbrev anv(l:List (bb×Int)):ay:=l.map JQ
abbrev sN:ab:=uT
abbrev plO(f:Bool)(g:aw)(t:Kst):au:=match f with
 | true=>[aO g,sN,.cells tDr [.ref 3 0,.ref 6 0],dkC t.d.size (sfV true 4 t.d.safe) aV false,.tail 0 1 5,jnO 3 t.n,.cells tSt (.ref 5 0::t.s.cs),.tail 0 2 63]
 | false=>[aO g,sN,.cells tDr [.ref 3 0,.ref 5 0],dkC t.d.size (sfV false 4 t.d.safe) aV false,jnO 3 t.n,.cells tSt (.ref 4 0::t.s.cs),.tail 0 2 63]
abbrev plN(f:Bool):Nat:=match f with | true=>7 | false=>6
def kZ(L:bf)(z:L.length<=57)(o:∀ p∈L,p.x.c.sm)(g:aw)(R:Kst)(A:List (bb×Int)):∀ (m i:Nat) (t:Kst) (bs:List (bb×Int)) (f:Bool),i+m=L.length->bs.length=i->KB t i->aZ (L.drop i) t=R->bs++cC (L.drop i) t=A->
  To (Eo [7] []) fPl (.full 1 (.ret (.tup [.slice 2 (anv A) .no,R.s.av])) [aO g]) (.head (stk fPl 0) [(5,.ref 1 0),(6,.ref 2 0),(7,.slice 2 (anv bs) (.own (plN f) 0)),(12,.slice 17 (stv L) .no),(13,.int .i64 ((stv L).length:Nat)),(14,ii i)] (plO f g t)):=by
 have u:(stv L).length=L.length:=by simp
 intro m;induction m with
 | zero=>
  intro i t bs f w y j b a;rw [Ab o_] at b a;have b:t=R:=b;have a:bs++[]=A:=a;rw [Ar] at a;subst b a;have hs:=j.stt f g;clear j;cases f
  .refine gV ?_;refine aF λ h=>?_
   repeat' first | (refine gN (hEo [7] []) ?_;conv=>whnf) | refine .eff [] [2,3,0,4,5] _ _ rfl hs ?_ | exact zx [0] | exact rfl | refine zt ?_ | refine zu ?_ ?_ | intro h | fail
  .refine gV ?_;refine aF λ h=>?_
   repeat' first | (refine gN (hEo [7] []) ?_;conv=>whnf) | refine .eff [] [2,3,4,0,5,6] _ _ rfl hs ?_ | exact zx [0] | exact rfl | refine zt ?_ | refine zu ?_ ?_ | intro h | fail
 | succ m q=>
  intro i t bs f w y j b a;have d:i<L.length:=o_;rw [Aa d] at b a;have get:(stv L)[i]? =some L[i].av:=by simp [d]
  have hp:=o L[i] (Ax d);generalize L[i]=p at b a get hp;have hd:=j.dr o_ f g p (λ_=>hp);have k:=j.step o_ p (λ_=>hp);have next:=q (i+1) (aG t p).1 (bs++[(aG t p).2])
  have v:anv (bs++[(aG t p).2])=anv bs++[sJ (aG t p).2.1 (aG t p).2.2]:=by simp
  rw [v] at next
  have l:(anv bs).length<=1048576:=by simp;omega
  replace next:=λ f=>next f o_ q_ k b (by rw [Ag];exact a)
  generalize aG t p=r at *
  obtain ⟨B,ev,e⟩:=r;dsimp only at *
  clear q b a v j k o hp;cases f
  all_goals
   cases hd
  all_goals
   rename_i n;refine gV ?_;refine aT λ h=>?_
   repeat' first | (refine gN (hEo [7] []) ?_;conv=>whnf) | refine ⟨i,rfl,?_⟩ | refine ⟨_,get,?_⟩ | refine .eff [] [2,3,0,4,5] _ _ rfl n ?_ | refine .eff [] [2,3,4,0,5,6] _ _ rfl n ?_ | refine Ae (lH l d_) ?_ | exact rfl | refine zt ?_ | refine zu ?_ ?_ | intro h | fail
   first
    | exact To.part [5,6,7,12,13,14] [0,1,2,3,4,5,6] rfl rfl rfl (next false)
    | exact To.part [5,6,7,12,13,14] [0,1,2,3,8,4,5,6] rfl rfl rfl (next true)
    | exact To.part [5,6,7,12,13,14] [0,1,2,3,8,9,6] rfl rfl rfl (next false)
    | exact To.part [5,6,7,12,13,14] [0,1,2,3,8,9,10,6] rfl rfl rfl (next true)
    | exact To.part [5,6,7,12,13,14] [0,1,2,3,9,10,6] rfl rfl rfl (next false)
    | exact To.part [5,6,7,12,13,14] [0,1,2,3,4,5,6,7] rfl rfl rfl (next true)
    | exact To.part [5,6,7,12,13,14] [0,1,2,3,5,6,7] rfl rfl rfl (next false)
    | exact To.part [5,6,7,12,13,14] [0,1,2,3,4,9,10,7] rfl rfl rfl (next true)
    | exact To.part [5,6,7,12,13,14] [0,1,2,3,9,10,7] rfl rfl rfl (next false)
def jV(n:Int)(L:bf)(a:L.length<=57)(d:∀ p∈L,p.x.c.sm)(g:aw):
  aq 35 [ii n,.slice 17 (stv L) .no] [aO g] (.ret (.tup [.slice 2 (anv (cC L (bC n))) .no,(aZ L (bC n)).s.av])) [aO g]:=by
 have h:=kZ L a d g (aZ L (bC n)) (cC L (bC n)) L.length 0 (bC n) [] false o_ rfl (kb0 n) (by rw [Ap]) (by rw [Ap];rfl);have b:=cO n g;generalize aZ L (bC n)=R at *
 generalize cC L (bC n)=A at *
 refine cT (E:=(Eo [7] [])) (fn:=Tryz.f35) (g:=.full 1 _ _) λ_=>?_
 repeat' first | (refine gN (hEo [7] []) ?_;conv=>whnf) | refine .eff [] [0] _ _ rfl b ?_ | exact rfl | refine zt ?_ | refine zu ?_ ?_ | intro h | fail
 refine To.part [5,6,7,12,13,14] [0,1,2,3,4,5,6] rfl rfl rfl ?_;exact h
def wgt(c:Con):Int:=1+((nav c.ns).length:Nat)+((hav c.hs).length:Nat)
def smR(M:Int):List Con->Int->Int
 | [],n=>n
 | c::l,n=>if n<M then smR M l (n+wgt c) else n
def uW{c:Con}(h:c.sm):1<=wgt c/\wgt c<=2097153:=by
 have l1:(nav c.ns).length=c.ns.length:=by simp
 have l2:(hav c.hs).length=c.hs.length:=by simp
 have:=h.ns;have:=h.hs;unfold wgt;omega
def uX:aq 48 [] [] (.ret (.agg [.slice 11 (nav qX.ns) .full,.slice 6 (hav qX.hs) .full,ii 10,ii 0])) []:=by exact c_ Tryz.f48 λ_=>zW
def qV:aq 48 [] [] (.ret qX.av) []:=aA.less uX
def iL(c:Cmd):aq 47 [c.av] [] (.ret (Kstp.av ⟨1,c,0⟩)) []:=by exact c_ Tryz.f47 λ_=>zW
def vE(id t run:Int):aq 49 [ii id,ii t,ii run] [] (.ret (Kstp.av ⟨1,mX id t run,0⟩)) []:=by have h1:=iL (mX id t run);exact c_ Tryz.f49 λ_=>zW
def AF:∀ p∈qW,p.x.c.sm:=by intro p hp;refine ⟨?_,?_⟩<;>(revert p;decide)
def GJ:stv qW=[Kstp.av ⟨1,⟨1,qX,Gan.zero,0⟩,0⟩,Kstp.av ⟨1,mX 1 1 50,0⟩,Kstp.av ⟨1,mX 2 1 50,0⟩,Kstp.av ⟨1,uY,0⟩,Kstp.av ⟨3,Cmd.zero,0⟩,Kstp.av ⟨1,mX 3 2 9,0⟩,Kstp.av ⟨1,uY,0⟩]:=rfl
set_option maxHeartbeats 1000000 in
def jI(g:aw):aq 13 [] [aO g] (.ret (.bool true)) [aO g]:=by
 obtain ⟨a,b,c,d,e,f,x,y,l⟩:=aDf;obtain ⟨j,n⟩:=w28;rw [l] at j;obtain ⟨k,m,i⟩:=aDe;have hp:=jV 5000 qW d_ AF g;rw [j,n,GJ] at hp;clear l j n;generalize tS2=S at *
 obtain ⟨C,now,nxt,pend,run,hist⟩:=S;dsimp only at k m i
 match run,pend,k,m,i with
 | [r1,r2],[p],_,_,i=>
  obtain ⟨⟨o,D,w,n2,B,l2,z⟩,s,u,F,t,v⟩:=r2;obtain rfl:o=3:=Db i;have h1:=qV;have r:=iL uY;have q:=iL ⟨1,qX,Gan.zero,0⟩;have h3:=vE;refine cT (E:=E) (fn:=Tryz.f13) (g:=.full 1 _ _) λ_=>?_
  repeat' first | (refine gN hE ?_;conv=>whnf) | refine .pure _ [] h1 ?_ | refine .pure _ [] (aA.strip r) ?_ | refine .pure _ [] (aA.strip q) ?_ | refine .pure _ [] (h3 _ _ _) ?_ | refine .look [0] _ _ rfl rfl (aA.strip hp) (λ_=>rfl) (λ_=>rfl) ?_ | exact zx [0] | exact rfl | refine zt ?_ | refine zu ?_ ?_ | intro h | fail
def hdE:bb->Int×Int×Bool
 | []=>(0,0,false)
 | e::r=>if e.k=4 then (e.id,e.n,true) else hdE r
def PB:∀ (l m:bb),hdE (l++m)=if (hdE l).2.2=true then hdE l else hdE m
 | [],m=>rfl
 | e::r,m=>by
  rw [Bu,show hdE (e::(r++m))=if e.k=4 then (e.id,e.n,true) else hdE (r++m) from rfl,show hdE (e::r)=if e.k=4 then (e.id,e.n,true) else hdE r from rfl];by_cases h:e.k=4
  .rw [if_pos h,if_pos h];rfl
  .rw [if_neg h,if_neg h];exact PB r m
def OT(l:bb):Prop:=∀ e∈l,e.k≠2
structure GOK(s:Sta):Prop where
 cap:∀ h∈s.c.hs,h.c.pos
 gang:∀ x∈s.pend++s.run.map Rn.pn,am x.g
def OkS.gok{s:Sta}(h:OkS s):GOK s where
 cap x hx:=by
  rcases h.head with e | e
  .rw [DD] at e;rw [e] at hx;cases hx
  .have h1:=Cb.1 (wK e).2.2 x hx;unfold nP at h1;split at h1
   .cases h1
   .exact wS h1
 gang x hx:=iT (h.gang x hx).1
structure WInv(s:Sta)(r:Rd)(done:a7):Prop where
 sub:∀ p∈r.s.pend,p∈s.pend
 hd:(hdE r.ev).2.2=r.head
 st:r.head=true->(hdE r.ev).2.1=r.start
 w:∀ p∈r.s.pend,p∈done->bM s.c r.s.run p.g=none\/(r.head=true/\((hdE r.ev).1=p.g.id\/bmB s.now p.g r.start=false))
def aCn{s:Sta}{r:Rd}{rest:a7}(b:Base s)(g:GOK s)(h:ai s r rest){run:a6}{x:Rn}(j:r.s.run=run++[x]){p:Pn}(hp:p∈s.pend)(m:bM s.c run p.g=none):bM s.c r.s.run p.g=none:=by
 have f:=h.once b;have i:∀ y∈r.s.run,am y.g:=λ y d=>g.gang y.pn (h.perm.mem_iff.1 (Ct _ (Cq d)));have a:=g.gang p (Cf _ hp);have e:r.s.run.filter (λ y=>!(y.g.id==x.g.id))=run:=by
  rw [j] at f⊢;rw [List.filter_append,Fc s_];have f:=(Cj.1 f).2.2
  rw [Gf.2 λ y d=>by
   have:=(f y d x (Dp.2 rfl)).1
   simp [this]]
  simp
 cases k:bM s.c r.s.run p.g with
 | none=>rfl
 | some y=>
  have:=aCm (l:=r.s.run) g.cap (λ y d=>(i y d).dem) (λ y d=>wS (i y d).v) (by have:=a.pods;omega) a.dem a.v (λ y=>!(y.g.id==x.g.id)) (by rw [k];rfl);rw [e,m] at this;cases this
def IU(run:a6):∀ (ids:ax) (r:Rd),∃ m,(ids.foldl (dQ run) r).ev=r.ev++m/\(ids≠[]->∃ e∈m,e.k=2)
 | [],r=>⟨[],by simp,λ h=>absurd rfl h⟩
 | id::ids,r=>by obtain ⟨m,h1,_⟩:=IU run ids (dQ run r id);refine ⟨⟨2,id,0⟩::m,?_,λ_=>⟨_,Ao ..,rfl⟩⟩;rw [Bb,h1];show (r.ev++[_])++m=_;simp
def YQ(r:Rd)(p:Pn):∃ m,(admR r p).1.ev=r.ev++m:=by
 unfold admR;cases bM r.s.c r.s.run p.g with
 | none=>exact ⟨[],by simp [xX]⟩
 | some x=>
  obtain ⟨fl,hs⟩:=x;unfold xX;dsimp only;split
  .exact ⟨[],by simp⟩
  .exact ⟨_,rfl⟩
def aMf{s:Sta}{r:Rd}{p:Pn}{rest done:a7}(b:Base s)(g:GOK s)(h:ai s r (p::rest))(w:WInv s r done)(j:OT (bU r p).ev):WInv s (bU r p) (p::done)/\OT r.ev:=by
 have G:=(LQ b h).1;have B:=h.sub p (Ao ..);cases a:admR r p with
 | mk R ok=>
 have u:=a;unfold admR at a;cases ok with
 | true=>
  have e:bU r p=R:=by unfold bU;rw [u,if_pos rfl]
  rw [e] at j G⊢;cases k:bM r.s.c r.s.run p.g with
  | none=>rw [k] at a;cases a
  | some x=>
   obtain ⟨fl,hs⟩:=x;rw [k] at a;unfold xX at a;dsimp only at a;split at a
   .cases a
   .cases a;obtain ⟨H,_⟩:=yL B (h.pids b);have o:∀ q∈dZ r.s.pend p.g.id,q∈r.s.pend/\q≠p:=λ q d=>by refine ⟨H.mem_iff.1 (Av _ d),λ e=>?_⟩;have z:=((H.map λ x=>x.g.id).nodup_iff).2 (h.pids b);rw [Bj,Cl] at z;exact z.1 (Ce.2 ⟨q,d,by rw [e]⟩)
    have i:hdE (r.ev++[⟨1,p.g.id,fl⟩])=hdE r.ev\/((hdE r.ev).2.2=false/\hdE (r.ev++[⟨1,p.g.id,fl⟩])=(0,0,false)):=by
     rw [PB];cases d:(hdE r.ev).2.2 with
     | true=>exact .inl rfl
     | false=>exact .inr ⟨rfl,rfl⟩
    refine ⟨⟨λ q d=>w.sub q (o q d).1,?_,λ f=>?_,λ q d hd=>?_⟩,λ e F=>j e (Cf _ F)⟩
    .show (hdE (r.ev++[_])).2.2=r.head;rcases i with e | ⟨t,D⟩
     .rw [e];exact w.hd
     .rw [D,<-w.hd,t]
    .show (hdE (r.ev++[_])).2.1=r.start;have f:r.head=true:=f;rcases i with e | ⟨t,D⟩
     .rw [e];exact w.st f
     .rw [w.hd,f] at t;cases t
    .obtain ⟨I,C⟩:=o q d;have hd:=(Aw.1 hd).resolve_left C;rcases w.w q I hd with l | ⟨l,L⟩
     .exact .inl (aCn b g G rfl (w.sub q I) l)
     .refine .inr ⟨l,?_⟩;show (hdE (r.ev++[_])).1=_\/_;rcases i with e | ⟨t,D⟩
      .rw [e];exact L
      .rw [w.hd,l] at t;cases t
 | false=>
  have M:R=r:=by
   cases k:bM r.s.c r.s.run p.g with
   | none=>rw [k] at a;cases a;rfl
   | some x=>
    obtain ⟨fl,hs⟩:=x;rw [k] at a;unfold xX at a;dsimp only at a;split at a<;>cases a;rfl
  subst M;cases f:R.head with
  | true=>
   have e:bU R p=R:=by unfold bU;rw [u,if_neg s_,if_pos f]
   rw [e] at j⊢;refine ⟨⟨w.sub,w.hd,w.st,λ q d hd=>?_⟩,j⟩;rcases Aw.1 hd with rfl | hd
   .cases k:bM R.s.c R.s.run q.g with
    | none=>exact .inl (by rw [<-h.c];exact k)
    | some x=>
     obtain ⟨fl,hs⟩:=x;rw [k] at a;unfold xX at a;dsimp only at a;split at a
     .rename_i A;rw [f,Bw,h.now] at A;exact .inr ⟨f,.inr (by simpa using A)⟩
     .exact absurd (show true=false from congrArg Prod.snd a) d_
   .exact w.w q d hd
  | false=>
   have v:bM R.s.c R.s.run p.g=none:=by
    cases k:bM R.s.c R.s.run p.g with
    | none=>rfl
    | some x=>
     obtain ⟨fl,hs⟩:=x;rw [k] at a;unfold xX at a;dsimp only at a;rw [f,if_neg s_] at a;exact absurd (show true=false from congrArg Prod.snd a) d_
   have e:bU R p=LR R p (gM R.s.c R.s.run p.g):=by unfold bU;rw [u,if_neg s_,if_neg (by rw [f];simp)]
   have y:∀ q∈R.s.pend,q∈p::done->bM s.c R.s.run q.g=none:=λ q d hd=>by
    rcases Aw.1 hd with rfl | hd
    .rw [<-h.c];exact v
    .rcases w.w q d hd with l | ⟨l,_⟩
     .exact l
     .rw [f] at l;cases l
   cases d:gM R.s.c R.s.run p.g with
   | some ids=>
    exfalso;rw [e,d] at j;obtain ⟨m,h1,A⟩:=IU R.s.run ids R;obtain ⟨C,h3⟩:=YQ (nG R ids) p;obtain ⟨ev,K,J⟩:=A (xM b h v d).1;have:ev∈(LR R p (some ids)).ev:=by show ev∈(admR (nG R ids) p).1.ev;rw [h3];show ev∈(ids.foldl (dQ R.s.run) R).ev++C;rw [h1];exact Cf _ (Ct _ K)
    exact j ev this J
   | none=>
    rw [d] at e;rw [e] at j⊢;unfold LR at j⊢;have hst:=h.start f;cases hs:vI R.s.c R.s.now R.s.run p.g with
    | none=>
     rw [hs] at j;exact ⟨⟨w.sub,w.hd,w.st,λ q d hd=>.inl (y q d hd)⟩,j⟩
    | some n=>
     rw [hs] at j;have i:hdE (R.ev++[⟨4,p.g.id,n⟩])=(p.g.id,n,true):=by rw [PB,w.hd,f,if_neg s_];rfl
     refine ⟨⟨w.sub,?_,λ_=>?_,λ q d hd=>.inl (y q d hd)⟩,λ e F=>j e (Cf _ F)⟩
     .show (hdE (R.ev++[_])).2.2=true;rw [i]
     .show (hdE (R.ev++[_])).2.1=n;rw [i]
def aJF(r:Rd)(p:Pn):∀ e∈r.ev,e∈(bU r p).ev:=by
 intro e a;have c:=YQ r p;unfold bU;split
 .obtain ⟨m,h⟩:=c;rw [h];exact Cf _ a
 split
 .exact a
 .unfold LR;split
  .rename_i ids _;obtain ⟨m,h1,_⟩:=IU r.s.run ids r;obtain ⟨b,h3⟩:=YQ (nG r ids) p;rw [h3];show e∈(ids.foldl (dQ r.s.run) r).ev++b;rw [h1];exact Cf _ (Cf _ a)
  .unfold rL;split
   .exact a
   .exact Cf _ a
def aAK:∀ (L:a7) (r:Rd),∀ e∈r.ev,e∈(L.foldl bU r).ev
 | [],_,_,h=>h
 | p::L,r,e,h=>aAK L (bU r p) e (aJF r p e h)
def aDd{s:Sta}(b:Base s)(g:GOK s):∀ (L done:a7) (r:Rd),KU s r L->WInv s r done->OT (L.foldl bU r).ev->WInv s (L.foldl bU r) (L.reverse++done)/\OT r.ev
 | [],done,r,_,w,hn=>⟨w,hn⟩
 | p::L,done,r,h,w,hn=>by
  have c:=wY b r p L h;rw [Bb] at hn⊢;have pre:OT (bU r p).ev->WInv s (bU r p) (p::done)/\OT r.ev:=aMf b g h.1 w
  -- nobody gave way in the rest,so nobody did here
  have key:OT (bU r p).ev:=by intro e d;refine hn e ?_;exact aAK L _ e d
  obtain ⟨f,a⟩:=pre key;obtain ⟨i,_⟩:=aDd b g L (p::done) (bU r p) c f hn;rw [List.reverse_cons,Ag];exact ⟨i,a⟩
def aBY{s:Sta}(o:RunOK s)(g:GOK s)(i:OT (dE s).ev){p:Pn}(hp:p∈(dE s).s.pend)(e:(bM s.c (dE s).s.run p.g).isSome=true):
  (hdE (dE s).ev).2.2=true/\((hdE (dE s).ev).1=p.g.id\/bmB s.now p.g (hdE (dE s).ev).2.1=false):=by
 obtain ⟨w,_⟩:=aDd o.base g (xQ s) [] ⟨s,[],false,0⟩ o.start ⟨λ p hp=>hp,rfl,(λ h=>by cases h),λ p _ h=>by cases h⟩ i;have hm:p∈(xQ s).reverse++[]:=by rw [Ar,Hy];exact (fN (ltP s) s.pend).mem_iff.2 (w.sub p hp)
 rcases w.w p hp hm with a | ⟨a,f⟩
 .have a:bM s.c (dE s).s.run p.g=none:=a;rw [a] at e;cases e
 .have d:=w.hd;have b:=w.st a;rw [a] at d
  exact ⟨d,by
   have b:(hdE (dE s).ev).2.1=((xQ s).foldl bU ⟨s,[],false,0⟩).start:=b;rw [b]
   exact f⟩
noncomputable abbrev fHd:Func:=Tryz.f15
def aKc(D:bb)(j:D.length<=1000000)(R:Int×Int×Bool):∀ (m i:Nat),i+m=D.length->hdE (D.drop i)=R->
  To E fHd (.pure (.ret (.tup [ii R.1,ii R.2.1,.bool R.2.2]))) (.head (stk fHd 0) [(14,.slice 3 (evv D) .no),(15,.int .i64 ((evv D).length:Nat)),(16,ii i)] []):=by
 have f:(evv D).length=D.length:=by simp
 intro m;induction m with
 | zero=>
  intro i g a;rw [Ab o_] at a;subst a;refine gV ?_
  repeat' first | (refine gN hE ?_;conv=>whnf) | exact rfl | refine zt ?_ | refine zu ?_ ?_ | intro h | fail
 | succ m e=>
  intro i g a;have b:i<D.length:=o_;rw [Aa b] at a;have get:(evv D)[i]? =some D[i].av:=BS b;generalize D[i]=x at a get;unfold hdE at a;by_cases c:x.k=4
  .rw [if_pos c] at a;subst a;clear e;have d:(x.k==4)=true:=by simpa using c
   refine gV ?_
   repeat' first | (refine gN hE ?_;conv=>whnf) | refine ⟨i,rfl,?_⟩ | refine ⟨_,get,?_⟩ | refine zE d ?_ | exact rfl | refine zt ?_ | refine zu ?_ ?_ | intro h | fail
  .rw [if_neg c] at a;have next:=e (i+1) o_ a
   clear e a;have d:(x.k==4)=false:=by simpa using c
   refine gV ?_
   repeat' first | (refine gN hE ?_;conv=>whnf) | refine ⟨i,rfl,?_⟩ | refine ⟨_,get,?_⟩ | refine zF d ?_ | exact rfl | refine zt ?_ | refine zu ?_ ?_ | intro h | fail
   refine To.part [14,15,16] [] rfl rfl rfl ?_;exact next
def aKb(s:Sta)(h:RunOK s)(a:(dE s).ev.length<=1000000):aq 15 [s.av] [] (.ret (.tup [ii (hdE (dE s).ev).1,ii (hdE (dE s).ev).2.1,.bool (hdE (dE s).ev).2.2])) []:=by
 have h1:=N6 s h;have next:=aKc (dE s).ev a (hdE (dE s).ev) (dE s).ev.length 0 o_ (by rw [Ap])
 generalize dE s=R at *
 generalize hdE R.ev=Q at *
 generalize R.ev=D at *
 generalize R.s=S at *
 refine c_ Tryz.f15 λ_=>?_
 repeat' first | (refine gN hE ?_;conv=>whnf) | refine .pure _ [] h1 ?_ | exact rfl | refine zt ?_ | refine zu ?_ ?_ | intro h | fail
 refine To.part [14,15,16] [] rfl rfl rfl ?_;exact next
noncomputable abbrev fTp:Func:=Tryz.f12
def aDv(L:bj)(n:Int)(i:Nat)(d:i<=1048576)(h:L.length<=i\/400<=n)(Q:Sta×Bool)(h1:400<=n\/40<L.length->Q=(cA,false))(a:¬ (400<=n\/40<L.length)->aq 46 [.slice 15 (cmv L) .no] [] (.ret (.tup [Q.1.av,.slice 1 (iv (nN L cA []).2) .no])) []/\Q.2=true):
  To E fTp (.pure (.ret (.tup [Q.1.av,.bool Q.2]))) (.head (stk fTp 0) [(0,.slice 15 (cmv L) .no),(2,.ref 0 0),(4,ii n),(5,ii i)] [sN]):=by
 have c:(cmv L).length=L.length:=by simp
 have b:=AO;obtain ⟨S,ok⟩:=Q;by_cases q:400<=n\/40<L.length
 .have h1:=h1 q;clear a;obtain ⟨rfl,rfl⟩:=Prod.mk.inj h1;clear h1;by_cases e:400<=n
  .by_cases g:L.length<=i
   .refine gV ?_
    repeat' first | (refine gN hE ?_;conv=>whnf) | refine .pure _ [] b ?_ | exact rfl | refine zt ?_ | refine zu ?_ ?_ | intro h | fail
   .refine gV ?_
    repeat' first | (refine gN hE ?_;conv=>whnf) | refine .pure _ [] b ?_ | exact rfl | refine zt ?_ | refine zu ?_ ?_ | intro h | fail
  .refine gV ?_
   repeat' first | (refine gN hE ?_;conv=>whnf) | refine .pure _ [] b ?_ | exact rfl | refine zt ?_ | refine zu ?_ ?_ | intro h | fail
 .obtain ⟨a,h3⟩:=a q;have h3:ok=true:=h3;subst h3;clear h1;generalize (nN L cA []).2=es at *
  refine gV ?_
  repeat' first | (refine gN hE ?_;conv=>whnf) | refine .pure _ [] a ?_ | exact rfl | refine zt ?_ | refine zu ?_ ?_ | intro h | fail
def ZC(L:bj)(r:L.length<=1048576)(l:∀ p∈L,p.c.sm)(R:Int)(Q:Sta×Bool)(h1:400<=R\/40<L.length->Q=(cA,false))(d:¬ (400<=R\/40<L.length)->aq 46 [.slice 15 (cmv L) .no] [] (.ret (.tup [Q.1.av,.slice 1 (iv (nN L cA []).2) .no])) []/\Q.2=true):
  ∀ (m i:Nat) (n:Int),i+m=L.length->0<=n->n<=3000000->smR 400 ((L.drop i).map Cmd.c) n=R->
  To E fTp (.pure (.ret (.tup [Q.1.av,.bool Q.2]))) (.head (stk fTp 0) [(0,.slice 15 (cmv L) .no),(2,.ref 0 0),(4,ii n),(5,ii i)] [sN]):=by
 have j:(cmv L).length=L.length:=by simp
 intro m;induction m with
 | zero=>
  intro i n o _ _ a;rw [Ab o_] at a;have a:n=R:=a;subst a;exact aDv L n i o_ (.inl o_) Q h1 d
 | succ m g=>
  intro i n o s u a;have b:i<L.length:=o_;rw [Aa b] at a;have get:(cmv L)[i]? =some L[i].av:=by simp [b]
  have hp:=l L[i] (Ax b);generalize L[i]=p at a get hp;rw [Bj] at a;unfold smR at a;by_cases e:n<400
  .rw [if_pos e] at a;obtain ⟨k,q⟩:=uW hp;have next:=g (i+1) (n+wgt p.c) o_ o_ o_ a
   have l1:(nav p.c.ns).length=p.c.ns.length:=by simp
   have l2:(hav p.c.hs).length=p.c.hs.length:=by simp
   have t:=hp.ns;have v:=hp.hs;unfold wgt at next
   clear g a k q h1 d;refine gV ?_
   repeat' first | (refine gN hE ?_;conv=>whnf) | refine ⟨i,rfl,?_⟩ | refine ⟨_,get,?_⟩ | exact rfl | refine zt ?_ | refine zu ?_ ?_ | intro h | fail
   exact zqto1
  .rw [if_neg e] at a;subst a;exact aDv L n i o_ (.inr o_) Q h1 d
def aDu(L:bj)(b:L.length<=1048576)(a:∀ p∈L,p.c.sm):∃ S ok,(ok=true->S=(nN L cA []).1/\L.length<=40)/\(ok=false->S=cA)/\aq 12 [.slice 15 (cmv L) .no] [] (.ret (.tup [S.av,.bool ok])) []:=by
 by_cases q:400<=smR 400 (L.map Cmd.c) 0\/40<L.length
 .refine ⟨cA,false,(λ h=>by cases h),λ_=>rfl,?_⟩;have next:=ZC L b a _ (cA,false) (λ_=>rfl) (λ h=>absurd q h) L.length 0 0 o_ d_ d_ (by rw [Ap])
  refine c_ Tryz.f12 λ_=>?_
  repeat' first | (refine gN hE ?_;conv=>whnf) | exact rfl | refine zt ?_ | refine zu ?_ ?_ | intro h | fail
  exact zqto1
 .refine ⟨(nN L cA []).1,true,λ_=>⟨rfl,by omega⟩,(λ h=>by cases h),?_⟩;have hp:=aDZ L o_ OkL SF (SE o_ a);have next:=ZC L b a _ ((nN L cA []).1,true) (λ h=>absurd h q) (λ_=>⟨hp,rfl⟩) L.length 0 0 o_ d_ d_ (by rw [Ap])
  generalize (nN L cA []).1=S at *
  refine c_ Tryz.f12 λ_=>?_
  repeat' first | (refine gN hE ?_;conv=>whnf) | exact rfl | refine zt ?_ | refine zu ?_ ?_ | intro h | fail
  exact zqto1
noncomputable abbrev fTo:Func:=Tryz.f3
abbrev toO(g:aw)(s X:Sta):au:=[aO g,.cells 31 s.cs,.cells 31 X.cs]
def aDz(g:aw)(s X:Sta)(id st:Int)(hd:Bool)(n:∀ p∈X.pend,aq 16 [s.c.av,.slice 14 (rav X.run) .no,p.g.av] [] (.ret (fdA (bM s.c X.run p.g))) [])
  (a:∀ p∈X.pend,(bM s.c X.run p.g).isSome=true->hd=true/\(id=p.g.id\/bmB s.now p.g st=false)) (v:X.pend.length<=1000000):
  ∀ (m i:Nat),i+m=X.pend.length->To E fTo (.full 1 (.ret (.bool true)) [aO g]) (.head (stk fTo 1) [(3,.ref 1 0),(5,.ref 2 0),(7,ii id),(8,ii st),(9,.bool hd),(11,ii i)] (toO g s X)):=by
 have r:=jI g;have t:(pnv X.pend).length=X.pend.length:=by simp
 intro m;induction m with
 | zero=>
  intro i u;clear n a;refine gV ?_
  repeat' first | (refine gN hE ?_;conv=>whnf) | refine .eff [] [0] _ _ rfl r ?_ | exact zx [0] | exact rfl | refine zt ?_ | refine zu ?_ ?_ | intro h | fail
 | succ m q=>
  intro i u;have b:i<X.pend.length:=o_;have get:(pnv X.pend)[i]? =some X.pend[i].av:=by simp [b]
  have h1:=n X.pend[i] (Ax b);have l:=a X.pend[i] (Ax b);have d:=λ now=>aBi now X.pend[i].g st;have next:=q (i+1) o_
  clear q n a r;generalize X.pend[i]=p at *
  cases j:bM s.c X.run p.g with
  | none=>
   rw [j] at h1;have h1:aq 16 [s.c.av,.slice 14 (rav X.run) .no,p.g.av] [] (.ret (.tup [ii 0,.slice 1 [] .no,.bool false])) []:=h1;clear l d;refine gV ?_
   repeat' first | (refine gN hE ?_;conv=>whnf) | refine ⟨i,rfl,?_⟩ | refine ⟨_,get,?_⟩ | refine .pure _ [] h1 ?_ | exact rfl | refine zt ?_ | refine zu ?_ ?_ | intro h | fail
   exact zqto0
  | some x=>
   rw [j] at h1 l;have h1:aq 16 [s.c.av,.slice 14 (rav X.run) .no,p.g.av] [] (.ret (.tup [ii x.1,.slice 1 (iv x.2) .no,.bool true])) []:=h1;obtain ⟨rfl,h3⟩:=l rfl;by_cases e:p.g.id=id
   .have k:(p.g.id !=id)=false:=by simpa using e
    clear h3 d j;refine gV ?_
    repeat' first | (refine gN hE ?_;conv=>whnf) | refine ⟨i,rfl,?_⟩ | refine ⟨_,get,?_⟩ | refine .pure _ [] h1 ?_ | refine zF k ?_ | exact rfl | refine zt ?_ | refine zu ?_ ?_ | intro h | fail
    exact zqto0
   .have k:(p.g.id !=id)=true:=by simpa using e
    have o:=d s.now;rw [h3.resolve_left λ h=>e h.symm] at o;clear h3 d j;refine gV ?_
    repeat' first | (refine gN hE ?_;conv=>whnf) | refine ⟨i,rfl,?_⟩ | refine ⟨_,get,?_⟩ | refine .pure _ [] h1 ?_ | refine zE k ?_ | refine .pure _ [] o ?_ | exact rfl | refine zt ?_ | refine zu ?_ ?_ | intro h | fail
    exact zqto0
def aDA(g:aw)(s X:Sta)(id st:Int)(hd:Bool)(D:bb)(p:D.length<=1000000)(fin:OT D->To E fTo (.full 1 (.ret (.bool true)) [aO g]) (.head (stk fTo 1) [(3,.ref 1 0),(5,.ref 2 0),(7,ii id),(8,ii st),(9,.bool hd),(11,ii 0)] (toO g s X))):
  ∀ (m i:Nat),i+m=D.length->(∀ e∈D.take i,e.k≠2)->To E fTo (.full 1 (.ret (.bool true)) [aO g]) (.head (stk fTo 0) [(3,.ref 1 0),(5,.ref 2 0),(6,.slice 3 (evv D) .no),(7,ii id),(8,ii st),(9,.bool hd),(10,ii i)] (toO g s X)):=by
 have l:=jI g;have n:(evv D).length=D.length:=by simp
 intro m;induction m with
 | zero=>
  intro i o a;rw [Cn o_] at a;have fin:=fin a;clear a;refine gV ?_
  repeat' first | (refine gN hE ?_;conv=>whnf) | exact rfl | refine zt ?_ | refine zu ?_ ?_ | intro h | fail
  refine To.part [3,5,7,8,9,11] [0,1,2] rfl rfl rfl ?_;exact fin
 | succ m f=>
  intro i o a;have c:i<D.length:=o_;have get:(evv D)[i]? =some D[i].av:=BS c;clear fin;by_cases d:D[i].k=2
  .clear f a;have j:(D[i].k==2)=true:=by simpa using d
   generalize D[i]=x at *
   refine gV ?_
   repeat' first | (refine gN hE ?_;conv=>whnf) | refine ⟨i,rfl,?_⟩ | refine ⟨_,get,?_⟩ | refine zE j ?_ | refine .eff [] [0] _ _ rfl l ?_ | exact zx [0] | exact rfl | refine zt ?_ | refine zu ?_ ?_ | intro h | fail
  .have next:=f (i+1) o_ (by
    intro e b;rw [Jn,Ac c] at b;rcases Bd.1 b with b | b
    .exact a e b
    .simp at b
     rw [b];exact d)
   have j:(D[i].k==2)=false:=by simpa using d
   clear f a l;generalize D[i]=x at *
   refine gV ?_
   repeat' first | (refine gN hE ?_;conv=>whnf) | refine ⟨i,rfl,?_⟩ | refine ⟨_,get,?_⟩ | refine zF j ?_ | exact rfl | refine zt ?_ | refine zu ?_ ?_ | intro h | fail
   refine To.part [3,5,6,7,8,9,10] [0,1,2] rfl rfl rfl ?_;exact next
def aDy(L:bj)(n:L.length<=1048576)(k:∀ p∈L,p.c.sm)(g:aw):aq 3 [.slice 15 (cmv L) .no] [aO g] (.ret (.bool true)) [aO g]:=by
 obtain ⟨s,ok,h1,_,h3⟩:=aDu L n k;have u:=jI g;cases ok with
 | false=>
  clear h1;refine cT (E:=E) (fn:=Tryz.f3) (g:=.full 1 _ _) λ_=>?_
  repeat' first | (refine gN hE ?_;conv=>whnf) | refine .pure _ [] h3 ?_ | refine .eff [] [0] _ _ rfl u ?_ | exact zx [0] | exact rfl | refine zt ?_ | refine zu ?_ ?_ | intro h | fail
 | true=>
  obtain ⟨rfl,hl⟩:=h1 rfl;have b:OkT (nN L cA []).1:=by
   have key:∀ (l:bj) (s:Sta) (es:ax),OkL s l->OkT (nN l s es).1:=λ l=>by
    induction l with
    | nil=>intro s es h;exact h.1
    | cons x l t=>intro s es h;exact t _ _ (SF s x l h).2
   exact key L cA [] (SE o_ k)
  generalize (nN L cA []).1=s at *
  have hst:=(b.ok.st b.lt)
  have a:=hst.run;have e:=vP a.base (xQ s) ⟨s,[],false,0⟩ a.start;have i:(dE s).ev.length<=900000:=by have:=e.2;simp at this;exact this
  have j:(dE s).s.c=s.c:=e.1.c;have d:=e.1.few a.base;have q:=N6 s a;have o:=aKb s a o_;have m:∀ p∈(dE s).s.pend,aq 16 [s.c.av,.slice 14 (rav (dE s).s.run) .no,p.g.av] [] (.ret (fdA (bM s.c (dE s).s.run p.g))) []:=λ p hp=>xJ s.c hst.c _ (e.1.sm a.base) p.g (e.1.gangP a.base hp).1
  have next:=aDA g s (dE s).s (hdE (dE s).ev).1 (hdE (dE s).ev).2.1 (hdE (dE s).ev).2.2 (dE s).ev o_
   (λ r=>aDz g s (dE s).s _ _ _ m (λ p hp hs=>aBY a b.ok.gok r hp hs) (by show (dE s).s.pend.length<=_;have d:(dE s).s.pend.length+(dE s).s.run.length<=39:=d;omega) (dE s).s.pend.length 0 o_) (dE s).ev.length 0 o_ s_
  clear m d j i e a hst b;generalize hdE (dE s).ev=Q at *
  generalize dE s=R at *
  generalize R.ev=D at *
  generalize R.s=X at *
  refine cT (E:=E) (fn:=Tryz.f3) (g:=.full 1 _ _) λ_=>?_
  repeat' first | (refine gN hE ?_;conv=>whnf) | refine .pure _ [] h3 ?_ | refine .pure _ [] q ?_ | refine .pure _ [] o ?_ | exact rfl | refine zt ?_ | refine zu ?_ ?_ | intro h | fail
  refine To.part [3,5,6,7,8,9,10] [0,1,2] rfl rfl rfl ?_;exact next
end Go.Proofs.YtidhfoefaomodaaGreatDoor
