/- Part 7 of what the statement rests on. -/
import Derived.Test.YtidhfoefaomodaaGreatDoorMHA
set_option linter.all false
set_option maxHeartbeats 1000000
open And renaming intro->Ae
open Bool renaming and_eq_true->Af,false_eq_true->Cr,false_or->Nh,or_eq_false_iff->Ks,true_and->Bw
open Exists renaming intro->Aq
open Go.World renaming ownsRow_nil->Hp
open Iff renaming rfl->Nq
open Int renaming le_refl->Dc,le_trans->Ds,mul_nonneg->Lh,tdiv->Ma,tdiv_eq_ediv_of_nonneg->Lj,toNat_natCast->Br
open List renaming all_cons->Kj,all_eq_true->Cb,any_cons->Hq,any_eq_true->Ga,append_assoc->Ag,append_nil->Ar,count_append->Jm,count_cons_of_ne->Mu,count_cons_self->Ir,count_pos_iff->Lk,drop->Ht,drop_drop->Hv,drop_eq_getElem_cons->Aa,drop_eq_nil_of_le->Ab,drop_zero->Ap,ext_getElem?->Ek,filter_congr->Lq,filter_cons->Hg,filter_cons_of_neg->Fc,filter_cons_of_pos->Gb,filter_eq_self->Gf,filter_sublist->Jb,flatMap_cons->Js,foldl_append->Jt,foldl_cons->Bb,getElem?_append_left->Ah,getElem?_append_right->Al,getElem?_drop->Ca,getElem?_eq_getElem->Ac,getElem?_eq_none->Bm,getElem?_eq_some_iff->Ad,getElem?_map->Bi,getElem?_range->Dr,getElem?_replicate->Fe,getElem?_set->Ho,getElem?_set_ne->Bf,getElem?_set_self->Ay,getElem_mem->Ax,getElem_of_mem->Ja,length_append->Ai,length_cons->Ak,length_filter_le->Fv,length_nil->Bz,length_set->Dt,map_cons->Bj,map_set->Gz,mem_append->Bd,mem_cons->Aw,mem_cons_of_mem->Av,mem_cons_self->Ao,mem_filter->Fm,mem_map->Ce,mem_of_getElem?->Az,mem_or_eq_of_mem_set->Dq,mem_replicate->Gn,mem_reverse->Hy,nodup_append->Cd,nodup_cons->Cl,pairwise_cons->Ck,pairwise_iff_getElem->Gj,prefix_refl->Cw,range->Du,range_succ->Mr,replicate->Aj,take->Ii,take_add_one->Jn,take_append_drop->Bv,take_append_of_le_length->Dm,take_of_length_le->Cn
open List.Sublist renaming refl->Ju
open List.cons renaming injEq->La
open Nat renaming le_refl->Bh,le_trans->Dh,sub_zero->Iz,zero_add->Bx
open Ne renaming symm->Fa
open Or renaming inl->Gl
open Prod renaming fst->Mc
namespace Go.Proofs.YtidhfoefaomodaaGreatDoor
open Go Go.AW Go.Proofs
set_option maxRecDepth 10000
def zqra0{P:Prop}(h:P:=by
 unfold bL at h;by_cases h1:0<=t
 .rw [if_pos (decide_eq_true h1)] at h;by_cases a:t<(ns.length:Int)
  .omega
  .rw [if_neg (by rw [decide_eq_false a];decide)] at h;cases h
 .rw [if_neg (by rw [decide_eq_false h1];decide)] at h
  cases h):P:=h
def zqra1{P:Prop}(h:P:=by
 subst c;refine c_ Tryz.f165 λ_=>?_;have hz1:=λ d=>OU d
 exact zW):P:=h
def zqra2{P:Prop}(h:P:=by exact To.cut [0,2,3,4,5] 4 rfl rfl rfl rfl next):P:=h
def zqra3{P:Prop}(h:P:=by
 rcases c.inv with ⟨e,h⟩ | ⟨e,h⟩
 .subst e;refine gV ?_;exact zW
 .subst e;refine gV ?_
  exact zW):P:=h
def zqra4{P:Prop}(h:P:=by
 obtain ⟨o,p,f⟩:=v G d
 exact ⟨o,p,λ x b=>⟨(f x b).1,by have:=(f x b).2.1;omega,(f x b).2.2⟩⟩):P:=h
def zqra5{P:Prop}(h:P:=by
 rw [if_neg (by rw [e];decide)] at b;rw [e] at h1;have next:=j ids o_ hd b
 exact zW):P:=h
def zqra6{P:Prop}(h:P:=by
 refine cT (E:=(Eo [9] [])) (fn:=Tryz.f113) (g:=.pure _) λ_=>?_
 exact zW):P:=h
def zqra7{P:Prop}(h:P:=by
 refine cT (E:=E) (fn:=Tryz.f171) (g:=.full 3 _ _) λ_=>?_
 exact zW):P:=h
def zqra8{P:Prop}(h:P:=by
 refine cT (E:=E) (fn:=Tryz.f177) (g:=.full 2 _ _) λ_=>?_
 exact zW):P:=h
def zqra9{P:Prop}(h:P:=by
 rw [if_pos e] at b;rw [e] at h1;have next:=j (gF ids a) o_ o_ b
 exact zW):P:=h
def JP(n:Int):∀ (l:bc) (i:Nat),decide (0<=ak n l i)=l.any λ x=>x.p==n
 | [],i=>by simp [ak]
 | x::r,i=>by
  unfold ak;rw [Hq];by_cases h:x.p=n
  .simp [h]
  .have:=JP n r (i+1);simp [h,this]
def U7(l:bc)(n:Int):(l.all λ x=>!(x.p==n))= !(l.any λ x=>x.p==n):=by
 induction l with
 | nil=>rfl
 | cons x r a=>rw [Kj,Hq,a];cases (x.p==n)<;>simp
def aMT(ns:bc)(t:Int):rlB ns t=bL ns t:=by
 unfold rlB bL;rw [JP,U7];generalize (ns.any λ x=>x.p==t)=b;by_cases h1:t<0
 .have a:¬ 0<=t:=o_;simp [h1,a]
 .have h3:0<=t:=o_;by_cases a:(ns.length:Int)<=t
  .have c:¬ t<(ns.length:Int):=o_;simp [h1,h3,a,c]
  .have c:t<(ns.length:Int):=o_;simp [h1,h3,a,c]
def gR(ns:bc)(n:Int):ax:=(upL ns n).reverse
def MI{α β:Type}(f:β->α->β)(a:∀ b x y,f (f b x) y=f (f b y) x):∀ (l:List α) (b:β),l.reverse.foldl f b=l.foldl f b
 | [],b=>rfl
 | x::r,b=>by
  have h:∀ (l:List α) (b:β),l.foldl f (f b x)=f (l.foldl f b) x:=λ l=>by
   induction l with
   | nil=>intro b;rfl
   | cons y r c=>intro b;rw [Bb,Bb,a,c]
  rw [List.reverse_cons,Jt,MI f a r b];show f (r.foldl f b) x=r.foldl f (f b x);rw [h]
def KT(v:V3)(xs:a8)(k:Int):a8:=xs.set k.toNat (fK ((xs[k.toNat]?).getD V3.zero) v)
def sK(v:V3)(xs:a8)(k:Int)(j:Nat):(KT v xs k)[j]? =if k.toNat=j then (xs[j]?).map λ x=>fK x v else xs[j]?:=by
 unfold KT;rw [Ho];by_cases h:k.toNat=j
 .subst h;rw [if_pos rfl,if_pos rfl];by_cases a:k.toNat<xs.length
  .rw [if_pos a,Ac a];rfl
  .rw [if_neg a,Bm o_];rfl
 .rw [if_neg h,if_neg h]
def aC1(v:V3)(xs:a8)(a b:Int):KT v (KT v xs a) b=KT v (KT v xs b) a:=by refine Ek λ j=>?_;rw [sK,sK,sK,sK];by_cases h1:a.toNat=j<;>by_cases c:b.toNat=j<;>simp [h1,c]
def VZ(c:Con)(xs:a8)(x:Rn):a8:=if bL c.ns x.g.ten=true then (gR c.ns x.g.ten).foldl (KT (dem x.g)) xs else xs
def aMQ(c:Con)(l:a6):a8:=l.foldl (VZ c) (Aj c.ns.length V3.zero)
def uS(L:Led):Prop:=(L.map Mc).Nodup
def LP(n:Int)(v:V3):∀ (L:Led) (k:Int),k∈(CZ L n v).map Mc->k=n\/k∈L.map Mc
 | [],k,h=>by simp [CZ] at h;exact .inl h
 | (j,w)::r,k,h=>by
  unfold CZ at h;split at h
  .rename_i a;simp only [Bj,Aw] at h⊢;rcases h with rfl | h
   .exact .inl rfl
   .exact .inr (.inr h)
  .simp only [Bj,Aw] at h⊢;rcases h with rfl | h
   .exact .inr (.inl rfl)
   .rcases LP n v r k h with h | h
    .exact .inl h
    .exact .inr (.inr h)
def aFt(n:Int)(v:V3):∀ (L:Led),uS L->uS (CZ L n v)
 | [],_=>by simp [CZ,uS]
 | (j,w)::r,h=>by
  have h1:=(Cl.1 h)
  unfold CZ;split
  .rename_i a;subst a;exact h
  .rename_i a;refine Cl.2 ⟨λ hm=>?_,aFt n v r h1.2⟩;rcases LP n v r _ hm with h | h
   .exact a h
   .exact h1.1 h
def LT(n:Int):∀ (L:Led) (k:Int),k∈(H3 L n).map Mc->k∈L.map Mc
 | [],k,h=>h
 | (j,w)::r,k,h=>by
  unfold H3 at h;simp only [Bj,Aw];split at h
  .exact .inr h
  .simp only [Bj,Aw] at h;rcases h with h | h
   .exact .inl h
   .exact .inr (LT n r k h)
def aFA(n:Int):∀ (L:Led),uS L->uS (H3 L n)
 | [],h=>h
 | (j,w)::r,h=>by
  have h1:=(Cl.1 h)
  unfold H3;split
  .exact h1.2
  .exact Cl.2 ⟨λ hm=>h1.1 (LT n r _ hm),aFA n r h1.2⟩
def S3:∀ (L:Led) (n:Int),n∉L.map Mc->lF L n=none
 | [],n,h=>rfl
 | (j,w)::r,n,h=>by simp only [Bj,Aw,not_or] at h;unfold lF;rw [if_neg (λ e=>h.1 e.symm)];exact S3 r n h.2
def S2(n:Int)(v:V3)(k:Int):∀ (L:Led),lF (CZ L n v) k=if k=n then some v else lF L k
 | []=>by
  unfold CZ lF lF;by_cases h:k=n
  .rw [if_pos h,if_pos h.symm]
  .rw [if_neg h,if_neg (λ e=>h e.symm)]
 | (j,w)::r=>by
  have b:=S2 n v k r;unfold CZ;split
  .rename_i a;subst a;unfold lF;by_cases h:k=j
   .rw [if_pos h,if_pos h.symm]
   .rw [if_neg h,if_neg (λ e=>h e.symm),if_neg (λ e=>h e.symm)]
  .rename_i a;unfold lF;rw [b];by_cases h:j=k
   .rw [if_pos h,if_pos h,if_neg (λ e=>a (h.trans e))]
   .rw [if_neg h,if_neg h]
def S4(n:Int)(k:Int):∀ (L:Led),uS L->lF (H3 L n) k=if k=n then none else lF L k
 | [],_=>by
  unfold H3 lF;split<;>rfl
 | (j,w)::r,h=>by
  have h1:=(Cl.1 h)
  have c:=S4 n k r h1.2;unfold H3;split
  .rename_i b;subst b;by_cases a:k=j
   .rw [if_pos a,a];exact S3 r j h1.1
   .rw [if_neg a]
    conv=>rhs;unfold lF
    rw [if_neg (λ e=>a e.symm)]
  .rename_i b;unfold lF;rw [c];by_cases a:j=k
   .rw [if_pos a,if_pos a,if_neg (λ e=>b (a.trans e))]
   .rw [if_neg a,if_neg a]
def aFK{v:V3}(h:isZ v=true):v=V3.zero:=by obtain ⟨a,b,c⟩:=v;unfold isZ at h;simp at h;obtain ⟨rfl,rfl,rfl⟩:=h;rfl
def aNu{L:Led}(h:uS L)(n:Int)(v:V3):uS (SX L n v):=by
 unfold SX;split
 .exact aFA n L h
 .exact aFt n v L h
def aFs{L:Led}(h:uS L)(n:Int)(v:V3)(k:Int):uC (SX L n v) k=if k=n then v else uC L k:=by
 unfold SX uC;split
 .rename_i hz;rw [S4 n k L h];by_cases a:k=n
  .rw [if_pos a,if_pos a,aFK hz];rfl
  .rw [if_neg a,if_neg a]
 .rw [S2];by_cases a:k=n
  .rw [if_pos a,if_pos a];rfl
  .rw [if_neg a,if_neg a]
def JS(n:Nat)(L:Led)(j:Nat):(pJ n L)[j]? =if j<n then some (uC L (j:Int)) else none:=by
 unfold pJ;rw [Bi];by_cases h:j<n
 .rw [if_pos h,Dr h];rfl
 .rw [if_neg h,Bm q_];rfl
def aLm{n:Nat}{L:Led}(h:uS L)(v:V3)(k:Int)(b:0<=k)(c:k.toNat<n):pJ n (DO v L k)=KT v (pJ n L) k:=by
 refine Ek λ j=>?_;rw [sK,JS,JS];unfold DO;rw [aFs h];by_cases h1:j<n
 .rw [if_pos h1,if_pos h1];by_cases a:k.toNat=j
  .rw [if_pos a,if_pos o_];have:k=(j:Int):=o_;rw [this];rfl
  .rw [if_neg a,if_neg o_]
 .rw [if_neg h1,if_neg h1];split<;>rfl
def aP5{L:Led}(h:uS L)(v:V3)(k:Int):uS (DO v L k):=aNu h _ _
def UM{n:Nat}(v:V3):∀ (ks:ax) (L:Led),uS L->(∀ k∈ks,0<=k/\k.toNat<n)->pJ n (ks.foldl (DO v) L)=ks.foldl (KT v) (pJ n L)/\uS (ks.foldl (DO v) L)
 | [],L,h,_=>⟨rfl,h⟩
 | k::r,L,h,hk=>by have h1:=hk k s_;obtain ⟨a,b⟩:=UM v r (DO v L k) (aP5 h v k) λ x c=>hk x (by simp [c]);exact ⟨by rw [Bb,a,aLm h v k h1.1 h1.2];rfl,b⟩
def VG(ns:bc):∀ (f:Nat) (n x:Int),x∈upF ns f n->0<=x/\x.toNat<ns.length
 | 0,n,x,h=>by simp [upF] at h
 | f+1,n,x,h=>by
  unfold upF at h;split at h
  .rename_i a;have a:=of_decide_eq_true a;split at h
   .rename_i h1;split at h
    .simp at h;subst h;exact ⟨a,h1⟩
    .rcases Aw.1 h with rfl | h
     .exact ⟨a,h1⟩
     .exact VG ns f _ x h
   .simp at h
  .simp at h
def WO(c:Con)(L:Led)(h:uS L)(x:Rn):pJ c.ns.length (yT c L x)=VZ c (pJ c.ns.length L) x/\uS (yT c L x):=by
 unfold yT VZ gR;split
 .obtain ⟨a,d⟩:=UM (n:=c.ns.length) (dem x.g) (upL c.ns x.g.ten) L h λ k b=>VG _ _ _ _ b;exact ⟨by rw [a,MI _ (aC1 _)],d⟩
 .exact ⟨rfl,h⟩
def aO9(c:Con)(l:a6):aMQ c l=ofL c l:=by
 have key:∀ (l:a6) (L:Led),uS L->l.foldl (VZ c) (pJ c.ns.length L)=pJ c.ns.length (l.foldl (yT c) L):=λ l=>by
  induction l with
  | nil=>intro L _;rfl
  | cons x r d=>
   intro L h;obtain ⟨a,e⟩:=WO c L h x;rw [Bb,Bb,<-a,d _ e]
 have b:pJ c.ns.length []=Aj c.ns.length V3.zero:=by refine Ek λ j=>?_;rw [JS,Fe];rfl
 unfold aMQ ofL;rw [<-b,key l [] (by simp [uS])]
def Y7(ns:bc):∀ (f:Nat) (n:Int),(upF ns f n).length<=n.toNat+1/\(upF ns f n).length<=f
 | 0,n=>by simp [upF]
 | f+1,n=>by
  unfold upF;split
  .split
   .split
    .simp
    .rename_i a h1 b;have d:=Y7 ns f (ns[n.toNat]).p;have b:¬ n<=(ns[n.toNat]).p:=λ h=>b (decide_eq_true h);have a:=of_decide_eq_true a;simp only [Ak];refine ⟨?_,by omega⟩;by_cases c:0<=(ns[n.toNat]).p
     .omega
     .have e:(upF ns f (ns[n.toNat]).p)=[]:=by
       cases f with
       | zero=>rfl
       | succ f=>
          unfold upF;rw [if_neg (by rw [decide_eq_false c];decide)]
      rw [e];simp
   .simp
  .simp
def aH1(ns:bc)(n:Int):(upL ns n).length<=ns.length:=by
 by_cases h:0<=n/\n.toNat<ns.length
 .have:=(Y7 ns (n.toNat+1) n).1;unfold upL;omega
 .unfold upL upF;by_cases a:0<=n
  .rw [if_pos (decide_eq_true a),dif_neg o_];simp
  .rw [if_neg (by rw [decide_eq_false a];decide)];simp
def aDn{ns:bc}{t:Int}(a:0<=t)(h1:t.toNat<ns.length):∃ r,upL ns t=t::r:=by
 unfold upL upF;rw [if_pos (decide_eq_true a),dif_pos h1];split
 .exact ⟨_,rfl⟩
 .exact ⟨_,rfl⟩
def A9{ns:bc}{t:Int}(h:bL ns t=true):0<=t/\t.toNat<ns.length:=by exact zqra0
def alB(c:Con)(lv a b:Int):Bool:=
 if lv=0 then decide (a=b)
 else if lv=1 then decide ((bQ c.hs a).f=(bQ c.hs b).f/\(bQ c.hs a).b=(bQ c.hs b).b/\(bQ c.hs a).r=(bQ c.hs b).r)
 else if lv=2 then decide ((bQ c.hs a).f=(bQ c.hs b).f/\(bQ c.hs a).b=(bQ c.hs b).b)
 else decide ((bQ c.hs a).f=(bQ c.hs b).f)
abbrev uL(c:Con)(lv a:Int):ax:=ofK (bQ c.hs a) a lv
def QA(c:Con)(lv a b:Int)(i:0<=lv)(h3:lv<=3):alB c lv a b=decide (uL c lv a=uL c lv b):=by
 unfold alB uL ofK;by_cases e:lv=0
 .subst e;by_cases h:a=b
  .subst h;simp
  .simp [h]
 by_cases d:lv=1
 .subst d;simp
 by_cases g:lv=2
 .subst g;simp
 have f:lv=3:=o_;subst f;simp
def dS(c:Con)(lv i:Int):List ax->Nat->Option Nat
 | [],_=>none
 | g::r,k=>if alB c lv (g.headD 0) i=true then some k else dS c lv i r (k+1)
def rgS(c:Con)(lv:Int)(s:List ax)(i:Nat):List ax:=
 match dS c lv (i:Int) s 0 with
 | some k=>s.set k ((s[k]?).getD []++[(i:Int)])
 | none=>s++[[(i:Int)]]
def rgL(c:Con)(lv:Int):List ax:=if decide (lv<0)=true then [] else if decide (3<lv)=true then [] else (Du c.hs.length).foldl (rgS c lv) []
def rW(c:Con)(lv:Int):Nat->List ax->List (ax×Nat)
 | _,[]=>[]
 | k,g::r=>(uL c lv (g.headD 0),k)::rW c lv (k+1) r
def H5(c:Con)(lv i:Int)(a:0<=lv)(h3:lv<=3):∀ (s:List ax) (k:Nat),oM (rW c lv k s) (uL c lv i)=dS c lv i s k
 | [],k=>rfl
 | g::r,k=>by
  unfold rW oM dS;rw [QA c lv _ _ a h3,H5 c lv i a h3 r (k+1)];by_cases h:uL c lv (g.headD 0)=uL c lv i
  .rw [if_pos h,if_pos (decide_eq_true h)]
  .rw [if_neg h,if_neg (by rw [decide_eq_false h];decide)]
def LY(c:Con)(lv i:Int):∀ (s:List ax) (k m:Nat),(∀ g∈s,g≠[])->rW c lv m (s.set k ((s[k]?).getD []++[i]))=rW c lv m s
 | [],k,m,_=>by simp
 | g::r,0,m,h=>by
  have b:=h g s_;cases g with
  | nil=>exact absurd rfl b
  | cons a t=>rfl
 | g::r,k+1,m,h=>by have d:=LY c lv i r k (m+1) λ x e=>h x (by simp [e]);show _::rW c lv (m+1) (r.set k ((r[k]?).getD []++[i]))=_;rw [d];rfl
def H4(c:Con)(lv i:Int):∀ (s:List ax) (m:Nat),rW c lv m (s++[[i]])=rW c lv m s++[(uL c lv i,m+s.length)]
 | [],m=>rfl
 | g::r,m=>by
  show _::rW c lv (m+1) (r++[[i]])=_::(rW c lv (m+1) r++_)
  rw [H4 c lv i r (m+1)];simp only [Ak];rw [show m+1+r.length=m+(r.length+1) from by omega]
def aMU(c:Con)(lv:Int)(f:0<=lv)(h3:lv<=3)(s:GSt)(i:Nat)(h1:s.1=rW c lv 0 s.2)(b:∀ g∈s.2,g≠[]):
  (gpS c lv s i).2=rgS c lv s.2 i/\(gpS c lv s i).1=rW c lv 0 (rgS c lv s.2 i)/\∀ g∈rgS c lv s.2 i,g≠[]:=by
 have e:=H5 c lv (i:Int) f h3 s.2 0;rw [<-h1] at e;unfold gpS rgS;have d:oM s.1 (ofK (bQ c.hs (i:Int)) i lv)=dS c lv (i:Int) s.2 0:=e;rw [d];cases dS c lv (i:Int) s.2 0 with
 | some k=>
  refine ⟨rfl,?_,λ g a=>?_⟩
  .show s.1=_;rw [h1,LY c lv i s.2 k 0 b]
  .rcases Dq a with a | rfl
   .exact b g a
   .simp
 | none=>
  refine ⟨rfl,?_,λ g a=>?_⟩
  .show s.1++_=_;rw [h1,H4,Bx]
  .rcases Bd.1 a with a | a
   .exact b g a
   .simp at a;subst a;simp
def aMV(c:Con)(lv:Int):rgL c lv=gpL c lv:=by
 unfold rgL gpL;by_cases h1:lv<0
 .simp only [h1,decide_true,if_true]
 by_cases e:3<lv
 .simp only [h1,e,decide_true,decide_false,if_true,if_false,Cr]
 simp only [h1,e,decide_false,if_false,Cr];have key:∀ (l:az) (s:GSt),s.1=rW c lv 0 s.2->(∀ g∈s.2,g≠[])->l.foldl (rgS c lv) s.2=(l.foldl (gpS c lv) s).2:=λ l=>by
  induction l with
  | nil=>intro s _ _;rfl
  | cons i r j=>
   intro s a b;obtain ⟨d,k,h⟩:=aMU c lv o_ o_ s i a b;rw [Bb,Bb,<-d,j _ (by rw [d];exact k) (by rw [d];exact h)]
 exact key _ ([],[]) rfl (λ g f=>by simp at f)
def cN{v:V3}(h:bH v=true):(0<=v.a/\v.a<=1048576)/\(0<=v.b/\v.b<=1048576)/\(0<=v.c/\v.c<=1048576):=by unfold bH at h;simpa [Af,and_assoc] using h
def CB{a b:V3}:dC a b=true↔a.a<=b.a/\a.b<=b.b/\a.c<=b.c:=by
 unfold dC;by_cases h1:b.a<a.a
 .first | (simp [h1];done) | (simp [h1];omega)
 by_cases d:b.b<a.b
 .first | (simp [h1,d];done) | (simp [h1,d];omega)
 by_cases h3:b.c<a.c
 .first | (simp [h1,d,h3];done) | (simp [h1,d,h3];omega)
 first | (simp [h1,d,h3];done) | (simp [h1,d,h3];omega)
def G3{m f k n:Int}(c:0<=k)(d:k<=f):n<=D3 m f k↔n<=m/\k*n<=f:=by
 unfold D3;by_cases h:0<k
 .rw [if_pos (decide_eq_true h),Lj o_];have:=Int.le_ediv_iff_mul_le h (a:=n) (b:=f);rw [Int.mul_comm] at this;omega
 .have:k=0:=o_;subst this;rw [if_neg d_];omega
def AT{free need:V3}(m:bH need=true)(h:dC need free=true)(n:Int):n<=dN free need↔n<=16/\need.a*n<=free.a/\need.b*n<=free.b/\need.c*n<=free.c:=by
 obtain ⟨⟨i,_⟩,⟨l,_⟩,j,_⟩:=cN m;obtain ⟨h1,k,h3⟩:=CB.1 h;unfold dN;rw [if_pos h,G3 j h3,G3 l k,G3 i h1];constructor
 .rintro ⟨⟨⟨d,g⟩,f⟩,e⟩;exact ⟨d,g,f,e⟩
 .rintro ⟨d,g,f,e⟩;exact ⟨⟨⟨d,g⟩,f⟩,e⟩
def vH(c:Con)(a:Int):Prop:=0<=a/\a.toNat<c.hs.length
structure GH(c:Con)(i:Nat)(s:List ax):Prop where
 len:s.length<=i
 one:∀ g∈s,g.length<=i/\∃ a r,g=a::r/\vH c a
def GH.step{c:Con}{lv:Int}{i:Nat}{s:List ax}(h:GH c i s)(m:i<c.hs.length):GH c (i+1) (rgS c lv s i):=by
 obtain ⟨h1,f⟩:=h;unfold rgS;split
 .rename_i k n;refine ⟨by simp;omega,λ g b=>?_⟩;rcases Dq b with b | rfl
  .obtain ⟨j,e⟩:=f g b;exact ⟨by omega,e⟩
  .by_cases d:k<s.length
   .rw [Ac d];obtain ⟨j,a,r,e,l⟩:=f _ (Ax d);refine ⟨by simp;omega,a,r++[(i:Int)],?_,l⟩;show s[k]++_=_;rw [e];rfl
   .rw [Bm o_];exact ⟨by simp,(i:Int),[],rfl,⟨by omega,by omega⟩⟩
 .refine ⟨by simp;omega,λ g b=>?_⟩;rcases Bd.1 b with b | b
  .obtain ⟨j,e⟩:=f g b;exact ⟨by omega,e⟩
  .simp at b;subst b;exact ⟨by simp,(i:Int),[],rfl,⟨by omega,by omega⟩⟩
abbrev inO(c:Con)(g:Gan):au:=[.cells 26 c.cs,.cells 45 g.cs,.tail 0 1 3]
def aJ5(free:a8)(g:Gan)(c:0<=g.pods/\g.pods<=16)(a:ax):(inL free g a).length<=16:=by
 have key:∀ (l:ax) (out:ax),(out.length:Int)<=g.pods->((l.foldl (inS free g) out).length:Int)<=g.pods:=λ l=>by
  induction l with
  | nil=>intro out h;exact h
  | cons x r b=>intro out h;exact b _ (FO free g out x h)
 have:=key a [] q_;unfold inL;omega
def aAP{c:Con}{free:a8}{g:Gan}(a:0<=g.pods/\g.pods<=16){x:Int×ax}:∀ {b:List ax},fdG c free g b=some x->x.2.length<=16
 | [],h=>by cases h
 | gr::r,h=>by
  unfold fdG at h;split at h
  .exact aAP a h
  .cases h;exact aJ5 free g a gr
def aAO{c:Con}{free:a8}{g:Gan}(a:0<=g.pods/\g.pods<=16){x:Int×ax}:∀ {n:Nat} {lv:Int},fdL c free g n lv=some x->x.2.length<=16
 | 0,lv,h=>by cases h
 | n+1,lv,h=>by
  unfold fdL at h;split at h
  .rename_i y b;cases h;exact aAP a b
  .exact aAO a h
def aGh{c:Con}{l:a6}{g:Gan}(a:0<=g.pods/\g.pods<=16){x:Int×ax}(h:bM c l g=some x):x.2.length<=1048576:=by
 unfold bM at h;split at h
 .unfold BN at h;have:=aAO a h;omega
 .cases h
end Go.Proofs.YtidhfoefaomodaaGreatDoor
namespace Go.AW
open Go.RowKit
def Mem.beginRow{M:Imm}{ob:Hs}{ac:au}{w:World}(hm:Mem M ob ac w){k i m:Nat}{T e:TypeId}{cs:ay}(I:ac[k]? =some (.cells T cs))(Q:cs[i]? =some (.slice m [] .nil)):
  Mem M (ob++[[.slice none 0 0]]) (ac.set k (.cells T (cs.set i (.row ac.length 0)))++[.row 0 m e []]) w/\
   Ext M ob ac w M (ob++[[.slice none 0 0]]) (ac.set k (.cells T (cs.set i (.row ac.length 0)))++[.row 0 m e []]) w/\dY ob (ob++[[.slice none 0 0]]):=by
 have l:dY ob (ob++[[.slice none 0 0]]):=λ j hs d=>⟨hs,by rw [Ah (Ad.1 d).1];exact d,Cw _⟩
 have y:k<ac.length:=(Ad.1 I).1;have f:(ob++[[.slice none 0 0]])[ac.length]? =some [.slice none 0 0]:=by rw [<-hm.len];simp
 have F:at' (ob++[[.slice none 0 0]]) ac.length 0=some (.slice none 0 0):=by rw [cL f];rfl
 have t:∀ {j:Nat} {c:ab},(ac.set k (.cells T (cs.set i (.row ac.length 0)))++[.row 0 m e []])[j]? =some c->
   (j=ac.length/\c= .row 0 m e [])\/(j=k/\c= .cells T (cs.set i (.row ac.length 0)))\/(j≠k/\j<ac.length/\ac[j]? =some c):=λ{j c} d=>by
  by_cases o:j<ac.length
  .rw [Ah (by simpa using o)] at d;by_cases p:j=k
   .subst p;rw [Ay o] at d;cases d;exact .inr (.inl ⟨rfl,rfl⟩)
   .rw [Bf (Fa p)] at d;exact .inr (.inr ⟨p,o,d⟩)
  .have r:j=ac.length:=by have:=(Ad.1 d).1;simp at this;omega
   subst r;rw [Al s_] at d;simp at d;exact .inl ⟨rfl,d.symm⟩
 have z:∀ {j b:Nat},aM (ob++[[.slice none 0 0]]) (ac.set k (.cells T (cs.set i (.row ac.length 0)))++[.row 0 m e []]) j b->aM ob ac j b:=λ{j b} ⟨c,hs,s,C,e3,e4⟩=>by
  rcases t s with ⟨rfl,rfl⟩ | ⟨rfl,rfl⟩ | ⟨h1,r,h3⟩
  .rw [f] at e3;cases e3;cases e4
  .rw [Ah (by rw [hm.len];exact y)] at e3;exact ⟨_,hs,I,rfl,e3,e4⟩
  .rw [Ah (by rw [hm.len];exact r)] at e3;exact ⟨c,hs,h3,C,e3,e4⟩
 have P:∀ (j:Nat) c,(ac.set k (.cells T (cs.set i (.row ac.length 0)))++[.row 0 m e []])[j]? =some c->∃ hs,(ob++[[.slice none 0 0]])[j]? =some hs/\jT M (ob++[[.slice none 0 0]]) w hs c:=λ j c d=>by
  rcases t d with ⟨rfl,rfl⟩ | ⟨rfl,rfl⟩ | ⟨h1,r,h3⟩
  .have V:eP M w (.slice none 0 0) m e []:=by
    refine ⟨[],Hp w 0 _ _,?_,?_,?_,?_,?_⟩
    .intro u X;simp at X
    .intro x U;simp at U
    .intro q c S;simp [aP] at S
    .intro b L;cases L
    .intro b L;cases L
   exact ⟨_,f,rfl,_,rfl,V⟩
  .obtain ⟨hs,s,b,J,O,cv,G,D,K,B⟩:=hm.obj _ _ I;refine ⟨hs,by rw [Ah (by rw [hm.len];exact y)];exact s,b,J,O,cv,G,by simpa using D,K,λ n v a A g=>?_⟩;by_cases R:n=i
   .subst R;have N:n<cs.length:=(Ad.1 Q).1;rw [Ay N] at g;cases g;have:=B n v _ A Q;obtain ⟨_,H⟩:=this.untok;have H:v= .slice none 0 0:=H;subst H;exact .row _ _ _ _ _ F
   .rw [Bf (Fa R)] at g;exact (B n v a A g).mono (λ_ _ _ h=>h) l
  .obtain ⟨hs,s,C⟩:=hm.obj j c h3;refine ⟨hs,by rw [Ah (by rw [hm.len];exact r)];exact s,?_⟩;cases c with
   | cells Y cs'=>
    obtain ⟨b,J,O,cv,G,D,K,B⟩:=C;exact ⟨b,J,O,cv,G,D,K,λ n v a A g=>(B n v a A g).mono (λ_ _ _ h=>h) l⟩
   | _=>exact C
 refine ⟨⟨hm.imm,by simp [hm.len],P,λ j b g=>hm.lt j b (z g),λ j W b h1 r=>hm.inj j W b (z h1) (z r)⟩,⟨λ_ _ _ h=>h,λ_ _ _ h=>.inl h,l,rfl,rfl,rfl,Bh _,λ_ _ _=>rfl,λ j b g=>.inl ⟨j,z g⟩⟩,l⟩
def To.beginRowH{E:Env}{fn:Func}{g:Goal}{st:bh}{fr:ar}{ac:au}(k i:Nat)(e:TypeId){T:TypeId}{cs:ay}{l:Nat}(p:aB ac k= .cells T cs)(o:nth cs i=some (.slice l [] .nil))
  (h:To E fn g (.head st fr (nM (bX ac k (.cells T (Q5 cs i (.row (aR ac) 0)))) (.row 0 l e [])))):To E fn g (.head st fr ac):=
 .mk λ f M0 ob0 c w0 a w hst hs=>by refine h.rec λ h=>h f M0 ob0 c w0 a w hst ?_;obtain ⟨M,ob,n,hm,d,s,m,u⟩:=hs;have b:=bP p s_;obtain ⟨r,q,j⟩:=hm.beginRow (e:=e) b (oH o);rw [rG,N0,bW,aU b];exact ⟨M,_,n.trans q,r,λ t=>(d t).mono (λ_ _ _ h=>h) j,s,m.mono (λ_ _ _ h=>h) j,by simp;omega⟩
def To.beginRow{E:Env}{fn:Func}{g:Goal}{st:bh}{fr:ar}{ac:au}(k i:Nat)(e:TypeId){T:TypeId}{cs:ay}{a:Nat}(c:aB ac k= .cells T cs)(b:nth cs i=some (.slice a [] .nil))
  (h:To E fn g (.code st fr (nM (bX ac k (.cells T (Q5 cs i (.row (aR ac) 0)))) (.row 0 a e [])))):To E fn g (.code st fr ac):=
 To.toC (To.beginRowH k i e c b (To.ofC h))
end Go.AW
namespace Go.Proofs.YtidhfoefaomodaaGreatDoor
open Go Go.AW Go.Proofs
set_option maxRecDepth 10000
def OU(x:Int):aq 227 [ii x] [] (.ret (.bool false)) []:=by refine c_ Tryz.f227 λ_=>gV ?_;exact congrArg (λ b=>Res.ret (aa.bool b)) s_
def UJ(a b:Int):Int:=if a<b then -1 else if b<a then 1 else 0
def aBa(a b r:Int)(c:UJ a b=r):aq 165 [ii a,ii b] [] (.ret (ii r)) []:=by
 unfold UJ at c;by_cases h1:a<b
 .rw [if_pos h1] at c;exact zqra1
 .rw [if_neg h1] at c;by_cases e:b<a
  .rw [if_pos e] at c;exact zqra1
  .rw [if_neg e] at c;exact zqra1
def aHd(a b:Int):aq 165 [ii a,ii b] [] (.ret (ii (UJ a b))) []:=aBa a b _ rfl
def orI(p q:Int):Int:=if p=0 then q else p
def HN(p q r:Int)(b:orI p q=r):aq 168 [.slice 1 [ii p,ii q] .no] [] (.ret (ii r)) []:=by
 unfold orI at b;by_cases h1:p=0
 .subst h1;rw [if_pos rfl] at b;have hp:((0:Int) !=0)=false:=by decide
  by_cases c:q=0
  .subst c;subst b;have a:((0:Int) !=0)=false:=by decide
   refine c_ Tryz.f168 λ_=>?_
   repeat' first
    | (refine gW hE ?_;conv=>whnf)
    | exact rfl
    | refine Aq 0 (Ae rfl ?_)
    | refine Aq 1 (Ae rfl ?_)
    | refine Aq _ (Ae rfl ?_)
    | refine aY ?_
    | refine aN ?_
    | refine Ae (λ h=>?_) (λ h=>absurd h (by rw [hp];decide))
    | refine Ae (λ h=>?_) (λ h=>absurd h (by rw [a];decide))
    | refine Ae (λ h=>absurd h (by rw [hp];decide)) (λ h=>?_)
    | refine Ae (λ h=>absurd h (by rw [a];decide)) (λ h=>?_)
    | refine aJ ?_
    | fail
  .subst b;have a:(q !=0)=true:=by simp [c]
   refine c_ Tryz.f168 λ_=>?_
   repeat' first
    | (refine gW hE ?_;conv=>whnf)
    | exact rfl
    | refine Aq 0 (Ae rfl ?_)
    | refine Aq 1 (Ae rfl ?_)
    | refine Aq _ (Ae rfl ?_)
    | refine aY ?_
    | refine aN ?_
    | refine Ae (λ h=>?_) (λ h=>absurd h (by rw [hp];decide))
    | refine Ae (λ h=>?_) (λ h=>absurd h (by rw [a];decide))
    | refine Ae (λ h=>absurd h (by rw [hp];decide)) (λ h=>?_)
    | refine Ae (λ h=>absurd h (by rw [a];decide)) (λ h=>?_)
    | refine aJ ?_
    | fail
 .rw [if_neg h1] at b;subst b;have hp:(p !=0)=true:=by simp [h1]
  have a:((0:Int) !=0)=false:=by decide
  refine c_ Tryz.f168 λ_=>?_
  repeat' first
   | (refine gW hE ?_;conv=>whnf)
   | exact rfl
   | refine Aq 0 (Ae rfl ?_)
   | refine Aq 1 (Ae rfl ?_)
   | refine Aq _ (Ae rfl ?_)
   | refine aY ?_
   | refine aN ?_
   | refine Ae (λ h=>?_) (λ h=>absurd h (by rw [hp];decide))
   | refine Ae (λ h=>?_) (λ h=>absurd h (by rw [a];decide))
   | refine Ae (λ h=>absurd h (by rw [hp];decide)) (λ h=>?_)
   | refine Ae (λ h=>absurd h (by rw [a];decide)) (λ h=>?_)
   | refine aJ ?_
   | fail
def jM(a b:Rn):Bool:=decide (orI (UJ b.st a.st) (UJ b.seq a.seq)<0)
def WT{a b:Rn}:jM a b=true↔b.st<a.st\/(b.st=a.st/\b.seq<a.seq):=by
 unfold jM orI UJ;rw [decide_eq_true_iff];by_cases h1:b.st<a.st
 .simp [h1]
 .by_cases c:a.st<b.st
  .simp [h1,c];omega
  .have h3:b.st=a.st:=o_;by_cases d:b.seq<a.seq
   .simp [h1,c,h3,d]
   .by_cases e:a.seq<b.seq
    .simp [h1,c,h3,d,e]
    .simp [h1,c,h3,d,e]
def aJM(a b:Rn)(r:Bool)(c:jM a b=r):aq 234 [a.av,b.av] [] (.ret (.bool r)) []:=by have h1:=aHd b.st a.st;have d:=aHd b.seq a.seq;unfold jM at c;generalize UJ b.st a.st=p at h1 c;generalize UJ b.seq a.seq=q at d c;have h3:=HN p q _ rfl;generalize orI p q=o at h3 c;subst c;exact c_ Tryz.f234 λ_=>zW
def WU(a b:Rn):aq 234 [a.av,b.av] [] (.ret (.bool (jM a b))) []:=aJM a b _ rfl
def E9(x:Rn)(h:x.hs.length<=1048576):aq 163 [x.av] [] (.ret x.av) []:=by refine c_ Tryz.f163 λ_=>?_;have a:=DN x.hs h;exact zW
def rn0:Rn:=⟨⟨0,0,0,V3.zero,0,0,0⟩,0,0,0,0,[]⟩
def bB(xs:a6)(i:Nat):Rn:=(xs[i]?).getD rn0
def jX{xs:a6}{i:Nat}(h:i<xs.length):(rav xs)[i]? =some (bB xs i).av:=by unfold bB;rw [Ac h];exact cF h
def tT(xs:a6)(i k:Nat):a6:=(xs.set i (bB xs k)).set k (bB xs i)
def lX(xs:a6)(i k:Nat):(tT xs i k).length=xs.length:=by unfold tT;simp
def RN(xs:a6)(i k:Nat):rav (tT xs i k)=((rav xs).set i (bB xs k).av).set k (bB xs i).av:=by unfold tT;simp [rav,Gz]
def upH:Nat->a6->Nat->a6
 | 0,xs,_=>xs
 | f+1,xs,i=>if i=0 then xs else if jM (bB xs i) (bB xs ((i-1) / 2))=true then upH f (tT xs i ((i-1) / 2)) ((i-1) / 2) else xs
def vU(xs:a6)(x:Rn):a6:=upH (xs.length+1) (xs++[x]) xs.length
def Y6:∀ (f:Nat) (xs:a6) (i:Nat),(upH f xs i).length=xs.length
 | 0,xs,i=>rfl
 | f+1,xs,i=>by
  unfold upH;split
  .rfl
  .split
   .rw [Y6 f,lX]
   .rfl
def LH(xs:a6)(x:Rn):(vU xs x).length=xs.length+1:=by unfold vU;rw [Y6];simp
abbrev aJN:aa:=.func (.func 234) [] []
abbrev hpO(l:aa)(g:Nat)(xs:a6):au:=[.cells 346 [l,aJN],.row g 14 107 (rav xs)]
noncomputable abbrev aLX:Func:=Tryz.f235
def aBS(N:Nat)(r:N<=1048577)(R:a6):∀ (f i:Nat) (ys:a6),ys.length=N->i<N->i<f->upH f ys i=R->
  To (Er [] [6,14,15,56]) aLX (.full 2 (.ret (.tup [])) (hpO (.row 1 1) 1 R)) (.head (stk aLX 0) [(0,.ref 0 0),(4,ii i)] (hpO (.row 1 1) 1 ys)):=by
 intro f;induction f with
 | zero=>intro i ys _ _ h;omega
 | succ f o=>
  intro i ys m p q d;have n:(rav ys).length=ys.length:=by simp
  unfold upH at d;by_cases k:i=0
  .subst k;rw [if_pos rfl] at d;subst d;refine gV ?_;exact zW
  rw [if_neg k] at d;have e:(i-1) / 2<ys.length:=o_;have c:Ma ((i:Int)-1) 2=(((i-1) / 2:Nat):Int):=by rw [Lj o_];omega
  have j:=jX (xs:=ys) (i:=i) o_;have g:=jX e;have hl:=WU (bB ys i) (bB ys ((i-1) / 2));generalize l:(i-1) / 2=up at d c g hl e;by_cases h1:jM (bB ys i) (bB ys up)=true
  .rw [if_pos h1] at d;rw [h1] at hl;have next:=o up (tT ys i up) (by rw [lX];exact m) o_ o_ d
   unfold hpO at next
   rw [RN] at next
   generalize bB ys i=a at j hl next
   generalize bB ys up=b at g hl next
   refine gV ?_;refine aT λ h=>?_
   repeat' first
    | exact To.cut [0,4] 2 rfl rfl rfl rfl next
    | (refine gN (hEr [] [6,14,15,56]) ?_;conv=>whnf)
    | refine Aq i (Ae rfl ?_)
    | refine Aq up (Ae c ?_)
    | refine Aq _ (Ae j ?_)
    | refine Aq _ (Ae g ?_)
    | refine .pure _ [] hl ?_
    | refine aY ?_
    | refine aN ?_
    | refine Ae o_ ?_
    | refine Ae (by rw [Dt];omega) ?_
    | refine aJ ?_
    | refine Ae d_ ?_
    | fail
   rw [c];exact To.cut [0,4] 2 rfl rfl rfl rfl next
  .have h1:jM (bB ys i) (bB ys up)=false:=by simpa using h1
   rw [if_neg (by rw [h1];decide)] at d;subst d;rw [h1] at hl;generalize bB ys i=a at j hl;generalize bB ys up=b at g hl;refine gV ?_;exact zW
def aJa(xs:a6)(hl:xs.length<=1048576)(x:Rn):aq 235 [.ref 0 0,x.av] (hpO (.row 1 0) 0 xs) (.ret (.tup [])) (hpO (.row 1 1) 1 (vU xs x)):=by
 have a:(rav xs).length=xs.length:=by simp
 have next:=aBS (xs.length+1) o_ (vU xs x) (xs.length+1) xs.length (xs++[x]) s_ o_ o_ rfl
 have e:rav (xs++[x])=rav xs++[x.av]:=by simp
 unfold hpO at next
 rw [e] at next
 refine cT (E:=(Er [] [6,14,15,56])) (fn:=Tryz.f235) (g:=.full 2 _ _) λ_=>?_
 repeat' first | (refine gN (hEr [] [6,14,15,56]) ?_;conv=>whnf) | refine ⟨⟨by simp only [maxLen];simp;omega,by simp;omega⟩,?_⟩ | refine Gl (Ae (Ae (by simp only [Ai,Ak,Bz,dA];omega) (by simp only [Ai,Ak,Bz,bN];omega)) ?_) | exact rfl | refine zt ?_ | refine zu ?_ ?_ | intro h | fail
 refine To.cut [0,4] 2 rfl rfl rfl rfl ?_;have b:(((rav xs++[x.av]).length:Int)-1)=((xs.length:Nat):Int):=by simp
 rw [<-b] at next
 exact next
set_option maxHeartbeats 2000000
def jK(xs:a6)(n i:Nat):Nat:=if 2*i+2<n then (if jM (bB xs (2*i+2)) (bB xs (2*i+1))=true then 2*i+2 else 2*i+1) else 2*i+1
def aA6(xs:a6)(n i:Nat)(h:2*i+1<n):jK xs n i<n/\i<jK xs n i/\(jK xs n i=2*i+1\/jK xs n i=2*i+2):=by
 unfold jK;split
 .split<;>omega
 .omega
def B1:Nat->a6->Nat->Nat->a6
 | 0,xs,_,_=>xs
 | f+1,xs,n,i=>if 2*i+1<n then (if jM (bB xs (jK xs n i)) (bB xs i)=true then B1 f (tT xs i (jK xs n i)) n (jK xs n i) else xs) else xs
def M4:∀ (f:Nat) (xs:a6) (n i:Nat),(B1 f xs n i).length=xs.length
 | 0,xs,n,i=>rfl
 | f+1,xs,n,i=>by
  unfold B1;split
  .split
   .rw [M4 f,lX]
   .rfl
  .rfl
def EW(xs:a6)(n:Nat):a6:=B1 n (xs.set 0 (bB xs (n-1))) (n-1) 0
def HG(xs:a6)(n:Nat):(EW xs n).length=xs.length:=by unfold EW;rw [M4];simp
def II{xs:a6}{i:Nat}(h:i<xs.length):(rav xs)[0+i]? =some (bB xs i).av:=by rw [Bx];exact jX h
def aBQ(xs:a6)(i k:Nat):rav (tT xs i k)=((rav xs).set (0+i) (bB xs k).av).set (0+k) (bB xs i).av:=by rw [Bx,Bx];exact RN xs i k
abbrev z14:ay:=[ii 0,ii 0,ii 0,ii 0,ii 0,ii 0,ii 0,ii 0,ii 0,ii 0,ii 0,ii 0,ii 0,.slice 1 [] .nil]
abbrev ppO(n:Nat)(ys:a6)(x:ay):au:=hpO (.sub 1 0 0 n 14) 0 ys++[.cells 107 z14,.cells 107 x]
abbrev ppF(n i:Int):ar:=[(0,.ref 0 0),(2,.ref 2 0),(3,.ref 3 0),(4,ii n),(5,ii i)]
noncomputable abbrev BP:Func:=Tryz.f236
def aM5(n N:Nat)(s:n<=N)(u:N<=1048577)(R:a6)(x:Rn)(i:Nat)(ys:a6)(q:ys.length=N)(p:2*i+1<n)(h3:2*i+2<n)(a b c:Rn)(k:(rav ys)[0+i]? =some a.av)(l:(rav ys)[0+(2*i+1)]? =some b.av)(j:(rav ys)[0+(2*i+2)]? =some c.av)
  (e:aq 234 [c.av,b.av] [] (.ret (.bool true)) []) (r:Bool) (d:aq 234 [c.av,a.av] [] (.ret (.bool r)) []) (g:r=false->ys=R)
  (next:r=true->To (Er [] [105]) BP (.full 2 (.ret x.av) (hpO (.sub 1 0 0 n 14) 0 R)) (.head (stk BP 0) (ppF n ((2*i+2:Nat):Int)) [.cells 346 [.sub 1 0 0 n 14,aJN],.row 0 14 107 (((rav ys).set (0+i) c.av).set (0+(2*i+2)) a.av),.cells 107 z14,.cells 107 x.cs])):
  To (Er [] [105]) BP (.full 2 (.ret x.av) (hpO (.sub 1 0 0 n 14) 0 R)) (.head (stk BP 0) (ppF n i) (ppO n ys x.cs)):=by
 have o:(rav ys).length=ys.length:=by simp
 have m:2*(i:Int)+1+1=((2*i+2:Nat):Int):=o_;cases r with
 | false=>
  have g:=g rfl;subst g;refine gV ?_
  repeat' first
   | (refine gN (hEr [] [105]) ?_;conv=>whnf)
   | refine Aq (2*i+2) (Ae o_ ?_)
   | refine Aq (2*i+1) (Ae o_ ?_)
   | refine Aq i (Ae rfl ?_)
   | refine Aq _ (Ae j ?_)
   | refine Aq _ (Ae l ?_)
   | refine Aq _ (Ae k ?_)
   | refine .pure _ [] e ?_
   | refine .pure _ [] d ?_
   | refine aY ?_
   | refine aN ?_
   | refine aT λ h=>?_
   | refine aF λ h=>?_
   | refine Ae o_ ?_
   | refine Ae (by rw [Dt];omega) ?_
   | refine Ae (Ae (by simp only [dA];omega) (by simp only [bN];omega)) ?_
   | refine aJ ?_
   | refine Ae d_ ?_
   | refine ⟨[],[0,1],⟨rfl,rfl⟩,⟨rfl,rfl⟩⟩
   | fail
 | true=>
  have next:=next rfl
  rw [<-m] at next
  refine gV ?_
  repeat' first
   | (refine gN (hEr [] [105]) ?_;conv=>whnf)
   | refine Aq (2*i+2) (Ae o_ ?_)
   | refine Aq (2*i+1) (Ae o_ ?_)
   | refine Aq i (Ae rfl ?_)
   | refine Aq _ (Ae j ?_)
   | refine Aq _ (Ae l ?_)
   | refine Aq _ (Ae k ?_)
   | refine .pure _ [] e ?_
   | refine .pure _ [] d ?_
   | refine aY ?_
   | refine aN ?_
   | refine aT λ h=>?_
   | refine aF λ h=>?_
   | refine Ae o_ ?_
   | refine Ae (by rw [Dt];omega) ?_
   | refine Ae (Ae (by simp only [dA];omega) (by simp only [bN];omega)) ?_
   | refine aJ ?_
   | refine Ae d_ ?_
   | refine ⟨[],[0,1],⟨rfl,rfl⟩,⟨rfl,rfl⟩⟩
   | fail
  exact zqra2
def aM6(n N:Nat)(s:n<=N)(u:N<=1048577)(R:a6)(x:Rn)(i:Nat)(ys:a6)(q:ys.length=N)(p:2*i+1<n)(h3:2*i+2<n)(a b c:Rn)(k:(rav ys)[0+i]? =some a.av)(l:(rav ys)[0+(2*i+1)]? =some b.av)(j:(rav ys)[0+(2*i+2)]? =some c.av)
  (e:aq 234 [c.av,b.av] [] (.ret (.bool false)) []) (r:Bool) (d:aq 234 [b.av,a.av] [] (.ret (.bool r)) []) (g:r=false->ys=R)
  (next:r=true->To (Er [] [105]) BP (.full 2 (.ret x.av) (hpO (.sub 1 0 0 n 14) 0 R)) (.head (stk BP 0) (ppF n ((2*i+1:Nat):Int)) [.cells 346 [.sub 1 0 0 n 14,aJN],.row 0 14 107 (((rav ys).set (0+i) b.av).set (0+(2*i+1)) a.av),.cells 107 z14,.cells 107 x.cs])):
  To (Er [] [105]) BP (.full 2 (.ret x.av) (hpO (.sub 1 0 0 n 14) 0 R)) (.head (stk BP 0) (ppF n i) (ppO n ys x.cs)):=by
 have o:(rav ys).length=ys.length:=by simp
 have m:2*(i:Int)+1=((2*i+1:Nat):Int):=o_;cases r with
 | false=>
  have g:=g rfl;subst g;refine gV ?_
  repeat' first
   | (refine gN (hEr [] [105]) ?_;conv=>whnf)
   | refine Aq (2*i+2) (Ae o_ ?_)
   | refine Aq (2*i+1) (Ae o_ ?_)
   | refine Aq i (Ae rfl ?_)
   | refine Aq _ (Ae j ?_)
   | refine Aq _ (Ae l ?_)
   | refine Aq _ (Ae k ?_)
   | refine .pure _ [] e ?_
   | refine .pure _ [] d ?_
   | refine aY ?_
   | refine aN ?_
   | refine aT λ h=>?_
   | refine aF λ h=>?_
   | refine Ae o_ ?_
   | refine Ae (by rw [Dt];omega) ?_
   | refine Ae (Ae (by simp only [dA];omega) (by simp only [bN];omega)) ?_
   | refine aJ ?_
   | refine Ae d_ ?_
   | refine ⟨[],[0,1],⟨rfl,rfl⟩,⟨rfl,rfl⟩⟩
   | fail
 | true=>
  have next:=next rfl
  rw [<-m] at next
  refine gV ?_
  repeat' first
   | (refine gN (hEr [] [105]) ?_;conv=>whnf)
   | refine Aq (2*i+2) (Ae o_ ?_)
   | refine Aq (2*i+1) (Ae o_ ?_)
   | refine Aq i (Ae rfl ?_)
   | refine Aq _ (Ae j ?_)
   | refine Aq _ (Ae l ?_)
   | refine Aq _ (Ae k ?_)
   | refine .pure _ [] e ?_
   | refine .pure _ [] d ?_
   | refine aY ?_
   | refine aN ?_
   | refine aT λ h=>?_
   | refine aF λ h=>?_
   | refine Ae o_ ?_
   | refine Ae (by rw [Dt];omega) ?_
   | refine Ae (Ae (by simp only [dA];omega) (by simp only [bN];omega)) ?_
   | refine aJ ?_
   | refine Ae d_ ?_
   | refine ⟨[],[0,1],⟨rfl,rfl⟩,⟨rfl,rfl⟩⟩
   | fail
  exact zqra2
def aM7(n N:Nat)(q:n<=N)(s:N<=1048577)(R:a6)(x:Rn)(i:Nat)(ys:a6)(p:ys.length=N)(o:2*i+1<n)(h3:¬ 2*i+2<n)(a b:Rn)(j:(rav ys)[0+i]? =some a.av)(k:(rav ys)[0+(2*i+1)]? =some b.av)
 (r:Bool) (c:aq 234 [b.av,a.av] [] (.ret (.bool r)) []) (e:r=false->ys=R)
  (next:r=true->To (Er [] [105]) BP (.full 2 (.ret x.av) (hpO (.sub 1 0 0 n 14) 0 R)) (.head (stk BP 0) (ppF n ((2*i+1:Nat):Int)) [.cells 346 [.sub 1 0 0 n 14,aJN],.row 0 14 107 (((rav ys).set (0+i) b.av).set (0+(2*i+1)) a.av),.cells 107 z14,.cells 107 x.cs])):
  To (Er [] [105]) BP (.full 2 (.ret x.av) (hpO (.sub 1 0 0 n 14) 0 R)) (.head (stk BP 0) (ppF n i) (ppO n ys x.cs)):=by
  have m:(rav ys).length=ys.length:=by simp
  have d:=OU 0;have g:True:=trivial;have l:2*(i:Int)+1=((2*i+1:Nat):Int):=o_;cases r with
  | false=>
   have e:=e rfl;subst e;refine gV ?_
   repeat' first
    | (refine gN (hEr [] [105]) ?_;conv=>whnf)
    | refine Aq (2*i+2) (Ae o_ ?_)
    | refine Aq (2*i+1) (Ae o_ ?_)
    | refine Aq i (Ae rfl ?_)
    | refine Aq _ (Ae g ?_)
    | refine Aq _ (Ae k ?_)
    | refine Aq _ (Ae j ?_)
    | refine .pure _ [] d ?_
    | refine .pure _ [] c ?_
    | refine aY ?_
    | refine aN ?_
    | refine aT λ h=>?_
    | refine aF λ h=>?_
    | refine Ae o_ ?_
    | refine Ae (by rw [Dt];omega) ?_
    | refine Ae (Ae (by simp only [dA];omega) (by simp only [bN];omega)) ?_
    | refine aJ ?_
    | refine Ae d_ ?_
    | refine ⟨[],[0,1],⟨rfl,rfl⟩,⟨rfl,rfl⟩⟩
    | fail
  | true=>
   have next:=next rfl
   rw [<-l] at next
   refine gV ?_
   repeat' first
    | (refine gN (hEr [] [105]) ?_;conv=>whnf)
    | refine Aq (2*i+2) (Ae o_ ?_)
    | refine Aq (2*i+1) (Ae o_ ?_)
    | refine Aq i (Ae rfl ?_)
    | refine Aq _ (Ae g ?_)
    | refine Aq _ (Ae k ?_)
    | refine Aq _ (Ae j ?_)
    | refine .pure _ [] d ?_
    | refine .pure _ [] c ?_
    | refine aY ?_
    | refine aN ?_
    | refine aT λ h=>?_
    | refine aF λ h=>?_
    | refine Ae o_ ?_
    | refine Ae (by rw [Dt];omega) ?_
    | refine Ae (Ae (by simp only [dA];omega) (by simp only [bN];omega)) ?_
    | refine aJ ?_
    | refine Ae d_ ?_
    | refine ⟨[],[0,1],⟨rfl,rfl⟩,⟨rfl,rfl⟩⟩
    | fail
   exact zqra2
def R4(n N:Nat)(o:n<=N)(t:N<=1048577)(R:a6)(x:Rn):∀ (f i:Nat) (ys:a6),ys.length=N->i<N->n<f+i+1->B1 f ys n i=R->
  To (Er [] [105]) BP (.full 2 (.ret x.av) (hpO (.sub 1 0 0 n 14) 0 R)) (.head (stk BP 0) (ppF n i) (ppO n ys x.cs)):=by
 intro f;induction f with
 | zero=>
  intro i ys j w z b;have b:ys=R:=b;subst b;have s:(rav ys).length=ys.length:=by simp
  refine gV ?_;exact zW
 | succ f l=>
  intro i ys j w z b;have s:(rav ys).length=ys.length:=by simp
  unfold B1 at b;by_cases e:2*i+1<n
  .rw [if_pos e] at b;have y:=aA6 ys n i e;have m:=II (xs:=ys) (i:=i) o_;have p:=II (xs:=ys) (i:=2*i+1) o_;have a:=WU (bB ys (jK ys n i)) (bB ys i);have u:=aBQ ys i (jK ys n i);have l:=l (jK ys n i) (tT ys i (jK ys n i)) (by rw [lX];exact j) o_ o_;unfold ppO hpO at l;rw [u] at l;have d:∀ r,jM (bB ys (jK ys n i)) (bB ys i)=r->(r=false->ys=R)/\(r=true->B1 f (tT ys i (jK ys n i)) n (jK ys n i)=R):=λ r q=>by
    subst q;refine ⟨λ h=>?_,λ h=>?_⟩
    .rw [if_neg (by rw [h];decide)] at b;exact b
    .rw [if_pos h] at b;exact b
   have d:=d _ rfl;generalize jM (bB ys (jK ys n i)) (bB ys i)=r at a d;have next:=λ q=>l (d.2 q)
   by_cases h3:2*i+2<n
   .have v:=II (xs:=ys) (i:=2*i+2) o_;have c:=WU (bB ys (2*i+2)) (bB ys (2*i+1));by_cases g:jM (bB ys (2*i+2)) (bB ys (2*i+1))=true
    .have k:jK ys n i=2*i+2:=by unfold jK;rw [if_pos h3,if_pos g]
     rw [g] at c;rw [k] at next a
     exact aM5 n N o t R x i ys j e h3 _ _ _ m p v c r a d.1 next
    .have g:jM (bB ys (2*i+2)) (bB ys (2*i+1))=false:=by simpa using g
     have k:jK ys n i=2*i+1:=by unfold jK;rw [if_pos h3,if_neg (by rw [g];decide)]
     rw [g] at c;rw [k] at next a
     exact aM6 n N o t R x i ys j e h3 _ _ _ m p v c r a d.1 next
   .have k:jK ys n i=2*i+1:=by unfold jK;rw [if_neg h3]
    rw [k] at next a
    exact aM7 n N o t R x i ys j e h3 _ _ m p r a d.1 next
  .rw [if_neg e] at b;subst b;refine gV ?_;exact zW
inductive HV(ys:a6):aa->Nat->Prop
 | row:HV ys (.row 1 0) ys.length
 | sub (n:Nat) (h:n<=ys.length):HV ys (.sub 1 0 0 n 14) n
def aM4(ys:a6)(hl:ys.length<=1048577)(o:aa)(n:Nat)(q:HV ys o n)(p:0<n):aq 236 [.ref 0 0] (hpO o 0 ys) (.ret (bB ys 0).av) (hpO (.sub 1 0 0 (n-1) 14) 0 (EW ys n)):=by
 have m:(rav ys).length=ys.length:=by simp
 cases q with
 | row=>
  have j:=jX (xs:=ys) (i:=0) o_;have d:=jX (xs:=ys) (i:=ys.length-1) o_;have c:((ys.length:Nat):Int)-1=((ys.length-1:Nat):Int):=o_
  obtain ⟨n,l⟩:∃ n,n=ys.length:=⟨_,rfl⟩
  rw [<-l] at d c p⊢;have k:((rav ys).length:Int)-1=((n-1:Nat):Int):=by rw [m,<-l];exact c
  have next:=R4 (n-1) ys.length o_ o_ (EW ys n) (bB ys 0) n 0 (ys.set 0 (bB ys (n-1))) s_ o_ o_ rfl
  have e:rav (ys.set 0 (bB ys (n-1)))=(rav ys).set 0 (bB ys (n-1)).av:=by simp [rav,Gz]
  unfold ppO hpO at next
  rw [e] at next
  generalize bB ys 0=a at j next
  generalize bB ys (n-1)=b at d next
  refine cT (E:=(Er [] [105])) (fn:=Tryz.f236) (g:=.full 2 _ _) λ_=>?_
  repeat' first | (refine gN (hEr [] [105]) ?_;conv=>whnf) | refine ⟨0,rfl,?_⟩ | refine ⟨_,j,?_⟩ | refine Aq (n-1) (Ae k ?_) | refine ⟨_,d,?_⟩ | refine Ae (by rw [Dt];omega) ?_ | exact rfl | refine zt ?_ | refine zu ?_ ?_ | intro h | fail
  rw [k];exact zqra2
 | sub _ h=>
  have j:=II (xs:=ys) (i:=0) o_;have d:=II (xs:=ys) (i:=n-1) o_;have c:((n:Nat):Int)-1=((n-1:Nat):Int):=o_;have next:=R4 (n-1) ys.length o_ o_ (EW ys n) (bB ys 0) n 0 (ys.set 0 (bB ys (n-1))) s_ o_ o_ rfl
  have e:rav (ys.set 0 (bB ys (n-1)))=(rav ys).set (0+0) (bB ys (n-1)).av:=by simp [rav,Gz]
  unfold ppO hpO at next
  rw [e] at next
  generalize bB ys 0=a at j next
  generalize bB ys (n-1)=b at d next
  refine cT (E:=(Er [] [105])) (fn:=Tryz.f236) (g:=.full 2 _ _) λ_=>?_
  repeat' first | (refine gN (hEr [] [105]) ?_;conv=>whnf) | refine ⟨0,rfl,?_⟩ | refine ⟨_,j,?_⟩ | refine Aq (n-1) (Ae c ?_) | refine ⟨_,d,?_⟩ | refine Ae (by rw [Dt];omega) ?_ | exact rfl | refine zt ?_ | refine zu ?_ ?_ | intro h | fail
  rw [c];exact zqra2
set_option maxRecDepth 10000
def qI:Nat->a6->a6
 | 0,_=>[]
 | n+1,ys=>bB ys 0::qI n (EW ys (n+1))
def jL(l:a6):a6:=qI l.length (l.foldl vU [])
def HE:∀ (l ys:a6),(l.foldl vU ys).length=ys.length+l.length
 | [],ys=>rfl
 | x::r,ys=>by rw [Bb,HE r,LH];simp;omega
def HV.inv{ys:a6}{a:aa}{n:Nat}(h:HV ys a n):(a= .row 1 0/\n=ys.length)\/(a= .sub 1 0 0 n 14/\n<=ys.length):=by
 cases h with
 | row=>exact .inl ⟨rfl,rfl⟩
 | sub _ h=>exact .inr ⟨rfl,h⟩
noncomputable abbrev aKy:Func:=Tryz.f173
def WM(R:a6):∀ (n:Nat) (ys:a6) (b:aa) (out:a6),HV ys b n->ys.length<=1048577->out.length+n<=1048576->out++qI n ys=R->
  To (Eo [6] []) aKy (.pure (.ret (.slice 14 (rav R) .no))) (.head (stk aKy 1) [(3,.ref 0 0),(6,.slice 14 (rav out) (.own 2 0))] (hpO b 0 ys++[.tail 0 14 107])):=by
 intro n;induction n with
 | zero=>
  intro ys b out c f j a;have a:out++[]=R:=a;rw [Ar] at a;subst a;have g:(rav ys).length=ys.length:=by simp
  exact zqra3
 | succ n k=>
  intro ys b out c f j a;have g:(rav ys).length=ys.length:=by simp
  have hp:=aM4 ys f b (n+1) c o_;have a:out++bB ys 0::qI n (EW ys (n+1))=R:=a;have d:n<=(EW ys (n+1)).length:=by rw [HG];rcases c.inv with ⟨_,h⟩ | ⟨_,h⟩<;>omega
  have next:=k (EW ys (n+1)) (.sub 1 0 0 n 14) (out++[bB ys 0]) (.sub n d) (by rw [HG];exact f) q_ (by rw [Ag];exact a)
  have e:rav (out++[bB ys 0])=rav out++[(bB ys 0).av]:=by simp
  rw [e] at next
  have i:(rav out).length=out.length:=by simp
  generalize bB ys 0=x at hp next
  have l:n+1-1=n:=o_;rw [l] at hp;generalize EW ys (n+1)=ys' at hp next
  exact zqra3
def WL(l:a6)(hs:Sm l)(R:a6):∀ (m i:Nat) (ys:a6),i+m=l.length->ys.length=i->qI l.length ((l.drop i).foldl vU ys)=R->
  To (Eo [6] []) aKy (.pure (.ret (.slice 14 (rav R) .no))) (.head (stk aKy 0) [(3,.ref 0 0),(9,.slice 14 (rav l) .no),(10,.int .i64 ((rav l).length:Nat)),(11,ii i)] (hpO (.row 1 0) 0 ys)):=by
 have d:(rav l).length=l.length:=by simp
 have hl:=hs.1;intro m;induction m with
 | zero=>
  intro i ys f g a;rw [Ab o_] at a;have a:qI l.length ys=R:=a;have next:=WM R l.length ys (.row 1 0) [] (by rw [show l.length=ys.length from by omega];exact .row) o_ q_ a
  refine gV ?_;exact zW
 | succ m j=>
  intro i ys f g a;have b:i<l.length:=o_;have c:=hs.at b;rw [Aa b,Bb] at a;generalize h:l[i]=x at a c;have get:(rav l)[i]? =some x.av:=(cF b).trans (by rw [h]);have next:=j (i+1) (vU ys x) o_ (by rw [LH];omega) a
  have hp:=aJa ys o_ x;generalize vU ys x=ys' at hp next
  refine gV ?_;have e:=E9 x c;exact zW
def aE0(l:a6)(hs:Sm l):aq 173 [.slice 14 (rav l) .no] [] (.ret (.slice 14 (rav (jL l)) .no)) []:=by refine cT (E:=(Eo [6] [])) (fn:=Tryz.f173) (g:=.pure _) λ_=>gV ?_;refine To.beginRowH 0 0 107 rfl rfl ?_;have a:=WL l hs _ l.length 0 [] o_ rfl rfl;exact zW
def oP(p:Int->Bool):ax->Nat->Int
 | [],_=> -1
 | x::r,i=>if p x=true then (i:Int) else oP p r (i+1)
def MP(p:Int->Bool):∀ (l:ax) (i:Nat),decide (0<=oP p l i)=l.any p
 | [],i=>by simp [oP]
 | x::r,i=>by
  unfold oP;rw [Hq];cases h:p x with
  | true=>simp
  | false=>simp [MP p r (i+1)]
def inB(v:Int)(l:ax):Bool:=l.any λ x=>v==x
noncomputable abbrev aL1:Func:=Tryz.f226
def aCf(l:ax)(hl:l.length<=1048576)(v r:Int):∀ (m i:Nat),i+m=l.length->oP (λ x=>v==x) (l.drop i) i=r->
  To E aL1 (.pure (.ret (ii r))) (.head (stk aL1 0) [(0,.slice 1 (iv l) .no),(1,ii v),(7,.int .i64 ((iv l).length:Nat)),(8,ii i)] []):=by
 have d:(iv l).length=l.length:=by simp
 intro m;induction m with
 | zero=>
  intro i f a;rw [Ab o_] at a;have a: -1=r:=a;subst a;refine gV ?_;exact zW
 | succ m c=>
  intro i f a;have b:i<l.length:=o_;rw [Aa b] at a;have get:=dJ b;generalize l[i]=x at a get;unfold oP at a;have c:=c (i+1) o_;cases e:(v==x) with
  | true=>
   rw [if_pos e] at a;subst a;refine gV ?_;exact zW
  | false=>
   rw [if_neg (by rw [e];decide)] at a;have next:=c a
   refine gV ?_;exact zW
def aJ8(l:ax)(hl:l.length<=1048576)(v:Int):aq 226 [.slice 1 (iv l) .no,ii v] [] (.ret (ii (oP (λ x=>v==x) l 0))) []:=by refine c_ Tryz.f226 λ_=>gV ?_;exact To.cut [0,1,7,8] 0 rfl rfl rfl rfl (aCf l hl v _ l.length 0 o_ rfl)
def B4(l:ax)(hl:l.length<=1048576)(v:Int):aq 162 [.slice 1 (iv l) .no,ii v] [] (.ret (.bool (inB v l))) []:=by have h:=aJ8 l hl v;have e:=MP (λ x=>v==x) l 0;unfold inB;rw [<-e];generalize oP (λ x=>v==x) l 0=q at h;exact c_ Tryz.f162 λ_=>zW
def aH(l:a6)(ids:ax):a6:=l.filter λ x=>!(inB x.g.id ids)
def pL{x:Rn}{r:a6}{ids:ax}(h:inB x.g.id ids=false):aH (x::r) ids=x::aH r ids:=Gb (by rw [h];rfl)
def pM{x:Rn}{r:a6}{ids:ax}(h:inB x.g.id ids=true):aH (x::r) ids=aH r ids:=Fc (by rw [h];decide)
def sP{l:a6}(hs:Sm l)(ids:ax):Sm (aH l ids):=
 ⟨Dh (Fv _ _) hs.1,λ x a=>hs.2 x (Fm.1 a).1⟩
noncomputable abbrev fWo:Func:=Tryz.f108
def aHV(l:a6)(hs:Sm l)(ids:ax)(hd:ids.length<=1048576)(R:a6):∀ (m i:Nat) (a:a6),i+m=l.length->a.length<=i->a++aH (l.drop i) ids=R->
  To (Eo [5] []) fWo (.pure (.ret (.slice 14 (rav R) .no))) (.head (stk fWo 0) [(1,.slice 1 (iv ids) .no),(5,.slice 14 (rav a) (.own 0 0)),(8,.slice 14 (rav l) .no),(9,.int .i64 ((rav l).length:Nat)),(10,ii i)] [.tail 0 14 107]):=by
 have n:(rav l).length=l.length:=by simp
 have hl:=hs.1;intro m;induction m with
 | zero=>
  intro i a o q b;rw [Ab o_] at b;have b:a++[]=R:=b;rw [Ar] at b;subst b;refine gV ?_;exact zW
 | succ m k=>
  intro i a o q b;have c:i<l.length:=o_;have j:=hs.at c;rw [Aa c] at b;generalize p:l[i]=x at b j;have get:(rav l)[i]? =some x.av:=(cF c).trans (by rw [p]);have r:(rav a).length=a.length:=by simp
  have h:=B4 ids hd x.g.id;cases d:inB x.g.id ids with
  | true=>
   rw [d] at h;rw [pM d] at b;have next:=k (i+1) a o_ o_ b
   refine gV ?_;exact zW
  | false=>
   rw [d] at h;rw [pL d] at b;have next:=k (i+1) (a++[x]) o_ q_ (by rw [Ag];exact b)
   have e:rav (a++[x])=rav a++[x.av]:=by simp
   rw [e] at next
   refine gV ?_;have f:=E9 x j;exact zW
def sQ(l:a6)(hs:Sm l)(ids:ax)(hd:ids.length<=1048576):aq 108 [.slice 14 (rav l) .no,.slice 1 (iv ids) .no] [] (.ret (.slice 14 (rav (aH l ids)) .no)) []:=by refine cT (E:=(Eo [5] [])) (fn:=Tryz.f108) (g:=.pure _) λ_=>?_;have a:=aHV l hs ids hd _ l.length 0 [] o_ s_ rfl;exact zW
def LS{ns:bc}{t:Int}(h:bL ns t=true):0<=t/\t.toNat<ns.length:=by exact zqra0
def QI{c:Con}{t:Int}(h:0<=t/\t.toNat<c.ns.length):(nav c.ns)[t.toNat]? =some (cZ c.ns t).av:=by unfold cZ;rw [Ac h.2];exact nU h.2
def wR(c:Con)(a:a8)(t:Int)(need:V3):Bool:=if bL c.ns t=true then dC (fK (atV a t) need) (cZ c.ns t).n else false
def fE(c:Con)(a:a8)(t:Int):Bool:=if bL c.ns t=true then !dC (atV a t) (cZ c.ns t).n else false
def VA(c:Con)(a:a8)(t:Int)(need:V3)(r:Bool)(b:wR c a t need=r):aq 170 [c.av,.slice 3 (vav a) .no,ii t,need.av] [] (.ret (.bool r)) []:=by
 have e:=mQ c t;unfold wR at b;cases d:bL c.ns t with
 | false=>
  rw [d] at e;rw [if_neg (by rw [d];decide)] at b;subst b;exact c_ Tryz.f170 λ_=>zW
 | true=>
  rw [d] at e;rw [if_pos d] at b;have i:=LS d;have k:t=(t.toNat:Int):=o_;have h:=QI (c:=c) i;generalize cZ c.ns t=x at h b;have h1:=JN a t;generalize atV a t=q1 at h1 b;have j:=kQ q1 need;generalize fK q1 need=q2 at j b;have h3:=oA q2 x.n;rw [b] at h3;exact c_ Tryz.f170 λ_=>zW
def aBo(c:Con)(a:a8)(t:Int)(need:V3):aq 170 [c.av,.slice 3 (vav a) .no,ii t,need.av] [] (.ret (.bool (wR c a t need))) []:=VA c a t need _ rfl
def UU(c:Con)(a:a8)(t:Int)(r:Bool)(b:fE c a t=r):aq 175 [c.av,.slice 3 (vav a) .no,ii t] [] (.ret (.bool r)) []:=by
 have e:=mQ c t;unfold fE at b;cases d:bL c.ns t with
 | false=>
  rw [d] at e;rw [if_neg (by rw [d];decide)] at b;subst b;exact c_ Tryz.f175 λ_=>zW
 | true=>
  rw [d] at e;rw [if_pos d] at b;have i:=LS d;have j:t=(t.toNat:Int):=o_;have h:=QI (c:=c) i;generalize cZ c.ns t=x at h b;have h1:=JN a t;generalize atV a t=q1 at h1 b;have h3:=zY q1 x.n;rw [b] at h3;exact c_ Tryz.f175 λ_=>zW
def YN(c:Con)(a:a8)(t:Int):aq 175 [c.av,.slice 3 (vav a) .no,ii t] [] (.ret (.bool (fE c a t))) []:=UU c a t _ rfl
def wC(c:Con)(l:a6)(g:Gan)(ids:ax):Bool:=(bM c (aH l ids) g).isSome
abbrev chO(c:Con)(l:a6)(g:Gan):au:=[.cells 26 c.cs,.cells 28 [.slice 14 (rav l) .no],.cells 45 g.cs]
def aBg(c:Con)(h:c.sm)(l:a6)(hs:Sm l)(g:Gan)(d:0<=g.pods/\g.pods<=16)(ids:ax)(hd:ids.length<=1048576)(r:Bool)(a:wC c l g ids=r):
  aq 171 [.slice 1 (iv ids) .no,.ref 0 0,.ref 1 0,.ref 2 0] (chO c l g) (.ret (.bool r)) (chO c l g):=by
 have e:=sQ l hs ids hd;have b:=xJ c h (aH l ids) (sP hs ids) g d;unfold wC at a;generalize aH l ids=left at e b a;generalize bM c left g=Q at b a;subst a;unfold fdA at b;cases Q with
 | none=>
  exact zqra7
 | some x=>
  exact zqra7
abbrev aCU(c:Con)(used:a8):au:=[.cells 26 c.cs,.cells 115 [.slice 3 (vav used) .no]]
def aOt(c:Con)(a:a8)(x:Rn):aq 174 [x.av,.ref 0 0,.ref 1 0] (aCU c a) (.ret (.bool (fE c a x.g.ten))) (aCU c a):=by have b:=YN c a x.g.ten;generalize fE c a x.g.ten=r at b;refine cT (E:=E) (fn:=Tryz.f174) (g:=.full 2 _ _) λ_=>?_;exact zW
def aHl(x a:Int):aq 178 [ii x,.ref 0 0] [.cells 3 [ii a]] (.ret (.bool (x==a))) [.cells 3 [ii a]]:=by refine cT (E:=E) (fn:=Tryz.f178) (g:=.full 1 _ _) λ_=>?_;exact zW
def bA(p:Rn->Bool):a6->Nat->Int
 | [],_=> -1
 | x::r,i=>if p x=true then (i:Int) else bA p r (i+1)
noncomputable abbrev MQ:Func:=Tryz.f172
abbrev aP7:aa:=.func (.func 174) [] [.ref 0 0,.ref 1 0]
def aCd(c:Con)(a:a8)(l:a6)(hl:l.length<=1048576)(r:Int):∀ (m i:Nat),i+m=l.length->bA (λ x=>fE c a x.g.ten) (l.drop i) i=r->
  To E MQ (.full 2 (.ret (ii r)) (aCU c a)) (.head (stk MQ 0) [(0,.slice 14 (rav l) .no),(1,aP7),(7,.int .i64 ((rav l).length:Nat)),(8,ii i)] (aCU c a)):=by
 have j:(rav l).length=l.length:=by simp
 intro m;induction m with
 | zero=>
  intro i k b;rw [Ab o_] at b;have b: -1=r:=b;subst b;refine gV ?_;exact zW
 | succ m f=>
  intro i k b;have d:i<l.length:=o_;rw [Aa d] at b;have get:(rav l)[i]? =some l[i].av:=cF d;generalize l[i]=x at b get;unfold bA at b;have h:=aOt c a x;have f:=f (i+1) o_;cases e:fE c a x.g.ten with
  | true=>
   rw [if_pos e] at b;rw [e] at h;subst b;refine gV ?_;exact zW
  | false=>
   rw [if_neg (by rw [e];decide)] at b;rw [e] at h;have next:=f b
   refine gV ?_;exact zW
def aJ6(c:Con)(a:a8)(l:a6)(hl:l.length<=1048576):aq 172 [.slice 14 (rav l) .no,aP7] (aCU c a) (.ret (ii (bA (λ x=>fE c a x.g.ten) l 0))) (aCU c a):=by refine cT (E:=E) (fn:=Tryz.f172) (g:=.full 2 _ _) λ_=>gV ?_;exact To.cut [0,1,7,8] 2 rfl rfl rfl rfl (aCd c a l hl _ l.length 0 o_ rfl)
def M9(l:ax)(h:l.length<=1048576):aq 176 [.slice 1 (iv l) .no] [] (.ret (.row 0 0)) [.row 0 1 3 (iv l)]:=by
 have a:(iv l).length=l.length:=by simp
 refine cT (E:=(Er [2,5] [])) (fn:=Tryz.f176) (g:=.full 0 _ _) λ_=>gV ?_;intro b c;refine gV ?_;refine ⟨λ h=>?_,λ h=>?_⟩
 .refine gV ?_;refine ⟨[],[1],⟨rfl,rfl⟩,?_⟩;conv=>whnf
  rw [c (by simpa using h)];exact ⟨rfl,rfl⟩
 .refine gV ?_;refine ⟨⟨by simp only [maxLen];simp;omega,by simp;omega⟩,?_⟩;refine gV ?_;refine ⟨[],[1],⟨rfl,rfl⟩,?_⟩;exact ⟨rfl,rfl⟩
abbrev aHm:aa:=.func (.func 178) [] [.ref 1 0]
abbrev dlO(l:ax)(a:Int):au:=[.row 0 1 3 (iv l),.cells 3 [ii a]]
noncomputable abbrev aL2:Func:=Tryz.f237
def aCg(l:ax)(hl:l.length<=1048576)(a r:Int):∀ (m i:Nat),i+m=l.length->oP (λ x=>x==a) (l.drop i) i=r->
  To E aL2 (.full 2 (.ret (ii r)) (dlO l a)) (.head (stk aL2 0) [(0,.row 0 0),(1,aHm),(7,.int .i64 ((iv l).length:Nat)),(8,ii i)] (dlO l a)):=by
 have g:(iv l).length=l.length:=by simp
 intro m;induction m with
 | zero=>
  intro i h b;rw [Ab o_] at b;have b: -1=r:=b;subst b;refine gV ?_;exact zW
 | succ m e=>
  intro i h b;have c:i<l.length:=o_;rw [Aa c] at b;have get:=dJ c;generalize l[i]=x at b get;unfold oP at b;have f:=aHl x a;have e:=e (i+1) o_;cases d:(x==a) with
  | true=>
   rw [if_pos d] at b;rw [d] at f;subst b;refine gV ?_;exact zW
  | false=>
   rw [if_neg (by rw [d];decide)] at b;rw [d] at f;have next:=e b
   refine gV ?_;exact zW
def aAz(l:ax)(hl:l.length<=1048576)(a:Int):aq 237 [.row 0 0,aHm] (dlO l a) (.ret (ii (oP (λ x=>x==a) l 0))) (dlO l a):=by refine cT (E:=E) (fn:=Tryz.f237) (g:=.full 2 _ _) λ_=>gV ?_;exact To.cut [0,1,7,8] 2 rfl rfl rfl rfl (aCg l hl a _ l.length 0 o_ rfl)
def gF(l:ax)(a:Int):ax:=l.filter λ x=>!(x==a)
def TV(p:Int->Bool):∀ (l:ax) (i:Nat),l.any p=false->oP p l i= -1
 | [],i,_=>rfl
 | x::r,i,h=>by rw [Hq,Ks] at h;unfold oP;rw [if_neg (by rw [h.1];decide)];exact TV p r (i+1) h.2
def MO(p:Int->Bool):∀ (l:ax) (i:Nat),l.any p=true->∃ k,k<l.length/\oP p l i=((i+k:Nat):Int)/\(∀ x∈l.take k,p x=false)/\∃ x,l[k]? =some x/\p x=true
 | [],i,h=>by simp at h
 | x::r,i,h=>by
  unfold oP;cases a:p x with
  | true=>exact ⟨0,by simp,by rw [if_pos rfl];simp,by simp,x,rfl,a⟩
  | false=>
   rw [Hq,a,Nh] at h;obtain ⟨k,h1,c,h3,y,d,b⟩:=MO p r (i+1) h;refine ⟨k+1,by simp;omega,?_,λ z hz=>?_,y,by simpa using d,b⟩
   .rw [if_neg d_,c];congr 1;omega
   .simp only [List.take_succ_cons,Aw] at hz;rcases hz with rfl | hz
    .exact a
    .exact h3 z hz
def aOk(l:ax)(hl:l.length<=1048576)(a:Int)(h:(l.any λ x=>x==a)=false):aq 177 [.row 0 0,aHm] (dlO l a) (.ret (.row 0 0)) (dlO l a):=by have b:=aAz l hl a;rw [TV _ l 0 h] at b;exact zqra8
noncomputable abbrev aPM:Func:=Tryz.f177
abbrev aPT(z:ay)(a:Int):au:=[.row 0 1 3 z,.cells 3 [ii a]]
def aNz(l:ax)(i:Nat)(x:Int):(iv l).set i (ii x)=iv (l.set i x):=by simp [iv,Gz]
def aG2(l:ax)(hl:l.length<=1048576)(a:Int)(R:ax):∀ (m j i:Nat) (z:ax),j+m=l.length->i<j->z.length=l.length->z.drop j=l.drop j->z.take i++gF (l.drop j) a=R->
  To E aPM (.full 2 (.ret (.sub 0 0 0 R.length 1)) (aPT (iv R++Aj (l.length-R.length) (ii 0)) a)) (.head (stk aPM 0) [(0,.row 0 0),(1,aHm),(5,ii i),(6,ii j)] (dlO z a)):=by
 intro m;induction m with
 | zero=>
  intro j i z s u hz hd b;have g:(iv z).length=z.length:=by simp
  rw [Ab o_] at b;have b:z.take i++[]=R:=b;rw [Ar] at b;have k:R.length=i:=by rw [<-b];simp;omega
  have e:(iv z).take i=iv R:=by rw [<-b];simp
  rw [k];refine gV ?_;refine aF λ h=>?_
  repeat' first | (refine gN hE ?_;conv=>whnf) | refine ⟨i,rfl,?_⟩ | exact rfl | refine zt ?_ | refine zu ?_ ?_ | intro h | fail
  refine Ae q_ (gV ?_);refine ⟨[],[0,1],⟨rfl,rfl⟩,?_⟩;conv=>whnf
  refine ⟨rfl,?_⟩;have w:Ht (i+((iv z).length-i)) (iv z)=[]:=Ab o_;have v:Ii i (iv z)++Aj ((iv z).length-i) (ii 0)++Ht (i+((iv z).length-i)) (iv z)=iv R++Aj (l.length-i) (ii 0):=by rw [e,w,Ar,g,hz]
  exact congrArg (λ l=>[ab.row 0 1 3 l,.cells 3 [ii a]]) v
 | succ m p=>
  intro j i z s u hz hd b;have g:(iv z).length=z.length:=by simp
  have f:j<l.length:=o_;rw [Aa f] at b;have c:z[j]? =some l[j]:=by have:=congrArg (λ q=>q[0]?) hd;simpa [Ca,Ac f] using this
  have get:(iv z)[j]? =some (ii l[j]):=by simp [c]
  have d:z.drop (j+1)=l.drop (j+1):=by have:=congrArg (Ht 1) hd;rwa [Hv,Hv] at this
  generalize l[j]=x at b get c;have n:=aHl x a;unfold gF at b;rw [Hg] at b;cases o:(x==a) with
  | true=>
   rw [o] at n b;have next:=p (j+1) i z o_ o_ hz d b
   refine gV ?_;exact zW
  | false=>
   rw [o] at n b
   have next:=p (j+1) (i+1) (z.set i x) o_ o_ (by simp;exact hz) (by rw [List.drop_set_of_lt o_];exact d) (by
    have r:(z.set i x).take (i+1)=z.take i++[x]:=by rw [Jn,Ay o_,List.take_set_of_le (Bh _)];rfl
    rw [r,Ag]
    exact b)
   unfold dlO at next
   rw [<-aNz] at next
   refine gV ?_;exact zW
def aK5(l:ax)(hl:l.length<=1048576)(a:Int)(h:(l.any λ x=>x==a)=true):aq 177 [.row 0 0,aHm] (dlO l a) (.ret (.sub 0 0 0 (gF l a).length 1)) (aPT (iv (gF l a)++Aj (l.length-(gF l a).length) (ii 0)) a):=by
 have c:=aAz l hl a;obtain ⟨k,h1,m,h3,x,d,b⟩:=MO (λ x=>x==a) l 0 h;rw [m] at c;rw [Bx] at c;have i:((k:Int)== -1)=false:=by simp
 have next:=aG2 l hl a (gF l a) (l.length-(k+1)) (k+1) k l o_ o_ rfl rfl (by
  conv=>rhs;rw [<-Bv k l]
  have o:x=a:=by simpa using b
  have e:l.drop k=x::l.drop (k+1):=by rw [Aa h1];rw [Ac h1] at d;cases d;rfl
  unfold gF;rw [List.filter_append,e,Hg,b];have n:(l.take k).filter (λ x=>!(x==a))=l.take k:=Gf.2 λ y j=>by rw [h3 y j];rfl
  rw [n]
  rfl)
 exact zqra8
def wA{xs:a6}{i:Nat}(h:i<xs.length):bB xs i∈xs:=by unfold bB;rw [Ac h];exact Ax h
def K9{xs:a6}{i k:Nat}(a:i<xs.length)(b:k<xs.length){y:Rn}(h:y∈tT xs i k):y∈xs:=by
 unfold tT at h;rcases Dq h with h | rfl
 .rcases Dq h with h | rfl
  .exact h
  .exact wA b
 .exact wA a
def Y5{y:Rn}:∀ (f:Nat) (xs:a6) (i:Nat),i<xs.length->y∈upH f xs i->y∈xs
 | 0,xs,i,_,h=>h
 | f+1,xs,i,hi,h=>by
  unfold upH at h;split at h
  .exact h
  .split at h
   .exact K9 hi o_ (Y5 f _ _ (by rw [lX];omega) h)
   .exact h
def aBT{xs:a6}{x y:Rn}(h:y∈vU xs x):y∈xs\/y=x:=by have:=Y5 _ _ _ s_ h;simpa using this
def HD{y:Rn}:∀ (l xs:a6),y∈l.foldl vU xs->y∈xs\/y∈l
 | [],xs,h=>.inl h
 | x::r,xs,h=>by
  rcases HD r _ h with h | h
  .rcases aBT h with h | rfl
   .exact .inl h
   .exact .inr s_
  .exact .inr (by simp [h])
def M3{y:Rn}:∀ (f:Nat) (xs:a6) (n i:Nat),n<=xs.length->i<xs.length->y∈B1 f xs n i->y∈xs
 | 0,xs,n,i,_,_,h=>h
 | f+1,xs,n,i,hn,hi,h=>by
  unfold B1 at h;split at h
  .rename_i a;have b:=aA6 xs n i a;split at h
   .exact K9 hi o_ (M3 f _ n _ (by rw [lX];exact hn) (by rw [lX];omega) h)
   .exact h
  .exact h
def aEO{xs:a6}{n:Nat}(a:0<n)(b:n<=xs.length){y:Rn}(h:y∈EW xs n):y∈xs:=by
 unfold EW at h;have:=M3 n (xs.set 0 (bB xs (n-1))) (n-1) 0 q_ q_ h;rcases Dq this with h | rfl
 .exact h
 .exact wA o_
def HH{y:Rn}:∀ (n:Nat) (xs:a6),n<=xs.length->y∈qI n xs->y∈xs
 | 0,xs,_,h=>by cases h
 | n+1,xs,hn,h=>by
  unfold qI at h;rcases Aw.1 h with rfl | h
  .exact wA o_
  .exact aEO o_ hn (HH n _ (by rw [HG];omega) h)
def LJ{l:a6}{y:Rn}(h:y∈jL l):y∈l:=by
 unfold jL at h;have:=HH _ _ (by rw [HE];simp) h;rcases HD l [] this with h | h
 .cases h
 .exact h
def HI:∀ (n:Nat) (xs:a6),(qI n xs).length=n
 | 0,xs=>rfl
 | n+1,xs=>by unfold qI;rw [Ak,HI n]
def HM(l:a6):(jL l).length=l.length:=HI _ _
def aEZ{l:a6}(h:Sm l):Sm (jL l):=⟨by rw [HM];exact h.1,λ x a=>h.2 x (LJ a)⟩
def IN(p:Rn->Bool):∀ (l:a6) (i:Nat),bA p l i= -1\/∃ k,k<l.length/\bA p l i=((i+k:Nat):Int)/\p (bB l k)=true
 | [],i=>.inl rfl
 | x::r,i=>by
  unfold bA;cases b:p x with
  | true=>exact .inr ⟨0,by simp,by rw [if_pos rfl];simp,b⟩
  | false=>
   rw [if_neg d_];rcases IN p r (i+1) with h | ⟨k,h1,a,h3⟩
   .exact .inl h
   .refine .inr ⟨k+1,by simp;omega,by rw [a];congr 1;omega,?_⟩;unfold bB at h3⊢;simpa using h3
def atI(c:Con)(l:a6)(ids:ax):Int:=bA (λ x=>fE c (ofL c (aH l ids)) x.g.ten) (jL (aH l ids)) 0
def aAg(c:Con)(l:a6)(ids:ax):Option Int:=if atI c l ids<0 then none else some (bB (jL (aH l ids)) (atI c l ids).toNat).g.id
def chA(c:Con)(l:a6)(g:Gan):Nat->ax->Option ax
 | 0,_=>none
 | f+1,ids=>if wC c l g ids=true then some ids else match aAg c l ids with
  | none=>none
  | some n=>chA c l g f (ids++[n])
def chS(c:Con)(l:a6)(g:Gan)(ids:ax)(a:Int):ax:=if wC c l g (gF ids a)=true then gF ids a else ids
def gM(c:Con)(l:a6)(g:Gan):Option ax:=if wR c (ofL c l) g.ten (dem g)=true then (match chA c l g (l.length+1) [] with
 | none=>none
 | some ids=>some (ids.foldl (chS c l g) ids)) else none
def chR:Option ax->aa
 | some ids=>.tup [.slice 1 (iv ids) .no,.bool true]
 | none=>.tup [.slice 1 [] .no,.bool false]
def LO{c:Con}{l:a6}{ids:ax}{n:Int}(h:aAg c l ids=some n):∃ x∈aH l ids,x.g.id=n/\fE c (ofL c (aH l ids)) x.g.ten=true:=by
 unfold aAg at h;split at h
 .cases h
 .rename_i b;cases h;rcases IN (λ x=>fE c (ofL c (aH l ids)) x.g.ten) (jL (aH l ids)) 0 with h1 | ⟨k,h1,a,h3⟩
  .exact absurd (show atI c l ids<0 from by unfold atI;rw [h1];decide) b
  .refine ⟨_,LJ (wA ?_),rfl,?_⟩
   .unfold atI;rw [a];simpa using h1
   .unfold atI;rw [a];simpa using h3
def NL(l:a6)(ids:ax)(n:Int):aH l (ids++[n])=(aH l ids).filter λ x=>!(x.g.id==n):=by unfold aH;rw [List.filter_filter];refine Lq λ x _=>?_;unfold inB;rw [List.any_append];simp only [Hq,List.any_nil,Bool.or_false];cases (ids.any λ y=>x.g.id==y)<;>cases (x.g.id==n)<;>rfl
def NM{l:a6}{ids:ax}{n:Int}(h:∃ x∈aH l ids,x.g.id=n):(aH l (ids++[n])).length<(aH l ids).length:=by obtain ⟨x,a,b⟩:=h;rw [NL];generalize aH l ids=q at a;refine Nat.lt_of_le_of_ne (Fv _ _) λ e=>?_;have:=List.length_filter_eq_length_iff.1 e x a;simp [b] at this
def aB4(l:ax)(a:Int):(gF l a).length<=l.length:=Fv _ _
abbrev aP8:aa:=.func (.func 171) [] [.ref 0 0,.ref 1 0,.ref 2 0]
noncomputable abbrev fCh:Func:=Tryz.f113
abbrev cbF(ids all:ax)(i:Int):ar:=[(8,aP8),(9,.slice 1 (iv ids) .no),(54,.slice 1 (iv all) .no),(55,.int .i64 ((iv all).length:Nat)),(56,ii i)]
def aOu(c:Con)(l:a6)(g:Gan)(a:Int)(z:ay):aj [4] (chO c l g++[.cells 3 [ii a],.row 0 1 3 z])=chO c l g++[.cells 3 [ii a],.frow 0 1 z]:=by kernel_rfl
def aLq(c:Con)(l:a6)(g:Gan)(a:Int)(z:ay)(n:Nat)(ids all:ax)(i:Int):BI [15] (aB (chO c l g++[.cells 3 [ii a],.frow 0 1 z])) ((15,.sub 4 0 0 n 1)::cbF ids all i)=(15,.slice 1 ((z.drop 0).take n) .no)::cbF ids all i:=by kernel_rfl
def aLr(c:Con)(l:a6)(g:Gan)(a:Int)(z:ay)(ids all:ax)(i:Int):BI [15] (aB (chO c l g++[.cells 3 [ii a],.frow 0 1 z])) ((15,.row 4 0)::cbF ids all i)=(15,.slice 1 z .no)::cbF ids all i:=by kernel_rfl
def aBh{G:Goal}{ks:bh}(c:Con)(l:a6)(g:Gan)(a:Int)(z:ay)(fr:ar){b:ar}(d:BI [15] (aB (chO c l g++[.cells 3 [ii a],.frow 0 1 z])) fr=b)
  (h:To (Eo [9] []) fCh G (.code ks b (chO c l g++[.cells 3 [ii a],.frow 0 1 z]))):To (Eo [9] []) fCh G (.code ks fr (chO c l g++[.cells 3 [ii a],.row 0 1 3 z])):=by
 refine To.frz [15] [4] ?_;rw [aOu,d];exact h
def aHh(c:Con)(q:c.sm)(l:a6)(hs:Sm l)(g:Gan)(p:0<=g.pods/\g.pods<=16)(all:ax)(u:all.length<=1048576)(R:ax):∀ (m i:Nat) (ids:ax),i+m=all.length->ids.length<=1048576->(all.drop i).foldl (chS c l g) ids=R->
  To (Eo [9] []) fCh (.pure (.ret (.tup [.slice 1 (iv R) .no,.bool true]))) (.head (stk fCh 1) (cbF ids all i) (chO c l g)):=by
 have o:(iv all).length=all.length:=by simp
 intro m;induction m with
 | zero=>
  intro i ids r hd b;rw [Ab o_] at b;have b:ids=R:=b;subst b;refine gV ?_;exact zW
 | succ m j=>
  intro i ids r hd b;have k:i<all.length:=o_;rw [Aa k,Bb] at b;have get:=dJ k;generalize all[i]=a at b get;have j:=j (i+1);have t:=aB4 ids a;have h1:=aBg c q l hs g p (gF ids a) o_ _ rfl;have n:chS c l g ids a=if wC c l g (gF ids a)=true then gF ids a else ids:=rfl
  rw [n] at b;cases hp:(ids.any λ x=>x==a) with
  | true=>
   have d:=aK5 ids hd a hp;generalize hz:iv (gF ids a)++Aj (ids.length-(gF ids a).length) (ii 0)=z at d;have f:(z.drop 0).take (gF ids a).length=iv (gF ids a):=by rw [<-hz,Ap,Dm s_,Cn s_]
   refine gV ?_;refine aT λ h=>?_
   repeat' first | (refine gN (hEo [9] []) ?_;conv=>whnf) | refine ⟨i,rfl,?_⟩ | refine ⟨_,get,?_⟩ | refine .pure _ [_] (M9 ids hd) ?_ | exact rfl | refine zt ?_ | refine zu ?_ ?_ | intro h | fail
   refine .eff [] [4,3] _ _ rfl d ?_;refine dF (hEo [9] []) 5 ?_;conv=>whnf
   refine To.cutC [15,8,9,54,55,56] 5 rfl rfl rfl rfl ?_;refine aBh c l g a _ _ (aLq c l g a z _ ids all i) ?_;rw [f];cases e:wC c l g (gF ids a) with
   | true=>
    exact zqra9
   | false=>
    exact zqra5
  | false=>
   have d:=aOk ids hd a hp;have f:iv ids=iv (gF ids a):=by
    have:gF ids a=ids:=Gf.2 λ y s=>by have:=(List.any_eq_false.1 hp) y s;simpa using this
    rw [this]
   refine gV ?_;refine aT λ h=>?_
   repeat' first | (refine gN (hEo [9] []) ?_;conv=>whnf) | refine ⟨i,rfl,?_⟩ | refine ⟨_,get,?_⟩ | refine .pure _ [_] (M9 ids hd) ?_ | exact rfl | refine zt ?_ | refine zu ?_ ?_ | intro h | fail
   refine .eff [] [4,3] _ _ rfl d ?_;refine dF (hEo [9] []) 5 ?_;conv=>whnf
   refine To.cutC [15,8,9,54,55,56] 5 rfl rfl rfl rfl ?_;refine aBh c l g a _ _ (aLr c l g a (iv ids) ids all i) ?_;rw [f];cases e:wC c l g (gF ids a) with
   | true=>
    exact zqra9
   | false=>
    exact zqra5
def chB(c:Con)(l:a6)(g:Gan):Option ax->Option ax
 | none=>none
 | some ids=>some (ids.foldl (chS c l g) ids)
abbrev caF(ids:ax):ar:=[(3,.ref 0 0),(4,.ref 1 0),(5,.ref 2 0),(8,aP8),(9,.slice 1 (iv ids) (.own 3 0))]
def aHi(c:Con)(w:c.sm)(l:a6)(hs:Sm l)(g:Gan)(G:0<=g.pods/\g.pods<=16)(R:Option ax):∀ (f:Nat) (ids:ax),(aH l ids).length<f->ids.length+(aH l ids).length<=l.length->chB c l g (chA c l g f ids)=R->
  To (Eo [9] []) fCh (.pure (.ret (chR R))) (.head (stk fCh 0) (caF ids) (chO c l g++[.tail 0 1 3])):=by
 have hl:=hs.1;intro f;induction f with
 | zero=>intro ids h;omega
 | succ f K=>
  intro ids M I m;have H:(iv ids).length=ids.length:=by simp
  have h1:=aBg c w l hs g G ids o_ _ rfl;have v:=sQ l hs ids o_;have hsl:=sP hs ids;have i:=SG c w (aH l ids) hsl.1;have j:=aE0 (aH l ids) hsl;have a:=aJ6 c (ofL c (aH l ids)) (jL (aH l ids)) (aEZ hsl).1;have z:bA (λ x=>fE c (ofL c (aH l ids)) x.g.ten) (jL (aH l ids)) 0=atI c l ids:=rfl;rw [z] at a;unfold chA at m;cases u:wC c l g ids with
  | true=>
   rw [if_pos u] at m;rw [u] at h1;have m:some (ids.foldl (chS c l g) ids)=R:=m;subst m;have L:=DN ids o_;have next:=aHh c w l hs g G ids o_ _ ids.length 0 ids o_ o_ rfl
   refine gV ?_;exact zW
  | false=>
   rw [if_neg (by rw [u];decide)] at m;rw [u] at h1;have b:aAg c l ids=if atI c l ids<0 then none else some (bB (jL (aH l ids)) (atI c l ids).toNat).g.id:=rfl
   have s:=λ n=>LO (c:=c) (l:=l) (ids:=ids) (n:=n);by_cases d:atI c l ids<0
   .rw [if_pos d] at b;rw [b] at m;have m:none=R:=m;subst m;generalize atI c l ids=q at a d;generalize ofL c (aH l ids)=us at i a;generalize jL (aH l ids)=o at j a;generalize aH l ids=left at v i j;refine gV ?_
    repeat' first | (refine gN (hEo [9] []) ?_;conv=>whnf) | refine .eff [] [0,1,2] _ _ rfl h1 ?_ | refine .pure _ [] v ?_ | refine .pure _ [] i ?_ | refine .pure _ [] j ?_ | refine .eff [] [0,4] _ _ rfl a ?_ | exact rfl | refine zt ?_ | refine zu ?_ ?_ | intro h | fail
   .rw [if_neg d] at b;obtain ⟨k,r,C⟩:∃ k:Nat,k<(jL (aH l ids)).length/\atI c l ids=(k:Int):=by
     rcases IN (λ x=>fE c (ofL c (aH l ids)) x.g.ten) (jL (aH l ids)) 0 with h | ⟨k,h1,J,_⟩
     .exact absurd (show atI c l ids<0 from by unfold atI;rw [h];decide) d
     .exact ⟨k,h1,by unfold atI;rw [J];simp⟩
    rw [C] at b a;rw [Br] at b;have get:=jX r;have D:=s _ b;obtain ⟨y,B,A,_⟩:=D;have F:=NM ⟨y,B,A⟩;rw [b] at m;generalize bB (jL (aH l ids)) k=x at get m F;have next:=K (ids++[x.g.id]) o_ q_ m
    have e:iv (ids++[x.g.id])=iv ids++[ii x.g.id]:=by simp
    unfold caF at next
    rw [e] at next
    have p:=HM (aH l ids);generalize ofL c (aH l ids)=us at i a;generalize jL (aH l ids)=o at j a get r p;generalize aH l ids=left at v i j I p;refine gV ?_
    repeat' first | (refine gN (hEo [9] []) ?_;conv=>whnf) | refine .eff [] [0,1,2] _ _ rfl h1 ?_ | refine .pure _ [] v ?_ | refine .pure _ [] i ?_ | refine .pure _ [] j ?_ | refine .eff [] [0,4] _ _ rfl a ?_ | refine ⟨k,rfl,?_⟩ | refine ⟨_,get,?_⟩ | refine ⟨⟨by simp only [maxLen];simp;omega,by simp;omega⟩,?_⟩ | exact rfl | refine zt ?_ | refine zu ?_ ?_ | intro h | fail
    exact zW
def iK(l:a6):aH l []=l:=Gf.2 λ x _=>rfl
def YH(c:Con)(e:c.sm)(l:a6)(hs:Sm l)(g:Gan)(h:0<=g.pods/\g.pods<=16)(R:Option ax)(a:gM c l g=R):aq 113 [c.av,.slice 14 (rav l) .no,g.av] [] (.ret (chR R)) []:=by
 have i:=SG c e l hs.1;have hd:=X0 g;have d:=aBo c (ofL c l) g.ten (dem g);unfold gM at a;cases b:wR c (ofL c l) g.ten (dem g) with
 | false=>
  rw [if_neg (by rw [b];decide)] at a;rw [b] at d;subst a;exact zqra6
 | true=>
  rw [if_pos b] at a;rw [b] at d;have next:=aHi c e l hs g h R (l.length+1) [] (by rw [iK];omega) (by rw [iK];simp) (by rw [<-a];unfold chB;split<;>rfl)
  exact zqra6
def aCQ(c:Con)(b:c.sm)(l:a6)(hs:Sm l)(g:Gan)(a:0<=g.pods/\g.pods<=16):aq 113 [c.av,.slice 14 (rav l) .no,g.av] [] (.ret (chR (gM c l g))) []:=YH c b l hs g a _ rfl
def V3.le(a b:V3):Prop:=a.a<=b.a/\a.b<=b.b/\a.c<=b.c
def V3.farB(a:V3):Prop:=(0<=a.a/\a.a<=1099511627776)/\(0<=a.b/\a.b<=1099511627776)/\(0<=a.c/\a.c<=1099511627776)
def xP{a b d:Int}(h:a<=b):lR a d<=lR b d:=by unfold lR iB;omega
def F1{a d:Int}(b:0<=a)(h1:a<=1099511627776)(hd:0<=d):a<=lR a d:=by unfold lR iB;omega
def QC{a d:Int}(b:0<=a)(hd:0<=d):0<=lR a d/\lR a d<=1099511627776:=by unfold lR iB;omega
def K5{a b:V3}(d:V3)(h:a.le b):(fK a d).le (fK b d):=⟨xP h.1,xP h.2.1,xP h.2.2⟩
def V3.pos(d:V3):Prop:=0<=d.a/\0<=d.b/\0<=d.c
def aHZ{a d:V3}(h:a.farB)(hd:d.pos):a.le (fK a d):=⟨F1 h.1.1 h.1.2 hd.1,F1 h.2.1.1 h.2.1.2 hd.2.1,F1 h.2.2.1 h.2.2.2 hd.2.2⟩
def aDi{a d:V3}(h:a.farB)(hd:d.pos):(fK a d).farB:=⟨QC h.1.1 hd.1,QC h.2.1.1 hd.2.1,QC h.2.2.1 hd.2.2⟩
def V3.le.trans{a b c:V3}(h:a.le b)(k:b.le c):a.le c:=⟨Ds h.1 k.1,Ds h.2.1 k.2.1,Ds h.2.2 k.2.2⟩
def jO{a b:V3}:dC a b=true↔a.le b:=by
 obtain ⟨d,e,f⟩:=a;obtain ⟨h,i,g⟩:=b;unfold dC V3.le;by_cases h1:h<d
 .first | (simp [h1];done) | (simp [h1];omega)
 by_cases c:i<e
 .first | (simp [h1,c];done) | (simp [h1,c];omega)
 by_cases h3:g<f
 .first | (simp [h1,c,h3];done) | (simp [h1,c,h3];omega)
 first | (simp [h1,c,h3];done) | (simp [h1,c,h3];omega)
def sR(c:Con)(j:Nat)(v:V3)(x:Rn):V3:=if bL c.ns x.g.ten=true/\(j:Int)∈upL c.ns x.g.ten then fK v (dem x.g) else v
def NG(v:V3)(j:Nat):∀ (ks:ax) (xs:a8),ks.Nodup->(∀ k∈ks,0<=k)->(ks.foldl (KT v) xs)[j]? =if (j:Int)∈ks then (xs[j]?).map λ x=>fK x v else xs[j]?
 | [],xs,_,_=>by simp
 | k::r,xs,b,h0=>by
  have b:=Cl.1 b;have d:=h0 k s_;rw [Bb,NG v j r _ b.2 λ x c=>h0 x (by simp [c]),sK];by_cases h1:(j:Int)=k
  .have a:(j:Int)∉r:=by rw [h1];exact b.1
   rw [if_neg a,if_pos o_,if_pos (by simp [h1])]
  .have e:(j:Int)∈k::r↔(j:Int)∈r:=by simp [h1]
   by_cases a:(j:Int)∈r
   .rw [if_pos a,if_neg o_,if_pos (e.2 a)]
   .rw [if_neg a,if_neg o_,if_neg (λ h=>a (e.1 h))]
def aEl(c:Con)(xs:a8)(x:Rn)(j:Nat):(VZ c xs x)[j]? =(xs[j]?).map λ v=>sR c j v x:=by
 unfold VZ sR;cases d:bL c.ns x.g.ten with
 | false=>rw [if_neg d_];simp
 | true=>
  rw [if_pos rfl];have a:(gR c.ns x.g.ten).Nodup:=by unfold gR;exact List.pairwise_reverse.2 ((VF c.ns _ _).imp λ h=>by omega)
  have hm:(j:Int)∈gR c.ns x.g.ten↔(j:Int)∈upL c.ns x.g.ten:=Hy;rw [NG _ _ _ _ a λ k b=>(VG _ _ _ _ (Hy.1 b)).1];by_cases h:(j:Int)∈upL c.ns x.g.ten
  .rw [if_pos (hm.2 h)];simp [h]
  .rw [if_neg (λ q=>h (hm.1 q))];simp [h]
def aE7(c:Con)(j:Nat):∀ (l:a6) (xs:a8),(l.foldl (VZ c) xs)[j]? =(xs[j]?).map λ v=>l.foldl (sR c j) v
 | [],xs=>by simp
 | x::r,xs=>by rw [Bb,aE7 c j r,aEl,Option.map_map];rfl
def D7{c:Con}{t:Int}(h:0<=t/\t.toNat<c.ns.length)(l:a6):atV (ofL c l) t=l.foldl (sR c t.toNat) V3.zero:=by unfold atV;rw [if_neg (by rw [decide_eq_false o_];decide),<-aO9];unfold aMQ;rw [aE7,Fe,if_pos h.2];rfl
def AC{c:Con}{j:Nat}(p:Rn->Bool):∀ (l:a6) (a b:V3),(∀ x∈l,(dem x.g).pos)->a.le b->b.farB->((l.filter p).foldl (sR c j) a).le (l.foldl (sR c j) b)/\(l.foldl (sR c j) b).farB
 | [],a,b,_,h,hf=>⟨h,hf⟩
 | x::r,a,b,hd,h,hf=>by
  have f:=hd x s_;have e:(sR c j b x).farB:=by unfold sR;split;exact aDi hf f;exact hf
  rw [Bb,Hg];cases p x with
  | true=>
   rw [if_pos rfl,Bb];refine AC p r _ _ (λ y d=>hd y (by simp [d])) ?_ e;unfold sR;split
   .exact K5 _ h
   .exact h
  | false=>
   rw [if_neg d_];refine AC p r _ _ (λ y d=>hd y (by simp [d])) ?_ e;unfold sR;split
   .exact h.trans (aHZ hf f)
   .exact h
def QF:V3.zero.farB:=by unfold V3.farB V3.zero;decide
def BA(a:V3):a.le a:=⟨Dc _,Dc _,Dc _⟩
def aK4{g:Gan}(a:bH g.need=true)(h:0<=g.pods/\g.pods<=16):(dem g).pos:=by
 unfold bH at a;simp only [Af,decide_eq_true_eq] at a;obtain ⟨⟨⟨b,f⟩,e,i⟩,c,k⟩:=a;have key:∀ x,0<=x->0<=aFk x g.pods:=λ x j=>by have d:0<=iB x 1099511627776*iB g.pods 1048576:=Lh (by unfold iB;omega) (by unfold iB;omega);unfold aFk;generalize iB x 1099511627776*iB g.pods 1048576=q at d;unfold iB;omega
 exact ⟨key _ b,key _ e,key _ c⟩
def Was(c:Con)(l:a6)(n:Int):Prop:=∃ (ids:ax) (x:Rn),x∈l/\x.g.id=n/\fE c (ofL c (aH l ids)) x.g.ten=true
def FP{v:Int}{l:ax}:inB v l=true↔v∈l:=by unfold inB;simp
def mW{l:a6}{ids:ax}{x:Rn}:x∈aH l ids↔x∈l/\x.g.id∉ids:=by unfold aH;rw [Fm];refine and_congr Nq ?_;rw [<-FP];cases inB x.g.id ids<;>simp
def UN{c:Con}{l:a6}{g:Gan}{R:ax}:∀ (f:Nat) (ids:ax),ids.Nodup->(∀ n∈ids,Was c l n)->chA c l g f ids=some R->R.Nodup/\(∀ n∈R,Was c l n)/\wC c l g R=true
 | 0,ids,_,_,h=>by cases h
 | f+1,ids,hn,hw,h=>by
  unfold chA at h;split at h
  .rename_i m;cases h;exact ⟨hn,hw,m⟩
  .split at h
   .cases h
   .rename_i n k;obtain ⟨x,h1,j,h3⟩:=LO k;have hm:=mW.1 h1;refine UN f _ ?_ ?_ h
    .rw [Cd];refine ⟨hn,by simp,λ a d b i e=>?_⟩;simp at i;subst i e;rw [j] at hm;exact hm.2 d
    .intro a d;rcases Bd.1 d with d | d
     .exact hw a d
     .simp at d;subst d;exact ⟨ids,x,hm.1,j,h3⟩
def aLn{c:Con}{l:a6}{g:Gan}(ids:ax)(a:Int)(h:wC c l g ids=true):wC c l g (chS c l g ids a)=true/\(chS c l g ids a).Sublist ids:=by
 have e:chS c l g ids a=if wC c l g (gF ids a)=true then gF ids a else ids:=rfl
 rw [e];cases b:wC c l g (gF ids a) with
 | true=>rw [if_pos rfl];exact ⟨b,Jb⟩
 | false=>rw [if_neg d_];exact ⟨h,Ju _⟩
def aHk{c:Con}{l:a6}{g:Gan}(bs:ax):∀ (ids:ax),wC c l g ids=true->wC c l g (bs.foldl (chS c l g) ids)=true/\(bs.foldl (chS c l g) ids).Sublist ids:=by
 induction bs with
 | nil=>intro ids h;exact ⟨h,Ju _⟩
 | cons a r d=>
  intro ids h;have h1:=aLn ids a h;rw [Bb];generalize chS c l g ids a=q at h1;obtain ⟨b,h3⟩:=d q h1.1;exact ⟨b,h3.trans h1.2⟩
def choose_spec{c:Con}{l:a6}{g:Gan}{R:ax}(h:gM c l g=some R):wR c (ofL c l) g.ten (dem g)=true/\R.Nodup/\(∀ n∈R,Was c l n)/\wC c l g R=true:=by
 unfold gM at h;split at h
 .rename_i b;split at h
  .cases h
  .rename_i ids e;cases h;obtain ⟨h1,d,h3⟩:=UN _ [] s_ s_ e;obtain ⟨f,a⟩:=aHk ids ids h3;exact ⟨b,a.nodup h1,λ n i=>d n (a.subset i),f⟩
 .cases h
def NH(l:a6):Prop:=l.Pairwise λ a b=>a.g.id≠b.g.id/\a.seq≠b.seq
def DZ{a:Int}:∀ {q:a6},q.Pairwise (λ x y=>x.g.id≠y.g.id)->(∃ x∈q,x.g.id=a)->(q.filter λ y=>!(y.g.id==a)).length+1=q.length
 | [],_,h=>by obtain ⟨x,b,_⟩:=h;cases b
 | y::r,hp,h=>by
  have hp:=Ck.1 hp;rw [Hg];by_cases c:y.g.id=a
  .have e:(r.filter λ y=>!(y.g.id==a))=r:=Gf.2 λ z hz=>by
    have:=hp.1 z hz;rw [c] at this;have:(z.g.id==a)=false:=by simpa using λ e=>this e.symm
    rw [this];rfl
   rw [if_neg (by simp [c]),e];simp
  .obtain ⟨x,b,d⟩:=h;have b:x∈r:=by
    rcases Aw.1 b with rfl | b
    .exact absurd d c
    .exact b
   have:=DZ hp.2 ⟨x,b,d⟩;rw [if_pos (by simp [c])];simp only [Ak];omega
def NN(l:a6)(a:Int)(r:ax):aH l (a::r)=(aH l r).filter λ x=>!(x.g.id==a):=by unfold aH;rw [List.filter_filter];refine Lq λ x _=>?_;unfold inB;rw [Hq];cases (r.any λ y=>x.g.id==y)<;>cases (x.g.id==a)<;>rfl
def DX{l:a6}(d:NH l):∀ {ids:ax},ids.Nodup->(∀ n∈ids,∃ x∈l,x.g.id=n)->(aH l ids).length+ids.length=l.length
 | [],_,_=>by rw [iK];simp
 | a::r,b,hm=>by have b:=Cl.1 b;have f:=DX d b.2 λ n h=>hm n (by simp [h]);obtain ⟨x,e,c⟩:=hm a s_;have hp:(aH l r).Pairwise λ x y=>x.g.id≠y.g.id:=(d.sublist Jb).imp λ h=>h.1;have:=DZ (a:=a) hp ⟨x,mW.2 ⟨e,by rw [c];exact b.1⟩,c⟩;rw [NN];simp only [Ak];omega
def aJe{l:a6}(d:NH l){x y:Rn}(e:x∈l)(c:y∈l)(h:x.g.id=y.g.id):x=y:=by
 obtain ⟨i,a,rfl⟩:=Ja e;obtain ⟨j,b,rfl⟩:=Ja c;have hp:=Gj.1 d;rcases Nat.lt_trichotomy i j with h1 | rfl | h1
 .exact absurd h (hp i j a b h1).1
 .rfl
 .exact absurd h.symm (hp j i b a h1).1
def LeR(a b:Rn):Prop:=jM b a=false
def aJK{a b:Rn}:LeR a b↔b.st<a.st\/(b.st=a.st/\b.seq<=a.seq):=by
 unfold LeR;have h:=WT (a:=b) (b:=a);cases c:jM b a with
 | true=>
  have:=h.1 c;constructor
  .intro h;cases h
  .intro d;omega
 | false=>
  have:¬ (a.st<b.st\/(a.st=b.st/\a.seq<b.seq)):=λ q=>by rw [h.2 q] at c;cases c
  constructor
  .intro _;omega
  .intro _;rfl
def LeR.trans{a b c:Rn}(h:LeR a b)(k:LeR b c):LeR a c:=by rw [aJK] at *;omega
def aLo{c:Con}{l:a6}{g:Gan}{R:ax}(e:NH l)(h:gM c l g=some R):R.length<=l.length:=by
 obtain ⟨_,b,a,_⟩:=choose_spec h;have:=DX e b λ n f=>by obtain ⟨_,x,h1,d,_⟩:=a n f;exact ⟨x,h1,d⟩
 omega
abbrev cD:Int:=1099511627776
def pF{v e:Int}(a:0<=v)(h1:v<=cD)(b:0<=e):lR v e=min (v+e) cD:=by unfold lR iB cD at *;omega
def cI:ax->Int
 | []=>0
 | x::r=>x+cI r
def kS:∀ {es:ax},(∀ e∈es,0<=e)->0<=cI es
 | [],_=>Dc _
 | x::r,h=>by have:=kS (es:=r) λ e a=>h e (by simp [a]);have:=h x s_;unfold cI;omega
def rK:∀ {es:ax} {v:Int},0<=v->v<=cD->(∀ e∈es,0<=e)->es.foldl lR v=min (v+cI es) cD
 | [],v,h0,h1,_=>by
  unfold cI;show v=_;omega
 | x::r,v,h0,h1,h=>by have b:=h x s_;have c:=kS (es:=r) λ e a=>h e (by simp [a]);rw [Bb,pF h0 h1 b,rK (by unfold cD at *;omega) o_ λ e a=>h e (by simp [a])];have e:cI (x::r)=x+cI r:=rfl;rw [e];omega
structure Prj(p:V3->Int):Prop where
 add:∀ u v,p (fK u v)=lR (p u) (p v)
 sub:∀ u v,p (J4 u v)=sT (p u) (p v)
 pos:∀ u,p (aM3 u)=max (p u) 0
 zero:p V3.zero=0
def aEM:Prj V3.a:=⟨λ_ _=>rfl,λ_ _=>rfl,λ_=>rfl,rfl⟩
def aEL:Prj V3.b:=⟨λ_ _=>rfl,λ_ _=>rfl,λ_=>rfl,rfl⟩
def aEK:Prj V3.c:=⟨λ_ _=>rfl,λ_ _=>rfl,λ_=>rfl,rfl⟩
section
variable {p:V3->Int} (hp:Prj p)
include hp
def FE(us:a8):∀ (B:ax) (v:V3),p (B.foldl (smS us) v)=(B.map λ t=>p (atV us t)).foldl lR (p v)
 | [],v=>rfl
 | t::r,v=>by rw [Bb,FE us r,Bj,Bb];congr 1;exact hp.add _ _
def kE(ns:bc)(p:V3->Int)(us:a8)(t s:Int):Int:=if s=t then 0 else max (sT (p (J4 (cZ ns s).n (cZ ns s).l)) (p (atV us s))) 0
def O4(ns:bc)(us:a8)(t:Int):∀ (B:ax) (v:V3),0<=p v->p v<=cD->p (B.foldl (L4 ns us t) v)=(B.map (kE ns p us t)).foldl lR (p v)
 | [],v,_,_=>rfl
 | s::r,v,h0,h1=>by
  rw [Bb,Bj,Bb];have e:p (L4 ns us t v s)=lR (p v) (kE ns p us t s):=by
   unfold L4 kE;by_cases h:s=t
   .rw [if_pos (decide_eq_true h),if_pos h,pF h0 h1 (Dc _)];omega
   .rw [if_neg (by rw [decide_eq_false h];decide),if_neg h,hp.add,hp.pos,hp.sub]
  have b:0<=kE ns p us t s:=by unfold kE;split<;>omega
  have a:0<=lR (p v) (kE ns p us t s)/\lR (p v) (kE ns p us t s)<=cD:=by
   rw [pF h0 h1 b];unfold cD at *
   omega
  rw [O4 ns us t r _ (by rw [e];exact a.1) (by rw [e];exact a.2),e]
end
def aJg(c:Con)(l:a6):(ofL c l).length=c.ns.length:=by unfold ofL pJ;simp
def aAd{c:Con}{l:a6}(hd:∀ x∈l,(dem x.g).pos)(q:Rn->Bool)(s:Int):(0<=(atV (ofL c (l.filter q)) s).a/\0<=(atV (ofL c (l.filter q)) s).b/\0<=(atV (ofL c (l.filter q)) s).c)/\(atV (ofL c (l.filter q)) s).le (atV (ofL c l) s)/\((atV (ofL c l) s).a<=cD/\(atV (ofL c l) s).b<=cD/\(atV (ofL c l) s).c<=cD):=by
 by_cases hs:0<=s/\s.toNat<c.ns.length
 .rw [D7 hs,D7 hs];obtain ⟨h1,d⟩:=AC (c:=c) (j:=s.toNat) q l V3.zero V3.zero hd (BA _) QF;have h3:=(AC (c:=c) (j:=s.toNat) (λ_=>true) (l.filter q) V3.zero V3.zero (λ x f=>hd x (Fm.1 f).1) (BA _) QF).2;exact ⟨⟨h3.1.1,h3.2.1.1,h3.2.2.1⟩,h1,d.1.2,d.2.1.2,d.2.2.2⟩
 .have z:∀ l,atV (ofL c l) s=V3.zero:=λ l=>by
   unfold atV;by_cases e:s<0
   .rw [if_pos (decide_eq_true e)]
   .rw [if_neg (by rw [decide_eq_false e];decide),Bm (by rw [aJg];omega)];rfl
  rw [z,z];exact ⟨by decide,BA _,by decide⟩
def sA(need:V3)(xs:a8)(h:Int)(j:Nat):((lS need xs h)[j]?).getD V3.zero=if 0<=h/\h.toNat<xs.length/\h.toNat=j then J4 ((xs[j]?).getD V3.zero) need else (xs[j]?).getD V3.zero:=by
 unfold lS;by_cases h1:0<=h
 .rw [if_pos (decide_eq_true h1)];by_cases a:h<(xs.length:Int)
  .rw [if_pos (decide_eq_true a),Ho];by_cases h3:h.toNat=j
   .rw [if_pos h3,if_pos o_,if_pos ⟨h1,by omega,h3⟩,h3];rfl
   .rw [if_neg h3,if_neg (λ q=>h3 q.2.2)]
  .rw [if_neg (by rw [decide_eq_false a];decide),if_neg (λ q=>by omega)]
 .rw [if_neg (by rw [decide_eq_false h1];decide),if_neg (λ q=>h1 q.1)]
def wiS(h:Int)(b:Bool)(y:Int):Bool:=if b=true then true else decide (y=h)
def KZ(G hs:ax):Bool:=hs.all λ h=>G.foldl (wiS h) false
def aOn(h n y:Int):Int:=if y=h then n+1 else n
def E4(h:Int)(l:ax):Int:=l.foldl (aOn h) 0
def aGj(free:a8)(need:V3)(hs:ax)(h:Int):Bool:=if decide (h<0)=true then false else if decide ((free.length:Int)<=h)=true then false else !decide (dN ((free[h.toNat]?).getD V3.zero) need<E4 h hs)
def IL(free:a8)(need:V3)(hs:ax):Bool:=hs.all (aGj free need hs)
def chkG(free:a8)(need:V3)(hs:ax)(G:ax):Bool:=KZ G hs&&IL free need hs
def uQ(c:Con)(free:a8)(g:Gan)(hs:ax):Bool:=if ((hs.length:Int)=g.pods) then (gpL c g.lev).any (chkG free g.need hs) else false
def QB{c:Con}{lv a b:Int}(d:0<=lv)(h3:lv<=3):alB c lv a b=true↔uL c lv a=uL c lv b:=by rw [QA c lv a b d h3];simp
def aEn{c:Con}{lv a b:Int}(d:0<=lv)(h3:lv<=3)(h:uL c lv a=uL c lv b):∀ (s:List ax) (n:Nat),dS c lv a s n=dS c lv b s n
 | [],n=>rfl
 | g::r,n=>by unfold dS;rw [aEn d h3 h r (n+1),QA c lv _ a d h3,QA c lv _ b d h3,h]
def aEm(c:Con)(lv i x:Int):∀ (s:List ax) (k n:Nat),(∀ g∈s,g≠[])->dS c lv i (s.set k ((s[k]?).getD []++[x])) n=dS c lv i s n
 | [],k,n,_=>by simp
 | g::r,0,n,h=>by
  have b:=h g (Ao ..);cases g with
  | nil=>exact absurd rfl b
  | cons a t=>rfl
 | g::r,k+1,n,h=>by have d:=aEm c lv i x r k (n+1) (λ g b=>h g (Av _ b));show dS c lv i (g::r.set k ((r[k]?).getD []++[x])) n=_;unfold dS;rw [d]
def ZZ(c:Con)(lv i:Int)(g:ax):∀ (s:List ax) (n:Nat),dS c lv i (s++[g]) n=match dS c lv i s n with
   | some k=>some k
   | none=>if alB c lv (g.headD 0) i=true then some (n+s.length) else none
 | [],n=>by simp [dS]
 | q::r,n=>by
  show dS c lv i (q::(r++[g])) n=_;unfold dS;by_cases h:alB c lv (q.headD 0) i=true
  .rw [if_pos h,if_pos h]
  .rw [if_neg h,if_neg h,ZZ c lv i g r (n+1)];rw [show n+(q::r).length=n+1+r.length from by simp;omega]
def ZY{c:Con}{lv i:Int}:∀ {s:List ax} {n k:Nat},dS c lv i s n=some k->n<=k/\∃ G,s[k-n]? =some G/\alB c lv (G.headD 0) i=true
 | [],n,k,h=>by cases h
 | g::r,n,k,h=>by
  unfold dS at h;by_cases h1:alB c lv (g.headD 0) i=true
  .rw [if_pos h1] at h;cases h;exact ⟨Bh _,g,by simp,h1⟩
  .rw [if_neg h1] at h;obtain ⟨b,G,h3,a⟩:=ZY h;refine ⟨by omega,G,?_,a⟩;rw [show k-n=(k-(n+1))+1 from by omega];exact h3
def aLL(c:Con)(lv:Int)(m:Nat)(s:List ax):Prop:=
 (∀ a:Nat,a<m->∃ k G,dS c lv (a:Int) s 0=some k/\s[k]? =some G/\(a:Int)∈G)/\∀ G∈s,G≠[]/\G.Nodup/\∀ x∈G,0<=x/\x<(m:Int)/\alB c lv (G.headD 0) x=true
def aFW{c:Con}{lv:Int}(F:0<=lv)(h3:lv<=3){m:Nat}{s:List ax}(h:aLL c lv m s):aLL c lv (m+1) (rgS c lv s m):=by
 obtain ⟨h1,v⟩:=h;have B:∀ g∈s,g≠[]:=λ g J=>(v g J).1;unfold rgS;cases C:dS c lv (m:Int) s 0 with
 | some k=>
  obtain ⟨_,j,e,A⟩:=ZY C;rw [Iz] at e;have I:k<s.length:=(Ad.1 e).1;have r:j∈s:=Az e;refine ⟨λ a K=>?_,λ G d=>?_⟩
  .show ∃ i G,dS c lv (a:Int) (s.set k ((s[k]?).getD []++[(m:Int)])) 0=some i/\(s.set k ((s[k]?).getD []++[(m:Int)]))[i]? =some G/\(a:Int)∈G;rw [aEm c lv (a:Int) (m:Int) s k 0 B,e];by_cases l:a=m
   .subst l;refine ⟨k,_,C,by rw [Ay I],by simp⟩
   .obtain ⟨i,z,u,n,w⟩:=h1 a o_;by_cases q:k=i
    .subst q;rw [e] at n;cases n;exact ⟨k,j++[(m:Int)],u,by rw [Ay I];rfl,Bd.2 (.inl w)⟩
    .exact ⟨i,z,u,by rw [Bf q];exact n,w⟩
  .have d:G∈s.set k ((s[k]?).getD []++[(m:Int)]):=d;rw [e] at d;have d:G∈s.set k (j++[(m:Int)]):=d;rcases Dq d with d | rfl
   .exact zqra4
   .obtain ⟨o,p,f⟩:=v j r;have D:(j++[(m:Int)]).headD 0=j.headD 0:=by
     cases j with
     | nil=>exact absurd rfl o
     | cons y t=>rfl
    refine ⟨by simp,?_,λ x b=>?_⟩
    .rw [Cd];refine ⟨p,by simp,λ x b y H=>?_⟩;simp at H;subst H;have:=(f x b).2.1;omega
    .rw [D];rcases Bd.1 b with b | b
     .exact ⟨(f x b).1,by have:=(f x b).2.1;omega,(f x b).2.2⟩
     .simp at b;subst b;exact ⟨by omega,by omega,A⟩
 | none=>
  refine ⟨λ a K=>?_,λ G d=>?_⟩
  .show ∃ i G,dS c lv (a:Int) (s++[[(m:Int)]]) 0=some i/\(s++[[(m:Int)]])[i]? =some G/\(a:Int)∈G;rw [ZZ];by_cases l:a=m
   .subst l;rw [C];refine ⟨0+s.length,[(a:Int)],if_pos ((QB F h3).2 rfl),by simp,by simp⟩
   .obtain ⟨i,z,u,n,w⟩:=h1 a o_;rw [u];refine ⟨i,z,rfl,?_,w⟩;rw [Ah (Ad.1 n).1];exact n
  .have d:G∈s++[[(m:Int)]]:=d;rcases Bd.1 d with d | d
   .exact zqra4
   .simp at d;subst d;refine ⟨by simp,by simp,λ x b=>?_⟩;simp at b;subst b;exact ⟨by omega,by omega,(QB F h3).2 rfl⟩
def PC{c:Con}{lv:Int}(b:0<=lv)(h3:lv<=3):aLL c lv c.hs.length (gpL c lv):=by
 rw [<-aMV];unfold rgL;rw [if_neg q_,if_neg q_];have key:∀ m:Nat,aLL c lv m ((Du m).foldl (rgS c lv) []):=λ m=>by
  induction m with
  | zero=>exact ⟨λ a f=>by omega,λ G d=>by cases d⟩
  | succ m e=>
   rw [Mr,Jt];exact aFW b h3 e
 exact key _
def aNv{c:Con}{lv e a b:Int}(h:lv<=e)(f:uL c lv a=uL c lv b):uL c e a=uL c e b:=by
 unfold uL ofK at *
 simp only [La,and_true] at f⊢;obtain ⟨i,g,j,k⟩:=f;refine ⟨i,?_,?_,?_⟩
 .by_cases d:2<e
  .simp [d]
  .have:¬ 2<lv:=o_;simpa [d,this] using g
 .by_cases d:1<e
  .simp [d]
  .have:¬ 1<lv:=o_;simpa [d,this] using j
 .by_cases d:0<e
  .simp [d]
  .have:¬ 0<lv:=o_;simpa [d,this] using k
def aNI{c:Con}{lv e:Int}(d:0<=lv)(h:lv<=e)(h3:e<=3){a:ax}(n:a∈gpL c lv):a.Nodup/\∃ G∈gpL c e,∀ x∈a,x∈G:=by
 obtain ⟨_,r⟩:=PC (c:=c) d (Ds h h3);obtain ⟨j,_⟩:=PC (c:=c) (Ds d h) h3;obtain ⟨z,q,i⟩:=r a n;refine ⟨q,?_⟩;have w:a.headD 0∈a:=by
  cases a with
  | nil=>exact absurd rfl z
  | cons y t=>exact Ao ..
 obtain ⟨D,F,_⟩:=i _ w;have u:(a.headD 0)=((a.headD 0).toNat:Int):=o_;obtain ⟨k,G,b,f,_⟩:=j (a.headD 0).toNat o_;rw [<-u] at b;refine ⟨G,Az f,λ x p=>?_⟩;obtain ⟨H,C,v⟩:=i x p;have s:=aNv h ((QB d (Ds h h3)).1 v);rw [aEn (Ds d h) h3 s] at b;have g:x=(x.toNat:Int):=o_;obtain ⟨B,A,l,o,m⟩:=j x.toNat o_;rw [<-g] at l m;rw [l] at b;cases b;rw [o] at f;cases f;exact m
def WZ{free:a8}{g:Gan}:∀ (b out:ax) (h:Int),h∈b.foldl (inS free g) out->h∈out\/(h∈b/\0<=h/\h<(free.length:Int))
 | [],out,h,a=>.inl a
 | u::r,out,h,a=>by
  rw [Bb] at a;rcases WZ r _ h a with a | a
  .unfold inS at a;by_cases h1:u<0
   .rw [if_pos (decide_eq_true h1)] at a;exact .inl a
   .rw [if_neg (by rw [decide_eq_false h1];decide)] at a;by_cases c:(free.length:Int)<=u
    .rw [if_pos (decide_eq_true c)] at a;exact .inl a
    .rw [if_neg (by rw [decide_eq_false c];decide)] at a;rcases Bd.1 a with a | a
     .exact .inl a
     .have:=(Gn.1 a).2;subst this;exact .inr ⟨Ao ..,by omega,by omega⟩
  .exact .inr ⟨Av _ a.1,a.2⟩
def rmN(free:a8)(g:Gan)(h:Int):Nat:=(max (dN ((free[h.toNat]?).getD V3.zero) g.need) 0).toNat
def aJ3(free:a8)(g:Gan)(out:ax)(u h:Int):(inS free g out u).count h<=out.count h+(if u=h then rmN free g h else 0):=by
 unfold inS;split
 .omega
 .split
  .omega
  .rw [Jm,List.count_replicate];by_cases a:u=h
   .subst a;rw [if_pos rfl];simp only [beq_self_eq_true,if_true];unfold rmN inN;omega
   .rw [if_neg a];simp [a]
def aAy(free:a8)(g:Gan)(h:Int):∀ (a out:ax),a.Nodup->(a.foldl (inS free g) out).count h<=out.count h+(if h∈a then rmN free g h else 0)
 | [],out,_=>by simp
 | u::r,out,hn=>by
  rw [Bb];have h1:=aAy free g h r (inS free g out u) (Cl.1 hn).2;have b:=aJ3 free g out u h;by_cases c:u=h
  .subst c;rw [if_neg (Cl.1 hn).1] at h1;rw [if_pos rfl] at b;rw [if_pos (Ao ..)];omega
  .rw [if_neg c] at b;by_cases hm:h∈r
   .rw [if_pos hm] at h1;rw [if_pos (Av _ hm)];omega
   .rw [if_neg hm] at h1;omega
def DM(h:Int):∀ (l:ax) (n:Int),l.foldl (aOn h) n=n+(l.count h:Nat)
 | [],n=>by simp
 | y::r,n=>by
  rw [Bb,DM h r];unfold aOn;by_cases a:y=h
  .subst a;rw [if_pos rfl,Ir];omega
  .rw [if_neg a,Mu (by simpa using a)]
def zV{G hs:ax}:KZ G hs=true↔ ∀ h∈hs,h∈G:=by
 have key:∀ (h:Int) (G:ax) (b:Bool),G.foldl (wiS h) b=true↔b=true\/h∈G:=λ h G=>by
  induction G with
  | nil=>intro b;simp
  | cons y r c=>
   intro b;rw [Bb,c];unfold wiS;cases b with
   | true=>simp
   | false=>simp [eq_comm]
 unfold KZ;rw [Cb];constructor
 .intro q h a;have:=(key h G false).1 (q h a);simpa using this
 .intro q h a;exact (key h G false).2 (.inr (q h a))
def aGl{c:Con}{free:a8}{g:Gan}(J:bH g.need=true)(I:1<=g.pods)(hl:0<=g.pref/\g.pref<=g.lev/\g.lev<=3){x:Int×ax}(h:BN c free g=some x):
  (∀ u∈x.2,0<=u/\u<(free.length:Int)/\((x.2.count u:Nat):Int)<=dN ((free[u.toNat]?).getD V3.zero) g.need)/\uQ c free g x.2=true:=by
 have j:∀ (s:List ax),fdG c free g s=some x->∃ d∈s,x.2=inL free g d/\¬ ((inL free g d).length:Int)<g.pods:=λ s=>by
  induction s with
  | nil=>intro h;cases h
  | cons d r o=>
   intro h;unfold fdG at h;by_cases h1:((inL free g d).length:Int)<g.pods
   .rw [if_pos (decide_eq_true h1)] at h;obtain ⟨q,w,z⟩:=o h;exact ⟨q,Av _ w,z⟩
   .rw [if_neg (by rw [decide_eq_false h1];decide)] at h;cases h;exact ⟨d,Ao ..,rfl,h1⟩
 have k:∀ (n:Nat) (lv:Int),fdL c free g n lv=some x->∃ f,lv<=f/\f<lv+n/\fdG c free g (gpL c f)=some x:=λ n=>by
  induction n with
  | zero=>intro lv h;cases h
  | succ n o=>
   intro lv h;unfold fdL at h;cases v:fdG c free g (gpL c lv) with
   | some y=>
    rw [v] at h;cases h;exact ⟨lv,Dc _,by omega,v⟩
   | none=>
    rw [v] at h;obtain ⟨f,w,z,B⟩:=o (lv+1) h;exact ⟨f,by omega,by omega,B⟩
 unfold BN at h;obtain ⟨f,l1,l2,H⟩:=k _ _ h;obtain ⟨d,F,t,L⟩:=j _ H;have m:0<=f/\f<=g.lev:=o_;obtain ⟨D,G,C,p⟩:=aNI m.1 m.2 hl.2.2 F;have A:((inL free g d).length:Int)<=g.pods:=by
  have key:∀ (l:ax) (out:ax),(out.length:Int)<=g.pods->((l.foldl (inS free g) out).length:Int)<=g.pods:=λ l=>by
   induction l with
   | nil=>intro out h;exact h
   | cons x r o=>intro out h;exact o _ (FO free g out x h)
  exact key d [] q_
 have b:∀ u∈x.2,u∈d/\0<=u/\u<(free.length:Int):=λ u a=>by
  rw [t] at a;rcases WZ d [] u a with a | a
  .cases a
  .exact a
 have i:∀ u∈x.2,((x.2.count u:Nat):Int)<=dN ((free[u.toNat]?).getD V3.zero) g.need:=λ u a=>by have h1:=aAy free g u d [] D;have K:0<x.2.count u:=Lk.2 a;rw [if_pos (b u a).1,show d.foldl (inS free g) []=x.2 from t.symm] at h1;unfold rmN at h1;simp only [List.count_nil] at h1;omega
 refine ⟨λ u a=>⟨(b u a).2.1,(b u a).2.2,i u a⟩,?_⟩;unfold uQ;rw [if_pos (by rw [t];omega),Ga];refine ⟨G,C,?_⟩;unfold chkG;rw [zV.2 λ u a=>p u (b u a).1,Bw];unfold IL;rw [Cb];intro u a;unfold aGj;rw [if_neg (by have:=(b u a).2.1;simp;omega),if_neg (by have:=(b u a).2.2;simp;omega)];have:=i u a;have e:E4 u x.2=((x.2.count u:Nat):Int):=by unfold E4;rw [DM];omega
 rw [e];simp;omega
def QJ{ns:bc}:∀ (f:Nat) (s x:Int),x∈upF ns f s->x=s\/∃ d∈ns,d.p=x
 | 0,s,x,h=>by cases h
 | f+1,s,x,h=>by
  unfold upF at h;by_cases a:0<=s
  .rw [if_pos (decide_eq_true a)] at h;by_cases h1:s.toNat<ns.length
   .rw [dif_pos h1] at h;by_cases b:s<=(ns[s.toNat]).p
    .rw [if_pos (decide_eq_true b)] at h;simp at h;exact .inl h
    .rw [if_neg (by rw [decide_eq_false b];decide)] at h;rcases Aw.1 h with h | h
     .exact .inl h
     .rcases QJ f _ x h with rfl | h
      .exact .inr ⟨_,Ax h1,rfl⟩
      .exact .inr h
   .rw [dif_neg h1] at h;cases h
  .rw [if_neg (by rw [decide_eq_false a];decide)] at h;cases h
def aB6{ns:bc}{t:Int}(h:bL ns t=true):∀ d∈ns,d.p≠t:=by obtain ⟨a,h1⟩:=A9 h;unfold bL at h;rw [if_pos (decide_eq_true a),if_pos (decide_eq_true o_),JP] at h;intro d hd e;have:(ns.any λ x=>x.p==t)=true:=Ga.2 ⟨d,hd,by simp [e]⟩;rw [this] at h;cases h
def aAm{ns:bc}{t s:Int}(h:bL ns t=true)(hs:t∈upL ns s):t=s:=by
 rcases QJ _ _ _ hs with h1 | ⟨d,hd,e⟩
 .exact h1
 .exact absurd e (aB6 h d hd)
def ZR{ns:bc}{t:Int}(b:0<=t)(h1:t.toNat<ns.length):t∈upL ns t:=by obtain ⟨r,a⟩:=aDn b h1;rw [a];exact Ao ..
def aJJ{ns:bc}{t:Int}(h:bL ns t=true):t∈xE ns:=by
 obtain ⟨e,h1⟩:=A9 h;have key:∀ (m i:Nat),i<=t.toNat->t.toNat<i+m->t∈lvF ns m i:=λ m=>by
  induction m with
  | zero=>intro i a b;omega
  | succ m d=>
   intro i a b;unfold lvF;by_cases c:i=t.toNat
   .subst c;rw [show ((t.toNat:Nat):Int)=t from by omega,if_pos h];exact Ao ..
   .have:=d (i+1) o_ o_;split
    .exact Av _ this
    .exact this
 exact key _ 0 o_ o_
def WS{ns:bc}{t:Int}(h:bL ns t=true):bI ns t=[t]:=by
 obtain ⟨g,h1⟩:=A9 h;have d:=ZR g h1;have c:∀ s:Int,BD ns t s=if s=t then [t] else []:=λ s=>by
  unfold BD;by_cases e:s=t
  .subst e;rw [if_pos d,if_pos rfl]
  .rw [if_neg e,if_neg λ q=>e (aAm h q).symm]
 have lo:∀ (m i:Nat),t.toNat<i->(lvF ns m i).flatMap (BD ns t)=[]:=λ m i f=>by rw [List.flatMap_eq_nil_iff];intro s hs;have:=O0 ns m i s hs;rw [c,if_neg o_]
 have key:∀ (m i:Nat),i<=t.toNat->t.toNat<i+m->(lvF ns m i).flatMap (BD ns t)=[t]:=λ m=>by
  induction m with
  | zero=>intro i a b;omega
  | succ m j=>
   intro i a b;unfold lvF;by_cases f:i=t.toNat
   .subst f;rw [show ((t.toNat:Nat):Int)=t from by omega,if_pos h,Js,lo _ _ o_,c,if_pos rfl];rfl
   .have:=j (i+1) o_ o_;split
    .rw [Js,c,if_neg o_,this];rfl
    .exact this
 exact key _ 0 o_ o_
section
variable {p:V3->Int} (hp:Prj p)
include hp
def uE(c:Con)(p:V3->Int)(j:Int)(x:Rn):Int:=if bL c.ns x.g.ten=true/\j∈upL c.ns x.g.ten then p (dem x.g) else 0
def Y3{c:Con}{j:Nat}:∀ (l:a6) (v:V3),(∀ x∈l,0<=p (dem x.g))->0<=p v->p v<=cD->p (l.foldl (sR c j) v)=min (p v+cI (l.map (uE c p (j:Int)))) cD/\0<=cI (l.map (uE c p (j:Int)))
 | [],v,_,h0,h1=>by
  show p v=min (p v+0) cD/\(0:Int)<=0;omega
 | x::r,v,hd,h0,h1=>by
  rw [Bb,Bj];show _=min (p v+(uE c p (j:Int) x+cI (r.map (uE c p (j:Int))))) cD/\0<=uE c p (j:Int) x+cI (r.map (uE c p (j:Int)));have h:=hd x (Ao ..);have e:p (sR c j v x)=min (p v+uE c p (j:Int) x) cD:=by
   unfold sR uE;by_cases a:bL c.ns x.g.ten=true/\(j:Int)∈upL c.ns x.g.ten
   .rw [if_pos a,if_pos a,hp.add,pF h0 h1 h]
   .rw [if_neg a,if_neg a];omega
  have i:0<=uE c p (j:Int) x:=by unfold uE;split<;>omega
  obtain ⟨f,b⟩:=Y3 r (sR c j v x) (λ y d=>hd y (Av _ d)) (by rw [e];unfold cD;omega) (by rw [e];unfold cD;omega);rw [f,e];unfold cD;omega
omit hp in
def ZJ{α:Type}(f g:α->Int):∀ (l:List α),cI (l.map λ x=>f x+g x)=cI (l.map f)+cI (l.map g)
 | []=>rfl
 | x::r=>by
  rw [Bj,Bj,Bj];show f x+g x+cI _=(f x+cI _)+(g x+cI _)
  rw [ZJ f g r];omega
omit hp in
def ZI{α:Type}(f:α->Int):∀ (l:List α),(∀ y∈l,0<=f y)->∀ x∈l,f x<=cI (l.map f)
 | [],_,x,h=>by cases h
 | y::r,hf,x,h=>by
  rw [Bj];show f x<=f y+cI _;have h1:=kS (es:=r.map f) λ e a=>by obtain ⟨z,hz,rfl⟩:=Ce.1 a;exact hf z (Av _ hz)
  have b:=hf y (Ao ..);rcases Aw.1 h with rfl | h
  .omega
  .have:=ZI f r (λ z hz=>hf z (Av _ hz)) x h;omega
omit hp in
def ZG{α:Type}(f:α->Int):∀ (l:List α),(∀ y∈l,0<=f y)->min (cI (l.map f)) cD<=cI (l.map λ y=>min (f y) cD)/\0<=cI (l.map f)
 | [],_=>by
  show min (0:Int) cD<=0/\(0:Int)<=0;unfold cD;omega
 | y::r,hf=>by
  rw [Bj,Bj];show min (f y+cI _) cD<=min (f y) cD+cI _/\0<=f y+cI _;have c:=hf y (Ao ..);obtain ⟨a,b⟩:=ZG f r λ z hz=>hf z (Av _ hz);unfold cD at *
  omega
omit hp in
def NC{c:Con}{n:Int}:∀ (l:a6),(∀ x∈l,0<=p (dem x.g))->cI (l.map (uE c p n))<=cI ((bI c.ns n).map λ s=>cI (l.map (uE c p s)))
 | [],_=>by
  show 0<=cI ((bI c.ns n).map λ s=>(0:Int));exact kS λ e h=>by
   obtain ⟨z,_,rfl⟩:=Ce.1 h;exact Dc _
 | x::r,hd=>by
  have m:=NC (c:=c) (n:=n) r λ y j=>hd y (Av _ j);have e:cI ((bI c.ns n).map λ s=>cI ((x::r).map (uE c p s)))=cI ((bI c.ns n).map λ s=>uE c p s x)+cI ((bI c.ns n).map λ s=>cI (r.map (uE c p s))):=ZJ _ _ _;rw [e,Bj];show uE c p n x+cI _<=_;have k:=hd x (Ao ..);have b:∀ s∈bI c.ns n,0<=uE c p s x:=λ s _=>by unfold uE;split<;>omega
  have h1:uE c p n x<=cI ((bI c.ns n).map λ s=>uE c p s x):=by
   by_cases a:bL c.ns x.g.ten=true/\n∈upL c.ns x.g.ten
   .have f:x.g.ten∈bI c.ns n:=by unfold bI;rw [List.mem_flatMap];refine ⟨x.g.ten,aJJ a.1,?_⟩;unfold BD;rw [if_pos a.2];simp
    have:=ZI (λ s=>uE c p s x) (bI c.ns n) b _ f;have d:uE c p x.g.ten x=uE c p n x:=by obtain ⟨i,h1⟩:=A9 a.1;unfold uE;rw [if_pos a,if_pos ⟨a.1,ZR i h1⟩]
    rw [<-d];exact this
   .have d:uE c p n x=0:=by unfold uE;rw [if_neg a]
    rw [d];exact kS λ e h=>by obtain ⟨z,hz,rfl⟩:=Ce.1 h;exact b z hz
  omega
def NQ{c:Con}{l:a6}(hd:∀ x∈l,0<=p (dem x.g)){n:Int}(d:c.ok n):p (atV (ofL c l) n)=min (cI (l.map (uE c p n))) cD/\0<=cI (l.map (uE c p n)):=by
 have hz:p V3.zero=0:=hp.zero;obtain ⟨a,b⟩:=Y3 hp (c:=c) (j:=n.toNat) l V3.zero hd (by rw [hz];exact Dc _) (by rw [hz];decide);rw [D7 d,a,hz];have e:((n.toNat:Nat):Int)=n:=by have:=d.1;omega
 rw [e] at b⊢;exact ⟨by omega,b⟩
def aMy{c:Con}{l:a6}(hd:∀ x∈l,0<=p (dem x.g))(n:Int):p (lY c.ns n (ofL c l))=min (cI ((bI c.ns n).map λ s=>min (cI (l.map (uE c p s))) cD)) cD:=by
 have hz:p V3.zero=0:=hp.zero;have e:(bI c.ns n).map (λ t=>p (atV (ofL c l) t))=(bI c.ns n).map λ s=>min (cI (l.map (uE c p s))) cD:=List.map_congr_left λ s hs=>(NQ hp hd (nY c n s hs)).1;unfold lY
 rw [FE hp,e,hz,rK (Dc _) d_ λ e a=>by
  obtain ⟨s,hs,rfl⟩:=Ce.1 a;have:=(NQ hp hd (nY c n s hs)).2;unfold cD
  omega]
 omega
def VC{c:Con}{l:a6}(hd:∀ x∈l,0<=p (dem x.g)){n:Int}(b:c.ok n):p (atV (ofL c l) n)<=p (lY c.ns n (ofL c l))/\0<=p (atV (ofL c l) n)/\p (lY c.ns n (ofL c l))<=cD:=by
 obtain ⟨a,d⟩:=NQ hp hd b;rw [a,aMy hp hd n];have h1:=NC (p:=p) (c:=c) (n:=n) l hd;obtain ⟨e,h3⟩:=ZG (λ s=>cI (l.map (uE c p s))) (bI c.ns n) λ s hs=>(NQ hp hd (nY c n s hs)).2;unfold cD at *
 omega
def aFH(ns:bc)(us:a8)(n t:Int):0<=p (yE ns us n t):=by
 have hz:p V3.zero=0:=hp.zero;have a:∀ e∈(bI ns n).map (kE ns p us t),0<=e:=λ e b=>by obtain ⟨s,_,rfl⟩:=Ce.1 b;unfold kE;split<;>omega
 have c:=kS a;unfold yE;rw [O4 hp _ _ _ _ _ (by rw [hz];exact Dc _) (by rw [hz];decide),hz,rK (Dc _) d_ a];unfold cD;omega
def P8{c:Con}{l:a6}(hd:∀ x∈l,0<=p (dem x.g)){need:V3}(h:0<=p need){n t:Int}(f:c.ok n):p (fK (atV (ofL c l) n) need)<=p (fK (fK (lY c.ns n (ofL c l)) need) (yE c.ns (ofL c l) n t)):=by obtain ⟨h1,j,h3⟩:=VC hp hd f;have e:=aFH hp c.ns (ofL c l) n t;rw [hp.add,hp.add,hp.add];have i:=xP (d:=p need) h1;have b:=QC (a:=p (lY c.ns n (ofL c l))) o_ h;have k:=F1 b.1 b.2 e;omega
end
def DV(x y z:Int):lR (lR (lR 0 x) 0) y=lR x y/\lR (lR 0 x) y=lR x y:=by unfold lR iB;omega
def aBr(x y:V3):fK (fK V3.zero x) y=fK x y:=by unfold fK V3.map2 V3.zero;rw [(DV x.a y.a 0).2,(DV x.b y.b 0).2,(DV x.c y.c 0).2]
def aFc{c:Con}{t:Int}(h:c.ok t):atV (uJ c.ns) t=(cZ c.ns t).n:=by obtain ⟨a,h1⟩:=h;unfold atV uJ;rw [if_neg q_,Bi,Dr h1];show (cZ c.ns ((t.toNat:Nat):Int)).n=_;rw [show ((t.toNat:Nat):Int)=t from by omega]
def aAh(c:Con)(t n:Int):V3:=if n=t then fK (lY c.ns n (uJ c.ns)) (cZ c.ns n).b else lY c.ns n (uJ c.ns)
def RS{c:Con}{l:a6}{x:Rn}(hd:∀ y∈l,(dem y.g).pos)(j:(dem x.g).pos)(h:EX c (ofL c l) x.g.ten (dem x.g)=true):∀ n∈gR c.ns x.g.ten,c.ok n/\dC (atV (ofL c (l++[x])) n) (aAh c x.g.ten n)=true:=by
 intro n i;unfold gR at i;rw [Hy] at i;have a:c.ok n:=NR c _ _ _ i;refine ⟨a,?_⟩;unfold EX at h;by_cases hl:bL c.ns x.g.ten=true
 .rw [if_pos hl,Cb] at h;have b:=h n i;have e:atV (ofL c (l++[x])) n=fK (atV (ofL c l) n) (dem x.g):=by rw [D7 a,D7 a,Jt];show sR c n.toNat _ x=_;unfold sR;rw [if_pos ⟨hl,by rw [show ((n.toNat:Nat):Int)=n from by have:=a.1;omega];exact i⟩]
  rw [e];unfold SU at b;unfold aAh;by_cases d:n=x.g.ten
  .rw [if_pos (decide_eq_true d)] at b;rw [if_pos d];unfold aEW at b;have k:lY c.ns n (uJ c.ns)=fK V3.zero (cZ c.ns n).n:=by unfold lY;rw [WS (by rw [d];exact hl)];show fK V3.zero (atV (uJ c.ns) n)=_;rw [aFc a]
   rw [k,aBr];exact b
  .rw [if_neg (by rw [decide_eq_false d];decide)] at b;rw [if_neg d];unfold aHF at b;rw [jO] at b⊢;exact ⟨Ds (P8 aEM (λ y f=>(hd y f).1) j.1 a) b.1,Ds (P8 aEL (λ y f=>(hd y f).2.1) j.2.1 a) b.2.1,Ds (P8 aEK (λ y f=>(hd y f).2.2) j.2.2 a) b.2.2⟩
 .rw [if_neg hl] at h;cases h
end Go.Proofs.YtidhfoefaomodaaGreatDoor
