/- Part 7 of what the statement rests on. -/
import Derived.Test.YtbpccabomgalhaaGreatDoorHA
set_option linter.all false
set_option maxHeartbeats 1000000
open And renaming intro->Ab
open Bool renaming and_eq_true->Ad,false_eq_true->Cn,false_or->Mv,or_eq_false_iff->Kf,true_and->Dc
open Exists renaming intro->Ao
open Go.World renaming ownsRow_nil->Gy
open Iff renaming rfl->Nh
open Int renaming le_refl->Dd,le_trans->Fe,mul_nonneg->Ky,tdiv->Lt,tdiv_eq_ediv_of_nonneg->La,toNat_natCast->Bn
open List renaming all_cons->Jy,all_eq_true->Ct,any_cons->Gz,any_eq_true->Fj,append_assoc->Ae,append_nil->Au,count_append->Jb,count_cons_of_ne->Ml,count_cons_self->Ib,count_pos_iff->Lb,drop->Hc,drop_drop->Hf,drop_eq_getElem_cons->Ag,drop_eq_nil_of_le->Ai,drop_zero->Cg,ext_getElem?->Ea,filter_cons->Hh,filter_cons_of_neg->Fk,filter_cons_of_pos->Fl,filter_eq_self->Gj,filter_sublist->Kw,flatMap_cons->Jh,foldl_append->Ji,foldl_cons->Ba,getElem?_append_left->Af,getElem?_append_right->Ak,getElem?_drop->Bo,getElem?_eq_getElem->Aa,getElem?_eq_none->Bg,getElem?_eq_some_iff->Ac,getElem?_map->Bh,getElem?_range->Dj,getElem?_replicate->Ei,getElem?_set->Gx,getElem?_set_ne->Ax,getElem?_set_self->Aq,getElem_mem->Bd,getElem_of_mem->Il,length_append->Ah,length_cons->Al,length_filter_le->Hv,length_nil->Br,length_set->Df,map_cons->Bl,map_set->Gk,mem_append->Az,mem_cons->Bc,mem_cons_of_mem->Bb,mem_cons_self->Ar,mem_filter->Fg,mem_map->Bq,mem_of_getElem?->Av,mem_or_eq_of_mem_set->Db,mem_replicate->Fy,mem_reverse->Ij,nodup_append->Cs,nodup_cons->Bx,pairwise_cons->Cr,pairwise_iff_getElem->Fv,prefix_refl->Cl,range->Dr,range_succ->Mh,replicate->Aj,take->Hr,take_add_one->Lg,take_append_drop->Bp,take_append_of_le_length->Cz,take_of_length_le->Cd
open List.Sublist renaming refl->Nb
open List.cons renaming injEq->Ko
open Nat renaming le_refl->Bf,le_trans->Cx,sub_zero->Jj,zero_add->Bw
open Ne renaming symm->Ej
open Or renaming inl->Fq
open Prod renaming fst->Lv
namespace Go.Proofs.YtbpccabomgalhaaGreatDoor
open Go Go.AW Go.Proofs
set_option maxRecDepth 10000
def zqra0{P:Prop}(h:P:=by
 unfold bC at h;by_cases h1:0<=t
 .rw [if_pos (decide_eq_true h1)] at h;by_cases a:t<(ns.length:Int)
  .omega
  .rw [if_neg (by rw [decide_eq_false a];decide)] at h;cases h
 .rw [if_neg (by rw [decide_eq_false h1];decide)] at h
  cases h):P:=h
def zqra1{P:Prop}(h:P:=by
 subst c;refine c_ Tryz.f172 λ_=>?_;have hz1:=λ d=>JC d
 exact zW):P:=h
def zqra2{P:Prop}(h:P:=by exact To.cut [0,2,3,4,5] 4 rfl rfl rfl rfl next):P:=h
def zqra3{P:Prop}(h:P:=by
 rcases c.inv with ⟨e,h⟩ | ⟨e,h⟩
 .subst e;refine gV ?_;exact zW
 .subst e;refine gV ?_
  exact zW):P:=h
def zqra4{P:Prop}(h:P:=by
 obtain ⟨p,o,f⟩:=v G d
 exact ⟨p,o,λ x b=>⟨(f x b).1,by have:=(f x b).2.1;omega,(f x b).2.2⟩⟩):P:=h
def zqra5{P:Prop}(h:P:=by
 rw [if_neg (by rw [e];decide)] at b;rw [e] at h1;have next:=j ids o_ hd b
 exact zW):P:=h
def zqra6{P:Prop}(h:P:=by
 refine cT (E:=(Eo [9] [])) (fn:=Tryz.f136) (g:=.pure _) λ_=>?_
 exact zW):P:=h
def zqra7{P:Prop}(h:P:=by
 refine cT (E:=E) (fn:=Tryz.f179) (g:=.full 3 _ _) λ_=>?_
 exact zW):P:=h
def zqra8{P:Prop}(h:P:=by
 refine cT (E:=E) (fn:=Tryz.f183) (g:=.full 2 _ _) λ_=>?_
 exact zW):P:=h
def zqra9{P:Prop}(h:P:=by
 rw [if_pos e] at b;rw [e] at h1;have next:=j (eW ids a) o_ o_ b
 exact zW):P:=h
def EK(n:Int):∀ (l:bb) (i:Nat),decide (0<=ak n l i)=l.any λ x=>x.p==n
 | [],i=>by simp [ak]
 | x::r,i=>by
  unfold ak;rw [Gz];by_cases h:x.p=n
  .simp [h]
  .have:=EK n r (i+1);simp [h,this]
def PJ(l:bb)(n:Int):(l.all λ x=>!(x.p==n))= !(l.any λ x=>x.p==n):=by
 induction l with
 | nil=>rfl
 | cons x r a=>rw [Jy,Gz,a];cases (x.p==n)<;>simp
def aJ4(ns:bb)(t:Int):rlB ns t=bC ns t:=by
 unfold rlB bC;rw [EK,PJ];generalize (ns.any λ x=>x.p==t)=b;by_cases h1:t<0
 .have a:¬ 0<=t:=o_;simp [h1,a]
 .have h3:0<=t:=o_;by_cases a:(ns.length:Int)<=t
  .have c:¬ t<(ns.length:Int):=o_;simp [h1,h3,a,c]
  .have c:t<(ns.length:Int):=o_;simp [h1,h3,a,c]
def fF(ns:bb)(n:Int):aw:=(upL ns n).reverse
def G5{α β:Type}(f:β->α->β)(a:∀ b x y,f (f b x) y=f (f b y) x):∀ (l:List α) (b:β),l.reverse.foldl f b=l.foldl f b
 | [],b=>rfl
 | x::r,b=>by
  have h:∀ (l:List α) (b:β),l.foldl f (f b x)=f (l.foldl f b) x:=λ l=>by
   induction l with
   | nil=>intro b;rfl
   | cons y r c=>intro b;rw [Ba,Ba,a,c]
  rw [List.reverse_cons,Ji,G5 f a r b];show f (r.foldl f b) x=r.foldl f (f b x);rw [h]
def FF(v:V3)(xs:a8)(k:Int):a8:=xs.set k.toNat (fP ((xs[k.toNat]?).getD V3.zero) v)
def oP(v:V3)(xs:a8)(k:Int)(j:Nat):(FF v xs k)[j]? =if k.toNat=j then (xs[j]?).map λ x=>fP x v else xs[j]?:=by
 unfold FF;rw [Gx];by_cases h:k.toNat=j
 .subst h;rw [if_pos rfl,if_pos rfl];by_cases a:k.toNat<xs.length
  .rw [if_pos a,Aa a];rfl
  .rw [if_neg a,Bg o_];rfl
 .rw [if_neg h,if_neg h]
def Z9(v:V3)(xs:a8)(a b:Int):FF v (FF v xs a) b=FF v (FF v xs b) a:=by refine Ea λ j=>?_;rw [oP,oP,oP,oP];by_cases h1:a.toNat=j<;>by_cases c:b.toNat=j<;>simp [h1,c]
def QB(c:Con)(xs:a8)(x:Rn):a8:=if bC c.ns x.g.ten=true then (fF c.ns x.g.ten).foldl (FF (dem x.g)) xs else xs
def aJ1(c:Con)(l:a6):a8:=l.foldl (QB c) (Aj c.ns.length V3.zero)
def qR(L:Led):Prop:=(L.map Lv).Nodup
def GD(n:Int)(v:V3):∀ (L:Led) (k:Int),k∈(xV L n v).map Lv->k=n\/k∈L.map Lv
 | [],k,h=>by simp [xV] at h;exact .inl h
 | (j,w)::r,k,h=>by
  unfold xV at h;split at h
  .rename_i a;simp only [Bl,Bc] at h⊢;rcases h with rfl | h
   .exact .inl rfl
   .exact .inr (.inr h)
  .simp only [Bl,Bc] at h⊢;rcases h with rfl | h
   .exact .inr (.inl rfl)
   .rcases GD n v r k h with h | h
    .exact .inl h
    .exact .inr (.inr h)
def aCw(n:Int)(v:V3):∀ (L:Led),qR L->qR (xV L n v)
 | [],_=>by simp [xV,qR]
 | (j,w)::r,h=>by
  have h1:=(Bx.1 h)
  unfold xV;split
  .rename_i a;subst a;exact h
  .rename_i a;refine Bx.2 ⟨λ hm=>?_,aCw n v r h1.2⟩;rcases GD n v r _ hm with h | h
   .exact a h
   .exact h1.1 h
def GF(n:Int):∀ (L:Led) (k:Int),k∈(DB L n).map Lv->k∈L.map Lv
 | [],k,h=>h
 | (j,w)::r,k,h=>by
  unfold DB at h;simp only [Bl,Bc];split at h
  .exact .inr h
  .simp only [Bl,Bc] at h;rcases h with h | h
   .exact .inl h
   .exact .inr (GF n r k h)
def aCD(n:Int):∀ (L:Led),qR L->qR (DB L n)
 | [],h=>h
 | (j,w)::r,h=>by
  have h1:=(Bx.1 h)
  unfold DB;split
  .exact h1.2
  .exact Bx.2 ⟨λ hm=>h1.1 (GF n r _ hm),aCD n r h1.2⟩
def NI:∀ (L:Led) (n:Int),n∉L.map Lv->iJ L n=none
 | [],n,h=>rfl
 | (j,w)::r,n,h=>by simp only [Bl,Bc,not_or] at h;unfold iJ;rw [if_neg (λ e=>h.1 e.symm)];exact NI r n h.2
def NH(n:Int)(v:V3)(k:Int):∀ (L:Led),iJ (xV L n v) k=if k=n then some v else iJ L k
 | []=>by
  unfold xV iJ iJ;by_cases h:k=n
  .rw [if_pos h,if_pos h.symm]
  .rw [if_neg h,if_neg (λ e=>h e.symm)]
 | (j,w)::r=>by
  have b:=NH n v k r;unfold xV;split
  .rename_i a;subst a;unfold iJ;by_cases h:k=j
   .rw [if_pos h,if_pos h.symm]
   .rw [if_neg h,if_neg (λ e=>h e.symm),if_neg (λ e=>h e.symm)]
  .rename_i a;unfold iJ;rw [b];by_cases h:j=k
   .rw [if_pos h,if_pos h,if_neg (λ e=>a (h.trans e))]
   .rw [if_neg h,if_neg h]
def NJ(n:Int)(k:Int):∀ (L:Led),qR L->iJ (DB L n) k=if k=n then none else iJ L k
 | [],_=>by
  unfold DB iJ;split<;>rfl
 | (j,w)::r,h=>by
  have h1:=(Bx.1 h)
  have c:=NJ n k r h1.2;unfold DB;split
  .rename_i b;subst b;by_cases a:k=j
   .rw [if_pos a,a];exact NI r j h1.1
   .rw [if_neg a]
    conv=>rhs;unfold iJ
    rw [if_neg (λ e=>a e.symm)]
  .rename_i b;unfold iJ;rw [c];by_cases a:j=k
   .rw [if_pos a,if_pos a,if_neg (λ e=>b (a.trans e))]
   .rw [if_neg a,if_neg a]
def aCN{v:V3}(h:isZ v=true):v=V3.zero:=by obtain ⟨a,b,c⟩:=v;unfold isZ at h;simp at h;obtain ⟨rfl,rfl,rfl⟩:=h;rfl
def aKH{L:Led}(h:qR L)(n:Int)(v:V3):qR (NC L n v):=by
 unfold NC;split
 .exact aCD n L h
 .exact aCw n v L h
def aCv{L:Led}(h:qR L)(n:Int)(v:V3)(k:Int):qE (NC L n v) k=if k=n then v else qE L k:=by
 unfold NC qE;split
 .rename_i hz;rw [NJ n k L h];by_cases a:k=n
  .rw [if_pos a,if_pos a,aCN hz];rfl
  .rw [if_neg a,if_neg a]
 .rw [NH];by_cases a:k=n
  .rw [if_pos a,if_pos a];rfl
  .rw [if_neg a,if_neg a]
def EM(n:Nat)(L:Led)(j:Nat):(mJ n L)[j]? =if j<n then some (qE L (j:Int)) else none:=by
 unfold mJ;rw [Bh];by_cases h:j<n
 .rw [if_pos h,Dj h];rfl
 .rw [if_neg h,Bg q_];rfl
def aIx{n:Nat}{L:Led}(h:qR L)(v:V3)(k:Int)(b:0<=k)(c:k.toNat<n):mJ n (yR v L k)=FF v (mJ n L) k:=by
 refine Ea λ j=>?_;rw [oP,EM,EM];unfold yR;rw [aCv h];by_cases h1:j<n
 .rw [if_pos h1,if_pos h1];by_cases a:k.toNat=j
  .rw [if_pos a,if_pos o_];have:k=(j:Int):=o_;rw [this];rfl
  .rw [if_neg a,if_neg o_]
 .rw [if_neg h1,if_neg h1];split<;>rfl
def aNA{L:Led}(h:qR L)(v:V3)(k:Int):qR (yR v L k):=aKH h _ _
def OZ{n:Nat}(v:V3):∀ (ks:aw) (L:Led),qR L->(∀ k∈ks,0<=k/\k.toNat<n)->mJ n (ks.foldl (yR v) L)=ks.foldl (FF v) (mJ n L)/\qR (ks.foldl (yR v) L)
 | [],L,h,_=>⟨rfl,h⟩
 | k::r,L,h,hk=>by have h1:=hk k s_;obtain ⟨c,a⟩:=OZ v r (yR v L k) (aNA h v k) λ x b=>hk x (by simp [b]);exact ⟨by rw [Ba,c,aIx h v k h1.1 h1.2];rfl,a⟩
def PY(ns:bb):∀ (f:Nat) (n x:Int),x∈upF ns f n->0<=x/\x.toNat<ns.length
 | 0,n,x,h=>by simp [upF] at h
 | f+1,n,x,h=>by
  unfold upF at h;split at h
  .rename_i a;have a:=of_decide_eq_true a;split at h
   .rename_i h1;split at h
    .simp at h;subst h;exact ⟨a,h1⟩
    .rcases Bc.1 h with rfl | h
     .exact ⟨a,h1⟩
     .exact PY ns f _ x h
   .simp at h
  .simp at h
def QV(c:Con)(L:Led)(h:qR L)(x:Rn):mJ c.ns.length (uC c L x)=QB c (mJ c.ns.length L) x/\qR (uC c L x):=by
 unfold uC QB fF;split
 .obtain ⟨d,a⟩:=OZ (n:=c.ns.length) (dem x.g) (upL c.ns x.g.ten) L h λ k b=>PY _ _ _ _ b;exact ⟨by rw [d,G5 _ (Z9 _)],a⟩
 .exact ⟨rfl,h⟩
def aMD(c:Con)(l:a6):aJ1 c l=ofL c l:=by
 have key:∀ (l:a6) (L:Led),qR L->l.foldl (QB c) (mJ c.ns.length L)=mJ c.ns.length (l.foldl (uC c) L):=λ l=>by
  induction l with
  | nil=>intro L _;rfl
  | cons x r e=>
   intro L h;obtain ⟨d,b⟩:=QV c L h x;rw [Ba,Ba,<-d,e _ b]
 have a:mJ c.ns.length []=Aj c.ns.length V3.zero:=by refine Ea λ j=>?_;rw [EM,Ei];rfl
 unfold aJ1 ofL;rw [<-a,key l [] (by simp [qR])]
def TM(ns:bb):∀ (f:Nat) (n:Int),(upF ns f n).length<=n.toNat+1/\(upF ns f n).length<=f
 | 0,n=>by simp [upF]
 | f+1,n=>by
  unfold upF;split
  .split
   .split
    .simp
    .rename_i a h1 b;have d:=TM ns f (ns[n.toNat]).p;have b:¬ n<=(ns[n.toNat]).p:=λ h=>b (decide_eq_true h);have a:=of_decide_eq_true a;simp only [Al];refine ⟨?_,by omega⟩;by_cases c:0<=(ns[n.toNat]).p
     .omega
     .have e:(upF ns f (ns[n.toNat]).p)=[]:=by
       cases f with
       | zero=>rfl
       | succ f=>
          unfold upF;rw [if_neg (by rw [decide_eq_false c];decide)]
      rw [e];simp
   .simp
  .simp
def aE4(ns:bb)(n:Int):(upL ns n).length<=ns.length:=by
 by_cases h:0<=n/\n.toNat<ns.length
 .have:=(TM ns (n.toNat+1) n).1;unfold upL;omega
 .unfold upL upF;by_cases a:0<=n
  .rw [if_pos (decide_eq_true a),dif_neg o_];simp
  .rw [if_neg (by rw [decide_eq_false a];decide)];simp
def aAt{ns:bb}{t:Int}(a:0<=t)(h1:t.toNat<ns.length):∃ r,upL ns t=t::r:=by
 unfold upL upF;rw [if_pos (decide_eq_true a),dif_pos h1];split
 .exact ⟨_,rfl⟩
 .exact ⟨_,rfl⟩
def wF{ns:bb}{t:Int}(h:bC ns t=true):0<=t/\t.toNat<ns.length:=by exact zqra0
def alB(c:Con)(lv a b:Int):Bool:=
 if lv=0 then decide (a=b)
 else if lv=1 then decide ((bH c.hs a).f=(bH c.hs b).f/\(bH c.hs a).b=(bH c.hs b).b/\(bH c.hs a).r=(bH c.hs b).r)
 else if lv=2 then decide ((bH c.hs a).f=(bH c.hs b).f/\(bH c.hs a).b=(bH c.hs b).b)
 else decide ((bH c.hs a).f=(bH c.hs b).f)
abbrev qK(c:Con)(lv a:Int):aw:=ofK (bH c.hs a) a lv
def KO(c:Con)(lv a b:Int)(i:0<=lv)(h3:lv<=3):alB c lv a b=decide (qK c lv a=qK c lv b):=by
 unfold alB qK ofK;by_cases e:lv=0
 .subst e;by_cases h:a=b
  .subst h;simp
  .simp [h]
 by_cases g:lv=1
 .subst g;simp
 by_cases d:lv=2
 .subst d;simp
 have f:lv=3:=o_;subst f;simp
def dD(c:Con)(lv i:Int):List aw->Nat->Option Nat
 | [],_=>none
 | g::r,k=>if alB c lv (g.headD 0) i=true then some k else dD c lv i r (k+1)
def rgS(c:Con)(lv:Int)(s:List aw)(i:Nat):List aw:=
 match dD c lv (i:Int) s 0 with
 | some k=>s.set k ((s[k]?).getD []++[(i:Int)])
 | none=>s++[[(i:Int)]]
def rgL(c:Con)(lv:Int):List aw:=if decide (lv<0)=true then [] else if decide (3<lv)=true then [] else (Dr c.hs.length).foldl (rgS c lv) []
def oF(c:Con)(lv:Int):Nat->List aw->List (aw×Nat)
 | _,[]=>[]
 | k,g::r=>(qK c lv (g.headD 0),k)::oF c lv (k+1) r
def DF(c:Con)(lv i:Int)(a:0<=lv)(h3:lv<=3):∀ (s:List aw) (k:Nat),lQ (oF c lv k s) (qK c lv i)=dD c lv i s k
 | [],k=>rfl
 | g::r,k=>by
  unfold oF lQ dD;rw [KO c lv _ _ a h3,DF c lv i a h3 r (k+1)];by_cases h:qK c lv (g.headD 0)=qK c lv i
  .rw [if_pos h,if_pos (decide_eq_true h)]
  .rw [if_neg h,if_neg (by rw [decide_eq_false h];decide)]
def GL(c:Con)(lv i:Int):∀ (s:List aw) (k m:Nat),(∀ g∈s,g≠[])->oF c lv m (s.set k ((s[k]?).getD []++[i]))=oF c lv m s
 | [],k,m,_=>by simp
 | g::r,0,m,h=>by
  have d:=h g s_;cases g with
  | nil=>exact absurd rfl d
  | cons a t=>rfl
 | g::r,k+1,m,h=>by have e:=GL c lv i r k (m+1) λ x b=>h x (by simp [b]);show _::oF c lv (m+1) (r.set k ((r[k]?).getD []++[i]))=_;rw [e];rfl
def DE(c:Con)(lv i:Int):∀ (s:List aw) (m:Nat),oF c lv m (s++[[i]])=oF c lv m s++[(qK c lv i,m+s.length)]
 | [],m=>rfl
 | g::r,m=>by
  show _::oF c lv (m+1) (r++[[i]])=_::(oF c lv (m+1) r++_)
  rw [DE c lv i r (m+1)];simp only [Al];rw [show m+1+r.length=m+(r.length+1) from by omega]
def aJ5(c:Con)(lv:Int)(f:0<=lv)(h3:lv<=3)(s:GSt)(i:Nat)(h1:s.1=oF c lv 0 s.2)(d:∀ g∈s.2,g≠[]):
  (gpS c lv s i).2=rgS c lv s.2 i/\(gpS c lv s i).1=oF c lv 0 (rgS c lv s.2 i)/\∀ g∈rgS c lv s.2 i,g≠[]:=by
 have e:=DF c lv (i:Int) f h3 s.2 0;rw [<-h1] at e;unfold gpS rgS;have b:lQ s.1 (ofK (bH c.hs (i:Int)) i lv)=dD c lv (i:Int) s.2 0:=e;rw [b];cases dD c lv (i:Int) s.2 0 with
 | some k=>
  refine ⟨rfl,?_,λ g a=>?_⟩
  .show s.1=_;rw [h1,GL c lv i s.2 k 0 d]
  .rcases Db a with a | rfl
   .exact d g a
   .simp
 | none=>
  refine ⟨rfl,?_,λ g a=>?_⟩
  .show s.1++_=_;rw [h1,DE,Bw]
  .rcases Az.1 a with a | a
   .exact d g a
   .simp at a;subst a;simp
def aJ6(c:Con)(lv:Int):rgL c lv=gpL c lv:=by
 unfold rgL gpL;by_cases h1:lv<0
 .simp only [h1,decide_true,if_true]
 by_cases e:3<lv
 .simp only [h1,e,decide_true,decide_false,if_true,if_false,Cn]
 simp only [h1,e,decide_false,if_false,Cn];have key:∀ (l:az) (s:GSt),s.1=oF c lv 0 s.2->(∀ g∈s.2,g≠[])->l.foldl (rgS c lv) s.2=(l.foldl (gpS c lv) s).2:=λ l=>by
  induction l with
  | nil=>intro s _ _;rfl
  | cons i r k=>
   intro s a b;obtain ⟨d,f,j⟩:=aJ5 c lv o_ o_ s i a b;rw [Ba,Ba,<-d,k _ (by rw [d];exact f) (by rw [d];exact j)]
 exact key _ ([],[]) rfl (λ g h=>by simp at h)
def cB{v:V3}(h:bI v=true):(0<=v.a/\v.a<=1048576)/\(0<=v.b/\v.b<=1048576)/\(0<=v.c/\v.c<=1048576):=by unfold bI at h;simpa [Ad,and_assoc] using h
def FM{a b:V3}:cQ a b=true↔a.a<=b.a/\a.b<=b.b/\a.c<=b.c:=by
 unfold cQ;by_cases h1:b.a<a.a
 .first | (simp [h1];done) | (simp [h1];omega)
 by_cases d:b.b<a.b
 .first | (simp [h1,d];done) | (simp [h1,d];omega)
 by_cases h3:b.c<a.c
 .first | (simp [h1,d,h3];done) | (simp [h1,d,h3];omega)
 first | (simp [h1,d,h3];done) | (simp [h1,d,h3];omega)
def B7{m f k n:Int}(d:0<=k)(c:k<=f):n<=zJ m f k↔n<=m/\k*n<=f:=by
 unfold zJ;by_cases h:0<k
 .rw [if_pos (decide_eq_true h),La o_];have:=Int.le_ediv_iff_mul_le h (a:=n) (b:=f);rw [Int.mul_comm] at this;omega
 .have:k=0:=o_;subst this;rw [if_neg d_];omega
def UC{free need:V3}(j:bI need=true)(h:cQ need free=true)(n:Int):n<=eK free need↔n<=16/\need.a*n<=free.a/\need.b*n<=free.b/\need.c*n<=free.c:=by
 obtain ⟨⟨k,_⟩,⟨i,_⟩,l,_⟩:=cB j;obtain ⟨h1,m,h3⟩:=FM.1 h;unfold eK;rw [if_pos h,B7 l h3,B7 i m,B7 k h1];constructor
 .rintro ⟨⟨⟨g,e⟩,d⟩,f⟩;exact ⟨g,e,d,f⟩
 .rintro ⟨g,e,d,f⟩;exact ⟨⟨⟨g,e⟩,d⟩,f⟩
def vH(c:Con)(a:Int):Prop:=0<=a/\a.toNat<c.hs.length
structure GH(c:Con)(i:Nat)(s:List aw):Prop where
 len:s.length<=i
 one:∀ g∈s,g.length<=i/\∃ a r,g=a::r/\vH c a
def GH.step{c:Con}{lv:Int}{i:Nat}{s:List aw}(h:GH c i s)(m:i<c.hs.length):GH c (i+1) (rgS c lv s i):=by
 obtain ⟨h1,f⟩:=h;unfold rgS;split
 .rename_i k n;refine ⟨by simp;omega,λ g b=>?_⟩;rcases Db b with b | rfl
  .obtain ⟨j,e⟩:=f g b;exact ⟨by omega,e⟩
  .by_cases d:k<s.length
   .rw [Aa d];obtain ⟨j,a,r,e,l⟩:=f _ (Bd d);refine ⟨by simp;omega,a,r++[(i:Int)],?_,l⟩;show s[k]++_=_;rw [e];rfl
   .rw [Bg o_];exact ⟨by simp,(i:Int),[],rfl,⟨by omega,by omega⟩⟩
 .refine ⟨by simp;omega,λ g b=>?_⟩;rcases Az.1 b with b | b
  .obtain ⟨j,e⟩:=f g b;exact ⟨by omega,e⟩
  .simp at b;subst b;exact ⟨by simp,(i:Int),[],rfl,⟨by omega,by omega⟩⟩
abbrev inO(c:Con)(g:Gan):au:=[.cells 26 c.cs,.cells 43 g.cs,.tail 0 1 3]
def aHe(free:a8)(g:Gan)(c:0<=g.pods/\g.pods<=16)(a:aw):(inL free g a).length<=16:=by
 have key:∀ (l:aw) (out:aw),(out.length:Int)<=g.pods->((l.foldl (inS free g) out).length:Int)<=g.pods:=λ l=>by
  induction l with
  | nil=>intro out h;exact h
  | cons x r b=>intro out h;exact b _ (JN free g out x h)
 have:=key a [] q_;unfold inL;omega
def VV{c:Con}{free:a8}{g:Gan}(a:0<=g.pods/\g.pods<=16){x:Int×aw}:∀ {b:List aw},fdG c free g b=some x->x.2.length<=16
 | [],h=>by cases h
 | gr::r,h=>by
  unfold fdG at h;split at h
  .exact VV a h
  .cases h;exact aHe free g a gr
def VT{c:Con}{free:a8}{g:Gan}(a:0<=g.pods/\g.pods<=16){x:Int×aw}:∀ {n:Nat} {lv:Int},fdL c free g n lv=some x->x.2.length<=16
 | 0,lv,h=>by cases h
 | n+1,lv,h=>by
  unfold fdL at h;split at h
  .rename_i y b;cases h;exact VV a b
  .exact VT a h
def aDo{c:Con}{l:a6}{g:Gan}(a:0<=g.pods/\g.pods<=16){x:Int×aw}(h:cG c l g=some x):x.2.length<=1048576:=by
 unfold cG at h;split at h
 .unfold zX at h;have:=VT a h;omega
 .cases h
end Go.Proofs.YtbpccabomgalhaaGreatDoor
namespace Go.AW
open Go.RowKit
def Mem.beginRow{M:Imm}{ob:Hs}{ac:List ab}{w:World}(hm:Mem M ob ac w){k i m:Nat}{T e:TypeId}{cs:List aa}(P:ac[k]? =some (.cells T cs))(Q:cs[i]? =some (.slice m [] .nil)):
  Mem M (ob++[[.slice none 0 0]]) (ac.set k (.cells T (cs.set i (.row ac.length 0)))++[.row 0 m e []]) w/\
   Ext M ob ac w M (ob++[[.slice none 0 0]]) (ac.set k (.cells T (cs.set i (.row ac.length 0)))++[.row 0 m e []]) w/\cV ob (ob++[[.slice none 0 0]]):=by
 have l:cV ob (ob++[[.slice none 0 0]]):=λ j hs d=>⟨hs,by rw [Af (Ac.1 d).1];exact d,Cl _⟩
 have y:k<ac.length:=(Ac.1 P).1;have f:(ob++[[.slice none 0 0]])[ac.length]? =some [.slice none 0 0]:=by rw [<-hm.len];simp
 have I:at' (ob++[[.slice none 0 0]]) ac.length 0=some (.slice none 0 0):=by rw [bT f];rfl
 have s:∀ {j:Nat} {c:ab},(ac.set k (.cells T (cs.set i (.row ac.length 0)))++[.row 0 m e []])[j]? =some c->
   (j=ac.length/\c= .row 0 m e [])\/(j=k/\c= .cells T (cs.set i (.row ac.length 0)))\/(j≠k/\j<ac.length/\ac[j]? =some c):=λ{j c} d=>by
  by_cases r:j<ac.length
  .rw [Af (by simpa using r)] at d;by_cases o:j=k
   .subst o;rw [Aq r] at d;cases d;exact .inr (.inl ⟨rfl,rfl⟩)
   .rw [Ax (Ej o)] at d;exact .inr (.inr ⟨o,r,d⟩)
  .have p:j=ac.length:=by have:=(Ac.1 d).1;simp at this;omega
   subst p;rw [Ak s_] at d;simp at d;exact .inl ⟨rfl,d.symm⟩
 have A:∀ {j b:Nat},aG (ob++[[.slice none 0 0]]) (ac.set k (.cells T (cs.set i (.row ac.length 0)))++[.row 0 m e []]) j b->aG ob ac j b:=λ{j b} ⟨c,hs,t,C,e3,e4⟩=>by
  rcases s t with ⟨rfl,rfl⟩ | ⟨rfl,rfl⟩ | ⟨h1,p,h3⟩
  .rw [f] at e3;cases e3;cases e4
  .rw [Af (by rw [hm.len];exact y)] at e3;exact ⟨_,hs,P,rfl,e3,e4⟩
  .rw [Af (by rw [hm.len];exact p)] at e3;exact ⟨c,hs,h3,C,e3,e4⟩
 have J:∀ (j:Nat) c,(ac.set k (.cells T (cs.set i (.row ac.length 0)))++[.row 0 m e []])[j]? =some c->∃ hs,(ob++[[.slice none 0 0]])[j]? =some hs/\gX M (ob++[[.slice none 0 0]]) w hs c:=λ j c d=>by
  rcases s d with ⟨rfl,rfl⟩ | ⟨rfl,rfl⟩ | ⟨h1,p,h3⟩
  .have S:dM M w (.slice none 0 0) m e []:=by
    refine ⟨[],Gy w 0 _ _,?_,?_,?_,?_,?_⟩
    .intro u W;simp at W
    .intro x U;simp at U
    .intro q c V;simp [Go.AW.cellAt] at V
    .intro b K;cases K
    .intro b K;cases K
   exact ⟨_,f,rfl,_,rfl,S⟩
  .obtain ⟨hs,t,b,G,N,cv,F,L,D,B⟩:=hm.obj _ _ P;refine ⟨hs,by rw [Af (by rw [hm.len];exact y)];exact t,b,G,N,cv,F,by simpa using L,D,λ n v a z g=>?_⟩;by_cases R:n=i
   .subst R;have H:n<cs.length:=(Ac.1 Q).1;rw [Aq H] at g;cases g;have:=B n v _ z Q;obtain ⟨_,O⟩:=this.untok;have O:v= .slice none 0 0:=O;subst O;exact .row _ _ _ _ _ I
   .rw [Ax (Ej R)] at g;exact (B n v a z g).mono (λ_ _ _ h=>h) l
  .obtain ⟨hs,t,C⟩:=hm.obj j c h3;refine ⟨hs,by rw [Af (by rw [hm.len];exact p)];exact t,?_⟩;cases c with
   | cells Y cs'=>
    obtain ⟨b,G,N,cv,F,L,D,B⟩:=C;exact ⟨b,G,N,cv,F,L,D,λ n v a z g=>(B n v a z g).mono (λ_ _ _ h=>h) l⟩
   | _=>exact C
 refine ⟨⟨hm.imm,by simp [hm.len],J,λ j b g=>hm.lt j b (A g),λ j X b h1 p=>hm.inj j X b (A h1) (A p)⟩,⟨λ_ _ _ h=>h,λ_ _ _ h=>.inl h,l,rfl,rfl,rfl,Bf _,λ_ _ _=>rfl,λ j b g=>.inl ⟨j,A g⟩⟩,l⟩
def To.beginRowH{E:Env}{fn:Func}{g:Goal}{st:bf}{fr:ar}{ac:au}(k i:Nat)(e:TypeId){T:TypeId}{cs:ax}{l:Nat}(s:aB ac k= .cells T cs)(m:nth cs i=some (.slice l [] .nil))
  (h:To E fn g (.head st fr (kM (bJ ac k (.cells T (LN cs i (.row (aM ac) 0)))) (.row 0 l e [])))):To E fn g (.head st fr ac):=
 .mk λ d M0 ob0 b w0 a w hst hs=>by refine h.rec λ h=>h d M0 ob0 b w0 a w hst ?_;obtain ⟨M,ob,n,hm,f,p,q,u⟩:=hs;have c:=bD s s_;obtain ⟨o,r,j⟩:=hm.beginRow (e:=e) c (jX m);rw [nU,IM,bG,aL c];exact ⟨M,_,n.trans r,o,λ t=>(f t).mono (λ_ _ _ h=>h) j,p,q.mono (λ_ _ _ h=>h) j,by simp;omega⟩
def To.beginRow{E:Env}{fn:Func}{g:Goal}{st:bf}{fr:ar}{ac:au}(k i:Nat)(e:TypeId){T:TypeId}{cs:ax}{a:Nat}(b:aB ac k= .cells T cs)(c:nth cs i=some (.slice a [] .nil))
  (h:To E fn g (.code st fr (kM (bJ ac k (.cells T (LN cs i (.row (aM ac) 0)))) (.row 0 a e [])))):To E fn g (.code st fr ac):=
 To.toC (To.beginRowH k i e b c (To.ofC h))
end Go.AW
namespace Go.Proofs.YtbpccabomgalhaaGreatDoor
open Go Go.AW Go.Proofs
set_option maxRecDepth 10000
def JC(x:Int):aq 219 [ii x] [] (.ret (.bool false)) []:=by refine c_ Tryz.f219 λ_=>gV ?_;exact congrArg (λ b=>Res.ret (aa.bool b)) s_
def SK(a b:Int):Int:=if a<b then -1 else if b<a then 1 else 0
def WO(a b r:Int)(c:SK a b=r):aq 172 [ii a,ii b] [] (.ret (ii r)) []:=by
 unfold SK at c;by_cases h1:a<b
 .rw [if_pos h1] at c;exact zqra1
 .rw [if_neg h1] at c;by_cases e:b<a
  .rw [if_pos e] at c;exact zqra1
  .rw [if_neg e] at c;exact zqra1
def aEh(a b:Int):aq 172 [ii a,ii b] [] (.ret (ii (SK a b))) []:=WO a b _ rfl
def orI(p q:Int):Int:=if p=0 then q else p
def CP(p q r:Int)(b:orI p q=r):aq 175 [.slice 1 [ii p,ii q] .no] [] (.ret (ii r)) []:=by
 unfold orI at b;by_cases h1:p=0
 .subst h1;rw [if_pos rfl] at b;have hp:((0:Int) !=0)=false:=by decide
  by_cases c:q=0
  .subst c;subst b;have a:((0:Int) !=0)=false:=by decide
   refine c_ Tryz.f175 λ_=>?_
   repeat' first
    | (refine gW hE ?_;conv=>whnf)
    | exact rfl
    | refine Ao 0 (Ab rfl ?_)
    | refine Ao 1 (Ab rfl ?_)
    | refine Ao _ (Ab rfl ?_)
    | refine aY ?_
    | refine aN ?_
    | refine Ab (λ h=>?_) (λ h=>absurd h (by rw [hp];decide))
    | refine Ab (λ h=>?_) (λ h=>absurd h (by rw [a];decide))
    | refine Ab (λ h=>absurd h (by rw [hp];decide)) (λ h=>?_)
    | refine Ab (λ h=>absurd h (by rw [a];decide)) (λ h=>?_)
    | refine aJ ?_
    | fail
  .subst b;have a:(q !=0)=true:=by simp [c]
   refine c_ Tryz.f175 λ_=>?_
   repeat' first
    | (refine gW hE ?_;conv=>whnf)
    | exact rfl
    | refine Ao 0 (Ab rfl ?_)
    | refine Ao 1 (Ab rfl ?_)
    | refine Ao _ (Ab rfl ?_)
    | refine aY ?_
    | refine aN ?_
    | refine Ab (λ h=>?_) (λ h=>absurd h (by rw [hp];decide))
    | refine Ab (λ h=>?_) (λ h=>absurd h (by rw [a];decide))
    | refine Ab (λ h=>absurd h (by rw [hp];decide)) (λ h=>?_)
    | refine Ab (λ h=>absurd h (by rw [a];decide)) (λ h=>?_)
    | refine aJ ?_
    | fail
 .rw [if_neg h1] at b;subst b;have hp:(p !=0)=true:=by simp [h1]
  have a:((0:Int) !=0)=false:=by decide
  refine c_ Tryz.f175 λ_=>?_
  repeat' first
   | (refine gW hE ?_;conv=>whnf)
   | exact rfl
   | refine Ao 0 (Ab rfl ?_)
   | refine Ao 1 (Ab rfl ?_)
   | refine Ao _ (Ab rfl ?_)
   | refine aY ?_
   | refine aN ?_
   | refine Ab (λ h=>?_) (λ h=>absurd h (by rw [hp];decide))
   | refine Ab (λ h=>?_) (λ h=>absurd h (by rw [a];decide))
   | refine Ab (λ h=>absurd h (by rw [hp];decide)) (λ h=>?_)
   | refine Ab (λ h=>absurd h (by rw [a];decide)) (λ h=>?_)
   | refine aJ ?_
   | fail
def kG(a b:Rn):Bool:=decide (orI (SK b.st a.st) (SK b.seq a.seq)<0)
def aGX(a b:Rn)(r:Bool)(c:kG a b=r):aq 227 [a.av,b.av] [] (.ret (.bool r)) []:=by have h1:=aEh b.st a.st;have d:=aEh b.seq a.seq;unfold kG at c;generalize SK b.st a.st=p at h1 c;generalize SK b.seq a.seq=q at d c;have h3:=CP p q _ rfl;generalize orI p q=o at h3 c;subst c;exact c_ Tryz.f227 λ_=>zW
def Q1(a b:Rn):aq 227 [a.av,b.av] [] (.ret (.bool (kG a b))) []:=aGX a b _ rfl
def AX(x:Rn)(h:x.hs.length<=1048576):aq 105 [x.av] [] (.ret x.av) []:=by refine c_ Tryz.f105 λ_=>?_;have a:=yP x.hs h;exact zW
def rn0:Rn:=⟨⟨0,0,0,V3.zero,0,0,0⟩,0,0,0,0,[]⟩
def aR(xs:a6)(i:Nat):Rn:=(xs[i]?).getD rn0
def iK{xs:a6}{i:Nat}(h:i<xs.length):(rav xs)[i]? =some (aR xs i).av:=by unfold aR;rw [Aa h];exact eX h
def qA(xs:a6)(i k:Nat):a6:=(xs.set i (aR xs k)).set k (aR xs i)
def iZ(xs:a6)(i k:Nat):(qA xs i k).length=xs.length:=by unfold qA;simp
def L4(xs:a6)(i k:Nat):rav (qA xs i k)=((rav xs).set i (aR xs k).av).set k (aR xs i).av:=by unfold qA;simp [rav,Gk]
def upH:Nat->a6->Nat->a6
 | 0,xs,_=>xs
 | f+1,xs,i=>if i=0 then xs else if kG (aR xs i) (aR xs ((i-1) / 2))=true then upH f (qA xs i ((i-1) / 2)) ((i-1) / 2) else xs
def rJ(xs:a6)(x:Rn):a6:=upH (xs.length+1) (xs++[x]) xs.length
def TL:∀ (f:Nat) (xs:a6) (i:Nat),(upH f xs i).length=xs.length
 | 0,xs,i=>rfl
 | f+1,xs,i=>by
  unfold upH;split
  .rfl
  .split
   .rw [TL f,iZ]
   .rfl
def F3(xs:a6)(x:Rn):(rJ xs x).length=xs.length+1:=by unfold rJ;rw [TL];simp
abbrev aGY:aa:=.func (.func 227) [] []
abbrev hpO(l:aa)(g:Nat)(xs:a6):au:=[.cells 348 [l,aGY],.row g 14 48 (rav xs)]
noncomputable abbrev aI8:Func:=Tryz.f228
def X0(N:Nat)(q:N<=1048577)(R:a6):∀ (f i:Nat) (ys:a6),ys.length=N->i<N->i<f->upH f ys i=R->
  To (Er [] [6,14,15,56]) aI8 (.full 2 (.ret (.tup [])) (hpO (.row 1 1) 1 R)) (.head (stk aI8 0) [(0,.ref 0 0),(4,ii i)] (hpO (.row 1 1) 1 ys)):=by
 intro f;induction f with
 | zero=>intro i ys _ _ h;omega
 | succ f n=>
  intro i ys m p r d;have l:(rav ys).length=ys.length:=by simp
  unfold upH at d;by_cases k:i=0
  .subst k;rw [if_pos rfl] at d;subst d;refine gV ?_;exact zW
  rw [if_neg k] at d;have e:(i-1) / 2<ys.length:=o_;have c:Lt ((i:Int)-1) 2=(((i-1) / 2:Nat):Int):=by rw [La o_];omega
  have j:=iK (xs:=ys) (i:=i) o_;have g:=iK e;have hl:=Q1 (aR ys i) (aR ys ((i-1) / 2));generalize o:(i-1) / 2=up at d c g hl e;by_cases h1:kG (aR ys i) (aR ys up)=true
  .rw [if_pos h1] at d;rw [h1] at hl;have next:=n up (qA ys i up) (by rw [iZ];exact m) o_ o_ d
   unfold hpO at next
   rw [L4] at next
   generalize aR ys i=a at j hl next
   generalize aR ys up=b at g hl next
   refine gV ?_;refine aT λ h=>?_
   repeat' first
    | exact To.cut [0,4] 2 rfl rfl rfl rfl next
    | (refine gN (hEr [] [6,14,15,56]) ?_;conv=>whnf)
    | refine Ao i (Ab rfl ?_)
    | refine Ao up (Ab c ?_)
    | refine Ao _ (Ab j ?_)
    | refine Ao _ (Ab g ?_)
    | refine .pure _ [] hl ?_
    | refine aY ?_
    | refine aN ?_
    | refine Ab o_ ?_
    | refine Ab (by rw [Df];omega) ?_
    | refine aJ ?_
    | refine Ab d_ ?_
    | fail
   rw [c];exact To.cut [0,4] 2 rfl rfl rfl rfl next
  .have h1:kG (aR ys i) (aR ys up)=false:=by simpa using h1
   rw [if_neg (by rw [h1];decide)] at d;subst d;rw [h1] at hl;generalize aR ys i=a at j hl;generalize aR ys up=b at g hl;refine gV ?_;exact zW
def aGh(xs:a6)(hl:xs.length<=1048576)(x:Rn):aq 228 [.ref 0 0,x.av] (hpO (.row 1 0) 0 xs) (.ret (.tup [])) (hpO (.row 1 1) 1 (rJ xs x)):=by
 have b:(rav xs).length=xs.length:=by simp
 have next:=X0 (xs.length+1) o_ (rJ xs x) (xs.length+1) xs.length (xs++[x]) s_ o_ o_ rfl
 have e:rav (xs++[x])=rav xs++[x.av]:=by simp
 unfold hpO at next
 rw [e] at next
 refine cT (E:=(Er [] [6,14,15,56])) (fn:=Tryz.f228) (g:=.full 2 _ _) λ_=>?_
 repeat' first | (refine gN (hEr [] [6,14,15,56]) ?_;conv=>whnf) | refine ⟨⟨by simp only [maxLen];simp;omega,by simp;omega⟩,?_⟩ | refine Fq (Ab (Ab (by simp only [Ah,Al,Br,bW];omega) (by simp only [Ah,Al,Br,aW];omega)) ?_) | exact rfl | refine zt ?_ | refine zu ?_ ?_ | intro h | fail
 refine To.cut [0,4] 2 rfl rfl rfl rfl ?_;have a:(((rav xs++[x.av]).length:Int)-1)=((xs.length:Nat):Int):=by simp
 rw [<-a] at next
 exact next
set_option maxHeartbeats 2000000
def gK(xs:a6)(n i:Nat):Nat:=if 2*i+2<n then (if kG (aR xs (2*i+2)) (aR xs (2*i+1))=true then 2*i+2 else 2*i+1) else 2*i+1
def WL(xs:a6)(n i:Nat)(h:2*i+1<n):gK xs n i<n/\i<gK xs n i/\(gK xs n i=2*i+1\/gK xs n i=2*i+2):=by
 unfold gK;split
 .split<;>omega
 .omega
def wX:Nat->a6->Nat->Nat->a6
 | 0,xs,_,_=>xs
 | f+1,xs,n,i=>if 2*i+1<n then (if kG (aR xs (gK xs n i)) (aR xs i)=true then wX f (qA xs i (gK xs n i)) n (gK xs n i) else xs) else xs
def HO:∀ (f:Nat) (xs:a6) (n i:Nat),(wX f xs n i).length=xs.length
 | 0,xs,n,i=>rfl
 | f+1,xs,n,i=>by
  unfold wX;split
  .split
   .rw [HO f,iZ]
   .rfl
  .rfl
def AN(xs:a6)(n:Nat):a6:=wX n (xs.set 0 (aR xs (n-1))) (n-1) 0
def CH(xs:a6)(n:Nat):(AN xs n).length=xs.length:=by unfold AN;rw [HO];simp
def DP{xs:a6}{i:Nat}(h:i<xs.length):(rav xs)[0+i]? =some (aR xs i).av:=by rw [Bw];exact iK h
def XY(xs:a6)(i k:Nat):rav (qA xs i k)=((rav xs).set (0+i) (aR xs k).av).set (0+k) (aR xs i).av:=by rw [Bw,Bw];exact L4 xs i k
abbrev z14:ax:=[ii 0,ii 0,ii 0,ii 0,ii 0,ii 0,ii 0,ii 0,ii 0,ii 0,ii 0,ii 0,ii 0,.slice 1 [] .nil]
abbrev ppO(n:Nat)(ys:a6)(x:ax):au:=hpO (.sub 1 0 0 n 14) 0 ys++[.cells 48 z14,.cells 48 x]
abbrev ppF(n i:Int):ar:=[(0,.ref 0 0),(2,.ref 2 0),(3,.ref 3 0),(4,ii n),(5,ii i)]
noncomputable abbrev wV:Func:=Tryz.f229
def aKg(n N:Nat)(p:n<=N)(u:N<=1048577)(R:a6)(x:Rn)(i:Nat)(ys:a6)(s:ys.length=N)(q:2*i+1<n)(h3:2*i+2<n)(a b c:Rn)(l:(rav ys)[0+i]? =some a.av)(k:(rav ys)[0+(2*i+1)]? =some b.av)(j:(rav ys)[0+(2*i+2)]? =some c.av)
  (e:aq 227 [c.av,b.av] [] (.ret (.bool true)) []) (r:Bool) (d:aq 227 [c.av,a.av] [] (.ret (.bool r)) []) (g:r=false->ys=R)
  (next:r=true->To (Er [] [105]) wV (.full 2 (.ret x.av) (hpO (.sub 1 0 0 n 14) 0 R)) (.head (stk wV 0) (ppF n ((2*i+2:Nat):Int)) [.cells 348 [.sub 1 0 0 n 14,aGY],.row 0 14 48 (((rav ys).set (0+i) c.av).set (0+(2*i+2)) a.av),.cells 48 z14,.cells 48 x.cs])):
  To (Er [] [105]) wV (.full 2 (.ret x.av) (hpO (.sub 1 0 0 n 14) 0 R)) (.head (stk wV 0) (ppF n i) (ppO n ys x.cs)):=by
 have m:(rav ys).length=ys.length:=by simp
 have o:2*(i:Int)+1+1=((2*i+2:Nat):Int):=o_;cases r with
 | false=>
  have g:=g rfl;subst g;refine gV ?_
  repeat' first
   | (refine gN (hEr [] [105]) ?_;conv=>whnf)
   | refine Ao (2*i+2) (Ab o_ ?_)
   | refine Ao (2*i+1) (Ab o_ ?_)
   | refine Ao i (Ab rfl ?_)
   | refine Ao _ (Ab j ?_)
   | refine Ao _ (Ab k ?_)
   | refine Ao _ (Ab l ?_)
   | refine .pure _ [] e ?_
   | refine .pure _ [] d ?_
   | refine aY ?_
   | refine aN ?_
   | refine aT λ h=>?_
   | refine aF λ h=>?_
   | refine Ab o_ ?_
   | refine Ab (by rw [Df];omega) ?_
   | refine Ab (Ab (by simp only [bW];omega) (by simp only [aW];omega)) ?_
   | refine aJ ?_
   | refine Ab d_ ?_
   | refine ⟨[],[0,1],⟨rfl,rfl⟩,⟨rfl,rfl⟩⟩
   | fail
 | true=>
  have next:=next rfl
  rw [<-o] at next
  refine gV ?_
  repeat' first
   | (refine gN (hEr [] [105]) ?_;conv=>whnf)
   | refine Ao (2*i+2) (Ab o_ ?_)
   | refine Ao (2*i+1) (Ab o_ ?_)
   | refine Ao i (Ab rfl ?_)
   | refine Ao _ (Ab j ?_)
   | refine Ao _ (Ab k ?_)
   | refine Ao _ (Ab l ?_)
   | refine .pure _ [] e ?_
   | refine .pure _ [] d ?_
   | refine aY ?_
   | refine aN ?_
   | refine aT λ h=>?_
   | refine aF λ h=>?_
   | refine Ab o_ ?_
   | refine Ab (by rw [Df];omega) ?_
   | refine Ab (Ab (by simp only [bW];omega) (by simp only [aW];omega)) ?_
   | refine aJ ?_
   | refine Ab d_ ?_
   | refine ⟨[],[0,1],⟨rfl,rfl⟩,⟨rfl,rfl⟩⟩
   | fail
  exact zqra2
def aKh(n N:Nat)(p:n<=N)(u:N<=1048577)(R:a6)(x:Rn)(i:Nat)(ys:a6)(s:ys.length=N)(q:2*i+1<n)(h3:2*i+2<n)(a b c:Rn)(l:(rav ys)[0+i]? =some a.av)(k:(rav ys)[0+(2*i+1)]? =some b.av)(j:(rav ys)[0+(2*i+2)]? =some c.av)
  (e:aq 227 [c.av,b.av] [] (.ret (.bool false)) []) (r:Bool) (d:aq 227 [b.av,a.av] [] (.ret (.bool r)) []) (g:r=false->ys=R)
  (next:r=true->To (Er [] [105]) wV (.full 2 (.ret x.av) (hpO (.sub 1 0 0 n 14) 0 R)) (.head (stk wV 0) (ppF n ((2*i+1:Nat):Int)) [.cells 348 [.sub 1 0 0 n 14,aGY],.row 0 14 48 (((rav ys).set (0+i) b.av).set (0+(2*i+1)) a.av),.cells 48 z14,.cells 48 x.cs])):
  To (Er [] [105]) wV (.full 2 (.ret x.av) (hpO (.sub 1 0 0 n 14) 0 R)) (.head (stk wV 0) (ppF n i) (ppO n ys x.cs)):=by
 have m:(rav ys).length=ys.length:=by simp
 have o:2*(i:Int)+1=((2*i+1:Nat):Int):=o_;cases r with
 | false=>
  have g:=g rfl;subst g;refine gV ?_
  repeat' first
   | (refine gN (hEr [] [105]) ?_;conv=>whnf)
   | refine Ao (2*i+2) (Ab o_ ?_)
   | refine Ao (2*i+1) (Ab o_ ?_)
   | refine Ao i (Ab rfl ?_)
   | refine Ao _ (Ab j ?_)
   | refine Ao _ (Ab k ?_)
   | refine Ao _ (Ab l ?_)
   | refine .pure _ [] e ?_
   | refine .pure _ [] d ?_
   | refine aY ?_
   | refine aN ?_
   | refine aT λ h=>?_
   | refine aF λ h=>?_
   | refine Ab o_ ?_
   | refine Ab (by rw [Df];omega) ?_
   | refine Ab (Ab (by simp only [bW];omega) (by simp only [aW];omega)) ?_
   | refine aJ ?_
   | refine Ab d_ ?_
   | refine ⟨[],[0,1],⟨rfl,rfl⟩,⟨rfl,rfl⟩⟩
   | fail
 | true=>
  have next:=next rfl
  rw [<-o] at next
  refine gV ?_
  repeat' first
   | (refine gN (hEr [] [105]) ?_;conv=>whnf)
   | refine Ao (2*i+2) (Ab o_ ?_)
   | refine Ao (2*i+1) (Ab o_ ?_)
   | refine Ao i (Ab rfl ?_)
   | refine Ao _ (Ab j ?_)
   | refine Ao _ (Ab k ?_)
   | refine Ao _ (Ab l ?_)
   | refine .pure _ [] e ?_
   | refine .pure _ [] d ?_
   | refine aY ?_
   | refine aN ?_
   | refine aT λ h=>?_
   | refine aF λ h=>?_
   | refine Ab o_ ?_
   | refine Ab (by rw [Df];omega) ?_
   | refine Ab (Ab (by simp only [bW];omega) (by simp only [aW];omega)) ?_
   | refine aJ ?_
   | refine Ab d_ ?_
   | refine ⟨[],[0,1],⟨rfl,rfl⟩,⟨rfl,rfl⟩⟩
   | fail
  exact zqra2
def aKi(n N:Nat)(o:n<=N)(s:N<=1048577)(R:a6)(x:Rn)(i:Nat)(ys:a6)(q:ys.length=N)(p:2*i+1<n)(h3:¬ 2*i+2<n)(a b:Rn)(k:(rav ys)[0+i]? =some a.av)(j:(rav ys)[0+(2*i+1)]? =some b.av)
 (r:Bool) (c:aq 227 [b.av,a.av] [] (.ret (.bool r)) []) (e:r=false->ys=R)
  (next:r=true->To (Er [] [105]) wV (.full 2 (.ret x.av) (hpO (.sub 1 0 0 n 14) 0 R)) (.head (stk wV 0) (ppF n ((2*i+1:Nat):Int)) [.cells 348 [.sub 1 0 0 n 14,aGY],.row 0 14 48 (((rav ys).set (0+i) b.av).set (0+(2*i+1)) a.av),.cells 48 z14,.cells 48 x.cs])):
  To (Er [] [105]) wV (.full 2 (.ret x.av) (hpO (.sub 1 0 0 n 14) 0 R)) (.head (stk wV 0) (ppF n i) (ppO n ys x.cs)):=by
  have l:(rav ys).length=ys.length:=by simp
  have d:=JC 0;have g:True:=trivial;have m:2*(i:Int)+1=((2*i+1:Nat):Int):=o_;cases r with
  | false=>
   have e:=e rfl;subst e;refine gV ?_
   repeat' first
    | (refine gN (hEr [] [105]) ?_;conv=>whnf)
    | refine Ao (2*i+2) (Ab o_ ?_)
    | refine Ao (2*i+1) (Ab o_ ?_)
    | refine Ao i (Ab rfl ?_)
    | refine Ao _ (Ab g ?_)
    | refine Ao _ (Ab j ?_)
    | refine Ao _ (Ab k ?_)
    | refine .pure _ [] d ?_
    | refine .pure _ [] c ?_
    | refine aY ?_
    | refine aN ?_
    | refine aT λ h=>?_
    | refine aF λ h=>?_
    | refine Ab o_ ?_
    | refine Ab (by rw [Df];omega) ?_
    | refine Ab (Ab (by simp only [bW];omega) (by simp only [aW];omega)) ?_
    | refine aJ ?_
    | refine Ab d_ ?_
    | refine ⟨[],[0,1],⟨rfl,rfl⟩,⟨rfl,rfl⟩⟩
    | fail
  | true=>
   have next:=next rfl
   rw [<-m] at next
   refine gV ?_
   repeat' first
    | (refine gN (hEr [] [105]) ?_;conv=>whnf)
    | refine Ao (2*i+2) (Ab o_ ?_)
    | refine Ao (2*i+1) (Ab o_ ?_)
    | refine Ao i (Ab rfl ?_)
    | refine Ao _ (Ab g ?_)
    | refine Ao _ (Ab j ?_)
    | refine Ao _ (Ab k ?_)
    | refine .pure _ [] d ?_
    | refine .pure _ [] c ?_
    | refine aY ?_
    | refine aN ?_
    | refine aT λ h=>?_
    | refine aF λ h=>?_
    | refine Ab o_ ?_
    | refine Ab (by rw [Df];omega) ?_
    | refine Ab (Ab (by simp only [bW];omega) (by simp only [aW];omega)) ?_
    | refine aJ ?_
    | refine Ab d_ ?_
    | refine ⟨[],[0,1],⟨rfl,rfl⟩,⟨rfl,rfl⟩⟩
    | fail
   exact zqra2
def MH(n N:Nat)(p:n<=N)(q:N<=1048577)(R:a6)(x:Rn):∀ (f i:Nat) (ys:a6),ys.length=N->i<N->n<f+i+1->wX f ys n i=R->
  To (Er [] [105]) wV (.full 2 (.ret x.av) (hpO (.sub 1 0 0 n 14) 0 R)) (.head (stk wV 0) (ppF n i) (ppO n ys x.cs)):=by
 intro f;induction f with
 | zero=>
  intro i ys j w z b;have b:ys=R:=b;subst b;have o:(rav ys).length=ys.length:=by simp
  refine gV ?_;exact zW
 | succ f k=>
  intro i ys j w z b;have o:(rav ys).length=ys.length:=by simp
  unfold wX at b;by_cases e:2*i+1<n
  .rw [if_pos e] at b;have y:=WL ys n i e;have t:=DP (xs:=ys) (i:=i) o_;have s:=DP (xs:=ys) (i:=2*i+1) o_;have a:=Q1 (aR ys (gK ys n i)) (aR ys i);have u:=XY ys i (gK ys n i);have k:=k (gK ys n i) (qA ys i (gK ys n i)) (by rw [iZ];exact j) o_ o_;unfold ppO hpO at k;rw [u] at k;have d:∀ r,kG (aR ys (gK ys n i)) (aR ys i)=r->(r=false->ys=R)/\(r=true->wX f (qA ys i (gK ys n i)) n (gK ys n i)=R):=λ r m=>by
    subst m;refine ⟨λ h=>?_,λ h=>?_⟩
    .rw [if_neg (by rw [h];decide)] at b;exact b
    .rw [if_pos h] at b;exact b
   have d:=d _ rfl;generalize kG (aR ys (gK ys n i)) (aR ys i)=r at a d;have next:=λ m=>k (d.2 m)
   by_cases h3:2*i+2<n
   .have v:=DP (xs:=ys) (i:=2*i+2) o_;have c:=Q1 (aR ys (2*i+2)) (aR ys (2*i+1));by_cases g:kG (aR ys (2*i+2)) (aR ys (2*i+1))=true
    .have l:gK ys n i=2*i+2:=by unfold gK;rw [if_pos h3,if_pos g]
     rw [g] at c;rw [l] at next a
     exact aKg n N p q R x i ys j e h3 _ _ _ t s v c r a d.1 next
    .have g:kG (aR ys (2*i+2)) (aR ys (2*i+1))=false:=by simpa using g
     have l:gK ys n i=2*i+1:=by unfold gK;rw [if_pos h3,if_neg (by rw [g];decide)]
     rw [g] at c;rw [l] at next a
     exact aKh n N p q R x i ys j e h3 _ _ _ t s v c r a d.1 next
   .have l:gK ys n i=2*i+1:=by unfold gK;rw [if_neg h3]
    rw [l] at next a
    exact aKi n N p q R x i ys j e h3 _ _ t s r a d.1 next
  .rw [if_neg e] at b;subst b;refine gV ?_;exact zW
inductive HV(ys:a6):aa->Nat->Prop
 | row:HV ys (.row 1 0) ys.length
 | sub (n:Nat) (h:n<=ys.length):HV ys (.sub 1 0 0 n 14) n
def aKf(ys:a6)(hl:ys.length<=1048577)(o:aa)(n:Nat)(q:HV ys o n)(p:0<n):aq 229 [.ref 0 0] (hpO o 0 ys) (.ret (aR ys 0).av) (hpO (.sub 1 0 0 (n-1) 14) 0 (AN ys n)):=by
 have m:(rav ys).length=ys.length:=by simp
 cases q with
 | row=>
  have l:=iK (xs:=ys) (i:=0) o_;have d:=iK (xs:=ys) (i:=ys.length-1) o_;have c:((ys.length:Nat):Int)-1=((ys.length-1:Nat):Int):=o_
  obtain ⟨n,j⟩:∃ n,n=ys.length:=⟨_,rfl⟩
  rw [<-j] at d c p⊢;have k:((rav ys).length:Int)-1=((n-1:Nat):Int):=by rw [m,<-j];exact c
  have next:=MH (n-1) ys.length o_ o_ (AN ys n) (aR ys 0) n 0 (ys.set 0 (aR ys (n-1))) s_ o_ o_ rfl
  have e:rav (ys.set 0 (aR ys (n-1)))=(rav ys).set 0 (aR ys (n-1)).av:=by simp [rav,Gk]
  unfold ppO hpO at next
  rw [e] at next
  generalize aR ys 0=a at l next
  generalize aR ys (n-1)=b at d next
  refine cT (E:=(Er [] [105])) (fn:=Tryz.f229) (g:=.full 2 _ _) λ_=>?_
  repeat' first | (refine gN (hEr [] [105]) ?_;conv=>whnf) | refine ⟨0,rfl,?_⟩ | refine ⟨_,l,?_⟩ | refine Ao (n-1) (Ab k ?_) | refine ⟨_,d,?_⟩ | refine Ab (by rw [Df];omega) ?_ | exact rfl | refine zt ?_ | refine zu ?_ ?_ | intro h | fail
  rw [k];exact zqra2
 | sub _ h=>
  have l:=DP (xs:=ys) (i:=0) o_;have d:=DP (xs:=ys) (i:=n-1) o_;have c:((n:Nat):Int)-1=((n-1:Nat):Int):=o_;have next:=MH (n-1) ys.length o_ o_ (AN ys n) (aR ys 0) n 0 (ys.set 0 (aR ys (n-1))) s_ o_ o_ rfl
  have e:rav (ys.set 0 (aR ys (n-1)))=(rav ys).set (0+0) (aR ys (n-1)).av:=by simp [rav,Gk]
  unfold ppO hpO at next
  rw [e] at next
  generalize aR ys 0=a at l next
  generalize aR ys (n-1)=b at d next
  refine cT (E:=(Er [] [105])) (fn:=Tryz.f229) (g:=.full 2 _ _) λ_=>?_
  repeat' first | (refine gN (hEr [] [105]) ?_;conv=>whnf) | refine ⟨0,rfl,?_⟩ | refine ⟨_,l,?_⟩ | refine Ao (n-1) (Ab c ?_) | refine ⟨_,d,?_⟩ | refine Ab (by rw [Df];omega) ?_ | exact rfl | refine zt ?_ | refine zu ?_ ?_ | intro h | fail
  rw [c];exact zqra2
set_option maxRecDepth 10000
def nG:Nat->a6->a6
 | 0,_=>[]
 | n+1,ys=>aR ys 0::nG n (AN ys (n+1))
def gL(l:a6):a6:=nG l.length (l.foldl rJ [])
def CF:∀ (l ys:a6),(l.foldl rJ ys).length=ys.length+l.length
 | [],ys=>rfl
 | x::r,ys=>by rw [Ba,CF r,F3];simp;omega
def HV.inv{ys:a6}{a:aa}{n:Nat}(h:HV ys a n):(a= .row 1 0/\n=ys.length)\/(a= .sub 1 0 0 n 14/\n<=ys.length):=by
 cases h with
 | row=>exact .inl ⟨rfl,rfl⟩
 | sub _ h=>exact .inr ⟨rfl,h⟩
noncomputable abbrev aHK:Func:=Tryz.f180
def QS(R:a6):∀ (n:Nat) (ys:a6) (b:aa) (out:a6),HV ys b n->ys.length<=1048577->out.length+n<=1048576->out++nG n ys=R->
  To (Eo [6] []) aHK (.pure (.ret (.slice 14 (rav R) .no))) (.head (stk aHK 1) [(3,.ref 0 0),(6,.slice 14 (rav out) (.own 2 0))] (hpO b 0 ys++[.tail 0 14 48])):=by
 intro n;induction n with
 | zero=>
  intro ys b out c g j a;have a:out++[]=R:=a;rw [Au] at a;subst a;have f:(rav ys).length=ys.length:=by simp
  exact zqra3
 | succ n k=>
  intro ys b out c g j a;have f:(rav ys).length=ys.length:=by simp
  have hp:=aKf ys g b (n+1) c o_;have a:out++aR ys 0::nG n (AN ys (n+1))=R:=a;have d:n<=(AN ys (n+1)).length:=by rw [CH];rcases c.inv with ⟨_,h⟩ | ⟨_,h⟩<;>omega
  have next:=k (AN ys (n+1)) (.sub 1 0 0 n 14) (out++[aR ys 0]) (.sub n d) (by rw [CH];exact g) q_ (by rw [Ae];exact a)
  have e:rav (out++[aR ys 0])=rav out++[(aR ys 0).av]:=by simp
  rw [e] at next
  have l:(rav out).length=out.length:=by simp
  generalize aR ys 0=x at hp next
  have i:n+1-1=n:=o_;rw [i] at hp;generalize AN ys (n+1)=ys' at hp next
  exact zqra3
def QQ(l:a6)(hs:Sm l)(R:a6):∀ (m i:Nat) (ys:a6),i+m=l.length->ys.length=i->nG l.length ((l.drop i).foldl rJ ys)=R->
  To (Eo [6] []) aHK (.pure (.ret (.slice 14 (rav R) .no))) (.head (stk aHK 0) [(3,.ref 0 0),(9,.slice 14 (rav l) .no),(10,.int .i64 ((rav l).length:Nat)),(11,ii i)] (hpO (.row 1 0) 0 ys)):=by
 have e:(rav l).length=l.length:=by simp
 have hl:=hs.1;intro m;induction m with
 | zero=>
  intro i ys f g a;rw [Ai o_] at a;have a:nG l.length ys=R:=a;have next:=QS R l.length ys (.row 1 0) [] (by rw [show l.length=ys.length from by omega];exact .row) o_ q_ a
  refine gV ?_;exact zW
 | succ m h=>
  intro i ys f g a;have b:i<l.length:=o_;have d:=hs.at b;rw [Ag b,Ba] at a;generalize j:l[i]=x at a d;have get:(rav l)[i]? =some x.av:=(eX b).trans (by rw [j]);have next:=h (i+1) (rJ ys x) o_ (by rw [F3];omega) a
  have hp:=aGh ys o_ x;generalize rJ ys x=ys' at hp next
  refine gV ?_;have c:=AX x d;exact zW
def aB1(l:a6)(hs:Sm l):aq 180 [.slice 14 (rav l) .no] [] (.ret (.slice 14 (rav (gL l)) .no)) []:=by refine cT (E:=(Eo [6] [])) (fn:=Tryz.f180) (g:=.pure _) λ_=>gV ?_;refine To.beginRowH 0 0 48 rfl rfl ?_;have a:=QQ l hs _ l.length 0 [] o_ rfl rfl;exact zW
def lT(p:Int->Bool):aw->Nat->Int
 | [],_=> -1
 | x::r,i=>if p x=true then (i:Int) else lT p r (i+1)
def HC(p:Int->Bool):∀ (l:aw) (i:Nat),decide (0<=lT p l i)=l.any p
 | [],i=>by simp [lT]
 | x::r,i=>by
  unfold lT;rw [Gz];cases h:p x with
  | true=>simp
  | false=>simp [HC p r (i+1)]
def inB(v:Int)(l:aw):Bool:=l.any λ x=>v==x
noncomputable abbrev aJc:Func:=Tryz.f158
def YR(l:aw)(hl:l.length<=1048576)(v r:Int):∀ (m i:Nat),i+m=l.length->lT (λ x=>v==x) (l.drop i) i=r->
  To E aJc (.pure (.ret (ii r))) (.head (stk aJc 0) [(0,.slice 1 (iv l) .no),(1,ii v),(7,.int .i64 ((iv l).length:Nat)),(8,ii i)] []):=by
 have e:(iv l).length=l.length:=by simp
 intro m;induction m with
 | zero=>
  intro i f a;rw [Ai o_] at a;have a: -1=r:=a;subst a;refine gV ?_;exact zW
 | succ m c=>
  intro i f a;have b:i<l.length:=o_;rw [Ag b] at a;have get:=gM b;generalize l[i]=x at a get;unfold lT at a;have c:=c (i+1) o_;cases d:(v==x) with
  | true=>
   rw [if_pos d] at a;subst a;refine gV ?_;exact zW
  | false=>
   rw [if_neg (by rw [d];decide)] at a;have next:=c a
   refine gV ?_;exact zW
def aHh(l:aw)(hl:l.length<=1048576)(v:Int):aq 158 [.slice 1 (iv l) .no,ii v] [] (.ret (ii (lT (λ x=>v==x) l 0))) []:=by refine c_ Tryz.f158 λ_=>gV ?_;exact To.cut [0,1,7,8] 0 rfl rfl rfl rfl (YR l hl v _ l.length 0 o_ rfl)
def xA(l:aw)(hl:l.length<=1048576)(v:Int):aq 104 [.slice 1 (iv l) .no,ii v] [] (.ret (.bool (inB v l))) []:=by have h:=aHh l hl v;have e:=HC (λ x=>v==x) l 0;unfold inB;rw [<-e];generalize lT (λ x=>v==x) l 0=q at h;exact c_ Tryz.f104 λ_=>zW
def aE(l:a6)(ids:aw):a6:=l.filter λ x=>!(inB x.g.id ids)
def mL{x:Rn}{r:a6}{ids:aw}(h:inB x.g.id ids=false):aE (x::r) ids=x::aE r ids:=Fl (by rw [h];rfl)
def mM{x:Rn}{r:a6}{ids:aw}(h:inB x.g.id ids=true):aE (x::r) ids=aE r ids:=Fk (by rw [h];decide)
def oV{l:a6}(hs:Sm l)(ids:aw):Sm (aE l ids):=
 ⟨Cx (Hv _ _) hs.1,λ x a=>hs.2 x (Fg.1 a).1⟩
noncomputable abbrev fWo:Func:=Tryz.f70
def aEY(l:a6)(hs:Sm l)(ids:aw)(hd:ids.length<=1048576)(R:a6):∀ (m i:Nat) (a:a6),i+m=l.length->a.length<=i->a++aE (l.drop i) ids=R->
  To (Eo [5] []) fWo (.pure (.ret (.slice 14 (rav R) .no))) (.head (stk fWo 0) [(1,.slice 1 (iv ids) .no),(5,.slice 14 (rav a) (.own 0 0)),(8,.slice 14 (rav l) .no),(9,.int .i64 ((rav l).length:Nat)),(10,ii i)] [.tail 0 14 48]):=by
 have n:(rav l).length=l.length:=by simp
 have hl:=hs.1;intro m;induction m with
 | zero=>
  intro i a o q b;rw [Ai o_] at b;have b:a++[]=R:=b;rw [Au] at b;subst b;refine gV ?_;exact zW
 | succ m h=>
  intro i a o q b;have c:i<l.length:=o_;have k:=hs.at c;rw [Ag c] at b;generalize p:l[i]=x at b k;have get:(rav l)[i]? =some x.av:=(eX c).trans (by rw [p]);have r:(rav a).length=a.length:=by simp
  have j:=xA ids hd x.g.id;cases d:inB x.g.id ids with
  | true=>
   rw [d] at j;rw [mM d] at b;have next:=h (i+1) a o_ o_ b
   refine gV ?_;exact zW
  | false=>
   rw [d] at j;rw [mL d] at b;have next:=h (i+1) (a++[x]) o_ q_ (by rw [Ae];exact b)
   have e:rav (a++[x])=rav a++[x.av]:=by simp
   rw [e] at next
   refine gV ?_;have f:=AX x k;exact zW
def oW(l:a6)(hs:Sm l)(ids:aw)(hd:ids.length<=1048576):aq 70 [.slice 14 (rav l) .no,.slice 1 (iv ids) .no] [] (.ret (.slice 14 (rav (aE l ids)) .no)) []:=by refine cT (E:=(Eo [5] [])) (fn:=Tryz.f70) (g:=.pure _) λ_=>?_;have a:=aEY l hs ids hd _ l.length 0 [] o_ s_ rfl;exact zW
def GE{ns:bb}{t:Int}(h:bC ns t=true):0<=t/\t.toNat<ns.length:=by exact zqra0
def KY{c:Con}{t:Int}(h:0<=t/\t.toNat<c.ns.length):(nav c.ns)[t.toNat]? =some (cX c.ns t).av:=by unfold cX;rw [Aa h.2];exact kS h.2
def sE(c:Con)(a:a8)(t:Int)(need:V3):Bool:=if bC c.ns t=true then cQ (fP (atV a t) need) (cX c.ns t).n else false
def dY(c:Con)(a:a8)(t:Int):Bool:=if bC c.ns t=true then !cQ (atV a t) (cX c.ns t).n else false
def PO(c:Con)(a:a8)(t:Int)(need:V3)(r:Bool)(b:sE c a t need=r):aq 178 [c.av,.slice 3 (vav a) .no,ii t,need.av] [] (.ret (.bool r)) []:=by
 have h:=jL c t;unfold sE at b;cases d:bC c.ns t with
 | false=>
  rw [d] at h;rw [if_neg (by rw [d];decide)] at b;subst b;exact c_ Tryz.f178 λ_=>zW
 | true=>
  rw [d] at h;rw [if_pos d] at b;have i:=GE d;have k:t=(t.toNat:Int):=o_;have e:=KY (c:=c) i;generalize cX c.ns t=x at e b;have h1:=EJ a t;generalize atV a t=q1 at h1 b;have j:=iH q1 need;generalize fP q1 need=q2 at j b;have h3:=lD q2 x.n;rw [b] at h3;exact c_ Tryz.f178 λ_=>zW
def W4(c:Con)(a:a8)(t:Int)(need:V3):aq 178 [c.av,.slice 3 (vav a) .no,ii t,need.av] [] (.ret (.bool (sE c a t need))) []:=PO c a t need _ rfl
def O8(c:Con)(a:a8)(t:Int)(r:Bool)(b:dY c a t=r):aq 182 [c.av,.slice 3 (vav a) .no,ii t] [] (.ret (.bool r)) []:=by
 have h:=jL c t;unfold dY at b;cases d:bC c.ns t with
 | false=>
  rw [d] at h;rw [if_neg (by rw [d];decide)] at b;subst b;exact c_ Tryz.f182 λ_=>zW
 | true=>
  rw [d] at h;rw [if_pos d] at b;have i:=GE d;have j:t=(t.toNat:Int):=o_;have e:=KY (c:=c) i;generalize cX c.ns t=x at e b;have h1:=EJ a t;generalize atV a t=q1 at h1 b;have h3:=uZ q1 x.n;rw [b] at h3;exact c_ Tryz.f182 λ_=>zW
def SZ(c:Con)(a:a8)(t:Int):aq 182 [c.av,.slice 3 (vav a) .no,ii t] [] (.ret (.bool (dY c a t))) []:=O8 c a t _ rfl
def rT(c:Con)(l:a6)(g:Gan)(ids:aw):Bool:=(cG c (aE l ids) g).isSome
abbrev chO(c:Con)(l:a6)(g:Gan):au:=[.cells 26 c.cs,.cells 28 [.slice 14 (rav l) .no],.cells 43 g.cs]
def WU(c:Con)(d:c.sm)(l:a6)(hs:Sm l)(g:Gan)(e:0<=g.pods/\g.pods<=16)(ids:aw)(hd:ids.length<=1048576)(r:Bool)(a:rT c l g ids=r):
  aq 179 [.slice 1 (iv ids) .no,.ref 0 0,.ref 1 0,.ref 2 0] (chO c l g) (.ret (.bool r)) (chO c l g):=by
 have h:=oW l hs ids hd;have b:=wU c d (aE l ids) (oV hs ids) g e;unfold rT at a;generalize aE l ids=left at h b a;generalize cG c left g=Q at b a;subst a;unfold fdA at b;cases Q with
 | none=>
  exact zqra7
 | some x=>
  exact zqra7
abbrev Z0(c:Con)(used:a8):au:=[.cells 26 c.cs,.cells 51 [.slice 3 (vav used) .no]]
def aLI(c:Con)(a:a8)(x:Rn):aq 181 [x.av,.ref 0 0,.ref 1 0] (Z0 c a) (.ret (.bool (dY c a x.g.ten))) (Z0 c a):=by have b:=SZ c a x.g.ten;generalize dY c a x.g.ten=r at b;refine cT (E:=E) (fn:=Tryz.f181) (g:=.full 2 _ _) λ_=>?_;exact zW
def aEp(x a:Int):aq 184 [ii x,.ref 0 0] [.cells 3 [ii a]] (.ret (.bool (x==a))) [.cells 3 [ii a]]:=by refine cT (E:=E) (fn:=Tryz.f184) (g:=.full 1 _ _) λ_=>?_;exact zW
def aQ(p:Rn->Bool):a6->Nat->Int
 | [],_=> -1
 | x::r,i=>if p x=true then (i:Int) else aQ p r (i+1)
noncomputable abbrev HD:Func:=Tryz.f115
abbrev aNC:aa:=.func (.func 181) [] [.ref 0 0,.ref 1 0]
def YP(c:Con)(a:a8)(l:a6)(hl:l.length<=1048576)(r:Int):∀ (m i:Nat),i+m=l.length->aQ (λ x=>dY c a x.g.ten) (l.drop i) i=r->
  To E HD (.full 2 (.ret (ii r)) (Z0 c a)) (.head (stk HD 0) [(0,.slice 14 (rav l) .no),(1,aNC),(7,.int .i64 ((rav l).length:Nat)),(8,ii i)] (Z0 c a)):=by
 have j:(rav l).length=l.length:=by simp
 intro m;induction m with
 | zero=>
  intro i k b;rw [Ai o_] at b;have b: -1=r:=b;subst b;refine gV ?_;exact zW
 | succ m f=>
  intro i k b;have d:i<l.length:=o_;rw [Ag d] at b;have get:(rav l)[i]? =some l[i].av:=eX d;generalize l[i]=x at b get;unfold aQ at b;have h:=aLI c a x;have f:=f (i+1) o_;cases e:dY c a x.g.ten with
  | true=>
   rw [if_pos e] at b;rw [e] at h;subst b;refine gV ?_;exact zW
  | false=>
   rw [if_neg (by rw [e];decide)] at b;rw [e] at h;have next:=f b
   refine gV ?_;exact zW
def aHf(c:Con)(a:a8)(l:a6)(hl:l.length<=1048576):aq 115 [.slice 14 (rav l) .no,aNC] (Z0 c a) (.ret (ii (aQ (λ x=>dY c a x.g.ten) l 0))) (Z0 c a):=by refine cT (E:=E) (fn:=Tryz.f115) (g:=.full 2 _ _) λ_=>gV ?_;exact To.cut [0,1,7,8] 2 rfl rfl rfl rfl (YP c a l hl _ l.length 0 o_ rfl)
def HT(l:aw)(h:l.length<=1048576):aq 159 [.slice 1 (iv l) .no] [] (.ret (.row 0 0)) [.row 0 1 3 (iv l)]:=by
 have a:(iv l).length=l.length:=by simp
 refine cT (E:=(Er [2,5] [])) (fn:=Tryz.f159) (g:=.full 0 _ _) λ_=>gV ?_;intro b c;refine gV ?_;refine ⟨λ h=>?_,λ h=>?_⟩
 .refine gV ?_;refine ⟨[],[1],⟨rfl,rfl⟩,?_⟩;conv=>whnf
  rw [c (by simpa using h)];exact ⟨rfl,rfl⟩
 .refine gV ?_;refine ⟨⟨by simp only [maxLen];simp;omega,by simp;omega⟩,?_⟩;refine gV ?_;refine ⟨[],[1],⟨rfl,rfl⟩,?_⟩;exact ⟨rfl,rfl⟩
abbrev aEq:aa:=.func (.func 184) [] [.ref 1 0]
abbrev dlO(l:aw)(a:Int):au:=[.row 0 1 3 (iv l),.cells 3 [ii a]]
noncomputable abbrev aJd:Func:=Tryz.f231
def YS(l:aw)(hl:l.length<=1048576)(a r:Int):∀ (m i:Nat),i+m=l.length->lT (λ x=>x==a) (l.drop i) i=r->
  To E aJd (.full 2 (.ret (ii r)) (dlO l a)) (.head (stk aJd 0) [(0,.row 0 0),(1,aEq),(7,.int .i64 ((iv l).length:Nat)),(8,ii i)] (dlO l a)):=by
 have g:(iv l).length=l.length:=by simp
 intro m;induction m with
 | zero=>
  intro i h b;rw [Ai o_] at b;have b: -1=r:=b;subst b;refine gV ?_;exact zW
 | succ m e=>
  intro i h b;have c:i<l.length:=o_;rw [Ag c] at b;have get:=gM c;generalize l[i]=x at b get;unfold lT at b;have f:=aEp x a;have e:=e (i+1) o_;cases d:(x==a) with
  | true=>
   rw [if_pos d] at b;rw [d] at f;subst b;refine gV ?_;exact zW
  | false=>
   rw [if_neg (by rw [d];decide)] at b;rw [d] at f;have next:=e b
   refine gV ?_;exact zW
def VD(l:aw)(hl:l.length<=1048576)(a:Int):aq 231 [.row 0 0,aEq] (dlO l a) (.ret (ii (lT (λ x=>x==a) l 0))) (dlO l a):=by refine cT (E:=E) (fn:=Tryz.f231) (g:=.full 2 _ _) λ_=>gV ?_;exact To.cut [0,1,7,8] 2 rfl rfl rfl rfl (YS l hl a _ l.length 0 o_ rfl)
def eW(l:aw)(a:Int):aw:=l.filter λ x=>!(x==a)
def N9(p:Int->Bool):∀ (l:aw) (i:Nat),l.any p=false->lT p l i= -1
 | [],i,_=>rfl
 | x::r,i,h=>by rw [Gz,Kf] at h;unfold lT;rw [if_neg (by rw [h.1];decide)];exact N9 p r (i+1) h.2
def HB(p:Int->Bool):∀ (l:aw) (i:Nat),l.any p=true->∃ k,k<l.length/\lT p l i=((i+k:Nat):Int)/\(∀ x∈l.take k,p x=false)/\∃ x,l[k]? =some x/\p x=true
 | [],i,h=>by simp at h
 | x::r,i,h=>by
  unfold lT;cases a:p x with
  | true=>exact ⟨0,by simp,by rw [if_pos rfl];simp,by simp,x,rfl,a⟩
  | false=>
   rw [Gz,a,Mv] at h;obtain ⟨k,h1,b,h3,y,c,d⟩:=HB p r (i+1) h;refine ⟨k+1,by simp;omega,?_,λ z hz=>?_,y,by simpa using c,d⟩
   .rw [if_neg d_,b];congr 1;omega
   .simp only [List.take_succ_cons,Bc] at hz;rcases hz with rfl | hz
    .exact a
    .exact h3 z hz
def aLx(l:aw)(hl:l.length<=1048576)(a:Int)(h:(l.any λ x=>x==a)=false):aq 183 [.row 0 0,aEq] (dlO l a) (.ret (.row 0 0)) (dlO l a):=by have b:=VD l hl a;rw [N9 _ l 0 h] at b;exact zqra8
noncomputable abbrev aNh:Func:=Tryz.f183
abbrev aNo(z:ax)(a:Int):au:=[.row 0 1 3 z,.cells 3 [ii a]]
def aKM(l:aw)(i:Nat)(x:Int):(iv l).set i (ii x)=iv (l.set i x):=by simp [iv,Gk]
def aD6(l:aw)(hl:l.length<=1048576)(a:Int)(R:aw):∀ (m j i:Nat) (z:aw),j+m=l.length->i<j->z.length=l.length->z.drop j=l.drop j->z.take i++eW (l.drop j) a=R->
  To E aNh (.full 2 (.ret (.sub 0 0 0 R.length 1)) (aNo (iv R++Aj (l.length-R.length) (ii 0)) a)) (.head (stk aNh 0) [(0,.row 0 0),(1,aEq),(5,ii i),(6,ii j)] (dlO z a)):=by
 intro m;induction m with
 | zero=>
  intro j i z w s hz hd b;have d:(iv z).length=z.length:=by simp
  rw [Ai o_] at b;have b:z.take i++[]=R:=b;rw [Au] at b;have k:R.length=i:=by rw [<-b];simp;omega
  have e:(iv z).take i=iv R:=by rw [<-b];simp
  rw [k];refine gV ?_;refine aF λ h=>?_
  repeat' first | (refine gN hE ?_;conv=>whnf) | refine ⟨i,rfl,?_⟩ | exact rfl | refine zt ?_ | refine zu ?_ ?_ | intro h | fail
  refine Ab q_ (gV ?_);refine ⟨[],[0,1],⟨rfl,rfl⟩,?_⟩;conv=>whnf
  refine ⟨rfl,?_⟩;have v:Hc (i+((iv z).length-i)) (iv z)=[]:=Ai o_;have u:Hr i (iv z)++Aj ((iv z).length-i) (ii 0)++Hc (i+((iv z).length-i)) (iv z)=iv R++Aj (l.length-i) (ii 0):=by rw [e,v,Au,d,hz]
  exact congrArg (λ l=>[ab.row 0 1 3 l,.cells 3 [ii a]]) u
 | succ m n=>
  intro j i z w s hz hd b;have d:(iv z).length=z.length:=by simp
  have c:j<l.length:=o_;rw [Ag c] at b;have f:z[j]? =some l[j]:=by have:=congrArg (λ q=>q[0]?) hd;simpa [Bo,Aa c] using this
  have get:(iv z)[j]? =some (ii l[j]):=by simp [f]
  have g:z.drop (j+1)=l.drop (j+1):=by have:=congrArg (Hc 1) hd;rwa [Hf,Hf] at this
  generalize l[j]=x at b get f;have p:=aEp x a;unfold eW at b;rw [Hh] at b;cases o:(x==a) with
  | true=>
   rw [o] at p b;have next:=n (j+1) i z o_ o_ hz g b
   refine gV ?_;exact zW
  | false=>
   rw [o] at p b
   have next:=n (j+1) (i+1) (z.set i x) o_ o_ (by simp;exact hz) (by rw [List.drop_set_of_lt o_];exact g) (by
    have r:(z.set i x).take (i+1)=z.take i++[x]:=by rw [Lg,Aq o_,List.take_set_of_le (Bf _)];rfl
    rw [r,Ae]
    exact b)
   unfold dlO at next
   rw [<-aKM] at next
   refine gV ?_;exact zW
def aIi(l:aw)(hl:l.length<=1048576)(a:Int)(h:(l.any λ x=>x==a)=true):aq 183 [.row 0 0,aEq] (dlO l a) (.ret (.sub 0 0 0 (eW l a).length 1)) (aNo (iv (eW l a)++Aj (l.length-(eW l a).length) (ii 0)) a):=by
 have b:=VD l hl a;obtain ⟨k,h1,j,h3,x,c,d⟩:=HB (λ x=>x==a) l 0 h;rw [j] at b;rw [Bw] at b;have m:((k:Int)== -1)=false:=by simp
 have next:=aD6 l hl a (eW l a) (l.length-(k+1)) (k+1) k l o_ o_ rfl rfl (by
  conv=>rhs;rw [<-Bp k l]
  have o:x=a:=by simpa using d
  have e:l.drop k=x::l.drop (k+1):=by rw [Ag h1];rw [Aa h1] at c;cases c;rfl
  unfold eW;rw [List.filter_append,e,Hh,d];have n:(l.take k).filter (λ x=>!(x==a))=l.take k:=Gj.2 λ y i=>by rw [h3 y i];rfl
  rw [n]
  rfl)
 exact zqra8
def rQ{xs:a6}{i:Nat}(h:i<xs.length):aR xs i∈xs:=by unfold aR;rw [Aa h];exact Bd h
def FR{xs:a6}{i k:Nat}(b:i<xs.length)(a:k<xs.length){y:Rn}(h:y∈qA xs i k):y∈xs:=by
 unfold qA at h;rcases Db h with h | rfl
 .rcases Db h with h | rfl
  .exact h
  .exact rQ a
 .exact rQ b
def TJ{y:Rn}:∀ (f:Nat) (xs:a6) (i:Nat),i<xs.length->y∈upH f xs i->y∈xs
 | 0,xs,i,_,h=>h
 | f+1,xs,i,hi,h=>by
  unfold upH at h;split at h
  .exact h
  .split at h
   .exact FR hi o_ (TJ f _ _ (by rw [iZ];omega) h)
   .exact h
def X1{xs:a6}{x y:Rn}(h:y∈rJ xs x):y∈xs\/y=x:=by have:=TJ _ _ _ s_ h;simpa using this
def CE{y:Rn}:∀ (l xs:a6),y∈l.foldl rJ xs->y∈xs\/y∈l
 | [],xs,h=>.inl h
 | x::r,xs,h=>by
  rcases CE r _ h with h | h
  .rcases X1 h with h | rfl
   .exact .inl h
   .exact .inr s_
  .exact .inr (by simp [h])
def HN{y:Rn}:∀ (f:Nat) (xs:a6) (n i:Nat),n<=xs.length->i<xs.length->y∈wX f xs n i->y∈xs
 | 0,xs,n,i,_,_,h=>h
 | f+1,xs,n,i,hn,hi,h=>by
  unfold wX at h;split at h
  .rename_i a;have b:=WL xs n i a;split at h
   .exact FR hi o_ (HN f _ n _ (by rw [iZ];exact hn) (by rw [iZ];omega) h)
   .exact h
  .exact h
def aBP{xs:a6}{n:Nat}(b:0<n)(a:n<=xs.length){y:Rn}(h:y∈AN xs n):y∈xs:=by
 unfold AN at h;have:=HN n (xs.set 0 (aR xs (n-1))) (n-1) 0 q_ q_ h;rcases Db this with h | rfl
 .exact h
 .exact rQ o_
def CI{y:Rn}:∀ (n:Nat) (xs:a6),n<=xs.length->y∈nG n xs->y∈xs
 | 0,xs,_,h=>by cases h
 | n+1,xs,hn,h=>by
  unfold nG at h;rcases Bc.1 h with rfl | h
  .exact rQ o_
  .exact aBP o_ hn (CI n _ (by rw [CH];omega) h)
def F6{l:a6}{y:Rn}(h:y∈gL l):y∈l:=by
 unfold gL at h;have:=CI _ _ (by rw [CF];simp) h;rcases CE l [] this with h | h
 .cases h
 .exact h
def CJ:∀ (n:Nat) (xs:a6),(nG n xs).length=n
 | 0,xs=>rfl
 | n+1,xs=>by unfold nG;rw [Al,CJ n]
def CN(l:a6):(gL l).length=l.length:=CJ _ _
def aB0{l:a6}(h:Sm l):Sm (gL l):=⟨by rw [CN];exact h.1,λ x a=>h.2 x (F6 a)⟩
def DU(p:Rn->Bool):∀ (l:a6) (i:Nat),aQ p l i= -1\/∃ k,k<l.length/\aQ p l i=((i+k:Nat):Int)/\p (aR l k)=true
 | [],i=>.inl rfl
 | x::r,i=>by
  unfold aQ;cases a:p x with
  | true=>exact .inr ⟨0,by simp,by rw [if_pos rfl];simp,a⟩
  | false=>
   rw [if_neg d_];rcases DU p r (i+1) with h | ⟨k,h1,b,h3⟩
   .exact .inl h
   .refine .inr ⟨k+1,by simp;omega,by rw [b];congr 1;omega,?_⟩;unfold aR at h3⊢;simpa using h3
def atI(c:Con)(l:a6)(ids:aw):Int:=aQ (λ x=>dY c (ofL c (aE l ids)) x.g.ten) (gL (aE l ids)) 0
def US(c:Con)(l:a6)(ids:aw):Option Int:=if atI c l ids<0 then none else some (aR (gL (aE l ids)) (atI c l ids).toNat).g.id
def chA(c:Con)(l:a6)(g:Gan):Nat->aw->Option aw
 | 0,_=>none
 | f+1,ids=>if rT c l g ids=true then some ids else match US c l ids with
  | none=>none
  | some n=>chA c l g f (ids++[n])
def chS(c:Con)(l:a6)(g:Gan)(ids:aw)(a:Int):aw:=if rT c l g (eW ids a)=true then eW ids a else ids
def gI(c:Con)(l:a6)(g:Gan):Option aw:=if sE c (ofL c l) g.ten (dem g)=true then (match chA c l g (l.length+1) [] with
 | none=>none
 | some ids=>some (ids.foldl (chS c l g) ids)) else none
def chR:Option aw->aa
 | some ids=>.tup [.slice 1 (iv ids) .no,.bool true]
 | none=>.tup [.slice 1 [] .no,.bool false]
def GB{c:Con}{l:a6}{ids:aw}{n:Int}(h:US c l ids=some n):∃ x∈aE l ids,x.g.id=n/\dY c (ofL c (aE l ids)) x.g.ten=true:=by
 unfold US at h;split at h
 .cases h
 .rename_i b;cases h;rcases DU (λ x=>dY c (ofL c (aE l ids)) x.g.ten) (gL (aE l ids)) 0 with h1 | ⟨k,h1,a,h3⟩
  .exact absurd (show atI c l ids<0 from by unfold atI;rw [h1];decide) b
  .refine ⟨_,F6 (rQ ?_),rfl,?_⟩
   .unfold atI;rw [a];simpa using h1
   .unfold atI;rw [a];simpa using h3
def H7(l:a6)(ids:aw)(n:Int):aE l (ids++[n])=(aE l ids).filter λ x=>!(x.g.id==n):=by unfold aE;rw [List.filter_filter];refine List.filter_congr λ x _=>?_;unfold inB;rw [List.any_append];simp only [Gz,List.any_nil,Bool.or_false];cases (ids.any λ y=>x.g.id==y)<;>cases (x.g.id==n)<;>rfl
def H8{l:a6}{ids:aw}{n:Int}(h:∃ x∈aE l ids,x.g.id=n):(aE l (ids++[n])).length<(aE l ids).length:=by obtain ⟨x,a,b⟩:=h;rw [H7];generalize aE l ids=q at a;refine Nat.lt_of_le_of_ne (Hv _ _) λ e=>?_;have:=List.length_filter_eq_length_iff.1 e x a;simp [b] at this
def YH(l:aw)(a:Int):(eW l a).length<=l.length:=Hv _ _
abbrev aND:aa:=.func (.func 179) [] [.ref 0 0,.ref 1 0,.ref 2 0]
noncomputable abbrev fCh:Func:=Tryz.f136
abbrev cbF(ids all:aw)(i:Int):ar:=[(8,aND),(9,.slice 1 (iv ids) .no),(54,.slice 1 (iv all) .no),(55,.int .i64 ((iv all).length:Nat)),(56,ii i)]
def aLJ(c:Con)(l:a6)(g:Gan)(a:Int)(z:ax):aj [4] (chO c l g++[.cells 3 [ii a],.row 0 1 3 z])=chO c l g++[.cells 3 [ii a],.frow 0 1 z]:=by kernel_rfl
def aIB(c:Con)(l:a6)(g:Gan)(a:Int)(z:ax)(n:Nat)(ids all:aw)(i:Int):wP [15] (aB (chO c l g++[.cells 3 [ii a],.frow 0 1 z])) ((15,.sub 4 0 0 n 1)::cbF ids all i)=(15,.slice 1 ((z.drop 0).take n) .no)::cbF ids all i:=by kernel_rfl
def aIC(c:Con)(l:a6)(g:Gan)(a:Int)(z:ax)(ids all:aw)(i:Int):wP [15] (aB (chO c l g++[.cells 3 [ii a],.frow 0 1 z])) ((15,.row 4 0)::cbF ids all i)=(15,.slice 1 z .no)::cbF ids all i:=by kernel_rfl
def WV{G:Goal}{ks:bf}(c:Con)(l:a6)(g:Gan)(a:Int)(z:ax)(fr:ar){b:ar}(d:wP [15] (aB (chO c l g++[.cells 3 [ii a],.frow 0 1 z])) fr=b)
  (h:To (Eo [9] []) fCh G (.code ks b (chO c l g++[.cells 3 [ii a],.frow 0 1 z]))):To (Eo [9] []) fCh G (.code ks fr (chO c l g++[.cells 3 [ii a],.row 0 1 3 z])):=by
 refine To.frz [15] [4] ?_;rw [aLJ,d];exact h
def aEl(c:Con)(s:c.sm)(l:a6)(hs:Sm l)(g:Gan)(r:0<=g.pods/\g.pods<=16)(all:aw)(u:all.length<=1048576)(R:aw):∀ (m i:Nat) (ids:aw),i+m=all.length->ids.length<=1048576->(all.drop i).foldl (chS c l g) ids=R->
  To (Eo [9] []) fCh (.pure (.ret (.tup [.slice 1 (iv R) .no,.bool true]))) (.head (stk fCh 1) (cbF ids all i) (chO c l g)):=by
 have o:(iv all).length=all.length:=by simp
 intro m;induction m with
 | zero=>
  intro i ids p hd b;rw [Ai o_] at b;have b:ids=R:=b;subst b;refine gV ?_;exact zW
 | succ m j=>
  intro i ids p hd b;have k:i<all.length:=o_;rw [Ag k,Ba] at b;have get:=gM k;generalize all[i]=a at b get;have j:=j (i+1);have t:=YH ids a;have h1:=WU c s l hs g r (eW ids a) o_ _ rfl;have n:chS c l g ids a=if rT c l g (eW ids a)=true then eW ids a else ids:=rfl
  rw [n] at b;cases hp:(ids.any λ x=>x==a) with
  | true=>
   have d:=aIi ids hd a hp;generalize hz:iv (eW ids a)++Aj (ids.length-(eW ids a).length) (ii 0)=z at d;have f:(z.drop 0).take (eW ids a).length=iv (eW ids a):=by rw [<-hz,Cg,Cz s_,Cd s_]
   refine gV ?_;refine aT λ h=>?_
   repeat' first | (refine gN (hEo [9] []) ?_;conv=>whnf) | refine ⟨i,rfl,?_⟩ | refine ⟨_,get,?_⟩ | refine .pure _ [_] (HT ids hd) ?_ | exact rfl | refine zt ?_ | refine zu ?_ ?_ | intro h | fail
   refine .eff [] [4,3] _ _ rfl d ?_;refine cJ (hEo [9] []) 5 ?_;conv=>whnf
   refine To.cutC [15,8,9,54,55,56] 5 rfl rfl rfl rfl ?_;refine WV c l g a _ _ (aIB c l g a z _ ids all i) ?_;rw [f];cases e:rT c l g (eW ids a) with
   | true=>
    exact zqra9
   | false=>
    exact zqra5
  | false=>
   have d:=aLx ids hd a hp;have f:iv ids=iv (eW ids a):=by
    have:eW ids a=ids:=Gj.2 λ y q=>by have:=(List.any_eq_false.1 hp) y q;simpa using this
    rw [this]
   refine gV ?_;refine aT λ h=>?_
   repeat' first | (refine gN (hEo [9] []) ?_;conv=>whnf) | refine ⟨i,rfl,?_⟩ | refine ⟨_,get,?_⟩ | refine .pure _ [_] (HT ids hd) ?_ | exact rfl | refine zt ?_ | refine zu ?_ ?_ | intro h | fail
   refine .eff [] [4,3] _ _ rfl d ?_;refine cJ (hEo [9] []) 5 ?_;conv=>whnf
   refine To.cutC [15,8,9,54,55,56] 5 rfl rfl rfl rfl ?_;refine WV c l g a _ _ (aIC c l g a (iv ids) ids all i) ?_;rw [f];cases e:rT c l g (eW ids a) with
   | true=>
    exact zqra9
   | false=>
    exact zqra5
def chB(c:Con)(l:a6)(g:Gan):Option aw->Option aw
 | none=>none
 | some ids=>some (ids.foldl (chS c l g) ids)
abbrev caF(ids:aw):ar:=[(3,.ref 0 0),(4,.ref 1 0),(5,.ref 2 0),(8,aND),(9,.slice 1 (iv ids) (.own 3 0))]
def aEm(c:Con)(D:c.sm)(l:a6)(hs:Sm l)(g:Gan)(G:0<=g.pods/\g.pods<=16)(R:Option aw):∀ (f:Nat) (ids:aw),(aE l ids).length<f->ids.length+(aE l ids).length<=l.length->chB c l g (chA c l g f ids)=R->
  To (Eo [9] []) fCh (.pure (.ret (chR R))) (.head (stk fCh 0) (caF ids) (chO c l g++[.tail 0 1 3])):=by
 have hl:=hs.1;intro f;induction f with
 | zero=>intro ids h;omega
 | succ f L=>
  intro ids M H m;have I:(iv ids).length=ids.length:=by simp
  have h1:=WU c D l hs g G ids o_ _ rfl;have u:=oW l hs ids o_;have hsl:=oV hs ids;have i:=CW c D (aE l ids) hsl.1;have j:=aB1 (aE l ids) hsl;have a:=aHf c (ofL c (aE l ids)) (gL (aE l ids)) (aB0 hsl).1;have F:aQ (λ x=>dY c (ofL c (aE l ids)) x.g.ten) (gL (aE l ids)) 0=atI c l ids:=rfl;rw [F] at a;unfold chA at m;cases v:rT c l g ids with
  | true=>
   rw [if_pos v] at m;rw [v] at h1;have m:some (ids.foldl (chS c l g) ids)=R:=m;subst m;have J:=yP ids o_;have next:=aEl c D l hs g G ids o_ _ ids.length 0 ids o_ o_ rfl
   refine gV ?_;exact zW
  | false=>
   rw [if_neg (by rw [v];decide)] at m;rw [v] at h1;have b:US c l ids=if atI c l ids<0 then none else some (aR (gL (aE l ids)) (atI c l ids).toNat).g.id:=rfl
   have s:=λ n=>GB (c:=c) (l:=l) (ids:=ids) (n:=n);by_cases d:atI c l ids<0
   .rw [if_pos d] at b;rw [b] at m;have m:none=R:=m;subst m;generalize atI c l ids=q at a d;generalize ofL c (aE l ids)=us at i a;generalize gL (aE l ids)=o at j a;generalize aE l ids=left at u i j;refine gV ?_
    repeat' first | (refine gN (hEo [9] []) ?_;conv=>whnf) | refine .eff [] [0,1,2] _ _ rfl h1 ?_ | refine .pure _ [] u ?_ | refine .pure _ [] i ?_ | refine .pure _ [] j ?_ | refine .eff [] [0,4] _ _ rfl a ?_ | exact rfl | refine zt ?_ | refine zu ?_ ?_ | intro h | fail
   .rw [if_neg d] at b;obtain ⟨k,r,B⟩:∃ k:Nat,k<(gL (aE l ids)).length/\atI c l ids=(k:Int):=by
     rcases DU (λ x=>dY c (ofL c (aE l ids)) x.g.ten) (gL (aE l ids)) 0 with h | ⟨k,h1,K,_⟩
     .exact absurd (show atI c l ids<0 from by unfold atI;rw [h];decide) d
     .exact ⟨k,h1,by unfold atI;rw [K];simp⟩
    rw [B] at b a;rw [Bn] at b;have get:=iK r;have A:=s _ b;obtain ⟨y,w,z,_⟩:=A;have C:=H8 ⟨y,w,z⟩;rw [b] at m;generalize aR (gL (aE l ids)) k=x at get m C;have next:=L (ids++[x.g.id]) o_ q_ m
    have e:iv (ids++[x.g.id])=iv ids++[ii x.g.id]:=by simp
    unfold caF at next
    rw [e] at next
    have p:=CN (aE l ids);generalize ofL c (aE l ids)=us at i a;generalize gL (aE l ids)=o at j a get r p;generalize aE l ids=left at u i j H p;refine gV ?_
    repeat' first | (refine gN (hEo [9] []) ?_;conv=>whnf) | refine .eff [] [0,1,2] _ _ rfl h1 ?_ | refine .pure _ [] u ?_ | refine .pure _ [] i ?_ | refine .pure _ [] j ?_ | refine .eff [] [0,4] _ _ rfl a ?_ | refine ⟨k,rfl,?_⟩ | refine ⟨_,get,?_⟩ | refine ⟨⟨by simp only [maxLen];simp;omega,by simp;omega⟩,?_⟩ | exact rfl | refine zt ?_ | refine zu ?_ ?_ | intro h | fail
    exact zW
def fR(l:a6):aE l []=l:=Gj.2 λ x _=>rfl
def ST(c:Con)(e:c.sm)(l:a6)(hs:Sm l)(g:Gan)(h:0<=g.pods/\g.pods<=16)(R:Option aw)(a:gI c l g=R):aq 136 [c.av,.slice 14 (rav l) .no,g.av] [] (.ret (chR R)) []:=by
 have i:=CW c e l hs.1;have hd:=R9 g;have d:=W4 c (ofL c l) g.ten (dem g);unfold gI at a;cases b:sE c (ofL c l) g.ten (dem g) with
 | false=>
  rw [if_neg (by rw [b];decide)] at a;rw [b] at d;subst a;exact zqra6
 | true=>
  rw [if_pos b] at a;rw [b] at d;have next:=aEm c e l hs g h R (l.length+1) [] (by rw [fR];omega) (by rw [fR];simp) (by rw [<-a];unfold chB;split<;>rfl)
  exact zqra6
def ZV(c:Con)(a:c.sm)(l:a6)(hs:Sm l)(g:Gan)(b:0<=g.pods/\g.pods<=16):aq 136 [c.av,.slice 14 (rav l) .no,g.av] [] (.ret (chR (gI c l g))) []:=ST c a l hs g b _ rfl
def V3.le(a b:V3):Prop:=a.a<=b.a/\a.b<=b.b/\a.c<=b.c
def V3.farB(a:V3):Prop:=(0<=a.a/\a.a<=1099511627776)/\(0<=a.b/\a.b<=1099511627776)/\(0<=a.c/\a.c<=1099511627776)
def sZ{a b d:Int}(h:a<=b):iV a d<=iV b d:=by unfold iV gU;omega
def BI{a d:Int}(b:0<=a)(h1:a<=1099511627776)(hd:0<=d):a<=iV a d:=by unfold iV gU;omega
def KQ{a d:Int}(b:0<=a)(hd:0<=d):0<=iV a d/\iV a d<=1099511627776:=by unfold iV gU;omega
def W8{a b:V3}(d:V3)(h:a.le b):(fP a d).le (fP b d):=⟨sZ h.1,sZ h.2.1,sZ h.2.2⟩
def V3.pos(d:V3):Prop:=0<=d.a/\0<=d.b/\0<=d.c
def aE2{a d:V3}(h:a.farB)(hd:d.pos):a.le (fP a d):=⟨BI h.1.1 h.1.2 hd.1,BI h.2.1.1 h.2.1.2 hd.2.1,BI h.2.2.1 h.2.2.2 hd.2.2⟩
def aAl{a d:V3}(h:a.farB)(hd:d.pos):(fP a d).farB:=⟨KQ h.1.1 hd.1,KQ h.2.1.1 hd.2.1,KQ h.2.2.1 hd.2.2⟩
def V3.le.trans{a b c:V3}(h:a.le b)(k:b.le c):a.le c:=⟨Fe h.1 k.1,Fe h.2.1 k.2.1,Fe h.2.2 k.2.2⟩
def vC{a b:V3}:cQ a b=true↔a.le b:=by
 obtain ⟨g,d,f⟩:=a;obtain ⟨e,h,i⟩:=b;unfold cQ V3.le;by_cases h1:e<g
 .first | (simp [h1];done) | (simp [h1];omega)
 by_cases c:h<d
 .first | (simp [h1,c];done) | (simp [h1,c];omega)
 by_cases h3:i<f
 .first | (simp [h1,c,h3];done) | (simp [h1,c,h3];omega)
 first | (simp [h1,c,h3];done) | (simp [h1,c,h3];omega)
def oX(c:Con)(j:Nat)(v:V3)(x:Rn):V3:=if bC c.ns x.g.ten=true/\(j:Int)∈upL c.ns x.g.ten then fP v (dem x.g) else v
def H2(v:V3)(j:Nat):∀ (ks:aw) (xs:a8),ks.Nodup->(∀ k∈ks,0<=k)->(ks.foldl (FF v) xs)[j]? =if (j:Int)∈ks then (xs[j]?).map λ x=>fP x v else xs[j]?
 | [],xs,_,_=>by simp
 | k::r,xs,b,h0=>by
  have b:=Bx.1 b;have d:=h0 k s_;rw [Ba,H2 v j r _ b.2 λ x c=>h0 x (by simp [c]),oP];by_cases h1:(j:Int)=k
  .have a:(j:Int)∉r:=by rw [h1];exact b.1
   rw [if_neg a,if_pos o_,if_pos (by simp [h1])]
  .have e:(j:Int)∈k::r↔(j:Int)∈r:=by simp [h1]
   by_cases a:(j:Int)∈r
   .rw [if_pos a,if_neg o_,if_pos (e.2 a)]
   .rw [if_neg a,if_neg o_,if_neg (λ h=>a (e.1 h))]
def aBn(c:Con)(xs:a8)(x:Rn)(j:Nat):(QB c xs x)[j]? =(xs[j]?).map λ v=>oX c j v x:=by
 unfold QB oX;cases d:bC c.ns x.g.ten with
 | false=>rw [if_neg d_];simp
 | true=>
  rw [if_pos rfl];have a:(fF c.ns x.g.ten).Nodup:=by unfold fF;exact List.pairwise_reverse.2 ((PX c.ns _ _).imp λ h=>by omega)
  have hm:(j:Int)∈fF c.ns x.g.ten↔(j:Int)∈upL c.ns x.g.ten:=Ij;rw [H2 _ _ _ _ a λ k b=>(PY _ _ _ _ (Ij.1 b)).1];by_cases h:(j:Int)∈upL c.ns x.g.ten
  .rw [if_pos (hm.2 h)];simp [h]
  .rw [if_neg (λ q=>h (hm.1 q))];simp [h]
def aB7(c:Con)(j:Nat):∀ (l:a6) (xs:a8),(l.foldl (QB c) xs)[j]? =(xs[j]?).map λ v=>l.foldl (oX c j) v
 | [],xs=>by simp
 | x::r,xs=>by rw [Ba,aB7 c j r,aBn,Option.map_map];rfl
def zO{c:Con}{t:Int}(h:0<=t/\t.toNat<c.ns.length)(l:a6):atV (ofL c l) t=l.foldl (oX c t.toNat) V3.zero:=by unfold atV;rw [if_neg (by rw [decide_eq_false o_];decide),<-aMD];unfold aJ1;rw [aB7,Ei,if_pos h.2];rfl
def vG{c:Con}{j:Nat}(p:Rn->Bool):∀ (l:a6) (a b:V3),(∀ x∈l,(dem x.g).pos)->a.le b->b.farB->((l.filter p).foldl (oX c j) a).le (l.foldl (oX c j) b)/\(l.foldl (oX c j) b).farB
 | [],a,b,_,h,hf=>⟨h,hf⟩
 | x::r,a,b,hd,h,hf=>by
  have f:=hd x s_;have e:(oX c j b x).farB:=by unfold oX;split;exact aAl hf f;exact hf
  rw [Ba,Hh];cases p x with
  | true=>
   rw [if_pos rfl,Ba];refine vG p r _ _ (λ y d=>hd y (by simp [d])) ?_ e;unfold oX;split
   .exact W8 _ h
   .exact h
  | false=>
   rw [if_neg d_];refine vG p r _ _ (λ y d=>hd y (by simp [d])) ?_ e;unfold oX;split
   .exact h.trans (aE2 hf f)
   .exact h
def KU:V3.zero.farB:=by unfold V3.farB V3.zero;decide
def C9(a:V3):a.le a:=⟨Dd _,Dd _,Dd _⟩
def aIh{g:Gan}(a:bI g.need=true)(j:0<=g.pods/\g.pods<=16):(dem g).pos:=by
 unfold bI at a;simp only [Ad,decide_eq_true_eq] at a;obtain ⟨⟨⟨c,f⟩,b,k⟩,d,h⟩:=a;have key:∀ x,0<=x->0<=aCk x g.pods:=λ x i=>by have e:0<=gU x 1099511627776*gU g.pods 1048576:=Ky (by unfold gU;omega) (by unfold gU;omega);unfold aCk;generalize gU x 1099511627776*gU g.pods 1048576=q at e;unfold gU;omega
 exact ⟨key _ c,key _ b,key _ d⟩
def Was(c:Con)(l:a6)(n:Int):Prop:=∃ (ids:aw) (x:Rn),x∈l/\x.g.id=n/\dY c (ofL c (aE l ids)) x.g.ten=true
def A9{v:Int}{l:aw}:inB v l=true↔v∈l:=by unfold inB;simp
def jR{l:a6}{ids:aw}{x:Rn}:x∈aE l ids↔x∈l/\x.g.id∉ids:=by unfold aE;rw [Fg];refine and_congr Nh ?_;rw [<-A9];cases inB x.g.id ids<;>simp
def O0{c:Con}{l:a6}{g:Gan}{R:aw}:∀ (f:Nat) (ids:aw),ids.Nodup->(∀ n∈ids,Was c l n)->chA c l g f ids=some R->R.Nodup/\(∀ n∈R,Was c l n)/\rT c l g R=true
 | 0,ids,_,_,h=>by cases h
 | f+1,ids,hn,hw,h=>by
  unfold chA at h;split at h
  .rename_i m;cases h;exact ⟨hn,hw,m⟩
  .split at h
   .cases h
   .rename_i n k;obtain ⟨x,h1,i,h3⟩:=GB k;have hm:=jR.1 h1;refine O0 f _ ?_ ?_ h
    .rw [Cs];refine ⟨hn,by simp,λ a d b j e=>?_⟩;simp at j;subst j e;rw [i] at hm;exact hm.2 d
    .intro a d;rcases Az.1 d with d | d
     .exact hw a d
     .simp at d;subst d;exact ⟨ids,x,hm.1,i,h3⟩
def aIy{c:Con}{l:a6}{g:Gan}(ids:aw)(a:Int)(h:rT c l g ids=true):rT c l g (chS c l g ids a)=true/\(chS c l g ids a).Sublist ids:=by
 have e:chS c l g ids a=if rT c l g (eW ids a)=true then eW ids a else ids:=rfl
 rw [e];cases b:rT c l g (eW ids a) with
 | true=>rw [if_pos rfl];exact ⟨b,Kw⟩
 | false=>rw [if_neg d_];exact ⟨h,Nb _⟩
def aEo{c:Con}{l:a6}{g:Gan}(bs:aw):∀ (ids:aw),rT c l g ids=true->rT c l g (bs.foldl (chS c l g) ids)=true/\(bs.foldl (chS c l g) ids).Sublist ids:=by
 induction bs with
 | nil=>intro ids h;exact ⟨h,Nb _⟩
 | cons a r d=>
  intro ids h;have h1:=aIy ids a h;rw [Ba];generalize chS c l g ids a=q at h1;obtain ⟨b,h3⟩:=d q h1.1;exact ⟨b,h3.trans h1.2⟩
def zZ{c:Con}{l:a6}{g:Gan}{R:aw}(h:gI c l g=some R):sE c (ofL c l) g.ten (dem g)=true/\R.Nodup/\(∀ n∈R,Was c l n)/\rT c l g R=true:=by
 unfold gI at h;split at h
 .rename_i i;split at h
  .cases h
  .rename_i ids d;cases h;obtain ⟨h1,e,h3⟩:=O0 _ [] s_ s_ d;obtain ⟨f,a⟩:=aEo ids ids h3;exact ⟨i,a.nodup h1,λ n b=>e n (a.subset b),f⟩
 .cases h
def H3(l:a6):Prop:=l.Pairwise λ a b=>a.g.id≠b.g.id/\a.seq≠b.seq
def zC{a:Int}:∀ {q:a6},q.Pairwise (λ x y=>x.g.id≠y.g.id)->(∃ x∈q,x.g.id=a)->(q.filter λ y=>!(y.g.id==a)).length+1=q.length
 | [],_,h=>by obtain ⟨x,b,_⟩:=h;cases b
 | y::r,hp,h=>by
  have hp:=Cr.1 hp;rw [Hh];by_cases c:y.g.id=a
  .have e:(r.filter λ y=>!(y.g.id==a))=r:=Gj.2 λ z hz=>by
    have:=hp.1 z hz;rw [c] at this;have:(z.g.id==a)=false:=by simpa using λ e=>this e.symm
    rw [this];rfl
   rw [if_neg (by simp [c]),e];simp
  .obtain ⟨x,b,d⟩:=h;have b:x∈r:=by
    rcases Bc.1 b with rfl | b
    .exact absurd d c
    .exact b
   have:=zC hp.2 ⟨x,b,d⟩;rw [if_pos (by simp [c])];simp only [Al];omega
def H9(l:a6)(a:Int)(r:aw):aE l (a::r)=(aE l r).filter λ x=>!(x.g.id==a):=by unfold aE;rw [List.filter_filter];refine List.filter_congr λ x _=>?_;unfold inB;rw [Gz];cases (r.any λ y=>x.g.id==y)<;>cases (x.g.id==a)<;>rfl
def yZ{l:a6}(d:H3 l):∀ {ids:aw},ids.Nodup->(∀ n∈ids,∃ x∈l,x.g.id=n)->(aE l ids).length+ids.length=l.length
 | [],_,_=>by rw [fR];simp
 | a::r,b,hm=>by have b:=Bx.1 b;have f:=yZ d b.2 λ n h=>hm n (by simp [h]);obtain ⟨x,e,c⟩:=hm a s_;have hp:(aE l r).Pairwise λ x y=>x.g.id≠y.g.id:=(d.sublist Kw).imp λ h=>h.1;have:=zC (a:=a) hp ⟨x,jR.2 ⟨e,by rw [c];exact b.1⟩,c⟩;rw [H9];simp only [Al];omega
def aGs{l:a6}(e:H3 l){x y:Rn}(d:x∈l)(c:y∈l)(h:x.g.id=y.g.id):x=y:=by
 obtain ⟨i,b,rfl⟩:=Il d;obtain ⟨j,a,rfl⟩:=Il c;have hp:=Fv.1 e;rcases Nat.lt_trichotomy i j with h1 | rfl | h1
 .exact absurd h (hp i j b a h1).1
 .rfl
 .exact absurd h.symm (hp j i a b h1).1
def aIz{c:Con}{l:a6}{g:Gan}{R:aw}(f:H3 l)(h:gI c l g=some R):R.length<=l.length:=by
 obtain ⟨_,a,d,_⟩:=zZ h;have:=yZ f a λ n b=>by obtain ⟨_,x,h1,e,_⟩:=d n b;exact ⟨x,h1,e⟩
 omega
abbrev dC:Int:=1099511627776
def sA{v e:Int}(a:0<=v)(h1:v<=dC)(b:0<=e):iV v e=min (v+e) dC:=by unfold iV gU dC at *;omega
def cF:aw->Int
 | []=>0
 | x::r=>x+cF r
def lF:∀ {es:aw},(∀ e∈es,0<=e)->0<=cF es
 | [],_=>Dd _
 | x::r,h=>by have:=lF (es:=r) λ e a=>h e (by simp [a]);have:=h x s_;unfold cF;omega
def vS:∀ {es:aw} {v:Int},0<=v->v<=dC->(∀ e∈es,0<=e)->es.foldl iV v=min (v+cF es) dC
 | [],v,h0,h1,_=>by
  unfold cF;show v=_;omega
 | x::r,v,h0,h1,h=>by have b:=h x s_;have c:=lF (es:=r) λ e a=>h e (by simp [a]);rw [Ba,sA h0 h1 b,vS (by unfold dC at *;omega) o_ λ e a=>h e (by simp [a])];have e:cF (x::r)=x+cF r:=rfl;rw [e];omega
structure Prj(p:V3->Int):Prop where
 add:∀ u v,p (fP u v)=iV (p u) (p v)
 sub:∀ u v,p (EV u v)=XJ (p u) (p v)
 pos:∀ u,p (aKe u)=max (p u) 0
 zero:p V3.zero=0
def aGk:Prj V3.a:=⟨λ_ _=>rfl,λ_ _=>rfl,λ_=>rfl,rfl⟩
def aGj:Prj V3.b:=⟨λ_ _=>rfl,λ_ _=>rfl,λ_=>rfl,rfl⟩
def aGi:Prj V3.c:=⟨λ_ _=>rfl,λ_ _=>rfl,λ_=>rfl,rfl⟩
section
variable {p:V3->Int} (hp:Prj p)
include hp
def IK(us:a8):∀ (B:aw) (v:V3),p (B.foldl (smS us) v)=(B.map λ t=>p (atV us t)).foldl iV (p v)
 | [],v=>rfl
 | t::r,v=>by rw [Ba,IK us r,Bl,Ba];congr 1;exact hp.add _ _
def kE(ns:bb)(p:V3->Int)(us:a8)(t s:Int):Int:=if s=t then 0 else max (XJ (p (EV (cX ns s).n (cX ns s).l)) (p (atV us s))) 0
def U3(ns:bb)(us:a8)(t:Int):∀ (B:aw) (v:V3),0<=p v->p v<=dC->p (B.foldl (GN ns us t) v)=(B.map (kE ns p us t)).foldl iV (p v)
 | [],v,_,_=>rfl
 | s::r,v,h0,h1=>by
  rw [Ba,Bl,Ba];have e:p (GN ns us t v s)=iV (p v) (kE ns p us t s):=by
   unfold GN kE;by_cases h:s=t
   .rw [if_pos (decide_eq_true h),if_pos h,sA h0 h1 (Dd _)];omega
   .rw [if_neg (by rw [decide_eq_false h];decide),if_neg h,hp.add,hp.pos,hp.sub]
  have b:0<=kE ns p us t s:=by unfold kE;split<;>omega
  have a:0<=iV (p v) (kE ns p us t s)/\iV (p v) (kE ns p us t s)<=dC:=by
   rw [sA h0 h1 b];unfold dC at *
   omega
  rw [U3 ns us t r _ (by rw [e];exact a.1) (by rw [e];exact a.2),e]
end
def mR(c:Con)(l:a6):(ofL c l).length=c.ns.length:=by unfold ofL mJ;simp
def aGt{c:Con}{l:a6}(hd:∀ x∈l,(dem x.g).pos)(q:Rn->Bool)(s:Int):(0<=(atV (ofL c (l.filter q)) s).a/\0<=(atV (ofL c (l.filter q)) s).b/\0<=(atV (ofL c (l.filter q)) s).c)/\(atV (ofL c (l.filter q)) s).le (atV (ofL c l) s)/\((atV (ofL c l) s).a<=dC/\(atV (ofL c l) s).b<=dC/\(atV (ofL c l) s).c<=dC):=by
 by_cases hs:0<=s/\s.toNat<c.ns.length
 .rw [zO hs,zO hs];obtain ⟨h1,d⟩:=vG (c:=c) (j:=s.toNat) q l V3.zero V3.zero hd (C9 _) KU;have h3:=(vG (c:=c) (j:=s.toNat) (λ_=>true) (l.filter q) V3.zero V3.zero (λ x f=>hd x (Fg.1 f).1) (C9 _) KU).2;exact ⟨⟨h3.1.1,h3.2.1.1,h3.2.2.1⟩,h1,d.1.2,d.2.1.2,d.2.2.2⟩
 .have z:∀ l,atV (ofL c l) s=V3.zero:=λ l=>by
   unfold atV;by_cases e:s<0
   .rw [if_pos (decide_eq_true e)]
   .rw [if_neg (by rw [decide_eq_false e];decide),Bg (by rw [mR];omega)];rfl
  rw [z,z];exact ⟨by decide,C9 _,by decide⟩
def YY(need:V3)(xs:a8)(h:Int)(j:Nat):((tL need xs h)[j]?).getD V3.zero=if 0<=h/\h.toNat<xs.length/\h.toNat=j then EV ((xs[j]?).getD V3.zero) need else (xs[j]?).getD V3.zero:=by
 unfold tL;by_cases h1:0<=h
 .rw [if_pos (decide_eq_true h1)];by_cases a:h<(xs.length:Int)
  .rw [if_pos (decide_eq_true a),Gx];by_cases h3:h.toNat=j
   .rw [if_pos h3,if_pos o_,if_pos ⟨h1,by omega,h3⟩,h3];rfl
   .rw [if_neg h3,if_neg (λ q=>h3 q.2.2)]
  .rw [if_neg (by rw [decide_eq_false a];decide),if_neg (λ q=>by omega)]
 .rw [if_neg (by rw [decide_eq_false h1];decide),if_neg (λ q=>h1 q.1)]
def wiS(h:Int)(b:Bool)(y:Int):Bool:=if b=true then true else decide (y=h)
def FK(G hs:aw):Bool:=hs.all λ h=>G.foldl (wiS h) false
def aLB(h n y:Int):Int:=if y=h then n+1 else n
def AR(h:Int)(l:aw):Int:=l.foldl (aLB h) 0
def aDq(free:a8)(need:V3)(hs:aw)(h:Int):Bool:=if decide (h<0)=true then false else if decide ((free.length:Int)<=h)=true then false else !decide (eK ((free[h.toNat]?).getD V3.zero) need<AR h hs)
def DR(free:a8)(need:V3)(hs:aw):Bool:=hs.all (aDq free need hs)
def chkG(free:a8)(need:V3)(hs:aw)(G:aw):Bool:=FK G hs&&DR free need hs
def qP(c:Con)(free:a8)(g:Gan)(hs:aw):Bool:=if ((hs.length:Int)=g.pods) then (gpL c g.lev).any (chkG free g.need hs) else false
def KP{c:Con}{lv a b:Int}(d:0<=lv)(h3:lv<=3):alB c lv a b=true↔qK c lv a=qK c lv b:=by rw [KO c lv a b d h3];simp
def aBp{c:Con}{lv a b:Int}(d:0<=lv)(h3:lv<=3)(h:qK c lv a=qK c lv b):∀ (s:List aw) (n:Nat),dD c lv a s n=dD c lv b s n
 | [],n=>rfl
 | g::r,n=>by unfold dD;rw [aBp d h3 h r (n+1),KO c lv _ a d h3,KO c lv _ b d h3,h]
def aBo(c:Con)(lv i x:Int):∀ (s:List aw) (k n:Nat),(∀ g∈s,g≠[])->dD c lv i (s.set k ((s[k]?).getD []++[x])) n=dD c lv i s n
 | [],k,n,_=>by simp
 | g::r,0,n,h=>by
  have b:=h g (Ar ..);cases g with
  | nil=>exact absurd rfl b
  | cons a t=>rfl
 | g::r,k+1,n,h=>by have d:=aBo c lv i x r k (n+1) (λ g b=>h g (Bb _ b));show dD c lv i (g::r.set k ((r[k]?).getD []++[x])) n=_;unfold dD;rw [d]
def UF(c:Con)(lv i:Int)(g:aw):∀ (s:List aw) (n:Nat),dD c lv i (s++[g]) n=match dD c lv i s n with
   | some k=>some k
   | none=>if alB c lv (g.headD 0) i=true then some (n+s.length) else none
 | [],n=>by simp [dD]
 | q::r,n=>by
  show dD c lv i (q::(r++[g])) n=_;unfold dD;by_cases h:alB c lv (q.headD 0) i=true
  .rw [if_pos h,if_pos h]
  .rw [if_neg h,if_neg h,UF c lv i g r (n+1)];rw [show n+(q::r).length=n+1+r.length from by simp;omega]
def UE{c:Con}{lv i:Int}:∀ {s:List aw} {n k:Nat},dD c lv i s n=some k->n<=k/\∃ G,s[k-n]? =some G/\alB c lv (G.headD 0) i=true
 | [],n,k,h=>by cases h
 | g::r,n,k,h=>by
  unfold dD at h;by_cases h1:alB c lv (g.headD 0) i=true
  .rw [if_pos h1] at h;cases h;exact ⟨Bf _,g,by simp,h1⟩
  .rw [if_neg h1] at h;obtain ⟨b,G,h3,a⟩:=UE h;refine ⟨by omega,G,?_,a⟩;rw [show k-n=(k-(n+1))+1 from by omega];exact h3
def aIZ(c:Con)(lv:Int)(m:Nat)(s:List aw):Prop:=
 (∀ a:Nat,a<m->∃ k G,dD c lv (a:Int) s 0=some k/\s[k]? =some G/\(a:Int)∈G)/\∀ G∈s,G≠[]/\G.Nodup/\∀ x∈G,0<=x/\x<(m:Int)/\alB c lv (G.headD 0) x=true
def aC0{c:Con}{lv:Int}(F:0<=lv)(h3:lv<=3){m:Nat}{s:List aw}(h:aIZ c lv m s):aIZ c lv (m+1) (rgS c lv s m):=by
 obtain ⟨h1,v⟩:=h;have C:∀ g∈s,g≠[]:=λ g J=>(v g J).1;unfold rgS;cases B:dD c lv (m:Int) s 0 with
 | some k=>
  obtain ⟨_,l,e,A⟩:=UE B;rw [Jj] at e;have I:k<s.length:=(Ac.1 e).1;have r:l∈s:=Av e;refine ⟨λ a K=>?_,λ G d=>?_⟩
  .show ∃ i G,dD c lv (a:Int) (s.set k ((s[k]?).getD []++[(m:Int)])) 0=some i/\(s.set k ((s[k]?).getD []++[(m:Int)]))[i]? =some G/\(a:Int)∈G;rw [aBo c lv (a:Int) (m:Int) s k 0 C,e];by_cases j:a=m
   .subst j;refine ⟨k,_,B,by rw [Aq I],by simp⟩
   .obtain ⟨i,D,u,n,w⟩:=h1 a o_;by_cases q:k=i
    .subst q;rw [e] at n;cases n;exact ⟨k,l++[(m:Int)],u,by rw [Aq I];rfl,Az.2 (.inl w)⟩
    .exact ⟨i,D,u,by rw [Ax q];exact n,w⟩
  .have d:G∈s.set k ((s[k]?).getD []++[(m:Int)]):=d;rw [e] at d;have d:G∈s.set k (l++[(m:Int)]):=d;rcases Db d with d | rfl
   .exact zqra4
   .obtain ⟨p,o,f⟩:=v l r;have z:(l++[(m:Int)]).headD 0=l.headD 0:=by
     cases l with
     | nil=>exact absurd rfl p
     | cons y t=>rfl
    refine ⟨by simp,?_,λ x b=>?_⟩
    .rw [Cs];refine ⟨o,by simp,λ x b y H=>?_⟩;simp at H;subst H;have:=(f x b).2.1;omega
    .rw [z];rcases Az.1 b with b | b
     .exact ⟨(f x b).1,by have:=(f x b).2.1;omega,(f x b).2.2⟩
     .simp at b;subst b;exact ⟨by omega,by omega,A⟩
 | none=>
  refine ⟨λ a K=>?_,λ G d=>?_⟩
  .show ∃ i G,dD c lv (a:Int) (s++[[(m:Int)]]) 0=some i/\(s++[[(m:Int)]])[i]? =some G/\(a:Int)∈G;rw [UF];by_cases j:a=m
   .subst j;rw [B];refine ⟨0+s.length,[(a:Int)],if_pos ((KP F h3).2 rfl),by simp,by simp⟩
   .obtain ⟨i,D,u,n,w⟩:=h1 a o_;rw [u];refine ⟨i,D,rfl,?_,w⟩;rw [Af (Ac.1 n).1];exact n
  .have d:G∈s++[[(m:Int)]]:=d;rcases Az.1 d with d | d
   .exact zqra4
   .simp at d;subst d;refine ⟨by simp,by simp,λ x b=>?_⟩;simp at b;subst b;exact ⟨by omega,by omega,(KP F h3).2 rfl⟩
def JR{c:Con}{lv:Int}(b:0<=lv)(h3:lv<=3):aIZ c lv c.hs.length (gpL c lv):=by
 rw [<-aJ6];unfold rgL;rw [if_neg q_,if_neg q_];have key:∀ m:Nat,aIZ c lv m ((Dr m).foldl (rgS c lv) []):=λ m=>by
  induction m with
  | zero=>exact ⟨λ a f=>by omega,λ G d=>by cases d⟩
  | succ m e=>
   rw [Mh,Ji];exact aC0 b h3 e
 exact key _
def aKI{c:Con}{lv e a b:Int}(h:lv<=e)(f:qK c lv a=qK c lv b):qK c e a=qK c e b:=by
 unfold qK ofK at *
 simp only [Ko,and_true] at f⊢;obtain ⟨i,j,k,g⟩:=f;refine ⟨i,?_,?_,?_⟩
 .by_cases d:2<e
  .simp [d]
  .have:¬ 2<lv:=o_;simpa [d,this] using j
 .by_cases d:1<e
  .simp [d]
  .have:¬ 1<lv:=o_;simpa [d,this] using k
 .by_cases d:0<e
  .simp [d]
  .have:¬ 0<lv:=o_;simpa [d,this] using g
def aKV{c:Con}{lv e:Int}(d:0<=lv)(h:lv<=e)(h3:e<=3){a:aw}(u:a∈gpL c lv):a.Nodup/\∃ G∈gpL c e,∀ x∈a,x∈G:=by
 obtain ⟨_,n⟩:=JR (c:=c) d (Fe h h3);obtain ⟨l,_⟩:=JR (c:=c) (Fe d h) h3;obtain ⟨w,r,j⟩:=n a u;refine ⟨r,?_⟩;have v:a.headD 0∈a:=by
  cases a with
  | nil=>exact absurd rfl w
  | cons y t=>exact Ar ..
 obtain ⟨B,A,_⟩:=j _ v;have q:(a.headD 0)=((a.headD 0).toNat:Int):=o_;obtain ⟨k,G,b,g,_⟩:=l (a.headD 0).toNat o_;rw [<-q] at b;refine ⟨G,Av g,λ x s=>?_⟩;obtain ⟨H,F,o⟩:=j x s;have z:=aKI h ((KP d (Fe h h3)).1 o);rw [aBp (Fe d h) h3 z] at b;have f:x=(x.toNat:Int):=o_;obtain ⟨C,D,m,p,i⟩:=l x.toNat o_;rw [<-f] at m i;rw [m] at b;cases b;rw [p] at g;cases g;exact i
def Q7{free:a8}{g:Gan}:∀ (b out:aw) (h:Int),h∈b.foldl (inS free g) out->h∈out\/(h∈b/\0<=h/\h<(free.length:Int))
 | [],out,h,a=>.inl a
 | u::r,out,h,a=>by
  rw [Ba] at a;rcases Q7 r _ h a with a | a
  .unfold inS at a;by_cases h1:u<0
   .rw [if_pos (decide_eq_true h1)] at a;exact .inl a
   .rw [if_neg (by rw [decide_eq_false h1];decide)] at a;by_cases c:(free.length:Int)<=u
    .rw [if_pos (decide_eq_true c)] at a;exact .inl a
    .rw [if_neg (by rw [decide_eq_false c];decide)] at a;rcases Az.1 a with a | a
     .exact .inl a
     .have:=(Fy.1 a).2;subst this;exact .inr ⟨Ar ..,by omega,by omega⟩
  .exact .inr ⟨Bb _ a.1,a.2⟩
def rmN(free:a8)(g:Gan)(h:Int):Nat:=(max (eK ((free[h.toNat]?).getD V3.zero) g.need) 0).toNat
def aHc(free:a8)(g:Gan)(out:aw)(u h:Int):(inS free g out u).count h<=out.count h+(if u=h then rmN free g h else 0):=by
 unfold inS;split
 .omega
 .split
  .omega
  .rw [Jb,List.count_replicate];by_cases a:u=h
   .subst a;rw [if_pos rfl];simp only [beq_self_eq_true,if_true];unfold rmN inN;omega
   .rw [if_neg a];simp [a]
def VC(free:a8)(g:Gan)(h:Int):∀ (a out:aw),a.Nodup->(a.foldl (inS free g) out).count h<=out.count h+(if h∈a then rmN free g h else 0)
 | [],out,_=>by simp
 | u::r,out,hn=>by
  rw [Ba];have h1:=VC free g h r (inS free g out u) (Bx.1 hn).2;have c:=aHc free g out u h;by_cases b:u=h
  .subst b;rw [if_neg (Bx.1 hn).1] at h1;rw [if_pos rfl] at c;rw [if_pos (Ar ..)];omega
  .rw [if_neg b] at c;by_cases hm:h∈r
   .rw [if_pos hm] at h1;rw [if_pos (Bb _ hm)];omega
   .rw [if_neg hm] at h1;omega
def yO(h:Int):∀ (l:aw) (n:Int),l.foldl (aLB h) n=n+(l.count h:Nat)
 | [],n=>by simp
 | y::r,n=>by
  rw [Ba,yO h r];unfold aLB;by_cases a:y=h
  .subst a;rw [if_pos rfl,Ib];omega
  .rw [if_neg a,Ml (by simpa using a)]
def uY{G hs:aw}:FK G hs=true↔ ∀ h∈hs,h∈G:=by
 have key:∀ (h:Int) (G:aw) (b:Bool),G.foldl (wiS h) b=true↔b=true\/h∈G:=λ h G=>by
  induction G with
  | nil=>intro b;simp
  | cons y r c=>
   intro b;rw [Ba,c];unfold wiS;cases b with
   | true=>simp
   | false=>simp [eq_comm]
 unfold FK;rw [Ct];constructor
 .intro q h a;have:=(key h G false).1 (q h a);simpa using this
 .intro q h a;exact (key h G false).2 (.inr (q h a))
def aDs{c:Con}{free:a8}{g:Gan}(J:bI g.need=true)(K:1<=g.pods)(hl:0<=g.pref/\g.pref<=g.lev/\g.lev<=3){x:Int×aw}(h:zX c free g=some x):
  (∀ u∈x.2,0<=u/\u<(free.length:Int)/\((x.2.count u:Nat):Int)<=eK ((free[u.toNat]?).getD V3.zero) g.need)/\qP c free g x.2=true:=by
 have j:∀ (s:List aw),fdG c free g s=some x->∃ d∈s,x.2=inL free g d/\¬ ((inL free g d).length:Int)<g.pods:=λ s=>by
  induction s with
  | nil=>intro h;cases h
  | cons d r o=>
   intro h;unfold fdG at h;by_cases h1:((inL free g d).length:Int)<g.pods
   .rw [if_pos (decide_eq_true h1)] at h;obtain ⟨q,w,z⟩:=o h;exact ⟨q,Bb _ w,z⟩
   .rw [if_neg (by rw [decide_eq_false h1];decide)] at h;cases h;exact ⟨d,Ar ..,rfl,h1⟩
 have k:∀ (n:Nat) (lv:Int),fdL c free g n lv=some x->∃ i,lv<=i/\i<lv+n/\fdG c free g (gpL c i)=some x:=λ n=>by
  induction n with
  | zero=>intro lv h;cases h
  | succ n o=>
   intro lv h;unfold fdL at h;cases v:fdG c free g (gpL c lv) with
   | some y=>
    rw [v] at h;cases h;exact ⟨lv,Dd _,by omega,v⟩
   | none=>
    rw [v] at h;obtain ⟨i,w,z,B⟩:=o (lv+1) h;exact ⟨i,by omega,by omega,B⟩
 unfold zX at h;obtain ⟨i,l1,l2,F⟩:=k _ _ h;obtain ⟨d,D,t,I⟩:=j _ F;have m:0<=i/\i<=g.lev:=o_;obtain ⟨C,G,H,p⟩:=aKV m.1 m.2 hl.2.2 D;have A:((inL free g d).length:Int)<=g.pods:=by
  have key:∀ (l:aw) (out:aw),(out.length:Int)<=g.pods->((l.foldl (inS free g) out).length:Int)<=g.pods:=λ l=>by
   induction l with
   | nil=>intro out h;exact h
   | cons x r o=>intro out h;exact o _ (JN free g out x h)
  exact key d [] q_
 have b:∀ u∈x.2,u∈d/\0<=u/\u<(free.length:Int):=λ u a=>by
  rw [t] at a;rcases Q7 d [] u a with a | a
  .cases a
  .exact a
 have f:∀ u∈x.2,((x.2.count u:Nat):Int)<=eK ((free[u.toNat]?).getD V3.zero) g.need:=λ u a=>by have h1:=VC free g u d [] C;have L:0<x.2.count u:=Lb.2 a;rw [if_pos (b u a).1,show d.foldl (inS free g) []=x.2 from t.symm] at h1;unfold rmN at h1;simp only [List.count_nil] at h1;omega
 refine ⟨λ u a=>⟨(b u a).2.1,(b u a).2.2,f u a⟩,?_⟩;unfold qP;rw [if_pos (by rw [t];omega),Fj];refine ⟨G,H,?_⟩;unfold chkG;rw [uY.2 λ u a=>p u (b u a).1,Dc];unfold DR;rw [Ct];intro u a;unfold aDq;rw [if_neg (by have:=(b u a).2.1;simp;omega),if_neg (by have:=(b u a).2.2;simp;omega)];have:=f u a;have e:AR u x.2=((x.2.count u:Nat):Int):=by unfold AR;rw [yO];omega
 rw [e];simp;omega
def KZ{ns:bb}:∀ (f:Nat) (s x:Int),x∈upF ns f s->x=s\/∃ d∈ns,d.p=x
 | 0,s,x,h=>by cases h
 | f+1,s,x,h=>by
  unfold upF at h;by_cases a:0<=s
  .rw [if_pos (decide_eq_true a)] at h;by_cases h1:s.toNat<ns.length
   .rw [dif_pos h1] at h;by_cases b:s<=(ns[s.toNat]).p
    .rw [if_pos (decide_eq_true b)] at h;simp at h;exact .inl h
    .rw [if_neg (by rw [decide_eq_false b];decide)] at h;rcases Bc.1 h with h | h
     .exact .inl h
     .rcases KZ f _ x h with rfl | h
      .exact .inr ⟨_,Bd h1,rfl⟩
      .exact .inr h
   .rw [dif_neg h1] at h;cases h
  .rw [if_neg (by rw [decide_eq_false a];decide)] at h;cases h
def YJ{ns:bb}{t:Int}(h:bC ns t=true):∀ d∈ns,d.p≠t:=by obtain ⟨a,h1⟩:=wF h;unfold bC at h;rw [if_pos (decide_eq_true a),if_pos (decide_eq_true o_),EK] at h;intro d hd e;have:(ns.any λ x=>x.p==t)=true:=Fj.2 ⟨d,hd,by simp [e]⟩;rw [this] at h;cases h
def UZ{ns:bb}{t s:Int}(h:bC ns t=true)(hs:t∈upL ns s):t=s:=by
 rcases KZ _ _ _ hs with h1 | ⟨d,hd,e⟩
 .exact h1
 .exact absurd e (YJ h d hd)
def T7{ns:bb}{t:Int}(a:0<=t)(h1:t.toNat<ns.length):t∈upL ns t:=by obtain ⟨r,b⟩:=aAt a h1;rw [b];exact Ar ..
def aGV{ns:bb}{t:Int}(h:bC ns t=true):t∈sQ ns:=by
 obtain ⟨e,h1⟩:=wF h;have key:∀ (m i:Nat),i<=t.toNat->t.toNat<i+m->t∈lvF ns m i:=λ m=>by
  induction m with
  | zero=>intro i a b;omega
  | succ m d=>
   intro i a b;unfold lvF;by_cases c:i=t.toNat
   .subst c;rw [show ((t.toNat:Nat):Int)=t from by omega,if_pos h];exact Ar ..
   .have:=d (i+1) o_ o_;split
    .exact Bb _ this
    .exact this
 exact key _ 0 o_ o_
def Q0{ns:bb}{t:Int}(h:bC ns t=true):bP ns t=[t]:=by
 obtain ⟨g,h1⟩:=wF h;have c:=T7 g h1;have d:∀ s:Int,wH ns t s=if s=t then [t] else []:=λ s=>by
  unfold wH;by_cases e:s=t
  .subst e;rw [if_pos c,if_pos rfl]
  .rw [if_neg e,if_neg λ q=>e (UZ h q).symm]
 have lo:∀ (m i:Nat),t.toNat<i->(lvF ns m i).flatMap (wH ns t)=[]:=λ m i f=>by rw [List.flatMap_eq_nil_iff];intro s hs;have:=JH ns m i s hs;rw [d,if_neg o_]
 have key:∀ (m i:Nat),i<=t.toNat->t.toNat<i+m->(lvF ns m i).flatMap (wH ns t)=[t]:=λ m=>by
  induction m with
  | zero=>intro i a b;omega
  | succ m j=>
   intro i a b;unfold lvF;by_cases f:i=t.toNat
   .subst f;rw [show ((t.toNat:Nat):Int)=t from by omega,if_pos h,Jh,lo _ _ o_,d,if_pos rfl];rfl
   .have:=j (i+1) o_ o_;split
    .rw [Jh,d,if_neg o_,this];rfl
    .exact this
 exact key _ 0 o_ o_
section
variable {p:V3->Int} (hp:Prj p)
include hp
def uE(c:Con)(p:V3->Int)(j:Int)(x:Rn):Int:=if bC c.ns x.g.ten=true/\j∈upL c.ns x.g.ten then p (dem x.g) else 0
def TG{c:Con}{j:Nat}:∀ (l:a6) (v:V3),(∀ x∈l,0<=p (dem x.g))->0<=p v->p v<=dC->p (l.foldl (oX c j) v)=min (p v+cF (l.map (uE c p (j:Int)))) dC/\0<=cF (l.map (uE c p (j:Int)))
 | [],v,_,h0,h1=>by
  show p v=min (p v+0) dC/\(0:Int)<=0;omega
 | x::r,v,hd,h0,h1=>by
  rw [Ba,Bl];show _=min (p v+(uE c p (j:Int) x+cF (r.map (uE c p (j:Int))))) dC/\0<=uE c p (j:Int) x+cF (r.map (uE c p (j:Int)));have d:=hd x (Ar ..);have e:p (oX c j v x)=min (p v+uE c p (j:Int) x) dC:=by
   unfold oX uE;by_cases a:bC c.ns x.g.ten=true/\(j:Int)∈upL c.ns x.g.ten
   .rw [if_pos a,if_pos a,hp.add,sA h0 h1 d]
   .rw [if_neg a,if_neg a];omega
  have i:0<=uE c p (j:Int) x:=by unfold uE;split<;>omega
  obtain ⟨h,f⟩:=TG r (oX c j v x) (λ y b=>hd y (Bb _ b)) (by rw [e];unfold dC;omega) (by rw [e];unfold dC;omega);rw [h,e];unfold dC;omega
omit hp in
def TY{α:Type}(f g:α->Int):∀ (l:List α),cF (l.map λ x=>f x+g x)=cF (l.map f)+cF (l.map g)
 | []=>rfl
 | x::r=>by
  rw [Bl,Bl,Bl];show f x+g x+cF _=(f x+cF _)+(g x+cF _)
  rw [TY f g r];omega
omit hp in
def TX{α:Type}(f:α->Int):∀ (l:List α),(∀ y∈l,0<=f y)->∀ x∈l,f x<=cF (l.map f)
 | [],_,x,h=>by cases h
 | y::r,hf,x,h=>by
  rw [Bl];show f x<=f y+cF _;have h1:=lF (es:=r.map f) λ e a=>by obtain ⟨z,hz,rfl⟩:=Bq.1 a;exact hf z (Bb _ hz)
  have b:=hf y (Ar ..);rcases Bc.1 h with rfl | h
  .omega
  .have:=TX f r (λ z hz=>hf z (Bb _ hz)) x h;omega
omit hp in
def TV{α:Type}(f:α->Int):∀ (l:List α),(∀ y∈l,0<=f y)->min (cF (l.map f)) dC<=cF (l.map λ y=>min (f y) dC)/\0<=cF (l.map f)
 | [],_=>by
  show min (0:Int) dC<=0/\(0:Int)<=0;unfold dC;omega
 | y::r,hf=>by
  rw [Bl,Bl];show min (f y+cF _) dC<=min (f y) dC+cF _/\0<=f y+cF _;have c:=hf y (Ar ..);obtain ⟨a,b⟩:=TV f r λ z hz=>hf z (Bb _ hz);unfold dC at *
  omega
omit hp in
def HY{c:Con}{n:Int}:∀ (l:a6),(∀ x∈l,0<=p (dem x.g))->cF (l.map (uE c p n))<=cF ((bP c.ns n).map λ s=>cF (l.map (uE c p s)))
 | [],_=>by
  show 0<=cF ((bP c.ns n).map λ s=>(0:Int));exact lF λ e d=>by
   obtain ⟨z,_,rfl⟩:=Bq.1 d;exact Dd _
 | x::r,hd=>by
  have m:=HY (c:=c) (n:=n) r λ y j=>hd y (Bb _ j);have e:cF ((bP c.ns n).map λ s=>cF ((x::r).map (uE c p s)))=cF ((bP c.ns n).map λ s=>uE c p s x)+cF ((bP c.ns n).map λ s=>cF (r.map (uE c p s))):=TY _ _ _;rw [e,Bl];show uE c p n x+cF _<=_;have k:=hd x (Ar ..);have b:∀ s∈bP c.ns n,0<=uE c p s x:=λ s _=>by unfold uE;split<;>omega
  have h1:uE c p n x<=cF ((bP c.ns n).map λ s=>uE c p s x):=by
   by_cases a:bC c.ns x.g.ten=true/\n∈upL c.ns x.g.ten
   .have f:x.g.ten∈bP c.ns n:=by unfold bP;rw [List.mem_flatMap];refine ⟨x.g.ten,aGV a.1,?_⟩;unfold wH;rw [if_pos a.2];simp
    have:=TX (λ s=>uE c p s x) (bP c.ns n) b _ f;have h:uE c p x.g.ten x=uE c p n x:=by obtain ⟨i,h1⟩:=wF a.1;unfold uE;rw [if_pos a,if_pos ⟨a.1,T7 i h1⟩]
    rw [<-h];exact this
   .have h:uE c p n x=0:=by unfold uE;rw [if_neg a]
    rw [h];exact lF λ e d=>by obtain ⟨z,hz,rfl⟩:=Bq.1 d;exact b z hz
  omega
def IC{c:Con}{l:a6}(hd:∀ x∈l,0<=p (dem x.g)){n:Int}(d:c.ok n):p (atV (ofL c l) n)=min (cF (l.map (uE c p n))) dC/\0<=cF (l.map (uE c p n)):=by
 have hz:p V3.zero=0:=hp.zero;obtain ⟨a,b⟩:=TG hp (c:=c) (j:=n.toNat) l V3.zero hd (by rw [hz];exact Dd _) (by rw [hz];decide);rw [zO d,a,hz];have e:((n.toNat:Nat):Int)=n:=by have:=d.1;omega
 rw [e] at b⊢;exact ⟨by omega,b⟩
def aJJ{c:Con}{l:a6}(hd:∀ x∈l,0<=p (dem x.g))(n:Int):p (lE c.ns n (ofL c l))=min (cF ((bP c.ns n).map λ s=>min (cF (l.map (uE c p s))) dC)) dC:=by
 have hz:p V3.zero=0:=hp.zero;have e:(bP c.ns n).map (λ t=>p (atV (ofL c l) t))=(bP c.ns n).map λ s=>min (cF (l.map (uE c p s))) dC:=List.map_congr_left λ s hs=>(IC hp hd (kZ c n s hs)).1;unfold lE
 rw [IK hp,e,hz,vS (Dd _) d_ λ e a=>by
  obtain ⟨s,hs,rfl⟩:=Bq.1 a;have:=(IC hp hd (kZ c n s hs)).2;unfold dC
  omega]
 omega
def PR{c:Con}{l:a6}(hd:∀ x∈l,0<=p (dem x.g)){n:Int}(b:c.ok n):p (atV (ofL c l) n)<=p (lE c.ns n (ofL c l))/\0<=p (atV (ofL c l) n)/\p (lE c.ns n (ofL c l))<=dC:=by
 obtain ⟨a,d⟩:=IC hp hd b;rw [a,aJJ hp hd n];have h1:=HY (p:=p) (c:=c) (n:=n) l hd;obtain ⟨e,h3⟩:=TV (λ s=>cF (l.map (uE c p s))) (bP c.ns n) λ s hs=>(IC hp hd (kZ c n s hs)).2;unfold dC at *
 omega
def aCK(ns:bb)(us:a8)(n t:Int):0<=p (GP ns us n t):=by
 have hz:p V3.zero=0:=hp.zero;have a:∀ e∈(bP ns n).map (kE ns p us t),0<=e:=λ e b=>by obtain ⟨s,_,rfl⟩:=Bq.1 b;unfold kE;split<;>omega
 have c:=lF a;unfold GP;rw [U3 hp _ _ _ _ _ (by rw [hz];exact Dd _) (by rw [hz];decide),hz,vS (Dd _) d_ a];unfold dC;omega
def KM{c:Con}{l:a6}(hd:∀ x∈l,0<=p (dem x.g)){need:V3}(e:0<=p need){n t:Int}(f:c.ok n):p (fP (atV (ofL c l) n) need)<=p (fP (fP (lE c.ns n (ofL c l)) need) (GP c.ns (ofL c l) n t)):=by obtain ⟨h1,k,h3⟩:=PR hp hd f;have h:=aCK hp c.ns (ofL c l) n t;rw [hp.add,hp.add,hp.add];have j:=sZ (d:=p need) h1;have b:=KQ (a:=p (lE c.ns n (ofL c l))) o_ e;have i:=BI b.1 b.2 h;omega
end
def yX(x y z:Int):iV (iV (iV 0 x) 0) y=iV x y/\iV (iV 0 x) y=iV x y:=by unfold iV gU;omega
def W7(x y:V3):fP (fP V3.zero x) y=fP x y:=by unfold fP V3.map2 V3.zero;rw [(yX x.a y.a 0).2,(yX x.b y.b 0).2,(yX x.c y.c 0).2]
def aCc{c:Con}{t:Int}(h:c.ok t):atV (qI c.ns) t=(cX c.ns t).n:=by obtain ⟨a,h1⟩:=h;unfold atV qI;rw [if_neg q_,Bh,Dj h1];show (cX c.ns ((t.toNat:Nat):Int)).n=_;rw [show ((t.toNat:Nat):Int)=t from by omega]
def UT(c:Con)(t n:Int):V3:=if n=t then fP (lE c.ns n (qI c.ns)) (cX c.ns n).b else lE c.ns n (qI c.ns)
def L7{c:Con}{l:a6}{x:Rn}(hd:∀ y∈l,(dem y.g).pos)(j:(dem x.g).pos)(h:M9 c (ofL c l) x.g.ten (dem x.g)=true):∀ n∈fF c.ns x.g.ten,c.ok n/\cQ (atV (ofL c (l++[x])) n) (UT c x.g.ten n)=true:=by
 intro n d;unfold fF at d;rw [Ij] at d;have a:c.ok n:=ID c _ _ _ d;refine ⟨a,?_⟩;unfold M9 at h;by_cases hl:bC c.ns x.g.ten=true
 .rw [if_pos hl,Ct] at h;have b:=h n d;have e:atV (ofL c (l++[x])) n=fP (atV (ofL c l) n) (dem x.g):=by rw [zO a,zO a,Ji];show oX c n.toNat _ x=_;unfold oX;rw [if_pos ⟨hl,by rw [show ((n.toNat:Nat):Int)=n from by have:=a.1;omega];exact d⟩]
  rw [e];unfold QY at b;unfold UT;by_cases i:n=x.g.ten
  .rw [if_pos (decide_eq_true i)] at b;rw [if_pos i];unfold aGq at b;have k:lE c.ns n (qI c.ns)=fP V3.zero (cX c.ns n).n:=by unfold lE;rw [Q0 (by rw [i];exact hl)];show fP V3.zero (atV (qI c.ns) n)=_;rw [aCc a]
   rw [k,W7];exact b
  .rw [if_neg (by rw [decide_eq_false i];decide)] at b;rw [if_neg i];unfold aIV at b;rw [vC] at b⊢;exact ⟨Fe (KM aGk (λ y f=>(hd y f).1) j.1 a) b.1,Fe (KM aGj (λ y f=>(hd y f).2.1) j.2.1 a) b.2.1,Fe (KM aGi (λ y f=>(hd y f).2.2) j.2.2 a) b.2.2⟩
 .rw [if_neg hl] at h;cases h
end Go.Proofs.YtbpccabomgalhaaGreatDoor
