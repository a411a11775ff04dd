/- Part 7 of what the statement rests on. -/
import Derived.Test.YtidhfoefaomodaaGreatDoorHA
set_option linter.all false
set_option maxHeartbeats 1000000
open And renaming intro->Ac
open Bool renaming and_eq_true->Ad,false_eq_true->Cp,false_or->Nf,or_eq_false_iff->Kl,true_and->Cy
open Exists renaming intro->Ao
open Go.World renaming ownsRow_nil->Hf
open Iff renaming rfl->Np
open Int renaming le_refl->Dh,le_trans->Fk,mul_nonneg->Ld,tdiv->Ly,tdiv_eq_ediv_of_nonneg->Lf,toNat_natCast->Bt
open List renaming all_cons->Kd,all_eq_true->Cq,any_cons->Hg,any_eq_true->Fq,append_assoc->Af,append_nil->Av,count_append->Jh,count_cons_of_ne->Ms,count_cons_self->Ik,count_pos_iff->Lg,drop->Hi,drop_drop->Hk,drop_eq_getElem_cons->Ae,drop_eq_nil_of_le->Ah,drop_zero->Ci,ext_getElem?->Ek,filter_cons->Ho,filter_cons_of_neg->Fs,filter_cons_of_pos->Ft,filter_eq_self->Gq,filter_sublist->Lb,flatMap_cons->Jm,foldl_append->Jn,foldl_cons->Ba,getElem?_append_left->Ag,getElem?_append_right->Ak,getElem?_drop->Bp,getElem?_eq_getElem->Aa,getElem?_eq_none->Bk,getElem?_eq_some_iff->Ab,getElem?_map->Bf,getElem?_range->Dn,getElem?_replicate->Es,getElem?_set->Hd,getElem?_set_ne->Ay,getElem?_set_self->Ar,getElem_mem->Bh,getElem_of_mem->Iv,length_append->Ai,length_cons->Al,length_filter_le->Ie,length_nil->Br,length_set->Dr,map_cons->Bl,map_set->Gr,mem_append->Az,mem_cons->Bb,mem_cons_of_mem->Bd,mem_cons_self->Ap,mem_filter->Fm,mem_map->Ca,mem_of_getElem?->Au,mem_or_eq_of_mem_set->Df,mem_replicate->Gf,mem_reverse->Iu,nodup_append->Bz,nodup_cons->Ce,pairwise_cons->Cv,pairwise_iff_getElem->Gb,prefix_refl->Cn,range->Di,range_succ->Mp,replicate->Aj,take->Ia,take_add_one->Ll,take_append_drop->Bq,take_append_of_le_length->Dc,take_of_length_le->Cf
open List.Sublist renaming refl->Lo
open List.cons renaming injEq->Kv
open Nat renaming le_refl->Bc,le_trans->Cz,sub_zero->Jo,zero_add->Bo
open Ne renaming symm->Em
open Or renaming inl->Gd
open Prod renaming fst->Ma
namespace Go.Proofs.YtidhfoefaomodaaGreatDoor
open Go Go.AW Go.Proofs
set_option maxRecDepth 10000
def zqra0 {P:Prop} (h:P:=by
 unfold bB at h;by_cases h1:0<=t
 .rw [if_pos (decide_eq_true h1)] at h;by_cases a:t<(ns.length:Int)
  .omega
  .rw [if_neg (by rw [decide_eq_false a];decide)] at h;cases h
 .rw [if_neg (by rw [decide_eq_false h1];decide)] at h
  cases h):P:=h
def zqra1 {P:Prop} (h:P:=by
 subst c;refine c_ Tryz.f165 λ_=>?_;have hz1:=λ d=>IR d
 exact zW):P:=h
def zqra2 {P:Prop} (h:P:=by exact To.cut [0,2,3,4,5] 4 rfl rfl rfl rfl ao):P:=h
def zqra3 {P:Prop} (h:P:=by
 rcases b.inv with ⟨e,h⟩ | ⟨e,h⟩
 .subst e;refine gV ?_;exact zW
 .subst e;refine gV ?_
  exact zW):P:=h
def zqra4 {P:Prop} (h:P:=by
 obtain ⟨r,p,f⟩:=v G d
 exact ⟨r,p,λ x b=>⟨(f x b).1,by have:=(f x b).2.1;omega,(f x b).2.2⟩⟩):P:=h
def zqra5 {P:Prop} (h:P:=by
 rw [if_neg (by rw [d];decide)] at b;rw [d] at h1;have ao:=k ids o_ j b
 exact zW):P:=h
def zqra6 {P:Prop} (h:P:=by
 refine cT (E:=(Eo [9] [])) (fn:=Tryz.f113) (g:=.pure _) λ_=>?_
 exact zW):P:=h
def zqra7 {P:Prop} (h:P:=by
 refine cT (E:=E) (fn:=Tryz.f171) (g:=.full 3 _ _) λ_=>?_
 exact zW):P:=h
def zqra8 {P:Prop} (h:P:=by
 refine cT (E:=E) (fn:=Tryz.f177) (g:=.full 2 _ _) λ_=>?_
 exact zW):P:=h
def zqra9 {P:Prop} (h:P:=by
 rw [if_pos d] at b;rw [d] at h1;have ao:=k (eU ids a) o_ o_ b
 exact zW):P:=h
def D7 (n:Int):∀ (l:List Nod) (i:Nat),decide (0<=ak n l i)=l.any λ x=>x.p==n
 | [],i=>by simp [ak]
 | x::r,i=>by
  unfold ak;rw [Hg];by_cases h:x.p=n
  .simp [h]
  .have:=D7 n r (i+1);simp [h,this]
def OW (l:List Nod) (n:Int):(l.all λ x=>!(x.p==n))= !(l.any λ x=>x.p==n):=by
 induction l with
 | nil=>rfl
 | cons x r a=>rw [Kd,Hg,a];cases (x.p==n)<;>simp
def aI8 (ns:List Nod) (t:Int):rlB ns t=bB ns t:=by
 unfold rlB bB;rw [D7,OW];generalize (ns.any λ x=>x.p==t)=b;by_cases h1:t<0
 .have a:¬ 0<=t:=o_;simp [h1,a]
 .have h3:0<=t:=o_;by_cases a:(ns.length:Int)<=t
  .have c:¬ t<(ns.length:Int):=o_;simp [h1,h3,a,c]
  .have c:t<(ns.length:Int):=o_;simp [h1,h3,a,c]
def fB (ns:List Nod) (n:Int):List Int:=(upL ns n).reverse
def GK {α β:Type} (f:β->α->β) (a:∀ b x y,f (f b x) y=f (f b y) x):∀ (l:List α) (b:β),l.reverse.foldl f b=l.foldl f b
 | [],b=>rfl
 | x::r,b=>by
  have h:∀ (l:List α) (b:β),l.foldl f (f b x)=f (l.foldl f b) x:=λ l=>by
   induction l with
   | nil=>intro b;rfl
   | cons y r c=>intro b;rw [Ba,Ba,a,c]
  rw [List.reverse_cons,Jn,GK f a r b];show f (r.foldl f b) x=r.foldl f (f b x);rw [h]
def E0 (v:V3) (xs:List V3) (k:Int):List V3:=xs.set k.toNat (fO ((xs[k.toNat]?).getD V3.zero) v)
def oF (v:V3) (xs:List V3) (k:Int) (j:Nat):(E0 v xs k)[j]? =if k.toNat=j then (xs[j]?).map λ x=>fO x v else xs[j]?:=by
 unfold E0;rw [Hd];by_cases h:k.toNat=j
 .subst h;rw [if_pos rfl,if_pos rfl];by_cases a:k.toNat<xs.length
  .rw [if_pos a,Aa a];rfl
  .rw [if_neg a,Bk o_];rfl
 .rw [if_neg h,if_neg h]
def ZE (v:V3) (xs:List V3) (a b:Int):E0 v (E0 v xs a) b=E0 v (E0 v xs b) a:=by refine Ek λ j=>?_;rw [oF,oF,oF,oF];by_cases h1:a.toNat=j<;>by_cases c:b.toNat=j<;>simp [h1,c]
def PI (c:Con) (xs:List V3) (x:Rn):List V3:=if bB c.ns x.g.ten=true then (fB c.ns x.g.ten).foldl (E0 (dem x.g)) xs else xs
def aI5 (c:Con) (l:List Rn):List V3:=l.foldl (PI c) (Aj c.ns.length V3.zero)
def qC (L:Led):Prop:=(L.map Ma).Nodup
def FV (n:Int) (v:V3):∀ (L:Led) (k:Int),k∈(xG L n v).map Ma->k=n\/k∈L.map Ma
 | [],k,h=>by simp [xG] at h;exact .inl h
 | (j,w)::r,k,h=>by
  unfold xG at h;split at h
  .rename_i a;simp only [Bl,Bb] at h⊢;rcases h with rfl | h
   .exact .inl rfl
   .exact .inr (.inr h)
  .simp only [Bl,Bb] at h⊢;rcases h with rfl | h
   .exact .inr (.inl rfl)
   .rcases FV n v r k h with h | h
    .exact .inl h
    .exact .inr (.inr h)
def aBQ (n:Int) (v:V3):∀ (L:Led),qC L->qC (xG L n v)
 | [],_=>by simp [xG,qC]
 | (j,w)::r,h=>by
  have h1:=(Ce.1 h)
  unfold xG;split
  .rename_i a;subst a;exact h
  .rename_i a;refine Ce.2 ⟨λ hm=>?_,aBQ n v r h1.2⟩;rcases FV n v r _ hm with h | h
   .exact a h
   .exact h1.1 h
def FX (n:Int):∀ (L:Led) (k:Int),k∈(CT L n).map Ma->k∈L.map Ma
 | [],k,h=>h
 | (j,w)::r,k,h=>by
  unfold CT at h;simp only [Bl,Bb];split at h
  .exact .inr h
  .simp only [Bl,Bb] at h;rcases h with h | h
   .exact .inl h
   .exact .inr (FX n r k h)
def aBW (n:Int):∀ (L:Led),qC L->qC (CT L n)
 | [],h=>h
 | (j,w)::r,h=>by
  have h1:=(Ce.1 h)
  unfold CT;split
  .exact h1.2
  .exact Ce.2 ⟨λ hm=>h1.1 (FX n r _ hm),aBW n r h1.2⟩
def MX:∀ (L:Led) (n:Int),n∉L.map Ma->iF L n=none
 | [],n,h=>rfl
 | (j,w)::r,n,h=>by simp only [Bl,Bb,not_or] at h;unfold iF;rw [if_neg (λ e=>h.1 e.symm)];exact MX r n h.2
def MW (n:Int) (v:V3) (k:Int):∀ (L:Led),iF (xG L n v) k=if k=n then some v else iF L k
 | []=>by
  unfold xG iF iF;by_cases h:k=n
  .rw [if_pos h,if_pos h.symm]
  .rw [if_neg h,if_neg (λ e=>h e.symm)]
 | (j,w)::r=>by
  have b:=MW n v k r;unfold xG;split
  .rename_i a;subst a;unfold iF;by_cases h:k=j
   .rw [if_pos h,if_pos h.symm]
   .rw [if_neg h,if_neg (λ e=>h e.symm),if_neg (λ e=>h e.symm)]
  .rename_i a;unfold iF;rw [b];by_cases h:j=k
   .rw [if_pos h,if_pos h,if_neg (λ e=>a (h.trans e))]
   .rw [if_neg h,if_neg h]
def MY (n:Int) (k:Int):∀ (L:Led),qC L->iF (CT L n) k=if k=n then none else iF L k
 | [],_=>by
  unfold CT iF;split<;>rfl
 | (j,w)::r,h=>by
  have h1:=(Ce.1 h)
  have c:=MY n k r h1.2;unfold CT;split
  .rename_i b;subst b;by_cases a:k=j
   .rw [if_pos a,a];exact MX r j h1.1
   .rw [if_neg a]
    conv=>rhs;unfold iF
    rw [if_neg (λ e=>a e.symm)]
  .rename_i b;unfold iF;rw [c];by_cases a:j=k
   .rw [if_pos a,if_pos a,if_neg (λ e=>b (a.trans e))]
   .rw [if_neg a,if_neg a]
def aB7 {v:V3} (h:isZ v=true):v=V3.zero:=by obtain ⟨a,b,c⟩:=v;unfold isZ at h;simp at h;obtain ⟨rfl,rfl,rfl⟩:=h;rfl
def aJI {L:Led} (h:qC L) (n:Int) (v:V3):qC (MR L n v):=by
 unfold MR;split
 .exact aBW n L h
 .exact aBQ n v L h
def aBP {L:Led} (h:qC L) (n:Int) (v:V3) (k:Int):pO (MR L n v) k=if k=n then v else pO L k:=by
 unfold MR pO;split
 .rename_i hz;rw [MY n k L h];by_cases a:k=n
  .rw [if_pos a,if_pos a,aB7 hz];rfl
  .rw [if_neg a,if_neg a]
 .rw [MW];by_cases a:k=n
  .rw [if_pos a,if_pos a];rfl
  .rw [if_neg a,if_neg a]
def D8 (n:Nat) (L:Led) (j:Nat):(lX n L)[j]? =if j<n then some (pO L (j:Int)) else none:=by
 unfold lX;rw [Bf];by_cases h:j<n
 .rw [if_pos h,Dn h];rfl
 .rw [if_neg h,Bk q_];rfl
def aHB {n:Nat} {L:Led} (h:qC L) (v:V3) (k:Int) (b:0<=k) (c:k.toNat<n):lX n (yC v L k)=E0 v (lX n L) k:=by
 refine Ek λ j=>?_;rw [oF,D8,D8];unfold yC;rw [aBP h];by_cases h1:j<n
 .rw [if_pos h1,if_pos h1];by_cases a:k.toNat=j
  .rw [if_pos a,if_pos o_];have:k=(j:Int):=o_;rw [this];rfl
  .rw [if_neg a,if_neg o_]
 .rw [if_neg h1,if_neg h1];split<;>rfl
def aMp {L:Led} (h:qC L) (v:V3) (k:Int):qC (yC v L k):=aJI h _ _
def OB {n:Nat} (v:V3):∀ (ks:List Int) (L:Led),qC L->(∀ k∈ks,0<=k/\k.toNat<n)->lX n (ks.foldl (yC v) L)=ks.foldl (E0 v) (lX n L)/\qC (ks.foldl (yC v) L)
 | [],L,h,_=>⟨rfl,h⟩
 | k::r,L,h,hk=>by have h1:=hk k s_;obtain ⟨c,a⟩:=OB v r (yC v L k) (aMp h v k) λ x b=>hk x (by simp [b]);exact ⟨by rw [Ba,c,aHB h v k h1.1 h1.2];rfl,a⟩
def O5 (ns:List Nod):∀ (f:Nat) (n x:Int),x∈upF ns f n->0<=x/\x.toNat<ns.length
 | 0,n,x,h=>by simp [upF] at h
 | f+1,n,x,h=>by
  unfold upF at h;split at h
  .rename_i a;have a:=of_decide_eq_true a;split at h
   .rename_i h1;split at h
    .simp at h;subst h;exact ⟨a,h1⟩
    .rcases Bb.1 h with rfl | h
     .exact ⟨a,h1⟩
     .exact O5 ns f _ x h
   .simp at h
  .simp at h
def P3 (c:Con) (L:Led) (h:qC L) (x:Rn):lX c.ns.length (tG c L x)=PI c (lX c.ns.length L) x/\qC (tG c L x):=by
 unfold tG PI fB;split
 .obtain ⟨d,a⟩:=OB (n:=c.ns.length) (dem x.g) (upL c.ns x.g.ten) L h λ k b=>O5 _ _ _ _ b;exact ⟨by rw [d,GK _ (ZE _)],a⟩
 .exact ⟨rfl,h⟩
def aLs (c:Con) (l:List Rn):aI5 c l=ofL c l:=by
 have key:∀ (l:List Rn) (L:Led),qC L->l.foldl (PI c) (lX c.ns.length L)=lX c.ns.length (l.foldl (tG c) L):=λ l=>by
  induction l with
  | nil=>intro L _;rfl
  | cons x r b=>
   intro L h;obtain ⟨e,a⟩:=P3 c L h x;rw [Ba,Ba,<-e,b _ a]
 have d:lX c.ns.length []=Aj c.ns.length V3.zero:=by refine Ek λ j=>?_;rw [D8,Es];rfl
 unfold aI5 ofL;rw [<-d,key l [] (by simp [qC])]
def SO (ns:List Nod):∀ (f:Nat) (n:Int),(upF ns f n).length<=n.toNat+1/\(upF ns f n).length<=f
 | 0,n=>by simp [upF]
 | f+1,n=>by
  unfold upF;split
  .split
   .split
    .simp
    .rename_i a h1 b;have d:=SO ns f (ns[n.toNat]).p;have b:¬ n<=(ns[n.toNat]).p:=λ h=>b (decide_eq_true h);have a:=of_decide_eq_true a;simp only [Al];refine ⟨?_,by omega⟩;by_cases c:0<=(ns[n.toNat]).p
     .omega
     .have e:(upF ns f (ns[n.toNat]).p)=[]:=by
       cases f with
       | zero=>rfl
       | succ f=>
          unfold upF;rw [if_neg (by rw [decide_eq_false c];decide)]
      rw [e];simp
   .simp
  .simp
def aEk (ns:List Nod) (n:Int):(upL ns n).length<=ns.length:=by
 by_cases h:0<=n/\n.toNat<ns.length
 .have:=(SO ns (n.toNat+1) n).1;unfold upL;omega
 .unfold upL upF;by_cases a:0<=n
  .rw [if_pos (decide_eq_true a),dif_neg o_];simp
  .rw [if_neg (by rw [decide_eq_false a];decide)];simp
def ZV {ns:List Nod} {t:Int} (a:0<=t) (h1:t.toNat<ns.length):∃ r,upL ns t=t::r:=by
 unfold upL upF;rw [if_pos (decide_eq_true a),dif_pos h1];split
 .exact ⟨_,rfl⟩
 .exact ⟨_,rfl⟩
def vR {ns:List Nod} {t:Int} (h:bB ns t=true):0<=t/\t.toNat<ns.length:=by exact zqra0
def alB (c:Con) (lv a b:Int):Bool:=
 if lv=0 then decide (a=b)
 else if lv=1 then decide ((bH c.hs a).f=(bH c.hs b).f/\(bH c.hs a).b=(bH c.hs b).b/\(bH c.hs a).r=(bH c.hs b).r)
 else if lv=2 then decide ((bH c.hs a).f=(bH c.hs b).f/\(bH c.hs a).b=(bH c.hs b).b)
 else decide ((bH c.hs a).f=(bH c.hs b).f)
abbrev pT (c:Con) (lv a:Int):List Int:=ofK (bH c.hs a) a lv
def J3 (c:Con) (lv a b:Int) (i:0<=lv) (h3:lv<=3):alB c lv a b=decide (pT c lv a=pT c lv b):=by
 unfold alB pT ofK;by_cases e:lv=0
 .subst e;by_cases h:a=b
  .subst h;simp
  .simp [h]
 by_cases g:lv=1
 .subst g;simp
 by_cases f:lv=2
 .subst f;simp
 have d:lv=3:=o_;subst d;simp
def dA (c:Con) (lv i:Int):List (List Int)->Nat->Option Nat
 | [],_=>none
 | g::r,k=>if alB c lv (g.headD 0) i=true then some k else dA c lv i r (k+1)
def rgS (c:Con) (lv:Int) (s:List (List Int)) (i:Nat):List (List Int):=
 match dA c lv (i:Int) s 0 with
 | some k=>s.set k ((s[k]?).getD []++[(i:Int)])
 | none=>s++[[(i:Int)]]
def rgL (c:Con) (lv:Int):List (List Int):=if decide (lv<0)=true then [] else if decide (3<lv)=true then [] else (Di c.hs.length).foldl (rgS c lv) []
def nT (c:Con) (lv:Int):Nat->List (List Int)->List (List Int×Nat)
 | _,[]=>[]
 | k,g::r=>(pT c lv (g.headD 0),k)::nT c lv (k+1) r
def CW (c:Con) (lv i:Int) (a:0<=lv) (h3:lv<=3):∀ (s:List (List Int)) (k:Nat),lE (nT c lv k s) (pT c lv i)=dA c lv i s k
 | [],k=>rfl
 | g::r,k=>by
  unfold nT lE dA;rw [J3 c lv _ _ a h3,CW c lv i a h3 r (k+1)];by_cases h:pT c lv (g.headD 0)=pT c lv i
  .rw [if_pos h,if_pos (decide_eq_true h)]
  .rw [if_neg h,if_neg (by rw [decide_eq_false h];decide)]
def F2 (c:Con) (lv i:Int):∀ (s:List (List Int)) (k m:Nat),(∀ g∈s,g≠[])->nT c lv m (s.set k ((s[k]?).getD []++[i]))=nT c lv m s
 | [],k,m,_=>by simp
 | g::r,0,m,h=>by
  have b:=h g s_;cases g with
  | nil=>exact absurd rfl b
  | cons a t=>rfl
 | g::r,k+1,m,h=>by have e:=F2 c lv i r k (m+1) λ x d=>h x (by simp [d]);show _::nT c lv (m+1) (r.set k ((r[k]?).getD []++[i]))=_;rw [e];rfl
def CV (c:Con) (lv i:Int):∀ (s:List (List Int)) (m:Nat),nT c lv m (s++[[i]])=nT c lv m s++[(pT c lv i,m+s.length)]
 | [],m=>rfl
 | g::r,m=>by
  show _::nT c lv (m+1) (r++[[i]])=_::(nT c lv (m+1) r++_)
  rw [CV c lv i r (m+1)];simp only [Al];rw [show m+1+r.length=m+(r.length+1) from by omega]
def aI9 (c:Con) (lv:Int) (f:0<=lv) (h3:lv<=3) (s:GSt) (i:Nat) (h1:s.1=nT c lv 0 s.2) (d:∀ g∈s.2,g≠[]):
  (gpS c lv s i).2=rgS c lv s.2 i/\(gpS c lv s i).1=nT c lv 0 (rgS c lv s.2 i)/\∀ g∈rgS c lv s.2 i,g≠[]:=by
 have e:=CW c lv (i:Int) f h3 s.2 0;rw [<-h1] at e;unfold gpS rgS;have b:lE s.1 (ofK (bH c.hs (i:Int)) i lv)=dA c lv (i:Int) s.2 0:=e;rw [b];cases dA c lv (i:Int) s.2 0 with
 | some k=>
  refine ⟨rfl,?_,λ g a=>?_⟩
  .show s.1=_;rw [h1,F2 c lv i s.2 k 0 d]
  .rcases Df a with a | rfl
   .exact d g a
   .simp
 | none=>
  refine ⟨rfl,?_,λ g a=>?_⟩
  .show s.1++_=_;rw [h1,CV,Bo]
  .rcases Az.1 a with a | a
   .exact d g a
   .simp at a;subst a;simp
def aJa (c:Con) (lv:Int):rgL c lv=gpL c lv:=by
 unfold rgL gpL;by_cases h1:lv<0
 .simp only [h1,decide_true,if_true]
 by_cases e:3<lv
 .simp only [h1,e,decide_true,decide_false,if_true,if_false,Cp]
 simp only [h1,e,decide_false,if_false,Cp];have key:∀ (l:List Nat) (s:GSt),s.1=nT c lv 0 s.2->(∀ g∈s.2,g≠[])->l.foldl (rgS c lv) s.2=(l.foldl (gpS c lv) s).2:=λ l=>by
  induction l with
  | nil=>intro s _ _;rfl
  | cons i r j=>
   intro s a b;obtain ⟨d,f,h⟩:=aI9 c lv o_ o_ s i a b;rw [Ba,Ba,<-d,j _ (by rw [d];exact f) (by rw [d];exact h)]
 exact key _ ([],[]) rfl (λ g k=>by simp at k)
def cC {v:V3} (h:bI v=true):(0<=v.a/\v.a<=1048576)/\(0<=v.b/\v.b<=1048576)/\(0<=v.c/\v.c<=1048576):=by unfold bI at h;simpa [Ad,and_assoc] using h
def E6 {a b:V3}:cR a b=true↔a.a<=b.a/\a.b<=b.b/\a.c<=b.c:=by
 unfold cR;by_cases h1:b.a<a.a
 .first | (simp [h1];done) | (simp [h1];omega)
 by_cases d:b.b<a.b
 .first | (simp [h1,d];done) | (simp [h1,d];omega)
 by_cases h3:b.c<a.c
 .first | (simp [h1,d,h3];done) | (simp [h1,d,h3];omega)
 first | (simp [h1,d,h3];done) | (simp [h1,d,h3];omega)
def BR {m f k n:Int} (d:0<=k) (c:k<=f):n<=yR m f k↔n<=m/\k*n<=f:=by
 unfold yR;by_cases h:0<k
 .rw [if_pos (decide_eq_true h),Lf o_];have:=Int.le_ediv_iff_mul_le h (a:=n) (b:=f);rw [Int.mul_comm] at this;omega
 .have:k=0:=o_;subst this;rw [if_neg d_];omega
def TJ {free need:V3} (j:bI need=true) (h:cR need free=true) (n:Int):n<=eD free need↔n<=16/\need.a*n<=free.a/\need.b*n<=free.b/\need.c*n<=free.c:=by
 obtain ⟨⟨k,_⟩,⟨i,_⟩,l,_⟩:=cC j;obtain ⟨h1,m,h3⟩:=E6.1 h;unfold eD;rw [if_pos h,BR l h3,BR i m,BR k h1];constructor
 .rintro ⟨⟨⟨d,g⟩,e⟩,f⟩;exact ⟨d,g,e,f⟩
 .rintro ⟨d,g,e,f⟩;exact ⟨⟨⟨d,g⟩,e⟩,f⟩
def vH (c:Con) (a:Int):Prop:=0<=a/\a.toNat<c.hs.length
structure GH (c:Con) (i:Nat) (s:List (List Int)):Prop where
 len:s.length<=i
 one:∀ g∈s,g.length<=i/\∃ a r,g=a::r/\vH c a
def GH.step {c:Con} {lv:Int} {i:Nat} {s:List (List Int)} (h:GH c i s) (n:i<c.hs.length):GH c (i+1) (rgS c lv s i):=by
 obtain ⟨h1,f⟩:=h;unfold rgS;split
 .rename_i k m;refine ⟨by simp;omega,λ g b=>?_⟩;rcases Df b with b | rfl
  .obtain ⟨j,e⟩:=f g b;exact ⟨by omega,e⟩
  .by_cases d:k<s.length
   .rw [Aa d];obtain ⟨j,a,r,e,l⟩:=f _ (Bh d);refine ⟨by simp;omega,a,r++[(i:Int)],?_,l⟩;show s[k]++_=_;rw [e];rfl
   .rw [Bk o_];exact ⟨by simp,(i:Int),[],rfl,⟨by omega,by omega⟩⟩
 .refine ⟨by simp;omega,λ g b=>?_⟩;rcases Az.1 b with b | b
  .obtain ⟨j,e⟩:=f g b;exact ⟨by omega,e⟩
  .simp at b;subst b;exact ⟨by simp,(i:Int),[],rfl,⟨by omega,by omega⟩⟩
abbrev inO (c:Con) (g:Gan):List ab:=[.cells 26 c.cs,.cells 45 g.cs,.tail 0 1 3]
def aGl (free:List V3) (g:Gan) (c:0<=g.pods/\g.pods<=16) (a:List Int):(inL free g a).length<=16:=by
 have key:∀ (l:List Int) (out:List Int),(out.length:Int)<=g.pods->((l.foldl (inS free g) out).length:Int)<=g.pods:=λ l=>by
  induction l with
  | nil=>intro out h;exact h
  | cons x r b=>intro out h;exact b _ (I5 free g out x h)
 have:=key a [] q_;unfold inL;omega
def U4 {c:Con} {free:List V3} {g:Gan} (a:0<=g.pods/\g.pods<=16) {x:Int×List Int}:∀ {b:List (List Int)},fdG c free g b=some x->x.2.length<=16
 | [],h=>by cases h
 | gr::r,h=>by
  unfold fdG at h;split at h
  .exact U4 a h
  .cases h;exact aGl free g a gr
def U3 {c:Con} {free:List V3} {g:Gan} (a:0<=g.pods/\g.pods<=16) {x:Int×List Int}:∀ {n:Nat} {lv:Int},fdL c free g n lv=some x->x.2.length<=16
 | 0,lv,h=>by cases h
 | n+1,lv,h=>by
  unfold fdL at h;split at h
  .rename_i y b;cases h;exact U4 a b
  .exact U3 a h
def aCE {c:Con} {l:List Rn} {g:Gan} (a:0<=g.pods/\g.pods<=16) {x:Int×List Int} (h:cK c l g=some x):x.2.length<=1048576:=by
 unfold cK at h;split at h
 .unfold zC at h;have:=U3 a h;omega
 .cases h
end Go.Proofs.YtidhfoefaomodaaGreatDoor
namespace Go.AW
open Go.RowKit
def Mem.beginRow {M:Imm} {ob:Hs} {ac:List ab} {w:World} (hm:Mem M ob ac w) {k i m:Nat} {T e:TypeId} {cs:List aa} (I:ac[k]? =some (.cells T cs)) (R:cs[i]? =some (.slice m [] .nil)):
  Mem M (ob++[[.slice none 0 0]]) (ac.set k (.cells T (cs.set i (.row ac.length 0)))++[.row 0 m e []]) w/\
   Ext M ob ac w M (ob++[[.slice none 0 0]]) (ac.set k (.cells T (cs.set i (.row ac.length 0)))++[.row 0 m e []]) w/\dE ob (ob++[[.slice none 0 0]]):=by
 have l:dE ob (ob++[[.slice none 0 0]]):=λ j hs d=>⟨hs,by rw [Ag (Ab.1 d).1];exact d,Cn _⟩
 have t:k<ac.length:=(Ab.1 I).1;have f:(ob++[[.slice none 0 0]])[ac.length]? =some [.slice none 0 0]:=by rw [<-hm.len];simp
 have J:at' (ob++[[.slice none 0 0]]) ac.length 0=some (.slice none 0 0):=by rw [bV f];rfl
 have s:∀ {j:Nat} {c:ab},(ac.set k (.cells T (cs.set i (.row ac.length 0)))++[.row 0 m e []])[j]? =some c->
   (j=ac.length/\c= .row 0 m e [])\/(j=k/\c= .cells T (cs.set i (.row ac.length 0)))\/(j≠k/\j<ac.length/\ac[j]? =some c):=λ{j c} d=>by
  by_cases p:j<ac.length
  .rw [Ag (by simpa using p)] at d;by_cases r:j=k
   .subst r;rw [Ar p] at d;cases d;exact .inr (.inl ⟨rfl,rfl⟩)
   .rw [Ay (Em r)] at d;exact .inr (.inr ⟨r,p,d⟩)
  .have o:j=ac.length:=by have:=(Ab.1 d).1;simp at this;omega
   subst o;rw [Ak s_] at d;simp at d;exact .inl ⟨rfl,d.symm⟩
 have C:∀ {j b:Nat},aG (ob++[[.slice none 0 0]]) (ac.set k (.cells T (cs.set i (.row ac.length 0)))++[.row 0 m e []]) j b->aG ob ac j b:=λ{j b} ⟨c,hs,y,B,e3,e4⟩=>by
  rcases s y with ⟨rfl,rfl⟩ | ⟨rfl,rfl⟩ | ⟨h1,o,h3⟩
  .rw [f] at e3;cases e3;cases e4
  .rw [Ag (by rw [hm.len];exact t)] at e3;exact ⟨_,hs,I,rfl,e3,e4⟩
  .rw [Ag (by rw [hm.len];exact o)] at e3;exact ⟨c,hs,h3,B,e3,e4⟩
 have N:∀ (j:Nat) c,(ac.set k (.cells T (cs.set i (.row ac.length 0)))++[.row 0 m e []])[j]? =some c->∃ hs,(ob++[[.slice none 0 0]])[j]? =some hs/\gQ M (ob++[[.slice none 0 0]]) w hs c:=λ j c d=>by
  rcases s d with ⟨rfl,rfl⟩ | ⟨rfl,rfl⟩ | ⟨h1,o,h3⟩
  .have V:dH M w (.slice none 0 0) m e []:=by
    refine ⟨[],Hf w 0 _ _,?_,?_,?_,?_,?_⟩
    .intro u W;simp at W
    .intro x X;simp at X
    .intro q c S;simp [aH] at S
    .intro b G;cases G
    .intro b G;cases G
   exact ⟨_,f,rfl,_,rfl,V⟩
  .obtain ⟨hs,y,b,D,L,cv,P,O,F,A⟩:=hm.obj _ _ I;refine ⟨hs,by rw [Ag (by rw [hm.len];exact t)];exact y,b,D,L,cv,P,by simpa using O,F,λ n v a z g=>?_⟩;by_cases Q:n=i
   .subst Q;have K:n<cs.length:=(Ab.1 R).1;rw [Ar K] at g;cases g;have:=A n v _ z R;obtain ⟨_,H⟩:=this.untok;have H:v= .slice none 0 0:=H;subst H;exact .row _ _ _ _ _ J
   .rw [Ay (Em Q)] at g;exact (A n v a z g).mono (λ_ _ _ h=>h) l
  .obtain ⟨hs,y,B⟩:=hm.obj j c h3;refine ⟨hs,by rw [Ag (by rw [hm.len];exact o)];exact y,?_⟩;cases c with
   | cells Y cs'=>
    obtain ⟨b,D,L,cv,P,O,F,A⟩:=B;exact ⟨b,D,L,cv,P,O,F,λ n v a z g=>(A n v a z g).mono (λ_ _ _ h=>h) l⟩
   | _=>exact B
 refine ⟨⟨hm.imm,by simp [hm.len],N,λ j b g=>hm.lt j b (C g),λ j U b h1 o=>hm.inj j U b (C h1) (C o)⟩,⟨λ_ _ _ h=>h,λ_ _ _ h=>.inl h,l,rfl,rfl,rfl,Bc _,λ_ _ _=>rfl,λ j b g=>.inl ⟨j,C g⟩⟩,l⟩
def To.beginRowH {E:Env} {fn:Func} {g:Goal} {st:List KI} {fr:List (Nat×aa)} {ac:List ab} (k i:Nat) (e:TypeId) {T:TypeId} {cs:List aa} {j:Nat} (n:aC ac k= .cells T cs) (p:nth cs i=some (.slice j [] .nil))
  (h:To E fn g (.head st fr (kF (bJ ac k (.cells T (K6 cs i (.row (aM ac) 0)))) (.row 0 j e [])))):To E fn g (.head st fr ac):=
 .mk λ f M0 ob0 b w0 a w hst hs=>by refine h.rec λ h=>h f M0 ob0 b w0 a w hst ?_;obtain ⟨M,ob,r,hm,d,s,q,u⟩:=hs;have c:=bD n s_;obtain ⟨m,o,l⟩:=hm.beginRow (e:=e) c (kY p);rw [nJ,H3,bG,aO c];exact ⟨M,_,r.trans o,m,λ t=>(d t).mono (λ_ _ _ h=>h) l,s,q.mono (λ_ _ _ h=>h) l,by simp;omega⟩
def To.beginRow {E:Env} {fn:Func} {g:Goal} {st:List KI} {fr:List (Nat×aa)} {ac:List ab} (k i:Nat) (e:TypeId) {T:TypeId} {cs:List aa} {a:Nat} (b:aC ac k= .cells T cs) (c:nth cs i=some (.slice a [] .nil))
  (h:To E fn g (.code st fr (kF (bJ ac k (.cells T (K6 cs i (.row (aM ac) 0)))) (.row 0 a e [])))):To E fn g (.code st fr ac):=
 To.toC (To.beginRowH k i e b c (To.ofC h))
end Go.AW
namespace Go.Proofs.YtidhfoefaomodaaGreatDoor
open Go Go.AW Go.Proofs
set_option maxRecDepth 10000
def IR (x:Int):ar 227 [ii x] [] (.ret (.bool false)) []:=by refine c_ Tryz.f227 λ_=>?_;refine gV ?_;exact congrArg (λ b=>Res.ret (aa.bool b)) s_
def RS (a b:Int):Int:=if a<b then -1 else if b<a then 1 else 0
def VP (a b r:Int) (c:RS a b=r):ar 165 [ii a,ii b] [] (.ret (ii r)) []:=by
 unfold RS at c;by_cases h1:a<b
 .rw [if_pos h1] at c;exact zqra1
 .rw [if_neg h1] at c;by_cases e:b<a
  .rw [if_pos e] at c;exact zqra1
  .rw [if_neg e] at c;exact zqra1
def aDw (a b:Int):ar 165 [ii a,ii b] [] (.ret (ii (RS a b))) []:=VP a b _ rfl
def orI (p q:Int):Int:=if p=0 then q else p
def CB (p q r:Int) (b:orI p q=r):ar 168 [.slice 1 [ii p,ii q] .no] [] (.ret (ii r)) []:=by
 unfold orI at b;by_cases h1:p=0
 .subst h1;rw [if_pos rfl] at b;have hp:((0:Int) !=0)=false:=by decide
  by_cases c:q=0
  .subst c;subst b;have a:((0:Int) !=0)=false:=by decide
   refine c_ Tryz.f168 λ_=>?_
   repeat' first
    | (refine gW hE ?_;conv=>whnf)
    | exact rfl
    | refine Ao 0 (Ac rfl ?_)
    | refine Ao 1 (Ac rfl ?_)
    | refine Ao _ (Ac rfl ?_)
    | refine aY ?_
    | refine aN ?_
    | refine Ac (λ h=>?_) (λ h=>absurd h (by rw [hp];decide))
    | refine Ac (λ h=>?_) (λ h=>absurd h (by rw [a];decide))
    | refine Ac (λ h=>absurd h (by rw [hp];decide)) (λ h=>?_)
    | refine Ac (λ h=>absurd h (by rw [a];decide)) (λ h=>?_)
    | refine aJ ?_
    | fail
  .subst b;have a:(q !=0)=true:=by simp [c]
   refine c_ Tryz.f168 λ_=>?_
   repeat' first
    | (refine gW hE ?_;conv=>whnf)
    | exact rfl
    | refine Ao 0 (Ac rfl ?_)
    | refine Ao 1 (Ac rfl ?_)
    | refine Ao _ (Ac rfl ?_)
    | refine aY ?_
    | refine aN ?_
    | refine Ac (λ h=>?_) (λ h=>absurd h (by rw [hp];decide))
    | refine Ac (λ h=>?_) (λ h=>absurd h (by rw [a];decide))
    | refine Ac (λ h=>absurd h (by rw [hp];decide)) (λ h=>?_)
    | refine Ac (λ h=>absurd h (by rw [a];decide)) (λ h=>?_)
    | refine aJ ?_
    | fail
 .rw [if_neg h1] at b;subst b;have hp:(p !=0)=true:=by simp [h1]
  have a:((0:Int) !=0)=false:=by decide
  refine c_ Tryz.f168 λ_=>?_
  repeat' first
   | (refine gW hE ?_;conv=>whnf)
   | exact rfl
   | refine Ao 0 (Ac rfl ?_)
   | refine Ao 1 (Ac rfl ?_)
   | refine Ao _ (Ac rfl ?_)
   | refine aY ?_
   | refine aN ?_
   | refine Ac (λ h=>?_) (λ h=>absurd h (by rw [hp];decide))
   | refine Ac (λ h=>?_) (λ h=>absurd h (by rw [a];decide))
   | refine Ac (λ h=>absurd h (by rw [hp];decide)) (λ h=>?_)
   | refine Ac (λ h=>absurd h (by rw [a];decide)) (λ h=>?_)
   | refine aJ ?_
   | fail
def jZ (a b:Rn):Bool:=decide (orI (RS b.st a.st) (RS b.seq a.seq)<0)
def aF4 (a b:Rn) (r:Bool) (c:jZ a b=r):ar 234 [a.av,b.av] [] (.ret (.bool r)) []:=by have h1:=aDw b.st a.st;have d:=aDw b.seq a.seq;unfold jZ at c;generalize RS b.st a.st=p at h1 c;generalize RS b.seq a.seq=q at d c;have h3:=CB p q _ rfl;generalize orI p q=o at h3 c;subst c;exact c_ Tryz.f234 λ_=>zW
def P9 (a b:Rn):ar 234 [a.av,b.av] [] (.ret (.bool (jZ a b))) []:=aF4 a b _ rfl
def AF (x:Rn) (h:x.hs.length<=1048576):ar 163 [x.av] [] (.ret x.av) []:=by refine c_ Tryz.f163 λ_=>?_;have a:=yA x.hs h;exact zW
def rn0:Rn:=⟨⟨0,0,0,V3.zero,0,0,0⟩,0,0,0,0,[]⟩
def aS (xs:List Rn) (i:Nat):Rn:=(xs[i]?).getD rn0
def iG {xs:List Rn} {i:Nat} (h:i<xs.length):(rav xs)[i]? =some (aS xs i).av:=by unfold aS;rw [Aa h];exact dL h
def pJ (xs:List Rn) (i k:Nat):List Rn:=(xs.set i (aS xs k)).set k (aS xs i)
def iT (xs:List Rn) (i k:Nat):(pJ xs i k).length=xs.length:=by unfold pJ;simp
def LM (xs:List Rn) (i k:Nat):rav (pJ xs i k)=((rav xs).set i (aS xs k).av).set k (aS xs i).av:=by unfold pJ;simp [rav,Gr]
def upH:Nat->List Rn->Nat->List Rn
 | 0,xs,_=>xs
 | f+1,xs,i=>if i=0 then xs else if jZ (aS xs i) (aS xs ((i-1) / 2))=true then upH f (pJ xs i ((i-1) / 2)) ((i-1) / 2) else xs
def qP (xs:List Rn) (x:Rn):List Rn:=upH (xs.length+1) (xs++[x]) xs.length
def SN:∀ (f:Nat) (xs:List Rn) (i:Nat),(upH f xs i).length=xs.length
 | 0,xs,i=>rfl
 | f+1,xs,i=>by
  unfold upH;split
  .rfl
  .split
   .rw [SN f,iT]
   .rfl
def FN (xs:List Rn) (x:Rn):(qP xs x).length=xs.length+1:=by unfold qP;rw [SN];simp
abbrev aF5:aa:=.func (.func 234) [] []
abbrev hpO (l:aa) (g:Nat) (xs:List Rn):List ab:=[.cells 346 [l,aF5],.row g 14 107 (rav xs)]
noncomputable abbrev aIe:Func:=Tryz.f235
def XC (N:Nat) (q:N<=1048577) (R:List Rn):∀ (f i:Nat) (ys:List Rn),ys.length=N->i<N->i<f->upH f ys i=R->
  To (Er [] [6,14,15,56]) aIe (.full 2 (.ret (.tup [])) (hpO (.row 1 1) 1 R)) (.head (stk aIe 0) [(0,.ref 0 0),(4,ii i)] (hpO (.row 1 1) 1 ys)):=by
 intro f;induction f with
 | zero=>intro i ys _ _ h;omega
 | succ f o=>
  intro i ys n r p d;have l:(rav ys).length=ys.length:=by simp
  unfold upH at d;by_cases k:i=0
  .subst k;rw [if_pos rfl] at d;subst d;refine gV ?_;exact zW
  rw [if_neg k] at d;have e:(i-1) / 2<ys.length:=o_;have c:Ly ((i:Int)-1) 2=(((i-1) / 2:Nat):Int):=by rw [Lf o_];omega
  have j:=iG (xs:=ys) (i:=i) o_;have g:=iG e;have hl:=P9 (aS ys i) (aS ys ((i-1) / 2));generalize m:(i-1) / 2=up at d c g hl e;by_cases h1:jZ (aS ys i) (aS ys up)=true
  .rw [if_pos h1] at d;rw [h1] at hl;have ao:=o up (pJ ys i up) (by rw [iT];exact n) o_ o_ d
   unfold hpO at ao
   rw [LM] at ao
   generalize aS ys i=a at j hl ao
   generalize aS ys up=b at g hl ao
   refine gV ?_;refine aT λ h=>?_
   repeat' first
    | exact To.cut [0,4] 2 rfl rfl rfl rfl ao
    | (refine gN (hEr [] [6,14,15,56]) ?_;conv=>whnf)
    | refine Ao i (Ac rfl ?_)
    | refine Ao up (Ac c ?_)
    | refine Ao _ (Ac j ?_)
    | refine Ao _ (Ac g ?_)
    | refine .pure _ [] hl ?_
    | refine aY ?_
    | refine aN ?_
    | refine Ac o_ ?_
    | refine Ac (by rw [Dr];omega) ?_
    | refine aJ ?_
    | refine Ac d_ ?_
    | fail
   rw [c];exact To.cut [0,4] 2 rfl rfl rfl rfl ao
  .have h1:jZ (aS ys i) (aS ys up)=false:=by simpa using h1
   rw [if_neg (by rw [h1];decide)] at d;subst d;rw [h1] at hl;generalize aS ys i=a at j hl;generalize aS ys up=b at g hl;refine gV ?_;exact zW
def aFp (xs:List Rn) (hl:xs.length<=1048576) (x:Rn):ar 235 [.ref 0 0,x.av] (hpO (.row 1 0) 0 xs) (.ret (.tup [])) (hpO (.row 1 1) 1 (qP xs x)):=by
 have b:(rav xs).length=xs.length:=by simp
 have ao:=XC (xs.length+1) o_ (qP xs x) (xs.length+1) xs.length (xs++[x]) s_ o_ o_ rfl
 have e:rav (xs++[x])=rav xs++[x.av]:=by simp
 unfold hpO at ao
 rw [e] at ao
 refine cT (E:=(Er [] [6,14,15,56])) (fn:=Tryz.f235) (g:=.full 2 _ _) λ_=>?_
 repeat' first | (refine gN (hEr [] [6,14,15,56]) ?_;conv=>whnf) | refine ⟨⟨by simp only [maxLen];simp;omega,by simp;omega⟩,?_⟩ | refine Gd (Ac (Ac (by simp only [Ai,Al,Br,cJ];omega) (by simp only [Ai,Al,Br,bE];omega)) ?_) | exact rfl | (refine zt ?_;try intro h) | refine zu (λ h=>?_) λ h=>?_ | fail
 refine To.cut [0,4] 2 rfl rfl rfl rfl ?_;have a:(((rav xs++[x.av]).length:Int)-1)=((xs.length:Nat):Int):=by simp
 rw [<-a] at ao
 exact ao
set_option maxHeartbeats 2000000
def gG (xs:List Rn) (n i:Nat):Nat:=if 2*i+2<n then (if jZ (aS xs (2*i+2)) (aS xs (2*i+1))=true then 2*i+2 else 2*i+1) else 2*i+1
def VL (xs:List Rn) (n i:Nat) (h:2*i+1<n):gG xs n i<n/\i<gG xs n i/\(gG xs n i=2*i+1\/gG xs n i=2*i+2):=by
 unfold gG;split
 .split<;>omega
 .omega
def wM:Nat->List Rn->Nat->Nat->List Rn
 | 0,xs,_,_=>xs
 | f+1,xs,n,i=>if 2*i+1<n then (if jZ (aS xs (gG xs n i)) (aS xs i)=true then wM f (pJ xs i (gG xs n i)) n (gG xs n i) else xs) else xs
def G6:∀ (f:Nat) (xs:List Rn) (n i:Nat),(wM f xs n i).length=xs.length
 | 0,xs,n,i=>rfl
 | f+1,xs,n,i=>by
  unfold wM;split
  .split
   .rw [G6 f,iT]
   .rfl
  .rfl
def zV (xs:List Rn) (n:Nat):List Rn:=wM n (xs.set 0 (aS xs (n-1))) (n-1) 0
def B1 (xs:List Rn) (n:Nat):(zV xs n).length=xs.length:=by unfold zV;rw [G6];simp
def DB {xs:List Rn} {i:Nat} (h:i<xs.length):(rav xs)[0+i]? =some (aS xs i).av:=by rw [Bo];exact iG h
def XA (xs:List Rn) (i k:Nat):rav (pJ xs i k)=((rav xs).set (0+i) (aS xs k).av).set (0+k) (aS xs i).av:=by rw [Bo,Bo];exact LM xs i k
abbrev z14:List aa:=[ii 0,ii 0,ii 0,ii 0,ii 0,ii 0,ii 0,ii 0,ii 0,ii 0,ii 0,ii 0,ii 0,.slice 1 [] .nil]
abbrev ppO (n:Nat) (ys:List Rn) (x:List aa):List ab:=hpO (.sub 1 0 0 n 14) 0 ys++[.cells 107 z14,.cells 107 x]
abbrev ppF (n i:Int):List (Nat×aa):=[(0,.ref 0 0),(2,.ref 2 0),(3,.ref 3 0),(4,ii n),(5,ii i)]
noncomputable abbrev wF:Func:=Tryz.f236
def aJk (n N:Nat) (p:n<=N) (q:N<=1048577) (R:List Rn) (x:Rn) (i:Nat) (ys:List Rn) (u:ys.length=N) (s:2*i+1<n) (h3:2*i+2<n) (a b c:Rn) (k:(rav ys)[0+i]? =some a.av) (l:(rav ys)[0+(2*i+1)]? =some b.av) (j:(rav ys)[0+(2*i+2)]? =some c.av)
  (d:ar 234 [c.av,b.av] [] (.ret (.bool true)) []) (r:Bool) (e:ar 234 [c.av,a.av] [] (.ret (.bool r)) []) (g:r=false->ys=R)
  (ao:r=true->To (Er [] [105]) wF (.full 2 (.ret x.av) (hpO (.sub 1 0 0 n 14) 0 R)) (.head (stk wF 0) (ppF n ((2*i+2:Nat):Int)) [.cells 346 [.sub 1 0 0 n 14,aF5],.row 0 14 107 (((rav ys).set (0+i) c.av).set (0+(2*i+2)) a.av),.cells 107 z14,.cells 107 x.cs])):
  To (Er [] [105]) wF (.full 2 (.ret x.av) (hpO (.sub 1 0 0 n 14) 0 R)) (.head (stk wF 0) (ppF n i) (ppO n ys x.cs)):=by
 have o:(rav ys).length=ys.length:=by simp
 have m:2*(i:Int)+1+1=((2*i+2:Nat):Int):=o_;cases r with
 | false=>
  have g:=g rfl;subst g;refine gV ?_
  repeat' first
   | (refine gN (hEr [] [105]) ?_;conv=>whnf)
   | refine Ao (2*i+2) (Ac o_ ?_)
   | refine Ao (2*i+1) (Ac o_ ?_)
   | refine Ao i (Ac rfl ?_)
   | refine Ao _ (Ac j ?_)
   | refine Ao _ (Ac l ?_)
   | refine Ao _ (Ac k ?_)
   | refine .pure _ [] d ?_
   | refine .pure _ [] e ?_
   | refine aY ?_
   | refine aN ?_
   | refine aT λ h=>?_
   | refine aF λ h=>?_
   | refine Ac o_ ?_
   | refine Ac (by rw [Dr];omega) ?_
   | refine Ac (Ac (by simp only [cJ];omega) (by simp only [bE];omega)) ?_
   | refine aJ ?_
   | refine Ac d_ ?_
   | refine ⟨[],[0,1],⟨rfl,rfl⟩,⟨rfl,rfl⟩⟩
   | fail
 | true=>
  have ao:=ao rfl
  rw [<-m] at ao
  refine gV ?_
  repeat' first
   | (refine gN (hEr [] [105]) ?_;conv=>whnf)
   | refine Ao (2*i+2) (Ac o_ ?_)
   | refine Ao (2*i+1) (Ac o_ ?_)
   | refine Ao i (Ac rfl ?_)
   | refine Ao _ (Ac j ?_)
   | refine Ao _ (Ac l ?_)
   | refine Ao _ (Ac k ?_)
   | refine .pure _ [] d ?_
   | refine .pure _ [] e ?_
   | refine aY ?_
   | refine aN ?_
   | refine aT λ h=>?_
   | refine aF λ h=>?_
   | refine Ac o_ ?_
   | refine Ac (by rw [Dr];omega) ?_
   | refine Ac (Ac (by simp only [cJ];omega) (by simp only [bE];omega)) ?_
   | refine aJ ?_
   | refine Ac d_ ?_
   | refine ⟨[],[0,1],⟨rfl,rfl⟩,⟨rfl,rfl⟩⟩
   | fail
  exact zqra2
def aJl (n N:Nat) (p:n<=N) (q:N<=1048577) (R:List Rn) (x:Rn) (i:Nat) (ys:List Rn) (u:ys.length=N) (s:2*i+1<n) (h3:2*i+2<n) (a b c:Rn) (k:(rav ys)[0+i]? =some a.av) (l:(rav ys)[0+(2*i+1)]? =some b.av) (j:(rav ys)[0+(2*i+2)]? =some c.av)
  (d:ar 234 [c.av,b.av] [] (.ret (.bool false)) []) (r:Bool) (e:ar 234 [b.av,a.av] [] (.ret (.bool r)) []) (g:r=false->ys=R)
  (ao:r=true->To (Er [] [105]) wF (.full 2 (.ret x.av) (hpO (.sub 1 0 0 n 14) 0 R)) (.head (stk wF 0) (ppF n ((2*i+1:Nat):Int)) [.cells 346 [.sub 1 0 0 n 14,aF5],.row 0 14 107 (((rav ys).set (0+i) b.av).set (0+(2*i+1)) a.av),.cells 107 z14,.cells 107 x.cs])):
  To (Er [] [105]) wF (.full 2 (.ret x.av) (hpO (.sub 1 0 0 n 14) 0 R)) (.head (stk wF 0) (ppF n i) (ppO n ys x.cs)):=by
 have o:(rav ys).length=ys.length:=by simp
 have m:2*(i:Int)+1=((2*i+1:Nat):Int):=o_;cases r with
 | false=>
  have g:=g rfl;subst g;refine gV ?_
  repeat' first
   | (refine gN (hEr [] [105]) ?_;conv=>whnf)
   | refine Ao (2*i+2) (Ac o_ ?_)
   | refine Ao (2*i+1) (Ac o_ ?_)
   | refine Ao i (Ac rfl ?_)
   | refine Ao _ (Ac j ?_)
   | refine Ao _ (Ac l ?_)
   | refine Ao _ (Ac k ?_)
   | refine .pure _ [] d ?_
   | refine .pure _ [] e ?_
   | refine aY ?_
   | refine aN ?_
   | refine aT λ h=>?_
   | refine aF λ h=>?_
   | refine Ac o_ ?_
   | refine Ac (by rw [Dr];omega) ?_
   | refine Ac (Ac (by simp only [cJ];omega) (by simp only [bE];omega)) ?_
   | refine aJ ?_
   | refine Ac d_ ?_
   | refine ⟨[],[0,1],⟨rfl,rfl⟩,⟨rfl,rfl⟩⟩
   | fail
 | true=>
  have ao:=ao rfl
  rw [<-m] at ao
  refine gV ?_
  repeat' first
   | (refine gN (hEr [] [105]) ?_;conv=>whnf)
   | refine Ao (2*i+2) (Ac o_ ?_)
   | refine Ao (2*i+1) (Ac o_ ?_)
   | refine Ao i (Ac rfl ?_)
   | refine Ao _ (Ac j ?_)
   | refine Ao _ (Ac l ?_)
   | refine Ao _ (Ac k ?_)
   | refine .pure _ [] d ?_
   | refine .pure _ [] e ?_
   | refine aY ?_
   | refine aN ?_
   | refine aT λ h=>?_
   | refine aF λ h=>?_
   | refine Ac o_ ?_
   | refine Ac (by rw [Dr];omega) ?_
   | refine Ac (Ac (by simp only [cJ];omega) (by simp only [bE];omega)) ?_
   | refine aJ ?_
   | refine Ac d_ ?_
   | refine ⟨[],[0,1],⟨rfl,rfl⟩,⟨rfl,rfl⟩⟩
   | fail
  exact zqra2
def aJm (n N:Nat) (o:n<=N) (p:N<=1048577) (R:List Rn) (x:Rn) (i:Nat) (ys:List Rn) (s:ys.length=N) (q:2*i+1<n) (h3:¬ 2*i+2<n) (a b:Rn) (j:(rav ys)[0+i]? =some a.av) (k:(rav ys)[0+(2*i+1)]? =some b.av)
 (r:Bool) (d:ar 234 [b.av,a.av] [] (.ret (.bool r)) []) (e:r=false->ys=R)
  (ao:r=true->To (Er [] [105]) wF (.full 2 (.ret x.av) (hpO (.sub 1 0 0 n 14) 0 R)) (.head (stk wF 0) (ppF n ((2*i+1:Nat):Int)) [.cells 346 [.sub 1 0 0 n 14,aF5],.row 0 14 107 (((rav ys).set (0+i) b.av).set (0+(2*i+1)) a.av),.cells 107 z14,.cells 107 x.cs])):
  To (Er [] [105]) wF (.full 2 (.ret x.av) (hpO (.sub 1 0 0 n 14) 0 R)) (.head (stk wF 0) (ppF n i) (ppO n ys x.cs)):=by
  have m:(rav ys).length=ys.length:=by simp
  have c:=IR 0;have g:True:=trivial;have l:2*(i:Int)+1=((2*i+1:Nat):Int):=o_;cases r with
  | false=>
   have e:=e rfl;subst e;refine gV ?_
   repeat' first
    | (refine gN (hEr [] [105]) ?_;conv=>whnf)
    | refine Ao (2*i+2) (Ac o_ ?_)
    | refine Ao (2*i+1) (Ac o_ ?_)
    | refine Ao i (Ac rfl ?_)
    | refine Ao _ (Ac g ?_)
    | refine Ao _ (Ac k ?_)
    | refine Ao _ (Ac j ?_)
    | refine .pure _ [] c ?_
    | refine .pure _ [] d ?_
    | refine aY ?_
    | refine aN ?_
    | refine aT λ h=>?_
    | refine aF λ h=>?_
    | refine Ac o_ ?_
    | refine Ac (by rw [Dr];omega) ?_
    | refine Ac (Ac (by simp only [cJ];omega) (by simp only [bE];omega)) ?_
    | refine aJ ?_
    | refine Ac d_ ?_
    | refine ⟨[],[0,1],⟨rfl,rfl⟩,⟨rfl,rfl⟩⟩
    | fail
  | true=>
   have ao:=ao rfl
   rw [<-l] at ao
   refine gV ?_
   repeat' first
    | (refine gN (hEr [] [105]) ?_;conv=>whnf)
    | refine Ao (2*i+2) (Ac o_ ?_)
    | refine Ao (2*i+1) (Ac o_ ?_)
    | refine Ao i (Ac rfl ?_)
    | refine Ao _ (Ac g ?_)
    | refine Ao _ (Ac k ?_)
    | refine Ao _ (Ac j ?_)
    | refine .pure _ [] c ?_
    | refine .pure _ [] d ?_
    | refine aY ?_
    | refine aN ?_
    | refine aT λ h=>?_
    | refine aF λ h=>?_
    | refine Ac o_ ?_
    | refine Ac (by rw [Dr];omega) ?_
    | refine Ac (Ac (by simp only [cJ];omega) (by simp only [bE];omega)) ?_
    | refine aJ ?_
    | refine Ac d_ ?_
    | refine ⟨[],[0,1],⟨rfl,rfl⟩,⟨rfl,rfl⟩⟩
    | fail
   exact zqra2
def LZ (n N:Nat) (m:n<=N) (p:N<=1048577) (R:List Rn) (x:Rn):∀ (f i:Nat) (ys:List Rn),ys.length=N->i<N->n<f+i+1->wM f ys n i=R->
  To (Er [] [105]) wF (.full 2 (.ret x.av) (hpO (.sub 1 0 0 n 14) 0 R)) (.head (stk wF 0) (ppF n i) (ppO n ys x.cs)):=by
 intro f;induction f with
 | zero=>
  intro i ys k z w b;have b:ys=R:=b;subst b;have o:(rav ys).length=ys.length:=by simp
  refine gV ?_;exact zW
 | succ f l=>
  intro i ys k z w b;have o:(rav ys).length=ys.length:=by simp
  unfold wM at b;by_cases g:2*i+1<n
  .rw [if_pos g] at b;have y:=VL ys n i g;have s:=DB (xs:=ys) (i:=i) o_;have u:=DB (xs:=ys) (i:=2*i+1) o_;have a:=P9 (aS ys (gG ys n i)) (aS ys i);have t:=XA ys i (gG ys n i);have l:=l (gG ys n i) (pJ ys i (gG ys n i)) (by rw [iT];exact k) o_ o_;unfold ppO hpO at l;rw [t] at l;have d:∀ r,jZ (aS ys (gG ys n i)) (aS ys i)=r->(r=false->ys=R)/\(r=true->wM f (pJ ys i (gG ys n i)) n (gG ys n i)=R):=λ r q=>by
    subst q;refine ⟨λ h=>?_,λ h=>?_⟩
    .rw [if_neg (by rw [h];decide)] at b;exact b
    .rw [if_pos h] at b;exact b
   have d:=d _ rfl;generalize jZ (aS ys (gG ys n i)) (aS ys i)=r at a d;have ao:=λ q=>l (d.2 q)
   by_cases h3:2*i+2<n
   .have v:=DB (xs:=ys) (i:=2*i+2) o_;have c:=P9 (aS ys (2*i+2)) (aS ys (2*i+1));by_cases e:jZ (aS ys (2*i+2)) (aS ys (2*i+1))=true
    .have j:gG ys n i=2*i+2:=by unfold gG;rw [if_pos h3,if_pos e]
     rw [e] at c;rw [j] at ao a
     exact aJk n N m p R x i ys k g h3 _ _ _ s u v c r a d.1 ao
    .have e:jZ (aS ys (2*i+2)) (aS ys (2*i+1))=false:=by simpa using e
     have j:gG ys n i=2*i+1:=by unfold gG;rw [if_pos h3,if_neg (by rw [e];decide)]
     rw [e] at c;rw [j] at ao a
     exact aJl n N m p R x i ys k g h3 _ _ _ s u v c r a d.1 ao
   .have j:gG ys n i=2*i+1:=by unfold gG;rw [if_neg h3]
    rw [j] at ao a
    exact aJm n N m p R x i ys k g h3 _ _ s u r a d.1 ao
  .rw [if_neg g] at b;subst b;refine gV ?_;exact zW
inductive HV (ys:List Rn):aa->Nat->Prop
 | row:HV ys (.row 1 0) ys.length
 | sub (n:Nat) (h:n<=ys.length):HV ys (.sub 1 0 0 n 14) n
def aJj (ys:List Rn) (hl:ys.length<=1048577) (o:aa) (n:Nat) (q:HV ys o n) (p:0<n):ar 236 [.ref 0 0] (hpO o 0 ys) (.ret (aS ys 0).av) (hpO (.sub 1 0 0 (n-1) 14) 0 (zV ys n)):=by
 have m:(rav ys).length=ys.length:=by simp
 cases q with
 | row=>
  have k:=iG (xs:=ys) (i:=0) o_;have d:=iG (xs:=ys) (i:=ys.length-1) o_;have c:((ys.length:Nat):Int)-1=((ys.length-1:Nat):Int):=o_
  obtain ⟨n,l⟩:∃ n,n=ys.length:=⟨_,rfl⟩
  rw [<-l] at d c p⊢;have j:((rav ys).length:Int)-1=((n-1:Nat):Int):=by rw [m,<-l];exact c
  have ao:=LZ (n-1) ys.length o_ o_ (zV ys n) (aS ys 0) n 0 (ys.set 0 (aS ys (n-1))) s_ o_ o_ rfl
  have e:rav (ys.set 0 (aS ys (n-1)))=(rav ys).set 0 (aS ys (n-1)).av:=by simp [rav,Gr]
  unfold ppO hpO at ao
  rw [e] at ao
  generalize aS ys 0=a at k ao
  generalize aS ys (n-1)=b at d ao
  refine cT (E:=(Er [] [105])) (fn:=Tryz.f236) (g:=.full 2 _ _) λ_=>?_
  repeat' first | (refine gN (hEr [] [105]) ?_;conv=>whnf) | refine ⟨0,rfl,?_⟩ | refine ⟨_,k,?_⟩ | refine Ao (n-1) (Ac j ?_) | refine ⟨_,d,?_⟩ | refine Ac (by rw [Dr];omega) ?_ | exact rfl | (refine zt ?_;try intro h) | refine zu (λ h=>?_) λ h=>?_ | fail
  rw [j];exact zqra2
 | sub _ h=>
  have k:=DB (xs:=ys) (i:=0) o_;have d:=DB (xs:=ys) (i:=n-1) o_;have c:((n:Nat):Int)-1=((n-1:Nat):Int):=o_;have ao:=LZ (n-1) ys.length o_ o_ (zV ys n) (aS ys 0) n 0 (ys.set 0 (aS ys (n-1))) s_ o_ o_ rfl
  have e:rav (ys.set 0 (aS ys (n-1)))=(rav ys).set (0+0) (aS ys (n-1)).av:=by simp [rav,Gr]
  unfold ppO hpO at ao
  rw [e] at ao
  generalize aS ys 0=a at k ao
  generalize aS ys (n-1)=b at d ao
  refine cT (E:=(Er [] [105])) (fn:=Tryz.f236) (g:=.full 2 _ _) λ_=>?_
  repeat' first | (refine gN (hEr [] [105]) ?_;conv=>whnf) | refine ⟨0,rfl,?_⟩ | refine ⟨_,k,?_⟩ | refine Ao (n-1) (Ac c ?_) | refine ⟨_,d,?_⟩ | refine Ac (by rw [Dr];omega) ?_ | exact rfl | (refine zt ?_;try intro h) | refine zu (λ h=>?_) λ h=>?_ | fail
  rw [c];exact zqra2
set_option maxRecDepth 10000
def mS:Nat->List Rn->List Rn
 | 0,_=>[]
 | n+1,ys=>aS ys 0::mS n (zV ys (n+1))
def gH (l:List Rn):List Rn:=mS l.length (l.foldl qP [])
def BZ:∀ (l ys:List Rn),(l.foldl qP ys).length=ys.length+l.length
 | [],ys=>rfl
 | x::r,ys=>by rw [Ba,BZ r,FN];simp;omega
def HV.inv {ys:List Rn} {a:aa} {n:Nat} (h:HV ys a n):(a= .row 1 0/\n=ys.length)\/(a= .sub 1 0 0 n 14/\n<=ys.length):=by
 cases h with
 | row=>exact .inl ⟨rfl,rfl⟩
 | sub _ h=>exact .inr ⟨rfl,h⟩
noncomputable abbrev aGN:Func:=Tryz.f173
def P0 (R:List Rn):∀ (n:Nat) (ys:List Rn) (c:aa) (out:List Rn),HV ys c n->ys.length<=1048577->out.length+n<=1048576->out++mS n ys=R->
  To (Eo [6] []) aGN (.pure (.ret (.slice 14 (rav R) .no))) (.head (stk aGN 1) [(3,.ref 0 0),(6,.slice 14 (rav out) (.own 2 0))] (hpO c 0 ys++[.tail 0 14 107])):=by
 intro n;induction n with
 | zero=>
  intro ys c out b f j a;have a:out++[]=R:=a;rw [Av] at a;subst a;have d:(rav ys).length=ys.length:=by simp
  exact zqra3
 | succ n l=>
  intro ys c out b f j a;have d:(rav ys).length=ys.length:=by simp
  have hp:=aJj ys f c (n+1) b o_;have a:out++aS ys 0::mS n (zV ys (n+1))=R:=a;have g:n<=(zV ys (n+1)).length:=by rw [B1];rcases b.inv with ⟨_,h⟩ | ⟨_,h⟩<;>omega
  have ao:=l (zV ys (n+1)) (.sub 1 0 0 n 14) (out++[aS ys 0]) (.sub n g) (by rw [B1];exact f) q_ (by rw [Af];exact a)
  have e:rav (out++[aS ys 0])=rav out++[(aS ys 0).av]:=by simp
  rw [e] at ao
  have k:(rav out).length=out.length:=by simp
  generalize aS ys 0=x at hp ao
  have i:n+1-1=n:=o_;rw [i] at hp;generalize zV ys (n+1)=ys' at hp ao
  exact zqra3
def PZ (l:List Rn) (hs:Sm l) (R:List Rn):∀ (m i:Nat) (ys:List Rn),i+m=l.length->ys.length=i->mS l.length ((l.drop i).foldl qP ys)=R->
  To (Eo [6] []) aGN (.pure (.ret (.slice 14 (rav R) .no))) (.head (stk aGN 0) [(3,.ref 0 0),(9,.slice 14 (rav l) .no),(10,.int .i64 ((rav l).length:Nat)),(11,ii i)] (hpO (.row 1 0) 0 ys)):=by
 have d:(rav l).length=l.length:=by simp
 have hl:=hs.1;intro m;induction m with
 | zero=>
  intro i ys g f a;rw [Ah o_] at a;have a:mS l.length ys=R:=a;have ao:=P0 R l.length ys (.row 1 0) [] (by rw [show l.length=ys.length from by omega];exact .row) o_ q_ a
  refine gV ?_;exact zW
 | succ m j=>
  intro i ys g f a;have b:i<l.length:=o_;have c:=hs.at b;rw [Ae b,Ba] at a;generalize h:l[i]=x at a c;have get:(rav l)[i]? =some x.av:=(dL b).trans (by rw [h]);have ao:=j (i+1) (qP ys x) o_ (by rw [FN];omega) a
  have hp:=aFp ys o_ x;generalize qP ys x=ys' at hp ao
  refine gV ?_;have e:=AF x c;exact zW
def aBo (l:List Rn) (hs:Sm l):ar 173 [.slice 14 (rav l) .no] [] (.ret (.slice 14 (rav (gH l)) .no)) []:=by refine cT (E:=(Eo [6] [])) (fn:=Tryz.f173) (g:=.pure _) λ_=>?_;refine gV ?_;refine To.beginRowH 0 0 107 rfl rfl ?_;have a:=PZ l hs _ l.length 0 [] o_ rfl rfl;exact zW
def lI (p:Int->Bool):List Int->Nat->Int
 | [],_=> -1
 | x::r,i=>if p x=true then (i:Int) else lI p r (i+1)
def GR (p:Int->Bool):∀ (l:List Int) (i:Nat),decide (0<=lI p l i)=l.any p
 | [],i=>by simp [lI]
 | x::r,i=>by
  unfold lI;rw [Hg];cases h:p x with
  | true=>simp
  | false=>simp [GR p r (i+1)]
def inB (v:Int) (l:List Int):Bool:=l.any λ x=>v==x
noncomputable abbrev aIh:Func:=Tryz.f226
def XY (l:List Int) (hl:l.length<=1048576) (v r:Int):∀ (m i:Nat),i+m=l.length->lI (λ x=>v==x) (l.drop i) i=r->
  To E aIh (.pure (.ret (ii r))) (.head (stk aIh 0) [(0,.slice 1 (iv l) .no),(1,ii v),(7,.int .i64 ((iv l).length:Nat)),(8,ii i)] []):=by
 have e:(iv l).length=l.length:=by simp
 intro m;induction m with
 | zero=>
  intro i f a;rw [Ah o_] at a;have a: -1=r:=a;subst a;refine gV ?_;exact zW
 | succ m c=>
  intro i f a;have b:i<l.length:=o_;rw [Ae b] at a;have get:=fJ b;generalize l[i]=x at a get;unfold lI at a;have c:=c (i+1) o_;cases d:(v==x) with
  | true=>
   rw [if_pos d] at a;subst a;refine gV ?_;exact zW
  | false=>
   rw [if_neg (by rw [d];decide)] at a;have ao:=c a
   refine gV ?_;exact zW
def aGo (l:List Int) (hl:l.length<=1048576) (v:Int):ar 226 [.slice 1 (iv l) .no,ii v] [] (.ret (ii (lI (λ x=>v==x) l 0))) []:=by refine c_ Tryz.f226 λ_=>?_;refine gV ?_;exact To.cut [0,1,7,8] 0 rfl rfl rfl rfl (XY l hl v _ l.length 0 o_ rfl)
def wP (l:List Int) (hl:l.length<=1048576) (v:Int):ar 162 [.slice 1 (iv l) .no,ii v] [] (.ret (.bool (inB v l))) []:=by have h:=aGo l hl v;have e:=GR (λ x=>v==x) l 0;unfold inB;rw [<-e];generalize lI (λ x=>v==x) l 0=q at h;exact c_ Tryz.f162 λ_=>zW
def aE (l:List Rn) (ids:List Int):List Rn:=l.filter λ x=>!(inB x.g.id ids)
def lZ {x:Rn} {r:List Rn} {ids:List Int} (h:inB x.g.id ids=false):aE (x::r) ids=x::aE r ids:=Ft (by rw [h];rfl)
def mA {x:Rn} {r:List Rn} {ids:List Int} (h:inB x.g.id ids=true):aE (x::r) ids=aE r ids:=Fs (by rw [h];decide)
def oJ {l:List Rn} (hs:Sm l) (ids:List Int):Sm (aE l ids):=
 ⟨Cz (Ie _ _) hs.1,λ x a=>hs.2 x (Fm.1 a).1⟩
noncomputable abbrev fWo:Func:=Tryz.f108
def aEe (l:List Rn) (hs:Sm l) (ids:List Int) (p:ids.length<=1048576) (R:List Rn):∀ (m i:Nat) (a:List Rn),i+m=l.length->a.length<=i->a++aE (l.drop i) ids=R->
  To (Eo [5] []) fWo (.pure (.ret (.slice 14 (rav R) .no))) (.head (stk fWo 0) [(1,.slice 1 (iv ids) .no),(5,.slice 14 (rav a) (.own 0 0)),(8,.slice 14 (rav l) .no),(9,.int .i64 ((rav l).length:Nat)),(10,ii i)] [.tail 0 14 107]):=by
 have n:(rav l).length=l.length:=by simp
 have hl:=hs.1;intro m;induction m with
 | zero=>
  intro i a o r b;rw [Ah o_] at b;have b:a++[]=R:=b;rw [Av] at b;subst b;refine gV ?_;exact zW
 | succ m f=>
  intro i a o r b;have c:i<l.length:=o_;have j:=hs.at c;rw [Ae c] at b;generalize q:l[i]=x at b j;have get:(rav l)[i]? =some x.av:=(dL c).trans (by rw [q]);have s:(rav a).length=a.length:=by simp
  have h:=wP ids p x.g.id;cases d:inB x.g.id ids with
  | true=>
   rw [d] at h;rw [mA d] at b;have ao:=f (i+1) a o_ o_ b
   refine gV ?_;exact zW
  | false=>
   rw [d] at h;rw [lZ d] at b;have ao:=f (i+1) (a++[x]) o_ q_ (by rw [Af];exact b)
   have e:rav (a++[x])=rav a++[x.av]:=by simp
   rw [e] at ao
   refine gV ?_;have k:=AF x j;exact zW
def oK (l:List Rn) (hs:Sm l) (ids:List Int) (b:ids.length<=1048576):ar 108 [.slice 14 (rav l) .no,.slice 1 (iv ids) .no] [] (.ret (.slice 14 (rav (aE l ids)) .no)) []:=by refine cT (E:=(Eo [5] [])) (fn:=Tryz.f108) (g:=.pure _) λ_=>?_;have a:=aEe l hs ids b _ l.length 0 [] o_ s_ rfl;exact zW
def FW {ns:List Nod} {t:Int} (h:bB ns t=true):0<=t/\t.toNat<ns.length:=by exact zqra0
def KG {c:Con} {t:Int} (h:0<=t/\t.toNat<c.ns.length):(nav c.ns)[t.toNat]? =some (cW c.ns t).av:=by unfold cW;rw [Aa h.2];exact kL h.2
def rM (c:Con) (a:List V3) (t:Int) (need:V3):Bool:=if bB c.ns t=true then cR (fO (atV a t) need) (cW c.ns t).n else false
def dS (c:Con) (a:List V3) (t:Int):Bool:=if bB c.ns t=true then !cR (atV a t) (cW c.ns t).n else false
def OZ (c:Con) (a:List V3) (t:Int) (need:V3) (r:Bool) (b:rM c a t need=r):ar 170 [c.av,.slice 3 (vav a) .no,ii t,need.av] [] (.ret (.bool r)) []:=by
 have h:=jF c t;unfold rM at b;cases d:bB c.ns t with
 | false=>
  rw [d] at h;rw [if_neg (by rw [d];decide)] at b;subst b;exact c_ Tryz.f170 λ_=>zW
 | true=>
  rw [d] at h;rw [if_pos d] at b;have i:=FW d;have k:t=(t.toNat:Int):=o_;have e:=KG (c:=c) i;generalize cW c.ns t=x at e b;have h1:=D6 a t;generalize atV a t=q1 at h1 b;have j:=iB q1 need;generalize fO q1 need=q2 at j b;have h3:=kR q2 x.n;rw [b] at h3;exact c_ Tryz.f170 λ_=>zW
def V7 (c:Con) (a:List V3) (t:Int) (need:V3):ar 170 [c.av,.slice 3 (vav a) .no,ii t,need.av] [] (.ret (.bool (rM c a t need))) []:=OZ c a t need _ rfl
def OL (c:Con) (a:List V3) (t:Int) (r:Bool) (b:dS c a t=r):ar 175 [c.av,.slice 3 (vav a) .no,ii t] [] (.ret (.bool r)) []:=by
 have h:=jF c t;unfold dS at b;cases d:bB c.ns t with
 | false=>
  rw [d] at h;rw [if_neg (by rw [d];decide)] at b;subst b;exact c_ Tryz.f175 λ_=>zW
 | true=>
  rw [d] at h;rw [if_pos d] at b;have i:=FW d;have j:t=(t.toNat:Int):=o_;have e:=KG (c:=c) i;generalize cW c.ns t=x at e b;have h1:=D6 a t;generalize atV a t=q1 at h1 b;have h3:=uF q1 x.n;rw [b] at h3;exact c_ Tryz.f175 λ_=>zW
def R3 (c:Con) (a:List V3) (t:Int):ar 175 [c.av,.slice 3 (vav a) .no,ii t] [] (.ret (.bool (dS c a t))) []:=OL c a t _ rfl
def qX (c:Con) (l:List Rn) (g:Gan) (ids:List Int):Bool:=(cK c (aE l ids) g).isSome
abbrev chO (c:Con) (l:List Rn) (g:Gan):List ab:=[.cells 26 c.cs,.cells 28 [.slice 14 (rav l) .no],.cells 45 g.cs]
def VX (c:Con) (h:c.sm) (l:List Rn) (hs:Sm l) (g:Gan) (e:0<=g.pods/\g.pods<=16) (ids:List Int) (i:ids.length<=1048576) (r:Bool) (a:qX c l g ids=r):
  ar 171 [.slice 1 (iv ids) .no,.ref 0 0,.ref 1 0,.ref 2 0] (chO c l g) (.ret (.bool r)) (chO c l g):=by
 have d:=oK l hs ids i;have b:=wE c h (aE l ids) (oJ hs ids) g e;unfold qX at a;generalize aE l ids=left at d b a;generalize cK c left g=Q at b a;subst a;unfold fdA at b;cases Q with
 | none=>
  exact zqra7
 | some x=>
  exact zqra7
abbrev Y6 (c:Con) (used:List V3):List ab:=[.cells 26 c.cs,.cells 115 [.slice 3 (vav used) .no]]
def aKG (c:Con) (a:List V3) (x:Rn):ar 174 [x.av,.ref 0 0,.ref 1 0] (Y6 c a) (.ret (.bool (dS c a x.g.ten))) (Y6 c a):=by have b:=R3 c a x.g.ten;generalize dS c a x.g.ten=r at b;refine cT (E:=E) (fn:=Tryz.f174) (g:=.full 2 _ _) λ_=>?_;exact zW
def aDE (x a:Int):ar 178 [ii x,.ref 0 0] [.cells 3 [ii a]] (.ret (.bool (x==a))) [.cells 3 [ii a]]:=by refine cT (E:=E) (fn:=Tryz.f178) (g:=.full 1 _ _) λ_=>?_;exact zW
def aR (p:Rn->Bool):List Rn->Nat->Int
 | [],_=> -1
 | x::r,i=>if p x=true then (i:Int) else aR p r (i+1)
noncomputable abbrev GS:Func:=Tryz.f172
abbrev aMr:aa:=.func (.func 174) [] [.ref 0 0,.ref 1 0]
def XW (c:Con) (a:List V3) (l:List Rn) (hl:l.length<=1048576) (r:Int):∀ (m i:Nat),i+m=l.length->aR (λ x=>dS c a x.g.ten) (l.drop i) i=r->
  To E GS (.full 2 (.ret (ii r)) (Y6 c a)) (.head (stk GS 0) [(0,.slice 14 (rav l) .no),(1,aMr),(7,.int .i64 ((rav l).length:Nat)),(8,ii i)] (Y6 c a)):=by
 have h:(rav l).length=l.length:=by simp
 intro m;induction m with
 | zero=>
  intro i k b;rw [Ah o_] at b;have b: -1=r:=b;subst b;refine gV ?_;exact zW
 | succ m f=>
  intro i k b;have d:i<l.length:=o_;rw [Ae d] at b;have get:(rav l)[i]? =some l[i].av:=dL d;generalize l[i]=x at b get;unfold aR at b;have j:=aKG c a x;have f:=f (i+1) o_;cases e:dS c a x.g.ten with
  | true=>
   rw [if_pos e] at b;rw [e] at j;subst b;refine gV ?_;exact zW
  | false=>
   rw [if_neg (by rw [e];decide)] at b;rw [e] at j;have ao:=f b
   refine gV ?_;exact zW
def aGm (c:Con) (a:List V3) (l:List Rn) (hl:l.length<=1048576):ar 172 [.slice 14 (rav l) .no,aMr] (Y6 c a) (.ret (ii (aR (λ x=>dS c a x.g.ten) l 0))) (Y6 c a):=by refine cT (E:=E) (fn:=Tryz.f172) (g:=.full 2 _ _) λ_=>?_;refine gV ?_;exact To.cut [0,1,7,8] 2 rfl rfl rfl rfl (XW c a l hl _ l.length 0 o_ rfl)
def HC (l:List Int) (h:l.length<=1048576):ar 176 [.slice 1 (iv l) .no] [] (.ret (.row 0 0)) [.row 0 1 3 (iv l)]:=by
 have a:(iv l).length=l.length:=by simp
 refine cT (E:=(Er [2,5] [])) (fn:=Tryz.f176) (g:=.full 0 _ _) λ_=>?_;refine gV ?_;intro b c;refine gV ?_;refine ⟨λ h=>?_,λ h=>?_⟩
 .refine gV ?_;refine ⟨[],[1],⟨rfl,rfl⟩,?_⟩;conv=>whnf
  rw [c (by simpa using h)];exact ⟨rfl,rfl⟩
 .refine gV ?_;refine ⟨⟨by simp only [maxLen];simp;omega,by simp;omega⟩,?_⟩;refine gV ?_;refine ⟨[],[1],⟨rfl,rfl⟩,?_⟩;exact ⟨rfl,rfl⟩
abbrev aDF:aa:=.func (.func 178) [] [.ref 1 0]
abbrev dlO (l:List Int) (a:Int):List ab:=[.row 0 1 3 (iv l),.cells 3 [ii a]]
noncomputable abbrev aIi:Func:=Tryz.f237
def XZ (l:List Int) (hl:l.length<=1048576) (a r:Int):∀ (m i:Nat),i+m=l.length->lI (λ x=>x==a) (l.drop i) i=r->
  To E aIi (.full 2 (.ret (ii r)) (dlO l a)) (.head (stk aIi 0) [(0,.row 0 0),(1,aDF),(7,.int .i64 ((iv l).length:Nat)),(8,ii i)] (dlO l a)):=by
 have f:(iv l).length=l.length:=by simp
 intro m;induction m with
 | zero=>
  intro i h b;rw [Ah o_] at b;have b: -1=r:=b;subst b;refine gV ?_;exact zW
 | succ m e=>
  intro i h b;have c:i<l.length:=o_;rw [Ae c] at b;have get:=fJ c;generalize l[i]=x at b get;unfold lI at b;have g:=aDE x a;have e:=e (i+1) o_;cases d:(x==a) with
  | true=>
   rw [if_pos d] at b;rw [d] at g;subst b;refine gV ?_;exact zW
  | false=>
   rw [if_neg (by rw [d];decide)] at b;rw [d] at g;have ao:=e b
   refine gV ?_;exact zW
def UN (l:List Int) (hl:l.length<=1048576) (a:Int):ar 237 [.row 0 0,aDF] (dlO l a) (.ret (ii (lI (λ x=>x==a) l 0))) (dlO l a):=by refine cT (E:=E) (fn:=Tryz.f237) (g:=.full 2 _ _) λ_=>?_;refine gV ?_;exact To.cut [0,1,7,8] 2 rfl rfl rfl rfl (XZ l hl a _ l.length 0 o_ rfl)
def eU (l:List Int) (a:Int):List Int:=l.filter λ x=>!(x==a)
def NO (p:Int->Bool):∀ (l:List Int) (i:Nat),l.any p=false->lI p l i= -1
 | [],i,_=>rfl
 | x::r,i,h=>by rw [Hg,Kl] at h;unfold lI;rw [if_neg (by rw [h.1];decide)];exact NO p r (i+1) h.2
def GQ (p:Int->Bool):∀ (l:List Int) (i:Nat),l.any p=true->∃ k,k<l.length/\lI p l i=((i+k:Nat):Int)/\(∀ x∈l.take k,p x=false)/\∃ x,l[k]? =some x/\p x=true
 | [],i,h=>by simp at h
 | x::r,i,h=>by
  unfold lI;cases a:p x with
  | true=>exact ⟨0,by simp,by rw [if_pos rfl];simp,by simp,x,rfl,a⟩
  | false=>
   rw [Hg,a,Nf] at h;obtain ⟨k,h1,c,h3,y,d,b⟩:=GQ p r (i+1) h;refine ⟨k+1,by simp;omega,?_,λ z hz=>?_,y,by simpa using d,b⟩
   .rw [if_neg d_,c];congr 1;omega
   .simp only [List.take_succ_cons,Bb] at hz;rcases hz with rfl | hz
    .exact a
    .exact h3 z hz
def aKx (l:List Int) (hl:l.length<=1048576) (a:Int) (h:(l.any λ x=>x==a)=false):ar 177 [.row 0 0,aDF] (dlO l a) (.ret (.row 0 0)) (dlO l a):=by have b:=UN l hl a;rw [NO _ l 0 h] at b;exact zqra8
noncomputable abbrev aL6:Func:=Tryz.f177
abbrev aMd (z:List aa) (a:Int):List ab:=[.row 0 1 3 z,.cells 3 [ii a]]
def aJO (l:List Int) (i:Nat) (x:Int):(iv l).set i (ii x)=iv (l.set i x):=by simp [iv,Gr]
def aDl (l:List Int) (hl:l.length<=1048576) (a:Int) (R:List Int):∀ (m j i:Nat) (z:List Int),j+m=l.length->i<j->z.length=l.length->z.drop j=l.drop j->z.take i++eU (l.drop j) a=R->
  To E aL6 (.full 2 (.ret (.sub 0 0 0 R.length 1)) (aMd (iv R++Aj (l.length-R.length) (ii 0)) a)) (.head (stk aL6 0) [(0,.row 0 0),(1,aDF),(5,ii i),(6,ii j)] (dlO z a)):=by
 intro m;induction m with
 | zero=>
  intro j i z u w hz n b;have c:(iv z).length=z.length:=by simp
  rw [Ah o_] at b;have b:z.take i++[]=R:=b;rw [Av] at b;have k:R.length=i:=by rw [<-b];simp;omega
  have e:(iv z).take i=iv R:=by rw [<-b];simp
  rw [k];refine gV ?_;refine aF λ h=>?_
  repeat' first | (refine gN hE ?_;conv=>whnf) | refine ⟨i,rfl,?_⟩ | exact rfl | (refine zt ?_;try intro h) | refine zu (λ h=>?_) λ h=>?_ | fail
  refine Ac q_ ?_;refine gV ?_;refine ⟨[],[0,1],⟨rfl,rfl⟩,?_⟩;conv=>whnf
  refine ⟨rfl,?_⟩;have s:Hi (i+((iv z).length-i)) (iv z)=[]:=Ah o_;have v:Ia i (iv z)++Aj ((iv z).length-i) (ii 0)++Hi (i+((iv z).length-i)) (iv z)=iv R++Aj (l.length-i) (ii 0):=by rw [e,s,Av,c,hz]
  exact congrArg (λ l=>[ab.row 0 1 3 l,.cells 3 [ii a]]) v
 | succ m r=>
  intro j i z u w hz n b;have c:(iv z).length=z.length:=by simp
  have f:j<l.length:=o_;rw [Ae f] at b;have d:z[j]? =some l[j]:=by have:=congrArg (λ q=>q[0]?) n;simpa [Bp,Aa f] using this
  have get:(iv z)[j]? =some (ii l[j]):=by simp [d]
  have g:z.drop (j+1)=l.drop (j+1):=by have:=congrArg (Hi 1) n;rwa [Hk,Hk] at this
  generalize l[j]=x at b get d;have o:=aDE x a;unfold eU at b;rw [Ho] at b;cases p:(x==a) with
  | true=>
   rw [p] at o b;have ao:=r (j+1) i z o_ o_ hz g b
   refine gV ?_;exact zW
  | false=>
   rw [p] at o b
   have ao:=r (j+1) (i+1) (z.set i x) o_ o_ (by simp;exact hz) (by rw [List.drop_set_of_lt o_];exact g) (by
    have y:(z.set i x).take (i+1)=z.take i++[x]:=by rw [Ll,Ar o_,List.take_set_of_le (Bc _)];rfl
    rw [y,Af]
    exact b)
   unfold dlO at ao
   rw [<-aJO] at ao
   refine gV ?_;exact zW
def aHl (l:List Int) (hl:l.length<=1048576) (a:Int) (h:(l.any λ x=>x==a)=true):ar 177 [.row 0 0,aDF] (dlO l a) (.ret (.sub 0 0 0 (eU l a).length 1)) (aMd (iv (eU l a)++Aj (l.length-(eU l a).length) (ii 0)) a):=by
 have d:=UN l hl a;obtain ⟨k,h1,i,h3,x,b,c⟩:=GQ (λ x=>x==a) l 0 h;rw [i] at d;rw [Bo] at d;have j:((k:Int)== -1)=false:=by simp
 have ao:=aDl l hl a (eU l a) (l.length-(k+1)) (k+1) k l o_ o_ rfl rfl (by
  conv=>rhs;rw [<-Bq k l]
  have o:x=a:=by simpa using c
  have e:l.drop k=x::l.drop (k+1):=by rw [Ae h1];rw [Aa h1] at b;cases b;rfl
  unfold eU;rw [List.filter_append,e,Ho,c];have n:(l.take k).filter (λ x=>!(x==a))=l.take k:=Gq.2 λ y m=>by rw [h3 y m];rfl
  rw [n]
  rfl)
 exact zqra8
def qU {xs:List Rn} {i:Nat} (h:i<xs.length):aS xs i∈xs:=by unfold aS;rw [Aa h];exact Bh h
def FB {xs:List Rn} {i k:Nat} (b:i<xs.length) (a:k<xs.length) {y:Rn} (h:y∈pJ xs i k):y∈xs:=by
 unfold pJ at h;rcases Df h with h | rfl
 .rcases Df h with h | rfl
  .exact h
  .exact qU a
 .exact qU b
def SL {y:Rn}:∀ (f:Nat) (xs:List Rn) (i:Nat),i<xs.length->y∈upH f xs i->y∈xs
 | 0,xs,i,_,h=>h
 | f+1,xs,i,hi,h=>by
  unfold upH at h;split at h
  .exact h
  .split at h
   .exact FB hi o_ (SL f _ _ (by rw [iT];omega) h)
   .exact h
def XD {xs:List Rn} {x y:Rn} (h:y∈qP xs x):y∈xs\/y=x:=by have:=SL _ _ _ s_ h;simpa using this
def BY {y:Rn}:∀ (l xs:List Rn),y∈l.foldl qP xs->y∈xs\/y∈l
 | [],xs,h=>.inl h
 | x::r,xs,h=>by
  rcases BY r _ h with h | h
  .rcases XD h with h | rfl
   .exact .inl h
   .exact .inr s_
  .exact .inr (by simp [h])
def G5 {y:Rn}:∀ (f:Nat) (xs:List Rn) (n i:Nat),n<=xs.length->i<xs.length->y∈wM f xs n i->y∈xs
 | 0,xs,n,i,_,_,h=>h
 | f+1,xs,n,i,hn,hi,h=>by
  unfold wM at h;split at h
  .rename_i a;have b:=VL xs n i a;split at h
   .exact FB hi o_ (G5 f _ n _ (by rw [iT];exact hn) (by rw [iT];omega) h)
   .exact h
  .exact h
def aBd {xs:List Rn} {n:Nat} (b:0<n) (a:n<=xs.length) {y:Rn} (h:y∈zV xs n):y∈xs:=by
 unfold zV at h;have:=G5 n (xs.set 0 (aS xs (n-1))) (n-1) 0 q_ q_ h;rcases Df this with h | rfl
 .exact h
 .exact qU o_
def B2 {y:Rn}:∀ (n:Nat) (xs:List Rn),n<=xs.length->y∈mS n xs->y∈xs
 | 0,xs,_,h=>by cases h
 | n+1,xs,hn,h=>by
  unfold mS at h;rcases Bb.1 h with rfl | h
  .exact qU o_
  .exact aBd o_ hn (B2 n _ (by rw [B1];omega) h)
def FO {l:List Rn} {y:Rn} (h:y∈gH l):y∈l:=by
 unfold gH at h;have:=B2 _ _ (by rw [BZ];simp) h;rcases BY l [] this with h | h
 .cases h
 .exact h
def B3:∀ (n:Nat) (xs:List Rn),(mS n xs).length=n
 | 0,xs=>rfl
 | n+1,xs=>by unfold mS;rw [Al,B3 n]
def B8 (l:List Rn):(gH l).length=l.length:=B3 _ _
def aBn {l:List Rn} (h:Sm l):Sm (gH l):=⟨by rw [B8];exact h.1,λ x a=>h.2 x (FO a)⟩
def DF (p:Rn->Bool):∀ (l:List Rn) (i:Nat),aR p l i= -1\/∃ k,k<l.length/\aR p l i=((i+k:Nat):Int)/\p (aS l k)=true
 | [],i=>.inl rfl
 | x::r,i=>by
  unfold aR;cases a:p x with
  | true=>exact .inr ⟨0,by simp,by rw [if_pos rfl];simp,a⟩
  | false=>
   rw [if_neg d_];rcases DF p r (i+1) with h | ⟨k,h1,b,h3⟩
   .exact .inl h
   .refine .inr ⟨k+1,by simp;omega,by rw [b];congr 1;omega,?_⟩;unfold aS at h3⊢;simpa using h3
def atI (c:Con) (l:List Rn) (ids:List Int):Int:=aR (λ x=>dS c (ofL c (aE l ids)) x.g.ten) (gH (aE l ids)) 0
def T4 (c:Con) (l:List Rn) (ids:List Int):Option Int:=if atI c l ids<0 then none else some (aS (gH (aE l ids)) (atI c l ids).toNat).g.id
def chA (c:Con) (l:List Rn) (g:Gan):Nat->List Int->Option (List Int)
 | 0,_=>none
 | f+1,ids=>if qX c l g ids=true then some ids else match T4 c l ids with
  | none=>none
  | some n=>chA c l g f (ids++[n])
def chS (c:Con) (l:List Rn) (g:Gan) (ids:List Int) (a:Int):List Int:=if qX c l g (eU ids a)=true then eU ids a else ids
def gE (c:Con) (l:List Rn) (g:Gan):Option (List Int):=if rM c (ofL c l) g.ten (dem g)=true then (match chA c l g (l.length+1) [] with
 | none=>none
 | some ids=>some (ids.foldl (chS c l g) ids)) else none
def chR:Option (List Int)->aa
 | some ids=>.tup [.slice 1 (iv ids) .no,.bool true]
 | none=>.tup [.slice 1 [] .no,.bool false]
def FU {c:Con} {l:List Rn} {ids:List Int} {n:Int} (h:T4 c l ids=some n):∃ x∈aE l ids,x.g.id=n/\dS c (ofL c (aE l ids)) x.g.ten=true:=by
 unfold T4 at h;split at h
 .cases h
 .rename_i b;cases h;rcases DF (λ x=>dS c (ofL c (aE l ids)) x.g.ten) (gH (aE l ids)) 0 with h1 | ⟨k,h1,a,h3⟩
  .exact absurd (show atI c l ids<0 from by unfold atI;rw [h1];decide) b
  .refine ⟨_,FO (qU ?_),rfl,?_⟩
   .unfold atI;rw [a];simpa using h1
   .unfold atI;rw [a];simpa using h3
def HO (l:List Rn) (ids:List Int) (n:Int):aE l (ids++[n])=(aE l ids).filter λ x=>!(x.g.id==n):=by unfold aE;rw [List.filter_filter];refine List.filter_congr λ x _=>?_;unfold inB;rw [List.any_append];simp only [Hg,List.any_nil,Bool.or_false];cases (ids.any λ y=>x.g.id==y)<;>cases (x.g.id==n)<;>rfl
def HP {l:List Rn} {ids:List Int} {n:Int} (h:∃ x∈aE l ids,x.g.id=n):(aE l (ids++[n])).length<(aE l ids).length:=by obtain ⟨x,a,b⟩:=h;rw [HO];generalize aE l ids=q at a;refine Nat.lt_of_le_of_ne (Ie _ _) λ e=>?_;have:=List.length_filter_eq_length_iff.1 e x a;simp [b] at this
def XO (l:List Int) (a:Int):(eU l a).length<=l.length:=Ie _ _
abbrev aMs:aa:=.func (.func 171) [] [.ref 0 0,.ref 1 0,.ref 2 0]
noncomputable abbrev fCh:Func:=Tryz.f113
abbrev cbF (ids all:List Int) (i:Int):List (Nat×aa):=[(8,aMs),(9,.slice 1 (iv ids) .no),(54,.slice 1 (iv all) .no),(55,.int .i64 ((iv all).length:Nat)),(56,ii i)]
def aKH (c:Con) (l:List Rn) (g:Gan) (a:Int) (z:List aa):aj [4] (chO c l g++[.cells 3 [ii a],.row 0 1 3 z])=chO c l g++[.cells 3 [ii a],.frow 0 1 z]:=by kernel_rfl
def aHF (c:Con) (l:List Rn) (g:Gan) (a:Int) (z:List aa) (n:Nat) (ids all:List Int) (i:Int):vZ [15] (aC (chO c l g++[.cells 3 [ii a],.frow 0 1 z])) ((15,.sub 4 0 0 n 1)::cbF ids all i)=(15,.slice 1 ((z.drop 0).take n) .no)::cbF ids all i:=by kernel_rfl
def aHG (c:Con) (l:List Rn) (g:Gan) (a:Int) (z:List aa) (ids all:List Int) (i:Int):vZ [15] (aC (chO c l g++[.cells 3 [ii a],.frow 0 1 z])) ((15,.row 4 0)::cbF ids all i)=(15,.slice 1 z .no)::cbF ids all i:=by kernel_rfl
def VY {G:Goal} {ks:List KI} (c:Con) (l:List Rn) (g:Gan) (a:Int) (z:List aa) (fr:List (Nat×aa)) {b:List (Nat×aa)} (d:vZ [15] (aC (chO c l g++[.cells 3 [ii a],.frow 0 1 z])) fr=b)
  (h:To (Eo [9] []) fCh G (.code ks b (chO c l g++[.cells 3 [ii a],.frow 0 1 z]))):To (Eo [9] []) fCh G (.code ks fr (chO c l g++[.cells 3 [ii a],.row 0 1 3 z])):=by
 refine To.frz [15] [4] ?_;rw [aKH,d];exact h
def aDA (c:Con) (r:c.sm) (l:List Rn) (hs:Sm l) (g:Gan) (s:0<=g.pods/\g.pods<=16) (all:List Int) (v:all.length<=1048576) (R:List Int):∀ (m i:Nat) (ids:List Int),i+m=all.length->ids.length<=1048576->(all.drop i).foldl (chS c l g) ids=R->
  To (Eo [9] []) fCh (.pure (.ret (.tup [.slice 1 (iv R) .no,.bool true]))) (.head (stk fCh 1) (cbF ids all i) (chO c l g)):=by
 have p:(iv all).length=all.length:=by simp
 intro m;induction m with
 | zero=>
  intro i ids u j b;rw [Ah o_] at b;have b:ids=R:=b;subst b;refine gV ?_;exact zW
 | succ m k=>
  intro i ids u j b;have n:i<all.length:=o_;rw [Ae n,Ba] at b;have get:=fJ n;generalize all[i]=a at b get;have k:=k (i+1);have q:=XO ids a;have h1:=VX c r l hs g s (eU ids a) o_ _ rfl;have o:chS c l g ids a=if qX c l g (eU ids a)=true then eU ids a else ids:=rfl
  rw [o] at b;cases hp:(ids.any λ x=>x==a) with
  | true=>
   have e:=aHl ids j a hp;generalize hz:iv (eU ids a)++Aj (ids.length-(eU ids a).length) (ii 0)=z at e;have f:(z.drop 0).take (eU ids a).length=iv (eU ids a):=by rw [<-hz,Ci,Dc s_,Cf s_]
   refine gV ?_;refine aT λ h=>?_
   repeat' first | (refine gN (hEo [9] []) ?_;conv=>whnf) | refine ⟨i,rfl,?_⟩ | refine ⟨_,get,?_⟩ | refine .pure _ [_] (HC ids j) ?_ | exact rfl | (refine zt ?_;try intro h) | refine zu (λ h=>?_) λ h=>?_ | fail
   refine .eff [] [4,3] _ _ rfl e ?_;refine cO (hEo [9] []) 5 ?_;conv=>whnf
   refine To.cutC [15,8,9,54,55,56] 5 rfl rfl rfl rfl ?_;refine VY c l g a _ _ (aHF c l g a z _ ids all i) ?_;rw [f];cases d:qX c l g (eU ids a) with
   | true=>
    exact zqra9
   | false=>
    exact zqra5
  | false=>
   have e:=aKx ids j a hp;have f:iv ids=iv (eU ids a):=by
    have:eU ids a=ids:=Gq.2 λ y t=>by have:=(List.any_eq_false.1 hp) y t;simpa using this
    rw [this]
   refine gV ?_;refine aT λ h=>?_
   repeat' first | (refine gN (hEo [9] []) ?_;conv=>whnf) | refine ⟨i,rfl,?_⟩ | refine ⟨_,get,?_⟩ | refine .pure _ [_] (HC ids j) ?_ | exact rfl | (refine zt ?_;try intro h) | refine zu (λ h=>?_) λ h=>?_ | fail
   refine .eff [] [4,3] _ _ rfl e ?_;refine cO (hEo [9] []) 5 ?_;conv=>whnf
   refine To.cutC [15,8,9,54,55,56] 5 rfl rfl rfl rfl ?_;refine VY c l g a _ _ (aHG c l g a (iv ids) ids all i) ?_;rw [f];cases d:qX c l g (eU ids a) with
   | true=>
    exact zqra9
   | false=>
    exact zqra5
def chB (c:Con) (l:List Rn) (g:Gan):Option (List Int)->Option (List Int)
 | none=>none
 | some ids=>some (ids.foldl (chS c l g) ids)
abbrev caF (ids:List Int):List (Nat×aa):=[(3,.ref 0 0),(4,.ref 1 0),(5,.ref 2 0),(8,aMs),(9,.slice 1 (iv ids) (.own 3 0))]
def aDB (c:Con) (A:c.sm) (l:List Rn) (hs:Sm l) (g:Gan) (G:0<=g.pods/\g.pods<=16) (R:Option (List Int)):∀ (f:Nat) (ids:List Int),(aE l ids).length<f->ids.length+(aE l ids).length<=l.length->chB c l g (chA c l g f ids)=R->
  To (Eo [9] []) fCh (.pure (.ret (chR R))) (.head (stk fCh 0) (caF ids) (chO c l g++[.tail 0 1 3])):=by
 have hl:=hs.1;intro f;induction f with
 | zero=>intro ids h;omega
 | succ f L=>
  intro ids M H m;have J:(iv ids).length=ids.length:=by simp
  have h1:=VX c A l hs g G ids o_ _ rfl;have u:=oK l hs ids o_;have hsl:=oJ hs ids;have j:=MD c A (aE l ids) hsl.1;have i:=aBo (aE l ids) hsl;have a:=aGm c (ofL c (aE l ids)) (gH (aE l ids)) (aBn hsl).1;have C:aR (λ x=>dS c (ofL c (aE l ids)) x.g.ten) (gH (aE l ids)) 0=atI c l ids:=rfl;rw [C] at a;unfold chA at m;cases v:qX c l g ids with
  | true=>
   rw [if_pos v] at m;rw [v] at h1;have m:some (ids.foldl (chS c l g) ids)=R:=m;subst m;have K:=yA ids o_;have ao:=aDA c A l hs g G ids o_ _ ids.length 0 ids o_ o_ rfl
   refine gV ?_;exact zW
  | false=>
   rw [if_neg (by rw [v];decide)] at m;rw [v] at h1;have b:T4 c l ids=if atI c l ids<0 then none else some (aS (gH (aE l ids)) (atI c l ids).toNat).g.id:=rfl
   have s:=λ n=>FU (c:=c) (l:=l) (ids:=ids) (n:=n);by_cases d:atI c l ids<0
   .rw [if_pos d] at b;rw [b] at m;have m:none=R:=m;subst m;generalize atI c l ids=q at a d;generalize ofL c (aE l ids)=us at j a;generalize gH (aE l ids)=o at i a;generalize aE l ids=left at u j i;refine gV ?_
    repeat' first | (refine gN (hEo [9] []) ?_;conv=>whnf) | refine .eff [] [0,1,2] _ _ rfl h1 ?_ | refine .pure _ [] u ?_ | refine .pure _ [] j ?_ | refine .pure _ [] i ?_ | refine .eff [] [0,4] _ _ rfl a ?_ | exact rfl | (refine zt ?_;try intro h) | refine zu (λ h=>?_) λ h=>?_ | fail
   .rw [if_neg d] at b;obtain ⟨k,p,z⟩:∃ k:Nat,k<(gH (aE l ids)).length/\atI c l ids=(k:Int):=by
     rcases DF (λ x=>dS c (ofL c (aE l ids)) x.g.ten) (gH (aE l ids)) 0 with h | ⟨k,h1,I,_⟩
     .exact absurd (show atI c l ids<0 from by unfold atI;rw [h];decide) d
     .exact ⟨k,h1,by unfold atI;rw [I];simp⟩
    rw [z] at b a;rw [Bt] at b;have get:=iG p;have B:=s _ b;obtain ⟨y,F,w,_⟩:=B;have D:=HP ⟨y,F,w⟩;rw [b] at m;generalize aS (gH (aE l ids)) k=x at get m D;have ao:=L (ids++[x.g.id]) o_ q_ m
    have e:iv (ids++[x.g.id])=iv ids++[ii x.g.id]:=by simp
    unfold caF at ao
    rw [e] at ao
    have r:=B8 (aE l ids);generalize ofL c (aE l ids)=us at j a;generalize gH (aE l ids)=o at i a get p r;generalize aE l ids=left at u j i H r;refine gV ?_
    repeat' first | (refine gN (hEo [9] []) ?_;conv=>whnf) | refine .eff [] [0,1,2] _ _ rfl h1 ?_ | refine .pure _ [] u ?_ | refine .pure _ [] j ?_ | refine .pure _ [] i ?_ | refine .eff [] [0,4] _ _ rfl a ?_ | refine ⟨k,rfl,?_⟩ | refine ⟨_,get,?_⟩ | refine ⟨⟨by simp only [maxLen];simp;omega,by simp;omega⟩,?_⟩ | exact rfl | (refine zt ?_;try intro h) | refine zu (λ h=>?_) λ h=>?_ | fail
    exact zW
def fQ (l:List Rn):aE l []=l:=Gq.2 λ x _=>rfl
def RW (c:Con) (e:c.sm) (l:List Rn) (hs:Sm l) (g:Gan) (h:0<=g.pods/\g.pods<=16) (R:Option (List Int)) (a:gE c l g=R):ar 113 [c.av,.slice 14 (rav l) .no,g.av] [] (.ret (chR R)) []:=by
 have i:=MD c e l hs.1;have j:=RC g;have d:=V7 c (ofL c l) g.ten (dem g);unfold gE at a;cases b:rM c (ofL c l) g.ten (dem g) with
 | false=>
  rw [if_neg (by rw [b];decide)] at a;rw [b] at d;subst a;exact zqra6
 | true=>
  rw [if_pos b] at a;rw [b] at d;have ao:=aDB c e l hs g h R (l.length+1) [] (by rw [fQ];omega) (by rw [fQ];simp) (by rw [<-a];unfold chB;split<;>rfl)
  exact zqra6
def Y2 (c:Con) (b:c.sm) (l:List Rn) (hs:Sm l) (g:Gan) (a:0<=g.pods/\g.pods<=16):ar 113 [c.av,.slice 14 (rav l) .no,g.av] [] (.ret (chR (gE c l g))) []:=RW c b l hs g a _ rfl
def V3.le (a b:V3):Prop:=a.a<=b.a/\a.b<=b.b/\a.c<=b.c
def V3.farB (a:V3):Prop:=(0<=a.a/\a.a<=1099511627776)/\(0<=a.b/\a.b<=1099511627776)/\(0<=a.c/\a.c<=1099511627776)
def sH {a b d:Int} (h:a<=b):iP a d<=iP b d:=by unfold iP gO;omega
def A3 {a d:Int} (b:0<=a) (h1:a<=1099511627776) (c:0<=d):a<=iP a d:=by unfold iP gO;omega
def J5 {a d:Int} (b:0<=a) (c:0<=d):0<=iP a d/\iP a d<=1099511627776:=by unfold iP gO;omega
def WI {a b:V3} (d:V3) (h:a.le b):(fO a d).le (fO b d):=⟨sH h.1,sH h.2.1,sH h.2.2⟩
def V3.pos (d:V3):Prop:=0<=d.a/\0<=d.b/\0<=d.c
def aEi {a d:V3} (h:a.farB) (b:d.pos):a.le (fO a d):=⟨A3 h.1.1 h.1.2 b.1,A3 h.2.1.1 h.2.1.2 b.2.1,A3 h.2.2.1 h.2.2.2 b.2.2⟩
def ZQ {a d:V3} (h:a.farB) (b:d.pos):(fO a d).farB:=⟨J5 h.1.1 b.1,J5 h.2.1.1 b.2.1,J5 h.2.2.1 b.2.2⟩
def V3.le.trans {a b c:V3} (h:a.le b) (k:b.le c):a.le c:=⟨Fk h.1 k.1,Fk h.2.1 k.2.1,Fk h.2.2 k.2.2⟩
def uG {a b:V3}:cR a b=true↔a.le b:=by
 obtain ⟨e,h,f⟩:=a;obtain ⟨d,g,i⟩:=b;unfold cR V3.le;by_cases h1:d<e
 .first | (simp [h1];done) | (simp [h1];omega)
 by_cases c:g<h
 .first | (simp [h1,c];done) | (simp [h1,c];omega)
 by_cases h3:i<f
 .first | (simp [h1,c,h3];done) | (simp [h1,c,h3];omega)
 first | (simp [h1,c,h3];done) | (simp [h1,c,h3];omega)
def oL (c:Con) (j:Nat) (v:V3) (x:Rn):V3:=if bB c.ns x.g.ten=true/\(j:Int)∈upL c.ns x.g.ten then fO v (dem x.g) else v
def HJ (v:V3) (j:Nat):∀ (ks:List Int) (xs:List V3),ks.Nodup->(∀ k∈ks,0<=k)->(ks.foldl (E0 v) xs)[j]? =if (j:Int)∈ks then (xs[j]?).map λ x=>fO x v else xs[j]?
 | [],xs,_,_=>by simp
 | k::r,xs,b,h0=>by
  have b:=Ce.1 b;have d:=h0 k s_;rw [Ba,HJ v j r _ b.2 λ x c=>h0 x (by simp [c]),oF];by_cases h1:(j:Int)=k
  .have a:(j:Int)∉r:=by rw [h1];exact b.1
   rw [if_neg a,if_pos o_,if_pos (by simp [h1])]
  .have e:(j:Int)∈k::r↔(j:Int)∈r:=by simp [h1]
   by_cases a:(j:Int)∈r
   .rw [if_pos a,if_neg o_,if_pos (e.2 a)]
   .rw [if_neg a,if_neg o_,if_neg (λ h=>a (e.1 h))]
def aAN (c:Con) (xs:List V3) (x:Rn) (j:Nat):(PI c xs x)[j]? =(xs[j]?).map λ v=>oL c j v x:=by
 unfold PI oL;cases d:bB c.ns x.g.ten with
 | false=>rw [if_neg d_];simp
 | true=>
  rw [if_pos rfl];have a:(fB c.ns x.g.ten).Nodup:=by unfold fB;exact List.pairwise_reverse.2 ((O4 c.ns _ _).imp λ h=>by omega)
  have hm:(j:Int)∈fB c.ns x.g.ten↔(j:Int)∈upL c.ns x.g.ten:=Iu;rw [HJ _ _ _ _ a λ k b=>(O5 _ _ _ _ (Iu.1 b)).1];by_cases h:(j:Int)∈upL c.ns x.g.ten
  .rw [if_pos (hm.2 h)];simp [h]
  .rw [if_neg (λ q=>h (hm.1 q))];simp [h]
def aBu (c:Con) (j:Nat):∀ (l:List Rn) (xs:List V3),(l.foldl (PI c) xs)[j]? =(xs[j]?).map λ v=>l.foldl (oL c j) v
 | [],xs=>by simp
 | x::r,xs=>by rw [Ba,aBu c j r,aAN,Option.map_map];rfl
def yV {c:Con} {t:Int} (h:0<=t/\t.toNat<c.ns.length) (l:List Rn):atV (ofL c l) t=l.foldl (oL c t.toNat) V3.zero:=by unfold atV;rw [if_neg (by rw [decide_eq_false o_];decide),<-aLs];unfold aI5;rw [aBu,Es,if_pos h.2];rfl
def uK {c:Con} {j:Nat} (p:Rn->Bool):∀ (l:List Rn) (a b:V3),(∀ x∈l,(dem x.g).pos)->a.le b->b.farB->((l.filter p).foldl (oL c j) a).le (l.foldl (oL c j) b)/\(l.foldl (oL c j) b).farB
 | [],a,b,_,h,hf=>⟨h,hf⟩
 | x::r,a,b,hd,h,hf=>by
  have e:=hd x s_;have f:(oL c j b x).farB:=by unfold oL;split;exact ZQ hf e;exact hf
  rw [Ba,Ho];cases p x with
  | true=>
   rw [if_pos rfl,Ba];refine uK p r _ _ (λ y d=>hd y (by simp [d])) ?_ f;unfold oL;split
   .exact WI _ h
   .exact h
  | false=>
   rw [if_neg d_];refine uK p r _ _ (λ y d=>hd y (by simp [d])) ?_ f;unfold oL;split
   .exact h.trans (aEi hf e)
   .exact h
def KA:V3.zero.farB:=by unfold V3.farB V3.zero;decide
def CR (a:V3):a.le a:=⟨Dh _,Dh _,Dh _⟩
def aHk {g:Gan} (a:bI g.need=true) (f:0<=g.pods/\g.pods<=16):(dem g).pos:=by
 unfold bI at a;simp only [Ad,decide_eq_true_eq] at a;obtain ⟨⟨⟨c,i⟩,b,h⟩,d,k⟩:=a;have key:∀ x,0<=x->0<=aBI x g.pods:=λ x j=>by have e:0<=gO x 1099511627776*gO g.pods 1048576:=Ld (by unfold gO;omega) (by unfold gO;omega);unfold aBI;generalize gO x 1099511627776*gO g.pods 1048576=q at e;unfold gO;omega
 exact ⟨key _ c,key _ b,key _ d⟩
def Was (c:Con) (l:List Rn) (n:Int):Prop:=∃ (ids:List Int) (x:Rn),x∈l/\x.g.id=n/\dS c (ofL c (aE l ids)) x.g.ten=true
def AR {v:Int} {l:List Int}:inB v l=true↔v∈l:=by unfold inB;simp
def jL {l:List Rn} {ids:List Int} {x:Rn}:x∈aE l ids↔x∈l/\x.g.id∉ids:=by unfold aE;rw [Fm];refine and_congr Np ?_;rw [<-AR];cases inB x.g.id ids<;>simp
def OC {c:Con} {l:List Rn} {g:Gan} {R:List Int}:∀ (f:Nat) (ids:List Int),ids.Nodup->(∀ n∈ids,Was c l n)->chA c l g f ids=some R->R.Nodup/\(∀ n∈R,Was c l n)/\qX c l g R=true
 | 0,ids,_,_,h=>by cases h
 | f+1,ids,hn,hw,h=>by
  unfold chA at h;split at h
  .rename_i k;cases h;exact ⟨hn,hw,k⟩
  .split at h
   .cases h
   .rename_i n m;obtain ⟨x,h1,i,h3⟩:=FU m;have hm:=jL.1 h1;refine OC f _ ?_ ?_ h
    .rw [Bz];refine ⟨hn,by simp,λ a d b j e=>?_⟩;simp at j;subst j e;rw [i] at hm;exact hm.2 d
    .intro a d;rcases Az.1 d with d | d
     .exact hw a d
     .simp at d;subst d;exact ⟨ids,x,hm.1,i,h3⟩
def aHC {c:Con} {l:List Rn} {g:Gan} (ids:List Int) (a:Int) (h:qX c l g ids=true):qX c l g (chS c l g ids a)=true/\(chS c l g ids a).Sublist ids:=by
 have e:chS c l g ids a=if qX c l g (eU ids a)=true then eU ids a else ids:=rfl
 rw [e];cases b:qX c l g (eU ids a) with
 | true=>rw [if_pos rfl];exact ⟨b,Lb⟩
 | false=>rw [if_neg d_];exact ⟨h,Lo _⟩
def aDD {c:Con} {l:List Rn} {g:Gan} (bs:List Int):∀ (ids:List Int),qX c l g ids=true->qX c l g (bs.foldl (chS c l g) ids)=true/\(bs.foldl (chS c l g) ids).Sublist ids:=by
 induction bs with
 | nil=>intro ids h;exact ⟨h,Lo _⟩
 | cons a r b=>
  intro ids h;have h1:=aHC ids a h;rw [Ba];generalize chS c l g ids a=q at h1;obtain ⟨d,h3⟩:=b q h1.1;exact ⟨d,h3.trans h1.2⟩
def zG {c:Con} {l:List Rn} {g:Gan} {R:List Int} (h:gE c l g=some R):rM c (ofL c l) g.ten (dem g)=true/\R.Nodup/\(∀ n∈R,Was c l n)/\qX c l g R=true:=by
 unfold gE at h;split at h
 .rename_i b;split at h
  .cases h
  .rename_i ids e;cases h;obtain ⟨h1,f,h3⟩:=OC _ [] s_ s_ e;obtain ⟨i,a⟩:=aDD ids ids h3;exact ⟨b,a.nodup h1,λ n d=>f n (a.subset d),i⟩
 .cases h
def HK (l:List Rn):Prop:=l.Pairwise λ a b=>a.g.id≠b.g.id/\a.seq≠b.seq
def yM {a:Int}:∀ {q:List Rn},q.Pairwise (λ x y=>x.g.id≠y.g.id)->(∃ x∈q,x.g.id=a)->(q.filter λ y=>!(y.g.id==a)).length+1=q.length
 | [],_,h=>by obtain ⟨x,b,_⟩:=h;cases b
 | y::r,hp,h=>by
  have hp:=Cv.1 hp;rw [Ho];by_cases c:y.g.id=a
  .have e:(r.filter λ y=>!(y.g.id==a))=r:=Gq.2 λ z hz=>by
    have:=hp.1 z hz;rw [c] at this;have:(z.g.id==a)=false:=by simpa using λ e=>this e.symm
    rw [this];rfl
   rw [if_neg (by simp [c]),e];simp
  .obtain ⟨x,b,d⟩:=h;have b:x∈r:=by
    rcases Bb.1 b with rfl | b
    .exact absurd d c
    .exact b
   have:=yM hp.2 ⟨x,b,d⟩;rw [if_pos (by simp [c])];simp only [Al];omega
def HQ (l:List Rn) (a:Int) (r:List Int):aE l (a::r)=(aE l r).filter λ x=>!(x.g.id==a):=by unfold aE;rw [List.filter_filter];refine List.filter_congr λ x _=>?_;unfold inB;rw [Hg];cases (r.any λ y=>x.g.id==y)<;>cases (x.g.id==a)<;>rfl
def yK {l:List Rn} (c:HK l):∀ {ids:List Int},ids.Nodup->(∀ n∈ids,∃ x∈l,x.g.id=n)->(aE l ids).length+ids.length=l.length
 | [],_,_=>by rw [fQ];simp
 | a::r,b,hm=>by have b:=Ce.1 b;have f:=yK c b.2 λ n h=>hm n (by simp [h]);obtain ⟨x,e,d⟩:=hm a s_;have hp:(aE l r).Pairwise λ x y=>x.g.id≠y.g.id:=(c.sublist Lb).imp λ h=>h.1;have:=yM (a:=a) hp ⟨x,jL.2 ⟨e,by rw [d];exact b.1⟩,d⟩;rw [HQ];simp only [Al];omega
def aFy {l:List Rn} (c:HK l) {x y:Rn} (d:x∈l) (e:y∈l) (h:x.g.id=y.g.id):x=y:=by
 obtain ⟨i,b,rfl⟩:=Iv d;obtain ⟨j,a,rfl⟩:=Iv e;have hp:=Gb.1 c;rcases Nat.lt_trichotomy i j with h1 | rfl | h1
 .exact absurd h (hp i j b a h1).1
 .rfl
 .exact absurd h.symm (hp j i a b h1).1
def aHD {c:Con} {l:List Rn} {g:Gan} {R:List Int} (a:HK l) (h:gE c l g=some R):R.length<=l.length:=by
 obtain ⟨_,f,d,_⟩:=zG h;have:=yK a f λ n b=>by obtain ⟨_,x,h1,e,_⟩:=d n b;exact ⟨x,h1,e⟩
 omega
abbrev cZ:Int:=1099511627776
def rG {v e:Int} (b:0<=v) (h1:v<=cZ) (a:0<=e):iP v e=min (v+e) cZ:=by unfold iP gO cZ at *;omega
def cG:List Int->Int
 | []=>0
 | x::r=>x+cG r
def kT:∀ {es:List Int},(∀ e∈es,0<=e)->0<=cG es
 | [],_=>Dh _
 | x::r,h=>by have:=kT (es:=r) λ e a=>h e (by simp [a]);have:=h x s_;unfold cG;omega
def uW:∀ {es:List Int} {v:Int},0<=v->v<=cZ->(∀ e∈es,0<=e)->es.foldl iP v=min (v+cG es) cZ
 | [],v,h0,h1,_=>by
  unfold cG;show v=_;omega
 | x::r,v,h0,h1,h=>by have b:=h x s_;have c:=kT (es:=r) λ e a=>h e (by simp [a]);rw [Ba,rG h0 h1 b,uW (by unfold cZ at *;omega) o_ λ e a=>h e (by simp [a])];have e:cG (x::r)=x+cG r:=rfl;rw [e];omega
structure Prj (p:V3->Int):Prop where
 add:∀ u v,p (fO u v)=iP (p u) (p v)
 sub:∀ u v,p (EI u v)=WQ (p u) (p v)
 pos:∀ u,p (aJi u)=max (p u) 0
 zero:p V3.zero=0
def aFs:Prj V3.a:=⟨λ_ _=>rfl,λ_ _=>rfl,λ_=>rfl,rfl⟩
def aFr:Prj V3.b:=⟨λ_ _=>rfl,λ_ _=>rfl,λ_=>rfl,rfl⟩
def aFq:Prj V3.c:=⟨λ_ _=>rfl,λ_ _=>rfl,λ_=>rfl,rfl⟩
section
variable {p:V3->Int} (hp:Prj p)
include hp
def H1 (us:List V3):∀ (B:List Int) (v:V3),p (B.foldl (smS us) v)=(B.map λ t=>p (atV us t)).foldl iP (p v)
 | [],v=>rfl
 | t::r,v=>by rw [Ba,H1 us r,Bl,Ba];congr 1;exact hp.add _ _
def kE (ns:List Nod) (p:V3->Int) (us:List V3) (t s:Int):Int:=if s=t then 0 else max (WQ (p (EI (cW ns s).n (cW ns s).l)) (p (atV us s))) 0
def UD (ns:List Nod) (us:List V3) (t:Int):∀ (B:List Int) (v:V3),0<=p v->p v<=cZ->p (B.foldl (F4 ns us t) v)=(B.map (kE ns p us t)).foldl iP (p v)
 | [],v,_,_=>rfl
 | s::r,v,h0,h1=>by
  rw [Ba,Bl,Ba];have e:p (F4 ns us t v s)=iP (p v) (kE ns p us t s):=by
   unfold F4 kE;by_cases h:s=t
   .rw [if_pos (decide_eq_true h),if_pos h,rG h0 h1 (Dh _)];omega
   .rw [if_neg (by rw [decide_eq_false h];decide),if_neg h,hp.add,hp.pos,hp.sub]
  have b:0<=kE ns p us t s:=by unfold kE;split<;>omega
  have a:0<=iP (p v) (kE ns p us t s)/\iP (p v) (kE ns p us t s)<=cZ:=by
   rw [rG h0 h1 b];unfold cZ at *
   omega
  rw [UD ns us t r _ (by rw [e];exact a.1) (by rw [e];exact a.2),e]
end
def aFB (c:Con) (l:List Rn):(ofL c l).length=c.ns.length:=by unfold ofL lX;simp
def aFz {c:Con} {l:List Rn} (f:∀ x∈l,(dem x.g).pos) (q:Rn->Bool) (s:Int):(0<=(atV (ofL c (l.filter q)) s).a/\0<=(atV (ofL c (l.filter q)) s).b/\0<=(atV (ofL c (l.filter q)) s).c)/\(atV (ofL c (l.filter q)) s).le (atV (ofL c l) s)/\((atV (ofL c l) s).a<=cZ/\(atV (ofL c l) s).b<=cZ/\(atV (ofL c l) s).c<=cZ):=by
 by_cases hs:0<=s/\s.toNat<c.ns.length
 .rw [yV hs,yV hs];obtain ⟨h1,d⟩:=uK (c:=c) (j:=s.toNat) q l V3.zero V3.zero f (CR _) KA;have h3:=(uK (c:=c) (j:=s.toNat) (λ_=>true) (l.filter q) V3.zero V3.zero (λ x h=>f x (Fm.1 h).1) (CR _) KA).2;exact ⟨⟨h3.1.1,h3.2.1.1,h3.2.2.1⟩,h1,d.1.2,d.2.1.2,d.2.2.2⟩
 .have z:∀ l,atV (ofL c l) s=V3.zero:=λ l=>by
   unfold atV;by_cases e:s<0
   .rw [if_pos (decide_eq_true e)]
   .rw [if_neg (by rw [decide_eq_false e];decide),Bk (by rw [aFB];omega)];rfl
  rw [z,z];exact ⟨by decide,CR _,by decide⟩
def X5 (need:V3) (xs:List V3) (h:Int) (j:Nat):((sS need xs h)[j]?).getD V3.zero=if 0<=h/\h.toNat<xs.length/\h.toNat=j then EI ((xs[j]?).getD V3.zero) need else (xs[j]?).getD V3.zero:=by
 unfold sS;by_cases h1:0<=h
 .rw [if_pos (decide_eq_true h1)];by_cases a:h<(xs.length:Int)
  .rw [if_pos (decide_eq_true a),Hd];by_cases h3:h.toNat=j
   .rw [if_pos h3,if_pos o_,if_pos ⟨h1,by omega,h3⟩,h3];rfl
   .rw [if_neg h3,if_neg (λ q=>h3 q.2.2)]
  .rw [if_neg (by rw [decide_eq_false a];decide),if_neg (λ q=>by omega)]
 .rw [if_neg (by rw [decide_eq_false h1];decide),if_neg (λ q=>h1 q.1)]
def wiS (h:Int) (b:Bool) (y:Int):Bool:=if b=true then true else decide (y=h)
def E4 (G hs:List Int):Bool:=hs.all λ h=>G.foldl (wiS h) false
def aKB (h n y:Int):Int:=if y=h then n+1 else n
def AB (h:Int) (l:List Int):Int:=l.foldl (aKB h) 0
def aCG (free:List V3) (need:V3) (hs:List Int) (h:Int):Bool:=if decide (h<0)=true then false else if decide ((free.length:Int)<=h)=true then false else !decide (eD ((free[h.toNat]?).getD V3.zero) need<AB h hs)
def DD (free:List V3) (need:V3) (hs:List Int):Bool:=hs.all (aCG free need hs)
def chkG (free:List V3) (need:V3) (hs:List Int) (G:List Int):Bool:=E4 G hs&&DD free need hs
def qA (c:Con) (free:List V3) (g:Gan) (hs:List Int):Bool:=if ((hs.length:Int)=g.pods) then (gpL c g.lev).any (chkG free g.need hs) else false
def J4 {c:Con} {lv a b:Int} (d:0<=lv) (h3:lv<=3):alB c lv a b=true↔pT c lv a=pT c lv b:=by rw [J3 c lv a b d h3];simp
def aAP {c:Con} {lv a b:Int} (d:0<=lv) (h3:lv<=3) (h:pT c lv a=pT c lv b):∀ (s:List (List Int)) (n:Nat),dA c lv a s n=dA c lv b s n
 | [],n=>rfl
 | g::r,n=>by unfold dA;rw [aAP d h3 h r (n+1),J3 c lv _ a d h3,J3 c lv _ b d h3,h]
def aAO (c:Con) (lv i x:Int):∀ (s:List (List Int)) (k n:Nat),(∀ g∈s,g≠[])->dA c lv i (s.set k ((s[k]?).getD []++[x])) n=dA c lv i s n
 | [],k,n,_=>by simp
 | g::r,0,n,h=>by
  have b:=h g (Ap ..);cases g with
  | nil=>exact absurd rfl b
  | cons a t=>rfl
 | g::r,k+1,n,h=>by have d:=aAO c lv i x r k (n+1) (λ g b=>h g (Bd _ b));show dA c lv i (g::r.set k ((r[k]?).getD []++[x])) n=_;unfold dA;rw [d]
def TN (c:Con) (lv i:Int) (g:List Int):∀ (s:List (List Int)) (n:Nat),dA c lv i (s++[g]) n=match dA c lv i s n with
   | some k=>some k
   | none=>if alB c lv (g.headD 0) i=true then some (n+s.length) else none
 | [],n=>by simp [dA]
 | q::r,n=>by
  show dA c lv i (q::(r++[g])) n=_;unfold dA;by_cases h:alB c lv (q.headD 0) i=true
  .rw [if_pos h,if_pos h]
  .rw [if_neg h,if_neg h,TN c lv i g r (n+1)];rw [show n+(q::r).length=n+1+r.length from by simp;omega]
def TM {c:Con} {lv i:Int}:∀ {s:List (List Int)} {n k:Nat},dA c lv i s n=some k->n<=k/\∃ G,s[k-n]? =some G/\alB c lv (G.headD 0) i=true
 | [],n,k,h=>by cases h
 | g::r,n,k,h=>by
  unfold dA at h;by_cases h1:alB c lv (g.headD 0) i=true
  .rw [if_pos h1] at h;cases h;exact ⟨Bc _,g,by simp,h1⟩
  .rw [if_neg h1] at h;obtain ⟨b,G,h3,a⟩:=TM h;refine ⟨by omega,G,?_,a⟩;rw [show k-n=(k-(n+1))+1 from by omega];exact h3
def aH3 (c:Con) (lv:Int) (m:Nat) (s:List (List Int)):Prop:=
 (∀ a:Nat,a<m->∃ k G,dA c lv (a:Int) s 0=some k/\s[k]? =some G/\(a:Int)∈G)/\∀ G∈s,G≠[]/\G.Nodup/\∀ x∈G,0<=x/\x<(m:Int)/\alB c lv (G.headD 0) x=true
def aCj {c:Con} {lv:Int} (H:0<=lv) (h3:lv<=3) {m:Nat} {s:List (List Int)} (h:aH3 c lv m s):aH3 c lv (m+1) (rgS c lv s m):=by
 obtain ⟨h1,v⟩:=h;have C:∀ g∈s,g≠[]:=λ g J=>(v g J).1;unfold rgS;cases D:dA c lv (m:Int) s 0 with
 | some k=>
  obtain ⟨_,l,e,z⟩:=TM D;rw [Jo] at e;have F:k<s.length:=(Ab.1 e).1;have q:l∈s:=Au e;refine ⟨λ a K=>?_,λ G d=>?_⟩
  .show ∃ i G,dA c lv (a:Int) (s.set k ((s[k]?).getD []++[(m:Int)])) 0=some i/\(s.set k ((s[k]?).getD []++[(m:Int)]))[i]? =some G/\(a:Int)∈G;rw [aAO c lv (a:Int) (m:Int) s k 0 C,e];by_cases j:a=m
   .subst j;refine ⟨k,_,D,by rw [Ar F],by simp⟩
   .obtain ⟨i,B,w,n,u⟩:=h1 a o_;by_cases o:k=i
    .subst o;rw [e] at n;cases n;exact ⟨k,l++[(m:Int)],w,by rw [Ar F];rfl,Az.2 (.inl u)⟩
    .exact ⟨i,B,w,by rw [Ay o];exact n,u⟩
  .have d:G∈s.set k ((s[k]?).getD []++[(m:Int)]):=d;rw [e] at d;have d:G∈s.set k (l++[(m:Int)]):=d;rcases Df d with d | rfl
   .exact zqra4
   .obtain ⟨r,p,f⟩:=v l q;have A:(l++[(m:Int)]).headD 0=l.headD 0:=by
     cases l with
     | nil=>exact absurd rfl r
     | cons y t=>rfl
    refine ⟨by simp,?_,λ x b=>?_⟩
    .rw [Bz];refine ⟨p,by simp,λ x b y I=>?_⟩;simp at I;subst I;have:=(f x b).2.1;omega
    .rw [A];rcases Az.1 b with b | b
     .exact ⟨(f x b).1,by have:=(f x b).2.1;omega,(f x b).2.2⟩
     .simp at b;subst b;exact ⟨by omega,by omega,z⟩
 | none=>
  refine ⟨λ a K=>?_,λ G d=>?_⟩
  .show ∃ i G,dA c lv (a:Int) (s++[[(m:Int)]]) 0=some i/\(s++[[(m:Int)]])[i]? =some G/\(a:Int)∈G;rw [TN];by_cases j:a=m
   .subst j;rw [D];refine ⟨0+s.length,[(a:Int)],if_pos ((J4 H h3).2 rfl),by simp,by simp⟩
   .obtain ⟨i,B,w,n,u⟩:=h1 a o_;rw [w];refine ⟨i,B,rfl,?_,u⟩;rw [Ag (Ab.1 n).1];exact n
  .have d:G∈s++[[(m:Int)]]:=d;rcases Az.1 d with d | d
   .exact zqra4
   .simp at d;subst d;refine ⟨by simp,by simp,λ x b=>?_⟩;simp at b;subst b;exact ⟨by omega,by omega,(J4 H h3).2 rfl⟩
def I9 {c:Con} {lv:Int} (e:0<=lv) (h3:lv<=3):aH3 c lv c.hs.length (gpL c lv):=by
 rw [<-aJa];unfold rgL;rw [if_neg q_,if_neg q_];have key:∀ m:Nat,aH3 c lv m ((Di m).foldl (rgS c lv) []):=λ m=>by
  induction m with
  | zero=>exact ⟨λ a f=>by omega,λ G d=>by cases d⟩
  | succ m b=>
   rw [Mp,Jn];exact aCj e h3 b
 exact key _
def aJK {c:Con} {lv e a b:Int} (h:lv<=e) (f:pT c lv a=pT c lv b):pT c e a=pT c e b:=by
 unfold pT ofK at *
 simp only [Kv,and_true] at f⊢;obtain ⟨k,i,g,j⟩:=f;refine ⟨k,?_,?_,?_⟩
 .by_cases d:2<e
  .simp [d]
  .have:¬ 2<lv:=o_;simpa [d,this] using i
 .by_cases d:1<e
  .simp [d]
  .have:¬ 1<lv:=o_;simpa [d,this] using g
 .by_cases d:0<e
  .simp [d]
  .have:¬ 0<lv:=o_;simpa [d,this] using j
def aJX {c:Con} {lv e:Int} (b:0<=lv) (h:lv<=e) (h3:e<=3) {a:List Int} (v:a∈gpL c lv):a.Nodup/\∃ G∈gpL c e,∀ x∈a,x∈G:=by
 obtain ⟨_,p⟩:=I9 (c:=c) b (Fk h h3);obtain ⟨i,_⟩:=I9 (c:=c) (Fk b h) h3;obtain ⟨o,w,l⟩:=p a v;refine ⟨w,?_⟩;have r:a.headD 0∈a:=by
  cases a with
  | nil=>exact absurd rfl o
  | cons y t=>exact Ap ..
 obtain ⟨A,D,_⟩:=l _ r;have n:(a.headD 0)=((a.headD 0).toNat:Int):=o_;obtain ⟨k,G,d,g,_⟩:=i (a.headD 0).toNat o_;rw [<-n] at d;refine ⟨G,Au g,λ x z=>?_⟩;obtain ⟨F,C,u⟩:=l x z;have q:=aJK h ((J4 b (Fk h h3)).1 u);rw [aAP (Fk b h) h3 q] at d;have f:x=(x.toNat:Int):=o_;obtain ⟨B,H,m,s,j⟩:=i x.toNat o_;rw [<-f] at m j;rw [m] at d;cases d;rw [s] at g;cases g;exact j
def QE {free:List V3} {g:Gan}:∀ (b out:List Int) (h:Int),h∈b.foldl (inS free g) out->h∈out\/(h∈b/\0<=h/\h<(free.length:Int))
 | [],out,h,a=>.inl a
 | u::r,out,h,a=>by
  rw [Ba] at a;rcases QE r _ h a with a | a
  .unfold inS at a;by_cases h1:u<0
   .rw [if_pos (decide_eq_true h1)] at a;exact .inl a
   .rw [if_neg (by rw [decide_eq_false h1];decide)] at a;by_cases c:(free.length:Int)<=u
    .rw [if_pos (decide_eq_true c)] at a;exact .inl a
    .rw [if_neg (by rw [decide_eq_false c];decide)] at a;rcases Az.1 a with a | a
     .exact .inl a
     .have:=(Gf.1 a).2;subst this;exact .inr ⟨Ap ..,by omega,by omega⟩
  .exact .inr ⟨Bd _ a.1,a.2⟩
def rmN (free:List V3) (g:Gan) (h:Int):Nat:=(max (eD ((free[h.toNat]?).getD V3.zero) g.need) 0).toNat
def aGj (free:List V3) (g:Gan) (out:List Int) (u h:Int):(inS free g out u).count h<=out.count h+(if u=h then rmN free g h else 0):=by
 unfold inS;split
 .omega
 .split
  .omega
  .rw [Jh,List.count_replicate];by_cases a:u=h
   .subst a;rw [if_pos rfl];simp only [beq_self_eq_true,if_true];unfold rmN inN;omega
   .rw [if_neg a];simp [a]
def UM (free:List V3) (g:Gan) (h:Int):∀ (a out:List Int),a.Nodup->(a.foldl (inS free g) out).count h<=out.count h+(if h∈a then rmN free g h else 0)
 | [],out,_=>by simp
 | u::r,out,hn=>by
  rw [Ba];have h1:=UM free g h r (inS free g out u) (Ce.1 hn).2;have c:=aGj free g out u h;by_cases b:u=h
  .subst b;rw [if_neg (Ce.1 hn).1] at h1;rw [if_pos rfl] at c;rw [if_pos (Ap ..)];omega
  .rw [if_neg b] at c;by_cases hm:h∈r
   .rw [if_pos hm] at h1;rw [if_pos (Bd _ hm)];omega
   .rw [if_neg hm] at h1;omega
def xZ (h:Int):∀ (l:List Int) (n:Int),l.foldl (aKB h) n=n+(l.count h:Nat)
 | [],n=>by simp
 | y::r,n=>by
  rw [Ba,xZ h r];unfold aKB;by_cases a:y=h
  .subst a;rw [if_pos rfl,Ik];omega
  .rw [if_neg a,Ms (by simpa using a)]
def uD {G hs:List Int}:E4 G hs=true↔ ∀ h∈hs,h∈G:=by
 have key:∀ (h:Int) (G:List Int) (b:Bool),G.foldl (wiS h) b=true↔b=true\/h∈G:=λ h G=>by
  induction G with
  | nil=>intro b;simp
  | cons y r c=>
   intro b;rw [Ba,c];unfold wiS;cases b with
   | true=>simp
   | false=>simp [eq_comm]
 unfold E4;rw [Cq];constructor
 .intro q h a;have:=(key h G false).1 (q h a);simpa using this
 .intro q h a;exact (key h G false).2 (.inr (q h a))
def aCI {c:Con} {free:List V3} {g:Gan} (K:bI g.need=true) (L:1<=g.pods) (hl:0<=g.pref/\g.pref<=g.lev/\g.lev<=3) {x:Int×List Int} (h:zC c free g=some x):
  (∀ u∈x.2,0<=u/\u<(free.length:Int)/\((x.2.count u:Nat):Int)<=eD ((free[u.toNat]?).getD V3.zero) g.need)/\qA c free g x.2=true:=by
 have k:∀ (s:List (List Int)),fdG c free g s=some x->∃ d∈s,x.2=inL free g d/\¬ ((inL free g d).length:Int)<g.pods:=λ s=>by
  induction s with
  | nil=>intro h;cases h
  | cons d r m=>
   intro h;unfold fdG at h;by_cases h1:((inL free g d).length:Int)<g.pods
   .rw [if_pos (decide_eq_true h1)] at h;obtain ⟨q,w,z⟩:=m h;exact ⟨q,Bd _ w,z⟩
   .rw [if_neg (by rw [decide_eq_false h1];decide)] at h;cases h;exact ⟨d,Ap ..,rfl,h1⟩
 have j:∀ (n:Nat) (lv:Int),fdL c free g n lv=some x->∃ i,lv<=i/\i<lv+n/\fdG c free g (gpL c i)=some x:=λ n=>by
  induction n with
  | zero=>intro lv h;cases h
  | succ n m=>
   intro lv h;unfold fdL at h;cases v:fdG c free g (gpL c lv) with
   | some y=>
    rw [v] at h;cases h;exact ⟨lv,Dh _,by omega,v⟩
   | none=>
    rw [v] at h;obtain ⟨i,w,z,H⟩:=m (lv+1) h;exact ⟨i,by omega,by omega,H⟩
 unfold zC at h;obtain ⟨i,l1,l2,F⟩:=j _ _ h;obtain ⟨d,D,t,J⟩:=k _ F;have o:0<=i/\i<=g.lev:=o_;obtain ⟨B,G,C,p⟩:=aJX o.1 o.2 hl.2.2 D;have A:((inL free g d).length:Int)<=g.pods:=by
  have key:∀ (l:List Int) (out:List Int),(out.length:Int)<=g.pods->((l.foldl (inS free g) out).length:Int)<=g.pods:=λ l=>by
   induction l with
   | nil=>intro out h;exact h
   | cons x r m=>intro out h;exact m _ (I5 free g out x h)
  exact key d [] q_
 have b:∀ u∈x.2,u∈d/\0<=u/\u<(free.length:Int):=λ u a=>by
  rw [t] at a;rcases QE d [] u a with a | a
  .cases a
  .exact a
 have f:∀ u∈x.2,((x.2.count u:Nat):Int)<=eD ((free[u.toNat]?).getD V3.zero) g.need:=λ u a=>by have h1:=UM free g u d [] B;have I:0<x.2.count u:=Lg.2 a;rw [if_pos (b u a).1,show d.foldl (inS free g) []=x.2 from t.symm] at h1;unfold rmN at h1;simp only [List.count_nil] at h1;omega
 refine ⟨λ u a=>⟨(b u a).2.1,(b u a).2.2,f u a⟩,?_⟩;unfold qA;rw [if_pos (by rw [t];omega),Fq];refine ⟨G,C,?_⟩;unfold chkG;rw [uD.2 λ u a=>p u (b u a).1,Cy];unfold DD;rw [Cq];intro u a;unfold aCG;rw [if_neg (by have:=(b u a).2.1;simp;omega),if_neg (by have:=(b u a).2.2;simp;omega)];have:=f u a;have e:AB u x.2=((x.2.count u:Nat):Int):=by unfold AB;rw [xZ];omega
 rw [e];simp;omega
def KH {ns:List Nod}:∀ (f:Nat) (s x:Int),x∈upF ns f s->x=s\/∃ d∈ns,d.p=x
 | 0,s,x,h=>by cases h
 | f+1,s,x,h=>by
  unfold upF at h;by_cases a:0<=s
  .rw [if_pos (decide_eq_true a)] at h;by_cases h1:s.toNat<ns.length
   .rw [dif_pos h1] at h;by_cases b:s<=(ns[s.toNat]).p
    .rw [if_pos (decide_eq_true b)] at h;simp at h;exact .inl h
    .rw [if_neg (by rw [decide_eq_false b];decide)] at h;rcases Bb.1 h with h | h
     .exact .inl h
     .rcases KH f _ x h with rfl | h
      .exact .inr ⟨_,Bh h1,rfl⟩
      .exact .inr h
   .rw [dif_neg h1] at h;cases h
  .rw [if_neg (by rw [decide_eq_false a];decide)] at h;cases h
def XQ {ns:List Nod} {t:Int} (h:bB ns t=true):∀ d∈ns,d.p≠t:=by obtain ⟨a,h1⟩:=vR h;unfold bB at h;rw [if_pos (decide_eq_true a),if_pos (decide_eq_true o_),D7] at h;intro d b e;have:(ns.any λ x=>x.p==t)=true:=Fq.2 ⟨d,b,by simp [e]⟩;rw [this] at h;cases h
def UC {ns:List Nod} {t s:Int} (h:bB ns t=true) (hs:t∈upL ns s):t=s:=by
 rcases KH _ _ _ hs with h1 | ⟨d,a,e⟩
 .exact h1
 .exact absurd e (XQ h d a)
def TD {ns:List Nod} {t:Int} (b:0<=t) (h1:t.toNat<ns.length):t∈upL ns t:=by obtain ⟨r,a⟩:=ZV b h1;rw [a];exact Ap ..
def aF2 {ns:List Nod} {t:Int} (h:bB ns t=true):t∈rY ns:=by
 obtain ⟨e,h1⟩:=vR h;have key:∀ (m i:Nat),i<=t.toNat->t.toNat<i+m->t∈lvF ns m i:=λ m=>by
  induction m with
  | zero=>intro i a b;omega
  | succ m c=>
   intro i a b;unfold lvF;by_cases d:i=t.toNat
   .subst d;rw [show ((t.toNat:Nat):Int)=t from by omega,if_pos h];exact Ap ..
   .have:=c (i+1) o_ o_;split
    .exact Bd _ this
    .exact this
 exact key _ 0 o_ o_
def P8 {ns:List Nod} {t:Int} (h:bB ns t=true):bQ ns t=[t]:=by
 obtain ⟨g,h1⟩:=vR h;have d:=TD g h1;have c:∀ s:Int,vU ns t s=if s=t then [t] else []:=λ s=>by
  unfold vU;by_cases e:s=t
  .subst e;rw [if_pos d,if_pos rfl]
  .rw [if_neg e,if_neg λ q=>e (UC h q).symm]
 have lo:∀ (m i:Nat),t.toNat<i->(lvF ns m i).flatMap (vU ns t)=[]:=λ m i f=>by rw [List.flatMap_eq_nil_iff];intro s hs;have:=IX ns m i s hs;rw [c,if_neg o_]
 have key:∀ (m i:Nat),i<=t.toNat->t.toNat<i+m->(lvF ns m i).flatMap (vU ns t)=[t]:=λ m=>by
  induction m with
  | zero=>intro i a b;omega
  | succ m j=>
   intro i a b;unfold lvF;by_cases f:i=t.toNat
   .subst f;rw [show ((t.toNat:Nat):Int)=t from by omega,if_pos h,Jm,lo _ _ o_,c,if_pos rfl];rfl
   .have:=j (i+1) o_ o_;split
    .rw [Jm,c,if_neg o_,this];rfl
    .exact this
 exact key _ 0 o_ o_
section
variable {p:V3->Int} (hp:Prj p)
include hp
def uE (c:Con) (p:V3->Int) (j:Int) (x:Rn):Int:=if bB c.ns x.g.ten=true/\j∈upL c.ns x.g.ten then p (dem x.g) else 0
def SJ {c:Con} {j:Nat}:∀ (l:List Rn) (v:V3),(∀ x∈l,0<=p (dem x.g))->0<=p v->p v<=cZ->p (l.foldl (oL c j) v)=min (p v+cG (l.map (uE c p (j:Int)))) cZ/\0<=cG (l.map (uE c p (j:Int)))
 | [],v,_,h0,h1=>by
  show p v=min (p v+0) cZ/\(0:Int)<=0;omega
 | x::r,v,hd,h0,h1=>by
  rw [Ba,Bl];show _=min (p v+(uE c p (j:Int) x+cG (r.map (uE c p (j:Int))))) cZ/\0<=uE c p (j:Int) x+cG (r.map (uE c p (j:Int)));have h:=hd x (Ap ..);have e:p (oL c j v x)=min (p v+uE c p (j:Int) x) cZ:=by
   unfold oL uE;by_cases a:bB c.ns x.g.ten=true/\(j:Int)∈upL c.ns x.g.ten
   .rw [if_pos a,if_pos a,hp.add,rG h0 h1 h]
   .rw [if_neg a,if_neg a];omega
  have i:0<=uE c p (j:Int) x:=by unfold uE;split<;>omega
  obtain ⟨d,f⟩:=SJ r (oL c j v x) (λ y b=>hd y (Bd _ b)) (by rw [e];unfold cZ;omega) (by rw [e];unfold cZ;omega);rw [d,e];unfold cZ;omega
omit hp in
def S1 {α:Type} (f g:α->Int):∀ (l:List α),cG (l.map λ x=>f x+g x)=cG (l.map f)+cG (l.map g)
 | []=>rfl
 | x::r=>by
  rw [Bl,Bl,Bl];show f x+g x+cG _=(f x+cG _)+(g x+cG _)
  rw [S1 f g r];omega
omit hp in
def S0 {α:Type} (f:α->Int):∀ (l:List α),(∀ y∈l,0<=f y)->∀ x∈l,f x<=cG (l.map f)
 | [],_,x,h=>by cases h
 | y::r,hf,x,h=>by
  rw [Bl];show f x<=f y+cG _;have h1:=kT (es:=r.map f) λ e a=>by obtain ⟨z,hz,rfl⟩:=Ca.1 a;exact hf z (Bd _ hz)
  have b:=hf y (Ap ..);rcases Bb.1 h with rfl | h
  .omega
  .have:=S0 f r (λ z hz=>hf z (Bd _ hz)) x h;omega
omit hp in
def SY {α:Type} (f:α->Int):∀ (l:List α),(∀ y∈l,0<=f y)->min (cG (l.map f)) cZ<=cG (l.map λ y=>min (f y) cZ)/\0<=cG (l.map f)
 | [],_=>by
  show min (0:Int) cZ<=0/\(0:Int)<=0;unfold cZ;omega
 | y::r,hf=>by
  rw [Bl,Bl];show min (f y+cG _) cZ<=min (f y) cZ+cG _/\0<=f y+cG _;have c:=hf y (Ap ..);obtain ⟨a,b⟩:=SY f r λ z hz=>hf z (Bd _ hz);unfold cZ at *
  omega
omit hp in
def HF {c:Con} {n:Int}:∀ (l:List Rn),(∀ x∈l,0<=p (dem x.g))->cG (l.map (uE c p n))<=cG ((bQ c.ns n).map λ s=>cG (l.map (uE c p s)))
 | [],_=>by
  show 0<=cG ((bQ c.ns n).map λ s=>(0:Int));exact kT λ e d=>by
   obtain ⟨z,_,rfl⟩:=Ca.1 d;exact Dh _
 | x::r,hd=>by
  have m:=HF (c:=c) (n:=n) r λ y j=>hd y (Bd _ j);have e:cG ((bQ c.ns n).map λ s=>cG ((x::r).map (uE c p s)))=cG ((bQ c.ns n).map λ s=>uE c p s x)+cG ((bQ c.ns n).map λ s=>cG (r.map (uE c p s))):=S1 _ _ _;rw [e,Bl];show uE c p n x+cG _<=_;have k:=hd x (Ap ..);have b:∀ s∈bQ c.ns n,0<=uE c p s x:=λ s _=>by unfold uE;split<;>omega
  have h1:uE c p n x<=cG ((bQ c.ns n).map λ s=>uE c p s x):=by
   by_cases a:bB c.ns x.g.ten=true/\n∈upL c.ns x.g.ten
   .have f:x.g.ten∈bQ c.ns n:=by unfold bQ;rw [List.mem_flatMap];refine ⟨x.g.ten,aF2 a.1,?_⟩;unfold vU;rw [if_pos a.2];simp
    have:=S0 (λ s=>uE c p s x) (bQ c.ns n) b _ f;have h:uE c p x.g.ten x=uE c p n x:=by obtain ⟨i,h1⟩:=vR a.1;unfold uE;rw [if_pos a,if_pos ⟨a.1,TD i h1⟩]
    rw [<-h];exact this
   .have h:uE c p n x=0:=by unfold uE;rw [if_neg a]
    rw [h];exact kT λ e d=>by obtain ⟨z,hz,rfl⟩:=Ca.1 d;exact b z hz
  omega
def HT {c:Con} {l:List Rn} (f:∀ x∈l,0<=p (dem x.g)) {n:Int} (d:c.ok n):p (atV (ofL c l) n)=min (cG (l.map (uE c p n))) cZ/\0<=cG (l.map (uE c p n)):=by
 have hz:p V3.zero=0:=hp.zero;obtain ⟨a,b⟩:=SJ hp (c:=c) (j:=n.toNat) l V3.zero f (by rw [hz];exact Dh _) (by rw [hz];decide);rw [yV d,a,hz];have e:((n.toNat:Nat):Int)=n:=by have:=d.1;omega
 rw [e] at b⊢;exact ⟨by omega,b⟩
def aIM {c:Con} {l:List Rn} (a:∀ x∈l,0<=p (dem x.g)) (n:Int):p (kS c.ns n (ofL c l))=min (cG ((bQ c.ns n).map λ s=>min (cG (l.map (uE c p s))) cZ)) cZ:=by
 have hz:p V3.zero=0:=hp.zero;have e:(bQ c.ns n).map (λ t=>p (atV (ofL c l) t))=(bQ c.ns n).map λ s=>min (cG (l.map (uE c p s))) cZ:=List.map_congr_left λ s hs=>(HT hp a (kO c n s hs)).1;unfold kS
 rw [H1 hp,e,hz,uW (Dh _) d_ λ e b=>by
  obtain ⟨s,hs,rfl⟩:=Ca.1 b;have:=(HT hp a (kO c n s hs)).2;unfold cZ
  omega]
 omega
def O1 {c:Con} {l:List Rn} (b:∀ x∈l,0<=p (dem x.g)) {n:Int} (d:c.ok n):p (atV (ofL c l) n)<=p (kS c.ns n (ofL c l))/\0<=p (atV (ofL c l) n)/\p (kS c.ns n (ofL c l))<=cZ:=by
 obtain ⟨a,f⟩:=HT hp b d;rw [a,aIM hp b n];have h1:=HF (p:=p) (c:=c) (n:=n) l b;obtain ⟨e,h3⟩:=SY (λ s=>cG (l.map (uE c p s))) (bQ c.ns n) λ s hs=>(HT hp b (kO c n s hs)).2;unfold cZ at *
 omega
def aB4 (ns:List Nod) (us:List V3) (n t:Int):0<=p (F5 ns us n t):=by
 have hz:p V3.zero=0:=hp.zero;have a:∀ e∈(bQ ns n).map (kE ns p us t),0<=e:=λ e b=>by obtain ⟨s,_,rfl⟩:=Ca.1 b;unfold kE;split<;>omega
 have c:=kT a;unfold F5;rw [UD hp _ _ _ _ _ (by rw [hz];exact Dh _) (by rw [hz];decide),hz,uW (Dh _) d_ a];unfold cZ;omega
def JZ {c:Con} {l:List Rn} (i:∀ x∈l,0<=p (dem x.g)) {need:V3} (f:0<=p need) {n t:Int} (e:c.ok n):p (fO (atV (ofL c l) n) need)<=p (fO (fO (kS c.ns n (ofL c l)) need) (F5 c.ns (ofL c l) n t)):=by obtain ⟨h1,m,h3⟩:=O1 hp i e;have h:=aB4 hp c.ns (ofL c l) n t;rw [hp.add,hp.add,hp.add];have j:=sH (d:=p need) h1;have b:=J5 (a:=p (kS c.ns n (ofL c l))) o_ f;have k:=A3 b.1 b.2 h;omega
end
def yI (x y z:Int):iP (iP (iP 0 x) 0) y=iP x y/\iP (iP 0 x) y=iP x y:=by unfold iP gO;omega
def WH (x y:V3):fO (fO V3.zero x) y=fO x y:=by unfold fO V3.map2 V3.zero;rw [(yI x.a y.a 0).2,(yI x.b y.b 0).2,(yI x.c y.c 0).2]
def aBA {c:Con} {t:Int} (h:c.ok t):atV (pR c.ns) t=(cW c.ns t).n:=by obtain ⟨a,h1⟩:=h;unfold atV pR;rw [if_neg q_,Bf,Dn h1];show (cW c.ns ((t.toNat:Nat):Int)).n=_;rw [show ((t.toNat:Nat):Int)=t from by omega]
def T6 (c:Con) (t n:Int):V3:=if n=t then fO (kS c.ns n (pR c.ns)) (cW c.ns n).b else kS c.ns n (pR c.ns)
def LP {c:Con} {l:List Rn} {x:Rn} (k:∀ y∈l,(dem y.g).pos) (j:(dem x.g).pos) (h:MP c (ofL c l) x.g.ten (dem x.g)=true):∀ n∈fB c.ns x.g.ten,c.ok n/\cR (atV (ofL c (l++[x])) n) (T6 c x.g.ten n)=true:=by
 intro n f;unfold fB at f;rw [Iu] at f;have a:c.ok n:=HU c _ _ _ f;refine ⟨a,?_⟩;unfold MP at h;by_cases hl:bB c.ns x.g.ten=true
 .rw [if_pos hl,Cq] at h;have b:=h n f;have e:atV (ofL c (l++[x])) n=fO (atV (ofL c l) n) (dem x.g):=by rw [yV a,yV a,Jn];show oL c n.toNat _ x=_;unfold oL;rw [if_pos ⟨hl,by rw [show ((n.toNat:Nat):Int)=n from by have:=a.1;omega];exact f⟩]
  rw [e];unfold P6 at b;unfold T6;by_cases d:n=x.g.ten
  .rw [if_pos (decide_eq_true d)] at b;rw [if_pos d];unfold aFx at b;have m:kS c.ns n (pR c.ns)=fO V3.zero (cW c.ns n).n:=by unfold kS;rw [P8 (by rw [d];exact hl)];show fO V3.zero (atV (pR c.ns) n)=_;rw [aBA a]
   rw [m,WH];exact b
  .rw [if_neg (by rw [decide_eq_false d];decide)] at b;rw [if_neg d];unfold aHZ at b;rw [uG] at b⊢;exact ⟨Fk (JZ aFs (λ y i=>(k y i).1) j.1 a) b.1,Fk (JZ aFr (λ y i=>(k y i).2.1) j.2.1 a) b.2.1,Fk (JZ aFq (λ y i=>(k y i).2.2) j.2.2 a) b.2.2⟩
 .rw [if_neg hl] at h;cases h
end Go.Proofs.YtidhfoefaomodaaGreatDoor
