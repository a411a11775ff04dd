/- Part 7 of what the statement rests on. -/
import Derived.Test.YtaeegbkbahgjhaaGreatDoorHA
set_option linter.all false
set_option maxHeartbeats 1000000
open And renaming intro->Ac
open Bool renaming and_eq_true->Ad,false_eq_true->Cp,false_or->Nf,or_eq_false_iff->Kj,true_and->Cz
open Exists renaming intro->Ap
open Go.World renaming ownsRow_nil->Hg
open Iff renaming rfl->Np
open Int renaming le_refl->De,le_trans->Fl,mul_nonneg->Lb,tdiv->Lx,tdiv_eq_ediv_of_nonneg->Ld,toNat_natCast->Bv
open List renaming all_cons->Kb,all_eq_true->Cr,any_cons->Hh,any_eq_true->Fq,append_assoc->Af,append_nil->Ar,count_append->Jg,count_cons_of_ne->Ms,count_cons_self->Ii,count_pos_iff->Le,drop->Hj,drop_drop->Hl,drop_eq_getElem_cons->Ae,drop_eq_nil_of_le->Ah,drop_zero->Cq,ext_getElem?->Eb,filter_congr->Lm,filter_cons->Hp,filter_cons_of_neg->Fs,filter_cons_of_pos->Ft,filter_eq_self->Gs,filter_sublist->Iv,flatMap_cons->Jl,foldl_append->Jm,foldl_cons->Bc,getElem?_append_left->Ag,getElem?_append_right->Ak,getElem?_drop->Bq,getElem?_eq_getElem->Aa,getElem?_eq_none->Bi,getElem?_eq_some_iff->Ab,getElem?_map->Bg,getElem?_range->Dm,getElem?_replicate->Em,getElem?_set->Hf,getElem?_set_ne->Bb,getElem?_set_self->Au,getElem_mem->Bf,getElem_of_mem->Iu,length_append->Ai,length_cons->Al,length_filter_le->Fj,length_nil->Bu,length_set->Dh,map_cons->Bl,map_set->Gt,mem_append->Ba,mem_cons->Aw,mem_cons_of_mem->Ay,mem_cons_self->Ao,mem_filter->Fc,mem_map->Ca,mem_of_getElem?->Av,mem_or_eq_of_mem_set->Df,mem_replicate->Gf,mem_reverse->Ir,nodup_append->Bt,nodup_cons->Cg,pairwise_cons->Cb,pairwise_iff_getElem->Ga,prefix_refl->Cn,range->Di,range_succ->Mo,replicate->Aj,take->Hy,take_add_one->Lj,take_append_drop->Bo,take_append_of_le_length->Db,take_of_length_le->Ch
open List.Sublist renaming refl->Jn
open List.cons renaming injEq->Kt
open Nat renaming le_refl->Bd,le_trans->Cx,sub_zero->Iq,zero_add->Bp
open Ne renaming symm->Ej
open Or renaming inl->Gd
open Prod renaming fst->Lz
namespace Go.Proofs.YtaeegbkbahgjhaaGreatDoor
open Go Go.AW Go.Proofs
set_option maxRecDepth 10000
def zqra0{P:Prop}(h:P:=by
 unfold bD at h;by_cases h1:0<=t
 .rw [if_pos (decide_eq_true h1)] at h;by_cases a:t<(ns.length:Int)
  .omega
  .rw [if_neg (by rw [decide_eq_false a];decide)] at h;cases h
 .rw [if_neg (by rw [decide_eq_false h1];decide)] at h
  cases h):P:=h
def zqra1{P:Prop}(h:P:=by
 subst c;refine c_ Tryz.f184 λ_=>?_;have hz1:=λ d=>JO d
 exact zW):P:=h
def zqra2{P:Prop}(h:P:=by exact To.cut [0,2,3,4,5] 4 rfl rfl rfl rfl next):P:=h
def zqra3{P:Prop}(h:P:=by
 rcases c.inv with ⟨e,h⟩ | ⟨e,h⟩
 .subst e;refine gV ?_;exact zW
 .subst e;refine gV ?_
  exact zW):P:=h
def zqra4{P:Prop}(h:P:=by
 obtain ⟨q,n,f⟩:=u G d
 exact ⟨q,n,λ x b=>⟨(f x b).1,by have:=(f x b).2.1;omega,(f x b).2.2⟩⟩):P:=h
def zqra5{P:Prop}(h:P:=by
 rw [if_neg (by rw [d];decide)] at b;rw [d] at h1;have next:=k ids o_ f b
 exact zW):P:=h
def zqra6{P:Prop}(h:P:=by
 refine cT (E:=(Eo [9] [])) (fn:=Tryz.f143) (g:=.pure _) λ_=>?_
 exact zW):P:=h
def zqra7{P:Prop}(h:P:=by
 refine cT (E:=E) (fn:=Tryz.f191) (g:=.full 3 _ _) λ_=>?_
 exact zW):P:=h
def zqra8{P:Prop}(h:P:=by
 refine cT (E:=E) (fn:=Tryz.f195) (g:=.full 2 _ _) λ_=>?_
 exact zW):P:=h
def zqra9{P:Prop}(h:P:=by
 rw [if_pos d] at b;rw [d] at h1;have next:=k (fB ids a) o_ o_ b
 exact zW):P:=h
def EX(n:Int):∀ (l:bc) (i:Nat),decide (0<=ak n l i)=l.any λ x=>x.p==n
 | [],i=>by simp [ak]
 | x::r,i=>by
  unfold ak;rw [Hh];by_cases h:x.p=n
  .simp [h]
  .have:=EX n r (i+1);simp [h,this]
def P5(l:bc)(n:Int):(l.all λ x=>!(x.p==n))= !(l.any λ x=>x.p==n):=by
 induction l with
 | nil=>rfl
 | cons x r a=>rw [Kb,Hh,a];cases (x.p==n)<;>simp
def aKa(ns:bc)(t:Int):rlB ns t=bD ns t:=by
 unfold rlB bD;rw [EX,P5];generalize (ns.any λ x=>x.p==t)=b;by_cases h1:t<0
 .have a:¬ 0<=t:=o_;simp [h1,a]
 .have h3:0<=t:=o_;by_cases a:(ns.length:Int)<=t
  .have c:¬ t<(ns.length:Int):=o_;simp [h1,h3,a,c]
  .have c:t<(ns.length:Int):=o_;simp [h1,h3,a,c]
def fI(ns:bc)(n:Int):aw:=(upL ns n).reverse
def HG{α β:Type}(f:β->α->β)(a:∀ b x y,f (f b x) y=f (f b y) x):∀ (l:List α) (b:β),l.reverse.foldl f b=l.foldl f b
 | [],b=>rfl
 | x::r,b=>by
  have h:∀ (l:List α) (b:β),l.foldl f (f b x)=f (l.foldl f b) x:=λ l=>by
   induction l with
   | nil=>intro b;rfl
   | cons y r c=>intro b;rw [Bc,Bc,a,c]
  rw [List.reverse_cons,Jm,HG f a r b];show f (r.foldl f b) x=r.foldl f (f b x);rw [h]
def FU(v:V3)(xs:a8)(k:Int):a8:=xs.set k.toNat (fQ ((xs[k.toNat]?).getD V3.zero) v)
def oT(v:V3)(xs:a8)(k:Int)(j:Nat):(FU v xs k)[j]? =if k.toNat=j then (xs[j]?).map λ x=>fQ x v else xs[j]?:=by
 unfold FU;rw [Hf];by_cases h:k.toNat=j
 .subst h;rw [if_pos rfl,if_pos rfl];by_cases a:k.toNat<xs.length
  .rw [if_pos a,Aa a];rfl
  .rw [if_neg a,Bi o_];rfl
 .rw [if_neg h,if_neg h]
def aAn(v:V3)(xs:a8)(a b:Int):FU v (FU v xs a) b=FU v (FU v xs b) a:=by refine Eb λ j=>?_;rw [oT,oT,oT,oT];by_cases h1:a.toNat=j<;>by_cases c:b.toNat=j<;>simp [h1,c]
def QU(c:Con)(xs:a8)(x:Rn):a8:=if bD c.ns x.g.ten=true then (fI c.ns x.g.ten).foldl (FU (dem x.g)) xs else xs
def aJ7(c:Con)(l:a6):a8:=l.foldl (QU c) (Aj c.ns.length V3.zero)
def qQ(L:Led):Prop:=(L.map Lz).Nodup
def GP(n:Int)(v:V3):∀ (L:Led) (k:Int),k∈(xZ L n v).map Lz->k=n\/k∈L.map Lz
 | [],k,h=>by simp [xZ] at h;exact .inl h
 | (j,w)::r,k,h=>by
  unfold xZ at h;split at h
  .rename_i a;simp only [Bl,Aw] at h⊢;rcases h with rfl | h
   .exact .inl rfl
   .exact .inr (.inr h)
  .simp only [Bl,Aw] at h⊢;rcases h with rfl | h
   .exact .inr (.inl rfl)
   .rcases GP n v r k h with h | h
    .exact .inl h
    .exact .inr (.inr h)
def aCz(n:Int)(v:V3):∀ (L:Led),qQ L->qQ (xZ L n v)
 | [],_=>by simp [xZ,qQ]
 | (j,w)::r,h=>by
  have h1:=(Cg.1 h)
  unfold xZ;split
  .rename_i a;subst a;exact h
  .rename_i a;refine Cg.2 ⟨λ hm=>?_,aCz n v r h1.2⟩;rcases GP n v r _ hm with h | h
   .exact a h
   .exact h1.1 h
def GS(n:Int):∀ (L:Led) (k:Int),k∈(DL L n).map Lz->k∈L.map Lz
 | [],k,h=>h
 | (j,w)::r,k,h=>by
  unfold DL at h;simp only [Bl,Aw];split at h
  .exact .inr h
  .simp only [Bl,Aw] at h;rcases h with h | h
   .exact .inl h
   .exact .inr (GS n r k h)
def aCF(n:Int):∀ (L:Led),qQ L->qQ (DL L n)
 | [],h=>h
 | (j,w)::r,h=>by
  have h1:=(Cg.1 h)
  unfold DL;split
  .exact h1.2
  .exact Cg.2 ⟨λ hm=>h1.1 (GS n r _ hm),aCF n r h1.2⟩
def NZ:∀ (L:Led) (n:Int),n∉L.map Lz->iT L n=none
 | [],n,h=>rfl
 | (j,w)::r,n,h=>by simp only [Bl,Aw,not_or] at h;unfold iT;rw [if_neg (λ e=>h.1 e.symm)];exact NZ r n h.2
def NY(n:Int)(v:V3)(k:Int):∀ (L:Led),iT (xZ L n v) k=if k=n then some v else iT L k
 | []=>by
  unfold xZ iT iT;by_cases h:k=n
  .rw [if_pos h,if_pos h.symm]
  .rw [if_neg h,if_neg (λ e=>h e.symm)]
 | (j,w)::r=>by
  have b:=NY n v k r;unfold xZ;split
  .rename_i a;subst a;unfold iT;by_cases h:k=j
   .rw [if_pos h,if_pos h.symm]
   .rw [if_neg h,if_neg (λ e=>h e.symm),if_neg (λ e=>h e.symm)]
  .rename_i a;unfold iT;rw [b];by_cases h:j=k
   .rw [if_pos h,if_pos h,if_neg (λ e=>a (h.trans e))]
   .rw [if_neg h,if_neg h]
def N0(n:Int)(k:Int):∀ (L:Led),qQ L->iT (DL L n) k=if k=n then none else iT L k
 | [],_=>by
  unfold DL iT;split<;>rfl
 | (j,w)::r,h=>by
  have h1:=(Cg.1 h)
  have c:=N0 n k r h1.2;unfold DL;split
  .rename_i b;subst b;by_cases a:k=j
   .rw [if_pos a,a];exact NZ r j h1.1
   .rw [if_neg a]
    conv=>rhs;unfold iT
    rw [if_neg (λ e=>a e.symm)]
  .rename_i b;unfold iT;rw [c];by_cases a:j=k
   .rw [if_pos a,if_pos a,if_neg (λ e=>b (a.trans e))]
   .rw [if_neg a,if_neg a]
def aCP{v:V3}(h:isZ v=true):v=V3.zero:=by obtain ⟨a,b,c⟩:=v;unfold isZ at h;simp at h;obtain ⟨rfl,rfl,rfl⟩:=h;rfl
def aKJ{L:Led}(h:qQ L)(n:Int)(v:V3):qQ (NS L n v):=by
 unfold NS;split
 .exact aCF n L h
 .exact aCz n v L h
def aCy{L:Led}(h:qQ L)(n:Int)(v:V3)(k:Int):qB (NS L n v) k=if k=n then v else qB L k:=by
 unfold NS qB;split
 .rename_i hz;rw [N0 n k L h];by_cases a:k=n
  .rw [if_pos a,if_pos a,aCP hz];rfl
  .rw [if_neg a,if_neg a]
 .rw [NY];by_cases a:k=n
  .rw [if_pos a,if_pos a];rfl
  .rw [if_neg a,if_neg a]
def EZ(n:Nat)(L:Led)(j:Nat):(mN n L)[j]? =if j<n then some (qB L (j:Int)) else none:=by
 unfold mN;rw [Bg];by_cases h:j<n
 .rw [if_pos h,Dm h];rfl
 .rw [if_neg h,Bi q_];rfl
def aID{n:Nat}{L:Led}(h:qQ L)(v:V3)(k:Int)(c:0<=k)(b:k.toNat<n):mN n (yV v L k)=FU v (mN n L) k:=by
 refine Eb λ j=>?_;rw [oT,EZ,EZ];unfold yV;rw [aCy h];by_cases h1:j<n
 .rw [if_pos h1,if_pos h1];by_cases a:k.toNat=j
  .rw [if_pos a,if_pos o_];have:k=(j:Int):=o_;rw [this];rfl
  .rw [if_neg a,if_neg o_]
 .rw [if_neg h1,if_neg h1];split<;>rfl
def aNy{L:Led}(h:qQ L)(v:V3)(k:Int):qQ (yV v L k):=aKJ h _ _
def PH{n:Nat}(v:V3):∀ (ks:aw) (L:Led),qQ L->(∀ k∈ks,0<=k/\k.toNat<n)->mN n (ks.foldl (yV v) L)=ks.foldl (FU v) (mN n L)/\qQ (ks.foldl (yV v) L)
 | [],L,h,_=>⟨rfl,h⟩
 | k::r,L,h,hk=>by have h1:=hk k s_;obtain ⟨a,b⟩:=PH v r (yV v L k) (aNy h v k) λ x c=>hk x (by simp [c]);exact ⟨by rw [Bc,a,aID h v k h1.1 h1.2];rfl,b⟩
def QF(ns:bc):∀ (f:Nat) (n x:Int),x∈upF ns f n->0<=x/\x.toNat<ns.length
 | 0,n,x,h=>by simp [upF] at h
 | f+1,n,x,h=>by
  unfold upF at h;split at h
  .rename_i a;have a:=of_decide_eq_true a;split at h
   .rename_i h1;split at h
    .simp at h;subst h;exact ⟨a,h1⟩
    .rcases Aw.1 h with rfl | h
     .exact ⟨a,h1⟩
     .exact QF ns f _ x h
   .simp at h
  .simp at h
def RE(c:Con)(L:Led)(h:qQ L)(x:Rn):mN c.ns.length (uL c L x)=QU c (mN c.ns.length L) x/\qQ (uL c L x):=by
 unfold uL QU fI;split
 .obtain ⟨b,d⟩:=PH (n:=c.ns.length) (dem x.g) (upL c.ns x.g.ten) L h λ k a=>QF _ _ _ _ a;exact ⟨by rw [b,HG _ (aAn _)],d⟩
 .exact ⟨rfl,h⟩
def aMD(c:Con)(l:a6):aJ7 c l=ofL c l:=by
 have key:∀ (l:a6) (L:Led),qQ L->l.foldl (QU c) (mN c.ns.length L)=mN c.ns.length (l.foldl (uL c) L):=λ l=>by
  induction l with
  | nil=>intro L _;rfl
  | cons x r e=>
   intro L h;obtain ⟨a,d⟩:=RE c L h x;rw [Bc,Bc,<-a,e _ d]
 have b:mN c.ns.length []=Aj c.ns.length V3.zero:=by refine Eb λ j=>?_;rw [EZ,Em];rfl
 unfold aJ7 ofL;rw [<-b,key l [] (by simp [qQ])]
def T2(ns:bc):∀ (f:Nat) (n:Int),(upF ns f n).length<=n.toNat+1/\(upF ns f n).length<=f
 | 0,n=>by simp [upF]
 | f+1,n=>by
  unfold upF;split
  .split
   .split
    .simp
    .rename_i b h1 a;have d:=T2 ns f (ns[n.toNat]).p;have a:¬ n<=(ns[n.toNat]).p:=λ h=>a (decide_eq_true h);have b:=of_decide_eq_true b;simp only [Al];refine ⟨?_,by omega⟩;by_cases c:0<=(ns[n.toNat]).p
     .omega
     .have e:(upF ns f (ns[n.toNat]).p)=[]:=by
       cases f with
       | zero=>rfl
       | succ f=>
          unfold upF;rw [if_neg (by rw [decide_eq_false c];decide)]
      rw [e];simp
   .simp
  .simp
def aE3(ns:bc)(n:Int):(upL ns n).length<=ns.length:=by
 by_cases h:0<=n/\n.toNat<ns.length
 .have:=(T2 ns (n.toNat+1) n).1;unfold upL;omega
 .unfold upL upF;by_cases a:0<=n
  .rw [if_pos (decide_eq_true a),dif_neg o_];simp
  .rw [if_neg (by rw [decide_eq_false a];decide)];simp
def aAE{ns:bc}{t:Int}(a:0<=t)(h1:t.toNat<ns.length):∃ r,upL ns t=t::r:=by
 unfold upL upF;rw [if_pos (decide_eq_true a),dif_pos h1];split
 .exact ⟨_,rfl⟩
 .exact ⟨_,rfl⟩
def wO{ns:bc}{t:Int}(h:bD ns t=true):0<=t/\t.toNat<ns.length:=by exact zqra0
def alB(c:Con)(lv a b:Int):Bool:=
 if lv=0 then decide (a=b)
 else if lv=1 then decide ((bK c.hs a).f=(bK c.hs b).f/\(bK c.hs a).b=(bK c.hs b).b/\(bK c.hs a).r=(bK c.hs b).r)
 else if lv=2 then decide ((bK c.hs a).f=(bK c.hs b).f/\(bK c.hs a).b=(bK c.hs b).b)
 else decide ((bK c.hs a).f=(bK c.hs b).f)
abbrev qJ(c:Con)(lv a:Int):aw:=ofK (bK c.hs a) a lv
def K5(c:Con)(lv a b:Int)(i:0<=lv)(h3:lv<=3):alB c lv a b=decide (qJ c lv a=qJ c lv b):=by
 unfold alB qJ ofK;by_cases e:lv=0
 .subst e;by_cases h:a=b
  .subst h;simp
  .simp [h]
 by_cases d:lv=1
 .subst d;simp
 by_cases f:lv=2
 .subst f;simp
 have g:lv=3:=o_;subst g;simp
def dF(c:Con)(lv i:Int):List aw->Nat->Option Nat
 | [],_=>none
 | g::r,k=>if alB c lv (g.headD 0) i=true then some k else dF c lv i r (k+1)
def rgS(c:Con)(lv:Int)(s:List aw)(i:Nat):List aw:=
 match dF c lv (i:Int) s 0 with
 | some k=>s.set k ((s[k]?).getD []++[(i:Int)])
 | none=>s++[[(i:Int)]]
def rgL(c:Con)(lv:Int):List aw:=if decide (lv<0)=true then [] else if decide (3<lv)=true then [] else (Di c.hs.length).foldl (rgS c lv) []
def oG(c:Con)(lv:Int):Nat->List aw->List (aw×Nat)
 | _,[]=>[]
 | k,g::r=>(qJ c lv (g.headD 0),k)::oG c lv (k+1) r
def DN(c:Con)(lv i:Int)(a:0<=lv)(h3:lv<=3):∀ (s:List aw) (k:Nat),lS (oG c lv k s) (qJ c lv i)=dF c lv i s k
 | [],k=>rfl
 | g::r,k=>by
  unfold oG lS dF;rw [K5 c lv _ _ a h3,DN c lv i a h3 r (k+1)];by_cases h:qJ c lv (g.headD 0)=qJ c lv i
  .rw [if_pos h,if_pos (decide_eq_true h)]
  .rw [if_neg h,if_neg (by rw [decide_eq_false h];decide)]
def GX(c:Con)(lv i:Int):∀ (s:List aw) (k m:Nat),(∀ g∈s,g≠[])->oG c lv m (s.set k ((s[k]?).getD []++[i]))=oG c lv m s
 | [],k,m,_=>by simp
 | g::r,0,m,h=>by
  have e:=h g s_;cases g with
  | nil=>exact absurd rfl e
  | cons a t=>rfl
 | g::r,k+1,m,h=>by have d:=GX c lv i r k (m+1) λ x b=>h x (by simp [b]);show _::oG c lv (m+1) (r.set k ((r[k]?).getD []++[i]))=_;rw [d];rfl
def DM(c:Con)(lv i:Int):∀ (s:List aw) (m:Nat),oG c lv m (s++[[i]])=oG c lv m s++[(qJ c lv i,m+s.length)]
 | [],m=>rfl
 | g::r,m=>by
  show _::oG c lv (m+1) (r++[[i]])=_::(oG c lv (m+1) r++_)
  rw [DM c lv i r (m+1)];simp only [Al];rw [show m+1+r.length=m+(r.length+1) from by omega]
def aKb(c:Con)(lv:Int)(f:0<=lv)(h3:lv<=3)(s:GSt)(i:Nat)(h1:s.1=oG c lv 0 s.2)(b:∀ g∈s.2,g≠[]):
  (gpS c lv s i).2=rgS c lv s.2 i/\(gpS c lv s i).1=oG c lv 0 (rgS c lv s.2 i)/\∀ g∈rgS c lv s.2 i,g≠[]:=by
 have e:=DN c lv (i:Int) f h3 s.2 0;rw [<-h1] at e;unfold gpS rgS;have d:lS s.1 (ofK (bK c.hs (i:Int)) i lv)=dF c lv (i:Int) s.2 0:=e;rw [d];cases dF c lv (i:Int) s.2 0 with
 | some k=>
  refine ⟨rfl,?_,λ g a=>?_⟩
  .show s.1=_;rw [h1,GX c lv i s.2 k 0 b]
  .rcases Df a with a | rfl
   .exact b g a
   .simp
 | none=>
  refine ⟨rfl,?_,λ g a=>?_⟩
  .show s.1++_=_;rw [h1,DM,Bp]
  .rcases Ba.1 a with a | a
   .exact b g a
   .simp at a;subst a;simp
def aKc(c:Con)(lv:Int):rgL c lv=gpL c lv:=by
 unfold rgL gpL;by_cases h1:lv<0
 .simp only [h1,decide_true,if_true]
 by_cases e:3<lv
 .simp only [h1,e,decide_true,decide_false,if_true,if_false,Cp]
 simp only [h1,e,decide_false,if_false,Cp];have key:∀ (l:az) (s:GSt),s.1=oG c lv 0 s.2->(∀ g∈s.2,g≠[])->l.foldl (rgS c lv) s.2=(l.foldl (gpS c lv) s).2:=λ l=>by
  induction l with
  | nil=>intro s _ _;rfl
  | cons i r j=>
   intro s a b;obtain ⟨d,f,h⟩:=aKb c lv o_ o_ s i a b;rw [Bc,Bc,<-d,j _ (by rw [d];exact f) (by rw [d];exact h)]
 exact key _ ([],[]) rfl (λ g k=>by simp at k)
def cC{v:V3}(h:bL v=true):(0<=v.a/\v.a<=1048576)/\(0<=v.b/\v.b<=1048576)/\(0<=v.c/\v.c<=1048576):=by unfold bL at h;simpa [Ad,and_assoc] using h
def FZ{a b:V3}:cS a b=true↔a.a<=b.a/\a.b<=b.b/\a.c<=b.c:=by
 unfold cS;by_cases h1:b.a<a.a
 .first | (simp [h1];done) | (simp [h1];omega)
 by_cases d:b.b<a.b
 .first | (simp [h1,d];done) | (simp [h1,d];omega)
 by_cases h3:b.c<a.c
 .first | (simp [h1,d,h3];done) | (simp [h1,d,h3];omega)
 first | (simp [h1,d,h3];done) | (simp [h1,d,h3];omega)
def CL{m f k n:Int}(c:0<=k)(d:k<=f):n<=zR m f k↔n<=m/\k*n<=f:=by
 unfold zR;by_cases h:0<k
 .rw [if_pos (decide_eq_true h),Ld o_];have:=Int.le_ediv_iff_mul_le h (a:=n) (b:=f);rw [Int.mul_comm] at this;omega
 .have:k=0:=o_;subst this;rw [if_neg d_];omega
def US{free need:V3}(i:bL need=true)(h:cS need free=true)(n:Int):n<=eP free need↔n<=16/\need.a*n<=free.a/\need.b*n<=free.b/\need.c*n<=free.c:=by
 obtain ⟨⟨k,_⟩,⟨l,_⟩,m,_⟩:=cC i;obtain ⟨h1,j,h3⟩:=FZ.1 h;unfold eP;rw [if_pos h,CL m h3,CL l j,CL k h1];constructor
 .rintro ⟨⟨⟨f,g⟩,d⟩,e⟩;exact ⟨f,g,d,e⟩
 .rintro ⟨f,g,d,e⟩;exact ⟨⟨⟨f,g⟩,d⟩,e⟩
def vH(c:Con)(a:Int):Prop:=0<=a/\a.toNat<c.hs.length
structure GH(c:Con)(i:Nat)(s:List aw):Prop where
 len:s.length<=i
 one:∀ g∈s,g.length<=i/\∃ a r,g=a::r/\vH c a
def GH.step{c:Con}{lv:Int}{i:Nat}{s:List aw}(h:GH c i s)(n:i<c.hs.length):GH c (i+1) (rgS c lv s i):=by
 obtain ⟨h1,f⟩:=h;unfold rgS;split
 .rename_i k m;refine ⟨by simp;omega,λ g b=>?_⟩;rcases Df b with b | rfl
  .obtain ⟨j,e⟩:=f g b;exact ⟨by omega,e⟩
  .by_cases d:k<s.length
   .rw [Aa d];obtain ⟨j,a,r,e,l⟩:=f _ (Bf d);refine ⟨by simp;omega,a,r++[(i:Int)],?_,l⟩;show s[k]++_=_;rw [e];rfl
   .rw [Bi o_];exact ⟨by simp,(i:Int),[],rfl,⟨by omega,by omega⟩⟩
 .refine ⟨by simp;omega,λ g b=>?_⟩;rcases Ba.1 b with b | b
  .obtain ⟨j,e⟩:=f g b;exact ⟨by omega,e⟩
  .simp at b;subst b;exact ⟨by simp,(i:Int),[],rfl,⟨by omega,by omega⟩⟩
abbrev inO(c:Con)(g:Gan):au:=[.cells 30 c.cs,.cells 34 g.cs,.tail 0 1 3]
def aHm(free:a8)(g:Gan)(c:0<=g.pods/\g.pods<=16)(a:aw):(inL free g a).length<=16:=by
 have key:∀ (l:aw) (out:aw),(out.length:Int)<=g.pods->((l.foldl (inS free g) out).length:Int)<=g.pods:=λ l=>by
  induction l with
  | nil=>intro out h;exact h
  | cons x r b=>intro out h;exact b _ (J2 free g out x h)
 have:=key a [] q_;unfold inL;omega
def WM{c:Con}{free:a8}{g:Gan}(a:0<=g.pods/\g.pods<=16){x:Int×aw}:∀ {b:List aw},fdG c free g b=some x->x.2.length<=16
 | [],h=>by cases h
 | gr::r,h=>by
  unfold fdG at h;split at h
  .exact WM a h
  .cases h;exact aHm free g a gr
def WL{c:Con}{free:a8}{g:Gan}(a:0<=g.pods/\g.pods<=16){x:Int×aw}:∀ {n:Nat} {lv:Int},fdL c free g n lv=some x->x.2.length<=16
 | 0,lv,h=>by cases h
 | n+1,lv,h=>by
  unfold fdL at h;split at h
  .rename_i y b;cases h;exact WM a b
  .exact WL a h
def aDm{c:Con}{l:a6}{g:Gan}(a:0<=g.pods/\g.pods<=16){x:Int×aw}(h:cM c l g=some x):x.2.length<=1048576:=by
 unfold cM at h;split at h
 .unfold AF at h;have:=WL a h;omega
 .cases h
end Go.Proofs.YtaeegbkbahgjhaaGreatDoor
namespace Go.AW
open Go.RowKit
def Mem.beginRow{M:Imm}{ob:Hs}{ac:au}{w:World}(hm:Mem M ob ac w){k i m:Nat}{T e:TypeId}{cs:ay}(F:ac[k]? =some (.cells T cs))(R:cs[i]? =some (.slice m [] .nil)):
  Mem M (ob++[[.slice none 0 0]]) (ac.set k (.cells T (cs.set i (.row ac.length 0)))++[.row 0 m e []]) w/\
   Ext M ob ac w M (ob++[[.slice none 0 0]]) (ac.set k (.cells T (cs.set i (.row ac.length 0)))++[.row 0 m e []]) w/\dJ ob (ob++[[.slice none 0 0]]):=by
 have l:dJ ob (ob++[[.slice none 0 0]]):=λ j hs d=>⟨hs,by rw [Ag (Ab.1 d).1];exact d,Cn _⟩
 have t:k<ac.length:=(Ab.1 F).1;have f:(ob++[[.slice none 0 0]])[ac.length]? =some [.slice none 0 0]:=by rw [<-hm.len];simp
 have G:at' (ob++[[.slice none 0 0]]) ac.length 0=some (.slice none 0 0):=by rw [bW f];rfl
 have y:∀ {j:Nat} {c:ab},(ac.set k (.cells T (cs.set i (.row ac.length 0)))++[.row 0 m e []])[j]? =some c->
   (j=ac.length/\c= .row 0 m e [])\/(j=k/\c= .cells T (cs.set i (.row ac.length 0)))\/(j≠k/\j<ac.length/\ac[j]? =some c):=λ{j c} d=>by
  by_cases p:j<ac.length
  .rw [Ag (by simpa using p)] at d;by_cases r:j=k
   .subst r;rw [Au p] at d;cases d;exact .inr (.inl ⟨rfl,rfl⟩)
   .rw [Bb (Ej r)] at d;exact .inr (.inr ⟨r,p,d⟩)
  .have o:j=ac.length:=by have:=(Ab.1 d).1;simp at this;omega
   subst o;rw [Ak s_] at d;simp at d;exact .inl ⟨rfl,d.symm⟩
 have C:∀ {j b:Nat},aG (ob++[[.slice none 0 0]]) (ac.set k (.cells T (cs.set i (.row ac.length 0)))++[.row 0 m e []]) j b->aG ob ac j b:=λ{j b} ⟨c,hs,s,B,e3,e4⟩=>by
  rcases y s with ⟨rfl,rfl⟩ | ⟨rfl,rfl⟩ | ⟨h1,o,h3⟩
  .rw [f] at e3;cases e3;cases e4
  .rw [Ag (by rw [hm.len];exact t)] at e3;exact ⟨_,hs,F,rfl,e3,e4⟩
  .rw [Ag (by rw [hm.len];exact o)] at e3;exact ⟨c,hs,h3,B,e3,e4⟩
 have N:∀ (j:Nat) c,(ac.set k (.cells T (cs.set i (.row ac.length 0)))++[.row 0 m e []])[j]? =some c->∃ hs,(ob++[[.slice none 0 0]])[j]? =some hs/\hD M (ob++[[.slice none 0 0]]) w hs c:=λ j c d=>by
  rcases y d with ⟨rfl,rfl⟩ | ⟨rfl,rfl⟩ | ⟨h1,o,h3⟩
  .have S:dM M w (.slice none 0 0) m e []:=by
    refine ⟨[],Hg w 0 _ _,?_,?_,?_,?_,?_⟩
    .intro u V;simp at V
    .intro x W;simp at W
    .intro q c X;simp [aH] at X
    .intro b K;cases K
    .intro b K;cases K
   exact ⟨_,f,rfl,_,rfl,S⟩
  .obtain ⟨hs,s,b,P,O,cv,L,I,J,A⟩:=hm.obj _ _ F;refine ⟨hs,by rw [Ag (by rw [hm.len];exact t)];exact s,b,P,O,cv,L,by simpa using I,J,λ n v a z g=>?_⟩;by_cases Q:n=i
   .subst Q;have D:n<cs.length:=(Ab.1 R).1;rw [Au D] at g;cases g;have:=A n v _ z R;obtain ⟨_,H⟩:=this.untok;have H:v= .slice none 0 0:=H;subst H;exact .row _ _ _ _ _ G
   .rw [Bb (Ej Q)] at g;exact (A n v a z g).mono (λ_ _ _ h=>h) l
  .obtain ⟨hs,s,B⟩:=hm.obj j c h3;refine ⟨hs,by rw [Ag (by rw [hm.len];exact o)];exact s,?_⟩;cases c with
   | cells Y cs'=>
    obtain ⟨b,P,O,cv,L,I,J,A⟩:=B;exact ⟨b,P,O,cv,L,I,J,λ n v a z g=>(A n v a z g).mono (λ_ _ _ h=>h) l⟩
   | _=>exact B
 refine ⟨⟨hm.imm,by simp [hm.len],N,λ j b g=>hm.lt j b (C g),λ j U b h1 o=>hm.inj j U b (C h1) (C o)⟩,⟨λ_ _ _ h=>h,λ_ _ _ h=>.inl h,l,rfl,rfl,rfl,Bd _,λ_ _ _=>rfl,λ j b g=>.inl ⟨j,C g⟩⟩,l⟩
def To.beginRowH{E:Env}{fn:Func}{g:Goal}{st:bf}{fr:ar}{ac:au}(k i:Nat)(e:TypeId){T:TypeId}{cs:ay}{l:Nat}(n:aB ac k= .cells T cs)(s:nth cs i=some (.slice l [] .nil))
  (h:To E fn g (.head st fr (kP (bM ac k (.cells T (L8 cs i (.row (aM ac) 0)))) (.row 0 l e [])))):To E fn g (.head st fr ac):=
 .mk λ f M0 ob0 c w0 a w hst hs=>by refine h.rec λ h=>h f M0 ob0 c w0 a w hst ?_;obtain ⟨M,ob,o,hm,d,r,p,u⟩:=hs;have b:=bF n s_;obtain ⟨m,q,j⟩:=hm.beginRow (e:=e) b (gX s);rw [nV,IW,bJ,aP b];exact ⟨M,_,o.trans q,m,λ t=>(d t).mono (λ_ _ _ h=>h) j,r,p.mono (λ_ _ _ h=>h) j,by simp;omega⟩
def To.beginRow{E:Env}{fn:Func}{g:Goal}{st:bf}{fr:ar}{ac:au}(k i:Nat)(e:TypeId){T:TypeId}{cs:ay}{a:Nat}(c:aB ac k= .cells T cs)(b:nth cs i=some (.slice a [] .nil))
  (h:To E fn g (.code st fr (kP (bM ac k (.cells T (L8 cs i (.row (aM ac) 0)))) (.row 0 a e [])))):To E fn g (.code st fr ac):=
 To.toC (To.beginRowH k i e c b (To.ofC h))
end Go.AW
namespace Go.Proofs.YtaeegbkbahgjhaaGreatDoor
open Go Go.AW Go.Proofs
set_option maxRecDepth 10000
def JO(x:Int):aq 219 [ii x] [] (.ret (.bool false)) []:=by refine c_ Tryz.f219 λ_=>gV ?_;exact congrArg (λ b=>Res.ret (aa.bool b)) s_
def PE(a b:Int):Int:=if a<b then -1 else if b<a then 1 else 0
def W9(a b r:Int)(c:PE a b=r):aq 184 [ii a,ii b] [] (.ret (ii r)) []:=by
 unfold PE at c;by_cases h1:a<b
 .rw [if_pos h1] at c;exact zqra1
 .rw [if_neg h1] at c;by_cases e:b<a
  .rw [if_pos e] at c;exact zqra1
  .rw [if_neg e] at c;exact zqra1
def aEi(a b:Int):aq 184 [ii a,ii b] [] (.ret (ii (PE a b))) []:=W9 a b _ rfl
def orI(p q:Int):Int:=if p=0 then q else p
def C4(p q r:Int)(b:orI p q=r):aq 187 [.slice 1 [ii p,ii q] .no] [] (.ret (ii r)) []:=by
 unfold orI at b;by_cases h1:p=0
 .subst h1;rw [if_pos rfl] at b;have hp:((0:Int) !=0)=false:=by decide
  by_cases c:q=0
  .subst c;subst b;have a:((0:Int) !=0)=false:=by decide
   refine c_ Tryz.f187 λ_=>?_
   repeat' first
    | (refine gW hE ?_;conv=>whnf)
    | exact rfl
    | refine Ap 0 (Ac rfl ?_)
    | refine Ap 1 (Ac rfl ?_)
    | refine Ap _ (Ac rfl ?_)
    | refine aY ?_
    | refine aN ?_
    | refine Ac (λ h=>?_) (λ h=>absurd h (by rw [hp];decide))
    | refine Ac (λ h=>?_) (λ h=>absurd h (by rw [a];decide))
    | refine Ac (λ h=>absurd h (by rw [hp];decide)) (λ h=>?_)
    | refine Ac (λ h=>absurd h (by rw [a];decide)) (λ h=>?_)
    | refine aJ ?_
    | fail
  .subst b;have a:(q !=0)=true:=by simp [c]
   refine c_ Tryz.f187 λ_=>?_
   repeat' first
    | (refine gW hE ?_;conv=>whnf)
    | exact rfl
    | refine Ap 0 (Ac rfl ?_)
    | refine Ap 1 (Ac rfl ?_)
    | refine Ap _ (Ac rfl ?_)
    | refine aY ?_
    | refine aN ?_
    | refine Ac (λ h=>?_) (λ h=>absurd h (by rw [hp];decide))
    | refine Ac (λ h=>?_) (λ h=>absurd h (by rw [a];decide))
    | refine Ac (λ h=>absurd h (by rw [hp];decide)) (λ h=>?_)
    | refine Ac (λ h=>absurd h (by rw [a];decide)) (λ h=>?_)
    | refine aJ ?_
    | fail
 .rw [if_neg h1] at b;subst b;have hp:(p !=0)=true:=by simp [h1]
  have a:((0:Int) !=0)=false:=by decide
  refine c_ Tryz.f187 λ_=>?_
  repeat' first
   | (refine gW hE ?_;conv=>whnf)
   | exact rfl
   | refine Ap 0 (Ac rfl ?_)
   | refine Ap 1 (Ac rfl ?_)
   | refine Ap _ (Ac rfl ?_)
   | refine aY ?_
   | refine aN ?_
   | refine Ac (λ h=>?_) (λ h=>absurd h (by rw [hp];decide))
   | refine Ac (λ h=>?_) (λ h=>absurd h (by rw [a];decide))
   | refine Ac (λ h=>absurd h (by rw [hp];decide)) (λ h=>?_)
   | refine Ac (λ h=>absurd h (by rw [a];decide)) (λ h=>?_)
   | refine aJ ?_
   | fail
def gQ(a b:Rn):Bool:=decide (orI (PE b.st a.st) (PE b.seq a.seq)<0)
def RM{a b:Rn}:gQ a b=true↔b.st<a.st\/(b.st=a.st/\b.seq<a.seq):=by
 unfold gQ orI PE;rw [decide_eq_true_iff];by_cases h1:b.st<a.st
 .simp [h1]
 .by_cases c:a.st<b.st
  .simp [h1,c];omega
  .have h3:b.st=a.st:=o_;by_cases d:b.seq<a.seq
   .simp [h1,c,h3,d]
   .by_cases e:a.seq<b.seq
    .simp [h1,c,h3,d,e]
    .simp [h1,c,h3,d,e]
def aG5(a b:Rn)(r:Bool)(c:gQ a b=r):aq 227 [a.av,b.av] [] (.ret (.bool r)) []:=by have h1:=aEi b.st a.st;have d:=aEi b.seq a.seq;unfold gQ at c;generalize PE b.st a.st=p at h1 c;generalize PE b.seq a.seq=q at d c;have h3:=C4 p q _ rfl;generalize orI p q=o at h3 c;subst c;exact c_ Tryz.f227 λ_=>zW
def RN(a b:Rn):aq 227 [a.av,b.av] [] (.ret (.bool (gQ a b))) []:=aG5 a b _ rfl
def A9(x:Rn)(h:x.hs.length<=1048576):aq 110 [x.av] [] (.ret x.av) []:=by refine c_ Tryz.f110 λ_=>?_;have a:=yT x.hs h;exact zW
def rn0:Rn:=⟨⟨0,0,0,V3.zero,0,0,0⟩,0,0,0,0,[]⟩
def aU(xs:a6)(i:Nat):Rn:=(xs[i]?).getD rn0
def iB{xs:a6}{i:Nat}(h:i<xs.length):(rav xs)[i]? =some (aU xs i).av:=by unfold aU;rw [Aa h];exact dT h
def pX(xs:a6)(i k:Nat):a6:=(xs.set i (aU xs k)).set k (aU xs i)
def jK(xs:a6)(i k:Nat):(pX xs i k).length=xs.length:=by unfold pX;simp
def MM(xs:a6)(i k:Nat):rav (pX xs i k)=((rav xs).set i (aU xs k).av).set k (aU xs i).av:=by unfold pX;simp [rav,Gt]
def upH:Nat->a6->Nat->a6
 | 0,xs,_=>xs
 | f+1,xs,i=>if i=0 then xs else if gQ (aU xs i) (aU xs ((i-1) / 2))=true then upH f (pX xs i ((i-1) / 2)) ((i-1) / 2) else xs
def rJ(xs:a6)(x:Rn):a6:=upH (xs.length+1) (xs++[x]) xs.length
def T1:∀ (f:Nat) (xs:a6) (i:Nat),(upH f xs i).length=xs.length
 | 0,xs,i=>rfl
 | f+1,xs,i=>by
  unfold upH;split
  .rfl
  .split
   .rw [T1 f,jK]
   .rfl
def GF(xs:a6)(x:Rn):(rJ xs x).length=xs.length+1:=by unfold rJ;rw [T1];simp
abbrev aG6:aa:=.func (.func 227) [] []
abbrev hpO(l:aa)(g:Nat)(xs:a6):au:=[.cells 349 [l,aG6],.row g 14 68 (rav xs)]
noncomputable abbrev aJf:Func:=Tryz.f228
def YO(N:Nat)(q:N<=1048577)(R:a6):∀ (f i:Nat) (ys:a6),ys.length=N->i<N->i<f->upH f ys i=R->
  To (Er [] [6,14,15,56]) aJf (.full 2 (.ret (.tup [])) (hpO (.row 1 1) 1 R)) (.head (stk aJf 0) [(0,.ref 0 0),(4,ii i)] (hpO (.row 1 1) 1 ys)):=by
 intro f;induction f with
 | zero=>intro i ys _ _ h;omega
 | succ f l=>
  intro i ys n r p d;have o:(rav ys).length=ys.length:=by simp
  unfold upH at d;by_cases k:i=0
  .subst k;rw [if_pos rfl] at d;subst d;refine gV ?_;exact zW
  rw [if_neg k] at d;have e:(i-1) / 2<ys.length:=o_;have c:Lx ((i:Int)-1) 2=(((i-1) / 2:Nat):Int):=by rw [Ld o_];omega
  have j:=iB (xs:=ys) (i:=i) o_;have g:=iB e;have hl:=RN (aU ys i) (aU ys ((i-1) / 2));generalize m:(i-1) / 2=up at d c g hl e;by_cases h1:gQ (aU ys i) (aU ys up)=true
  .rw [if_pos h1] at d;rw [h1] at hl;have next:=l up (pX ys i up) (by rw [jK];exact n) o_ o_ d
   unfold hpO at next
   rw [MM] at next
   generalize aU ys i=a at j hl next
   generalize aU ys up=b at g hl next
   refine gV ?_;refine aT λ h=>?_
   repeat' first
    | exact To.cut [0,4] 2 rfl rfl rfl rfl next
    | (refine gN (hEr [] [6,14,15,56]) ?_;conv=>whnf)
    | refine Ap i (Ac rfl ?_)
    | refine Ap up (Ac c ?_)
    | refine Ap _ (Ac j ?_)
    | refine Ap _ (Ac g ?_)
    | refine .pure _ [] hl ?_
    | refine aY ?_
    | refine aN ?_
    | refine Ac o_ ?_
    | refine Ac (by rw [Dh];omega) ?_
    | refine aJ ?_
    | refine Ac d_ ?_
    | fail
   rw [c];exact To.cut [0,4] 2 rfl rfl rfl rfl next
  .have h1:gQ (aU ys i) (aU ys up)=false:=by simpa using h1
   rw [if_neg (by rw [h1];decide)] at d;subst d;rw [h1] at hl;generalize aU ys i=a at j hl;generalize aU ys up=b at g hl;refine gV ?_;exact zW
def aGp(xs:a6)(hl:xs.length<=1048576)(x:Rn):aq 228 [.ref 0 0,x.av] (hpO (.row 1 0) 0 xs) (.ret (.tup [])) (hpO (.row 1 1) 1 (rJ xs x)):=by
 have b:(rav xs).length=xs.length:=by simp
 have next:=YO (xs.length+1) o_ (rJ xs x) (xs.length+1) xs.length (xs++[x]) s_ o_ o_ rfl
 have e:rav (xs++[x])=rav xs++[x.av]:=by simp
 unfold hpO at next
 rw [e] at next
 refine cT (E:=(Er [] [6,14,15,56])) (fn:=Tryz.f228) (g:=.full 2 _ _) λ_=>?_
 repeat' first | (refine gN (hEr [] [6,14,15,56]) ?_;conv=>whnf) | refine ⟨⟨by simp only [maxLen];simp;omega,by simp;omega⟩,?_⟩ | refine Gd (Ac (Ac (by simp only [Ai,Al,Bu,cJ];omega) (by simp only [Ai,Al,Bu,bE];omega)) ?_) | exact rfl | refine zt ?_ | refine zu ?_ ?_ | intro h | fail
 refine To.cut [0,4] 2 rfl rfl rfl rfl ?_;have a:(((rav xs++[x.av]).length:Int)-1)=((xs.length:Nat):Int):=by simp
 rw [<-a] at next
 exact next
set_option maxHeartbeats 2000000
def gM(xs:a6)(n i:Nat):Nat:=if 2*i+2<n then (if gQ (aU xs (2*i+2)) (aU xs (2*i+1))=true then 2*i+2 else 2*i+1) else 2*i+1
def W5(xs:a6)(n i:Nat)(h:2*i+1<n):gM xs n i<n/\i<gM xs n i/\(gM xs n i=2*i+1\/gM xs n i=2*i+2):=by
 unfold gM;split
 .split<;>omega
 .omega
def xF:Nat->a6->Nat->Nat->a6
 | 0,xs,_,_=>xs
 | f+1,xs,n,i=>if 2*i+1<n then (if gQ (aU xs (gM xs n i)) (aU xs i)=true then xF f (pX xs i (gM xs n i)) n (gM xs n i) else xs) else xs
def H1:∀ (f:Nat) (xs:a6) (n i:Nat),(xF f xs n i).length=xs.length
 | 0,xs,n,i=>rfl
 | f+1,xs,n,i=>by
  unfold xF;split
  .split
   .rw [H1 f,jK]
   .rfl
  .rfl
def AZ(xs:a6)(n:Nat):a6:=xF n (xs.set 0 (aU xs (n-1))) (n-1) 0
def CW(xs:a6)(n:Nat):(AZ xs n).length=xs.length:=by unfold AZ;rw [H1];simp
def D1{xs:a6}{i:Nat}(h:i<xs.length):(rav xs)[0+i]? =some (aU xs i).av:=by rw [Bp];exact iB h
def YM(xs:a6)(i k:Nat):rav (pX xs i k)=((rav xs).set (0+i) (aU xs k).av).set (0+k) (aU xs i).av:=by rw [Bp,Bp];exact MM xs i k
abbrev z14:ay:=[ii 0,ii 0,ii 0,ii 0,ii 0,ii 0,ii 0,ii 0,ii 0,ii 0,ii 0,ii 0,ii 0,.slice 1 [] .nil]
abbrev ppO(n:Nat)(ys:a6)(x:ay):au:=hpO (.sub 1 0 0 n 14) 0 ys++[.cells 68 z14,.cells 68 x]
abbrev ppF(n i:Int):ar:=[(0,.ref 0 0),(2,.ref 2 0),(3,.ref 3 0),(4,ii n),(5,ii i)]
noncomputable abbrev xD:Func:=Tryz.f229
def aKm(n N:Nat)(p:n<=N)(u:N<=1048577)(R:a6)(x:Rn)(i:Nat)(ys:a6)(s:ys.length=N)(q:2*i+1<n)(h3:2*i+2<n)(a b c:Rn)(l:(rav ys)[0+i]? =some a.av)(j:(rav ys)[0+(2*i+1)]? =some b.av)(k:(rav ys)[0+(2*i+2)]? =some c.av)
  (d:aq 227 [c.av,b.av] [] (.ret (.bool true)) []) (r:Bool) (e:aq 227 [c.av,a.av] [] (.ret (.bool r)) []) (g:r=false->ys=R)
  (next:r=true->To (Er [] [105]) xD (.full 2 (.ret x.av) (hpO (.sub 1 0 0 n 14) 0 R)) (.head (stk xD 0) (ppF n ((2*i+2:Nat):Int)) [.cells 349 [.sub 1 0 0 n 14,aG6],.row 0 14 68 (((rav ys).set (0+i) c.av).set (0+(2*i+2)) a.av),.cells 68 z14,.cells 68 x.cs])):
  To (Er [] [105]) xD (.full 2 (.ret x.av) (hpO (.sub 1 0 0 n 14) 0 R)) (.head (stk xD 0) (ppF n i) (ppO n ys x.cs)):=by
 have o:(rav ys).length=ys.length:=by simp
 have m:2*(i:Int)+1+1=((2*i+2:Nat):Int):=o_;cases r with
 | false=>
  have g:=g rfl;subst g;refine gV ?_
  repeat' first
   | (refine gN (hEr [] [105]) ?_;conv=>whnf)
   | refine Ap (2*i+2) (Ac o_ ?_)
   | refine Ap (2*i+1) (Ac o_ ?_)
   | refine Ap i (Ac rfl ?_)
   | refine Ap _ (Ac k ?_)
   | refine Ap _ (Ac j ?_)
   | refine Ap _ (Ac l ?_)
   | refine .pure _ [] d ?_
   | refine .pure _ [] e ?_
   | refine aY ?_
   | refine aN ?_
   | refine aT λ h=>?_
   | refine aF λ h=>?_
   | refine Ac o_ ?_
   | refine Ac (by rw [Dh];omega) ?_
   | refine Ac (Ac (by simp only [cJ];omega) (by simp only [bE];omega)) ?_
   | refine aJ ?_
   | refine Ac d_ ?_
   | refine ⟨[],[0,1],⟨rfl,rfl⟩,⟨rfl,rfl⟩⟩
   | fail
 | true=>
  have next:=next rfl
  rw [<-m] at next
  refine gV ?_
  repeat' first
   | (refine gN (hEr [] [105]) ?_;conv=>whnf)
   | refine Ap (2*i+2) (Ac o_ ?_)
   | refine Ap (2*i+1) (Ac o_ ?_)
   | refine Ap i (Ac rfl ?_)
   | refine Ap _ (Ac k ?_)
   | refine Ap _ (Ac j ?_)
   | refine Ap _ (Ac l ?_)
   | refine .pure _ [] d ?_
   | refine .pure _ [] e ?_
   | refine aY ?_
   | refine aN ?_
   | refine aT λ h=>?_
   | refine aF λ h=>?_
   | refine Ac o_ ?_
   | refine Ac (by rw [Dh];omega) ?_
   | refine Ac (Ac (by simp only [cJ];omega) (by simp only [bE];omega)) ?_
   | refine aJ ?_
   | refine Ac d_ ?_
   | refine ⟨[],[0,1],⟨rfl,rfl⟩,⟨rfl,rfl⟩⟩
   | fail
  exact zqra2
def aKn(n N:Nat)(p:n<=N)(u:N<=1048577)(R:a6)(x:Rn)(i:Nat)(ys:a6)(s:ys.length=N)(q:2*i+1<n)(h3:2*i+2<n)(a b c:Rn)(l:(rav ys)[0+i]? =some a.av)(j:(rav ys)[0+(2*i+1)]? =some b.av)(k:(rav ys)[0+(2*i+2)]? =some c.av)
  (d:aq 227 [c.av,b.av] [] (.ret (.bool false)) []) (r:Bool) (e:aq 227 [b.av,a.av] [] (.ret (.bool r)) []) (g:r=false->ys=R)
  (next:r=true->To (Er [] [105]) xD (.full 2 (.ret x.av) (hpO (.sub 1 0 0 n 14) 0 R)) (.head (stk xD 0) (ppF n ((2*i+1:Nat):Int)) [.cells 349 [.sub 1 0 0 n 14,aG6],.row 0 14 68 (((rav ys).set (0+i) b.av).set (0+(2*i+1)) a.av),.cells 68 z14,.cells 68 x.cs])):
  To (Er [] [105]) xD (.full 2 (.ret x.av) (hpO (.sub 1 0 0 n 14) 0 R)) (.head (stk xD 0) (ppF n i) (ppO n ys x.cs)):=by
 have o:(rav ys).length=ys.length:=by simp
 have m:2*(i:Int)+1=((2*i+1:Nat):Int):=o_;cases r with
 | false=>
  have g:=g rfl;subst g;refine gV ?_
  repeat' first
   | (refine gN (hEr [] [105]) ?_;conv=>whnf)
   | refine Ap (2*i+2) (Ac o_ ?_)
   | refine Ap (2*i+1) (Ac o_ ?_)
   | refine Ap i (Ac rfl ?_)
   | refine Ap _ (Ac k ?_)
   | refine Ap _ (Ac j ?_)
   | refine Ap _ (Ac l ?_)
   | refine .pure _ [] d ?_
   | refine .pure _ [] e ?_
   | refine aY ?_
   | refine aN ?_
   | refine aT λ h=>?_
   | refine aF λ h=>?_
   | refine Ac o_ ?_
   | refine Ac (by rw [Dh];omega) ?_
   | refine Ac (Ac (by simp only [cJ];omega) (by simp only [bE];omega)) ?_
   | refine aJ ?_
   | refine Ac d_ ?_
   | refine ⟨[],[0,1],⟨rfl,rfl⟩,⟨rfl,rfl⟩⟩
   | fail
 | true=>
  have next:=next rfl
  rw [<-m] at next
  refine gV ?_
  repeat' first
   | (refine gN (hEr [] [105]) ?_;conv=>whnf)
   | refine Ap (2*i+2) (Ac o_ ?_)
   | refine Ap (2*i+1) (Ac o_ ?_)
   | refine Ap i (Ac rfl ?_)
   | refine Ap _ (Ac k ?_)
   | refine Ap _ (Ac j ?_)
   | refine Ap _ (Ac l ?_)
   | refine .pure _ [] d ?_
   | refine .pure _ [] e ?_
   | refine aY ?_
   | refine aN ?_
   | refine aT λ h=>?_
   | refine aF λ h=>?_
   | refine Ac o_ ?_
   | refine Ac (by rw [Dh];omega) ?_
   | refine Ac (Ac (by simp only [cJ];omega) (by simp only [bE];omega)) ?_
   | refine aJ ?_
   | refine Ac d_ ?_
   | refine ⟨[],[0,1],⟨rfl,rfl⟩,⟨rfl,rfl⟩⟩
   | fail
  exact zqra2
def aKo(n N:Nat)(o:n<=N)(s:N<=1048577)(R:a6)(x:Rn)(i:Nat)(ys:a6)(q:ys.length=N)(p:2*i+1<n)(h3:¬ 2*i+2<n)(a b:Rn)(k:(rav ys)[0+i]? =some a.av)(g:(rav ys)[0+(2*i+1)]? =some b.av)
 (r:Bool) (d:aq 227 [b.av,a.av] [] (.ret (.bool r)) []) (e:r=false->ys=R)
  (next:r=true->To (Er [] [105]) xD (.full 2 (.ret x.av) (hpO (.sub 1 0 0 n 14) 0 R)) (.head (stk xD 0) (ppF n ((2*i+1:Nat):Int)) [.cells 349 [.sub 1 0 0 n 14,aG6],.row 0 14 68 (((rav ys).set (0+i) b.av).set (0+(2*i+1)) a.av),.cells 68 z14,.cells 68 x.cs])):
  To (Er [] [105]) xD (.full 2 (.ret x.av) (hpO (.sub 1 0 0 n 14) 0 R)) (.head (stk xD 0) (ppF n i) (ppO n ys x.cs)):=by
  have m:(rav ys).length=ys.length:=by simp
  have c:=JO 0;have j:True:=trivial;have l:2*(i:Int)+1=((2*i+1:Nat):Int):=o_;cases r with
  | false=>
   have e:=e rfl;subst e;refine gV ?_
   repeat' first
    | (refine gN (hEr [] [105]) ?_;conv=>whnf)
    | refine Ap (2*i+2) (Ac o_ ?_)
    | refine Ap (2*i+1) (Ac o_ ?_)
    | refine Ap i (Ac rfl ?_)
    | refine Ap _ (Ac j ?_)
    | refine Ap _ (Ac g ?_)
    | refine Ap _ (Ac k ?_)
    | refine .pure _ [] c ?_
    | refine .pure _ [] d ?_
    | refine aY ?_
    | refine aN ?_
    | refine aT λ h=>?_
    | refine aF λ h=>?_
    | refine Ac o_ ?_
    | refine Ac (by rw [Dh];omega) ?_
    | refine Ac (Ac (by simp only [cJ];omega) (by simp only [bE];omega)) ?_
    | refine aJ ?_
    | refine Ac d_ ?_
    | refine ⟨[],[0,1],⟨rfl,rfl⟩,⟨rfl,rfl⟩⟩
    | fail
  | true=>
   have next:=next rfl
   rw [<-l] at next
   refine gV ?_
   repeat' first
    | (refine gN (hEr [] [105]) ?_;conv=>whnf)
    | refine Ap (2*i+2) (Ac o_ ?_)
    | refine Ap (2*i+1) (Ac o_ ?_)
    | refine Ap i (Ac rfl ?_)
    | refine Ap _ (Ac j ?_)
    | refine Ap _ (Ac g ?_)
    | refine Ap _ (Ac k ?_)
    | refine .pure _ [] c ?_
    | refine .pure _ [] d ?_
    | refine aY ?_
    | refine aN ?_
    | refine aT λ h=>?_
    | refine aF λ h=>?_
    | refine Ac o_ ?_
    | refine Ac (by rw [Dh];omega) ?_
    | refine Ac (Ac (by simp only [cJ];omega) (by simp only [bE];omega)) ?_
    | refine aJ ?_
    | refine Ac d_ ?_
    | refine ⟨[],[0,1],⟨rfl,rfl⟩,⟨rfl,rfl⟩⟩
    | fail
   exact zqra2
def M4(n N:Nat)(q:n<=N)(s:N<=1048577)(R:a6)(x:Rn):∀ (f i:Nat) (ys:a6),ys.length=N->i<N->n<f+i+1->xF f ys n i=R->
  To (Er [] [105]) xD (.full 2 (.ret x.av) (hpO (.sub 1 0 0 n 14) 0 R)) (.head (stk xD 0) (ppF n i) (ppO n ys x.cs)):=by
 intro f;induction f with
 | zero=>
  intro i ys l z y b;have b:ys=R:=b;subst b;have t:(rav ys).length=ys.length:=by simp
  refine gV ?_;exact zW
 | succ f j=>
  intro i ys l z y b;have t:(rav ys).length=ys.length:=by simp
  unfold xF at b;by_cases e:2*i+1<n
  .rw [if_pos e] at b;have w:=W5 ys n i e;have u:=D1 (xs:=ys) (i:=i) o_;have o:=D1 (xs:=ys) (i:=2*i+1) o_;have a:=RN (aU ys (gM ys n i)) (aU ys i);have p:=YM ys i (gM ys n i);have j:=j (gM ys n i) (pX ys i (gM ys n i)) (by rw [jK];exact l) o_ o_;unfold ppO hpO at j;rw [p] at j;have d:∀ r,gQ (aU ys (gM ys n i)) (aU ys i)=r->(r=false->ys=R)/\(r=true->xF f (pX ys i (gM ys n i)) n (gM ys n i)=R):=λ r m=>by
    subst m;refine ⟨λ h=>?_,λ h=>?_⟩
    .rw [if_neg (by rw [h];decide)] at b;exact b
    .rw [if_pos h] at b;exact b
   have d:=d _ rfl;generalize gQ (aU ys (gM ys n i)) (aU ys i)=r at a d;have next:=λ m=>j (d.2 m)
   by_cases h3:2*i+2<n
   .have v:=D1 (xs:=ys) (i:=2*i+2) o_;have c:=RN (aU ys (2*i+2)) (aU ys (2*i+1));by_cases g:gQ (aU ys (2*i+2)) (aU ys (2*i+1))=true
    .have k:gM ys n i=2*i+2:=by unfold gM;rw [if_pos h3,if_pos g]
     rw [g] at c;rw [k] at next a
     exact aKm n N q s R x i ys l e h3 _ _ _ u o v c r a d.1 next
    .have g:gQ (aU ys (2*i+2)) (aU ys (2*i+1))=false:=by simpa using g
     have k:gM ys n i=2*i+1:=by unfold gM;rw [if_pos h3,if_neg (by rw [g];decide)]
     rw [g] at c;rw [k] at next a
     exact aKn n N q s R x i ys l e h3 _ _ _ u o v c r a d.1 next
   .have k:gM ys n i=2*i+1:=by unfold gM;rw [if_neg h3]
    rw [k] at next a
    exact aKo n N q s R x i ys l e h3 _ _ u o r a d.1 next
  .rw [if_neg e] at b;subst b;refine gV ?_;exact zW
inductive HV(ys:a6):aa->Nat->Prop
 | row:HV ys (.row 1 0) ys.length
 | sub (n:Nat) (h:n<=ys.length):HV ys (.sub 1 0 0 n 14) n
def aKl(ys:a6)(hl:ys.length<=1048577)(o:aa)(n:Nat)(q:HV ys o n)(p:0<n):aq 229 [.ref 0 0] (hpO o 0 ys) (.ret (aU ys 0).av) (hpO (.sub 1 0 0 (n-1) 14) 0 (AZ ys n)):=by
 have m:(rav ys).length=ys.length:=by simp
 cases q with
 | row=>
  have l:=iB (xs:=ys) (i:=0) o_;have d:=iB (xs:=ys) (i:=ys.length-1) o_;have c:((ys.length:Nat):Int)-1=((ys.length-1:Nat):Int):=o_
  obtain ⟨n,j⟩:∃ n,n=ys.length:=⟨_,rfl⟩
  rw [<-j] at d c p⊢;have k:((rav ys).length:Int)-1=((n-1:Nat):Int):=by rw [m,<-j];exact c
  have next:=M4 (n-1) ys.length o_ o_ (AZ ys n) (aU ys 0) n 0 (ys.set 0 (aU ys (n-1))) s_ o_ o_ rfl
  have e:rav (ys.set 0 (aU ys (n-1)))=(rav ys).set 0 (aU ys (n-1)).av:=by simp [rav,Gt]
  unfold ppO hpO at next
  rw [e] at next
  generalize aU ys 0=a at l next
  generalize aU ys (n-1)=b at d next
  refine cT (E:=(Er [] [105])) (fn:=Tryz.f229) (g:=.full 2 _ _) λ_=>?_
  repeat' first | (refine gN (hEr [] [105]) ?_;conv=>whnf) | refine ⟨0,rfl,?_⟩ | refine ⟨_,l,?_⟩ | refine Ap (n-1) (Ac k ?_) | refine ⟨_,d,?_⟩ | refine Ac (by rw [Dh];omega) ?_ | exact rfl | refine zt ?_ | refine zu ?_ ?_ | intro h | fail
  rw [k];exact zqra2
 | sub _ h=>
  have l:=D1 (xs:=ys) (i:=0) o_;have d:=D1 (xs:=ys) (i:=n-1) o_;have c:((n:Nat):Int)-1=((n-1:Nat):Int):=o_;have next:=M4 (n-1) ys.length o_ o_ (AZ ys n) (aU ys 0) n 0 (ys.set 0 (aU ys (n-1))) s_ o_ o_ rfl
  have e:rav (ys.set 0 (aU ys (n-1)))=(rav ys).set (0+0) (aU ys (n-1)).av:=by simp [rav,Gt]
  unfold ppO hpO at next
  rw [e] at next
  generalize aU ys 0=a at l next
  generalize aU ys (n-1)=b at d next
  refine cT (E:=(Er [] [105])) (fn:=Tryz.f229) (g:=.full 2 _ _) λ_=>?_
  repeat' first | (refine gN (hEr [] [105]) ?_;conv=>whnf) | refine ⟨0,rfl,?_⟩ | refine ⟨_,l,?_⟩ | refine Ap (n-1) (Ac c ?_) | refine ⟨_,d,?_⟩ | refine Ac (by rw [Dh];omega) ?_ | exact rfl | refine zt ?_ | refine zu ?_ ?_ | intro h | fail
  rw [c];exact zqra2
set_option maxRecDepth 10000
def nF:Nat->a6->a6
 | 0,_=>[]
 | n+1,ys=>aU ys 0::nF n (AZ ys (n+1))
def gO(l:a6):a6:=nF l.length (l.foldl rJ [])
def CU:∀ (l ys:a6),(l.foldl rJ ys).length=ys.length+l.length
 | [],ys=>rfl
 | x::r,ys=>by rw [Bc,CU r,GF];simp;omega
def HV.inv{ys:a6}{a:aa}{n:Nat}(h:HV ys a n):(a= .row 1 0/\n=ys.length)\/(a= .sub 1 0 0 n 14/\n<=ys.length):=by
 cases h with
 | row=>exact .inl ⟨rfl,rfl⟩
 | sub _ h=>exact .inr ⟨rfl,h⟩
noncomputable abbrev aHN:Func:=Tryz.f192
def RB(R:a6):∀ (n:Nat) (ys:a6) (b:aa) (out:a6),HV ys b n->ys.length<=1048577->out.length+n<=1048576->out++nF n ys=R->
  To (Eo [6] []) aHN (.pure (.ret (.slice 14 (rav R) .no))) (.head (stk aHN 1) [(3,.ref 0 0),(6,.slice 14 (rav out) (.own 2 0))] (hpO b 0 ys++[.tail 0 14 68])):=by
 intro n;induction n with
 | zero=>
  intro ys b out c d l a;have a:out++[]=R:=a;rw [Ar] at a;subst a;have f:(rav ys).length=ys.length:=by simp
  exact zqra3
 | succ n i=>
  intro ys b out c d l a;have f:(rav ys).length=ys.length:=by simp
  have hp:=aKl ys d b (n+1) c o_;have a:out++aU ys 0::nF n (AZ ys (n+1))=R:=a;have g:n<=(AZ ys (n+1)).length:=by rw [CW];rcases c.inv with ⟨_,h⟩ | ⟨_,h⟩<;>omega
  have next:=i (AZ ys (n+1)) (.sub 1 0 0 n 14) (out++[aU ys 0]) (.sub n g) (by rw [CW];exact d) q_ (by rw [Af];exact a)
  have e:rav (out++[aU ys 0])=rav out++[(aU ys 0).av]:=by simp
  rw [e] at next
  have j:(rav out).length=out.length:=by simp
  generalize aU ys 0=x at hp next
  have k:n+1-1=n:=o_;rw [k] at hp;generalize AZ ys (n+1)=ys' at hp next
  exact zqra3
def Q9(l:a6)(hs:Sm l)(R:a6):∀ (m i:Nat) (ys:a6),i+m=l.length->ys.length=i->nF l.length ((l.drop i).foldl rJ ys)=R->
  To (Eo [6] []) aHN (.pure (.ret (.slice 14 (rav R) .no))) (.head (stk aHN 0) [(3,.ref 0 0),(9,.slice 14 (rav l) .no),(10,.int .i64 ((rav l).length:Nat)),(11,ii i)] (hpO (.row 1 0) 0 ys)):=by
 have e:(rav l).length=l.length:=by simp
 have hl:=hs.1;intro m;induction m with
 | zero=>
  intro i ys j g a;rw [Ah o_] at a;have a:nF l.length ys=R:=a;have next:=RB R l.length ys (.row 1 0) [] (by rw [show l.length=ys.length from by omega];exact .row) o_ q_ a
  refine gV ?_;exact zW
 | succ m f=>
  intro i ys j g a;have b:i<l.length:=o_;have d:=hs.at b;rw [Ae b,Bc] at a;generalize h:l[i]=x at a d;have get:(rav l)[i]? =some x.av:=(dT b).trans (by rw [h]);have next:=f (i+1) (rJ ys x) o_ (by rw [GF];omega) a
  have hp:=aGp ys o_ x;generalize rJ ys x=ys' at hp next
  refine gV ?_;have c:=A9 x d;exact zW
def aB8(l:a6)(hs:Sm l):aq 192 [.slice 14 (rav l) .no] [] (.ret (.slice 14 (rav (gO l)) .no)) []:=by refine cT (E:=(Eo [6] [])) (fn:=Tryz.f192) (g:=.pure _) λ_=>gV ?_;refine To.beginRowH 0 0 68 rfl rfl ?_;have a:=Q9 l hs _ l.length 0 [] o_ rfl rfl;exact zW
def lW(p:Int->Bool):aw->Nat->Int
 | [],_=> -1
 | x::r,i=>if p x=true then (i:Int) else lW p r (i+1)
def HN(p:Int->Bool):∀ (l:aw) (i:Nat),decide (0<=lW p l i)=l.any p
 | [],i=>by simp [lW]
 | x::r,i=>by
  unfold lW;rw [Hh];cases h:p x with
  | true=>simp
  | false=>simp [HN p r (i+1)]
def inB(v:Int)(l:aw):Bool:=l.any λ x=>v==x
noncomputable abbrev aJi:Func:=Tryz.f164
def ZC(l:aw)(hl:l.length<=1048576)(v r:Int):∀ (m i:Nat),i+m=l.length->lW (λ x=>v==x) (l.drop i) i=r->
  To E aJi (.pure (.ret (ii r))) (.head (stk aJi 0) [(0,.slice 1 (iv l) .no),(1,ii v),(7,.int .i64 ((iv l).length:Nat)),(8,ii i)] []):=by
 have e:(iv l).length=l.length:=by simp
 intro m;induction m with
 | zero=>
  intro i f a;rw [Ah o_] at a;have a: -1=r:=a;subst a;refine gV ?_;exact zW
 | succ m c=>
  intro i f a;have b:i<l.length:=o_;rw [Ae b] at a;have get:=gR b;generalize l[i]=x at a get;unfold lW at a;have c:=c (i+1) o_;cases d:(v==x) with
  | true=>
   rw [if_pos d] at a;subst a;refine gV ?_;exact zW
  | false=>
   rw [if_neg (by rw [d];decide)] at a;have next:=c a
   refine gV ?_;exact zW
def aHp(l:aw)(hl:l.length<=1048576)(v:Int):aq 164 [.slice 1 (iv l) .no,ii v] [] (.ret (ii (lW (λ x=>v==x) l 0))) []:=by refine c_ Tryz.f164 λ_=>gV ?_;exact To.cut [0,1,7,8] 0 rfl rfl rfl rfl (ZC l hl v _ l.length 0 o_ rfl)
def xI(l:aw)(hl:l.length<=1048576)(v:Int):aq 109 [.slice 1 (iv l) .no,ii v] [] (.ret (.bool (inB v l))) []:=by have h:=aHp l hl v;have e:=HN (λ x=>v==x) l 0;unfold inB;rw [<-e];generalize lW (λ x=>v==x) l 0=q at h;exact c_ Tryz.f109 λ_=>zW
def aE(l:a6)(ids:aw):a6:=l.filter λ x=>!(inB x.g.id ids)
def mP{x:Rn}{r:a6}{ids:aw}(h:inB x.g.id ids=false):aE (x::r) ids=x::aE r ids:=Ft (by rw [h];rfl)
def mQ{x:Rn}{r:a6}{ids:aw}(h:inB x.g.id ids=true):aE (x::r) ids=aE r ids:=Fs (by rw [h];decide)
def oX{l:a6}(hs:Sm l)(ids:aw):Sm (aE l ids):=
 ⟨Cx (Fj _ _) hs.1,λ x a=>hs.2 x (Fc.1 a).1⟩
noncomputable abbrev fWo:Func:=Tryz.f70
def aEY(l:a6)(hs:Sm l)(ids:aw)(o:ids.length<=1048576)(R:a6):∀ (m i:Nat) (a:a6),i+m=l.length->a.length<=i->a++aE (l.drop i) ids=R->
  To (Eo [5] []) fWo (.pure (.ret (.slice 14 (rav R) .no))) (.head (stk fWo 0) [(1,.slice 1 (iv ids) .no),(5,.slice 14 (rav a) (.own 0 0)),(8,.slice 14 (rav l) .no),(9,.int .i64 ((rav l).length:Nat)),(10,ii i)] [.tail 0 14 68]):=by
 have n:(rav l).length=l.length:=by simp
 have hl:=hs.1;intro m;induction m with
 | zero=>
  intro i a s p b;rw [Ah o_] at b;have b:a++[]=R:=b;rw [Ar] at b;subst b;refine gV ?_;exact zW
 | succ m f=>
  intro i a s p b;have c:i<l.length:=o_;have k:=hs.at c;rw [Ae c] at b;generalize r:l[i]=x at b k;have get:(rav l)[i]? =some x.av:=(dT c).trans (by rw [r]);have q:(rav a).length=a.length:=by simp
  have j:=xI ids o x.g.id;cases d:inB x.g.id ids with
  | true=>
   rw [d] at j;rw [mQ d] at b;have next:=f (i+1) a o_ o_ b
   refine gV ?_;exact zW
  | false=>
   rw [d] at j;rw [mP d] at b;have next:=f (i+1) (a++[x]) o_ q_ (by rw [Af];exact b)
   have e:rav (a++[x])=rav a++[x.av]:=by simp
   rw [e] at next
   refine gV ?_;have h:=A9 x k;exact zW
def oY(l:a6)(hs:Sm l)(ids:aw)(b:ids.length<=1048576):aq 70 [.slice 14 (rav l) .no,.slice 1 (iv ids) .no] [] (.ret (.slice 14 (rav (aE l ids)) .no)) []:=by refine cT (E:=(Eo [5] [])) (fn:=Tryz.f70) (g:=.pure _) λ_=>?_;have a:=aEY l hs ids b _ l.length 0 [] o_ s_ rfl;exact zW
def GR{ns:bc}{t:Int}(h:bD ns t=true):0<=t/\t.toNat<ns.length:=by exact zqra0
def LF{c:Con}{t:Int}(h:0<=t/\t.toNat<c.ns.length):(nav c.ns)[t.toNat]? =some (cY c.ns t).av:=by unfold cY;rw [Aa h.2];exact kX h.2
def sG(c:Con)(a:a8)(t:Int)(need:V3):Bool:=if bD c.ns t=true then cS (fQ (atV a t) need) (cY c.ns t).n else false
def eF(c:Con)(a:a8)(t:Int):Bool:=if bD c.ns t=true then !cS (atV a t) (cY c.ns t).n else false
def P9(c:Con)(a:a8)(t:Int)(need:V3)(r:Bool)(b:sG c a t need=r):aq 190 [c.av,.slice 3 (vav a) .no,ii t,need.av] [] (.ret (.bool r)) []:=by
 have d:=jW c t;unfold sG at b;cases e:bD c.ns t with
 | false=>
  rw [e] at d;rw [if_neg (by rw [e];decide)] at b;subst b;exact c_ Tryz.f190 λ_=>zW
 | true=>
  rw [e] at d;rw [if_pos e] at b;have j:=GR e;have k:t=(t.toNat:Int):=o_;have h:=LF (c:=c) j;generalize cY c.ns t=x at h b;have h1:=EW a t;generalize atV a t=q1 at h1 b;have i:=iN q1 need;generalize fQ q1 need=q2 at i b;have h3:=lF q2 x.n;rw [b] at h3;exact c_ Tryz.f190 λ_=>zW
def XN(c:Con)(a:a8)(t:Int)(need:V3):aq 190 [c.av,.slice 3 (vav a) .no,ii t,need.av] [] (.ret (.bool (sG c a t need))) []:=P9 c a t need _ rfl
def PT(c:Con)(a:a8)(t:Int)(r:Bool)(b:eF c a t=r):aq 194 [c.av,.slice 3 (vav a) .no,ii t] [] (.ret (.bool r)) []:=by
 have d:=jW c t;unfold eF at b;cases e:bD c.ns t with
 | false=>
  rw [e] at d;rw [if_neg (by rw [e];decide)] at b;subst b;exact c_ Tryz.f194 λ_=>zW
 | true=>
  rw [e] at d;rw [if_pos e] at b;have i:=GR e;have j:t=(t.toNat:Int):=o_;have h:=LF (c:=c) i;generalize cY c.ns t=x at h b;have h1:=EW a t;generalize atV a t=q1 at h1 b;have h3:=vI q1 x.n;rw [b] at h3;exact c_ Tryz.f194 λ_=>zW
def TH(c:Con)(a:a8)(t:Int):aq 194 [c.av,.slice 3 (vav a) .no,ii t] [] (.ret (.bool (eF c a t))) []:=PT c a t _ rfl
def rW(c:Con)(l:a6)(g:Gan)(ids:aw):Bool:=(cM c (aE l ids) g).isSome
abbrev chO(c:Con)(l:a6)(g:Gan):au:=[.cells 30 c.cs,.cells 46 [.slice 14 (rav l) .no],.cells 34 g.cs]
def XF(c:Con)(h:c.sm)(l:a6)(hs:Sm l)(g:Gan)(i:0<=g.pods/\g.pods<=16)(ids:aw)(d:ids.length<=1048576)(r:Bool)(a:rW c l g ids=r):
  aq 191 [.slice 1 (iv ids) .no,.ref 0 0,.ref 1 0,.ref 2 0] (chO c l g) (.ret (.bool r)) (chO c l g):=by
 have e:=oY l hs ids d;have b:=xC c h (aE l ids) (oX hs ids) g i;unfold rW at a;generalize aE l ids=left at e b a;generalize cM c left g=Q at b a;subst a;unfold fdA at b;cases Q with
 | none=>
  exact zqra7
 | some x=>
  exact zqra7
abbrev aAg(c:Con)(used:a8):au:=[.cells 30 c.cs,.cells 245 [.slice 3 (vav used) .no]]
def aLK(c:Con)(a:a8)(x:Rn):aq 193 [x.av,.ref 0 0,.ref 1 0] (aAg c a) (.ret (.bool (eF c a x.g.ten))) (aAg c a):=by have b:=TH c a x.g.ten;generalize eF c a x.g.ten=r at b;refine cT (E:=E) (fn:=Tryz.f193) (g:=.full 2 _ _) λ_=>?_;exact zW
def aEq(x a:Int):aq 196 [ii x,.ref 0 0] [.cells 3 [ii a]] (.ret (.bool (x==a))) [.cells 3 [ii a]]:=by refine cT (E:=E) (fn:=Tryz.f196) (g:=.full 1 _ _) λ_=>?_;exact zW
def aS(p:Rn->Bool):a6->Nat->Int
 | [],_=> -1
 | x::r,i=>if p x=true then (i:Int) else aS p r (i+1)
noncomputable abbrev HO:Func:=Tryz.f121
abbrev aNA:aa:=.func (.func 193) [] [.ref 0 0,.ref 1 0]
def ZA(c:Con)(a:a8)(l:a6)(hl:l.length<=1048576)(r:Int):∀ (m i:Nat),i+m=l.length->aS (λ x=>eF c a x.g.ten) (l.drop i) i=r->
  To E HO (.full 2 (.ret (ii r)) (aAg c a)) (.head (stk HO 0) [(0,.slice 14 (rav l) .no),(1,aNA),(7,.int .i64 ((rav l).length:Nat)),(8,ii i)] (aAg c a)):=by
 have j:(rav l).length=l.length:=by simp
 intro m;induction m with
 | zero=>
  intro i k b;rw [Ah o_] at b;have b: -1=r:=b;subst b;refine gV ?_;exact zW
 | succ m f=>
  intro i k b;have d:i<l.length:=o_;rw [Ae d] at b;have get:(rav l)[i]? =some l[i].av:=dT d;generalize l[i]=x at b get;unfold aS at b;have h:=aLK c a x;have f:=f (i+1) o_;cases e:eF c a x.g.ten with
  | true=>
   rw [if_pos e] at b;rw [e] at h;subst b;refine gV ?_;exact zW
  | false=>
   rw [if_neg (by rw [e];decide)] at b;rw [e] at h;have next:=f b
   refine gV ?_;exact zW
def aHn(c:Con)(a:a8)(l:a6)(hl:l.length<=1048576):aq 121 [.slice 14 (rav l) .no,aNA] (aAg c a) (.ret (ii (aS (λ x=>eF c a x.g.ten) l 0))) (aAg c a):=by refine cT (E:=E) (fn:=Tryz.f121) (g:=.full 2 _ _) λ_=>gV ?_;exact To.cut [0,1,7,8] 2 rfl rfl rfl rfl (ZA c a l hl _ l.length 0 o_ rfl)
def H5(l:aw)(h:l.length<=1048576):aq 165 [.slice 1 (iv l) .no] [] (.ret (.row 0 0)) [.row 0 1 3 (iv l)]:=by
 have a:(iv l).length=l.length:=by simp
 refine cT (E:=(Er [2,5] [])) (fn:=Tryz.f165) (g:=.full 0 _ _) λ_=>gV ?_;intro b c;refine gV ?_;refine ⟨λ h=>?_,λ h=>?_⟩
 .refine gV ?_;refine ⟨[],[1],⟨rfl,rfl⟩,?_⟩;conv=>whnf
  rw [c (by simpa using h)];exact ⟨rfl,rfl⟩
 .refine gV ?_;refine ⟨⟨by simp only [maxLen];simp;omega,by simp;omega⟩,?_⟩;refine gV ?_;refine ⟨[],[1],⟨rfl,rfl⟩,?_⟩;exact ⟨rfl,rfl⟩
abbrev aEr:aa:=.func (.func 196) [] [.ref 1 0]
abbrev dlO(l:aw)(a:Int):au:=[.row 0 1 3 (iv l),.cells 3 [ii a]]
noncomputable abbrev aJj:Func:=Tryz.f230
def ZD(l:aw)(hl:l.length<=1048576)(a r:Int):∀ (m i:Nat),i+m=l.length->lW (λ x=>x==a) (l.drop i) i=r->
  To E aJj (.full 2 (.ret (ii r)) (dlO l a)) (.head (stk aJj 0) [(0,.row 0 0),(1,aEr),(7,.int .i64 ((iv l).length:Nat)),(8,ii i)] (dlO l a)):=by
 have g:(iv l).length=l.length:=by simp
 intro m;induction m with
 | zero=>
  intro i h b;rw [Ah o_] at b;have b: -1=r:=b;subst b;refine gV ?_;exact zW
 | succ m e=>
  intro i h b;have c:i<l.length:=o_;rw [Ae c] at b;have get:=gR c;generalize l[i]=x at b get;unfold lW at b;have f:=aEq x a;have e:=e (i+1) o_;cases d:(x==a) with
  | true=>
   rw [if_pos d] at b;rw [d] at f;subst b;refine gV ?_;exact zW
  | false=>
   rw [if_neg (by rw [d];decide)] at b;rw [d] at f;have next:=e b
   refine gV ?_;exact zW
def VX(l:aw)(hl:l.length<=1048576)(a:Int):aq 230 [.row 0 0,aEr] (dlO l a) (.ret (ii (lW (λ x=>x==a) l 0))) (dlO l a):=by refine cT (E:=E) (fn:=Tryz.f230) (g:=.full 2 _ _) λ_=>gV ?_;exact To.cut [0,1,7,8] 2 rfl rfl rfl rfl (ZD l hl a _ l.length 0 o_ rfl)
def fB(l:aw)(a:Int):aw:=l.filter λ x=>!(x==a)
def OO(p:Int->Bool):∀ (l:aw) (i:Nat),l.any p=false->lW p l i= -1
 | [],i,_=>rfl
 | x::r,i,h=>by rw [Hh,Kj] at h;unfold lW;rw [if_neg (by rw [h.1];decide)];exact OO p r (i+1) h.2
def HM(p:Int->Bool):∀ (l:aw) (i:Nat),l.any p=true->∃ k,k<l.length/\lW p l i=((i+k:Nat):Int)/\(∀ x∈l.take k,p x=false)/\∃ x,l[k]? =some x/\p x=true
 | [],i,h=>by simp at h
 | x::r,i,h=>by
  unfold lW;cases a:p x with
  | true=>exact ⟨0,by simp,by rw [if_pos rfl];simp,by simp,x,rfl,a⟩
  | false=>
   rw [Hh,a,Nf] at h;obtain ⟨k,h1,c,h3,y,d,b⟩:=HM p r (i+1) h;refine ⟨k+1,by simp;omega,?_,λ z hz=>?_,y,by simpa using d,b⟩
   .rw [if_neg d_,c];congr 1;omega
   .simp only [List.take_succ_cons,Aw] at hz;rcases hz with rfl | hz
    .exact a
    .exact h3 z hz
def aLB(l:aw)(hl:l.length<=1048576)(a:Int)(h:(l.any λ x=>x==a)=false):aq 195 [.row 0 0,aEr] (dlO l a) (.ret (.row 0 0)) (dlO l a):=by have b:=VX l hl a;rw [OO _ l 0 h] at b;exact zqra8
noncomputable abbrev aNf:Func:=Tryz.f195
abbrev aNm(z:ay)(a:Int):au:=[.row 0 1 3 z,.cells 3 [ii a]]
def aKO(l:aw)(i:Nat)(x:Int):(iv l).set i (ii x)=iv (l.set i x):=by simp [iv,Gt]
def aD5(l:aw)(hl:l.length<=1048576)(a:Int)(R:aw):∀ (m j i:Nat) (z:aw),j+m=l.length->i<j->z.length=l.length->z.drop j=l.drop j->z.take i++fB (l.drop j) a=R->
  To E aNf (.full 2 (.ret (.sub 0 0 0 R.length 1)) (aNm (iv R++Aj (l.length-R.length) (ii 0)) a)) (.head (stk aNf 0) [(0,.row 0 0),(1,aEr),(5,ii i),(6,ii j)] (dlO z a)):=by
 intro m;induction m with
 | zero=>
  intro j i z u y hz k b;have f:(iv z).length=z.length:=by simp
  rw [Ah o_] at b;have b:z.take i++[]=R:=b;rw [Ar] at b;have n:R.length=i:=by rw [<-b];simp;omega
  have e:(iv z).take i=iv R:=by rw [<-b];simp
  rw [n];refine gV ?_;refine aF λ h=>?_
  repeat' first | (refine gN hE ?_;conv=>whnf) | refine ⟨i,rfl,?_⟩ | exact rfl | refine zt ?_ | refine zu ?_ ?_ | intro h | fail
  refine Ac q_ (gV ?_);refine ⟨[],[0,1],⟨rfl,rfl⟩,?_⟩;conv=>whnf
  refine ⟨rfl,?_⟩;have w:Hj (i+((iv z).length-i)) (iv z)=[]:=Ah o_;have v:Hy i (iv z)++Aj ((iv z).length-i) (ii 0)++Hj (i+((iv z).length-i)) (iv z)=iv R++Aj (l.length-i) (ii 0):=by rw [e,w,Ar,f,hz]
  exact congrArg (λ l=>[ab.row 0 1 3 l,.cells 3 [ii a]]) v
 | succ m o=>
  intro j i z u y hz k b;have f:(iv z).length=z.length:=by simp
  have c:j<l.length:=o_;rw [Ae c] at b;have g:z[j]? =some l[j]:=by have:=congrArg (λ q=>q[0]?) k;simpa [Bq,Aa c] using this
  have get:(iv z)[j]? =some (ii l[j]):=by simp [g]
  have d:z.drop (j+1)=l.drop (j+1):=by have:=congrArg (Hj 1) k;rwa [Hl,Hl] at this
  generalize l[j]=x at b get g;have p:=aEq x a;unfold fB at b;rw [Hp] at b;cases r:(x==a) with
  | true=>
   rw [r] at p b;have next:=o (j+1) i z o_ o_ hz d b
   refine gV ?_;exact zW
  | false=>
   rw [r] at p b
   have next:=o (j+1) (i+1) (z.set i x) o_ o_ (by simp;exact hz) (by rw [List.drop_set_of_lt o_];exact d) (by
    have s:(z.set i x).take (i+1)=z.take i++[x]:=by rw [Lj,Au o_,List.take_set_of_le (Bd _)];rfl
    rw [s,Af]
    exact b)
   unfold dlO at next
   rw [<-aKO] at next
   refine gV ?_;exact zW
def aIp(l:aw)(hl:l.length<=1048576)(a:Int)(h:(l.any λ x=>x==a)=true):aq 195 [.row 0 0,aEr] (dlO l a) (.ret (.sub 0 0 0 (fB l a).length 1)) (aNm (iv (fB l a)++Aj (l.length-(fB l a).length) (ii 0)) a):=by
 have d:=VX l hl a;obtain ⟨k,h1,i,h3,x,b,c⟩:=HM (λ x=>x==a) l 0 h;rw [i] at d;rw [Bp] at d;have j:((k:Int)== -1)=false:=by simp
 have next:=aD5 l hl a (fB l a) (l.length-(k+1)) (k+1) k l o_ o_ rfl rfl (by
  conv=>rhs;rw [<-Bo k l]
  have o:x=a:=by simpa using c
  have e:l.drop k=x::l.drop (k+1):=by rw [Ae h1];rw [Aa h1] at b;cases b;rfl
  unfold fB;rw [List.filter_append,e,Hp,c];have n:(l.take k).filter (λ x=>!(x==a))=l.take k:=Gs.2 λ y m=>by rw [h3 y m];rfl
  rw [n]
  rfl)
 exact zqra8
def rU{xs:a6}{i:Nat}(h:i<xs.length):aU xs i∈xs:=by unfold aU;rw [Aa h];exact Bf h
def F5{xs:a6}{i k:Nat}(a:i<xs.length)(b:k<xs.length){y:Rn}(h:y∈pX xs i k):y∈xs:=by
 unfold pX at h;rcases Df h with h | rfl
 .rcases Df h with h | rfl
  .exact h
  .exact rU b
 .exact rU a
def TZ{y:Rn}:∀ (f:Nat) (xs:a6) (i:Nat),i<xs.length->y∈upH f xs i->y∈xs
 | 0,xs,i,_,h=>h
 | f+1,xs,i,hi,h=>by
  unfold upH at h;split at h
  .exact h
  .split at h
   .exact F5 hi o_ (TZ f _ _ (by rw [jK];omega) h)
   .exact h
def YP{xs:a6}{x y:Rn}(h:y∈rJ xs x):y∈xs\/y=x:=by have:=TZ _ _ _ s_ h;simpa using this
def CT{y:Rn}:∀ (l xs:a6),y∈l.foldl rJ xs->y∈xs\/y∈l
 | [],xs,h=>.inl h
 | x::r,xs,h=>by
  rcases CT r _ h with h | h
  .rcases YP h with h | rfl
   .exact .inl h
   .exact .inr s_
  .exact .inr (by simp [h])
def H0{y:Rn}:∀ (f:Nat) (xs:a6) (n i:Nat),n<=xs.length->i<xs.length->y∈xF f xs n i->y∈xs
 | 0,xs,n,i,_,_,h=>h
 | f+1,xs,n,i,hn,hi,h=>by
  unfold xF at h;split at h
  .rename_i a;have b:=W5 xs n i a;split at h
   .exact F5 hi o_ (H0 f _ n _ (by rw [jK];exact hn) (by rw [jK];omega) h)
   .exact h
  .exact h
def aBX{xs:a6}{n:Nat}(b:0<n)(a:n<=xs.length){y:Rn}(h:y∈AZ xs n):y∈xs:=by
 unfold AZ at h;have:=H0 n (xs.set 0 (aU xs (n-1))) (n-1) 0 q_ q_ h;rcases Df this with h | rfl
 .exact h
 .exact rU o_
def CX{y:Rn}:∀ (n:Nat) (xs:a6),n<=xs.length->y∈nF n xs->y∈xs
 | 0,xs,_,h=>by cases h
 | n+1,xs,hn,h=>by
  unfold nF at h;rcases Aw.1 h with rfl | h
  .exact rU o_
  .exact aBX o_ hn (CX n _ (by rw [CW];omega) h)
def GJ{l:a6}{y:Rn}(h:y∈gO l):y∈l:=by
 unfold gO at h;have:=CX _ _ (by rw [CU];simp) h;rcases CT l [] this with h | h
 .cases h
 .exact h
def CY:∀ (n:Nat) (xs:a6),(nF n xs).length=n
 | 0,xs=>rfl
 | n+1,xs=>by unfold nF;rw [Al,CY n]
def C2(l:a6):(gO l).length=l.length:=CY _ _
def aB7{l:a6}(h:Sm l):Sm (gO l):=⟨by rw [C2];exact h.1,λ x a=>h.2 x (GJ a)⟩
def D6(p:Rn->Bool):∀ (l:a6) (i:Nat),aS p l i= -1\/∃ k,k<l.length/\aS p l i=((i+k:Nat):Int)/\p (aU l k)=true
 | [],i=>.inl rfl
 | x::r,i=>by
  unfold aS;cases b:p x with
  | true=>exact .inr ⟨0,by simp,by rw [if_pos rfl];simp,b⟩
  | false=>
   rw [if_neg d_];rcases D6 p r (i+1) with h | ⟨k,h1,a,h3⟩
   .exact .inl h
   .refine .inr ⟨k+1,by simp;omega,by rw [a];congr 1;omega,?_⟩;unfold aU at h3⊢;simpa using h3
def atI(c:Con)(l:a6)(ids:aw):Int:=aS (λ x=>eF c (ofL c (aE l ids)) x.g.ten) (gO (aE l ids)) 0
def VB(c:Con)(l:a6)(ids:aw):Option Int:=if atI c l ids<0 then none else some (aU (gO (aE l ids)) (atI c l ids).toNat).g.id
def chA(c:Con)(l:a6)(g:Gan):Nat->aw->Option aw
 | 0,_=>none
 | f+1,ids=>if rW c l g ids=true then some ids else match VB c l ids with
  | none=>none
  | some n=>chA c l g f (ids++[n])
def chS(c:Con)(l:a6)(g:Gan)(ids:aw)(a:Int):aw:=if rW c l g (fB ids a)=true then fB ids a else ids
def gK(c:Con)(l:a6)(g:Gan):Option aw:=if sG c (ofL c l) g.ten (dem g)=true then (match chA c l g (l.length+1) [] with
 | none=>none
 | some ids=>some (ids.foldl (chS c l g) ids)) else none
def chR:Option aw->aa
 | some ids=>.tup [.slice 1 (iv ids) .no,.bool true]
 | none=>.tup [.slice 1 [] .no,.bool false]
def GN{c:Con}{l:a6}{ids:aw}{n:Int}(h:VB c l ids=some n):∃ x∈aE l ids,x.g.id=n/\eF c (ofL c (aE l ids)) x.g.ten=true:=by
 unfold VB at h;split at h
 .cases h
 .rename_i b;cases h;rcases D6 (λ x=>eF c (ofL c (aE l ids)) x.g.ten) (gO (aE l ids)) 0 with h1 | ⟨k,h1,a,h3⟩
  .exact absurd (show atI c l ids<0 from by unfold atI;rw [h1];decide) b
  .refine ⟨_,GJ (rU ?_),rfl,?_⟩
   .unfold atI;rw [a];simpa using h1
   .unfold atI;rw [a];simpa using h3
def IJ(l:a6)(ids:aw)(n:Int):aE l (ids++[n])=(aE l ids).filter λ x=>!(x.g.id==n):=by unfold aE;rw [List.filter_filter];refine Lm λ x _=>?_;unfold inB;rw [List.any_append];simp only [Hh,List.any_nil,Bool.or_false];cases (ids.any λ y=>x.g.id==y)<;>cases (x.g.id==n)<;>rfl
def IK{l:a6}{ids:aw}{n:Int}(h:∃ x∈aE l ids,x.g.id=n):(aE l (ids++[n])).length<(aE l ids).length:=by obtain ⟨x,a,b⟩:=h;rw [IJ];generalize aE l ids=q at a;refine Nat.lt_of_le_of_ne (Fj _ _) λ e=>?_;have:=List.length_filter_eq_length_iff.1 e x a;simp [b] at this
def Y2(l:aw)(a:Int):(fB l a).length<=l.length:=Fj _ _
abbrev aNB:aa:=.func (.func 191) [] [.ref 0 0,.ref 1 0,.ref 2 0]
noncomputable abbrev fCh:Func:=Tryz.f143
abbrev cbF(ids all:aw)(i:Int):ar:=[(8,aNB),(9,.slice 1 (iv ids) .no),(54,.slice 1 (iv all) .no),(55,.int .i64 ((iv all).length:Nat)),(56,ii i)]
def aLL(c:Con)(l:a6)(g:Gan)(a:Int)(z:ay):aj [4] (chO c l g++[.cells 3 [ii a],.row 0 1 3 z])=chO c l g++[.cells 3 [ii a],.frow 0 1 z]:=by kernel_rfl
def aIH(c:Con)(l:a6)(g:Gan)(a:Int)(z:ay)(n:Nat)(ids all:aw)(i:Int):wX [15] (aB (chO c l g++[.cells 3 [ii a],.frow 0 1 z])) ((15,.sub 4 0 0 n 1)::cbF ids all i)=(15,.slice 1 ((z.drop 0).take n) .no)::cbF ids all i:=by kernel_rfl
def aII(c:Con)(l:a6)(g:Gan)(a:Int)(z:ay)(ids all:aw)(i:Int):wX [15] (aB (chO c l g++[.cells 3 [ii a],.frow 0 1 z])) ((15,.row 4 0)::cbF ids all i)=(15,.slice 1 z .no)::cbF ids all i:=by kernel_rfl
def XG{G:Goal}{ks:bf}(c:Con)(l:a6)(g:Gan)(a:Int)(z:ay)(fr:ar){b:ar}(d:wX [15] (aB (chO c l g++[.cells 3 [ii a],.frow 0 1 z])) fr=b)
  (h:To (Eo [9] []) fCh G (.code ks b (chO c l g++[.cells 3 [ii a],.frow 0 1 z]))):To (Eo [9] []) fCh G (.code ks fr (chO c l g++[.cells 3 [ii a],.row 0 1 3 z])):=by
 refine To.frz [15] [4] ?_;rw [aLL,d];exact h
def aEm(c:Con)(q:c.sm)(l:a6)(hs:Sm l)(g:Gan)(r:0<=g.pods/\g.pods<=16)(all:aw)(v:all.length<=1048576)(R:aw):∀ (m i:Nat) (ids:aw),i+m=all.length->ids.length<=1048576->(all.drop i).foldl (chS c l g) ids=R->
  To (Eo [9] []) fCh (.pure (.ret (.tup [.slice 1 (iv R) .no,.bool true]))) (.head (stk fCh 1) (cbF ids all i) (chO c l g)):=by
 have p:(iv all).length=all.length:=by simp
 intro m;induction m with
 | zero=>
  intro i ids u f b;rw [Ah o_] at b;have b:ids=R:=b;subst b;refine gV ?_;exact zW
 | succ m k=>
  intro i ids u f b;have n:i<all.length:=o_;rw [Ae n,Bc] at b;have get:=gR n;generalize all[i]=a at b get;have k:=k (i+1);have t:=Y2 ids a;have h1:=XF c q l hs g r (fB ids a) o_ _ rfl;have o:chS c l g ids a=if rW c l g (fB ids a)=true then fB ids a else ids:=rfl
  rw [o] at b;cases hp:(ids.any λ x=>x==a) with
  | true=>
   have e:=aIp ids f a hp;generalize hz:iv (fB ids a)++Aj (ids.length-(fB ids a).length) (ii 0)=z at e;have j:(z.drop 0).take (fB ids a).length=iv (fB ids a):=by rw [<-hz,Cq,Db s_,Ch s_]
   refine gV ?_;refine aT λ h=>?_
   repeat' first | (refine gN (hEo [9] []) ?_;conv=>whnf) | refine ⟨i,rfl,?_⟩ | refine ⟨_,get,?_⟩ | refine .pure _ [_] (H5 ids f) ?_ | exact rfl | refine zt ?_ | refine zu ?_ ?_ | intro h | fail
   refine .eff [] [4,3] _ _ rfl e ?_;refine cP (hEo [9] []) 5 ?_;conv=>whnf
   refine To.cutC [15,8,9,54,55,56] 5 rfl rfl rfl rfl ?_;refine XG c l g a _ _ (aIH c l g a z _ ids all i) ?_;rw [j];cases d:rW c l g (fB ids a) with
   | true=>
    exact zqra9
   | false=>
    exact zqra5
  | false=>
   have e:=aLB ids f a hp;have j:iv ids=iv (fB ids a):=by
    have:fB ids a=ids:=Gs.2 λ y s=>by have:=(List.any_eq_false.1 hp) y s;simpa using this
    rw [this]
   refine gV ?_;refine aT λ h=>?_
   repeat' first | (refine gN (hEo [9] []) ?_;conv=>whnf) | refine ⟨i,rfl,?_⟩ | refine ⟨_,get,?_⟩ | refine .pure _ [_] (H5 ids f) ?_ | exact rfl | refine zt ?_ | refine zu ?_ ?_ | intro h | fail
   refine .eff [] [4,3] _ _ rfl e ?_;refine cP (hEo [9] []) 5 ?_;conv=>whnf
   refine To.cutC [15,8,9,54,55,56] 5 rfl rfl rfl rfl ?_;refine XG c l g a _ _ (aII c l g a (iv ids) ids all i) ?_;rw [j];cases d:rW c l g (fB ids a) with
   | true=>
    exact zqra9
   | false=>
    exact zqra5
def chB(c:Con)(l:a6)(g:Gan):Option aw->Option aw
 | none=>none
 | some ids=>some (ids.foldl (chS c l g) ids)
abbrev caF(ids:aw):ar:=[(3,.ref 0 0),(4,.ref 1 0),(5,.ref 2 0),(8,aNB),(9,.slice 1 (iv ids) (.own 3 0))]
def aEn(c:Con)(D:c.sm)(l:a6)(hs:Sm l)(g:Gan)(G:0<=g.pods/\g.pods<=16)(R:Option aw):∀ (f:Nat) (ids:aw),(aE l ids).length<f->ids.length+(aE l ids).length<=l.length->chB c l g (chA c l g f ids)=R->
  To (Eo [9] []) fCh (.pure (.ret (chR R))) (.head (stk fCh 0) (caF ids) (chO c l g++[.tail 0 1 3])):=by
 have hl:=hs.1;intro f;induction f with
 | zero=>intro ids h;omega
 | succ f J=>
  intro ids M K m;have L:(iv ids).length=ids.length:=by simp
  have h1:=XF c D l hs g G ids o_ _ rfl;have v:=oY l hs ids o_;have hsl:=oX hs ids;have i:=NE c D (aE l ids) hsl.1;have j:=aB8 (aE l ids) hsl;have a:=aHn c (ofL c (aE l ids)) (gO (aE l ids)) (aB7 hsl).1;have B:aS (λ x=>eF c (ofL c (aE l ids)) x.g.ten) (gO (aE l ids)) 0=atI c l ids:=rfl;rw [B] at a;unfold chA at m;cases u:rW c l g ids with
  | true=>
   rw [if_pos u] at m;rw [u] at h1;have m:some (ids.foldl (chS c l g) ids)=R:=m;subst m;have I:=yT ids o_;have next:=aEm c D l hs g G ids o_ _ ids.length 0 ids o_ o_ rfl
   refine gV ?_;exact zW
  | false=>
   rw [if_neg (by rw [u];decide)] at m;rw [u] at h1;have b:VB c l ids=if atI c l ids<0 then none else some (aU (gO (aE l ids)) (atI c l ids).toNat).g.id:=rfl
   have r:=λ n=>GN (c:=c) (l:=l) (ids:=ids) (n:=n);by_cases d:atI c l ids<0
   .rw [if_pos d] at b;rw [b] at m;have m:none=R:=m;subst m;generalize atI c l ids=q at a d;generalize ofL c (aE l ids)=us at i a;generalize gO (aE l ids)=o at j a;generalize aE l ids=left at v i j;refine gV ?_
    repeat' first | (refine gN (hEo [9] []) ?_;conv=>whnf) | refine .eff [] [0,1,2] _ _ rfl h1 ?_ | refine .pure _ [] v ?_ | refine .pure _ [] i ?_ | refine .pure _ [] j ?_ | refine .eff [] [0,4] _ _ rfl a ?_ | exact rfl | refine zt ?_ | refine zu ?_ ?_ | intro h | fail
   .rw [if_neg d] at b;obtain ⟨k,p,A⟩:∃ k:Nat,k<(gO (aE l ids)).length/\atI c l ids=(k:Int):=by
     rcases D6 (λ x=>eF c (ofL c (aE l ids)) x.g.ten) (gO (aE l ids)) 0 with h | ⟨k,h1,H,_⟩
     .exact absurd (show atI c l ids<0 from by unfold atI;rw [h];decide) d
     .exact ⟨k,h1,by unfold atI;rw [H];simp⟩
    rw [A] at b a;rw [Bv] at b;have get:=iB p;have F:=r _ b;obtain ⟨y,z,C,_⟩:=F;have w:=IK ⟨y,z,C⟩;rw [b] at m;generalize aU (gO (aE l ids)) k=x at get m w;have next:=J (ids++[x.g.id]) o_ q_ m
    have e:iv (ids++[x.g.id])=iv ids++[ii x.g.id]:=by simp
    unfold caF at next
    rw [e] at next
    have s:=C2 (aE l ids);generalize ofL c (aE l ids)=us at i a;generalize gO (aE l ids)=o at j a get p s;generalize aE l ids=left at v i j K s;refine gV ?_
    repeat' first | (refine gN (hEo [9] []) ?_;conv=>whnf) | refine .eff [] [0,1,2] _ _ rfl h1 ?_ | refine .pure _ [] v ?_ | refine .pure _ [] i ?_ | refine .pure _ [] j ?_ | refine .eff [] [0,4] _ _ rfl a ?_ | refine ⟨k,rfl,?_⟩ | refine ⟨_,get,?_⟩ | refine ⟨⟨by simp only [maxLen];simp;omega,by simp;omega⟩,?_⟩ | exact rfl | refine zt ?_ | refine zu ?_ ?_ | intro h | fail
    exact zW
def fS(l:a6):aE l []=l:=Gs.2 λ x _=>rfl
def S9(c:Con)(e:c.sm)(l:a6)(hs:Sm l)(g:Gan)(i:0<=g.pods/\g.pods<=16)(R:Option aw)(a:gK c l g=R):aq 143 [c.av,.slice 14 (rav l) .no,g.av] [] (.ret (chR R)) []:=by
 have h:=NE c e l hs.1;have j:=ST g;have d:=XN c (ofL c l) g.ten (dem g);unfold gK at a;cases b:sG c (ofL c l) g.ten (dem g) with
 | false=>
  rw [if_neg (by rw [b];decide)] at a;rw [b] at d;subst a;exact zqra6
 | true=>
  rw [if_pos b] at a;rw [b] at d;have next:=aEn c e l hs g i R (l.length+1) [] (by rw [fS];omega) (by rw [fS];simp) (by rw [<-a];unfold chB;split<;>rfl)
  exact zqra6
def aAc(c:Con)(a:c.sm)(l:a6)(hs:Sm l)(g:Gan)(b:0<=g.pods/\g.pods<=16):aq 143 [c.av,.slice 14 (rav l) .no,g.av] [] (.ret (chR (gK c l g))) []:=S9 c a l hs g b _ rfl
def V3.le(a b:V3):Prop:=a.a<=b.a/\a.b<=b.b/\a.c<=b.c
def V3.farB(a:V3):Prop:=(0<=a.a/\a.a<=1099511627776)/\(0<=a.b/\a.b<=1099511627776)/\(0<=a.c/\a.c<=1099511627776)
def tE{a b d:Int}(h:a<=b):jH a d<=jH b d:=by unfold jH hC;omega
def BU{a d:Int}(c:0<=a)(h1:a<=1099511627776)(b:0<=d):a<=jH a d:=by unfold jH hC;omega
def K7{a d:Int}(c:0<=a)(b:0<=d):0<=jH a d/\jH a d<=1099511627776:=by unfold jH hC;omega
def XR{a b:V3}(d:V3)(h:a.le b):(fQ a d).le (fQ b d):=⟨tE h.1,tE h.2.1,tE h.2.2⟩
def V3.pos(d:V3):Prop:=0<=d.a/\0<=d.b/\0<=d.c
def aE1{a d:V3}(h:a.farB)(b:d.pos):a.le (fQ a d):=⟨BU h.1.1 h.1.2 b.1,BU h.2.1.1 h.2.1.2 b.2.1,BU h.2.2.1 h.2.2.2 b.2.2⟩
def aAz{a d:V3}(h:a.farB)(b:d.pos):(fQ a d).farB:=⟨K7 h.1.1 b.1,K7 h.2.1.1 b.2.1,K7 h.2.2.1 b.2.2⟩
def V3.le.trans{a b c:V3}(h:a.le b)(k:b.le c):a.le c:=⟨Fl h.1 k.1,Fl h.2.1 k.2.1,Fl h.2.2 k.2.2⟩
def vJ{a b:V3}:cS a b=true↔a.le b:=by
 obtain ⟨e,f,d⟩:=a;obtain ⟨i,g,h⟩:=b;unfold cS V3.le;by_cases h1:i<e
 .first | (simp [h1];done) | (simp [h1];omega)
 by_cases c:g<f
 .first | (simp [h1,c];done) | (simp [h1,c];omega)
 by_cases h3:h<d
 .first | (simp [h1,c,h3];done) | (simp [h1,c,h3];omega)
 first | (simp [h1,c,h3];done) | (simp [h1,c,h3];omega)
def oZ(c:Con)(j:Nat)(v:V3)(x:Rn):V3:=if bD c.ns x.g.ten=true/\(j:Int)∈upL c.ns x.g.ten then fQ v (dem x.g) else v
def ID(v:V3)(j:Nat):∀ (ks:aw) (xs:a8),ks.Nodup->(∀ k∈ks,0<=k)->(ks.foldl (FU v) xs)[j]? =if (j:Int)∈ks then (xs[j]?).map λ x=>fQ x v else xs[j]?
 | [],xs,_,_=>by simp
 | k::r,xs,b,h0=>by
  have b:=Cg.1 b;have d:=h0 k s_;rw [Bc,ID v j r _ b.2 λ x c=>h0 x (by simp [c]),oT];by_cases h1:(j:Int)=k
  .have a:(j:Int)∉r:=by rw [h1];exact b.1
   rw [if_neg a,if_pos o_,if_pos (by simp [h1])]
  .have e:(j:Int)∈k::r↔(j:Int)∈r:=by simp [h1]
   by_cases a:(j:Int)∈r
   .rw [if_pos a,if_neg o_,if_pos (e.2 a)]
   .rw [if_neg a,if_neg o_,if_neg (λ h=>a (e.1 h))]
def aBw(c:Con)(xs:a8)(x:Rn)(j:Nat):(QU c xs x)[j]? =(xs[j]?).map λ v=>oZ c j v x:=by
 unfold QU oZ;cases d:bD c.ns x.g.ten with
 | false=>rw [if_neg d_];simp
 | true=>
  rw [if_pos rfl];have a:(fI c.ns x.g.ten).Nodup:=by unfold fI;exact List.pairwise_reverse.2 ((QE c.ns _ _).imp λ h=>by omega)
  have hm:(j:Int)∈fI c.ns x.g.ten↔(j:Int)∈upL c.ns x.g.ten:=Ir;rw [ID _ _ _ _ a λ k b=>(QF _ _ _ _ (Ir.1 b)).1];by_cases h:(j:Int)∈upL c.ns x.g.ten
  .rw [if_pos (hm.2 h)];simp [h]
  .rw [if_neg (λ q=>h (hm.1 q))];simp [h]
def aCe(c:Con)(j:Nat):∀ (l:a6) (xs:a8),(l.foldl (QU c) xs)[j]? =(xs[j]?).map λ v=>l.foldl (oZ c j) v
 | [],xs=>by simp
 | x::r,xs=>by rw [Bc,aCe c j r,aBw,Option.map_map];rfl
def zX{c:Con}{t:Int}(h:0<=t/\t.toNat<c.ns.length)(l:a6):atV (ofL c l) t=l.foldl (oZ c t.toNat) V3.zero:=by unfold atV;rw [if_neg (by rw [decide_eq_false o_];decide),<-aMD];unfold aJ7;rw [aCe,Em,if_pos h.2];rfl
def vN{c:Con}{j:Nat}(p:Rn->Bool):∀ (l:a6) (a b:V3),(∀ x∈l,(dem x.g).pos)->a.le b->b.farB->((l.filter p).foldl (oZ c j) a).le (l.foldl (oZ c j) b)/\(l.foldl (oZ c j) b).farB
 | [],a,b,_,h,hf=>⟨h,hf⟩
 | x::r,a,b,hd,h,hf=>by
  have f:=hd x s_;have e:(oZ c j b x).farB:=by unfold oZ;split;exact aAz hf f;exact hf
  rw [Bc,Hp];cases p x with
  | true=>
   rw [if_pos rfl,Bc];refine vN p r _ _ (λ y d=>hd y (by simp [d])) ?_ e;unfold oZ;split
   .exact XR _ h
   .exact h
  | false=>
   rw [if_neg d_];refine vN p r _ _ (λ y d=>hd y (by simp [d])) ?_ e;unfold oZ;split
   .exact h.trans (aE1 hf f)
   .exact h
def LB:V3.zero.farB:=by unfold V3.farB V3.zero;decide
def DK(a:V3):a.le a:=⟨De _,De _,De _⟩
def aIo{g:Gan}(a:bL g.need=true)(k:0<=g.pods/\g.pods<=16):(dem g).pos:=by
 unfold bL at a;simp only [Ad,decide_eq_true_eq] at a;obtain ⟨⟨⟨c,h⟩,e,i⟩,d,f⟩:=a;have key:∀ x,0<=x->0<=aCr x g.pods:=λ x j=>by have b:0<=hC x 1099511627776*hC g.pods 1048576:=Lb (by unfold hC;omega) (by unfold hC;omega);unfold aCr;generalize hC x 1099511627776*hC g.pods 1048576=q at b;unfold hC;omega
 exact ⟨key _ c,key _ e,key _ d⟩
def Was(c:Con)(l:a6)(n:Int):Prop:=∃ (ids:aw) (x:Rn),x∈l/\x.g.id=n/\eF c (ofL c (aE l ids)) x.g.ten=true
def BK{v:Int}{l:aw}:inB v l=true↔v∈l:=by unfold inB;simp
def kC{l:a6}{ids:aw}{x:Rn}:x∈aE l ids↔x∈l/\x.g.id∉ids:=by unfold aE;rw [Fc];refine and_congr Np ?_;rw [<-BK];cases inB x.g.id ids<;>simp
def PI{c:Con}{l:a6}{g:Gan}{R:aw}:∀ (f:Nat) (ids:aw),ids.Nodup->(∀ n∈ids,Was c l n)->chA c l g f ids=some R->R.Nodup/\(∀ n∈R,Was c l n)/\rW c l g R=true
 | 0,ids,_,_,h=>by cases h
 | f+1,ids,hn,hw,h=>by
  unfold chA at h;split at h
  .rename_i m;cases h;exact ⟨hn,hw,m⟩
  .split at h
   .cases h
   .rename_i n k;obtain ⟨x,h1,i,h3⟩:=GN k;have hm:=kC.1 h1;refine PI f _ ?_ ?_ h
    .rw [Bt];refine ⟨hn,by simp,λ a d b j e=>?_⟩;simp at j;subst j e;rw [i] at hm;exact hm.2 d
    .intro a d;rcases Ba.1 d with d | d
     .exact hw a d
     .simp at d;subst d;exact ⟨ids,x,hm.1,i,h3⟩
def aIE{c:Con}{l:a6}{g:Gan}(ids:aw)(a:Int)(h:rW c l g ids=true):rW c l g (chS c l g ids a)=true/\(chS c l g ids a).Sublist ids:=by
 have e:chS c l g ids a=if rW c l g (fB ids a)=true then fB ids a else ids:=rfl
 rw [e];cases b:rW c l g (fB ids a) with
 | true=>rw [if_pos rfl];exact ⟨b,Iv⟩
 | false=>rw [if_neg d_];exact ⟨h,Jn _⟩
def aEp{c:Con}{l:a6}{g:Gan}(bs:aw):∀ (ids:aw),rW c l g ids=true->rW c l g (bs.foldl (chS c l g) ids)=true/\(bs.foldl (chS c l g) ids).Sublist ids:=by
 induction bs with
 | nil=>intro ids h;exact ⟨h,Jn _⟩
 | cons a r d=>
  intro ids h;have h1:=aIE ids a h;rw [Bc];generalize chS c l g ids a=q at h1;obtain ⟨b,h3⟩:=d q h1.1;exact ⟨b,h3.trans h1.2⟩
def AI{c:Con}{l:a6}{g:Gan}{R:aw}(h:gK c l g=some R):sG c (ofL c l) g.ten (dem g)=true/\R.Nodup/\(∀ n∈R,Was c l n)/\rW c l g R=true:=by
 unfold gK at h;split at h
 .rename_i e;split at h
  .cases h
  .rename_i ids f;cases h;obtain ⟨h1,b,h3⟩:=PI _ [] s_ s_ f;obtain ⟨i,a⟩:=aEp ids ids h3;exact ⟨e,a.nodup h1,λ n d=>b n (a.subset d),i⟩
 .cases h
def IE(l:a6):Prop:=l.Pairwise λ a b=>a.g.id≠b.g.id/\a.seq≠b.seq
def zJ{a:Int}:∀ {q:a6},q.Pairwise (λ x y=>x.g.id≠y.g.id)->(∃ x∈q,x.g.id=a)->(q.filter λ y=>!(y.g.id==a)).length+1=q.length
 | [],_,h=>by obtain ⟨x,b,_⟩:=h;cases b
 | y::r,hp,h=>by
  have hp:=Cb.1 hp;rw [Hp];by_cases c:y.g.id=a
  .have e:(r.filter λ y=>!(y.g.id==a))=r:=Gs.2 λ z hz=>by
    have:=hp.1 z hz;rw [c] at this;have:(z.g.id==a)=false:=by simpa using λ e=>this e.symm
    rw [this];rfl
   rw [if_neg (by simp [c]),e];simp
  .obtain ⟨x,b,d⟩:=h;have b:x∈r:=by
    rcases Aw.1 b with rfl | b
    .exact absurd d c
    .exact b
   have:=zJ hp.2 ⟨x,b,d⟩;rw [if_pos (by simp [c])];simp only [Al];omega
def IL(l:a6)(a:Int)(r:aw):aE l (a::r)=(aE l r).filter λ x=>!(x.g.id==a):=by unfold aE;rw [List.filter_filter];refine Lm λ x _=>?_;unfold inB;rw [Hh];cases (r.any λ y=>x.g.id==y)<;>cases (x.g.id==a)<;>rfl
def zG{l:a6}(d:IE l):∀ {ids:aw},ids.Nodup->(∀ n∈ids,∃ x∈l,x.g.id=n)->(aE l ids).length+ids.length=l.length
 | [],_,_=>by rw [fS];simp
 | a::r,b,hm=>by have b:=Cg.1 b;have f:=zG d b.2 λ n h=>hm n (by simp [h]);obtain ⟨x,e,c⟩:=hm a s_;have hp:(aE l r).Pairwise λ x y=>x.g.id≠y.g.id:=(d.sublist Iv).imp λ h=>h.1;have:=zJ (a:=a) hp ⟨x,kC.2 ⟨e,by rw [c];exact b.1⟩,c⟩;rw [IL];simp only [Al];omega
def aGz{l:a6}(e:IE l){x y:Rn}(d:x∈l)(c:y∈l)(h:x.g.id=y.g.id):x=y:=by
 obtain ⟨i,a,rfl⟩:=Iu d;obtain ⟨j,b,rfl⟩:=Iu c;have hp:=Ga.1 e;rcases Nat.lt_trichotomy i j with h1 | rfl | h1
 .exact absurd h (hp i j a b h1).1
 .rfl
 .exact absurd h.symm (hp j i b a h1).1
def LeR(a b:Rn):Prop:=gQ b a=false
def aG3{a b:Rn}:LeR a b↔b.st<a.st\/(b.st=a.st/\b.seq<=a.seq):=by
 unfold LeR;have h:=RM (a:=b) (b:=a);cases c:gQ b a with
 | true=>
  have:=h.1 c;constructor
  .intro h;cases h
  .intro d;omega
 | false=>
  have:¬ (a.st<b.st\/(a.st=b.st/\a.seq<b.seq)):=λ q=>by rw [h.2 q] at c;cases c
  constructor
  .intro _;omega
  .intro _;rfl
def LeR.trans{a b c:Rn}(h:LeR a b)(k:LeR b c):LeR a c:=by rw [aG3] at *;omega
def aIF{c:Con}{l:a6}{g:Gan}{R:aw}(f:IE l)(h:gK c l g=some R):R.length<=l.length:=by
 obtain ⟨_,e,d,_⟩:=AI h;have:=zG f e λ n b=>by obtain ⟨_,x,h1,a,_⟩:=d n b;exact ⟨x,h1,a⟩
 omega
abbrev dE:Int:=1099511627776
def sC{v e:Int}(b:0<=v)(h1:v<=dE)(a:0<=e):jH v e=min (v+e) dE:=by unfold jH hC dE at *;omega
def cI:aw->Int
 | []=>0
 | x::r=>x+cI r
def lH:∀ {es:aw},(∀ e∈es,0<=e)->0<=cI es
 | [],_=>De _
 | x::r,h=>by have:=lH (es:=r) λ e a=>h e (by simp [a]);have:=h x s_;unfold cI;omega
def vZ:∀ {es:aw} {v:Int},0<=v->v<=dE->(∀ e∈es,0<=e)->es.foldl jH v=min (v+cI es) dE
 | [],v,h0,h1,_=>by
  unfold cI;show v=_;omega
 | x::r,v,h0,h1,h=>by have b:=h x s_;have c:=lH (es:=r) λ e a=>h e (by simp [a]);rw [Bc,sC h0 h1 b,vZ (by unfold dE at *;omega) o_ λ e a=>h e (by simp [a])];have e:cI (x::r)=x+cI r:=rfl;rw [e];omega
structure Prj(p:V3->Int):Prop where
 add:∀ u v,p (fQ u v)=jH (p u) (p v)
 sub:∀ u v,p (E9 u v)=X3 (p u) (p v)
 pos:∀ u,p (aKk u)=max (p u) 0
 zero:p V3.zero=0
def aGs:Prj V3.a:=⟨λ_ _=>rfl,λ_ _=>rfl,λ_=>rfl,rfl⟩
def aGr:Prj V3.b:=⟨λ_ _=>rfl,λ_ _=>rfl,λ_=>rfl,rfl⟩
def aGq:Prj V3.c:=⟨λ_ _=>rfl,λ_ _=>rfl,λ_=>rfl,rfl⟩
section
variable {p:V3->Int} (hp:Prj p)
include hp
def IU(us:a8):∀ (B:aw) (v:V3),p (B.foldl (smS us) v)=(B.map λ t=>p (atV us t)).foldl jH (p v)
 | [],v=>rfl
 | t::r,v=>by rw [Bc,IU us r,Bl,Bc];congr 1;exact hp.add _ _
def kE(ns:bc)(p:V3->Int)(us:a8)(t s:Int):Int:=if s=t then 0 else max (X3 (p (E9 (cY ns s).n (cY ns s).l)) (p (atV us s))) 0
def VJ(ns:bc)(us:a8)(t:Int):∀ (B:aw) (v:V3),0<=p v->p v<=dE->p (B.foldl (GZ ns us t) v)=(B.map (kE ns p us t)).foldl jH (p v)
 | [],v,_,_=>rfl
 | s::r,v,h0,h1=>by
  rw [Bc,Bl,Bc];have e:p (GZ ns us t v s)=jH (p v) (kE ns p us t s):=by
   unfold GZ kE;by_cases h:s=t
   .rw [if_pos (decide_eq_true h),if_pos h,sC h0 h1 (De _)];omega
   .rw [if_neg (by rw [decide_eq_false h];decide),if_neg h,hp.add,hp.pos,hp.sub]
  have b:0<=kE ns p us t s:=by unfold kE;split<;>omega
  have a:0<=jH (p v) (kE ns p us t s)/\jH (p v) (kE ns p us t s)<=dE:=by
   rw [sC h0 h1 b];unfold dE at *
   omega
  rw [VJ ns us t r _ (by rw [e];exact a.1) (by rw [e];exact a.2),e]
end
def aGC(c:Con)(l:a6):(ofL c l).length=c.ns.length:=by unfold ofL mN;simp
def aGA{c:Con}{l:a6}(e:∀ x∈l,(dem x.g).pos)(q:Rn->Bool)(s:Int):(0<=(atV (ofL c (l.filter q)) s).a/\0<=(atV (ofL c (l.filter q)) s).b/\0<=(atV (ofL c (l.filter q)) s).c)/\(atV (ofL c (l.filter q)) s).le (atV (ofL c l) s)/\((atV (ofL c l) s).a<=dE/\(atV (ofL c l) s).b<=dE/\(atV (ofL c l) s).c<=dE):=by
 by_cases hs:0<=s/\s.toNat<c.ns.length
 .rw [zX hs,zX hs];obtain ⟨h1,d⟩:=vN (c:=c) (j:=s.toNat) q l V3.zero V3.zero e (DK _) LB;have h3:=(vN (c:=c) (j:=s.toNat) (λ_=>true) (l.filter q) V3.zero V3.zero (λ x h=>e x (Fc.1 h).1) (DK _) LB).2;exact ⟨⟨h3.1.1,h3.2.1.1,h3.2.2.1⟩,h1,d.1.2,d.2.1.2,d.2.2.2⟩
 .have z:∀ l,atV (ofL c l) s=V3.zero:=λ l=>by
   unfold atV;by_cases f:s<0
   .rw [if_pos (decide_eq_true f)]
   .rw [if_neg (by rw [decide_eq_false f];decide),Bi (by rw [aGC];omega)];rfl
  rw [z,z];exact ⟨by decide,DK _,by decide⟩
def ZH(need:V3)(xs:a8)(h:Int)(j:Nat):((tQ need xs h)[j]?).getD V3.zero=if 0<=h/\h.toNat<xs.length/\h.toNat=j then E9 ((xs[j]?).getD V3.zero) need else (xs[j]?).getD V3.zero:=by
 unfold tQ;by_cases h1:0<=h
 .rw [if_pos (decide_eq_true h1)];by_cases a:h<(xs.length:Int)
  .rw [if_pos (decide_eq_true a),Hf];by_cases h3:h.toNat=j
   .rw [if_pos h3,if_pos o_,if_pos ⟨h1,by omega,h3⟩,h3];rfl
   .rw [if_neg h3,if_neg (λ q=>h3 q.2.2)]
  .rw [if_neg (by rw [decide_eq_false a];decide),if_neg (λ q=>by omega)]
 .rw [if_neg (by rw [decide_eq_false h1];decide),if_neg (λ q=>h1 q.1)]
def wiS(h:Int)(b:Bool)(y:Int):Bool:=if b=true then true else decide (y=h)
def vG(G hs:aw):Bool:=hs.all λ h=>G.foldl (wiS h) false
def aLF(h n y:Int):Int:=if y=h then n+1 else n
def A5(h:Int)(l:aw):Int:=l.foldl (aLF h) 0
def aDo(free:a8)(need:V3)(hs:aw)(h:Int):Bool:=if decide (h<0)=true then false else if decide ((free.length:Int)<=h)=true then false else !decide (eP ((free[h.toNat]?).getD V3.zero) need<A5 h hs)
def D4(free:a8)(need:V3)(hs:aw):Bool:=hs.all (aDo free need hs)
def chkG(free:a8)(need:V3)(hs:aw)(G:aw):Bool:=vG G hs&&D4 free need hs
def qO(c:Con)(free:a8)(g:Gan)(hs:aw):Bool:=if ((hs.length:Int)=g.pods) then (gpL c g.lev).any (chkG free g.need hs) else false
def K6{c:Con}{lv a b:Int}(d:0<=lv)(h3:lv<=3):alB c lv a b=true↔qJ c lv a=qJ c lv b:=by rw [K5 c lv a b d h3];simp
def aBy{c:Con}{lv a b:Int}(d:0<=lv)(h3:lv<=3)(h:qJ c lv a=qJ c lv b):∀ (s:List aw) (n:Nat),dF c lv a s n=dF c lv b s n
 | [],n=>rfl
 | g::r,n=>by unfold dF;rw [aBy d h3 h r (n+1),K5 c lv _ a d h3,K5 c lv _ b d h3,h]
def aBx(c:Con)(lv i x:Int):∀ (s:List aw) (k n:Nat),(∀ g∈s,g≠[])->dF c lv i (s.set k ((s[k]?).getD []++[x])) n=dF c lv i s n
 | [],k,n,_=>by simp
 | g::r,0,n,h=>by
  have b:=h g (Ao ..);cases g with
  | nil=>exact absurd rfl b
  | cons a t=>rfl
 | g::r,k+1,n,h=>by have d:=aBx c lv i x r k (n+1) (λ g b=>h g (Ay _ b));show dF c lv i (g::r.set k ((r[k]?).getD []++[x])) n=_;unfold dF;rw [d]
def UV(c:Con)(lv i:Int)(g:aw):∀ (s:List aw) (n:Nat),dF c lv i (s++[g]) n=match dF c lv i s n with
   | some k=>some k
   | none=>if alB c lv (g.headD 0) i=true then some (n+s.length) else none
 | [],n=>by simp [dF]
 | q::r,n=>by
  show dF c lv i (q::(r++[g])) n=_;unfold dF;by_cases h:alB c lv (q.headD 0) i=true
  .rw [if_pos h,if_pos h]
  .rw [if_neg h,if_neg h,UV c lv i g r (n+1)];rw [show n+(q::r).length=n+1+r.length from by simp;omega]
def UU{c:Con}{lv i:Int}:∀ {s:List aw} {n k:Nat},dF c lv i s n=some k->n<=k/\∃ G,s[k-n]? =some G/\alB c lv (G.headD 0) i=true
 | [],n,k,h=>by cases h
 | g::r,n,k,h=>by
  unfold dF at h;by_cases h1:alB c lv (g.headD 0) i=true
  .rw [if_pos h1] at h;cases h;exact ⟨Bd _,g,by simp,h1⟩
  .rw [if_neg h1] at h;obtain ⟨b,G,h3,a⟩:=UU h;refine ⟨by omega,G,?_,a⟩;rw [show k-n=(k-(n+1))+1 from by omega];exact h3
def aI5(c:Con)(lv:Int)(m:Nat)(s:List aw):Prop:=
 (∀ a:Nat,a<m->∃ k G,dF c lv (a:Int) s 0=some k/\s[k]? =some G/\(a:Int)∈G)/\∀ G∈s,G≠[]/\G.Nodup/\∀ x∈G,0<=x/\x<(m:Int)/\alB c lv (G.headD 0) x=true
def aC1{c:Con}{lv:Int}(F:0<=lv)(h3:lv<=3){m:Nat}{s:List aw}(h:aI5 c lv m s):aI5 c lv (m+1) (rgS c lv s m):=by
 obtain ⟨h1,u⟩:=h;have z:∀ g∈s,g≠[]:=λ g J=>(u g J).1;unfold rgS;cases C:dF c lv (m:Int) s 0 with
 | some k=>
  obtain ⟨_,i,e,w⟩:=UU C;rw [Iq] at e;have D:k<s.length:=(Ab.1 e).1;have o:i∈s:=Av e;refine ⟨λ a I=>?_,λ G d=>?_⟩
  .show ∃ k' G,dF c lv (a:Int) (s.set k ((s[k]?).getD []++[(m:Int)])) 0=some k'/\(s.set k ((s[k]?).getD []++[(m:Int)]))[k']? =some G/\(a:Int)∈G;rw [aBx c lv (a:Int) (m:Int) s k 0 z,e];by_cases j:a=m
   .subst j;refine ⟨k,_,C,by rw [Au D],by simp⟩
   .obtain ⟨k',B,r,l,v⟩:=h1 a o_;by_cases p:k=k'
    .subst p;rw [e] at l;cases l;exact ⟨k,i++[(m:Int)],r,by rw [Au D];rfl,Ba.2 (.inl v)⟩
    .exact ⟨k',B,r,by rw [Bb p];exact l,v⟩
  .have d:G∈s.set k ((s[k]?).getD []++[(m:Int)]):=d;rw [e] at d;have d:G∈s.set k (i++[(m:Int)]):=d;rcases Df d with d | rfl
   .exact zqra4
   .obtain ⟨q,n,f⟩:=u i o;have A:(i++[(m:Int)]).headD 0=i.headD 0:=by
     cases i with
     | nil=>exact absurd rfl q
     | cons y t=>rfl
    refine ⟨by simp,?_,λ x b=>?_⟩
    .rw [Bt];refine ⟨n,by simp,λ x b y H=>?_⟩;simp at H;subst H;have:=(f x b).2.1;omega
    .rw [A];rcases Ba.1 b with b | b
     .exact ⟨(f x b).1,by have:=(f x b).2.1;omega,(f x b).2.2⟩
     .simp at b;subst b;exact ⟨by omega,by omega,w⟩
 | none=>
  refine ⟨λ a I=>?_,λ G d=>?_⟩
  .show ∃ k' G,dF c lv (a:Int) (s++[[(m:Int)]]) 0=some k'/\(s++[[(m:Int)]])[k']? =some G/\(a:Int)∈G;rw [UV];by_cases j:a=m
   .subst j;rw [C];refine ⟨0+s.length,[(a:Int)],if_pos ((K6 F h3).2 rfl),by simp,by simp⟩
   .obtain ⟨k',B,r,l,v⟩:=h1 a o_;rw [r];refine ⟨k',B,rfl,?_,v⟩;rw [Ag (Ab.1 l).1];exact l
  .have d:G∈s++[[(m:Int)]]:=d;rcases Ba.1 d with d | d
   .exact zqra4
   .simp at d;subst d;refine ⟨by simp,by simp,λ x b=>?_⟩;simp at b;subst b;exact ⟨by omega,by omega,(K6 F h3).2 rfl⟩
def J6{c:Con}{lv:Int}(b:0<=lv)(h3:lv<=3):aI5 c lv c.hs.length (gpL c lv):=by
 rw [<-aKc];unfold rgL;rw [if_neg q_,if_neg q_];have key:∀ m:Nat,aI5 c lv m ((Di m).foldl (rgS c lv) []):=λ m=>by
  induction m with
  | zero=>exact ⟨λ a f=>by omega,λ G e=>by cases e⟩
  | succ m d=>
   rw [Mo,Jm];exact aC1 b h3 d
 exact key _
def aKK{c:Con}{lv e a b:Int}(h:lv<=e)(f:qJ c lv a=qJ c lv b):qJ c e a=qJ c e b:=by
 unfold qJ ofK at *
 simp only [Kt,and_true] at f⊢;obtain ⟨j,g,i,k⟩:=f;refine ⟨j,?_,?_,?_⟩
 .by_cases d:2<e
  .simp [d]
  .have:¬ 2<lv:=o_;simpa [d,this] using g
 .by_cases d:1<e
  .simp [d]
  .have:¬ 1<lv:=o_;simpa [d,this] using i
 .by_cases d:0<e
  .simp [d]
  .have:¬ 0<lv:=o_;simpa [d,this] using k
def aKX{c:Con}{lv e:Int}(d:0<=lv)(h:lv<=e)(h3:e<=3){a:aw}(v:a∈gpL c lv):a.Nodup/\∃ G∈gpL c e,∀ x∈a,x∈G:=by
 obtain ⟨_,o⟩:=J6 (c:=c) d (Fl h h3);obtain ⟨j,_⟩:=J6 (c:=c) (Fl d h) h3;obtain ⟨q,n,l⟩:=o a v;refine ⟨n,?_⟩;have z:a.headD 0∈a:=by
  cases a with
  | nil=>exact absurd rfl q
  | cons y t=>exact Ao ..
 obtain ⟨A,D,_⟩:=l _ z;have s:(a.headD 0)=((a.headD 0).toNat:Int):=o_;obtain ⟨k,G,b,f,_⟩:=j (a.headD 0).toNat o_;rw [<-s] at b;refine ⟨G,Av f,λ x u=>?_⟩;obtain ⟨F,B,w⟩:=l x u;have r:=aKK h ((K6 d (Fl h h3)).1 w);rw [aBy (Fl d h) h3 r] at b;have g:x=(x.toNat:Int):=o_;obtain ⟨k',C,i,p,m⟩:=j x.toNat o_;rw [<-g] at i m;rw [i] at b;cases b;rw [p] at f;cases f;exact m
def RT{free:a8}{g:Gan}:∀ (c out:aw) (h:Int),h∈c.foldl (inS free g) out->h∈out\/(h∈c/\0<=h/\h<(free.length:Int))
 | [],out,h,a=>.inl a
 | u::r,out,h,a=>by
  rw [Bc] at a;rcases RT r _ h a with a | a
  .unfold inS at a;by_cases h1:u<0
   .rw [if_pos (decide_eq_true h1)] at a;exact .inl a
   .rw [if_neg (by rw [decide_eq_false h1];decide)] at a;by_cases b:(free.length:Int)<=u
    .rw [if_pos (decide_eq_true b)] at a;exact .inl a
    .rw [if_neg (by rw [decide_eq_false b];decide)] at a;rcases Ba.1 a with a | a
     .exact .inl a
     .have:=(Gf.1 a).2;subst this;exact .inr ⟨Ao ..,by omega,by omega⟩
  .exact .inr ⟨Ay _ a.1,a.2⟩
def rmN(free:a8)(g:Gan)(h:Int):Nat:=(max (eP ((free[h.toNat]?).getD V3.zero) g.need) 0).toNat
def aHk(free:a8)(g:Gan)(out:aw)(u h:Int):(inS free g out u).count h<=out.count h+(if u=h then rmN free g h else 0):=by
 unfold inS;split
 .omega
 .split
  .omega
  .rw [Jg,List.count_replicate];by_cases a:u=h
   .subst a;rw [if_pos rfl];simp only [beq_self_eq_true,if_true];unfold rmN inN;omega
   .rw [if_neg a];simp [a]
def VW(free:a8)(g:Gan)(h:Int):∀ (a out:aw),a.Nodup->(a.foldl (inS free g) out).count h<=out.count h+(if h∈a then rmN free g h else 0)
 | [],out,_=>by simp
 | u::r,out,hn=>by
  rw [Bc];have h1:=VW free g h r (inS free g out u) (Cg.1 hn).2;have b:=aHk free g out u h;by_cases c:u=h
  .subst c;rw [if_neg (Cg.1 hn).1] at h1;rw [if_pos rfl] at b;rw [if_pos (Ao ..)];omega
  .rw [if_neg c] at b;by_cases hm:h∈r
   .rw [if_pos hm] at h1;rw [if_pos (Ay _ hm)];omega
   .rw [if_neg hm] at h1;omega
def yS(h:Int):∀ (l:aw) (n:Int),l.foldl (aLF h) n=n+(l.count h:Nat)
 | [],n=>by simp
 | y::r,n=>by
  rw [Bc,yS h r];unfold aLF;by_cases a:y=h
  .subst a;rw [if_pos rfl,Ii];omega
  .rw [if_neg a,Ms (by simpa using a)]
def vF{G hs:aw}:vG G hs=true↔ ∀ h∈hs,h∈G:=by
 have key:∀ (h:Int) (G:aw) (b:Bool),G.foldl (wiS h) b=true↔b=true\/h∈G:=λ h G=>by
  induction G with
  | nil=>intro b;simp
  | cons y r c=>
   intro b;rw [Bc,c];unfold wiS;cases b with
   | true=>simp
   | false=>simp [eq_comm]
 unfold vG;rw [Cr];constructor
 .intro q h a;have:=(key h G false).1 (q h a);simpa using this
 .intro q h a;exact (key h G false).2 (.inr (q h a))
def aDq{c:Con}{free:a8}{g:Gan}(J:bL g.need=true)(L:1<=g.pods)(hl:0<=g.pref/\g.pref<=g.lev/\g.lev<=3){x:Int×aw}(h:AF c free g=some x):
  (∀ u∈x.2,0<=u/\u<(free.length:Int)/\((x.2.count u:Nat):Int)<=eP ((free[u.toNat]?).getD V3.zero) g.need)/\qO c free g x.2=true:=by
 have j:∀ (s:List aw),fdG c free g s=some x->∃ d∈s,x.2=inL free g d/\¬ ((inL free g d).length:Int)<g.pods:=λ s=>by
  induction s with
  | nil=>intro h;cases h
  | cons d r m=>
   intro h;unfold fdG at h;by_cases h1:((inL free g d).length:Int)<g.pods
   .rw [if_pos (decide_eq_true h1)] at h;obtain ⟨q,A,z⟩:=m h;exact ⟨q,Ay _ A,z⟩
   .rw [if_neg (by rw [decide_eq_false h1];decide)] at h;cases h;exact ⟨d,Ao ..,rfl,h1⟩
 have k:∀ (n:Nat) (lv:Int),fdL c free g n lv=some x->∃ f,lv<=f/\f<lv+n/\fdG c free g (gpL c f)=some x:=λ n=>by
  induction n with
  | zero=>intro lv h;cases h
  | succ n m=>
   intro lv h;unfold fdL at h;cases v:fdG c free g (gpL c lv) with
   | some y=>
    rw [v] at h;cases h;exact ⟨lv,De _,by omega,v⟩
   | none=>
    rw [v] at h;obtain ⟨f,A,z,F⟩:=m (lv+1) h;exact ⟨f,by omega,by omega,F⟩
 unfold AF at h;obtain ⟨f,l1,l2,B⟩:=k _ _ h;obtain ⟨d,C,t,K⟩:=j _ B;have p:0<=f/\f<=g.lev:=o_;obtain ⟨D,G,H,o⟩:=aKX p.1 p.2 hl.2.2 C;have w:((inL free g d).length:Int)<=g.pods:=by
  have key:∀ (l:aw) (out:aw),(out.length:Int)<=g.pods->((l.foldl (inS free g) out).length:Int)<=g.pods:=λ l=>by
   induction l with
   | nil=>intro out h;exact h
   | cons x r m=>intro out h;exact m _ (J2 free g out x h)
  exact key d [] q_
 have b:∀ u∈x.2,u∈d/\0<=u/\u<(free.length:Int):=λ u a=>by
  rw [t] at a;rcases RT d [] u a with a | a
  .cases a
  .exact a
 have i:∀ u∈x.2,((x.2.count u:Nat):Int)<=eP ((free[u.toNat]?).getD V3.zero) g.need:=λ u a=>by have h1:=VW free g u d [] D;have I:0<x.2.count u:=Le.2 a;rw [if_pos (b u a).1,show d.foldl (inS free g) []=x.2 from t.symm] at h1;unfold rmN at h1;simp only [List.count_nil] at h1;omega
 refine ⟨λ u a=>⟨(b u a).2.1,(b u a).2.2,i u a⟩,?_⟩;unfold qO;rw [if_pos (by rw [t];omega),Fq];refine ⟨G,H,?_⟩;unfold chkG;rw [vF.2 λ u a=>o u (b u a).1,Cz];unfold D4;rw [Cr];intro u a;unfold aDo;rw [if_neg (by have:=(b u a).2.1;simp;omega),if_neg (by have:=(b u a).2.2;simp;omega)];have:=i u a;have e:A5 u x.2=((x.2.count u:Nat):Int):=by unfold A5;rw [yS];omega
 rw [e];simp;omega
def LG{ns:bc}:∀ (f:Nat) (s x:Int),x∈upF ns f s->x=s\/∃ d∈ns,d.p=x
 | 0,s,x,h=>by cases h
 | f+1,s,x,h=>by
  unfold upF at h;by_cases b:0<=s
  .rw [if_pos (decide_eq_true b)] at h;by_cases h1:s.toNat<ns.length
   .rw [dif_pos h1] at h;by_cases a:s<=(ns[s.toNat]).p
    .rw [if_pos (decide_eq_true a)] at h;simp at h;exact .inl h
    .rw [if_neg (by rw [decide_eq_false a];decide)] at h;rcases Aw.1 h with h | h
     .exact .inl h
     .rcases LG f _ x h with rfl | h
      .exact .inr ⟨_,Bf h1,rfl⟩
      .exact .inr h
   .rw [dif_neg h1] at h;cases h
  .rw [if_neg (by rw [decide_eq_false b];decide)] at h;cases h
def Y4{ns:bc}{t:Int}(h:bD ns t=true):∀ d∈ns,d.p≠t:=by obtain ⟨b,h1⟩:=wO h;unfold bD at h;rw [if_pos (decide_eq_true b),if_pos (decide_eq_true o_),EX] at h;intro d a e;have:(ns.any λ x=>x.p==t)=true:=Fq.2 ⟨d,a,by simp [e]⟩;rw [this] at h;cases h
def VH{ns:bc}{t s:Int}(h:bD ns t=true)(hs:t∈upL ns s):t=s:=by
 rcases LG _ _ _ hs with h1 | ⟨d,a,e⟩
 .exact h1
 .exact absurd e (Y4 h d a)
def UO{ns:bc}{t:Int}(a:0<=t)(h1:t.toNat<ns.length):t∈upL ns t:=by obtain ⟨r,b⟩:=aAE a h1;rw [b];exact Ao ..
def aG2{ns:bc}{t:Int}(h:bD ns t=true):t∈sT ns:=by
 obtain ⟨e,h1⟩:=wO h;have key:∀ (m i:Nat),i<=t.toNat->t.toNat<i+m->t∈lvF ns m i:=λ m=>by
  induction m with
  | zero=>intro i a b;omega
  | succ m d=>
   intro i a b;unfold lvF;by_cases c:i=t.toNat
   .subst c;rw [show ((t.toNat:Nat):Int)=t from by omega,if_pos h];exact Ao ..
   .have:=d (i+1) o_ o_;split
    .exact Ay _ this
    .exact this
 exact key _ 0 o_ o_
def RL{ns:bc}{t:Int}(h:bD ns t=true):bQ ns t=[t]:=by
 obtain ⟨j,h1⟩:=wO h;have d:=UO j h1;have c:∀ s:Int,wR ns t s=if s=t then [t] else []:=λ s=>by
  unfold wR;by_cases e:s=t
  .subst e;rw [if_pos d,if_pos rfl]
  .rw [if_neg e,if_neg λ q=>e (VH h q).symm]
 have lo:∀ (m i:Nat),t.toNat<i->(lvF ns m i).flatMap (wR ns t)=[]:=λ m i f=>by rw [List.flatMap_eq_nil_iff];intro s hs;have:=JU ns m i s hs;rw [c,if_neg o_]
 have key:∀ (m i:Nat),i<=t.toNat->t.toNat<i+m->(lvF ns m i).flatMap (wR ns t)=[t]:=λ m=>by
  induction m with
  | zero=>intro i a b;omega
  | succ m g=>
   intro i a b;unfold lvF;by_cases f:i=t.toNat
   .subst f;rw [show ((t.toNat:Nat):Int)=t from by omega,if_pos h,Jl,lo _ _ o_,c,if_pos rfl];rfl
   .have:=g (i+1) o_ o_;split
    .rw [Jl,c,if_neg o_,this];rfl
    .exact this
 exact key _ 0 o_ o_
section
variable {p:V3->Int} (hp:Prj p)
include hp
def uE(c:Con)(p:V3->Int)(j:Int)(x:Rn):Int:=if bD c.ns x.g.ten=true/\j∈upL c.ns x.g.ten then p (dem x.g) else 0
def TX{c:Con}{j:Nat}:∀ (l:a6) (v:V3),(∀ x∈l,0<=p (dem x.g))->0<=p v->p v<=dE->p (l.foldl (oZ c j) v)=min (p v+cI (l.map (uE c p (j:Int)))) dE/\0<=cI (l.map (uE c p (j:Int)))
 | [],v,_,h0,h1=>by
  show p v=min (p v+0) dE/\(0:Int)<=0;omega
 | x::r,v,hd,h0,h1=>by
  rw [Bc,Bl];show _=min (p v+(uE c p (j:Int) x+cI (r.map (uE c p (j:Int))))) dE/\0<=uE c p (j:Int) x+cI (r.map (uE c p (j:Int)));have h:=hd x (Ao ..);have e:p (oZ c j v x)=min (p v+uE c p (j:Int) x) dE:=by
   unfold oZ uE;by_cases a:bD c.ns x.g.ten=true/\(j:Int)∈upL c.ns x.g.ten
   .rw [if_pos a,if_pos a,hp.add,sC h0 h1 h]
   .rw [if_neg a,if_neg a];omega
  have i:0<=uE c p (j:Int) x:=by unfold uE;split<;>omega
  obtain ⟨f,b⟩:=TX r (oZ c j v x) (λ y d=>hd y (Ay _ d)) (by rw [e];unfold dE;omega) (by rw [e];unfold dE;omega);rw [f,e];unfold dE;omega
omit hp in
def UF{α:Type}(f g:α->Int):∀ (l:List α),cI (l.map λ x=>f x+g x)=cI (l.map f)+cI (l.map g)
 | []=>rfl
 | x::r=>by
  rw [Bl,Bl,Bl];show f x+g x+cI _=(f x+cI _)+(g x+cI _)
  rw [UF f g r];omega
omit hp in
def UE{α:Type}(f:α->Int):∀ (l:List α),(∀ y∈l,0<=f y)->∀ x∈l,f x<=cI (l.map f)
 | [],_,x,h=>by cases h
 | y::r,hf,x,h=>by
  rw [Bl];show f x<=f y+cI _;have h1:=lH (es:=r.map f) λ e a=>by obtain ⟨z,hz,rfl⟩:=Ca.1 a;exact hf z (Ay _ hz)
  have b:=hf y (Ao ..);rcases Aw.1 h with rfl | h
  .omega
  .have:=UE f r (λ z hz=>hf z (Ay _ hz)) x h;omega
omit hp in
def UC{α:Type}(f:α->Int):∀ (l:List α),(∀ y∈l,0<=f y)->min (cI (l.map f)) dE<=cI (l.map λ y=>min (f y) dE)/\0<=cI (l.map f)
 | [],_=>by
  show min (0:Int) dE<=0/\(0:Int)<=0;unfold dE;omega
 | y::r,hf=>by
  rw [Bl,Bl];show min (f y+cI _) dE<=min (f y) dE+cI _/\0<=f y+cI _;have c:=hf y (Ao ..);obtain ⟨a,b⟩:=UC f r λ z hz=>hf z (Ay _ hz);unfold dE at *
  omega
omit hp in
def H8{c:Con}{n:Int}:∀ (l:a6),(∀ x∈l,0<=p (dem x.g))->cI (l.map (uE c p n))<=cI ((bQ c.ns n).map λ s=>cI (l.map (uE c p s)))
 | [],_=>by
  show 0<=cI ((bQ c.ns n).map λ s=>(0:Int));exact lH λ e h=>by
   obtain ⟨z,_,rfl⟩:=Ca.1 h;exact De _
 | x::r,hd=>by
  have k:=H8 (c:=c) (n:=n) r λ y j=>hd y (Ay _ j);have e:cI ((bQ c.ns n).map λ s=>cI ((x::r).map (uE c p s)))=cI ((bQ c.ns n).map λ s=>uE c p s x)+cI ((bQ c.ns n).map λ s=>cI (r.map (uE c p s))):=UF _ _ _;rw [e,Bl];show uE c p n x+cI _<=_;have m:=hd x (Ao ..);have b:∀ s∈bQ c.ns n,0<=uE c p s x:=λ s _=>by unfold uE;split<;>omega
  have h1:uE c p n x<=cI ((bQ c.ns n).map λ s=>uE c p s x):=by
   by_cases a:bD c.ns x.g.ten=true/\n∈upL c.ns x.g.ten
   .have d:x.g.ten∈bQ c.ns n:=by unfold bQ;rw [List.mem_flatMap];refine ⟨x.g.ten,aG2 a.1,?_⟩;unfold wR;rw [if_pos a.2];simp
    have:=UE (λ s=>uE c p s x) (bQ c.ns n) b _ d;have f:uE c p x.g.ten x=uE c p n x:=by obtain ⟨i,h1⟩:=wO a.1;unfold uE;rw [if_pos a,if_pos ⟨a.1,UO i h1⟩]
    rw [<-f];exact this
   .have f:uE c p n x=0:=by unfold uE;rw [if_neg a]
    rw [f];exact lH λ e h=>by obtain ⟨z,hz,rfl⟩:=Ca.1 h;exact b z hz
  omega
def IO{c:Con}{l:a6}(f:∀ x∈l,0<=p (dem x.g)){n:Int}(d:c.ok n):p (atV (ofL c l) n)=min (cI (l.map (uE c p n))) dE/\0<=cI (l.map (uE c p n)):=by
 have hz:p V3.zero=0:=hp.zero;obtain ⟨a,b⟩:=TX hp (c:=c) (j:=n.toNat) l V3.zero f (by rw [hz];exact De _) (by rw [hz];decide);rw [zX d,a,hz];have e:((n.toNat:Nat):Int)=n:=by have:=d.1;omega
 rw [e] at b⊢;exact ⟨by omega,b⟩
def aJO{c:Con}{l:a6}(a:∀ x∈l,0<=p (dem x.g))(n:Int):p (lG c.ns n (ofL c l))=min (cI ((bQ c.ns n).map λ s=>min (cI (l.map (uE c p s))) dE)) dE:=by
 have hz:p V3.zero=0:=hp.zero;have e:(bQ c.ns n).map (λ t=>p (atV (ofL c l) t))=(bQ c.ns n).map λ s=>min (cI (l.map (uE c p s))) dE:=List.map_congr_left λ s hs=>(IO hp a (lD c n s hs)).1;unfold lG
 rw [IU hp,e,hz,vZ (De _) d_ λ e b=>by
  obtain ⟨s,hs,rfl⟩:=Ca.1 b;have:=(IO hp a (lD c n s hs)).2;unfold dE
  omega]
 omega
def QB{c:Con}{l:a6}(b:∀ x∈l,0<=p (dem x.g)){n:Int}(d:c.ok n):p (atV (ofL c l) n)<=p (lG c.ns n (ofL c l))/\0<=p (atV (ofL c l) n)/\p (lG c.ns n (ofL c l))<=dE:=by
 obtain ⟨a,f⟩:=IO hp b d;rw [a,aJO hp b n];have h1:=H8 (p:=p) (c:=c) (n:=n) l b;obtain ⟨e,h3⟩:=UC (λ s=>cI (l.map (uE c p s))) (bQ c.ns n) λ s hs=>(IO hp b (lD c n s hs)).2;unfold dE at *
 omega
def aCM(ns:bc)(us:a8)(n t:Int):0<=p (G1 ns us n t):=by
 have hz:p V3.zero=0:=hp.zero;have a:∀ e∈(bQ ns n).map (kE ns p us t),0<=e:=λ e b=>by obtain ⟨s,_,rfl⟩:=Ca.1 b;unfold kE;split<;>omega
 have c:=lH a;unfold G1;rw [VJ hp _ _ _ _ _ (by rw [hz];exact De _) (by rw [hz];decide),hz,vZ (De _) d_ a];unfold dE;omega
def KZ{c:Con}{l:a6}(f:∀ x∈l,0<=p (dem x.g)){need:V3}(i:0<=p need){n t:Int}(e:c.ok n):p (fQ (atV (ofL c l) n) need)<=p (fQ (fQ (lG c.ns n (ofL c l)) need) (G1 c.ns (ofL c l) n t)):=by obtain ⟨h1,j,h3⟩:=QB hp f e;have h:=aCM hp c.ns (ofL c l) n t;rw [hp.add,hp.add,hp.add];have m:=tE (d:=p need) h1;have b:=K7 (a:=p (lG c.ns n (ofL c l))) o_ i;have k:=BU b.1 b.2 h;omega
end
def zC(x y z:Int):jH (jH (jH 0 x) 0) y=jH x y/\jH (jH 0 x) y=jH x y:=by unfold jH hC;omega
def XQ(x y:V3):fQ (fQ V3.zero x) y=fQ x y:=by unfold fQ V3.map2 V3.zero;rw [(zC x.a y.a 0).2,(zC x.b y.b 0).2,(zC x.c y.c 0).2]
def aCj{c:Con}{t:Int}(h:c.ok t):atV (qH c.ns) t=(cY c.ns t).n:=by obtain ⟨a,h1⟩:=h;unfold atV qH;rw [if_neg q_,Bg,Dm h1];show (cY c.ns ((t.toNat:Nat):Int)).n=_;rw [show ((t.toNat:Nat):Int)=t from by omega]
def VC(c:Con)(t n:Int):V3:=if n=t then fQ (lG c.ns n (qH c.ns)) (cY c.ns n).b else lG c.ns n (qH c.ns)
def MQ{c:Con}{l:a6}{x:Rn}(j:∀ y∈l,(dem y.g).pos)(k:(dem x.g).pos)(h:NQ c (ofL c l) x.g.ten (dem x.g)=true):∀ n∈fI c.ns x.g.ten,c.ok n/\cS (atV (ofL c (l++[x])) n) (VC c x.g.ten n)=true:=by
 intro n d;unfold fI at d;rw [Ir] at d;have a:c.ok n:=IP c _ _ _ d;refine ⟨a,?_⟩;unfold NQ at h;by_cases hl:bD c.ns x.g.ten=true
 .rw [if_pos hl,Cr] at h;have b:=h n d;have e:atV (ofL c (l++[x])) n=fQ (atV (ofL c l) n) (dem x.g):=by rw [zX a,zX a,Jm];show oZ c n.toNat _ x=_;unfold oZ;rw [if_pos ⟨hl,by rw [show ((n.toNat:Nat):Int)=n from by have:=a.1;omega];exact d⟩]
  rw [e];unfold RH at b;unfold VC;by_cases i:n=x.g.ten
  .rw [if_pos (decide_eq_true i)] at b;rw [if_pos i];unfold aGx at b;have m:lG c.ns n (qH c.ns)=fQ V3.zero (cY c.ns n).n:=by unfold lG;rw [RL (by rw [i];exact hl)];show fQ V3.zero (atV (qH c.ns) n)=_;rw [aCj a]
   rw [m,XQ];exact b
  .rw [if_neg (by rw [decide_eq_false i];decide)] at b;rw [if_neg i];unfold aI1 at b;rw [vJ] at b⊢;exact ⟨Fl (KZ aGs (λ y f=>(j y f).1) k.1 a) b.1,Fl (KZ aGr (λ y f=>(j y f).2.1) k.2.1 a) b.2.1,Fl (KZ aGq (λ y f=>(j y f).2.2) k.2.2 a) b.2.2⟩
 .rw [if_neg hl] at h;cases h
end Go.Proofs.YtaeegbkbahgjhaaGreatDoor
