/- Part 7 of what the statement rests on. -/
import Derived.Test.YtenkdioaefckoaaGreatDoorHP
set_option linter.all false
set_option maxHeartbeats 2000000
open Go.AW.Res renaming ret->Io
open Go.AW.St renaming head->G0
open Go.AW.Tk renaming no->J0
open Go.AW.aa renaming bool->DA,int->GE,ref->G2,slice->CA,tup->GT
open Go.AW.ab renaming cells->Do,tail->Fr
open Go.IntKind renaming i64->Is
open List renaming length->Z
open Bool renaming true->O,false->S
open Option renaming some->X,none->U
open And renaming intro->Aa
open Bool renaming and_eq_true->Af,eq_iff_iff->Gk,false_eq_true->Cy,false_or->Kj,true_and->Bt
open Exists renaming intro->Aj
open Int renaming le_refl->Ei,le_trans->Fo,mul_nonneg->Ji,tdiv_eq_ediv_of_nonneg->Lg,toNat_natCast->Bm,toNat_of_nonneg->Hl
open List renaming all_cons->Hi,all_eq_true->Ck,any_cons->Hj,any_eq_true->Fq,append_assoc->Ag,append_nil->Ap,drop->Fx,drop_drop->Ho,drop_eq_getElem_cons->Ac,drop_eq_nil_of_le->Ae,ext_getElem?->Ez,filter_cons->Gw,filter_eq_self->Gn,filter_sublist->Iq,foldl_append->Lq,foldl_cons->Ao,getElem?_append_left->Ai,getElem?_eq_getElem->Ab,getElem?_eq_none->Bk,getElem?_eq_some_iff->Ad,getElem?_replicate->Ht,getElem?_set_ne->Bf,getElem?_set_self->Ay,getElem_mem->Av,getElem_of_mem->Gq,length_append->Ah,length_cons->Al,length_filter_le->Dw,length_nil->Bs,length_reverse->Ip,length_set->Dj,map_append->Bh,map_cons->Bg,map_set->Gb,mem_append->Bx,mem_cons->Ba,mem_cons_of_mem->Az,mem_cons_self->Aw,mem_filter->Fh,mem_map->Co,mem_of_getElem?->Ax,mem_or_eq_of_mem_set->De,mem_reverse->Il,mem_take_iff_getElem->Lj,nodup_append->Du,nodup_cons->Ce,pairwise_cons->Bp,pairwise_iff_getElem->Ek,range->Df,range_succ->Ix,replicate->Ak,reverse_cons->Jo,take->Fi,take_append_drop->Bl,take_append_of_le_length->Eh,take_of_length_le->Bq
open List.Perm renaming append_left->Dm,refl->Fc
open Nat renaming le_refl->Bc,zero_add->Bv,zero_le->Bn
open Prod renaming fst->Mb
namespace Go.Proofs.YtenkdioaefckoaaGreatDoor
variable{P:Prop}
open Go.Proofs.Tryz
open Go Go.AW Go.Proofs
set_option maxRecDepth 10000
def zqra0(h:P:=by
 by_cases h1:0<=n
 .rw [bu (bq h1)]at a;by_cases d:n.toNat<Z c.ns
  .rw [dif_pos d]at a;have e:=e h1 d;generalize i:c.ns[n.toNat]=x at a;have get:(nav c.ns)[n.toNat]? =X x.av:=(fP d).trans (by rw[i]);have q:n=(n.toNat:Int):=o_;by_cases h3:n<=x.p
   .rw [bu (bq h3)]at a;have a:n::b=R:=a;subst a;exact tA
   .rw [bt (by rw[bp h3];decide),Jo,Ag]at a;have next:=l x.p (n::b) J0 (.inr rfl) (λ_=>by have:=g h1;omega) (λ_ _=>by simp;omega) a
    exact tA
  .rw [dif_neg d]at a;have a:b=R:=a;subst a;exact tA
 .rw [bt (by rw[bp h1];decide)]at a;have a:b=R:=a;subst a;refine gV ?_
  exact zW):P:=h
def zqra1(h:P:=by
 subst d;refine gA (Er [] [16,17,18,19,20]) f305 λ_=>?_;refine bO (hEr [] [16,17,18,19,20]) 10 ?_;conv=>whnf
 refine To.cutC [1,2,3,4,8] 1 rfl rfl rfl rfl ?_;refine D3 c _ a b ?_
 exact zW):P:=h
def zqra2(h:P:=by
 refine gV ?_;refine⟨j,rfl,gV ?_⟩;refine⟨_,f,?_⟩
 exact zW):P:=h
def zqra3(h:P:=by
 unfold bB at h;by_cases h1:0<=t
 .rw [bu (bq h1)]at h;by_cases a:t<(Z ns:Int)
  .omega
  .rw [bt (by rw[bp a];decide)]at h;cases h
 .rw [bt (by rw[bp h1];decide)]at h
  cases h):P:=h
def zqra4(h:P:=by
 subst c;refine c_ f284 λ_=>?_;have hz1:=λd=>NF d
 exact zW):P:=h
def zqra5(h:P:=by
 rw[Ae o_]at b;have b:a++[]=R:=b;rw[Ap]at b;subst b;refine gV ?_
 exact zW):P:=h
def zqra6(h:P:=by exact To.cut [0,2,3,4,5] 4 rfl rfl rfl rfl next):P:=h
def zqra7(h:P:=by
 subst a
 exact c_ f258 λ_=>zW):P:=h
def zqra8(h:P:=by
 rcases b.inv with⟨e,h⟩|⟨e,h⟩
 .subst e;exact tA
 .subst e;refine gV ?_
  exact zW):P:=h
def zqra9(h:P:=by
 subst a;refine gA (Er [5] []) f250 λ_=>?_
 exact zW):P:=h
def zqra10(h:P:=by
 refine gA (Eo [8,12] []) f130 λ_=>?_
 exact zW):P:=h
def zqra11(h:P:=by exact c_ f119 λ_=>zW):P:=h
def zqra12(h:P:=by
 rw[bt (by rw[d];decide)]at b;rw[d]at h1;have next:=k ids o_ f b
 exact zW):P:=h
def zqra13(h:P:=by
 refine gA (Eo [9] []) f233 λ_=>?_
 exact zW):P:=h
def zqra14(h:P:=by exact c_ f245 λ_=>zW):P:=h
def zqra15(h:P:=by
 refine eA E f291 3 λ_=>?_
 exact zW):P:=h
def zqra16(h:P:=by
 refine eA E f295 2 λ_=>?_
 exact zW):P:=h
def zqra17(h:P:=by
 rw[bu d]at b;rw[d]at h1;have next:=k (dA ids a) o_ o_ b
 exact zW):P:=h
def MY(n m:Int)(a:0<=m)(h1:m<=1099511627776):bj 254 [ii n,ii m] (ii (fZ n m)):=by
 have e:fZ n m=max (0-m) (min n m):=by unfold fZ;omega
 rw[e];exact c_ f254 λ_=>zW
def lZ(a b:V3):bj 181 [a.av,b.av] ((dZ a b).av):=by
 have d:=fY a.a 1099511627776 d_;have j:=fY a.b 1099511627776 d_;have e:=fY a.c 1099511627776 d_;have k:=fY b.a 1099511627776 d_;have h:=fY b.b 1099511627776 d_;have i:=fY b.c 1099511627776 d_;refine c_ f181 λ_=>?_
 repeat' first
  |(refine gW hE ?_;conv=>whnf)
  |refine .p (MY _ _ d_ d_) ?_
  |exact rfl
  |refine aY ?_
  |refine aN ?_
  |refine aJ ?_
  |refine Aj _ (Aa rfl ?_)
  |refine Aa d_ ?_
def MR(a b:V3):bj 252 [a.av,b.av] ((xY a b).av):=by
 have d:=fY a.a 1099511627776 d_;have j:=fY a.b 1099511627776 d_;have e:=fY a.c 1099511627776 d_;have k:=fY b.a 1099511627776 d_;have h:=fY b.b 1099511627776 d_;have i:=fY b.c 1099511627776 d_;refine c_ f252 λ_=>?_
 repeat' first
  |(refine gW hE ?_;conv=>whnf)
  |refine .p (MY _ _ d_ d_) ?_
  |exact rfl
  |refine aY ?_
  |refine aN ?_
  |refine aJ ?_
  |refine Aj _ (Aa rfl ?_)
  |refine Aa d_ ?_
def Z5(a:V3)(n:Int):bj 249 [a.av,ii n] ((UQ a n).av):=by
 have d:=aAq a.a n;have h:=aAq a.b n;have e:=aAq a.c n;refine c_ f249 λ_=>?_
 repeat' first
  |(refine gW hE ?_;conv=>whnf)
  |refine .p (MY _ _ d_ d_) ?_
  |exact rfl
  |refine aY ?_
  |refine aN ?_
  |refine aJ ?_
  |refine Aj _ (Aa rfl ?_)
  |refine Aa d_ ?_
def MX(g:Gan):bj 176 [g.av] ((dem g).av):=by refine c_ f176 λ_=>?_;have a:=Z5 g.need g.pods;exact zW
def aFL(l:a8)(n:Int)(r:V3)(a:atV l n=r):bj 245 [CA 3 (vav l) J0,ii n] r.av:=by
 have hl:Z (vav l)=Z l:=by simp
 unfold atV at a;by_cases h1:n<0
 .rw [bu (bq h1)]at a;subst a;exact zqra14
 .rw [bt (by rw[bp h1];decide)]at a;by_cases b:n.toNat<Z l
  .rw [Ab b]at a;have get:=kN b;have a:l[n.toNat]=r:=a;rw[a]at get;have c:n=(n.toNat:Int):=o_;exact zqra14
  .rw [Bk o_]at a;subst a;exact zqra14
def yT(l:a8)(n:Int):bj 245 [CA 3 (vav l) J0,ii n] ((atV l n).av):=aFL l n _ rfl
def HM(n:Int):∀(l:bc) (i:Nat),decide (0<=am n l i)=l.any λx=>x.p==n
 |[],i=>by simp[am]
 |x::r,i=>by
  unfold am;rw[Hj];by_cases h:x.p=n
  .simp [h]
  .have:=HM n r (i+1);simp[h,this]
def UL(l:bc)(n:Int):(l.all λx=>!(x.p==n))= !(l.any λx=>x.p==n):=by grind
def tF(ns:bc)(t:Int):rlB ns t=bB ns t:=by
 unfold rlB bB;rw[HM,UL]
 grind
def bP(ns:bc)(n:Int):ax:=(upL ns n).reverse
def KM{α β:Type}(f:β->α->β)(a:∀b x y,f (f b x) y=f (f b y) x):∀(l:List α) (b:β),l.reverse.foldl f b=l.foldl f b
 |[],b=>rfl
 |x::r,b=>by
  have h:∀(l:List α) (b:β),l.foldl f (f b x)=f (l.foldl f b) x:=λl=>by
   induction l with
   |nil=>intro b;rfl
   |cons y r c=>intro b;rw[Ao,Ao,a,c]
  rw[Jo,Lq,KM f a r b];show f (r.foldl f b) x=r.foldl f (f b x);rw[h]
def wH(v:V3)(xs:a8)(k:Int):a8:=xs.set k.toNat (dZ ((xs[k.toNat]?).getD V3.zero) v)
def UO(v:V3)(xs:a8)(k:Int):Z (wH v xs k)=Z xs:=by unfold wH;simp
theorem HQ(v:V3)(xs:a8)(k:Int)(j:Nat):(wH v xs k)[j]? =if k.toNat=j then(xs[j]?).map λx=>dZ x v else xs[j]?:=by
 unfold wH
 grind
def aDO(v:V3)(xs:a8)(a b:Int):wH v (wH v xs a) b=wH v (wH v xs b) a:=by
 refine Ez λj=>?_
 grind[HQ]
def CZ(c:Con)(xs:a8)(x:Rn):a8:=if bB c.ns x.g.ten=O then(bP c.ns x.g.ten).foldl (wH (dem x.g)) xs else xs
def aFc(c:Con)(l:a7):a8:=l.foldl (CZ c) (Ak (Z c.ns) V3.zero)
def wS(v:V3):∀(ks:ax) (xs:a8),Z (ks.foldl (wH v) xs)=Z xs
 |[],_=>rfl
 |k::r,xs=>by rw[Ao,wS v r,UO]
def aFa(c:Con)(xs:a8)(x:Rn):Z (CZ c xs x)=Z xs:=by
 unfold CZ;split
 .exact wS _ _ _
 .rfl
def sQ(L:Led):Prop:=(L.map Mb).Nodup
def JS(n:Int)(v:V3):∀(L:Led) (k:Int),k∈(A2 L n v).map Mb->k=n\/k∈L.map Mb
 |[],k,h=>by simp[A2]at h;exact .inl h
 |(j,w)::r,k,h=>by
  unfold A2 at h;split at h
  .rename_i a;simp only[Bg,Ba]at h⊢;rcases h with rfl|h
   .exact .inl rfl
   .exact .inr (.inr h)
  .simp only[Bg,Ba]at h⊢;rcases h with rfl|h
   .exact .inr (.inl rfl)
   .rcases JS n v r k h with h|h
    .exact .inl h
    .exact .inr (.inr h)
def aGG(n:Int)(v:V3):∀(L:Led),sQ L->sQ (A2 L n v)
 |[],_=>by simp[A2,sQ]
 |(j,w)::r,h=>by
  have h1:=(Ce.1 h)
  unfold A2;split
  .rename_i a;subst a;exact h
  .rename_i a;refine Ce.2 ⟨λhm=>?_,aGG n v r h1.2⟩;rcases JS n v r _ hm with h|h
   .exact a h
   .exact h1.1 h
def JU(n:Int):∀(L:Led) (k:Int),k∈(FZ L n).map Mb->k∈L.map Mb
 |[],k,h=>h
 |(j,w)::r,k,h=>by
  unfold FZ at h;simp only[Bg,Ba];split at h
  .exact .inr h
  .simp only[Bg,Ba]at h;rcases h with h|h
   .exact .inl h
   .exact .inr (JU n r k h)
def aGO(n:Int):∀(L:Led),sQ L->sQ (FZ L n)
 |[],h=>h
 |(j,w)::r,h=>by
  have h1:=(Ce.1 h)
  unfold FZ;split
  .exact h1.2
  .exact Ce.2 ⟨λhm=>h1.1 (JU n r _ hm),aGO n r h1.2⟩
def R3:∀(L:Led) (n:Int),n∉L.map Mb->jI L n=U
 |[],n,h=>rfl
 |(j,w)::r,n,h=>by simp only[Bg,Ba,not_or]at h;unfold jI;rw[bt (λe=>h.1 e.symm)];exact R3 r n h.2
def R1(n:Int)(v:V3)(k:Int):∀(L:Led),jI (A2 L n v) k=if k=n then X v else jI L k
 |[]=>by
  unfold A2 jI jI
  grind
 |(j,w)::r=>by
  have b:=R1 n v k r;unfold A2;split
  .rename_i a;subst a;unfold jI
   grind
  .rename_i a;unfold jI
   grind
def R4(n:Int)(k:Int):∀(L:Led),sQ L->jI (FZ L n) k=if k=n then U else jI L k
 |[],_=>by
  unfold FZ jI;split<;>rfl
 |(j,w)::r,h=>by
  have h1:=(Ce.1 h)
  have c:=R4 n k r h1.2;unfold FZ;split
  .rename_i b;subst b;by_cases a:k=j
   .rw [bu a,a];exact R3 r j h1.1
   .rw [bt a]
    conv=>rhs;unfold jI
    rw[bt (λe=>a e.symm)]
  .rename_i b;unfold jI
   grind
def aGY{v:V3}(h:isZ v=O):v=V3.zero:=by obtain⟨a,b,c⟩:=v;unfold isZ at h;simp at h;obtain⟨rfl,rfl,rfl⟩:=h;rfl
def aPv{L:Led}(h:sQ L)(n:Int)(v:V3):sQ (RW L n v):=by
 unfold RW;split
 .exact aGO n L h
 .exact aGG n v L h
def aGF{L:Led}(h:sQ L)(n:Int)(v:V3)(k:Int):sA (RW L n v) k=if k=n then v else sA L k:=by
 unfold RW sA;split
 .rename_i hz;rw[R4 n k L h];by_cases a:k=n
  .rw [bu a,bu a,aGY hz];rfl
  .rw [bt a,bt a]
 .rw [R1]
  grind
def HN(n:Nat)(L:Led)(j:Nat):(mK n L)[j]? =if j<n then X (sA L (j:Int))else none:=by
 unfold mK
 grind
def aMV{n:Nat}{L:Led}(h:sQ L)(v:V3)(k:Int)(b:0<=k)(a:k.toNat<n):mK n (BM v L k)=wH v (mK n L) k:=by
 refine Ez λj=>?_;rw[HQ,HN,HN];unfold BM;rw[aGF h]
 grind
def aSz{L:Led}(h:sQ L)(v:V3)(k:Int):sQ (BM v L k):=aPv h _ _
def TY{n:Nat}(v:V3):∀(ks:ax) (L:Led),sQ L->(∀k∈ks,0<=k/\k.toNat<n)->mK n (ks.foldl (BM v) L)=ks.foldl (wH v) (mK n L)/\sQ (ks.foldl (BM v) L)
 |[],L,h,_=>⟨rfl,h⟩
 |k::r,L,h,hk=>by have h1:=hk k s_;obtain⟨b,c⟩:=TY v r (BM v L k) (aSz h v k) λx a=>hk x (by simp[a]);exact⟨by rw[Ao,b,aMV h v k h1.1 h1.2];rfl,c⟩
def L9(ns:bc):∀(f:Nat) (n x:Int),x∈upF ns f n->0<=x/\x.toNat<Z ns
 |0,n,x,h=>by simp[upF]at h
 |f+1,n,x,h=>by
  unfold upF at h;split at h
  .rename_i a;have a:=bn a;split at h
   .rename_i h1;split at h
    .simp at h;subst h;exact⟨a,h1⟩
    .rcases Ba.1 h with rfl|h
     .exact ⟨a,h1⟩
     .exact L9 ns f _ x h
   .simp at h
  .simp at h
theorem WO(c:Con)(L:Led)(h:sQ L)(x:Rn):mK (Z c.ns) (xC c L x)=CZ c (mK (Z c.ns) L) x/\sQ (xC c L x):=by
 unfold xC CZ bP;split
 .obtain ⟨b,d⟩:=TY (n:=Z c.ns) (dem x.g) (upL c.ns x.g.ten) L h λk a=>L9 _ _ _ _ a;exact⟨by rw[b,KM _ (aDO _)],d⟩
 .exact ⟨rfl,h⟩
def aNA(c:Con)(l:a7):aFc c l=ofL c l:=by
 have key:∀(l:a7) (L:Led),sQ L->l.foldl (CZ c) (mK (Z c.ns) L)=mK (Z c.ns) (l.foldl (xC c) L):=λl=>by
  induction l with
  |nil=>intro L _;rfl
  |cons x r b=>
   grind[WO]
 have a:mK (Z c.ns) []=Ak (Z c.ns) V3.zero:=by refine Ez λj=>?_;rw[HN,Ht];rfl
 unfold aFc ofL;rw[<-a,key l [] (by simp[sQ])]
def aCj(c:Con)(k:c.sm)(R:ax):∀(m i:Nat) (a:ax),i+m=Z c.ns->Z a<=i->a++lvF c.ns m i=R->
  BC (Eo [3] []) f340 (CA 1 (iv R) J0) [(1,G2 0 0),(3,CA 1 (iv a) (.own 1 0)),(4,GE Is i)] [Do 30 c.cs,Fr 0 1 3]:=by
 have g:Z (nav c.ns)=Z c.ns:=by simp
 have h1:=k.ns;intro m;induction m with
 |zero=>
  intro i a n o b;unfold lvF at b;rw[Ap]at b;subst b;exact tA
 |succ m j=>
  intro i a n o b;have l:Z (iv a)=Z a:=by simp
  have f:=kX c k i;rw[tF]at f;unfold lvF at b;refine gV ?_;refine aT λh=>gV ?_;refine .p f (gV ?_);refine Aa (λd=>?_) (λd=>?_)
  .have d:bB c.ns (i:Int)=true:=d;rw[bu d]at b;have next:=j (i+1) (a++[(i:Int)]) o_ q_ (by rw[Ag];exact b)
   have e:iv (a++[(i:Int)])=iv a++[ii i]:=by simp
   rw[e]at next
   exact zW
  .have d:bB c.ns (i:Int)=false:=d;rw[bt (by rw[d];decide)]at b;have next:=j (i+1) a o_ o_ b
   exact zW
def aKe(c:Con)(b:c.sm):bj 340 [c.av] (CA 1 (iv (mE c.ns)) J0):=by refine gA (Eo [3] []) f340 λ_=>?_;have a:=aCj c b _ (Z c.ns) 0 [] o_ s_ rfl;exact zW
def VE(c:Con)(r:c.sm)(R:ax):∀(f:Nat) (n:Int) (b:ax) (tk:Tk),(tk= .nil\/tk=J0)->(0<=n->n.toNat<f)->(0<=n->n.toNat<Z c.ns->Z b+n.toNat<1048577)->(upF c.ns f n).reverse++b=R->
  BC E f180 (CA 1 (iv R) J0) [(1,ii n),(2,G2 0 0),(5,CA 1 (iv b) tk)] [Do 30 c.cs]:=by
 have m:Z (nav c.ns)=Z c.ns:=by simp
 have o:=r.ns;intro f;induction f with
 |zero=>
  intro n b tk k g e a;have j:Z (iv b)=Z b:=by simp
  have h1:¬ 0<=n:=λh=>by have:=g h;omega
  have a:b=R:=a;subst a;rcases k with rfl|rfl
  .exact tA
  .exact tA
 |succ f l=>
  intro n b tk k g e a;have j:Z (iv b)=Z b:=by simp
  unfold upF at a;rcases k with rfl|rfl
  .exact zqra0
  .exact zqra0
def tE(c:Con)(a:c.sm)(n:Int):bj 180 [c.av,ii n] (CA 1 (iv (bP c.ns n)) J0):=by have b:=a.ns;refine c_ f180 λ_=>gV ?_;refine To.part [1,2,5] [0] rfl rfl rfl ?_;exact VE c a _ (n.toNat+1) n [] .nil (.inl rfl) (λ_=>by omega) (λ_ _=>by simp;omega) (by unfold bP upL;simp)
def ZC(ns:bc):∀(f:Nat) (n:Int),Z (upF ns f n)<=n.toNat+1/\Z (upF ns f n)<=f
 |0,n=>by simp[upF]
 |f+1,n=>by
  unfold upF;split
  .split
   .split
    .simp
    .rename_i b h1 a;have d:=ZC ns f (ns[n.toNat]).p;have a:¬ n<=(ns[n.toNat]).p:=λh=>a (bq h);have b:=bn b;simp only[Al];refine⟨?_,by omega⟩;by_cases c:0<=(ns[n.toNat]).p
     .omega
     .have e:(upF ns f (ns[n.toNat]).p)=[]:=by
       cases f with
       |zero=>rfl
       |succ f=>
          unfold upF;rw[bt (by rw[bp c];decide)]
      rw[e];simp
   .simp
  .simp
def Y9(ns:bc)(n:Int):Z (upL ns n)<=Z ns:=by
 by_cases h:0<=n/\n.toNat<Z ns
 .have:=(ZC ns (n.toNat+1) n).1;unfold upL;omega
 .unfold upL upF;by_cases a:0<=n
  .rw [bu (bq a),dif_neg o_];simp
  .rw [bt (by rw[bp a];decide)];simp
def pT(ns:bc)(n:Int):Z (bP ns n)<=Z ns:=by unfold bP;rw[Ip];exact Y9 ns n
def onB(ns:bc)(n t:Int):Bool:=(bP ns t).any λx=>x==n
def aPi(ns:bc)(n t:Int):onB ns n t=decide (n∈upL ns t):=by unfold onB bP;rw[List.any_reverse,Gk];simp
def aE9(c:Con)(n:Int)(l:ax)(hl:Z l<=1048576)(r:Bool):∀(m i:Nat),i+m=Z l->((l.drop i).any λx=>x==n)=r->
  BC E f341 (DA r) [(1,ii n),(7,CA 1 (iv l) J0),(8,ii i)] [Do 30 c.cs]:=by
 have f:Z (iv l)=Z l:=by simp
 intro m;induction m with
 |zero=>
  intro i g a;rw[Ae o_]at a;have a:S=r:=a;subst a;exact tA
 |succ m e=>
  intro i g a;have d:i<Z l:=o_;rw[Ac d,Hj]at a;have get:=cD d;generalize l[i]=x at a get;have e:=e (i+1) o_;refine gV ?_;refine aT λh=>gV ?_;refine⟨i,rfl,gV ?_⟩;refine⟨_,get,gV ?_⟩;refine Aa (λb=>?_) (λb=>?_)
  .have b:(x==n)=true:=b;rw[b]at a;have a:O=r:=a;subst a;exact zW
  .have b:(x==n)=false:=b;rw[b,Kj]at a
   repeat' first|refine pA ?_|exact rfl|refine lA ?_ ?_|intro h
   exact To.cut [1,7,8] 1 rfl rfl rfl rfl (e a)
def aOJ(c:Con)(a:c.sm)(n t:Int):bj 341 [c.av,ii n,ii t] (DA (onB c.ns n t)):=by
 have h1:=pT c.ns t;have b:=a.ns;have hp:=tE c a t;unfold onB;generalize bP c.ns t=l at h1 hp;refine c_ f341 λ_=>?_
 repeat' first|refine pA ?_|refine .p hp ?_|exact rfl|refine lA ?_ ?_|intro h
 exact To.cut [1,7,8] 1 rfl rfl rfl rfl (aE9 c n l o_ _ (Z l) 0 o_ rfl)
def QG(c:Con)(q:c.sm)(n:Int)(l:ax)(hl:Z l<=1048576)(R:ax):∀(m i:Nat) (a:ax),i+m=Z l->Z a<=i->a++(l.drop i).flatMap (wF c.ns n)=R->
  BC (Eo [5] []) f304 (CA 1 (iv R) J0) [(1,ii n),(2,G2 0 0),(5,CA 1 (iv a) (.own 1 0)),(6,CA 1 (iv l) J0),(7,ii i)] [Do 30 c.cs,Fr 0 1 3]:=by
 have j:Z (iv l)=Z l:=by simp
 intro m;induction m with
 |zero=>
  intro i a o p b;exact zqra5
 |succ m h=>
  intro i a o p b;have k:Z (iv a)=Z a:=by simp
  have f:i<Z l:=o_;rw[Ac f,List.flatMap_cons]at b;have get:=cD f;generalize l[i]=x at b get;have d:=aOJ c q n x;rw[aPi]at d;unfold wF at b;by_cases g:n∈upL c.ns x
  .rw [bu g]at b;rw[bq g]at d;have next:=h (i+1) (a++[x]) o_ q_ (by rw[Ag];exact b)
   have e:iv (a++[x])=iv a++[ii x]:=by simp
   rw[e]at next
   exact tA
  .rw [bt g]at b;rw[bp g]at d;have next:=h (i+1) a o_ o_ b
   exact tA
def AR(c:Con)(b:c.sm)(n:Int):bj 304 [c.av,ii n] (CA 1 (iv (bE c.ns n)) J0):=by have e:=b.ns;have h1:Z (mE c.ns)<=Z c.ns:=DQ c.ns (Z c.ns) 0;have a:=aKe c b;unfold bE;generalize mE c.ns=l at h1 a;refine gA (Eo [5] []) f304 λ_=>?_;have d:=QG c b n l o_ _ (Z l) 0 [] o_ s_ rfl;exact zW
def aCd(c:Con)(l:a8)(b:ax)(k:Z b<=1048576)(R:V3):∀(m i:Nat) (v:V3),i+m=Z b->(b.drop i).foldl (smS l) v=R->
  BC E f246 R.av [(2,CA 3 (vav l) J0),(6,G2 1 0),(7,G2 2 0),(8,CA 1 (iv b) J0),(9,ii i)] [Do 30 c.cs,Do 43 V3.zero.cs,Do 43 v.cs]:=by
 have g:Z (iv b)=Z b:=by simp
 intro m;induction m with
 |zero=>
  intro i v j a;rw[Ae o_]at a;have a:v=R:=a;subst a;exact tA
 |succ m h=>
  intro i v j a;have d:i<Z b:=o_;rw[Ac d,Ao]at a;have get:=cD d;generalize b[i]=x at a get;have e:=yT l x;have next:=h (i+1) (smS l v x) o_ a
  unfold smS at next
  generalize atV l x=u at e next
  have f:=lZ v u;generalize dZ v u=q at f next
  exact tA
def Z1(c:Con)(d:c.sm)(n:Int)(l:a8):bj 246 [c.av,ii n,CA 3 (vav l) J0] ((iY c.ns n l).av):=by
 have h1:=mM c d n;have a:=AR c d n;unfold iY;generalize bE c.ns n=b at h1 a;refine c_ f246 λ_=>?_
 repeat' first|refine pA ?_|refine .p a ?_|exact rfl|refine lA ?_ ?_|intro h
 exact To.cut [2,6,7,8,9] 3 rfl rfl rfl rfl (aCd c l b h1 _ (Z b) 0 V3.zero o_ rfl)
def E4{c:Con}{i:Nat}(h:i<Z c.ns):(nav c.ns)[i]? =X (cH c.ns (i:Int)).av:=by unfold cH;rw[Bm,Ab h];exact fP h
def aCg(c:Con)(g:c.sm)(n:Int):∀(m i:Nat) (a:a8),i+m=Z c.ns->a=(Df i).map (λj:Nat=>(cH c.ns (j:Int)).n)->
  To (Eo [5] []) f248 (.pure (Io (iY c.ns n (mB c.ns)).av)) (BB f248 [(1,ii n),(2,G2 0 0),(4,G2 1 0),(5,CA 3 (vav a) (.own 2 0)),(6,ii i)] [Do 30 c.cs,Do 43 V3.zero.cs,Fr 0 3 43]):=by
 have f:Z (nav c.ns)=Z c.ns:=by simp
 have k:=g.ns;intro m;induction m with
 |zero=>
  intro i a d b;have d:i=Z c.ns:=o_;have b:a=mB c.ns:=by rw[b,d];rfl
  subst b;have hs:=Z1 c g n (mB c.ns);generalize iY c.ns n (mB c.ns)=At at hs;exact tA
 |succ m o=>
  intro i a d b;have l:Z (vav a)=Z a:=by simp
  have h:Z a=i:=by rw[b];simp
  have get:=E4 (c:=c) (i:=i) o_;have next:=o (i+1) (a++[(cH c.ns (i:Int)).n]) o_ (by rw[b,Ix,Bh];rfl)
  have e:vav (a++[(cH c.ns (i:Int)).n])=vav a++[(cH c.ns (i:Int)).n.av]:=by simp
  rw[e]at next
  generalize cH c.ns (i:Int)=x at get next
  exact tA
def aJ9(c:Con)(b:c.sm)(n:Int):bj 248 [c.av,ii n] ((iY c.ns n (mB c.ns)).av):=by refine gA (Eo [5] []) f248 λ_=>?_;have a:=aCg c b n (Z c.ns) 0 [] o_ rfl;exact zW
def VI(c:Con)(d:a8)(t:Int)(b:ax)(D:Z b<=1048576)(u:∀x∈b,c.ok x)(R:V3):∀(m i:Nat) (v:V3),i+m=Z b->(b.drop i).foldl (zD c.ns d t) v=R->
  BC E f247 R.av [(1,CA 3 (vav d) J0),(3,ii t),(4,G2 0 0),(8,G2 1 0),(9,G2 2 0),(10,CA 1 (iv b) J0),(11,ii i)] [Do 30 c.cs,Do 43 V3.zero.cs,Do 43 v.cs]:=by
 have y:Z (iv b)=Z b:=by simp
 intro m;induction m with
 |zero=>
  intro i v z g;rw[Ae o_]at g;have g:v=R:=g;subst g;exact tA
 |succ m A=>
  intro i v z g;have j:i<Z b:=o_;have f:=u _ (Av j);rw[Ac j,Ao]at g;have get:=cD j;generalize b[i]=s at g get f;have next:=A (i+1) (zD c.ns d t v s) o_ g
  unfold zD at next
  by_cases h1:s=t
  .subst h1;rw[bu (bq rfl)]at next
   have hst:(s==s)=true:=by simp
   exact tA
  .rw [bt (by rw[bp h1];decide)]at next
   have hst:(s==t)=false:=by simp[h1]
   obtain⟨H,B⟩:=f;have w:s=(s.toNat:Int):=o_;have e:=E4 (c:=c) (i:=s.toNat) B;rw[<-w]at e;generalize cH c.ns s=x at e next
   have o:=MR x.n x.l;generalize xY x.n x.l=q1 at o next
   have q:=yT d s;generalize atV d s=q2 at q next
   have p:=MR q1 q2;generalize xY q1 q2=q3 at p next
   have k:=lZ v (aCB q3);generalize r:aCB q3=q4 at k next
   have G:max q3.a 0=q4.a:=by rw[<-r];rfl
   have F:max q3.b 0=q4.b:=by rw[<-r];rfl
   have C:max q3.c 0=q4.c:=by rw[<-r];rfl
   subst r;generalize dZ v (aCB q3)=q5 at k next
   refine gV ?_;refine aT λh=>?_
   repeat' first
    |exact To.cut [1,3,4,8,9,10,11] 3 rfl rfl rfl rfl next
    |(refine gW hE ?_;conv=>whnf)
    |refine Aj s.toNat (Aa w ?_)
    |refine Aj _ (Aa e ?_)
    |refine Aj i (Aa rfl ?_)
    |refine Aj _ (Aa get ?_)
    |refine Aa (λh=>bv h (by rw[hst];decide)) (λh=>?_)
    |refine .p o ?_
    |refine .p q ?_
    |refine .p p ?_
    |refine .p k ?_
    |refine aY ?_
    |refine aN ?_
    |refine aJ ?_
    |refine Aj _ (Aa rfl ?_)
    |refine Aa d_ ?_
    |fail
def aFf(c:Con)(i:c.sm)(a:a8)(n t:Int):bj 247 [c.av,CA 3 (vav a) J0,ii n,ii t] ((zG c.ns a n t).av):=by
 have h1:=mM c i n;have d:=AR c i n;have e:∀x∈bE c.ns n,c.ok x:=λx j=>iW c n x j;unfold zG;generalize bE c.ns n=b at h1 d e;refine c_ f247 λ_=>?_
 repeat' first|refine pA ?_|refine .p d ?_|exact rfl|refine lA ?_ ?_|intro h
 exact To.cut [1,3,4,8,9,10,11] 3 rfl rfl rfl rfl (VI c a t b h1 e _ (Z b) 0 V3.zero o_ rfl)
def aCi(c:Con)(f:c.sm)(a:a8)(t:Int)(need:V3)(nd:V3)(l:ax)(hl:Z l<=1048576)(r:Bool):∀(m i:Nat),i+m+1=Z l->(((l.drop i).take m).all λx=>YS c a need t x)=r->
  BC E f175 (DA r) [(1,CA 3 (vav a) J0),(2,ii t),(4,G2 0 0),(7,G2 1 0),(10,CA 1 (iv l) J0),(11,ii i)] [Do 30 c.cs,Do 43 need.cs]:=by
 have g:Z (iv l)=Z l:=by simp
 intro m;induction m with
 |zero=>
  intro i k b;rw[List.take_zero]at b;have b:O=r:=b;subst b;exact tA
 |succ m o=>
  intro i k b;have d:i<Z l:=o_;rw[Ac d,List.take_succ_cons,Hi]at b;have get:=cD d;generalize l[i]=x at b get;have next:=o (i+1) o_
  unfold YS at b;have h1:=Z1 c f x a;generalize iY c.ns x a=q1 at h1 b;have p:=lZ q1 need;generalize dZ q1 need=q2 at p b;have h3:=aFf c f a x t;generalize zG c.ns a x t=q3 at h3 b;have n:=lZ q2 q3;generalize dZ q2 q3=q4 at n b;have j:=aJ9 c f x;generalize iY c.ns x (mB c.ns)=q5 at j b;have h:=mT q4 q5;cases e:bY q4 q5 with
  |false=>
   rw[e]at h b;have b:S=r:=b;subst b;exact tA
  |true=>
   rw[e,Bt]at b;rw[e]at h;have next:=next b
   exact tA
theorem OZ{ns:bc}{t:Int}(a:0<=t)(h1:t.toNat<Z ns):∃r,upL ns t=t::r:=by
 unfold upL upF;rw[bu (bq a),dif_pos h1];split
 all_goals (exact⟨_,rfl⟩)
def tP{ns:bc}{t:Int}(h:bB ns t=O):0<=t/\t.toNat<Z ns:=by exact zqra3
def aCM(c:Con)(d:a8)(t:Int)(need:V3)(r:ax)(j:upL c.ns t=t::r):(upL c.ns t).all (NK c d t need)=(aCE c d need t&&((bP c.ns t).take (Z (bP c.ns t)-1)).all λx=>YS c d need t x):=by
 have f:=L8 c.ns (t.toNat+1) t;have f:(upL c.ns t).Pairwise λa b=>b<a:=f;unfold bP;rw[j]at f⊢;rw[Hi];unfold NK;rw[bu (bq rfl)];congr 1;have e:(Fi (Z (t::r).reverse-1) (t::r).reverse)=r.reverse:=by rw[Jo,Ah,Ip];show Fi (Z r+1-1) _=_;rw[Nat.add_sub_cancel,Eh s_];exact Bq s_
 rw[e,List.all_reverse];rw[Gk,Ck,Ck];have i:∀x∈r,¬ x=t:=λx g=>by have:=(Bp.1 f).1 x g;omega
 constructor
 .intro h x g;have:=h x g;rwa [bt (by rw[bp (i x g)];decide)]at this
 .intro h x g;rw[bt (by rw[bp (i x g)];decide)];exact h x g
def aCe(c:Con)(m:c.sm)(a:a8)(t:Int)(need:V3)(r:Bool)(d:C0 c a t need=r):bj 175 [c.av,CA 3 (vav a) J0,ii t,need.av] (DA r):=by
 have j:=kX c m t;rw[tF]at j;unfold C0 at d;cases k:bB c.ns t with
 |false=>
  rw[k]at j;rw[bt (by rw[k];decide)]at d;subst d;exact c_ f175 λ_=>zW
 |true=>
  rw[k]at j;rw[bu k]at d;obtain⟨B,u⟩:=tP k;obtain⟨C,w⟩:=OZ B u;rw[aCM c a t need C w]at d;have s:=pT c.ns t;have p:0<Z (bP c.ns t):=by unfold bP;rw[w];simp
  have hp:=tE c m t;generalize bP c.ns t=l at d s hp p;have z:=m.ns;have v:t=(t.toNat:Int):=o_;have e:=E4 (c:=c) (i:=t.toNat) u;rw[<-v]at e;unfold aCE at d;generalize cH c.ns t=x at e d;have h1:=yT a t;generalize atV a t=q1 at h1 d;have y:=lZ q1 need;generalize dZ q1 need=q2 at y d;have h3:=lZ x.n x.b;generalize dZ x.n x.b=q3 at h3 d;have q:=mT q2 q3;cases o:bY q2 q3 with
  |false=>
   rw[o]at q d;have d:S=r:=d;subst d;exact c_ f175 λ_=>zW
  |true=>
   rw[o,Bt]at d;rw[o]at q;refine c_ f175 λ_=>?_
   repeat' first|refine pA ?_|refine .p j ?_|refine⟨t.toNat,v,?_⟩|refine⟨_,e,?_⟩|refine .p h1 ?_|refine .p y ?_|refine .p h3 ?_|refine .p q ?_|refine .p hp ?_|exact rfl|refine lA ?_ ?_|intro h
   exact To.cut [1,2,4,7,10,11] 2 rfl rfl rfl rfl (aCi c m a t need need l o_ r (Z l-1) 0 o_ d)
def aE2(c:Con)(b:c.sm)(a:a8)(t:Int)(need:V3):bj 175 [c.av,CA 3 (vav a) J0,ii t,need.av] (DA (C0 c a t need)):=aCe c b a t need _ rfl
abbrev ofO(c:Con)(xs:a8):aw:=[Do 30 c.cs,.row 0 3 43 (vav xs)]
def aOK(c:Con)(l:a7)(R:a8)(x:Rn)(j:Nat)(F:j<1048576)(C:(rav l)[j]? =X x.av)(p:ax)(B:Z p<=1048576)(h:∀k∈p,0<=k/\k.toNat<Z c.ns):
  ∀(m i:Nat) (xs:a8),Z xs=Z c.ns->i+m=Z p->
   BC E f124 (CA 3 (vav R) J0) [(1,CA 14 (rav l) J0),(2,G2 0 0),(5,.row 1 0),(6,ii ((j:Int)+1))] (ofO c ((p.drop i).foldl (wH (dem x.g)) xs))->
  To E f124 (.pure (Io (CA 3 (vav R) J0))) (G0 (stk f124 1) [(1,CA 14 (rav l) J0),(2,G2 0 0),(5,.row 1 0),(6,ii j),(7,CA 1 (iv p) J0),(8,ii i)] (ofO c xs)):=by
 have n:Z (iv p)=Z p:=by simp
 have r:Z (rav l)=Z l:=by simp
 intro m;induction m with
 |zero=>
  intro i xs e t a;rw[Ae o_]at a;exact tA
 |succ m y=>
  intro i xs e t a;have b:i<Z p:=o_;obtain⟨w,z⟩:=h _ (Av b);rw[Ac b,Ao]at a;have get:=cD b;generalize p[i]=k at a get w z;have D:k=(k.toNat:Int):=o_;have v:Z (vav xs)=Z xs:=by simp
  have next:=y (i+1) (wH (dem x.g) xs k) (by rw[UO];exact e) o_ a
  have f:k.toNat<Z xs:=o_;have s:(vav xs)[k.toNat]? =X xs[k.toNat].av:=kN f;unfold wH at next
  rw[Ab f,show((X xs[k.toNat]).getD V3.zero)=xs[k.toNat]from rfl]at next
  generalize xs[k.toNat]=u at s next
  have o:=MX x.g;generalize dem x.g=d at o next a
  have A:=lZ u d;generalize dZ u d=q at A next
  unfold ofO at next
  rw[<-L5]at next
  exact tA
def aJ8(c:Con)(j:c.sm)(l:a7)(hl:Z l<=1048576)(R:a8):∀(m i:Nat) (xs:a8),i+m=Z l->Z xs=Z c.ns->(l.drop i).foldl (CZ c) xs=R->
  BC E f124 (CA 3 (vav R) J0) [(1,CA 14 (rav l) J0),(2,G2 0 0),(5,.row 1 0),(6,ii i)] (ofO c xs):=by
 have o:Z (rav l)=Z l:=by simp
 have q:=j.ns;intro m;induction m with
 |zero=>
  intro i xs t h b;rw[Ae o_]at b;subst b;exact tA
 |succ m u=>
  intro i xs t h b;have d:i<Z l:=o_;rw[Ac d,Ao]at b;have get:(rav l)[i]? =X l[i].av:=cB d;generalize l[i]=x at b get;have next:=u (i+1) (CZ c xs x) o_ (by rw[aFa];exact h) b
  have a:=kX c j x.g.ten;rw[tF]at a;unfold CZ at next
  cases f:bB c.ns x.g.ten with
  |false=>
   rw[f]at a;rw[bt (by rw[f];decide)]at next
   exact tA
  |true=>
   rw[f]at a;rw[bu f]at next
   have hp:=tE c j x.g.ten;have n:=pT c.ns x.g.ten;have e:∀k∈bP c.ns x.g.ten,0<=k/\k.toNat<Z c.ns:=λk r=>L9 _ _ _ _ (Il.1 r);generalize bP c.ns x.g.ten=p at hp n e next
   have s:=aOK c l R x i o_ get p o_ e (Z p) 0 xs h o_ next
   exact tA
def MS(c:Con)(b:c.sm)(l:a7)(hl:Z l<=1048576):bj 124 [c.av,CA 14 (rav l) J0] (CA 3 (vav (ofL c l)) J0):=by
 have h1:=b.ns;have a:Z (nav c.ns)=Z c.ns:=by simp
 rw[<-aNA];have next:=aJ8 c b l hl (aFc c l) (Z l) 0 (Ak (Z c.ns) V3.zero) o_ s_ rfl
 unfold ofO at next
 rw[show vav (Ak (Z c.ns) V3.zero)=Ak (Z c.ns) (aa.agg [ii 0,ii 0,ii 0])from by simp[vav,V3.av,V3.zero,V3.cs]]at next
 generalize aFc c l=R at next
 refine c_ f124 λ_=>gV ?_;refine⟨Z c.ns,by rw[a],gV ?_⟩;refine⟨⟨rfl,by omega,by simp only[maxLen];omega⟩,?_⟩;exact zW
def aFm(c:Con)(r:a7)(R:a8)(x:Rn)(j:Nat)(y:j<1048576)(f:(rav r)[j]? =X x.av)(v:Z x.hs<=1048576)(z:Z c.hs<=1048576):
  ∀(m i:Nat) (xs:a8),Z xs=Z c.hs->i+m=Z x.hs->
   To (Er [5] []) f178 (.pure (Io (CA 3 (vav R) J0))) (G0 (stk f178 1) [(1,CA 14 (rav r) J0),(5,.row 1 0),(7,ii ((j:Int)+1))] (ofO c ((x.hs.drop i).foldl (qF x.g.need) xs)))->
  To (Er [5] []) f178 (.pure (Io (CA 3 (vav R) J0))) (G0 (stk f178 2) [(1,CA 14 (rav r) J0),(5,.row 1 0),(7,ii j),(8,ii i)] (ofO c xs)):=by
 have l:Z (iv x.hs)=Z x.hs:=by simp
 have n:Z (rav r)=Z r:=by simp
 intro m;induction m with
 |zero=>
  intro i xs b p a;rw[Ae o_]at a;exact zqra2
 |succ m t=>
  intro i xs b p a;have e:i<Z x.hs:=o_;rw[Ac e,Ao]at a;have get:=cD e;generalize x.hs[i]=u0 at a get;have s:Z (vav xs)=Z xs:=by simp
  have next:=t (i+1) (qF x.g.need xs u0) (by rw[qE];exact b) o_ a
  unfold qF ofO at next
  by_cases h1:0<=u0
  .rw [bu (bq h1)]at next
   by_cases k:u0<(Z xs:Int)
   .rw [bu (bq k)]at next
    have d:u0.toNat<Z xs:=o_;have w:u0=(u0.toNat:Int):=o_;rw[Ab d]at next
    have o:(vav xs)[u0.toNat]? =X xs[u0.toNat].av:=kN d;rw[show((X xs[u0.toNat]).getD V3.zero)=xs[u0.toNat]from rfl]at next
    generalize xs[u0.toNat]=u at o next
    have h:=MR u x.g.need;generalize xY u x.g.need=q at h next
    rw[<-L5]at next
    exact zqra2
   .rw [bt (by rw[bp k];decide)]at next
    exact zqra2
  .rw [bt (by rw[bp h1];decide)]at next
   exact zqra2
def aCm(c:Con)(n:c.sm)(r:a7)(f:Sm r)(R:a8):∀(m i:Nat) (xs:a8),i+m=Z r->Z xs=Z c.hs->(r.drop i).foldl wN xs=R->
  To (Er [5] []) f178 (.pure (Io (CA 3 (vav R) J0))) (G0 (stk f178 1) [(1,CA 14 (rav r) J0),(5,.row 1 0),(7,ii i)] (ofO c xs)):=by
 have h:Z (rav r)=Z r:=by simp
 have hl:=f.1;intro m;induction m with
 |zero=>
  intro i xs j d b;rw[Ae o_]at b;subst b;exact tA
 |succ m k=>
  intro i xs j d b;have a:i<Z r:=o_;have g:=f.at a;rw[Ac a,Ao]at b;generalize l:r[i]=x at b g;have get:(rav r)[i]? =X x.av:=(cB a).trans (by rw[l]);have next:=k (i+1) (wN xs x) o_ (by rw[vQ];exact d) b
  refine gV ?_;have e:=aFm c r R x i o_ get g n.hs (Z x.hs) 0 xs d o_ next
  exact zW
def VN(c:Con)(f:c.sm)(r:a7)(g:Sm r):∀(m i:Nat) (xs:a8),i+m=Z c.hs->xs=(Df i).map (λj:Nat=>(bC c.hs (j:Int)).c)->
  BC (Er [5] []) f178 (CA 3 (vav (iB c r)) J0) [(1,CA 14 (rav r) J0),(2,G2 0 0),(5,.row 1 0),(6,ii i)] (ofO c xs):=by
 have d:Z (hav c.hs)=Z c.hs:=by simp
 have h1:=f.hs;intro m;induction m with
 |zero=>
  intro i xs b a;have b:i=Z c.hs:=o_;subst b;have next:=aCm c f r g (iB c r) (Z r) 0 xs o_ (by rw[a];simp) (by rw[a];rfl)
  exact tA
 |succ m n=>
  intro i xs b a;have l:Z xs=i:=by rw[a];simp
  have k:Z (vav xs)=Z xs:=by simp
  have h:(hav c.hs)[i]? =X (bC c.hs (i:Int)).av:=vN o_;have next:=n (i+1) (xs++[(bC c.hs (i:Int)).c]) o_ (by rw[a,Ix,Bh];rfl)
  unfold ofO at next
  have e:vav (xs++[(bC c.hs (i:Int)).c])=vav xs++[(bC c.hs (i:Int)).c.av]:=by simp
  rw[e]at next
  generalize bC c.hs (i:Int)=x at h next
  exact tA
def aFl(c:Con)(d:c.sm)(r:a7)(b:Sm r):bj 178 [c.av,CA 14 (rav r) J0] (CA 3 (vav (iB c r)) J0):=by refine gA (Er [5] []) f178 λ_=>?_;have a:=VN c d r b (Z c.hs) 0 [] o_ rfl;exact zW
def alB(c:Con)(lv a b:Int):Bool:=
 if lv=0 then decide (a=b)
 else if lv=1 then decide ((bC c.hs a).f=(bC c.hs b).f/\(bC c.hs a).b=(bC c.hs b).b/\(bC c.hs a).r=(bC c.hs b).r)
 else if lv=2 then decide ((bC c.hs a).f=(bC c.hs b).f/\(bC c.hs a).b=(bC c.hs b).b)
 else decide ((bC c.hs a).f=(bC c.hs b).f)
abbrev wD(c:Con)(lv a:Int):ax:=ofK (bC c.hs a) a lv
def OP(c:Con)(lv a b:Int)(d:0<=lv)(h3:lv<=3):alB c lv a b=decide (wD c lv a=wD c lv b):=by
 unfold alB wD ofK
 grind
def cZ(c:Con)(lv i:Int):List ax->Nat->Option Nat
 |[],_=>U
 |g::r,k=>if alB c lv (g.headD 0) i=O then X k else cZ c lv i r (k+1)
def rgS(c:Con)(lv:Int)(s:List ax)(i:Nat):List ax:=
 match cZ c lv (i:Int) s 0 with
 |some k=>s.set k ((s[k]?).getD []++[(i:Int)])
 |none=>s++[[(i:Int)]]
def rgL(c:Con)(lv:Int):List ax:=if decide (lv<0)=O then[]else if decide (3<lv)=O then[]else(Df (Z c.hs)).foldl (rgS c lv) []
def qB(c:Con)(lv:Int):Nat->List ax->List (ax×Nat)
 |_,[]=>[]
 |k,g::r=>(wD c lv (g.headD 0),k)::qB c lv (k+1) r
def F2(c:Con)(lv i:Int)(a:0<=lv)(h3:lv<=3):∀(s:List ax) (k:Nat),nE (qB c lv k s) (wD c lv i)=cZ c lv i s k
 |[],k=>rfl
 |g::r,k=>by
  unfold qB nE cZ;rw[OP c lv _ _ a h3,F2 c lv i a h3 r (k+1)]
  grind
def JZ(c:Con)(lv i:Int):∀(s:List ax) (k m:Nat),(∀g∈s,g≠[])->qB c lv m (s.set k ((s[k]?).getD []++[i]))=qB c lv m s
 |[],k,m,_=>by simp
 |g::r,0,m,h=>by
  have e:=h g s_;cases g with
  |nil=>exact bv rfl e
  |cons a t=>rfl
 |g::r,k+1,m,h=>by have b:=JZ c lv i r k (m+1) λx d=>h x (by simp[d]);show _::qB c lv (m+1) (r.set k ((r[k]?).getD []++[i]))=_;rw[b];rfl
def F1(c:Con)(lv i:Int):∀(s:List ax) (m:Nat),qB c lv m (s++[[i]])=qB c lv m s++[(wD c lv i,m+Z s)]
 |[],m=>rfl
 |g::r,m=>by
  show _::qB c lv (m+1) (r++[[i]])=_::(qB c lv (m+1) r++_)
  rw[F1 c lv i r (m+1)];simp only[Al];rw[show m+1+Z r=m+(Z r+1)from by omega]
theorem aOR(c:Con)(lv:Int)(f:0<=lv)(h3:lv<=3)(s:GSt)(i:Nat)(h1:s.1=qB c lv 0 s.2)(d:∀g∈s.2,g≠[]):
  (gpS c lv s i).2=rgS c lv s.2 i/\(gpS c lv s i).1=qB c lv 0 (rgS c lv s.2 i)/\∀g∈rgS c lv s.2 i,g≠[]:=by
 have e:=F2 c lv (i:Int) f h3 s.2 0;rw[<-h1]at e;unfold gpS rgS;have b:nE s.1 (ofK (bC c.hs (i:Int)) i lv)=cZ c lv (i:Int) s.2 0:=e;rw[b];cases cZ c lv (i:Int) s.2 0 with
 |some k=>
  refine⟨rfl,?_,λg a=>?_⟩
  .show s.1=_;rw[h1,JZ c lv i s.2 k 0 d]
  .rcases De a with a|rfl
   .exact d g a
   .simp
 |none=>
  refine⟨rfl,?_,λg a=>?_⟩
  .show s.1++_=_;rw[h1,F1,Bv]
  grind
def aFk(c:Con)(lv:Int):rgL c lv=gpL c lv:=by
 unfold rgL gpL;by_cases h1:lv<0
 .simp only[h1,decide_true,if_true]
 by_cases a:3<lv
 .grind
 simp only[h1,a,decide_false,if_false,Cy];have key:∀(l:a6) (s:GSt),s.1=qB c lv 0 s.2->(∀g∈s.2,g≠[])->l.foldl (rgS c lv) s.2=(l.foldl (gpS c lv) s).2:=λl=>by
  induction l with
  |nil=>intro s _ _;rfl
  |cons i r d=>
   grind[aOR]
 exact key _ ([],[]) rfl (λg b=>by simp at b)
def rrF(free need:V3):Nat->Int->Int
 |0,n=>n
 |f+1,n=>if bY (UQ need (n+1)) free=O then(if bY need free=O then rrF free need f (n+1)else n)else n
def rrI(free need:V3):Int:=rrF free need 16 0
def cC{v:V3}(h:aO v=O):(0<=v.a/\v.a<=1048576)/\(0<=v.b/\v.b<=1048576)/\(0<=v.c/\v.c<=1048576):=by unfold aO at h;simpa[Af,and_assoc]using h
def uP{a b:V3}:bY a b=O↔a.a<=b.a/\a.b<=b.b/\a.c<=b.c:=by
 unfold bY
 grind
theorem aMN{n m:Int}(h1: -m<=n)(a:n<=m):fZ n m=n:=by unfold fZ;omega
def aRz{x n:Int}(h1:0<=x)(a:x<=1048576)(h3:0<=n)(b:n<=16):0<=x*n/\x*n<=16777216:=by have c:x*n<=1048576*16:=Int.mul_le_mul a b h3 d_;exact⟨Ji h1 h3,by omega⟩
theorem aK6{x n:Int}(h1:0<=x)(a:x<=1048576)(h3:0<=n)(b:n<=16):H5 x n=x*n:=by
 have:=aRz h1 a h3 b;unfold H5
 grind[aMN]
def aBJ{need free:V3}(d:aO need=O){n:Int}(h:0<=n)(h1:n<=16):bY (UQ need n) free=O↔need.a*n<=free.a/\need.b*n<=free.b/\need.c*n<=free.c:=by
 obtain⟨⟨f,g⟩,⟨e,i⟩,j,k⟩:=cC d;rw[uP];show H5 need.a n<=free.a/\H5 need.b n<=free.b/\H5 need.c n<=free.c↔_
 grind[aK6]
def E1{m f k n:Int}(c:0<=k)(d:k<=f):n<=B1 m f k↔n<=m/\k*n<=f:=by
 unfold B1;by_cases h:0<k
 .rw [bu (bq h),Lg o_];have:=Int.le_ediv_iff_mul_le h (a:=n) (b:=f);rw[Int.mul_comm]at this;omega
 grind
def DI{free need:V3}(i:aO need=O)(d:bY need free=O)(n:Int):n<=dM free need↔n<=16/\need.a*n<=free.a/\need.b*n<=free.b/\need.c*n<=free.c:=by
 obtain⟨⟨g,_⟩,⟨f,_⟩,h,_⟩:=cC i;obtain⟨h1,e,h3⟩:=uP.1 d;unfold dM;rw[bu d,E1 h h3,E1 f e,E1 g h1]
 grind
def aE1{free need:V3}(b:aO need=O)(a:bY need free=O):∀(f:Nat) (n:Int),0<=n->n+f=16->n<=dM free need->rrF free need f n=dM free need
 |0,n,h0,h1,h2=>by
  have h3:=E2 free need;unfold rrF;omega
 |f+1,n,h0,h1,h2=>by
  unfold rrF;have hm:=aBJ (free:=free) b (n:=n+1) o_ o_;have c:=DI b a (n+1);by_cases h:bY (UQ need (n+1)) free=O
  .rw [bu h,bu a];exact aE1 b a f (n+1) o_ o_ (c.2 ⟨by omega,hm.1 h⟩)
  grind
def aRi{free need:V3}(b:aO need=O):rrI free need=dM free need:=by
 unfold rrI;by_cases a:bY need free=O
 .refine aE1 b a 16 0 d_ d_ ((DI b a 0).2 ?_);obtain⟨⟨e,_⟩,⟨d,_⟩,f,_⟩:=cC b;obtain⟨h1,c,h3⟩:=uP.1 a;simp only[Int.mul_zero];omega
 .unfold rrF dM;rw[bt a,bt a];split<;>rfl
def vH(c:Con)(a:Int):Prop:=0<=a/\a.toNat<Z c.hs
def aRI{c:Con}{a:Int}(h:vH c a):(hav c.hs)[a.toNat]? =X (bC c.hs a).av:=by have:=vN (c:=c) (i:=a.toNat) h.2;rwa [Hl h.1]at this
def aQP(c:Con):ak [0] [Do 30 c.cs]=[.fcells c.cs]:=by kernel_rfl
def aNk(c:Con)(lv a b:Int):xH [4] (aC [.fcells c.cs]) [(1,ii lv),(2,ii a),(3,ii b),(4,G2 0 0),(8,DA S)]=[(1,ii lv),(2,ii a),(3,ii b),(4,.ptr c.cs),(8,DA S)]:=by kernel_rfl
def D3{g:Goal}{ks:bg}(c:Con)(lv a b:Int)(h:To (Er [] [16,17,18,19,20]) f305 g (.code ks [(1,ii lv),(2,ii a),(3,ii b),(4,.ptr c.cs),(8,DA S)] [.fcells c.cs])):
  To (Er [] [16,17,18,19,20]) f305 g (.code ks [(1,ii lv),(2,ii a),(3,ii b),(4,G2 0 0),(8,DA S)] [Do 30 c.cs]):=by
 refine To.frz [4] [0] ?_;rw[aQP,aNk];exact h
def aDM(c:Con)(lv a b:Int)(s:0<=lv)(h3:lv<=3)(m:vH c a)(l:vH c b)(r:Bool)(d:alB c lv a b=r):bj 305 [c.av,ii lv,ii a,ii b] (DA r):=by
 have i:=aRI m;have e:=aRI l;have k:a=(a.toNat:Int):=by have:=m.1;omega
 have j:b=(b.toNat:Int):=by have:=l.1;omega
 unfold alB at d;generalize bC c.hs a=x at i d;generalize bC c.hs b=y at e d;by_cases p:lv=0
 .subst p;rw[bu rfl]at d;exact zqra1
 by_cases q:lv=1
 .subst q;rw[bt d_,bu rfl]at d;refine gA (Er [] [16,17,18,19,20]) f305 λ_=>?_;refine bO (hEr [] [16,17,18,19,20]) 10 ?_;conv=>whnf
  refine To.cutC [1,2,3,4,8] 1 rfl rfl rfl rfl ?_;refine D3 c _ a b ?_
  repeat' first|refine pA ?_|refine⟨a.toNat,k,?_⟩|refine⟨b.toNat,j,?_⟩|refine⟨_,i,?_⟩|refine⟨_,e,?_⟩|exact rfl|refine lA ?_ ?_|intro h
  all_goals (refine congrArg (λb=>Res.ret (aa.bool b)) ?_;rw[<-d];clear i e k j m l d;simp_all<;>rfl)
 by_cases o:lv=2
 .subst o;rw[bt d_,bt d_,bu rfl]at d;refine gA (Er [] [16,17,18,19,20]) f305 λ_=>?_;refine bO (hEr [] [16,17,18,19,20]) 10 ?_;conv=>whnf
  refine To.cutC [1,2,3,4,8] 1 rfl rfl rfl rfl ?_;refine D3 c _ a b ?_
  repeat' first|refine pA ?_|refine⟨a.toNat,k,?_⟩|refine⟨b.toNat,j,?_⟩|refine⟨_,i,?_⟩|refine⟨_,e,?_⟩|exact rfl|refine lA ?_ ?_|intro h
  all_goals (refine congrArg (λb=>Res.ret (aa.bool b)) ?_;rw[<-d];clear i e k j m l d;simp_all<;>rfl)
 have n:lv=3:=o_;subst n;rw[bt d_,bt d_,bt d_]at d;exact zqra1
def aIV(c:Con)(lv a b:Int)(g:0<=lv)(h3:lv<=3)(d:vH c a)(e:vH c b):bj 305 [c.av,ii lv,ii a,ii b] (DA (alB c lv a b)):=aDM c lv a b g h3 d e _ rfl
abbrev rgO(c:Con)(s:List ax):aw:=[Do 30 c.cs,.row 0 1 83 (gav s)]
abbrev rgF(lv:Int)(i:Int):au:=[(1,ii lv),(2,G2 0 0),(5,.row 1 0),(6,ii i)]
structure GH(c:Con)(i:Nat)(s:List ax):Prop where
 len:Z s<=i
 one:∀g∈s,Z g<=i/\∃a r,g=a::r/\vH c a
def GH.step{c:Con}{lv:Int}{i:Nat}{s:List ax}(h:GH c i s)(n:i<Z c.hs):GH c (i+1) (rgS c lv s i):=by
 obtain⟨h1,f⟩:=h;unfold rgS;split
 .rename_i k m;refine⟨by simp;omega,λg b=>?_⟩;rcases De b with b|rfl
  .obtain ⟨j,e⟩:=f g b;exact⟨by omega,e⟩
  .by_cases d:k<Z s
   .rw [Ab d];obtain⟨j,a,r,e,l⟩:=f _ (Av d);refine⟨by simp;omega,a,r++[(i:Int)],?_,l⟩;show s[k]++_=_;rw[e];rfl
   .rw [Bk o_];exact⟨by simp,(i:Int),[],rfl,⟨by omega,by omega⟩⟩
 .refine ⟨by simp;omega,λg b=>?_⟩;rcases Bx.1 b with b|b
  .obtain ⟨j,e⟩:=f g b;exact⟨by omega,e⟩
  .simp at b;subst b;exact⟨by simp,(i:Int),[],rfl,⟨by omega,by omega⟩⟩
def aLQ(l:List ax)(i:Nat)(x:ax):(gav l).set i (CA 1 (iv x) J0)=gav (l.set i x):=by simp[gav,Gb]
def aRl(c:Con)(lv:Int)(C:0<=lv)(h3:lv<=3)(i:Nat)(D:i<Z c.hs)(H:Z c.hs<=1048576)(G:Goal)(F:G= .pure G.res)(s:List ax)(hs:GH c i s):
  ∀(m k:Nat),k+m=Z s->
  To (Er [5] []) f250 (.pure G.res) (BB f250 (rgF lv ((i:Int)+1)) (rgO c (match cZ c lv (i:Int) (s.drop k) k with|some k=>s.set k ((s[k]?).getD []++[(i:Int)])|none=>s++[[(i:Int)]])))->
  To (Er [5] []) f250 (.pure G.res) (G0 (stk f250 1) (rgF lv (i:Int)++[(7,DA S),(8,ii k)]) (rgO c s)):=by
 have z:Z (gav s)=Z s:=by simp
 have hsl:=hs.len;intro m;induction m with
 |zero=>
  intro k A b;rw[Ae o_]at b;have b:To (Er [5] []) f250 (.pure G.res) (BB f250 (rgF lv ((i:Int)+1)) (rgO c (s++[[(i:Int)]]))):=b;have e:gav (s++[[(i:Int)]])=gav s++[CA 1 [ii i] J0]:=by simp[gav]
  unfold rgO at b;rw[e]at b;exact tA
 |succ m w=>
  intro k A b;have d:k<Z s:=o_;obtain⟨n,a,r,v,x⟩:=hs.one _ (Av d);rw[Ac d]at b;have q:s[k]? =X s[k]:=Ab d;have l:=aLQ s k (s[k]++[(i:Int)]);have get:(gav s)[k]? =X (CA 1 (iv s[k]) J0):=DW d;have w:=w (k+1) o_;have f:=aIV c lv a (i:Int) C h3 x ⟨by omega,by omega⟩;unfold cZ at b;rw[v]at n get;have y:Z r+1<=i:=by simpa using n
  have j:(iv (a::r))[0]? =X (ii a):=rfl;have u:(s[k]).headD 0=a:=by rw[v];rfl
  rw[u]at b;cases p:alB c lv a (i:Int)with
  |false=>
   rw[p]at f;rw[bt (by rw[p];decide)]at b;have next:=w b
   exact tA
  |true=>
   rw[p]at f;rw[bu p]at b;have b:To (Er [5] []) f250 (.pure G.res) (BB f250 (rgF lv ((i:Int)+1)) (rgO c (s.set k ((s[k]?).getD []++[(i:Int)])))):=b;rw[q]at b;have b:To (Er [5] []) f250 (.pure G.res) (BB f250 (rgF lv ((i:Int)+1)) (rgO c (s.set k (s[k]++[(i:Int)])))):=b;unfold rgO at b;rw[<-l,v,show iv ((a::r)++[(i:Int)])=iv (a::r)++[ii i]from by simp]at b;have g:Z ((gav s).set k (CA 1 (iv (a::r)++[ii i]) J0))=Z s:=by simp
   generalize B:(gav s).set k (CA 1 (iv (a::r)++[ii i]) J0)=At at b g;have o:To (Er [5] []) f250 (.pure G.res) (G0 (stk f250 1) (rgF lv (i:Int)++[(7,DA O),(8,ii ((k:Int)+1))]) [Do 30 c.cs,.row 0 1 83 At]):=by
    refine gV ?_
    repeat' first|refine pA ?_|exact rfl|refine lA ?_ ?_|intro h
    .exact zW
    .exact zW
   rw[<-B]at o;refine gV ?_;refine aT λh=>?_
   repeat' first|refine pA ?_|refine⟨k,rfl,?_⟩|refine⟨_,get,?_⟩|refine⟨_,j,?_⟩|refine .p f ?_|refine⟨⟨by simp only[maxLen];simp;omega,by simp;omega⟩,?_⟩|exact rfl|refine lA ?_ ?_|intro h
   exact zW
def aOQ(c:Con)(g:c.sm)(lv:Int)(h:0<=lv)(h3:lv<=3)(R:List ax):∀(n i:Nat) (s:List ax),i+n=Z c.hs->GH c i s->(List.range' i n).foldl (rgS c lv) s=R->
  BC (Er [5] []) f250 (CA 1 (gav R) J0) (rgF lv (i:Int)) (rgO c s):=by
 have h1:=g.hs;have b:Z (hav c.hs)=Z c.hs:=by simp
 intro n;induction n with
 |zero=>
  intro i s f hs a;have a:s=R:=a;subst a;exact tA
 |succ n e=>
  intro i s f hs a;rw[List.range'_succ,Ao]at a;have next:=e (i+1) (rgS c lv s i) o_ (hs.step o_) a
  refine gV ?_;have d:=aRl c lv h h3 i o_ h1 (.pure (Io (CA 1 (gav R) J0))) rfl s hs (Z s) 0 o_ next
  exact zW
def VL(c:Con)(e:c.sm)(lv:Int):bj 250 [c.av,ii lv] (CA 1 (gav (gpL c lv)) J0):=by
 have h1:=e.hs
 obtain⟨R,a⟩:∃R,R=gpL c lv:=⟨_,rfl⟩
 rw[<-a];rw[<-aFk]at a;unfold rgL at a;by_cases d:lv<0
 .rw [bu (bq d)]at a;exact zqra9
 rw[bt (by rw[bp d];decide)]at a;by_cases h:3<lv
 .rw [bu (bq h)]at a;exact zqra9
 rw[bt (by rw[bp h];decide),List.range_eq_range']at a;refine gA (Er [5] []) f250 λ_=>?_;have b:=aOQ c e lv o_ o_ R (Z c.hs) 0 [] o_ ⟨by simp,λg i=>by simp at i⟩ a.symm;exact zW
def VD(free need:V3)(r:Int):∀(m:Nat) (n:Int),0<=n->n+m=16->rrF free need m n=r->
  BC E f306 (ii r) [(2,G2 0 0),(3,G2 1 0),(5,ii n)] [Do 43 free.cs,Do 43 need.cs]:=by
 intro m;induction m with
 |zero=>
  intro n g e a;have a:n=r:=a;subst a;exact tA
 |succ m f=>
  intro n g e a;unfold rrF at a;have h1:=Z5 need (n+1);generalize UQ need (n+1)=q at h1 a;have b:=mT q free;have h3:=mT need free;cases d:bY q free with
  |false=>
   rw[d]at b;rw[bt (by rw[d];decide)]at a;subst a;refine gV ?_
   repeat' first|refine pA ?_|refine Aa (Aa (by simp only[bV];omega) (by simp only[aW];omega)) ?_|refine .p h1 ?_|refine .p b ?_|exact rfl|refine lA ?_ ?_|intro h
  |true=>
   rw[d]at b;rw[bu d]at a;cases c:bY need free with
   |false=>
    rw[c]at h3;rw[bt (by rw[c];decide)]at a;subst a;refine gV ?_
    repeat' first|refine pA ?_|refine Aa (Aa (by simp only[bV];omega) (by simp only[aW];omega)) ?_|refine .p h1 ?_|refine .p b ?_|refine .p h3 ?_|exact rfl|refine lA ?_ ?_|intro h
   |true=>
    rw[c]at h3;rw[bu c]at a;have next:=f (n+1) o_ o_ a
    refine gV ?_
    repeat' first|refine pA ?_|refine Aa (Aa (by simp only[bV];omega) (by simp only[aW];omega)) ?_|refine .p h1 ?_|refine .p b ?_|refine .p h3 ?_|exact rfl|refine lA ?_ ?_|intro h
    exact To.cut [2,3,5] 2 rfl rfl rfl rfl next
def aE0(free need:V3)(a:aO need=O):bj 306 [free.av,need.av] (ii (dM free need)):=by rw[<-aRi a];refine c_ f306 λ_=>gV ?_;exact To.cut [2,3,5] 2 rfl rfl rfl rfl (VD free need _ 16 0 d_ d_ rfl)
abbrev inO(c:Con)(g:Gan):aw:=[Do 30 c.cs,Do 45 g.cs,Fr 0 1 3]
abbrev inF(free:a8)(gr:ax)(out:ax)(i:Int):au:=[(1,CA 3 (vav free) J0),(2,CA 1 (iv gr) J0),(7,G2 1 0),(10,CA 1 (iv out) (.own 2 0)),(11,ii i)]
def aOP(c:Con)(free:a8)(g:Gan)(p:0<=g.pods/\g.pods<=16)(b:ax)(hl:Z b<=1048576)(G:Goal)(h:Int)(i:Nat)(o:i<1048576)(get:(iv b)[i]? =X (ii h)):∀(m:Nat) (k:Int) (out:ax),k<=16->(max (min k (g.pods-Z out)) 0).toNat=m->(Z out:Int)<=g.pods->
  To (Eo [10] []) f251 (.pure G.res) (BB f251 (inF free b (out++Ak m h) ((i:Int)+1)) (inO c g))->
  To (Eo [10] []) f251 (.pure G.res) (G0 (stk f251 1) (inF free b out (i:Int)++[(12,ii k)]) (inO c g)):=by
 have f:Z (iv b)=Z b:=by simp
 intro m;induction m with
 |zero=>
  intro k out j hm hp a;have d:Z (iv out)=Z out:=by simp
  rw[List.replicate_zero,Ap]at a;by_cases h1:0<k
  .exact tA
  .exact tA
 |succ m l=>
  intro k out j hm hp a;have d:Z (iv out)=Z out:=by simp
  have n:out++[h]++Ak m h=out++Ak (m+1) h:=by rw[Ag];rfl
  have next:=l (k-1) (out++[h]) o_ q_ q_ (by rw[n];exact a)
  have e:iv (out++[h])=iv out++[ii h]:=by simp
  unfold inF at next
  rw[e]at next
  exact tA
def aFh(c:Con)(free:a8)(g:Gan)(t:0<=g.pods/\g.pods<=16)(u:aO g.need=O)(a:ax)(hl:Z a<=1048576)(R:ax):∀(m i:Nat) (out:ax),i+m=Z a->(Z out:Int)<=g.pods->(a.drop i).foldl (inS free g) out=R->
  BC (Eo [10] []) f251 (F9 R g) (inF free a out (i:Int)) (inO c g):=by
 have n:Z (iv a)=Z a:=by simp
 have x:Z (vav free)=Z free:=by simp
 intro m;induction m with
 |zero=>
  intro i out s hp b;rw[Ae o_]at b;have b:out=R:=b;subst b;have o:Z (iv out)=Z out:=by simp
  obtain⟨Q,d⟩:∃Q,Q=F9 out g:=⟨_,rfl⟩
  rw[<-d];unfold F9 at d;by_cases h1:(Z out:Int)<g.pods
  .rw [bu (bq h1)]at d;subst d;exact tA
  .rw [bt (by rw[bp h1];decide)]at d;subst d;exact tA
 |succ m w=>
  intro i out s hp b;have h:i<Z a:=o_;rw[Ac h,Ao]at b;have f:=DT free g out a[i] hp;have get:=cD h;generalize a[i]=u0 at b f get;have next:=w (i+1) (inS free g out u0) o_ f b
  unfold inS at next
  by_cases h1:u0<0
  .rw [bu (bq h1)]at next
   exact tA
  .rw [bt (by rw[bp h1];decide)]at next
   by_cases l:(Z free:Int)<=u0
   .rw [bu (bq l)]at next
    exact tA
   .rw [bt (by rw[bp l];decide)]at next
    have e:u0.toNat<Z free:=o_;have y:u0=(u0.toNat:Int):=o_;rw[Ab e,show((X free[u0.toNat]).getD V3.zero)=free[u0.toNat]from rfl]at next
    have q:(vav free)[u0.toNat]? =X free[u0.toNat].av:=kN e;generalize free[u0.toNat]=v at q next
    have p:=aE0 v g.need u;have j:=E2 v g.need;unfold inN at next
    generalize dM v g.need=k at p j next
    have r:=aOP c free g t a hl (.pure (Io (F9 R g))) u0 i o_ get _ k out j rfl hp next
    exact tA
def aOO(c:Con)(free:a8)(g:Gan)(d:0<=g.pods/\g.pods<=16)(e:aO g.need=O)(a:ax)(hl:Z a<=1048576):bj 251 [c.av,CA 3 (vav free) J0,CA 1 (iv a) J0,g.av] (F9 (inL free g a) g):=by refine gA (Eo [10] []) f251 λ_=>?_;have b:=aFh c free g d e a hl _ (Z a) 0 [] o_ q_ rfl;exact zW
abbrev rfO(c:Con)(g:Gan):aw:=[Do 30 c.cs,Do 45 g.cs]
abbrev rfF(free:a8)(lv:Int):au:=[(1,CA 3 (vav free) J0),(3,G2 0 0),(5,G2 1 0),(9,ii lv)]
def aOS(c:Con)(D:c.sm)(free:a8)(g:Gan)(y:0<=g.pods/\g.pods<=16)(z:aO g.need=O)(lv:Int)(u:0<=lv)(s:lv<=3)(Q:Option (Int×ax))(b:List ax)(C:Z b<=1048576)(o:∀xs∈b,xs≠[]/\Z xs<=Z c.hs/\∀h∈xs,0<=h/\h<(Z c.hs:Int)):∀(m i:Nat),i+m=Z b->
  (∀x,fdG c free g (b.drop i)=X x->Q=X x)->(fdG c free g (b.drop i)=U->BC E f177 (fdA Q) (rfF free (lv+1)) (rfO c g))->
  To E f177 (.pure (Io (fdA Q))) (G0 (stk f177 1) (rfF free lv++[(10,CA 1 (gav b) J0),(11,ii i)]) (rfO c g)):=by
 have t:Z (gav b)=Z b:=by simp
 have B:=D.hs;intro m;induction m with
 |zero=>
  intro i v hs a;rw[Ae o_]at a;have next:=a rfl
  exact tA
 |succ m n=>
  intro i v hs a;have f:i<Z b:=o_;obtain⟨l,j,k⟩:=o _ (Av f);rw[Ac f]at hs a;have get:=DW f;generalize b[i]=gr at hs a get l j k;have n:=n (i+1) o_;have e:=aOO c free g y z gr o_;unfold fdG at hs a;unfold F9 at e;by_cases q:(Z (inL free g gr):Int)<g.pods
  .rw [bu (bq q)]at hs a e;have next:=n hs a
   exact tA
  .rw [bt (by rw[bp q];decide)]at hs a e;have A:=hs _ rfl;subst A
   match gr,l with
   |d::r,_=>
   have w:=k d s_;have F:(hav c.hs)[d.toNat]? =X (bC c.hs d).av:=by have:=vN (c:=c) (i:=d.toNat) o_;rwa [Hl w.1]at this
   have a:d=(d.toNat:Int):=o_;have p:(iv (d::r))[0]? =X (ii d):=rfl;exact tA
def aKh(c:Con)(f:c.sm)(free:a8)(g:Gan)(l:0<=g.pods/\g.pods<=16)(m:aO g.need=O):∀(n:Nat) (lv:Int),0<=lv->n=(min g.lev 3+1-lv).toNat->
  BC E f177 (fdA (fdL c free g n lv)) (rfF free lv) (rfO c g):=by
 intro n;induction n with
 |zero=>
  intro lv j k;by_cases h1:lv<=g.lev
  .exact tA
  .exact tA
 |succ n d=>
  intro lv j k;have d:=d (lv+1) o_ o_;have e:=W8 c lv;have o:=f.hs;have i:Z (gav (gpL c lv))=Z (gpL c lv):=by simp
  obtain⟨Q,b⟩:∃Q,Q=fdL c free g (n+1) lv:=⟨_,rfl⟩
  rw[<-b];unfold fdL at b;refine gV ?_;refine aT λh=>?_
  repeat' first|refine pA ?_|refine .p (VL c f lv) ?_|exact rfl|refine lA ?_ ?_|intro h
  refine To.cut [1,3,5,9,10,11] 2 rfl rfl rfl rfl ?_;refine aOS c f free g l m lv j o_ Q (gpL c lv) o_ e.2 (Z (gpL c lv)) 0 o_ (λx a=>?_) (λa=>?_)
  .have a:fdG c free g (gpL c lv)=X x:=a;rw[a]at b;exact b
  .have a:fdG c free g (gpL c lv)=none:=a;rw[a]at b;rw[b];exact d
def aFn(c:Con)(a:c.sm)(free:a8)(g:Gan)(b:0<=g.pods/\g.pods<=16)(d:aO g.need=O):bj 177 [c.av,CA 3 (vav free) J0,g.av] (fdA (wO c free g)):=by refine c_ f177 λ_=>gV ?_;exact To.cut [1,3,5,9] 2 rfl rfl rfl rfl (aKh c a free g b d _ _ o_ rfl)
def QM(c:Con)(e:c.sm)(l:a7)(hl:Sm l)(g:Gan)(n:0<=g.pods/\g.pods<=16)(m:aO g.need=O)(Q:Option (Int×ax))(a:cE c l g=Q):bj 119 [c.av,CA 14 (rav l) J0,g.av] (fdA Q):=by
 unfold cE at a;have hm:=aE2 c e (ofL c l) g.ten (dem g);have k:=MX g;generalize C0 c (ofL c l) g.ten (dem g)=b at a hm;generalize dem g=d at hm k;have h:=aFn c e (iB c l) g n m;have j:=aFl c e l hl;have i:=MS c e l hl.1;generalize iB c l=fr at h a j;generalize ofL c l=us at hm i;cases b with
 |false=>
  have a:U=Q:=a;subst a;exact zqra11
 |true=>
  have a:wO c fr g=Q:=a;rw[a]at h;unfold fdA at h⊢;cases Q with
  |none=>
   exact zqra11
  |some x=>
   exact zqra11
def mV(c:Con)(a:c.sm)(l:a7)(hl:Sm l)(g:Gan)(d:0<=g.pods/\g.pods<=16)(b:aO g.need=O):bj 119 [c.av,CA 14 (rav l) J0,g.av] (fdA (cE c l g)):=QM c a l hl g d b _ rfl
def M5(c:Con)(j:c.sm)(g:Gan)(k:0<=g.pods/\g.pods<=16)(l:aO g.need=O)(b:Bool)(i:(cE c [] g).isNone=b):bj 76 [c.av,g.av] (DA b):=by
 have a:=mV c j [] ⟨Bn _,λx h=>by simp at h⟩ g k l;generalize cE c [] g=Q at a i;subst i;unfold fdA at a;cases Q with
 |none=>
  refine c_ f76 λ_=>?_;have d:=aA.nil2 a;exact zW
 |some x=>
  refine c_ f76 λ_=>?_;have e:=aA.nil2 a;exact zW
def QL(c:Con)(a:c.sm)(g:Gan)(b:0<=g.pods/\g.pods<=16)(d:aO g.need=O):bj 76 [c.av,g.av] (DA (cE c [] g).isNone):=M5 c a g b d _ rfl
def P2(c:Con)(q:c.sm)(l:a7)(hs:Sm l)(g:Gan)(n:0<=g.pods/\g.pods<=16)(o:aO g.need=O)(b:ax)(p:Z b<=1048577)(R:Option Int):∀(m i:Nat),i+m=Z b->stF c l g (b.drop i)=R->
  BC E f132 (stA R) [(2,CA 14 (rav l) J0),(4,G2 0 0),(7,G2 1 0),(10,CA 1 (iv b) J0),(11,ii i)] [Do 30 c.cs,Do 45 g.cs]:=by
 have j:Z (iv b)=Z b:=by simp
 intro m;induction m with
 |zero=>
  intro i k a;rw[Ae o_]at a;have a:U=R:=a;subst a;exact tA
 |succ m h=>
  intro i k a;have d:i<Z b:=o_;rw[Ac d]at a;have get:=cD d;generalize b[i]=t at a get;unfold stF at a;have f:=aFJ l hs t;have e:=mV c q (atL l t) (YP hs t) g n o;generalize atL l t=lt at f e a;generalize cE c lt g=Q at e a;have h:=h (i+1) o_;unfold fdA at e;cases Q with
  |none=>
   have a:stF c l g (b.drop (i+1))=R:=a;have next:=h a
   exact tA
  |some x=>
   have a:X t=R:=a;subst a;exact tA
def QK(c:Con)(e:c.sm)(now:Int)(l:a7)(hs:Sm l)(g:Gan)(i:0<=g.pods/\g.pods<=16)(h:aO g.need=O):bj 132 [c.av,ii now,CA 14 (rav l) J0,g.av] (stA (mQ c now l g)):=by
 have a:=aDh l now;have h1:=hs.1;have d:=aFw l hs now;rw[<-S7]at d;unfold mQ;generalize zX l now=es at a d;have b:Z (iv es)=Z es:=by simp
 have next:=P2 c e l hs g i h (now::es) q_ _ (Z es+1) 0 s_ rfl
 exact c_ f132 λ_=>zW
def aLB(free:a8)(g:Gan)(c:0<=g.pods/\g.pods<=16)(a:ax):Z (inL free g a)<=16:=by
 have key:∀(l:ax) (out:ax),(Z out:Int)<=g.pods->(Z (l.foldl (inS free g) out):Int)<=g.pods:=λl=>by
  induction l with
  |nil=>intro out h;exact h
  |cons x r b=>intro out h;exact b _ (DT free g out x h)
 have:=key a [] q_;unfold inL;omega
def aA0{c:Con}{free:a8}{g:Gan}(a:0<=g.pods/\g.pods<=16){x:Int×ax}:∀{b:List ax},fdG c free g b=X x->Z x.2<=16
 |[],h=>by cases h
 |gr::r,h=>by
  unfold fdG at h;split at h
  .exact aA0 a h
  .cases h;exact aLB free g a gr
def aAZ{c:Con}{free:a8}{g:Gan}(a:0<=g.pods/\g.pods<=16){x:Int×ax}:∀{n:Nat} {lv:Int},fdL c free g n lv=X x->Z x.2<=16
 |0,lv,h=>by cases h
 |n+1,lv,h=>by
  unfold fdL at h;split at h
  .rename_i y b;cases h;exact aA0 a b
  .exact aAZ a h
def GK{c:Con}{l:a7}{g:Gan}(a:0<=g.pods/\g.pods<=16){x:Int×ax}(h:cE c l g=X x):Z x.2<=1048576:=by
 unfold cE at h;split at h
 .unfold wO at h;have:=aAZ a h;omega
 .cases h
end Go.Proofs.YtenkdioaefckoaaGreatDoor
namespace Go.AW
open Go.RowKit
def Mem.beginRow{M:Imm}{ob:Hs}{ac:aw}{w:World}(hm:Mem M ob ac w){k i l:Nat}{T e:TypeId}{cs:az}(z:ac[k]? =X (.cells T cs))(P:cs[i]? =X (.slice l [] .nil)):
  Mem M (ob++[[.slice U 0 0]]) (ac.set k (.cells T (cs.set i (.row (Z ac) 0)))++[.row 0 l e []]) w/\
   Ext M ob ac w M (ob++[[.slice U 0 0]]) (ac.set k (.cells T (cs.set i (.row (Z ac) 0)))++[.row 0 l e []]) w/\dH ob (ob++[[.slice U 0 0]]):=by
 have g:dH ob (ob++[[.slice U 0 0]]):=λj hs D=>⟨hs,by grind[Ai,Ad],List.prefix_refl _⟩
 have C:k<Z ac:=(Ad.1 z).1;have d:(ob++[[.slice U 0 0]])[Z ac]? =X [.slice U 0 0]:=by rw[<-hm.len];simp
 have A:at' (ob++[[.slice U 0 0]]) (Z ac) 0=X (.slice U 0 0):=by rw[cG d];rfl
 have m:∀{j:Nat} {c:ab},(ac.set k (.cells T (cs.set i (.row (Z ac) 0)))++[.row 0 l e []])[j]? =X c->
   (j=Z ac/\c= .row 0 l e [])\/(j=k/\c= .cells T (cs.set i (.row (Z ac) 0)))\/(j≠k/\j<Z ac/\ac[j]? =X c):=λ{j c} D=>by
  grind
 have t:∀{j b:Nat},aK (ob++[[.slice U 0 0]]) (ac.set k (.cells T (cs.set i (.row (Z ac) 0)))++[.row 0 l e []]) j b->aK ob ac j b:=λ{j b} ⟨c,hs,N,s,e3,e4⟩=>by
  rcases m N with⟨rfl,rfl⟩|⟨rfl,rfl⟩|⟨h1,p,h3⟩
  .rw [d]at e3;cases e3;cases e4
  .rw [Ai (by rw[hm.len];exact C)]at e3;exact⟨_,hs,z,rfl,e3,e4⟩
  .rw [Ai (by rw[hm.len];exact p)]at e3;exact⟨c,hs,h3,s,e3,e4⟩
 have K:∀(j:Nat) c,(ac.set k (.cells T (cs.set i (.row (Z ac) 0)))++[.row 0 l e []])[j]? =X c->∃hs,(ob++[[.slice U 0 0]])[j]? =X hs/\iM M (ob++[[.slice U 0 0]]) w hs c:=λj c D=>by
  rcases m D with⟨rfl,rfl⟩|⟨rfl,rfl⟩|⟨h1,p,h3⟩
  .have Q:dY M w (.slice U 0 0) l e []:=by
    refine⟨[],Go.World.ownsRow_nil w 0 _ _,?_,?_,?_,?_,?_⟩
    .intro u Be;simp at Be
    .intro x At;simp at At
    .intro q c V;simp[aM]at V
    .intro b I;cases I
    .intro b I;cases I
   exact⟨_,d,rfl,_,rfl,Q⟩
  .obtain ⟨hs,N,b,y,H,cv,B,L,J,r⟩:=hm.obj _ _ z;refine⟨hs,by grind[Ai],b,y,H,cv,B,by simpa using L,J,λn v a o f=>?_⟩;by_cases As:n=i
   .subst As;have F:n<Z cs:=(Ad.1 P).1;rw[Ay F]at f;cases f;have:=r n v _ o P;obtain⟨_,G⟩:=this.untok;have G:v= .slice U 0 0:=G;subst G;exact .row _ _ _ _ _ A
   .rw [Bf (Ne.symm As)]at f;exact(r n v a o f).mono (λ_ _ _ h=>h) g
  .obtain ⟨hs,N,s⟩:=hm.obj j c h3;refine⟨hs,by grind[Ai],?_⟩;cases c with
   |cells W cs'=>
    obtain⟨b,y,H,cv,B,L,J,r⟩:=s;exact⟨b,y,H,cv,B,L,J,λn v a o f=>(r n v a o f).mono (λ_ _ _ h=>h) g⟩
   |_=>exact s
 refine⟨⟨hm.imm,by simp[hm.len],K,λj b f=>hm.lt j b (t f),λj R b h1 p=>hm.inj j R b (t h1) (t p)⟩,⟨λ_ _ _ h=>h,λ_ _ _ h=>.inl h,g,rfl,rfl,rfl,Bc _,λ_ _ _=>rfl,λj b f=>.inl ⟨j,t f⟩⟩,g⟩
def To.beginRowH{E:Env}{fn:Func}{g:Goal}{st:bg}{fr:au}{ac:aw}(k i:Nat)(e:TypeId){T:TypeId}{cs:az}{j:Nat}(o:aC ac k= .cells T cs)(p:nth cs i=X (.slice j [] .nil))
  (h:To E fn g (.head st fr (lN (bQ ac k (.cells T (PQ cs i (.row (aS ac) 0)))) (.row 0 j e [])))):To E fn g (.head st fr ac):=
 .mk λf M0 ob0 c w0 a w hst hs=>by refine h.rec λh=>h f M0 ob0 c w0 a w hst ?_;obtain⟨M,ob,m,hm,d,n,r,u⟩:=hs;have b:=bK o s_;obtain⟨q,s,l⟩:=hm.beginRow (e:=e) b (lD p);rw[pK,MJ,bX,aQ b];exact⟨M,_,m.trans s,q,λt=>(d t).mono (λ_ _ _ h=>h) l,n,r.mono (λ_ _ _ h=>h) l,by simp;omega⟩
def To.beginRow{E:Env}{fn:Func}{g:Goal}{st:bg}{fr:au}{ac:aw}(k i:Nat)(e:TypeId){T:TypeId}{cs:az}{a:Nat}(b:aC ac k= .cells T cs)(c:nth cs i=X (.slice a [] .nil))
  (h:To E fn g (.code st fr (lN (bQ ac k (.cells T (PQ cs i (.row (aS ac) 0)))) (.row 0 a e [])))):To E fn g (.code st fr ac):=
 To.toC (To.beginRowH k i e b c (To.ofC h))
end Go.AW
namespace Go.Proofs.YtenkdioaefckoaaGreatDoor
open Go.Proofs.Tryz
open Go Go.AW Go.Proofs
set_option maxRecDepth 10000
def NF(x:Int):bj 319 [ii x] (DA S):=by refine c_ f319 λ_=>gV ?_;exact congrArg (λb=>Res.ret (aa.bool b)) s_
def TV(a b:Int):Int:=if a<b then -1 else if b<a then 1 else 0
def aBp(a b r:Int)(c:TV a b=r):bj 284 [ii a,ii b] (ii r):=by
 unfold TV at c;by_cases h1:a<b
 .rw [bu h1]at c;exact zqra4
 .rw [bt h1]at c;by_cases e:b<a
  .rw [bu e]at c;exact zqra4
  .rw [bt e]at c;exact zqra4
def aIr(a b:Int):bj 284 [ii a,ii b] (ii (TV a b)):=aBp a b _ rfl
def orI(p q:Int):Int:=if p=0 then q else p
def FH(p q r:Int)(b:orI p q=r):bj 287 [CA 1 [ii p,ii q] J0] (ii r):=by
 unfold orI at b;by_cases h1:p=0
 .subst h1;rw[bu rfl]at b;have hp:((0:Int) !=0)=false:=by decide
  by_cases c:q=0
  .subst c;subst b;have a:((0:Int) !=0)=false:=by decide
   refine c_ f287 λ_=>?_
   repeat' first
    |(refine gW hE ?_;conv=>whnf)
    |exact rfl
    |refine Aj 0 (Aa rfl ?_)
    |refine Aj 1 (Aa rfl ?_)
    |refine Aj _ (Aa rfl ?_)
    |refine aY ?_
    |refine aN ?_
    |refine Aa (λh=>?_) (λh=>bv h (by rw[hp];decide))
    |refine Aa (λh=>?_) (λh=>bv h (by rw[a];decide))
    |refine Aa (λh=>bv h (by rw[hp];decide)) (λh=>?_)
    |refine Aa (λh=>bv h (by rw[a];decide)) (λh=>?_)
    |refine aJ ?_
    |fail
  .subst b;have a:(q !=0)=true:=by simp[c]
   refine c_ f287 λ_=>?_
   repeat' first
    |(refine gW hE ?_;conv=>whnf)
    |exact rfl
    |refine Aj 0 (Aa rfl ?_)
    |refine Aj 1 (Aa rfl ?_)
    |refine Aj _ (Aa rfl ?_)
    |refine aY ?_
    |refine aN ?_
    |refine Aa (λh=>?_) (λh=>bv h (by rw[hp];decide))
    |refine Aa (λh=>?_) (λh=>bv h (by rw[a];decide))
    |refine Aa (λh=>bv h (by rw[hp];decide)) (λh=>?_)
    |refine Aa (λh=>bv h (by rw[a];decide)) (λh=>?_)
    |refine aJ ?_
    |fail
 .rw [bt h1]at b;subst b;have hp:(p !=0)=true:=by simp[h1]
  have a:((0:Int) !=0)=false:=by decide
  refine c_ f287 λ_=>?_
  repeat' first
   |(refine gW hE ?_;conv=>whnf)
   |exact rfl
   |refine Aj 0 (Aa rfl ?_)
   |refine Aj 1 (Aa rfl ?_)
   |refine Aj _ (Aa rfl ?_)
   |refine aY ?_
   |refine aN ?_
   |refine Aa (λh=>?_) (λh=>bv h (by rw[hp];decide))
   |refine Aa (λh=>?_) (λh=>bv h (by rw[a];decide))
   |refine Aa (λh=>bv h (by rw[hp];decide)) (λh=>?_)
   |refine Aa (λh=>bv h (by rw[a];decide)) (λh=>?_)
   |refine aJ ?_
   |fail
def cX(a b:Rn):Bool:=decide (orI (TV b.st a.st) (TV b.seq a.seq)<0)
theorem xE{a b:Rn}:cX a b=O↔b.st<a.st\/(b.st=a.st/\b.seq<a.seq):=by
 unfold cX orI TV;rw[decide_eq_true_iff];by_cases h1:b.st<a.st
 .simp [h1]
 .by_cases c:a.st<b.st
  .simp [h1,c];omega
  .have h3:b.st=a.st:=o_;by_cases d:b.seq<a.seq
   .simp [h1,c,h3,d]
   .by_cases e:a.seq<b.seq
    .simp [h1,c,h3,d,e]
    .simp [h1,c,h3,d,e]
def aLl(a b:Rn)(r:Bool)(c:cX a b=r):bj 327 [a.av,b.av] (DA r):=by have h1:=aIr b.st a.st;have d:=aIr b.seq a.seq;unfold cX at c;generalize TV b.st a.st=p at h1 c;generalize TV b.seq a.seq=q at d c;have h3:=FH p q _ rfl;generalize orI p q=o at h3 c;subst c;exact c_ f327 λ_=>zW
def WU(a b:Rn):bj 327 [a.av,b.av] (DA (cX a b)):=aLl a b _ rfl
def DB(x:Rn)(h:Z x.hs<=1048576):bj 200 [x.av] x.av:=by refine c_ f200 λ_=>?_;have a:=BK x.hs h;exact zW
def rn0:Rn:=⟨⟨0,0,0,V3.zero,0,0,0⟩,0,0,0,0,[]⟩
def aH(xs:a7)(i:Nat):Rn:=(xs[i]?).getD rn0
def hD{xs:a7}{i:Nat}(h:i<Z xs):(rav xs)[i]? =X (aH xs i).av:=by unfold aH;rw[Ab h];exact cB h
def jC(xs:a7)(i k:Nat):a7:=(xs.set i (aH xs k)).set k (aH xs i)
def dU(xs:a7)(i k:Nat):Z (jC xs i k)=Z xs:=by unfold jC;simp
def QH(xs:a7)(i k:Nat):rav (jC xs i k)=((rav xs).set i (aH xs k).av).set k (aH xs i).av:=by unfold jC;simp[rav,Gb]
def upH:Nat->a7->Nat->a7
 |0,xs,_=>xs
 |f+1,xs,i=>if i=0 then xs else if cX (aH xs i) (aH xs ((i-1)/2))=O then upH f (jC xs i ((i-1)/2)) ((i-1)/2)else xs
def jE(xs:a7)(x:Rn):a7:=upH (Z xs+1) (xs++[x]) (Z xs)
def ZB:∀(f:Nat) (xs:a7) (i:Nat),Z (upH f xs i)=Z xs
 |0,xs,i=>rfl
 |f+1,xs,i=>by
  unfold upH;split
  .rfl
  .split
   .rw [ZB f,dU]
   .rfl
def AX(xs:a7)(x:Rn):Z (jE xs x)=Z xs+1:=by unfold jE;rw[ZB];simp
abbrev aLm:aa:=.func (.func 327) [] []
abbrev hpO(l:aa)(g:Nat)(xs:a7):aw:=[Do 381 [l,aLm],.row g 14 85 (rav xs)]
def aCz(N:Nat)(p:N<=1048577)(R:a7):∀(f i:Nat) (ys:a7),Z ys=N->i<N->i<f->upH f ys i=R->
  To (Er [] [6,14,15,56]) f328 (.full 2 (Io (GT [])) (hpO (.row 1 1) 1 R)) (BB f328 [(0,G2 0 0),(4,ii i)] (hpO (.row 1 1) 1 ys)):=by
 intro f;induction f with
 |zero=>intro i ys _ _ h;omega
 |succ f n=>
  intro i ys l q r d;have o:Z (rav ys)=Z ys:=by simp
  unfold upH at d;by_cases k:i=0
  .subst k;rw[bu rfl]at d;subst d;exact tA
  rw[bt k]at d;have e:(i-1)/2<Z ys:=o_;have c:Int.tdiv ((i:Int)-1) 2=(((i-1)/2:Nat):Int):=by rw[Lg o_];omega
  have j:=hD (xs:=ys) (i:=i) o_;have g:=hD e;have hl:=WU (aH ys i) (aH ys ((i-1)/2));generalize m:(i-1)/2=up at d c g hl e;by_cases h1:cX (aH ys i) (aH ys up)=O
  .rw [bu h1]at d;rw[h1]at hl;have next:=n up (jC ys i up) (by rw[dU];exact l) o_ o_ d
   unfold hpO at next
   rw[QH]at next
   generalize aH ys i=a at j hl next
   generalize aH ys up=b at g hl next
   refine gV ?_;refine aT λh=>?_
   repeat' first
    |exact To.cut [0,4] 2 rfl rfl rfl rfl next
    |(refine gN (hEr [] [6,14,15,56]) ?_;conv=>whnf)
    |refine Aj i (Aa rfl ?_)
    |refine Aj up (Aa c ?_)
    |refine Aj _ (Aa j ?_)
    |refine Aj _ (Aa g ?_)
    |refine .p hl ?_
    |refine aY ?_
    |refine aN ?_
    |refine Aa o_ ?_
    |refine Aa (by rw[Dj];omega) ?_
    |refine aJ ?_
    |refine Aa d_ ?_
    |fail
   rw[c];exact To.cut [0,4] 2 rfl rfl rfl rfl next
  .have h1:cX (aH ys i) (aH ys up)=false:=by simpa using h1
   rw[bt (by rw[h1];decide)]at d;subst d;rw[h1]at hl;generalize aH ys i=a at j hl;generalize aH ys up=b at g hl;exact tA
def aKC(xs:a7)(hl:Z xs<=1048576)(x:Rn):ar 328 [G2 0 0,x.av] (hpO (.row 1 0) 0 xs) (Io (GT [])) (hpO (.row 1 1) 1 (jE xs x)):=by
 have a:Z (rav xs)=Z xs:=by simp
 have next:=aCz (Z xs+1) o_ (jE xs x) (Z xs+1) (Z xs) (xs++[x]) s_ o_ o_ rfl
 have e:rav (xs++[x])=rav xs++[x.av]:=by simp
 unfold hpO at next
 rw[e]at next
 refine eA (Er [] [6,14,15,56]) f328 2 λ_=>?_
 repeat' first|refine pA ?_|refine⟨⟨by simp only[maxLen];simp;omega,by simp;omega⟩,?_⟩|refine Or.inl (Aa (Aa (by simp only[Ah,Al,Bs,bV];omega) (by simp only[Ah,Al,Bs,aW];omega)) ?_)|exact rfl|refine lA ?_ ?_|intro h
 refine To.cut [0,4] 2 rfl rfl rfl rfl ?_;have b:((Z (rav xs++[x.av]):Int)-1)=((Z xs:Nat):Int):=by simp
 rw[<-b]at next
 exact next
def eZ(xs:a7)(n i:Nat):Nat:=if 2*i+2<n then(if cX (aH xs (2*i+2)) (aH xs (2*i+1))=O then 2*i+2 else 2*i+1)else 2*i+1
def AA(xs:a7)(n i:Nat)(h:2*i+1<n):eZ xs n i<n/\i<eZ xs n i/\(eZ xs n i=2*i+1\/eZ xs n i=2*i+2):=by
 unfold eZ;split
 .split<;>omega
 .omega
def lR:Nat->a7->Nat->Nat->a7
 |0,xs,_,_=>xs
 |f+1,xs,n,i=>if 2*i+1<n then(if cX (aH xs (eZ xs n i)) (aH xs i)=O then lR f (jC xs i (eZ xs n i)) n (eZ xs n i)else xs)else xs
def LD:∀(f:Nat) (xs:a7) (n i:Nat),Z (lR f xs n i)=Z xs
 |0,xs,n,i=>rfl
 |f+1,xs,n,i=>by
  unfold lR;split
  .split
   .rw [LD f,dU]
   .rfl
  .rfl
def sI(xs:a7)(n:Nat):a7:=lR n (xs.set 0 (aH xs (n-1))) (n-1) 0
def pR(xs:a7)(n:Nat):Z (sI xs n)=Z xs:=by unfold sI;rw[LD];simp
def GJ{xs:a7}{i:Nat}(h:i<Z xs):(rav xs)[0+i]? =X (aH xs i).av:=by rw[Bv];exact hD h
def aCu(xs:a7)(i k:Nat):rav (jC xs i k)=((rav xs).set (0+i) (aH xs k).av).set (0+k) (aH xs i).av:=by rw[Bv,Bv];exact QH xs i k
abbrev z14:az:=[ii 0,ii 0,ii 0,ii 0,ii 0,ii 0,ii 0,ii 0,ii 0,ii 0,ii 0,ii 0,ii 0,CA 1 [] .nil]
abbrev ppO(n:Nat)(ys:a7)(x:az):aw:=hpO (.sub 1 0 0 n 14) 0 ys++[Do 85 z14,Do 85 x]
abbrev ppF(n i:Int):au:=[(0,G2 0 0),(2,G2 2 0),(3,G2 3 0),(4,ii n),(5,ii i)]
def aO6(n N:Nat)(s:n<=N)(p:N<=1048577)(R:a7)(x:Rn)(i:Nat)(ys:a7)(q:Z ys=N)(u:2*i+1<n)(h3:2*i+2<n)(a b c:Rn)(l:(rav ys)[0+i]? =X a.av)(j:(rav ys)[0+(2*i+1)]? =X b.av)(k:(rav ys)[0+(2*i+2)]? =X c.av)
  (e:bj 327 [c.av,b.av] (DA O)) (r:Bool) (d:bj 327 [c.av,a.av] (DA r)) (g:r=S->ys=R)
  (next:r=O->To (Er [] [105]) f329 (.full 2 (Io x.av) (hpO (.sub 1 0 0 n 14) 0 R)) (BB f329 (ppF n ((2*i+2:Nat):Int)) [Do 381 [.sub 1 0 0 n 14,aLm],.row 0 14 85 (((rav ys).set (0+i) c.av).set (0+(2*i+2)) a.av),Do 85 z14,Do 85 x.cs])):
  To (Er [] [105]) f329 (.full 2 (Io x.av) (hpO (.sub 1 0 0 n 14) 0 R)) (BB f329 (ppF n i) (ppO n ys x.cs)):=by
 have o:Z (rav ys)=Z ys:=by simp
 have m:2*(i:Int)+1+1=((2*i+2:Nat):Int):=o_;cases r with
 |false=>
  have g:=g rfl;subst g;refine gV ?_
  repeat' first
   |(refine gN (hEr [] [105]) ?_;conv=>whnf)
   |refine Aj (2*i+2) (Aa o_ ?_)
   |refine Aj (2*i+1) (Aa o_ ?_)
   |refine Aj i (Aa rfl ?_)
   |refine Aj _ (Aa k ?_)
   |refine Aj _ (Aa j ?_)
   |refine Aj _ (Aa l ?_)
   |refine .p e ?_
   |refine .p d ?_
   |refine aY ?_
   |refine aN ?_
   |refine aT λh=>?_
   |refine aF λh=>?_
   |refine Aa o_ ?_
   |refine Aa (by rw[Dj];omega) ?_
   |refine Aa (Aa (by simp only[bV];omega) (by simp only[aW];omega)) ?_
   |refine aJ ?_
   |refine Aa d_ ?_
   |refine⟨[],[0,1],⟨rfl,rfl⟩,⟨rfl,rfl⟩⟩
   |fail
 |true=>
  have next:=next rfl
  rw[<-m]at next
  refine gV ?_
  repeat' first
   |(refine gN (hEr [] [105]) ?_;conv=>whnf)
   |refine Aj (2*i+2) (Aa o_ ?_)
   |refine Aj (2*i+1) (Aa o_ ?_)
   |refine Aj i (Aa rfl ?_)
   |refine Aj _ (Aa k ?_)
   |refine Aj _ (Aa j ?_)
   |refine Aj _ (Aa l ?_)
   |refine .p e ?_
   |refine .p d ?_
   |refine aY ?_
   |refine aN ?_
   |refine aT λh=>?_
   |refine aF λh=>?_
   |refine Aa o_ ?_
   |refine Aa (by rw[Dj];omega) ?_
   |refine Aa (Aa (by simp only[bV];omega) (by simp only[aW];omega)) ?_
   |refine aJ ?_
   |refine Aa d_ ?_
   |refine⟨[],[0,1],⟨rfl,rfl⟩,⟨rfl,rfl⟩⟩
   |fail
  exact zqra6
def aO7(n N:Nat)(s:n<=N)(p:N<=1048577)(R:a7)(x:Rn)(i:Nat)(ys:a7)(q:Z ys=N)(u:2*i+1<n)(h3:2*i+2<n)(a b c:Rn)(l:(rav ys)[0+i]? =X a.av)(j:(rav ys)[0+(2*i+1)]? =X b.av)(k:(rav ys)[0+(2*i+2)]? =X c.av)
  (e:bj 327 [c.av,b.av] (DA S)) (r:Bool) (d:bj 327 [b.av,a.av] (DA r)) (g:r=S->ys=R)
  (next:r=O->To (Er [] [105]) f329 (.full 2 (Io x.av) (hpO (.sub 1 0 0 n 14) 0 R)) (BB f329 (ppF n ((2*i+1:Nat):Int)) [Do 381 [.sub 1 0 0 n 14,aLm],.row 0 14 85 (((rav ys).set (0+i) b.av).set (0+(2*i+1)) a.av),Do 85 z14,Do 85 x.cs])):
  To (Er [] [105]) f329 (.full 2 (Io x.av) (hpO (.sub 1 0 0 n 14) 0 R)) (BB f329 (ppF n i) (ppO n ys x.cs)):=by
 have o:Z (rav ys)=Z ys:=by simp
 have m:2*(i:Int)+1=((2*i+1:Nat):Int):=o_;cases r with
 |false=>
  have g:=g rfl;subst g;refine gV ?_
  repeat' first
   |(refine gN (hEr [] [105]) ?_;conv=>whnf)
   |refine Aj (2*i+2) (Aa o_ ?_)
   |refine Aj (2*i+1) (Aa o_ ?_)
   |refine Aj i (Aa rfl ?_)
   |refine Aj _ (Aa k ?_)
   |refine Aj _ (Aa j ?_)
   |refine Aj _ (Aa l ?_)
   |refine .p e ?_
   |refine .p d ?_
   |refine aY ?_
   |refine aN ?_
   |refine aT λh=>?_
   |refine aF λh=>?_
   |refine Aa o_ ?_
   |refine Aa (by rw[Dj];omega) ?_
   |refine Aa (Aa (by simp only[bV];omega) (by simp only[aW];omega)) ?_
   |refine aJ ?_
   |refine Aa d_ ?_
   |refine⟨[],[0,1],⟨rfl,rfl⟩,⟨rfl,rfl⟩⟩
   |fail
 |true=>
  have next:=next rfl
  rw[<-m]at next
  refine gV ?_
  repeat' first
   |(refine gN (hEr [] [105]) ?_;conv=>whnf)
   |refine Aj (2*i+2) (Aa o_ ?_)
   |refine Aj (2*i+1) (Aa o_ ?_)
   |refine Aj i (Aa rfl ?_)
   |refine Aj _ (Aa k ?_)
   |refine Aj _ (Aa j ?_)
   |refine Aj _ (Aa l ?_)
   |refine .p e ?_
   |refine .p d ?_
   |refine aY ?_
   |refine aN ?_
   |refine aT λh=>?_
   |refine aF λh=>?_
   |refine Aa o_ ?_
   |refine Aa (by rw[Dj];omega) ?_
   |refine Aa (Aa (by simp only[bV];omega) (by simp only[aW];omega)) ?_
   |refine aJ ?_
   |refine Aa d_ ?_
   |refine⟨[],[0,1],⟨rfl,rfl⟩,⟨rfl,rfl⟩⟩
   |fail
  exact zqra6
def aO8(n N:Nat)(q:n<=N)(o:N<=1048577)(R:a7)(x:Rn)(i:Nat)(ys:a7)(p:Z ys=N)(s:2*i+1<n)(h3:¬ 2*i+2<n)(a b:Rn)(k:(rav ys)[0+i]? =X a.av)(g:(rav ys)[0+(2*i+1)]? =X b.av)
 (r:Bool) (c:bj 327 [b.av,a.av] (DA r)) (e:r=S->ys=R)
  (next:r=O->To (Er [] [105]) f329 (.full 2 (Io x.av) (hpO (.sub 1 0 0 n 14) 0 R)) (BB f329 (ppF n ((2*i+1:Nat):Int)) [Do 381 [.sub 1 0 0 n 14,aLm],.row 0 14 85 (((rav ys).set (0+i) b.av).set (0+(2*i+1)) a.av),Do 85 z14,Do 85 x.cs])):
  To (Er [] [105]) f329 (.full 2 (Io x.av) (hpO (.sub 1 0 0 n 14) 0 R)) (BB f329 (ppF n i) (ppO n ys x.cs)):=by
  have m:Z (rav ys)=Z ys:=by simp
  have d:=NF 0;have j:True:=trivial;have l:2*(i:Int)+1=((2*i+1:Nat):Int):=o_;cases r with
  |false=>
   have e:=e rfl;subst e;refine gV ?_
   repeat' first
    |(refine gN (hEr [] [105]) ?_;conv=>whnf)
    |refine Aj (2*i+2) (Aa o_ ?_)
    |refine Aj (2*i+1) (Aa o_ ?_)
    |refine Aj i (Aa rfl ?_)
    |refine Aj _ (Aa j ?_)
    |refine Aj _ (Aa g ?_)
    |refine Aj _ (Aa k ?_)
    |refine .p d ?_
    |refine .p c ?_
    |refine aY ?_
    |refine aN ?_
    |refine aT λh=>?_
    |refine aF λh=>?_
    |refine Aa o_ ?_
    |refine Aa (by rw[Dj];omega) ?_
    |refine Aa (Aa (by simp only[bV];omega) (by simp only[aW];omega)) ?_
    |refine aJ ?_
    |refine Aa d_ ?_
    |refine⟨[],[0,1],⟨rfl,rfl⟩,⟨rfl,rfl⟩⟩
    |fail
  |true=>
   have next:=next rfl
   rw[<-l]at next
   refine gV ?_
   repeat' first
    |(refine gN (hEr [] [105]) ?_;conv=>whnf)
    |refine Aj (2*i+2) (Aa o_ ?_)
    |refine Aj (2*i+1) (Aa o_ ?_)
    |refine Aj i (Aa rfl ?_)
    |refine Aj _ (Aa j ?_)
    |refine Aj _ (Aa g ?_)
    |refine Aj _ (Aa k ?_)
    |refine .p d ?_
    |refine .p c ?_
    |refine aY ?_
    |refine aN ?_
    |refine aT λh=>?_
    |refine aF λh=>?_
    |refine Aa o_ ?_
    |refine Aa (by rw[Dj];omega) ?_
    |refine Aa (Aa (by simp only[bV];omega) (by simp only[aW];omega)) ?_
    |refine aJ ?_
    |refine Aa d_ ?_
    |refine⟨[],[0,1],⟨rfl,rfl⟩,⟨rfl,rfl⟩⟩
    |fail
   exact zqra6
def Q1(n N:Nat)(s:n<=N)(m:N<=1048577)(R:a7)(x:Rn):∀(f i:Nat) (ys:a7),Z ys=N->i<N->n<f+i+1->lR f ys n i=R->
  To (Er [] [105]) f329 (.full 2 (Io x.av) (hpO (.sub 1 0 0 n 14) 0 R)) (BB f329 (ppF n i) (ppO n ys x.cs)):=by
 intro f;induction f with
 |zero=>
  intro i ys j y z b;have b:ys=R:=b;subst b;have u:Z (rav ys)=Z ys:=by simp
  exact tA
 |succ f l=>
  intro i ys j y z b;have u:Z (rav ys)=Z ys:=by simp
  unfold lR at b;by_cases e:2*i+1<n
  .rw [bu e]at b;have w:=AA ys n i e;have t:=GJ (xs:=ys) (i:=i) o_;have p:=GJ (xs:=ys) (i:=2*i+1) o_;have a:=WU (aH ys (eZ ys n i)) (aH ys i);have q:=aCu ys i (eZ ys n i);have l:=l (eZ ys n i) (jC ys i (eZ ys n i)) (by rw[dU];exact j) o_ o_;unfold ppO hpO at l;rw[q]at l;have d:∀r,cX (aH ys (eZ ys n i)) (aH ys i)=r->(r=S->ys=R)/\(r=O->lR f (jC ys i (eZ ys n i)) n (eZ ys n i)=R):=λr o=>by
    subst o;refine⟨λh=>?_,λh=>?_⟩
    .rw [bt (by rw[h];decide)]at b;exact b
    .rw [bu h]at b;exact b
   have d:=d _ rfl;generalize cX (aH ys (eZ ys n i)) (aH ys i)=r at a d;have next:=λo=>l (d.2 o)
   by_cases h3:2*i+2<n
   .have v:=GJ (xs:=ys) (i:=2*i+2) o_;have c:=WU (aH ys (2*i+2)) (aH ys (2*i+1));by_cases g:cX (aH ys (2*i+2)) (aH ys (2*i+1))=O
    .have k:eZ ys n i=2*i+2:=by unfold eZ;rw[bu h3,bu g]
     rw[g]at c;rw[k]at next a
     exact aO6 n N s m R x i ys j e h3 _ _ _ t p v c r a d.1 next
    .have g:cX (aH ys (2*i+2)) (aH ys (2*i+1))=false:=by simpa using g
     have k:eZ ys n i=2*i+1:=by unfold eZ;rw[bu h3,bt (by rw[g];decide)]
     rw[g]at c;rw[k]at next a
     exact aO7 n N s m R x i ys j e h3 _ _ _ t p v c r a d.1 next
   .have k:eZ ys n i=2*i+1:=by unfold eZ;rw[bt h3]
    rw[k]at next a
    exact aO8 n N s m R x i ys j e h3 _ _ t p r a d.1 next
  .rw [bt e]at b;subst b;exact tA
inductive HV(ys:a7):aa->Nat->Prop
 |row:HV ys (.row 1 0) (Z ys)
 |sub (n:Nat) (h:n<=Z ys):HV ys (.sub 1 0 0 n 14) n
def aO4(ys:a7)(hl:Z ys<=1048577)(o:aa)(n:Nat)(p:HV ys o n)(q:0<n):ar 329 [G2 0 0] (hpO o 0 ys) (Io (aH ys 0).av) (hpO (.sub 1 0 0 (n-1) 14) 0 (sI ys n)):=by
 have m:Z (rav ys)=Z ys:=by simp
 cases p with
 |row=>
  have j:=hD (xs:=ys) (i:=0) o_;have d:=hD (xs:=ys) (i:=Z ys-1) o_;have c:((Z ys:Nat):Int)-1=((Z ys-1:Nat):Int):=o_
  obtain⟨n,k⟩:∃n,n=Z ys:=⟨_,rfl⟩
  rw[<-k]at d c q⊢;have l:(Z (rav ys):Int)-1=((n-1:Nat):Int):=by rw[m,<-k];exact c
  have next:=Q1 (n-1) (Z ys) o_ o_ (sI ys n) (aH ys 0) n 0 (ys.set 0 (aH ys (n-1))) s_ o_ o_ rfl
  have e:rav (ys.set 0 (aH ys (n-1)))=(rav ys).set 0 (aH ys (n-1)).av:=by simp[rav,Gb]
  unfold ppO hpO at next
  rw[e]at next
  generalize aH ys 0=a at j next
  generalize aH ys (n-1)=b at d next
  refine eA (Er [] [105]) f329 2 λ_=>?_
  repeat' first|refine pA ?_|refine⟨0,rfl,?_⟩|refine⟨_,j,?_⟩|refine Aj (n-1) (Aa l ?_)|refine⟨_,d,?_⟩|refine Aa (by rw[Dj];omega) ?_|exact rfl|refine lA ?_ ?_|intro h
  rw[l];exact zqra6
 |sub _ h=>
  have j:=GJ (xs:=ys) (i:=0) o_;have d:=GJ (xs:=ys) (i:=n-1) o_;have c:((n:Nat):Int)-1=((n-1:Nat):Int):=o_;have next:=Q1 (n-1) (Z ys) o_ o_ (sI ys n) (aH ys 0) n 0 (ys.set 0 (aH ys (n-1))) s_ o_ o_ rfl
  have e:rav (ys.set 0 (aH ys (n-1)))=(rav ys).set (0+0) (aH ys (n-1)).av:=by simp[rav,Gb]
  unfold ppO hpO at next
  rw[e]at next
  generalize aH ys 0=a at j next
  generalize aH ys (n-1)=b at d next
  refine eA (Er [] [105]) f329 2 λ_=>?_
  repeat' first|refine pA ?_|refine⟨0,rfl,?_⟩|refine⟨_,j,?_⟩|refine Aj (n-1) (Aa c ?_)|refine⟨_,d,?_⟩|refine Aa (by rw[Dj];omega) ?_|exact rfl|refine lA ?_ ?_|intro h
  rw[c];exact zqra6
def iC:Nat->a7->a7
 |0,_=>[]
 |n+1,ys=>aH ys 0::iC n (sI ys (n+1))
def eD(l:a7):a7:=iC (Z l) (l.foldl jE [])
theorem qX:∀(l ys:a7),Z (l.foldl jE ys)=Z ys+Z l
 |[],ys=>rfl
 |x::r,ys=>by rw[Ao,qX r,AX];simp;omega
def HV.inv{ys:a7}{a:aa}{n:Nat}(h:HV ys a n):(a= .row 1 0/\n=Z ys)\/(a= .sub 1 0 0 n 14/\n<=Z ys):=by
 cases h with
 |row=>exact .inl ⟨rfl,rfl⟩
 |sub _ h=>exact .inr ⟨rfl,h⟩
def WK(R:a7):∀(n:Nat) (ys:a7) (c:aa) (out:a7),HV ys c n->Z ys<=1048577->Z out+n<=1048576->out++iC n ys=R->
  To (Eo [6] []) f292 (.pure (Io (CA 14 (rav R) J0))) (G0 (stk f292 1) [(3,G2 0 0),(6,CA 14 (rav out) (.own 2 0))] (hpO c 0 ys++[Fr 0 14 85])):=by
 intro n;induction n with
 |zero=>
  intro ys c out b d j a;have a:out++[]=R:=a;rw[Ap]at a;subst a;have f:Z (rav ys)=Z ys:=by simp
  exact zqra8
 |succ n k=>
  intro ys c out b d j a;have f:Z (rav ys)=Z ys:=by simp
  have hp:=aO4 ys d c (n+1) b o_;have a:out++aH ys 0::iC n (sI ys (n+1))=R:=a;have g:n<=Z (sI ys (n+1)):=by rw[pR];rcases b.inv with⟨_,h⟩|⟨_,h⟩<;>omega
  have next:=k (sI ys (n+1)) (.sub 1 0 0 n 14) (out++[aH ys 0]) (.sub n g) (by rw[pR];exact d) q_ (by rw[Ag];exact a)
  have e:rav (out++[aH ys 0])=rav out++[(aH ys 0).av]:=by simp
  rw[e]at next
  have i:Z (rav out)=Z out:=by simp
  generalize aH ys 0=x at hp next
  have l:n+1-1=n:=o_;rw[l]at hp;generalize sI ys (n+1)=ys' at hp next
  exact zqra8
def WJ(l:a7)(hs:Sm l)(R:a7):∀(m i:Nat) (ys:a7),i+m=Z l->Z ys=i->iC (Z l) ((l.drop i).foldl jE ys)=R->
  BC (Eo [6] []) f292 (CA 14 (rav R) J0) [(3,G2 0 0),(9,CA 14 (rav l) J0),(10,GE Is (Z (rav l):Nat)),(11,ii i)] (hpO (.row 1 0) 0 ys):=by
 have e:Z (rav l)=Z l:=by simp
 have hl:=hs.1;intro m;induction m with
 |zero=>
  intro i ys g f a;rw[Ae o_]at a;have a:iC (Z l) ys=R:=a;have next:=WK R (Z l) ys (.row 1 0) [] (by rw[show Z l=Z ys from by omega];exact .row) o_ q_ a
  exact tA
 |succ m h=>
  intro i ys g f a;have b:i<Z l:=o_;have d:=hs.at b;rw[Ac b,Ao]at a;generalize j:l[i]=x at a d;have get:(rav l)[i]? =X x.av:=(cB b).trans (by rw[j]);have next:=h (i+1) (jE ys x) o_ (by rw[AX];omega) a
  have hp:=aKC ys o_ x;generalize jE ys x=ys' at hp next
  refine gV ?_;have c:=DB x d;exact zW
def aGe(l:a7)(hs:Sm l):bj 292 [CA 14 (rav l) J0] (CA 14 (rav (eD l)) J0):=by refine gA (Eo [6] []) f292 λ_=>gV ?_;refine To.beginRowH 0 0 85 rfl rfl ?_;have a:=WJ l hs _ (Z l) 0 [] o_ rfl rfl;exact zW
def nJ(p:Int->Bool):ax->Nat->Int
 |[],_=> -1
 |x::r,i=>if p x=O then(i:Int)else nJ p r (i+1)
def KT(p:Int->Bool):∀(l:ax) (i:Nat),decide (0<=nJ p l i)=l.any p
 |[],i=>by simp[nJ]
 |x::r,i=>by
  unfold nJ;rw[Hj];cases h:p x with
  |true=>simp
  |false=>simp[KT p r (i+1)]
def inB(v:Int)(l:ax):Bool:=l.any λx=>v==x
def aCY(l:ax)(hl:Z l<=1048576)(v r:Int):∀(m i:Nat),i+m=Z l->nJ (λx=>v==x) (l.drop i) i=r->
  BC E f264 (ii r) [(0,CA 1 (iv l) J0),(1,ii v),(7,GE Is (Z (iv l):Nat)),(8,ii i)] []:=by
 have d:Z (iv l)=Z l:=by simp
 intro m;induction m with
 |zero=>
  intro i f a;rw[Ae o_]at a;have a: -1=r:=a;subst a;exact tA
 |succ m c=>
  intro i f a;have b:i<Z l:=o_;rw[Ac b]at a;have get:=cD b;generalize l[i]=x at a get;unfold nJ at a;have c:=c (i+1) o_;cases e:(v==x)with
  |true=>
   rw[bu e]at a;subst a;exact tA
  |false=>
   rw[bt (by rw[e];decide)]at a;have next:=c a
   exact tA
def aLF(l:ax)(hl:Z l<=1048576)(v:Int):bj 264 [CA 1 (iv l) J0,ii v] (ii (nJ (λx=>v==x) l 0)):=by refine c_ f264 λ_=>gV ?_;exact To.cut [0,1,7,8] 0 rfl rfl rfl rfl (aCY l hl v _ (Z l) 0 o_ rfl)
def AD(l:ax)(hl:Z l<=1048576)(v:Int):bj 199 [CA 1 (iv l) J0,ii v] (DA (inB v l)):=by have h:=aLF l hl v;have e:=KT (λx=>v==x) l 0;unfold inB;rw[<-e];generalize nJ (λx=>v==x) l 0=q at h;exact c_ f199 λ_=>zW
def aB(l:a7)(ids:ax):a7:=l.filter λx=>!(inB x.g.id ids)
def kV{x:Rn}{r:a7}{ids:ax}(h:inB x.g.id ids=S):aB (x::r) ids=x::aB r ids:=List.filter_cons_of_pos (by rw[h];rfl)
def kW{x:Rn}{r:a7}{ids:ax}(h:inB x.g.id ids=O):aB (x::r) ids=aB r ids:=List.filter_cons_of_neg (by rw[h];decide)
def iQ{l:a7}(hs:Sm l)(ids:ax):Sm (aB l ids):=
 ⟨Nat.le_trans (Dw _ _) hs.1,λx a=>hs.2 x (Fh.1 a).1⟩
def aJb(l:a7)(hs:Sm l)(ids:ax)(o:Z ids<=1048576)(R:a7):∀(m i:Nat) (a:a7),i+m=Z l->Z a<=i->a++aB (l.drop i) ids=R->
  BC (Eo [5] []) f140 (CA 14 (rav R) J0) [(1,CA 1 (iv ids) J0),(5,CA 14 (rav a) (.own 0 0)),(8,CA 14 (rav l) J0),(9,GE Is (Z (rav l):Nat)),(10,ii i)] [Fr 0 14 85]:=by
 have k:Z (rav l)=Z l:=by simp
 have hl:=hs.1;intro m;induction m with
 |zero=>
  intro i a q r b;exact zqra5
 |succ m h=>
  intro i a q r b;have c:i<Z l:=o_;have j:=hs.at c;rw[Ac c]at b;generalize s:l[i]=x at b j;have get:(rav l)[i]? =X x.av:=(cB c).trans (by rw[s]);have p:Z (rav a)=Z a:=by simp
  have n:=AD ids o x.g.id;cases d:inB x.g.id ids with
  |true=>
   rw[d]at n;rw[kW d]at b;have next:=h (i+1) a o_ o_ b
   exact tA
  |false=>
   rw[d]at n;rw[kV d]at b;have next:=h (i+1) (a++[x]) o_ q_ (by rw[Ag];exact b)
   have e:rav (a++[x])=rav a++[x.av]:=by simp
   rw[e]at next
   refine gV ?_;have f:=DB x j;exact zW
def qQ(l:a7)(hs:Sm l)(ids:ax)(b:Z ids<=1048576):bj 140 [CA 14 (rav l) J0,CA 1 (iv ids) J0] (CA 14 (rav (aB l ids)) J0):=by refine gA (Eo [5] []) f140 λ_=>?_;have a:=aJb l hs ids b _ (Z l) 0 [] o_ s_ rfl;exact zW
def vJ{ns:bc}{t:Int}(h:bB ns t=O):0<=t/\t.toNat<Z ns:=by exact zqra3
def yA{c:Con}{t:Int}(h:0<=t/\t.toNat<Z c.ns):(nav c.ns)[t.toNat]? =X (cH c.ns t).av:=by unfold cH;rw[Ab h.2];exact fP h.2
def kM(c:Con)(a:a8)(t:Int)(need:V3):Bool:=if bB c.ns t=O then bY (dZ (atV a t) need) (cH c.ns t).n else S
def bR(c:Con)(a:a8)(t:Int):Bool:=if bB c.ns t=O then !bY (atV a t) (cH c.ns t).n else S
def UP(c:Con)(a:a8)(t:Int)(need:V3)(r:Bool)(b:kM c a t need=r):bj 290 [c.av,CA 3 (vav a) J0,ii t,need.av] (DA r):=by
 have d:=kQ c t;unfold kM at b;cases h:bB c.ns t with
 |false=>
  rw[h]at d;rw[bt (by rw[h];decide)]at b;subst b;exact c_ f290 λ_=>zW
 |true=>
  rw[h]at d;rw[bu h]at b;have j:=vJ h;have k:t=(t.toNat:Int):=o_;have e:=yA (c:=c) j;generalize cH c.ns t=x at e b;have h1:=HL a t;generalize atV a t=q1 at h1 b;have i:=jA q1 need;generalize dZ q1 need=q2 at i b;have h3:=mO q2 x.n;rw[b]at h3;exact c_ f290 λ_=>zW
def aBG(c:Con)(a:a8)(t:Int)(need:V3):bj 290 [c.av,CA 3 (vav a) J0,ii t,need.av] (DA (kM c a t need)):=UP c a t need _ rfl
def T9(c:Con)(a:a8)(t:Int)(r:Bool)(b:bR c a t=r):bj 294 [c.av,CA 3 (vav a) J0,ii t] (DA r):=by
 have d:=kQ c t;unfold bR at b;cases h:bB c.ns t with
 |false=>
  rw[h]at d;rw[bt (by rw[h];decide)]at b;subst b;exact c_ f294 λ_=>zW
 |true=>
  rw[h]at d;rw[bu h]at b;have i:=vJ h;have j:t=(t.toNat:Int):=o_;have e:=yA (c:=c) i;generalize cH c.ns t=x at e b;have h1:=HL a t;generalize atV a t=q1 at h1 b;have h3:=xZ q1 x.n;rw[b]at h3;exact c_ f294 λ_=>zW
def YO(c:Con)(a:a8)(t:Int):bj 294 [c.av,CA 3 (vav a) J0,ii t] (DA (bR c a t)):=T9 c a t _ rfl
def nX(c:Con)(l:a7)(g:Gan)(ids:ax):Bool:=(cE c (aB l ids) g).isSome
abbrev chO(c:Con)(l:a7)(g:Gan):aw:=[Do 30 c.cs,Do 32 [CA 14 (rav l) J0],Do 45 g.cs]
def aBw(c:Con)(h:c.sm)(l:a7)(hs:Sm l)(g:Gan)(i:0<=g.pods/\g.pods<=16)(ids:ax)(e:Z ids<=1048576)(r:Bool)(a:nX c l g ids=r):
  ar 291 [CA 1 (iv ids) J0,G2 0 0,G2 1 0,G2 2 0] (chO c l g) (Io (DA r)) (chO c l g):=by
 have d:=qQ l hs ids e;have b:=zS c h (aB l ids) (iQ hs ids) g i;unfold nX at a;generalize aB l ids=left at d b a;generalize cE c left g=Q at b a;subst a;unfold fdA at b;cases Q with
 |none=>
  exact zqra15
 |some x=>
  exact zqra15
abbrev aDG(c:Con)(used:a8):aw:=[Do 30 c.cs,Do 206 [CA 3 (vav used) J0]]
def aQz(c:Con)(a:a8)(x:Rn):ar 293 [x.av,G2 0 0,G2 1 0] (aDG c a) (Io (DA (bR c a x.g.ten))) (aDG c a):=by have b:=YO c a x.g.ten;generalize bR c a x.g.ten=r at b;refine eA E f293 2 λ_=>?_;exact zW
def aIz(x a:Int):ar 296 [ii x,G2 0 0] [Do 3 [ii a]] (Io (DA (x==a))) [Do 3 [ii a]]:=by refine eA E f296 1 λ_=>?_;exact zW
def aL(p:Rn->Bool):a7->Nat->Int
 |[],_=> -1
 |x::r,i=>if p x=O then(i:Int)else aL p r (i+1)
abbrev aSB:aa:=.func (.func 293) [] [G2 0 0,G2 1 0]
def aCW(c:Con)(a:a8)(l:a7)(hl:Z l<=1048576)(r:Int):∀(m i:Nat),i+m=Z l->aL (λx=>bR c a x.g.ten) (l.drop i) i=r->
  To E f211 (.full 2 (Io (ii r)) (aDG c a)) (BB f211 [(0,CA 14 (rav l) J0),(1,aSB),(7,GE Is (Z (rav l):Nat)),(8,ii i)] (aDG c a)):=by
 have h:Z (rav l)=Z l:=by simp
 intro m;induction m with
 |zero=>
  intro i k b;rw[Ae o_]at b;have b: -1=r:=b;subst b;exact tA
 |succ m f=>
  intro i k b;have d:i<Z l:=o_;rw[Ac d]at b;have get:(rav l)[i]? =X l[i].av:=cB d;generalize l[i]=x at b get;unfold aL at b;have j:=aQz c a x;have f:=f (i+1) o_;cases e:bR c a x.g.ten with
  |true=>
   rw[bu e]at b;rw[e]at j;subst b;exact tA
  |false=>
   rw[bt (by rw[e];decide)]at b;rw[e]at j;have next:=f b
   exact tA
def aLD(c:Con)(a:a8)(l:a7)(hl:Z l<=1048576):ar 211 [CA 14 (rav l) J0,aSB] (aDG c a) (Io (ii (aL (λx=>bR c a x.g.ten) l 0))) (aDG c a):=by refine eA E f211 2 λ_=>gV ?_;exact To.cut [0,1,7,8] 2 rfl rfl rfl rfl (aCW c a l hl _ (Z l) 0 o_ rfl)
def LK(l:ax)(h:Z l<=1048576):ar 265 [CA 1 (iv l) J0] [] (Io (.row 0 0)) [.row 0 1 3 (iv l)]:=by
 have a:Z (iv l)=Z l:=by simp
 refine eA (Er [2,5] []) f265 0 λ_=>gV ?_;intro b c;refine gV ?_;refine⟨λh=>?_,λh=>?_⟩
 .refine gV ?_;refine⟨[],[1],⟨rfl,rfl⟩,?_⟩;conv=>whnf
  rw[c (by simpa using h)];exact⟨rfl,rfl⟩
 .refine gV ?_;refine⟨⟨by simp only[maxLen];simp;omega,by simp;omega⟩,?_⟩;refine gV ?_;refine⟨[],[1],⟨rfl,rfl⟩,?_⟩;exact⟨rfl,rfl⟩
abbrev aIA:aa:=.func (.func 296) [] [G2 1 0]
abbrev dlO(l:ax)(a:Int):aw:=[.row 0 1 3 (iv l),Do 3 [ii a]]
def aCZ(l:ax)(hl:Z l<=1048576)(a r:Int):∀(m i:Nat),i+m=Z l->nJ (λx=>x==a) (l.drop i) i=r->
  To E f330 (.full 2 (Io (ii r)) (dlO l a)) (BB f330 [(0,.row 0 0),(1,aIA),(7,GE Is (Z (iv l):Nat)),(8,ii i)] (dlO l a)):=by
 have f:Z (iv l)=Z l:=by simp
 intro m;induction m with
 |zero=>
  intro i h b;rw[Ae o_]at b;have b: -1=r:=b;subst b;exact tA
 |succ m e=>
  intro i h b;have c:i<Z l:=o_;rw[Ac c]at b;have get:=cD c;generalize l[i]=x at b get;unfold nJ at b;have g:=aIz x a;have e:=e (i+1) o_;cases d:(x==a)with
  |true=>
   rw[bu d]at b;rw[d]at g;subst b;exact tA
  |false=>
   rw[bt (by rw[d];decide)]at b;rw[d]at g;have next:=e b
   exact tA
def aAL(l:ax)(hl:Z l<=1048576)(a:Int):ar 330 [.row 0 0,aIA] (dlO l a) (Io (ii (nJ (λx=>x==a) l 0))) (dlO l a):=by refine eA E f330 2 λ_=>gV ?_;exact To.cut [0,1,7,8] 2 rfl rfl rfl rfl (aCZ l hl a _ (Z l) 0 o_ rfl)
def dA(l:ax)(a:Int):ax:=l.filter λx=>!(x==a)
def SZ(p:Int->Bool):∀(l:ax) (i:Nat),l.any p=S->nJ p l i= -1
 |[],i,_=>rfl
 |x::r,i,h=>by rw[Hj,Bool.or_eq_false_iff]at h;unfold nJ;rw[bt (by rw[h.1];decide)];exact SZ p r (i+1) h.2
def KS(p:Int->Bool):∀(l:ax) (i:Nat),l.any p=O->∃k,k<Z l/\nJ p l i=((i+k:Nat):Int)/\(∀x∈l.take k,p x=S)/\∃x,l[k]? =X x/\p x=O
 |[],i,h=>by simp at h
 |x::r,i,h=>by
  unfold nJ;cases a:p x with
  |true=>exact⟨0,by simp,by rw[bu rfl];simp,by simp,x,rfl,a⟩
  |false=>
   rw[Hj,a,Kj]at h;obtain⟨k,h1,b,h3,y,d,c⟩:=KS p r (i+1) h;refine⟨k+1,by simp;omega,?_,λz hz=>?_,y,by simpa using d,c⟩
   .rw [bt d_,b];congr 1;omega
   .simp only[List.take_succ_cons,Ba]at hz;rcases hz with rfl|hz
    .exact a
    .exact h3 z hz
def aQq(l:ax)(hl:Z l<=1048576)(a:Int)(h:(l.any λx=>x==a)=S):ar 295 [.row 0 0,aIA] (dlO l a) (Io (.row 0 0)) (dlO l a):=by have b:=aAL l hl a;rw[SZ _ l 0 h]at b;exact zqra16
abbrev aSo(z:az)(a:Int):aw:=[.row 0 1 3 z,Do 3 [ii a]]
def aPB(l:ax)(i:Nat)(x:Int):(iv l).set i (ii x)=iv (l.set i x):=by simp[iv,Gb]
def aIf(l:ax)(hl:Z l<=1048576)(a:Int)(R:ax):∀(m j i:Nat) (z:ax),j+m=Z l->i<j->Z z=Z l->z.drop j=l.drop j->z.take i++dA (l.drop j) a=R->
  To E f295 (.full 2 (Io (.sub 0 0 0 (Z R) 1)) (aSo (iv R++Ak (Z l-Z R) (ii 0)) a)) (BB f295 [(0,.row 0 0),(1,aIA),(5,ii i),(6,ii j)] (dlO z a)):=by
 intro m;induction m with
 |zero=>
  intro j i z v u hz k b;have d:Z (iv z)=Z z:=by simp
  rw[Ae o_]at b;have b:z.take i++[]=R:=b;rw[Ap]at b;have n:Z R=i:=by rw[<-b];simp;omega
  have e:(iv z).take i=iv R:=by rw[<-b];simp
  rw[n];refine gV ?_;refine aF λh=>?_
  repeat' first|refine pA ?_|refine⟨i,rfl,?_⟩|exact rfl|refine lA ?_ ?_|intro h
  refine Aa q_ (gV ?_);refine⟨[],[0,1],⟨rfl,rfl⟩,?_⟩;conv=>whnf
  refine⟨rfl,?_⟩;have w:Fx (i+(Z (iv z)-i)) (iv z)=[]:=Ae o_;have s:Fi i (iv z)++Ak (Z (iv z)-i) (ii 0)++Fx (i+(Z (iv z)-i)) (iv z)=iv R++Ak (Z l-i) (ii 0):=by rw[e,w,Ap,d,hz]
  exact congrArg (λl=>[ab.row 0 1 3 l,Do 3 [ii a]]) s
 |succ m o=>
  intro j i z v u hz k b;have d:Z (iv z)=Z z:=by simp
  have f:j<Z l:=o_;rw[Ac f]at b;have c:z[j]? =X l[j]:=by have:=congrArg (λq=>q[0]?) k;simpa[List.getElem?_drop,Ab f]using this
  have get:(iv z)[j]? =X (ii l[j]):=by simp[c]
  have g:z.drop (j+1)=l.drop (j+1):=by have:=congrArg (Fx 1) k;rwa [Ho,Ho]at this
  generalize l[j]=x at b get c;have p:=aIz x a;unfold dA at b;rw[Gw]at b;cases r:(x==a)with
  |true=>
   rw[r]at p b;have next:=o (j+1) i z o_ o_ hz g b
   exact tA
  |false=>
   rw[r]at p b
   have next:=o (j+1) (i+1) (z.set i x) o_ o_ (by simp;exact hz) (by rw[List.drop_set_of_lt o_];exact g) (by
    have y:(z.set i x).take (i+1)=z.take i++[x]:=by rw[List.take_add_one,Ay o_,List.take_set_of_le (Bc _)];rfl
    rw[y,Ag]
    exact b)
   unfold dlO at next
   rw[<-aPB]at next
   exact tA
def aMI(l:ax)(hl:Z l<=1048576)(a:Int)(h:(l.any λx=>x==a)=O):ar 295 [.row 0 0,aIA] (dlO l a) (Io (.sub 0 0 0 (Z (dA l a)) 1)) (aSo (iv (dA l a)++Ak (Z l-Z (dA l a)) (ii 0)) a):=by
 have c:=aAL l hl a;obtain⟨k,h1,m,h3,x,d,b⟩:=KS (λx=>x==a) l 0 h;rw[m]at c;rw[Bv]at c;have j:((k:Int)== -1)=false:=by simp
 have next:=aIf l hl a (dA l a) (Z l-(k+1)) (k+1) k l o_ o_ rfl rfl (by
  conv=>rhs;rw[<-Bl k l]
  have o:x=a:=by simpa using b
  have e:l.drop k=x::l.drop (k+1):=by rw[Ac h1];rw[Ab h1]at d;cases d;rfl
  unfold dA;rw[List.filter_append,e,Gw,b];have n:(l.take k).filter (λx=>!(x==a))=l.take k:=Gn.2 λy i=>by rw[h3 y i];rfl
  rw[n]
  rfl)
 exact zqra16
def tW{xs:a7}{i:Nat}(h:i<Z xs):aH xs i∈xs:=by unfold aH;rw[Ab h];exact Av h
def IV{xs:a7}{i k:Nat}(b:i<Z xs)(a:k<Z xs){y:Rn}(h:y∈jC xs i k):y∈xs:=by
 unfold jC at h;rcases De h with h|rfl
 .rcases De h with h|rfl
  .exact h
  .exact tW a
 .exact tW b
def ZA{y:Rn}:∀(f:Nat) (xs:a7) (i:Nat),i<Z xs->y∈upH f xs i->y∈xs
 |0,xs,i,_,h=>h
 |f+1,xs,i,hi,h=>by
  unfold upH at h;split at h
  .exact h
  .split at h
   .exact IV hi o_ (ZA f _ _ (by rw[dU];omega) h)
   .exact h
def aCA{xs:a7}{x y:Rn}(h:y∈jE xs x):y∈xs\/y=x:=by have:=ZA _ _ _ s_ h;simpa using this
def FA{y:Rn}:∀(l xs:a7),y∈l.foldl jE xs->y∈xs\/y∈l
 |[],xs,h=>.inl h
 |x::r,xs,h=>by
  rcases FA r _ h with h|h
  .rcases aCA h with h|rfl
   .exact .inl h
   .exact .inr s_
  .exact .inr (by simp[h])
def LC{y:Rn}:∀(f:Nat) (xs:a7) (n i:Nat),n<=Z xs->i<Z xs->y∈lR f xs n i->y∈xs
 |0,xs,n,i,_,_,h=>h
 |f+1,xs,n,i,hn,hi,h=>by
  unfold lR at h;split at h
  .rename_i a;have b:=AA xs n i a;split at h
   .exact IV hi o_ (LC f _ n _ (by rw[dU];exact hn) (by rw[dU];omega) h)
   .exact h
  .exact h
def aFY{xs:a7}{n:Nat}(b:0<n)(a:n<=Z xs){y:Rn}(h:y∈sI xs n):y∈xs:=by
 unfold sI at h;have:=LC n (xs.set 0 (aH xs (n-1))) (n-1) 0 q_ q_ h;rcases De this with h|rfl
 .exact h
 .exact tW o_
def FC{y:Rn}:∀(n:Nat) (xs:a7),n<=Z xs->y∈iC n xs->y∈xs
 |0,xs,_,h=>by cases h
 |n+1,xs,hn,h=>by
  unfold iC at h;rcases Ba.1 h with rfl|h
  .exact tW o_
  .exact aFY o_ hn (FC n _ (by rw[pR];omega) h)
def JL{l:a7}{y:Rn}(h:y∈eD l):y∈l:=by
 unfold eD at h;have:=FC _ _ (by rw[qX];simp) h;rcases FA l [] this with h|h
 .cases h
 .exact h
def FD:∀(n:Nat) (xs:a7),Z (iC n xs)=n
 |0,xs=>rfl
 |n+1,xs=>by unfold iC;rw[Al,FD n]
def xB(l:a7):Z (eD l)=Z l:=FD _ _
def aGc{l:a7}(h:Sm l):Sm (eD l):=⟨by rw[xB];exact h.1,λx a=>h.2 x (JL a)⟩
def GN(p:Rn->Bool):∀(l:a7) (i:Nat),aL p l i= -1\/∃k,k<Z l/\aL p l i=((i+k:Nat):Int)/\p (aH l k)=O
 |[],i=>.inl rfl
 |x::r,i=>by
  unfold aL;cases b:p x with
  |true=>exact .inr ⟨0,by simp,by rw[bu rfl];simp,b⟩
  |false=>
   rw[bt d_];rcases GN p r (i+1)with h|⟨k,h1,a,h3⟩
   .exact .inl h
   .refine .inr ⟨k+1,by simp;omega,by rw[a];congr 1;omega,?_⟩;unfold aH at h3⊢;simpa using h3
def atI(c:Con)(l:a7)(ids:ax):Int:=aL (λx=>bR c (ofL c (aB l ids)) x.g.ten) (eD (aB l ids)) 0
def B9(c:Con)(l:a7)(ids:ax):Option Int:=if atI c l ids<0 then U else X (aH (eD (aB l ids)) (atI c l ids).toNat).g.id
def chA(c:Con)(l:a7)(g:Gan):Nat->ax->Option ax
 |0,_=>U
 |f+1,ids=>if nX c l g ids=O then X ids else match B9 c l ids with
  |none=>U
  |some n=>chA c l g f (ids++[n])
def chS(c:Con)(l:a7)(g:Gan)(ids:ax)(a:Int):ax:=if nX c l g (dA ids a)=O then dA ids a else ids
def eS(c:Con)(l:a7)(g:Gan):Option ax:=if kM c (ofL c l) g.ten (dem g)=O then(match chA c l g (Z l+1) []with
 |none=>U
 |some ids=>X (ids.foldl (chS c l g) ids))else U
def chR:Option ax->aa
 |some ids=>.tup [.slice 1 (iv ids) .no,.bool O]
 |none=>.tup [.slice 1 [] .no,.bool S]
def A1{c:Con}{l:a7}{ids:ax}{n:Int}(h:B9 c l ids=X n):∃x∈aB l ids,x.g.id=n/\bR c (ofL c (aB l ids)) x.g.ten=true:=by
 unfold B9 at h;split at h
 .cases h
 .rename_i b;cases h;rcases GN (λx=>bR c (ofL c (aB l ids)) x.g.ten) (eD (aB l ids)) 0 with h1|⟨k,h1,a,h3⟩
  .exact bv (show atI c l ids<0 from by unfold atI;rw[h1];decide) b
  .refine ⟨_,JL (tW ?_),rfl,?_⟩
   .unfold atI;rw[a];simpa using h1
   .unfold atI;rw[a];simpa using h3
def LY(l:a7)(ids:ax)(n:Int):aB l (ids++[n])=(aB l ids).filter λx=>!(x.g.id==n):=by unfold aB;rw[List.filter_filter];refine List.filter_congr λx _=>?_;unfold inB;rw[List.any_append];simp only[Hj,List.any_nil,Bool.or_false];cases (ids.any λy=>x.g.id==y)<;>cases (x.g.id==n)<;>rfl
def xW{l:a7}{ids:ax}{n:Int}(h:∃x∈aB l ids,x.g.id=n):Z (aB l (ids++[n]))<Z (aB l ids):=by obtain⟨x,a,b⟩:=h;rw[LY];generalize aB l ids=q at a;refine Nat.lt_of_le_of_ne (Dw _ _) λe=>?_;have:=List.length_filter_eq_length_iff.1 e x a;simp[b]at this
def JT(l:ax)(a:Int):Z (dA l a)<=Z l:=Dw _ _
abbrev aSC:aa:=.func (.func 291) [] [G2 0 0,G2 1 0,G2 2 0]
abbrev cbF(ids all:ax)(i:Int):au:=[(8,aSC),(9,CA 1 (iv ids) J0),(54,CA 1 (iv all) J0),(55,GE Is (Z (iv all):Nat)),(56,ii i)]
def aQA(c:Con)(l:a7)(g:Gan)(a:Int)(z:az):ak [4] (chO c l g++[Do 3 [ii a],.row 0 1 3 z])=chO c l g++[Do 3 [ii a],.frow 0 1 z]:=by kernel_rfl
def aMZ(c:Con)(l:a7)(g:Gan)(a:Int)(z:az)(n:Nat)(ids all:ax)(i:Int):xH [15] (aC (chO c l g++[Do 3 [ii a],.frow 0 1 z])) ((15,.sub 4 0 0 n 1)::cbF ids all i)=(15,CA 1 ((z.drop 0).take n) J0)::cbF ids all i:=by kernel_rfl
def aM0(c:Con)(l:a7)(g:Gan)(a:Int)(z:az)(ids all:ax)(i:Int):xH [15] (aC (chO c l g++[Do 3 [ii a],.frow 0 1 z])) ((15,.row 4 0)::cbF ids all i)=(15,CA 1 z J0)::cbF ids all i:=by kernel_rfl
def aBx{G:Goal}{ks:bg}(c:Con)(l:a7)(g:Gan)(a:Int)(z:az)(fr:au){b:au}(d:xH [15] (aC (chO c l g++[Do 3 [ii a],.frow 0 1 z])) fr=b)
  (h:To (Eo [9] []) f233 G (.code ks b (chO c l g++[Do 3 [ii a],.frow 0 1 z]))):To (Eo [9] []) f233 G (.code ks fr (chO c l g++[Do 3 [ii a],.row 0 1 3 z])):=by
 refine To.frz [15] [4] ?_;rw[aQA,d];exact h
def aIv(c:Con)(u:c.sm)(l:a7)(hs:Sm l)(g:Gan)(t:0<=g.pods/\g.pods<=16)(all:ax)(v:Z all<=1048576)(R:ax):∀(m i:Nat) (ids:ax),i+m=Z all->Z ids<=1048576->(all.drop i).foldl (chS c l g) ids=R->
  To (Eo [9] []) f233 (.pure (Io (GT [CA 1 (iv R) J0,DA O]))) (G0 (stk f233 1) (cbF ids all i) (chO c l g)):=by
 have p:Z (iv all)=Z all:=by simp
 intro m;induction m with
 |zero=>
  intro i ids s f b;rw[Ae o_]at b;have b:ids=R:=b;subst b;exact tA
 |succ m k=>
  intro i ids s f b;have n:i<Z all:=o_;rw[Ac n,Ao]at b;have get:=cD n;generalize all[i]=a at b get;have k:=k (i+1);have r:=JT ids a;have h1:=aBw c u l hs g t (dA ids a) o_ _ rfl;have o:chS c l g ids a=if nX c l g (dA ids a)=O then dA ids a else ids:=rfl
  rw[o]at b;cases hp:(ids.any λx=>x==a)with
  |true=>
   have e:=aMI ids f a hp;generalize hz:iv (dA ids a)++Ak (Z ids-Z (dA ids a)) (ii 0)=z at e;have j:(z.drop 0).take (Z (dA ids a))=iv (dA ids a):=by rw[<-hz,List.drop_zero,Eh s_,Bq s_]
   refine gV ?_;refine aT λh=>?_
   repeat' first|refine pA ?_|refine⟨i,rfl,?_⟩|refine⟨_,get,?_⟩|refine .pure _ [_] (LK ids f) ?_|exact rfl|refine lA ?_ ?_|intro h
   refine .eff [] [4,3] _ _ rfl e ?_;refine bO (hEo [9] []) 5 ?_;conv=>whnf
   refine To.cutC [15,8,9,54,55,56] 5 rfl rfl rfl rfl ?_;refine aBx c l g a _ _ (aMZ c l g a z _ ids all i) ?_;rw[j];cases d:nX c l g (dA ids a)with
   |true=>
    exact zqra17
   |false=>
    exact zqra12
  |false=>
   have e:=aQq ids f a hp;have j:iv ids=iv (dA ids a):=by
    have:dA ids a=ids:=Gn.2 λy q=>by have:=(List.any_eq_false.1 hp) y q;simpa using this
    rw[this]
   refine gV ?_;refine aT λh=>?_
   repeat' first|refine pA ?_|refine⟨i,rfl,?_⟩|refine⟨_,get,?_⟩|refine .pure _ [_] (LK ids f) ?_|exact rfl|refine lA ?_ ?_|intro h
   refine .eff [] [4,3] _ _ rfl e ?_;refine bO (hEo [9] []) 5 ?_;conv=>whnf
   refine To.cutC [15,8,9,54,55,56] 5 rfl rfl rfl rfl ?_;refine aBx c l g a _ _ (aM0 c l g a (iv ids) ids all i) ?_;rw[j];cases d:nX c l g (dA ids a)with
   |true=>
    exact zqra17
   |false=>
    exact zqra12
def chB(c:Con)(l:a7)(g:Gan):Option ax->Option ax
 |none=>U
 |some ids=>X (ids.foldl (chS c l g) ids)
abbrev caF(ids:ax):au:=[(3,G2 0 0),(4,G2 1 0),(5,G2 2 0),(8,aSC),(9,CA 1 (iv ids) (.own 3 0))]
def aIw(c:Con)(F:c.sm)(l:a7)(hs:Sm l)(g:Gan)(G:0<=g.pods/\g.pods<=16)(R:Option ax):∀(f:Nat) (ids:ax),Z (aB l ids)<f->Z ids+Z (aB l ids)<=Z l->chB c l g (chA c l g f ids)=R->
  BC (Eo [9] []) f233 (chR R) (caF ids) (chO c l g++[Fr 0 1 3]):=by
 have hl:=hs.1;intro f;induction f with
 |zero=>intro ids h;omega
 |succ f K=>
  intro ids M I j;have J:Z (iv ids)=Z ids:=by simp
  have h1:=aBw c F l hs g G ids o_ _ rfl;have u:=qQ l hs ids o_;have hsl:=iQ hs ids;have m:=RF c F (aB l ids) hsl.1;have i:=aGe (aB l ids) hsl;have a:=aLD c (ofL c (aB l ids)) (eD (aB l ids)) (aGc hsl).1;have A:aL (λx=>bR c (ofL c (aB l ids)) x.g.ten) (eD (aB l ids)) 0=atI c l ids:=rfl;rw[A]at a;unfold chA at j;cases v:nX c l g ids with
  |true=>
   rw[bu v]at j;rw[v]at h1;have j:X (ids.foldl (chS c l g) ids)=R:=j;subst j;have H:=BK ids o_;have next:=aIv c F l hs g G ids o_ _ (Z ids) 0 ids o_ o_ rfl
   exact tA
  |false=>
   rw[bt (by rw[v];decide)]at j;rw[v]at h1;have b:B9 c l ids=if atI c l ids<0 then U else X (aH (eD (aB l ids)) (atI c l ids).toNat).g.id:=rfl
   have s:=λn=>A1 (c:=c) (l:=l) (ids:=ids) (n:=n);by_cases d:atI c l ids<0
   .rw [bu d]at b;rw[b]at j;have j:U=R:=j;subst j;generalize atI c l ids=q at a d;generalize ofL c (aB l ids)=us at m a;generalize eD (aB l ids)=o at i a;generalize aB l ids=left at u m i;refine gV ?_
    repeat' first|refine pA ?_|refine .eff [] [0,1,2] _ _ rfl h1 ?_|refine .p u ?_|refine .p m ?_|refine .p i ?_|refine .eff [] [0,4] _ _ rfl a ?_|exact rfl|refine lA ?_ ?_|intro h
   .rw [bt d]at b;obtain⟨k,r,B⟩:∃k:Nat,k<Z (eD (aB l ids))/\atI c l ids=(k:Int):=by
     rcases GN (λx=>bR c (ofL c (aB l ids)) x.g.ten) (eD (aB l ids)) 0 with h|⟨k,h1,L,_⟩
     .exact bv (show atI c l ids<0 from by unfold atI;rw[h];decide) d
     .exact ⟨k,h1,by unfold atI;rw[L];simp⟩
    rw[B]at b a;rw[Bm]at b;have get:=hD r;have z:=s _ b;obtain⟨y,D,w,_⟩:=z;have C:=xW ⟨y,D,w⟩;rw[b]at j;generalize aH (eD (aB l ids)) k=x at get j C;have next:=K (ids++[x.g.id]) o_ q_ j
    have e:iv (ids++[x.g.id])=iv ids++[ii x.g.id]:=by simp
    unfold caF at next
    rw[e]at next
    have p:=xB (aB l ids);generalize ofL c (aB l ids)=us at m a;generalize eD (aB l ids)=o at i a get r p;generalize aB l ids=left at u m i I p;refine gV ?_
    repeat' first|refine pA ?_|refine .eff [] [0,1,2] _ _ rfl h1 ?_|refine .p u ?_|refine .p m ?_|refine .p i ?_|refine .eff [] [0,4] _ _ rfl a ?_|refine⟨k,rfl,?_⟩|refine⟨_,get,?_⟩|refine⟨⟨by simp only[maxLen];simp;omega,by simp;omega⟩,?_⟩|exact rfl|refine lA ?_ ?_|intro h
    exact zW
def eJ(l:a7):aB l []=l:=Gn.2 λx _=>rfl
def YJ(c:Con)(e:c.sm)(l:a7)(hs:Sm l)(g:Gan)(i:0<=g.pods/\g.pods<=16)(R:Option ax)(a:eS c l g=R):bj 233 [c.av,CA 14 (rav l) J0,g.av] (chR R):=by
 have h:=RF c e l hs.1;have j:=X1 g;have d:=aBG c (ofL c l) g.ten (dem g);unfold eS at a;cases b:kM c (ofL c l) g.ten (dem g)with
 |false=>
  rw[bt (by rw[b];decide)]at a;rw[b]at d;subst a;exact zqra13
 |true=>
  rw[bu b]at a;rw[b]at d;have next:=aIw c e l hs g i R (Z l+1) [] (by rw[eJ];omega) (by rw[eJ];simp) (by rw[<-a];unfold chB;split<;>rfl)
  exact zqra13
def aDB(c:Con)(a:c.sm)(l:a7)(hs:Sm l)(g:Gan)(b:0<=g.pods/\g.pods<=16):bj 233 [c.av,CA 14 (rav l) J0,g.av] (chR (eS c l g)):=YJ c a l hs g b _ rfl
def V3.le(a b:V3):Prop:=a.a<=b.a/\a.b<=b.b/\a.c<=b.c
def V3.farB(a:V3):Prop:=(0<=a.a/\a.a<=1099511627776)/\(0<=a.b/\a.b<=1099511627776)/\(0<=a.c/\a.c<=1099511627776)
def vZ{a b d:Int}(h:a<=b):jV a d<=jV b d:=by unfold jV fZ;omega
def D4{a d:Int}(c:0<=a)(h1:a<=1099511627776)(b:0<=d):a<=jV a d:=by unfold jV fZ;omega
def OS{a d:Int}(c:0<=a)(b:0<=d):0<=jV a d/\jV a d<=1099511627776:=by unfold jV fZ;omega
def aBN{a b:V3}(d:V3)(h:a.le b):(dZ a d).le (dZ b d):=⟨vZ h.1,vZ h.2.1,vZ h.2.2⟩
def V3.pos(d:V3):Prop:=0<=d.a/\0<=d.b/\0<=d.c
def aJe{a d:V3}(h:a.farB)(b:d.pos):a.le (dZ a d):=⟨D4 h.1.1 h.1.2 b.1,D4 h.2.1.1 h.2.1.2 b.2.1,D4 h.2.2.1 h.2.2.2 b.2.2⟩
def aD0{a d:V3}(h:a.farB)(b:d.pos):(dZ a d).farB:=⟨OS h.1.1 b.1,OS h.2.1.1 b.2.1,OS h.2.2.1 b.2.2⟩
def V3.le.trans{a b c:V3}(h:a.le b)(k:b.le c):a.le c:=⟨Fo h.1 k.1,Fo h.2.1 k.2.1,Fo h.2.2 k.2.2⟩
def yB{a b:V3}:bY a b=O↔a.le b:=by
 obtain⟨e,g,f⟩:=a;obtain⟨c,h,d⟩:=b;unfold bY V3.le
 grind
def qR(c:Con)(j:Nat)(v:V3)(x:Rn):V3:=if bB c.ns x.g.ten=O/\(j:Int)∈upL c.ns x.g.ten then dZ v (dem x.g)else v
def LU(v:V3)(j:Nat):∀(ks:ax) (xs:a8),ks.Nodup->(∀k∈ks,0<=k)->(ks.foldl (wH v) xs)[j]? =if(j:Int)∈ks then(xs[j]?).map λx=>dZ x v else xs[j]?
 |[],xs,_,_=>by simp
 |k::r,xs,a,h0=>by
  have a:=Ce.1 a;have c:=h0 k s_;rw[Ao,LU v j r _ a.2 λx b=>h0 x (by simp[b]),HQ]
  grind
def aFb(c:Con)(xs:a8)(x:Rn)(j:Nat):(CZ c xs x)[j]? =(xs[j]?).map λv=>qR c j v x:=by
 unfold CZ qR;cases d:bB c.ns x.g.ten with
 |false=>rw[bt d_];simp
 |true=>
  rw[bu rfl];have a:(bP c.ns x.g.ten).Nodup:=by unfold bP;exact List.pairwise_reverse.2 ((L8 c.ns _ _).imp λh=>by omega)
  have hm:(j:Int)∈bP c.ns x.g.ten↔(j:Int)∈upL c.ns x.g.ten:=Il;rw[LU _ _ _ _ a λk b=>(L9 _ _ _ _ (Il.1 b)).1]
  grind
def aGk(c:Con)(j:Nat):∀(l:a7) (xs:a8),(l.foldl (CZ c) xs)[j]? =(xs[j]?).map λv=>l.foldl (qR c j) v
 |[],xs=>by simp
 |x::r,xs=>by rw[Ao,aGk c j r,aFb,Option.map_map];rfl
def B8{c:Con}{t:Int}(h:0<=t/\t.toNat<Z c.ns)(l:a7):atV (ofL c l) t=l.foldl (qR c t.toNat) V3.zero:=by unfold atV;rw[bt (by rw[bp o_];decide),<-aNA];unfold aFc;rw[aGk,Ht,bu h.2];rfl
def yE{c:Con}{j:Nat}(p:Rn->Bool):∀(l:a7) (a b:V3),(∀x∈l,(dem x.g).pos)->a.le b->b.farB->((l.filter p).foldl (qR c j) a).le (l.foldl (qR c j) b)/\(l.foldl (qR c j) b).farB
 |[],a,b,_,h,hf=>⟨h,hf⟩
 |x::r,a,b,hd,h,hf=>by
  have e:=hd x s_;have f:(qR c j b x).farB:=by unfold qR;split;exact aD0 hf e;exact hf
  rw[Ao,Gw];cases p x with
  |true=>
   rw[bu rfl,Ao];refine yE p r _ _ (λy d=>hd y (by simp[d])) ?_ f;unfold qR;split
   .exact aBN _ h
   .exact h
  |false=>
   rw[bt d_];refine yE p r _ _ (λy d=>hd y (by simp[d])) ?_ f;unfold qR;split
   .exact h.trans (aJe hf e)
   .exact h
def OV:V3.zero.farB:=by unfold V3.farB V3.zero;decide
def FY(a:V3):a.le a:=⟨Ei _,Ei _,Ei _⟩
def aMH{g:Gan}(a:aO g.need=O)(k:0<=g.pods/\g.pods<=16):(dem g).pos:=by
 unfold aO at a;simp only[Af,bo]at a;obtain⟨⟨⟨d,h⟩,c,j⟩,e,i⟩:=a;have key:∀x,0<=x->0<=H5 x g.pods:=λx f=>by have b:0<=fZ x 1099511627776*fZ g.pods 1048576:=Ji (by unfold fZ;omega) (by unfold fZ;omega);unfold H5;generalize fZ x 1099511627776*fZ g.pods 1048576=q at b;unfold fZ;omega
 exact⟨key _ d,key _ c,key _ e⟩
def Was(c:Con)(l:a7)(n:Int):Prop:=∃(ids:ax) (x:Rn),x∈l/\x.g.id=n/\bR c (ofL c (aB l ids)) x.g.ten=O
theorem DU{v:Int}{l:ax}:inB v l=O↔v∈l:=by unfold inB;simp
theorem oC{l:a7}{ids:ax}{x:Rn}:x∈aB l ids↔x∈l/\x.g.id∉ids:=by unfold aB;rw[Fh];refine and_congr Iff.rfl ?_;rw[<-DU];cases inB x.g.id ids<;>simp
def T2{c:Con}{l:a7}{g:Gan}{R:ax}:∀(f:Nat) (ids:ax),ids.Nodup->(∀n∈ids,Was c l n)->chA c l g f ids=X R->R.Nodup/\(∀n∈R,Was c l n)/\nX c l g R=O
 |0,ids,_,_,h=>by cases h
 |f+1,ids,hn,hw,h=>by
  unfold chA at h;split at h
  .rename_i m;cases h;exact⟨hn,hw,m⟩
  .split at h
   .cases h
   .rename_i n k;obtain⟨x,h1,i,h3⟩:=A1 k;have hm:=oC.1 h1;refine T2 f _ ?_ ?_ h
    .rw [Du];refine⟨hn,by simp,λa d b j e=>?_⟩;simp at j;subst j e;rw[i]at hm;exact hm.2 d
    .intro a d;rcases Bx.1 d with d|d
     .exact hw a d
     .simp at d;subst d;exact⟨ids,x,hm.1,i,h3⟩
def aMW{c:Con}{l:a7}{g:Gan}(ids:ax)(a:Int)(h:nX c l g ids=O):nX c l g (chS c l g ids a)=O/\(chS c l g ids a).Sublist ids:=by
 have e:chS c l g ids a=if nX c l g (dA ids a)=O then dA ids a else ids:=rfl
 rw[e];cases b:nX c l g (dA ids a)with
 |true=>rw[bu rfl];exact⟨b,Iq⟩
 |false=>rw[bt d_];exact⟨h,List.Sublist.refl _⟩
theorem aIy{c:Con}{l:a7}{g:Gan}(bs:ax):∀(ids:ax),nX c l g ids=O->nX c l g (bs.foldl (chS c l g) ids)=O/\(bs.foldl (chS c l g) ids).Sublist ids:=by
 induction bs with
 |nil=>intro ids h;exact⟨h,List.Sublist.refl _⟩
 |cons a r b=>
  intro ids h;have h1:=aMW ids a h;rw[Ao];generalize chS c l g ids a=q at h1;obtain⟨d,h3⟩:=b q h1.1;exact⟨d,h3.trans h1.2⟩
def CJ{c:Con}{l:a7}{g:Gan}{R:ax}(h:eS c l g=X R):kM c (ofL c l) g.ten (dem g)=O/\R.Nodup/\(∀n∈R,Was c l n)/\nX c l g R=true:=by
 unfold eS at h;split at h
 .rename_i b;split at h
  .cases h
  .rename_i ids a;cases h;obtain⟨h1,d,h3⟩:=T2 _ [] s_ s_ a
   grind[aIy]
 .cases h
def sE(l:a7):Prop:=l.Pairwise λa b=>a.g.id≠b.g.id/\a.seq≠b.seq
def BW{a:Int}:∀{q:a7},q.Pairwise (λx y=>x.g.id≠y.g.id)->(∃x∈q,x.g.id=a)->Z (q.filter λy=>!(y.g.id==a))+1=Z q
 |[],_,h=>by obtain⟨x,b,_⟩:=h;cases b
 |y::r,hp,h=>by
  have hp:=Bp.1 hp;rw[Gw];by_cases c:y.g.id=a
  .have e:(r.filter λy=>!(y.g.id==a))=r:=Gn.2 λz hz=>by grind
   rw[bt (by simp[c]),e];simp
  .obtain ⟨x,b,d⟩:=h;have b:x∈r:=by grind
   have:=BW hp.2 ⟨x,b,d⟩
   grind
def LZ(l:a7)(a:Int)(r:ax):aB l (a::r)=(aB l r).filter λx=>!(x.g.id==a):=by
 unfold aB;rw[List.filter_filter];refine List.filter_congr λx _=>?_;unfold inB
 grind
def BU{l:a7}(c:sE l):∀{ids:ax},ids.Nodup->(∀n∈ids,∃x∈l,x.g.id=n)->Z (aB l ids)+Z ids=Z l
 |[],_,_=>by rw[eJ];simp
 |a::r,b,hm=>by have b:=Ce.1 b;have f:=BU c b.2 λn h=>hm n (by simp[h]);obtain⟨x,e,d⟩:=hm a s_;have hp:(aB l r).Pairwise λx y=>x.g.id≠y.g.id:=(c.sublist Iq).imp λh=>h.1;have:=BW (a:=a) hp ⟨x,oC.2 ⟨e,by rw[d];exact b.1⟩,d⟩;rw[LZ];simp only[Al];omega
theorem aKN{l:a7}(a:sE l){x y:Rn}(c:x∈l)(b:y∈l)(h:x.g.id=y.g.id):x=y:=by
 obtain⟨i,e,rfl⟩:=Gq c;obtain⟨j,d,rfl⟩:=Gq b;have hp:=Ek.1 a
 grind[Nat.lt_trichotomy]
def VJ(l:ax)(hl:Z l<=1048576)(v:Int)(r:Bool):∀(m i:Nat),i+m=Z l->inB v (l.drop i)=r->
  BC E f84 (DA r) [(0,ii v),(1,CA 1 (iv l) J0),(5,ii i)] []:=by
 have d:Z (iv l)=Z l:=by simp
 intro m;induction m with
 |zero=>
  intro i f a;rw[Ae o_]at a;have a:S=r:=a;subst a;exact tA
 |succ m c=>
  intro i f a;have b:i<Z l:=o_;rw[Ac b]at a;have get:=cD b;generalize l[i]=x at a get;unfold inB at a;rw[Hj]at a;have c:=c (i+1) o_;have g:(v==x)=(x==v):=by
   by_cases h:v=x
   .subst h;rfl
   .rw [beq_eq_false_iff_ne.2 h,beq_eq_false_iff_ne.2 (Ne.symm h)]
  rw[g]at a;cases e:(x==v)with
  |true=>
   rw[e]at a;have a:O=r:=a;subst a;exact tA
  |false=>
   rw[e,Kj]at a;have next:=c a
   exact tA
def aFi(l:ax)(hl:Z l<=1048576)(v:Int):bj 84 [ii v,CA 1 (iv l) J0] (DA (inB v l)):=by refine c_ f84 λ_=>gV ?_;exact To.cut [0,1,5] 0 rfl rfl rfl rfl (VJ l hl v _ (Z l) 0 o_ rfl)
def aEN(l:a7)(hs:Sm l)(ids:ax)(k:Z ids<=1048576)(R:a7):∀(m i:Nat) (a:a7),i+m=Z l->Z a<=i->a++aB (l.drop i) ids=R->
  BC (Eo [5] []) f41 (CA 14 (rav R) J0) [(0,CA 14 (rav l) J0),(1,CA 1 (iv ids) J0),(5,CA 14 (rav a) (.own 0 0)),(6,ii i)] [Fr 0 14 85]:=by
 have h:Z (rav l)=Z l:=by simp
 have hl:=hs.1;intro m;induction m with
 |zero=>
  intro i a o p b;exact zqra5
 |succ m f=>
  intro i a o p b;have c:i<Z l:=o_;rw[Ac c]at b;generalize q:l[i]=x at b;have get:(rav l)[i]? =X x.av:=(cB c).trans (by rw[q]);have n:Z (rav a)=Z a:=by simp
  have j:=aFi ids k x.g.id;cases d:inB x.g.id ids with
  |true=>
   rw[d]at j;rw[kW d]at b;have next:=f (i+1) a o_ o_ b
   exact tA
  |false=>
   rw[d]at j;rw[kV d]at b;have next:=f (i+1) (a++[x]) o_ q_ (by rw[Ag];exact b)
   have e:rav (a++[x])=rav a++[x.av]:=by simp
   rw[e]at next
   exact tA
def oE(l:a7)(hs:Sm l)(ids:ax)(b:Z ids<=1048576):bj 41 [CA 14 (rav l) J0,CA 1 (iv ids) J0] (CA 14 (rav (aB l ids)) J0):=by refine gA (Eo [5] []) f41 λ_=>?_;have a:=aEN l hs ids b _ (Z l) 0 [] o_ s_ rfl;exact zW
def LeR(a b:Rn):Prop:=cX b a=S
theorem mF{a b:Rn}:LeR a b↔b.st<a.st\/(b.st=a.st/\b.seq<=a.seq):=by
 unfold LeR
 grind[xE]
def LeR.trans{a b c:Rn}(h:LeR a b)(k:LeR b c):LeR a c:=by rw[mF]at*;omega
theorem NN{a b:Rn}(h:cX a b=O):LeR a b:=by have:=xE.1 h;rw[mF];omega
def KG{xs:a7}{i k:Nat}(c:i<Z xs)(b:k<Z xs)(j:Nat):aH (jC xs i k) j=if j=k then aH xs i else if j=i then aH xs k else aH xs j:=by
 unfold jC
 conv=>lhs;unfold aH
 rw[List.getElem?_set,List.getElem?_set];by_cases h1:j=k
 .subst h1;rw[bu rfl,bu rfl,bu (by simpa using b)];rfl
 .rw [bt (λe=>h1 e.symm),bt h1];by_cases a:j=i
  .subst a;rw[bu rfl,bu rfl,bu c];rfl
  .rw [bt (λe=>a e.symm),bt a];rfl
def Hp(n:Nat)(xs:a7):Prop:=∀j,0<j->j<n->LeR (aH xs ((j-1)/2)) (aH xs j)
def Hp.root{n:Nat}{xs:a7}(h:Hp n xs):∀(m j:Nat),j<=m->j<n->LeR (aH xs 0) (aH xs j)
 |0,j,hm,_=>by
  grind[mF]
 |m+1,j,hm,hj=>by
  by_cases a:j=0
  .subst a;rw[mF];omega
  .exact (h.root m ((j-1)/2) o_ o_).trans (h j o_ hj)
def aD4(n:Nat):∀(f:Nat) (xs:a7) (i:Nat),Z xs=n->i<n->i<f->(∀j,0<j->j<n->j≠i->LeR (aH xs ((j-1)/2)) (aH xs j))->(∀j,0<j->j<n->(j-1)/2=i->0<i->LeR (aH xs ((i-1)/2)) (aH xs j))->Hp n (upH f xs i)
 |0,xs,i,_,_,h,_,_=>by omega
 |f+1,xs,i,hx,hi,hf,h1,h2=>by
  unfold upH;by_cases q:i=0
  .rw [bu q];exact λj a b=>h1 j a b o_
  rw[bt q];generalize m:(i-1)/2=up;have s:up<i:=o_;cases p:cX (aH xs i) (aH xs up)with
  |false=>
   rw[bt d_];intro j a b;by_cases d:j=i
   .subst d;rw[m];exact p
   .exact h1 j a b d
  |true=>
   rw[bu rfl];have o:=NN p;have g:=λj=>KG (xs:=xs) (i:=i) (k:=up) o_ o_ j;have l:0<up->LeR (aH xs ((up-1)/2)) (aH xs up):=λh=>h1 up h o_ o_;refine aD4 n f _ up (by rw[dU];exact hx) o_ o_ (λj a b d=>?_) (λj a b d r=>?_)
   .rw [g,g];by_cases c:j=i
    .grind
    .rw [bt d,bt c];by_cases hp:(j-1)/2=i
     .grind
     .by_cases e:(j-1)/2=up
      .rw [bu e];have:=h1 j a b c;rw[e]at this;exact o.trans this
      grind
   .rw [g,g,bt o_,bt o_];by_cases c:j=i
    .grind
    .rw [bt o_,bt c];have:=h1 j a b c;rw[d]at this;exact(l r).trans this
def SK{xs:a7}{x:Rn}{j:Nat}(h:j<Z xs):aH (xs++[x]) j=aH xs j:=by unfold aH;rw[Ai h]
def aKD{xs:a7}(h:Hp (Z xs) xs)(x:Rn):Hp (Z (jE xs x)) (jE xs x):=by rw[AX];unfold jE;refine aD4 (Z xs+1) _ _ _ s_ o_ o_ (λj a b c=>?_) (λj a b c d=>by omega);rw[SK o_,SK o_];exact h j a o_
def TJ(n:Nat):∀(f:Nat) (xs:a7) (i:Nat),n<=Z xs->i<Z xs->n<f+i+1->(∀j,0<j->j<n->(j-1)/2≠i->LeR (aH xs ((j-1)/2)) (aH xs j))->(∀j,0<j->j<n->(j-1)/2=i->0<i->LeR (aH xs ((i-1)/2)) (aH xs j))->Hp n (lR f xs n i)
 |0,xs,i,_,_,hf,h1,h2=>by
  intro j a b;exact h1 j a b o_
 |f+1,xs,i,hx,hi,hf,h1,h2=>by
  unfold lR;by_cases l:2*i+1<n
  .rw [bu l];have m:=AA xs n i l;have c:∀j,j<n->(j=2*i+1\/j=2*i+2)->LeR (aH xs (eZ xs n i)) (aH xs j):=λj d h=>by
    unfold eZ;by_cases h3:2*i+2<n
    .rw [bu h3];cases e:cX (aH xs (2*i+2)) (aH xs (2*i+1))with
     |true=>
      rw[bu rfl];rcases h with rfl|rfl
      .exact NN e
      .rw [mF];omega
     |false=>
      rw[bt d_];rcases h with rfl|rfl
      .rw [mF];omega
      .exact e
    .rw [bt h3];rcases h with rfl|rfl
     .rw [mF];omega
     .omega
   generalize eZ xs n i=k at m c;cases e:cX (aH xs k) (aH xs i)with
   |false=>
    rw[bt d_];intro j a b;by_cases d:(j-1)/2=i
    .rw [d];exact LeR.trans e (c j b o_)
    .exact h1 j a b d
   |true=>
    rw[bu rfl];have p:=NN e;have g:=λj=>KG (xs:=xs) (i:=i) (k:=k) hi o_ j;have o:(k-1)/2=i:=o_;refine TJ n f _ k (by rw[dU];exact hx) (by rw[dU];omega) o_ (λj a b d=>?_) (λj a b d q=>?_)
    .rw [g,g]
     grind
    grind
  .rw [bt l];intro j a b;exact h1 j a b o_
def KH{xs:a7}{x:Rn}{j:Nat}(h:0<j):aH (xs.set 0 x) j=aH xs j:=by unfold aH;rw[Bf o_]
def aO5{xs:a7}{n:Nat}(f:0<n)(d:n<=Z xs)(h:Hp n xs):Hp (n-1) (sI xs n):=by unfold sI;refine TJ (n-1) n _ 0 q_ q_ o_ (λj a b c=>?_) (λj a b c e=>by omega);rw[KH o_,KH a];exact h j a o_
def EQ{xs:a7}{i k:Nat}(b:i<Z xs)(a:k<Z xs):(jC xs i k).Perm xs:=by
 unfold jC aH
 grind[Ab,List.set_set_perm]
def O0:∀(f:Nat) (xs:a7) (i:Nat),i<Z xs->(upH f xs i).Perm xs
 |0,xs,i,_=>Fc _
 |f+1,xs,i,hi=>by
  unfold upH;split
  .exact Fc _
  .split
   .exact (O0 f _ _ (by rw[dU];omega)).trans (EQ hi o_)
   .exact Fc _
theorem B6:∀(l xs:a7),(l.foldl jE xs).Perm (xs++l)
 |[],xs=>by simp
 |x::r,xs=>by rw[Ao];refine(B6 r _).trans ?_;have h:(jE xs x).Perm (xs++[x]):=O0 _ _ _ s_;have:=h.append_right r;rwa [Ag]at this
def JG:∀(l xs:a7),Hp (Z xs) xs->Hp (Z (l.foldl jE xs)) (l.foldl jE xs)
 |[],xs,h=>h
 |x::r,xs,h=>by rw[Ao];exact JG r _ (aKD h x)
theorem qC{xs:a7}{m j:Nat}(h:j<m):aH (xs.take m) j=aH xs j:=by unfold aH;rw[List.getElem?_take_of_lt h]
def UY{xs:a7}{m i k:Nat}(b:i<m)(a:k<m):(jC xs i k).take m=jC (xs.take m) i k:=by
 unfold jC
 grind[qC,List.take_set]
def XW{xs:a7}{n i:Nat}(h:2*i+1<n):eZ (xs.take n) n i=eZ xs n i:=by
 unfold eZ;by_cases h3:2*i+2<n
 .rw [bu h3,bu h3,qC h3,qC h]
 .rw [bt h3,bt h3]
def G8(n:Nat):∀(f:Nat) (xs:a7) (i:Nat),i<n\/n=0->(lR f xs n i).take n=lR f (xs.take n) n i
 |0,xs,i,_=>rfl
 |f+1,xs,i,hi=>by
  unfold lR;by_cases a:2*i+1<n
  .rw [bu a,bu a];have b:=AA xs n i a;rw[XW a,qC b.1,qC o_];split
   .rw [G8 n f _ _ o_,UY o_ b.1]
   .rfl
  .rw [bt a,bt a]
theorem G9(n:Nat):∀(f:Nat) (xs:a7) (i:Nat),n<=Z xs->i<Z xs->(lR f xs n i).Perm xs
 |0,xs,i,_,_=>Fc _
 |f+1,xs,i,hn,hi=>by
  unfold lR;split
  .rename_i a;have b:=AA xs n i a;split
   .exact (G9 n f _ _ (by rw[dU];exact hn) (by rw[dU];omega)).trans (EQ hi o_)
   .exact Fc _
  .exact Fc _
def Q0{xs:a7}{n:Nat}(f:0<n)(a:n<=Z xs):(aH xs 0::(sI xs n).take (n-1)).Perm (xs.take n):=by
 match n,f with
 |1,_=>
  match xs,a with
  |x::r,_=>exact Fc _
 |m+2,_=>
  have d:m+2-1=m+1:=rfl;unfold sI;rw[d,G8 (m+1) _ _ 0 (.inl o_)]
  match xs,a with
  |x::r,a=>
  have g:m<Z r:=by simp at a;omega
  have b:aH (x::r) (m+1)=r[m]:=by
   unfold aH
   grind[List.getElem?_cons_succ,Ab]
  have e:(List.set (x::r) 0 (aH (x::r) (m+1))).take (m+1)=r[m]::r.take m:=by rw[b];rfl
  rw[e];have c:(x::r).take (m+2)=x::(r.take m++[r[m]]):=by grind[List.take_append_getElem]
  rw[c];refine List.Perm.cons _ ?_
  grind[G9,List.perm_append_singleton]
theorem tL:∀(n:Nat) (xs:a7),n<=Z xs->(iC n xs).Perm (xs.take n)
 |0,xs,_=>by simp[iC]
 |n+1,xs,hn=>by unfold iC;have h1:=Q0 (xs:=xs) (n:=n+1) o_ hn;have a:=tL n (sI xs (n+1)) (by rw[pR];omega);exact(List.Perm.cons _ a).trans h1
def JI:∀(n:Nat) (xs:a7),n<=Z xs->Hp n xs->(iC n xs).Pairwise LeR
 |0,xs,_,_=>by simp[iC]
 |n+1,xs,hn,h=>by
  unfold iC;refine Bp.2 ⟨λy b=>?_,JI n _ (by rw[pR];omega) (aO5 o_ hn h)⟩;have h1:=(tL n (sI xs (n+1)) (by rw[pR];omega)).mem_iff.1 b;have a:=(Q0 (xs:=xs) (n:=n+1) o_ hn).mem_iff.1 (Az _ h1);obtain⟨j,c,rfl⟩:=Lj.1 a;have e:aH xs j=xs[j]:=by unfold aH;rw[Ab o_];rfl
  rw[<-e];exact h.root j j (Bc _) o_
def WL(l:a7):(eD l).Perm l:=by
 unfold eD
 grind[qX,tL,Bq,B6]
def aGd(l:a7):(eD l).Pairwise LeR:=by
 unfold eD;have c:Z (l.foldl jE [])=Z l:=by rw[qX];simp
 refine JI _ _ o_ ?_;rw[<-c];exact JG l [] (λj a b=>by simp at b)
def IZ{R:Rn->Rn->Prop}:∀{a b:a7},a.Perm b->a.Pairwise R->b.Pairwise R->(∀x∈a,∀y∈a,R x y->R y x->x=y)->(∀x∈a,R x x)->a=b
 |[],b,h,_,_,_,_=>by
  have:=h.length_eq
  grind[List.eq_nil_of_length_eq_zero]
 |x::r,[],h,_,_,_,_=>by have:=h.length_eq;simp at this
 |x::r,y::s,h,h1,d,ha,hr=>by
  have h1:=Bp.1 h1;have d:=Bp.1 d;have j:x=y:=by
   have g:x∈y::s:=h.mem_iff.1 s_;have f:y∈x::r:=h.mem_iff.2 s_;rcases Ba.1 g with e|g
   .exact e
   .rcases Ba.1 f with e|f
    .exact e.symm
    .exact ha x s_ y (by simp[f]) (h1.1 y f) (d.1 x g)
  subst j;have hp:r.Perm s:=h.cons_inv;rw[IZ hp h1.2 d.2 (λa c b i=>ha a (by simp[c]) b (by simp[i])) (λa c=>hr a (by simp[c]))]
def wE(x:Rn)(out:a7):Nat->Nat
 |0=>0
 |k+1=>if cX x (aH out k)=O then wE x out k else k+1
def F7(out:a7)(x:Rn):a7:=out.take (wE x out (Z out))++[x]++out.drop (wE x out (Z out))
def M3(l:a7):a7:=l.foldl F7 []
def aAI(x:Rn)(out:a7):∀(k:Nat),wE x out k<=k
 |0=>Bc _
 |k+1=>by
  unfold wE;split
  .have:=aAI x out k;omega
  .exact Bc _
def J5(x:Rn)(out:a7):∀(k:Nat),(∀j,wE x out k<=j->j<k->cX x (aH out j)=O)/\(0<wE x out k->cX x (aH out (wE x out k-1))=S)
 |0=>⟨λj _ h=>by omega,λh=>by simp[wE]at h⟩
 |k+1=>by
  obtain⟨h1,a⟩:=J5 x out k;unfold wE
  grind
def J6(out:a7)(x:Rn):(F7 out x).Perm (out++[x]):=by
 unfold F7
 grind[Ag,Dm,List.perm_append_comm,Bl]
def aLx{out:a7}(h:out.Pairwise LeR)(x:Rn):(F7 out x).Pairwise LeR:=by
 have c:=aAI x out (Z out);obtain⟨h1,d⟩:=J5 x out (Z out);unfold F7;generalize wE x out (Z out)=k at c h1 d;have hp:=Ek.1 h;have g:∀{j:Nat} (a:j<Z out),aH out j=out[j]:=λ{j} a=>by unfold aH;rw[Ab a];rfl
 have e:∀y∈out.take k,LeR y x:=λy f=>by
  obtain⟨j,a,rfl⟩:=Lj.1 f;have hl:LeR (aH out (k-1)) x:=d o_;rw[g o_]at hl;by_cases b:j=k-1
  .subst b;exact hl
  .exact (hp j (k-1) o_ o_ o_).trans hl
 grind[List.mem_drop_iff_getElem,NN,Bl,Ag,Bp]
def JE:∀(l out:a7),(l.foldl F7 out).Perm (out++l)
 |[],out=>by simp
 |x::r,out=>by rw[Ao];refine(JE r _).trans ?_;have:=(J6 out x).append_right r;rwa [Ag]at this
def aAb:∀(l out:a7),out.Pairwise LeR->(l.foldl F7 out).Pairwise LeR
 |[],out,h=>h
 |x::r,out,h=>by rw[Ao];exact aAb r _ (aLx h x)
def Q7{l:a7}(e:sE l):eD l=M3 l:=by
 have h1:=WL l;have f:(M3 l).Perm l:=by have:=JE l [];simpa[M3]using this
 refine IZ (h1.trans f.symm) (aGd l) (aAb l [] s_) (λx b y a c d=>?_) (λx _=>by rw[mF];omega);have b:=h1.mem_iff.1 b;have a:=h1.mem_iff.1 a;rw[mF]at c d;have hs:x.seq=y.seq:=o_;obtain⟨i,h,rfl⟩:=Gq b;obtain⟨j,g,rfl⟩:=Gq a;have hp:=Ek.1 e
 grind[Nat.lt_trichotomy]
abbrev roF(l out:a7)(i:Int):au:=[(0,CA 14 (rav l) J0),(3,CA 14 (rav out) J0),(4,ii i)]
def aRj(l:a7)(R:aa)(x:Rn)(i:Nat)(w:i<1048576)(g:(rav l)[i]? =X x.av)(out:a7)(v:Z out<=1048576)
  (next:∀K:Nat,K<=Z out->K=wE x out (Z out)->BC (Er [] [70,71,72]) f257 R [(0,CA 14 (rav l) J0),(3,CA 14 ((rav out).take K++[x.av]++(rav out).drop K) J0),(4,ii ((i:Int)+1))] []):∀(k:Nat),k<=Z out->wE x out (Z out)=wE x out k->
  To (Er [] [70,71,72]) f257 (.pure (Io R)) (G0 (stk f257 1) (roF l out i++[(5,ii k)]) []):=by
 have o:Z (rav out)=Z out:=by simp
 intro k;induction k with
 |zero=>
  intro n e;have next:=next 0 (Bn _) (by rw[e];rfl)
  have q:Z (Fi 0 (rav out))=0:=by simp
  refine gV ?_
  repeat' first|refine pA ?_|refine Aj 0 (Aa o_ ?_)|refine⟨i,rfl,?_⟩|refine⟨_,g,?_⟩|refine⟨⟨by simp only[maxLen];simp;omega,by simp;omega⟩,?_⟩|refine Aa (Aa (by simp[maxLen]) s_) ?_|exact rfl|refine lA ?_ ?_|intro h
  exact zW
 |succ k r=>
  intro n e;have f:=hD (xs:=out) (i:=k) o_;have d:=xE (a:=x) (b:=aH out k);have t:wE x out (k+1)=if cX x (aH out k)=O then wE x out k else k+1:=rfl
  rw[t]at e;have ex:cX x (aH out k)=S->BC (Er [] [70,71,72]) f257 R [(0,CA 14 (rav l) J0),(3,CA 14 ((rav out).take (k+1)++[x.av]++(rav out).drop (k+1)) J0),(4,ii ((i:Int)+1))] []:=λh=>next (k+1) n (by rw[e,bt (by rw[h];decide)])
  have j:cX x (aH out k)=O->To (Er [] [70,71,72]) f257 (.pure (Io R)) (G0 (stk f257 1) (roF l out i++[(5,ii k)]) []):=λh=>r o_ (by rw[e,bu h]);generalize aH out k=y at f d ex j;have p:((k+1:Nat):Int)-1=((k:Nat):Int):=o_;by_cases s:y.st<x.st
  .have next:=j (d.2 (.inl s))
   have c:((0:Int)==0)=true:=rfl;refine gV ?_
   repeat' first
    |(refine gN (hEr [] [70,71,72]) ?_;conv=>whnf)
    |refine Aj (k+1) (Aa rfl ?_)
    |refine Aj k (Aa o_ ?_)
    |refine Aj i (Aa rfl ?_)
    |refine Aj _ (Aa g ?_)
    |refine Aj _ (Aa f ?_)
    |refine⟨⟨by simp only[maxLen];simp;omega,by simp;omega⟩,?_⟩
    |refine aY ?_
    |refine aN ?_
    |refine aT λh=>?_
    |refine aF λh=>?_
    |refine Aa (λh=>?_) (λh=>bv h (by rw[c];decide))
    |refine Aa (λh=>bv h (by rw[c];decide)) (λh=>?_)
    |refine Aa (Aa (by simp only[bV];omega) (by simp only[aW];omega)) ?_
    |refine aJ ?_
    |refine Aa o_ ?_
    |fail
   rw[p];exact To.cut [0,3,4,5] 0 rfl rfl rfl rfl next
  .by_cases m:y.st=x.st
   .have c:(y.st==x.st)=true:=by simp[m]
    by_cases u:y.seq<x.seq
    .have next:=j (d.2 (.inr ⟨m,u⟩))
     refine gV ?_
     repeat' first
      |(refine gN (hEr [] [70,71,72]) ?_;conv=>whnf)
      |refine Aj (k+1) (Aa rfl ?_)
      |refine Aj k (Aa o_ ?_)
      |refine Aj i (Aa rfl ?_)
      |refine Aj _ (Aa g ?_)
      |refine Aj _ (Aa f ?_)
      |refine⟨⟨by simp only[maxLen];simp;omega,by simp;omega⟩,?_⟩
      |refine aY ?_
      |refine aN ?_
      |refine aT λh=>?_
      |refine aF λh=>?_
      |refine Aa (λh=>?_) (λh=>bv h (by rw[c];decide))
      |refine Aa (λh=>bv h (by rw[c];decide)) (λh=>?_)
      |refine Aa (Aa (by simp only[bV];omega) (by simp only[aW];omega)) ?_
      |refine aJ ?_
      |refine Aa o_ ?_
      |fail
     rw[p];exact To.cut [0,3,4,5] 0 rfl rfl rfl rfl next
    .have next:=ex (by cases h:cX x y with|false=>rfl|true=>have:=d.1 h;omega)
     refine gV ?_
     repeat' first
      |(refine gN (hEr [] [70,71,72]) ?_;conv=>whnf)
      |refine Aj (k+1) (Aa rfl ?_)
      |refine Aj k (Aa o_ ?_)
      |refine Aj i (Aa rfl ?_)
      |refine Aj _ (Aa g ?_)
      |refine Aj _ (Aa f ?_)
      |refine⟨⟨by simp only[maxLen];simp;omega,by simp;omega⟩,?_⟩
      |refine aY ?_
      |refine aN ?_
      |refine aT λh=>?_
      |refine aF λh=>?_
      |refine Aa (λh=>?_) (λh=>bv h (by rw[c];decide))
      |refine Aa (λh=>bv h (by rw[c];decide)) (λh=>?_)
      |refine Aa (Aa (by simp only[bV];omega) (by simp only[aW];omega)) ?_
      |refine aJ ?_
      |refine Aa o_ ?_
      |fail
     exact zW
   .have c:(y.st==x.st)=false:=by simp[m]
    have next:=ex (by cases h:cX x y with|false=>rfl|true=>have:=d.1 h;omega)
    refine gV ?_
    repeat' first
     |(refine gN (hEr [] [70,71,72]) ?_;conv=>whnf)
     |refine Aj (k+1) (Aa rfl ?_)
     |refine Aj k (Aa o_ ?_)
     |refine Aj i (Aa rfl ?_)
     |refine Aj _ (Aa g ?_)
     |refine Aj _ (Aa f ?_)
     |refine⟨⟨by simp only[maxLen];simp;omega,by simp;omega⟩,?_⟩
     |refine aY ?_
     |refine aN ?_
     |refine aT λh=>?_
     |refine aF λh=>?_
     |refine Aa (λh=>?_) (λh=>bv h (by rw[c];decide))
     |refine Aa (λh=>bv h (by rw[c];decide)) (λh=>?_)
     |refine Aa (Aa (by simp only[bV];omega) (by simp only[aW];omega)) ?_
     |refine aJ ?_
     |refine Aa o_ ?_
     |fail
    exact zW
def aOL(l:a7)(hl:Z l<=1000000)(R:a7):∀(m i:Nat) (out:a7),i+m=Z l->Z out=i->(l.drop i).foldl F7 out=R->
  BC (Er [] [70,71,72]) f257 (CA 14 (rav R) J0) (roF l out i) []:=by
 have f:Z (rav l)=Z l:=by simp
 intro m;induction m with
 |zero=>
  intro i out k j a;rw[Ae o_]at a;have a:out=R:=a;subst a;exact tA
 |succ m o=>
  intro i out k j a;have b:i<Z l:=o_;rw[Ac b,Ao]at a;have g:(rav l)[i]? =X l[i].av:=cB b;generalize l[i]=x at a g;have c:Z (rav out)=Z out:=by simp
  have d:=aRj l (CA 14 (rav R) J0) x i o_ g out o_ (λK p n=>by
   have e:(rav out).take K++[x.av]++(rav out).drop K=rav (F7 out x):=by unfold F7;rw[<-n];simp
   rw[e]
   exact o (i+1) (F7 out x) o_ (by have:=(J6 out x).length_eq;simp at this;omega) a) (Z out) (Bc _) rfl
  refine gV ?_;refine aT λh=>?_;rw[<-c]at d;exact zW
def aCf(l:a7)(hl:Z l<=1000000):bj 257 [CA 14 (rav l) J0] (CA 14 (rav (M3 l)) J0):=by refine gA (Er [] [70,71,72]) f257 λ_=>?_;have a:=aOL l hl _ (Z l) 0 [] o_ rfl rfl;exact zW
def PX(c:Con)(k:c.sm)(a:a8)(t:Int)(need:V3)(r:Bool)(b:kM c a t need=r):bj 186 [c.av,CA 3 (vav a) J0,ii t,need.av] (DA r):=by
 have d:=kX c k t;rw[tF]at d;unfold kM at b;cases h:bB c.ns t with
 |false=>
  rw[h]at d;rw[bt (by rw[h];decide)]at b;subst b;exact c_ f186 λ_=>zW
 |true=>
  rw[h]at d;rw[bu h]at b;have i:=vJ h;have l:t=(t.toNat:Int):=o_;have e:=yA (c:=c) i;generalize cH c.ns t=x at e b;have h1:=yT a t;generalize atV a t=q1 at h1 b;have j:=lZ q1 need;generalize dZ q1 need=q2 at j b;have h3:=mT q2 x.n;rw[b]at h3;exact c_ f186 λ_=>zW
def U8(c:Con)(b:c.sm)(a:a8)(t:Int)(need:V3):bj 186 [c.av,CA 3 (vav a) J0,ii t,need.av] (DA (kM c a t need)):=PX c b a t need _ rfl
def MZ(c:Con)(j:c.sm)(b:a8)(t:Int)(r:Bool)(a:bR c b t=r):bj 258 [c.av,CA 3 (vav b) J0,ii t] (DA r):=by
 have d:=kX c j t;rw[tF]at d;unfold bR at a;cases h:bB c.ns t with
 |false=>
  rw[h]at d;rw[bt (by rw[h];decide)]at a;exact zqra7
 |true=>
  rw[h]at d;rw[bu h]at a;have k:=vJ h;have l:t=(t.toNat:Int):=o_;have e:=yA (c:=c) k;generalize cH c.ns t=x at e a;have h1:=yT b t;generalize atV b t=q1 at h1 a;have h3:=mT q1 x.n;cases i:bY q1 x.n with
  |false=>
   rw[i]at h3 a;have a:O=r:=a;exact zqra7
  |true=>
   rw[i]at h3 a;have a:S=r:=a;exact zqra7
def QF(c:Con)(b:c.sm)(a:a8)(t:Int):bj 258 [c.av,CA 3 (vav a) J0,ii t] (DA (bR c a t)):=MZ c b a t _ rfl
def B2(c:Con)(h:c.sm)(l:a7)(hs:Sm l)(g:Gan)(j:0<=g.pods/\g.pods<=16)(i:aO g.need=O)(ids:ax)(e:Z ids<=1048576)(r:Bool)(a:nX c l g ids=r):
  bj 187 [c.av,CA 14 (rav l) J0,g.av,CA 1 (iv ids) J0] (DA r):=by
 have d:=oE l hs ids e;have b:=mV c h (aB l ids) (iQ hs ids) g j i;unfold nX at a;generalize aB l ids=left at d b a;generalize cE c left g=Q at b a;subst a;unfold fdA at b;cases Q with
 |none=>
  exact c_ f187 λ_=>zW
 |some x=>
  exact c_ f187 λ_=>zW
def nxA:Option Int->Int
 |some n=>n
 |none=>0
def VG(c:Con)(q:c.sm)(a:a8)(o:a7)(s:Z o<=1048576)(r:Int):∀(m i:Nat),i+m=Z o->(if aL (λx=>bR c a x.g.ten) (o.drop i) i<0 then 0 else(aH o (aL (λx=>bR c a x.g.ten) (o.drop i) i).toNat).g.id)=r->
  BC E f188 (ii r) [(3,G2 0 0),(8,CA 3 (vav a) J0),(9,CA 14 (rav o) J0),(10,ii i)] [Do 30 c.cs]:=by
 have j:Z (rav o)=Z o:=by simp
 intro m;induction m with
 |zero=>
  intro i p b;rw[Ae o_]at b;have b:0=r:=b;subst b;exact tA
 |succ m f=>
  intro i p b;have d:i<Z o:=o_;have k:=hD d;have h:aH o i=o[i]:=by unfold aH;rw[Ab d];rfl
  rw[Ac d,<-h]at b;have e:=QF c q a (aH o i).g.ten;have f:=f (i+1) o_;have n:aL (λx=>bR c a x.g.ten) (aH o i::o.drop (i+1)) i=if bR c a (aH o i).g.ten=O then(i:Int)else aL (λx=>bR c a x.g.ten) (o.drop (i+1)) (i+1):=rfl
  rw[n]at b;cases l:bR c a (aH o i).g.ten with
  |true=>
   rw[l]at e b;rw[bu rfl,bt o_,Bm]at b;subst b;generalize aH o i=x at k e;exact tA
  |false=>
   rw[l]at e b;simp only[Cy,if_false]at b;have next:=f b
   generalize aH o i=x at k e;exact tA
def xV{l:a7}(a:sE l)(ids:ax):sE (aB l ids):=a.sublist Iq
def aFd(c:Con)(k:c.sm)(l:a7)(hs:Sm l)(hl:Z l<=1000000)(i:sE l)(ids:ax)(m:Z ids<=1048576):bj 188 [c.av,CA 14 (rav l) J0,CA 1 (iv ids) J0] (ii (nxA (B9 c l ids))):=by
 have j:=oE l hs ids m;have hsl:=iQ hs ids;have p:Z (aB l ids)<=Z l:=Dw _ _;have b:=MS c k (aB l ids) hsl.1;have a:=aCf (aB l ids) o_;have n:nxA (B9 c l ids)=if aL (λx=>bR c (ofL c (aB l ids)) x.g.ten) (M3 (aB l ids)) 0<0 then 0 else(aH (M3 (aB l ids)) (aL (λx=>bR c (ofL c (aB l ids)) x.g.ten) (M3 (aB l ids)) 0).toNat).g.id:=by
  rw[<-Q7 (xV i ids)];unfold B9;have e:atI c l ids=aL (λx=>bR c (ofL c (aB l ids)) x.g.ten) (eD (aB l ids)) 0:=rfl;rw[<-e];split
  .rfl
  .rfl
 have d:Z (M3 (aB l ids))<=1048576:=by rw[<-Q7 (xV i ids),xB];exact hsl.1
 rw[n];generalize ofL c (aB l ids)=us at b;generalize M3 (aB l ids)=o at a d;generalize aB l ids=left at j b a;refine c_ f188 λ_=>?_
 repeat' first|refine pA ?_|refine .p j ?_|refine .p b ?_|refine .p a ?_|exact rfl|refine lA ?_ ?_|intro h
 exact To.cut [3,8,9,10] 1 rfl rfl rfl rfl (VG c k us o d _ (Z o) 0 o_ rfl)
abbrev rcO(c:Con)(g:Gan):aw:=[Do 30 c.cs,Do 45 g.cs]
abbrev rcF(l:a7)(ids:ax):au:=[(1,CA 14 (rav l) J0),(3,G2 0 0),(5,G2 1 0),(8,CA 1 (iv ids) J0)]
abbrev aKr(l:a7)(ids all:ax)(i:Int):au:=rcF l ids++[(10,CA 1 (iv all) J0),(11,ii i)]
def aRr(c:Con)(g:Gan)(l:a7)(G:aa)(ids all:ax)(w:Z ids<=1048576)(i:Nat)(y:i<1048576)(a:Int)(z:(iv all)[i]? =X (ii a))(R:ax)
  (next:To (Eo [8,12] []) f130 (.pure (Io G)) (G0 (stk f130 2) (aKr l ids all i++[(12,CA 1 (iv R) (.own 2 0)),(13,ii (Z ids:Nat))]) (rcO c g++[Fr 0 1 3]))):∀(m k:Nat) (b:ax),k+m=Z ids->Z b<=k->b++dA (ids.drop k) a=R->
  To (Eo [8,12] []) f130 (.pure (Io G)) (G0 (stk f130 2) (aKr l ids all i++[(12,CA 1 (iv b) (.own 2 0)),(13,ii k)]) (rcO c g++[Fr 0 1 3])):=by
 have p:Z (iv ids)=Z ids:=by simp
 intro m;induction m with
 |zero=>
  intro k b j v d;rw[Ae o_]at d;have d:b++[]=R:=d;rw[Ap]at d;subst d;have j:k=Z ids:=o_;subst j;exact next
 |succ m o=>
  intro k b j v d;have f:k<Z ids:=o_;rw[Ac f]at d;have s:=cD f;generalize ids[k]=x at d s;have r:Z (iv b)=Z b:=by simp
  unfold dA at d;rw[Gw]at d;have h:(x !=a)= !(x==a):=rfl;cases q:(x==a)with
  |true=>
   rw[q]at h d;have u:(x !=a)=false:=h;have n:=o (k+1) b o_ o_ d;exact tA
  |false=>
   rw[q]at h d;have u:(x !=a)=true:=h;have n:=o (k+1) (b++[x]) o_ q_ (by rw[Ag];exact d);have e:iv (b++[x])=iv b++[ii x]:=by simp
   rw[e]at n;exact tA
def aSY(c:Con)(v:c.sm)(l:a7)(hs:Sm l)(g:Gan)(r:0<=g.pods/\g.pods<=16)(s:aO g.need=O)(all:ax)(w:Z all<=1048576)(R:ax):∀(m i:Nat) (ids:ax),i+m=Z all->Z ids<=1048576->(all.drop i).foldl (chS c l g) ids=R->
  To (Eo [8,12] []) f130 (.pure (Io (GT [CA 1 (iv R) J0,DA O]))) (G0 (stk f130 1) (aKr l ids all i) (rcO c g)):=by
 have k:Z (iv all)=Z all:=by simp
 intro m;induction m with
 |zero=>
  intro i ids q h b;rw[Ae o_]at b;have b:ids=R:=b;subst b;exact tA
 |succ m f=>
  intro i ids q h b;have d:i<Z all:=o_;rw[Ac d,Ao]at b;have n:=cD d;generalize all[i]=a at b n;have f:=f (i+1);have o:=JT ids a;have u:Z (iv ids)=Z ids:=by simp
  have h1:=B2 c v l hs g r s (dA ids a) o_ _ rfl;have j:chS c l g ids a=if nX c l g (dA ids a)=O then dA ids a else ids:=rfl
  rw[j]at b;have fin:To (Eo [8,12] []) f130 (.pure (Io (GT [CA 1 (iv R) J0,DA O]))) (G0 (stk f130 2) (aKr l ids all i++[(12,CA 1 (iv (dA ids a)) (.own 2 0)),(13,ii (Z ids:Nat))]) (rcO c g++[Fr 0 1 3])):=by
   cases e:nX c l g (dA ids a)with
   |true=>
    rw[bu e]at b;rw[e]at h1;have next:=f (dA ids a) o_ o_ b
    exact tA
   |false=>
    rw[bt (by rw[e];decide)]at b;rw[e]at h1;have next:=f ids o_ h b
    exact tA
  have p:=aRr c g l _ ids all h i o_ a n (dA ids a) fin (Z ids) 0 [] o_ s_ rfl;exact tA
def aSZ(c:Con)(q:c.sm)(l:a7)(hs:Sm l)(hl:Z l<=1000000)(t:sE l)(k:∀x∈l,x.g.id≠0)(g:Gan)(r:0<=g.pods/\g.pods<=16)(s:aO g.need=O)(R:Option ax):∀(f:Nat) (ids:ax),Z (aB l ids)<f->Z ids+Z (aB l ids)<=Z l->chB c l g (chA c l g f ids)=R->
  BC (Eo [8,12] []) f130 (chR R) (rcF l ids) (rcO c g):=by
 intro f;induction f with
 |zero=>intro ids h;omega
 |succ f w=>
  intro ids B z a;have v:Z (iv ids)=Z ids:=by simp
  have h1:=B2 c q l hs g r s ids o_ _ rfl;have b:=aFd c q l hs hl t ids o_;unfold chA at a;cases m:nX c l g ids with
  |true=>
   rw[bu m]at a;rw[m]at h1;have a:X (ids.foldl (chS c l g) ids)=R:=a;subst a;have next:=aSY c q l hs g r s ids o_ _ (Z ids) 0 ids o_ o_ rfl
   exact tA
  |false=>
   rw[bt (by rw[m];decide)]at a;rw[m]at h1;have i:=λn=>A1 (c:=c) (l:=l) (ids:=ids) (n:=n);cases o:B9 c l ids with
   |none=>
    rw[o]at a b;have a:U=R:=a;subst a;have b:bj 188 [c.av,CA 14 (rav l) J0,CA 1 (iv ids) J0] (ii 0):=b;exact tA
   |some n=>
    obtain⟨y,j,d,_⟩:=i n o;have u:=xW ⟨y,j,d⟩;have p:n≠0:=by rw[<-d];exact k y (oC.1 j).1
    rw[o]at a b;have b:bj 188 [c.av,CA 14 (rav l) J0,CA 1 (iv ids) J0] (ii n):=b;have next:=w (ids++[n]) o_ q_ a
    have e:iv (ids++[n])=iv ids++[ii n]:=by simp
    unfold rcF at next
    rw[e]at next
    have C:(n==0)=false:=by simp[p]
    exact tA
def QE(c:Con)(e:c.sm)(l:a7)(hs:Sm l)(hl:Z l<=1000000)(i:sE l)(b:∀x∈l,x.g.id≠0)(g:Gan)(j:0<=g.pods/\g.pods<=16)(k:aO g.need=O)(R:Option ax)(a:eS c l g=R):bj 130 [c.av,CA 14 (rav l) J0,g.av] (chR R):=by
 have m:=MS c e l hs.1;have n:=MX g;have h:=U8 c e (ofL c l) g.ten (dem g);unfold eS at a;cases d:kM c (ofL c l) g.ten (dem g)with
 |false=>
  rw[bt (by rw[d];decide)]at a;rw[d]at h;subst a;exact zqra10
 |true=>
  rw[bu d]at a;rw[d]at h;have next:=aSZ c e l hs hl i b g j k R (Z l+1) [] (by rw[eJ];omega) (by rw[eJ];simp) (by rw[<-a];unfold chB;split<;>rfl)
  exact zqra10
def aMX{c:Con}{l:a7}{g:Gan}{R:ax}(b:sE l)(h:eS c l g=X R):Z R<=Z l:=by
 obtain⟨_,f,d,_⟩:=CJ h;have:=BU b f λn a=>by obtain⟨_,x,h1,e,_⟩:=d n a;exact⟨x,h1,e⟩
 omega
abbrev eB:Int:=1099511627776
theorem uL{v e:Int}(b:0<=v)(h1:v<=eB)(a:0<=e):jV v e=min (v+e) eB:=by unfold jV fZ eB at*;omega
def cR:ax->Int
 |[]=>0
 |x::r=>x+cR r
def mP:∀{es:ax},(∀e∈es,0<=e)->0<=cR es
 |[],_=>Ei _
 |x::r,h=>by have:=mP (es:=r) λe a=>h e (by simp[a]);have:=h x s_;unfold cR;omega
def yP:∀{es:ax} {v:Int},0<=v->v<=eB->(∀e∈es,0<=e)->es.foldl jV v=min (v+cR es) eB
 |[],v,h0,h1,_=>by
  unfold cR;show v=_;omega
 |x::r,v,h0,h1,h=>by have b:=h x s_;have c:=mP (es:=r) λe a=>h e (by simp[a]);rw[Ao,uL h0 h1 b,yP (by unfold eB at*;omega) o_ λe a=>h e (by simp[a])];have e:cR (x::r)=x+cR r:=rfl;rw[e];omega
structure Prj(p:V3->Int):Prop where
 add:∀u v,p (dZ u v)=jV (p u) (p v)
 sub:∀u v,p (xY u v)=aBY (p u) (p v)
 pos:∀u,p (aCB u)=max (p u) 0
 zero:p V3.zero=0
def aKG:Prj V3.a:=⟨λ_ _=>rfl,λ_ _=>rfl,λ_=>rfl,rfl⟩
def aKF:Prj V3.b:=⟨λ_ _=>rfl,λ_ _=>rfl,λ_=>rfl,rfl⟩
def aKE:Prj V3.c:=⟨λ_ _=>rfl,λ_ _=>rfl,λ_=>rfl,rfl⟩
section
variable {p:V3->Int} (hp:Prj p)
include hp
def MH(us:a8):∀(B:ax) (v:V3),p (B.foldl (smS us) v)=(B.map λt=>p (atV us t)).foldl jV (p v)
 |[],v=>rfl
 |t::r,v=>by rw[Ao,MH us r,Bg,Ao];congr 1;exact hp.add _ _
def kE(ns:bc)(p:V3->Int)(us:a8)(t s:Int):Int:=if s=t then 0 else max (aBY (p (xY (cH ns s).n (cH ns s).l)) (p (atV us s))) 0
def aAy(ns:bc)(us:a8)(t:Int):∀(B:ax) (v:V3),0<=p v->p v<=eB->p (B.foldl (zD ns us t) v)=(B.map (kE ns p us t)).foldl jV (p v)
 |[],v,_,_=>rfl
 |s::r,v,h0,h1=>by
  rw[Ao,Bg,Ao];have e:p (zD ns us t v s)=jV (p v) (kE ns p us t s):=by
   unfold zD kE;by_cases h:s=t
   .rw [bu (bq h),bu h,uL h0 h1 (Ei _)];omega
   .rw [bt (by rw[bp h];decide),bt h,hp.add,hp.pos,hp.sub]
  have b:0<=kE ns p us t s:=by unfold kE;split<;>omega
  have a:0<=jV (p v) (kE ns p us t s)/\jV (p v) (kE ns p us t s)<=eB:=by
   rw[uL h0 h1 b];unfold eB at*
   omega
  rw[aAy ns us t r _ (by rw[e];exact a.1) (by rw[e];exact a.2),e]
end
def aKQ(c:Con)(l:a7):Z (ofL c l)=Z c.ns:=by unfold ofL mK;simp
def aKO{c:Con}{l:a7}(e:∀x∈l,(dem x.g).pos)(q:Rn->Bool)(s:Int):(0<=(atV (ofL c (l.filter q)) s).a/\0<=(atV (ofL c (l.filter q)) s).b/\0<=(atV (ofL c (l.filter q)) s).c)/\(atV (ofL c (l.filter q)) s).le (atV (ofL c l) s)/\((atV (ofL c l) s).a<=eB/\(atV (ofL c l) s).b<=eB/\(atV (ofL c l) s).c<=eB):=by
 by_cases hs:0<=s/\s.toNat<Z c.ns
 .rw [B8 hs,B8 hs];obtain⟨h1,d⟩:=yE (c:=c) (j:=s.toNat) q l V3.zero V3.zero e (FY _) OV;have h3:=(yE (c:=c) (j:=s.toNat) (λ_=>O) (l.filter q) V3.zero V3.zero (λx h=>e x (Fh.1 h).1) (FY _) OV).2;exact⟨⟨h3.1.1,h3.2.1.1,h3.2.2.1⟩,h1,d.1.2,d.2.1.2,d.2.2.2⟩
 .have z:∀l,atV (ofL c l) s=V3.zero:=λl=>by
   unfold atV;by_cases f:s<0
   .rw [bu (bq f)]
   .rw [bt (by rw[bp f];decide),Bk (by rw[aKQ];omega)];rfl
  rw[z,z];exact⟨by decide,FY _,by decide⟩
def aC4(need:V3)(xs:a8)(h:Int)(j:Nat):((qF need xs h)[j]?).getD V3.zero=if 0<=h/\h.toNat<Z xs/\h.toNat=j then xY ((xs[j]?).getD V3.zero) need else(xs[j]?).getD V3.zero:=by
 unfold qF
 grind
def wiS(h:Int)(b:Bool)(y:Int):Bool:=if b=O then O else decide (y=h)
def IN(G hs:ax):Bool:=hs.all λh=>G.foldl (wiS h) S
def aQu(h n y:Int):Int:=if y=h then n+1 else n
def C5(h:Int)(l:ax):Int:=l.foldl (aQu h) 0
def aHs(free:a8)(need:V3)(hs:ax)(h:Int):Bool:=if decide (h<0)=O then S else if decide ((Z free:Int)<=h)=O then S else !decide (dM ((free[h.toNat]?).getD V3.zero) need<C5 h hs)
def GL(free:a8)(need:V3)(hs:ax):Bool:=hs.all (aHs free need hs)
def chkG(free:a8)(need:V3)(hs:ax)(G:ax):Bool:=IN G hs&&GL free need hs
def sP(c:Con)(free:a8)(g:Gan)(hs:ax):Bool:=if((Z hs:Int)=g.pods)then(gpL c g.lev).any (chkG free g.need hs)else S
theorem OQ{c:Con}{lv a b:Int}(d:0<=lv)(h3:lv<=3):alB c lv a b=O↔wD c lv a=wD c lv b:=by rw[OP c lv a b d h3];simp
def aFp{c:Con}{lv a b:Int}(d:0<=lv)(h3:lv<=3)(h:wD c lv a=wD c lv b):∀(s:List ax) (n:Nat),cZ c lv a s n=cZ c lv b s n
 |[],n=>rfl
 |g::r,n=>by unfold cZ;rw[aFp d h3 h r (n+1),OP c lv _ a d h3,OP c lv _ b d h3,h]
def aFo(c:Con)(lv i x:Int):∀(s:List ax) (k n:Nat),(∀g∈s,g≠[])->cZ c lv i (s.set k ((s[k]?).getD []++[x])) n=cZ c lv i s n
 |[],k,n,_=>by simp
 |g::r,0,n,h=>by
  have b:=h g (Aw ..);cases g with
  |nil=>exact bv rfl b
  |cons a t=>rfl
 |g::r,k+1,n,h=>by have d:=aFo c lv i x r k (n+1) (λg b=>h g (Az _ b));show cZ c lv i (g::r.set k ((r[k]?).getD []++[x])) n=_;unfold cZ;rw[d]
def Z7(c:Con)(lv i:Int)(g:ax):∀(s:List ax) (n:Nat),cZ c lv i (s++[g]) n=match cZ c lv i s n with
   |some k=>X k
   |none=>if alB c lv (g.headD 0) i=O then X (n+Z s)else U
 |[],n=>by simp[cZ]
 |q::r,n=>by
  show cZ c lv i (q::(r++[g])) n=_;unfold cZ;by_cases h:alB c lv (q.headD 0) i=O
  .rw [bu h,bu h]
  .rw [bt h,bt h,Z7 c lv i g r (n+1)]
   grind
def Z6{c:Con}{lv i:Int}:∀{s:List ax} {n k:Nat},cZ c lv i s n=X k->n<=k/\∃G,s[k-n]? =X G/\alB c lv (G.headD 0) i=O
 |[],n,k,h=>by cases h
 |g::r,n,k,h=>by
  unfold cZ at h;by_cases h1:alB c lv (g.headD 0) i=O
  .grind
  .rw [bt h1]at h;obtain⟨a,G,h3,b⟩:=Z6 h
   grind
def aNo(c:Con)(lv:Int)(m:Nat)(s:List ax):Prop:=
 (∀a:Nat,a<m->∃k G,cZ c lv (a:Int) s 0=X k/\s[k]? =X G/\(a:Int)∈G)/\∀G∈s,G≠[]/\G.Nodup/\∀x∈G,0<=x/\x<(m:Int)/\alB c lv (G.headD 0) x=O
theorem aG9{c:Con}{lv:Int}(B:0<=lv)(h3:lv<=3){m:Nat}{s:List ax}(h:aNo c lv m s):aNo c lv (m+1) (rgS c lv s m):=by
 obtain⟨h1,n⟩:=h;have l:∀g∈s,g≠[]:=λg r=>(n g r).1;unfold rgS;cases o:cZ c lv (m:Int) s 0 with
 |some k=>
  obtain⟨_,f,b,z⟩:=Z6 o;rw[Nat.sub_zero]at b;have C:k<Z s:=(Ad.1 b).1;have i:f∈s:=Ax b;refine⟨λa x=>?_,λG d=>?_⟩
  .show ∃e G,cZ c lv (a:Int) (s.set k ((s[k]?).getD []++[(m:Int)])) 0=X e/\(s.set k ((s[k]?).getD []++[(m:Int)]))[e]? =X G/\(a:Int)∈G;rw[aFo c lv (a:Int) (m:Int) s k 0 l,b];by_cases j:a=m
   .grind [Ay]
   .obtain ⟨e,q,A,v,u⟩:=h1 a o_
    grind[Ay,Bf]
  .have d:G∈s.set k ((s[k]?).getD []++[(m:Int)]):=d;rw[b]at d;have d:G∈s.set k (f++[(m:Int)]):=d;rcases De d with d|rfl
   .grind
   .obtain ⟨p,F,D⟩:=n f i;have w:(f++[(m:Int)]).headD 0=f.headD 0:=by
     cases f with
     |nil=>exact bv rfl p
     |cons y t=>rfl
    grind[Du]
 |none=>
  refine⟨λa x=>?_,λG d=>?_⟩
  .show ∃e G,cZ c lv (a:Int) (s++[[(m:Int)]]) 0=X e/\(s++[[(m:Int)]])[e]? =X G/\(a:Int)∈G;rw[Z7];by_cases j:a=m
   .subst j;rw[o];refine⟨0+Z s,[(a:Int)],bu ((OQ B h3).2 rfl),by simp,by simp⟩
   .obtain ⟨e,q,A,v,u⟩:=h1 a o_
    grind[Ai,Ad]
  grind[OQ]
def NU{c:Con}{lv:Int}(f:0<=lv)(h3:lv<=3):aNo c lv (Z c.hs) (gpL c lv):=by
 rw[<-aFk];unfold rgL;rw[bt q_,bt q_];have key:∀m:Nat,aNo c lv m ((Df m).foldl (rgS c lv) []):=λm=>by
  induction m with
  |zero=>exact⟨λa e=>by omega,λG b=>by cases b⟩
  |succ m d=>
   grind[Ix,aG9]
 exact key _
def aPx{c:Con}{lv d a b:Int}(h:lv<=d)(e:wD c lv a=wD c lv b):wD c d a=wD c d b:=by
 unfold wD ofK at*
 grind
def aPK{c:Con}{lv d:Int}(b:0<=lv)(h:lv<=d)(h3:d<=3){a:ax}(o:a∈gpL c lv):a.Nodup/\∃G∈gpL c d,∀x∈a,x∈G:=by
 obtain⟨_,s⟩:=NU (c:=c) b (Fo h h3);obtain⟨e,_⟩:=NU (c:=c) (Fo b h) h3;obtain⟨q,u,f⟩:=s a o;refine⟨u,?_⟩;have l:a.headD 0∈a:=by
  cases a with
  |nil=>exact bv rfl q
  |cons y t=>exact Aw ..
 obtain⟨w,A,_⟩:=f _ l;have m:(a.headD 0)=((a.headD 0).toNat:Int):=o_;obtain⟨k,G,g,p,_⟩:=e (a.headD 0).toNat o_;rw[<-m]at g;refine⟨G,Ax p,λx j=>?_⟩;obtain⟨B,D,i⟩:=f x j;have n:=aPx h ((OQ b (Fo h h3)).1 i);rw[aFp (Fo b h) h3 n]at g;have r:x=(x.toNat:Int):=o_;obtain⟨F,H,v,z,C⟩:=e x.toNat o_
 grind
def W0{free:a8}{g:Gan}:∀(b out:ax) (h:Int),h∈b.foldl (inS free g) out->h∈out\/(h∈b/\0<=h/\h<(Z free:Int))
 |[],out,h,a=>.inl a
 |u::r,out,h,a=>by
  rw[Ao]at a;rcases W0 r _ h a with a|a
  .unfold inS at a
   grind
  .exact .inr ⟨Az _ a.1,a.2⟩
def rmN(free:a8)(g:Gan)(h:Int):Nat:=(max (dM ((free[h.toNat]?).getD V3.zero) g.need) 0).toNat
def aLz(free:a8)(g:Gan)(out:ax)(u h:Int):(inS free g out u).count h<=out.count h+(if u=h then rmN free g h else 0):=by
 unfold inS;split
 .omega
 .split
  .omega
  .rw [List.count_append,List.count_replicate];by_cases a:u=h
   .subst a;rw[bu rfl];simp only[beq_self_eq_true,if_true];unfold rmN inN;omega
   .rw [bt a];simp[a]
def aAK(free:a8)(g:Gan)(h:Int):∀(a out:ax),a.Nodup->(a.foldl (inS free g) out).count h<=out.count h+(if h∈a then rmN free g h else 0)
 |[],out,_=>by simp
 |u::r,out,hn=>by
  rw[Ao];have h1:=aAK free g h r (inS free g out u) (Ce.1 hn).2;have b:=aLz free g out u h
  grind
def BJ(h:Int):∀(l:ax) (n:Int),l.foldl (aQu h) n=n+(l.count h:Nat)
 |[],n=>by simp
 |y::r,n=>by
  rw[Ao,BJ h r];unfold aQu
  grind
def xX{G hs:ax}:IN G hs=O↔ ∀h∈hs,h∈G:=by
 have key:∀(h:Int) (G:ax) (b:Bool),G.foldl (wiS h) b=O↔b=O\/h∈G:=λh G=>by
  induction G with
  |nil=>intro b;simp
  |cons y r a=>
   intro b;rw[Ao,a];unfold wiS
   grind
 unfold IN
 grind[Ck]
def aHu{c:Con}{free:a8}{g:Gan}(B:aO g.need=O)(A:1<=g.pods)(hl:0<=g.pref/\g.pref<=g.lev/\g.lev<=3){x:Int×ax}(h:wO c free g=X x):
  (∀u∈x.2,0<=u/\u<(Z free:Int)/\((x.2.count u:Nat):Int)<=dM ((free[u.toNat]?).getD V3.zero) g.need)/\sP c free g x.2=true:=by
 have j:∀(p:List ax),fdG c free g p=X x->∃d∈p,x.2=inL free g d/\¬ (Z (inL free g d):Int)<g.pods:=λp=>by
  induction p with
  |nil=>intro h;cases h
  |cons d r s=>
   intro h;unfold fdG at h
   grind
 have i:∀(n:Nat) (lv:Int),fdL c free g n lv=X x->∃k,lv<=k/\k<lv+n/\fdG c free g (gpL c k)=X x:=λn=>by
  induction n with
  |zero=>intro lv h;cases h
  |succ n s=>
   intro lv h;unfold fdL at h
   grind
 unfold wO at h;obtain⟨k,H,F,y⟩:=i _ _ h;obtain⟨d,v,q,D⟩:=j _ y;have o:0<=k/\k<=g.lev:=o_;obtain⟨w,G,z,m⟩:=aPK o.1 o.2 hl.2.2 v;have t:(Z (inL free g d):Int)<=g.pods:=by
  have key:∀(l:ax) (out:ax),(Z out:Int)<=g.pods->(Z (l.foldl (inS free g) out):Int)<=g.pods:=λl=>by
   induction l with
   |nil=>intro out h;exact h
   |cons x r s=>intro out h;exact s _ (DT free g out x h)
  exact key d [] q_
 have b:∀u∈x.2,u∈d/\0<=u/\u<(Z free:Int):=λu a=>by
  rw[q]at a;rcases W0 d [] u a with a|a
  .cases a
  .exact a
 have f:∀u∈x.2,((x.2.count u:Nat):Int)<=dM ((free[u.toNat]?).getD V3.zero) g.need:=λu a=>by have h1:=aAK free g u d [] w;have C:0<x.2.count u:=List.count_pos_iff.2 a;rw[bu (b u a).1,show d.foldl (inS free g) []=x.2 from q.symm]at h1;unfold rmN at h1;simp only[List.count_nil]at h1;omega
 refine⟨λu a=>⟨(b u a).2.1,(b u a).2.2,f u a⟩,?_⟩;unfold sP;rw[bu (by rw[q];omega),Fq];refine⟨G,z,?_⟩;unfold chkG;rw[xX.2 λu a=>m u (b u a).1,Bt];unfold GL;rw[Ck];intro u a;unfold aHs;rw[bt (by have:=(b u a).2.1;simp;omega),bt (by have:=(b u a).2.2;simp;omega)];have:=f u a;have e:C5 u x.2=((x.2.count u:Nat):Int):=by unfold C5;rw[BJ];omega
 rw[e];simp;omega
def OY{ns:bc}:∀(f:Nat) (s x:Int),x∈upF ns f s->x=s\/∃d∈ns,d.p=x
 |0,s,x,h=>by cases h
 |f+1,s,x,h=>by
  unfold upF at h;by_cases b:0<=s
  .rw [bu (bq b)]at h;by_cases h1:s.toNat<Z ns
   .rw [dif_pos h1]at h;by_cases a:s<=(ns[s.toNat]).p
    .grind
    .rw [bt (by rw[bp a];decide)]at h;rcases Ba.1 h with h|h
     .exact .inl h
     .rcases OY f _ x h with rfl|h
      .exact .inr ⟨_,Av h1,rfl⟩
      .exact .inr h
   .rw [dif_neg h1]at h;cases h
  grind
def aCQ{ns:bc}{t:Int}(h:bB ns t=O):∀d∈ns,d.p≠t:=by
 obtain⟨a,h1⟩:=tP h;unfold bB at h;rw[bu (bq a),bu (bq o_),HM]at h
 grind[Fq]
theorem aAw{ns:bc}{t s:Int}(h:bB ns t=O)(hs:t∈upL ns s):t=s:=by
 rcases OY _ _ _ hs with h1|⟨d,a,e⟩
 .exact h1
 .exact bv e (aCQ h d a)
def ZY{ns:bc}{t:Int}(a:0<=t)(h1:t.toNat<Z ns):t∈upL ns t:=by grind[OZ,Aw]
def aLj{ns:bc}{t:Int}(h:bB ns t=O):t∈mE ns:=by
 obtain⟨d,h1⟩:=tP h;have key:∀(m i:Nat),i<=t.toNat->t.toNat<i+m->t∈lvF ns m i:=λm=>by
  induction m with
  |zero=>intro i a b;omega
  |succ m c=>
   intro i a b;unfold lvF
   grind
 exact key _ 0 o_ o_
def WT{ns:bc}{t:Int}(h:bB ns t=O):bE ns t=[t]:=by
 obtain⟨f,h1⟩:=tP h;have c:=ZY f h1;have d:∀s:Int,wF ns t s=if s=t then[t]else[]:=λs=>by
  unfold wF;by_cases e:s=t
  .subst e;rw[bu c,bu rfl]
  .rw [bt e,bt λq=>e (aAw h q).symm]
 have lo:∀(m i:Nat),t.toNat<i->(lvF ns m i).flatMap (wF ns t)=[]:=λm i g=>by rw[List.flatMap_eq_nil_iff];intro s hs;have:=NL ns m i s hs;rw[d,bt o_]
 have key:∀(m i:Nat),i<=t.toNat->t.toNat<i+m->(lvF ns m i).flatMap (wF ns t)=[t]:=λm=>by
  induction m with
  |zero=>intro i a b;omega
  |succ m j=>
   intro i a b;unfold lvF
   grind
 exact key _ 0 o_ o_
section
variable {p:V3->Int} (hp:Prj p)
include hp
def uE(c:Con)(p:V3->Int)(j:Int)(x:Rn):Int:=if bB c.ns x.g.ten=O/\j∈upL c.ns x.g.ten then p (dem x.g)else 0
def Y7{c:Con}{j:Nat}:∀(l:a7) (v:V3),(∀x∈l,0<=p (dem x.g))->0<=p v->p v<=eB->p (l.foldl (qR c j) v)=min (p v+cR (l.map (uE c p (j:Int)))) eB/\0<=cR (l.map (uE c p (j:Int)))
 |[],v,_,h0,h1=>by
  show p v=min (p v+0) eB/\(0:Int)<=0;omega
 |x::r,v,hd,h0,h1=>by
  rw[Ao,Bg];show _=min (p v+(uE c p (j:Int) x+cR (r.map (uE c p (j:Int))))) eB/\0<=uE c p (j:Int) x+cR (r.map (uE c p (j:Int)));have f:=hd x (Aw ..);have e:p (qR c j v x)=min (p v+uE c p (j:Int) x) eB:=by
   unfold qR uE;by_cases a:bB c.ns x.g.ten=O/\(j:Int)∈upL c.ns x.g.ten
   .rw [bu a,bu a,hp.add,uL h0 h1 f]
   .rw [bt a,bt a];omega
  have i:0<=uE c p (j:Int) x:=by unfold uE;split<;>omega
  obtain⟨b,h⟩:=Y7 r (qR c j v x) (λy d=>hd y (Az _ d)) (by rw[e];unfold eB;omega) (by rw[e];unfold eB;omega);rw[b,e];unfold eB;omega
omit hp in
def ZO{α:Type}(f g:α->Int):∀(l:List α),cR (l.map λx=>f x+g x)=cR (l.map f)+cR (l.map g)
 |[]=>rfl
 |x::r=>by
  rw[Bg,Bg,Bg];show f x+g x+cR _=(f x+cR _)+(g x+cR _)
  rw[ZO f g r];omega
omit hp in
def ZN{α:Type}(f:α->Int):∀(l:List α),(∀y∈l,0<=f y)->∀x∈l,f x<=cR (l.map f)
 |[],_,x,h=>by cases h
 |y::r,hf,x,h=>by
  rw[Bg];show f x<=f y+cR _;have h1:=mP (es:=r.map f) λe b=>by grind[Az]
  have a:=hf y (Aw ..);rcases Ba.1 h with rfl|h
  .omega
  .have:=ZN f r (λz hz=>hf z (Az _ hz)) x h;omega
omit hp in
def ZL{α:Type}(f:α->Int):∀(l:List α),(∀y∈l,0<=f y)->min (cR (l.map f)) eB<=cR (l.map λy=>min (f y) eB)/\0<=cR (l.map f)
 |[],_=>by
  show min (0:Int) eB<=0/\(0:Int)<=0;unfold eB;omega
 |y::r,hf=>by
  rw[Bg,Bg];show min (f y+cR _) eB<=min (f y) eB+cR _/\0<=f y+cR _;have c:=hf y (Aw ..);obtain⟨a,b⟩:=ZL f r λz hz=>hf z (Az _ hz);unfold eB at*
  omega
omit hp in
def LN{c:Con}{n:Int}:∀(l:a7),(∀x∈l,0<=p (dem x.g))->cR (l.map (uE c p n))<=cR ((bE c.ns n).map λs=>cR (l.map (uE c p s)))
 |[],_=>by
  show 0<=cR ((bE c.ns n).map λs=>(0:Int));exact mP λe i=>by
   grind
 |x::r,hd=>by
  have k:=LN (c:=c) (n:=n) r λy h=>hd y (Az _ h);have e:cR ((bE c.ns n).map λs=>cR ((x::r).map (uE c p s)))=cR ((bE c.ns n).map λs=>uE c p s x)+cR ((bE c.ns n).map λs=>cR (r.map (uE c p s))):=ZO _ _ _;rw[e,Bg];show uE c p n x+cR _<=_;have m:=hd x (Aw ..);have d:∀s∈bE c.ns n,0<=uE c p s x:=λs _=>by unfold uE;split<;>omega
  have h1:uE c p n x<=cR ((bE c.ns n).map λs=>uE c p s x):=by
   by_cases a:bB c.ns x.g.ten=O/\n∈upL c.ns x.g.ten
   .have b:x.g.ten∈bE c.ns n:=by unfold bE;rw[List.mem_flatMap];refine⟨x.g.ten,aLj a.1,?_⟩;unfold wF;rw[bu a.2];simp
    have:=ZN (λs=>uE c p s x) (bE c.ns n) d _ b;have f:uE c p x.g.ten x=uE c p n x:=by obtain⟨j,h1⟩:=tP a.1;unfold uE;rw[bu a,bu ⟨a.1,ZY j h1⟩]
    rw[<-f];exact this
   .have f:uE c p n x=0:=by unfold uE;rw[bt a]
    rw[f];exact mP λe i=>by grind
  omega
def L7{c:Con}{l:a7}(f:∀x∈l,0<=p (dem x.g)){n:Int}(d:c.ok n):p (atV (ofL c l) n)=min (cR (l.map (uE c p n))) eB/\0<=cR (l.map (uE c p n)):=by
 have hz:p V3.zero=0:=hp.zero;obtain⟨a,b⟩:=Y7 hp (c:=c) (j:=n.toNat) l V3.zero f (by rw[hz];exact Ei _) (by rw[hz];decide);rw[B8 d,a,hz];have e:((n.toNat:Nat):Int)=n:=by have:=d.1;omega
 rw[e]at b⊢;exact⟨by omega,b⟩
def aOo{c:Con}{l:a7}(a:∀x∈l,0<=p (dem x.g))(n:Int):p (iY c.ns n (ofL c l))=min (cR ((bE c.ns n).map λs=>min (cR (l.map (uE c p s))) eB)) eB:=by
 have hz:p V3.zero=0:=hp.zero;have e:(bE c.ns n).map (λt=>p (atV (ofL c l) t))=(bE c.ns n).map λs=>min (cR (l.map (uE c p s))) eB:=List.map_congr_left λs hs=>(L7 hp a (iW c n s hs)).1;unfold iY
 rw[MH hp,e,hz,yP (Ei _) d_ λe b=>by
  obtain⟨s,hs,rfl⟩:=Co.1 b;have:=(L7 hp a (iW c n s hs)).2;unfold eB
  omega]
 omega
def US{c:Con}{l:a7}(b:∀x∈l,0<=p (dem x.g)){n:Int}(d:c.ok n):p (atV (ofL c l) n)<=p (iY c.ns n (ofL c l))/\0<=p (atV (ofL c l) n)/\p (iY c.ns n (ofL c l))<=eB:=by
 obtain⟨a,f⟩:=L7 hp b d;rw[a,aOo hp b n];have h1:=LN (p:=p) (c:=c) (n:=n) l b;obtain⟨e,h3⟩:=ZL (λs=>cR (l.map (uE c p s))) (bE c.ns n) λs hs=>(L7 hp b (iW c n s hs)).2;unfold eB at*
 omega
def aGV(ns:bc)(us:a8)(n t:Int):0<=p (zG ns us n t):=by
 have hz:p V3.zero=0:=hp.zero;have a:∀e∈(bE ns n).map (kE ns p us t),0<=e:=λe b=>by obtain⟨s,_,rfl⟩:=Co.1 b;unfold kE;split<;>omega
 have c:=mP a;unfold zG;rw[aAy hp _ _ _ _ _ (by rw[hz];exact Ei _) (by rw[hz];decide),hz,yP (Ei _) d_ a];unfold eB;omega
def ON{c:Con}{l:a7}(i:∀x∈l,0<=p (dem x.g)){need:V3}(e:0<=p need){n t:Int}(f:c.ok n):p (dZ (atV (ofL c l) n) need)<=p (dZ (dZ (iY c.ns n (ofL c l)) need) (zG c.ns (ofL c l) n t)):=by obtain⟨h1,j,h3⟩:=US hp i f;have h:=aGV hp c.ns (ofL c l) n t;rw[hp.add,hp.add,hp.add];have k:=vZ (d:=p need) h1;have b:=OS (a:=p (iY c.ns n (ofL c l))) o_ e;have m:=D4 b.1 b.2 h;omega
end
def BS(x y z:Int):jV (jV (jV 0 x) 0) y=jV x y/\jV (jV 0 x) y=jV x y:=by unfold jV fZ;omega
def aBM(x y:V3):dZ (dZ V3.zero x) y=dZ x y:=by unfold dZ V3.map2 V3.zero;rw[(BS x.a y.a 0).2,(BS x.b y.b 0).2,(BS x.c y.c 0).2]
def aGq{c:Con}{t:Int}(h:c.ok t):atV (mB c.ns) t=(cH c.ns t).n:=by
 obtain⟨a,h1⟩:=h;unfold atV mB
 grind
def aAr(c:Con)(t n:Int):V3:=if n=t then dZ (iY c.ns n (mB c.ns)) (cH c.ns n).b else iY c.ns n (mB c.ns)
def QN{c:Con}{l:a7}{x:Rn}(j:∀y∈l,(dem y.g).pos)(k:(dem x.g).pos)(h:C0 c (ofL c l) x.g.ten (dem x.g)=O):∀n∈bP c.ns x.g.ten,c.ok n/\bY (atV (ofL c (l++[x])) n) (aAr c x.g.ten n)=true:=by
 intro n d;unfold bP at d;rw[Il]at d;have a:c.ok n:=MA c _ _ _ d;refine⟨a,?_⟩;unfold C0 at h;by_cases hl:bB c.ns x.g.ten=O
 .rw [bu hl,Ck]at h;have b:=h n d;have e:atV (ofL c (l++[x])) n=dZ (atV (ofL c l) n) (dem x.g):=by rw[B8 a,B8 a,Lq];show qR c n.toNat _ x=_;unfold qR;rw[bu ⟨hl,by rw[show((n.toNat:Nat):Int)=n from by have:=a.1;omega];exact d⟩]
  rw[e];unfold NK at b;unfold aAr;by_cases i:n=x.g.ten
  .rw [bu (bq i)]at b;rw[bu i];unfold aCE at b;have m:iY c.ns n (mB c.ns)=dZ V3.zero (cH c.ns n).n:=by unfold iY;rw[WT (by rw[i];exact hl)];show dZ V3.zero (atV (mB c.ns) n)=_;rw[aGq a]
   rw[m,aBM];exact b
  .rw [bt (by rw[bp i];decide)]at b;rw[bt i];unfold YS at b;rw[yB]at b⊢;exact⟨Fo (ON aKG (λy f=>(j y f).1) k.1 a) b.1,Fo (ON aKF (λy f=>(j y f).2.1) k.2.1 a) b.2.1,Fo (ON aKE (λy f=>(j y f).2.2) k.2.2 a) b.2.2⟩
 .rw [bt hl]at h;cases h
end Go.Proofs.YtenkdioaefckoaaGreatDoor
