/- Part 7 of what the statement rests on. -/
import Derived.Test.YtenkdioaefckoaaGreatDoorHA
set_option linter.all false
set_option maxHeartbeats 2000000
open Go.AW.Res renaming ret->Io
open Go.AW.St renaming head->G0
open Go.AW.Tk renaming no->J0
open Go.AW.aa renaming bool->DA,int->GE,ref->G2,slice->CA,tup->GT
open Go.AW.ab renaming cells->Do,tail->Fr
open Go.IntKind renaming i64->Is
open List renaming length->Z
open Bool renaming true->O,false->U
open Option renaming some->X,none->D
open And renaming intro->Aa
open Bool renaming and_eq_true->Af,eq_iff_iff->Gv,false_eq_true->Dc,false_or->Ko,true_and->Bz
open Exists renaming intro->Aj
open Int renaming le_refl->Em,le_trans->Fw,mul_nonneg->Js,tdiv_eq_ediv_of_nonneg->Iu,toNat_natCast->Bo,toNat_of_nonneg->Hy
open List renaming all_cons->Hw,all_eq_true->Cj,any_cons->Hx,any_eq_true->Fy,append_assoc->Ag,append_nil->Ao,drop->Gd,drop_drop->Hh,drop_eq_getElem_cons->Ac,drop_eq_nil_of_le->Ae,ext_getElem?->Fe,filter_cons->Hf,filter_eq_self->Gx,filter_sublist->Jb,foldl_append->Lw,foldl_cons->Ap,getElem?_append_left->Ai,getElem?_eq_getElem->Ab,getElem?_eq_none->Bp,getElem?_eq_some_iff->Ad,getElem?_replicate->Ia,getElem?_set_ne->Bg,getElem?_set_self->Ba,getElem_mem->Aq,getElem_of_mem->Gz,length_append->Ah,length_cons->Al,length_filter_le->Dy,length_nil->Bj,length_reverse->Ja,length_set->Dq,map_append->Bi,map_cons->Bf,map_set->Gl,mem_append->Cc,mem_cons->Az,mem_cons_of_mem->Bb,mem_cons_self->Aw,mem_filter->Fp,mem_map->Cq,mem_of_getElem?->Ax,mem_or_eq_of_mem_set->Dn,mem_reverse->Iz,mem_take_iff_getElem->Ln,nodup_append->Cr,nodup_cons->Ci,pairwise_cons->Bt,pairwise_iff_getElem->Es,range->Dh,range_succ->Jh,replicate->Ak,reverse_cons->Jy,take->Fs,take_append_drop->Bn,take_append_of_le_length->Ek,take_of_length_le->Bl
open List.Perm renaming append_left->Ds,refl->Fj
open Nat renaming le_refl->Bc,zero_add->Bv,zero_le->Bq
open Prod renaming fst->Mk
namespace Go.Proofs.YtenkdioaefckoaaGreatDoor
variable{P:Prop}
open Go.Proofs.Tryz
open Go Go.AW Go.Proofs
set_option maxRecDepth 10000
def zqra0(h:P:=by
 by_cases h1:0<=n
 .rw [bu (bq h1)]at a;by_cases d:n.toNat<Z c.ns
  .rw [dif_pos d]at a;have e:=e h1 d;generalize j:c.ns[n.toNat]=x at a;have get:(nav c.ns)[n.toNat]? =X x.av:=(fL d).trans (by rw[j]);have o:n=(n.toNat:Int):=o_;by_cases h3:n<=x.p
   .rw [bu (bq h3)]at a;have a:n::b=R:=a;subst a;exact tA
   .rw [bt (by rw[bp h3];decide),Jy,Ag]at a;have next:=l x.p (n::b) J0 (.inr rfl) (λ_=>by have:=g h1;omega) (λ_ _=>by simp;omega) a
    exact tA
  .rw [dif_neg d]at a;have a:b=R:=a;subst a;exact tA
 .rw [bt (by rw[bp h1];decide)]at a;have a:b=R:=a;subst a;refine gV ?_
  exact zW):P:=h
def zqra1(h:P:=by
 subst d;refine gA (Er [] [16,17,18,19,20]) f305 λ_=>?_;refine bR (hEr [] [16,17,18,19,20]) 10 ?_;conv=>whnf
 refine To.cutC [1,2,3,4,8] 1 rfl rfl rfl rfl ?_;refine FZ c _ a b ?_
 exact zW):P:=h
def zqra2(h:P:=by
 refine gV ?_;refine⟨j,rfl,gV ?_⟩;refine⟨_,f,?_⟩
 exact zW):P:=h
def zqra3(h:P:=by
 unfold bD at h;by_cases h1:0<=t
 .rw [bu (bq h1)]at h;by_cases a:t<(Z ns:Int)
  .omega
  .rw [bt (by rw[bp a];decide)]at h;cases h
 .rw [bt (by rw[bp h1];decide)]at h
  cases h):P:=h
def zqra4(h:P:=by
 subst c;refine c_ f284 λ_=>?_;have hz1:=λd=>PU d
 exact zW):P:=h
def zqra5(h:P:=by
 rw[Ae o_]at b;have b:a++[]=R:=b;rw[Ao]at b;subst b;refine gV ?_
 exact zW):P:=h
def zqra6(h:P:=by exact To.cut [0,2,3,4,5] 4 rfl rfl rfl rfl next):P:=h
def zqra7(h:P:=by
 subst a
 exact c_ f258 λ_=>zW):P:=h
def zqra8(h:P:=by
 rcases c.inv with⟨e,h⟩|⟨e,h⟩
 .subst e;exact tA
 .subst e;refine gV ?_
  exact zW):P:=h
def zqra9(h:P:=by
 subst a;refine gA (Er [5] []) f250 λ_=>?_
 exact zW):P:=h
def zqra10(h:P:=by
 refine gA (Eo [8,12] []) f130 λ_=>?_
 exact zW):P:=h
def zqra11(h:P:=by exact c_ f119 λ_=>zW):P:=h
def zqra12(h:P:=by
 rw[bt (by rw[d];decide)]at b;rw[d]at h1;have next:=k ids o_ f b
 exact zW):P:=h
def zqra13(h:P:=by
 refine gA (Eo [9] []) f233 λ_=>?_
 exact zW):P:=h
def zqra14(h:P:=by exact c_ f245 λ_=>zW):P:=h
def zqra15(h:P:=by
 refine eA E f291 3 λ_=>?_
 exact zW):P:=h
def zqra16(h:P:=by
 refine eA E f295 2 λ_=>?_
 exact zW):P:=h
def zqra17(h:P:=by
 rw[bu d]at b;rw[d]at h1;have next:=k (dK ids a) o_ o_ b
 exact zW):P:=h
def zqra18(h:P:=by
 rw[lY d]at b;have next:=f (i+1) a o_ o_ b
 refine gV ?_
 exact zW):P:=h
def PD(n m:Int)(a:0<=m)(h1:m<=1099511627776):bj 254 [ii n,ii m] (ii (gL n m)):=by
 have e:gL n m=max (0-m) (min n m):=by unfold gL;omega
 rw[e];exact c_ f254 λ_=>zW
def mX(a b:V3):bj 181 [a.av,b.av] ((eU a b).av):=by
 have j:=gK a.a 1099511627776 d_;have e:=gK a.b 1099511627776 d_;have d:=gK a.c 1099511627776 d_;have h:=gK b.a 1099511627776 d_;have k:=gK b.b 1099511627776 d_;have i:=gK b.c 1099511627776 d_;refine c_ f181 λ_=>?_
 repeat' first
  | (refine gW hE ?_;conv=>whnf)
  | refine .p (PD _ _ d_ d_) ?_
  | exact rfl
  | refine aY ?_
  | refine aN ?_
  | refine aJ ?_
  | refine Aj _ (Aa rfl ?_)
  | refine Aa d_ ?_
def O5(a b:V3):bj 252 [a.av,b.av] ((AF a b).av):=by
 have j:=gK a.a 1099511627776 d_;have e:=gK a.b 1099511627776 d_;have d:=gK a.c 1099511627776 d_;have h:=gK b.a 1099511627776 d_;have k:=gK b.b 1099511627776 d_;have i:=gK b.c 1099511627776 d_;refine c_ f252 λ_=>?_
 repeat' first
  | (refine gW hE ?_;conv=>whnf)
  | refine .p (PD _ _ d_ d_) ?_
  | exact rfl
  | refine aY ?_
  | refine aN ?_
  | refine aJ ?_
  | refine Aj _ (Aa rfl ?_)
  | refine Aa d_ ?_
def aBe(a:V3)(n:Int):bj 249 [a.av,ii n] ((W5 a n).av):=by
 have h:=aBB a.a n;have e:=aBB a.b n;have d:=aBB a.c n;refine c_ f249 λ_=>?_
 repeat' first
  | (refine gW hE ?_;conv=>whnf)
  | refine .p (PD _ _ d_ d_) ?_
  | exact rfl
  | refine aY ?_
  | refine aN ?_
  | refine aJ ?_
  | refine Aj _ (Aa rfl ?_)
  | refine Aa d_ ?_
def PC(g:Gan):bj 176 [g.av] ((dem g).av):=by refine c_ f176 λ_=>?_;have a:=aBe g.need g.pods;exact zW
def aG5(l:a8)(n:Int)(r:V3)(a:atV l n=r):bj 245 [CA 3 (vav l) J0,ii n] r.av:=by
 have hl:Z (vav l)=Z l:=by simp
 unfold atV at a;by_cases h1:n<0
 .rw [bu (bq h1)]at a;subst a;exact zqra14
 .rw [bt (by rw[bp h1];decide)]at a;by_cases b:n.toNat<Z l
  .rw [Ab b]at a;have get:=lN b;have a:l[n.toNat]=r:=a;rw[a]at get;have c:n=(n.toNat:Int):=o_;exact zqra14
  .rw [Bp o_]at a;subst a;exact zqra14
def A7(l:a8)(n:Int):bj 245 [CA 3 (vav l) J0,ii n] ((atV l n).av):=aG5 l n _ rfl
def J5(n:Int):∀(l:bf) (i:Nat),decide (0<=am n l i)=l.any λx=>x.p==n
 | [],i=>by simp[am]
 | x::r,i=>by
  unfold am;rw[Hx];by_cases h:x.p=n
  .simp [h]
  .have:=J5 n r (i+1);simp[h,this]
def WZ(l:bf)(n:Int):(l.all λx=>!(x.p==n))= !(l.any λx=>x.p==n):=by grind
def vD(ns:bf)(t:Int):rlB ns t=bD ns t:=by
 unfold rlB bD;rw[J5,WZ]
 grind
def bT(ns:bf)(n:Int):ax:=(upL ns n).reverse
def M9{α β:Type}(f:β->α->β)(a:∀b x y,f (f b x) y=f (f b y) x):∀(l:List α) (b:β),l.reverse.foldl f b=l.foldl f b
 | [],b=>rfl
 | x::r,b=>by
  have h:∀(l:List α) (b:β),l.foldl f (f b x)=f (l.foldl f b) x:=λl=>by
   induction l with
   | nil=>intro b;rfl
   | cons y r c=>intro b;rw[Ap,Ap,a,c]
  rw[Jy,Lw,M9 f a r b];show f (r.foldl f b) x=r.foldl f (f b x);rw[h]
def yC(v:V3)(xs:a8)(k:Int):a8:=xs.set k.toNat (eU ((xs[k.toNat]?).getD V3.zero) v)
def W3(v:V3)(xs:a8)(k:Int):Z (yC v xs k)=Z xs:=by unfold yC;simp
theorem J9(v:V3)(xs:a8)(k:Int)(j:Nat):(yC v xs k)[j]? =if k.toNat=j then(xs[j]?).map λx=>eU x v else xs[j]?:=by
 unfold yC
 grind
def aE3(v:V3)(xs:a8)(a b:Int):yC v (yC v xs a) b=yC v (yC v xs b) a:=by
 refine Fe λj=>?_
 grind[J9]
def E1(c:Con)(xs:a8)(x:Rn):a8:=if bD c.ns x.g.ten=O then(bT c.ns x.g.ten).foldl (yC (dem x.g)) xs else xs
def aGw(c:Con)(l:a7):a8:=l.foldl (E1 c) (Ak (Z c.ns) V3.zero)
def yN(v:V3):∀(ks:ax) (xs:a8),Z (ks.foldl (yC v) xs)=Z xs
 | [],_=>rfl
 | k::r,xs=>by rw[Ap,yN v r,W3]
def aGu(c:Con)(xs:a8)(x:Rn):Z (E1 c xs x)=Z xs:=by
 unfold E1;split
 .exact yN _ _ _
 .rfl
def uM(L:Led):Prop:=(L.map Mk).Nodup
def MI(n:Int)(v:V3):∀(L:Led) (k:Int),k∈(C2 L n v).map Mk->k=n\/k∈L.map Mk
 | [],k,h=>by simp[C2]at h;exact .inl h
 | (j,w)::r,k,h=>by
  unfold C2 at h;split at h
  .rename_i a;simp only[Bf,Az]at h⊢;rcases h with rfl|h
   .exact .inl rfl
   .exact .inr (.inr h)
  .simp only[Bf,Az]at h⊢;rcases h with rfl|h
   .exact .inr (.inl rfl)
   .rcases MI n v r k h with h|h
    .exact .inl h
    .exact .inr (.inr h)
def aHX(n:Int)(v:V3):∀(L:Led),uM L->uM (C2 L n v)
 | [],_=>by simp[C2,uM]
 | (j,w)::r,h=>by
  have h1:=(Ci.1 h)
  unfold C2;split
  .rename_i a;subst a;exact h
  .rename_i a;refine Ci.2 ⟨λhm=>?_,aHX n v r h1.2⟩;rcases MI n v r _ hm with h|h
   .exact a h
   .exact h1.1 h
def MK(n:Int):∀(L:Led) (k:Int),k∈(IE L n).map Mk->k∈L.map Mk
 | [],k,h=>h
 | (j,w)::r,k,h=>by
  unfold IE at h;simp only[Bf,Az];split at h
  .exact .inr h
  .simp only[Bf,Az]at h;rcases h with h|h
   .exact .inl h
   .exact .inr (MK n r k h)
def aH4(n:Int):∀(L:Led),uM L->uM (IE L n)
 | [],h=>h
 | (j,w)::r,h=>by
  have h1:=(Ci.1 h)
  unfold IE;split
  .exact h1.2
  .exact Ci.2 ⟨λhm=>h1.1 (MK n r _ hm),aH4 n r h1.2⟩
def UL:∀(L:Led) (n:Int),n∉L.map Mk->jX L n=D
 | [],n,h=>rfl
 | (j,w)::r,n,h=>by simp only[Bf,Az,not_or]at h;unfold jX;rw[bt (λe=>h.1 e.symm)];exact UL r n h.2
def UK(n:Int)(v:V3)(k:Int):∀(L:Led),jX (C2 L n v) k=if k=n then X v else jX L k
 | []=>by
  unfold C2 jX jX
  grind
 | (j,w)::r=>by
  have b:=UK n v k r;unfold C2;split
  .rename_i a;subst a;unfold jX
   grind
  .rename_i a;unfold jX
   grind
def UM(n:Int)(k:Int):∀(L:Led),uM L->jX (IE L n) k=if k=n then D else jX L k
 | [],_=>by
  unfold IE jX;split<;>rfl
 | (j,w)::r,h=>by
  have h1:=(Ci.1 h)
  have c:=UM n k r h1.2;unfold IE;split
  .rename_i b;subst b;by_cases a:k=j
   .rw [bu a,a];exact UL r j h1.1
   .rw [bt a]
    conv=>rhs;unfold jX
    rw[bt (λe=>a e.symm)]
  .rename_i b;unfold jX
   grind
def aIe{v:V3}(h:isZ v=O):v=V3.zero:=by obtain⟨a,b,c⟩:=v;unfold isZ at h;simp at h;obtain⟨rfl,rfl,rfl⟩:=h;rfl
def aQs{L:Led}(h:uM L)(n:Int)(v:V3):uM (UE L n v):=by
 unfold UE;split
 .exact aH4 n L h
 .exact aHX n v L h
def aHW{L:Led}(h:uM L)(n:Int)(v:V3)(k:Int):tP (UE L n v) k=if k=n then v else tP L k:=by
 unfold UE tP;split
 .rename_i hz;rw[UM n k L h];by_cases a:k=n
  .rw [bu a,bu a,aIe hz];rfl
  .rw [bt a,bt a]
 .rw [UK]
  grind
def J6(n:Nat)(L:Led)(j:Nat):(nG n L)[j]? =if j<n then X (tP L (j:Int))else none:=by
 unfold nG
 grind
def aNZ{n:Nat}{L:Led}(h:uM L)(v:V3)(k:Int)(b:0<=k)(a:k.toNat<n):nG n (DP v L k)=yC v (nG n L) k:=by
 refine Fe λj=>?_;rw[J9,J6,J6];unfold DP;rw[aHW h]
 grind
def aTp{L:Led}(h:uM L)(v:V3)(k:Int):uM (DP v L k):=aQs h _ _
def WG{n:Nat}(v:V3):∀(ks:ax) (L:Led),uM L->(∀k∈ks,0<=k/\k.toNat<n)->nG n (ks.foldl (DP v) L)=ks.foldl (yC v) (nG n L)/\uM (ks.foldl (DP v) L)
 | [],L,h,_=>⟨rfl,h⟩
 | k::r,L,h,hk=>by have h1:=hk k s_;obtain⟨b,c⟩:=WG v r (DP v L k) (aTp h v k) λx a=>hk x (by simp[a]);exact⟨by rw[Ap,b,aNZ h v k h1.1 h1.2];rfl,c⟩
def OI(ns:bf):∀(f:Nat) (n x:Int),x∈upF ns f n->0<=x/\x.toNat<Z ns
 | 0,n,x,h=>by simp[upF]at h
 | f+1,n,x,h=>by
  unfold upF at h;split at h
  .rename_i a;have a:=bn a;split at h
   .rename_i h1;split at h
    .simp at h;subst h;exact⟨a,h1⟩
    .rcases Az.1 h with rfl|h
     .exact ⟨a,h1⟩
     .exact OI ns f _ x h
   .simp at h
  .simp at h
theorem YX(c:Con)(L:Led)(h:uM L)(x:Rn):nG (Z c.ns) (zA c L x)=E1 c (nG (Z c.ns) L) x/\uM (zA c L x):=by
 unfold zA E1 bT;split
 .obtain ⟨b,d⟩:=WG (n:=Z c.ns) (dem x.g) (upL c.ns x.g.ten) L h λk a=>OI _ _ _ _ a;exact⟨by rw[b,M9 _ (aE3 _)],d⟩
 .exact ⟨rfl,h⟩
def aOB(c:Con)(l:a7):aGw c l=ofL c l:=by
 have key:∀(l:a7) (L:Led),uM L->l.foldl (E1 c) (nG (Z c.ns) L)=nG (Z c.ns) (l.foldl (zA c) L):=λl=>by
  induction l with
  | nil=>intro L _;rfl
  | cons x r b=>
   grind[YX]
 have a:nG (Z c.ns) []=Ak (Z c.ns) V3.zero:=by refine Fe λj=>?_;rw[J6,Ia];rfl
 unfold aGw ofL;rw[<-a,key l [] (by simp[uM])]
def aDv(c:Con)(k:c.sm)(R:ax):∀(m i:Nat) (a:ax),i+m=Z c.ns->Z a<=i->a++lvF c.ns m i=R->
  DE (Eo [3] []) f340 (CA 1 (iv R) J0) [(1,G2 0 0),(3,CA 1 (iv a) (.own 1 0)),(4,GE Is i)] [Do 30 c.cs,Fr 0 1 3]:=by
 have j:Z (nav c.ns)=Z c.ns:=by simp
 have h1:=k.ns;intro m;induction m with
 | zero=>
  intro i a n l b;unfold lvF at b;rw[Ao]at b;subst b;exact tA
 | succ m g=>
  intro i a n l b;have o:Z (iv a)=Z a:=by simp
  have f:=mB c k i;rw[vD]at f;unfold lvF at b;refine gV ?_;refine aT λh=>gV ?_;refine .p f (gV ?_);refine Aa (λd=>?_) (λd=>?_)
  .have d:bD c.ns (i:Int)=true:=d;rw[bu d]at b;have next:=g (i+1) (a++[(i:Int)]) o_ q_ (by rw[Ag];exact b)
   have e:iv (a++[(i:Int)])=iv a++[ii i]:=by simp
   rw[e]at next
   exact zW
  .have d:bD c.ns (i:Int)=false:=d;rw[bt (by rw[d];decide)]at b;have next:=g (i+1) a o_ o_ b
   exact zW
def aLl(c:Con)(b:c.sm):bj 340 [c.av] (CA 1 (iv (nA c.ns)) J0):=by refine gA (Eo [3] []) f340 λ_=>?_;have a:=aDv c b _ (Z c.ns) 0 [] o_ s_ rfl;exact zW
def XX(c:Con)(r:c.sm)(R:ax):∀(f:Nat) (n:Int) (b:ax) (tk:Tk),(tk= .nil\/tk=J0)->(0<=n->n.toNat<f)->(0<=n->n.toNat<Z c.ns->Z b+n.toNat<1048577)->(upF c.ns f n).reverse++b=R->
  DE E f180 (CA 1 (iv R) J0) [(1,ii n),(2,G2 0 0),(5,CA 1 (iv b) tk)] [Do 30 c.cs]:=by
 have m:Z (nav c.ns)=Z c.ns:=by simp
 have q:=r.ns;intro f;induction f with
 | zero=>
  intro n b tk i g e a;have k:Z (iv b)=Z b:=by simp
  have h1:¬ 0<=n:=λh=>by have:=g h;omega
  have a:b=R:=a;subst a;rcases i with rfl|rfl
  .exact tA
  .exact tA
 | succ f l=>
  intro n b tk i g e a;have k:Z (iv b)=Z b:=by simp
  unfold upF at a;rcases i with rfl|rfl
  .exact zqra0
  .exact zqra0
def vC(c:Con)(a:c.sm)(n:Int):bj 180 [c.av,ii n] (CA 1 (iv (bT c.ns n)) J0):=by have b:=a.ns;refine c_ f180 λ_=>gV ?_;refine To.part [1,2,5] [0] rfl rfl rfl ?_;exact XX c a _ (n.toNat+1) n [] .nil (.inl rfl) (λ_=>by omega) (λ_ _=>by simp;omega) (by unfold bT upL;simp)
def aAK(ns:bf):∀(f:Nat) (n:Int),Z (upF ns f n)<=n.toNat+1/\Z (upF ns f n)<=f
 | 0,n=>by simp[upF]
 | f+1,n=>by
  unfold upF;split
  .split
   .split
    .simp
    .rename_i b h1 a;have d:=aAK ns f (ns[n.toNat]).p;have a:¬ n<=(ns[n.toNat]).p:=λh=>a (bq h);have b:=bn b;simp only[Al];refine⟨?_,by omega⟩;by_cases c:0<=(ns[n.toNat]).p
     .omega
     .have e:(upF ns f (ns[n.toNat]).p)=[]:=by
       cases f with
       | zero=>rfl
       | succ f=>
          unfold upF;rw[bt (by rw[bp c];decide)]
      rw[e];simp
   .simp
  .simp
def aAH(ns:bf)(n:Int):Z (upL ns n)<=Z ns:=by
 by_cases h:0<=n/\n.toNat<Z ns
 .have:=(aAK ns (n.toNat+1) n).1;unfold upL;omega
 .unfold upL upF;by_cases a:0<=n
  .rw [bu (bq a),dif_neg o_];simp
  .rw [bt (by rw[bp a];decide)];simp
def rC(ns:bf)(n:Int):Z (bT ns n)<=Z ns:=by unfold bT;rw[Ja];exact aAH ns n
def onB(ns:bf)(n t:Int):Bool:=(bT ns t).any λx=>x==n
def aQf(ns:bf)(n t:Int):onB ns n t=decide (n∈upL ns t):=by unfold onB bT;rw[List.any_reverse,Gv];simp
def aGt(c:Con)(n:Int)(l:ax)(hl:Z l<=1048576)(r:Bool):∀(m i:Nat),i+m=Z l->((l.drop i).any λx=>x==n)=r->
  DE E f341 (DA r) [(1,ii n),(7,CA 1 (iv l) J0),(8,ii i)] [Do 30 c.cs]:=by
 have f:Z (iv l)=Z l:=by simp
 intro m;induction m with
 | zero=>
  intro i g a;rw[Ae o_]at a;have a:U=r:=a;subst a;exact tA
 | succ m e=>
  intro i g a;have d:i<Z l:=o_;rw[Ac d,Hx]at a;have get:=cK d;generalize l[i]=x at a get;have e:=e (i+1) o_;refine gV ?_;refine aT λh=>gV ?_;refine⟨i,rfl,gV ?_⟩;refine⟨_,get,gV ?_⟩;refine Aa (λb=>?_) (λb=>?_)
  .have b:(x==n)=true:=b;rw[b]at a;have a:O=r:=a;subst a;exact zW
  .have b:(x==n)=false:=b;rw[b,Ko]at a
   repeat' first|refine pA ?_|exact rfl|refine lA ?_ ?_|intro h
   exact To.cut [1,7,8] 1 rfl rfl rfl rfl (e a)
def aPG(c:Con)(a:c.sm)(n t:Int):bj 341 [c.av,ii n,ii t] (DA (onB c.ns n t)):=by
 have h1:=rC c.ns t;have b:=a.ns;have hp:=vC c a t;unfold onB;generalize bT c.ns t=l at h1 hp;refine c_ f341 λ_=>?_
 repeat' first|refine pA ?_|refine .p hp ?_|exact rfl|refine lA ?_ ?_|intro h
 exact To.cut [1,7,8] 1 rfl rfl rfl rfl (aGt c n l o_ _ (Z l) 0 o_ rfl)
def S3(c:Con)(p:c.sm)(n:Int)(l:ax)(hl:Z l<=1048576)(R:ax):∀(m i:Nat) (a:ax),i+m=Z l->Z a<=i->a++(l.drop i).flatMap (yA c.ns n)=R->
  DE (Eo [5] []) f304 (CA 1 (iv R) J0) [(1,ii n),(2,G2 0 0),(5,CA 1 (iv a) (.own 1 0)),(6,CA 1 (iv l) J0),(7,ii i)] [Do 30 c.cs,Fr 0 1 3]:=by
 have j:Z (iv l)=Z l:=by simp
 intro m;induction m with
 | zero=>
  intro i a o k b;exact zqra5
 | succ m h=>
  intro i a o k b;have q:Z (iv a)=Z a:=by simp
  have f:i<Z l:=o_;rw[Ac f,List.flatMap_cons]at b;have get:=cK f;generalize l[i]=x at b get;have d:=aPG c p n x;rw[aQf]at d;unfold yA at b;by_cases g:n∈upL c.ns x
  .rw [bu g]at b;rw[bq g]at d;have next:=h (i+1) (a++[x]) o_ q_ (by rw[Ag];exact b)
   have e:iv (a++[x])=iv a++[ii x]:=by simp
   rw[e]at next
   exact tA
  .rw [bt g]at b;rw[bp g]at d;have next:=h (i+1) a o_ o_ b
   exact tA
def CQ(c:Con)(b:c.sm)(n:Int):bj 304 [c.av,ii n] (CA 1 (iv (bI c.ns n)) J0):=by have e:=b.ns;have h1:Z (nA c.ns)<=Z c.ns:=FO c.ns (Z c.ns) 0;have d:=aLl c b;unfold bI;generalize nA c.ns=l at h1 d;refine gA (Eo [5] []) f304 λ_=>?_;have a:=S3 c b n l o_ _ (Z l) 0 [] o_ s_ rfl;exact zW
def aDo(c:Con)(l:a8)(b:ax)(k:Z b<=1048576)(R:V3):∀(m i:Nat) (v:V3),i+m=Z b->(b.drop i).foldl (smS l) v=R->
  DE E f246 R.av [(2,CA 3 (vav l) J0),(6,G2 1 0),(7,G2 2 0),(8,CA 1 (iv b) J0),(9,ii i)] [Do 30 c.cs,Do 43 V3.zero.cs,Do 43 v.cs]:=by
 have g:Z (iv b)=Z b:=by simp
 intro m;induction m with
 | zero=>
  intro i v j a;rw[Ae o_]at a;have a:v=R:=a;subst a;exact tA
 | succ m h=>
  intro i v j a;have d:i<Z b:=o_;rw[Ac d,Ap]at a;have get:=cK d;generalize b[i]=x at a get;have f:=A7 l x;have next:=h (i+1) (smS l v x) o_ a
  unfold smS at next
  generalize atV l x=u at f next
  have e:=mX v u;generalize eU v u=q at e next
  exact tA
def aBa(c:Con)(d:c.sm)(n:Int)(l:a8):bj 246 [c.av,ii n,CA 3 (vav l) J0] ((jN c.ns n l).av):=by
 have h1:=nM c d n;have a:=CQ c d n;unfold jN;generalize bI c.ns n=b at h1 a;refine c_ f246 λ_=>?_
 repeat' first|refine pA ?_|refine .p a ?_|exact rfl|refine lA ?_ ?_|intro h
 exact To.cut [2,6,7,8,9] 3 rfl rfl rfl rfl (aDo c l b h1 _ (Z b) 0 V3.zero o_ rfl)
def HE{c:Con}{i:Nat}(h:i<Z c.ns):(nav c.ns)[i]? =X (cO c.ns (i:Int)).av:=by unfold cO;rw[Bo,Ab h];exact fL h
def aDs(c:Con)(h:c.sm)(n:Int):∀(m i:Nat) (a:a8),i+m=Z c.ns->a=(Dh i).map (λj:Nat=>(cO c.ns (j:Int)).n)->
  To (Eo [5] []) f248 (.pure (Io (jN c.ns n (mY c.ns)).av)) (BV f248 [(1,ii n),(2,G2 0 0),(4,G2 1 0),(5,CA 3 (vav a) (.own 2 0)),(6,ii i)] [Do 30 c.cs,Do 43 V3.zero.cs,Fr 0 3 43]):=by
 have f:Z (nav c.ns)=Z c.ns:=by simp
 have l:=h.ns;intro m;induction m with
 | zero=>
  intro i a d b;have d:i=Z c.ns:=o_;have b:a=mY c.ns:=by rw[b,d];rfl
  subst b;have hs:=aBa c h n (mY c.ns);generalize jN c.ns n (mY c.ns)=S at hs;exact tA
 | succ m k=>
  intro i a d b;have o:Z (vav a)=Z a:=by simp
  have g:Z a=i:=by rw[b];simp
  have get:=HE (c:=c) (i:=i) o_;have next:=k (i+1) (a++[(cO c.ns (i:Int)).n]) o_ (by rw[b,Jh,Bi];rfl)
  have e:vav (a++[(cO c.ns (i:Int)).n])=vav a++[(cO c.ns (i:Int)).n.av]:=by simp
  rw[e]at next
  generalize cO c.ns (i:Int)=x at get next
  exact tA
def aLg(c:Con)(b:c.sm)(n:Int):bj 248 [c.av,ii n] ((jN c.ns n (mY c.ns)).av):=by refine gA (Eo [5] []) f248 λ_=>?_;have a:=aDs c b n (Z c.ns) 0 [] o_ rfl;exact zW
def X1(c:Con)(d:a8)(t:Int)(b:ax)(C:Z b<=1048576)(u:∀x∈b,c.ok x)(R:V3):∀(m i:Nat) (v:V3),i+m=Z b->(b.drop i).foldl (BI c.ns d t) v=R->
  DE E f247 R.av [(1,CA 3 (vav d) J0),(3,ii t),(4,G2 0 0),(8,G2 1 0),(9,G2 2 0),(10,CA 1 (iv b) J0),(11,ii i)] [Do 30 c.cs,Do 43 V3.zero.cs,Do 43 v.cs]:=by
 have y:Z (iv b)=Z b:=by simp
 intro m;induction m with
 | zero=>
  intro i v A f;rw[Ae o_]at f;have f:v=R:=f;subst f;exact tA
 | succ m z=>
  intro i v A f;have j:i<Z b:=o_;have g:=u _ (Aq j);rw[Ac j,Ap]at f;have get:=cK j;generalize b[i]=s at f get g;have next:=z (i+1) (BI c.ns d t v s) o_ f
  unfold BI at next
  by_cases h1:s=t
  .subst h1;rw[bu (bq rfl)]at next
   have hst:(s==s)=true:=by simp
   exact tA
  .rw [bt (by rw[bp h1];decide)]at next
   have hst:(s==t)=false:=by simp[h1]
   obtain⟨G,B⟩:=g;have w:s=(s.toNat:Int):=o_;have e:=HE (c:=c) (i:=s.toNat) B;rw[<-w]at e;generalize cO c.ns s=x at e next
   have q:=O5 x.n x.l;generalize AF x.n x.l=q1 at q next
   have p:=A7 d s;generalize atV d s=q2 at p next
   have o:=O5 q1 q2;generalize AF q1 q2=q3 at o next
   have k:=mX v (aDO q3);generalize r:aDO q3=q4 at k next
   have Be:max q3.a 0=q4.a:=by rw[<-r];rfl
   have H:max q3.b 0=q4.b:=by rw[<-r];rfl
   have F:max q3.c 0=q4.c:=by rw[<-r];rfl
   subst r;generalize eU v (aDO q3)=q5 at k next
   refine gV ?_;refine aT λh=>?_
   repeat' first
    | exact To.cut [1,3,4,8,9,10,11] 3 rfl rfl rfl rfl next
    | (refine gW hE ?_;conv=>whnf)
    | refine Aj s.toNat (Aa w ?_)
    | refine Aj _ (Aa e ?_)
    | refine Aj i (Aa rfl ?_)
    | refine Aj _ (Aa get ?_)
    | refine Aa (λh=>bv h (by rw[hst];decide)) (λh=>?_)
    | refine .p q ?_
    | refine .p p ?_
    | refine .p o ?_
    | refine .p k ?_
    | refine aY ?_
    | refine aN ?_
    | refine aJ ?_
    | refine Aj _ (Aa rfl ?_)
    | refine Aa d_ ?_
    | fail
def aGz(c:Con)(i:c.sm)(a:a8)(n t:Int):bj 247 [c.av,CA 3 (vav a) J0,ii n,ii t] ((BJ c.ns a n t).av):=by
 have h1:=nM c i n;have d:=CQ c i n;have e:∀x∈bI c.ns n,c.ok x:=λx j=>jL c n x j;unfold BJ;generalize bI c.ns n=b at h1 d e;refine c_ f247 λ_=>?_
 repeat' first|refine pA ?_|refine .p d ?_|exact rfl|refine lA ?_ ?_|intro h
 exact To.cut [1,3,4,8,9,10,11] 3 rfl rfl rfl rfl (X1 c a t b h1 e _ (Z b) 0 V3.zero o_ rfl)
def aDu(c:Con)(f:c.sm)(a:a8)(t:Int)(need:V3)(nd:V3)(l:ax)(hl:Z l<=1048576)(r:Bool):∀(m i:Nat),i+m+1=Z l->(((l.drop i).take m).all λx=>aAp c a need t x)=r->
  DE E f175 (DA r) [(1,CA 3 (vav a) J0),(2,ii t),(4,G2 0 0),(7,G2 1 0),(10,CA 1 (iv l) J0),(11,ii i)] [Do 30 c.cs,Do 43 need.cs]:=by
 have g:Z (iv l)=Z l:=by simp
 intro m;induction m with
 | zero=>
  intro i k b;rw[List.take_zero]at b;have b:O=r:=b;subst b;exact tA
 | succ m j=>
  intro i k b;have d:i<Z l:=o_;rw[Ac d,List.take_succ_cons,Hw]at b;have get:=cK d;generalize l[i]=x at b get;have next:=j (i+1) o_
  unfold aAp at b;have h1:=aBa c f x a;generalize jN c.ns x a=q1 at h1 b;have o:=mX q1 need;generalize eU q1 need=q2 at o b;have h3:=aGz c f a x t;generalize BJ c.ns a x t=q3 at h3 b;have n:=mX q2 q3;generalize eU q2 q3=q4 at n b;have p:=aLg c f x;generalize jN c.ns x (mY c.ns)=q5 at p b;have h:=nU q4 q5;cases e:cD q4 q5 with
  | false=>
   rw[e]at h b;have b:U=r:=b;subst b;exact tA
  | true=>
   rw[e,Bz]at b;rw[e]at h;have next:=next b
   exact tA
theorem RN{ns:bf}{t:Int}(a:0<=t)(h1:t.toNat<Z ns):∃r,upL ns t=t::r:=by
 unfold upL upF;rw[bu (bq a),dif_pos h1];split
 all_goals (exact⟨_,rfl⟩)
def vS{ns:bf}{t:Int}(h:bD ns t=O):0<=t/\t.toNat<Z ns:=by exact zqra3
def aD0(c:Con)(d:a8)(t:Int)(need:V3)(r:ax)(j:upL c.ns t=t::r):(upL c.ns t).all (P0 c d t need)=(aDS c d need t&&((bT c.ns t).take (Z (bT c.ns t)-1)).all λx=>aAp c d need t x):=by
 have f:=OH c.ns (t.toNat+1) t;have f:(upL c.ns t).Pairwise λa b=>b<a:=f;unfold bT;rw[j]at f⊢;rw[Hw];unfold P0;rw[bu (bq rfl)];congr 1;have e:(Fs (Z (t::r).reverse-1) (t::r).reverse)=r.reverse:=by rw[Jy,Ah,Ja];show Fs (Z r+1-1) _=_;rw[Nat.add_sub_cancel,Ek s_];exact Bl s_
 rw[e,List.all_reverse];rw[Gv,Cj,Cj];have i:∀x∈r,¬ x=t:=λx g=>by have:=(Bt.1 f).1 x g;omega
 constructor
 .intro h x g;have:=h x g;rwa [bt (by rw[bp (i x g)];decide)]at this
 .intro h x g;rw[bt (by rw[bp (i x g)];decide)];exact h x g
def aDp(c:Con)(m:c.sm)(a:a8)(t:Int)(need:V3)(r:Bool)(d:E2 c a t need=r):bj 175 [c.av,CA 3 (vav a) J0,ii t,need.av] (DA r):=by
 have j:=mB c m t;rw[vD]at j;unfold E2 at d;cases k:bD c.ns t with
 | false=>
  rw[k]at j;rw[bt (by rw[k];decide)]at d;subst d;exact c_ f175 λ_=>zW
 | true=>
  rw[k]at j;rw[bu k]at d;obtain⟨C,u⟩:=vS k;obtain⟨z,v⟩:=RN C u;rw[aD0 c a t need z v]at d;have o:=rC c.ns t;have s:0<Z (bT c.ns t):=by unfold bT;rw[v];simp
  have hp:=vC c m t;generalize bT c.ns t=l at d o hp s;have B:=m.ns;have w:t=(t.toNat:Int):=o_;have e:=HE (c:=c) (i:=t.toNat) u;rw[<-w]at e;unfold aDS at d;generalize cO c.ns t=x at e d;have h1:=A7 a t;generalize atV a t=q1 at h1 d;have y:=mX q1 need;generalize eU q1 need=q2 at y d;have h3:=mX x.n x.b;generalize eU x.n x.b=q3 at h3 d;have q:=nU q2 q3;cases p:cD q2 q3 with
  | false=>
   rw[p]at q d;have d:U=r:=d;subst d;exact c_ f175 λ_=>zW
  | true=>
   rw[p,Bz]at d;rw[p]at q;refine c_ f175 λ_=>?_
   repeat' first|refine pA ?_|refine .p j ?_|refine⟨t.toNat,w,?_⟩|refine⟨_,e,?_⟩|refine .p h1 ?_|refine .p y ?_|refine .p h3 ?_|refine .p q ?_|refine .p hp ?_|exact rfl|refine lA ?_ ?_|intro h
   exact To.cut [1,2,4,7,10,11] 2 rfl rfl rfl rfl (aDu c m a t need need l o_ r (Z l-1) 0 o_ d)
def aGj(c:Con)(b:c.sm)(a:a8)(t:Int)(need:V3):bj 175 [c.av,CA 3 (vav a) J0,ii t,need.av] (DA (E2 c a t need)):=aDp c b a t need _ rfl
abbrev ofO(c:Con)(xs:a8):aw:=[Do 30 c.cs,.row 0 3 43 (vav xs)]
def aPH(c:Con)(l:a7)(R:a8)(x:Rn)(j:Nat)(Be:j<1048576)(F:(rav l)[j]? =X x.av)(p:ax)(t:Z p<=1048576)(h:∀k∈p,0<=k/\k.toNat<Z c.ns):
  ∀(m i:Nat) (xs:a8),Z xs=Z c.ns->i+m=Z p->
   DE E f124 (CA 3 (vav R) J0) [(1,CA 14 (rav l) J0),(2,G2 0 0),(5,.row 1 0),(6,ii ((j:Int)+1))] (ofO c ((p.drop i).foldl (yC (dem x.g)) xs))->
  To E f124 (.pure (Io (CA 3 (vav R) J0))) (G0 (stk f124 1) [(1,CA 14 (rav l) J0),(2,G2 0 0),(5,.row 1 0),(6,ii j),(7,CA 1 (iv p) J0),(8,ii i)] (ofO c xs)):=by
 have n:Z (iv p)=Z p:=by simp
 have z:Z (rav l)=Z l:=by simp
 intro m;induction m with
 | zero=>
  intro i xs f y a;rw[Ae o_]at a;exact tA
 | succ m o=>
  intro i xs f y a;have b:i<Z p:=o_;obtain⟨A,w⟩:=h _ (Aq b);rw[Ac b,Ap]at a;have get:=cK b;generalize p[i]=k at a get A w;have C:k=(k.toNat:Int):=o_;have B:Z (vav xs)=Z xs:=by simp
  have next:=o (i+1) (yC (dem x.g) xs k) (by rw[W3];exact f) o_ a
  have e:k.toNat<Z xs:=o_;have r:(vav xs)[k.toNat]? =X xs[k.toNat].av:=lN e;unfold yC at next
  rw[Ab e,show((X xs[k.toNat]).getD V3.zero)=xs[k.toNat]from rfl]at next
  generalize xs[k.toNat]=u at r next
  have v:=PC x.g;generalize dem x.g=d at v next a
  have s:=mX u d;generalize eU u d=q at s next
  unfold ofO at next
  rw[<-OE]at next
  exact tA
def aLf(c:Con)(n:c.sm)(l:a7)(hl:Z l<=1048576)(R:a8):∀(m i:Nat) (xs:a8),i+m=Z l->Z xs=Z c.ns->(l.drop i).foldl (E1 c) xs=R->
  DE E f124 (CA 3 (vav R) J0) [(1,CA 14 (rav l) J0),(2,G2 0 0),(5,.row 1 0),(6,ii i)] (ofO c xs):=by
 have o:Z (rav l)=Z l:=by simp
 have s:=n.ns;intro m;induction m with
 | zero=>
  intro i xs t j b;rw[Ae o_]at b;subst b;exact tA
 | succ m q=>
  intro i xs t j b;have e:i<Z l:=o_;rw[Ac e,Ap]at b;have get:(rav l)[i]? =X l[i].av:=cH e;generalize l[i]=x at b get;have next:=q (i+1) (E1 c xs x) o_ (by rw[aGu];exact j) b
  have a:=mB c n x.g.ten;rw[vD]at a;unfold E1 at next
  cases f:bD c.ns x.g.ten with
  | false=>
   rw[f]at a;rw[bt (by rw[f];decide)]at next
   exact tA
  | true=>
   rw[f]at a;rw[bu f]at next
   have hp:=vC c n x.g.ten;have h:=rC c.ns x.g.ten;have d:∀k∈bT c.ns x.g.ten,0<=k/\k.toNat<Z c.ns:=λk r=>OI _ _ _ _ (Iz.1 r);generalize bT c.ns x.g.ten=p at hp h d next
   have u:=aPH c l R x i o_ get p o_ d (Z p) 0 xs j o_ next
   exact tA
def O6(c:Con)(b:c.sm)(l:a7)(hl:Z l<=1048576):bj 124 [c.av,CA 14 (rav l) J0] (CA 3 (vav (ofL c l)) J0):=by
 have h1:=b.ns;have a:Z (nav c.ns)=Z c.ns:=by simp
 rw[<-aOB];have next:=aLf c b l hl (aGw c l) (Z l) 0 (Ak (Z c.ns) V3.zero) o_ s_ rfl
 unfold ofO at next
 rw[show vav (Ak (Z c.ns) V3.zero)=Ak (Z c.ns) (aa.agg [ii 0,ii 0,ii 0])from by simp[vav,V3.av,V3.zero,V3.cs]]at next
 generalize aGw c l=R at next
 refine c_ f124 λ_=>gV ?_;refine⟨Z c.ns,by rw[a],gV ?_⟩;refine⟨⟨rfl,by omega,by simp only[maxLen];omega⟩,?_⟩;exact zW
def aGG(c:Con)(r:a7)(R:a8)(x:Rn)(j:Nat)(y:j<1048576)(f:(rav r)[j]? =X x.av)(w:Z x.hs<=1048576)(z:Z c.hs<=1048576):
  ∀(m i:Nat) (xs:a8),Z xs=Z c.hs->i+m=Z x.hs->
   To (Er [5] []) f178 (.pure (Io (CA 3 (vav R) J0))) (G0 (stk f178 1) [(1,CA 14 (rav r) J0),(5,.row 1 0),(7,ii ((j:Int)+1))] (ofO c ((x.hs.drop i).foldl (rQ x.g.need) xs)))->
  To (Er [5] []) f178 (.pure (Io (CA 3 (vav R) J0))) (G0 (stk f178 2) [(1,CA 14 (rav r) J0),(5,.row 1 0),(7,ii j),(8,ii i)] (ofO c xs)):=by
 have k:Z (iv x.hs)=Z x.hs:=by simp
 have s:Z (rav r)=Z r:=by simp
 intro m;induction m with
 | zero=>
  intro i xs e p a;rw[Ae o_]at a;exact zqra2
 | succ m n=>
  intro i xs e p a;have b:i<Z x.hs:=o_;rw[Ac b,Ap]at a;have get:=cK b;generalize x.hs[i]=u0 at a get;have t:Z (vav xs)=Z xs:=by simp
  have next:=n (i+1) (rQ x.g.need xs u0) (by rw[rO];exact e) o_ a
  unfold rQ ofO at next
  by_cases h1:0<=u0
  .rw [bu (bq h1)]at next
   by_cases l:u0<(Z xs:Int)
   .rw [bu (bq l)]at next
    have d:u0.toNat<Z xs:=o_;have v:u0=(u0.toNat:Int):=o_;rw[Ab d]at next
    have o:(vav xs)[u0.toNat]? =X xs[u0.toNat].av:=lN d;rw[show((X xs[u0.toNat]).getD V3.zero)=xs[u0.toNat]from rfl]at next
    generalize xs[u0.toNat]=u at o next
    have h:=O5 u x.g.need;generalize AF u x.g.need=q at h next
    rw[<-OE]at next
    exact zqra2
   .rw [bt (by rw[bp l];decide)]at next
    exact zqra2
  .rw [bt (by rw[bp h1];decide)]at next
   exact zqra2
def aDy(c:Con)(n:c.sm)(r:a7)(f:Sm r)(R:a8):∀(m i:Nat) (xs:a8),i+m=Z r->Z xs=Z c.hs->(r.drop i).foldl yJ xs=R->
  To (Er [5] []) f178 (.pure (Io (CA 3 (vav R) J0))) (G0 (stk f178 1) [(1,CA 14 (rav r) J0),(5,.row 1 0),(7,ii i)] (ofO c xs)):=by
 have h:Z (rav r)=Z r:=by simp
 have hl:=f.1;intro m;induction m with
 | zero=>
  intro i xs k e b;rw[Ae o_]at b;subst b;exact tA
 | succ m j=>
  intro i xs k e b;have a:i<Z r:=o_;have g:=f.at a;rw[Ac a,Ap]at b;generalize l:r[i]=x at b g;have get:(rav r)[i]? =X x.av:=(cH a).trans (by rw[l]);have next:=j (i+1) (yJ xs x) o_ (by rw[xL];exact e) b
  refine gV ?_;have d:=aGG c r R x i o_ get g n.hs (Z x.hs) 0 xs e o_ next
  exact zW
def X6(c:Con)(f:c.sm)(r:a7)(k:Sm r):∀(m i:Nat) (xs:a8),i+m=Z c.hs->xs=(Dh i).map (λj:Nat=>(bE c.hs (j:Int)).c)->
  DE (Er [5] []) f178 (CA 3 (vav (iL c r)) J0) [(1,CA 14 (rav r) J0),(2,G2 0 0),(5,.row 1 0),(6,ii i)] (ofO c xs):=by
 have d:Z (hav c.hs)=Z c.hs:=by simp
 have h1:=f.hs;intro m;induction m with
 | zero=>
  intro i xs b a;have b:i=Z c.hs:=o_;subst b;have next:=aDy c f r k (iL c r) (Z r) 0 xs o_ (by rw[a];simp) (by rw[a];rfl)
  exact tA
 | succ m g=>
  intro i xs b a;have n:Z xs=i:=by rw[a];simp
  have l:Z (vav xs)=Z xs:=by simp
  have h:(hav c.hs)[i]? =X (bE c.hs (i:Int)).av:=xJ o_;have next:=g (i+1) (xs++[(bE c.hs (i:Int)).c]) o_ (by rw[a,Jh,Bi];rfl)
  unfold ofO at next
  have e:vav (xs++[(bE c.hs (i:Int)).c])=vav xs++[(bE c.hs (i:Int)).c.av]:=by simp
  rw[e]at next
  generalize bE c.hs (i:Int)=x at h next
  exact tA
def aGF(c:Con)(d:c.sm)(r:a7)(b:Sm r):bj 178 [c.av,CA 14 (rav r) J0] (CA 3 (vav (iL c r)) J0):=by refine gA (Er [5] []) f178 λ_=>?_;have a:=X6 c d r b (Z c.hs) 0 [] o_ rfl;exact zW
def alB(c:Con)(lv a b:Int):Bool:=
 if lv=0 then decide (a=b)
 else if lv=1 then decide ((bE c.hs a).f=(bE c.hs b).f/\(bE c.hs a).b=(bE c.hs b).b/\(bE c.hs a).r=(bE c.hs b).r)
 else if lv=2 then decide ((bE c.hs a).f=(bE c.hs b).f/\(bE c.hs a).b=(bE c.hs b).b)
 else decide ((bE c.hs a).f=(bE c.hs b).f)
abbrev xY(c:Con)(lv a:Int):ax:=ofK (bE c.hs a) a lv
def RB(c:Con)(lv a b:Int)(d:0<=lv)(h3:lv<=3):alB c lv a b=decide (xY c lv a=xY c lv b):=by
 unfold alB xY ofK
 grind
def dI(c:Con)(lv i:Int):List ax->Nat->Option Nat
 | [],_=>D
 | g::r,k=>if alB c lv (g.headD 0) i=O then X k else dI c lv i r (k+1)
def rgS(c:Con)(lv:Int)(s:List ax)(i:Nat):List ax:=
 match dI c lv (i:Int) s 0 with
 | some k=>s.set k ((s[k]?).getD []++[(i:Int)])
 | none=>s++[[(i:Int)]]
def rgL(c:Con)(lv:Int):List ax:=if decide (lv<0)=O then[]else if decide (3<lv)=O then[]else(Dh (Z c.hs)).foldl (rgS c lv) []
def rJ(c:Con)(lv:Int):Nat->List ax->List (ax×Nat)
 | _,[]=>[]
 | k,g::r=>(xY c lv (g.headD 0),k)::rJ c lv (k+1) r
def IG(c:Con)(lv i:Int)(a:0<=lv)(h3:lv<=3):∀(s:List ax) (k:Nat),oE (rJ c lv k s) (xY c lv i)=dI c lv i s k
 | [],k=>rfl
 | g::r,k=>by
  unfold rJ oE dI;rw[RB c lv _ _ a h3,IG c lv i a h3 r (k+1)]
  grind
def MP(c:Con)(lv i:Int):∀(s:List ax) (k m:Nat),(∀g∈s,g≠[])->rJ c lv m (s.set k ((s[k]?).getD []++[i]))=rJ c lv m s
 | [],k,m,_=>by simp
 | g::r,0,m,h=>by
  have e:=h g s_;cases g with
  | nil=>exact bv rfl e
  | cons a t=>rfl
 | g::r,k+1,m,h=>by have b:=MP c lv i r k (m+1) λx d=>h x (by simp[d]);show _::rJ c lv (m+1) (r.set k ((r[k]?).getD []++[i]))=_;rw[b];rfl
def IF(c:Con)(lv i:Int):∀(s:List ax) (m:Nat),rJ c lv m (s++[[i]])=rJ c lv m s++[(xY c lv i,m+Z s)]
 | [],m=>rfl
 | g::r,m=>by
  show _::rJ c lv (m+1) (r++[[i]])=_::(rJ c lv (m+1) r++_)
  rw[IF c lv i r (m+1)];simp only[Al];rw[show m+1+Z r=m+(Z r+1)from by omega]
theorem aPO(c:Con)(lv:Int)(f:0<=lv)(h3:lv<=3)(s:GSt)(i:Nat)(h1:s.1=rJ c lv 0 s.2)(e:∀g∈s.2,g≠[]):
  (gpS c lv s i).2=rgS c lv s.2 i/\(gpS c lv s i).1=rJ c lv 0 (rgS c lv s.2 i)/\∀g∈rgS c lv s.2 i,g≠[]:=by
 have d:=IG c lv (i:Int) f h3 s.2 0;rw[<-h1]at d;unfold gpS rgS;have b:oE s.1 (ofK (bE c.hs (i:Int)) i lv)=dI c lv (i:Int) s.2 0:=d;rw[b];cases dI c lv (i:Int) s.2 0 with
 | some k=>
  refine⟨rfl,?_,λg a=>?_⟩
  .show s.1=_;rw[h1,MP c lv i s.2 k 0 e]
  .rcases Dn a with a|rfl
   .exact e g a
   .simp
 | none=>
  refine⟨rfl,?_,λg a=>?_⟩
  .show s.1++_=_;rw[h1,IF,Bv]
  grind
def aGE(c:Con)(lv:Int):rgL c lv=gpL c lv:=by
 unfold rgL gpL;by_cases h1:lv<0
 .simp only[h1,decide_true,if_true]
 by_cases b:3<lv
 .grind
 simp only[h1,b,decide_false,if_false,Dc];have key:∀(l:a6) (s:GSt),s.1=rJ c lv 0 s.2->(∀g∈s.2,g≠[])->l.foldl (rgS c lv) s.2=(l.foldl (gpS c lv) s).2:=λl=>by
  induction l with
  | nil=>intro s _ _;rfl
  | cons i r d=>
   grind[aPO]
 exact key _ ([],[]) rfl (λg a=>by simp at a)
def rrF(free need:V3):Nat->Int->Int
 | 0,n=>n
 | f+1,n=>if cD (W5 need (n+1)) free=O then(if cD need free=O then rrF free need f (n+1)else n)else n
def rrI(free need:V3):Int:=rrF free need 16 0
def cJ{v:V3}(h:aS v=O):(0<=v.a/\v.a<=1048576)/\(0<=v.b/\v.b<=1048576)/\(0<=v.c/\v.c<=1048576):=by unfold aS at h;simpa[Af,and_assoc]using h
def wL{a b:V3}:cD a b=O↔a.a<=b.a/\a.b<=b.b/\a.c<=b.c:=by
 unfold cD
 grind
theorem aNR{n m:Int}(h1: -m<=n)(a:n<=m):gL n m=n:=by unfold gL;omega
def aSr{x n:Int}(h1:0<=x)(b:x<=1048576)(h3:0<=n)(a:n<=16):0<=x*n/\x*n<=16777216:=by have c:x*n<=1048576*16:=Int.mul_le_mul b a h3 d_;exact⟨Js h1 h3,by omega⟩
theorem aMc{x n:Int}(h1:0<=x)(b:x<=1048576)(h3:0<=n)(a:n<=16):KQ x n=x*n:=by
 have:=aSr h1 b h3 a;unfold KQ
 grind[aNR]
def aCV{need free:V3}(d:aS need=O){n:Int}(k:0<=n)(h1:n<=16):cD (W5 need n) free=O↔need.a*n<=free.a/\need.b*n<=free.b/\need.c*n<=free.c:=by
 obtain⟨⟨f,i⟩,⟨h,e⟩,j,g⟩:=cJ d;rw[wL];show KQ need.a n<=free.a/\KQ need.b n<=free.b/\KQ need.c n<=free.c↔_
 grind[aMc]
def HB{m f k n:Int}(d:0<=k)(c:k<=f):n<=D4 m f k↔n<=m/\k*n<=f:=by
 unfold D4;by_cases h:0<k
 .rw [bu (bq h),Iu o_];have:=Int.le_ediv_iff_mul_le h (a:=n) (b:=f);rw[Int.mul_comm]at this;omega
 grind
def FH{free need:V3}(g:aS need=O)(d:cD need free=O)(n:Int):n<=dX free need↔n<=16/\need.a*n<=free.a/\need.b*n<=free.b/\need.c*n<=free.c:=by
 obtain⟨⟨e,_⟩,⟨f,_⟩,h,_⟩:=cJ g;obtain⟨h1,i,h3⟩:=wL.1 d;unfold dX;rw[bu d,HB h h3,HB f i,HB e h1]
 grind
def aGi{free need:V3}(b:aS need=O)(a:cD need free=O):∀(f:Nat) (n:Int),0<=n->n+f=16->n<=dX free need->rrF free need f n=dX free need
 | 0,n,h0,h1,h2=>by
  have h3:=HC free need;unfold rrF;omega
 | f+1,n,h0,h1,h2=>by
  unfold rrF;have hm:=aCV (free:=free) b (n:=n+1) o_ o_;have c:=FH b a (n+1);by_cases h:cD (W5 need (n+1)) free=O
  .rw [bu h,bu a];exact aGi b a f (n+1) o_ o_ (c.2 ⟨by omega,hm.1 h⟩)
  grind
def aSa{free need:V3}(b:aS need=O):rrI free need=dX free need:=by
 unfold rrI;by_cases a:cD need free=O
 .refine aGi b a 16 0 d_ d_ ((FH b a 0).2 ?_);obtain⟨⟨c,_⟩,⟨d,_⟩,e,_⟩:=cJ b;obtain⟨h1,f,h3⟩:=wL.1 a;simp only[Int.mul_zero];omega
 .unfold rrF dX;rw[bt a,bt a];split<;>rfl
def vH(c:Con)(a:Int):Prop:=0<=a/\a.toNat<Z c.hs
def aSA{c:Con}{a:Int}(h:vH c a):(hav c.hs)[a.toNat]? =X (bE c.hs a).av:=by have:=xJ (c:=c) (i:=a.toNat) h.2;rwa [Hy h.1]at this
def aRN(c:Con):ak [0] [Do 30 c.cs]=[.fcells c.cs]:=by kernel_rfl
def aOl(c:Con)(lv a b:Int):zJ [4] (aE [.fcells c.cs]) [(1,ii lv),(2,ii a),(3,ii b),(4,G2 0 0),(8,DA U)]=[(1,ii lv),(2,ii a),(3,ii b),(4,.ptr c.cs),(8,DA U)]:=by kernel_rfl
def FZ{g:Goal}{ks:bg}(c:Con)(lv a b:Int)(h:To (Er [] [16,17,18,19,20]) f305 g (.code ks [(1,ii lv),(2,ii a),(3,ii b),(4,.ptr c.cs),(8,DA U)] [.fcells c.cs])):
  To (Er [] [16,17,18,19,20]) f305 g (.code ks [(1,ii lv),(2,ii a),(3,ii b),(4,G2 0 0),(8,DA U)] [Do 30 c.cs]):=by
 refine To.frz [4] [0] ?_;rw[aRN,aOl];exact h
def aE1(c:Con)(lv a b:Int)(s:0<=lv)(h3:lv<=3)(j:vH c a)(k:vH c b)(r:Bool)(d:alB c lv a b=r):bj 305 [c.av,ii lv,ii a,ii b] (DA r):=by
 have i:=aSA j;have e:=aSA k;have l:a=(a.toNat:Int):=by have:=j.1;omega
 have m:b=(b.toNat:Int):=by have:=k.1;omega
 unfold alB at d;generalize bE c.hs a=x at i d;generalize bE c.hs b=y at e d;by_cases q:lv=0
 .subst q;rw[bu rfl]at d;exact zqra1
 by_cases n:lv=1
 .subst n;rw[bt d_,bu rfl]at d;refine gA (Er [] [16,17,18,19,20]) f305 λ_=>?_;refine bR (hEr [] [16,17,18,19,20]) 10 ?_;conv=>whnf
  refine To.cutC [1,2,3,4,8] 1 rfl rfl rfl rfl ?_;refine FZ c _ a b ?_
  repeat' first|refine pA ?_|refine⟨a.toNat,l,?_⟩|refine⟨b.toNat,m,?_⟩|refine⟨_,i,?_⟩|refine⟨_,e,?_⟩|exact rfl|refine lA ?_ ?_|intro h
  all_goals (refine congrArg (λb=>Res.ret (aa.bool b)) ?_;rw[<-d];clear i e l m j k d;simp_all<;>rfl)
 by_cases p:lv=2
 .subst p;rw[bt d_,bt d_,bu rfl]at d;refine gA (Er [] [16,17,18,19,20]) f305 λ_=>?_;refine bR (hEr [] [16,17,18,19,20]) 10 ?_;conv=>whnf
  refine To.cutC [1,2,3,4,8] 1 rfl rfl rfl rfl ?_;refine FZ c _ a b ?_
  repeat' first|refine pA ?_|refine⟨a.toNat,l,?_⟩|refine⟨b.toNat,m,?_⟩|refine⟨_,i,?_⟩|refine⟨_,e,?_⟩|exact rfl|refine lA ?_ ?_|intro h
  all_goals (refine congrArg (λb=>Res.ret (aa.bool b)) ?_;rw[<-d];clear i e l m j k d;simp_all<;>rfl)
 have o:lv=3:=o_;subst o;rw[bt d_,bt d_,bt d_]at d;exact zqra1
def aJ4(c:Con)(lv a b:Int)(g:0<=lv)(h3:lv<=3)(d:vH c a)(e:vH c b):bj 305 [c.av,ii lv,ii a,ii b] (DA (alB c lv a b)):=aE1 c lv a b g h3 d e _ rfl
abbrev rgO(c:Con)(s:List ax):aw:=[Do 30 c.cs,.row 0 1 83 (gav s)]
abbrev rgF(lv:Int)(i:Int):au:=[(1,ii lv),(2,G2 0 0),(5,.row 1 0),(6,ii i)]
structure GH(c:Con)(i:Nat)(s:List ax):Prop where
 len:Z s<=i
 one:∀g∈s,Z g<=i/\∃a r,g=a::r/\vH c a
def GH.step{c:Con}{lv:Int}{i:Nat}{s:List ax}(h:GH c i s)(n:i<Z c.hs):GH c (i+1) (rgS c lv s i):=by
 obtain⟨h1,f⟩:=h;unfold rgS;split
 .rename_i k m;refine⟨by simp;omega,λg b=>?_⟩;rcases Dn b with b|rfl
  .obtain ⟨j,e⟩:=f g b;exact⟨by omega,e⟩
  .by_cases d:k<Z s
   .rw [Ab d];obtain⟨j,a,r,e,l⟩:=f _ (Aq d);refine⟨by simp;omega,a,r++[(i:Int)],?_,l⟩;show s[k]++_=_;rw[e];rfl
   .rw [Bp o_];exact⟨by simp,(i:Int),[],rfl,⟨by omega,by omega⟩⟩
 .refine ⟨by simp;omega,λg b=>?_⟩;rcases Cc.1 b with b|b
  .obtain ⟨j,e⟩:=f g b;exact⟨by omega,e⟩
  .simp at b;subst b;exact⟨by simp,(i:Int),[],rfl,⟨by omega,by omega⟩⟩
def aMU(l:List ax)(i:Nat)(x:ax):(gav l).set i (CA 1 (iv x) J0)=gav (l.set i x):=by simp[gav,Gl]
def aSd(c:Con)(lv:Int)(C:0<=lv)(h3:lv<=3)(i:Nat)(Be:i<Z c.hs)(F:Z c.hs<=1048576)(G:Goal)(H:G= .pure G.res)(s:List ax)(hs:GH c i s):
  ∀(m k:Nat),k+m=Z s->
  To (Er [5] []) f250 (.pure G.res) (BV f250 (rgF lv ((i:Int)+1)) (rgO c (match dI c lv (i:Int) (s.drop k) k with|some k=>s.set k ((s[k]?).getD []++[(i:Int)])|none=>s++[[(i:Int)]])))->
  To (Er [5] []) f250 (.pure G.res) (G0 (stk f250 1) (rgF lv (i:Int)++[(7,DA U),(8,ii k)]) (rgO c s)):=by
 have z:Z (gav s)=Z s:=by simp
 have hsl:=hs.len;intro m;induction m with
 | zero=>
  intro k A b;rw[Ae o_]at b;have b:To (Er [5] []) f250 (.pure G.res) (BV f250 (rgF lv ((i:Int)+1)) (rgO c (s++[[(i:Int)]]))):=b;have e:gav (s++[[(i:Int)]])=gav s++[CA 1 [ii i] J0]:=by simp[gav]
  unfold rgO at b;rw[e]at b;exact tA
 | succ m q=>
  intro k A b;have d:k<Z s:=o_;obtain⟨o,a,r,w,x⟩:=hs.one _ (Aq d);rw[Ac d]at b;have u:s[k]? =X s[k]:=Ab d;have l:=aMU s k (s[k]++[(i:Int)]);have get:(gav s)[k]? =X (CA 1 (iv s[k]) J0):=FS d;have q:=q (k+1) o_;have f:=aJ4 c lv a (i:Int) C h3 x ⟨by omega,by omega⟩;unfold dI at b;rw[w]at o get;have y:Z r+1<=i:=by simpa using o
  have n:(iv (a::r))[0]? =X (ii a):=rfl;have v:(s[k]).headD 0=a:=by rw[w];rfl
  rw[v]at b;cases p:alB c lv a (i:Int)with
  | false=>
   rw[p]at f;rw[bt (by rw[p];decide)]at b;have next:=q b
   exact tA
  | true=>
   rw[p]at f;rw[bu p]at b;have b:To (Er [5] []) f250 (.pure G.res) (BV f250 (rgF lv ((i:Int)+1)) (rgO c (s.set k ((s[k]?).getD []++[(i:Int)])))):=b;rw[u]at b;have b:To (Er [5] []) f250 (.pure G.res) (BV f250 (rgF lv ((i:Int)+1)) (rgO c (s.set k (s[k]++[(i:Int)])))):=b;unfold rgO at b;rw[<-l,w,show iv ((a::r)++[(i:Int)])=iv (a::r)++[ii i]from by simp]at b;have g:Z ((gav s).set k (CA 1 (iv (a::r)++[ii i]) J0))=Z s:=by simp
   generalize B:(gav s).set k (CA 1 (iv (a::r)++[ii i]) J0)=S at b g;have j:To (Er [5] []) f250 (.pure G.res) (G0 (stk f250 1) (rgF lv (i:Int)++[(7,DA O),(8,ii ((k:Int)+1))]) [Do 30 c.cs,.row 0 1 83 S]):=by
    refine gV ?_
    repeat' first|refine pA ?_|exact rfl|refine lA ?_ ?_|intro h
    .exact zW
    .exact zW
   rw[<-B]at j;refine gV ?_;refine aT λh=>?_
   repeat' first|refine pA ?_|refine⟨k,rfl,?_⟩|refine⟨_,get,?_⟩|refine⟨_,n,?_⟩|refine .p f ?_|refine⟨⟨by simp only[maxLen];simp;omega,by simp;omega⟩,?_⟩|exact rfl|refine lA ?_ ?_|intro h
   exact zW
def aPN(c:Con)(g:c.sm)(lv:Int)(h:0<=lv)(h3:lv<=3)(R:List ax):∀(n i:Nat) (s:List ax),i+n=Z c.hs->GH c i s->(List.range' i n).foldl (rgS c lv) s=R->
  DE (Er [5] []) f250 (CA 1 (gav R) J0) (rgF lv (i:Int)) (rgO c s):=by
 have h1:=g.hs;have b:Z (hav c.hs)=Z c.hs:=by simp
 intro n;induction n with
 | zero=>
  intro i s f hs a;have a:s=R:=a;subst a;exact tA
 | succ n e=>
  intro i s f hs a;rw[List.range'_succ,Ap]at a;have next:=e (i+1) (rgS c lv s i) o_ (hs.step o_) a
  refine gV ?_;have d:=aSd c lv h h3 i o_ h1 (.pure (Io (CA 1 (gav R) J0))) rfl s hs (Z s) 0 o_ next
  exact zW
def X5(c:Con)(h:c.sm)(lv:Int):bj 250 [c.av,ii lv] (CA 1 (gav (gpL c lv)) J0):=by
 have h1:=h.hs
 obtain⟨R,a⟩:∃R,R=gpL c lv:=⟨_,rfl⟩
 rw[<-a];rw[<-aGE]at a;unfold rgL at a;by_cases d:lv<0
 .rw [bu (bq d)]at a;exact zqra9
 rw[bt (by rw[bp d];decide)]at a;by_cases e:3<lv
 .rw [bu (bq e)]at a;exact zqra9
 rw[bt (by rw[bp e];decide),List.range_eq_range']at a;refine gA (Er [5] []) f250 λ_=>?_;have b:=aPN c h lv o_ o_ R (Z c.hs) 0 [] o_ ⟨by simp,λg i=>by simp at i⟩ a.symm;exact zW
def XW(free need:V3)(r:Int):∀(m:Nat) (n:Int),0<=n->n+m=16->rrF free need m n=r->
  DE E f306 (ii r) [(2,G2 0 0),(3,G2 1 0),(5,ii n)] [Do 43 free.cs,Do 43 need.cs]:=by
 intro m;induction m with
 | zero=>
  intro n g f a;have a:n=r:=a;subst a;exact tA
 | succ m e=>
  intro n g f a;unfold rrF at a;have h1:=aBe need (n+1);generalize W5 need (n+1)=q at h1 a;have b:=nU q free;have h3:=nU need free;cases d:cD q free with
  | false=>
   rw[d]at b;rw[bt (by rw[d];decide)]at a;subst a;refine gV ?_
   repeat' first|refine pA ?_|refine Aa (Aa (by simp only[bS];omega) (by simp only[aX];omega)) ?_|refine .p h1 ?_|refine .p b ?_|exact rfl|refine lA ?_ ?_|intro h
  | true=>
   rw[d]at b;rw[bu d]at a;cases c:cD need free with
   | false=>
    rw[c]at h3;rw[bt (by rw[c];decide)]at a;subst a;refine gV ?_
    repeat' first|refine pA ?_|refine Aa (Aa (by simp only[bS];omega) (by simp only[aX];omega)) ?_|refine .p h1 ?_|refine .p b ?_|refine .p h3 ?_|exact rfl|refine lA ?_ ?_|intro h
   | true=>
    rw[c]at h3;rw[bu c]at a;have next:=e (n+1) o_ o_ a
    refine gV ?_
    repeat' first|refine pA ?_|refine Aa (Aa (by simp only[bS];omega) (by simp only[aX];omega)) ?_|refine .p h1 ?_|refine .p b ?_|refine .p h3 ?_|exact rfl|refine lA ?_ ?_|intro h
    exact To.cut [2,3,5] 2 rfl rfl rfl rfl next
def aGh(free need:V3)(a:aS need=O):bj 306 [free.av,need.av] (ii (dX free need)):=by rw[<-aSa a];refine c_ f306 λ_=>gV ?_;exact To.cut [2,3,5] 2 rfl rfl rfl rfl (XW free need _ 16 0 d_ d_ rfl)
abbrev inO(c:Con)(g:Gan):aw:=[Do 30 c.cs,Do 45 g.cs,Fr 0 1 3]
abbrev inF(free:a8)(gr:ax)(out:ax)(i:Int):au:=[(1,CA 3 (vav free) J0),(2,CA 1 (iv gr) J0),(7,G2 1 0),(10,CA 1 (iv out) (.own 2 0)),(11,ii i)]
def aPM(c:Con)(free:a8)(g:Gan)(o:0<=g.pods/\g.pods<=16)(b:ax)(hl:Z b<=1048576)(G:Goal)(h:Int)(i:Nat)(p:i<1048576)(get:(iv b)[i]? =X (ii h)):∀(m:Nat) (k:Int) (out:ax),k<=16->(max (min k (g.pods-Z out)) 0).toNat=m->(Z out:Int)<=g.pods->
  To (Eo [10] []) f251 (.pure G.res) (BV f251 (inF free b (out++Ak m h) ((i:Int)+1)) (inO c g))->
  To (Eo [10] []) f251 (.pure G.res) (G0 (stk f251 1) (inF free b out (i:Int)++[(12,ii k)]) (inO c g)):=by
 have f:Z (iv b)=Z b:=by simp
 intro m;induction m with
 | zero=>
  intro k out l hm hp a;have d:Z (iv out)=Z out:=by simp
  rw[List.replicate_zero,Ao]at a;by_cases h1:0<k
  .exact tA
  .exact tA
 | succ m j=>
  intro k out l hm hp a;have d:Z (iv out)=Z out:=by simp
  have n:out++[h]++Ak m h=out++Ak (m+1) h:=by rw[Ag];rfl
  have next:=j (k-1) (out++[h]) o_ q_ q_ (by rw[n];exact a)
  have e:iv (out++[h])=iv out++[ii h]:=by simp
  unfold inF at next
  rw[e]at next
  exact tA
def aGB(c:Con)(free:a8)(g:Gan)(s:0<=g.pods/\g.pods<=16)(w:aS g.need=O)(a:ax)(hl:Z a<=1048576)(R:ax):∀(m i:Nat) (out:ax),i+m=Z a->(Z out:Int)<=g.pods->(a.drop i).foldl (inS free g) out=R->
  DE (Eo [10] []) f251 (IP R g) (inF free a out (i:Int)) (inO c g):=by
 have l:Z (iv a)=Z a:=by simp
 have u:Z (vav free)=Z free:=by simp
 intro m;induction m with
 | zero=>
  intro i out t hp b;rw[Ae o_]at b;have b:out=R:=b;subst b;have p:Z (iv out)=Z out:=by simp
  obtain⟨Q,d⟩:∃Q,Q=IP out g:=⟨_,rfl⟩
  rw[<-d];unfold IP at d;by_cases h1:(Z out:Int)<g.pods
  .rw [bu (bq h1)]at d;subst d;exact tA
  .rw [bt (by rw[bp h1];decide)]at d;subst d;exact tA
 | succ m o=>
  intro i out t hp b;have f:i<Z a:=o_;rw[Ac f,Ap]at b;have e:=FQ free g out a[i] hp;have get:=cK f;generalize a[i]=u0 at b e get;have next:=o (i+1) (inS free g out u0) o_ e b
  unfold inS at next
  by_cases h1:u0<0
  .rw [bu (bq h1)]at next
   exact tA
  .rw [bt (by rw[bp h1];decide)]at next
   by_cases n:(Z free:Int)<=u0
   .rw [bu (bq n)]at next
    exact tA
   .rw [bt (by rw[bp n];decide)]at next
    have h:u0.toNat<Z free:=o_;have y:u0=(u0.toNat:Int):=o_;rw[Ab h,show((X free[u0.toNat]).getD V3.zero)=free[u0.toNat]from rfl]at next
    have q:(vav free)[u0.toNat]? =X free[u0.toNat].av:=lN h;generalize free[u0.toNat]=v at q next
    have r:=aGh v g.need w;have j:=HC v g.need;unfold inN at next
    generalize dX v g.need=k at r j next
    have x:=aPM c free g s a hl (.pure (Io (IP R g))) u0 i o_ get _ k out j rfl hp next
    exact tA
def aPL(c:Con)(free:a8)(g:Gan)(e:0<=g.pods/\g.pods<=16)(d:aS g.need=O)(a:ax)(hl:Z a<=1048576):bj 251 [c.av,CA 3 (vav free) J0,CA 1 (iv a) J0,g.av] (IP (inL free g a) g):=by refine gA (Eo [10] []) f251 λ_=>?_;have b:=aGB c free g e d a hl _ (Z a) 0 [] o_ q_ rfl;exact zW
abbrev rfO(c:Con)(g:Gan):aw:=[Do 30 c.cs,Do 45 g.cs]
abbrev rfF(free:a8)(lv:Int):au:=[(1,CA 3 (vav free) J0),(3,G2 0 0),(5,G2 1 0),(9,ii lv)]
def aPP(c:Con)(C:c.sm)(free:a8)(g:Gan)(w:0<=g.pods/\g.pods<=16)(B:aS g.need=O)(lv:Int)(Be:0<=lv)(s:lv<=3)(Q:Option (Int×ax))(a:List ax)(A:Z a<=1048576)(o:∀xs∈a,xs≠[]/\Z xs<=Z c.hs/\∀h∈xs,0<=h/\h<(Z c.hs:Int)):∀(m i:Nat),i+m=Z a->
  (∀x,fdG c free g (a.drop i)=X x->Q=X x)->(fdG c free g (a.drop i)=D->DE E f177 (fdA Q) (rfF free (lv+1)) (rfO c g))->
  To E f177 (.pure (Io (fdA Q))) (G0 (stk f177 1) (rfF free lv++[(10,CA 1 (gav a) J0),(11,ii i)]) (rfO c g)):=by
 have q:Z (gav a)=Z a:=by simp
 have z:=C.hs;intro m;induction m with
 | zero=>
  intro i y hs b;rw[Ae o_]at b;have next:=b rfl
  exact tA
 | succ m n=>
  intro i y hs b;have e:i<Z a:=o_;obtain⟨j,k,l⟩:=o _ (Aq e);rw[Ac e]at hs b;have get:=FS e;generalize a[i]=gr at hs b get j k l;have n:=n (i+1) o_;have f:=aPL c free g w B gr o_;unfold fdG at hs b;unfold IP at f;by_cases t:(Z (inL free g gr):Int)<g.pods
  .rw [bu (bq t)]at hs b f;have next:=n hs b
   exact tA
  .rw [bt (by rw[bp t];decide)]at hs b f;have v:=hs _ rfl;subst v
   match gr,j with
   | d::r,_=>
   have u:=l d s_;have F:(hav c.hs)[d.toNat]? =X (bE c.hs d).av:=by have:=xJ (c:=c) (i:=d.toNat) o_;rwa [Hy u.1]at this
   have b:d=(d.toNat:Int):=o_;have p:(iv (d::r))[0]? =X (ii d):=rfl;exact tA
def aLo(c:Con)(f:c.sm)(free:a8)(g:Gan)(l:0<=g.pods/\g.pods<=16)(o:aS g.need=O):∀(n:Nat) (lv:Int),0<=lv->n=(min g.lev 3+1-lv).toNat->
  DE E f177 (fdA (fdL c free g n lv)) (rfF free lv) (rfO c g):=by
 intro n;induction n with
 | zero=>
  intro lv i k;by_cases h1:lv<=g.lev
  .exact tA
  .exact tA
 | succ n d=>
  intro lv i k;have d:=d (lv+1) o_ o_;have e:=ZE c lv;have m:=f.hs;have j:Z (gav (gpL c lv))=Z (gpL c lv):=by simp
  obtain⟨Q,b⟩:∃Q,Q=fdL c free g (n+1) lv:=⟨_,rfl⟩
  rw[<-b];unfold fdL at b;refine gV ?_;refine aT λh=>?_
  repeat' first|refine pA ?_|refine .p (X5 c f lv) ?_|exact rfl|refine lA ?_ ?_|intro h
  refine To.cut [1,3,5,9,10,11] 2 rfl rfl rfl rfl ?_;refine aPP c f free g l o lv i o_ Q (gpL c lv) o_ e.2 (Z (gpL c lv)) 0 o_ (λx a=>?_) (λa=>?_)
  .have a:fdG c free g (gpL c lv)=X x:=a;rw[a]at b;exact b
  .have a:fdG c free g (gpL c lv)=none:=a;rw[a]at b;rw[b];exact d
def aGH(c:Con)(b:c.sm)(free:a8)(g:Gan)(d:0<=g.pods/\g.pods<=16)(a:aS g.need=O):bj 177 [c.av,CA 3 (vav free) J0,g.av] (fdA (yK c free g)):=by refine c_ f177 λ_=>gV ?_;exact To.cut [1,3,5,9] 2 rfl rfl rfl rfl (aLo c b free g d a _ _ o_ rfl)
def S9(c:Con)(e:c.sm)(l:a7)(hl:Sm l)(g:Gan)(n:0<=g.pods/\g.pods<=16)(k:aS g.need=O)(Q:Option (Int×ax))(a:cL c l g=Q):bj 119 [c.av,CA 14 (rav l) J0,g.av] (fdA Q):=by
 unfold cL at a;have hm:=aGj c e (ofL c l) g.ten (dem g);have m:=PC g;generalize E2 c (ofL c l) g.ten (dem g)=b at a hm;generalize dem g=d at hm m;have h:=aGH c e (iL c l) g n k;have i:=aGF c e l hl;have j:=O6 c e l hl.1;generalize iL c l=fr at h a i;generalize ofL c l=us at hm j;cases b with
 | false=>
  have a:D=Q:=a;subst a;exact zqra11
 | true=>
  have a:yK c fr g=Q:=a;rw[a]at h;unfold fdA at h⊢;cases Q with
  | none=>
   exact zqra11
  | some x=>
   exact zqra11
def nX(c:Con)(b:c.sm)(l:a7)(hl:Sm l)(g:Gan)(d:0<=g.pods/\g.pods<=16)(a:aS g.need=O):bj 119 [c.av,CA 14 (rav l) J0,g.av] (fdA (cL c l g)):=S9 c b l hl g d a _ rfl
def PH(c:Con)(k:c.sm)(g:Gan)(l:0<=g.pods/\g.pods<=16)(j:aS g.need=O)(b:Bool)(e:(cL c [] g).isNone=b):bj 76 [c.av,g.av] (DA b):=by
 have a:=nX c k [] ⟨Bq _,λx h=>by simp at h⟩ g l j;generalize cL c [] g=Q at a e;subst e;unfold fdA at a;cases Q with
 | none=>
  refine c_ f76 λ_=>?_;have d:=aA.nil2 a;exact zW
 | some x=>
  refine c_ f76 λ_=>?_;have i:=aA.nil2 a;exact zW
def S8(c:Con)(b:c.sm)(g:Gan)(d:0<=g.pods/\g.pods<=16)(a:aS g.need=O):bj 76 [c.av,g.av] (DA (cL c [] g).isNone):=PH c b g d a _ rfl
def SJ(c:Con)(q:c.sm)(l:a7)(hs:Sm l)(g:Gan)(k:0<=g.pods/\g.pods<=16)(p:aS g.need=O)(b:ax)(n:Z b<=1048577)(R:Option Int):∀(m i:Nat),i+m=Z b->stF c l g (b.drop i)=R->
  DE E f132 (stA R) [(2,CA 14 (rav l) J0),(4,G2 0 0),(7,G2 1 0),(10,CA 1 (iv b) J0),(11,ii i)] [Do 30 c.cs,Do 45 g.cs]:=by
 have j:Z (iv b)=Z b:=by simp
 intro m;induction m with
 | zero=>
  intro i o a;rw[Ae o_]at a;have a:D=R:=a;subst a;exact tA
 | succ m e=>
  intro i o a;have d:i<Z b:=o_;rw[Ac d]at a;have get:=cK d;generalize b[i]=t at a get;unfold stF at a;have h:=aG3 l hs t;have f:=nX c q (atL l t) (aAo hs t) g k p;generalize atL l t=lt at h f a;generalize cL c lt g=Q at f a;have e:=e (i+1) o_;unfold fdA at f;cases Q with
  | none=>
   have a:stF c l g (b.drop (i+1))=R:=a;have next:=e a
   exact tA
  | some x=>
   have a:X t=R:=a;subst a;exact tA
def S7(c:Con)(h:c.sm)(now:Int)(l:a7)(hs:Sm l)(g:Gan)(i:0<=g.pods/\g.pods<=16)(e:aS g.need=O):bj 132 [c.av,ii now,CA 14 (rav l) J0,g.av] (stA (nR c now l g)):=by
 have a:=aEu l now;have h1:=hs.1;have b:=aGQ l hs now;rw[<-VL]at b;unfold nR;generalize BX l now=es at a b;have d:Z (iv es)=Z es:=by simp
 have next:=SJ c h l hs g i e (now::es) q_ _ (Z es+1) 0 s_ rfl
 exact c_ f132 λ_=>zW
def aMG(free:a8)(g:Gan)(c:0<=g.pods/\g.pods<=16)(a:ax):Z (inL free g a)<=16:=by
 have key:∀(l:ax) (out:ax),(Z out:Int)<=g.pods->(Z (l.foldl (inS free g) out):Int)<=g.pods:=λl=>by
  induction l with
  | nil=>intro out h;exact h
  | cons x r b=>intro out h;exact b _ (FQ free g out x h)
 have:=key a [] q_;unfold inL;omega
def aCb{c:Con}{free:a8}{g:Gan}(a:0<=g.pods/\g.pods<=16){x:Int×ax}:∀{b:List ax},fdG c free g b=X x->Z x.2<=16
 | [],h=>by cases h
 | gr::r,h=>by
  unfold fdG at h;split at h
  .exact aCb a h
  .cases h;exact aMG free g a gr
def aCa{c:Con}{free:a8}{g:Gan}(a:0<=g.pods/\g.pods<=16){x:Int×ax}:∀{n:Nat} {lv:Int},fdL c free g n lv=X x->Z x.2<=16
 | 0,lv,h=>by cases h
 | n+1,lv,h=>by
  unfold fdL at h;split at h
  .rename_i y b;cases h;exact aCb a b
  .exact aCa a h
def IY{c:Con}{l:a7}{g:Gan}(a:0<=g.pods/\g.pods<=16){x:Int×ax}(h:cL c l g=X x):Z x.2<=1048576:=by
 unfold cL at h;split at h
 .unfold yK at h;have:=aCa a h;omega
 .cases h
end Go.Proofs.YtenkdioaefckoaaGreatDoor
namespace Go.AW
open Go.RowKit
def Mem.beginRow{M:Imm}{ob:Hs}{ac:aw}{w:World}(hm:Mem M ob ac w){k i l:Nat}{T e:TypeId}{cs:az}(A:ac[k]? =X (.cells T cs))(P:cs[i]? =X (.slice l [] .nil)):
  Mem M (ob++[[.slice D 0 0]]) (ac.set k (.cells T (cs.set i (.row (Z ac) 0)))++[.row 0 l e []]) w/\
   Ext M ob ac w M (ob++[[.slice D 0 0]]) (ac.set k (.cells T (cs.set i (.row (Z ac) 0)))++[.row 0 l e []]) w/\dR ob (ob++[[.slice D 0 0]]):=by
 have g:dR ob (ob++[[.slice D 0 0]]):=λj hs K=>⟨hs,by grind[Ai,Ad],List.prefix_refl _⟩
 have G:k<Z ac:=(Ad.1 A).1;have d:(ob++[[.slice D 0 0]])[Z ac]? =X [.slice D 0 0]:=by rw[<-hm.len];simp
 have J:at' (ob++[[.slice D 0 0]]) (Z ac) 0=X (.slice D 0 0):=by rw[cN d];rfl
 have m:∀{j:Nat} {c:ab},(ac.set k (.cells T (cs.set i (.row (Z ac) 0)))++[.row 0 l e []])[j]? =X c->
   (j=Z ac/\c= .row 0 l e [])\/(j=k/\c= .cells T (cs.set i (.row (Z ac) 0)))\/(j≠k/\j<Z ac/\ac[j]? =X c):=λ{j c} K=>by
  grind
 have t:∀{j b:Nat},aM (ob++[[.slice D 0 0]]) (ac.set k (.cells T (cs.set i (.row (Z ac) 0)))++[.row 0 l e []]) j b->aM ob ac j b:=λ{j b} ⟨c,hs,F,s,e3,e4⟩=>by
  rcases m F with⟨rfl,rfl⟩|⟨rfl,rfl⟩|⟨h1,r,h3⟩
  .rw [d]at e3;cases e3;cases e4
  .rw [Ai (by rw[hm.len];exact G)]at e3;exact⟨_,hs,A,rfl,e3,e4⟩
  .rw [Ai (by rw[hm.len];exact r)]at e3;exact⟨c,hs,h3,s,e3,e4⟩
 have L:∀(j:Nat) c,(ac.set k (.cells T (cs.set i (.row (Z ac) 0)))++[.row 0 l e []])[j]? =X c->∃hs,(ob++[[.slice D 0 0]])[j]? =X hs/\iY M (ob++[[.slice D 0 0]]) w hs c:=λj c K=>by
  rcases m K with⟨rfl,rfl⟩|⟨rfl,rfl⟩|⟨h1,r,h3⟩
  .have Q:eT M w (.slice D 0 0) l e []:=by
    refine⟨[],Go.World.ownsRow_nil w 0 _ _,?_,?_,?_,?_,?_⟩
    .intro u V;simp at V
    .intro x S;simp at S
    .intro q c At;simp[aQ]at At
    .intro b Be;cases Be
    .intro b Be;cases Be
   exact⟨_,d,rfl,_,rfl,Q⟩
  .obtain ⟨hs,F,b,C,N,cv,z,y,H,o⟩:=hm.obj _ _ A;refine⟨hs,by grind[Ai],b,C,N,cv,z,by simpa using y,H,λn v a p f=>?_⟩;by_cases As:n=i
   .subst As;have B:n<Z cs:=(Ad.1 P).1;rw[Ba B]at f;cases f;have:=o n v _ p P;obtain⟨_,I⟩:=this.untok;have I:v= .slice D 0 0:=I;subst I;exact .row _ _ _ _ _ J
   .rw [Bg (Ne.symm As)]at f;exact(o n v a p f).mono (λ_ _ _ h=>h) g
  .obtain ⟨hs,F,s⟩:=hm.obj j c h3;refine⟨hs,by grind[Ai],?_⟩;cases c with
   | cells W cs'=>
    obtain⟨b,C,N,cv,z,y,H,o⟩:=s;exact⟨b,C,N,cv,z,y,H,λn v a p f=>(o n v a p f).mono (λ_ _ _ h=>h) g⟩
   | _=>exact s
 refine⟨⟨hm.imm,by simp[hm.len],L,λj b f=>hm.lt j b (t f),λj R b h1 r=>hm.inj j R b (t h1) (t r)⟩,⟨λ_ _ _ h=>h,λ_ _ _ h=>.inl h,g,rfl,rfl,rfl,Bc _,λ_ _ _=>rfl,λj b f=>.inl ⟨j,t f⟩⟩,g⟩
def To.beginRowH{E:Env}{fn:Func}{g:Goal}{st:bg}{fr:au}{ac:aw}(k i:Nat)(e:TypeId){T:TypeId}{cs:az}{j:Nat}(n:aE ac k= .cells T cs)(p:nth cs i=X (.slice j [] .nil))
  (h:To E fn g (.head st fr (mN (bU ac k (.cells T (R9 cs i (.row (aV ac) 0)))) (.row 0 j e [])))):To E fn g (.head st fr ac):=
 .mk λf M0 ob0 c w0 a w hst hs=>by refine h.rec λh=>h f M0 ob0 c w0 a w hst ?_;obtain⟨M,ob,s,hm,d,q,r,u⟩:=hs;have b:=bO n s_;obtain⟨m,o,l⟩:=hm.beginRow (e:=e) b (gZ p);rw[qS,OW,cC,aW b];exact⟨M,_,s.trans o,m,λt=>(d t).mono (λ_ _ _ h=>h) l,q,r.mono (λ_ _ _ h=>h) l,by simp;omega⟩
def To.beginRow{E:Env}{fn:Func}{g:Goal}{st:bg}{fr:au}{ac:aw}(k i:Nat)(e:TypeId){T:TypeId}{cs:az}{a:Nat}(c:aE ac k= .cells T cs)(b:nth cs i=X (.slice a [] .nil))
  (h:To E fn g (.code st fr (mN (bU ac k (.cells T (R9 cs i (.row (aV ac) 0)))) (.row 0 a e [])))):To E fn g (.code st fr ac):=
 To.toC (To.beginRowH k i e c b (To.ofC h))
end Go.AW
namespace Go.Proofs.YtenkdioaefckoaaGreatDoor
open Go.Proofs.Tryz
open Go Go.AW Go.Proofs
set_option maxRecDepth 10000
def PU(x:Int):bj 319 [ii x] (DA U):=by refine c_ f319 λ_=>gV ?_;exact congrArg (λb=>Res.ret (aa.bool b)) s_
def V7(a b:Int):Int:=if a<b then -1 else if b<a then 1 else 0
def aCz(a b r:Int)(c:V7 a b=r):bj 284 [ii a,ii b] (ii r):=by
 unfold V7 at c;by_cases h1:a<b
 .rw [bu h1]at c;exact zqra4
 .rw [bt h1]at c;by_cases e:b<a
  .rw [bu e]at c;exact zqra4
  .rw [bt e]at c;exact zqra4
def aJB(a b:Int):bj 284 [ii a,ii b] (ii (V7 a b)):=aCz a b _ rfl
def orI(p q:Int):Int:=if p=0 then q else p
def HT(p q r:Int)(b:orI p q=r):bj 287 [CA 1 [ii p,ii q] J0] (ii r):=by
 unfold orI at b;by_cases h1:p=0
 .subst h1;rw[bu rfl]at b;have hp:((0:Int) !=0)=false:=by decide
  by_cases c:q=0
  .subst c;subst b;have a:((0:Int) !=0)=false:=by decide
   refine c_ f287 λ_=>?_
   repeat' first
    | (refine gW hE ?_;conv=>whnf)
    | exact rfl
    | refine Aj 0 (Aa rfl ?_)
    | refine Aj 1 (Aa rfl ?_)
    | refine Aj _ (Aa rfl ?_)
    | refine aY ?_
    | refine aN ?_
    | refine Aa (λh=>?_) (λh=>bv h (by rw[hp];decide))
    | refine Aa (λh=>?_) (λh=>bv h (by rw[a];decide))
    | refine Aa (λh=>bv h (by rw[hp];decide)) (λh=>?_)
    | refine Aa (λh=>bv h (by rw[a];decide)) (λh=>?_)
    | refine aJ ?_
    | fail
  .subst b;have a:(q !=0)=true:=by simp[c]
   refine c_ f287 λ_=>?_
   repeat' first
    | (refine gW hE ?_;conv=>whnf)
    | exact rfl
    | refine Aj 0 (Aa rfl ?_)
    | refine Aj 1 (Aa rfl ?_)
    | refine Aj _ (Aa rfl ?_)
    | refine aY ?_
    | refine aN ?_
    | refine Aa (λh=>?_) (λh=>bv h (by rw[hp];decide))
    | refine Aa (λh=>?_) (λh=>bv h (by rw[a];decide))
    | refine Aa (λh=>bv h (by rw[hp];decide)) (λh=>?_)
    | refine Aa (λh=>bv h (by rw[a];decide)) (λh=>?_)
    | refine aJ ?_
    | fail
 .rw [bt h1]at b;subst b;have hp:(p !=0)=true:=by simp[h1]
  have a:((0:Int) !=0)=false:=by decide
  refine c_ f287 λ_=>?_
  repeat' first
   | (refine gW hE ?_;conv=>whnf)
   | exact rfl
   | refine Aj 0 (Aa rfl ?_)
   | refine Aj 1 (Aa rfl ?_)
   | refine Aj _ (Aa rfl ?_)
   | refine aY ?_
   | refine aN ?_
   | refine Aa (λh=>?_) (λh=>bv h (by rw[hp];decide))
   | refine Aa (λh=>?_) (λh=>bv h (by rw[a];decide))
   | refine Aa (λh=>bv h (by rw[hp];decide)) (λh=>?_)
   | refine Aa (λh=>bv h (by rw[a];decide)) (λh=>?_)
   | refine aJ ?_
   | fail
def dF(a b:Rn):Bool:=decide (orI (V7 b.st a.st) (V7 b.seq a.seq)<0)
theorem zC{a b:Rn}:dF a b=O↔b.st<a.st\/(b.st=a.st/\b.seq<a.seq):=by
 unfold dF orI V7;rw[decide_eq_true_iff];by_cases h1:b.st<a.st
 .simp [h1]
 .by_cases c:a.st<b.st
  .simp [h1,c];omega
  .have h3:b.st=a.st:=o_;by_cases d:b.seq<a.seq
   .simp [h1,c,h3,d]
   .by_cases e:a.seq<b.seq
    .simp [h1,c,h3,d,e]
    .simp [h1,c,h3,d,e]
def aMr(a b:Rn)(r:Bool)(c:dF a b=r):bj 327 [a.av,b.av] (DA r):=by have h1:=aJB b.st a.st;have d:=aJB b.seq a.seq;unfold dF at c;generalize V7 b.st a.st=p at h1 c;generalize V7 b.seq a.seq=q at d c;have h3:=HT p q _ rfl;generalize orI p q=o at h3 c;subst c;exact c_ f327 λ_=>zW
def Y3(a b:Rn):bj 327 [a.av,b.av] (DA (dF a b)):=aMr a b _ rfl
def FB(x:Rn)(h:Z x.hs<=1048576):bj 200 [x.av] x.av:=by refine c_ f200 λ_=>?_;have a:=DO x.hs h;exact zW
def rn0:Rn:=⟨⟨0,0,0,V3.zero,0,0,0⟩,0,0,0,0,[]⟩
def aH(xs:a7)(i:Nat):Rn:=(xs[i]?).getD rn0
def iI{xs:a7}{i:Nat}(h:i<Z xs):(rav xs)[i]? =X (aH xs i).av:=by unfold aH;rw[Ab h];exact cH h
def jR(xs:a7)(i k:Nat):a7:=(xs.set i (aH xs k)).set k (aH xs i)
def eJ(xs:a7)(i k:Nat):Z (jR xs i k)=Z xs:=by unfold jR;simp
def S4(xs:a7)(i k:Nat):rav (jR xs i k)=((rav xs).set i (aH xs k).av).set k (aH xs i).av:=by unfold jR;simp[rav,Gl]
def upH:Nat->a7->Nat->a7
 | 0,xs,_=>xs
 | f+1,xs,i=>if i=0 then xs else if dF (aH xs i) (aH xs ((i-1) / 2))=O then upH f (jR xs i ((i-1) / 2)) ((i-1) / 2)else xs
def jT(xs:a7)(x:Rn):a7:=upH (Z xs+1) (xs++[x]) (Z xs)
def aAJ:∀(f:Nat) (xs:a7) (i:Nat),Z (upH f xs i)=Z xs
 | 0,xs,i=>rfl
 | f+1,xs,i=>by
  unfold upH;split
  .rfl
  .split
   .rw [aAJ f,eJ]
   .rfl
def CU(xs:a7)(x:Rn):Z (jT xs x)=Z xs+1:=by unfold jT;rw[aAJ];simp
abbrev aMs:aa:=.func (.func 327) [] []
abbrev hpO(l:aa)(g:Nat)(xs:a7):aw:=[Do 381 [l,aMs],.row g 14 85 (rav xs)]
def aDM(N:Nat)(p:N<=1048577)(R:a7):∀(f i:Nat) (ys:a7),Z ys=N->i<N->i<f->upH f ys i=R->
  To (Er [] [6,14,15,56]) f328 (.full 2 (Io (GT [])) (hpO (.row 1 1) 1 R)) (BV f328 [(0,G2 0 0),(4,ii i)] (hpO (.row 1 1) 1 ys)):=by
 intro f;induction f with
 | zero=>intro i ys _ _ h;omega
 | succ f l=>
  intro i ys n q r d;have m:Z (rav ys)=Z ys:=by simp
  unfold upH at d;by_cases k:i=0
  .subst k;rw[bu rfl]at d;subst d;exact tA
  rw[bt k]at d;have e:(i-1) / 2<Z ys:=o_;have c:Int.tdiv ((i:Int)-1) 2=(((i-1) / 2:Nat):Int):=by rw[Iu o_];omega
  have j:=iI (xs:=ys) (i:=i) o_;have g:=iI e;have hl:=Y3 (aH ys i) (aH ys ((i-1) / 2));generalize o:(i-1) / 2=up at d c g hl e;by_cases h1:dF (aH ys i) (aH ys up)=O
  .rw [bu h1]at d;rw[h1]at hl;have next:=l up (jR ys i up) (by rw[eJ];exact n) o_ o_ d
   unfold hpO at next
   rw[S4]at next
   generalize aH ys i=a at j hl next
   generalize aH ys up=b at g hl next
   refine gV ?_;refine aT λh=>?_
   repeat' first
    | exact To.cut [0,4] 2 rfl rfl rfl rfl next
    | (refine gN (hEr [] [6,14,15,56]) ?_;conv=>whnf)
    | refine Aj i (Aa rfl ?_)
    | refine Aj up (Aa c ?_)
    | refine Aj _ (Aa j ?_)
    | refine Aj _ (Aa g ?_)
    | refine .p hl ?_
    | refine aY ?_
    | refine aN ?_
    | refine Aa o_ ?_
    | refine Aa (by rw[Dq];omega) ?_
    | refine aJ ?_
    | refine Aa d_ ?_
    | fail
   rw[c];exact To.cut [0,4] 2 rfl rfl rfl rfl next
  .have h1:dF (aH ys i) (aH ys up)=false:=by simpa using h1
   rw[bt (by rw[h1];decide)]at d;subst d;rw[h1]at hl;generalize aH ys i=a at j hl;generalize aH ys up=b at g hl;exact tA
def aLJ(xs:a7)(hl:Z xs<=1048576)(x:Rn):ar 328 [G2 0 0,x.av] (hpO (.row 1 0) 0 xs) (Io (GT [])) (hpO (.row 1 1) 1 (jT xs x)):=by
 have a:Z (rav xs)=Z xs:=by simp
 have next:=aDM (Z xs+1) o_ (jT xs x) (Z xs+1) (Z xs) (xs++[x]) s_ o_ o_ rfl
 have e:rav (xs++[x])=rav xs++[x.av]:=by simp
 unfold hpO at next
 rw[e]at next
 refine eA (Er [] [6,14,15,56]) f328 2 λ_=>?_
 repeat' first|refine pA ?_|refine⟨⟨by simp only[maxLen];simp;omega,by simp;omega⟩,?_⟩|refine Or.inl (Aa (Aa (by simp only[Ah,Al,Bj,bS];omega) (by simp only[Ah,Al,Bj,aX];omega)) ?_)|exact rfl|refine lA ?_ ?_|intro h
 refine To.cut [0,4] 2 rfl rfl rfl rfl ?_;have b:((Z (rav xs++[x.av]):Int)-1)=((Z xs:Nat):Int):=by simp
 rw[<-b]at next
 exact next
def fJ(xs:a7)(n i:Nat):Nat:=if 2*i+2<n then(if dF (aH xs (2*i+2)) (aH xs (2*i+1))=O then 2*i+2 else 2*i+1)else 2*i+1
def B1(xs:a7)(n i:Nat)(h:2*i+1<n):fJ xs n i<n/\i<fJ xs n i/\(fJ xs n i=2*i+1\/fJ xs n i=2*i+2):=by
 unfold fJ;split
 .split<;>omega
 .omega
def mP:Nat->a7->Nat->Nat->a7
 | 0,xs,_,_=>xs
 | f+1,xs,n,i=>if 2*i+1<n then(if dF (aH xs (fJ xs n i)) (aH xs i)=O then mP f (jR xs i (fJ xs n i)) n (fJ xs n i)else xs)else xs
def NU:∀(f:Nat) (xs:a7) (n i:Nat),Z (mP f xs n i)=Z xs
 | 0,xs,n,i=>rfl
 | f+1,xs,n,i=>by
  unfold mP;split
  .split
   .rw [NU f,eJ]
   .rfl
  .rfl
def tZ(xs:a7)(n:Nat):a7:=mP n (xs.set 0 (aH xs (n-1))) (n-1) 0
def qZ(xs:a7)(n:Nat):Z (tZ xs n)=Z xs:=by unfold tZ;rw[NU];simp
def IW{xs:a7}{i:Nat}(h:i<Z xs):(rav xs)[0+i]? =X (aH xs i).av:=by rw[Bv];exact iI h
def aDH(xs:a7)(i k:Nat):rav (jR xs i k)=((rav xs).set (0+i) (aH xs k).av).set (0+k) (aH xs i).av:=by rw[Bv,Bv];exact S4 xs i k
abbrev z14:az:=[ii 0,ii 0,ii 0,ii 0,ii 0,ii 0,ii 0,ii 0,ii 0,ii 0,ii 0,ii 0,ii 0,CA 1 [] .nil]
abbrev ppO(n:Nat)(ys:a7)(x:az):aw:=hpO (.sub 1 0 0 n 14) 0 ys++[Do 85 z14,Do 85 x]
abbrev ppF(n i:Int):au:=[(0,G2 0 0),(2,G2 2 0),(3,G2 3 0),(4,ii n),(5,ii i)]
def aP3(n N:Nat)(q:n<=N)(p:N<=1048577)(R:a7)(x:Rn)(i:Nat)(ys:a7)(s:Z ys=N)(u:2*i+1<n)(h3:2*i+2<n)(a b c:Rn)(l:(rav ys)[0+i]? =X a.av)(j:(rav ys)[0+(2*i+1)]? =X b.av)(k:(rav ys)[0+(2*i+2)]? =X c.av)
  (e:bj 327 [c.av,b.av] (DA O)) (r:Bool) (d:bj 327 [c.av,a.av] (DA r)) (g:r=U->ys=R)
  (next:r=O->To (Er [] [105]) f329 (.full 2 (Io x.av) (hpO (.sub 1 0 0 n 14) 0 R)) (BV f329 (ppF n ((2*i+2:Nat):Int)) [Do 381 [.sub 1 0 0 n 14,aMs],.row 0 14 85 (((rav ys).set (0+i) c.av).set (0+(2*i+2)) a.av),Do 85 z14,Do 85 x.cs])):
  To (Er [] [105]) f329 (.full 2 (Io x.av) (hpO (.sub 1 0 0 n 14) 0 R)) (BV f329 (ppF n i) (ppO n ys x.cs)):=by
 have m:Z (rav ys)=Z ys:=by simp
 have o:2*(i:Int)+1+1=((2*i+2:Nat):Int):=o_;cases r with
 | false=>
  have g:=g rfl;subst g;refine gV ?_
  repeat' first
   | (refine gN (hEr [] [105]) ?_;conv=>whnf)
   | refine Aj (2*i+2) (Aa o_ ?_)
   | refine Aj (2*i+1) (Aa o_ ?_)
   | refine Aj i (Aa rfl ?_)
   | refine Aj _ (Aa k ?_)
   | refine Aj _ (Aa j ?_)
   | refine Aj _ (Aa l ?_)
   | refine .p e ?_
   | refine .p d ?_
   | refine aY ?_
   | refine aN ?_
   | refine aT λh=>?_
   | refine aF λh=>?_
   | refine Aa o_ ?_
   | refine Aa (by rw[Dq];omega) ?_
   | refine Aa (Aa (by simp only[bS];omega) (by simp only[aX];omega)) ?_
   | refine aJ ?_
   | refine Aa d_ ?_
   | refine⟨[],[0,1],⟨rfl,rfl⟩,⟨rfl,rfl⟩⟩
   | fail
 | true=>
  have next:=next rfl
  rw[<-o]at next
  refine gV ?_
  repeat' first
   | (refine gN (hEr [] [105]) ?_;conv=>whnf)
   | refine Aj (2*i+2) (Aa o_ ?_)
   | refine Aj (2*i+1) (Aa o_ ?_)
   | refine Aj i (Aa rfl ?_)
   | refine Aj _ (Aa k ?_)
   | refine Aj _ (Aa j ?_)
   | refine Aj _ (Aa l ?_)
   | refine .p e ?_
   | refine .p d ?_
   | refine aY ?_
   | refine aN ?_
   | refine aT λh=>?_
   | refine aF λh=>?_
   | refine Aa o_ ?_
   | refine Aa (by rw[Dq];omega) ?_
   | refine Aa (Aa (by simp only[bS];omega) (by simp only[aX];omega)) ?_
   | refine aJ ?_
   | refine Aa d_ ?_
   | refine⟨[],[0,1],⟨rfl,rfl⟩,⟨rfl,rfl⟩⟩
   | fail
  exact zqra6
def aP4(n N:Nat)(q:n<=N)(p:N<=1048577)(R:a7)(x:Rn)(i:Nat)(ys:a7)(s:Z ys=N)(u:2*i+1<n)(h3:2*i+2<n)(a b c:Rn)(l:(rav ys)[0+i]? =X a.av)(j:(rav ys)[0+(2*i+1)]? =X b.av)(k:(rav ys)[0+(2*i+2)]? =X c.av)
  (e:bj 327 [c.av,b.av] (DA U)) (r:Bool) (d:bj 327 [b.av,a.av] (DA r)) (g:r=U->ys=R)
  (next:r=O->To (Er [] [105]) f329 (.full 2 (Io x.av) (hpO (.sub 1 0 0 n 14) 0 R)) (BV f329 (ppF n ((2*i+1:Nat):Int)) [Do 381 [.sub 1 0 0 n 14,aMs],.row 0 14 85 (((rav ys).set (0+i) b.av).set (0+(2*i+1)) a.av),Do 85 z14,Do 85 x.cs])):
  To (Er [] [105]) f329 (.full 2 (Io x.av) (hpO (.sub 1 0 0 n 14) 0 R)) (BV f329 (ppF n i) (ppO n ys x.cs)):=by
 have m:Z (rav ys)=Z ys:=by simp
 have o:2*(i:Int)+1=((2*i+1:Nat):Int):=o_;cases r with
 | false=>
  have g:=g rfl;subst g;refine gV ?_
  repeat' first
   | (refine gN (hEr [] [105]) ?_;conv=>whnf)
   | refine Aj (2*i+2) (Aa o_ ?_)
   | refine Aj (2*i+1) (Aa o_ ?_)
   | refine Aj i (Aa rfl ?_)
   | refine Aj _ (Aa k ?_)
   | refine Aj _ (Aa j ?_)
   | refine Aj _ (Aa l ?_)
   | refine .p e ?_
   | refine .p d ?_
   | refine aY ?_
   | refine aN ?_
   | refine aT λh=>?_
   | refine aF λh=>?_
   | refine Aa o_ ?_
   | refine Aa (by rw[Dq];omega) ?_
   | refine Aa (Aa (by simp only[bS];omega) (by simp only[aX];omega)) ?_
   | refine aJ ?_
   | refine Aa d_ ?_
   | refine⟨[],[0,1],⟨rfl,rfl⟩,⟨rfl,rfl⟩⟩
   | fail
 | true=>
  have next:=next rfl
  rw[<-o]at next
  refine gV ?_
  repeat' first
   | (refine gN (hEr [] [105]) ?_;conv=>whnf)
   | refine Aj (2*i+2) (Aa o_ ?_)
   | refine Aj (2*i+1) (Aa o_ ?_)
   | refine Aj i (Aa rfl ?_)
   | refine Aj _ (Aa k ?_)
   | refine Aj _ (Aa j ?_)
   | refine Aj _ (Aa l ?_)
   | refine .p e ?_
   | refine .p d ?_
   | refine aY ?_
   | refine aN ?_
   | refine aT λh=>?_
   | refine aF λh=>?_
   | refine Aa o_ ?_
   | refine Aa (by rw[Dq];omega) ?_
   | refine Aa (Aa (by simp only[bS];omega) (by simp only[aX];omega)) ?_
   | refine aJ ?_
   | refine Aa d_ ?_
   | refine⟨[],[0,1],⟨rfl,rfl⟩,⟨rfl,rfl⟩⟩
   | fail
  exact zqra6
def aP5(n N:Nat)(p:n<=N)(o:N<=1048577)(R:a7)(x:Rn)(i:Nat)(ys:a7)(q:Z ys=N)(s:2*i+1<n)(h3:¬ 2*i+2<n)(a b:Rn)(k:(rav ys)[0+i]? =X a.av)(g:(rav ys)[0+(2*i+1)]? =X b.av)
 (r:Bool) (c:bj 327 [b.av,a.av] (DA r)) (e:r=U->ys=R)
  (next:r=O->To (Er [] [105]) f329 (.full 2 (Io x.av) (hpO (.sub 1 0 0 n 14) 0 R)) (BV f329 (ppF n ((2*i+1:Nat):Int)) [Do 381 [.sub 1 0 0 n 14,aMs],.row 0 14 85 (((rav ys).set (0+i) b.av).set (0+(2*i+1)) a.av),Do 85 z14,Do 85 x.cs])):
  To (Er [] [105]) f329 (.full 2 (Io x.av) (hpO (.sub 1 0 0 n 14) 0 R)) (BV f329 (ppF n i) (ppO n ys x.cs)):=by
  have l:Z (rav ys)=Z ys:=by simp
  have d:=PU 0;have j:True:=trivial;have m:2*(i:Int)+1=((2*i+1:Nat):Int):=o_;cases r with
  | false=>
   have e:=e rfl;subst e;refine gV ?_
   repeat' first
    | (refine gN (hEr [] [105]) ?_;conv=>whnf)
    | refine Aj (2*i+2) (Aa o_ ?_)
    | refine Aj (2*i+1) (Aa o_ ?_)
    | refine Aj i (Aa rfl ?_)
    | refine Aj _ (Aa j ?_)
    | refine Aj _ (Aa g ?_)
    | refine Aj _ (Aa k ?_)
    | refine .p d ?_
    | refine .p c ?_
    | refine aY ?_
    | refine aN ?_
    | refine aT λh=>?_
    | refine aF λh=>?_
    | refine Aa o_ ?_
    | refine Aa (by rw[Dq];omega) ?_
    | refine Aa (Aa (by simp only[bS];omega) (by simp only[aX];omega)) ?_
    | refine aJ ?_
    | refine Aa d_ ?_
    | refine⟨[],[0,1],⟨rfl,rfl⟩,⟨rfl,rfl⟩⟩
    | fail
  | true=>
   have next:=next rfl
   rw[<-m]at next
   refine gV ?_
   repeat' first
    | (refine gN (hEr [] [105]) ?_;conv=>whnf)
    | refine Aj (2*i+2) (Aa o_ ?_)
    | refine Aj (2*i+1) (Aa o_ ?_)
    | refine Aj i (Aa rfl ?_)
    | refine Aj _ (Aa j ?_)
    | refine Aj _ (Aa g ?_)
    | refine Aj _ (Aa k ?_)
    | refine .p d ?_
    | refine .p c ?_
    | refine aY ?_
    | refine aN ?_
    | refine aT λh=>?_
    | refine aF λh=>?_
    | refine Aa o_ ?_
    | refine Aa (by rw[Dq];omega) ?_
    | refine Aa (Aa (by simp only[bS];omega) (by simp only[aX];omega)) ?_
    | refine aJ ?_
    | refine Aa d_ ?_
    | refine⟨[],[0,1],⟨rfl,rfl⟩,⟨rfl,rfl⟩⟩
    | fail
   exact zqra6
def TP(n N:Nat)(p:n<=N)(o:N<=1048577)(R:a7)(x:Rn):∀(f i:Nat) (ys:a7),Z ys=N->i<N->n<f+i+1->mP f ys n i=R->
  To (Er [] [105]) f329 (.full 2 (Io x.av) (hpO (.sub 1 0 0 n 14) 0 R)) (BV f329 (ppF n i) (ppO n ys x.cs)):=by
 intro f;induction f with
 | zero=>
  intro i ys l w z b;have b:ys=R:=b;subst b;have q:Z (rav ys)=Z ys:=by simp
  exact tA
 | succ f j=>
  intro i ys l w z b;have q:Z (rav ys)=Z ys:=by simp
  unfold mP at b;by_cases e:2*i+1<n
  .rw [bu e]at b;have y:=B1 ys n i e;have t:=IW (xs:=ys) (i:=i) o_;have m:=IW (xs:=ys) (i:=2*i+1) o_;have a:=Y3 (aH ys (fJ ys n i)) (aH ys i);have u:=aDH ys i (fJ ys n i);have j:=j (fJ ys n i) (jR ys i (fJ ys n i)) (by rw[eJ];exact l) o_ o_;unfold ppO hpO at j;rw[u]at j;have d:∀r,dF (aH ys (fJ ys n i)) (aH ys i)=r->(r=U->ys=R)/\(r=O->mP f (jR ys i (fJ ys n i)) n (fJ ys n i)=R):=λr s=>by
    subst s;refine⟨λh=>?_,λh=>?_⟩
    .rw [bt (by rw[h];decide)]at b;exact b
    .rw [bu h]at b;exact b
   have d:=d _ rfl;generalize dF (aH ys (fJ ys n i)) (aH ys i)=r at a d;have next:=λs=>j (d.2 s)
   by_cases h3:2*i+2<n
   .have v:=IW (xs:=ys) (i:=2*i+2) o_;have c:=Y3 (aH ys (2*i+2)) (aH ys (2*i+1));by_cases g:dF (aH ys (2*i+2)) (aH ys (2*i+1))=O
    .have k:fJ ys n i=2*i+2:=by unfold fJ;rw[bu h3,bu g]
     rw[g]at c;rw[k]at next a
     exact aP3 n N p o R x i ys l e h3 _ _ _ t m v c r a d.1 next
    .have g:dF (aH ys (2*i+2)) (aH ys (2*i+1))=false:=by simpa using g
     have k:fJ ys n i=2*i+1:=by unfold fJ;rw[bu h3,bt (by rw[g];decide)]
     rw[g]at c;rw[k]at next a
     exact aP4 n N p o R x i ys l e h3 _ _ _ t m v c r a d.1 next
   .have k:fJ ys n i=2*i+1:=by unfold fJ;rw[bt h3]
    rw[k]at next a
    exact aP5 n N p o R x i ys l e h3 _ _ t m r a d.1 next
  .rw [bt e]at b;subst b;exact tA
inductive HV(ys:a7):aa->Nat->Prop
 | row:HV ys (.row 1 0) (Z ys)
 | sub (n:Nat) (h:n<=Z ys):HV ys (.sub 1 0 0 n 14) n
def aP1(ys:a7)(hl:Z ys<=1048577)(o:aa)(n:Nat)(q:HV ys o n)(p:0<n):ar 329 [G2 0 0] (hpO o 0 ys) (Io (aH ys 0).av) (hpO (.sub 1 0 0 (n-1) 14) 0 (tZ ys n)):=by
 have m:Z (rav ys)=Z ys:=by simp
 cases q with
 | row=>
  have l:=iI (xs:=ys) (i:=0) o_;have d:=iI (xs:=ys) (i:=Z ys-1) o_;have c:((Z ys:Nat):Int)-1=((Z ys-1:Nat):Int):=o_
  obtain⟨n,j⟩:∃n,n=Z ys:=⟨_,rfl⟩
  rw[<-j]at d c p⊢;have k:(Z (rav ys):Int)-1=((n-1:Nat):Int):=by rw[m,<-j];exact c
  have next:=TP (n-1) (Z ys) o_ o_ (tZ ys n) (aH ys 0) n 0 (ys.set 0 (aH ys (n-1))) s_ o_ o_ rfl
  have e:rav (ys.set 0 (aH ys (n-1)))=(rav ys).set 0 (aH ys (n-1)).av:=by simp[rav,Gl]
  unfold ppO hpO at next
  rw[e]at next
  generalize aH ys 0=a at l next
  generalize aH ys (n-1)=b at d next
  refine eA (Er [] [105]) f329 2 λ_=>?_
  repeat' first|refine pA ?_|refine⟨0,rfl,?_⟩|refine⟨_,l,?_⟩|refine Aj (n-1) (Aa k ?_)|refine⟨_,d,?_⟩|refine Aa (by rw[Dq];omega) ?_|exact rfl|refine lA ?_ ?_|intro h
  rw[k];exact zqra6
 | sub _ h=>
  have l:=IW (xs:=ys) (i:=0) o_;have d:=IW (xs:=ys) (i:=n-1) o_;have c:((n:Nat):Int)-1=((n-1:Nat):Int):=o_;have next:=TP (n-1) (Z ys) o_ o_ (tZ ys n) (aH ys 0) n 0 (ys.set 0 (aH ys (n-1))) s_ o_ o_ rfl
  have e:rav (ys.set 0 (aH ys (n-1)))=(rav ys).set (0+0) (aH ys (n-1)).av:=by simp[rav,Gl]
  unfold ppO hpO at next
  rw[e]at next
  generalize aH ys 0=a at l next
  generalize aH ys (n-1)=b at d next
  refine eA (Er [] [105]) f329 2 λ_=>?_
  repeat' first|refine pA ?_|refine⟨0,rfl,?_⟩|refine⟨_,l,?_⟩|refine Aj (n-1) (Aa c ?_)|refine⟨_,d,?_⟩|refine Aa (by rw[Dq];omega) ?_|exact rfl|refine lA ?_ ?_|intro h
  rw[c];exact zqra6
def iM:Nat->a7->a7
 | 0,_=>[]
 | n+1,ys=>aH ys 0::iM n (tZ ys (n+1))
def eX(l:a7):a7:=iM (Z l) (l.foldl jT [])
theorem sN:∀(l ys:a7),Z (l.foldl jT ys)=Z ys+Z l
 | [],ys=>rfl
 | x::r,ys=>by rw[Ap,sN r,CU];simp;omega
def HV.inv{ys:a7}{a:aa}{n:Nat}(h:HV ys a n):(a= .row 1 0/\n=Z ys)\/(a= .sub 1 0 0 n 14/\n<=Z ys):=by
 cases h with
 | row=>exact .inl ⟨rfl,rfl⟩
 | sub _ h=>exact .inr ⟨rfl,h⟩
def YT(R:a7):∀(n:Nat) (ys:a7) (b:aa) (out:a7),HV ys b n->Z ys<=1048577->Z out+n<=1048576->out++iM n ys=R->
  To (Eo [6] []) f292 (.pure (Io (CA 14 (rav R) J0))) (G0 (stk f292 1) [(3,G2 0 0),(6,CA 14 (rav out) (.own 2 0))] (hpO b 0 ys++[Fr 0 14 85])):=by
 intro n;induction n with
 | zero=>
  intro ys b out c f k a;have a:out++[]=R:=a;rw[Ao]at a;subst a;have d:Z (rav ys)=Z ys:=by simp
  exact zqra8
 | succ n i=>
  intro ys b out c f k a;have d:Z (rav ys)=Z ys:=by simp
  have hp:=aP1 ys f b (n+1) c o_;have a:out++aH ys 0::iM n (tZ ys (n+1))=R:=a;have g:n<=Z (tZ ys (n+1)):=by rw[qZ];rcases c.inv with⟨_,h⟩|⟨_,h⟩<;>omega
  have next:=i (tZ ys (n+1)) (.sub 1 0 0 n 14) (out++[aH ys 0]) (.sub n g) (by rw[qZ];exact f) q_ (by rw[Ag];exact a)
  have e:rav (out++[aH ys 0])=rav out++[(aH ys 0).av]:=by simp
  rw[e]at next
  have j:Z (rav out)=Z out:=by simp
  generalize aH ys 0=x at hp next
  have l:n+1-1=n:=o_;rw[l]at hp;generalize tZ ys (n+1)=ys' at hp next
  exact zqra8
def YS(l:a7)(hs:Sm l)(R:a7):∀(m i:Nat) (ys:a7),i+m=Z l->Z ys=i->iM (Z l) ((l.drop i).foldl jT ys)=R->
  DE (Eo [6] []) f292 (CA 14 (rav R) J0) [(3,G2 0 0),(9,CA 14 (rav l) J0),(10,GE Is (Z (rav l):Nat)),(11,ii i)] (hpO (.row 1 0) 0 ys):=by
 have e:Z (rav l)=Z l:=by simp
 have hl:=hs.1;intro m;induction m with
 | zero=>
  intro i ys h g a;rw[Ae o_]at a;have a:iM (Z l) ys=R:=a;have next:=YT R (Z l) ys (.row 1 0) [] (by rw[show Z l=Z ys from by omega];exact .row) o_ q_ a
  exact tA
 | succ m f=>
  intro i ys h g a;have b:i<Z l:=o_;have d:=hs.at b;rw[Ac b,Ap]at a;generalize j:l[i]=x at a d;have get:(rav l)[i]? =X x.av:=(cH b).trans (by rw[j]);have next:=f (i+1) (jT ys x) o_ (by rw[CU];omega) a
  have hp:=aLJ ys o_ x;generalize jT ys x=ys' at hp next
  refine gV ?_;have c:=FB x d;exact zW
def aHx(l:a7)(hs:Sm l):bj 292 [CA 14 (rav l) J0] (CA 14 (rav (eX l)) J0):=by refine gA (Eo [6] []) f292 λ_=>gV ?_;refine To.beginRowH 0 0 85 rfl rfl ?_;have a:=YS l hs _ (Z l) 0 [] o_ rfl rfl;exact zW
def oL(p:Int->Bool):ax->Nat->Int
 | [],_=> -1
 | x::r,i=>if p x=O then(i:Int)else oL p r (i+1)
def NG(p:Int->Bool):∀(l:ax) (i:Nat),decide (0<=oL p l i)=l.any p
 | [],i=>by simp[oL]
 | x::r,i=>by
  unfold oL;rw[Hx];cases h:p x with
  | true=>simp
  | false=>simp[NG p r (i+1)]
def inB(v:Int)(l:ax):Bool:=l.any λx=>v==x
def aEc(l:ax)(hl:Z l<=1048576)(v r:Int):∀(m i:Nat),i+m=Z l->oL (λx=>v==x) (l.drop i) i=r->
  DE E f264 (ii r) [(0,CA 1 (iv l) J0),(1,ii v),(7,GE Is (Z (iv l):Nat)),(8,ii i)] []:=by
 have d:Z (iv l)=Z l:=by simp
 intro m;induction m with
 | zero=>
  intro i f a;rw[Ae o_]at a;have a: -1=r:=a;subst a;exact tA
 | succ m c=>
  intro i f a;have b:i<Z l:=o_;rw[Ac b]at a;have get:=cK b;generalize l[i]=x at a get;unfold oL at a;have c:=c (i+1) o_;cases e:(v==x)with
  | true=>
   rw[bu e]at a;subst a;exact tA
  | false=>
   rw[bt (by rw[e];decide)]at a;have next:=c a
   exact tA
def aMJ(l:ax)(hl:Z l<=1048576)(v:Int):bj 264 [CA 1 (iv l) J0,ii v] (ii (oL (λx=>v==x) l 0)):=by refine c_ f264 λ_=>gV ?_;exact To.cut [0,1,7,8] 0 rfl rfl rfl rfl (aEc l hl v _ (Z l) 0 o_ rfl)
def B4(l:ax)(hl:Z l<=1048576)(v:Int):bj 199 [CA 1 (iv l) J0,ii v] (DA (inB v l)):=by have h:=aMJ l hl v;have e:=NG (λx=>v==x) l 0;unfold inB;rw[<-e];generalize oL (λx=>v==x) l 0=q at h;exact c_ f199 λ_=>zW
def aB(l:a7)(ids:ax):a7:=l.filter λx=>!(inB x.g.id ids)
def lX{x:Rn}{r:a7}{ids:ax}(h:inB x.g.id ids=U):aB (x::r) ids=x::aB r ids:=List.filter_cons_of_pos (by rw[h];rfl)
def lY{x:Rn}{r:a7}{ids:ax}(h:inB x.g.id ids=O):aB (x::r) ids=aB r ids:=List.filter_cons_of_neg (by rw[h];decide)
def jC{l:a7}(hs:Sm l)(ids:ax):Sm (aB l ids):=
 ⟨Nat.le_trans (Dy _ _) hs.1,λx a=>hs.2 x (Fp.1 a).1⟩
def aKk(l:a7)(hs:Sm l)(ids:ax)(p:Z ids<=1048576)(R:a7):∀(m i:Nat) (a:a7),i+m=Z l->Z a<=i->a++aB (l.drop i) ids=R->
  DE (Eo [5] []) f140 (CA 14 (rav R) J0) [(1,CA 1 (iv ids) J0),(5,CA 14 (rav a) (.own 0 0)),(8,CA 14 (rav l) J0),(9,GE Is (Z (rav l):Nat)),(10,ii i)] [Fr 0 14 85]:=by
 have j:Z (rav l)=Z l:=by simp
 have hl:=hs.1;intro m;induction m with
 | zero=>
  intro i a q o b;exact zqra5
 | succ m f=>
  intro i a q o b;have c:i<Z l:=o_;have h:=hs.at c;rw[Ac c]at b;generalize r:l[i]=x at b h;have get:(rav l)[i]? =X x.av:=(cH c).trans (by rw[r]);have s:Z (rav a)=Z a:=by simp
  have n:=B4 ids p x.g.id;cases d:inB x.g.id ids with
  | true=>
   rw[d]at n;exact zqra18
  | false=>
   rw[d]at n;rw[lX d]at b;have next:=f (i+1) (a++[x]) o_ q_ (by rw[Ag];exact b)
   have e:rav (a++[x])=rav a++[x.av]:=by simp
   rw[e]at next
   refine gV ?_;have k:=FB x h;exact zW
def sD(l:a7)(hs:Sm l)(ids:ax)(b:Z ids<=1048576):bj 140 [CA 14 (rav l) J0,CA 1 (iv ids) J0] (CA 14 (rav (aB l ids)) J0):=by refine gA (Eo [5] []) f140 λ_=>?_;have a:=aKk l hs ids b _ (Z l) 0 [] o_ s_ rfl;exact zW
def xG{ns:bf}{t:Int}(h:bD ns t=O):0<=t/\t.toNat<Z ns:=by exact zqra3
def AH{c:Con}{t:Int}(h:0<=t/\t.toNat<Z c.ns):(nav c.ns)[t.toNat]? =X (cO c.ns t).av:=by unfold cO;rw[Ab h.2];exact fL h.2
def lM(c:Con)(a:a8)(t:Int)(need:V3):Bool:=if bD c.ns t=O then cD (eU (atV a t) need) (cO c.ns t).n else U
def bV(c:Con)(a:a8)(t:Int):Bool:=if bD c.ns t=O then !cD (atV a t) (cO c.ns t).n else U
def W4(c:Con)(a:a8)(t:Int)(need:V3)(r:Bool)(b:lM c a t need=r):bj 290 [c.av,CA 3 (vav a) J0,ii t,need.av] (DA r):=by
 have d:=lR c t;unfold lM at b;cases h:bD c.ns t with
 | false=>
  rw[h]at d;rw[bt (by rw[h];decide)]at b;subst b;exact c_ f290 λ_=>zW
 | true=>
  rw[h]at d;rw[bu h]at b;have i:=xG h;have k:t=(t.toNat:Int):=o_;have e:=AH (c:=c) i;generalize cO c.ns t=x at e b;have h1:=J3 a t;generalize atV a t=q1 at h1 b;have j:=jQ q1 need;generalize eU q1 need=q2 at j b;have h3:=nO q2 x.n;rw[b]at h3;exact c_ f290 λ_=>zW
def aCS(c:Con)(a:a8)(t:Int)(need:V3):bj 290 [c.av,CA 3 (vav a) J0,ii t,need.av] (DA (lM c a t need)):=W4 c a t need _ rfl
def WP(c:Con)(a:a8)(t:Int)(r:Bool)(b:bV c a t=r):bj 294 [c.av,CA 3 (vav a) J0,ii t] (DA r):=by
 have d:=lR c t;unfold bV at b;cases h:bD c.ns t with
 | false=>
  rw[h]at d;rw[bt (by rw[h];decide)]at b;subst b;exact c_ f294 λ_=>zW
 | true=>
  rw[h]at d;rw[bu h]at b;have i:=xG h;have j:t=(t.toNat:Int):=o_;have e:=AH (c:=c) i;generalize cO c.ns t=x at e b;have h1:=J3 a t;generalize atV a t=q1 at h1 b;have h3:=AG q1 x.n;rw[b]at h3;exact c_ f294 λ_=>zW
def aAn(c:Con)(a:a8)(t:Int):bj 294 [c.av,CA 3 (vav a) J0,ii t] (DA (bV c a t)):=WP c a t _ rfl
def pG(c:Con)(l:a7)(g:Gan)(ids:ax):Bool:=(cL c (aB l ids) g).isSome
abbrev chO(c:Con)(l:a7)(g:Gan):aw:=[Do 30 c.cs,Do 32 [CA 14 (rav l) J0],Do 45 g.cs]
def aCG(c:Con)(h:c.sm)(l:a7)(hs:Sm l)(g:Gan)(i:0<=g.pods/\g.pods<=16)(ids:ax)(e:Z ids<=1048576)(r:Bool)(a:pG c l g ids=r):
  ar 291 [CA 1 (iv ids) J0,G2 0 0,G2 1 0,G2 2 0] (chO c l g) (Io (DA r)) (chO c l g):=by
 have d:=sD l hs ids e;have b:=BU c h (aB l ids) (jC hs ids) g i;unfold pG at a;generalize aB l ids=left at d b a;generalize cL c left g=Q at b a;subst a;unfold fdA at b;cases Q with
 | none=>
  exact zqra15
 | some x=>
  exact zqra15
abbrev aEU(c:Con)(used:a8):aw:=[Do 30 c.cs,Do 206 [CA 3 (vav used) J0]]
def aRw(c:Con)(a:a8)(x:Rn):ar 293 [x.av,G2 0 0,G2 1 0] (aEU c a) (Io (DA (bV c a x.g.ten))) (aEU c a):=by have b:=aAn c a x.g.ten;generalize bV c a x.g.ten=r at b;refine eA E f293 2 λ_=>?_;exact zW
def aJJ(x a:Int):ar 296 [ii x,G2 0 0] [Do 3 [ii a]] (Io (DA (x==a))) [Do 3 [ii a]]:=by refine eA E f296 1 λ_=>?_;exact zW
def aO(p:Rn->Bool):a7->Nat->Int
 | [],_=> -1
 | x::r,i=>if p x=O then(i:Int)else aO p r (i+1)
abbrev aTr:aa:=.func (.func 293) [] [G2 0 0,G2 1 0]
def aEa(c:Con)(a:a8)(l:a7)(hl:Z l<=1048576)(r:Int):∀(m i:Nat),i+m=Z l->aO (λx=>bV c a x.g.ten) (l.drop i) i=r->
  To E f211 (.full 2 (Io (ii r)) (aEU c a)) (BV f211 [(0,CA 14 (rav l) J0),(1,aTr),(7,GE Is (Z (rav l):Nat)),(8,ii i)] (aEU c a)):=by
 have h:Z (rav l)=Z l:=by simp
 intro m;induction m with
 | zero=>
  intro i k b;rw[Ae o_]at b;have b: -1=r:=b;subst b;exact tA
 | succ m f=>
  intro i k b;have d:i<Z l:=o_;rw[Ac d]at b;have get:(rav l)[i]? =X l[i].av:=cH d;generalize l[i]=x at b get;unfold aO at b;have j:=aRw c a x;have f:=f (i+1) o_;cases e:bV c a x.g.ten with
  | true=>
   rw[bu e]at b;rw[e]at j;subst b;exact tA
  | false=>
   rw[bt (by rw[e];decide)]at b;rw[e]at j;have next:=f b
   exact tA
def aMH(c:Con)(a:a8)(l:a7)(hl:Z l<=1048576):ar 211 [CA 14 (rav l) J0,aTr] (aEU c a) (Io (ii (aO (λx=>bV c a x.g.ten) l 0))) (aEU c a):=by refine eA E f211 2 λ_=>gV ?_;exact To.cut [0,1,7,8] 2 rfl rfl rfl rfl (aEa c a l hl _ (Z l) 0 o_ rfl)
def NX(l:ax)(h:Z l<=1048576):ar 265 [CA 1 (iv l) J0] [] (Io (.row 0 0)) [.row 0 1 3 (iv l)]:=by
 have a:Z (iv l)=Z l:=by simp
 refine eA (Er [2,5] []) f265 0 λ_=>gV ?_;intro b c;refine gV ?_;refine⟨λh=>?_,λh=>?_⟩
 .refine gV ?_;refine⟨[],[1],⟨rfl,rfl⟩,?_⟩;conv=>whnf
  rw[c (by simpa using h)];exact⟨rfl,rfl⟩
 .refine gV ?_;refine⟨⟨by simp only[maxLen];simp;omega,by simp;omega⟩,?_⟩;refine gV ?_;refine⟨[],[1],⟨rfl,rfl⟩,?_⟩;exact⟨rfl,rfl⟩
abbrev aJK:aa:=.func (.func 296) [] [G2 1 0]
abbrev dlO(l:ax)(a:Int):aw:=[.row 0 1 3 (iv l),Do 3 [ii a]]
def aEd(l:ax)(hl:Z l<=1048576)(a r:Int):∀(m i:Nat),i+m=Z l->oL (λx=>x==a) (l.drop i) i=r->
  To E f330 (.full 2 (Io (ii r)) (dlO l a)) (BV f330 [(0,.row 0 0),(1,aJK),(7,GE Is (Z (iv l):Nat)),(8,ii i)] (dlO l a)):=by
 have f:Z (iv l)=Z l:=by simp
 intro m;induction m with
 | zero=>
  intro i h b;rw[Ae o_]at b;have b: -1=r:=b;subst b;exact tA
 | succ m e=>
  intro i h b;have c:i<Z l:=o_;rw[Ac c]at b;have get:=cK c;generalize l[i]=x at b get;unfold oL at b;have g:=aJJ x a;have e:=e (i+1) o_;cases d:(x==a)with
  | true=>
   rw[bu d]at b;rw[d]at g;subst b;exact tA
  | false=>
   rw[bt (by rw[d];decide)]at b;rw[d]at g;have next:=e b
   exact tA
def aBW(l:ax)(hl:Z l<=1048576)(a:Int):ar 330 [.row 0 0,aJK] (dlO l a) (Io (ii (oL (λx=>x==a) l 0))) (dlO l a):=by refine eA E f330 2 λ_=>gV ?_;exact To.cut [0,1,7,8] 2 rfl rfl rfl rfl (aEd l hl a _ (Z l) 0 o_ rfl)
def dK(l:ax)(a:Int):ax:=l.filter λx=>!(x==a)
def VF(p:Int->Bool):∀(l:ax) (i:Nat),l.any p=U->oL p l i= -1
 | [],i,_=>rfl
 | x::r,i,h=>by rw[Hx,Bool.or_eq_false_iff]at h;unfold oL;rw[bt (by rw[h.1];decide)];exact VF p r (i+1) h.2
def NF(p:Int->Bool):∀(l:ax) (i:Nat),l.any p=O->∃k,k<Z l/\oL p l i=((i+k:Nat):Int)/\(∀x∈l.take k,p x=U)/\∃x,l[k]? =X x/\p x=O
 | [],i,h=>by simp at h
 | x::r,i,h=>by
  unfold oL;cases a:p x with
  | true=>exact⟨0,by simp,by rw[bu rfl];simp,by simp,x,rfl,a⟩
  | false=>
   rw[Hx,a,Ko]at h;obtain⟨k,h1,d,h3,y,c,b⟩:=NF p r (i+1) h;refine⟨k+1,by simp;omega,?_,λz hz=>?_,y,by simpa using c,b⟩
   .rw [bt d_,d];congr 1;omega
   .simp only[List.take_succ_cons,Az]at hz;rcases hz with rfl|hz
    .exact a
    .exact h3 z hz
def aRn(l:ax)(hl:Z l<=1048576)(a:Int)(h:(l.any λx=>x==a)=U):ar 295 [.row 0 0,aJK] (dlO l a) (Io (.row 0 0)) (dlO l a):=by have b:=aBW l hl a;rw[VF _ l 0 h]at b;exact zqra16
abbrev aTe(z:az)(a:Int):aw:=[.row 0 1 3 z,Do 3 [ii a]]
def aQy(l:ax)(i:Nat)(x:Int):(iv l).set i (ii x)=iv (l.set i x):=by simp[iv,Gl]
def aJr(l:ax)(hl:Z l<=1048576)(a:Int)(R:ax):∀(m j i:Nat) (z:ax),j+m=Z l->i<j->Z z=Z l->z.drop j=l.drop j->z.take i++dK (l.drop j) a=R->
  To E f295 (.full 2 (Io (.sub 0 0 0 (Z R) 1)) (aTe (iv R++Ak (Z l-Z R) (ii 0)) a)) (BV f295 [(0,.row 0 0),(1,aJK),(5,ii i),(6,ii j)] (dlO z a)):=by
 intro m;induction m with
 | zero=>
  intro j i z y w hz n b;have f:Z (iv z)=Z z:=by simp
  rw[Ae o_]at b;have b:z.take i++[]=R:=b;rw[Ao]at b;have k:Z R=i:=by rw[<-b];simp;omega
  have e:(iv z).take i=iv R:=by rw[<-b];simp
  rw[k];refine gV ?_;refine aF λh=>?_
  repeat' first|refine pA ?_|refine⟨i,rfl,?_⟩|exact rfl|refine lA ?_ ?_|intro h
  refine Aa q_ (gV ?_);refine⟨[],[0,1],⟨rfl,rfl⟩,?_⟩;conv=>whnf
  refine⟨rfl,?_⟩;have v:Gd (i+(Z (iv z)-i)) (iv z)=[]:=Ae o_;have s:Fs i (iv z)++Ak (Z (iv z)-i) (ii 0)++Gd (i+(Z (iv z)-i)) (iv z)=iv R++Ak (Z l-i) (ii 0):=by rw[e,v,Ao,f,hz]
  exact congrArg (λl=>[ab.row 0 1 3 l,Do 3 [ii a]]) s
 | succ m o=>
  intro j i z y w hz n b;have f:Z (iv z)=Z z:=by simp
  have d:j<Z l:=o_;rw[Ac d]at b;have g:z[j]? =X l[j]:=by have:=congrArg (λq=>q[0]?) n;simpa[List.getElem?_drop,Ab d]using this
  have get:(iv z)[j]? =X (ii l[j]):=by simp[g]
  have c:z.drop (j+1)=l.drop (j+1):=by have:=congrArg (Gd 1) n;rwa [Hh,Hh]at this
  generalize l[j]=x at b get g;have p:=aJJ x a;unfold dK at b;rw[Hf]at b;cases r:(x==a)with
  | true=>
   rw[r]at p b;have next:=o (j+1) i z o_ o_ hz c b
   exact tA
  | false=>
   rw[r]at p b
   have next:=o (j+1) (i+1) (z.set i x) o_ o_ (by simp;exact hz) (by rw[List.drop_set_of_lt o_];exact c) (by
    have u:(z.set i x).take (i+1)=z.take i++[x]:=by rw[List.take_add_one,Ba o_,List.take_set_of_le (Bc _)];rfl
    rw[u,Ag]
    exact b)
   unfold dlO at next
   rw[<-aQy]at next
   exact tA
def aNM(l:ax)(hl:Z l<=1048576)(a:Int)(h:(l.any λx=>x==a)=O):ar 295 [.row 0 0,aJK] (dlO l a) (Io (.sub 0 0 0 (Z (dK l a)) 1)) (aTe (iv (dK l a)++Ak (Z l-Z (dK l a)) (ii 0)) a):=by
 have b:=aBW l hl a;obtain⟨k,h1,m,h3,x,c,d⟩:=NF (λx=>x==a) l 0 h;rw[m]at b;rw[Bv]at b;have i:((k:Int)== -1)=false:=by simp
 have next:=aJr l hl a (dK l a) (Z l-(k+1)) (k+1) k l o_ o_ rfl rfl (by
  conv=>rhs;rw[<-Bn k l]
  have o:x=a:=by simpa using d
  have e:l.drop k=x::l.drop (k+1):=by rw[Ac h1];rw[Ab h1]at c;cases c;rfl
  unfold dK;rw[List.filter_append,e,Hf,d];have n:(l.take k).filter (λx=>!(x==a))=l.take k:=Gx.2 λy j=>by rw[h3 y j];rfl
  rw[n]
  rfl)
 exact zqra16
def vV{xs:a7}{i:Nat}(h:i<Z xs):aH xs i∈xs:=by unfold aH;rw[Ab h];exact Aq h
def LM{xs:a7}{i k:Nat}(a:i<Z xs)(b:k<Z xs){y:Rn}(h:y∈jR xs i k):y∈xs:=by
 unfold jR at h;rcases Dn h with h|rfl
 .rcases Dn h with h|rfl
  .exact h
  .exact vV b
 .exact vV a
def aAI{y:Rn}:∀(f:Nat) (xs:a7) (i:Nat),i<Z xs->y∈upH f xs i->y∈xs
 | 0,xs,i,_,h=>h
 | f+1,xs,i,hi,h=>by
  unfold upH at h;split at h
  .exact h
  .split at h
   .exact LM hi o_ (aAI f _ _ (by rw[eJ];omega) h)
   .exact h
def aDN{xs:a7}{x y:Rn}(h:y∈jT xs x):y∈xs\/y=x:=by have:=aAI _ _ _ s_ h;simpa using this
def HM{y:Rn}:∀(l xs:a7),y∈l.foldl jT xs->y∈xs\/y∈l
 | [],xs,h=>.inl h
 | x::r,xs,h=>by
  rcases HM r _ h with h|h
  .rcases aDN h with h|rfl
   .exact .inl h
   .exact .inr s_
  .exact .inr (by simp[h])
def NT{y:Rn}:∀(f:Nat) (xs:a7) (n i:Nat),n<=Z xs->i<Z xs->y∈mP f xs n i->y∈xs
 | 0,xs,n,i,_,_,h=>h
 | f+1,xs,n,i,hn,hi,h=>by
  unfold mP at h;split at h
  .rename_i a;have b:=B1 xs n i a;split at h
   .exact LM hi o_ (NT f _ n _ (by rw[eJ];exact hn) (by rw[eJ];omega) h)
   .exact h
  .exact h
def aHh{xs:a7}{n:Nat}(a:0<n)(b:n<=Z xs){y:Rn}(h:y∈tZ xs n):y∈xs:=by
 unfold tZ at h;have:=NT n (xs.set 0 (aH xs (n-1))) (n-1) 0 q_ q_ h;rcases Dn this with h|rfl
 .exact h
 .exact vV o_
def HO{y:Rn}:∀(n:Nat) (xs:a7),n<=Z xs->y∈iM n xs->y∈xs
 | 0,xs,_,h=>by cases h
 | n+1,xs,hn,h=>by
  unfold iM at h;rcases Az.1 h with rfl|h
  .exact vV o_
  .exact aHh o_ hn (HO n _ (by rw[qZ];omega) h)
def MD{l:a7}{y:Rn}(h:y∈eX l):y∈l:=by
 unfold eX at h;have:=HO _ _ (by rw[sN];simp) h;rcases HM l [] this with h|h
 .cases h
 .exact h
def HP:∀(n:Nat) (xs:a7),Z (iM n xs)=n
 | 0,xs=>rfl
 | n+1,xs=>by unfold iM;rw[Al,HP n]
def yZ(l:a7):Z (eX l)=Z l:=HP _ _
def aHv{l:a7}(h:Sm l):Sm (eX l):=⟨by rw[yZ];exact h.1,λx a=>h.2 x (MD a)⟩
def I3(p:Rn->Bool):∀(l:a7) (i:Nat),aO p l i= -1\/∃k,k<Z l/\aO p l i=((i+k:Nat):Int)/\p (aH l k)=O
 | [],i=>.inl rfl
 | x::r,i=>by
  unfold aO;cases a:p x with
  | true=>exact .inr ⟨0,by simp,by rw[bu rfl];simp,a⟩
  | false=>
   rw[bt d_];rcases I3 p r (i+1)with h|⟨k,h1,b,h3⟩
   .exact .inl h
   .refine .inr ⟨k+1,by simp;omega,by rw[b];congr 1;omega,?_⟩;unfold aH at h3⊢;simpa using h3
def atI(c:Con)(l:a7)(ids:ax):Int:=aO (λx=>bV c (ofL c (aB l ids)) x.g.ten) (eX (aB l ids)) 0
def EC(c:Con)(l:a7)(ids:ax):Option Int:=if atI c l ids<0 then D else X (aH (eX (aB l ids)) (atI c l ids).toNat).g.id
def chA(c:Con)(l:a7)(g:Gan):Nat->ax->Option ax
 | 0,_=>D
 | f+1,ids=>if pG c l g ids=O then X ids else match EC c l ids with
  | none=>D
  | some n=>chA c l g f (ids++[n])
def chS(c:Con)(l:a7)(g:Gan)(ids:ax)(a:Int):ax:=if pG c l g (dK ids a)=O then dK ids a else ids
def fG(c:Con)(l:a7)(g:Gan):Option ax:=if lM c (ofL c l) g.ten (dem g)=O then(match chA c l g (Z l+1) []with
 | none=>D
 | some ids=>X (ids.foldl (chS c l g) ids))else D
def chR:Option ax->aa
 | some ids=>.tup [.slice 1 (iv ids) .no,.bool O]
 | none=>.tup [.slice 1 [] .no,.bool U]
def C1{c:Con}{l:a7}{ids:ax}{n:Int}(h:EC c l ids=X n):∃x∈aB l ids,x.g.id=n/\bV c (ofL c (aB l ids)) x.g.ten=true:=by
 unfold EC at h;split at h
 .cases h
 .rename_i b;cases h;rcases I3 (λx=>bV c (ofL c (aB l ids)) x.g.ten) (eX (aB l ids)) 0 with h1|⟨k,h1,a,h3⟩
  .exact bv (show atI c l ids<0 from by unfold atI;rw[h1];decide) b
  .refine ⟨_,MD (vV ?_),rfl,?_⟩
   .unfold atI;rw[a];simpa using h1
   .unfold atI;rw[a];simpa using h3
def OA(l:a7)(ids:ax)(n:Int):aB l (ids++[n])=(aB l ids).filter λx=>!(x.g.id==n):=by unfold aB;rw[List.filter_filter];refine List.filter_congr λx _=>?_;unfold inB;rw[List.any_append];simp only[Hx,List.any_nil,Bool.or_false];cases (ids.any λy=>x.g.id==y)<;>cases (x.g.id==n)<;>rfl
def AD{l:a7}{ids:ax}{n:Int}(h:∃x∈aB l ids,x.g.id=n):Z (aB l (ids++[n]))<Z (aB l ids):=by obtain⟨x,a,b⟩:=h;rw[OA];generalize aB l ids=q at a;refine Nat.lt_of_le_of_ne (Dy _ _) λe=>?_;have:=List.length_filter_eq_length_iff.1 e x a;simp[b]at this
def MJ(l:ax)(a:Int):Z (dK l a)<=Z l:=Dy _ _
abbrev aTs:aa:=.func (.func 291) [] [G2 0 0,G2 1 0,G2 2 0]
abbrev cbF(ids all:ax)(i:Int):au:=[(8,aTs),(9,CA 1 (iv ids) J0),(54,CA 1 (iv all) J0),(55,GE Is (Z (iv all):Nat)),(56,ii i)]
def aRx(c:Con)(l:a7)(g:Gan)(a:Int)(z:az):ak [4] (chO c l g++[Do 3 [ii a],.row 0 1 3 z])=chO c l g++[Do 3 [ii a],.frow 0 1 z]:=by kernel_rfl
def aN3(c:Con)(l:a7)(g:Gan)(a:Int)(z:az)(n:Nat)(ids all:ax)(i:Int):zJ [15] (aE (chO c l g++[Do 3 [ii a],.frow 0 1 z])) ((15,.sub 4 0 0 n 1)::cbF ids all i)=(15,CA 1 ((z.drop 0).take n) J0)::cbF ids all i:=by kernel_rfl
def aN4(c:Con)(l:a7)(g:Gan)(a:Int)(z:az)(ids all:ax)(i:Int):zJ [15] (aE (chO c l g++[Do 3 [ii a],.frow 0 1 z])) ((15,.row 4 0)::cbF ids all i)=(15,CA 1 z J0)::cbF ids all i:=by kernel_rfl
def aCH{G:Goal}{ks:bg}(c:Con)(l:a7)(g:Gan)(a:Int)(z:az)(fr:au){b:au}(d:zJ [15] (aE (chO c l g++[Do 3 [ii a],.frow 0 1 z])) fr=b)
  (h:To (Eo [9] []) f233 G (.code ks b (chO c l g++[Do 3 [ii a],.frow 0 1 z]))):To (Eo [9] []) f233 G (.code ks fr (chO c l g++[Do 3 [ii a],.row 0 1 3 z])):=by
 refine To.frz [15] [4] ?_;rw[aRx,d];exact h
def aJF(c:Con)(u:c.sm)(l:a7)(hs:Sm l)(g:Gan)(r:0<=g.pods/\g.pods<=16)(all:ax)(v:Z all<=1048576)(R:ax):∀(m i:Nat) (ids:ax),i+m=Z all->Z ids<=1048576->(all.drop i).foldl (chS c l g) ids=R->
  To (Eo [9] []) f233 (.pure (Io (GT [CA 1 (iv R) J0,DA O]))) (G0 (stk f233 1) (cbF ids all i) (chO c l g)):=by
 have p:Z (iv all)=Z all:=by simp
 intro m;induction m with
 | zero=>
  intro i ids s f b;rw[Ae o_]at b;have b:ids=R:=b;subst b;exact tA
 | succ m k=>
  intro i ids s f b;have n:i<Z all:=o_;rw[Ac n,Ap]at b;have get:=cK n;generalize all[i]=a at b get;have k:=k (i+1);have t:=MJ ids a;have h1:=aCG c u l hs g r (dK ids a) o_ _ rfl;have o:chS c l g ids a=if pG c l g (dK ids a)=O then dK ids a else ids:=rfl
  rw[o]at b;cases hp:(ids.any λx=>x==a)with
  | true=>
   have e:=aNM ids f a hp;generalize hz:iv (dK ids a)++Ak (Z ids-Z (dK ids a)) (ii 0)=z at e;have j:(z.drop 0).take (Z (dK ids a))=iv (dK ids a):=by rw[<-hz,List.drop_zero,Ek s_,Bl s_]
   refine gV ?_;refine aT λh=>?_
   repeat' first|refine pA ?_|refine⟨i,rfl,?_⟩|refine⟨_,get,?_⟩|refine .pure _ [_] (NX ids f) ?_|exact rfl|refine lA ?_ ?_|intro h
   refine .eff [] [4,3] _ _ rfl e ?_;refine bR (hEo [9] []) 5 ?_;conv=>whnf
   refine To.cutC [15,8,9,54,55,56] 5 rfl rfl rfl rfl ?_;refine aCH c l g a _ _ (aN3 c l g a z _ ids all i) ?_;rw[j];cases d:pG c l g (dK ids a)with
   | true=>
    exact zqra17
   | false=>
    exact zqra12
  | false=>
   have e:=aRn ids f a hp;have j:iv ids=iv (dK ids a):=by
    have:dK ids a=ids:=Gx.2 λy q=>by have:=(List.any_eq_false.1 hp) y q;simpa using this
    rw[this]
   refine gV ?_;refine aT λh=>?_
   repeat' first|refine pA ?_|refine⟨i,rfl,?_⟩|refine⟨_,get,?_⟩|refine .pure _ [_] (NX ids f) ?_|exact rfl|refine lA ?_ ?_|intro h
   refine .eff [] [4,3] _ _ rfl e ?_;refine bR (hEo [9] []) 5 ?_;conv=>whnf
   refine To.cutC [15,8,9,54,55,56] 5 rfl rfl rfl rfl ?_;refine aCH c l g a _ _ (aN4 c l g a (iv ids) ids all i) ?_;rw[j];cases d:pG c l g (dK ids a)with
   | true=>
    exact zqra17
   | false=>
    exact zqra12
def chB(c:Con)(l:a7)(g:Gan):Option ax->Option ax
 | none=>D
 | some ids=>X (ids.foldl (chS c l g) ids)
abbrev caF(ids:ax):au:=[(3,G2 0 0),(4,G2 1 0),(5,G2 2 0),(8,aTs),(9,CA 1 (iv ids) (.own 3 0))]
def aJG(c:Con)(F:c.sm)(l:a7)(hs:Sm l)(g:Gan)(G:0<=g.pods/\g.pods<=16)(R:Option ax):∀(f:Nat) (ids:ax),Z (aB l ids)<f->Z ids+Z (aB l ids)<=Z l->chB c l g (chA c l g f ids)=R->
  DE (Eo [9] []) f233 (chR R) (caF ids) (chO c l g++[Fr 0 1 3]):=by
 have hl:=hs.1;intro f;induction f with
 | zero=>intro ids h;omega
 | succ f H=>
  intro ids M J i;have I:Z (iv ids)=Z ids:=by simp
  have h1:=aCG c F l hs g G ids o_ _ rfl;have u:=sD l hs ids o_;have hsl:=jC hs ids;have m:=TZ c F (aB l ids) hsl.1;have j:=aHx (aB l ids) hsl;have a:=aMH c (ofL c (aB l ids)) (eX (aB l ids)) (aHv hsl).1;have C:aO (λx=>bV c (ofL c (aB l ids)) x.g.ten) (eX (aB l ids)) 0=atI c l ids:=rfl;rw[C]at a;unfold chA at i;cases v:pG c l g ids with
  | true=>
   rw[bu v]at i;rw[v]at h1;have i:X (ids.foldl (chS c l g) ids)=R:=i;subst i;have K:=DO ids o_;have next:=aJF c F l hs g G ids o_ _ (Z ids) 0 ids o_ o_ rfl
   exact tA
  | false=>
   rw[bt (by rw[v];decide)]at i;rw[v]at h1;have b:EC c l ids=if atI c l ids<0 then D else X (aH (eX (aB l ids)) (atI c l ids).toNat).g.id:=rfl
   have p:=λn=>C1 (c:=c) (l:=l) (ids:=ids) (n:=n);by_cases d:atI c l ids<0
   .rw [bu d]at b;rw[b]at i;have i:D=R:=i;subst i;generalize atI c l ids=q at a d;generalize ofL c (aB l ids)=us at m a;generalize eX (aB l ids)=o at j a;generalize aB l ids=left at u m j;refine gV ?_
    repeat' first|refine pA ?_|refine .eff [] [0,1,2] _ _ rfl h1 ?_|refine .p u ?_|refine .p m ?_|refine .p j ?_|refine .eff [] [0,4] _ _ rfl a ?_|exact rfl|refine lA ?_ ?_|intro h
   .rw [bt d]at b;obtain⟨k,s,w⟩:∃k:Nat,k<Z (eX (aB l ids))/\atI c l ids=(k:Int):=by
     rcases I3 (λx=>bV c (ofL c (aB l ids)) x.g.ten) (eX (aB l ids)) 0 with h|⟨k,h1,L,_⟩
     .exact bv (show atI c l ids<0 from by unfold atI;rw[h];decide) d
     .exact ⟨k,h1,by unfold atI;rw[L];simp⟩
    rw[w]at b a;rw[Bo]at b;have get:=iI s;have Be:=p _ b;obtain⟨y,B,A,_⟩:=Be;have z:=AD ⟨y,B,A⟩;rw[b]at i;generalize aH (eX (aB l ids)) k=x at get i z;have next:=H (ids++[x.g.id]) o_ q_ i
    have e:iv (ids++[x.g.id])=iv ids++[ii x.g.id]:=by simp
    unfold caF at next
    rw[e]at next
    have r:=yZ (aB l ids);generalize ofL c (aB l ids)=us at m a;generalize eX (aB l ids)=o at j a get s r;generalize aB l ids=left at u m j J r;refine gV ?_
    repeat' first|refine pA ?_|refine .eff [] [0,1,2] _ _ rfl h1 ?_|refine .p u ?_|refine .p m ?_|refine .p j ?_|refine .eff [] [0,4] _ _ rfl a ?_|refine⟨k,rfl,?_⟩|refine⟨_,get,?_⟩|refine⟨⟨by simp only[maxLen];simp;omega,by simp;omega⟩,?_⟩|exact rfl|refine lA ?_ ?_|intro h
    exact zW
def fE(l:a7):aB l []=l:=Gx.2 λx _=>rfl
def aAi(c:Con)(e:c.sm)(l:a7)(hs:Sm l)(g:Gan)(i:0<=g.pods/\g.pods<=16)(R:Option ax)(a:fG c l g=R):bj 233 [c.av,CA 14 (rav l) J0,g.av] (chR R):=by
 have h:=TZ c e l hs.1;have j:=Z5 g;have d:=aCS c (ofL c l) g.ten (dem g);unfold fG at a;cases b:lM c (ofL c l) g.ten (dem g)with
 | false=>
  rw[bt (by rw[b];decide)]at a;rw[b]at d;subst a;exact zqra13
 | true=>
  rw[bu b]at a;rw[b]at d;have next:=aJG c e l hs g i R (Z l+1) [] (by rw[fE];omega) (by rw[fE];simp) (by rw[<-a];unfold chB;split<;>rfl)
  exact zqra13
def aEP(c:Con)(a:c.sm)(l:a7)(hs:Sm l)(g:Gan)(b:0<=g.pods/\g.pods<=16):bj 233 [c.av,CA 14 (rav l) J0,g.av] (chR (fG c l g)):=aAi c a l hs g b _ rfl
def V3.le(a b:V3):Prop:=a.a<=b.a/\a.b<=b.b/\a.c<=b.c
def V3.farB(a:V3):Prop:=(0<=a.a/\a.a<=1099511627776)/\(0<=a.b/\a.b<=1099511627776)/\(0<=a.c/\a.c<=1099511627776)
def xV{a b d:Int}(h:a<=b):kQ a d<=kQ b d:=by unfold kQ gL;omega
def F1{a d:Int}(c:0<=a)(h1:a<=1099511627776)(b:0<=d):a<=kQ a d:=by unfold kQ gL;omega
def RD{a d:Int}(b:0<=a)(c:0<=d):0<=kQ a d/\kQ a d<=1099511627776:=by unfold kQ gL;omega
def aCZ{a b:V3}(d:V3)(h:a.le b):(eU a d).le (eU b d):=⟨xV h.1,xV h.2.1,xV h.2.2⟩
def V3.pos(d:V3):Prop:=0<=d.a/\0<=d.b/\0<=d.c
def aKn{a d:V3}(h:a.farB)(b:d.pos):a.le (eU a d):=⟨F1 h.1.1 h.1.2 b.1,F1 h.2.1.1 h.2.1.2 b.2.1,F1 h.2.2.1 h.2.2.2 b.2.2⟩
def aFf{a d:V3}(h:a.farB)(b:d.pos):(eU a d).farB:=⟨RD h.1.1 b.1,RD h.2.1.1 b.2.1,RD h.2.2.1 b.2.2⟩
def V3.le.trans{a b c:V3}(h:a.le b)(k:b.le c):a.le c:=⟨Fw h.1 k.1,Fw h.2.1 k.2.1,Fw h.2.2 k.2.2⟩
def AI{a b:V3}:cD a b=O↔a.le b:=by
 obtain⟨d,g,e⟩:=a;obtain⟨f,c,h⟩:=b;unfold cD V3.le
 grind
def sE(c:Con)(j:Nat)(v:V3)(x:Rn):V3:=if bD c.ns x.g.ten=O/\(j:Int)∈upL c.ns x.g.ten then eU v (dem x.g)else v
def N5(v:V3)(j:Nat):∀(ks:ax) (xs:a8),ks.Nodup->(∀k∈ks,0<=k)->(ks.foldl (yC v) xs)[j]? =if(j:Int)∈ks then(xs[j]?).map λx=>eU x v else xs[j]?
 | [],xs,_,_=>by simp
 | k::r,xs,a,h0=>by
  have a:=Ci.1 a;have c:=h0 k s_;rw[Ap,N5 v j r _ a.2 λx b=>h0 x (by simp[b]),J9]
  grind
def aGv(c:Con)(xs:a8)(x:Rn)(j:Nat):(E1 c xs x)[j]? =(xs[j]?).map λv=>sE c j v x:=by
 unfold E1 sE;cases d:bD c.ns x.g.ten with
 | false=>rw[bt d_];simp
 | true=>
  rw[bu rfl];have a:(bT c.ns x.g.ten).Nodup:=by unfold bT;exact List.pairwise_reverse.2 ((OH c.ns _ _).imp λh=>by omega)
  have hm:(j:Int)∈bT c.ns x.g.ten↔(j:Int)∈upL c.ns x.g.ten:=Iz;rw[N5 _ _ _ _ a λk b=>(OI _ _ _ _ (Iz.1 b)).1]
  grind
def aHD(c:Con)(j:Nat):∀(l:a7) (xs:a8),(l.foldl (E1 c) xs)[j]? =(xs[j]?).map λv=>l.foldl (sE c j) v
 | [],xs=>by simp
 | x::r,xs=>by rw[Ap,aHD c j r,aGv,Option.map_map];rfl
def EB{c:Con}{t:Int}(h:0<=t/\t.toNat<Z c.ns)(l:a7):atV (ofL c l) t=l.foldl (sE c t.toNat) V3.zero:=by unfold atV;rw[bt (by rw[bp o_];decide),<-aOB];unfold aGw;rw[aHD,Ia,bu h.2];rfl
def AL{c:Con}{j:Nat}(p:Rn->Bool):∀(l:a7) (a b:V3),(∀x∈l,(dem x.g).pos)->a.le b->b.farB->((l.filter p).foldl (sE c j) a).le (l.foldl (sE c j) b)/\(l.foldl (sE c j) b).farB
 | [],a,b,_,h,hf=>⟨h,hf⟩
 | x::r,a,b,hd,h,hf=>by
  have f:=hd x s_;have e:(sE c j b x).farB:=by unfold sE;split;exact aFf hf f;exact hf
  rw[Ap,Hf];cases p x with
  | true=>
   rw[bu rfl,Ap];refine AL p r _ _ (λy d=>hd y (by simp[d])) ?_ e;unfold sE;split
   .exact aCZ _ h
   .exact h
  | false=>
   rw[bt d_];refine AL p r _ _ (λy d=>hd y (by simp[d])) ?_ e;unfold sE;split
   .exact h.trans (aKn hf f)
   .exact h
def RG:V3.zero.farB:=by unfold V3.farB V3.zero;decide
def ID(a:V3):a.le a:=⟨Em _,Em _,Em _⟩
def aNL{g:Gan}(a:aS g.need=O)(k:0<=g.pods/\g.pods<=16):(dem g).pos:=by
 unfold aS at a;simp only[Af,bo]at a;obtain⟨⟨⟨b,i⟩,c,f⟩,d,h⟩:=a;have key:∀x,0<=x->0<=KQ x g.pods:=λx j=>by have e:0<=gL x 1099511627776*gL g.pods 1048576:=Js (by unfold gL;omega) (by unfold gL;omega);unfold KQ;generalize gL x 1099511627776*gL g.pods 1048576=q at e;unfold gL;omega
 exact⟨key _ b,key _ c,key _ d⟩
def Was(c:Con)(l:a7)(n:Int):Prop:=∃(ids:ax) (x:Rn),x∈l/\x.g.id=n/\bV c (ofL c (aB l ids)) x.g.ten=O
theorem FR{v:Int}{l:ax}:inB v l=O↔v∈l:=by unfold inB;simp
theorem pK{l:a7}{ids:ax}{x:Rn}:x∈aB l ids↔x∈l/\x.g.id∉ids:=by unfold aB;rw[Fp];refine and_congr Iff.rfl ?_;rw[<-FR];cases inB x.g.id ids<;>simp
def WJ{c:Con}{l:a7}{g:Gan}{R:ax}:∀(f:Nat) (ids:ax),ids.Nodup->(∀n∈ids,Was c l n)->chA c l g f ids=X R->R.Nodup/\(∀n∈R,Was c l n)/\pG c l g R=O
 | 0,ids,_,_,h=>by cases h
 | f+1,ids,hn,hw,h=>by
  unfold chA at h;split at h
  .rename_i k;cases h;exact⟨hn,hw,k⟩
  .split at h
   .cases h
   .rename_i n m;obtain⟨x,h1,j,h3⟩:=C1 m;have hm:=pK.1 h1;refine WJ f _ ?_ ?_ h
    .rw [Cr];refine⟨hn,by simp,λa d b i e=>?_⟩;simp at i;subst i e;rw[j]at hm;exact hm.2 d
    .intro a d;rcases Cc.1 d with d|d
     .exact hw a d
     .simp at d;subst d;exact⟨ids,x,hm.1,j,h3⟩
def aN0{c:Con}{l:a7}{g:Gan}(ids:ax)(a:Int)(h:pG c l g ids=O):pG c l g (chS c l g ids a)=O/\(chS c l g ids a).Sublist ids:=by
 have e:chS c l g ids a=if pG c l g (dK ids a)=O then dK ids a else ids:=rfl
 rw[e];cases b:pG c l g (dK ids a)with
 | true=>rw[bu rfl];exact⟨b,Jb⟩
 | false=>rw[bt d_];exact⟨h,List.Sublist.refl _⟩
theorem aJI{c:Con}{l:a7}{g:Gan}(bs:ax):∀(ids:ax),pG c l g ids=O->pG c l g (bs.foldl (chS c l g) ids)=O/\(bs.foldl (chS c l g) ids).Sublist ids:=by
 induction bs with
 | nil=>intro ids h;exact⟨h,List.Sublist.refl _⟩
 | cons a r b=>
  intro ids h;have h1:=aN0 ids a h;rw[Ap];generalize chS c l g ids a=q at h1;obtain⟨d,h3⟩:=b q h1.1;exact⟨d,h3.trans h1.2⟩
def EK{c:Con}{l:a7}{g:Gan}{R:ax}(h:fG c l g=X R):lM c (ofL c l) g.ten (dem g)=O/\R.Nodup/\(∀n∈R,Was c l n)/\pG c l g R=true:=by
 unfold fG at h;split at h
 .rename_i b;split at h
  .cases h
  .rename_i ids a;cases h;obtain⟨h1,d,h3⟩:=WJ _ [] s_ s_ a
   grind[aJI]
 .cases h
def tX(l:a7):Prop:=l.Pairwise λa b=>a.g.id≠b.g.id/\a.seq≠b.seq
def DZ{a:Int}:∀{q:a7},q.Pairwise (λx y=>x.g.id≠y.g.id)->(∃x∈q,x.g.id=a)->Z (q.filter λy=>!(y.g.id==a))+1=Z q
 | [],_,h=>by obtain⟨x,b,_⟩:=h;cases b
 | y::r,hp,h=>by
  have hp:=Bt.1 hp;rw[Hf];by_cases d:y.g.id=a
  .have e:(r.filter λy=>!(y.g.id==a))=r:=Gx.2 λz hz=>by grind
   rw[bt (by simp[d]),e];simp
  .obtain ⟨x,b,c⟩:=h;have b:x∈r:=by grind
   have:=DZ hp.2 ⟨x,b,c⟩
   grind
def OB(l:a7)(a:Int)(r:ax):aB l (a::r)=(aB l r).filter λx=>!(x.g.id==a):=by
 unfold aB;rw[List.filter_filter];refine List.filter_congr λx _=>?_;unfold inB
 grind
def DX{l:a7}(c:tX l):∀{ids:ax},ids.Nodup->(∀n∈ids,∃x∈l,x.g.id=n)->Z (aB l ids)+Z ids=Z l
 | [],_,_=>by rw[fE];simp
 | a::r,b,hm=>by have b:=Ci.1 b;have f:=DX c b.2 λn h=>hm n (by simp[h]);obtain⟨x,e,d⟩:=hm a s_;have hp:(aB l r).Pairwise λx y=>x.g.id≠y.g.id:=(c.sublist Jb).imp λh=>h.1;have:=DZ (a:=a) hp ⟨x,pK.2 ⟨e,by rw[d];exact b.1⟩,d⟩;rw[OB];simp only[Al];omega
theorem aLT{l:a7}(a:tX l){x y:Rn}(c:x∈l)(b:y∈l)(h:x.g.id=y.g.id):x=y:=by
 obtain⟨i,d,rfl⟩:=Gz c;obtain⟨j,e,rfl⟩:=Gz b;have hp:=Es.1 a
 grind[Nat.lt_trichotomy]
def X3(l:ax)(hl:Z l<=1048576)(v:Int)(r:Bool):∀(m i:Nat),i+m=Z l->inB v (l.drop i)=r->
  DE E f84 (DA r) [(0,ii v),(1,CA 1 (iv l) J0),(5,ii i)] []:=by
 have d:Z (iv l)=Z l:=by simp
 intro m;induction m with
 | zero=>
  intro i f a;rw[Ae o_]at a;have a:U=r:=a;subst a;exact tA
 | succ m c=>
  intro i f a;have b:i<Z l:=o_;rw[Ac b]at a;have get:=cK b;generalize l[i]=x at a get;unfold inB at a;rw[Hx]at a;have c:=c (i+1) o_;have g:(v==x)=(x==v):=by
   by_cases h:v=x
   .subst h;rfl
   .rw [beq_eq_false_iff_ne.2 h,beq_eq_false_iff_ne.2 (Ne.symm h)]
  rw[g]at a;cases e:(x==v)with
  | true=>
   rw[e]at a;have a:O=r:=a;subst a;exact tA
  | false=>
   rw[e,Ko]at a;have next:=c a
   exact tA
def aGC(l:ax)(hl:Z l<=1048576)(v:Int):bj 84 [ii v,CA 1 (iv l) J0] (DA (inB v l)):=by refine c_ f84 λ_=>gV ?_;exact To.cut [0,1,5] 0 rfl rfl rfl rfl (X3 l hl v _ (Z l) 0 o_ rfl)
def aF4(l:a7)(hs:Sm l)(ids:ax)(n:Z ids<=1048576)(R:a7):∀(m i:Nat) (a:a7),i+m=Z l->Z a<=i->a++aB (l.drop i) ids=R->
  DE (Eo [5] []) f41 (CA 14 (rav R) J0) [(0,CA 14 (rav l) J0),(1,CA 1 (iv ids) J0),(5,CA 14 (rav a) (.own 0 0)),(6,ii i)] [Fr 0 14 85]:=by
 have h:Z (rav l)=Z l:=by simp
 have hl:=hs.1;intro m;induction m with
 | zero=>
  intro i a o k b;exact zqra5
 | succ m f=>
  intro i a o k b;have c:i<Z l:=o_;rw[Ac c]at b;generalize p:l[i]=x at b;have get:(rav l)[i]? =X x.av:=(cH c).trans (by rw[p]);have q:Z (rav a)=Z a:=by simp
  have j:=aGC ids n x.g.id;cases d:inB x.g.id ids with
  | true=>
   rw[d]at j;exact zqra18
  | false=>
   rw[d]at j;rw[lX d]at b;have next:=f (i+1) (a++[x]) o_ q_ (by rw[Ag];exact b)
   have e:rav (a++[x])=rav a++[x.av]:=by simp
   rw[e]at next
   exact tA
def pN(l:a7)(hs:Sm l)(ids:ax)(b:Z ids<=1048576):bj 41 [CA 14 (rav l) J0,CA 1 (iv ids) J0] (CA 14 (rav (aB l ids)) J0):=by refine gA (Eo [5] []) f41 λ_=>?_;have a:=aF4 l hs ids b _ (Z l) 0 [] o_ s_ rfl;exact zW
def LeR(a b:Rn):Prop:=dF b a=U
theorem nB{a b:Rn}:LeR a b↔b.st<a.st\/(b.st=a.st/\b.seq<=a.seq):=by
 unfold LeR
 grind[zC]
def LeR.trans{a b c:Rn}(h:LeR a b)(k:LeR b c):LeR a c:=by rw[nB]at *;omega
theorem P3{a b:Rn}(h:dF a b=O):LeR a b:=by have:=zC.1 h;rw[nB];omega
def M4{xs:a7}{i k:Nat}(b:i<Z xs)(c:k<Z xs)(j:Nat):aH (jR xs i k) j=if j=k then aH xs i else if j=i then aH xs k else aH xs j:=by
 unfold jR
 conv=>lhs;unfold aH
 rw[List.getElem?_set,List.getElem?_set];by_cases h1:j=k
 .subst h1;rw[bu rfl,bu rfl,bu (by simpa using c)];rfl
 .rw [bt (λe=>h1 e.symm),bt h1];by_cases a:j=i
  .subst a;rw[bu rfl,bu rfl,bu b];rfl
  .rw [bt (λe=>a e.symm),bt a];rfl
def Hp(n:Nat)(xs:a7):Prop:=∀j,0<j->j<n->LeR (aH xs ((j-1) / 2)) (aH xs j)
def Hp.root{n:Nat}{xs:a7}(h:Hp n xs):∀(m j:Nat),j<=m->j<n->LeR (aH xs 0) (aH xs j)
 | 0,j,hm,_=>by
  grind[nB]
 | m+1,j,hm,hj=>by
  by_cases a:j=0
  .subst a;rw[nB];omega
  .exact (h.root m ((j-1) / 2) o_ o_).trans (h j o_ hj)
def aFi(n:Nat):∀(f:Nat) (xs:a7) (i:Nat),Z xs=n->i<n->i<f->(∀j,0<j->j<n->j≠i->LeR (aH xs ((j-1) / 2)) (aH xs j))->(∀j,0<j->j<n->(j-1) / 2=i->0<i->LeR (aH xs ((i-1) / 2)) (aH xs j))->Hp n (upH f xs i)
 | 0,xs,i,_,_,h,_,_=>by omega
 | f+1,xs,i,hx,hi,hf,h1,h2=>by
  unfold upH;by_cases p:i=0
  .rw [bu p];exact λj a b=>h1 j a b o_
  rw[bt p];generalize l:(i-1) / 2=up;have r:up<i:=o_;cases q:dF (aH xs i) (aH xs up)with
  | false=>
   rw[bt d_];intro j a b;by_cases d:j=i
   .subst d;rw[l];exact q
   .exact h1 j a b d
  | true=>
   rw[bu rfl];have m:=P3 q;have g:=λj=>M4 (xs:=xs) (i:=i) (k:=up) o_ o_ j;have o:0<up->LeR (aH xs ((up-1) / 2)) (aH xs up):=λh=>h1 up h o_ o_;refine aFi n f _ up (by rw[eJ];exact hx) o_ o_ (λj a b d=>?_) (λj a b d s=>?_)
   .rw [g,g];by_cases c:j=i
    .grind
    .rw [bt d,bt c];by_cases hp:(j-1) / 2=i
     .grind
     .by_cases e:(j-1) / 2=up
      .rw [bu e];have:=h1 j a b c;rw[e]at this;exact m.trans this
      grind
   .rw [g,g,bt o_,bt o_];by_cases c:j=i
    .grind
    .rw [bt o_,bt c];have:=h1 j a b c;rw[d]at this;exact(o s).trans this
def U4{xs:a7}{x:Rn}{j:Nat}(h:j<Z xs):aH (xs++[x]) j=aH xs j:=by unfold aH;rw[Ai h]
def aLK{xs:a7}(h:Hp (Z xs) xs)(x:Rn):Hp (Z (jT xs x)) (jT xs x):=by rw[CU];unfold jT;refine aFi (Z xs+1) _ _ _ s_ o_ o_ (λj a b c=>?_) (λj a b c d=>by omega);rw[U4 o_,U4 o_];exact h j a o_
def VV(n:Nat):∀(f:Nat) (xs:a7) (i:Nat),n<=Z xs->i<Z xs->n<f+i+1->(∀j,0<j->j<n->(j-1) / 2≠i->LeR (aH xs ((j-1) / 2)) (aH xs j))->(∀j,0<j->j<n->(j-1) / 2=i->0<i->LeR (aH xs ((i-1) / 2)) (aH xs j))->Hp n (mP f xs n i)
 | 0,xs,i,_,_,hf,h1,h2=>by
  intro j a b;exact h1 j a b o_
 | f+1,xs,i,hx,hi,hf,h1,h2=>by
  unfold mP;by_cases h:2*i+1<n
  .rw [bu h];have o:=B1 xs n i h;have c:∀j,j<n->(j=2*i+1\/j=2*i+2)->LeR (aH xs (fJ xs n i)) (aH xs j):=λj e l=>by
    unfold fJ;by_cases h3:2*i+2<n
    .rw [bu h3];cases d:dF (aH xs (2*i+2)) (aH xs (2*i+1))with
     | true=>
      rw[bu rfl];rcases l with rfl|rfl
      .exact P3 d
      .rw [nB];omega
     | false=>
      rw[bt d_];rcases l with rfl|rfl
      .rw [nB];omega
      .exact d
    .rw [bt h3];rcases l with rfl|rfl
     .rw [nB];omega
     .omega
   generalize fJ xs n i=k at o c;cases d:dF (aH xs k) (aH xs i)with
   | false=>
    rw[bt d_];intro j a b;by_cases e:(j-1) / 2=i
    .rw [e];exact LeR.trans d (c j b o_)
    .exact h1 j a b e
   | true=>
    rw[bu rfl];have p:=P3 d;have g:=λj=>M4 (xs:=xs) (i:=i) (k:=k) hi o_ j;have m:(k-1) / 2=i:=o_;refine VV n f _ k (by rw[eJ];exact hx) (by rw[eJ];omega) o_ (λj a b e=>?_) (λj a b e q=>?_)
    .rw [g,g]
     grind
    grind
  .rw [bt h];intro j a b;exact h1 j a b o_
def M5{xs:a7}{x:Rn}{j:Nat}(h:0<j):aH (xs.set 0 x) j=aH xs j:=by unfold aH;rw[Bg o_]
def aP2{xs:a7}{n:Nat}(e:0<n)(f:n<=Z xs)(h:Hp n xs):Hp (n-1) (tZ xs n):=by unfold tZ;refine VV (n-1) n _ 0 q_ q_ o_ (λj a b c=>?_) (λj a b c d=>by omega);rw[M5 o_,M5 a];exact h j a o_
def GQ{xs:a7}{i k:Nat}(a:i<Z xs)(b:k<Z xs):(jR xs i k).Perm xs:=by
 unfold jR aH
 grind[Ab,List.set_set_perm]
def RO:∀(f:Nat) (xs:a7) (i:Nat),i<Z xs->(upH f xs i).Perm xs
 | 0,xs,i,_=>Fj _
 | f+1,xs,i,hi=>by
  unfold upH;split
  .exact Fj _
  .split
   .exact (RO f _ _ (by rw[eJ];omega)).trans (GQ hi o_)
   .exact Fj _
theorem D9:∀(l xs:a7),(l.foldl jT xs).Perm (xs++l)
 | [],xs=>by simp
 | x::r,xs=>by rw[Ap];refine(D9 r _).trans ?_;have h:(jT xs x).Perm (xs++[x]):=RO _ _ _ s_;have:=h.append_right r;rwa [Ag]at this
def L9:∀(l xs:a7),Hp (Z xs) xs->Hp (Z (l.foldl jT xs)) (l.foldl jT xs)
 | [],xs,h=>h
 | x::r,xs,h=>by rw[Ap];exact L9 r _ (aLK h x)
theorem rL{xs:a7}{m j:Nat}(h:j<m):aH (xs.take m) j=aH xs j:=by unfold aH;rw[List.getElem?_take_of_lt h]
def XJ{xs:a7}{m i k:Nat}(a:i<m)(b:k<m):(jR xs i k).take m=jR (xs.take m) i k:=by
 unfold jR
 grind[rL,List.take_set]
def Z0{xs:a7}{n i:Nat}(h:2*i+1<n):fJ (xs.take n) n i=fJ xs n i:=by
 unfold fJ;by_cases h3:2*i+2<n
 .rw [bu h3,bu h3,rL h3,rL h]
 .rw [bt h3,bt h3]
def JP(n:Nat):∀(f:Nat) (xs:a7) (i:Nat),i<n\/n=0->(mP f xs n i).take n=mP f (xs.take n) n i
 | 0,xs,i,_=>rfl
 | f+1,xs,i,hi=>by
  unfold mP;by_cases a:2*i+1<n
  .rw [bu a,bu a];have b:=B1 xs n i a;rw[Z0 a,rL b.1,rL o_];split
   .rw [JP n f _ _ o_,XJ o_ b.1]
   .rfl
  .rw [bt a,bt a]
theorem JQ(n:Nat):∀(f:Nat) (xs:a7) (i:Nat),n<=Z xs->i<Z xs->(mP f xs n i).Perm xs
 | 0,xs,i,_,_=>Fj _
 | f+1,xs,i,hn,hi=>by
  unfold mP;split
  .rename_i a;have b:=B1 xs n i a;split
   .exact (JQ n f _ _ (by rw[eJ];exact hn) (by rw[eJ];omega)).trans (GQ hi o_)
   .exact Fj _
  .exact Fj _
def TO{xs:a7}{n:Nat}(f:0<n)(a:n<=Z xs):(aH xs 0::(tZ xs n).take (n-1)).Perm (xs.take n):=by
 match n,f with
 | 1,_=>
  match xs,a with
  | x::r,_=>exact Fj _
 | m+2,_=>
  have c:m+2-1=m+1:=rfl;unfold tZ;rw[c,JP (m+1) _ _ 0 (.inl o_)]
  match xs,a with
  | x::r,a=>
  have g:m<Z r:=by simp at a;omega
  have b:aH (x::r) (m+1)=r[m]:=by
   unfold aH
   grind[List.getElem?_cons_succ,Ab]
  have e:(List.set (x::r) 0 (aH (x::r) (m+1))).take (m+1)=r[m]::r.take m:=by rw[b];rfl
  rw[e];have d:(x::r).take (m+2)=x::(r.take m++[r[m]]):=by grind[List.take_append_getElem]
  rw[d];refine List.Perm.cons _ ?_
  grind[JQ,List.perm_append_singleton]
theorem vL:∀(n:Nat) (xs:a7),n<=Z xs->(iM n xs).Perm (xs.take n)
 | 0,xs,_=>by simp[iM]
 | n+1,xs,hn=>by unfold iM;have h1:=TO (xs:=xs) (n:=n+1) o_ hn;have a:=vL n (tZ xs (n+1)) (by rw[qZ];omega);exact(List.Perm.cons _ a).trans h1
def MA:∀(n:Nat) (xs:a7),n<=Z xs->Hp n xs->(iM n xs).Pairwise LeR
 | 0,xs,_,_=>by simp[iM]
 | n+1,xs,hn,h=>by
  unfold iM;refine Bt.2 ⟨λy a=>?_,MA n _ (by rw[qZ];omega) (aP2 o_ hn h)⟩;have h1:=(vL n (tZ xs (n+1)) (by rw[qZ];omega)).mem_iff.1 a;have b:=(TO (xs:=xs) (n:=n+1) o_ hn).mem_iff.1 (Bb _ h1);obtain⟨j,c,rfl⟩:=Ln.1 b;have e:aH xs j=xs[j]:=by unfold aH;rw[Ab o_];rfl
  rw[<-e];exact h.root j j (Bc _) o_
def YU(l:a7):(eX l).Perm l:=by
 unfold eX
 grind[sN,vL,Bl,D9]
def aHw(l:a7):(eX l).Pairwise LeR:=by
 unfold eX;have c:Z (l.foldl jT [])=Z l:=by rw[sN];simp
 refine MA _ _ o_ ?_;rw[<-c];exact L9 l [] (λj a b=>by simp at b)
def LQ{R:Rn->Rn->Prop}:∀{a b:a7},a.Perm b->a.Pairwise R->b.Pairwise R->(∀x∈a,∀y∈a,R x y->R y x->x=y)->(∀x∈a,R x x)->a=b
 | [],b,h,_,_,_,_=>by
  have:=h.length_eq
  grind[List.eq_nil_of_length_eq_zero]
 | x::r,[],h,_,_,_,_=>by have:=h.length_eq;simp at this
 | x::r,y::s,h,h1,f,ha,hr=>by
  have h1:=Bt.1 h1;have f:=Bt.1 f;have j:x=y:=by
   have g:x∈y::s:=h.mem_iff.1 s_;have d:y∈x::r:=h.mem_iff.2 s_;rcases Az.1 g with e|g
   .exact e
   .rcases Az.1 d with e|d
    .exact e.symm
    .exact ha x s_ y (by simp[d]) (h1.1 y d) (f.1 x g)
  subst j;have hp:r.Perm s:=h.cons_inv;rw[LQ hp h1.2 f.2 (λa c b i=>ha a (by simp[c]) b (by simp[i])) (λa c=>hr a (by simp[c]))]
def xZ(x:Rn)(out:a7):Nat->Nat
 | 0=>0
 | k+1=>if dF x (aH out k)=O then xZ x out k else k+1
def IM(out:a7)(x:Rn):a7:=out.take (xZ x out (Z out))++[x]++out.drop (xZ x out (Z out))
def PF(l:a7):a7:=l.foldl IM []
def aBT(x:Rn)(out:a7):∀(k:Nat),xZ x out k<=k
 | 0=>Bc _
 | k+1=>by
  unfold xZ;split
  .have:=aBT x out k;omega
  .exact Bc _
def MT(x:Rn)(out:a7):∀(k:Nat),(∀j,xZ x out k<=j->j<k->dF x (aH out j)=O)/\(0<xZ x out k->dF x (aH out (xZ x out k-1))=U)
 | 0=>⟨λj _ h=>by omega,λh=>by simp[xZ]at h⟩
 | k+1=>by
  obtain⟨h1,a⟩:=MT x out k;unfold xZ
  grind
def MU(out:a7)(x:Rn):(IM out x).Perm (out++[x]):=by
 unfold IM
 grind[Ag,Ds,List.perm_append_comm,Bn]
def aMC{out:a7}(h:out.Pairwise LeR)(x:Rn):(IM out x).Pairwise LeR:=by
 have b:=aBT x out (Z out);obtain⟨h1,e⟩:=MT x out (Z out);unfold IM;generalize xZ x out (Z out)=k at b h1 e;have hp:=Es.1 h;have f:∀{j:Nat} (c:j<Z out),aH out j=out[j]:=λ{j} c=>by unfold aH;rw[Ab c];rfl
 have d:∀y∈out.take k,LeR y x:=λy g=>by
  obtain⟨j,c,rfl⟩:=Ln.1 g;have hl:LeR (aH out (k-1)) x:=e o_;rw[f o_]at hl;by_cases a:j=k-1
  .subst a;exact hl
  .exact (hp j (k-1) o_ o_ o_).trans hl
 grind[List.mem_drop_iff_getElem,P3,Bn,Ag,Bt]
def L7:∀(l out:a7),(l.foldl IM out).Perm (out++l)
 | [],out=>by simp
 | x::r,out=>by rw[Ap];refine(L7 r _).trans ?_;have:=(MU out x).append_right r;rwa [Ag]at this
def aBl:∀(l out:a7),out.Pairwise LeR->(l.foldl IM out).Pairwise LeR
 | [],out,h=>h
 | x::r,out,h=>by rw[Ap];exact aBl r _ (aMC h x)
def TU{l:a7}(e:tX l):eX l=PF l:=by
 have h1:=YU l;have f:(PF l).Perm l:=by have:=L7 l [];simpa[PF]using this
 refine LQ (h1.trans f.symm) (aHw l) (aBl l [] s_) (λx c y b d a=>?_) (λx _=>by rw[nB];omega);have c:=h1.mem_iff.1 c;have b:=h1.mem_iff.1 b;rw[nB]at d a;have hs:x.seq=y.seq:=o_;obtain⟨i,g,rfl⟩:=Gz c;obtain⟨j,h,rfl⟩:=Gz b;have hp:=Es.1 e
 grind[Nat.lt_trichotomy]
abbrev roF(l out:a7)(i:Int):au:=[(0,CA 14 (rav l) J0),(3,CA 14 (rav out) J0),(4,ii i)]
def aSb(l:a7)(R:aa)(x:Rn)(i:Nat)(w:i<1048576)(d:(rav l)[i]? =X x.av)(out:a7)(v:Z out<=1048576)
  (next:∀K:Nat,K<=Z out->K=xZ x out (Z out)->DE (Er [] [70,71,72]) f257 R [(0,CA 14 (rav l) J0),(3,CA 14 ((rav out).take K++[x.av]++(rav out).drop K) J0),(4,ii ((i:Int)+1))] []):∀(k:Nat),k<=Z out->xZ x out (Z out)=xZ x out k->
  To (Er [] [70,71,72]) f257 (.pure (Io R)) (G0 (stk f257 1) (roF l out i++[(5,ii k)]) []):=by
 have o:Z (rav out)=Z out:=by simp
 intro k;induction k with
 | zero=>
  intro n e;have next:=next 0 (Bq _) (by rw[e];rfl)
  have u:Z (Fs 0 (rav out))=0:=by simp
  refine gV ?_
  repeat' first|refine pA ?_|refine Aj 0 (Aa o_ ?_)|refine⟨i,rfl,?_⟩|refine⟨_,d,?_⟩|refine⟨⟨by simp only[maxLen];simp;omega,by simp;omega⟩,?_⟩|refine Aa (Aa (by simp[maxLen]) s_) ?_|exact rfl|refine lA ?_ ?_|intro h
  exact zW
 | succ k q=>
  intro n e;have f:=iI (xs:=out) (i:=k) o_;have g:=zC (a:=x) (b:=aH out k);have r:xZ x out (k+1)=if dF x (aH out k)=O then xZ x out k else k+1:=rfl
  rw[r]at e;have ex:dF x (aH out k)=U->DE (Er [] [70,71,72]) f257 R [(0,CA 14 (rav l) J0),(3,CA 14 ((rav out).take (k+1)++[x.av]++(rav out).drop (k+1)) J0),(4,ii ((i:Int)+1))] []:=λh=>next (k+1) n (by rw[e,bt (by rw[h];decide)])
  have j:dF x (aH out k)=O->To (Er [] [70,71,72]) f257 (.pure (Io R)) (G0 (stk f257 1) (roF l out i++[(5,ii k)]) []):=λh=>q o_ (by rw[e,bu h]);generalize aH out k=y at f g ex j;have p:((k+1:Nat):Int)-1=((k:Nat):Int):=o_;by_cases t:y.st<x.st
  .have next:=j (g.2 (.inl t))
   have c:((0:Int)==0)=true:=rfl;refine gV ?_
   repeat' first
    | (refine gN (hEr [] [70,71,72]) ?_;conv=>whnf)
    | refine Aj (k+1) (Aa rfl ?_)
    | refine Aj k (Aa o_ ?_)
    | refine Aj i (Aa rfl ?_)
    | refine Aj _ (Aa d ?_)
    | refine Aj _ (Aa f ?_)
    | refine⟨⟨by simp only[maxLen];simp;omega,by simp;omega⟩,?_⟩
    | refine aY ?_
    | refine aN ?_
    | refine aT λh=>?_
    | refine aF λh=>?_
    | refine Aa (λh=>?_) (λh=>bv h (by rw[c];decide))
    | refine Aa (λh=>bv h (by rw[c];decide)) (λh=>?_)
    | refine Aa (Aa (by simp only[bS];omega) (by simp only[aX];omega)) ?_
    | refine aJ ?_
    | refine Aa o_ ?_
    | fail
   rw[p];exact To.cut [0,3,4,5] 0 rfl rfl rfl rfl next
  .by_cases m:y.st=x.st
   .have c:(y.st==x.st)=true:=by simp[m]
    by_cases s:y.seq<x.seq
    .have next:=j (g.2 (.inr ⟨m,s⟩))
     refine gV ?_
     repeat' first
      | (refine gN (hEr [] [70,71,72]) ?_;conv=>whnf)
      | refine Aj (k+1) (Aa rfl ?_)
      | refine Aj k (Aa o_ ?_)
      | refine Aj i (Aa rfl ?_)
      | refine Aj _ (Aa d ?_)
      | refine Aj _ (Aa f ?_)
      | refine⟨⟨by simp only[maxLen];simp;omega,by simp;omega⟩,?_⟩
      | refine aY ?_
      | refine aN ?_
      | refine aT λh=>?_
      | refine aF λh=>?_
      | refine Aa (λh=>?_) (λh=>bv h (by rw[c];decide))
      | refine Aa (λh=>bv h (by rw[c];decide)) (λh=>?_)
      | refine Aa (Aa (by simp only[bS];omega) (by simp only[aX];omega)) ?_
      | refine aJ ?_
      | refine Aa o_ ?_
      | fail
     rw[p];exact To.cut [0,3,4,5] 0 rfl rfl rfl rfl next
    .have next:=ex (by cases h:dF x y with|false=>rfl|true=>have:=g.1 h;omega)
     refine gV ?_
     repeat' first
      | (refine gN (hEr [] [70,71,72]) ?_;conv=>whnf)
      | refine Aj (k+1) (Aa rfl ?_)
      | refine Aj k (Aa o_ ?_)
      | refine Aj i (Aa rfl ?_)
      | refine Aj _ (Aa d ?_)
      | refine Aj _ (Aa f ?_)
      | refine⟨⟨by simp only[maxLen];simp;omega,by simp;omega⟩,?_⟩
      | refine aY ?_
      | refine aN ?_
      | refine aT λh=>?_
      | refine aF λh=>?_
      | refine Aa (λh=>?_) (λh=>bv h (by rw[c];decide))
      | refine Aa (λh=>bv h (by rw[c];decide)) (λh=>?_)
      | refine Aa (Aa (by simp only[bS];omega) (by simp only[aX];omega)) ?_
      | refine aJ ?_
      | refine Aa o_ ?_
      | fail
     exact zW
   .have c:(y.st==x.st)=false:=by simp[m]
    have next:=ex (by cases h:dF x y with|false=>rfl|true=>have:=g.1 h;omega)
    refine gV ?_
    repeat' first
     | (refine gN (hEr [] [70,71,72]) ?_;conv=>whnf)
     | refine Aj (k+1) (Aa rfl ?_)
     | refine Aj k (Aa o_ ?_)
     | refine Aj i (Aa rfl ?_)
     | refine Aj _ (Aa d ?_)
     | refine Aj _ (Aa f ?_)
     | refine⟨⟨by simp only[maxLen];simp;omega,by simp;omega⟩,?_⟩
     | refine aY ?_
     | refine aN ?_
     | refine aT λh=>?_
     | refine aF λh=>?_
     | refine Aa (λh=>?_) (λh=>bv h (by rw[c];decide))
     | refine Aa (λh=>bv h (by rw[c];decide)) (λh=>?_)
     | refine Aa (Aa (by simp only[bS];omega) (by simp only[aX];omega)) ?_
     | refine aJ ?_
     | refine Aa o_ ?_
     | fail
    exact zW
def aPI(l:a7)(hl:Z l<=1000000)(R:a7):∀(m i:Nat) (out:a7),i+m=Z l->Z out=i->(l.drop i).foldl IM out=R->
  DE (Er [] [70,71,72]) f257 (CA 14 (rav R) J0) (roF l out i) []:=by
 have g:Z (rav l)=Z l:=by simp
 intro m;induction m with
 | zero=>
  intro i out p k a;rw[Ae o_]at a;have a:out=R:=a;subst a;exact tA
 | succ m j=>
  intro i out p k a;have b:i<Z l:=o_;rw[Ac b,Ap]at a;have f:(rav l)[i]? =X l[i].av:=cH b;generalize l[i]=x at a f;have c:Z (rav out)=Z out:=by simp
  have d:=aSb l (CA 14 (rav R) J0) x i o_ f out o_ (λK o n=>by
   have e:(rav out).take K++[x.av]++(rav out).drop K=rav (IM out x):=by unfold IM;rw[<-n];simp
   rw[e]
   exact j (i+1) (IM out x) o_ (by have:=(MU out x).length_eq;simp at this;omega) a) (Z out) (Bc _) rfl
  refine gV ?_;refine aT λh=>?_;rw[<-c]at d;exact zW
def aDr(l:a7)(hl:Z l<=1000000):bj 257 [CA 14 (rav l) J0] (CA 14 (rav (PF l)) J0):=by refine gA (Er [] [70,71,72]) f257 λ_=>?_;have a:=aPI l hl _ (Z l) 0 [] o_ rfl rfl;exact zW
def SE(c:Con)(k:c.sm)(a:a8)(t:Int)(need:V3)(r:Bool)(b:lM c a t need=r):bj 186 [c.av,CA 3 (vav a) J0,ii t,need.av] (DA r):=by
 have d:=mB c k t;rw[vD]at d;unfold lM at b;cases h:bD c.ns t with
 | false=>
  rw[h]at d;rw[bt (by rw[h];decide)]at b;subst b;exact c_ f186 λ_=>zW
 | true=>
  rw[h]at d;rw[bu h]at b;have i:=xG h;have l:t=(t.toNat:Int):=o_;have e:=AH (c:=c) i;generalize cO c.ns t=x at e b;have h1:=A7 a t;generalize atV a t=q1 at h1 b;have j:=mX q1 need;generalize eU q1 need=q2 at j b;have h3:=nU q2 x.n;rw[b]at h3;exact c_ f186 λ_=>zW
def XR(c:Con)(b:c.sm)(a:a8)(t:Int)(need:V3):bj 186 [c.av,CA 3 (vav a) J0,ii t,need.av] (DA (lM c a t need)):=SE c b a t need _ rfl
def PE(c:Con)(j:c.sm)(b:a8)(t:Int)(r:Bool)(a:bV c b t=r):bj 258 [c.av,CA 3 (vav b) J0,ii t] (DA r):=by
 have d:=mB c j t;rw[vD]at d;unfold bV at a;cases h:bD c.ns t with
 | false=>
  rw[h]at d;rw[bt (by rw[h];decide)]at a;exact zqra7
 | true=>
  rw[h]at d;rw[bu h]at a;have k:=xG h;have l:t=(t.toNat:Int):=o_;have e:=AH (c:=c) k;generalize cO c.ns t=x at e a;have h1:=A7 b t;generalize atV b t=q1 at h1 a;have h3:=nU q1 x.n;cases i:cD q1 x.n with
  | false=>
   rw[i]at h3 a;have a:O=r:=a;exact zqra7
  | true=>
   rw[i]at h3 a;have a:U=r:=a;exact zqra7
def S0(c:Con)(b:c.sm)(a:a8)(t:Int):bj 258 [c.av,CA 3 (vav a) J0,ii t] (DA (bV c a t)):=PE c b a t _ rfl
def D5(c:Con)(i:c.sm)(l:a7)(hs:Sm l)(g:Gan)(j:0<=g.pods/\g.pods<=16)(h:aS g.need=O)(ids:ax)(e:Z ids<=1048576)(r:Bool)(a:pG c l g ids=r):
  bj 187 [c.av,CA 14 (rav l) J0,g.av,CA 1 (iv ids) J0] (DA r):=by
 have d:=pN l hs ids e;have b:=nX c i (aB l ids) (jC hs ids) g j h;unfold pG at a;generalize aB l ids=left at d b a;generalize cL c left g=Q at b a;subst a;unfold fdA at b;cases Q with
 | none=>
  exact c_ f187 λ_=>zW
 | some x=>
  exact c_ f187 λ_=>zW
def nxA:Option Int->Int
 | some n=>n
 | none=>0
def XZ(c:Con)(q:c.sm)(a:a8)(o:a7)(s:Z o<=1048576)(r:Int):∀(m i:Nat),i+m=Z o->(if aO (λx=>bV c a x.g.ten) (o.drop i) i<0 then 0 else(aH o (aO (λx=>bV c a x.g.ten) (o.drop i) i).toNat).g.id)=r->
  DE E f188 (ii r) [(3,G2 0 0),(8,CA 3 (vav a) J0),(9,CA 14 (rav o) J0),(10,ii i)] [Do 30 c.cs]:=by
 have k:Z (rav o)=Z o:=by simp
 intro m;induction m with
 | zero=>
  intro i p b;rw[Ae o_]at b;have b:0=r:=b;subst b;exact tA
 | succ m h=>
  intro i p b;have d:i<Z o:=o_;have j:=iI d;have f:aH o i=o[i]:=by unfold aH;rw[Ab d];rfl
  rw[Ac d,<-f]at b;have e:=S0 c q a (aH o i).g.ten;have h:=h (i+1) o_;have n:aO (λx=>bV c a x.g.ten) (aH o i::o.drop (i+1)) i=if bV c a (aH o i).g.ten=O then(i:Int)else aO (λx=>bV c a x.g.ten) (o.drop (i+1)) (i+1):=rfl
  rw[n]at b;cases l:bV c a (aH o i).g.ten with
  | true=>
   rw[l]at e b;rw[bu rfl,bt o_,Bo]at b;subst b;generalize aH o i=x at j e;exact tA
  | false=>
   rw[l]at e b;simp only[Dc,if_false]at b;have next:=h b
   generalize aH o i=x at j e;exact tA
def AC{l:a7}(a:tX l)(ids:ax):tX (aB l ids):=a.sublist Jb
def aGx(c:Con)(k:c.sm)(l:a7)(hs:Sm l)(hl:Z l<=1000000)(i:tX l)(ids:ax)(n:Z ids<=1048576):bj 188 [c.av,CA 14 (rav l) J0,CA 1 (iv ids) J0] (ii (nxA (EC c l ids))):=by
 have j:=pN l hs ids n;have hsl:=jC hs ids;have p:Z (aB l ids)<=Z l:=Dy _ _;have b:=O6 c k (aB l ids) hsl.1;have a:=aDr (aB l ids) o_;have m:nxA (EC c l ids)=if aO (λx=>bV c (ofL c (aB l ids)) x.g.ten) (PF (aB l ids)) 0<0 then 0 else(aH (PF (aB l ids)) (aO (λx=>bV c (ofL c (aB l ids)) x.g.ten) (PF (aB l ids)) 0).toNat).g.id:=by
  rw[<-TU (AC i ids)];unfold EC;have e:atI c l ids=aO (λx=>bV c (ofL c (aB l ids)) x.g.ten) (eX (aB l ids)) 0:=rfl;rw[<-e];split
  .rfl
  .rfl
 have d:Z (PF (aB l ids))<=1048576:=by rw[<-TU (AC i ids),yZ];exact hsl.1
 rw[m];generalize ofL c (aB l ids)=us at b;generalize PF (aB l ids)=o at a d;generalize aB l ids=left at j b a;refine c_ f188 λ_=>?_
 repeat' first|refine pA ?_|refine .p j ?_|refine .p b ?_|refine .p a ?_|exact rfl|refine lA ?_ ?_|intro h
 exact To.cut [3,8,9,10] 1 rfl rfl rfl rfl (XZ c k us o d _ (Z o) 0 o_ rfl)
abbrev rcO(c:Con)(g:Gan):aw:=[Do 30 c.cs,Do 45 g.cs]
abbrev rcF(l:a7)(ids:ax):au:=[(1,CA 14 (rav l) J0),(3,G2 0 0),(5,G2 1 0),(8,CA 1 (iv ids) J0)]
abbrev aLx(l:a7)(ids all:ax)(i:Int):au:=rcF l ids++[(10,CA 1 (iv all) J0),(11,ii i)]
def aSj(c:Con)(g:Gan)(l:a7)(G:aa)(ids all:ax)(w:Z ids<=1048576)(i:Nat)(z:i<1048576)(a:Int)(y:(iv all)[i]? =X (ii a))(R:ax)
  (next:To (Eo [8,12] []) f130 (.pure (Io G)) (G0 (stk f130 2) (aLx l ids all i++[(12,CA 1 (iv R) (.own 2 0)),(13,ii (Z ids:Nat))]) (rcO c g++[Fr 0 1 3]))):∀(m k:Nat) (b:ax),k+m=Z ids->Z b<=k->b++dK (ids.drop k) a=R->
  To (Eo [8,12] []) f130 (.pure (Io G)) (G0 (stk f130 2) (aLx l ids all i++[(12,CA 1 (iv b) (.own 2 0)),(13,ii k)]) (rcO c g++[Fr 0 1 3])):=by
 have p:Z (iv ids)=Z ids:=by simp
 intro m;induction m with
 | zero=>
  intro k b j r d;rw[Ae o_]at d;have d:b++[]=R:=d;rw[Ao]at d;subst d;have j:k=Z ids:=o_;subst j;exact next
 | succ m n=>
  intro k b j r d;have f:k<Z ids:=o_;rw[Ac f]at d;have s:=cK f;generalize ids[k]=x at d s;have u:Z (iv b)=Z b:=by simp
  unfold dK at d;rw[Hf]at d;have h:(x !=a)= !(x==a):=rfl;cases q:(x==a)with
  | true=>
   rw[q]at h d;have v:(x !=a)=false:=h;have o:=n (k+1) b o_ o_ d;exact tA
  | false=>
   rw[q]at h d;have v:(x !=a)=true:=h;have o:=n (k+1) (b++[x]) o_ q_ (by rw[Ag];exact d);have e:iv (b++[x])=iv b++[ii x]:=by simp
   rw[e]at o;exact tA
def aTJ(c:Con)(v:c.sm)(l:a7)(hs:Sm l)(g:Gan)(q:0<=g.pods/\g.pods<=16)(u:aS g.need=O)(all:ax)(w:Z all<=1048576)(R:ax):∀(m i:Nat) (ids:ax),i+m=Z all->Z ids<=1048576->(all.drop i).foldl (chS c l g) ids=R->
  To (Eo [8,12] []) f130 (.pure (Io (GT [CA 1 (iv R) J0,DA O]))) (G0 (stk f130 1) (aLx l ids all i) (rcO c g)):=by
 have n:Z (iv all)=Z all:=by simp
 intro m;induction m with
 | zero=>
  intro i ids r h b;rw[Ae o_]at b;have b:ids=R:=b;subst b;exact tA
 | succ m e=>
  intro i ids r h b;have d:i<Z all:=o_;rw[Ac d,Ap]at b;have k:=cK d;generalize all[i]=a at b k;have e:=e (i+1);have s:=MJ ids a;have o:Z (iv ids)=Z ids:=by simp
  have h1:=D5 c v l hs g q u (dK ids a) o_ _ rfl;have j:chS c l g ids a=if pG c l g (dK ids a)=O then dK ids a else ids:=rfl
  rw[j]at b;have fin:To (Eo [8,12] []) f130 (.pure (Io (GT [CA 1 (iv R) J0,DA O]))) (G0 (stk f130 2) (aLx l ids all i++[(12,CA 1 (iv (dK ids a)) (.own 2 0)),(13,ii (Z ids:Nat))]) (rcO c g++[Fr 0 1 3])):=by
   cases f:pG c l g (dK ids a)with
   | true=>
    rw[bu f]at b;rw[f]at h1;have next:=e (dK ids a) o_ o_ b
    exact tA
   | false=>
    rw[bt (by rw[f];decide)]at b;rw[f]at h1;have next:=e ids o_ h b
    exact tA
  have p:=aSj c g l _ ids all h i o_ a k (dK ids a) fin (Z ids) 0 [] o_ s_ rfl;exact tA
def aTK(c:Con)(q:c.sm)(l:a7)(hs:Sm l)(hl:Z l<=1000000)(v:tX l)(j:∀x∈l,x.g.id≠0)(g:Gan)(r:0<=g.pods/\g.pods<=16)(s:aS g.need=O)(R:Option ax):∀(f:Nat) (ids:ax),Z (aB l ids)<f->Z ids+Z (aB l ids)<=Z l->chB c l g (chA c l g f ids)=R->
  DE (Eo [8,12] []) f130 (chR R) (rcF l ids) (rcO c g):=by
 intro f;induction f with
 | zero=>intro ids h;omega
 | succ f t=>
  intro ids B z a;have u:Z (iv ids)=Z ids:=by simp
  have h1:=D5 c q l hs g r s ids o_ _ rfl;have b:=aGx c q l hs hl v ids o_;unfold chA at a;cases m:pG c l g ids with
  | true=>
   rw[bu m]at a;rw[m]at h1;have a:X (ids.foldl (chS c l g) ids)=R:=a;subst a;have next:=aTJ c q l hs g r s ids o_ _ (Z ids) 0 ids o_ o_ rfl
   exact tA
  | false=>
   rw[bt (by rw[m];decide)]at a;rw[m]at h1;have d:=λn=>C1 (c:=c) (l:=l) (ids:=ids) (n:=n);cases p:EC c l ids with
   | none=>
    rw[p]at a b;have a:D=R:=a;subst a;have b:bj 188 [c.av,CA 14 (rav l) J0,CA 1 (iv ids) J0] (ii 0):=b;exact tA
   | some n=>
    obtain⟨y,k,i,_⟩:=d n p;have w:=AD ⟨y,k,i⟩;have o:n≠0:=by rw[<-i];exact j y (pK.1 k).1
    rw[p]at a b;have b:bj 188 [c.av,CA 14 (rav l) J0,CA 1 (iv ids) J0] (ii n):=b;have next:=t (ids++[n]) o_ q_ a
    have e:iv (ids++[n])=iv ids++[ii n]:=by simp
    unfold rcF at next
    rw[e]at next
    have C:(n==0)=false:=by simp[o]
    exact tA
def SZ(c:Con)(e:c.sm)(l:a7)(hs:Sm l)(hl:Z l<=1000000)(i:tX l)(a:∀x∈l,x.g.id≠0)(g:Gan)(j:0<=g.pods/\g.pods<=16)(k:aS g.need=O)(R:Option ax)(b:fG c l g=R):bj 130 [c.av,CA 14 (rav l) J0,g.av] (chR R):=by
 have m:=O6 c e l hs.1;have n:=PC g;have h:=XR c e (ofL c l) g.ten (dem g);unfold fG at b;cases d:lM c (ofL c l) g.ten (dem g)with
 | false=>
  rw[bt (by rw[d];decide)]at b;rw[d]at h;subst b;exact zqra10
 | true=>
  rw[bu d]at b;rw[d]at h;have next:=aTK c e l hs hl i a g j k R (Z l+1) [] (by rw[fE];omega) (by rw[fE];simp) (by rw[<-b];unfold chB;split<;>rfl)
  exact zqra10
def aN1{c:Con}{l:a7}{g:Gan}{R:ax}(a:tX l)(h:fG c l g=X R):Z R<=Z l:=by
 obtain⟨_,e,b,_⟩:=EK h;have:=DX a e λn f=>by obtain⟨_,x,h1,d,_⟩:=b n f;exact⟨x,h1,d⟩
 omega
abbrev eW:Int:=1099511627776
theorem wG{v e:Int}(b:0<=v)(h1:v<=eW)(a:0<=e):kQ v e=min (v+e) eW:=by unfold kQ gL eW at *;omega
def dA:ax->Int
 | []=>0
 | x::r=>x+dA r
def nP:∀{es:ax},(∀e∈es,0<=e)->0<=dA es
 | [],_=>Em _
 | x::r,h=>by have:=nP (es:=r) λe a=>h e (by simp[a]);have:=h x s_;unfold dA;omega
def A2:∀{es:ax} {v:Int},0<=v->v<=eW->(∀e∈es,0<=e)->es.foldl kQ v=min (v+dA es) eW
 | [],v,h0,h1,_=>by
  unfold dA;show v=_;omega
 | x::r,v,h0,h1,h=>by have b:=h x s_;have c:=nP (es:=r) λe a=>h e (by simp[a]);rw[Ap,wG h0 h1 b,A2 (by unfold eW at *;omega) o_ λe a=>h e (by simp[a])];have e:dA (x::r)=x+dA r:=rfl;rw[e];omega
structure Prj(p:V3->Int):Prop where
 add:∀u v,p (eU u v)=kQ (p u) (p v)
 sub:∀u v,p (AF u v)=aDa (p u) (p v)
 pos:∀u,p (aDO u)=max (p u) 0
 zero:p V3.zero=0
def aLN:Prj V3.a:=⟨λ_ _=>rfl,λ_ _=>rfl,λ_=>rfl,rfl⟩
def aLM:Prj V3.b:=⟨λ_ _=>rfl,λ_ _=>rfl,λ_=>rfl,rfl⟩
def aLL:Prj V3.c:=⟨λ_ _=>rfl,λ_ _=>rfl,λ_=>rfl,rfl⟩
section
variable {p:V3->Int} (hp:Prj p)
include hp
def OU(us:a8):∀(B:ax) (v:V3),p (B.foldl (smS us) v)=(B.map λt=>p (atV us t)).foldl kQ (p v)
 | [],v=>rfl
 | t::r,v=>by rw[Ap,OU us r,Bf,Ap];congr 1;exact hp.add _ _
def kE(ns:bf)(p:V3->Int)(us:a8)(t s:Int):Int:=if s=t then 0 else max (aDa (p (AF (cO ns s).n (cO ns s).l)) (p (atV us s))) 0
def aBJ(ns:bf)(us:a8)(t:Int):∀(B:ax) (v:V3),0<=p v->p v<=eW->p (B.foldl (BI ns us t) v)=(B.map (kE ns p us t)).foldl kQ (p v)
 | [],v,_,_=>rfl
 | s::r,v,h0,h1=>by
  rw[Ap,Bf,Ap];have e:p (BI ns us t v s)=kQ (p v) (kE ns p us t s):=by
   unfold BI kE;by_cases h:s=t
   .rw [bu (bq h),bu h,wG h0 h1 (Em _)];omega
   .rw [bt (by rw[bp h];decide),bt h,hp.add,hp.pos,hp.sub]
  have b:0<=kE ns p us t s:=by unfold kE;split<;>omega
  have a:0<=kQ (p v) (kE ns p us t s)/\kQ (p v) (kE ns p us t s)<=eW:=by
   rw[wG h0 h1 b];unfold eW at *
   omega
  rw[aBJ ns us t r _ (by rw[e];exact a.1) (by rw[e];exact a.2),e]
end
def aLW(c:Con)(l:a7):Z (ofL c l)=Z c.ns:=by unfold ofL nG;simp
def aLU{c:Con}{l:a7}(e:∀x∈l,(dem x.g).pos)(q:Rn->Bool)(s:Int):(0<=(atV (ofL c (l.filter q)) s).a/\0<=(atV (ofL c (l.filter q)) s).b/\0<=(atV (ofL c (l.filter q)) s).c)/\(atV (ofL c (l.filter q)) s).le (atV (ofL c l) s)/\((atV (ofL c l) s).a<=eW/\(atV (ofL c l) s).b<=eW/\(atV (ofL c l) s).c<=eW):=by
 by_cases hs:0<=s/\s.toNat<Z c.ns
 .rw [EB hs,EB hs];obtain⟨h1,d⟩:=AL (c:=c) (j:=s.toNat) q l V3.zero V3.zero e (ID _) RG;have h3:=(AL (c:=c) (j:=s.toNat) (λ_=>O) (l.filter q) V3.zero V3.zero (λx h=>e x (Fp.1 h).1) (ID _) RG).2;exact⟨⟨h3.1.1,h3.2.1.1,h3.2.2.1⟩,h1,d.1.2,d.2.1.2,d.2.2.2⟩
 .have z:∀l,atV (ofL c l) s=V3.zero:=λl=>by
   unfold atV;by_cases f:s<0
   .rw [bu (bq f)]
   .rw [bt (by rw[bp f];decide),Bp (by rw[aLW];omega)];rfl
  rw[z,z];exact⟨by decide,ID _,by decide⟩
def aEh(need:V3)(xs:a8)(h:Int)(j:Nat):((rQ need xs h)[j]?).getD V3.zero=if 0<=h/\h.toNat<Z xs/\h.toNat=j then AF ((xs[j]?).getD V3.zero) need else(xs[j]?).getD V3.zero:=by
 unfold rQ
 grind
def wiS(h:Int)(b:Bool)(y:Int):Bool:=if b=O then O else decide (y=h)
def LF(G hs:ax):Bool:=hs.all λh=>G.foldl (wiS h) U
def aRr(h n y:Int):Int:=if y=h then n+1 else n
def E6(h:Int)(l:ax):Int:=l.foldl (aRr h) 0
def aII(free:a8)(need:V3)(hs:ax)(h:Int):Bool:=if decide (h<0)=O then U else if decide ((Z free:Int)<=h)=O then U else !decide (dX ((free[h.toNat]?).getD V3.zero) need<E6 h hs)
def IZ(free:a8)(need:V3)(hs:ax):Bool:=hs.all (aII free need hs)
def chkG(free:a8)(need:V3)(hs:ax)(G:ax):Bool:=LF G hs&&IZ free need hs
def uK(c:Con)(free:a8)(g:Gan)(hs:ax):Bool:=if((Z hs:Int)=g.pods)then(gpL c g.lev).any (chkG free g.need hs)else U
theorem RC{c:Con}{lv a b:Int}(d:0<=lv)(h3:lv<=3):alB c lv a b=O↔xY c lv a=xY c lv b:=by rw[RB c lv a b d h3];simp
def aGJ{c:Con}{lv a b:Int}(d:0<=lv)(h3:lv<=3)(h:xY c lv a=xY c lv b):∀(s:List ax) (n:Nat),dI c lv a s n=dI c lv b s n
 | [],n=>rfl
 | g::r,n=>by unfold dI;rw[aGJ d h3 h r (n+1),RB c lv _ a d h3,RB c lv _ b d h3,h]
def aGI(c:Con)(lv i x:Int):∀(s:List ax) (k n:Nat),(∀g∈s,g≠[])->dI c lv i (s.set k ((s[k]?).getD []++[x])) n=dI c lv i s n
 | [],k,n,_=>by simp
 | g::r,0,n,h=>by
  have b:=h g (Aw ..);cases g with
  | nil=>exact bv rfl b
  | cons a t=>rfl
 | g::r,k+1,n,h=>by have d:=aGI c lv i x r k (n+1) (λg b=>h g (Bb _ b));show dI c lv i (g::r.set k ((r[k]?).getD []++[x])) n=_;unfold dI;rw[d]
def aBg(c:Con)(lv i:Int)(g:ax):∀(s:List ax) (n:Nat),dI c lv i (s++[g]) n=match dI c lv i s n with
   | some k=>X k
   | none=>if alB c lv (g.headD 0) i=O then X (n+Z s)else D
 | [],n=>by simp[dI]
 | q::r,n=>by
  show dI c lv i (q::(r++[g])) n=_;unfold dI;by_cases h:alB c lv (q.headD 0) i=O
  .rw [bu h,bu h]
  .rw [bt h,bt h,aBg c lv i g r (n+1)]
   grind
def aBf{c:Con}{lv i:Int}:∀{s:List ax} {n k:Nat},dI c lv i s n=X k->n<=k/\∃G,s[k-n]? =X G/\alB c lv (G.headD 0) i=O
 | [],n,k,h=>by cases h
 | g::r,n,k,h=>by
  unfold dI at h;by_cases h1:alB c lv (g.headD 0) i=O
  .grind
  .rw [bt h1]at h;obtain⟨b,G,h3,a⟩:=aBf h
   grind
def aOq(c:Con)(lv:Int)(m:Nat)(s:List ax):Prop:=
 (∀a:Nat,a<m->∃k G,dI c lv (a:Int) s 0=X k/\s[k]? =X G/\(a:Int)∈G)/\∀G∈s,G≠[]/\G.Nodup/\∀x∈G,0<=x/\x<(m:Int)/\alB c lv (G.headD 0) x=O
theorem aIn{c:Con}{lv:Int}(z:0<=lv)(h3:lv<=3){m:Nat}{s:List ax}(h:aOq c lv m s):aOq c lv (m+1) (rgS c lv s m):=by
 obtain⟨h1,o⟩:=h;have l:∀g∈s,g≠[]:=λg w=>(o g w).1;unfold rgS;cases n:dI c lv (m:Int) s 0 with
 | some k=>
  obtain⟨_,f,b,q⟩:=aBf n;rw[Nat.sub_zero]at b;have Be:k<Z s:=(Ad.1 b).1;have i:f∈s:=Ax b;refine⟨λa r=>?_,λG d=>?_⟩
  .show ∃e G,dI c lv (a:Int) (s.set k ((s[k]?).getD []++[(m:Int)])) 0=X e/\(s.set k ((s[k]?).getD []++[(m:Int)]))[e]? =X G/\(a:Int)∈G;rw[aGI c lv (a:Int) (m:Int) s k 0 l,b];by_cases j:a=m
   .grind [Ba]
   .obtain ⟨e,A,v,B,x⟩:=h1 a o_
    grind[Ba,Bg]
  .have d:G∈s.set k ((s[k]?).getD []++[(m:Int)]):=d;rw[b]at d;have d:G∈s.set k (f++[(m:Int)]):=d;rcases Dn d with d|rfl
   .grind
   .obtain ⟨p,C,F⟩:=o f i;have u:(f++[(m:Int)]).headD 0=f.headD 0:=by
     cases f with
     | nil=>exact bv rfl p
     | cons y t=>rfl
    grind[Cr]
 | none=>
  refine⟨λa r=>?_,λG d=>?_⟩
  .show ∃e G,dI c lv (a:Int) (s++[[(m:Int)]]) 0=X e/\(s++[[(m:Int)]])[e]? =X G/\(a:Int)∈G;rw[aBg];by_cases j:a=m
   .subst j;rw[n];refine⟨0+Z s,[(a:Int)],bu ((RC z h3).2 rfl),by simp,by simp⟩
   .obtain ⟨e,A,v,B,x⟩:=h1 a o_
    grind[Ai,Ad]
  grind[RC]
def QB{c:Con}{lv:Int}(f:0<=lv)(h3:lv<=3):aOq c lv (Z c.hs) (gpL c lv):=by
 rw[<-aGE];unfold rgL;rw[bt q_,bt q_];have key:∀m:Nat,aOq c lv m ((Dh m).foldl (rgS c lv) []):=λm=>by
  induction m with
  | zero=>exact⟨λa d=>by omega,λG b=>by cases b⟩
  | succ m e=>
   grind[Jh,aIn]
 exact key _
def aQu{c:Con}{lv d a b:Int}(h:lv<=d)(e:xY c lv a=xY c lv b):xY c d a=xY c d b:=by
 unfold xY ofK at *
 grind
def aQH{c:Con}{lv d:Int}(b:0<=lv)(h:lv<=d)(h3:d<=3){a:ax}(o:a∈gpL c lv):a.Nodup/\∃G∈gpL c d,∀x∈a,x∈G:=by
 obtain⟨_,i⟩:=QB (c:=c) b (Fw h h3);obtain⟨g,_⟩:=QB (c:=c) (Fw b h) h3;obtain⟨l,q,e⟩:=i a o;refine⟨q,?_⟩;have p:a.headD 0∈a:=by
  cases a with
  | nil=>exact bv rfl l
  | cons y t=>exact Aw ..
 obtain⟨F,Be,_⟩:=e _ p;have m:(a.headD 0)=((a.headD 0).toNat:Int):=o_;obtain⟨k,G,f,r,_⟩:=g (a.headD 0).toNat o_;rw[<-m]at f;refine⟨G,Ax r,λx u=>?_⟩;obtain⟨z,H,n⟩:=e x u;have j:=aQu h ((RC b (Fw h h3)).1 n);rw[aGJ (Fw b h) h3 j]at f;have s:x=(x.toNat:Int):=o_;obtain⟨A,C,v,w,B⟩:=g x.toNat o_
 grind
def Y8{free:a8}{g:Gan}:∀(b out:ax) (h:Int),h∈b.foldl (inS free g) out->h∈out\/(h∈b/\0<=h/\h<(Z free:Int))
 | [],out,h,a=>.inl a
 | u::r,out,h,a=>by
  rw[Ap]at a;rcases Y8 r _ h a with a|a
  .unfold inS at a
   grind
  .exact .inr ⟨Bb _ a.1,a.2⟩
def rmN(free:a8)(g:Gan)(h:Int):Nat:=(max (dX ((free[h.toNat]?).getD V3.zero) g.need) 0).toNat
def aME(free:a8)(g:Gan)(out:ax)(u h:Int):(inS free g out u).count h<=out.count h+(if u=h then rmN free g h else 0):=by
 unfold inS;split
 .omega
 .split
  .omega
  .rw [List.count_append,List.count_replicate];by_cases a:u=h
   .subst a;rw[bu rfl];simp only[beq_self_eq_true,if_true];unfold rmN inN;omega
   .rw [bt a];simp[a]
def aBV(free:a8)(g:Gan)(h:Int):∀(a out:ax),a.Nodup->(a.foldl (inS free g) out).count h<=out.count h+(if h∈a then rmN free g h else 0)
 | [],out,_=>by simp
 | u::r,out,hn=>by
  rw[Ap];have h1:=aBV free g h r (inS free g out u) (Ci.1 hn).2;have b:=aME free g out u h
  grind
def DN(h:Int):∀(l:ax) (n:Int),l.foldl (aRr h) n=n+(l.count h:Nat)
 | [],n=>by simp
 | y::r,n=>by
  rw[Ap,DN h r];unfold aRr
  grind
def AE{G hs:ax}:LF G hs=O↔ ∀h∈hs,h∈G:=by
 have key:∀(h:Int) (G:ax) (b:Bool),G.foldl (wiS h) b=O↔b=O\/h∈G:=λh G=>by
  induction G with
  | nil=>intro b;simp
  | cons y r a=>
   intro b;rw[Ap,a];unfold wiS
   grind
 unfold LF
 grind[Cj]
def aIK{c:Con}{free:a8}{g:Gan}(Be:aS g.need=O)(B:1<=g.pods)(hl:0<=g.pref/\g.pref<=g.lev/\g.lev<=3){x:Int×ax}(h:yK c free g=X x):
  (∀u∈x.2,0<=u/\u<(Z free:Int)/\((x.2.count u:Nat):Int)<=dX ((free[u.toNat]?).getD V3.zero) g.need)/\uK c free g x.2=true:=by
 have j:∀(p:List ax),fdG c free g p=X x->∃d∈p,x.2=inL free g d/\¬ (Z (inL free g d):Int)<g.pods:=λp=>by
  induction p with
  | nil=>intro h;cases h
  | cons d r q=>
   intro h;unfold fdG at h
   grind
 have i:∀(n:Nat) (lv:Int),fdL c free g n lv=X x->∃k,lv<=k/\k<lv+n/\fdG c free g (gpL c k)=X x:=λn=>by
  induction n with
  | zero=>intro lv h;cases h
  | succ n q=>
   intro lv h;unfold fdL at h
   grind
 unfold yK at h;obtain⟨k,F,A,y⟩:=i _ _ h;obtain⟨d,v,s,C⟩:=j _ y;have o:0<=k/\k<=g.lev:=o_;obtain⟨w,G,z,m⟩:=aQH o.1 o.2 hl.2.2 v;have t:(Z (inL free g d):Int)<=g.pods:=by
  have key:∀(l:ax) (out:ax),(Z out:Int)<=g.pods->(Z (l.foldl (inS free g) out):Int)<=g.pods:=λl=>by
   induction l with
   | nil=>intro out h;exact h
   | cons x r q=>intro out h;exact q _ (FQ free g out x h)
  exact key d [] q_
 have b:∀u∈x.2,u∈d/\0<=u/\u<(Z free:Int):=λu a=>by
  rw[s]at a;rcases Y8 d [] u a with a|a
  .cases a
  .exact a
 have f:∀u∈x.2,((x.2.count u:Nat):Int)<=dX ((free[u.toNat]?).getD V3.zero) g.need:=λu a=>by have h1:=aBV free g u d [] w;have H:0<x.2.count u:=List.count_pos_iff.2 a;rw[bu (b u a).1,show d.foldl (inS free g) []=x.2 from s.symm]at h1;unfold rmN at h1;simp only[List.count_nil]at h1;omega
 refine⟨λu a=>⟨(b u a).2.1,(b u a).2.2,f u a⟩,?_⟩;unfold uK;rw[bu (by rw[s];omega),Fy];refine⟨G,z,?_⟩;unfold chkG;rw[AE.2 λu a=>m u (b u a).1,Bz];unfold IZ;rw[Cj];intro u a;unfold aII;rw[bt (by have:=(b u a).2.1;simp;omega),bt (by have:=(b u a).2.2;simp;omega)];have:=f u a;have e:E6 u x.2=((x.2.count u:Nat):Int):=by unfold E6;rw[DN];omega
 rw[e];simp;omega
def RM{ns:bf}:∀(f:Nat) (s x:Int),x∈upF ns f s->x=s\/∃d∈ns,d.p=x
 | 0,s,x,h=>by cases h
 | f+1,s,x,h=>by
  unfold upF at h;by_cases b:0<=s
  .rw [bu (bq b)]at h;by_cases h1:s.toNat<Z ns
   .rw [dif_pos h1]at h;by_cases a:s<=(ns[s.toNat]).p
    .grind
    .rw [bt (by rw[bp a];decide)]at h;rcases Az.1 h with h|h
     .exact .inl h
     .rcases RM f _ x h with rfl|h
      .exact .inr ⟨_,Aq h1,rfl⟩
      .exact .inr h
   .rw [dif_neg h1]at h;cases h
  grind
def aD4{ns:bf}{t:Int}(h:bD ns t=O):∀d∈ns,d.p≠t:=by
 obtain⟨a,h1⟩:=vS h;unfold bD at h;rw[bu (bq a),bu (bq o_),J5]at h
 grind[Fy]
theorem aBH{ns:bf}{t s:Int}(h:bD ns t=O)(hs:t∈upL ns s):t=s:=by
 rcases RM _ _ _ hs with h1|⟨d,a,e⟩
 .exact h1
 .exact bv e (aD4 h d a)
def aA8{ns:bf}{t:Int}(a:0<=t)(h1:t.toNat<Z ns):t∈upL ns t:=by grind[RN,Aw]
def aMp{ns:bf}{t:Int}(h:bD ns t=O):t∈nA ns:=by
 obtain⟨d,h1⟩:=vS h;have key:∀(m i:Nat),i<=t.toNat->t.toNat<i+m->t∈lvF ns m i:=λm=>by
  induction m with
  | zero=>intro i a b;omega
  | succ m c=>
   intro i a b;unfold lvF
   grind
 exact key _ 0 o_ o_
def Y2{ns:bf}{t:Int}(h:bD ns t=O):bI ns t=[t]:=by
 obtain⟨f,h1⟩:=vS h;have c:=aA8 f h1;have d:∀s:Int,yA ns t s=if s=t then[t]else[]:=λs=>by
  unfold yA;by_cases e:s=t
  .subst e;rw[bu c,bu rfl]
  .rw [bt e,bt λq=>e (aBH h q).symm]
 have lo:∀(m i:Nat),t.toNat<i->(lvF ns m i).flatMap (yA ns t)=[]:=λm i j=>by rw[List.flatMap_eq_nil_iff];intro s hs;have:=P1 ns m i s hs;rw[d,bt o_]
 have key:∀(m i:Nat),i<=t.toNat->t.toNat<i+m->(lvF ns m i).flatMap (yA ns t)=[t]:=λm=>by
  induction m with
  | zero=>intro i a b;omega
  | succ m g=>
   intro i a b;unfold lvF
   grind
 exact key _ 0 o_ o_
section
variable {p:V3->Int} (hp:Prj p)
include hp
def uE(c:Con)(p:V3->Int)(j:Int)(x:Rn):Int:=if bD c.ns x.g.ten=O/\j∈upL c.ns x.g.ten then p (dem x.g)else 0
def aAF{c:Con}{j:Nat}:∀(l:a7) (v:V3),(∀x∈l,0<=p (dem x.g))->0<=p v->p v<=eW->p (l.foldl (sE c j) v)=min (p v+dA (l.map (uE c p (j:Int)))) eW/\0<=dA (l.map (uE c p (j:Int)))
 | [],v,_,h0,h1=>by
  show p v=min (p v+0) eW/\(0:Int)<=0;omega
 | x::r,v,hd,h0,h1=>by
  rw[Ap,Bf];show _=min (p v+(uE c p (j:Int) x+dA (r.map (uE c p (j:Int))))) eW/\0<=uE c p (j:Int) x+dA (r.map (uE c p (j:Int)));have h:=hd x (Aw ..);have e:p (sE c j v x)=min (p v+uE c p (j:Int) x) eW:=by
   unfold sE uE;by_cases a:bD c.ns x.g.ten=O/\(j:Int)∈upL c.ns x.g.ten
   .rw [bu a,bu a,hp.add,wG h0 h1 h]
   .rw [bt a,bt a];omega
  have i:0<=uE c p (j:Int) x:=by unfold uE;split<;>omega
  obtain⟨b,f⟩:=aAF r (sE c j v x) (λy d=>hd y (Bb _ d)) (by rw[e];unfold eW;omega) (by rw[e];unfold eW;omega);rw[b,e];unfold eW;omega
omit hp in
def aAX{α:Type}(f g:α->Int):∀(l:List α),dA (l.map λx=>f x+g x)=dA (l.map f)+dA (l.map g)
 | []=>rfl
 | x::r=>by
  rw[Bf,Bf,Bf];show f x+g x+dA _=(f x+dA _)+(g x+dA _)
  rw[aAX f g r];omega
omit hp in
def aAW{α:Type}(f:α->Int):∀(l:List α),(∀y∈l,0<=f y)->∀x∈l,f x<=dA (l.map f)
 | [],_,x,h=>by cases h
 | y::r,hf,x,h=>by
  rw[Bf];show f x<=f y+dA _;have h1:=nP (es:=r.map f) λe a=>by grind[Bb]
  have b:=hf y (Aw ..);rcases Az.1 h with rfl|h
  .omega
  .have:=aAW f r (λz hz=>hf z (Bb _ hz)) x h;omega
omit hp in
def aAU{α:Type}(f:α->Int):∀(l:List α),(∀y∈l,0<=f y)->min (dA (l.map f)) eW<=dA (l.map λy=>min (f y) eW)/\0<=dA (l.map f)
 | [],_=>by
  show min (0:Int) eW<=0/\(0:Int)<=0;unfold eW;omega
 | y::r,hf=>by
  rw[Bf,Bf];show min (f y+dA _) eW<=min (f y) eW+dA _/\0<=f y+dA _;have c:=hf y (Aw ..);obtain⟨a,b⟩:=aAU f r λz hz=>hf z (Bb _ hz);unfold eW at *
  omega
omit hp in
def N0{c:Con}{n:Int}:∀(l:a7),(∀x∈l,0<=p (dem x.g))->dA (l.map (uE c p n))<=dA ((bI c.ns n).map λs=>dA (l.map (uE c p s)))
 | [],_=>by
  show 0<=dA ((bI c.ns n).map λs=>(0:Int));exact nP λe h=>by
   grind
 | x::r,hd=>by
  have k:=N0 (c:=c) (n:=n) r λy i=>hd y (Bb _ i);have e:dA ((bI c.ns n).map λs=>dA ((x::r).map (uE c p s)))=dA ((bI c.ns n).map λs=>uE c p s x)+dA ((bI c.ns n).map λs=>dA (r.map (uE c p s))):=aAX _ _ _;rw[e,Bf];show uE c p n x+dA _<=_;have m:=hd x (Aw ..);have b:∀s∈bI c.ns n,0<=uE c p s x:=λs _=>by unfold uE;split<;>omega
  have h1:uE c p n x<=dA ((bI c.ns n).map λs=>uE c p s x):=by
   by_cases a:bD c.ns x.g.ten=O/\n∈upL c.ns x.g.ten
   .have d:x.g.ten∈bI c.ns n:=by unfold bI;rw[List.mem_flatMap];refine⟨x.g.ten,aMp a.1,?_⟩;unfold yA;rw[bu a.2];simp
    have:=aAW (λs=>uE c p s x) (bI c.ns n) b _ d;have f:uE c p x.g.ten x=uE c p n x:=by obtain⟨j,h1⟩:=vS a.1;unfold uE;rw[bu a,bu ⟨a.1,aA8 j h1⟩]
    rw[<-f];exact this
   .have f:uE c p n x=0:=by unfold uE;rw[bt a]
    rw[f];exact nP λe h=>by grind
  omega
def OG{c:Con}{l:a7}(f:∀x∈l,0<=p (dem x.g)){n:Int}(d:c.ok n):p (atV (ofL c l) n)=min (dA (l.map (uE c p n))) eW/\0<=dA (l.map (uE c p n)):=by
 have hz:p V3.zero=0:=hp.zero;obtain⟨a,b⟩:=aAF hp (c:=c) (j:=n.toNat) l V3.zero f (by rw[hz];exact Em _) (by rw[hz];decide);rw[EB d,a,hz];have e:((n.toNat:Nat):Int)=n:=by have:=d.1;omega
 rw[e]at b⊢;exact⟨by omega,b⟩
def aPl{c:Con}{l:a7}(a:∀x∈l,0<=p (dem x.g))(n:Int):p (jN c.ns n (ofL c l))=min (dA ((bI c.ns n).map λs=>min (dA (l.map (uE c p s))) eW)) eW:=by
 have hz:p V3.zero=0:=hp.zero;have e:(bI c.ns n).map (λt=>p (atV (ofL c l) t))=(bI c.ns n).map λs=>min (dA (l.map (uE c p s))) eW:=List.map_congr_left λs hs=>(OG hp a (jL c n s hs)).1;unfold jN
 rw[OU hp,e,hz,A2 (Em _) d_ λe b=>by
  obtain⟨s,hs,rfl⟩:=Cq.1 b;have:=(OG hp a (jL c n s hs)).2;unfold eW
  omega]
 omega
def W8{c:Con}{l:a7}(b:∀x∈l,0<=p (dem x.g)){n:Int}(d:c.ok n):p (atV (ofL c l) n)<=p (jN c.ns n (ofL c l))/\0<=p (atV (ofL c l) n)/\p (jN c.ns n (ofL c l))<=eW:=by
 obtain⟨a,e⟩:=OG hp b d;rw[a,aPl hp b n];have h1:=N0 (p:=p) (c:=c) (n:=n) l b;obtain⟨f,h3⟩:=aAU (λs=>dA (l.map (uE c p s))) (bI c.ns n) λs hs=>(OG hp b (jL c n s hs)).2;unfold eW at *
 omega
def aIb(ns:bf)(us:a8)(n t:Int):0<=p (BJ ns us n t):=by
 have hz:p V3.zero=0:=hp.zero;have a:∀e∈(bI ns n).map (kE ns p us t),0<=e:=λe b=>by obtain⟨s,_,rfl⟩:=Cq.1 b;unfold kE;split<;>omega
 have c:=nP a;unfold BJ;rw[aBJ hp _ _ _ _ _ (by rw[hz];exact Em _) (by rw[hz];decide),hz,A2 (Em _) d_ a];unfold eW;omega
def Q8{c:Con}{l:a7}(f:∀x∈l,0<=p (dem x.g)){need:V3}(i:0<=p need){n t:Int}(e:c.ok n):p (eU (atV (ofL c l) n) need)<=p (eU (eU (jN c.ns n (ofL c l)) need) (BJ c.ns (ofL c l) n t)):=by obtain⟨h1,m,h3⟩:=W8 hp f e;have h:=aIb hp c.ns (ofL c l) n t;rw[hp.add,hp.add,hp.add];have j:=xV (d:=p need) h1;have b:=RD (a:=p (jN c.ns n (ofL c l))) o_ i;have k:=F1 b.1 b.2 h;omega
end
def DV(x y z:Int):kQ (kQ (kQ 0 x) 0) y=kQ x y/\kQ (kQ 0 x) y=kQ x y:=by unfold kQ gL;omega
def aCY(x y:V3):eU (eU V3.zero x) y=eU x y:=by unfold eU V3.map2 V3.zero;rw[(DV x.a y.a 0).2,(DV x.b y.b 0).2,(DV x.c y.c 0).2]
def aHJ{c:Con}{t:Int}(h:c.ok t):atV (mY c.ns) t=(cO c.ns t).n:=by
 obtain⟨a,h1⟩:=h;unfold atV mY
 grind
def aBC(c:Con)(t n:Int):V3:=if n=t then eU (jN c.ns n (mY c.ns)) (cO c.ns n).b else jN c.ns n (mY c.ns)
def TC{c:Con}{l:a7}{x:Rn}(j:∀y∈l,(dem y.g).pos)(k:(dem x.g).pos)(h:E2 c (ofL c l) x.g.ten (dem x.g)=O):∀n∈bT c.ns x.g.ten,c.ok n/\cD (atV (ofL c (l++[x])) n) (aBC c x.g.ten n)=true:=by
 intro n i;unfold bT at i;rw[Iz]at i;have a:c.ok n:=OJ c _ _ _ i;refine⟨a,?_⟩;unfold E2 at h;by_cases hl:bD c.ns x.g.ten=O
 .rw [bu hl,Cj]at h;have b:=h n i;have e:atV (ofL c (l++[x])) n=eU (atV (ofL c l) n) (dem x.g):=by rw[EB a,EB a,Lw];show sE c n.toNat _ x=_;unfold sE;rw[bu ⟨hl,by rw[show((n.toNat:Nat):Int)=n from by have:=a.1;omega];exact i⟩]
  rw[e];unfold P0 at b;unfold aBC;by_cases f:n=x.g.ten
  .rw [bu (bq f)]at b;rw[bu f];unfold aDS at b;have m:jN c.ns n (mY c.ns)=eU V3.zero (cO c.ns n).n:=by unfold jN;rw[Y2 (by rw[f];exact hl)];show eU V3.zero (atV (mY c.ns) n)=_;rw[aHJ a]
   rw[m,aCY];exact b
  .rw [bt (by rw[bp f];decide)]at b;rw[bt f];unfold aAp at b;rw[AI]at b⊢;exact⟨Fw (Q8 aLN (λy d=>(j y d).1) k.1 a) b.1,Fw (Q8 aLM (λy d=>(j y d).2.1) k.2.1 a) b.2.1,Fw (Q8 aLL (λy d=>(j y d).2.2) k.2.2 a) b.2.2⟩
 .rw [bt hl]at h;cases h
end Go.Proofs.YtenkdioaefckoaaGreatDoor
