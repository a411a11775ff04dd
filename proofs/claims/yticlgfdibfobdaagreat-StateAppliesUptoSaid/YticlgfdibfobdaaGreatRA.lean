/-
  The references, as walks; who must give way; what fits leaves nobody overfull.
-/
import Derived.Test.YticlgfdibfobdaaGreatHA
set_option linter.all false
set_option maxHeartbeats 1000000
open And renaming intro->Aa
open Bool renaming and_eq_true->Ag,eq_iff_iff->Kl,false_eq_true->Ct,false_or->Li,or_eq_false_iff->Ie,true_and->Bo
open Exists renaming intro->Ah
open Go.World renaming ownsRow_nil->Hg
open Iff renaming rfl->Mv
open Int renaming le_refl->Ds,le_trans->Ft,mul_nonneg->Je,tdiv->Hd,tdiv_eq_ediv_of_nonneg->Ky,toNat_natCast->Cz,toNat_of_nonneg->Iq
open List renaming all_cons->Ei,all_eq_true->Cu,any_cons->Gs,any_eq_true->Ij,append_assoc->Aj,append_nil->Bc,count_cons_of_ne->Mb,count_cons_self->Mf,drop->Fp,drop_drop->Ig,drop_eq_getElem_cons->Ac,drop_eq_nil_of_le->Ae,drop_zero->Bn,eq_nil_of_length_eq_zero->Av,ext_getElem?->Ek,filter_cons->Gv,filter_cons_of_neg->Gi,filter_cons_of_pos->Gh,filter_eq_self->Hh,filter_sublist->Ir,flatMap_cons->Ia,foldl_append->Jk,foldl_cons->Al,getElem?_append_left->Af,getElem?_append_right->Ak,getElem?_cons_succ->Eu,getElem?_drop->Bv,getElem?_eq_getElem->Ab,getElem?_eq_none->Bh,getElem?_eq_some_iff->Ad,getElem?_map->Bj,getElem?_range->Dm,getElem?_replicate->Ew,getElem?_set->Fs,getElem?_set_ne->Aw,getElem?_set_self->Ap,getElem?_take_of_lt->Bg,getElem_mem->Bb,getElem_of_mem->Gn,length_append->Ay,length_cons->Bq,length_filter_le->Dw,length_nil->Fv,length_reverse->Ip,length_set->Dp,map_append->Cc,map_cons->Bp,map_set->Gc,mem_append->Az,mem_cons->Au,mem_cons_of_mem->Bd,mem_cons_self->Ax,mem_filter->Fk,mem_map->Ce,mem_of_getElem?->Aq,mem_or_eq_of_mem_set->Df,mem_replicate->Ga,mem_reverse->Hj,mem_take_iff_getElem->Im,nodup_append->Bu,nodup_cons->Cg,pairwise_append->Bz,pairwise_cons->Br,pairwise_iff_getElem->Dn,perm_append_comm->Dl,prefix_refl->Cl,range->Dh,range'->Le,range'_succ->Ju,range_eq_range'->Ic,range_succ->Ko,replicate->Ai,reverse_cons->Jj,take->Et,take_append_drop->Bk,take_append_getElem->Iw,take_append_of_le_length->Db,take_of_length_le->Cb,take_zero->Hi
open List.Perm renaming append_left->Dk,refl->Fb
open List.Sublist renaming refl->Lf
open List.cons renaming injEq->Kn
open Nat renaming add_sub_cancel->Gx,le_refl->Ba,le_trans->Co,sub_zero->Jl,zero_add->Bw,zero_le->Cn
open Ne renaming symm->Eg
open Or renaming inl->Fo
open Prod renaming fst->Lo
namespace Go.Proofs.YticlgfdibfobdaaGreat
open Go Go.AW Go.Proofs
set_option maxRecDepth 10000
theorem zqra0 {P:Prop} (h:P:=by
 by_cases h1:0<=n
 .rw [if_pos (decide_eq_true h1)] at a
  by_cases d:n.toNat<c.ns.length
  .rw [dif_pos d] at a
   have e:=e h1 d
   generalize l:c.ns[n.toNat]=x at a
   have get:(nav c.ns)[n.toNat]? =some x.av:=(fM d).trans (by rw [l])
   have r:n=(n.toNat:Int):=o_
   by_cases h3:n<=x.p
   .rw [if_pos (decide_eq_true h3)] at a
    have a:n::b=R:=a
    subst a
    refine gV ?_
    exact zW
   .rw [if_neg (by rw [decide_eq_false h3];decide),Jj,Aj] at a
    have next:=o x.p (n::b) .no (.inr rfl) (fun _=>by have:=i h1;omega) (fun _ _=>by simp;omega) a
    refine gV ?_
    exact zW
  .rw [dif_neg d] at a
   have a:b=R:=a
   subst a
   refine gV ?_
   exact zW
 .rw [if_neg (by rw [decide_eq_false h1];decide)] at a
  have a:b=R:=a
  subst a
  refine gV ?_
  exact zW):P:=h
theorem zqra1 {P:Prop} (h:P:=by
 subst d
 refine cT (E:=(Er [] [16,17,18,19,20])) (fn:=Tryz.f297) (g:=.pure _) fun _=>?_
 refine cD (hEr [] [16,17,18,19,20]) 10 ?_;conv=>whnf
 refine To.cutC [1,2,3,4,8] 1 rfl rfl rfl rfl ?_
 refine AY c _ a b ?_
 exact zW):P:=h
theorem zqra2 {P:Prop} (h:P:=by
 refine gV ?_
 refine ⟨j,rfl,?_⟩
 refine gV ?_
 refine ⟨_,f,?_⟩
 exact zW):P:=h
theorem zqra3 {P:Prop} (h:P:=by
 unfold aX at h
 by_cases h1:0<=t
 .rw [if_pos (decide_eq_true h1)] at h
  by_cases a:t<(ns.length:Int)
  .omega
  .rw [if_neg (by rw [decide_eq_false a];decide)] at h
   cases h
 .rw [if_neg (by rw [decide_eq_false h1];decide)] at h
  cases h):P:=h
theorem zqra4 {P:Prop} (h:P:=by
 subst c
 refine c_ Tryz.f242 fun _=>?_
 have hz1:=fun d=>IQ d
 exact zW):P:=h
theorem zqra5 {P:Prop} (h:P:=by
 rw [Ae o_] at b
 have b:a++[]=R:=b
 rw [Bc] at b
 subst b
 refine gV ?_
 exact zW):P:=h
theorem zqra6 {P:Prop} (h:P:=by
 exact To.cut [0,2,3,4,5] 4 rfl rfl rfl rfl next):P:=h
theorem zqra7 {P:Prop} (h:P:=by
 subst a
 exact c_ Tryz.f270 fun _=>zW):P:=h
theorem zqra8 {P:Prop} (h:P:=by
 rcases c.inv with ⟨e,h⟩ | ⟨e,h⟩
 .subst e
  refine gV ?_
  exact zW
 .subst e
  refine gV ?_
  exact zW):P:=h
theorem zqra9 {P:Prop} (h:P:=by
 subst a
 refine cT (E:=(Er [5] [])) (fn:=Tryz.f262) (g:=.pure _) fun _=>?_
 exact zW):P:=h
theorem zqra10 {P:Prop} (h:P:=by
 refine cT (E:=(Eo [8,12] [])) (fn:=Tryz.f146) (g:=.pure _) fun _=>?_
 exact zW):P:=h
theorem zqra11 {P:Prop} (h:P:=by
 obtain ⟨p,o,f⟩:=u G d
 exact ⟨p,o,fun x b=>⟨(f x b).1,by have:=(f x b).2.1;omega,(f x b).2.2⟩⟩):P:=h
theorem zqra12 {P:Prop} (h:P:=by
 exact c_ Tryz.f135 fun _=>zW):P:=h
theorem zqra13 {P:Prop} (h:P:=by
 rw [if_neg (by rw [e];decide)] at b
 rw [e] at h1
 have next:=k ids o_ f b
 exact zW):P:=h
theorem zqra14 {P:Prop} (h:P:=by
 refine cT (E:=(Eo [9] [])) (fn:=Tryz.f192) (g:=.pure _) fun _=>?_
 exact zW):P:=h
theorem zqra15 {P:Prop} (h:P:=by
 exact c_ Tryz.f257 fun _=>zW):P:=h
theorem zqra16 {P:Prop} (h:P:=by
 refine cT (E:=E) (fn:=Tryz.f249) (g:=.full 3 _ _) fun _=>?_
 exact zW):P:=h
theorem zqra17 {P:Prop} (h:P:=by
 refine cT (E:=E) (fn:=Tryz.f253) (g:=.full 2 _ _) fun _=>?_
 exact zW):P:=h
theorem zqra18 {P:Prop} (h:P:=by
 rw [if_pos e] at b
 rw [e] at h1
 have next:=k (cN ids a) o_ o_ b
 exact zW):P:=h
theorem zqra19 {P:Prop} (h:P:=by
 intro i g a
 rw [Ae o_] at a
 have a:false=r:=a
 subst a
 refine gV ?_
 exact zW):P:=h
theorem ID (n m:Int) (a:0<=m) (h1:m<=1099511627776):aA Tryz.prog 266 [ii n,ii m] [] (.ret (ii (fL n m))) []:=by
 have e:fL n m=max (0-m) (min n m):=by unfold fL;omega
 rw [e]
 exact c_ Tryz.f266 fun _=>zW
theorem kO (a b:V3):aA Tryz.prog 208 [a.av,b.av] [] (.ret (dL a b).av) []:=by
 have j:=fK a.a 1099511627776 d_
 have d:=fK a.b 1099511627776 d_
 have k:=fK a.c 1099511627776 d_
 have e:=fK b.a 1099511627776 d_
 have i:=fK b.b 1099511627776 d_
 have h:=fK b.c 1099511627776 d_
 refine c_ Tryz.f208 fun _=>?_
 repeat' first
  | (refine gW hE ?_;conv=>whnf)
  | refine .pure _ [] (ID _ _ d_ d_) ?_
  | exact rfl
  | refine aY ?_
  | refine aN ?_
  | refine aJ ?_
  | refine Ah _ (Aa rfl ?_)
  | refine Aa d_ ?_
theorem H6 (a b:V3):aA Tryz.prog 264 [a.av,b.av] [] (.ret (uJ a b).av) []:=by
 have j:=fK a.a 1099511627776 d_
 have d:=fK a.b 1099511627776 d_
 have k:=fK a.c 1099511627776 d_
 have e:=fK b.a 1099511627776 d_
 have i:=fK b.b 1099511627776 d_
 have h:=fK b.c 1099511627776 d_
 refine c_ Tryz.f264 fun _=>?_
 repeat' first
  | (refine gW hE ?_;conv=>whnf)
  | refine .pure _ [] (ID _ _ d_ d_) ?_
  | exact rfl
  | refine aY ?_
  | refine aN ?_
  | refine aJ ?_
  | refine Ah _ (Aa rfl ?_)
  | refine Aa d_ ?_
theorem TJ (a:V3) (n:Int):aA Tryz.prog 261 [a.av,ii n] [] (.ret (OT a n).av) []:=by
 have e:=T3 a.a n
 have d:=T3 a.b n
 have h:=T3 a.c n
 refine c_ Tryz.f261 fun _=>?_
 repeat' first
  | (refine gW hE ?_;conv=>whnf)
  | refine .pure _ [] (ID _ _ d_ d_) ?_
  | exact rfl
  | refine aY ?_
  | refine aN ?_
  | refine aJ ?_
  | refine Ah _ (Aa rfl ?_)
  | refine Aa d_ ?_
theorem IC (g:Gan):aA Tryz.prog 203 [g.av] [] (.ret (dem g).av) []:=by
 refine c_ Tryz.f203 fun _=>?_
 have a:=TJ g.need g.pods
 exact zW
theorem aBf (l:List V3) (n:Int) (r:V3) (a:atV l n=r):aA Tryz.prog 257 [.slice 3 (vav l) .no,ii n] [] (.ret r.av) []:=by
 have hl:(vav l).length=l.length:=by simp
 unfold atV at a
 by_cases h1:n<0
 .rw [if_pos (decide_eq_true h1)] at a
  subst a
  exact zqra15
 .rw [if_neg (by rw [decide_eq_false h1];decide)] at a
  by_cases b:n.toNat<l.length
  .rw [Ab b] at a
   have get:=kL b
   have a:l[n.toNat]=r:=a
   rw [a] at get
   have c:n=(n.toNat:Int):=o_
   exact zqra15
  .rw [Bh o_] at a
   subst a
   exact zqra15
theorem vE (l:List V3) (n:Int):aA Tryz.prog 257 [.slice 3 (vav l) .no,ii n] [] (.ret (atV l n).av) []:=aBf l n _ rfl
theorem EC (n:Int):∀ (l:List Nod) (i:Nat),decide (0<=findP n l i)=l.any fun x=>x.p==n
 | [],i=>by simp [findP]
 | x::r,i=>by
  unfold findP
  rw [Gs]
  by_cases h:x.p=n
  .simp [h]
  .have:=EC n r (i+1)
   simp [h,this]
theorem OO (l:List Nod) (n:Int):(l.all fun x=>!(x.p==n))= !(l.any fun x=>x.p==n):=by
 induction l with
 | nil=>rfl
 | cons x r a=>rw [Ei,Gs,a];cases (x.p==n)<;>simp
theorem qH (ns:List Nod) (t:Int):rlB ns t=aX ns t:=by
 unfold rlB aX
 rw [EC,OO]
 generalize (ns.any fun x=>x.p==t)=b
 by_cases h1:t<0
 .have a:¬ 0<=t:=o_
  simp [h1,a]
 .have h3:0<=t:=o_
  by_cases a:(ns.length:Int)<=t
  .have c:¬ t<(ns.length:Int):=o_
   simp [h1,h3,a,c]
  .have c:t<(ns.length:Int):=o_
   simp [h1,h3,a,c]
def bD (ns:List Nod) (n:Int):List Int:=(upL ns n).reverse
theorem GQ {α β:Type} (f:β->α->β) (a:∀ b x y,f (f b x) y=f (f b y) x):∀ (l:List α) (b:β),l.reverse.foldl f b=l.foldl f b
 | [],b=>rfl
 | x::r,b=>by
  have h:∀ (l:List α) (b:β),l.foldl f (f b x)=f (l.foldl f b) x:=fun l=>by
   induction l with
   | nil=>intro b;rfl
   | cons y r c=>intro b;rw [Al,Al,a,c]
  rw [Jj,Jk,GQ f a r b]
  show f (r.foldl f b) x=r.foldl f (f b x)
  rw [h]
def sN (v:V3) (xs:List V3) (k:Int):List V3:=xs.set k.toNat (dL ((xs[k.toNat]?).getD V3.zero) v)
theorem OQ (v:V3) (xs:List V3) (k:Int):(sN v xs k).length=xs.length:=by unfold sN;simp
theorem oF (v:V3) (xs:List V3) (k:Int) (j:Nat):(sN v xs k)[j]? =if k.toNat=j then (xs[j]?).map fun x=>dL x v else xs[j]?:=by
 unfold sN
 rw [Fs]
 by_cases h:k.toNat=j
 .subst h
  rw [if_pos rfl,if_pos rfl]
  by_cases a:k.toNat<xs.length
  .rw [if_pos a,Ab a]
   rfl
  .rw [if_neg a,Bh o_]
   rfl
 .rw [if_neg h,if_neg h]
theorem ZG (v:V3) (xs:List V3) (a b:Int):sN v (sN v xs a) b=sN v (sN v xs b) a:=by
 refine Ek fun j=>?_
 rw [oF,oF,oF,oF]
 by_cases h1:a.toNat=j<;>by_cases c:b.toNat=j<;>simp [h1,c]
def zQ (c:Con) (xs:List V3) (x:Rn):List V3:=if aX c.ns x.g.ten=true then (bD c.ns x.g.ten).foldl (sN (dem x.g)) xs else xs
def aAM (c:Con) (l:List Rn):List V3:=l.foldl (zQ c) (Ai c.ns.length V3.zero)
theorem sX (v:V3):∀ (ks:List Int) (xs:List V3),(ks.foldl (sN v) xs).length=xs.length
 | [],_=>rfl
 | k::r,xs=>by rw [Al,sX v r,OQ]
theorem aAK (c:Con) (xs:List V3) (x:Rn):(zQ c xs x).length=xs.length:=by
 unfold zQ
 split
 .exact sX _ _ _
 .rfl
def pX (L:Led):Prop:=(L.map Lo).Nodup
theorem FY (n:Int) (v:V3):∀ (L:Led) (k:Int),k∈(xG L n v).map Lo->k=n\/k∈L.map Lo
 | [],k,h=>by simp [xG] at h;exact .inl h
 | (j,w)::r,k,h=>by
  unfold xG at h
  split at h
  .rename_i a
   simp only [Bp,Au] at h⊢
   rcases h with rfl | h
   .exact .inl rfl
   .exact .inr (.inr h)
  .simp only [Bp,Au] at h⊢
   rcases h with rfl | h
   .exact .inr (.inl rfl)
   .rcases FY n v r k h with h | h
    .exact .inl h
    .exact .inr (.inr h)
theorem aBZ (n:Int) (v:V3):∀ (L:Led),pX L->pX (xG L n v)
 | [],_=>by simp [xG,pX]
 | (j,w)::r,h=>by
  have h1:=(Cg.1 h)
  unfold xG
  split
  .rename_i a
   subst a
   exact h
  .rename_i a
   refine Cg.2 ⟨fun hm=>?_,aBZ n v r h1.2⟩
   rcases FY n v r _ hm with h | h
   .exact a h
   .exact h1.1 h
theorem F1 (n:Int):∀ (L:Led) (k:Int),k∈(CR L n).map Lo->k∈L.map Lo
 | [],k,h=>h
 | (j,w)::r,k,h=>by
  unfold CR at h
  simp only [Bp,Au]
  split at h
  .exact .inr h
  .simp only [Bp,Au] at h
   rcases h with h | h
   .exact .inl h
   .exact .inr (F1 n r k h)
theorem aB6 (n:Int):∀ (L:Led),pX L->pX (CR L n)
 | [],h=>h
 | (j,w)::r,h=>by
  have h1:=(Cg.1 h)
  unfold CR
  split
  .exact h1.2
  .exact Cg.2 ⟨fun hm=>h1.1 (F1 n r _ hm),aB6 n r h1.2⟩
theorem M6:∀ (L:Led) (n:Int),n∉L.map Lo->iJ L n=none
 | [],n,h=>rfl
 | (j,w)::r,n,h=>by
  simp only [Bp,Au,not_or] at h
  unfold iJ
  rw [if_neg (fun e=>h.1 e.symm)]
  exact M6 r n h.2
theorem M5 (n:Int) (v:V3) (k:Int):∀ (L:Led),iJ (xG L n v) k=if k=n then some v else iJ L k
 | []=>by
  unfold xG iJ iJ
  by_cases h:k=n
  .rw [if_pos h,if_pos h.symm]
  .rw [if_neg h,if_neg (fun e=>h e.symm)]
 | (j,w)::r=>by
  have b:=M5 n v k r
  unfold xG
  split
  .rename_i a
   subst a
   unfold iJ
   by_cases h:k=j
   .rw [if_pos h,if_pos h.symm]
   .rw [if_neg h,if_neg (fun e=>h e.symm),if_neg (fun e=>h e.symm)]
  .rename_i a
   unfold iJ
   rw [b]
   by_cases h:j=k
   .rw [if_pos h,if_pos h,if_neg (fun e=>a (h.trans e))]
   .rw [if_neg h,if_neg h]
theorem M7 (n:Int) (k:Int):∀ (L:Led),pX L->iJ (CR L n) k=if k=n then none else iJ L k
 | [],_=>by
  unfold CR iJ
  split<;>rfl
 | (j,w)::r,h=>by
  have h1:=(Cg.1 h)
  have c:=M7 n k r h1.2
  unfold CR
  split
  .rename_i b
   subst b
   by_cases a:k=j
   .rw [if_pos a,a]
    exact M6 r j h1.1
   .rw [if_neg a]
    conv=>rhs;unfold iJ
    rw [if_neg (fun e=>a e.symm)]
  .rename_i b
   unfold iJ
   rw [c]
   by_cases a:j=k
   .rw [if_pos a,if_pos a,if_neg (fun e=>b (a.trans e))]
   .rw [if_neg a,if_neg a]
theorem aCf {v:V3} (h:isZ v=true):v=V3.zero:=by
 obtain ⟨a,b,c⟩:=v
 unfold isZ at h
 simp at h
 obtain ⟨rfl,rfl,rfl⟩:=h
 rfl
theorem aJb {L:Led} (h:pX L) (n:Int) (v:V3):pX (MX L n v):=by
 unfold MX
 split
 .exact aB6 n L h
 .exact aBZ n v L h
theorem aBY {L:Led} (h:pX L) (n:Int) (v:V3) (k:Int):pI (MX L n v) k=if k=n then v else pI L k:=by
 unfold MX pI
 split
 .rename_i hz
  rw [M7 n k L h]
  by_cases a:k=n
  .rw [if_pos a,if_pos a,aCf hz];rfl
  .rw [if_neg a,if_neg a]
 .rw [M5]
  by_cases a:k=n
  .rw [if_pos a,if_pos a];rfl
  .rw [if_neg a,if_neg a]
theorem ED (n:Nat) (L:Led) (j:Nat):(mG n L)[j]? =if j<n then some (pI L (j:Int)) else none:=by
 unfold mG
 rw [Bj]
 by_cases h:j<n
 .rw [if_pos h,Dm h];rfl
 .rw [if_neg h,Bh q_];rfl
theorem aGP {n:Nat} {L:Led} (h:pX L) (v:V3) (k:Int) (b:0<=k) (c:k.toNat<n):mG n (xW v L k)=sN v (mG n L) k:=by
 refine Ek fun j=>?_
 rw [oF,ED,ED]
 unfold xW
 rw [aBY h]
 by_cases h1:j<n
 .rw [if_pos h1,if_pos h1]
  by_cases a:k.toNat=j
  .rw [if_pos a,if_pos o_]
   have:k=(j:Int):=o_
   rw [this]
   rfl
  .rw [if_neg a,if_neg o_]
 .rw [if_neg h1,if_neg h1]
  split<;>rfl
theorem aLA {L:Led} (h:pX L) (v:V3) (k:Int):pX (xW v L k):=aJb h _ _
theorem N3 {n:Nat} (v:V3):∀ (ks:List Int) (L:Led),pX L->(∀ k∈ks,0<=k/\k.toNat<n)->mG n (ks.foldl (xW v) L)=ks.foldl (sN v) (mG n L)/\pX (ks.foldl (xW v) L)
 | [],L,h,_=>⟨rfl,h⟩
 | k::r,L,h,hk=>by
  have h1:=hk k s_
  obtain ⟨c,b⟩:=N3 v r (xW v L k) (aLA h v k) fun x a=>hk x (by simp [a])
  exact ⟨by rw [Al,c,aGP h v k h1.1 h1.2];rfl,b⟩
theorem HP (ns:List Nod):∀ (f:Nat) (n x:Int),x∈upF ns f n->0<=x/\x.toNat<ns.length
 | 0,n,x,h=>by simp [upF] at h
 | f+1,n,x,h=>by
  unfold upF at h
  split at h
  .rename_i a
   have a:=of_decide_eq_true a
   split at h
   .rename_i h1
    split at h
    .simp at h;subst h;exact ⟨a,h1⟩
    .rcases Au.1 h with rfl | h
     .exact ⟨a,h1⟩
     .exact HP ns f _ x h
   .simp at h
  .simp at h
theorem QC (c:Con) (L:Led) (h:pX L) (x:Rn):mG c.ns.length (tK c L x)=zQ c (mG c.ns.length L) x/\pX (tK c L x):=by
 unfold tK zQ bD
 split
 .obtain ⟨b,a⟩:=N3 (n:=c.ns.length) (dem x.g) (upL c.ns x.g.ten) L h fun k d=>HP _ _ _ _ d
  exact ⟨by rw [b,GQ _ (ZG _)],a⟩
 .exact ⟨rfl,h⟩
theorem aHo (c:Con) (l:List Rn):aAM c l=ofL c l:=by
 have key:∀ (l:List Rn) (L:Led),pX L->l.foldl (zQ c) (mG c.ns.length L)=mG c.ns.length (l.foldl (tK c) L):=fun l=>by
  induction l with
  | nil=>intro L _;rfl
  | cons x r d=>
   intro L h
   obtain ⟨e,b⟩:=QC c L h x
   rw [Al,Al,<-e,d _ b]
 have a:mG c.ns.length []=Ai c.ns.length V3.zero:=by
  refine Ek fun j=>?_
  rw [ED,Ew]
  rfl
 unfold aAM ofL
 rw [<-a,key l [] (by simp [pX])]
noncomputable abbrev aHw:Func:=Tryz.f315
theorem W4 (c:Con) (j:c.sm) (R:List Int):∀ (m i:Nat) (a:List Int),i+m=c.ns.length->a.length<=i->a++lvF c.ns m i=R->
  To (Eo [3] []) aHw (.pure (.ret (.slice 1 (iv R) .no))) (.head (stk aHw 0) [(1,.ref 0 0),(3,.slice 1 (iv a) (.own 1 0)),(4,.int .i64 i)] [.cells 26 c.cs,.tail 0 1 3]):=by
 have g:(nav c.ns).length=c.ns.length:=by simp
 have h1:=j.ns
 intro m
 induction m with
 | zero=>
  intro i a n o b
  unfold lvF at b
  rw [Bc] at b
  subst b
  refine gV ?_
  exact zW
 | succ m k=>
  intro i a n o b
  have l:(iv a).length=a.length:=by simp
  have f:=iG c j i
  rw [qH] at f
  unfold lvF at b
  refine gV ?_
  refine aT fun h=>?_
  refine gV ?_
  refine .pure _ [] f ?_
  refine gV ?_
  refine Aa (fun d=>?_) (fun d=>?_)
  .have d:aX c.ns (i:Int)=true:=d
   rw [if_pos d] at b
   have next:=k (i+1) (a++[(i:Int)]) o_ q_ (by rw [Aj];exact b)
   have e:iv (a++[(i:Int)])=iv a++[ii i]:=by simp
   rw [e] at next
   exact zW
  .have d:aX c.ns (i:Int)=false:=d
   rw [if_neg (by rw [d];decide)] at b
   have next:=k (i+1) a o_ o_ b
   exact zW
theorem aEU (c:Con) (b:c.sm):aA Tryz.prog 315 [c.av] [] (.ret (.slice 1 (iv (kR c.ns)) .no)) []:=by
 refine cT (E:=(Eo [3] [])) (fn:=Tryz.f315) (g:=.pure _) fun _=>?_
 have a:=W4 c b _ c.ns.length 0 [] o_ s_ rfl
 exact zW
noncomputable abbrev aCJ:Func:=Tryz.f207
theorem PD (c:Con) (s:c.sm) (R:List Int):∀ (f:Nat) (n:Int) (b:List Int) (g:Tk),(g= .nil\/g= .no)->(0<=n->n.toNat<f)->(0<=n->n.toNat<c.ns.length->b.length+n.toNat<1048577)->(upF c.ns f n).reverse++b=R->
  To E aCJ (.pure (.ret (.slice 1 (iv R) .no))) (.head (stk aCJ 0) [(1,ii n),(2,.ref 0 0),(5,.slice 1 (iv b) g)] [.cells 26 c.cs]):=by
 have m:(nav c.ns).length=c.ns.length:=by simp
 have q:=s.ns
 intro f
 induction f with
 | zero=>
  intro n b g k i e a
  have j:(iv b).length=b.length:=by simp
  have h1:¬ 0<=n:=fun h=>by have:=i h;omega
  have a:b=R:=a
  subst a
  rcases k with rfl | rfl
  .refine gV ?_
   exact zW
  .refine gV ?_
   exact zW
 | succ f o=>
  intro n b g k i e a
  have j:(iv b).length=b.length:=by simp
  unfold upF at a
  rcases k with rfl | rfl
  .exact zqra0
  .exact zqra0
theorem qG (c:Con) (a:c.sm) (n:Int):aA Tryz.prog 207 [c.av,ii n] [] (.ret (.slice 1 (iv (bD c.ns n)) .no)) []:=by
 have b:=a.ns
 refine c_ Tryz.f207 fun _=>?_
 refine gV ?_
 refine To.part [1,2,5] [0] rfl rfl rfl ?_
 exact PD c a _ (n.toNat+1) n [] .nil (.inl rfl) (fun _=>by omega) (fun _ _=>by simp;omega) (by unfold bD upL;simp)
theorem SU (ns:List Nod):∀ (f:Nat) (n:Int),(upF ns f n).length<=n.toNat+1/\(upF ns f n).length<=f
 | 0,n=>by simp [upF]
 | f+1,n=>by
  unfold upF
  split
  .split
   .split
    .simp
    .rename_i a h1 b
     have d:=SU ns f (ns[n.toNat]).p
     have b:¬ n<=(ns[n.toNat]).p:=fun h=>b (decide_eq_true h)
     have a:=of_decide_eq_true a
     simp only [Bq]
     refine ⟨?_,by omega⟩
     by_cases c:0<=(ns[n.toNat]).p
     .omega
     .have e:(upF ns f (ns[n.toNat]).p)=[]:=by
       cases f with
       | zero=>rfl
       | succ f=>
          unfold upF
          rw [if_neg (by rw [decide_eq_false c];decide)]
      rw [e]
      simp
   .simp
  .simp
theorem SQ (ns:List Nod) (n:Int):(upL ns n).length<=ns.length:=by
 by_cases h:0<=n/\n.toNat<ns.length
 .have:=(SU ns (n.toNat+1) n).1
  unfold upL
  omega
 .unfold upL upF
  by_cases a:0<=n
  .rw [if_pos (decide_eq_true a),dif_neg o_]
   simp
  .rw [if_neg (by rw [decide_eq_false a];decide)]
   simp
theorem nS (ns:List Nod) (n:Int):(bD ns n).length<=ns.length:=by
 unfold bD
 rw [Ip]
 exact SQ ns n
noncomputable abbrev aLe:Func:=Tryz.f316
def onB (ns:List Nod) (n t:Int):Bool:=(bD ns t).any fun x=>x==n
theorem aIY (ns:List Nod) (n t:Int):onB ns n t=decide (n∈upL ns t):=by
 unfold onB bD
 rw [List.any_reverse,Kl]
 simp
theorem aAJ (c:Con) (n:Int) (l:List Int) (hl:l.length<=1048576) (r:Bool):∀ (m i:Nat),i+m=l.length->((l.drop i).any fun x=>x==n)=r->
  To E aLe (.pure (.ret (.bool r))) (.head (stk aLe 0) [(1,ii n),(7,.slice 1 (iv l) .no),(8,ii i)] [.cells 26 c.cs]):=by
 have f:(iv l).length=l.length:=by simp
 intro m
 induction m with
 | zero=>
  exact zqra19
 | succ m e=>
  intro i g a
  have d:i<l.length:=o_
  rw [Ac d,Gs] at a
  have get:=bS d
  generalize l[i]=x at a get
  have e:=e (i+1) o_
  refine gV ?_
  refine aT fun h=>?_
  refine gV ?_
  refine ⟨i,rfl,?_⟩
  refine gV ?_
  refine ⟨_,get,?_⟩
  refine gV ?_
  refine Aa (fun b=>?_) (fun b=>?_)
  .have b:(x==n)=true:=b
   rw [b] at a
   have a:true=r:=a
   subst a
   exact zW
  .have b:(x==n)=false:=b
   rw [b,Li] at a
   repeat' first | (refine gN hE ?_;conv=>whnf) | exact rfl | refine aY ?_ | refine aN ?_ | refine aT fun h=>?_ | refine aF fun h=>?_ | refine ⟨fun h=>?_,fun h=>?_⟩ | refine aJ ?_ | refine ⟨_,rfl,?_⟩ | refine aD ?_ | fail
   exact To.cut [1,7,8] 1 rfl rfl rfl rfl (e a)
theorem aIs (c:Con) (a:c.sm) (n t:Int):aA Tryz.prog 316 [c.av,ii n,ii t] [] (.ret (.bool (onB c.ns n t))) []:=by
 have h1:=nS c.ns t
 have b:=a.ns
 have hp:=qG c a t
 unfold onB
 generalize bD c.ns t=l at h1 hp
 refine c_ Tryz.f316 fun _=>?_
 repeat' first | (refine gN hE ?_;conv=>whnf) | refine .pure _ [] hp ?_ | exact rfl | refine aY ?_ | refine aN ?_ | refine aT fun h=>?_ | refine aF fun h=>?_ | refine ⟨fun h=>?_,fun h=>?_⟩ | refine aJ ?_ | refine ⟨_,rfl,?_⟩ | refine aD ?_ | fail
 exact To.cut [1,7,8] 1 rfl rfl rfl rfl (aAJ c n l o_ _ l.length 0 o_ rfl)
noncomputable abbrev aHx:Func:=Tryz.f296
theorem LO (c:Con) (p:c.sm) (n:Int) (l:List Int) (hl:l.length<=1048576) (R:List Int):∀ (m i:Nat) (a:List Int),i+m=l.length->a.length<=i->a++(l.drop i).flatMap (sL c.ns n)=R->
  To (Eo [5] []) aHx (.pure (.ret (.slice 1 (iv R) .no))) (.head (stk aHx 0) [(1,ii n),(2,.ref 0 0),(5,.slice 1 (iv a) (.own 1 0)),(6,.slice 1 (iv l) .no),(7,ii i)] [.cells 26 c.cs,.tail 0 1 3]):=by
 have h:(iv l).length=l.length:=by simp
 intro m
 induction m with
 | zero=>
  intro i a o q b
  exact zqra5
 | succ m j=>
  intro i a o q b
  have k:(iv a).length=a.length:=by simp
  have f:i<l.length:=o_
  rw [Ac f,Ia] at b
  have get:=bS f
  generalize l[i]=x at b get
  have d:=aIs c p n x
  rw [aIY] at d
  unfold sL at b
  by_cases g:n∈upL c.ns x
  .rw [if_pos g] at b
   rw [decide_eq_true g] at d
   have next:=j (i+1) (a++[x]) o_ q_ (by rw [Aj];exact b)
   have e:iv (a++[x])=iv a++[ii x]:=by simp
   rw [e] at next
   refine gV ?_
   exact zW
  .rw [if_neg g] at b
   rw [decide_eq_false g] at d
   have next:=j (i+1) a o_ o_ b
   refine gV ?_
   exact zW
theorem wW (c:Con) (b:c.sm) (n:Int):aA Tryz.prog 296 [c.av,ii n] [] (.ret (.slice 1 (iv (aZ c.ns n)) .no)) []:=by
 have e:=b.ns
 have h1:(kR c.ns).length<=c.ns.length:=AL c.ns c.ns.length 0
 have d:=aEU c b
 unfold aZ
 generalize kR c.ns=l at h1 d
 refine cT (E:=(Eo [5] [])) (fn:=Tryz.f296) (g:=.pure _) fun _=>?_
 have a:=LO c b n l o_ _ l.length 0 [] o_ s_ rfl
 exact zW
noncomputable abbrev aHt:Func:=Tryz.f258
theorem WW (c:Con) (l:List V3) (b:List Int) (k:b.length<=1048576) (R:V3):∀ (m i:Nat) (v:V3),i+m=b.length->(b.drop i).foldl (smS l) v=R->
  To E aHt (.pure (.ret R.av)) (.head (stk aHt 0) [(2,.slice 3 (vav l) .no),(6,.ref 1 0),(7,.ref 2 0),(8,.slice 1 (iv b) .no),(9,ii i)] [.cells 26 c.cs,.cells 34 V3.zero.cs,.cells 34 v.cs]):=by
 have g:(iv b).length=b.length:=by simp
 intro m
 induction m with
 | zero=>
  intro i v j a
  rw [Ae o_] at a
  have a:v=R:=a
  subst a
  refine gV ?_
  exact zW
 | succ m h=>
  intro i v j a
  have d:i<b.length:=o_
  rw [Ac d,Al] at a
  have get:=bS d
  generalize b[i]=x at a get
  have e:=vE l x
  have next:=h (i+1) (smS l v x) o_ a
  unfold smS at next
  generalize atV l x=u at e next
  have f:=kO v u
  generalize dL v u=q at f next
  refine gV ?_
  exact zW
theorem TG (c:Con) (d:c.sm) (n:Int) (l:List V3):aA Tryz.prog 258 [c.av,ii n,.slice 3 (vav l) .no] [] (.ret (iD c.ns n l).av) []:=by
 have h1:=kY c d n
 have a:=wW c d n
 unfold iD
 generalize aZ c.ns n=b at h1 a
 refine c_ Tryz.f258 fun _=>?_
 repeat' first | (refine gN hE ?_;conv=>whnf) | refine .pure _ [] a ?_ | exact rfl | refine aY ?_ | refine aN ?_ | refine aT fun h=>?_ | refine aF fun h=>?_ | refine ⟨fun h=>?_,fun h=>?_⟩ | refine aJ ?_ | refine ⟨_,rfl,?_⟩ | refine aD ?_ | fail
 exact To.cut [2,6,7,8,9] 3 rfl rfl rfl rfl (WW c l b h1 _ b.length 0 V3.zero o_ rfl)
noncomputable abbrev aHu:Func:=Tryz.f260
theorem BW {c:Con} {i:Nat} (h:i<c.ns.length):(nav c.ns)[i]? =some (bR c.ns (i:Int)).av:=by
 unfold bR
 rw [Cz,Ab h]
 exact fM h
theorem WZ (c:Con) (h:c.sm) (n:Int):∀ (m i:Nat) (a:List V3),i+m=c.ns.length->a=(Dh i).map (fun j:Nat=>(bR c.ns (j:Int)).n)->
  To (Eo [5] []) aHu (.pure (.ret (iD c.ns n (lL c.ns)).av)) (.head (stk aHu 0) [(1,ii n),(2,.ref 0 0),(4,.ref 1 0),(5,.slice 3 (vav a) (.own 2 0)),(6,ii i)] [.cells 26 c.cs,.cells 34 V3.zero.cs,.tail 0 3 34]):=by
 have f:(nav c.ns).length=c.ns.length:=by simp
 have l:=h.ns
 intro m
 induction m with
 | zero=>
  intro i a d b
  have d:i=c.ns.length:=o_
  have b:a=lL c.ns:=by rw [b,d];rfl
  subst b
  have hs:=TG c h n (lL c.ns)
  generalize iD c.ns n (lL c.ns)=S at hs
  refine gV ?_
  exact zW
 | succ m o=>
  intro i a d b
  have k:(vav a).length=a.length:=by simp
  have g:a.length=i:=by rw [b];simp
  have get:=BW (c:=c) (i:=i) o_
  have next:=o (i+1) (a++[(bR c.ns (i:Int)).n]) o_ (by rw [b,Ko,Cc];rfl)
  have e:vav (a++[(bR c.ns (i:Int)).n])=vav a++[(bR c.ns (i:Int)).n.av]:=by simp
  rw [e] at next
  generalize bR c.ns (i:Int)=x at get next
  refine gV ?_
  exact zW
theorem aEQ (c:Con) (b:c.sm) (n:Int):aA Tryz.prog 260 [c.av,ii n] [] (.ret (iD c.ns n (lL c.ns)).av) []:=by
 refine cT (E:=(Eo [5] [])) (fn:=Tryz.f260) (g:=.pure _) fun _=>?_
 have a:=WZ c b n c.ns.length 0 [] o_ rfl
 exact zW
noncomputable abbrev aCL:Func:=Tryz.f259
theorem PH (c:Con) (d:List V3) (t:Int) (b:List Int) (C:b.length<=1048576) (u:∀ x∈b,c.ok x) (R:V3):∀ (m i:Nat) (v:V3),i+m=b.length->(b.drop i).foldl (vN c.ns d t) v=R->
  To E aCL (.pure (.ret R.av)) (.head (stk aCL 0) [(1,.slice 3 (vav d) .no),(3,ii t),(4,.ref 0 0),(8,.ref 1 0),(9,.ref 2 0),(10,.slice 1 (iv b) .no),(11,ii i)] [.cells 26 c.cs,.cells 34 V3.zero.cs,.cells 34 v.cs]):=by
 have w:(iv b).length=b.length:=by simp
 intro m
 induction m with
 | zero=>
  intro i v A f
  rw [Ae o_] at f
  have f:v=R:=f
  subst f
  refine gV ?_
  exact zW
 | succ m B=>
  intro i v A f
  have j:i<b.length:=o_
  have g:=u _ (Bb j)
  rw [Ac j,Al] at f
  have get:=bS j
  generalize b[i]=s at f get g
  have next:=B (i+1) (vN c.ns d t v s) o_ f
  unfold vN at next
  by_cases h1:s=t
  .subst h1
   rw [if_pos (decide_eq_true rfl)] at next
   have hst:(s==s)=true:=by simp
   refine gV ?_
   exact zW
  .rw [if_neg (by rw [decide_eq_false h1];decide)] at next
   have hst:(s==t)=false:=by simp [h1]
   obtain ⟨D,z⟩:=g
   have y:s=(s.toNat:Int):=o_
   have e:=BW (c:=c) (i:=s.toNat) z
   rw [<-y] at e
   generalize bR c.ns s=x at e next
   have o:=H6 x.n x.l
   generalize uJ x.n x.l=q1 at o next
   have q:=vE d s
   generalize atV d s=q2 at q next
   have p:=H6 q1 q2
   generalize uJ q1 q2=q3 at p next
   have k:=kO v (XK q3)
   generalize r:XK q3=q4 at k next
   have H:max q3.a 0=q4.a:=by rw [<-r];rfl
   have F:max q3.b 0=q4.b:=by rw [<-r];rfl
   have G:max q3.c 0=q4.c:=by rw [<-r];rfl
   subst r
   generalize dL v (XK q3)=q5 at k next
   refine gV ?_
   refine aT fun h=>?_
   repeat' first
    | exact To.cut [1,3,4,8,9,10,11] 3 rfl rfl rfl rfl next
    | (refine gW hE ?_;conv=>whnf)
    | refine Ah s.toNat (Aa y ?_)
    | refine Ah _ (Aa e ?_)
    | refine Ah i (Aa rfl ?_)
    | refine Ah _ (Aa get ?_)
    | refine Aa (fun h=>absurd h (by rw [hst];decide)) (fun h=>?_)
    | refine .pure _ [] o ?_
    | refine .pure _ [] q ?_
    | refine .pure _ [] p ?_
    | refine .pure _ [] k ?_
    | refine aY ?_
    | refine aN ?_
    | refine aJ ?_
    | refine Ah _ (Aa rfl ?_)
    | refine Aa d_ ?_
    | fail
theorem aAP (c:Con) (i:c.sm) (a:List V3) (n t:Int):aA Tryz.prog 259 [c.av,.slice 3 (vav a) .no,ii n,ii t] [] (.ret (vO c.ns a n t).av) []:=by
 have h1:=kY c i n
 have e:=wW c i n
 have d:∀ x∈aZ c.ns n,c.ok x:=fun x j=>iA c n x j
 unfold vO
 generalize aZ c.ns n=b at h1 e d
 refine c_ Tryz.f259 fun _=>?_
 repeat' first | (refine gN hE ?_;conv=>whnf) | refine .pure _ [] e ?_ | exact rfl | refine aY ?_ | refine aN ?_ | refine aT fun h=>?_ | refine aF fun h=>?_ | refine ⟨fun h=>?_,fun h=>?_⟩ | refine aJ ?_ | refine ⟨_,rfl,?_⟩ | refine aD ?_ | fail
 exact To.cut [1,3,4,8,9,10,11] 3 rfl rfl rfl rfl (PH c a t b h1 d _ b.length 0 V3.zero o_ rfl)
noncomputable abbrev aHv:Func:=Tryz.f202
theorem W3 (c:Con) (f:c.sm) (a:List V3) (t:Int) (need:V3) (nd:V3) (l:List Int) (hl:l.length<=1048576) (r:Bool):∀ (m i:Nat),i+m+1=l.length->(((l.drop i).take m).all fun x=>SC c a need t x)=r->
  To E aHv (.pure (.ret (.bool r))) (.head (stk aHv 0) [(1,.slice 3 (vav a) .no),(2,ii t),(4,.ref 0 0),(7,.ref 1 0),(10,.slice 1 (iv l) .no),(11,ii i)] [.cells 26 c.cs,.cells 34 need.cs]):=by
 have g:(iv l).length=l.length:=by simp
 intro m
 induction m with
 | zero=>
  intro i o b
  rw [Hi] at b
  have b:true=r:=b
  subst b
  refine gV ?_
  exact zW
 | succ m p=>
  intro i o b
  have d:i<l.length:=o_
  rw [Ac d,List.take_succ_cons,Ei] at b
  have get:=bS d
  generalize l[i]=x at b get
  have next:=p (i+1) o_
  unfold SC at b
  have h1:=TG c f x a
  generalize iD c.ns x a=q1 at h1 b
  have n:=kO q1 need
  generalize dL q1 need=q2 at n b
  have h3:=aAP c f a x t
  generalize vO c.ns a x t=q3 at h3 b
  have j:=kO q2 q3
  generalize dL q2 q3=q4 at j b
  have k:=aEQ c f x
  generalize iD c.ns x (lL c.ns)=q5 at k b
  have h:=lG q4 q5
  cases e:cF q4 q5 with
  | false=>
   rw [e] at h b
   have b:false=r:=b
   subst b
   refine gV ?_
   exact zW
  | true=>
   rw [e,Bo] at b
   rw [e] at h
   have next:=next b
   refine gV ?_
   exact zW
theorem KF {ns:List Nod} {t:Int} (a:0<=t) (h1:t.toNat<ns.length):∃ r,upL ns t=t::r:=by
 unfold upL upF
 rw [if_pos (decide_eq_true a),dif_pos h1]
 split
 .exact ⟨_,rfl⟩
 .exact ⟨_,rfl⟩
theorem qQ {ns:List Nod} {t:Int} (h:aX ns t=true):0<=t/\t.toNat<ns.length:=by
 exact zqra3
theorem XX (c:Con) (d:List V3) (t:Int) (need:V3) (r:List Int) (j:upL c.ns t=t::r):(upL c.ns t).all (IV c d t need)=(XO c d need t&&((bD c.ns t).take ((bD c.ns t).length-1)).all fun x=>SC c d need t x):=by
 have f:=HO c.ns (t.toNat+1) t
 have f:(upL c.ns t).Pairwise fun a b=>b<a:=f
 unfold bD
 rw [j] at f⊢
 rw [Ei]
 unfold IV
 rw [if_pos (decide_eq_true rfl)]
 congr 1
 have e:(Et ((t::r).reverse.length-1) (t::r).reverse)=r.reverse:=by
  rw [Jj,Ay,Ip]
  show Et (r.length+1-1) _=_
  rw [Gx,Db s_]
  exact Cb s_
 rw [e,List.all_reverse]
 rw [Kl,Cu,Cu]
 have i:∀ x∈r,¬ x=t:=fun x g=>by
  have:=(Br.1 f).1 x g
  omega
 constructor
 .intro h x g
  have:=h x g
  rwa [if_neg (by rw [decide_eq_false (i x g)];decide)] at this
 .intro h x g
  rw [if_neg (by rw [decide_eq_false (i x g)];decide)]
  exact h x g
theorem WX (c:Con) (m:c.sm) (a:List V3) (t:Int) (need:V3) (r:Bool) (d:zS c a t need=r):aA Tryz.prog 202 [c.av,.slice 3 (vav a) .no,ii t,need.av] [] (.ret (.bool r)) []:=by
 have j:=iG c m t
 rw [qH] at j
 unfold zS at d
 cases k:aX c.ns t with
 | false=>
  rw [k] at j
  rw [if_neg (by rw [k];decide)] at d
  subst d
  exact c_ Tryz.f202 fun _=>zW
 | true=>
  rw [k] at j
  rw [if_pos k] at d
  obtain ⟨z,y⟩:=qQ k
  obtain ⟨C,u⟩:=KF z y
  rw [XX c a t need C u] at d
  have s:=nS c.ns t
  have q:0<(bD c.ns t).length:=by unfold bD;rw [u];simp
  have hp:=qG c m t
  generalize bD c.ns t=l at d s hp q
  have B:=m.ns
  have w:t=(t.toNat:Int):=o_
  have e:=BW (c:=c) (i:=t.toNat) y
  rw [<-w] at e
  unfold XO at d
  generalize bR c.ns t=x at e d
  have h1:=vE a t
  generalize atV a t=q1 at h1 d
  have v:=kO q1 need
  generalize dL q1 need=q2 at v d
  have h3:=kO x.n x.b
  generalize dL x.n x.b=q3 at h3 d
  have o:=lG q2 q3
  cases p:cF q2 q3 with
  | false=>
   rw [p] at o d
   have d:false=r:=d
   subst d
   exact c_ Tryz.f202 fun _=>zW
  | true=>
   rw [p,Bo] at d
   rw [p] at o
   refine c_ Tryz.f202 fun _=>?_
   repeat' first | (refine gN hE ?_;conv=>whnf) | refine .pure _ [] j ?_ | refine ⟨t.toNat,w,?_⟩ | refine ⟨_,e,?_⟩ | refine .pure _ [] h1 ?_ | refine .pure _ [] v ?_ | refine .pure _ [] h3 ?_ | refine .pure _ [] o ?_ | refine .pure _ [] hp ?_ | exact rfl | refine aY ?_ | refine aN ?_ | refine aT fun h=>?_ | refine aF fun h=>?_ | refine ⟨fun h=>?_,fun h=>?_⟩ | refine aJ ?_ | refine ⟨_,rfl,?_⟩ | refine aD ?_ | fail
   exact To.cut [1,2,4,7,10,11] 2 rfl rfl rfl rfl (W3 c m a t need need l o_ r (l.length-1) 0 o_ d)
theorem aAF (c:Con) (b:c.sm) (a:List V3) (t:Int) (need:V3):aA Tryz.prog 202 [c.av,.slice 3 (vav a) .no,ii t,need.av] [] (.ret (.bool (zS c a t need))) []:=WX c b a t need _ rfl
noncomputable abbrev YM:Func:=Tryz.f140
abbrev ofO (c:Con) (xs:List V3):List AObj:=[.cells 26 c.cs,.row 0 3 34 (vav xs)]
theorem aIt (c:Con) (l:List Rn) (R:List V3) (x:Rn) (j:Nat) (C:j<1048576) (F:(rav l)[j]? =some x.av) (p:List Int) (z:p.length<=1048576) (h:∀ k∈p,0<=k/\k.toNat<c.ns.length):
  ∀ (m i:Nat) (xs:List V3),xs.length=c.ns.length->i+m=p.length->
   To E YM (.pure (.ret (.slice 3 (vav R) .no))) (.head (stk YM 0) [(1,.slice 14 (rav l) .no),(2,.ref 0 0),(5,.row 1 0),(6,ii ((j:Int)+1))] (ofO c ((p.drop i).foldl (sN (dem x.g)) xs)))->
  To E YM (.pure (.ret (.slice 3 (vav R) .no))) (.head (stk YM 1) [(1,.slice 14 (rav l) .no),(2,.ref 0 0),(5,.row 1 0),(6,ii j),(7,.slice 1 (iv p) .no),(8,ii i)] (ofO c xs)):=by
 have n:(iv p).length=p.length:=by simp
 have A:(rav l).length=l.length:=by simp
 intro m
 induction m with
 | zero=>
  intro i xs f v a
  rw [Ae o_] at a
  refine gV ?_
  exact zW
 | succ m w=>
  intro i xs f v a
  have b:i<p.length:=o_
  obtain ⟨s,y⟩:=h _ (Bb b)
  rw [Ac b,Al] at a
  have get:=bS b
  generalize p[i]=k at a get s y
  have D:k=(k.toNat:Int):=o_
  have r:(vav xs).length=xs.length:=by simp
  have next:=w (i+1) (sN (dem x.g) xs k) (by rw [OQ];exact f) o_ a
  have e:k.toNat<xs.length:=o_
  have t:(vav xs)[k.toNat]? =some xs[k.toNat].av:=kL e
  unfold sN at next
  rw [Ab e,show ((some xs[k.toNat]).getD V3.zero)=xs[k.toNat] from rfl] at next
  generalize xs[k.toNat]=u at t next
  have o:=IC x.g
  generalize dem x.g=d at o next a
  have B:=kO u d
  generalize dL u d=q at B next
  unfold ofO at next
  rw [<-HL] at next
  refine gV ?_
  exact zW
theorem aEP (c:Con) (j:c.sm) (l:List Rn) (hl:l.length<=1048576) (R:List V3):∀ (m i:Nat) (xs:List V3),i+m=l.length->xs.length=c.ns.length->(l.drop i).foldl (zQ c) xs=R->
  To E YM (.pure (.ret (.slice 3 (vav R) .no))) (.head (stk YM 0) [(1,.slice 14 (rav l) .no),(2,.ref 0 0),(5,.row 1 0),(6,ii i)] (ofO c xs)):=by
 have o:(rav l).length=l.length:=by simp
 have s:=j.ns
 intro m
 induction m with
 | zero=>
  intro i xs t h b
  rw [Ae o_] at b
  subst b
  refine gV ?_
  exact zW
 | succ m u=>
  intro i xs t h b
  have d:i<l.length:=o_
  rw [Ac d,Al] at b
  have get:(rav l)[i]? =some l[i].av:=bN d
  generalize l[i]=x at b get
  have next:=u (i+1) (zQ c xs x) o_ (by rw [aAK];exact h) b
  have a:=iG c j x.g.ten
  rw [qH] at a
  unfold zQ at next
  cases f:aX c.ns x.g.ten with
  | false=>
   rw [f] at a
   rw [if_neg (by rw [f];decide)] at next
   refine gV ?_
   exact zW
  | true=>
   rw [f] at a
   rw [if_pos f] at next
   have hp:=qG c j x.g.ten
   have n:=nS c.ns x.g.ten
   have e:∀ k∈bD c.ns x.g.ten,0<=k/\k.toNat<c.ns.length:=fun k r=>HP _ _ _ _ (Hj.1 r)
   generalize bD c.ns x.g.ten=p at hp n e next
   have q:=aIt c l R x i o_ get p o_ e p.length 0 xs h o_ next
   refine gV ?_
   exact zW
theorem H8 (c:Con) (b:c.sm) (l:List Rn) (hl:l.length<=1048576):aA Tryz.prog 140 [c.av,.slice 14 (rav l) .no] [] (.ret (.slice 3 (vav (ofL c l)) .no)) []:=by
 have h1:=b.ns
 have a:(nav c.ns).length=c.ns.length:=by simp
 rw [<-aHo]
 have next:=aEP c b l hl (aAM c l) l.length 0 (Ai c.ns.length V3.zero) o_ s_ rfl
 unfold ofO at next
 rw [show vav (Ai c.ns.length V3.zero)=Ai c.ns.length (AVal.agg [ii 0,ii 0,ii 0]) from by simp [vav,V3.av,V3.zero,V3.cs]] at next
 generalize aAM c l=R at next
 refine c_ Tryz.f140 fun _=>?_
 refine gV ?_
 refine ⟨c.ns.length,by rw [a],?_⟩
 refine gV ?_
 refine ⟨⟨rfl,by omega,by simp only [maxLen];omega⟩,?_⟩
 exact zW
noncomputable abbrev qW:Func:=Tryz.f205
theorem aAW (c:Con) (r:List Rn) (R:List V3) (x:Rn) (j:Nat) (v:j<1048576) (f:(rav r)[j]? =some x.av) (y:x.hs.length<=1048576) (z:c.hs.length<=1048576):
  ∀ (m i:Nat) (xs:List V3),xs.length=c.hs.length->i+m=x.hs.length->
   To (Er [5] []) qW (.pure (.ret (.slice 3 (vav R) .no))) (.head (stk qW 1) [(1,.slice 14 (rav r) .no),(5,.row 1 0),(7,ii ((j:Int)+1))] (ofO c ((x.hs.drop i).foldl (oC x.g.need) xs)))->
  To (Er [5] []) qW (.pure (.ret (.slice 3 (vav R) .no))) (.head (stk qW 2) [(1,.slice 14 (rav r) .no),(5,.row 1 0),(7,ii j),(8,ii i)] (ofO c xs)):=by
 have l:(iv x.hs).length=x.hs.length:=by simp
 have t:(rav r).length=r.length:=by simp
 intro m
 induction m with
 | zero=>
  intro i xs e p a
  rw [Ae o_] at a
  exact zqra2
 | succ m s=>
  intro i xs e p a
  have d:i<x.hs.length:=o_
  rw [Ac d,Al] at a
  have get:=bS d
  generalize x.hs[i]=u0 at a get
  have n:(vav xs).length=xs.length:=by simp
  have next:=s (i+1) (oC x.g.need xs u0) (by rw [oB];exact e) o_ a
  unfold oC ofO at next
  by_cases h1:0<=u0
  .rw [if_pos (decide_eq_true h1)] at next
   by_cases k:u0<(xs.length:Int)
   .rw [if_pos (decide_eq_true k)] at next
    have b:u0.toNat<xs.length:=o_
    have w:u0=(u0.toNat:Int):=o_
    rw [Ab b] at next
    have o:(vav xs)[u0.toNat]? =some xs[u0.toNat].av:=kL b
    rw [show ((some xs[u0.toNat]).getD V3.zero)=xs[u0.toNat] from rfl] at next
    generalize xs[u0.toNat]=u at o next
    have h:=H6 u x.g.need
    generalize uJ u x.g.need=q at h next
    rw [<-HL] at next
    exact zqra2
   .rw [if_neg (by rw [decide_eq_false k];decide)] at next
    exact zqra2
  .rw [if_neg (by rw [decide_eq_false h1];decide)] at next
   exact zqra2
theorem W7 (c:Con) (n:c.sm) (r:List Rn) (h:Sm r) (R:List V3):∀ (m i:Nat) (xs:List V3),i+m=r.length->xs.length=c.hs.length->(r.drop i).foldl sT xs=R->
  To (Er [5] []) qW (.pure (.ret (.slice 3 (vav R) .no))) (.head (stk qW 1) [(1,.slice 14 (rav r) .no),(5,.row 1 0),(7,ii i)] (ofO c xs)):=by
 have g:(rav r).length=r.length:=by simp
 have hl:=h.1
 intro m
 induction m with
 | zero=>
  intro i xs k e b
  rw [Ae o_] at b
  subst b
  refine gV ?_
  exact zW
 | succ m l=>
  intro i xs k e b
  have a:i<r.length:=o_
  have f:=h.at a
  rw [Ac a,Al] at b
  generalize j:r[i]=x at b f
  have get:(rav r)[i]? =some x.av:=(bN a).trans (by rw [j])
  have next:=l (i+1) (sT xs x) o_ (by rw [rZ];exact e) b
  refine gV ?_
  have d:=aAW c r R x i o_ get f n.hs x.hs.length 0 xs e o_ next
  exact zW
theorem PL (c:Con) (f:c.sm) (r:List Rn) (h:Sm r):∀ (m i:Nat) (xs:List V3),i+m=c.hs.length->xs=(Dh i).map (fun j:Nat=>(bE c.hs (j:Int)).c)->
  To (Er [5] []) qW (.pure (.ret (.slice 3 (vav (iK c r)) .no))) (.head (stk qW 0) [(1,.slice 14 (rav r) .no),(2,.ref 0 0),(5,.row 1 0),(6,ii i)] (ofO c xs)):=by
 have d:(hav c.hs).length=c.hs.length:=by simp
 have h1:=f.hs
 intro m
 induction m with
 | zero=>
  intro i xs b a
  have b:i=c.hs.length:=o_
  subst b
  have next:=W7 c f r h (iK c r) r.length 0 xs o_ (by rw [a];simp) (by rw [a];rfl)
  refine gV ?_
  exact zW
 | succ m k=>
  intro i xs b a
  have l:xs.length=i:=by rw [a];simp
  have g:(vav xs).length=xs.length:=by simp
  have n:(hav c.hs)[i]? =some (bE c.hs (i:Int)).av:=rX o_
  have next:=k (i+1) (xs++[(bE c.hs (i:Int)).c]) o_ (by rw [a,Ko,Cc];rfl)
  unfold ofO at next
  have e:vav (xs++[(bE c.hs (i:Int)).c])=vav xs++[(bE c.hs (i:Int)).c.av]:=by simp
  rw [e] at next
  generalize bE c.hs (i:Int)=x at n next
  refine gV ?_
  exact zW
theorem aAV (c:Con) (d:c.sm) (r:List Rn) (b:Sm r):aA Tryz.prog 205 [c.av,.slice 14 (rav r) .no] [] (.ret (.slice 3 (vav (iK c r)) .no)) []:=by
 refine cT (E:=(Er [5] [])) (fn:=Tryz.f205) (g:=.pure _) fun _=>?_
 have a:=PL c d r b c.hs.length 0 [] o_ rfl
 exact zW
def alB (c:Con) (lv a b:Int):Bool:=
 if lv=0 then decide (a=b)
 else if lv=1 then decide ((bE c.hs a).f=(bE c.hs b).f/\(bE c.hs a).b=(bE c.hs b).b/\(bE c.hs a).r=(bE c.hs b).r)
 else if lv=2 then decide ((bE c.hs a).f=(bE c.hs b).f/\(bE c.hs a).b=(bE c.hs b).b)
 else decide ((bE c.hs a).f=(bE c.hs b).f)
abbrev pS (c:Con) (lv a:Int):List Int:=ofK (bE c.hs a) a lv
theorem J2 (c:Con) (lv a b:Int) (i:0<=lv) (h3:lv<=3):alB c lv a b=decide (pS c lv a=pS c lv b):=by
 unfold alB pS ofK
 by_cases e:lv=0
 .subst e
  by_cases h:a=b
  .subst h;simp
  .simp [h]
 by_cases g:lv=1
 .subst g;simp
 by_cases d:lv=2
 .subst d;simp
 have f:lv=3:=o_
 subst f
 simp
def cM (c:Con) (lv i:Int):List (List Int)->Nat->Option Nat
 | [],_=>none
 | g::r,k=>if alB c lv (g.headD 0) i=true then some k else cM c lv i r (k+1)
def rgS (c:Con) (lv:Int) (s:List (List Int)) (i:Nat):List (List Int):=
 match cM c lv (i:Int) s 0 with
 | some k=>s.set k ((s[k]?).getD []++[(i:Int)])
 | none=>s++[[(i:Int)]]
def rgL (c:Con) (lv:Int):List (List Int):=if decide (lv<0)=true then [] else if decide (3<lv)=true then [] else (Dh c.hs.length).foldl (rgS c lv) []
def nZ (c:Con) (lv:Int):Nat->List (List Int)->List (List Int×Nat)
 | _,[]=>[]
 | k,g::r=>(pS c lv (g.headD 0),k)::nZ c lv (k+1) r
theorem CU (c:Con) (lv i:Int) (a:0<=lv) (h3:lv<=3):∀ (s:List (List Int)) (k:Nat),lN (nZ c lv k s) (pS c lv i)=cM c lv i s k
 | [],k=>rfl
 | g::r,k=>by
  unfold nZ lN cM
  rw [J2 c lv _ _ a h3,CU c lv i a h3 r (k+1)]
  by_cases h:pS c lv (g.headD 0)=pS c lv i
  .rw [if_pos h,if_pos (decide_eq_true h)]
  .rw [if_neg h,if_neg (by rw [decide_eq_false h];decide)]
theorem F6 (c:Con) (lv i:Int):∀ (s:List (List Int)) (k m:Nat),(∀ g∈s,g≠[])->nZ c lv m (s.set k ((s[k]?).getD []++[i]))=nZ c lv m s
 | [],k,m,_=>by simp
 | g::r,0,m,h=>by
  have b:=h g s_
  cases g with
  | nil=>exact absurd rfl b
  | cons a t=>rfl
 | g::r,k+1,m,h=>by
  have e:=F6 c lv i r k (m+1) fun x d=>h x (by simp [d])
  show _::nZ c lv (m+1) (r.set k ((r[k]?).getD []++[i]))=_
  rw [e]
  rfl
theorem CT (c:Con) (lv i:Int):∀ (s:List (List Int)) (m:Nat),nZ c lv m (s++[[i]])=nZ c lv m s++[(pS c lv i,m+s.length)]
 | [],m=>rfl
 | g::r,m=>by
  show _::nZ c lv (m+1) (r++[[i]])=_::(nZ c lv (m+1) r++_)
  rw [CT c lv i r (m+1)]
  simp only [Bq]
  rw [show m+1+r.length=m+(r.length+1) from by omega]
theorem aIy (c:Con) (lv:Int) (f:0<=lv) (h3:lv<=3) (s:GSt) (i:Nat) (h1:s.1=nZ c lv 0 s.2) (b:∀ g∈s.2,g≠[]):
  (gpS c lv s i).2=rgS c lv s.2 i/\(gpS c lv s i).1=nZ c lv 0 (rgS c lv s.2 i)/\∀ g∈rgS c lv s.2 i,g≠[]:=by
 have e:=CU c lv (i:Int) f h3 s.2 0
 rw [<-h1] at e
 unfold gpS rgS
 have d:lN s.1 (ofK (bE c.hs (i:Int)) i lv)=cM c lv (i:Int) s.2 0:=e
 rw [d]
 cases cM c lv (i:Int) s.2 0 with
 | some k=>
  refine ⟨rfl,?_,fun g a=>?_⟩
  .show s.1=_
   rw [h1,F6 c lv i s.2 k 0 b]
  .rcases Df a with a | rfl
   .exact b g a
   .simp
 | none=>
  refine ⟨rfl,?_,fun g a=>?_⟩
  .show s.1++_=_
   rw [h1,CT,Bw]
  .rcases Az.1 a with a | a
   .exact b g a
   .simp at a;subst a;simp
theorem aAU (c:Con) (lv:Int):rgL c lv=gpL c lv:=by
 unfold rgL gpL
 by_cases h1:lv<0
 .simp only [h1,decide_true,if_true]
 by_cases e:3<lv
 .simp only [h1,e,decide_true,decide_false,if_true,if_false,Ct]
 simp only [h1,e,decide_false,if_false,Ct]
 have key:∀ (l:List Nat) (s:GSt),s.1=nZ c lv 0 s.2->(∀ g∈s.2,g≠[])->l.foldl (rgS c lv) s.2=(l.foldl (gpS c lv) s).2:=fun l=>by
  induction l with
  | nil=>intro s _ _;rfl
  | cons i r j=>
   intro s a b
   obtain ⟨d,h,k⟩:=aIy c lv o_ o_ s i a b
   rw [Al,Al,<-d,j _ (by rw [d];exact h) (by rw [d];exact k)]
 exact key _ ([],[]) rfl (fun g f=>by simp at f)
def rrF (free need:V3):Nat->Int->Int
 | 0,n=>n
 | f+1,n=>if cF (OT need (n+1)) free=true then (if cF need free=true then rrF free need f (n+1) else n) else n
def rrI (free need:V3):Int:=rrF free need 16 0
theorem cJ {v:V3} (h:aQ v=true):(0<=v.a/\v.a<=1048576)/\(0<=v.b/\v.b<=1048576)/\(0<=v.c/\v.c<=1048576):=by
 unfold aQ at h
 simpa [Ag,and_assoc] using h
theorem wJ {a b:V3}:cF a b=true↔a.a<=b.a/\a.b<=b.b/\a.c<=b.c:=by
 unfold cF
 by_cases h1:b.a<a.a
 .first | (simp [h1];done) | (simp [h1];omega)
 by_cases d:b.b<a.b
 .first | (simp [h1,d];done) | (simp [h1,d];omega)
 by_cases h3:b.c<a.c
 .first | (simp [h1,d,h3];done) | (simp [h1,d,h3];omega)
 first | (simp [h1,d,h3];done) | (simp [h1,d,h3];omega)
theorem JO {n m:Int} (h1: -m<=n) (a:n<=m):fL n m=n:=by unfold fL;omega
theorem aKM {x n:Int} (h1:0<=x) (a:x<=1048576) (h3:0<=n) (b:n<=16):0<=x*n/\x*n<=16777216:=by
 have c:x*n<=1048576*16:=Int.mul_le_mul a b h3 d_
 exact ⟨Je h1 h3,by omega⟩
theorem IS {x n:Int} (h1:0<=x) (a:x<=1048576) (h3:0<=n) (b:n<=16):EQ x n=x*n:=by
 have:=aKM h1 a h3 b
 unfold EQ
 rw [JO (n:=x) o_ o_,JO (n:=n) o_ o_,JO o_ o_]
theorem V4 {need free:V3} (j:aQ need=true) {n:Int} (d:0<=n) (h1:n<=16):cF (OT need n) free=true↔need.a*n<=free.a/\need.b*n<=free.b/\need.c*n<=free.c:=by
 obtain ⟨⟨g,e⟩,⟨f,i⟩,h,k⟩:=cJ j
 rw [wJ]
 show EQ need.a n<=free.a/\EQ need.b n<=free.b/\EQ need.c n<=free.c↔_
 rw [IS g e d h1,IS f i d h1,IS h k d h1]
theorem BT {m f k n:Int} (d:0<=k) (c:k<=f):n<=yK m f k↔n<=m/\k*n<=f:=by
 unfold yK
 by_cases h:0<k
 .rw [if_pos (decide_eq_true h),Ky o_]
  have:=Int.le_ediv_iff_mul_le h (a:=n) (b:=f)
  rw [Int.mul_comm] at this
  omega
 .have:k=0:=o_
  subst this
  rw [if_neg d_]
  omega
theorem H7 {free need:V3} (m:aQ need=true) (h:cF need free=true) (n:Int):n<=dV free need↔n<=16/\need.a*n<=free.a/\need.b*n<=free.b/\need.c*n<=free.c:=by
 obtain ⟨⟨k,_⟩,⟨j,_⟩,l,_⟩:=cJ m
 obtain ⟨h1,i,h3⟩:=wJ.1 h
 unfold dV
 rw [if_pos h,BT l h3,BT j i,BT k h1]
 constructor
 .rintro ⟨⟨⟨e,d⟩,g⟩,f⟩;exact ⟨e,d,g,f⟩
 .rintro ⟨e,d,g,f⟩;exact ⟨⟨⟨e,d⟩,g⟩,f⟩
theorem aAE {free need:V3} (b:aQ need=true) (a:cF need free=true):∀ (f:Nat) (n:Int),0<=n->n+f=16->n<=dV free need->rrF free need f n=dV free need
 | 0,n,h0,h1,h2=>by
  have h3:=BU free need
  unfold rrF
  omega
 | f+1,n,h0,h1,h2=>by
  unfold rrF
  have hm:=V4 (free:=free) b (n:=n+1) o_ o_
  have c:=H7 b a (n+1)
  by_cases h:cF (OT need (n+1)) free=true
  .rw [if_pos h,if_pos a]
   exact aAE b a f (n+1) o_ o_ (c.2 ⟨by omega,hm.1 h⟩)
  .rw [if_neg h]
   have:¬ n+1<=dV free need:=fun d=>h (hm.2 (c.1 d).2)
   omega
theorem aKB {free need:V3} (b:aQ need=true):rrI free need=dV free need:=by
 unfold rrI
 by_cases a:cF need free=true
 .refine aAE b a 16 0 d_ d_ ((H7 b a 0).2 ?_)
  obtain ⟨⟨e,_⟩,⟨d,_⟩,f,_⟩:=cJ b
  obtain ⟨h1,c,h3⟩:=wJ.1 a
  simp only [Int.mul_zero]
  omega
 .unfold rrF dV
  rw [if_neg a,if_neg a]
  split<;>rfl
def vH (c:Con) (a:Int):Prop:=0<=a/\a.toNat<c.hs.length
theorem aKV {c:Con} {a:Int} (h:vH c a):(hav c.hs)[a.toNat]? =some (bE c.hs a).av:=by
 have:=rX (c:=c) (i:=a.toNat) h.2
 rwa [Iq h.1] at this
noncomputable abbrev fAl:Func:=Tryz.f297
theorem aKi (c:Con):frzs [0] [.cells 26 c.cs]=[.fcells c.cs]:=by kernel_rfl
theorem aG6 (c:Con) (lv a b:Int):EV [4] (aE [.fcells c.cs]) [(1,ii lv),(2,ii a),(3,ii b),(4,.ref 0 0),(8,.bool false)]=[(1,ii lv),(2,ii a),(3,ii b),(4,.ptr c.cs),(8,.bool false)]:=by kernel_rfl
theorem AY {g:Goal} {ks:List KI} (c:Con) (lv a b:Int) (h:To (Er [] [16,17,18,19,20]) fAl g (.code ks [(1,ii lv),(2,ii a),(3,ii b),(4,.ptr c.cs),(8,.bool false)] [.fcells c.cs])):
  To (Er [] [16,17,18,19,20]) fAl g (.code ks [(1,ii lv),(2,ii a),(3,ii b),(4,.ref 0 0),(8,.bool false)] [.cells 26 c.cs]):=by
 refine To.frz [4] [0] ?_
 rw [aKi,aG6]
 exact h
theorem ZE (c:Con) (lv a b:Int) (s:0<=lv) (h3:lv<=3) (m:vH c a) (l:vH c b) (r:Bool) (d:alB c lv a b=r):aA Tryz.prog 297 [c.av,ii lv,ii a,ii b] [] (.ret (.bool r)) []:=by
 have e:=aKV m
 have i:=aKV l
 have j:a=(a.toNat:Int):=by have:=m.1;omega
 have k:b=(b.toNat:Int):=by have:=l.1;omega
 unfold alB at d
 generalize bE c.hs a=x at e d
 generalize bE c.hs b=y at i d
 by_cases n:lv=0
 .subst n
  rw [if_pos rfl] at d
  exact zqra1
 by_cases q:lv=1
 .subst q
  rw [if_neg d_,if_pos rfl] at d
  refine cT (E:=(Er [] [16,17,18,19,20])) (fn:=Tryz.f297) (g:=.pure _) fun _=>?_
  refine cD (hEr [] [16,17,18,19,20]) 10 ?_;conv=>whnf
  refine To.cutC [1,2,3,4,8] 1 rfl rfl rfl rfl ?_
  refine AY c _ a b ?_
  repeat' first | (refine gN (hEr [] [16,17,18,19,20]) ?_;conv=>whnf) | refine ⟨a.toNat,j,?_⟩ | refine ⟨b.toNat,k,?_⟩ | refine ⟨_,e,?_⟩ | refine ⟨_,i,?_⟩ | exact rfl | refine aY ?_ | refine aN ?_ | refine aT fun h=>?_ | refine aF fun h=>?_ | refine ⟨fun h=>?_,fun h=>?_⟩ | refine aJ ?_ | refine ⟨_,rfl,?_⟩ | refine aD ?_ | fail
  all_goals (refine congrArg (fun b=>Res.ret (AVal.bool b)) ?_;rw [<-d];clear e i j k m l d;simp_all<;>rfl)
 by_cases o:lv=2
 .subst o
  rw [if_neg d_,if_neg d_,if_pos rfl] at d
  refine cT (E:=(Er [] [16,17,18,19,20])) (fn:=Tryz.f297) (g:=.pure _) fun _=>?_
  refine cD (hEr [] [16,17,18,19,20]) 10 ?_;conv=>whnf
  refine To.cutC [1,2,3,4,8] 1 rfl rfl rfl rfl ?_
  refine AY c _ a b ?_
  repeat' first | (refine gN (hEr [] [16,17,18,19,20]) ?_;conv=>whnf) | refine ⟨a.toNat,j,?_⟩ | refine ⟨b.toNat,k,?_⟩ | refine ⟨_,e,?_⟩ | refine ⟨_,i,?_⟩ | exact rfl | refine aY ?_ | refine aN ?_ | refine aT fun h=>?_ | refine aF fun h=>?_ | refine ⟨fun h=>?_,fun h=>?_⟩ | refine aJ ?_ | refine ⟨_,rfl,?_⟩ | refine aD ?_ | fail
  all_goals (refine congrArg (fun b=>Res.ret (AVal.bool b)) ?_;rw [<-d];clear e i j k m l d;simp_all<;>rfl)
 have p:lv=3:=o_
 subst p
 rw [if_neg d_,if_neg d_,if_neg d_] at d
 exact zqra1
theorem aDR (c:Con) (lv a b:Int) (d:0<=lv) (h3:lv<=3) (e:vH c a) (g:vH c b):aA Tryz.prog 297 [c.av,ii lv,ii a,ii b] [] (.ret (.bool (alB c lv a b))) []:=ZE c lv a b d h3 e g _ rfl
noncomputable abbrev fRG:Func:=Tryz.f262
abbrev rgO (c:Con) (s:List (List Int)):List AObj:=[.cells 26 c.cs,.row 0 1 53 (gav s)]
abbrev rgF (lv:Int) (i:Int):List (Nat×AVal):=[(1,ii lv),(2,.ref 0 0),(5,.row 1 0),(6,ii i)]
structure GH (c:Con) (i:Nat) (s:List (List Int)):Prop where
 len:s.length<=i
 one:∀ g∈s,g.length<=i/\∃ a r,g=a::r/\vH c a
theorem GH.step {c:Con} {lv:Int} {i:Nat} {s:List (List Int)} (h:GH c i s) (n:i<c.hs.length):GH c (i+1) (rgS c lv s i):=by
 obtain ⟨h1,f⟩:=h
 unfold rgS
 split
 .rename_i k m
  refine ⟨by simp;omega,fun g b=>?_⟩
  rcases Df b with b | rfl
  .obtain ⟨j,e⟩:=f g b
   exact ⟨by omega,e⟩
  .by_cases d:k<s.length
   .rw [Ab d]
    obtain ⟨j,a,r,e,l⟩:=f _ (Bb d)
    refine ⟨by simp;omega,a,r++[(i:Int)],?_,l⟩
    show s[k]++_=_
    rw [e];rfl
   .rw [Bh o_]
    exact ⟨by simp,(i:Int),[],rfl,⟨by omega,by omega⟩⟩
 .refine ⟨by simp;omega,fun g b=>?_⟩
  rcases Az.1 b with b | b
  .obtain ⟨j,e⟩:=f g b
   exact ⟨by omega,e⟩
  .simp at b
   subst b
   exact ⟨by simp,(i:Int),[],rfl,⟨by omega,by omega⟩⟩
theorem aFW (l:List (List Int)) (i:Nat) (x:List Int):(gav l).set i (.slice 1 (iv x) .no)=gav (l.set i x):=by simp [gav,Gc]
theorem aKE (c:Con) (lv:Int) (B:0<=lv) (h3:lv<=3) (i:Nat) (F:i<c.hs.length) (H:c.hs.length<=1048576) (G:Goal) (D:G= .pure G.res) (s:List (List Int)) (hs:GH c i s):
  ∀ (m k:Nat),k+m=s.length->
  To (Er [5] []) fRG (.pure G.res) (.head (stk fRG 0) (rgF lv ((i:Int)+1)) (rgO c (match cM c lv (i:Int) (s.drop k) k with | some k=>s.set k ((s[k]?).getD []++[(i:Int)]) | none=>s++[[(i:Int)]])))->
  To (Er [5] []) fRG (.pure G.res) (.head (stk fRG 1) (rgF lv (i:Int)++[(7,.bool false),(8,ii k)]) (rgO c s)):=by
 have z:(gav s).length=s.length:=by simp
 have hsl:=hs.len
 intro m
 induction m with
 | zero=>
  intro k C b
  rw [Ae o_] at b
  have b:To (Er [5] []) fRG (.pure G.res) (.head (stk fRG 0) (rgF lv ((i:Int)+1)) (rgO c (s++[[(i:Int)]]))):=b
  have e:gav (s++[[(i:Int)]])=gav s++[.slice 1 [ii i] .no]:=by simp [gav]
  unfold rgO at b
  rw [e] at b
  refine gV ?_
  exact zW
 | succ m v=>
  intro k C b
  have d:k<s.length:=o_
  obtain ⟨g,a,r,w,q⟩:=hs.one _ (Bb d)
  rw [Ac d] at b
  have u:s[k]? =some s[k]:=Ab d
  have n:=aFW s k (s[k]++[(i:Int)])
  have get:(gav s)[k]? =some (.slice 1 (iv s[k]) .no):=I7 d
  have v:=v (k+1) o_
  have f:=aDR c lv a (i:Int) B h3 q ⟨by omega,by omega⟩
  unfold cM at b
  rw [w] at g get
  have y:r.length+1<=i:=by simpa using g
  have o:(iv (a::r))[0]? =some (ii a):=rfl
  have x:(s[k]).headD 0=a:=by rw [w];rfl
  rw [x] at b
  cases p:alB c lv a (i:Int) with
  | false=>
   rw [p] at f
   rw [if_neg (by rw [p];decide)] at b
   have next:=v b
   refine gV ?_
   exact zW
  | true=>
   rw [p] at f
   rw [if_pos p] at b
   have b:To (Er [5] []) fRG (.pure G.res) (.head (stk fRG 0) (rgF lv ((i:Int)+1)) (rgO c (s.set k ((s[k]?).getD []++[(i:Int)])))):=b
   rw [u] at b
   have b:To (Er [5] []) fRG (.pure G.res) (.head (stk fRG 0) (rgF lv ((i:Int)+1)) (rgO c (s.set k (s[k]++[(i:Int)])))):=b
   unfold rgO at b
   rw [<-n,w,show iv ((a::r)++[(i:Int)])=iv (a::r)++[ii i] from by simp] at b
   have l:((gav s).set k (.slice 1 (iv (a::r)++[ii i]) .no)).length=s.length:=by simp
   generalize A:(gav s).set k (.slice 1 (iv (a::r)++[ii i]) .no)=S at b l
   have j:To (Er [5] []) fRG (.pure G.res) (.head (stk fRG 1) (rgF lv (i:Int)++[(7,.bool true),(8,ii ((k:Int)+1))]) [.cells 26 c.cs,.row 0 1 53 S]):=by
    refine gV ?_
    repeat' first | (refine gN (hEr [5] []) ?_;conv=>whnf) | exact rfl | refine aY ?_ | refine aN ?_ | refine aT fun h=>?_ | refine aF fun h=>?_ | refine ⟨fun h=>?_,fun h=>?_⟩ | refine aJ ?_ | refine ⟨_,rfl,?_⟩ | refine aD ?_ | fail
    .exact zW
    .exact zW
   rw [<-A] at j
   refine gV ?_
   refine aT fun h=>?_
   repeat' first | (refine gN (hEr [5] []) ?_;conv=>whnf) | refine ⟨k,rfl,?_⟩ | refine ⟨_,get,?_⟩ | refine ⟨_,o,?_⟩ | refine .pure _ [] f ?_ | refine ⟨⟨by simp only [maxLen];simp;omega,by simp;omega⟩,?_⟩ | exact rfl | refine aY ?_ | refine aN ?_ | refine aT fun h=>?_ | refine aF fun h=>?_ | refine ⟨fun h=>?_,fun h=>?_⟩ | refine aJ ?_ | refine ⟨_,rfl,?_⟩ | refine aD ?_ | fail
   exact zW
theorem aIx (c:Con) (f:c.sm) (lv:Int) (e:0<=lv) (h3:lv<=3) (R:List (List Int)):∀ (n i:Nat) (s:List (List Int)),i+n=c.hs.length->GH c i s->(Le i n).foldl (rgS c lv) s=R->
  To (Er [5] []) fRG (.pure (.ret (.slice 1 (gav R) .no))) (.head (stk fRG 0) (rgF lv (i:Int)) (rgO c s)):=by
 have h1:=f.hs
 have b:(hav c.hs).length=c.hs.length:=by simp
 intro n
 induction n with
 | zero=>
  intro i s g hs a
  have a:s=R:=a
  subst a
  refine gV ?_
  exact zW
 | succ n h=>
  intro i s g hs a
  rw [Ju,Al] at a
  have next:=h (i+1) (rgS c lv s i) o_ (hs.step o_) a
  refine gV ?_
  have d:=aKE c lv e h3 i o_ h1 (.pure (.ret (.slice 1 (gav R) .no))) rfl s hs s.length 0 o_ next
  exact zW
theorem PK (c:Con) (e:c.sm) (lv:Int):aA Tryz.prog 262 [c.av,ii lv] [] (.ret (.slice 1 (gav (gpL c lv)) .no)) []:=by
 have h1:=e.hs
 obtain ⟨R,a⟩:∃ R,R=gpL c lv:=⟨_,rfl⟩
 rw [<-a]
 rw [<-aAU] at a
 unfold rgL at a
 by_cases h:lv<0
 .rw [if_pos (decide_eq_true h)] at a
  exact zqra9
 rw [if_neg (by rw [decide_eq_false h];decide)] at a
 by_cases d:3<lv
 .rw [if_pos (decide_eq_true d)] at a
  exact zqra9
 rw [if_neg (by rw [decide_eq_false d];decide),Ic] at a
 refine cT (E:=(Er [5] [])) (fn:=Tryz.f262) (g:=.pure _) fun _=>?_
 have b:=aIx c e lv o_ o_ R c.hs.length 0 [] o_ ⟨by simp,fun g i=>by simp at i⟩ a.symm
 exact zW
noncomputable abbrev aCI:Func:=Tryz.f298
theorem PC (free need:V3) (r:Int):∀ (m:Nat) (n:Int),0<=n->n+m=16->rrF free need m n=r->
  To E aCI (.pure (.ret (ii r))) (.head (stk aCI 0) [(2,.ref 0 0),(3,.ref 1 0),(5,ii n)] [.cells 34 free.cs,.cells 34 need.cs]):=by
 intro m
 induction m with
 | zero=>
  intro n e f a
  have a:n=r:=a
  subst a
  refine gV ?_
  exact zW
 | succ m g=>
  intro n e f a
  unfold rrF at a
  have h1:=TJ need (n+1)
  generalize OT need (n+1)=q at h1 a
  have b:=lG q free
  have h3:=lG need free
  cases d:cF q free with
  | false=>
   rw [d] at b
   rw [if_neg (by rw [d];decide)] at a
   subst a
   refine gV ?_
   repeat' first | (refine gN hE ?_;conv=>whnf) | refine Aa (Aa (by simp only [bO];omega) (by simp only [bA];omega)) ?_ | refine .pure _ [] h1 ?_ | refine .pure _ [] b ?_ | exact rfl | refine aY ?_ | refine aN ?_ | refine aT fun h=>?_ | refine aF fun h=>?_ | refine ⟨fun h=>?_,fun h=>?_⟩ | refine aJ ?_ | refine ⟨_,rfl,?_⟩ | refine aD ?_ | fail
  | true=>
   rw [d] at b
   rw [if_pos d] at a
   cases c:cF need free with
   | false=>
    rw [c] at h3
    rw [if_neg (by rw [c];decide)] at a
    subst a
    refine gV ?_
    repeat' first | (refine gN hE ?_;conv=>whnf) | refine Aa (Aa (by simp only [bO];omega) (by simp only [bA];omega)) ?_ | refine .pure _ [] h1 ?_ | refine .pure _ [] b ?_ | refine .pure _ [] h3 ?_ | exact rfl | refine aY ?_ | refine aN ?_ | refine aT fun h=>?_ | refine aF fun h=>?_ | refine ⟨fun h=>?_,fun h=>?_⟩ | refine aJ ?_ | refine ⟨_,rfl,?_⟩ | refine aD ?_ | fail
   | true=>
    rw [c] at h3
    rw [if_pos c] at a
    have next:=g (n+1) o_ o_ a
    refine gV ?_
    repeat' first | (refine gN hE ?_;conv=>whnf) | refine Aa (Aa (by simp only [bO];omega) (by simp only [bA];omega)) ?_ | refine .pure _ [] h1 ?_ | refine .pure _ [] b ?_ | refine .pure _ [] h3 ?_ | exact rfl | refine aY ?_ | refine aN ?_ | refine aT fun h=>?_ | refine aF fun h=>?_ | refine ⟨fun h=>?_,fun h=>?_⟩ | refine aJ ?_ | refine ⟨_,rfl,?_⟩ | refine aD ?_ | fail
    exact To.cut [2,3,5] 2 rfl rfl rfl rfl next
theorem aAD (free need:V3) (a:aQ need=true):aA Tryz.prog 298 [free.av,need.av] [] (.ret (ii (dV free need))) []:=by
 rw [<-aKB a]
 refine c_ Tryz.f298 fun _=>?_
 refine gV ?_
 exact To.cut [2,3,5] 2 rfl rfl rfl rfl (PC free need _ 16 0 d_ d_ rfl)
noncomputable abbrev YN:Func:=Tryz.f263
abbrev inO (c:Con) (g:Gan):List AObj:=[.cells 26 c.cs,.cells 36 g.cs,.tail 0 1 3]
abbrev inF (free:List V3) (gr:List Int) (out:List Int) (i:Int):List (Nat×AVal):=[(1,.slice 3 (vav free) .no),(2,.slice 1 (iv gr) .no),(7,.ref 1 0),(10,.slice 1 (iv out) (.own 2 0)),(11,ii i)]
theorem aIw (c:Con) (free:List V3) (g:Gan) (p:0<=g.pods/\g.pods<=16) (b:List Int) (hl:b.length<=1048576) (G:Goal) (h:Int) (i:Nat) (o:i<1048576) (get:(iv b)[i]? =some (ii h)):∀ (m:Nat) (k:Int) (out:List Int),k<=16->(max (min k (g.pods-out.length)) 0).toNat=m->(out.length:Int)<=g.pods->
  To (Eo [10] []) YN (.pure G.res) (.head (stk YN 0) (inF free b (out++Ai m h) ((i:Int)+1)) (inO c g))->
  To (Eo [10] []) YN (.pure G.res) (.head (stk YN 1) (inF free b out (i:Int)++[(12,ii k)]) (inO c g)):=by
 have f:(iv b).length=b.length:=by simp
 intro m
 induction m with
 | zero=>
  intro k out j hm hp a
  have d:(iv out).length=out.length:=by simp
  rw [List.replicate_zero,Bc] at a
  by_cases h1:0<k
  .refine gV ?_
   exact zW
  .refine gV ?_
   exact zW
 | succ m n=>
  intro k out j hm hp a
  have d:(iv out).length=out.length:=by simp
  have l:out++[h]++Ai m h=out++Ai (m+1) h:=by rw [Aj];rfl
  have next:=n (k-1) (out++[h]) o_ q_ q_ (by rw [l];exact a)
  have e:iv (out++[h])=iv out++[ii h]:=by simp
  unfold inF at next
  rw [e] at next
  refine gV ?_
  exact zW
theorem aAR (c:Con) (free:List V3) (g:Gan) (x:0<=g.pods/\g.pods<=16) (t:aQ g.need=true) (a:List Int) (hl:a.length<=1048576) (R:List Int):∀ (m i:Nat) (out:List Int),i+m=a.length->(out.length:Int)<=g.pods->(a.drop i).foldl (inS free g) out=R->
  To (Eo [10] []) YN (.pure (.ret (C0 R g))) (.head (stk YN 0) (inF free a out (i:Int)) (inO c g)):=by
 have l:(iv a).length=a.length:=by simp
 have o:(vav free).length=free.length:=by simp
 intro m
 induction m with
 | zero=>
  intro i out s hp b
  rw [Ae o_] at b
  have b:out=R:=b
  subst b
  have w:(iv out).length=out.length:=by simp
  obtain ⟨Q,d⟩:∃ Q,Q=C0 out g:=⟨_,rfl⟩
  rw [<-d]
  unfold C0 at d
  by_cases h1:(out.length:Int)<g.pods
  .rw [if_pos (decide_eq_true h1)] at d
   subst d
   refine gV ?_
   exact zW
  .rw [if_neg (by rw [decide_eq_false h1];decide)] at d
   subst d
   refine gV ?_
   exact zW
 | succ m u=>
  intro i out s hp b
  have h:i<a.length:=o_
  rw [Ac h,Al] at b
  have e:=AN free g out a[i] hp
  have get:=bS h
  generalize a[i]=u0 at b e get
  have next:=u (i+1) (inS free g out u0) o_ e b
  unfold inS at next
  by_cases h1:u0<0
  .rw [if_pos (decide_eq_true h1)] at next
   refine gV ?_
   exact zW
  .rw [if_neg (by rw [decide_eq_false h1];decide)] at next
   by_cases j:(free.length:Int)<=u0
   .rw [if_pos (decide_eq_true j)] at next
    refine gV ?_
    exact zW
   .rw [if_neg (by rw [decide_eq_false j];decide)] at next
    have f:u0.toNat<free.length:=o_
    have y:u0=(u0.toNat:Int):=o_
    rw [Ab f,show ((some free[u0.toNat]).getD V3.zero)=free[u0.toNat] from rfl] at next
    have q:(vav free)[u0.toNat]? =some free[u0.toNat].av:=kL f
    generalize free[u0.toNat]=v at q next
    have r:=aAD v g.need t
    have n:=BU v g.need
    unfold inN at next
    generalize dV v g.need=k at r n next
    have p:=aIw c free g x a hl (.pure (.ret (C0 R g))) u0 i o_ get _ k out n rfl hp next
    refine gV ?_
    exact zW
theorem aIv (c:Con) (free:List V3) (g:Gan) (d:0<=g.pods/\g.pods<=16) (e:aQ g.need=true) (a:List Int) (hl:a.length<=1048576):aA Tryz.prog 263 [c.av,.slice 3 (vav free) .no,.slice 1 (iv a) .no,g.av] [] (.ret (C0 (inL free g a) g)) []:=by
 refine cT (E:=(Eo [10] [])) (fn:=Tryz.f263) (g:=.pure _) fun _=>?_
 have b:=aAR c free g d e a hl _ a.length 0 [] o_ q_ rfl
 exact zW
noncomputable abbrev xP:Func:=Tryz.f204
abbrev rfO (c:Con) (g:Gan):List AObj:=[.cells 26 c.cs,.cells 36 g.cs]
abbrev rfF (free:List V3) (lv:Int):List (Nat×AVal):=[(1,.slice 3 (vav free) .no),(3,.ref 0 0),(5,.ref 1 0),(9,ii lv)]
theorem aIz (c:Con) (D:c.sm) (free:List V3) (g:Gan) (C:0<=g.pods/\g.pods<=16) (B:aQ g.need=true) (lv:Int) (u:0<=lv) (p:lv<=3) (Q:Option (Int×List Int)) (a:List (List Int)) (v:a.length<=1048576) (n:∀ xs∈a,xs≠[]/\xs.length<=c.hs.length/\∀ h∈xs,0<=h/\h<(c.hs.length:Int)):∀ (m i:Nat),i+m=a.length->
  (∀ x,fdG c free g (a.drop i)=some x->Q=some x)->(fdG c free g (a.drop i)=none->To E xP (.pure (.ret (fdA Q))) (.head (stk xP 0) (rfF free (lv+1)) (rfO c g)))->
  To E xP (.pure (.ret (fdA Q))) (.head (stk xP 1) (rfF free lv++[(10,.slice 1 (gav a) .no),(11,ii i)]) (rfO c g)):=by
 have q:(gav a).length=a.length:=by simp
 have z:=D.hs
 intro m
 induction m with
 | zero=>
  intro i A hs b
  rw [Ae o_] at b
  have next:=b rfl
  refine gV ?_
  exact zW
 | succ m o=>
  intro i A hs b
  have e:i<a.length:=o_
  obtain ⟨j,l,k⟩:=n _ (Bb e)
  rw [Ac e] at hs b
  have get:=I7 e
  generalize a[i]=gr at hs b get j l k
  have o:=o (i+1) o_
  have f:=aIv c free g C B gr o_
  unfold fdG at hs b
  unfold C0 at f
  by_cases s:((inL free g gr).length:Int)<g.pods
  .rw [if_pos (decide_eq_true s)] at hs b f
   have next:=o hs b
   refine gV ?_
   exact zW
  .rw [if_neg (by rw [decide_eq_false s];decide)] at hs b f
   have w:=hs _ rfl
   subst w
   match gr,j with
   | d::r,_=>
   have y:=k d s_
   have F:(hav c.hs)[d.toNat]? =some (bE c.hs d).av:=by
    have:=rX (c:=c) (i:=d.toNat) o_
    rwa [Iq y.1] at this
   have b:d=(d.toNat:Int):=o_
   have t:(iv (d::r))[0]? =some (ii d):=rfl
   refine gV ?_
   exact zW
theorem aEV (c:Con) (e:c.sm) (free:List V3) (g:Gan) (o:0<=g.pods/\g.pods<=16) (l:aQ g.need=true):∀ (n:Nat) (lv:Int),0<=lv->n=(min g.lev 3+1-lv).toNat->
  To E xP (.pure (.ret (fdA (fdL c free g n lv)))) (.head (stk xP 0) (rfF free lv) (rfO c g)):=by
 intro n
 induction n with
 | zero=>
  intro lv i m
  by_cases h1:lv<=g.lev
  .refine gV ?_
   exact zW
  .refine gV ?_
   exact zW
 | succ n d=>
  intro lv i m
  have d:=d (lv+1) o_ o_
  have f:=aCo c lv
  have k:=e.hs
  have j:(gav (gpL c lv)).length=(gpL c lv).length:=by simp
  obtain ⟨Q,b⟩:∃ Q,Q=fdL c free g (n+1) lv:=⟨_,rfl⟩
  rw [<-b]
  unfold fdL at b
  refine gV ?_
  refine aT fun h=>?_
  repeat' first | (refine gN hE ?_;conv=>whnf) | refine .pure _ [] (PK c e lv) ?_ | exact rfl | refine aY ?_ | refine aN ?_ | refine aT fun h=>?_ | refine aF fun h=>?_ | refine ⟨fun h=>?_,fun h=>?_⟩ | refine aJ ?_ | refine ⟨_,rfl,?_⟩ | refine aD ?_ | fail
  refine To.cut [1,3,5,9,10,11] 2 rfl rfl rfl rfl ?_
  refine aIz c e free g o l lv i o_ Q (gpL c lv) o_ f.2 (gpL c lv).length 0 o_ (fun x a=>?_) (fun a=>?_)
  .have a:fdG c free g (gpL c lv)=some x:=a
   rw [a] at b
   exact b
  .have a:fdG c free g (gpL c lv)=none:=a
   rw [a] at b
   rw [b]
   exact d
theorem aAX (c:Con) (b:c.sm) (free:List V3) (g:Gan) (a:0<=g.pods/\g.pods<=16) (d:aQ g.need=true):aA Tryz.prog 204 [c.av,.slice 3 (vav free) .no,g.av] [] (.ret (fdA (sU c free g))) []:=by
 refine c_ Tryz.f204 fun _=>?_
 refine gV ?_
 exact To.cut [1,3,5,9] 2 rfl rfl rfl rfl (aEV c b free g a d _ _ o_ rfl)
theorem LT (c:Con) (e:c.sm) (l:List Rn) (hl:Sm l) (g:Gan) (k:0<=g.pods/\g.pods<=16) (n:aQ g.need=true) (Q:Option (Int×List Int)) (a:bU c l g=Q):aA Tryz.prog 135 [c.av,.slice 14 (rav l) .no,g.av] [] (.ret (fdA Q)) []:=by
 unfold bU at a
 have hm:=aAF c e (ofL c l) g.ten (dem g)
 have m:=IC g
 generalize zS c (ofL c l) g.ten (dem g)=b at a hm
 generalize dem g=d at hm m
 have i:=aAX c e (iK c l) g k n
 have j:=aAV c e l hl
 have h:=H8 c e l hl.1
 generalize iK c l=fr at i a j
 generalize ofL c l=us at hm h
 cases b with
 | false=>
  have a:none=Q:=a
  subst a
  exact zqra12
 | true=>
  have a:sU c fr g=Q:=a
  rw [a] at i
  unfold fdA at i⊢
  cases Q with
  | none=>
   exact zqra12
  | some x=>
   exact zqra12
theorem lI (c:Con) (b:c.sm) (l:List Rn) (hl:Sm l) (g:Gan) (a:0<=g.pods/\g.pods<=16) (d:aQ g.need=true):aA Tryz.prog 135 [c.av,.slice 14 (rav l) .no,g.av] [] (.ret (fdA (bU c l g))) []:=LT c b l hl g a d _ rfl
theorem IG (c:Con) (k:c.sm) (g:Gan) (j:0<=g.pods/\g.pods<=16) (l:aQ g.need=true) (b:Bool) (d:(bU c [] g).isNone=b):aA Tryz.prog 65 [c.av,g.av] [] (.ret (.bool b)) []:=by
 have a:=lI c k [] ⟨Cn _,fun x h=>by simp at h⟩ g j l
 generalize bU c [] g=Q at a d
 subst d
 unfold fdA at a
 cases Q with
 | none=>
  refine c_ Tryz.f65 fun _=>?_
  have e:=aA.nil2 a
  exact zW
 | some x=>
  refine c_ Tryz.f65 fun _=>?_
  have i:=aA.nil2 a
  exact zW
theorem LS (c:Con) (b:c.sm) (g:Gan) (a:0<=g.pods/\g.pods<=16) (d:aQ g.need=true):aA Tryz.prog 65 [c.av,g.av] [] (.ret (.bool (bU c [] g).isNone)) []:=IG c b g a d _ rfl
noncomputable abbrev U8:Func:=Tryz.f148
theorem LA (c:Con) (q:c.sm) (l:List Rn) (hs:Sm l) (g:Gan) (p:0<=g.pods/\g.pods<=16) (o:aQ g.need=true) (b:List Int) (k:b.length<=1048577) (R:Option Int):∀ (m i:Nat),i+m=b.length->stF c l g (b.drop i)=R->
  To E U8 (.pure (.ret (stA R))) (.head (stk U8 0) [(2,.slice 14 (rav l) .no),(4,.ref 0 0),(7,.ref 1 0),(10,.slice 1 (iv b) .no),(11,ii i)] [.cells 26 c.cs,.cells 36 g.cs]):=by
 have j:(iv b).length=b.length:=by simp
 intro m
 induction m with
 | zero=>
  intro i n a
  rw [Ae o_] at a
  have a:none=R:=a
  subst a
  refine gV ?_
  exact zW
 | succ m h=>
  intro i n a
  have d:i<b.length:=o_
  rw [Ac d] at a
  have get:=bS d
  generalize b[i]=t at a get
  unfold stF at a
  have e:=aBd l hs t
  have f:=lI c q (atL l t) (R9 hs t) g p o
  generalize atL l t=lt at e f a
  generalize bU c lt g=Q at f a
  have h:=h (i+1) o_
  unfold fdA at f
  cases Q with
  | none=>
   have a:stF c l g (b.drop (i+1))=R:=a
   have next:=h a
   refine gV ?_
   exact zW
  | some x=>
   have a:some t=R:=a
   subst a
   refine gV ?_
   exact zW
theorem LR (c:Con) (h:c.sm) (now:Int) (l:List Rn) (hs:Sm l) (g:Gan) (e:0<=g.pods/\g.pods<=16) (i:aQ g.need=true):aA Tryz.prog 148 [c.av,ii now,.slice 14 (rav l) .no,g.av] [] (.ret (stA (lE c now l g))) []:=by
 have a:=YR l now
 have h1:=hs.1
 have d:=aA7 l hs now
 rw [<-NS] at d
 unfold lE
 generalize vX l now=es at a d
 have b:(iv es).length=es.length:=by simp
 have next:=LA c h l hs g e i (now::es) q_ _ (es.length+1) 0 s_ rfl
 exact c_ Tryz.f148 fun _=>zW
theorem aFO (free:List V3) (g:Gan) (c:0<=g.pods/\g.pods<=16) (a:List Int):(inL free g a).length<=16:=by
 have key:∀ (l:List Int) (out:List Int),(out.length:Int)<=g.pods->((l.foldl (inS free g) out).length:Int)<=g.pods:=fun l=>by
  induction l with
  | nil=>intro out h;exact h
  | cons x r b=>intro out h;exact b _ (AN free g out x h)
 have:=key a [] q_
 unfold inL
 omega
theorem U0 {c:Con} {free:List V3} {g:Gan} (a:0<=g.pods/\g.pods<=16) {x:Int×List Int}:∀ {b:List (List Int)},fdG c free g b=some x->x.2.length<=16
 | [],h=>by cases h
 | gr::r,h=>by
  unfold fdG at h
  split at h
  .exact U0 a h
  .cases h
   exact aFO free g a gr
theorem UZ {c:Con} {free:List V3} {g:Gan} (a:0<=g.pods/\g.pods<=16) {x:Int×List Int}:∀ {n:Nat} {lv:Int},fdL c free g n lv=some x->x.2.length<=16
 | 0,lv,h=>by cases h
 | n+1,lv,h=>by
  unfold fdL at h
  split at h
  .rename_i y b
   cases h
   exact U0 a b
  .exact UZ a h
theorem DB {c:Con} {l:List Rn} {g:Gan} (a:0<=g.pods/\g.pods<=16) {x:Int×List Int} (h:bU c l g=some x):x.2.length<=1048576:=by
 unfold bU at h
 split at h
 .unfold sU at h
  have:=UZ a h
  omega
 .cases h
end Go.Proofs.YticlgfdibfobdaaGreat
namespace Go.AW
open Go.RowKit
theorem Mem.beginRow {M:Imm} {ob:Hs} {obs:List AObj} {w:World} (hm:Mem M ob obs w) {k i m:Nat} {T e:TypeId} {cs:List AVal} (K:obs[k]? =some (.cells T cs)) (Q:cs[i]? =some (.slice m [] .nil)):
  Mem M (ob++[[.slice none 0 0]]) (obs.set k (.cells T (cs.set i (.row obs.length 0)))++[.row 0 m e []]) w/\
   Ext M ob obs w M (ob++[[.slice none 0 0]]) (obs.set k (.cells T (cs.set i (.row obs.length 0)))++[.row 0 m e []]) w/\dE ob (ob++[[.slice none 0 0]]):=by
 have l:dE ob (ob++[[.slice none 0 0]]):=fun j hs d=>⟨hs,by rw [Af (Ad.1 d).1];exact d,Cl _⟩
 have s:k<obs.length:=(Ad.1 K).1
 have f:(ob++[[.slice none 0 0]])[obs.length]? =some [.slice none 0 0]:=by rw [<-hm.len];simp
 have L:at' (ob++[[.slice none 0 0]]) obs.length 0=some (.slice none 0 0):=by rw [bZ f];rfl
 have y:∀ {j:Nat} {c:AObj},(obs.set k (.cells T (cs.set i (.row obs.length 0)))++[.row 0 m e []])[j]? =some c->
   (j=obs.length/\c= .row 0 m e [])\/(j=k/\c= .cells T (cs.set i (.row obs.length 0)))\/(j≠k/\j<obs.length/\obs[j]? =some c):=fun {j c} d=>by
  by_cases o:j<obs.length
  .rw [Af (by simpa using o)] at d
   by_cases p:j=k
   .subst p
    rw [Ap o] at d
    cases d
    exact .inr (.inl ⟨rfl,rfl⟩)
   .rw [Aw (Eg p)] at d
    exact .inr (.inr ⟨p,o,d⟩)
  .have r:j=obs.length:=by
    have:=(Ad.1 d).1
    simp at this
    omega
   subst r
   rw [Ak s_] at d
   simp at d
   exact .inl ⟨rfl,d.symm⟩
 have B:∀ {j b:Nat},aM (ob++[[.slice none 0 0]]) (obs.set k (.cells T (cs.set i (.row obs.length 0)))++[.row 0 m e []]) j b->aM ob obs j b:=fun {j b} ⟨c,hs,t,z,e3,e4⟩=>by
  rcases y t with ⟨rfl,rfl⟩ | ⟨rfl,rfl⟩ | ⟨h1,r,h3⟩
  .rw [f] at e3
   cases e3
   cases e4
  .rw [Af (by rw [hm.len];exact s)] at e3
   exact ⟨_,hs,K,rfl,e3,e4⟩
  .rw [Af (by rw [hm.len];exact r)] at e3
   exact ⟨c,hs,h3,z,e3,e4⟩
 have P:∀ (j:Nat) c,(obs.set k (.cells T (cs.set i (.row obs.length 0)))++[.row 0 m e []])[j]? =some c->∃ hs,(ob++[[.slice none 0 0]])[j]? =some hs/\gK M (ob++[[.slice none 0 0]]) w hs c:=fun j c d=>by
  rcases y d with ⟨rfl,rfl⟩ | ⟨rfl,rfl⟩ | ⟨h1,r,h3⟩
  .have V:dD M w (.slice none 0 0) m e []:=by
    refine ⟨[],Hg w 0 _ _,?_,?_,?_,?_,?_⟩
    .intro u S;simp at S
    .intro x W;simp at W
    .intro q c X;simp [aK] at X
    .intro b D;cases D
    .intro b D;cases D
   exact ⟨_,f,rfl,_,rfl,V⟩
  .obtain ⟨hs,t,b,I,J,cv,F,O,N,C⟩:=hm.obj _ _ K
   refine ⟨hs,by rw [Af (by rw [hm.len];exact s)];exact t,b,I,J,cv,F,by simpa using O,N,fun n v a A g=>?_⟩
   by_cases R:n=i
   .subst R
    have G:n<cs.length:=(Ad.1 Q).1
    rw [Ap G] at g
    cases g
    have:=C n v _ A Q
    obtain ⟨_,H⟩:=this.untok
    have H:v= .slice none 0 0:=H
    subst H
    exact .row _ _ _ _ _ L
   .rw [Aw (Eg R)] at g
    exact (C n v a A g).mono (fun _ _ _ h=>h) l
  .obtain ⟨hs,t,z⟩:=hm.obj j c h3
   refine ⟨hs,by rw [Af (by rw [hm.len];exact r)];exact t,?_⟩
   cases c with
   | cells Y cs'=>
    obtain ⟨b,I,J,cv,F,O,N,C⟩:=z
    exact ⟨b,I,J,cv,F,O,N,fun n v a A g=>(C n v a A g).mono (fun _ _ _ h=>h) l⟩
   | _=>exact z
 refine ⟨⟨hm.imm,by simp [hm.len],P,fun j b g=>hm.lt j b (B g),fun j U b h1 r=>hm.inj j U b (B h1) (B r)⟩,⟨fun _ _ _ h=>h,fun _ _ _ h=>.inl h,l,rfl,rfl,rfl,Ba _,fun _ _ _=>rfl,fun j b g=>.inl ⟨j,B g⟩⟩,l⟩
theorem To.beginRowH {E:Env} {fn:Func} {g:Goal} {st:List KI} {fr:List (Nat×AVal)} {obs:List AObj} (k i:Nat) (e:TypeId) {T:TypeId} {cs:List AVal} {l:Nat} (o:aE obs k= .cells T cs) (q:nth cs i=some (.slice l [] .nil))
  (h:To E fn g (.head st fr (kG (bJ obs k (.cells T (K4 cs i (.row (aP obs) 0)))) (.row 0 l e [])))):To E fn g (.head st fr obs):=
 .mk fun f M0 ob0 c w0 a w hst hs=>by
  refine h.rec fun h=>h f M0 ob0 c w0 a w hst ?_
  obtain ⟨M,ob,r,hm,d,s,p,u⟩:=hs
  have b:=bG o s_
  obtain ⟨m,n,j⟩:=hm.beginRow (e:=e) b (lK q)
  rw [nN,HY,bI,aR b]
  exact ⟨M,_,r.trans n,m,fun t=>(d t).mono (fun _ _ _ h=>h) j,s,p.mono (fun _ _ _ h=>h) j,by simp;omega⟩
theorem To.beginRow {E:Env} {fn:Func} {g:Goal} {st:List KI} {fr:List (Nat×AVal)} {obs:List AObj} (k i:Nat) (e:TypeId) {T:TypeId} {cs:List AVal} {a:Nat} (b:aE obs k= .cells T cs) (c:nth cs i=some (.slice a [] .nil))
  (h:To E fn g (.code st fr (kG (bJ obs k (.cells T (K4 cs i (.row (aP obs) 0)))) (.row 0 a e [])))):To E fn g (.code st fr obs):=
 To.toC (To.beginRowH k i e b c (To.ofC h))
end Go.AW
namespace Go.Proofs.YticlgfdibfobdaaGreat
open Go Go.AW Go.Proofs
set_option maxRecDepth 10000
theorem IQ (x:Int):aA Tryz.prog 283 [ii x] [] (.ret (.bool false)) []:=by
 refine c_ Tryz.f283 fun _=>?_
 refine gV ?_
 exact congrArg (fun b=>Res.ret (AVal.bool b)) s_
def N1 (a b:Int):Int:=if a<b then -1 else if b<a then 1 else 0
theorem VN (a b r:Int) (c:N1 a b=r):aA Tryz.prog 242 [ii a,ii b] [] (.ret (ii r)) []:=by
 unfold N1 at c
 by_cases h1:a<b
 .rw [if_pos h1] at c
  exact zqra4
 .rw [if_neg h1] at c
  by_cases e:b<a
  .rw [if_pos e] at c
   exact zqra4
  .rw [if_neg e] at c
   exact zqra4
theorem aDo (a b:Int):aA Tryz.prog 242 [ii a,ii b] [] (.ret (ii (N1 a b))) []:=VN a b _ rfl
def orI (p q:Int):Int:=if p=0 then q else p
theorem CB (p q r:Int) (b:orI p q=r):aA Tryz.prog 245 [.slice 1 [ii p,ii q] .no] [] (.ret (ii r)) []:=by
 unfold orI at b
 by_cases h1:p=0
 .subst h1
  rw [if_pos rfl] at b
  have hp:((0:Int) !=0)=false:=by decide
  by_cases c:q=0
  .subst c
   subst b
   have a:((0:Int) !=0)=false:=by decide
   refine c_ Tryz.f245 fun _=>?_
   repeat' first
    | (refine gW hE ?_;conv=>whnf)
    | exact rfl
    | refine Ah 0 (Aa rfl ?_)
    | refine Ah 1 (Aa rfl ?_)
    | refine Ah _ (Aa rfl ?_)
    | refine aY ?_
    | refine aN ?_
    | refine Aa (fun h=>?_) (fun h=>absurd h (by rw [hp];decide))
    | refine Aa (fun h=>?_) (fun h=>absurd h (by rw [a];decide))
    | refine Aa (fun h=>absurd h (by rw [hp];decide)) (fun h=>?_)
    | refine Aa (fun h=>absurd h (by rw [a];decide)) (fun h=>?_)
    | refine aJ ?_
    | fail
  .subst b
   have a:(q !=0)=true:=by simp [c]
   refine c_ Tryz.f245 fun _=>?_
   repeat' first
    | (refine gW hE ?_;conv=>whnf)
    | exact rfl
    | refine Ah 0 (Aa rfl ?_)
    | refine Ah 1 (Aa rfl ?_)
    | refine Ah _ (Aa rfl ?_)
    | refine aY ?_
    | refine aN ?_
    | refine Aa (fun h=>?_) (fun h=>absurd h (by rw [hp];decide))
    | refine Aa (fun h=>?_) (fun h=>absurd h (by rw [a];decide))
    | refine Aa (fun h=>absurd h (by rw [hp];decide)) (fun h=>?_)
    | refine Aa (fun h=>absurd h (by rw [a];decide)) (fun h=>?_)
    | refine aJ ?_
    | fail
 .rw [if_neg h1] at b
  subst b
  have hp:(p !=0)=true:=by simp [h1]
  have a:((0:Int) !=0)=false:=by decide
  refine c_ Tryz.f245 fun _=>?_
  repeat' first
   | (refine gW hE ?_;conv=>whnf)
   | exact rfl
   | refine Ah 0 (Aa rfl ?_)
   | refine Ah 1 (Aa rfl ?_)
   | refine Ah _ (Aa rfl ?_)
   | refine aY ?_
   | refine aN ?_
   | refine Aa (fun h=>?_) (fun h=>absurd h (by rw [hp];decide))
   | refine Aa (fun h=>?_) (fun h=>absurd h (by rw [a];decide))
   | refine Aa (fun h=>absurd h (by rw [hp];decide)) (fun h=>?_)
   | refine Aa (fun h=>absurd h (by rw [a];decide)) (fun h=>?_)
   | refine aJ ?_
   | fail
def cE (a b:Rn):Bool:=decide (orI (N1 b.st a.st) (N1 b.seq a.seq)<0)
theorem tM {a b:Rn}:cE a b=true↔b.st<a.st\/(b.st=a.st/\b.seq<a.seq):=by
 unfold cE orI N1
 rw [decide_eq_true_iff]
 by_cases h1:b.st<a.st
 .simp [h1]
 .by_cases c:a.st<b.st
  .simp [h1,c]
   omega
  .have h3:b.st=a.st:=o_
   by_cases d:b.seq<a.seq
   .simp [h1,c,h3,d]
   .by_cases e:a.seq<b.seq
    .simp [h1,c,h3,d,e]
    .simp [h1,c,h3,d,e]
theorem aFF (a b:Rn) (r:Bool) (c:cE a b=r):aA Tryz.prog 290 [a.av,b.av] [] (.ret (.bool r)) []:=by
 have h1:=aDo b.st a.st
 have d:=aDo b.seq a.seq
 unfold cE at c
 generalize N1 b.st a.st=p at h1 c
 generalize N1 b.seq a.seq=q at d c
 have h3:=CB p q _ rfl
 generalize orI p q=o at h3 c
 subst c
 exact c_ Tryz.f290 fun _=>zW
theorem QI (a b:Rn):aA Tryz.prog 290 [a.av,b.av] [] (.ret (.bool (cE a b))) []:=aFF a b _ rfl
theorem AB (x:Rn) (h:x.hs.length<=1048576):aA Tryz.prog 170 [x.av] [] (.ret x.av) []:=by
 refine c_ Tryz.f170 fun _=>?_
 have a:=xV x.hs h
 exact zW
def rn0:Rn:=⟨⟨0,0,0,V3.zero,0,0,0⟩,0,0,0,0,[]⟩
def aG (xs:List Rn) (i:Nat):Rn:=(xs[i]?).getD rn0
theorem jK {xs:List Rn} {i:Nat} (h:i<xs.length):(rav xs)[i]? =some (aG xs i).av:=by
 unfold aG
 rw [Ab h]
 exact bN h
def iC (xs:List Rn) (i k:Nat):List Rn:=(xs.set i (aG xs k)).set k (aG xs i)
theorem cY (xs:List Rn) (i k:Nat):(iC xs i k).length=xs.length:=by unfold iC;simp
theorem LP (xs:List Rn) (i k:Nat):rav (iC xs i k)=((rav xs).set i (aG xs k).av).set k (aG xs i).av:=by unfold iC;simp [rav,Gc]
def upH:Nat->List Rn->Nat->List Rn
 | 0,xs,_=>xs
 | f+1,xs,i=>if i=0 then xs else if cE (aG xs i) (aG xs ((i-1) / 2))=true then upH f (iC xs i ((i-1) / 2)) ((i-1) / 2) else xs
def hD (xs:List Rn) (x:Rn):List Rn:=upH (xs.length+1) (xs++[x]) xs.length
theorem ST:∀ (f:Nat) (xs:List Rn) (i:Nat),(upH f xs i).length=xs.length
 | 0,xs,i=>rfl
 | f+1,xs,i=>by
  unfold upH
  split
  .rfl
  .split
   .rw [ST f,cY]
   .rfl
theorem xA (xs:List Rn) (x:Rn):(hD xs x).length=xs.length+1:=by unfold hD;rw [ST];simp
abbrev aFG:AVal:=.func (.func 290) [] []
abbrev hpO (l:AVal) (g:Nat) (xs:List Rn):List AObj:=[.cells 322 [l,aFG],.row g 14 127 (rav xs)]
noncomputable abbrev aHy:Func:=Tryz.f291
theorem XI (N:Nat) (p:N<=1048577) (R:List Rn):∀ (f i:Nat) (ys:List Rn),ys.length=N->i<N->i<f->upH f ys i=R->
  To (Er [] [6,14,15,56]) aHy (.full 2 (.ret (.tup [])) (hpO (.row 1 1) 1 R)) (.head (stk aHy 0) [(0,.ref 0 0),(4,ii i)] (hpO (.row 1 1) 1 ys)):=by
 intro f
 induction f with
 | zero=>intro i ys _ _ h;omega
 | succ f n=>
  intro i ys o q r d
  have l:(rav ys).length=ys.length:=by simp
  unfold upH at d
  by_cases k:i=0
  .subst k
   rw [if_pos rfl] at d
   subst d
   refine gV ?_
   exact zW
  rw [if_neg k] at d
  have e:(i-1) / 2<ys.length:=o_
  have c:Hd ((i:Int)-1) 2=(((i-1) / 2:Nat):Int):=by
   rw [Ky o_]
   omega
  have j:=jK (xs:=ys) (i:=i) o_
  have g:=jK e
  have hl:=QI (aG ys i) (aG ys ((i-1) / 2))
  generalize m:(i-1) / 2=up at d c g hl e
  by_cases h1:cE (aG ys i) (aG ys up)=true
  .rw [if_pos h1] at d
   rw [h1] at hl
   have next:=n up (iC ys i up) (by rw [cY];exact o) o_ o_ d
   unfold hpO at next
   rw [LP] at next
   generalize aG ys i=a at j hl next
   generalize aG ys up=b at g hl next
   refine gV ?_
   refine aT fun h=>?_
   repeat' first
    | exact To.cut [0,4] 2 rfl rfl rfl rfl next
    | (refine gN (hEr [] [6,14,15,56]) ?_;conv=>whnf)
    | refine Ah i (Aa rfl ?_)
    | refine Ah up (Aa c ?_)
    | refine Ah _ (Aa j ?_)
    | refine Ah _ (Aa g ?_)
    | refine .pure _ [] hl ?_
    | refine aY ?_
    | refine aN ?_
    | refine Aa o_ ?_
    | refine Aa (by rw [Dp];omega) ?_
    | refine aJ ?_
    | refine Aa d_ ?_
    | fail
   rw [c]
   exact To.cut [0,4] 2 rfl rfl rfl rfl next
  .have h1:cE (aG ys i) (aG ys up)=false:=by simpa using h1
   rw [if_neg (by rw [h1];decide)] at d
   subst d
   rw [h1] at hl
   generalize aG ys i=a at j hl
   generalize aG ys up=b at g hl
   refine gV ?_
   exact zW
theorem aE5 (xs:List Rn) (hl:xs.length<=1048576) (x:Rn):aA Tryz.prog 291 [.ref 0 0,x.av] (hpO (.row 1 0) 0 xs) (.ret (.tup [])) (hpO (.row 1 1) 1 (hD xs x)):=by
 have b:(rav xs).length=xs.length:=by simp
 have next:=XI (xs.length+1) o_ (hD xs x) (xs.length+1) xs.length (xs++[x]) s_ o_ o_ rfl
 have e:rav (xs++[x])=rav xs++[x.av]:=by simp
 unfold hpO at next
 rw [e] at next
 refine cT (E:=(Er [] [6,14,15,56])) (fn:=Tryz.f291) (g:=.full 2 _ _) fun _=>?_
 repeat' first | (refine gN (hEr [] [6,14,15,56]) ?_;conv=>whnf) | refine ⟨⟨by simp only [maxLen];simp;omega,by simp;omega⟩,?_⟩ | refine Fo (Aa (Aa (by simp only [Ay,Bq,Fv,bO];omega) (by simp only [Ay,Bq,Fv,bA];omega)) ?_) | exact rfl | refine aY ?_ | refine aN ?_ | refine aT fun h=>?_ | refine aF fun h=>?_ | refine ⟨fun h=>?_,fun h=>?_⟩ | refine aJ ?_ | refine ⟨_,rfl,?_⟩ | refine aD ?_ | fail
 refine To.cut [0,4] 2 rfl rfl rfl rfl ?_
 have a:(((rav xs++[x.av]).length:Int)-1)=((xs.length:Nat):Int):=by simp
 rw [<-a] at next
 exact next
set_option maxHeartbeats 2000000
def dR (xs:List Rn) (n i:Nat):Nat:=if 2*i+2<n then (if cE (aG xs (2*i+2)) (aG xs (2*i+1))=true then 2*i+2 else 2*i+1) else 2*i+1
theorem wA (xs:List Rn) (n i:Nat) (h:2*i+1<n):dR xs n i<n/\i<dR xs n i/\(dR xs n i=2*i+1\/dR xs n i=2*i+2):=by
 unfold dR
 split
 .split<;>omega
 .omega
def kH:Nat->List Rn->Nat->Nat->List Rn
 | 0,xs,_,_=>xs
 | f+1,xs,n,i=>if 2*i+1<n then (if cE (aG xs (dR xs n i)) (aG xs i)=true then kH f (iC xs i (dR xs n i)) n (dR xs n i) else xs) else xs
theorem G7:∀ (f:Nat) (xs:List Rn) (n i:Nat),(kH f xs n i).length=xs.length
 | 0,xs,n,i=>rfl
 | f+1,xs,n,i=>by
  unfold kH
  split
  .split
   .rw [G7 f,cY]
   .rfl
  .rfl
def pP (xs:List Rn) (n:Nat):List Rn:=kH n (xs.set 0 (aG xs (n-1))) (n-1) 0
theorem nP (xs:List Rn) (n:Nat):(pP xs n).length=xs.length:=by unfold pP;rw [G7];simp
theorem C5 {xs:List Rn} {i:Nat} (h:i<xs.length):(rav xs)[0+i]? =some (aG xs i).av:=by rw [Bw];exact jK h
theorem XE (xs:List Rn) (i k:Nat):rav (iC xs i k)=((rav xs).set (0+i) (aG xs k).av).set (0+k) (aG xs i).av:=by rw [Bw,Bw];exact LP xs i k
abbrev z14:List AVal:=[ii 0,ii 0,ii 0,ii 0,ii 0,ii 0,ii 0,ii 0,ii 0,ii 0,ii 0,ii 0,ii 0,.slice 1 [] .nil]
abbrev ppO (n:Nat) (ys:List Rn) (x:List AVal):List AObj:=hpO (.sub 1 0 0 n 14) 0 ys++[.cells 127 z14,.cells 127 x]
abbrev ppF (n i:Int):List (Nat×AVal):=[(0,.ref 0 0),(2,.ref 2 0),(3,.ref 3 0),(4,ii n),(5,ii i)]
noncomputable abbrev vV:Func:=Tryz.f292
theorem aIO (n N:Nat) (u:n<=N) (q:N<=1048577) (R:List Rn) (x:Rn) (i:Nat) (ys:List Rn) (s:ys.length=N) (p:2*i+1<n) (h3:2*i+2<n) (a b c:Rn) (j:(rav ys)[0+i]? =some a.av) (k:(rav ys)[0+(2*i+1)]? =some b.av) (l:(rav ys)[0+(2*i+2)]? =some c.av)
  (e:aA Tryz.prog 290 [c.av,b.av] [] (.ret (.bool true)) []) (r:Bool) (d:aA Tryz.prog 290 [c.av,a.av] [] (.ret (.bool r)) []) (g:r=false->ys=R)
  (next:r=true->To (Er [] [105]) vV (.full 2 (.ret x.av) (hpO (.sub 1 0 0 n 14) 0 R)) (.head (stk vV 0) (ppF n ((2*i+2:Nat):Int)) [.cells 322 [.sub 1 0 0 n 14,aFG],.row 0 14 127 (((rav ys).set (0+i) c.av).set (0+(2*i+2)) a.av),.cells 127 z14,.cells 127 x.cs])):
  To (Er [] [105]) vV (.full 2 (.ret x.av) (hpO (.sub 1 0 0 n 14) 0 R)) (.head (stk vV 0) (ppF n i) (ppO n ys x.cs)):=by
 have m:(rav ys).length=ys.length:=by simp
 have o:2*(i:Int)+1+1=((2*i+2:Nat):Int):=o_
 cases r with
 | false=>
  have g:=g rfl
  subst g
  refine gV ?_
  repeat' first
   | (refine gN (hEr [] [105]) ?_;conv=>whnf)
   | refine Ah (2*i+2) (Aa o_ ?_)
   | refine Ah (2*i+1) (Aa o_ ?_)
   | refine Ah i (Aa rfl ?_)
   | refine Ah _ (Aa l ?_)
   | refine Ah _ (Aa k ?_)
   | refine Ah _ (Aa j ?_)
   | refine .pure _ [] e ?_
   | refine .pure _ [] d ?_
   | refine aY ?_
   | refine aN ?_
   | refine aT fun h=>?_
   | refine aF fun h=>?_
   | refine Aa o_ ?_
   | refine Aa (by rw [Dp];omega) ?_
   | refine Aa (Aa (by simp only [bO];omega) (by simp only [bA];omega)) ?_
   | refine aJ ?_
   | refine Aa d_ ?_
   | refine ⟨[],[0,1],⟨rfl,rfl⟩,⟨rfl,rfl⟩⟩
   | fail
 | true=>
  have next:=next rfl
  rw [<-o] at next
  refine gV ?_
  repeat' first
   | (refine gN (hEr [] [105]) ?_;conv=>whnf)
   | refine Ah (2*i+2) (Aa o_ ?_)
   | refine Ah (2*i+1) (Aa o_ ?_)
   | refine Ah i (Aa rfl ?_)
   | refine Ah _ (Aa l ?_)
   | refine Ah _ (Aa k ?_)
   | refine Ah _ (Aa j ?_)
   | refine .pure _ [] e ?_
   | refine .pure _ [] d ?_
   | refine aY ?_
   | refine aN ?_
   | refine aT fun h=>?_
   | refine aF fun h=>?_
   | refine Aa o_ ?_
   | refine Aa (by rw [Dp];omega) ?_
   | refine Aa (Aa (by simp only [bO];omega) (by simp only [bA];omega)) ?_
   | refine aJ ?_
   | refine Aa d_ ?_
   | refine ⟨[],[0,1],⟨rfl,rfl⟩,⟨rfl,rfl⟩⟩
   | fail
  exact zqra6
theorem aIP (n N:Nat) (u:n<=N) (q:N<=1048577) (R:List Rn) (x:Rn) (i:Nat) (ys:List Rn) (s:ys.length=N) (p:2*i+1<n) (h3:2*i+2<n) (a b c:Rn) (j:(rav ys)[0+i]? =some a.av) (k:(rav ys)[0+(2*i+1)]? =some b.av) (l:(rav ys)[0+(2*i+2)]? =some c.av)
  (e:aA Tryz.prog 290 [c.av,b.av] [] (.ret (.bool false)) []) (r:Bool) (d:aA Tryz.prog 290 [b.av,a.av] [] (.ret (.bool r)) []) (g:r=false->ys=R)
  (next:r=true->To (Er [] [105]) vV (.full 2 (.ret x.av) (hpO (.sub 1 0 0 n 14) 0 R)) (.head (stk vV 0) (ppF n ((2*i+1:Nat):Int)) [.cells 322 [.sub 1 0 0 n 14,aFG],.row 0 14 127 (((rav ys).set (0+i) b.av).set (0+(2*i+1)) a.av),.cells 127 z14,.cells 127 x.cs])):
  To (Er [] [105]) vV (.full 2 (.ret x.av) (hpO (.sub 1 0 0 n 14) 0 R)) (.head (stk vV 0) (ppF n i) (ppO n ys x.cs)):=by
 have m:(rav ys).length=ys.length:=by simp
 have o:2*(i:Int)+1=((2*i+1:Nat):Int):=o_
 cases r with
 | false=>
  have g:=g rfl
  subst g
  refine gV ?_
  repeat' first
   | (refine gN (hEr [] [105]) ?_;conv=>whnf)
   | refine Ah (2*i+2) (Aa o_ ?_)
   | refine Ah (2*i+1) (Aa o_ ?_)
   | refine Ah i (Aa rfl ?_)
   | refine Ah _ (Aa l ?_)
   | refine Ah _ (Aa k ?_)
   | refine Ah _ (Aa j ?_)
   | refine .pure _ [] e ?_
   | refine .pure _ [] d ?_
   | refine aY ?_
   | refine aN ?_
   | refine aT fun h=>?_
   | refine aF fun h=>?_
   | refine Aa o_ ?_
   | refine Aa (by rw [Dp];omega) ?_
   | refine Aa (Aa (by simp only [bO];omega) (by simp only [bA];omega)) ?_
   | refine aJ ?_
   | refine Aa d_ ?_
   | refine ⟨[],[0,1],⟨rfl,rfl⟩,⟨rfl,rfl⟩⟩
   | fail
 | true=>
  have next:=next rfl
  rw [<-o] at next
  refine gV ?_
  repeat' first
   | (refine gN (hEr [] [105]) ?_;conv=>whnf)
   | refine Ah (2*i+2) (Aa o_ ?_)
   | refine Ah (2*i+1) (Aa o_ ?_)
   | refine Ah i (Aa rfl ?_)
   | refine Ah _ (Aa l ?_)
   | refine Ah _ (Aa k ?_)
   | refine Ah _ (Aa j ?_)
   | refine .pure _ [] e ?_
   | refine .pure _ [] d ?_
   | refine aY ?_
   | refine aN ?_
   | refine aT fun h=>?_
   | refine aF fun h=>?_
   | refine Aa o_ ?_
   | refine Aa (by rw [Dp];omega) ?_
   | refine Aa (Aa (by simp only [bO];omega) (by simp only [bA];omega)) ?_
   | refine aJ ?_
   | refine Aa d_ ?_
   | refine ⟨[],[0,1],⟨rfl,rfl⟩,⟨rfl,rfl⟩⟩
   | fail
  exact zqra6
theorem aIQ (n N:Nat) (s:n<=N) (p:N<=1048577) (R:List Rn) (x:Rn) (i:Nat) (ys:List Rn) (q:ys.length=N) (o:2*i+1<n) (h3:¬ 2*i+2<n) (a b:Rn) (g:(rav ys)[0+i]? =some a.av) (j:(rav ys)[0+(2*i+1)]? =some b.av)
 (r:Bool) (c:aA Tryz.prog 290 [b.av,a.av] [] (.ret (.bool r)) []) (e:r=false->ys=R)
  (next:r=true->To (Er [] [105]) vV (.full 2 (.ret x.av) (hpO (.sub 1 0 0 n 14) 0 R)) (.head (stk vV 0) (ppF n ((2*i+1:Nat):Int)) [.cells 322 [.sub 1 0 0 n 14,aFG],.row 0 14 127 (((rav ys).set (0+i) b.av).set (0+(2*i+1)) a.av),.cells 127 z14,.cells 127 x.cs])):
  To (Er [] [105]) vV (.full 2 (.ret x.av) (hpO (.sub 1 0 0 n 14) 0 R)) (.head (stk vV 0) (ppF n i) (ppO n ys x.cs)):=by
  have l:(rav ys).length=ys.length:=by simp
  have d:=IQ 0
  have k:True:=trivial
  have m:2*(i:Int)+1=((2*i+1:Nat):Int):=o_
  cases r with
  | false=>
   have e:=e rfl
   subst e
   refine gV ?_
   repeat' first
    | (refine gN (hEr [] [105]) ?_;conv=>whnf)
    | refine Ah (2*i+2) (Aa o_ ?_)
    | refine Ah (2*i+1) (Aa o_ ?_)
    | refine Ah i (Aa rfl ?_)
    | refine Ah _ (Aa k ?_)
    | refine Ah _ (Aa j ?_)
    | refine Ah _ (Aa g ?_)
    | refine .pure _ [] d ?_
    | refine .pure _ [] c ?_
    | refine aY ?_
    | refine aN ?_
    | refine aT fun h=>?_
    | refine aF fun h=>?_
    | refine Aa o_ ?_
    | refine Aa (by rw [Dp];omega) ?_
    | refine Aa (Aa (by simp only [bO];omega) (by simp only [bA];omega)) ?_
    | refine aJ ?_
    | refine Aa d_ ?_
    | refine ⟨[],[0,1],⟨rfl,rfl⟩,⟨rfl,rfl⟩⟩
    | fail
  | true=>
   have next:=next rfl
   rw [<-m] at next
   refine gV ?_
   repeat' first
    | (refine gN (hEr [] [105]) ?_;conv=>whnf)
    | refine Ah (2*i+2) (Aa o_ ?_)
    | refine Ah (2*i+1) (Aa o_ ?_)
    | refine Ah i (Aa rfl ?_)
    | refine Ah _ (Aa k ?_)
    | refine Ah _ (Aa j ?_)
    | refine Ah _ (Aa g ?_)
    | refine .pure _ [] d ?_
    | refine .pure _ [] c ?_
    | refine aY ?_
    | refine aN ?_
    | refine aT fun h=>?_
    | refine aF fun h=>?_
    | refine Aa o_ ?_
    | refine Aa (by rw [Dp];omega) ?_
    | refine Aa (Aa (by simp only [bO];omega) (by simp only [bA];omega)) ?_
    | refine aJ ?_
    | refine Aa d_ ?_
    | refine ⟨[],[0,1],⟨rfl,rfl⟩,⟨rfl,rfl⟩⟩
    | fail
   exact zqra6
theorem L9 (n N:Nat) (t:n<=N) (s:N<=1048577) (R:List Rn) (x:Rn):∀ (f i:Nat) (ys:List Rn),ys.length=N->i<N->n<f+i+1->kH f ys n i=R->
  To (Er [] [105]) vV (.full 2 (.ret x.av) (hpO (.sub 1 0 0 n 14) 0 R)) (.head (stk vV 0) (ppF n i) (ppO n ys x.cs)):=by
 intro f
 induction f with
 | zero=>
  intro i ys l y z b
  have b:ys=R:=b
  subst b
  have p:(rav ys).length=ys.length:=by simp
  refine gV ?_
  exact zW
 | succ f k=>
  intro i ys l y z b
  have p:(rav ys).length=ys.length:=by simp
  unfold kH at b
  by_cases g:2*i+1<n
  .rw [if_pos g] at b
   have w:=wA ys n i g
   have m:=C5 (xs:=ys) (i:=i) o_
   have u:=C5 (xs:=ys) (i:=2*i+1) o_
   have a:=QI (aG ys (dR ys n i)) (aG ys i)
   have o:=XE ys i (dR ys n i)
   have k:=k (dR ys n i) (iC ys i (dR ys n i)) (by rw [cY];exact l) o_ o_
   unfold ppO hpO at k
   rw [o] at k
   have d:∀ r,cE (aG ys (dR ys n i)) (aG ys i)=r->(r=false->ys=R)/\(r=true->kH f (iC ys i (dR ys n i)) n (dR ys n i)=R):=fun r q=>by
    subst q
    refine ⟨fun h=>?_,fun h=>?_⟩
    .rw [if_neg (by rw [h];decide)] at b
     exact b
    .rw [if_pos h] at b
     exact b
   have d:=d _ rfl
   generalize cE (aG ys (dR ys n i)) (aG ys i)=r at a d
   have next:=fun q=>k (d.2 q)
   by_cases h3:2*i+2<n
   .have v:=C5 (xs:=ys) (i:=2*i+2) o_
    have c:=QI (aG ys (2*i+2)) (aG ys (2*i+1))
    by_cases e:cE (aG ys (2*i+2)) (aG ys (2*i+1))=true
    .have j:dR ys n i=2*i+2:=by unfold dR;rw [if_pos h3,if_pos e]
     rw [e] at c
     rw [j] at next a
     exact aIO n N t s R x i ys l g h3 _ _ _ m u v c r a d.1 next
    .have e:cE (aG ys (2*i+2)) (aG ys (2*i+1))=false:=by simpa using e
     have j:dR ys n i=2*i+1:=by unfold dR;rw [if_pos h3,if_neg (by rw [e];decide)]
     rw [e] at c
     rw [j] at next a
     exact aIP n N t s R x i ys l g h3 _ _ _ m u v c r a d.1 next
   .have j:dR ys n i=2*i+1:=by unfold dR;rw [if_neg h3]
    rw [j] at next a
    exact aIQ n N t s R x i ys l g h3 _ _ m u r a d.1 next
  .rw [if_neg g] at b
   subst b
   refine gV ?_
   exact zW
inductive HV (ys:List Rn):AVal->Nat->Prop
 | row:HV ys (.row 1 0) ys.length
 | sub (n:Nat) (h:n<=ys.length):HV ys (.sub 1 0 0 n 14) n
theorem aIM (ys:List Rn) (hl:ys.length<=1048577) (o:AVal) (n:Nat) (q:HV ys o n) (p:0<n):aA Tryz.prog 292 [.ref 0 0] (hpO o 0 ys) (.ret (aG ys 0).av) (hpO (.sub 1 0 0 (n-1) 14) 0 (pP ys n)):=by
 have m:(rav ys).length=ys.length:=by simp
 cases q with
 | row=>
  have k:=jK (xs:=ys) (i:=0) o_
  have d:=jK (xs:=ys) (i:=ys.length-1) o_
  have c:((ys.length:Nat):Int)-1=((ys.length-1:Nat):Int):=o_
  obtain ⟨n,j⟩:∃ n,n=ys.length:=⟨_,rfl⟩
  rw [<-j] at d c p⊢
  have l:((rav ys).length:Int)-1=((n-1:Nat):Int):=by rw [m,<-j];exact c
  have next:=L9 (n-1) ys.length o_ o_ (pP ys n) (aG ys 0) n 0 (ys.set 0 (aG ys (n-1))) s_ o_ o_ rfl
  have e:rav (ys.set 0 (aG ys (n-1)))=(rav ys).set 0 (aG ys (n-1)).av:=by simp [rav,Gc]
  unfold ppO hpO at next
  rw [e] at next
  generalize aG ys 0=a at k next
  generalize aG ys (n-1)=b at d next
  refine cT (E:=(Er [] [105])) (fn:=Tryz.f292) (g:=.full 2 _ _) fun _=>?_
  repeat' first | (refine gN (hEr [] [105]) ?_;conv=>whnf) | refine ⟨0,rfl,?_⟩ | refine ⟨_,k,?_⟩ | refine Ah (n-1) (Aa l ?_) | refine ⟨_,d,?_⟩ | refine Aa (by rw [Dp];omega) ?_ | exact rfl | refine aY ?_ | refine aN ?_ | refine aT fun h=>?_ | refine aF fun h=>?_ | refine ⟨fun h=>?_,fun h=>?_⟩ | refine aJ ?_ | refine ⟨_,rfl,?_⟩ | refine aD ?_ | fail
  rw [l]
  exact zqra6
 | sub _ h=>
  have k:=C5 (xs:=ys) (i:=0) o_
  have d:=C5 (xs:=ys) (i:=n-1) o_
  have c:((n:Nat):Int)-1=((n-1:Nat):Int):=o_
  have next:=L9 (n-1) ys.length o_ o_ (pP ys n) (aG ys 0) n 0 (ys.set 0 (aG ys (n-1))) s_ o_ o_ rfl
  have e:rav (ys.set 0 (aG ys (n-1)))=(rav ys).set (0+0) (aG ys (n-1)).av:=by simp [rav,Gc]
  unfold ppO hpO at next
  rw [e] at next
  generalize aG ys 0=a at k next
  generalize aG ys (n-1)=b at d next
  refine cT (E:=(Er [] [105])) (fn:=Tryz.f292) (g:=.full 2 _ _) fun _=>?_
  repeat' first | (refine gN (hEr [] [105]) ?_;conv=>whnf) | refine ⟨0,rfl,?_⟩ | refine ⟨_,k,?_⟩ | refine Ah (n-1) (Aa c ?_) | refine ⟨_,d,?_⟩ | refine Aa (by rw [Dp];omega) ?_ | exact rfl | refine aY ?_ | refine aN ?_ | refine aT fun h=>?_ | refine aF fun h=>?_ | refine ⟨fun h=>?_,fun h=>?_⟩ | refine aJ ?_ | refine ⟨_,rfl,?_⟩ | refine aD ?_ | fail
  rw [c]
  exact zqra6
set_option maxRecDepth 10000
def gD:Nat->List Rn->List Rn
 | 0,_=>[]
 | n+1,ys=>aG ys 0::gD n (pP ys (n+1))
def dI (l:List Rn):List Rn:=gD l.length (l.foldl hD [])
theorem oM:∀ (l ys:List Rn),(l.foldl hD ys).length=ys.length+l.length
 | [],ys=>rfl
 | x::r,ys=>by rw [Al,oM r,xA];simp;omega
theorem HV.inv {ys:List Rn} {a:AVal} {n:Nat} (h:HV ys a n):(a= .row 1 0/\n=ys.length)\/(a= .sub 1 0 0 n 14/\n<=ys.length):=by
 cases h with
 | row=>exact .inl ⟨rfl,rfl⟩
 | sub _ h=>exact .inr ⟨rfl,h⟩
noncomputable abbrev aGd:Func:=Tryz.f250
theorem P9 (R:List Rn):∀ (n:Nat) (ys:List Rn) (b:AVal) (out:List Rn),HV ys b n->ys.length<=1048577->out.length+n<=1048576->out++gD n ys=R->
  To (Eo [6] []) aGd (.pure (.ret (.slice 14 (rav R) .no))) (.head (stk aGd 1) [(3,.ref 0 0),(6,.slice 14 (rav out) (.own 2 0))] (hpO b 0 ys++[.tail 0 14 127])):=by
 intro n
 induction n with
 | zero=>
  intro ys b out c g i a
  have a:out++[]=R:=a
  rw [Bc] at a
  subst a
  have d:(rav ys).length=ys.length:=by simp
  exact zqra8
 | succ n j=>
  intro ys b out c g i a
  have d:(rav ys).length=ys.length:=by simp
  have hp:=aIM ys g b (n+1) c o_
  have a:out++aG ys 0::gD n (pP ys (n+1))=R:=a
  have f:n<=(pP ys (n+1)).length:=by
   rw [nP]
   rcases c.inv with ⟨_,h⟩ | ⟨_,h⟩<;>omega
  have next:=j (pP ys (n+1)) (.sub 1 0 0 n 14) (out++[aG ys 0]) (.sub n f) (by rw [nP];exact g) q_ (by rw [Aj];exact a)
  have e:rav (out++[aG ys 0])=rav out++[(aG ys 0).av]:=by simp
  rw [e] at next
  have l:(rav out).length=out.length:=by simp
  generalize aG ys 0=x at hp next
  have k:n+1-1=n:=o_
  rw [k] at hp
  generalize pP ys (n+1)=ys' at hp next
  exact zqra8
theorem P8 (l:List Rn) (hs:Sm l) (R:List Rn):∀ (m i:Nat) (ys:List Rn),i+m=l.length->ys.length=i->gD l.length ((l.drop i).foldl hD ys)=R->
  To (Eo [6] []) aGd (.pure (.ret (.slice 14 (rav R) .no))) (.head (stk aGd 0) [(3,.ref 0 0),(9,.slice 14 (rav l) .no),(10,.int .i64 ((rav l).length:Nat)),(11,ii i)] (hpO (.row 1 0) 0 ys)):=by
 have d:(rav l).length=l.length:=by simp
 have hl:=hs.1
 intro m
 induction m with
 | zero=>
  intro i ys h j a
  rw [Ae o_] at a
  have a:gD l.length ys=R:=a
  have next:=P9 R l.length ys (.row 1 0) [] (by rw [show l.length=ys.length from by omega];exact .row) o_ q_ a
  refine gV ?_
  exact zW
 | succ m g=>
  intro i ys h j a
  have b:i<l.length:=o_
  have c:=hs.at b
  rw [Ac b,Al] at a
  generalize f:l[i]=x at a c
  have get:(rav l)[i]? =some x.av:=(bN b).trans (by rw [f])
  have next:=g (i+1) (hD ys x) o_ (by rw [xA];omega) a
  have hp:=aE5 ys o_ x
  generalize hD ys x=ys' at hp next
  refine gV ?_
  have e:=AB x c
  exact zW
theorem aBz (l:List Rn) (hs:Sm l):aA Tryz.prog 250 [.slice 14 (rav l) .no] [] (.ret (.slice 14 (rav (dI l)) .no)) []:=by
 refine cT (E:=(Eo [6] [])) (fn:=Tryz.f250) (g:=.pure _) fun _=>?_
 refine gV ?_
 refine To.beginRowH 0 0 127 rfl rfl ?_
 have a:=P8 l hs _ l.length 0 [] o_ rfl rfl
 exact zW
def lR (p:Int->Bool):List Int->Nat->Int
 | [],_=> -1
 | x::r,i=>if p x=true then (i:Int) else lR p r (i+1)
theorem GU (p:Int->Bool):∀ (l:List Int) (i:Nat),decide (0<=lR p l i)=l.any p
 | [],i=>by simp [lR]
 | x::r,i=>by
  unfold lR
  rw [Gs]
  cases h:p x with
  | true=>simp
  | false=>simp [GU p r (i+1)]
def inB (v:Int) (l:List Int):Bool:=l.any fun x=>v==x
noncomputable abbrev aHC:Func:=Tryz.f232
theorem X7 (l:List Int) (hl:l.length<=1048576) (v r:Int):∀ (m i:Nat),i+m=l.length->lR (fun x=>v==x) (l.drop i) i=r->
  To E aHC (.pure (.ret (ii r))) (.head (stk aHC 0) [(0,.slice 1 (iv l) .no),(1,ii v),(7,.int .i64 ((iv l).length:Nat)),(8,ii i)] []):=by
 have d:(iv l).length=l.length:=by simp
 intro m
 induction m with
 | zero=>
  intro i f a
  rw [Ae o_] at a
  have a: -1=r:=a
  subst a
  refine gV ?_
  exact zW
 | succ m c=>
  intro i f a
  have b:i<l.length:=o_
  rw [Ac b] at a
  have get:=bS b
  generalize l[i]=x at a get
  unfold lR at a
  have c:=c (i+1) o_
  cases e:(v==x) with
  | true=>
   rw [if_pos e] at a
   subst a
   refine gV ?_
   exact zW
  | false=>
   rw [if_neg (by rw [e];decide)] at a
   have next:=c a
   refine gV ?_
   exact zW
theorem aFR (l:List Int) (hl:l.length<=1048576) (v:Int):aA Tryz.prog 232 [.slice 1 (iv l) .no,ii v] [] (.ret (ii (lR (fun x=>v==x) l 0))) []:=by
 refine c_ Tryz.f232 fun _=>?_
 refine gV ?_
 exact To.cut [0,1,7,8] 0 rfl rfl rfl rfl (X7 l hl v _ l.length 0 o_ rfl)
theorem D0 (l:List Int) (hl:l.length<=1048576) (v:Int):aA Tryz.prog 169 [.slice 1 (iv l) .no,ii v] [] (.ret (.bool (inB v l))) []:=by
 have h:=aFR l hl v
 have e:=GU (fun x=>v==x) l 0
 unfold inB
 rw [<-e]
 generalize lR (fun x=>v==x) l 0=q at h
 exact c_ Tryz.f169 fun _=>zW
def aB (l:List Rn) (ids:List Int):List Rn:=l.filter fun x=>!(inB x.g.id ids)
theorem jQ {x:Rn} {r:List Rn} {ids:List Int} (h:inB x.g.id ids=false):aB (x::r) ids=x::aB r ids:=Gh (by rw [h];rfl)
theorem jR {x:Rn} {r:List Rn} {ids:List Int} (h:inB x.g.id ids=true):aB (x::r) ids=aB r ids:=Gi (by rw [h];decide)
theorem iU {l:List Rn} (hs:Sm l) (ids:List Int):Sm (aB l ids):=
 ⟨Co (Dw _ _) hs.1,fun x a=>hs.2 x (Fk.1 a).1⟩
noncomputable abbrev fWo:Func:=Tryz.f102
theorem aD7 (l:List Rn) (hs:Sm l) (ids:List Int) (q:ids.length<=1048576) (R:List Rn):∀ (m i:Nat) (a:List Rn),i+m=l.length->a.length<=i->a++aB (l.drop i) ids=R->
  To (Eo [5] []) fWo (.pure (.ret (.slice 14 (rav R) .no))) (.head (stk fWo 0) [(1,.slice 1 (iv ids) .no),(5,.slice 14 (rav a) (.own 0 0)),(8,.slice 14 (rav l) .no),(9,.int .i64 ((rav l).length:Nat)),(10,ii i)] [.tail 0 14 127]):=by
 have h:(rav l).length=l.length:=by simp
 have hl:=hs.1
 intro m
 induction m with
 | zero=>
  intro i a r s b
  exact zqra5
 | succ m k=>
  intro i a r s b
  have c:i<l.length:=o_
  have f:=hs.at c
  rw [Ac c] at b
  generalize p:l[i]=x at b f
  have get:(rav l)[i]? =some x.av:=(bN c).trans (by rw [p])
  have o:(rav a).length=a.length:=by simp
  have n:=D0 ids q x.g.id
  cases d:inB x.g.id ids with
  | true=>
   rw [d] at n
   rw [jR d] at b
   have next:=k (i+1) a o_ o_ b
   refine gV ?_
   exact zW
  | false=>
   rw [d] at n
   rw [jQ d] at b
   have next:=k (i+1) (a++[x]) o_ q_ (by rw [Aj];exact b)
   have e:rav (a++[x])=rav a++[x.av]:=by simp
   rw [e] at next
   refine gV ?_
   have j:=AB x f
   exact zW
theorem sZ (l:List Rn) (hs:Sm l) (ids:List Int) (b:ids.length<=1048576):aA Tryz.prog 102 [.slice 14 (rav l) .no,.slice 1 (iv ids) .no] [] (.ret (.slice 14 (rav (aB l ids)) .no)) []:=by
 refine cT (E:=(Eo [5] [])) (fn:=Tryz.f102) (g:=.pure _) fun _=>?_
 have a:=aD7 l hs ids b _ l.length 0 [] o_ s_ rfl
 exact zW
theorem rU {ns:List Nod} {t:Int} (h:aX ns t=true):0<=t/\t.toNat<ns.length:=by
 exact zqra3
theorem uK {c:Con} {t:Int} (h:0<=t/\t.toNat<c.ns.length):(nav c.ns)[t.toNat]? =some (bR c.ns t).av:=by
 unfold bR
 rw [Ab h.2]
 exact fM h.2
def jG (c:Con) (a:List V3) (t:Int) (need:V3):Bool:=if aX c.ns t=true then cF (dL (atV a t) need) (bR c.ns t).n else false
def bK (c:Con) (a:List V3) (t:Int):Bool:=if aX c.ns t=true then !cF (atV a t) (bR c.ns t).n else false
theorem OS (c:Con) (a:List V3) (t:Int) (need:V3) (r:Bool) (b:jG c a t need=r):aA Tryz.prog 248 [c.av,.slice 3 (vav a) .no,ii t,need.av] [] (.ret (.bool r)) []:=by
 have h:=kS c t
 unfold jG at b
 cases e:aX c.ns t with
 | false=>
  rw [e] at h
  rw [if_neg (by rw [e];decide)] at b
  subst b
  exact c_ Tryz.f248 fun _=>zW
 | true=>
  rw [e] at h
  rw [if_pos e] at b
  have i:=rU e
  have k:t=(t.toNat:Int):=o_
  have d:=uK (c:=c) i
  generalize bR c.ns t=x at d b
  have h1:=EB a t
  generalize atV a t=q1 at h1 b
  have j:=jH q1 need
  generalize dL q1 need=q2 at j b
  have h3:=lC q2 x.n
  rw [b] at h3
  exact c_ Tryz.f248 fun _=>zW
theorem V0 (c:Con) (a:List V3) (t:Int) (need:V3):aA Tryz.prog 248 [c.av,.slice 3 (vav a) .no,ii t,need.av] [] (.ret (.bool (jG c a t need))) []:=OS c a t need _ rfl
theorem OE (c:Con) (a:List V3) (t:Int) (r:Bool) (b:bK c a t=r):aA Tryz.prog 252 [c.av,.slice 3 (vav a) .no,ii t] [] (.ret (.bool r)) []:=by
 have h:=kS c t
 unfold bK at b
 cases e:aX c.ns t with
 | false=>
  rw [e] at h
  rw [if_neg (by rw [e];decide)] at b
  subst b
  exact c_ Tryz.f252 fun _=>zW
 | true=>
  rw [e] at h
  rw [if_pos e] at b
  have i:=rU e
  have j:t=(t.toNat:Int):=o_
  have d:=uK (c:=c) i
  generalize bR c.ns t=x at d b
  have h1:=EB a t
  generalize atV a t=q1 at h1 b
  have h3:=KC q1 x.n
  rw [b] at h3
  exact c_ Tryz.f252 fun _=>zW
theorem R6 (c:Con) (a:List V3) (t:Int):aA Tryz.prog 252 [c.av,.slice 3 (vav a) .no,ii t] [] (.ret (.bool (bK c a t))) []:=OE c a t _ rfl
def mD (c:Con) (l:List Rn) (g:Gan) (ids:List Int):Bool:=(bU c (aB l ids) g).isSome
abbrev chO (c:Con) (l:List Rn) (g:Gan):List AObj:=[.cells 26 c.cs,.cells 28 [.slice 14 (rav l) .no],.cells 36 g.cs]
theorem VR (c:Con) (h:c.sm) (l:List Rn) (hs:Sm l) (g:Gan) (e:0<=g.pods/\g.pods<=16) (ids:List Int) (d:ids.length<=1048576) (r:Bool) (a:mD c l g ids=r):
  aA Tryz.prog 249 [.slice 1 (iv ids) .no,.ref 0 0,.ref 1 0,.ref 2 0] (chO c l g) (.ret (.bool r)) (chO c l g):=by
 have i:=sZ l hs ids d
 have b:=vU c h (aB l ids) (iU hs ids) g e
 unfold mD at a
 generalize aB l ids=left at i b a
 generalize bU c left g=Q at b a
 subst a
 unfold fdA at b
 cases Q with
 | none=>
  exact zqra16
 | some x=>
  exact zqra16
abbrev Y6 (c:Con) (used:List V3):List AObj:=[.cells 26 c.cs,.cells 164 [.slice 3 (vav used) .no]]
theorem aJ4 (c:Con) (a:List V3) (x:Rn):aA Tryz.prog 251 [x.av,.ref 0 0,.ref 1 0] (Y6 c a) (.ret (.bool (bK c a x.g.ten))) (Y6 c a):=by
 have b:=R6 c a x.g.ten
 generalize bK c a x.g.ten=r at b
 refine cT (E:=E) (fn:=Tryz.f251) (g:=.full 2 _ _) fun _=>?_
 exact zW
theorem aDx (x a:Int):aA Tryz.prog 254 [ii x,.ref 0 0] [.cells 3 [ii a]] (.ret (.bool (x==a))) [.cells 3 [ii a]]:=by
 refine cT (E:=E) (fn:=Tryz.f254) (g:=.full 1 _ _) fun _=>?_
 exact zW
def aH (p:Rn->Bool):List Rn->Nat->Int
 | [],_=> -1
 | x::r,i=>if p x=true then (i:Int) else aH p r (i+1)
noncomputable abbrev GW:Func:=Tryz.f173
abbrev aLC:AVal:=.func (.func 251) [] [.ref 0 0,.ref 1 0]
theorem X5 (c:Con) (a:List V3) (l:List Rn) (hl:l.length<=1048576) (r:Int):∀ (m i:Nat),i+m=l.length->aH (fun x=>bK c a x.g.ten) (l.drop i) i=r->
  To E GW (.full 2 (.ret (ii r)) (Y6 c a)) (.head (stk GW 0) [(0,.slice 14 (rav l) .no),(1,aLC),(7,.int .i64 ((rav l).length:Nat)),(8,ii i)] (Y6 c a)):=by
 have h:(rav l).length=l.length:=by simp
 intro m
 induction m with
 | zero=>
  intro i k b
  rw [Ae o_] at b
  have b: -1=r:=b
  subst b
  refine gV ?_
  exact zW
 | succ m f=>
  intro i k b
  have d:i<l.length:=o_
  rw [Ac d] at b
  have get:(rav l)[i]? =some l[i].av:=bN d
  generalize l[i]=x at b get
  unfold aH at b
  have j:=aJ4 c a x
  have f:=f (i+1) o_
  cases e:bK c a x.g.ten with
  | true=>
   rw [if_pos e] at b
   rw [e] at j
   subst b
   refine gV ?_
   exact zW
  | false=>
   rw [if_neg (by rw [e];decide)] at b
   rw [e] at j
   have next:=f b
   refine gV ?_
   exact zW
theorem aFP (c:Con) (a:List V3) (l:List Rn) (hl:l.length<=1048576):aA Tryz.prog 173 [.slice 14 (rav l) .no,aLC] (Y6 c a) (.ret (ii (aH (fun x=>bK c a x.g.ten) l 0))) (Y6 c a):=by
 refine cT (E:=E) (fn:=Tryz.f173) (g:=.full 2 _ _) fun _=>?_
 refine gV ?_
 exact To.cut [0,1,7,8] 2 rfl rfl rfl rfl (X5 c a l hl _ l.length 0 o_ rfl)
theorem HB (l:List Int) (h:l.length<=1048576):aA Tryz.prog 233 [.slice 1 (iv l) .no] [] (.ret (.row 0 0)) [.row 0 1 3 (iv l)]:=by
 have a:(iv l).length=l.length:=by simp
 refine cT (E:=(Er [2,5] [])) (fn:=Tryz.f233) (g:=.full 0 _ _) fun _=>?_
 refine gV ?_
 intro b c
 refine gV ?_
 refine ⟨fun h=>?_,fun h=>?_⟩
 .refine gV ?_
  refine ⟨[],[1],⟨rfl,rfl⟩,?_⟩;conv=>whnf
  rw [c (by simpa using h)]
  exact ⟨rfl,rfl⟩
 .refine gV ?_
  refine ⟨⟨by simp only [maxLen];simp;omega,by simp;omega⟩,?_⟩
  refine gV ?_
  refine ⟨[],[1],⟨rfl,rfl⟩,?_⟩
  exact ⟨rfl,rfl⟩
abbrev aDy:AVal:=.func (.func 254) [] [.ref 1 0]
abbrev dlO (l:List Int) (a:Int):List AObj:=[.row 0 1 3 (iv l),.cells 3 [ii a]]
noncomputable abbrev aHD:Func:=Tryz.f276
theorem X8 (l:List Int) (hl:l.length<=1048576) (a r:Int):∀ (m i:Nat),i+m=l.length->lR (fun x=>x==a) (l.drop i) i=r->
  To E aHD (.full 2 (.ret (ii r)) (dlO l a)) (.head (stk aHD 0) [(0,.row 0 0),(1,aDy),(7,.int .i64 ((iv l).length:Nat)),(8,ii i)] (dlO l a)):=by
 have f:(iv l).length=l.length:=by simp
 intro m
 induction m with
 | zero=>
  intro i h b
  rw [Ae o_] at b
  have b: -1=r:=b
  subst b
  refine gV ?_
  exact zW
 | succ m e=>
  intro i h b
  have c:i<l.length:=o_
  rw [Ac c] at b
  have get:=bS c
  generalize l[i]=x at b get
  unfold lR at b
  have g:=aDx x a
  have e:=e (i+1) o_
  cases d:(x==a) with
  | true=>
   rw [if_pos d] at b
   rw [d] at g
   subst b
   refine gV ?_
   exact zW
  | false=>
   rw [if_neg (by rw [d];decide)] at b
   rw [d] at g
   have next:=e b
   refine gV ?_
   exact zW
theorem UP (l:List Int) (hl:l.length<=1048576) (a:Int):aA Tryz.prog 276 [.row 0 0,aDy] (dlO l a) (.ret (ii (lR (fun x=>x==a) l 0))) (dlO l a):=by
 refine cT (E:=E) (fn:=Tryz.f276) (g:=.full 2 _ _) fun _=>?_
 refine gV ?_
 exact To.cut [0,1,7,8] 2 rfl rfl rfl rfl (X8 l hl a _ l.length 0 o_ rfl)
def cN (l:List Int) (a:Int):List Int:=l.filter fun x=>!(x==a)
theorem NP (p:Int->Bool):∀ (l:List Int) (i:Nat),l.any p=false->lR p l i= -1
 | [],i,_=>rfl
 | x::r,i,h=>by
  rw [Gs,Ie] at h
  unfold lR
  rw [if_neg (by rw [h.1];decide)]
  exact NP p r (i+1) h.2
theorem GT (p:Int->Bool):∀ (l:List Int) (i:Nat),l.any p=true->∃ k,k<l.length/\lR p l i=((i+k:Nat):Int)/\(∀ x∈l.take k,p x=false)/\∃ x,l[k]? =some x/\p x=true
 | [],i,h=>by simp at h
 | x::r,i,h=>by
  unfold lR
  cases a:p x with
  | true=>exact ⟨0,by simp,by rw [if_pos rfl];simp,by simp,x,rfl,a⟩
  | false=>
   rw [Gs,a,Li] at h
   obtain ⟨k,h1,c,h3,y,d,b⟩:=GT p r (i+1) h
   refine ⟨k+1,by simp;omega,?_,fun z hz=>?_,y,by simpa using d,b⟩
   .rw [if_neg d_,c]
    congr 1
    omega
   .simp only [List.take_succ_cons,Au] at hz
    rcases hz with rfl | hz
    .exact a
    .exact h3 z hz
theorem aJ1 (l:List Int) (hl:l.length<=1048576) (a:Int) (h:(l.any fun x=>x==a)=false):aA Tryz.prog 253 [.row 0 0,aDy] (dlO l a) (.ret (.row 0 0)) (dlO l a):=by
 have b:=UP l hl a
 rw [NP _ l 0 h] at b
 exact zqra17
noncomputable abbrev aLo:Func:=Tryz.f253
abbrev aLt (z:List AVal) (a:Int):List AObj:=[.row 0 1 3 z,.cells 3 [ii a]]
theorem aJh (l:List Int) (i:Nat) (x:Int):(iv l).set i (ii x)=iv (l.set i x):=by simp [iv,Gc]
theorem aDg (l:List Int) (hl:l.length<=1048576) (a:Int) (R:List Int):∀ (m j i:Nat) (z:List Int),j+m=l.length->i<j->z.length=l.length->z.drop j=l.drop j->z.take i++cN (l.drop j) a=R->
  To E aLo (.full 2 (.ret (.sub 0 0 0 R.length 1)) (aLt (iv R++Ai (l.length-R.length) (ii 0)) a)) (.head (stk aLo 0) [(0,.row 0 0),(1,aDy),(5,ii i),(6,ii j)] (dlO z a)):=by
 intro m
 induction m with
 | zero=>
  intro j i z s u hz k b
  have g:(iv z).length=z.length:=by simp
  rw [Ae o_] at b
  have b:z.take i++[]=R:=b
  rw [Bc] at b
  have n:R.length=i:=by rw [<-b];simp;omega
  have e:(iv z).take i=iv R:=by rw [<-b];simp
  rw [n]
  refine gV ?_
  refine aF fun h=>?_
  repeat' first | (refine gN hE ?_;conv=>whnf) | refine ⟨i,rfl,?_⟩ | exact rfl | refine aY ?_ | refine aN ?_ | refine aT fun h=>?_ | refine aF fun h=>?_ | refine ⟨fun h=>?_,fun h=>?_⟩ | refine aJ ?_ | refine ⟨_,rfl,?_⟩ | refine aD ?_ | fail
  refine Aa q_ ?_
  refine gV ?_
  refine ⟨[],[0,1],⟨rfl,rfl⟩,?_⟩;conv=>whnf
  refine ⟨rfl,?_⟩
  have v:Fp (i+((iv z).length-i)) (iv z)=[]:=Ae o_
  have w:Et i (iv z)++Ai ((iv z).length-i) (ii 0)++Fp (i+((iv z).length-i)) (iv z)=iv R++Ai (l.length-i) (ii 0):=by rw [e,v,Bc,g,hz]
  exact congrArg (fun l=>[AObj.row 0 1 3 l,.cells 3 [ii a]]) w
 | succ m r=>
  intro j i z s u hz k b
  have g:(iv z).length=z.length:=by simp
  have f:j<l.length:=o_
  rw [Ac f] at b
  have d:z[j]? =some l[j]:=by
   have:=congrArg (fun q=>q[0]?) k
   simpa [Bv,Ab f] using this
  have get:(iv z)[j]? =some (ii l[j]):=by simp [d]
  have c:z.drop (j+1)=l.drop (j+1):=by
   have:=congrArg (Fp 1) k
   rwa [Ig,Ig] at this
  generalize l[j]=x at b get d
  have o:=aDx x a
  unfold cN at b
  rw [Gv] at b
  cases p:(x==a) with
  | true=>
   rw [p] at o b
   have next:=r (j+1) i z o_ o_ hz c b
   refine gV ?_
   exact zW
  | false=>
   rw [p] at o b
   have next:=r (j+1) (i+1) (z.set i x) o_ o_ (by simp;exact hz) (by rw [List.drop_set_of_lt o_];exact c) (by
    have y:(z.set i x).take (i+1)=z.take i++[x]:=by
     rw [List.take_add_one,Ap o_,List.take_set_of_le (Ba _)]
     rfl
    rw [y,Aj]
    exact b)
   unfold dlO at next
   rw [<-aJh] at next
   refine gV ?_
   exact zW
theorem aGG (l:List Int) (hl:l.length<=1048576) (a:Int) (h:(l.any fun x=>x==a)=true):aA Tryz.prog 253 [.row 0 0,aDy] (dlO l a) (.ret (.sub 0 0 0 (cN l a).length 1)) (aLt (iv (cN l a)++Ai (l.length-(cN l a).length) (ii 0)) a):=by
 have d:=UP l hl a
 obtain ⟨k,h1,i,h3,x,b,c⟩:=GT (fun x=>x==a) l 0 h
 rw [i] at d
 rw [Bw] at d
 have m:((k:Int)== -1)=false:=by simp
 have next:=aDg l hl a (cN l a) (l.length-(k+1)) (k+1) k l o_ o_ rfl rfl (by
  conv=>rhs;rw [<-Bk k l]
  have o:x=a:=by simpa using c
  have e:l.drop k=x::l.drop (k+1):=by
   rw [Ac h1]
   rw [Ab h1] at b
   cases b
   rfl
  unfold cN
  rw [List.filter_append,e,Gv,c]
  have j:(l.take k).filter (fun x=>!(x==a))=l.take k:=Hh.2 fun y n=>by rw [h3 y n];rfl
  rw [j]
  rfl)
 exact zqra17
theorem qU {xs:List Rn} {i:Nat} (h:i<xs.length):aG xs i∈xs:=by
 unfold aG
 rw [Ab h]
 exact Bb h
theorem E9 {xs:List Rn} {i k:Nat} (a:i<xs.length) (b:k<xs.length) {y:Rn} (h:y∈iC xs i k):y∈xs:=by
 unfold iC at h
 rcases Df h with h | rfl
 .rcases Df h with h | rfl
  .exact h
  .exact qU b
 .exact qU a
theorem SR {y:Rn}:∀ (f:Nat) (xs:List Rn) (i:Nat),i<xs.length->y∈upH f xs i->y∈xs
 | 0,xs,i,_,h=>h
 | f+1,xs,i,hi,h=>by
  unfold upH at h
  split at h
  .exact h
  .split at h
   .exact E9 hi o_ (SR f _ _ (by rw [cY];omega) h)
   .exact h
theorem XJ {xs:List Rn} {x y:Rn} (h:y∈hD xs x):y∈xs\/y=x:=by
 have:=SR _ _ _ s_ h
 simpa using this
theorem B3 {y:Rn}:∀ (l xs:List Rn),y∈l.foldl hD xs->y∈xs\/y∈l
 | [],xs,h=>.inl h
 | x::r,xs,h=>by
  rcases B3 r _ h with h | h
  .rcases XJ h with h | rfl
   .exact .inl h
   .exact .inr s_
  .exact .inr (by simp [h])
theorem G6 {y:Rn}:∀ (f:Nat) (xs:List Rn) (n i:Nat),n<=xs.length->i<xs.length->y∈kH f xs n i->y∈xs
 | 0,xs,n,i,_,_,h=>h
 | f+1,xs,n,i,hn,hi,h=>by
  unfold kH at h
  split at h
  .rename_i a
   have b:=wA xs n i a
   split at h
   .exact E9 hi o_ (G6 f _ n _ (by rw [cY];exact hn) (by rw [cY];omega) h)
   .exact h
  .exact h
theorem aBl {xs:List Rn} {n:Nat} (a:0<n) (b:n<=xs.length) {y:Rn} (h:y∈pP xs n):y∈xs:=by
 unfold pP at h
 have:=G6 n (xs.set 0 (aG xs (n-1))) (n-1) 0 q_ q_ h
 rcases Df this with h | rfl
 .exact h
 .exact qU o_
theorem B5 {y:Rn}:∀ (n:Nat) (xs:List Rn),n<=xs.length->y∈gD n xs->y∈xs
 | 0,xs,_,h=>by cases h
 | n+1,xs,hn,h=>by
  unfold gD at h
  rcases Au.1 h with rfl | h
  .exact qU o_
  .exact aBl o_ hn (B5 n _ (by rw [nP];omega) h)
theorem qAa {l:List Rn} {y:Rn} (h:y∈dI l):y∈l:=by
 unfold dI at h
 have:=B5 _ _ (by rw [oM];simp) h
 rcases B3 l [] this with h | h
 .cases h
 .exact h
theorem B6:∀ (n:Nat) (xs:List Rn),(gD n xs).length=n
 | 0,xs=>rfl
 | n+1,xs=>by unfold gD;rw [Bq,B6 n]
theorem tJ (l:List Rn):(dI l).length=l.length:=B6 _ _
theorem aBx {l:List Rn} (h:Sm l):Sm (dI l):=⟨by rw [tJ];exact h.1,fun x a=>h.2 x (qAa a)⟩
theorem DD (p:Rn->Bool):∀ (l:List Rn) (i:Nat),aH p l i= -1\/∃ k,k<l.length/\aH p l i=((i+k:Nat):Int)/\p (aG l k)=true
 | [],i=>.inl rfl
 | x::r,i=>by
  unfold aH
  cases b:p x with
  | true=>exact .inr ⟨0,by simp,by rw [if_pos rfl];simp,b⟩
  | false=>
   rw [if_neg d_]
   rcases DD p r (i+1) with h | ⟨k,h1,a,h3⟩
   .exact .inl h
   .refine .inr ⟨k+1,by simp;omega,by rw [a];congr 1;omega,?_⟩
    unfold aG at h3⊢
    simpa using h3
def atI (c:Con) (l:List Rn) (ids:List Int):Int:=aH (fun x=>bK c (ofL c (aB l ids)) x.g.ten) (dI (aB l ids)) 0
def yQ (c:Con) (l:List Rn) (ids:List Int):Option Int:=if atI c l ids<0 then none else some (aG (dI (aB l ids)) (atI c l ids).toNat).g.id
def chA (c:Con) (l:List Rn) (g:Gan):Nat->List Int->Option (List Int)
 | 0,_=>none
 | f+1,ids=>if mD c l g ids=true then some ids else match yQ c l ids with
  | none=>none
  | some n=>chA c l g f (ids++[n])
def chS (c:Con) (l:List Rn) (g:Gan) (ids:List Int) (a:Int):List Int:=if mD c l g (cN ids a)=true then cN ids a else ids
def dO (c:Con) (l:List Rn) (g:Gan):Option (List Int):=if jG c (ofL c l) g.ten (dem g)=true then (match chA c l g (l.length+1) [] with
 | none=>none
 | some ids=>some (ids.foldl (chS c l g) ids)) else none
def chR:Option (List Int)->AVal
 | some ids=>.tup [.slice 1 (iv ids) .no,.bool true]
 | none=>.tup [.slice 1 [] .no,.bool false]
theorem xE {c:Con} {l:List Rn} {ids:List Int} {n:Int} (h:yQ c l ids=some n):∃ x∈aB l ids,x.g.id=n/\bK c (ofL c (aB l ids)) x.g.ten=true:=by
 unfold yQ at h
 split at h
 .cases h
 .rename_i b
  cases h
  rcases DD (fun x=>bK c (ofL c (aB l ids)) x.g.ten) (dI (aB l ids)) 0 with h1 | ⟨k,h1,a,h3⟩
  .exact absurd (show atI c l ids<0 from by unfold atI;rw [h1];decide) b
  .refine ⟨_,qAa (qU ?_),rfl,?_⟩
   .unfold atI;rw [a];simpa using h1
   .unfold atI;rw [a];simpa using h3
theorem HI (l:List Rn) (ids:List Int) (n:Int):aB l (ids++[n])=(aB l ids).filter fun x=>!(x.g.id==n):=by
 unfold aB
 rw [List.filter_filter]
 refine List.filter_congr fun x _=>?_
 unfold inB
 rw [List.any_append]
 simp only [Gs,List.any_nil,Bool.or_false]
 cases (ids.any fun y=>x.g.id==y)<;>cases (x.g.id==n)<;>rfl
theorem uI {l:List Rn} {ids:List Int} {n:Int} (h:∃ x∈aB l ids,x.g.id=n):(aB l (ids++[n])).length<(aB l ids).length:=by
 obtain ⟨x,a,b⟩:=h
 rw [HI]
 generalize aB l ids=q at a
 refine Nat.lt_of_le_of_ne (Dw _ _) fun e=>?_
 have:=List.length_filter_eq_length_iff.1 e x a
 simp [b] at this
theorem FZ (l:List Int) (a:Int):(cN l a).length<=l.length:=Dw _ _
abbrev aLD:AVal:=.func (.func 249) [] [.ref 0 0,.ref 1 0,.ref 2 0]
noncomputable abbrev fCh:Func:=Tryz.f192
abbrev cbF (ids all:List Int) (i:Int):List (Nat×AVal):=[(8,aLD),(9,.slice 1 (iv ids) .no),(54,.slice 1 (iv all) .no),(55,.int .i64 ((iv all).length:Nat)),(56,ii i)]
theorem aJ5 (c:Con) (l:List Rn) (g:Gan) (a:Int) (z:List AVal):frzs [4] (chO c l g++[.cells 3 [ii a],.row 0 1 3 z])=chO c l g++[.cells 3 [ii a],.frow 0 1 z]:=by kernel_rfl
theorem aGT (c:Con) (l:List Rn) (g:Gan) (a:Int) (z:List AVal) (n:Nat) (ids all:List Int) (i:Int):EV [15] (aE (chO c l g++[.cells 3 [ii a],.frow 0 1 z])) ((15,.sub 4 0 0 n 1)::cbF ids all i)=(15,.slice 1 ((z.drop 0).take n) .no)::cbF ids all i:=by kernel_rfl
theorem aGU (c:Con) (l:List Rn) (g:Gan) (a:Int) (z:List AVal) (ids all:List Int) (i:Int):EV [15] (aE (chO c l g++[.cells 3 [ii a],.frow 0 1 z])) ((15,.row 4 0)::cbF ids all i)=(15,.slice 1 z .no)::cbF ids all i:=by kernel_rfl
theorem VT {G:Goal} {ks:List KI} (c:Con) (l:List Rn) (g:Gan) (a:Int) (z:List AVal) (fr:List (Nat×AVal)) {b:List (Nat×AVal)} (d:EV [15] (aE (chO c l g++[.cells 3 [ii a],.frow 0 1 z])) fr=b)
  (h:To (Eo [9] []) fCh G (.code ks b (chO c l g++[.cells 3 [ii a],.frow 0 1 z]))):To (Eo [9] []) fCh G (.code ks fr (chO c l g++[.cells 3 [ii a],.row 0 1 3 z])):=by
 refine To.frz [15] [4] ?_
 rw [aJ5,d]
 exact h
theorem aDs (c:Con) (t:c.sm) (l:List Rn) (hs:Sm l) (g:Gan) (s:0<=g.pods/\g.pods<=16) (all:List Int) (v:all.length<=1048576) (R:List Int):∀ (m i:Nat) (ids:List Int),i+m=all.length->ids.length<=1048576->(all.drop i).foldl (chS c l g) ids=R->
  To (Eo [9] []) fCh (.pure (.ret (.tup [.slice 1 (iv R) .no,.bool true]))) (.head (stk fCh 1) (cbF ids all i) (chO c l g)):=by
 have p:(iv all).length=all.length:=by simp
 intro m
 induction m with
 | zero=>
  intro i ids q f b
  rw [Ae o_] at b
  have b:ids=R:=b
  subst b
  refine gV ?_
  exact zW
 | succ m k=>
  intro i ids q f b
  have n:i<all.length:=o_
  rw [Ac n,Al] at b
  have get:=bS n
  generalize all[i]=a at b get
  have k:=k (i+1)
  have u:=FZ ids a
  have h1:=VR c t l hs g s (cN ids a) o_ _ rfl
  have o:chS c l g ids a=if mD c l g (cN ids a)=true then cN ids a else ids:=rfl
  rw [o] at b
  cases hp:(ids.any fun x=>x==a) with
  | true=>
   have d:=aGG ids f a hp
   generalize hz:iv (cN ids a)++Ai (ids.length-(cN ids a).length) (ii 0)=z at d
   have j:(z.drop 0).take (cN ids a).length=iv (cN ids a):=by
    rw [<-hz,Bn,Db s_,Cb s_]
   refine gV ?_
   refine aT fun h=>?_
   repeat' first | (refine gN (hEo [9] []) ?_;conv=>whnf) | refine ⟨i,rfl,?_⟩ | refine ⟨_,get,?_⟩ | refine .pure _ [_] (HB ids f) ?_ | exact rfl | refine aY ?_ | refine aN ?_ | refine aT fun h=>?_ | refine aF fun h=>?_ | refine ⟨fun h=>?_,fun h=>?_⟩ | refine aJ ?_ | refine ⟨_,rfl,?_⟩ | refine aD ?_ | fail
   refine .eff [] [4,3] _ _ rfl d ?_
   refine cD (hEo [9] []) 5 ?_;conv=>whnf
   refine To.cutC [15,8,9,54,55,56] 5 rfl rfl rfl rfl ?_
   refine VT c l g a _ _ (aGT c l g a z _ ids all i) ?_
   rw [j]
   cases e:mD c l g (cN ids a) with
   | true=>
    exact zqra18
   | false=>
    exact zqra13
  | false=>
   have d:=aJ1 ids f a hp
   have j:iv ids=iv (cN ids a):=by
    have:cN ids a=ids:=Hh.2 fun y r=>by
     have:=(List.any_eq_false.1 hp) y r
     simpa using this
    rw [this]
   refine gV ?_
   refine aT fun h=>?_
   repeat' first | (refine gN (hEo [9] []) ?_;conv=>whnf) | refine ⟨i,rfl,?_⟩ | refine ⟨_,get,?_⟩ | refine .pure _ [_] (HB ids f) ?_ | exact rfl | refine aY ?_ | refine aN ?_ | refine aT fun h=>?_ | refine aF fun h=>?_ | refine ⟨fun h=>?_,fun h=>?_⟩ | refine aJ ?_ | refine ⟨_,rfl,?_⟩ | refine aD ?_ | fail
   refine .eff [] [4,3] _ _ rfl d ?_
   refine cD (hEo [9] []) 5 ?_;conv=>whnf
   refine To.cutC [15,8,9,54,55,56] 5 rfl rfl rfl rfl ?_
   refine VT c l g a _ _ (aGU c l g a (iv ids) ids all i) ?_
   rw [j]
   cases e:mD c l g (cN ids a) with
   | true=>
    exact zqra18
   | false=>
    exact zqra13
def chB (c:Con) (l:List Rn) (g:Gan):Option (List Int)->Option (List Int)
 | none=>none
 | some ids=>some (ids.foldl (chS c l g) ids)
abbrev caF (ids:List Int):List (Nat×AVal):=[(3,.ref 0 0),(4,.ref 1 0),(5,.ref 2 0),(8,aLD),(9,.slice 1 (iv ids) (.own 3 0))]
theorem aDt (c:Con) (F:c.sm) (l:List Rn) (hs:Sm l) (g:Gan) (G:0<=g.pods/\g.pods<=16) (R:Option (List Int)):∀ (f:Nat) (ids:List Int),(aB l ids).length<f->ids.length+(aB l ids).length<=l.length->chB c l g (chA c l g f ids)=R->
  To (Eo [9] []) fCh (.pure (.ret (chR R))) (.head (stk fCh 0) (caF ids) (chO c l g++[.tail 0 1 3])):=by
 have hl:=hs.1
 intro f
 induction f with
 | zero=>intro ids h;omega
 | succ f I=>
  intro ids M J i
  have K:(iv ids).length=ids.length:=by simp
  have h1:=VR c F l hs g G ids o_ _ rfl
  have v:=sZ l hs ids o_
  have hsl:=iU hs ids
  have m:=TY c F (aB l ids) hsl.1
  have j:=aBz (aB l ids) hsl
  have a:=aFP c (ofL c (aB l ids)) (dI (aB l ids)) (aBx hsl).1
  have C:aH (fun x=>bK c (ofL c (aB l ids)) x.g.ten) (dI (aB l ids)) 0=atI c l ids:=rfl
  rw [C] at a
  unfold chA at i
  cases u:mD c l g ids with
  | true=>
   rw [if_pos u] at i
   rw [u] at h1
   have i:some (ids.foldl (chS c l g) ids)=R:=i
   subst i
   have L:=xV ids o_
   have next:=aDs c F l hs g G ids o_ _ ids.length 0 ids o_ o_ rfl
   refine gV ?_
   exact zW
  | false=>
   rw [if_neg (by rw [u];decide)] at i
   rw [u] at h1
   have b:yQ c l ids=if atI c l ids<0 then none else some (aG (dI (aB l ids)) (atI c l ids).toNat).g.id:=rfl
   have p:=fun n=>xE (c:=c) (l:=l) (ids:=ids) (n:=n)
   by_cases d:atI c l ids<0
   .rw [if_pos d] at b
    rw [b] at i
    have i:none=R:=i
    subst i
    generalize atI c l ids=q at a d
    generalize ofL c (aB l ids)=us at m a
    generalize dI (aB l ids)=o at j a
    generalize aB l ids=left at v m j
    refine gV ?_
    repeat' first | (refine gN (hEo [9] []) ?_;conv=>whnf) | refine .eff [] [0,1,2] _ _ rfl h1 ?_ | refine .pure _ [] v ?_ | refine .pure _ [] m ?_ | refine .pure _ [] j ?_ | refine .eff [] [0,4] _ _ rfl a ?_ | exact rfl | refine aY ?_ | refine aN ?_ | refine aT fun h=>?_ | refine aF fun h=>?_ | refine ⟨fun h=>?_,fun h=>?_⟩ | refine aJ ?_ | refine ⟨_,rfl,?_⟩ | refine aD ?_ | fail
   .rw [if_neg d] at b
    obtain ⟨k,s,w⟩:∃ k:Nat,k<(dI (aB l ids)).length/\atI c l ids=(k:Int):=by
     rcases DD (fun x=>bK c (ofL c (aB l ids)) x.g.ten) (dI (aB l ids)) 0 with h | ⟨k,h1,H,_⟩
     .exact absurd (show atI c l ids<0 from by unfold atI;rw [h];decide) d
     .exact ⟨k,h1,by unfold atI;rw [H];simp⟩
    rw [w] at b a
    rw [Cz] at b
    have get:=jK s
    have z:=p _ b
    obtain ⟨y,B,D,_⟩:=z
    have A:=uI ⟨y,B,D⟩
    rw [b] at i
    generalize aG (dI (aB l ids)) k=x at get i A
    have next:=I (ids++[x.g.id]) o_ q_ i
    have e:iv (ids++[x.g.id])=iv ids++[ii x.g.id]:=by simp
    unfold caF at next
    rw [e] at next
    have r:=tJ (aB l ids)
    generalize ofL c (aB l ids)=us at m a
    generalize dI (aB l ids)=o at j a get s r
    generalize aB l ids=left at v m j J r
    refine gV ?_
    repeat' first | (refine gN (hEo [9] []) ?_;conv=>whnf) | refine .eff [] [0,1,2] _ _ rfl h1 ?_ | refine .pure _ [] v ?_ | refine .pure _ [] m ?_ | refine .pure _ [] j ?_ | refine .eff [] [0,4] _ _ rfl a ?_ | refine ⟨k,rfl,?_⟩ | refine ⟨_,get,?_⟩ | refine ⟨⟨by simp only [maxLen];simp;omega,by simp;omega⟩,?_⟩ | exact rfl | refine aY ?_ | refine aN ?_ | refine aT fun h=>?_ | refine aF fun h=>?_ | refine ⟨fun h=>?_,fun h=>?_⟩ | refine aJ ?_ | refine ⟨_,rfl,?_⟩ | refine aD ?_ | fail
    exact zW
theorem dK (l:List Rn):aB l []=l:=Hh.2 fun x _=>rfl
theorem RY (c:Con) (d:c.sm) (l:List Rn) (hs:Sm l) (g:Gan) (h:0<=g.pods/\g.pods<=16) (R:Option (List Int)) (a:dO c l g=R):aA Tryz.prog 192 [c.av,.slice 14 (rav l) .no,g.av] [] (.ret (chR R)) []:=by
 have i:=TY c d l hs.1
 have j:=RH g
 have e:=V0 c (ofL c l) g.ten (dem g)
 unfold dO at a
 cases b:jG c (ofL c l) g.ten (dem g) with
 | false=>
  rw [if_neg (by rw [b];decide)] at a
  rw [b] at e
  subst a
  exact zqra14
 | true=>
  rw [if_pos b] at a
  rw [b] at e
  have next:=aDt c d l hs g h R (l.length+1) [] (by rw [dK];omega) (by rw [dK];simp) (by rw [<-a];unfold chB;split<;>rfl)
  exact zqra14
theorem Y3 (c:Con) (b:c.sm) (l:List Rn) (hs:Sm l) (g:Gan) (a:0<=g.pods/\g.pods<=16):aA Tryz.prog 192 [c.av,.slice 14 (rav l) .no,g.av] [] (.ret (chR (dO c l g))) []:=RY c b l hs g a _ rfl
def V3.le (a b:V3):Prop:=a.a<=b.a/\a.b<=b.b/\a.c<=b.c
def V3.farB (a:V3):Prop:=(0<=a.a/\a.a<=1099511627776)/\(0<=a.b/\a.b<=1099511627776)/\(0<=a.c/\a.c<=1099511627776)
theorem sH {a b d:Int} (h:a<=b):iQ a d<=iQ b d:=by unfold iQ fL;omega
theorem AZ {a d:Int} (b:0<=a) (h1:a<=1099511627776) (c:0<=d):a<=iQ a d:=by unfold iQ fL;omega
theorem J4 {a d:Int} (b:0<=a) (c:0<=d):0<=iQ a d/\iQ a d<=1099511627776:=by unfold iQ fL;omega
theorem V8 {a b:V3} (d:V3) (h:a.le b):(dL a d).le (dL b d):=⟨sH h.1,sH h.2.1,sH h.2.2⟩
def V3.pos (d:V3):Prop:=0<=d.a/\0<=d.b/\0<=d.c
theorem aEa {a d:V3} (h:a.farB) (b:d.pos):a.le (dL a d):=⟨AZ h.1.1 h.1.2 b.1,AZ h.2.1.1 h.2.1.2 b.2.1,AZ h.2.2.1 h.2.2.2 b.2.2⟩
theorem ZQ {a d:V3} (h:a.farB) (b:d.pos):(dL a d).farB:=⟨J4 h.1.1 b.1,J4 h.2.1.1 b.2.1,J4 h.2.2.1 b.2.2⟩
theorem V3.le.trans {a b c:V3} (h:a.le b) (k:b.le c):a.le c:=⟨Ft h.1 k.1,Ft h.2.1 k.2.1,Ft h.2.2 k.2.2⟩
theorem uL {a b:V3}:cF a b=true↔a.le b:=by
 obtain ⟨g,e,d⟩:=a
 obtain ⟨f,i,h⟩:=b
 unfold cF V3.le
 by_cases h1:f<g
 .first | (simp [h1];done) | (simp [h1];omega)
 by_cases c:i<e
 .first | (simp [h1,c];done) | (simp [h1,c];omega)
 by_cases h3:h<d
 .first | (simp [h1,c,h3];done) | (simp [h1,c,h3];omega)
 first | (simp [h1,c,h3];done) | (simp [h1,c,h3];omega)
def oJ (c:Con) (j:Nat) (v:V3) (x:Rn):V3:=if aX c.ns x.g.ten=true/\(j:Int)∈upL c.ns x.g.ten then dL v (dem x.g) else v
theorem HH (v:V3) (j:Nat):∀ (ks:List Int) (xs:List V3),ks.Nodup->(∀ k∈ks,0<=k)->(ks.foldl (sN v) xs)[j]? =if (j:Int)∈ks then (xs[j]?).map fun x=>dL x v else xs[j]?
 | [],xs,_,_=>by simp
 | k::r,xs,b,h0=>by
  have b:=Cg.1 b
  have d:=h0 k s_
  rw [Al,HH v j r _ b.2 fun x c=>h0 x (by simp [c]),oF]
  by_cases h1:(j:Int)=k
  .have a:(j:Int)∉r:=by rw [h1];exact b.1
   rw [if_neg a,if_pos o_,if_pos (by simp [h1])]
  .have e:(j:Int)∈k::r↔(j:Int)∈r:=by simp [h1]
   by_cases a:(j:Int)∈r
   .rw [if_pos a,if_neg o_,if_pos (e.2 a)]
   .rw [if_neg a,if_neg o_,if_neg (fun h=>a (e.1 h))]
theorem aAL (c:Con) (xs:List V3) (x:Rn) (j:Nat):(zQ c xs x)[j]? =(xs[j]?).map fun v=>oJ c j v x:=by
 unfold zQ oJ
 cases d:aX c.ns x.g.ten with
 | false=>rw [if_neg d_];simp
 | true=>
  rw [if_pos rfl]
  have a:(bD c.ns x.g.ten).Nodup:=by
   unfold bD
   exact List.pairwise_reverse.2 ((HO c.ns _ _).imp fun h=>by omega)
  have hm:(j:Int)∈bD c.ns x.g.ten↔(j:Int)∈upL c.ns x.g.ten:=Hj
  rw [HH _ _ _ _ a fun k b=>(HP _ _ _ _ (Hj.1 b)).1]
  by_cases h:(j:Int)∈upL c.ns x.g.ten
  .rw [if_pos (hm.2 h)];simp [h]
  .rw [if_neg (fun q=>h (hm.1 q))];simp [h]
theorem aBH (c:Con) (j:Nat):∀ (l:List Rn) (xs:List V3),(l.foldl (zQ c) xs)[j]? =(xs[j]?).map fun v=>l.foldl (oJ c j) v
 | [],xs=>by simp
 | x::r,xs=>by
  rw [Al,aBH c j r,aAL,Option.map_map]
  rfl
theorem yP {c:Con} {t:Int} (h:0<=t/\t.toNat<c.ns.length) (l:List Rn):atV (ofL c l) t=l.foldl (oJ c t.toNat) V3.zero:=by
 unfold atV
 rw [if_neg (by rw [decide_eq_false o_];decide),<-aHo]
 unfold aAM
 rw [aBH,Ew,if_pos h.2]
 rfl
theorem uM {c:Con} {j:Nat} (p:Rn->Bool):∀ (l:List Rn) (a b:V3),(∀ x∈l,(dem x.g).pos)->a.le b->b.farB->((l.filter p).foldl (oJ c j) a).le (l.foldl (oJ c j) b)/\(l.foldl (oJ c j) b).farB
 | [],a,b,_,h,hf=>⟨h,hf⟩
 | x::r,a,b,hd,h,hf=>by
  have e:=hd x s_
  have f:(oJ c j b x).farB:=by unfold oJ;split;exact ZQ hf e;exact hf
  rw [Al,Gv]
  cases p x with
  | true=>
   rw [if_pos rfl,Al]
   refine uM p r _ _ (fun y d=>hd y (by simp [d])) ?_ f
   unfold oJ
   split
   .exact V8 _ h
   .exact h
  | false=>
   rw [if_neg d_]
   refine uM p r _ _ (fun y d=>hd y (by simp [d])) ?_ f
   unfold oJ
   split
   .exact h.trans (aEa hf e)
   .exact h
theorem J7:V3.zero.farB:=by unfold V3.farB V3.zero;decide
theorem CQ (a:V3):a.le a:=⟨Ds _,Ds _,Ds _⟩
theorem aGF {g:Gan} (a:aQ g.need=true) (f:0<=g.pods/\g.pods<=16):(dem g).pos:=by
 unfold aQ at a
 simp only [Ag,decide_eq_true_eq] at a
 obtain ⟨⟨⟨d,i⟩,c,j⟩,e,k⟩:=a
 have key:∀ x,0<=x->0<=EQ x g.pods:=fun x h=>by
  have b:0<=fL x 1099511627776*fL g.pods 1048576:=Je (by unfold fL;omega) (by unfold fL;omega)
  unfold EQ
  generalize fL x 1099511627776*fL g.pods 1048576=q at b
  unfold fL
  omega
 exact ⟨key _ d,key _ c,key _ e⟩
def Was (c:Con) (l:List Rn) (n:Int):Prop:=∃ (ids:List Int) (x:Rn),x∈l/\x.g.id=n/\bK c (ofL c (aB l ids)) x.g.ten=true
theorem AO {v:Int} {l:List Int}:inB v l=true↔v∈l:=by unfold inB;simp
theorem gZ {l:List Rn} {ids:List Int} {x:Rn}:x∈aB l ids↔x∈l/\x.g.id∉ids:=by
 unfold aB
 rw [Fk]
 refine and_congr Mv ?_
 rw [<-AO]
 cases inB x.g.id ids<;>simp
theorem N6 {c:Con} {l:List Rn} {g:Gan} {R:List Int}:∀ (f:Nat) (ids:List Int),ids.Nodup->(∀ n∈ids,Was c l n)->chA c l g f ids=some R->R.Nodup/\(∀ n∈R,Was c l n)/\mD c l g R=true
 | 0,ids,_,_,h=>by cases h
 | f+1,ids,hn,hw,h=>by
  unfold chA at h
  split at h
  .rename_i k
   cases h
   exact ⟨hn,hw,k⟩
  .split at h
   .cases h
   .rename_i n m
    obtain ⟨x,h1,j,h3⟩:=xE m
    have hm:=gZ.1 h1
    refine N6 f _ ?_ ?_ h
    .rw [Bu]
     refine ⟨hn,by simp,fun a d b i e=>?_⟩
     simp at i
     subst i e
     rw [j] at hm
     exact hm.2 d
    .intro a d
     rcases Az.1 d with d | d
     .exact hw a d
     .simp at d
      subst d
      exact ⟨ids,x,hm.1,j,h3⟩
theorem aGQ {c:Con} {l:List Rn} {g:Gan} (ids:List Int) (a:Int) (h:mD c l g ids=true):mD c l g (chS c l g ids a)=true/\(chS c l g ids a).Sublist ids:=by
 have e:chS c l g ids a=if mD c l g (cN ids a)=true then cN ids a else ids:=rfl
 rw [e]
 cases b:mD c l g (cN ids a) with
 | true=>rw [if_pos rfl];exact ⟨b,Ir⟩
 | false=>rw [if_neg d_];exact ⟨h,Lf _⟩
theorem aDw {c:Con} {l:List Rn} {g:Gan} (bs:List Int):∀ (ids:List Int),mD c l g ids=true->mD c l g (bs.foldl (chS c l g) ids)=true/\(bs.foldl (chS c l g) ids).Sublist ids:=by
 induction bs with
 | nil=>intro ids h;exact ⟨h,Lf _⟩
 | cons a r d=>
  intro ids h
  have h1:=aGQ ids a h
  rw [Al]
  generalize chS c l g ids a=q at h1
  obtain ⟨b,h3⟩:=d q h1.1
  exact ⟨b,h3.trans h1.2⟩
theorem yY {c:Con} {l:List Rn} {g:Gan} {R:List Int} (h:dO c l g=some R):jG c (ofL c l) g.ten (dem g)=true/\R.Nodup/\(∀ n∈R,Was c l n)/\mD c l g R=true:=by
 unfold dO at h
 split at h
 .rename_i e
  split at h
  .cases h
  .rename_i ids d
   cases h
   obtain ⟨h1,b,h3⟩:=N6 _ [] s_ s_ d
   obtain ⟨f,a⟩:=aDw ids ids h3
   exact ⟨e,a.nodup h1,fun n i=>b n (a.subset i),f⟩
 .cases h
def pM (l:List Rn):Prop:=l.Pairwise fun a b=>a.g.id≠b.g.id/\a.seq≠b.seq
theorem yG {a:Int}:∀ {q:List Rn},q.Pairwise (fun x y=>x.g.id≠y.g.id)->(∃ x∈q,x.g.id=a)->(q.filter fun y=>!(y.g.id==a)).length+1=q.length
 | [],_,h=>by obtain ⟨x,b,_⟩:=h;cases b
 | y::r,hp,h=>by
  have hp:=Br.1 hp
  rw [Gv]
  by_cases c:y.g.id=a
  .have e:(r.filter fun y=>!(y.g.id==a))=r:=Hh.2 fun z hz=>by
    have:=hp.1 z hz
    rw [c] at this
    have:(z.g.id==a)=false:=by simpa using fun e=>this e.symm
    rw [this];rfl
   rw [if_neg (by simp [c]),e]
   simp
  .obtain ⟨x,b,d⟩:=h
   have b:x∈r:=by
    rcases Au.1 b with rfl | b
    .exact absurd d c
    .exact b
   have:=yG hp.2 ⟨x,b,d⟩
   rw [if_pos (by simp [c])]
   simp only [Bq]
   omega
theorem HJ (l:List Rn) (a:Int) (r:List Int):aB l (a::r)=(aB l r).filter fun x=>!(x.g.id==a):=by
 unfold aB
 rw [List.filter_filter]
 refine List.filter_congr fun x _=>?_
 unfold inB
 rw [Gs]
 cases (r.any fun y=>x.g.id==y)<;>cases (x.g.id==a)<;>rfl
theorem yE {l:List Rn} (d:pM l):∀ {ids:List Int},ids.Nodup->(∀ n∈ids,∃ x∈l,x.g.id=n)->(aB l ids).length+ids.length=l.length
 | [],_,_=>by rw [dK];simp
 | a::r,b,hm=>by
  have b:=Cg.1 b
  have f:=yE d b.2 fun n h=>hm n (by simp [h])
  obtain ⟨x,e,c⟩:=hm a s_
  have hp:(aB l r).Pairwise fun x y=>x.g.id≠y.g.id:=(d.sublist Ir).imp fun h=>h.1
  have:=yG (a:=a) hp ⟨x,gZ.2 ⟨e,by rw [c];exact b.1⟩,c⟩
  rw [HJ]
  simp only [Bq]
  omega
theorem aFa {l:List Rn} (d:pM l) {x y:Rn} (c:x∈l) (e:y∈l) (h:x.g.id=y.g.id):x=y:=by
 obtain ⟨i,a,rfl⟩:=Gn c
 obtain ⟨j,b,rfl⟩:=Gn e
 have hp:=Dn.1 d
 rcases Nat.lt_trichotomy i j with h1 | rfl | h1
 .exact absurd h (hp i j a b h1).1
 .rfl
 .exact absurd h.symm (hp j i b a h1).1
noncomputable abbrev aLa:Func:=Tryz.f73
theorem PI (l:List Int) (hl:l.length<=1048576) (v:Int) (r:Bool):∀ (m i:Nat),i+m=l.length->inB v (l.drop i)=r->
  To E aLa (.pure (.ret (.bool r))) (.head (stk aLa 0) [(0,ii v),(1,.slice 1 (iv l) .no),(5,ii i)] []):=by
 have d:(iv l).length=l.length:=by simp
 intro m
 induction m with
 | zero=>
  exact zqra19
 | succ m c=>
  intro i g a
  have b:i<l.length:=o_
  rw [Ac b] at a
  have get:=bS b
  generalize l[i]=x at a get
  unfold inB at a
  rw [Gs] at a
  have c:=c (i+1) o_
  have f:(v==x)=(x==v):=by
   by_cases h:v=x
   .subst h;rfl
   .rw [beq_eq_false_iff_ne.2 h,beq_eq_false_iff_ne.2 (Eg h)]
  rw [f] at a
  cases e:(x==v) with
  | true=>
   rw [e] at a
   have a:true=r:=a
   subst a
   refine gV ?_
   exact zW
  | false=>
   rw [e,Li] at a
   have next:=c a
   refine gV ?_
   exact zW
theorem aAS (l:List Int) (hl:l.length<=1048576) (v:Int):aA Tryz.prog 73 [ii v,.slice 1 (iv l) .no] [] (.ret (.bool (inB v l))) []:=by
 refine c_ Tryz.f73 fun _=>?_
 refine gV ?_
 exact To.cut [0,1,5] 0 rfl rfl rfl rfl (PI l hl v _ l.length 0 o_ rfl)
noncomputable abbrev aLc:Func:=Tryz.f25
theorem aAr (l:List Rn) (hs:Sm l) (ids:List Int) (o:ids.length<=1048576) (R:List Rn):∀ (m i:Nat) (a:List Rn),i+m=l.length->a.length<=i->a++aB (l.drop i) ids=R->
  To (Eo [5] []) aLc (.pure (.ret (.slice 14 (rav R) .no))) (.head (stk aLc 0) [(0,.slice 14 (rav l) .no),(1,.slice 1 (iv ids) .no),(5,.slice 14 (rav a) (.own 0 0)),(6,ii i)] [.tail 0 14 127]):=by
 have f:(rav l).length=l.length:=by simp
 have hl:=hs.1
 intro m
 induction m with
 | zero=>
  intro i a p q b
  exact zqra5
 | succ m h=>
  intro i a p q b
  have c:i<l.length:=o_
  rw [Ac c] at b
  generalize n:l[i]=x at b
  have get:(rav l)[i]? =some x.av:=(bN c).trans (by rw [n])
  have k:(rav a).length=a.length:=by simp
  have j:=aAS ids o x.g.id
  cases d:inB x.g.id ids with
  | true=>
   rw [d] at j
   rw [jR d] at b
   have next:=h (i+1) a o_ o_ b
   refine gV ?_
   exact zW
  | false=>
   rw [d] at j
   rw [jQ d] at b
   have next:=h (i+1) (a++[x]) o_ q_ (by rw [Aj];exact b)
   have e:rav (a++[x])=rav a++[x.av]:=by simp
   rw [e] at next
   refine gV ?_
   exact zW
theorem mK (l:List Rn) (hs:Sm l) (ids:List Int) (b:ids.length<=1048576):aA Tryz.prog 25 [.slice 14 (rav l) .no,.slice 1 (iv ids) .no] [] (.ret (.slice 14 (rav (aB l ids)) .no)) []:=by
 refine cT (E:=(Eo [5] [])) (fn:=Tryz.f25) (g:=.pure _) fun _=>?_
 have a:=aAr l hs ids b _ l.length 0 [] o_ s_ rfl
 exact zW
def LeR (a b:Rn):Prop:=cE b a=false
theorem kT {a b:Rn}:LeR a b↔b.st<a.st\/(b.st=a.st/\b.seq<=a.seq):=by
 unfold LeR
 have h:=tM (a:=b) (b:=a)
 cases c:cE b a with
 | true=>
  have:=h.1 c
  constructor
  .intro h;cases h
  .intro d;omega
 | false=>
  have:¬ (a.st<b.st\/(a.st=b.st/\a.seq<b.seq)):=fun q=>by rw [h.2 q] at c;cases c
  constructor
  .intro _;omega
  .intro _;rfl
theorem LeR.trans {a b c:Rn} (h:LeR a b) (k:LeR b c):LeR a c:=by rw [kT] at *;omega
theorem IZ {a b:Rn} (h:cE a b=true):LeR a b:=by
 have:=tM.1 h
 rw [kT]
 omega
theorem GK {xs:List Rn} {i k:Nat} (b:i<xs.length) (c:k<xs.length) (j:Nat):aG (iC xs i k) j=if j=k then aG xs i else if j=i then aG xs k else aG xs j:=by
 unfold iC
 conv=>lhs;unfold aG
 rw [Fs,Fs]
 by_cases h1:j=k
 .subst h1
  rw [if_pos rfl,if_pos rfl,if_pos (by simpa using c)]
  rfl
 .rw [if_neg (fun e=>h1 e.symm),if_neg h1]
  by_cases a:j=i
  .subst a
   rw [if_pos rfl,if_pos rfl,if_pos b]
   rfl
  .rw [if_neg (fun e=>a e.symm),if_neg a]
   rfl
def Hp (n:Nat) (xs:List Rn):Prop:=∀ j,0<j->j<n->LeR (aG xs ((j-1) / 2)) (aG xs j)
theorem Hp.root {n:Nat} {xs:List Rn} (h:Hp n xs):∀ (m j:Nat),j<=m->j<n->LeR (aG xs 0) (aG xs j)
 | 0,j,hm,_=>by
  have:j=0:=o_
  subst this
  rw [kT];omega
 | m+1,j,hm,hj=>by
  by_cases a:j=0
  .subst a;rw [kT];omega
  .exact (h.root m ((j-1) / 2) o_ o_).trans (h j o_ hj)
theorem ZT (n:Nat):∀ (f:Nat) (xs:List Rn) (i:Nat),xs.length=n->i<n->i<f->(∀ j,0<j->j<n->j≠i->LeR (aG xs ((j-1) / 2)) (aG xs j))->(∀ j,0<j->j<n->(j-1) / 2=i->0<i->LeR (aG xs ((i-1) / 2)) (aG xs j))->Hp n (upH f xs i)
 | 0,xs,i,_,_,h,_,_=>by omega
 | f+1,xs,i,hx,hi,hf,h1,h2=>by
  unfold upH
  by_cases r:i=0
  .rw [if_pos r]
   exact fun j a b=>h1 j a b o_
  rw [if_neg r]
  generalize l:(i-1) / 2=up
  have s:up<i:=o_
  cases p:cE (aG xs i) (aG xs up) with
  | false=>
   rw [if_neg d_]
   intro j a b
   by_cases d:j=i
   .subst d
    rw [l]
    exact p
   .exact h1 j a b d
  | true=>
   rw [if_pos rfl]
   have o:=IZ p
   have g:=fun j=>GK (xs:=xs) (i:=i) (k:=up) o_ o_ j
   have m:0<up->LeR (aG xs ((up-1) / 2)) (aG xs up):=fun h=>h1 up h o_ o_
   refine ZT n f _ up (by rw [cY];exact hx) o_ o_ (fun j a b d=>?_) (fun j a b d q=>?_)
   .rw [g,g]
    by_cases c:j=i
    .subst c
     rw [l,if_pos rfl,if_neg d,if_pos rfl]
     exact o
    .rw [if_neg d,if_neg c]
     by_cases hp:(j-1) / 2=i
     .rw [if_neg o_,if_pos hp]
      have:=h2 j a b hp o_
      rwa [l] at this
     .by_cases e:(j-1) / 2=up
      .rw [if_pos e]
       have:=h1 j a b c
       rw [e] at this
       exact o.trans this
      .rw [if_neg e,if_neg hp]
       exact h1 j a b c
   .rw [g,g,if_neg o_,if_neg o_]
    by_cases c:j=i
    .subst c
     rw [if_neg o_,if_pos rfl]
     exact m q
    .rw [if_neg o_,if_neg c]
     have:=h1 j a b c
     rw [d] at this
     exact (m q).trans this
theorem NI {xs:List Rn} {x:Rn} {j:Nat} (h:j<xs.length):aG (xs++[x]) j=aG xs j:=by
 unfold aG
 rw [Af h]
theorem aE6 {xs:List Rn} (h:Hp xs.length xs) (x:Rn):Hp (hD xs x).length (hD xs x):=by
 rw [xA]
 unfold hD
 refine ZT (xs.length+1) _ _ _ s_ o_ o_ (fun j a b c=>?_) (fun j a b c d=>by omega)
 rw [NI o_,NI o_]
 exact h j a o_
theorem NX (n:Nat):∀ (f:Nat) (xs:List Rn) (i:Nat),n<=xs.length->i<xs.length->n<f+i+1->(∀ j,0<j->j<n->(j-1) / 2≠i->LeR (aG xs ((j-1) / 2)) (aG xs j))->(∀ j,0<j->j<n->(j-1) / 2=i->0<i->LeR (aG xs ((i-1) / 2)) (aG xs j))->Hp n (kH f xs n i)
 | 0,xs,i,_,_,hf,h1,h2=>by
  intro j a b
  exact h1 j a b o_
 | f+1,xs,i,hx,hi,hf,h1,h2=>by
  unfold kH
  by_cases o:2*i+1<n
  .rw [if_pos o]
   have r:=wA xs n i o
   have c:∀ j,j<n->(j=2*i+1\/j=2*i+2)->LeR (aG xs (dR xs n i)) (aG xs j):=fun j d q=>by
    unfold dR
    by_cases h3:2*i+2<n
    .rw [if_pos h3]
     cases l:cE (aG xs (2*i+2)) (aG xs (2*i+1)) with
     | true=>
      rw [if_pos rfl]
      rcases q with rfl | rfl
      .exact IZ l
      .rw [kT];omega
     | false=>
      rw [if_neg d_]
      rcases q with rfl | rfl
      .rw [kT];omega
      .exact l
    .rw [if_neg h3]
     rcases q with rfl | rfl
     .rw [kT];omega
     .omega
   generalize dR xs n i=k at r c
   cases l:cE (aG xs k) (aG xs i) with
   | false=>
    rw [if_neg d_]
    intro j a b
    by_cases d:(j-1) / 2=i
    .rw [d]
     exact LeR.trans l (c j b o_)
    .exact h1 j a b d
   | true=>
    rw [if_pos rfl]
    have p:=IZ l
    have g:=fun j=>GK (xs:=xs) (i:=i) (k:=k) hi o_ j
    have e:(k-1) / 2=i:=o_
    refine NX n f _ k (by rw [cY];exact hx) (by rw [cY];omega) o_ (fun j a b d=>?_) (fun j a b d s=>?_)
    .rw [g,g]
     by_cases hp:(j-1) / 2=i
     .rw [hp,if_neg o_,if_pos rfl]
      by_cases h:j=k
      .rw [if_pos h];exact p
      .rw [if_neg h,if_neg o_]
       exact c j b o_
     .rw [if_neg d,if_neg hp,if_neg o_]
      by_cases m:j=i
      .subst m
       rw [if_pos rfl]
       exact h2 k o_ o_ e a
      .rw [if_neg m]
       exact h1 j a b hp
    .rw [e,g,g,if_neg o_,if_pos rfl,if_neg o_,if_neg o_]
     have:=h1 j a b o_
     rwa [d] at this
  .rw [if_neg o]
   intro j a b
   exact h1 j a b o_
theorem GL {xs:List Rn} {x:Rn} {j:Nat} (h:0<j):aG (xs.set 0 x) j=aG xs j:=by
 unfold aG
 rw [Aw o_]
theorem aIN {xs:List Rn} {n:Nat} (d:0<n) (f:n<=xs.length) (h:Hp n xs):Hp (n-1) (pP xs n):=by
 unfold pP
 refine NX (n-1) n _ 0 q_ q_ o_ (fun j a b c=>?_) (fun j a b c e=>by omega)
 rw [GL o_,GL a]
 exact h j a o_
theorem BI {xs:List Rn} {i k:Nat} (a:i<xs.length) (b:k<xs.length):(iC xs i k).Perm xs:=by
 unfold iC aG
 rw [Ab a,Ab b]
 exact List.set_set_perm a b
theorem KG:∀ (f:Nat) (xs:List Rn) (i:Nat),i<xs.length->(upH f xs i).Perm xs
 | 0,xs,i,_=>Fb _
 | f+1,xs,i,hi=>by
  unfold upH
  split
  .exact Fb _
  .split
   .exact (KG f _ _ (by rw [cY];omega)).trans (BI hi o_)
   .exact Fb _
theorem yN:∀ (l xs:List Rn),(l.foldl hD xs).Perm (xs++l)
 | [],xs=>by simp
 | x::r,xs=>by
  rw [Al]
  refine (yN r _).trans ?_
  have h:(hD xs x).Perm (xs++[x]):=KG _ _ _ s_
  have:=h.append_right r
  rwa [Aj] at this
theorem FP:∀ (l xs:List Rn),Hp xs.length xs->Hp (l.foldl hD xs).length (l.foldl hD xs)
 | [],xs,h=>h
 | x::r,xs,h=>by rw [Al];exact FP r _ (aE6 h x)
theorem kX {xs:List Rn} {m j:Nat} (h:j<m):aG (xs.take m) j=aG xs j:=by
 unfold aG
 rw [Bg h]
theorem O2 {xs:List Rn} {m i k:Nat} (a:i<m) (b:k<m):(iC xs i k).take m=iC (xs.take m) i k:=by
 unfold iC
 rw [kX a,kX b,List.take_set,List.take_set]
theorem RD {xs:List Rn} {n i:Nat} (h:2*i+1<n):dR (xs.take n) n i=dR xs n i:=by
 unfold dR
 by_cases h3:2*i+2<n
 .rw [if_pos h3,if_pos h3,kX h3,kX h]
 .rw [if_neg h3,if_neg h3]
theorem DY (n:Nat):∀ (f:Nat) (xs:List Rn) (i:Nat),i<n\/n=0->(kH f xs n i).take n=kH f (xs.take n) n i
 | 0,xs,i,_=>rfl
 | f+1,xs,i,hi=>by
  unfold kH
  by_cases a:2*i+1<n
  .rw [if_pos a,if_pos a]
   have b:=wA xs n i a
   rw [RD a,kX b.1,kX o_]
   split
   .rw [DY n f _ _ o_,O2 o_ b.1]
   .rfl
  .rw [if_neg a,if_neg a]
theorem DZ (n:Nat):∀ (f:Nat) (xs:List Rn) (i:Nat),n<=xs.length->i<xs.length->(kH f xs n i).Perm xs
 | 0,xs,i,_,_=>Fb _
 | f+1,xs,i,hn,hi=>by
  unfold kH
  split
  .rename_i a
   have b:=wA xs n i a
   split
   .exact (DZ n f _ _ (by rw [cY];exact hn) (by rw [cY];omega)).trans (BI hi o_)
   .exact Fb _
  .exact Fb _
theorem L8 {xs:List Rn} {n:Nat} (d:0<n) (a:n<=xs.length):(aG xs 0::(pP xs n).take (n-1)).Perm (xs.take n):=by
 match n,d with
 | 1,_=>
  match xs,a with
  | x::r,_=>exact Fb _
 | m+2,_=>
  have g:m+2-1=m+1:=rfl
  unfold pP
  rw [g,DY (m+1) _ _ 0 (.inl o_)]
  match xs,a with
  | x::r,a=>
  have c:m<r.length:=by simp at a;omega
  have b:aG (x::r) (m+1)=r[m]:=by
   unfold aG
   rw [Eu,Ab c]
   rfl
  have e:(List.set (x::r) 0 (aG (x::r) (m+1))).take (m+1)=r[m]::r.take m:=by rw [b];rfl
  rw [e]
  have f:(x::r).take (m+2)=x::(r.take m++[r[m]]):=by
   show x::r.take (m+1)=_
   rw [Iw c]
  rw [f]
  refine List.Perm.cons _ ?_
  refine (DZ (m+1) _ _ 0 q_ s_).trans ?_
  exact (List.perm_append_singleton _ _).symm
theorem qL:∀ (n:Nat) (xs:List Rn),n<=xs.length->(gD n xs).Perm (xs.take n)
 | 0,xs,_=>by simp [gD]
 | n+1,xs,hn=>by
  unfold gD
  have h1:=L8 (xs:=xs) (n:=n+1) o_ hn
  have a:=qL n (pP xs (n+1)) (by rw [nP];omega)
  exact (List.Perm.cons _ a).trans h1
theorem FR:∀ (n:Nat) (xs:List Rn),n<=xs.length->Hp n xs->(gD n xs).Pairwise LeR
 | 0,xs,_,_=>by simp [gD]
 | n+1,xs,hn,h=>by
  unfold gD
  refine Br.2 ⟨fun y b=>?_,FR n _ (by rw [nP];omega) (aIN o_ hn h)⟩
  have h1:=(qL n (pP xs (n+1)) (by rw [nP];omega)).mem_iff.1 b
  have a:=(L8 (xs:=xs) (n:=n+1) o_ hn).mem_iff.1 (Bd _ h1)
  obtain ⟨j,c,rfl⟩:=Im.1 a
  have e:aG xs j=xs[j]:=by
   unfold aG
   rw [Ab o_]
   rfl
  rw [<-e]
  exact h.root j j (Ba _) o_
theorem QA (l:List Rn):(dI l).Perm l:=by
 unfold dI
 have a:(l.foldl hD []).length=l.length:=by rw [oM];simp
 refine (qL _ _ o_).trans ?_
 rw [Cb o_]
 simpa using yN l []
theorem aBy (l:List Rn):(dI l).Pairwise LeR:=by
 unfold dI
 have c:(l.foldl hD []).length=l.length:=by rw [oM];simp
 refine FR _ _ o_ ?_
 rw [<-c]
 exact FP l [] (fun j a b=>by simp at b)
theorem FD {R:Rn->Rn->Prop}:∀ {a b:List Rn},a.Perm b->a.Pairwise R->b.Pairwise R->(∀ x∈a,∀ y∈a,R x y->R y x->x=y)->(∀ x∈a,R x x)->a=b
 | [],b,h,_,_,_,_=>by
  have:=h.length_eq
  exact (Av (by simpa using this.symm)).symm
 | x::r,[],h,_,_,_,_=>by have:=h.length_eq;simp at this
 | x::r,y::s,h,h1,d,ha,hr=>by
  have h1:=Br.1 h1
  have d:=Br.1 d
  have i:x=y:=by
   have j:x∈y::s:=h.mem_iff.1 s_
   have f:y∈x::r:=h.mem_iff.2 s_
   rcases Au.1 j with e | j
   .exact e
   .rcases Au.1 f with e | f
    .exact e.symm
    .exact ha x s_ y (by simp [f]) (h1.1 y f) (d.1 x j)
  subst i
  have hp:r.Perm s:=h.cons_inv
  rw [FD hp h1.2 d.2 (fun a c b g=>ha a (by simp [c]) b (by simp [g])) (fun a c=>hr a (by simp [c]))]
def qS (x:Rn) (out:List Rn):Nat->Nat
 | 0=>0
 | k+1=>if cE x (aG out k)=true then qS x out k else k+1
def CY (out:List Rn) (x:Rn):List Rn:=out.take (qS x out out.length)++[x]++out.drop (qS x out out.length)
def IF (l:List Rn):List Rn:=l.foldl CY []
theorem UL (x:Rn) (out:List Rn):∀ (k:Nat),qS x out k<=k
 | 0=>Ba _
 | k+1=>by
  unfold qS
  split
  .have:=UL x out k;omega
  .exact Ba _
theorem GA (x:Rn) (out:List Rn):∀ (k:Nat),(∀ j,qS x out k<=j->j<k->cE x (aG out j)=true)/\(0<qS x out k->cE x (aG out (qS x out k-1))=false)
 | 0=>⟨fun j _ h=>by omega,fun h=>by simp [qS] at h⟩
 | k+1=>by
  obtain ⟨h1,d⟩:=GA x out k
  unfold qS
  cases c:cE x (aG out k) with
  | true=>
   rw [if_pos rfl]
   refine ⟨fun j a b=>?_,d⟩
   by_cases e:j=k
   .subst e;exact c
   .exact h1 j a o_
  | false=>
   rw [if_neg d_]
   exact ⟨fun j a b=>by omega,fun _=>c⟩
theorem GB (out:List Rn) (x:Rn):(CY out x).Perm (out++[x]):=by
 unfold CY
 generalize qS x out out.length=k
 have h:(out.take k++[x]++out.drop k).Perm (out.take k++out.drop k++[x]):=by
  rw [Aj,Aj]
  exact Dk _ Dl
 rwa [Bk] at h
theorem aFK {out:List Rn} (h:out.Pairwise LeR) (x:Rn):(CY out x).Pairwise LeR:=by
 have l:=UL x out out.length
 obtain ⟨h1,n⟩:=GA x out out.length
 unfold CY
 generalize qS x out out.length=k at l h1 n
 have hp:=Dn.1 h
 have m:∀ {j:Nat} (e:j<out.length),aG out j=out[j]:=fun {j} e=>by
  unfold aG
  rw [Ab e]
  rfl
 have d:∀ y∈out.take k,LeR y x:=fun y i=>by
  obtain ⟨j,e,rfl⟩:=Im.1 i
  have hl:LeR (aG out (k-1)) x:=n o_
  rw [m o_] at hl
  by_cases g:j=k-1
  .subst g;exact hl
  .exact (hp j (k-1) o_ o_ o_).trans hl
 have c:∀ y∈out.drop k,LeR x y:=fun y i=>by
  obtain ⟨j,e,rfl⟩:=List.mem_drop_iff_getElem.1 i
  have:=h1 (k+j) o_ o_
  rw [m o_] at this
  exact IZ this
 have hs:=h
 rw [<-Bk k out,Bz] at hs
 rw [Aj,Bz]
 refine ⟨hs.1,?_,fun a o b f=>?_⟩
 .exact Br.2 ⟨c,hs.2.1⟩
 .rcases Au.1 f with rfl | f
  .exact d a o
  .exact hs.2.2 a o b f
theorem FN:∀ (l out:List Rn),(l.foldl CY out).Perm (out++l)
 | [],out=>by simp
 | x::r,out=>by
  rw [Al]
  refine (FN r _).trans ?_
  have:=(GB out x).append_right r
  rwa [Aj] at this
theorem TP:∀ (l out:List Rn),out.Pairwise LeR->(l.foldl CY out).Pairwise LeR
 | [],out,h=>h
 | x::r,out,h=>by rw [Al];exact TP r _ (aFK h x)
theorem MF {l:List Rn} (h:pM l):dI l=IF l:=by
 have h1:=QA l
 have g:(IF l).Perm l:=by have:=FN l [];simpa [IF] using this
 refine FD (h1.trans g.symm) (aBy l) (TP l [] s_) (fun x a y d c b=>?_) (fun x _=>by rw [kT];omega)
 have a:=h1.mem_iff.1 a
 have d:=h1.mem_iff.1 d
 rw [kT] at c b
 have hs:x.seq=y.seq:=o_
 obtain ⟨i,e,rfl⟩:=Gn a
 obtain ⟨j,f,rfl⟩:=Gn d
 have hp:=Dn.1 h
 rcases Nat.lt_trichotomy i j with h1 | rfl | h1
 .exact absurd hs (hp i j e f h1).2
 .rfl
 .exact absurd hs.symm (hp j i f e h1).2
noncomputable abbrev fRO:Func:=Tryz.f269
abbrev roF (l out:List Rn) (i:Int):List (Nat×AVal):=[(0,.slice 14 (rav l) .no),(3,.slice 14 (rav out) .no),(4,ii i)]
theorem aKC (l:List Rn) (R:AVal) (x:Rn) (i:Nat) (z:i<1048576) (f:(rav l)[i]? =some x.av) (out:List Rn) (w:out.length<=1048576)
  (next:∀ K:Nat,K<=out.length->K=qS x out out.length->To (Er [] [70,71,72]) fRO (.pure (.ret R)) (.head (stk fRO 0) [(0,.slice 14 (rav l) .no),(3,.slice 14 ((rav out).take K++[x.av]++(rav out).drop K) .no),(4,ii ((i:Int)+1))] [])):∀ (k:Nat),k<=out.length->qS x out out.length=qS x out k->
  To (Er [] [70,71,72]) fRO (.pure (.ret R)) (.head (stk fRO 1) (roF l out i++[(5,ii k)]) []):=by
 have o:(rav out).length=out.length:=by simp
 intro k
 induction k with
 | zero=>
  intro p g
  have next:=next 0 (Cn _) (by rw [g];rfl)
  have v:(Et 0 (rav out)).length=0:=by simp
  refine gV ?_
  repeat' first | (refine gN (hEr [] [70,71,72]) ?_;conv=>whnf) | refine Ah 0 (Aa o_ ?_) | refine ⟨i,rfl,?_⟩ | refine ⟨_,f,?_⟩ | refine ⟨⟨by simp only [maxLen];simp;omega,by simp;omega⟩,?_⟩ | refine Aa (Aa (by simp [maxLen]) s_) ?_ | exact rfl | refine aY ?_ | refine aN ?_ | refine aT fun h=>?_ | refine aF fun h=>?_ | refine ⟨fun h=>?_,fun h=>?_⟩ | refine aJ ?_ | refine ⟨_,rfl,?_⟩ | refine aD ?_ | fail
  exact zW
 | succ k t=>
  intro p g
  have d:=jK (xs:=out) (i:=k) o_
  have e:=tM (a:=x) (b:=aG out k)
  have u:qS x out (k+1)=if cE x (aG out k)=true then qS x out k else k+1:=rfl
  rw [u] at g
  have n:cE x (aG out k)=false->To (Er [] [70,71,72]) fRO (.pure (.ret R)) (.head (stk fRO 0) [(0,.slice 14 (rav l) .no),(3,.slice 14 ((rav out).take (k+1)++[x.av]++(rav out).drop (k+1)) .no),(4,ii ((i:Int)+1))] []):=fun h=>next (k+1) p (by rw [g,if_neg (by rw [h];decide)])
  have m:cE x (aG out k)=true->To (Er [] [70,71,72]) fRO (.pure (.ret R)) (.head (stk fRO 1) (roF l out i++[(5,ii k)]) []):=fun h=>t o_ (by rw [g,if_pos h])
  generalize aG out k=y at d e n m
  have q:((k+1:Nat):Int)-1=((k:Nat):Int):=o_
  by_cases r:y.st<x.st
  .have next:=m (e.2 (.inl r))
   have c:((0:Int)==0)=true:=rfl
   refine gV ?_
   repeat' first
    | (refine gN (hEr [] [70,71,72]) ?_;conv=>whnf)
    | refine Ah (k+1) (Aa rfl ?_)
    | refine Ah k (Aa o_ ?_)
    | refine Ah i (Aa rfl ?_)
    | refine Ah _ (Aa f ?_)
    | refine Ah _ (Aa d ?_)
    | refine ⟨⟨by simp only [maxLen];simp;omega,by simp;omega⟩,?_⟩
    | refine aY ?_
    | refine aN ?_
    | refine aT fun h=>?_
    | refine aF fun h=>?_
    | refine Aa (fun h=>?_) (fun h=>absurd h (by rw [c];decide))
    | refine Aa (fun h=>absurd h (by rw [c];decide)) (fun h=>?_)
    | refine Aa (Aa (by simp only [bO];omega) (by simp only [bA];omega)) ?_
    | refine aJ ?_
    | refine Aa o_ ?_
    | fail
   rw [q]
   exact To.cut [0,3,4,5] 0 rfl rfl rfl rfl next
  .by_cases j:y.st=x.st
   .have c:(y.st==x.st)=true:=by simp [j]
    by_cases s:y.seq<x.seq
    .have next:=m (e.2 (.inr ⟨j,s⟩))
     refine gV ?_
     repeat' first
      | (refine gN (hEr [] [70,71,72]) ?_;conv=>whnf)
      | refine Ah (k+1) (Aa rfl ?_)
      | refine Ah k (Aa o_ ?_)
      | refine Ah i (Aa rfl ?_)
      | refine Ah _ (Aa f ?_)
      | refine Ah _ (Aa d ?_)
      | refine ⟨⟨by simp only [maxLen];simp;omega,by simp;omega⟩,?_⟩
      | refine aY ?_
      | refine aN ?_
      | refine aT fun h=>?_
      | refine aF fun h=>?_
      | refine Aa (fun h=>?_) (fun h=>absurd h (by rw [c];decide))
      | refine Aa (fun h=>absurd h (by rw [c];decide)) (fun h=>?_)
      | refine Aa (Aa (by simp only [bO];omega) (by simp only [bA];omega)) ?_
      | refine aJ ?_
      | refine Aa o_ ?_
      | fail
     rw [q]
     exact To.cut [0,3,4,5] 0 rfl rfl rfl rfl next
    .have next:=n (by cases h:cE x y with | false=>rfl | true=>have:=e.1 h;omega)
     refine gV ?_
     repeat' first
      | (refine gN (hEr [] [70,71,72]) ?_;conv=>whnf)
      | refine Ah (k+1) (Aa rfl ?_)
      | refine Ah k (Aa o_ ?_)
      | refine Ah i (Aa rfl ?_)
      | refine Ah _ (Aa f ?_)
      | refine Ah _ (Aa d ?_)
      | refine ⟨⟨by simp only [maxLen];simp;omega,by simp;omega⟩,?_⟩
      | refine aY ?_
      | refine aN ?_
      | refine aT fun h=>?_
      | refine aF fun h=>?_
      | refine Aa (fun h=>?_) (fun h=>absurd h (by rw [c];decide))
      | refine Aa (fun h=>absurd h (by rw [c];decide)) (fun h=>?_)
      | refine Aa (Aa (by simp only [bO];omega) (by simp only [bA];omega)) ?_
      | refine aJ ?_
      | refine Aa o_ ?_
      | fail
     exact zW
   .have c:(y.st==x.st)=false:=by simp [j]
    have next:=n (by cases h:cE x y with | false=>rfl | true=>have:=e.1 h;omega)
    refine gV ?_
    repeat' first
     | (refine gN (hEr [] [70,71,72]) ?_;conv=>whnf)
     | refine Ah (k+1) (Aa rfl ?_)
     | refine Ah k (Aa o_ ?_)
     | refine Ah i (Aa rfl ?_)
     | refine Ah _ (Aa f ?_)
     | refine Ah _ (Aa d ?_)
     | refine ⟨⟨by simp only [maxLen];simp;omega,by simp;omega⟩,?_⟩
     | refine aY ?_
     | refine aN ?_
     | refine aT fun h=>?_
     | refine aF fun h=>?_
     | refine Aa (fun h=>?_) (fun h=>absurd h (by rw [c];decide))
     | refine Aa (fun h=>absurd h (by rw [c];decide)) (fun h=>?_)
     | refine Aa (Aa (by simp only [bO];omega) (by simp only [bA];omega)) ?_
     | refine aJ ?_
     | refine Aa o_ ?_
     | fail
    exact zW
theorem aIu (l:List Rn) (hl:l.length<=1000000) (R:List Rn):∀ (m i:Nat) (out:List Rn),i+m=l.length->out.length=i->(l.drop i).foldl CY out=R->
  To (Er [] [70,71,72]) fRO (.pure (.ret (.slice 14 (rav R) .no))) (.head (stk fRO 0) (roF l out i) []):=by
 have f:(rav l).length=l.length:=by simp
 intro m
 induction m with
 | zero=>
  intro i out n k a
  rw [Ae o_] at a
  have a:out=R:=a
  subst a
  refine gV ?_
  exact zW
 | succ m o=>
  intro i out n k a
  have b:i<l.length:=o_
  rw [Ac b,Al] at a
  have g:(rav l)[i]? =some l[i].av:=bN b
  generalize l[i]=x at a g
  have d:(rav out).length=out.length:=by simp
  have c:=aKC l (.slice 14 (rav R) .no) x i o_ g out o_ (fun K j p=>by
   have e:(rav out).take K++[x.av]++(rav out).drop K=rav (CY out x):=by unfold CY;rw [<-p];simp
   rw [e]
   exact o (i+1) (CY out x) o_ (by have:=(GB out x).length_eq;simp at this;omega) a) out.length (Ba _) rfl
  refine gV ?_
  refine aT fun h=>?_
  rw [<-d] at c
  exact zW
theorem WY (l:List Rn) (hl:l.length<=1000000):aA Tryz.prog 269 [.slice 14 (rav l) .no] [] (.ret (.slice 14 (rav (IF l)) .no)) []:=by
 refine cT (E:=(Er [] [70,71,72])) (fn:=Tryz.f269) (g:=.pure _) fun _=>?_
 have a:=aIu l hl _ l.length 0 [] o_ rfl rfl
 exact zW
theorem K6 (c:Con) (k:c.sm) (a:List V3) (t:Int) (need:V3) (r:Bool) (b:jG c a t need=r):aA Tryz.prog 213 [c.av,.slice 3 (vav a) .no,ii t,need.av] [] (.ret (.bool r)) []:=by
 have d:=iG c k t
 rw [qH] at d
 unfold jG at b
 cases e:aX c.ns t with
 | false=>
  rw [e] at d
  rw [if_neg (by rw [e];decide)] at b
  subst b
  exact c_ Tryz.f213 fun _=>zW
 | true=>
  rw [e] at d
  rw [if_pos e] at b
  have j:=rU e
  have l:t=(t.toNat:Int):=o_
  have h:=uK (c:=c) j
  generalize bR c.ns t=x at h b
  have h1:=vE a t
  generalize atV a t=q1 at h1 b
  have i:=kO q1 need
  generalize dL q1 need=q2 at i b
  have h3:=lG q2 x.n
  rw [b] at h3
  exact c_ Tryz.f213 fun _=>zW
theorem O8 (c:Con) (b:c.sm) (a:List V3) (t:Int) (need:V3):aA Tryz.prog 213 [c.av,.slice 3 (vav a) .no,ii t,need.av] [] (.ret (.bool (jG c a t need))) []:=K6 c b a t need _ rfl
theorem IE (c:Con) (k:c.sm) (b:List V3) (t:Int) (r:Bool) (a:bK c b t=r):aA Tryz.prog 270 [c.av,.slice 3 (vav b) .no,ii t] [] (.ret (.bool r)) []:=by
 have d:=iG c k t
 rw [qH] at d
 unfold bK at a
 cases h:aX c.ns t with
 | false=>
  rw [h] at d
  rw [if_neg (by rw [h];decide)] at a
  exact zqra7
 | true=>
  rw [h] at d
  rw [if_pos h] at a
  have j:=rU h
  have l:t=(t.toNat:Int):=o_
  have e:=uK (c:=c) j
  generalize bR c.ns t=x at e a
  have h1:=vE b t
  generalize atV b t=q1 at h1 a
  have h3:=lG q1 x.n
  cases i:cF q1 x.n with
  | false=>
   rw [i] at h3 a
   have a:true=r:=a
   exact zqra7
  | true=>
   rw [i] at h3 a
   have a:false=r:=a
   exact zqra7
theorem LN (c:Con) (b:c.sm) (a:List V3) (t:Int):aA Tryz.prog 270 [c.av,.slice 3 (vav a) .no,ii t] [] (.ret (.bool (bK c a t))) []:=IE c b a t _ rfl
theorem yL (c:Con) (h:c.sm) (l:List Rn) (hs:Sm l) (g:Gan) (e:0<=g.pods/\g.pods<=16) (j:aQ g.need=true) (ids:List Int) (d:ids.length<=1048576) (r:Bool) (a:mD c l g ids=r):
  aA Tryz.prog 214 [c.av,.slice 14 (rav l) .no,g.av,.slice 1 (iv ids) .no] [] (.ret (.bool r)) []:=by
 have i:=mK l hs ids d
 have b:=lI c h (aB l ids) (iU hs ids) g e j
 unfold mD at a
 generalize aB l ids=left at i b a
 generalize bU c left g=Q at b a
 subst a
 unfold fdA at b
 cases Q with
 | none=>
  exact c_ Tryz.f214 fun _=>zW
 | some x=>
  exact c_ Tryz.f214 fun _=>zW
def nxA:Option Int->Int
 | some n=>n
 | none=>0
noncomputable abbrev fNx:Func:=Tryz.f215
theorem PF (c:Con) (p:c.sm) (a:List V3) (o:List Rn) (s:o.length<=1048576) (r:Int):∀ (m i:Nat),i+m=o.length->(if aH (fun x=>bK c a x.g.ten) (o.drop i) i<0 then 0 else (aG o (aH (fun x=>bK c a x.g.ten) (o.drop i) i).toNat).g.id)=r->
  To E fNx (.pure (.ret (ii r))) (.head (stk fNx 0) [(3,.ref 0 0),(8,.slice 3 (vav a) .no),(9,.slice 14 (rav o) .no),(10,ii i)] [.cells 26 c.cs]):=by
 have k:(rav o).length=o.length:=by simp
 intro m
 induction m with
 | zero=>
  intro i n b
  rw [Ae o_] at b
  have b:0=r:=b
  subst b
  refine gV ?_
  exact zW
 | succ m h=>
  intro i n b
  have d:i<o.length:=o_
  have l:=jK d
  have f:aG o i=o[i]:=by unfold aG;rw [Ab d];rfl
  rw [Ac d,<-f] at b
  have e:=LN c p a (aG o i).g.ten
  have h:=h (i+1) o_
  have q:aH (fun x=>bK c a x.g.ten) (aG o i::o.drop (i+1)) i=if bK c a (aG o i).g.ten=true then (i:Int) else aH (fun x=>bK c a x.g.ten) (o.drop (i+1)) (i+1):=rfl
  rw [q] at b
  cases j:bK c a (aG o i).g.ten with
  | true=>
   rw [j] at e b
   rw [if_pos rfl,if_neg o_,Cz] at b
   subst b
   generalize aG o i=x at l e
   refine gV ?_
   exact zW
  | false=>
   rw [j] at e b
   simp only [Ct,if_false] at b
   have next:=h b
   generalize aG o i=x at l e
   refine gV ?_
   exact zW
theorem uH {l:List Rn} (a:pM l) (ids:List Int):pM (aB l ids):=a.sublist Ir
theorem aAN (c:Con) (k:c.sm) (l:List Rn) (hs:Sm l) (hl:l.length<=1000000) (i:pM l) (ids:List Int) (m:ids.length<=1048576):aA Tryz.prog 215 [c.av,.slice 14 (rav l) .no,.slice 1 (iv ids) .no] [] (.ret (ii (nxA (yQ c l ids)))) []:=by
 have j:=mK l hs ids m
 have hsl:=iU hs ids
 have p:(aB l ids).length<=l.length:=Dw _ _
 have b:=H8 c k (aB l ids) hsl.1
 have a:=WY (aB l ids) o_
 have n:nxA (yQ c l ids)=if aH (fun x=>bK c (ofL c (aB l ids)) x.g.ten) (IF (aB l ids)) 0<0 then 0 else (aG (IF (aB l ids)) (aH (fun x=>bK c (ofL c (aB l ids)) x.g.ten) (IF (aB l ids)) 0).toNat).g.id:=by
  rw [<-MF (uH i ids)]
  unfold yQ
  have e:atI c l ids=aH (fun x=>bK c (ofL c (aB l ids)) x.g.ten) (dI (aB l ids)) 0:=rfl
  rw [<-e]
  split
  .rfl
  .rfl
 have d:(IF (aB l ids)).length<=1048576:=by
  rw [<-MF (uH i ids),tJ]
  exact hsl.1
 rw [n]
 generalize ofL c (aB l ids)=us at b
 generalize IF (aB l ids)=o at a d
 generalize aB l ids=left at j b a
 refine c_ Tryz.f215 fun _=>?_
 repeat' first | (refine gN hE ?_;conv=>whnf) | refine .pure _ [] j ?_ | refine .pure _ [] b ?_ | refine .pure _ [] a ?_ | exact rfl | refine aY ?_ | refine aN ?_ | refine aT fun h=>?_ | refine aF fun h=>?_ | refine ⟨fun h=>?_,fun h=>?_⟩ | refine aJ ?_ | refine ⟨_,rfl,?_⟩ | refine aD ?_ | fail
 exact To.cut [3,8,9,10] 1 rfl rfl rfl rfl (PF c k us o d _ o.length 0 o_ rfl)
noncomputable abbrev fRC:Func:=Tryz.f146
abbrev rcO (c:Con) (g:Gan):List AObj:=[.cells 26 c.cs,.cells 36 g.cs]
abbrev rcF (l:List Rn) (ids:List Int):List (Nat×AVal):=[(1,.slice 14 (rav l) .no),(3,.ref 0 0),(5,.ref 1 0),(8,.slice 1 (iv ids) .no)]
abbrev aE2 (l:List Rn) (ids all:List Int) (i:Int):List (Nat×AVal):=rcF l ids++[(10,.slice 1 (iv all) .no),(11,ii i)]
theorem aKI (c:Con) (g:Gan) (l:List Rn) (G:AVal) (ids all:List Int) (w:ids.length<=1048576) (i:Nat) (y:i<1048576) (a:Int) (z:(iv all)[i]? =some (ii a)) (R:List Int)
  (next:To (Eo [8,12] []) fRC (.pure (.ret G)) (.head (stk fRC 2) (aE2 l ids all i++[(12,.slice 1 (iv R) (.own 2 0)),(13,ii (ids.length:Nat))]) (rcO c g++[.tail 0 1 3]))):∀ (m k:Nat) (b:List Int),k+m=ids.length->b.length<=k->b++cN (ids.drop k) a=R->
  To (Eo [8,12] []) fRC (.pure (.ret G)) (.head (stk fRC 2) (aE2 l ids all i++[(12,.slice 1 (iv b) (.own 2 0)),(13,ii k)]) (rcO c g++[.tail 0 1 3])):=by
 have o:(iv ids).length=ids.length:=by simp
 intro m
 induction m with
 | zero=>
  intro k b j v d
  rw [Ae o_] at d
  have d:b++[]=R:=d
  rw [Bc] at d
  subst d
  have j:k=ids.length:=o_
  subst j
  exact next
 | succ m q=>
  intro k b j v d
  have f:k<ids.length:=o_
  rw [Ac f] at d
  have s:=bS f
  generalize ids[k]=x at d s
  have r:(iv b).length=b.length:=by simp
  unfold cN at d
  rw [Gv] at d
  have h:(x !=a)= !(x==a):=rfl
  cases n:(x==a) with
  | true=>
   rw [n] at h d
   have u:(x !=a)=false:=h
   have p:=q (k+1) b o_ o_ d
   refine gV ?_
   exact zW
  | false=>
   rw [n] at h d
   have u:(x !=a)=true:=h
   have p:=q (k+1) (b++[x]) o_ q_ (by rw [Aj];exact d)
   have e:iv (b++[x])=iv b++[ii x]:=by simp
   rw [e] at p
   refine gV ?_
   exact zW
theorem aLQ (c:Con) (u:c.sm) (l:List Rn) (hs:Sm l) (g:Gan) (s:0<=g.pods/\g.pods<=16) (q:aQ g.need=true) (all:List Int) (w:all.length<=1048576) (R:List Int):∀ (m i:Nat) (ids:List Int),i+m=all.length->ids.length<=1048576->(all.drop i).foldl (chS c l g) ids=R->
  To (Eo [8,12] []) fRC (.pure (.ret (.tup [.slice 1 (iv R) .no,.bool true]))) (.head (stk fRC 1) (aE2 l ids all i) (rcO c g)):=by
 have k:(iv all).length=all.length:=by simp
 intro m
 induction m with
 | zero=>
  intro i ids p h b
  rw [Ae o_] at b
  have b:ids=R:=b
  subst b
  refine gV ?_
  exact zW
 | succ m e=>
  intro i ids p h b
  have d:i<all.length:=o_
  rw [Ac d,Al] at b
  have n:=bS d
  generalize all[i]=a at b n
  have e:=e (i+1)
  have v:=FZ ids a
  have r:(iv ids).length=ids.length:=by simp
  have h1:=yL c u l hs g s q (cN ids a) o_ _ rfl
  have j:chS c l g ids a=if mD c l g (cN ids a)=true then cN ids a else ids:=rfl
  rw [j] at b
  have fin:To (Eo [8,12] []) fRC (.pure (.ret (.tup [.slice 1 (iv R) .no,.bool true]))) (.head (stk fRC 2) (aE2 l ids all i++[(12,.slice 1 (iv (cN ids a)) (.own 2 0)),(13,ii (ids.length:Nat))]) (rcO c g++[.tail 0 1 3])):=by
   cases f:mD c l g (cN ids a) with
   | true=>
    rw [if_pos f] at b
    rw [f] at h1
    have next:=e (cN ids a) o_ o_ b
    refine gV ?_
    exact zW
   | false=>
    rw [if_neg (by rw [f];decide)] at b
    rw [f] at h1
    have next:=e ids o_ h b
    refine gV ?_
    exact zW
  have o:=aKI c g l _ ids all h i o_ a n (cN ids a) fin ids.length 0 [] o_ s_ rfl
  refine gV ?_
  exact zW
theorem aLR (c:Con) (q:c.sm) (l:List Rn) (hs:Sm l) (hl:l.length<=1000000) (u:pM l) (d:∀ x∈l,x.g.id≠0) (g:Gan) (s:0<=g.pods/\g.pods<=16) (r:aQ g.need=true) (R:Option (List Int)):∀ (f:Nat) (ids:List Int),(aB l ids).length<f->ids.length+(aB l ids).length<=l.length->chB c l g (chA c l g f ids)=R->
  To (Eo [8,12] []) fRC (.pure (.ret (chR R))) (.head (stk fRC 0) (rcF l ids) (rcO c g)):=by
 intro f
 induction f with
 | zero=>intro ids h;omega
 | succ f v=>
  intro ids B C a
  have w:(iv ids).length=ids.length:=by simp
  have h1:=yL c q l hs g s r ids o_ _ rfl
  have b:=aAN c q l hs hl u ids o_
  unfold chA at a
  cases m:mD c l g ids with
  | true=>
   rw [if_pos m] at a
   rw [m] at h1
   have a:some (ids.foldl (chS c l g) ids)=R:=a
   subst a
   have next:=aLQ c q l hs g s r ids o_ _ ids.length 0 ids o_ o_ rfl
   refine gV ?_
   exact zW
  | false=>
   rw [if_neg (by rw [m];decide)] at a
   rw [m] at h1
   have k:=fun n=>xE (c:=c) (l:=l) (ids:=ids) (n:=n)
   cases p:yQ c l ids with
   | none=>
    rw [p] at a b
    have a:none=R:=a
    subst a
    have b:aA Tryz.prog 215 [c.av,.slice 14 (rav l) .no,.slice 1 (iv ids) .no] [] (.ret (ii 0)) []:=b
    refine gV ?_
    exact zW
   | some n=>
    obtain ⟨y,i,j,_⟩:=k n p
    have t:=uI ⟨y,i,j⟩
    have o:n≠0:=by rw [<-j];exact d y (gZ.1 i).1
    rw [p] at a b
    have b:aA Tryz.prog 215 [c.av,.slice 14 (rav l) .no,.slice 1 (iv ids) .no] [] (.ret (ii n)) []:=b
    have next:=v (ids++[n]) o_ q_ a
    have e:iv (ids++[n])=iv ids++[ii n]:=by simp
    unfold rcF at next
    rw [e] at next
    have z:(n==0)=false:=by simp [o]
    refine gV ?_
    exact zW
theorem LM (c:Con) (e:c.sm) (l:List Rn) (hs:Sm l) (hl:l.length<=1000000) (i:pM l) (b:∀ x∈l,x.g.id≠0) (g:Gan) (m:0<=g.pods/\g.pods<=16) (j:aQ g.need=true) (R:Option (List Int)) (a:dO c l g=R):aA Tryz.prog 146 [c.av,.slice 14 (rav l) .no,g.av] [] (.ret (chR R)) []:=by
 have k:=H8 c e l hs.1
 have n:=IC g
 have h:=O8 c e (ofL c l) g.ten (dem g)
 unfold dO at a
 cases d:jG c (ofL c l) g.ten (dem g) with
 | false=>
  rw [if_neg (by rw [d];decide)] at a
  rw [d] at h
  subst a
  exact zqra10
 | true=>
  rw [if_pos d] at a
  rw [d] at h
  have next:=aLR c e l hs hl i b g m j R (l.length+1) [] (by rw [dK];omega) (by rw [dK];simp) (by rw [<-a];unfold chB;split<;>rfl)
  exact zqra10
theorem aGR {c:Con} {l:List Rn} {g:Gan} {R:List Int} (d:pM l) (h:dO c l g=some R):R.length<=l.length:=by
 obtain ⟨_,f,a,_⟩:=yY h
 have:=yE d f fun n e=>by
  obtain ⟨_,x,h1,b,_⟩:=a n e
  exact ⟨x,h1,b⟩
 omega
abbrev cX:Int:=1099511627776
theorem rI {v e:Int} (a:0<=v) (h1:v<=cX) (b:0<=e):iQ v e=min (v+e) cX:=by unfold iQ fL cX at *;omega
def cK:List Int->Int
 | []=>0
 | x::r=>x+cK r
theorem lD:∀ {es:List Int},(∀ e∈es,0<=e)->0<=cK es
 | [],_=>Ds _
 | x::r,h=>by
  have:=lD (es:=r) fun e a=>h e (by simp [a])
  have:=h x s_
  unfold cK
  omega
theorem uZ:∀ {es:List Int} {v:Int},0<=v->v<=cX->(∀ e∈es,0<=e)->es.foldl iQ v=min (v+cK es) cX
 | [],v,h0,h1,_=>by
  unfold cK
  show v=_
  omega
 | x::r,v,h0,h1,h=>by
  have b:=h x s_
  have c:=lD (es:=r) fun e a=>h e (by simp [a])
  rw [Al,rI h0 h1 b,uZ (by unfold cX at *;omega) o_ fun e a=>h e (by simp [a])]
  have e:cK (x::r)=x+cK r:=rfl
  rw [e]
  omega
structure Prj (p:V3->Int):Prop where
 add:∀ u v,p (dL u v)=iQ (p u) (p v)
 sub:∀ u v,p (uJ u v)=WK (p u) (p v)
 pos:∀ u,p (XK u)=max (p u) 0
 zero:p V3.zero=0
theorem aIL:Prj V3.a:=⟨fun _ _=>rfl,fun _ _=>rfl,fun _=>rfl,rfl⟩
theorem aIK:Prj V3.b:=⟨fun _ _=>rfl,fun _ _=>rfl,fun _=>rfl,rfl⟩
theorem aIJ:Prj V3.c:=⟨fun _ _=>rfl,fun _ _=>rfl,fun _=>rfl,rfl⟩
section
variable {p:V3->Int} (hp:Prj p)
include hp
theorem HX (us:List V3):∀ (B:List Int) (v:V3),p (B.foldl (smS us) v)=(B.map fun t=>p (atV us t)).foldl iQ (p v)
 | [],v=>rfl
 | t::r,v=>by
  rw [Al,HX us r,Bp,Al]
  congr 1
  exact hp.add _ _
def kE (ns:List Nod) (p:V3->Int) (us:List V3) (t s:Int):Int:=if s=t then 0 else max (WK (p (uJ (bR ns s).n (bR ns s).l)) (p (atV us s))) 0
theorem UB (ns:List Nod) (us:List V3) (t:Int):∀ (B:List Int) (v:V3),0<=p v->p v<=cX->p (B.foldl (vN ns us t) v)=(B.map (kE ns p us t)).foldl iQ (p v)
 | [],v,_,_=>rfl
 | s::r,v,h0,h1=>by
  rw [Al,Bp,Al]
  have e:p (vN ns us t v s)=iQ (p v) (kE ns p us t s):=by
   unfold vN kE
   by_cases h:s=t
   .rw [if_pos (decide_eq_true h),if_pos h,rI h0 h1 (Ds _)]
    omega
   .rw [if_neg (by rw [decide_eq_false h];decide),if_neg h,hp.add,hp.pos,hp.sub]
  have b:0<=kE ns p us t s:=by unfold kE;split<;>omega
  have a:0<=iQ (p v) (kE ns p us t s)/\iQ (p v) (kE ns p us t s)<=cX:=by
   rw [rI h0 h1 b]
   unfold cX at *
   omega
  rw [UB ns us t r _ (by rw [e];exact a.1) (by rw [e];exact a.2),e]
end
theorem aFd (c:Con) (l:List Rn):(ofL c l).length=c.ns.length:=by unfold ofL mG;simp
theorem aFb {c:Con} {l:List Rn} (e:∀ x∈l,(dem x.g).pos) (q:Rn->Bool) (s:Int):(0<=(atV (ofL c (l.filter q)) s).a/\0<=(atV (ofL c (l.filter q)) s).b/\0<=(atV (ofL c (l.filter q)) s).c)/\(atV (ofL c (l.filter q)) s).le (atV (ofL c l) s)/\((atV (ofL c l) s).a<=cX/\(atV (ofL c l) s).b<=cX/\(atV (ofL c l) s).c<=cX):=by
 by_cases hs:0<=s/\s.toNat<c.ns.length
 .rw [yP hs,yP hs]
  obtain ⟨h1,d⟩:=uM (c:=c) (j:=s.toNat) q l V3.zero V3.zero e (CQ _) J7
  have h3:=(uM (c:=c) (j:=s.toNat) (fun _=>true) (l.filter q) V3.zero V3.zero (fun x h=>e x (Fk.1 h).1) (CQ _) J7).2
  exact ⟨⟨h3.1.1,h3.2.1.1,h3.2.2.1⟩,h1,d.1.2,d.2.1.2,d.2.2.2⟩
 .have z:∀ l,atV (ofL c l) s=V3.zero:=fun l=>by
   unfold atV
   by_cases f:s<0
   .rw [if_pos (decide_eq_true f)]
   .rw [if_neg (by rw [decide_eq_false f];decide),Bh (by rw [aFd];omega)]
    rfl
  rw [z,z]
  exact ⟨by decide,CQ _,by decide⟩
theorem YE (need:V3) (xs:List V3) (h:Int) (j:Nat):((oC need xs h)[j]?).getD V3.zero=if 0<=h/\h.toNat<xs.length/\h.toNat=j then uJ ((xs[j]?).getD V3.zero) need else (xs[j]?).getD V3.zero:=by
 unfold oC
 by_cases h1:0<=h
 .rw [if_pos (decide_eq_true h1)]
  by_cases a:h<(xs.length:Int)
  .rw [if_pos (decide_eq_true a),Fs]
   by_cases h3:h.toNat=j
   .rw [if_pos h3,if_pos o_,if_pos ⟨h1,by omega,h3⟩,h3]
    rfl
   .rw [if_neg h3,if_neg (fun q=>h3 q.2.2)]
  .rw [if_neg (by rw [decide_eq_false a];decide),if_neg (fun q=>by omega)]
 .rw [if_neg (by rw [decide_eq_false h1];decide),if_neg (fun q=>h1 q.1)]
def wiS (h:Int) (b:Bool) (y:Int):Bool:=if b=true then true else decide (y=h)
def J9 (G hs:List Int):Bool:=hs.all fun h=>G.foldl (wiS h) false
def aJ2 (h n y:Int):Int:=if y=h then n+1 else n
def RU (h:Int) (l:List Int):Int:=l.foldl (aJ2 h) 0
def aF2 (free:List V3) (need:V3) (hs:List Int) (h:Int):Bool:=if decide (h<0)=true then false else if decide ((free.length:Int)<=h)=true then false else !decide (dV ((free[h.toNat]?).getD V3.zero) need<RU h hs)
def UV (free:List V3) (need:V3) (hs:List Int):Bool:=hs.all (aF2 free need hs)
def tY (free:List V3) (need:V3) (hs:List Int) (G:List Int):Bool:=J9 G hs&&UV free need hs
def JU (c:Con) (free:List V3) (g:Gan) (hs:List Int):Bool:=if ((hs.length:Int)=g.pods) then (gpL c g.lev).any (tY free g.need hs) else false
theorem J3 {c:Con} {lv a b:Int} (d:0<=lv) (h3:lv<=3):alB c lv a b=true↔pS c lv a=pS c lv b:=by
 rw [J2 c lv a b d h3]
 simp
theorem aAZ {c:Con} {lv a b:Int} (d:0<=lv) (h3:lv<=3) (h:pS c lv a=pS c lv b):∀ (s:List (List Int)) (n:Nat),cM c lv a s n=cM c lv b s n
 | [],n=>rfl
 | g::r,n=>by
  unfold cM
  rw [aAZ d h3 h r (n+1),J2 c lv _ a d h3,J2 c lv _ b d h3,h]
theorem aAY (c:Con) (lv i x:Int):∀ (s:List (List Int)) (k n:Nat),(∀ g∈s,g≠[])->cM c lv i (s.set k ((s[k]?).getD []++[x])) n=cM c lv i s n
 | [],k,n,_=>by simp
 | g::r,0,n,h=>by
  have b:=h g (Ax ..)
  cases g with
  | nil=>exact absurd rfl b
  | cons a t=>rfl
 | g::r,k+1,n,h=>by
  have d:=aAY c lv i x r k (n+1) (fun g b=>h g (Bd _ b))
  show cM c lv i (g::r.set k ((r[k]?).getD []++[x])) n=_
  unfold cM
  rw [d]
theorem TM (c:Con) (lv i:Int) (g:List Int):∀ (s:List (List Int)) (n:Nat),cM c lv i (s++[g]) n=match cM c lv i s n with
   | some k=>some k
   | none=>if alB c lv (g.headD 0) i=true then some (n+s.length) else none
 | [],n=>by simp [cM]
 | q::r,n=>by
  show cM c lv i (q::(r++[g])) n=_
  unfold cM
  by_cases h:alB c lv (q.headD 0) i=true
  .rw [if_pos h,if_pos h]
  .rw [if_neg h,if_neg h,TM c lv i g r (n+1)]
   rw [show n+(q::r).length=n+1+r.length from by simp;omega]
theorem TL {c:Con} {lv i:Int}:∀ {s:List (List Int)} {n k:Nat},cM c lv i s n=some k->n<=k/\∃ G,s[k-n]? =some G/\alB c lv (G.headD 0) i=true
 | [],n,k,h=>by cases h
 | g::r,n,k,h=>by
  unfold cM at h
  by_cases h1:alB c lv (g.headD 0) i=true
  .rw [if_pos h1] at h
   cases h
   exact ⟨Ba _,g,by simp,h1⟩
  .rw [if_neg h1] at h
   obtain ⟨b,G,h3,a⟩:=TL h
   refine ⟨by omega,G,?_,a⟩
   rw [show k-n=(k-(n+1))+1 from by omega]
   exact h3
def aG9 (c:Con) (lv:Int) (m:Nat) (s:List (List Int)):Prop:=
 (∀ a:Nat,a<m->∃ k G,cM c lv (a:Int) s 0=some k/\s[k]? =some G/\(a:Int)∈G)/\∀ G∈s,G≠[]/\G.Nodup/\∀ x∈G,0<=x/\x<(m:Int)/\alB c lv (G.headD 0) x=true
theorem aCm {c:Con} {lv:Int} (F:0<=lv) (h3:lv<=3) {m:Nat} {s:List (List Int)} (h:aG9 c lv m s):aG9 c lv (m+1) (rgS c lv s m):=by
 obtain ⟨h1,u⟩:=h
 have D:∀ g∈s,g≠[]:=fun g J=>(u g J).1
 unfold rgS
 cases B:cM c lv (m:Int) s 0 with
 | some k=>
  obtain ⟨_,j,e,A⟩:=TL B
  rw [Jl] at e
  have H:k<s.length:=(Ad.1 e).1
  have r:j∈s:=Aq e
  refine ⟨fun a K=>?_,fun G d=>?_⟩
  .show ∃ i G,cM c lv (a:Int) (s.set k ((s[k]?).getD []++[(m:Int)])) 0=some i/\(s.set k ((s[k]?).getD []++[(m:Int)]))[i]? =some G/\(a:Int)∈G
   rw [aAY c lv (a:Int) (m:Int) s k 0 D,e]
   by_cases l:a=m
   .subst l
    refine ⟨k,_,B,by rw [Ap H],by simp⟩
   .obtain ⟨i,C,w,n,v⟩:=h1 a o_
    by_cases q:k=i
    .subst q
     rw [e] at n
     cases n
     exact ⟨k,j++[(m:Int)],w,by rw [Ap H];rfl,Az.2 (.inl v)⟩
    .exact ⟨i,C,w,by rw [Aw q];exact n,v⟩
  .have d:G∈s.set k ((s[k]?).getD []++[(m:Int)]):=d
   rw [e] at d
   have d:G∈s.set k (j++[(m:Int)]):=d
   rcases Df d with d | rfl
   .exact zqra11
   .obtain ⟨p,o,f⟩:=u j r
    have z:(j++[(m:Int)]).headD 0=j.headD 0:=by
     cases j with
     | nil=>exact absurd rfl p
     | cons y t=>rfl
    refine ⟨by simp,?_,fun x b=>?_⟩
    .rw [Bu]
     refine ⟨o,by simp,fun x b y I=>?_⟩
     simp at I
     subst I
     have:=(f x b).2.1
     omega
    .rw [z]
     rcases Az.1 b with b | b
     .exact ⟨(f x b).1,by have:=(f x b).2.1;omega,(f x b).2.2⟩
     .simp at b
      subst b
      exact ⟨by omega,by omega,A⟩
 | none=>
  refine ⟨fun a K=>?_,fun G d=>?_⟩
  .show ∃ i G,cM c lv (a:Int) (s++[[(m:Int)]]) 0=some i/\(s++[[(m:Int)]])[i]? =some G/\(a:Int)∈G
   rw [TM]
   by_cases l:a=m
   .subst l
    rw [B]
    refine ⟨0+s.length,[(a:Int)],if_pos ((J3 F h3).2 rfl),by simp,by simp⟩
   .obtain ⟨i,C,w,n,v⟩:=h1 a o_
    rw [w]
    refine ⟨i,C,rfl,?_,v⟩
    rw [Af (Ad.1 n).1]
    exact n
  .have d:G∈s++[[(m:Int)]]:=d
   rcases Az.1 d with d | d
   .exact zqra11
   .simp at d
    subst d
    refine ⟨by simp,by simp,fun x b=>?_⟩
    simp at b
    subst b
    exact ⟨by omega,by omega,(J3 F h3).2 rfl⟩
theorem I5 {c:Con} {lv:Int} (b:0<=lv) (h3:lv<=3):aG9 c lv c.hs.length (gpL c lv):=by
 rw [<-aAU]
 unfold rgL
 rw [if_neg q_,if_neg q_]
 have key:∀ m:Nat,aG9 c lv m ((Dh m).foldl (rgS c lv) []):=fun m=>by
  induction m with
  | zero=>exact ⟨fun a f=>by omega,fun G e=>by cases e⟩
  | succ m d=>
   rw [Ko,Jk]
   exact aCm b h3 d
 exact key _
theorem aJd {c:Con} {lv e a b:Int} (h:lv<=e) (f:pS c lv a=pS c lv b):pS c e a=pS c e b:=by
 unfold pS ofK at *
 simp only [Kn,and_true] at f⊢
 obtain ⟨j,g,k,i⟩:=f
 refine ⟨j,?_,?_,?_⟩
 .by_cases d:2<e
  .simp [d]
  .have:¬ 2<lv:=o_
   simpa [d,this] using g
 .by_cases d:1<e
  .simp [d]
  .have:¬ 1<lv:=o_
   simpa [d,this] using k
 .by_cases d:0<e
  .simp [d]
  .have:¬ 0<lv:=o_
   simpa [d,this] using i
theorem aJm {c:Con} {lv g:Int} (b:0<=lv) (h:lv<=g) (h3:g<=3) {a:List Int} (u:a∈gpL c lv):a.Nodup/\∃ G∈gpL c g,∀ x∈a,x∈G:=by
 obtain ⟨_,n⟩:=I5 (c:=c) b (Ft h h3)
 obtain ⟨i,_⟩:=I5 (c:=c) (Ft b h) h3
 obtain ⟨p,q,l⟩:=n a u
 refine ⟨q,?_⟩
 have z:a.headD 0∈a:=by
  cases a with
  | nil=>exact absurd rfl p
  | cons y t=>exact Ax ..
 obtain ⟨A,B,_⟩:=l _ z
 have s:(a.headD 0)=((a.headD 0).toNat:Int):=o_
 obtain ⟨k,G,d,f,_⟩:=i (a.headD 0).toNat o_
 rw [<-s] at d
 refine ⟨G,Aq f,fun x w=>?_⟩
 obtain ⟨F,D,o⟩:=l x w
 have r:=aJd h ((J3 b (Ft h h3)).1 o)
 rw [aAZ (Ft b h) h3 r] at d
 have e:x=(x.toNat:Int):=o_
 obtain ⟨H,C,m,v,j⟩:=i x.toNat o_
 rw [<-e] at m j
 rw [m] at d
 cases d
 rw [v] at f
 cases f
 exact j
theorem QN {free:List V3} {g:Gan}:∀ (c out:List Int) (h:Int),h∈c.foldl (inS free g) out->h∈out\/(h∈c/\0<=h/\h<(free.length:Int))
 | [],out,h,a=>.inl a
 | u::r,out,h,a=>by
  rw [Al] at a
  rcases QN r _ h a with a | a
  .unfold inS at a
   by_cases h1:u<0
   .rw [if_pos (decide_eq_true h1)] at a
    exact .inl a
   .rw [if_neg (by rw [decide_eq_false h1];decide)] at a
    by_cases b:(free.length:Int)<=u
    .rw [if_pos (decide_eq_true b)] at a
     exact .inl a
    .rw [if_neg (by rw [decide_eq_false b];decide)] at a
     rcases Az.1 a with a | a
     .exact .inl a
     .have:=(Ga.1 a).2
      subst this
      exact .inr ⟨Ax ..,by omega,by omega⟩
  .exact .inr ⟨Bd _ a.1,a.2⟩
def rmN (free:List V3) (g:Gan) (h:Int):Nat:=(max (dV ((free[h.toNat]?).getD V3.zero) g.need) 0).toNat
theorem aFM (free:List V3) (g:Gan) (out:List Int) (u h:Int):(inS free g out u).count h<=out.count h+(if u=h then rmN free g h else 0):=by
 unfold inS
 split
 .omega
 .split
  .omega
  .rw [List.count_append,List.count_replicate]
   by_cases a:u=h
   .subst a
    rw [if_pos rfl]
    simp only [beq_self_eq_true,if_true]
    unfold rmN inN
    omega
   .rw [if_neg a]
    simp [a]
theorem UO (free:List V3) (g:Gan) (h:Int):∀ (a out:List Int),a.Nodup->(a.foldl (inS free g) out).count h<=out.count h+(if h∈a then rmN free g h else 0)
 | [],out,_=>by simp
 | u::r,out,hn=>by
  rw [Al]
  have h1:=UO free g h r (inS free g out u) (Cg.1 hn).2
  have c:=aFM free g out u h
  by_cases b:u=h
  .subst b
   rw [if_neg (Cg.1 hn).1] at h1
   rw [if_pos rfl] at c
   rw [if_pos (Ax ..)]
   omega
  .rw [if_neg b] at c
   by_cases hm:h∈r
   .rw [if_pos hm] at h1
    rw [if_pos (Bd _ hm)]
    omega
   .rw [if_neg hm] at h1
    omega
theorem JQ (h:Int):∀ (l:List Int) (n:Int),l.foldl (aJ2 h) n=n+(l.count h:Nat)
 | [],n=>by simp
 | y::r,n=>by
  rw [Al,JQ h r]
  unfold aJ2
  by_cases a:y=h
  .subst a
   rw [if_pos rfl,Mf]
   omega
  .rw [if_neg a,Mb (by simpa using a)]
theorem A7 {G hs:List Int}:J9 G hs=true↔ ∀ h∈hs,h∈G:=by
 have key:∀ (h:Int) (G:List Int) (b:Bool),G.foldl (wiS h) b=true↔b=true\/h∈G:=fun h G=>by
  induction G with
  | nil=>intro b;simp
  | cons y r c=>
   intro b
   rw [Al,c]
   unfold wiS
   cases b with
   | true=>simp
   | false=>simp [eq_comm]
 unfold J9
 rw [Cu]
 constructor
 .intro q h a
  have:=(key h G false).1 (q h a)
  simpa using this
 .intro q h a
  exact (key h G false).2 (.inr (q h a))
theorem aCC {c:Con} {free:List V3} {g:Gan} (K:aQ g.need=true) (L:1<=g.pods) (hl:0<=g.pref/\g.pref<=g.lev/\g.lev<=3) {x:Int×List Int} (h:sU c free g=some x):
  (∀ u∈x.2,0<=u/\u<(free.length:Int)/\((x.2.count u:Nat):Int)<=dV ((free[u.toNat]?).getD V3.zero) g.need)/\JU c free g x.2=true:=by
 have k:∀ (s:List (List Int)),fdG c free g s=some x->∃ d∈s,x.2=inL free g d/\¬ ((inL free g d).length:Int)<g.pods:=fun s=>by
  induction s with
  | nil=>intro h;cases h
  | cons d r o=>
   intro h
   unfold fdG at h
   by_cases h1:((inL free g d).length:Int)<g.pods
   .rw [if_pos (decide_eq_true h1)] at h
    obtain ⟨q,w,A⟩:=o h
    exact ⟨q,Bd _ w,A⟩
   .rw [if_neg (by rw [decide_eq_false h1];decide)] at h
    cases h
    exact ⟨d,Ax ..,rfl,h1⟩
 have j:∀ (n:Nat) (lv:Int),fdL c free g n lv=some x->∃ i,lv<=i/\i<lv+n/\fdG c free g (gpL c i)=some x:=fun n=>by
  induction n with
  | zero=>intro lv h;cases h
  | succ n o=>
   intro lv h
   unfold fdL at h
   cases t:fdG c free g (gpL c lv) with
   | some y=>
    rw [t] at h
    cases h
    exact ⟨lv,Ds _,by omega,t⟩
   | none=>
    rw [t] at h
    obtain ⟨i,w,A,B⟩:=o (lv+1) h
    exact ⟨i,by omega,by omega,B⟩
 unfold sU at h
 obtain ⟨i,l1,l2,C⟩:=j _ _ h
 obtain ⟨d,F,v,J⟩:=k _ C
 have m:0<=i/\i<=g.lev:=o_
 obtain ⟨D,G,H,p⟩:=aJm m.1 m.2 hl.2.2 F
 have z:((inL free g d).length:Int)<=g.pods:=by
  have key:∀ (l:List Int) (out:List Int),(out.length:Int)<=g.pods->((l.foldl (inS free g) out).length:Int)<=g.pods:=fun l=>by
   induction l with
   | nil=>intro out h;exact h
   | cons x r o=>intro out h;exact o _ (AN free g out x h)
  exact key d [] q_
 have b:∀ u∈x.2,u∈d/\0<=u/\u<(free.length:Int):=fun u a=>by
  rw [v] at a
  rcases QN d [] u a with a | a
  .cases a
  .exact a
 have f:∀ u∈x.2,((x.2.count u:Nat):Int)<=dV ((free[u.toNat]?).getD V3.zero) g.need:=fun u a=>by
  have h1:=UO free g u d [] D
  have I:0<x.2.count u:=List.count_pos_iff.2 a
  rw [if_pos (b u a).1,show d.foldl (inS free g) []=x.2 from v.symm] at h1
  unfold rmN at h1
  simp only [List.count_nil] at h1
  omega
 refine ⟨fun u a=>⟨(b u a).2.1,(b u a).2.2,f u a⟩,?_⟩
 unfold JU
 rw [if_pos (by rw [v];omega),Ij]
 refine ⟨G,H,?_⟩
 unfold tY
 rw [A7.2 fun u a=>p u (b u a).1,Bo]
 unfold UV
 rw [Cu]
 intro u a
 unfold aF2
 rw [if_neg (by have:=(b u a).2.1;simp;omega),if_neg (by have:=(b u a).2.2;simp;omega)]
 have:=f u a
 have e:RU u x.2=((x.2.count u:Nat):Int):=by unfold RU;rw [JQ];omega
 rw [e]
 simp
 omega
theorem KE {ns:List Nod}:∀ (f:Nat) (s x:Int),x∈upF ns f s->x=s\/∃ d∈ns,d.p=x
 | 0,s,x,h=>by cases h
 | f+1,s,x,h=>by
  unfold upF at h
  by_cases a:0<=s
  .rw [if_pos (decide_eq_true a)] at h
   by_cases h1:s.toNat<ns.length
   .rw [dif_pos h1] at h
    by_cases b:s<=(ns[s.toNat]).p
    .rw [if_pos (decide_eq_true b)] at h
     simp at h
     exact .inl h
    .rw [if_neg (by rw [decide_eq_false b];decide)] at h
     rcases Au.1 h with h | h
     .exact .inl h
     .rcases KE f _ x h with rfl | h
      .exact .inr ⟨_,Bb h1,rfl⟩
      .exact .inr h
   .rw [dif_neg h1] at h
    cases h
  .rw [if_neg (by rw [decide_eq_false a];decide)] at h
   cases h
theorem X1 {ns:List Nod} {t:Int} (h:aX ns t=true):∀ d∈ns,d.p≠t:=by
 obtain ⟨b,h1⟩:=qQ h
 unfold aX at h
 rw [if_pos (decide_eq_true b),if_pos (decide_eq_true o_),EC] at h
 intro d a e
 have:(ns.any fun x=>x.p==t)=true:=Ij.2 ⟨d,a,by simp [e]⟩
 rw [this] at h
 cases h
theorem T9 {ns:List Nod} {t s:Int} (h:aX ns t=true) (hs:t∈upL ns s):t=s:=by
 rcases KE _ _ _ hs with h1 | ⟨d,a,e⟩
 .exact h1
 .exact absurd e (X1 h d a)
theorem TE {ns:List Nod} {t:Int} (a:0<=t) (h1:t.toNat<ns.length):t∈upL ns t:=by
 obtain ⟨r,b⟩:=KF a h1
 rw [b]
 exact Ax ..
theorem aFE {ns:List Nod} {t:Int} (h:aX ns t=true):t∈kR ns:=by
 obtain ⟨e,h1⟩:=qQ h
 have key:∀ (m i:Nat),i<=t.toNat->t.toNat<i+m->t∈lvF ns m i:=fun m=>by
  induction m with
  | zero=>intro i a b;omega
  | succ m c=>
   intro i a b
   unfold lvF
   by_cases d:i=t.toNat
   .subst d
    rw [show ((t.toNat:Nat):Int)=t from by omega,if_pos h]
    exact Ax ..
   .have:=c (i+1) o_ o_
    split
    .exact Bd _ this
    .exact this
 exact key _ 0 o_ o_
theorem QH {ns:List Nod} {t:Int} (h:aX ns t=true):aZ ns t=[t]:=by
 obtain ⟨g,h1⟩:=qQ h
 have c:=TE g h1
 have d:∀ s:Int,sL ns t s=if s=t then [t] else []:=fun s=>by
  unfold sL
  by_cases e:s=t
  .subst e
   rw [if_pos c,if_pos rfl]
  .rw [if_neg e,if_neg fun q=>e (T9 h q).symm]
 have lo:∀ (m i:Nat),t.toNat<i->(lvF ns m i).flatMap (sL ns t)=[]:=fun m i f=>by
  rw [List.flatMap_eq_nil_iff]
  intro s hs
  have:=IX ns m i s hs
  rw [d,if_neg o_]
 have key:∀ (m i:Nat),i<=t.toNat->t.toNat<i+m->(lvF ns m i).flatMap (sL ns t)=[t]:=fun m=>by
  induction m with
  | zero=>intro i a b;omega
  | succ m j=>
   intro i a b
   unfold lvF
   by_cases f:i=t.toNat
   .subst f
    rw [show ((t.toNat:Nat):Int)=t from by omega,if_pos h,Ia,lo _ _ o_,d,if_pos rfl]
    rfl
   .have:=j (i+1) o_ o_
    split
    .rw [Ia,d,if_neg o_,this]
     rfl
    .exact this
 exact key _ 0 o_ o_
section
variable {p:V3->Int} (hp:Prj p)
include hp
def uE (c:Con) (p:V3->Int) (j:Int) (x:Rn):Int:=if aX c.ns x.g.ten=true/\j∈upL c.ns x.g.ten then p (dem x.g) else 0
theorem SO {c:Con} {j:Nat}:∀ (l:List Rn) (v:V3),(∀ x∈l,0<=p (dem x.g))->0<=p v->p v<=cX->p (l.foldl (oJ c j) v)=min (p v+cK (l.map (uE c p (j:Int)))) cX/\0<=cK (l.map (uE c p (j:Int)))
 | [],v,_,h0,h1=>by
  show p v=min (p v+0) cX/\(0:Int)<=0
  omega
 | x::r,v,hd,h0,h1=>by
  rw [Al,Bp]
  show _=min (p v+(uE c p (j:Int) x+cK (r.map (uE c p (j:Int))))) cX/\0<=uE c p (j:Int) x+cK (r.map (uE c p (j:Int)))
  have d:=hd x (Ax ..)
  have e:p (oJ c j v x)=min (p v+uE c p (j:Int) x) cX:=by
   unfold oJ uE
   by_cases a:aX c.ns x.g.ten=true/\(j:Int)∈upL c.ns x.g.ten
   .rw [if_pos a,if_pos a,hp.add,rI h0 h1 d]
   .rw [if_neg a,if_neg a]
    omega
  have i:0<=uE c p (j:Int) x:=by unfold uE;split<;>omega
  obtain ⟨f,b⟩:=SO r (oJ c j v x) (fun y h=>hd y (Bd _ h)) (by rw [e];unfold cX;omega) (by rw [e];unfold cX;omega)
  rw [f,e]
  unfold cX
  omega
omit hp in
theorem S5 {α:Type} (f g:α->Int):∀ (l:List α),cK (l.map fun x=>f x+g x)=cK (l.map f)+cK (l.map g)
 | []=>rfl
 | x::r=>by
  rw [Bp,Bp,Bp]
  show f x+g x+cK _=(f x+cK _)+(g x+cK _)
  rw [S5 f g r]
  omega
omit hp in
theorem S4 {α:Type} (f:α->Int):∀ (l:List α),(∀ y∈l,0<=f y)->∀ x∈l,f x<=cK (l.map f)
 | [],_,x,h=>by cases h
 | y::r,hf,x,h=>by
  rw [Bp]
  show f x<=f y+cK _
  have h1:=lD (es:=r.map f) fun e a=>by
   obtain ⟨z,hz,rfl⟩:=Ce.1 a
   exact hf z (Bd _ hz)
  have b:=hf y (Ax ..)
  rcases Au.1 h with rfl | h
  .omega
  .have:=S4 f r (fun z hz=>hf z (Bd _ hz)) x h
   omega
omit hp in
theorem S3 {α:Type} (f:α->Int):∀ (l:List α),(∀ y∈l,0<=f y)->min (cK (l.map f)) cX<=cK (l.map fun y=>min (f y) cX)/\0<=cK (l.map f)
 | [],_=>by
  show min (0:Int) cX<=0/\(0:Int)<=0
  unfold cX
  omega
 | y::r,hf=>by
  rw [Bp,Bp]
  show min (f y+cK _) cX<=min (f y) cX+cK _/\0<=f y+cK _
  have c:=hf y (Ax ..)
  obtain ⟨a,b⟩:=S3 f r fun z hz=>hf z (Bd _ hz)
  unfold cX at *
  omega
omit hp in
theorem HD {c:Con} {n:Int}:∀ (l:List Rn),(∀ x∈l,0<=p (dem x.g))->cK (l.map (uE c p n))<=cK ((aZ c.ns n).map fun s=>cK (l.map (uE c p s)))
 | [],_=>by
  show 0<=cK ((aZ c.ns n).map fun s=>(0:Int))
  exact lD fun e d=>by
   obtain ⟨z,_,rfl⟩:=Ce.1 d
   exact Ds _
 | x::r,hd=>by
  have k:=HD (c:=c) (n:=n) r fun y j=>hd y (Bd _ j)
  have e:cK ((aZ c.ns n).map fun s=>cK ((x::r).map (uE c p s)))=cK ((aZ c.ns n).map fun s=>uE c p s x)+cK ((aZ c.ns n).map fun s=>cK (r.map (uE c p s))):=S5 _ _ _
  rw [e,Bp]
  show uE c p n x+cK _<=_
  have m:=hd x (Ax ..)
  have b:∀ s∈aZ c.ns n,0<=uE c p s x:=fun s _=>by unfold uE;split<;>omega
  have h1:uE c p n x<=cK ((aZ c.ns n).map fun s=>uE c p s x):=by
   by_cases a:aX c.ns x.g.ten=true/\n∈upL c.ns x.g.ten
   .have f:x.g.ten∈aZ c.ns n:=by
     unfold aZ
     rw [List.mem_flatMap]
     refine ⟨x.g.ten,aFE a.1,?_⟩
     unfold sL
     rw [if_pos a.2]
     simp
    have:=S4 (fun s=>uE c p s x) (aZ c.ns n) b _ f
    have h:uE c p x.g.ten x=uE c p n x:=by
     obtain ⟨i,h1⟩:=qQ a.1
     unfold uE
     rw [if_pos a,if_pos ⟨a.1,TE i h1⟩]
    rw [<-h]
    exact this
   .have h:uE c p n x=0:=by unfold uE;rw [if_neg a]
    rw [h]
    exact lD fun e d=>by
     obtain ⟨z,hz,rfl⟩:=Ce.1 d
     exact b z hz
  omega
theorem HN {c:Con} {l:List Rn} (f:∀ x∈l,0<=p (dem x.g)) {n:Int} (d:c.ok n):p (atV (ofL c l) n)=min (cK (l.map (uE c p n))) cX/\0<=cK (l.map (uE c p n)):=by
 have hz:p V3.zero=0:=hp.zero
 obtain ⟨a,b⟩:=SO hp (c:=c) (j:=n.toNat) l V3.zero f (by rw [hz];exact Ds _) (by rw [hz];decide)
 rw [yP d,a,hz]
 have e:((n.toNat:Nat):Int)=n:=by have:=d.1;omega
 rw [e] at b⊢
 exact ⟨by omega,b⟩
theorem aH9 {c:Con} {l:List Rn} (a:∀ x∈l,0<=p (dem x.g)) (n:Int):p (iD c.ns n (ofL c l))=min (cK ((aZ c.ns n).map fun s=>min (cK (l.map (uE c p s))) cX)) cX:=by
 have hz:p V3.zero=0:=hp.zero
 have e:(aZ c.ns n).map (fun t=>p (atV (ofL c l) t))=(aZ c.ns n).map fun s=>min (cK (l.map (uE c p s))) cX:=List.map_congr_left fun s hs=>(HN hp a (iA c n s hs)).1
 unfold iD
 rw [HX hp,e,hz,uZ (Ds _) d_ fun e b=>by
  obtain ⟨s,hs,rfl⟩:=Ce.1 b
  have:=(HN hp a (iA c n s hs)).2
  unfold cX
  omega]
 omega
theorem OV {c:Con} {l:List Rn} (b:∀ x∈l,0<=p (dem x.g)) {n:Int} (d:c.ok n):p (atV (ofL c l) n)<=p (iD c.ns n (ofL c l))/\0<=p (atV (ofL c l) n)/\p (iD c.ns n (ofL c l))<=cX:=by
 obtain ⟨a,f⟩:=HN hp b d
 rw [a,aH9 hp b n]
 have h1:=HD (p:=p) (c:=c) (n:=n) l b
 obtain ⟨e,h3⟩:=S3 (fun s=>cK (l.map (uE c p s))) (aZ c.ns n) fun s hs=>(HN hp b (iA c n s hs)).2
 unfold cX at *
 omega
theorem aCd (ns:List Nod) (us:List V3) (n t:Int):0<=p (vO ns us n t):=by
 have hz:p V3.zero=0:=hp.zero
 have a:∀ e∈(aZ ns n).map (kE ns p us t),0<=e:=fun e b=>by
  obtain ⟨s,_,rfl⟩:=Ce.1 b
  unfold kE
  split<;>omega
 have c:=lD a
 unfold vO
 rw [UB hp _ _ _ _ _ (by rw [hz];exact Ds _) (by rw [hz];decide),hz,uZ (Ds _) d_ a]
 unfold cX
 omega
theorem JZ {c:Con} {l:List Rn} (e:∀ x∈l,0<=p (dem x.g)) {need:V3} (h:0<=p need) {n t:Int} (f:c.ok n):p (dL (atV (ofL c l) n) need)<=p (dL (dL (iD c.ns n (ofL c l)) need) (vO c.ns (ofL c l) n t)):=by
 obtain ⟨h1,k,h3⟩:=OV hp e f
 have i:=aCd hp c.ns (ofL c l) n t
 rw [hp.add,hp.add,hp.add]
 have m:=sH (d:=p need) h1
 have b:=J4 (a:=p (iD c.ns n (ofL c l))) o_ h
 have j:=AZ b.1 b.2 i
 omega
end
theorem yB (x y z:Int):iQ (iQ (iQ 0 x) 0) y=iQ x y/\iQ (iQ 0 x) y=iQ x y:=by
 unfold iQ fL
 omega
theorem V7 (x y:V3):dL (dL V3.zero x) y=dL x y:=by
 unfold dL V3.map2 V3.zero
 rw [(yB x.a y.a 0).2,(yB x.b y.b 0).2,(yB x.c y.c 0).2]
theorem aBL {c:Con} {t:Int} (h:c.ok t):atV (lL c.ns) t=(bR c.ns t).n:=by
 obtain ⟨a,h1⟩:=h
 unfold atV lL
 rw [if_neg q_,Bj,Dm h1]
 show (bR c.ns ((t.toNat:Nat):Int)).n=_
 rw [show ((t.toNat:Nat):Int)=t from by omega]
def T4 (c:Con) (t n:Int):V3:=if n=t then dL (iD c.ns n (lL c.ns)) (bR c.ns n).b else iD c.ns n (lL c.ns)
theorem LU {c:Con} {l:List Rn} {x:Rn} (j:∀ y∈l,(dem y.g).pos) (k:(dem x.g).pos) (h:zS c (ofL c l) x.g.ten (dem x.g)=true):∀ n∈bD c.ns x.g.ten,c.ok n/\cF (atV (ofL c (l++[x])) n) (T4 c x.g.ten n)=true:=by
 intro n f
 unfold bD at f
 rw [Hj] at f
 have a:c.ok n:=HQ c _ _ _ f
 refine ⟨a,?_⟩
 unfold zS at h
 by_cases hl:aX c.ns x.g.ten=true
 .rw [if_pos hl,Cu] at h
  have b:=h n f
  have e:atV (ofL c (l++[x])) n=dL (atV (ofL c l) n) (dem x.g):=by
   rw [yP a,yP a,Jk]
   show oJ c n.toNat _ x=_
   unfold oJ
   rw [if_pos ⟨hl,by rw [show ((n.toNat:Nat):Int)=n from by have:=a.1;omega];exact f⟩]
  rw [e]
  unfold IV at b
  unfold T4
  by_cases d:n=x.g.ten
  .rw [if_pos (decide_eq_true d)] at b
   rw [if_pos d]
   unfold XO at b
   have m:iD c.ns n (lL c.ns)=dL V3.zero (bR c.ns n).n:=by
    unfold iD
    rw [QH (by rw [d];exact hl)]
    show dL V3.zero (atV (lL c.ns) n)=_
    rw [aBL a]
   rw [m,V7]
   exact b
  .rw [if_neg (by rw [decide_eq_false d];decide)] at b
   rw [if_neg d]
   unfold SC at b
   rw [uL] at b⊢
   exact ⟨Ft (JZ aIL (fun y i=>(j y i).1) k.1 a) b.1,Ft (JZ aIK (fun y i=>(j y i).2.1) k.2.1 a) b.2.1,Ft (JZ aIJ (fun y i=>(j y i).2.2) k.2.2 a) b.2.2⟩
 .rw [if_neg hl] at h
  cases h
end Go.Proofs.YticlgfdibfobdaaGreat
