/-
  The references, as walks; who must give way; what fits leaves nobody overfull.
-/
import Derived.Test.YtlanfgblaebddaaGreatHA
set_option linter.all false
set_option maxHeartbeats 1000000
open And renaming intro->Aa
open Bool renaming and_eq_true->Af,eq_iff_iff->Fz,false_eq_true->Cv,false_or->Jm,true_and->Bw
open Exists renaming intro->Ai
open Iff renaming rfl->Ly
open Int renaming le_refl->Di,le_trans->Es,mul_nonneg->Hj,toNat_natCast->Dl,toNat_of_nonneg->Hw
open List renaming all_cons->Da,all_eq_true->Bq,any_cons->Gn,any_eq_true->Ef,append_assoc->Ay,append_nil->Bm,count_append->Ik,count_cons_of_ne->Lg,count_cons_self->Hi,count_pos_iff->Kc,drop_eq_getElem_cons->Ad,drop_eq_nil_of_le->Ae,eq_nil_of_length_eq_zero->Al,ext_getElem?->Ek,filter_congr->Kl,filter_cons->Hv,filter_cons_of_neg->Fa,filter_cons_of_pos->Fb,filter_eq_self->Jz,filter_sublist->Gb,flatMap_cons->Hf,foldl_append->Iv,foldl_cons->Aq,getElem?_append_left->Ag,getElem?_cons_succ->Fe,getElem?_eq_getElem->Ab,getElem?_eq_none->Bj,getElem?_eq_some_iff->Ac,getElem?_map->Bd,getElem?_range->Dr,getElem?_replicate->Ec,getElem?_set->Fi,getElem?_set_ne->Bh,getElem?_set_self->Ba,getElem?_take_of_lt->Br,getElem_mem->Bg,getElem_of_mem->Gr,length_append->Bo,length_cons->Bt,length_filter_le->Dp,map_append->Bl,map_cons->Bk,map_set->Ka,mem_append->Ao,mem_cons->Aj,mem_cons_of_mem->Ap,mem_cons_self->Ak,mem_filter->Dt,mem_map->Bb,mem_of_getElem?->Az,mem_or_eq_of_mem_set->Dj,mem_replicate->Fq,mem_reverse->Gu,mem_take_iff_getElem->Gk,nodup_append->Ax,nodup_cons->Bp,pairwise_append->Dx,pairwise_cons->Bn,pairwise_iff_getElem->Dh,perm_append_comm->Gj,range->Df,range'->Gx,range'_succ->Jb,range_eq_range'->Gm,range_succ->Ju,replicate->Ah,reverse_cons->Iu,take->En,take_append_drop->De,take_append_getElem->Hz,take_append_of_le_length->Ej,take_of_length_le->Cn,take_zero->Hn
open List.Perm renaming append_left->Fm,refl->Ep
open List.Sublist renaming refl->Hg
open List.cons renaming injEq->Jt
open Nat renaming add_sub_cancel->Ih,le_refl->Bi,le_trans->Cm,sub_zero->Kb,zero_add->Cb,zero_le->Cc
open Ne renaming symm->Eu
open Prod renaming fst->Ky
namespace Go.Proofs.YtlanfgblaebddaaGreat
open Go Go.AW Go.Proofs
set_option maxRecDepth 10000
theorem zqra0 {P:Prop} (h:P:=by
 by_cases h1:0<=n
 .rw [if_pos (decide_eq_true h1)] at a
  by_cases d:n.toNat<c.ns.length
  .rw [dif_pos d] at a
   have g:=g h1 d
   generalize l:c.ns[n.toNat]=x at a
   have get:(nav c.ns)[n.toNat]? =some x.av:=(fU d).trans (by rw [l])
   have e:n=(n.toNat:Int):=o_
   by_cases h3:n<=x.p
   .rw [if_pos (decide_eq_true h3)] at a
    have a:n::b=R:=a
    subst a
    refine gV ?_
    repeat' first | (refine gN hE ?_;conv=>whnf) | refine ⟨n.toNat,e,?_⟩ | refine ⟨_,get,?_⟩ | refine ⟨⟨by simp only [maxLen];simp;omega,by simp;omega⟩,?_⟩ | exact rfl | (refine zt ?_;try intro h) | refine zu (fun h=>?_) fun h=>?_ | fail
   .rw [if_neg (by rw [decide_eq_false h3];decide),Iu,Ay] at a
    have next:=o x.p (n::b) .no (.inr rfl) (fun _=>by have:=j h1;omega) (fun _ _=>by simp;omega) a
    refine gV ?_
    repeat' first | (refine gN hE ?_;conv=>whnf) | refine ⟨n.toNat,e,?_⟩ | refine ⟨_,get,?_⟩ | refine ⟨⟨by simp only [maxLen];simp;omega,by simp;omega⟩,?_⟩ | exact rfl | (refine zt ?_;try intro h) | refine zu (fun h=>?_) fun h=>?_ | fail
    refine To.part [1,2,5] [0] rfl rfl rfl ?_
    exact next
  .rw [dif_neg d] at a
   have a:b=R:=a
   subst a
   refine gV ?_
   repeat' first | (refine gN hE ?_;conv=>whnf) | exact rfl | (refine zt ?_;try intro h) | refine zu (fun h=>?_) fun h=>?_ | fail
 .rw [if_neg (by rw [decide_eq_false h1];decide)] at a
  have a:b=R:=a
  subst a
  refine gV ?_
  repeat' first | (refine gN hE ?_;conv=>whnf) | exact rfl | (refine zt ?_;try intro h) | refine zu (fun h=>?_) fun h=>?_ | fail):P:=h
theorem zqra1 {P:Prop} (h:P:=by
 unfold aU at h
 by_cases h1:0<=t
 .rw [if_pos (decide_eq_true h1)] at h
  by_cases a:t<(ns.length:Int)
  .omega
  .rw [if_neg (by rw [decide_eq_false a];decide)] at h
   cases h
 .rw [if_neg (by rw [decide_eq_false h1];decide)] at h
  cases h):P:=h
theorem zqra2 {P:Prop} (h:P:=by
 refine To.part [1,3,5,8,10,11] [0,1] rfl rfl rfl ?_
 exact next):P:=h
theorem zqra3 {P:Prop} (h:P:=by
 refine gV ?_
 refine aJ ?_
 refine gV ?_
 refine To.part [1,3,4] [0,1] rfl rfl rfl ?_
 exact next):P:=h
theorem zqra4 {P:Prop} (h:P:=by
 refine To.part [1,5,7,8] [0,1] rfl rfl rfl ?_
 exact next):P:=h
theorem zqra5 {P:Prop} (h:P:=by
 obtain ⟨q,r,f⟩:=v G d
 exact ⟨q,r,fun x b=>⟨(f x b).1,by have:=(f x b).2.1;omega,(f x b).2.2⟩⟩):P:=h
theorem zqra6 {P:Prop} (h:P:=by
 refine To.part [1,2,5,6] [0,1] rfl rfl rfl ?_
 exact b):P:=h
theorem zqra7 {P:Prop} (h:P:=by
 refine To.part [0,3,4] [] rfl rfl rfl ?_
 exact next):P:=h
theorem HS (n m:Int) (a:0<=m) (h1:m<=1099511627776):aA Tryz.prog 178 [ii n,ii m] [] (.ret (ii (eU n m))) []:=by
 have e:eU n m=max (0-m) (min n m):=by unfold eU;omega
 rw [e]
 refine c_ Tryz.f178 fun _=>?_
 repeat' first | (refine gN hE ?_;conv=>whnf) | exact rfl | (refine zt ?_;try intro h) | refine zu (fun h=>?_) fun h=>?_ | fail
theorem jM (a b:V3):aA Tryz.prog 138 [a.av,b.av] [] (.ret (dL a b).av) []:=by
 have d:=eT a.a 1099511627776 d_
 have j:=eT a.b 1099511627776 d_
 have h:=eT a.c 1099511627776 d_
 have k:=eT b.a 1099511627776 d_
 have e:=eT b.b 1099511627776 d_
 have i:=eT b.c 1099511627776 d_
 refine c_ Tryz.f138 fun _=>?_
 repeat' first
  | (refine gW hE ?_;conv=>whnf)
  | refine .pure _ [] (HS _ _ d_ d_) ?_
  | exact rfl
  | refine aY ?_
  | refine aN ?_
  | refine aJ ?_
  | refine Ai _ (Aa rfl ?_)
  | refine Aa d_ ?_
theorem HK (a b:V3):aA Tryz.prog 158 [a.av,b.av] [] (.ret (tY a b).av) []:=by
 have d:=eT a.a 1099511627776 d_
 have j:=eT a.b 1099511627776 d_
 have h:=eT a.c 1099511627776 d_
 have k:=eT b.a 1099511627776 d_
 have e:=eT b.b 1099511627776 d_
 have i:=eT b.c 1099511627776 d_
 refine c_ Tryz.f158 fun _=>?_
 repeat' first
  | (refine gW hE ?_;conv=>whnf)
  | refine .pure _ [] (HS _ _ d_ d_) ?_
  | exact rfl
  | refine aY ?_
  | refine aN ?_
  | refine aJ ?_
  | refine Ai _ (Aa rfl ?_)
  | refine Aa d_ ?_
theorem RX (a:V3) (n:Int):aA Tryz.prog 155 [a.av,ii n] [] (.ret (NG a n).av) []:=by
 have d:=SC a.a n
 have h:=SC a.b n
 have e:=SC a.c n
 refine c_ Tryz.f155 fun _=>?_
 repeat' first
  | (refine gW hE ?_;conv=>whnf)
  | refine .pure _ [] (HS _ _ d_ d_) ?_
  | exact rfl
  | refine aY ?_
  | refine aN ?_
  | refine aJ ?_
  | refine Ai _ (Aa rfl ?_)
  | refine Aa d_ ?_
theorem HR (g:Gan):aA Tryz.prog 110 [g.av] [] (.ret (dem g).av) []:=by
 refine c_ Tryz.f110 fun _=>?_
 repeat' first | (refine gN hE ?_;conv=>whnf) | refine .pure _ [] (RX g.need g.pods) ?_ | exact rfl | (refine zt ?_;try intro h) | refine zu (fun h=>?_) fun h=>?_ | fail
theorem ZK (l:List V3) (n:Int) (r:V3) (a:atV l n=r):aA Tryz.prog 151 [.slice 3 (vav l) .no,ii n] [] (.ret r.av) []:=by
 have hl:(vav l).length=l.length:=by simp
 unfold atV at a
 by_cases h1:n<0
 .rw [if_pos (decide_eq_true h1)] at a
  subst a
  refine c_ Tryz.f151 fun _=>?_
  repeat' first | (refine gN hE ?_;conv=>whnf) | exact rfl | (refine zt ?_;try intro h) | refine zu (fun h=>?_) fun h=>?_ | fail
 .rw [if_neg (by rw [decide_eq_false h1];decide)] at a
  by_cases b:n.toNat<l.length
  .rw [Ab b] at a
   have get:=jJ b
   have a:l[n.toNat]=r:=a
   rw [a] at get
   have c:n=(n.toNat:Int):=o_
   refine c_ Tryz.f151 fun _=>?_
   repeat' first | (refine gN hE ?_;conv=>whnf) | refine ⟨n.toNat,c,?_⟩ | refine ⟨_,get,?_⟩ | exact rfl | (refine zt ?_;try intro h) | refine zu (fun h=>?_) fun h=>?_ | fail
  .rw [Bj o_] at a
   subst a
   refine c_ Tryz.f151 fun _=>?_
   repeat' first | (refine gN hE ?_;conv=>whnf) | exact rfl | (refine zt ?_;try intro h) | refine zu (fun h=>?_) fun h=>?_ | fail
theorem uL (l:List V3) (n:Int):aA Tryz.prog 151 [.slice 3 (vav l) .no,ii n] [] (.ret (atV l n).av) []:=ZK l n _ rfl
theorem DT (n:Int):∀ (l:List Nod) (i:Nat),decide (0<=findP n l i)=l.any fun x=>x.p==n
 | [],i=>by simp [findP]
 | x::r,i=>by
  unfold findP
  rw [Gn]
  by_cases h:x.p=n
  .simp [h]
  .have:=DT n r (i+1)
   simp [h,this]
theorem NB (l:List Nod) (n:Int):(l.all fun x=>!(x.p==n))= !(l.any fun x=>x.p==n):=by
 induction l with
 | nil=>rfl
 | cons x r a=>rw [Da,Gn,a];cases (x.p==n)<;>simp
theorem qB (ns:List Nod) (t:Int):rlB ns t=aU ns t:=by
 unfold rlB aU
 rw [DT,NB]
 generalize (ns.any fun x=>x.p==t)=b
 by_cases h1:t<0
 .have a:¬ 0<=t:=o_
  simp [h1,a]
 .have h3:0<=t:=o_
  by_cases a:(ns.length:Int)<=t
  .have c:¬ t<(ns.length:Int):=o_
   simp [h1,h3,a,c]
  .have c:t<(ns.length:Int):=o_
   simp [h1,h3,a,c]
def bG (ns:List Nod) (n:Int):List Int:=(upL ns n).reverse
theorem F6 {α β:Type} (f:β->α->β) (a:∀ b x y,f (f b x) y=f (f b y) x):∀ (l:List α) (b:β),l.reverse.foldl f b=l.foldl f b
 | [],b=>rfl
 | x::r,b=>by
  have h:∀ (l:List α) (b:β),l.foldl f (f b x)=f (l.foldl f b) x:=fun l=>by
   induction l with
   | nil=>intro b;rfl
   | cons y r c=>intro b;rw [Aq,Aq,a,c]
  rw [Iu,Iv,F6 f a r b]
  show f (r.foldl f b) x=r.foldl f (f b x)
  rw [h]
def sF (v:V3) (xs:List V3) (k:Int):List V3:=xs.set k.toNat (dL ((xs[k.toNat]?).getD V3.zero) v)
theorem ND (v:V3) (xs:List V3) (k:Int):(sF v xs k).length=xs.length:=by unfold sF;simp
theorem nQ (v:V3) (xs:List V3) (k:Int) (j:Nat):(sF v xs k)[j]? =if k.toNat=j then (xs[j]?).map fun x=>dL x v else xs[j]?:=by
 unfold sF
 rw [Fi]
 by_cases h:k.toNat=j
 .subst h
  rw [if_pos rfl,if_pos rfl]
  by_cases a:k.toNat<xs.length
  .rw [if_pos a,Ab a]
   rfl
  .rw [if_neg a,Bj o_]
   rfl
 .rw [if_neg h,if_neg h]
theorem W3 (v:V3) (xs:List V3) (a b:Int):sF v (sF v xs a) b=sF v (sF v xs b) a:=by
 refine Ek fun j=>?_
 rw [nQ,nQ,nQ,nQ]
 by_cases h1:a.toNat=j<;>by_cases c:b.toNat=j<;>simp [h1,c]
def yV (c:Con) (xs:List V3) (x:Rn):List V3:=if aU c.ns x.g.ten=true then (bG c.ns x.g.ten).foldl (sF (dem x.g)) xs else xs
def YT (c:Con) (l:List Rn):List V3:=l.foldl (yV c) (Ah c.ns.length V3.zero)
theorem sQ (v:V3):∀ (ks:List Int) (xs:List V3),(ks.foldl (sF v) xs).length=xs.length
 | [],_=>rfl
 | k::r,xs=>by rw [Aq,sQ v r,ND]
theorem YR (c:Con) (xs:List V3) (x:Rn):(yV c xs x).length=xs.length:=by
 unfold yV
 split
 .exact sQ _ _ _
 .rfl
def pO (L:Led):Prop:=(L.map Ky).Nodup
theorem FG (n:Int) (v:V3):∀ (L:Led) (k:Int),k∈(wS L n v).map Ky->k=n\/k∈L.map Ky
 | [],k,h=>by simp [wS] at h;exact .inl h
 | (j,w)::r,k,h=>by
  unfold wS at h
  split at h
  .rename_i a
   simp only [Bk,Aj] at h⊢
   rcases h with rfl | h
   .exact .inl rfl
   .exact .inr (.inr h)
  .simp only [Bk,Aj] at h⊢
   rcases h with rfl | h
   .exact .inr (.inl rfl)
   .rcases FG n v r k h with h | h
    .exact .inl h
    .exact .inr (.inr h)
theorem aAy (n:Int) (v:V3):∀ (L:Led),pO L->pO (wS L n v)
 | [],_=>by simp [wS,pO]
 | (j,w)::r,h=>by
  have h1:=(Bp.1 h)
  unfold wS
  split
  .rename_i a
   subst a
   exact h
  .rename_i a
   refine Bp.2 ⟨fun hm=>?_,aAy n v r h1.2⟩
   rcases FG n v r _ hm with h | h
   .exact a h
   .exact h1.1 h
theorem FJ (n:Int):∀ (L:Led) (k:Int),k∈(B6 L n).map Ky->k∈L.map Ky
 | [],k,h=>h
 | (j,w)::r,k,h=>by
  unfold B6 at h
  simp only [Bk,Aj]
  split at h
  .exact .inr h
  .simp only [Bk,Aj] at h
   rcases h with h | h
   .exact .inl h
   .exact .inr (FJ n r k h)
theorem aAD (n:Int):∀ (L:Led),pO L->pO (B6 L n)
 | [],h=>h
 | (j,w)::r,h=>by
  have h1:=(Bp.1 h)
  unfold B6
  split
  .exact h1.2
  .exact Bp.2 ⟨fun hm=>h1.1 (FJ n r _ hm),aAD n r h1.2⟩
theorem LS:∀ (L:Led) (n:Int),n∉L.map Ky->gK L n=none
 | [],n,h=>rfl
 | (j,w)::r,n,h=>by
  simp only [Bk,Aj,not_or] at h
  unfold gK
  rw [if_neg (fun e=>h.1 e.symm)]
  exact LS r n h.2
theorem LR (n:Int) (v:V3) (k:Int):∀ (L:Led),gK (wS L n v) k=if k=n then some v else gK L k
 | []=>by
  unfold wS gK gK
  by_cases h:k=n
  .rw [if_pos h,if_pos h.symm]
  .rw [if_neg h,if_neg (fun e=>h e.symm)]
 | (j,w)::r=>by
  have b:=LR n v k r
  unfold wS
  split
  .rename_i a
   subst a
   unfold gK
   by_cases h:k=j
   .rw [if_pos h,if_pos h.symm]
   .rw [if_neg h,if_neg (fun e=>h e.symm),if_neg (fun e=>h e.symm)]
  .rename_i a
   unfold gK
   rw [b]
   by_cases h:j=k
   .rw [if_pos h,if_pos h,if_neg (fun e=>a (h.trans e))]
   .rw [if_neg h,if_neg h]
theorem LT (n:Int) (k:Int):∀ (L:Led),pO L->gK (B6 L n) k=if k=n then none else gK L k
 | [],_=>by
  unfold B6 gK
  split<;>rfl
 | (j,w)::r,h=>by
  have h1:=(Bp.1 h)
  have c:=LT n k r h1.2
  unfold B6
  split
  .rename_i b
   subst b
   by_cases a:k=j
   .rw [if_pos a,a]
    exact LS r j h1.1
   .rw [if_neg a]
    conv=>rhs;unfold gK
    rw [if_neg (fun e=>a e.symm)]
  .rename_i b
   unfold gK
   rw [c]
   by_cases a:j=k
   .rw [if_pos a,if_pos a,if_neg (fun e=>b (a.trans e))]
   .rw [if_neg a,if_neg a]
theorem aAI {v:V3} (h:isZ v=true):v=V3.zero:=by
 obtain ⟨a,b,c⟩:=v
 unfold isZ at h
 simp at h
 obtain ⟨rfl,rfl,rfl⟩:=h
 rfl
theorem aGy {L:Led} (h:pO L) (n:Int) (v:V3):pO (LM L n v):=by
 unfold LM
 split
 .exact aAD n L h
 .exact aAy n v L h
theorem aAx {L:Led} (h:pO L) (n:Int) (v:V3) (k:Int):pF (LM L n v) k=if k=n then v else pF L k:=by
 unfold LM pF
 split
 .rename_i hz
  rw [LT n k L h]
  by_cases a:k=n
  .rw [if_pos a,if_pos a,aAI hz];rfl
  .rw [if_neg a,if_neg a]
 .rw [LR]
  by_cases a:k=n
  .rw [if_pos a,if_pos a];rfl
  .rw [if_neg a,if_neg a]
theorem DU (n:Nat) (L:Led) (j:Nat):(lL n L)[j]? =if j<n then some (pF L (j:Int)) else none:=by
 unfold lL
 rw [Bd]
 by_cases h:j<n
 .rw [if_pos h,Dr h];rfl
 .rw [if_neg h,Bj q_];rfl
theorem aEH {n:Nat} {L:Led} (h:pO L) (v:V3) (k:Int) (c:0<=k) (b:k.toNat<n):lL n (xK v L k)=sF v (lL n L) k:=by
 refine Ek fun j=>?_
 rw [nQ,DU,DU]
 unfold xK
 rw [aAx h]
 by_cases h1:j<n
 .rw [if_pos h1,if_pos h1]
  by_cases a:k.toNat=j
  .rw [if_pos a,if_pos o_]
   have:k=(j:Int):=o_
   rw [this]
   rfl
  .rw [if_neg a,if_neg o_]
 .rw [if_neg h1,if_neg h1]
  split<;>rfl
theorem aIv {L:Led} (h:pO L) (v:V3) (k:Int):pO (xK v L k):=aGy h _ _
theorem MT {n:Nat} (v:V3):∀ (ks:List Int) (L:Led),pO L->(∀ k∈ks,0<=k/\k.toNat<n)->lL n (ks.foldl (xK v) L)=ks.foldl (sF v) (lL n L)/\pO (ks.foldl (xK v) L)
 | [],L,h,_=>⟨rfl,h⟩
 | k::r,L,h,hk=>by
  have h1:=hk k s_
  obtain ⟨a,b⟩:=MT v r (xK v L k) (aIv h v k) fun x c=>hk x (by simp [c])
  exact ⟨by rw [Aq,a,aEH h v k h1.1 h1.2];rfl,b⟩
theorem G4 (ns:List Nod):∀ (f:Nat) (n x:Int),x∈upF ns f n->0<=x/\x.toNat<ns.length
 | 0,n,x,h=>by simp [upF] at h
 | f+1,n,x,h=>by
  unfold upF at h
  split at h
  .rename_i a
   have a:=of_decide_eq_true a
   split at h
   .rename_i h1
    split at h
    .simp at h;subst h;exact ⟨a,h1⟩
    .rcases Aj.1 h with rfl | h
     .exact ⟨a,h1⟩
     .exact G4 ns f _ x h
   .simp at h
  .simp at h
theorem O2 (c:Con) (L:Led) (h:pO L) (x:Rn):lL c.ns.length (tC c L x)=yV c (lL c.ns.length L) x/\pO (tC c L x):=by
 unfold tC yV bG
 split
 .obtain ⟨a,b⟩:=MT (n:=c.ns.length) (dem x.g) (upL c.ns x.g.ten) L h fun k d=>G4 _ _ _ _ d
  exact ⟨by rw [a,F6 _ (W3 _)],b⟩
 .exact ⟨rfl,h⟩
theorem aFa (c:Con) (l:List Rn):YT c l=ofL c l:=by
 have key:∀ (l:List Rn) (L:Led),pO L->l.foldl (yV c) (lL c.ns.length L)=lL c.ns.length (l.foldl (tC c) L):=fun l=>by
  induction l with
  | nil=>intro L _;rfl
  | cons x r b=>
   intro L h
   obtain ⟨a,d⟩:=O2 c L h x
   rw [Aq,Aq,<-a,b _ d]
 have e:lL c.ns.length []=Ah c.ns.length V3.zero:=by
  refine Ek fun j=>?_
  rw [DU,Ec]
  rfl
 unfold YT ofL
 rw [<-e,key l [] (by simp [pO])]
noncomputable abbrev aFj:Func:=Tryz.f213
theorem UT (c:Con) (j:c.sm) (R:List Int):∀ (m i:Nat) (a:List Int),i+m=c.ns.length->a.length<=i->a++lvF c.ns m i=R->
  To (Eo [3] []) aFj (.pure (.ret (.slice 1 (iv R) .no))) (.head (stk aFj 0) [(1,.ref 0 0),(3,.slice 1 (iv a) (.own 1 0)),(4,.int .i64 i)] [.cells 25 c.cs,.tail 0 1 3]):=by
 have k:(nav c.ns).length=c.ns.length:=by simp
 have h1:=j.ns
 intro m
 induction m with
 | zero=>
  intro i a o l b
  unfold lvF at b
  rw [Bm] at b
  subst b
  refine gV ?_
  refine aF fun h=>?_
  repeat' first | (refine gN (hEo [3] []) ?_;conv=>whnf) | exact rfl | (refine zt ?_;try intro h) | refine zu (fun h=>?_) fun h=>?_ | fail
 | succ m g=>
  intro i a o l b
  have n:(iv a).length=a.length:=by simp
  have f:=fO c j i
  rw [qB] at f
  unfold lvF at b
  refine gV ?_
  refine aT fun h=>?_
  refine gV ?_
  refine .pure _ [] f ?_
  refine gV ?_
  refine Aa (fun d=>?_) (fun d=>?_)
  .have d:aU c.ns (i:Int)=true:=d
   rw [if_pos d] at b
   have next:=g (i+1) (a++[(i:Int)]) o_ q_ (by rw [Ay];exact b)
   have e:iv (a++[(i:Int)])=iv a++[ii i]:=by simp
   rw [e] at next
   refine gV ?_
   refine ⟨⟨by simp only [maxLen];simp;omega,by simp;omega⟩,?_⟩
   exact zqra3
  .have d:aU c.ns (i:Int)=false:=d
   rw [if_neg (by rw [d];decide)] at b
   have next:=g (i+1) a o_ o_ b
   exact zqra3
theorem aCY (c:Con) (a:c.sm):aA Tryz.prog 213 [c.av] [] (.ret (.slice 1 (iv (jQ c.ns)) .no)) []:=by
 refine cT (E:=(Eo [3] [])) (fn:=Tryz.f213) (g:=.pure _) fun _=>?_
 refine gV ?_
 refine To.part [1,3,4] [0,1] rfl rfl rfl ?_
 exact UT c a _ c.ns.length 0 [] o_ s_ rfl
noncomputable abbrev aBf:Func:=Tryz.f137
theorem N6 (c:Con) (s:c.sm) (R:List Int):∀ (f:Nat) (n:Int) (b:List Int) (i:Tk),(i= .nil\/i= .no)->(0<=n->n.toNat<f)->(0<=n->n.toNat<c.ns.length->b.length+n.toNat<1048577)->(upF c.ns f n).reverse++b=R->
  To E aBf (.pure (.ret (.slice 1 (iv R) .no))) (.head (stk aBf 0) [(1,ii n),(2,.ref 0 0),(5,.slice 1 (iv b) i)] [.cells 25 c.cs]):=by
 have q:(nav c.ns).length=c.ns.length:=by simp
 have r:=s.ns
 intro f
 induction f with
 | zero=>
  intro n b i k j g a
  have m:(iv b).length=b.length:=by simp
  have h1:¬ 0<=n:=fun h=>by have:=j h;omega
  have a:b=R:=a
  subst a
  rcases k with rfl | rfl
  .refine gV ?_
   repeat' first | (refine gN hE ?_;conv=>whnf) | exact rfl | (refine zt ?_;try intro h) | refine zu (fun h=>?_) fun h=>?_ | fail
  .refine gV ?_
   repeat' first | (refine gN hE ?_;conv=>whnf) | exact rfl | (refine zt ?_;try intro h) | refine zu (fun h=>?_) fun h=>?_ | fail
 | succ f o=>
  intro n b i k j g a
  have m:(iv b).length=b.length:=by simp
  unfold upF at a
  rcases k with rfl | rfl
  .exact zqra0
  .exact zqra0
theorem qA (c:Con) (a:c.sm) (n:Int):aA Tryz.prog 137 [c.av,ii n] [] (.ret (.slice 1 (iv (bG c.ns n)) .no)) []:=by
 have b:=a.ns
 refine c_ Tryz.f137 fun _=>?_
 refine gV ?_
 refine To.part [1,2,5] [0] rfl rfl rfl ?_
 exact N6 c a _ (n.toNat+1) n [] .nil (.inl rfl) (fun _=>by omega) (fun _ _=>by simp;omega) (by unfold bG upL;simp)
theorem Q8 (ns:List Nod):∀ (f:Nat) (n:Int),(upF ns f n).length<=n.toNat+1/\(upF ns f n).length<=f
 | 0,n=>by simp [upF]
 | f+1,n=>by
  unfold upF
  split
  .split
   .split
    .simp
    .rename_i b h1 a
     have d:=Q8 ns f (ns[n.toNat]).p
     have a:¬ n<=(ns[n.toNat]).p:=fun h=>a (decide_eq_true h)
     have b:=of_decide_eq_true b
     simp only [Bt]
     refine ⟨?_,by omega⟩
     by_cases c:0<=(ns[n.toNat]).p
     .omega
     .have e:(upF ns f (ns[n.toNat]).p)=[]:=by
       cases f with
       | zero=>rfl
       | succ f=>
          unfold upF
          rw [if_neg (by rw [decide_eq_false c];decide)]
      rw [e]
      simp
   .simp
  .simp
theorem aCr (ns:List Nod) (n:Int):(upL ns n).length<=ns.length:=by
 by_cases h:0<=n/\n.toNat<ns.length
 .have:=(Q8 ns (n.toNat+1) n).1
  unfold upL
  omega
 .unfold upL upF
  by_cases a:0<=n
  .rw [if_pos (decide_eq_true a),dif_neg o_]
   simp
  .rw [if_neg (by rw [decide_eq_false a];decide)]
   simp
theorem mU (ns:List Nod) (n:Int):(bG ns n).length<=ns.length:=by
 unfold bG
 rw [List.length_reverse]
 exact aCr ns n
noncomputable abbrev aIk:Func:=Tryz.f214
def onB (ns:List Nod) (n t:Int):Bool:=(bG ns t).any fun x=>x==n
theorem aGk (ns:List Nod) (n t:Int):onB ns n t=decide (n∈upL ns t):=by
 unfold onB bG
 rw [List.any_reverse,Fz]
 simp
theorem YQ (c:Con) (n:Int) (l:List Int) (hl:l.length<=1048576) (r:Bool):∀ (m i:Nat),i+m=l.length->((l.drop i).any fun x=>x==n)=r->
  To E aIk (.pure (.ret (.bool r))) (.head (stk aIk 0) [(1,ii n),(7,.slice 1 (iv l) .no),(8,ii i)] [.cells 25 c.cs]):=by
 have f:(iv l).length=l.length:=by simp
 intro m
 induction m with
 | zero=>
  intro i g a
  rw [Ae o_] at a
  have a:false=r:=a
  subst a
  refine gV ?_
  refine aF fun h=>?_
  repeat' first | (refine gN hE ?_;conv=>whnf) | exact rfl | (refine zt ?_;try intro h) | refine zu (fun h=>?_) fun h=>?_ | fail
 | succ m e=>
  intro i g a
  have d:i<l.length:=o_
  rw [Ad d,Gn] at a
  have get:=cQ d
  generalize l[i]=x at a get
  have e:=e (i+1) o_
  refine gV ?_
  refine aT fun h=>?_
  refine gV ?_
  refine ⟨i,rfl,?_⟩
  refine gV ?_
  refine ⟨_,get,?_⟩
  refine gV ?_
  refine Aa (fun b=>?_) (fun b=>?_)
  .have b:(x==n)=true:=b
   rw [b] at a
   have a:true=r:=a
   subst a
   repeat' first | (refine gN hE ?_;conv=>whnf) | exact rfl | (refine zt ?_;try intro h) | refine zu (fun h=>?_) fun h=>?_ | fail
  .have b:(x==n)=false:=b
   rw [b,Jm] at a
   repeat' first | (refine gN hE ?_;conv=>whnf) | exact rfl | (refine zt ?_;try intro h) | refine zu (fun h=>?_) fun h=>?_ | fail
   exact To.cut [1,7,8] 1 rfl rfl rfl rfl (e a)
theorem aFQ (c:Con) (a:c.sm) (n t:Int):aA Tryz.prog 214 [c.av,ii n,ii t] [] (.ret (.bool (onB c.ns n t))) []:=by
 have h1:=mU c.ns t
 have b:=a.ns
 have hp:=qA c a t
 unfold onB
 generalize bG c.ns t=l at h1 hp
 refine c_ Tryz.f214 fun _=>?_
 repeat' first | (refine gN hE ?_;conv=>whnf) | refine .pure _ [] hp ?_ | exact rfl | (refine zt ?_;try intro h) | refine zu (fun h=>?_) fun h=>?_ | fail
 exact To.cut [1,7,8] 1 rfl rfl rfl rfl (YQ c n l o_ _ l.length 0 o_ rfl)
noncomputable abbrev aFk:Func:=Tryz.f188
theorem KS (c:Con) (q:c.sm) (n:Int) (l:List Int) (hl:l.length<=1048576) (R:List Int):∀ (m i:Nat) (a:List Int),i+m=l.length->a.length<=i->a++(l.drop i).flatMap (sD c.ns n)=R->
  To (Eo [5] []) aFk (.pure (.ret (.slice 1 (iv R) .no))) (.head (stk aFk 0) [(1,ii n),(2,.ref 0 0),(5,.slice 1 (iv a) (.own 1 0)),(6,.slice 1 (iv l) .no),(7,ii i)] [.cells 25 c.cs,.tail 0 1 3]):=by
 have k:(iv l).length=l.length:=by simp
 intro m
 induction m with
 | zero=>
  intro i a r o b
  rw [Ae o_] at b
  have b:a++[]=R:=b
  rw [Bm] at b
  subst b
  refine gV ?_
  refine aF fun h=>?_
  repeat' first | (refine gN (hEo [5] []) ?_;conv=>whnf) | exact rfl | (refine zt ?_;try intro h) | refine zu (fun h=>?_) fun h=>?_ | fail
 | succ m j=>
  intro i a r o b
  have p:(iv a).length=a.length:=by simp
  have f:i<l.length:=o_
  rw [Ad f,Hf] at b
  have get:=cQ f
  generalize l[i]=x at b get
  have d:=aFQ c q n x
  rw [aGk] at d
  unfold sD at b
  by_cases g:n∈upL c.ns x
  .rw [if_pos g] at b
   rw [decide_eq_true g] at d
   have next:=j (i+1) (a++[x]) o_ q_ (by rw [Ay];exact b)
   have e:iv (a++[x])=iv a++[ii x]:=by simp
   rw [e] at next
   refine gV ?_
   refine aT fun h=>?_
   repeat' first | (refine gN (hEo [5] []) ?_;conv=>whnf) | refine ⟨i,rfl,?_⟩ | refine ⟨_,get,?_⟩ | refine .pure _ [] d ?_ | refine ⟨⟨by simp only [maxLen];simp;omega,by simp;omega⟩,?_⟩ | exact rfl | (refine zt ?_;try intro h) | refine zu (fun h=>?_) fun h=>?_ | fail
   refine To.part [1,2,5,6,7] [0,1] rfl rfl rfl ?_
   exact next
  .rw [if_neg g] at b
   rw [decide_eq_false g] at d
   have next:=j (i+1) a o_ o_ b
   refine gV ?_
   refine aT fun h=>?_
   repeat' first | (refine gN (hEo [5] []) ?_;conv=>whnf) | refine ⟨i,rfl,?_⟩ | refine ⟨_,get,?_⟩ | refine .pure _ [] d ?_ | exact rfl | (refine zt ?_;try intro h) | refine zu (fun h=>?_) fun h=>?_ | fail
   refine To.part [1,2,5,6,7] [0,1] rfl rfl rfl ?_
   exact next
theorem wL (c:Con) (b:c.sm) (n:Int):aA Tryz.prog 188 [c.av,ii n] [] (.ret (.slice 1 (iv (bB c.ns n)) .no)) []:=by
 have d:=b.ns
 have h1:(jQ c.ns).length<=c.ns.length:=zQ c.ns c.ns.length 0
 have a:=aCY c b
 unfold bB
 generalize jQ c.ns=l at h1 a
 refine cT (E:=(Eo [5] [])) (fn:=Tryz.f188) (g:=.pure _) fun _=>?_
 repeat' first | (refine gN (hEo [5] []) ?_;conv=>whnf) | refine .pure _ [] a ?_ | exact rfl | (refine zt ?_;try intro h) | refine zu (fun h=>?_) fun h=>?_ | fail
 refine To.part [1,2,5,6,7] [0,1] rfl rfl rfl ?_
 exact KS c b n l o_ _ l.length 0 [] o_ s_ rfl
noncomputable abbrev aFg:Func:=Tryz.f152
theorem UN (c:Con) (l:List V3) (b:List Int) (n:b.length<=1048576) (R:V3):∀ (m i:Nat) (v:V3),i+m=b.length->(b.drop i).foldl (smS l) v=R->
  To E aFg (.pure (.ret R.av)) (.head (stk aFg 0) [(2,.slice 3 (vav l) .no),(6,.ref 1 0),(7,.ref 2 0),(8,.slice 1 (iv b) .no),(9,ii i)] [.cells 25 c.cs,.cells 40 V3.zero.cs,.cells 40 v.cs]):=by
 have g:(iv b).length=b.length:=by simp
 intro m
 induction m with
 | zero=>
  intro i v k a
  rw [Ae o_] at a
  have a:v=R:=a
  subst a
  refine gV ?_
  refine aF fun h=>?_
  repeat' first | (refine gN hE ?_;conv=>whnf) | exact rfl | (refine zt ?_;try intro h) | refine zu (fun h=>?_) fun h=>?_ | fail
 | succ m j=>
  intro i v k a
  have f:i<b.length:=o_
  rw [Ad f,Aq] at a
  have get:=cQ f
  generalize b[i]=x at a get
  have d:=uL l x
  have next:=j (i+1) (smS l v x) o_ a
  unfold smS at next
  generalize atV l x=u at d next
  have e:=jM v u
  generalize dL v u=q at e next
  refine gV ?_
  refine aT fun h=>?_
  repeat' first | (refine gN hE ?_;conv=>whnf) | refine ⟨i,rfl,?_⟩ | refine ⟨_,get,?_⟩ | refine .pure _ [] d ?_ | refine .pure _ [] e ?_ | exact rfl | (refine zt ?_;try intro h) | refine zu (fun h=>?_) fun h=>?_ | fail
  exact To.cut [2,6,7,8,9] 3 rfl rfl rfl rfl next
theorem RT (c:Con) (d:c.sm) (n:Int) (l:List V3):aA Tryz.prog 152 [c.av,ii n,.slice 3 (vav l) .no] [] (.ret (gE c.ns n l).av) []:=by
 have h1:=nO c d n
 have a:=wL c d n
 unfold gE
 generalize bB c.ns n=b at h1 a
 refine c_ Tryz.f152 fun _=>?_
 repeat' first | (refine gN hE ?_;conv=>whnf) | refine .pure _ [] a ?_ | exact rfl | (refine zt ?_;try intro h) | refine zu (fun h=>?_) fun h=>?_ | fail
 exact To.cut [2,6,7,8,9] 3 rfl rfl rfl rfl (UN c l b h1 _ b.length 0 V3.zero o_ rfl)
noncomputable abbrev aFh:Func:=Tryz.f154
theorem BA {c:Con} {i:Nat} (h:i<c.ns.length):(nav c.ns)[i]? =some (bN c.ns (i:Int)).av:=by
 unfold bN
 rw [Dl,Ab h]
 exact fU h
theorem UQ (c:Con) (f:c.sm) (n:Int):∀ (m i:Nat) (a:List V3),i+m=c.ns.length->a=(Df i).map (fun j:Nat=>(bN c.ns (j:Int)).n)->
  To (Eo [5] []) aFh (.pure (.ret (gE c.ns n (jP c.ns)).av)) (.head (stk aFh 0) [(1,ii n),(2,.ref 0 0),(4,.ref 1 0),(5,.slice 3 (vav a) (.own 2 0)),(6,ii i)] [.cells 25 c.cs,.cells 40 V3.zero.cs,.tail 0 3 40]):=by
 have k:(nav c.ns).length=c.ns.length:=by simp
 have l:=f.ns
 intro m
 induction m with
 | zero=>
  intro i a d b
  have d:i=c.ns.length:=o_
  have b:a=jP c.ns:=by rw [b,d];rfl
  subst b
  have hs:=RT c f n (jP c.ns)
  generalize gE c.ns n (jP c.ns)=S at hs
  refine gV ?_
  refine aF fun h=>?_
  repeat' first | (refine gN (hEo [5] []) ?_;conv=>whnf) | refine .pure _ [] (aA.strip hs) ?_ | exact rfl | (refine zt ?_;try intro h) | refine zu (fun h=>?_) fun h=>?_ | fail
 | succ m p=>
  intro i a d b
  have o:(vav a).length=a.length:=by simp
  have g:a.length=i:=by rw [b];simp
  have get:=BA (c:=c) (i:=i) o_
  have next:=p (i+1) (a++[(bN c.ns (i:Int)).n]) o_ (by rw [b,Ju,Bl];rfl)
  have e:vav (a++[(bN c.ns (i:Int)).n])=vav a++[(bN c.ns (i:Int)).n.av]:=by simp
  rw [e] at next
  generalize bN c.ns (i:Int)=x at get next
  refine gV ?_
  refine aT fun h=>?_
  repeat' first | (refine gN (hEo [5] []) ?_;conv=>whnf) | refine ⟨i,rfl,?_⟩ | refine ⟨_,get,?_⟩ | refine ⟨⟨by simp only [maxLen];simp;omega,by simp;omega⟩,?_⟩ | exact rfl | (refine zt ?_;try intro h) | refine zu (fun h=>?_) fun h=>?_ | fail
  refine To.part [1,2,4,5,6] [0,1,2] rfl rfl rfl ?_
  exact next
theorem aCU (c:Con) (a:c.sm) (n:Int):aA Tryz.prog 154 [c.av,ii n] [] (.ret (gE c.ns n (jP c.ns)).av) []:=by
 refine cT (E:=(Eo [5] [])) (fn:=Tryz.f154) (g:=.pure _) fun _=>?_
 refine gV ?_
 refine To.part [1,2,4,5,6] [0,1,2] rfl rfl rfl ?_
 exact UQ c a n c.ns.length 0 [] o_ rfl
noncomputable abbrev aBh:Func:=Tryz.f153
theorem OA (c:Con) (d:List V3) (t:Int) (b:List Int) (G:b.length<=1048576) (u:∀ x∈b,c.ok x) (R:V3):∀ (m i:Nat) (v:V3),i+m=b.length->(b.drop i).foldl (uV c.ns d t) v=R->
  To E aBh (.pure (.ret R.av)) (.head (stk aBh 0) [(1,.slice 3 (vav d) .no),(3,ii t),(4,.ref 0 0),(8,.ref 1 0),(9,.ref 2 0),(10,.slice 1 (iv b) .no),(11,ii i)] [.cells 25 c.cs,.cells 40 V3.zero.cs,.cells 40 v.cs]):=by
 have y:(iv b).length=b.length:=by simp
 intro m
 induction m with
 | zero=>
  intro i v B g
  rw [Ae o_] at g
  have g:v=R:=g
  subst g
  refine gV ?_
  refine aF fun h=>?_
  repeat' first | (refine gN hE ?_;conv=>whnf) | exact rfl | (refine zt ?_;try intro h) | refine zu (fun h=>?_) fun h=>?_ | fail
 | succ m z=>
  intro i v B g
  have k:i<b.length:=o_
  have f:=u _ (Bg k)
  rw [Ad k,Aq] at g
  have get:=cQ k
  generalize b[i]=s at g get f
  have next:=z (i+1) (uV c.ns d t v s) o_ g
  unfold uV at next
  by_cases h1:s=t
  .subst h1
   rw [if_pos (decide_eq_true rfl)] at next
   have hst:(s==s)=true:=by simp
   refine gV ?_
   refine aT fun h=>?_
   repeat' first | (refine gN hE ?_;conv=>whnf) | refine ⟨i,rfl,?_⟩ | refine ⟨_,get,?_⟩ | refine Aa (fun h=>?_) (fun h=>absurd h (by rw [hst];decide)) | exact rfl | (refine zt ?_;try intro h) | refine zu (fun h=>?_) fun h=>?_ | fail
   exact To.cut [1,3,4,8,9,10,11] 3 rfl rfl rfl rfl next
  .rw [if_neg (by rw [decide_eq_false h1];decide)] at next
   have hst:(s==t)=false:=by simp [h1]
   obtain ⟨D,A⟩:=f
   have w:s=(s.toNat:Int):=o_
   have e:=BA (c:=c) (i:=s.toNat) A
   rw [<-w] at e
   generalize bN c.ns s=x at e next
   have q:=HK x.n x.l
   generalize tY x.n x.l=q1 at q next
   have o:=uL d s
   generalize atV d s=q2 at o next
   have p:=HK q1 q2
   generalize tY q1 q2=q3 at p next
   have j:=jM v (U7 q3)
   generalize r:U7 q3=q4 at j next
   have F:max q3.a 0=q4.a:=by rw [<-r];rfl
   have C:max q3.b 0=q4.b:=by rw [<-r];rfl
   have e3:max q3.c 0=q4.c:=by rw [<-r];rfl
   subst r
   generalize dL v (U7 q3)=q5 at j next
   refine gV ?_
   refine aT fun h=>?_
   repeat' first
    | exact To.cut [1,3,4,8,9,10,11] 3 rfl rfl rfl rfl next
    | (refine gW hE ?_;conv=>whnf)
    | refine Ai s.toNat (Aa w ?_)
    | refine Ai _ (Aa e ?_)
    | refine Ai i (Aa rfl ?_)
    | refine Ai _ (Aa get ?_)
    | refine Aa (fun h=>absurd h (by rw [hst];decide)) (fun h=>?_)
    | refine .pure _ [] q ?_
    | refine .pure _ [] o ?_
    | refine .pure _ [] p ?_
    | refine .pure _ [] j ?_
    | refine aY ?_
    | refine aN ?_
    | refine aJ ?_
    | refine Ai _ (Aa rfl ?_)
    | refine Aa d_ ?_
    | fail
theorem YW (c:Con) (i:c.sm) (a:List V3) (n t:Int):aA Tryz.prog 153 [c.av,.slice 3 (vav a) .no,ii n,ii t] [] (.ret (uW c.ns a n t).av) []:=by
 have h1:=nO c i n
 have e:=wL c i n
 have d:∀ x∈bB c.ns n,c.ok x:=fun x j=>iH c n x j
 unfold uW
 generalize bB c.ns n=b at h1 e d
 refine c_ Tryz.f153 fun _=>?_
 repeat' first | (refine gN hE ?_;conv=>whnf) | refine .pure _ [] e ?_ | exact rfl | (refine zt ?_;try intro h) | refine zu (fun h=>?_) fun h=>?_ | fail
 exact To.cut [1,3,4,8,9,10,11] 3 rfl rfl rfl rfl (OA c a t b h1 d _ b.length 0 V3.zero o_ rfl)
noncomputable abbrev aFi:Func:=Tryz.f109
theorem US (c:Con) (f:c.sm) (a:List V3) (t:Int) (need:V3) (nd:V3) (l:List Int) (hl:l.length<=1048576) (r:Bool):∀ (m i:Nat),i+m+1=l.length->(((l.drop i).take m).all fun x=>QO c a need t x)=r->
  To E aFi (.pure (.ret (.bool r))) (.head (stk aFi 0) [(1,.slice 3 (vav a) .no),(2,ii t),(4,.ref 0 0),(7,.ref 1 0),(10,.slice 1 (iv l) .no),(11,ii i)] [.cells 25 c.cs,.cells 40 need.cs]):=by
 have o:(iv l).length=l.length:=by simp
 intro m
 induction m with
 | zero=>
  intro i q b
  rw [Hn] at b
  have b:true=r:=b
  subst b
  refine gV ?_
  repeat' first | (refine gN hE ?_;conv=>whnf) | exact rfl | (refine zt ?_;try intro h) | refine zu (fun h=>?_) fun h=>?_ | fail
 | succ m p=>
  intro i q b
  have d:i<l.length:=o_
  rw [Ad d,List.take_succ_cons,Da] at b
  have get:=cQ d
  generalize l[i]=x at b get
  have next:=p (i+1) o_
  unfold QO at b
  have h1:=RT c f x a
  generalize gE c.ns x a=q1 at h1 b
  have g:=jM q1 need
  generalize dL q1 need=q2 at g b
  have h3:=YW c f a x t
  generalize uW c.ns a x t=q3 at h3 b
  have n:=jM q2 q3
  generalize dL q2 q3=q4 at n b
  have k:=aCU c f x
  generalize gE c.ns x (jP c.ns)=q5 at k b
  have e:=kF q4 q5
  cases j:bK q4 q5 with
  | false=>
   rw [j] at e b
   have b:false=r:=b
   subst b
   refine gV ?_
   repeat' first | (refine gN hE ?_;conv=>whnf) | refine ⟨i,rfl,?_⟩ | refine ⟨_,get,?_⟩ | refine .pure _ [] h1 ?_ | refine .pure _ [] g ?_ | refine .pure _ [] h3 ?_ | refine .pure _ [] n ?_ | refine .pure _ [] k ?_ | refine .pure _ [] e ?_ | exact rfl | (refine zt ?_;try intro h) | refine zu (fun h=>?_) fun h=>?_ | fail
  | true=>
   rw [j,Bw] at b
   rw [j] at e
   have next:=next b
   refine gV ?_
   repeat' first | (refine gN hE ?_;conv=>whnf) | refine ⟨i,rfl,?_⟩ | refine ⟨_,get,?_⟩ | refine .pure _ [] h1 ?_ | refine .pure _ [] g ?_ | refine .pure _ [] h3 ?_ | refine .pure _ [] n ?_ | refine .pure _ [] k ?_ | refine .pure _ [] e ?_ | exact rfl | (refine zt ?_;try intro h) | refine zu (fun h=>?_) fun h=>?_ | fail
   exact To.cut [1,2,4,7,10,11] 2 rfl rfl rfl rfl next
theorem JW {ns:List Nod} {t:Int} (a:0<=t) (h1:t.toNat<ns.length):∃ r,upL ns t=t::r:=by
 unfold upL upF
 rw [if_pos (decide_eq_true a),dif_pos h1]
 split
 .exact ⟨_,rfl⟩
 .exact ⟨_,rfl⟩
theorem qK {ns:List Nod} {t:Int} (h:aU ns t=true):0<=t/\t.toNat<ns.length:=by
 exact zqra1
theorem VH (c:Con) (d:List V3) (t:Int) (need:V3) (r:List Int) (j:upL c.ns t=t::r):(upL c.ns t).all (H7 c d t need)=(VB c d need t&&((bG c.ns t).take ((bG c.ns t).length-1)).all fun x=>QO c d need t x):=by
 have f:=G3 c.ns (t.toNat+1) t
 have f:(upL c.ns t).Pairwise fun a b=>b<a:=f
 unfold bG
 rw [j] at f⊢
 rw [Da]
 unfold H7
 rw [if_pos (decide_eq_true rfl)]
 congr 1
 have e:(En ((t::r).reverse.length-1) (t::r).reverse)=r.reverse:=by
  rw [Iu,Bo,List.length_reverse]
  show En (r.length+1-1) _=_
  rw [Ih,Ej s_]
  exact Cn s_
 rw [e,List.all_reverse]
 rw [Fz,Bq,Bq]
 have i:∀ x∈r,¬ x=t:=fun x g=>by
  have:=(Bn.1 f).1 x g
  omega
 constructor
 .intro h x g
  have:=h x g
  rwa [if_neg (by rw [decide_eq_false (i x g)];decide)] at this
 .intro h x g
  rw [if_neg (by rw [decide_eq_false (i x g)];decide)]
  exact h x g
theorem UO (c:Con) (m:c.sm) (a:List V3) (t:Int) (need:V3) (r:Bool) (d:yW c a t need=r):aA Tryz.prog 109 [c.av,.slice 3 (vav a) .no,ii t,need.av] [] (.ret (.bool r)) []:=by
 have j:=fO c m t
 rw [qB] at j
 unfold yW at d
 cases k:aU c.ns t with
 | false=>
  rw [k] at j
  rw [if_neg (by rw [k];decide)] at d
  subst d
  refine c_ Tryz.f109 fun _=>?_
  repeat' first | (refine gN hE ?_;conv=>whnf) | refine .pure _ [] j ?_ | exact rfl | (refine zt ?_;try intro h) | refine zu (fun h=>?_) fun h=>?_ | fail
 | true=>
  rw [k] at j
  rw [if_pos k] at d
  obtain ⟨B,y⟩:=qK k
  obtain ⟨C,w⟩:=JW B y
  rw [VH c a t need C w] at d
  have v:=mU c.ns t
  have q:0<(bG c.ns t).length:=by unfold bG;rw [w];simp
  have hp:=qA c m t
  generalize bG c.ns t=l at d v hp q
  have z:=m.ns
  have p:t=(t.toNat:Int):=o_
  have e:=BA (c:=c) (i:=t.toNat) y
  rw [<-p] at e
  unfold VB at d
  generalize bN c.ns t=x at e d
  have h1:=uL a t
  generalize atV a t=q1 at h1 d
  have s:=jM q1 need
  generalize dL q1 need=q2 at s d
  have h3:=jM x.n x.b
  generalize dL x.n x.b=q3 at h3 d
  have o:=kF q2 q3
  cases u:bK q2 q3 with
  | false=>
   rw [u] at o d
   have d:false=r:=d
   subst d
   refine c_ Tryz.f109 fun _=>?_
   repeat' first | (refine gN hE ?_;conv=>whnf) | refine .pure _ [] j ?_ | refine ⟨t.toNat,p,?_⟩ | refine ⟨_,e,?_⟩ | refine .pure _ [] h1 ?_ | refine .pure _ [] s ?_ | refine .pure _ [] h3 ?_ | refine .pure _ [] o ?_ | exact rfl | (refine zt ?_;try intro h) | refine zu (fun h=>?_) fun h=>?_ | fail
  | true=>
   rw [u,Bw] at d
   rw [u] at o
   refine c_ Tryz.f109 fun _=>?_
   repeat' first | (refine gN hE ?_;conv=>whnf) | refine .pure _ [] j ?_ | refine ⟨t.toNat,p,?_⟩ | refine ⟨_,e,?_⟩ | refine .pure _ [] h1 ?_ | refine .pure _ [] s ?_ | refine .pure _ [] h3 ?_ | refine .pure _ [] o ?_ | refine .pure _ [] hp ?_ | exact rfl | (refine zt ?_;try intro h) | refine zu (fun h=>?_) fun h=>?_ | fail
   exact To.cut [1,2,4,7,10,11] 2 rfl rfl rfl rfl (US c m a t need need l o_ r (l.length-1) 0 o_ d)
theorem YN (c:Con) (b:c.sm) (a:List V3) (t:Int) (need:V3):aA Tryz.prog 109 [c.av,.slice 3 (vav a) .no,ii t,need.av] [] (.ret (.bool (yW c a t need))) []:=UO c b a t need _ rfl
noncomputable abbrev V1:Func:=Tryz.f95
abbrev ofO (c:Con) (xs:List V3):List AObj:=[.cells 25 c.cs,.row 0 3 40 (vav xs)]
theorem aFR (c:Con) (l:List Rn) (R:List V3) (x:Rn) (j:Nat) (G:j<1048576) (A:(rav l)[j]? =some x.av) (p:List Int) (D:p.length<=1048576) (n:∀ k∈p,0<=k/\k.toNat<c.ns.length):
  ∀ (m i:Nat) (xs:List V3),xs.length=c.ns.length->i+m=p.length->
   To E V1 (.pure (.ret (.slice 3 (vav R) .no))) (.head (stk V1 0) [(1,.slice 14 (rav l) .no),(2,.ref 0 0),(5,.row 1 0),(6,ii ((j:Int)+1))] (ofO c ((p.drop i).foldl (sF (dem x.g)) xs)))->
  To E V1 (.pure (.ret (.slice 3 (vav R) .no))) (.head (stk V1 1) [(1,.slice 14 (rav l) .no),(2,.ref 0 0),(5,.row 1 0),(6,ii j),(7,.slice 1 (iv p) .no),(8,ii i)] (ofO c xs)):=by
 have t:(iv p).length=p.length:=by simp
 have w:(rav l).length=l.length:=by simp
 intro m
 induction m with
 | zero=>
  intro i xs f C a
  rw [Ae o_] at a
  refine gV ?_
  refine aF fun h=>?_
  refine gV ?_
  refine aJ ?_
  refine gV ?_
  exact To.cut [1,2,5,6] 2 rfl rfl rfl rfl a
 | succ m B=>
  intro i xs f C a
  have b:i<p.length:=o_
  obtain ⟨F,z⟩:=n _ (Bg b)
  rw [Ad b,Aq] at a
  have get:=cQ b
  generalize p[i]=k at a get F z
  have y:k=(k.toNat:Int):=o_
  have v:(vav xs).length=xs.length:=by simp
  have next:=B (i+1) (sF (dem x.g) xs k) (by rw [ND];exact f) o_ a
  have e:k.toNat<xs.length:=o_
  have o:(vav xs)[k.toNat]? =some xs[k.toNat].av:=jJ e
  unfold sF at next
  rw [Ab e,show ((some xs[k.toNat]).getD V3.zero)=xs[k.toNat] from rfl] at next
  generalize xs[k.toNat]=u at o next
  have s:=HR x.g
  generalize dem x.g=d at s next a
  have r:=jM u d
  generalize dL u d=q at r next
  unfold ofO at next
  rw [<-GY] at next
  refine gV ?_
  refine aT fun h=>?_
  repeat' first
   | (refine gN hE ?_;conv=>whnf)
   | refine Ai i (Aa rfl ?_)
   | refine Ai k.toNat (Aa y ?_)
   | refine Ai j (Aa rfl ?_)
   | refine Ai _ (Aa get ?_)
   | refine Ai _ (Aa o ?_)
   | refine Ai _ (Aa A ?_)
   | refine .pure _ [] s ?_
   | refine .pure _ [] r ?_
   | refine Aa o_ ?_
   | refine aJ ?_
   | fail
  exact To.cut [1,2,5,6,7,8] 2 rfl rfl rfl rfl next
theorem aCT (c:Con) (o:c.sm) (l:List Rn) (hl:l.length<=1048576) (R:List V3):∀ (m i:Nat) (xs:List V3),i+m=l.length->xs.length=c.ns.length->(l.drop i).foldl (yV c) xs=R->
  To E V1 (.pure (.ret (.slice 3 (vav R) .no))) (.head (stk V1 0) [(1,.slice 14 (rav l) .no),(2,.ref 0 0),(5,.row 1 0),(6,ii i)] (ofO c xs)):=by
 have r:(rav l).length=l.length:=by simp
 have s:=o.ns
 intro m
 induction m with
 | zero=>
  intro i xs v j b
  rw [Ae o_] at b
  subst b
  refine gV ?_
  refine aF fun h=>?_
  repeat' first | (refine gN hE ?_;conv=>whnf) | exact rfl | (refine zt ?_;try intro h) | refine zu (fun h=>?_) fun h=>?_ | fail
 | succ m t=>
  intro i xs v j b
  have d:i<l.length:=o_
  rw [Ad d,Aq] at b
  have get:(rav l)[i]? =some l[i].av:=cJ d
  generalize l[i]=x at b get
  have next:=t (i+1) (yV c xs x) o_ (by rw [YR];exact j) b
  have a:=fO c o x.g.ten
  rw [qB] at a
  unfold yV at next
  cases f:aU c.ns x.g.ten with
  | false=>
   rw [f] at a
   rw [if_neg (by rw [f];decide)] at next
   refine gV ?_
   refine aT fun h=>?_
   repeat' first | (refine gN hE ?_;conv=>whnf) | refine ⟨i,rfl,?_⟩ | refine ⟨_,get,?_⟩ | refine .pure _ [] a ?_ | exact rfl | (refine zt ?_;try intro h) | refine zu (fun h=>?_) fun h=>?_ | fail
   exact To.cut [1,2,5,6] 2 rfl rfl rfl rfl next
  | true=>
   rw [f] at a
   rw [if_pos f] at next
   have hp:=qA c o x.g.ten
   have q:=mU c.ns x.g.ten
   have e:∀ k∈bG c.ns x.g.ten,0<=k/\k.toNat<c.ns.length:=fun k u=>G4 _ _ _ _ (Gu.1 u)
   generalize bG c.ns x.g.ten=p at hp q e next
   have n:=aFR c l R x i o_ get p o_ e p.length 0 xs j o_ next
   refine gV ?_
   refine aT fun h=>?_
   repeat' first | (refine gN hE ?_;conv=>whnf) | refine ⟨i,rfl,?_⟩ | refine ⟨_,get,?_⟩ | refine .pure _ [] a ?_ | refine .pure _ [] hp ?_ | exact rfl | (refine zt ?_;try intro h) | refine zu (fun h=>?_) fun h=>?_ | fail
   exact To.cut [1,2,5,6,7,8] 2 rfl rfl rfl rfl n
theorem HM (c:Con) (b:c.sm) (l:List Rn) (hl:l.length<=1048576):aA Tryz.prog 95 [c.av,.slice 14 (rav l) .no] [] (.ret (.slice 3 (vav (ofL c l)) .no)) []:=by
 have h1:=b.ns
 have a:(nav c.ns).length=c.ns.length:=by simp
 rw [<-aFa]
 have next:=aCT c b l hl (YT c l) l.length 0 (Ah c.ns.length V3.zero) o_ s_ rfl
 unfold ofO at next
 rw [show vav (Ah c.ns.length V3.zero)=Ah c.ns.length (AVal.agg [ii 0,ii 0,ii 0]) from by simp [vav,V3.av,V3.zero,V3.cs]] at next
 generalize YT c l=R at next
 refine c_ Tryz.f95 fun _=>?_
 refine gV ?_
 refine ⟨c.ns.length,by rw [a],?_⟩
 refine gV ?_
 refine ⟨⟨rfl,by omega,by simp only [maxLen];omega⟩,?_⟩
 refine gV ?_
 exact To.cut [1,2,5,6] 2 rfl rfl rfl rfl next
noncomputable abbrev qQ:Func:=Tryz.f112
theorem Y3 (c:Con) (r:List Rn) (R:List V3) (x:Rn) (j:Nat) (A:j<1048576) (b:(rav r)[j]? =some x.av) (y:x.hs.length<=1048576) (z:c.hs.length<=1048576):
  ∀ (m i:Nat) (xs:List V3),xs.length=c.hs.length->i+m=x.hs.length->
   To (Er [5] []) qQ (.pure (.ret (.slice 3 (vav R) .no))) (.head (stk qQ 1) [(1,.slice 14 (rav r) .no),(5,.row 1 0),(7,ii ((j:Int)+1))] (ofO c ((x.hs.drop i).foldl (nG x.g.need) xs)))->
  To (Er [5] []) qQ (.pure (.ret (.slice 3 (vav R) .no))) (.head (stk qQ 2) [(1,.slice 14 (rav r) .no),(5,.row 1 0),(7,ii j),(8,ii i)] (ofO c xs)):=by
 have o:(iv x.hs).length=x.hs.length:=by simp
 have s:(rav r).length=r.length:=by simp
 intro m
 induction m with
 | zero=>
  intro i xs f w a
  rw [Ae o_] at a
  refine gV ?_
  refine ⟨j,rfl,?_⟩
  refine gV ?_
  refine ⟨_,b,?_⟩
  refine gV ?_
  refine aF fun h=>?_
  refine gV ?_
  refine aJ ?_
  refine gV ?_
  refine To.part [1,5,7] [0,1] rfl rfl rfl ?_
  exact a
 | succ m v=>
  intro i xs f w a
  have e:i<x.hs.length:=o_
  rw [Ad e,Aq] at a
  have get:=cQ e
  generalize x.hs[i]=u0 at a get
  have p:(vav xs).length=xs.length:=by simp
  have next:=v (i+1) (nG x.g.need xs u0) (by rw [nF];exact f) o_ a
  unfold nG ofO at next
  by_cases h1:0<=u0
  .rw [if_pos (decide_eq_true h1)] at next
   by_cases n:u0<(xs.length:Int)
   .rw [if_pos (decide_eq_true n)] at next
    have d:u0.toNat<xs.length:=o_
    have t:u0=(u0.toNat:Int):=o_
    rw [Ab d] at next
    have l:(vav xs)[u0.toNat]? =some xs[u0.toNat].av:=jJ d
    rw [show ((some xs[u0.toNat]).getD V3.zero)=xs[u0.toNat] from rfl] at next
    generalize xs[u0.toNat]=u at l next
    have k:=HK u x.g.need
    generalize tY u x.g.need=q at k next
    rw [<-GY] at next
    refine gV ?_
    refine ⟨j,rfl,?_⟩
    refine gV ?_
    refine ⟨_,b,?_⟩
    refine gV ?_
    refine aT fun h=>?_
    repeat' first | (refine gN (hEr [5] []) ?_;conv=>whnf) | refine ⟨i,rfl,?_⟩ | refine ⟨j,rfl,?_⟩ | refine ⟨u0.toNat,t,?_⟩ | refine ⟨_,get,?_⟩ | refine ⟨_,b,?_⟩ | refine ⟨_,l,?_⟩ | refine .pure _ [] k ?_ | exact rfl | (refine zt ?_;try intro h) | refine zu (fun h=>?_) fun h=>?_ | fail
    exact zqra4
   .rw [if_neg (by rw [decide_eq_false n];decide)] at next
    refine gV ?_
    refine ⟨j,rfl,?_⟩
    refine gV ?_
    refine ⟨_,b,?_⟩
    refine gV ?_
    refine aT fun h=>?_
    repeat' first | (refine gN (hEr [5] []) ?_;conv=>whnf) | refine ⟨i,rfl,?_⟩ | refine ⟨j,rfl,?_⟩ | refine ⟨_,get,?_⟩ | refine ⟨_,b,?_⟩ | exact rfl | (refine zt ?_;try intro h) | refine zu (fun h=>?_) fun h=>?_ | fail
    exact zqra4
  .rw [if_neg (by rw [decide_eq_false h1];decide)] at next
   refine gV ?_
   refine ⟨j,rfl,?_⟩
   refine gV ?_
   refine ⟨_,b,?_⟩
   refine gV ?_
   refine aT fun h=>?_
   repeat' first | (refine gN (hEr [5] []) ?_;conv=>whnf) | refine ⟨i,rfl,?_⟩ | refine ⟨j,rfl,?_⟩ | refine ⟨_,get,?_⟩ | refine ⟨_,b,?_⟩ | exact rfl | (refine zt ?_;try intro h) | refine zu (fun h=>?_) fun h=>?_ | fail
   exact zqra4
theorem UV (c:Con) (k:c.sm) (r:List Rn) (e:Sm r) (R:List V3):∀ (m i:Nat) (xs:List V3),i+m=r.length->xs.length=c.hs.length->(r.drop i).foldl sL xs=R->
  To (Er [5] []) qQ (.pure (.ret (.slice 3 (vav R) .no))) (.head (stk qQ 1) [(1,.slice 14 (rav r) .no),(5,.row 1 0),(7,ii i)] (ofO c xs)):=by
 have g:(rav r).length=r.length:=by simp
 have hl:=e.1
 intro m
 induction m with
 | zero=>
  intro i xs n d b
  rw [Ae o_] at b
  subst b
  refine gV ?_
  refine aF fun h=>?_
  repeat' first | (refine gN (hEr [5] []) ?_;conv=>whnf) | exact rfl | (refine zt ?_;try intro h) | refine zu (fun h=>?_) fun h=>?_ | fail
 | succ m j=>
  intro i xs n d b
  have a:i<r.length:=o_
  have f:=e.at a
  rw [Ad a,Aq] at b
  generalize l:r[i]=x at b f
  have get:(rav r)[i]? =some x.av:=(cJ a).trans (by rw [l])
  have next:=j (i+1) (sL xs x) o_ (by rw [rU];exact d) b
  refine gV ?_
  refine aT fun h=>?_
  refine gV ?_
  refine To.part [1,5,7,8] [0,1] rfl rfl rfl ?_
  exact Y3 c r R x i o_ get f k.hs x.hs.length 0 xs d o_ next
theorem OF (c:Con) (f:c.sm) (r:List Rn) (k:Sm r):∀ (m i:Nat) (xs:List V3),i+m=c.hs.length->xs=(Df i).map (fun j:Nat=>(aS c.hs (j:Int)).c)->
  To (Er [5] []) qQ (.pure (.ret (.slice 3 (vav (fR c r)) .no))) (.head (stk qQ 0) [(1,.slice 14 (rav r) .no),(2,.ref 0 0),(5,.row 1 0),(6,ii i)] (ofO c xs)):=by
 have g:(hav c.hs).length=c.hs.length:=by simp
 have h1:=f.hs
 intro m
 induction m with
 | zero=>
  intro i xs b a
  have b:i=c.hs.length:=o_
  subst b
  have next:=UV c f r k (fR c r) r.length 0 xs o_ (by rw [a];simp) (by rw [a];rfl)
  refine gV ?_
  refine aF fun h=>?_
  refine gV ?_
  refine To.part [1,5,7] [0,1] rfl rfl rfl ?_
  exact next
 | succ m n=>
  intro i xs b a
  have o:xs.length=i:=by rw [a];simp
  have l:(vav xs).length=xs.length:=by simp
  have d:(hav c.hs)[i]? =some (aS c.hs (i:Int)).av:=rR o_
  have next:=n (i+1) (xs++[(aS c.hs (i:Int)).c]) o_ (by rw [a,Ju,Bl];rfl)
  unfold ofO at next
  have e:vav (xs++[(aS c.hs (i:Int)).c])=vav xs++[(aS c.hs (i:Int)).c.av]:=by simp
  rw [e] at next
  generalize aS c.hs (i:Int)=x at d next
  refine gV ?_
  refine aT fun h=>?_
  repeat' first | (refine gN (hEr [5] []) ?_;conv=>whnf) | refine ⟨i,rfl,?_⟩ | refine ⟨_,d,?_⟩ | refine ⟨⟨by simp only [maxLen];simp;omega,by simp;omega⟩,?_⟩ | exact rfl | (refine zt ?_;try intro h) | refine zu (fun h=>?_) fun h=>?_ | fail
  refine To.part [1,2,5,6] [0,1] rfl rfl rfl ?_
  exact next
theorem Y2 (c:Con) (b:c.sm) (r:List Rn) (a:Sm r):aA Tryz.prog 112 [c.av,.slice 14 (rav r) .no] [] (.ret (.slice 3 (vav (fR c r)) .no)) []:=by
 refine cT (E:=(Er [5] [])) (fn:=Tryz.f112) (g:=.pure _) fun _=>?_
 refine gV ?_
 refine To.part [1,2,5,6] [0,1] rfl rfl rfl ?_
 exact OF c b r a c.hs.length 0 [] o_ rfl
def alB (c:Con) (lv a b:Int):Bool:=
 if lv=0 then decide (a=b)
 else if lv=1 then decide ((aS c.hs a).f=(aS c.hs b).f/\(aS c.hs a).b=(aS c.hs b).b/\(aS c.hs a).r=(aS c.hs b).r)
 else if lv=2 then decide ((aS c.hs a).f=(aS c.hs b).f/\(aS c.hs a).b=(aS c.hs b).b)
 else decide ((aS c.hs a).f=(aS c.hs b).f)
abbrev pL (c:Con) (lv a:Int):List Int:=ofK (aS c.hs a) a lv
theorem JK (c:Con) (lv a b:Int) (g:0<=lv) (h3:lv<=3):alB c lv a b=decide (pL c lv a=pL c lv b):=by
 unfold alB pL ofK
 by_cases f:lv=0
 .subst f
  by_cases h:a=b
  .subst h;simp
  .simp [h]
 by_cases d:lv=1
 .subst d;simp
 by_cases e:lv=2
 .subst e;simp
 have e3:lv=3:=o_
 subst e3
 simp
def cP (c:Con) (lv i:Int):List (List Int)->Nat->Option Nat
 | [],_=>none
 | g::r,k=>if alB c lv (g.headD 0) i=true then some k else cP c lv i r (k+1)
def rgS (c:Con) (lv:Int) (s:List (List Int)) (i:Nat):List (List Int):=
 match cP c lv (i:Int) s 0 with
 | some k=>s.set k ((s[k]?).getD []++[(i:Int)])
 | none=>s++[[(i:Int)]]
def rgL (c:Con) (lv:Int):List (List Int):=if decide (lv<0)=true then [] else if decide (3<lv)=true then [] else (Df c.hs.length).foldl (rgS c lv) []
def nC (c:Con) (lv:Int):Nat->List (List Int)->List (List Int×Nat)
 | _,[]=>[]
 | k,g::r=>(pL c lv (g.headD 0),k)::nC c lv (k+1) r
theorem B9 (c:Con) (lv i:Int) (a:0<=lv) (h3:lv<=3):∀ (s:List (List Int)) (k:Nat),kS (nC c lv k s) (pL c lv i)=cP c lv i s k
 | [],k=>rfl
 | g::r,k=>by
  unfold nC kS cP
  rw [JK c lv _ _ a h3,B9 c lv i a h3 r (k+1)]
  by_cases h:pL c lv (g.headD 0)=pL c lv i
  .rw [if_pos h,if_pos (decide_eq_true h)]
  .rw [if_neg h,if_neg (by rw [decide_eq_false h];decide)]
theorem FM (c:Con) (lv i:Int):∀ (s:List (List Int)) (k m:Nat),(∀ g∈s,g≠[])->nC c lv m (s.set k ((s[k]?).getD []++[i]))=nC c lv m s
 | [],k,m,_=>by simp
 | g::r,0,m,h=>by
  have b:=h g s_
  cases g with
  | nil=>exact absurd rfl b
  | cons a t=>rfl
 | g::r,k+1,m,h=>by
  have d:=FM c lv i r k (m+1) fun x e=>h x (by simp [e])
  show _::nC c lv (m+1) (r.set k ((r[k]?).getD []++[i]))=_
  rw [d]
  rfl
theorem B8 (c:Con) (lv i:Int):∀ (s:List (List Int)) (m:Nat),nC c lv m (s++[[i]])=nC c lv m s++[(pL c lv i,m+s.length)]
 | [],m=>rfl
 | g::r,m=>by
  show _::nC c lv (m+1) (r++[[i]])=_::(nC c lv (m+1) r++_)
  rw [B8 c lv i r (m+1)]
  simp only [Bt]
  rw [show m+1+r.length=m+(r.length+1) from by omega]
theorem aFY (c:Con) (lv:Int) (f:0<=lv) (h3:lv<=3) (s:GSt) (i:Nat) (h1:s.1=nC c lv 0 s.2) (b:∀ g∈s.2,g≠[]):
  (gpS c lv s i).2=rgS c lv s.2 i/\(gpS c lv s i).1=nC c lv 0 (rgS c lv s.2 i)/\∀ g∈rgS c lv s.2 i,g≠[]:=by
 have e:=B9 c lv (i:Int) f h3 s.2 0
 rw [<-h1] at e
 unfold gpS rgS
 have d:kS s.1 (ofK (aS c.hs (i:Int)) i lv)=cP c lv (i:Int) s.2 0:=e
 rw [d]
 cases cP c lv (i:Int) s.2 0 with
 | some k=>
  refine ⟨rfl,?_,fun g a=>?_⟩
  .show s.1=_
   rw [h1,FM c lv i s.2 k 0 b]
  .rcases Dj a with a | rfl
   .exact b g a
   .simp
 | none=>
  refine ⟨rfl,?_,fun g a=>?_⟩
  .show s.1++_=_
   rw [h1,B8,Cb]
  .rcases Ao.1 a with a | a
   .exact b g a
   .simp at a;subst a;simp
theorem Y1 (c:Con) (lv:Int):rgL c lv=gpL c lv:=by
 unfold rgL gpL
 by_cases h1:lv<0
 .simp only [h1,decide_true,if_true]
 by_cases e:3<lv
 .simp only [h1,e,decide_true,decide_false,if_true,if_false,Cv]
 simp only [h1,e,decide_false,if_false,Cv]
 have key:∀ (l:List Nat) (s:GSt),s.1=nC c lv 0 s.2->(∀ g∈s.2,g≠[])->l.foldl (rgS c lv) s.2=(l.foldl (gpS c lv) s).2:=fun l=>by
  induction l with
  | nil=>intro s _ _;rfl
  | cons i r j=>
   intro s a b
   obtain ⟨d,h,e3⟩:=aFY c lv o_ o_ s i a b
   rw [Aq,Aq,<-d,j _ (by rw [d];exact h) (by rw [d];exact e3)]
 exact key _ ([],[]) rfl (fun g f=>by simp at f)
def rrF (free need:V3):Nat->Int->Int
 | 0,n=>n
 | f+1,n=>if bK (NG need (n+1)) free=true then (if bK need free=true then rrF free need f (n+1) else n) else n
def rrI (free need:V3):Int:=rrF free need 16 0
theorem bM {v:V3} (h:aH v=true):(0<=v.a/\v.a<=1048576)/\(0<=v.b/\v.b<=1048576)/\(0<=v.c/\v.c<=1048576):=by
 unfold aH at h
 simpa [Af,and_assoc] using h
theorem wB {a b:V3}:bK a b=true↔a.a<=b.a/\a.b<=b.b/\a.c<=b.c:=by
 unfold bK
 by_cases h1:b.a<a.a
 .first | (simp [h1];done) | (simp [h1];omega)
 by_cases d:b.b<a.b
 .first | (simp [h1,d];done) | (simp [h1,d];omega)
 by_cases h3:b.c<a.c
 .first | (simp [h1,d,h3];done) | (simp [h1,d,h3];omega)
 first | (simp [h1,d,h3];done) | (simp [h1,d,h3];omega)
theorem JA {n m:Int} (h1: -m<=n) (a:n<=m):eU n m=n:=by unfold eU;omega
theorem aHU {x n:Int} (h1:0<=x) (b:x<=1048576) (h3:0<=n) (a:n<=16):0<=x*n/\x*n<=16777216:=by
 have c:x*n<=1048576*16:=Int.mul_le_mul b a h3 d_
 exact ⟨Hj h1 h3,by omega⟩
theorem H4 {x n:Int} (h1:0<=x) (b:x<=1048576) (h3:0<=n) (a:n<=16):EA x n=x*n:=by
 have:=aHU h1 b h3 a
 unfold EA
 rw [JA (n:=x) o_ o_,JA (n:=n) o_ o_,JA o_ o_]
theorem TY {need free:V3} (f:aH need=true) {n:Int} (d:0<=n) (h1:n<=16):bK (NG need n) free=true↔need.a*n<=free.a/\need.b*n<=free.b/\need.c*n<=free.c:=by
 obtain ⟨⟨e,j⟩,⟨g,i⟩,k,h⟩:=bM f
 rw [wB]
 show EA need.a n<=free.a/\EA need.b n<=free.b/\EA need.c n<=free.c↔_
 rw [H4 e j d h1,H4 g i d h1,H4 k h d h1]
theorem A7 {m f k n:Int} (d:0<=k) (c:k<=f):n<=xX m f k↔n<=m/\k*n<=f:=by
 unfold xX
 by_cases h:0<k
 .rw [if_pos (decide_eq_true h),Int.tdiv_eq_ediv_of_nonneg o_]
  have:=Int.le_ediv_iff_mul_le h (a:=n) (b:=f)
  rw [Int.mul_comm] at this
  omega
 .have:k=0:=o_
  subst this
  rw [if_neg d_]
  omega
theorem HL {free need:V3} (k:aH need=true) (h:bK need free=true) (n:Int):n<=cO free need↔n<=16/\need.a*n<=free.a/\need.b*n<=free.b/\need.c*n<=free.c:=by
 obtain ⟨⟨i,_⟩,⟨l,_⟩,j,_⟩:=bM k
 obtain ⟨h1,m,h3⟩:=wB.1 h
 unfold cO
 rw [if_pos h,A7 j h3,A7 l m,A7 i h1]
 constructor
 .rintro ⟨⟨⟨g,d⟩,f⟩,e⟩;exact ⟨g,d,f,e⟩
 .rintro ⟨g,d,f,e⟩;exact ⟨⟨⟨g,d⟩,f⟩,e⟩
theorem YM {free need:V3} (b:aH need=true) (a:bK need free=true):∀ (f:Nat) (n:Int),0<=n->n+f=16->n<=cO free need->rrF free need f n=cO free need
 | 0,n,h0,h1,h2=>by
  have h3:=A8 free need
  unfold rrF
  omega
 | f+1,n,h0,h1,h2=>by
  unfold rrF
  have hm:=TY (free:=free) b (n:=n+1) o_ o_
  have c:=HL b a (n+1)
  by_cases h:bK (NG need (n+1)) free=true
  .rw [if_pos h,if_pos a]
   exact YM b a f (n+1) o_ o_ (c.2 ⟨by omega,hm.1 h⟩)
  .rw [if_neg h]
   have:¬ n+1<=cO free need:=fun d=>h (hm.2 (c.1 d).2)
   omega
theorem aHL {free need:V3} (b:aH need=true):rrI free need=cO free need:=by
 unfold rrI
 by_cases a:bK need free=true
 .refine YM b a 16 0 d_ d_ ((HL b a 0).2 ?_)
  obtain ⟨⟨c,_⟩,⟨d,_⟩,f,_⟩:=bM b
  obtain ⟨h1,e,h3⟩:=wB.1 a
  simp only [Int.mul_zero]
  omega
 .unfold rrF cO
  rw [if_neg a,if_neg a]
  split<;>rfl
def vH (c:Con) (a:Int):Prop:=0<=a/\a.toNat<c.hs.length
theorem aH4 {c:Con} {a:Int} (h:vH c a):(hav c.hs)[a.toNat]? =some (aS c.hs a).av:=by
 have:=rR (c:=c) (i:=a.toNat) h.2
 rwa [Hw h.1] at this
noncomputable abbrev fAl:Func:=Tryz.f189
theorem aHt (c:Con):frzs [0] [.cells 25 c.cs]=[.fcells c.cs]:=by kernel_rfl
theorem aEW (c:Con) (lv a b:Int):CR [4] (aC [.fcells c.cs]) [(1,ii lv),(2,ii a),(3,ii b),(4,.ref 0 0),(8,.bool false)]=[(1,ii lv),(2,ii a),(3,ii b),(4,.ptr c.cs),(8,.bool false)]:=by kernel_rfl
theorem AD {g:Goal} {ks:List KI} (c:Con) (lv a b:Int) (h:To (Er [] [16,17,18,19,20]) fAl g (.code ks [(1,ii lv),(2,ii a),(3,ii b),(4,.ptr c.cs),(8,.bool false)] [.fcells c.cs])):
  To (Er [] [16,17,18,19,20]) fAl g (.code ks [(1,ii lv),(2,ii a),(3,ii b),(4,.ref 0 0),(8,.bool false)] [.cells 25 c.cs]):=by
 refine To.frz [4] [0] ?_
 rw [aHt,aEW]
 exact h
theorem W2 (c:Con) (lv a b:Int) (q:0<=lv) (h3:lv<=3) (m:vH c a) (l:vH c b) (r:Bool) (d:alB c lv a b=r):aA Tryz.prog 189 [c.av,ii lv,ii a,ii b] [] (.ret (.bool r)) []:=by
 have e:=aH4 m
 have i:=aH4 l
 have j:a=(a.toNat:Int):=by have:=m.1;omega
 have k:b=(b.toNat:Int):=by have:=l.1;omega
 unfold alB at d
 generalize aS c.hs a=x at e d
 generalize aS c.hs b=y at i d
 by_cases p:lv=0
 .subst p
  rw [if_pos rfl] at d
  subst d
  refine cT (E:=(Er [] [16,17,18,19,20])) (fn:=Tryz.f189) (g:=.pure _) fun _=>?_
  refine cX (hEr [] [16,17,18,19,20]) 10 ?_;conv=>whnf
  refine To.cutC [1,2,3,4,8] 1 rfl rfl rfl rfl ?_
  refine AD c _ a b ?_
  repeat' first | (refine gN (hEr [] [16,17,18,19,20]) ?_;conv=>whnf) | refine ⟨a.toNat,j,?_⟩ | refine ⟨b.toNat,k,?_⟩ | refine ⟨_,e,?_⟩ | refine ⟨_,i,?_⟩ | exact rfl | (refine zt ?_;try intro h) | refine zu (fun h=>?_) fun h=>?_ | fail
 by_cases o:lv=1
 .subst o
  rw [if_neg d_,if_pos rfl] at d
  refine cT (E:=(Er [] [16,17,18,19,20])) (fn:=Tryz.f189) (g:=.pure _) fun _=>?_
  refine cX (hEr [] [16,17,18,19,20]) 10 ?_;conv=>whnf
  refine To.cutC [1,2,3,4,8] 1 rfl rfl rfl rfl ?_
  refine AD c _ a b ?_
  repeat' first | (refine gN (hEr [] [16,17,18,19,20]) ?_;conv=>whnf) | refine ⟨a.toNat,j,?_⟩ | refine ⟨b.toNat,k,?_⟩ | refine ⟨_,e,?_⟩ | refine ⟨_,i,?_⟩ | exact rfl | (refine zt ?_;try intro h) | refine zu (fun h=>?_) fun h=>?_ | fail
  all_goals (refine congrArg (fun b=>Res.ret (AVal.bool b)) ?_;rw [<-d];clear e i j k m l d;simp_all<;>rfl)
 by_cases n:lv=2
 .subst n
  rw [if_neg d_,if_neg d_,if_pos rfl] at d
  refine cT (E:=(Er [] [16,17,18,19,20])) (fn:=Tryz.f189) (g:=.pure _) fun _=>?_
  refine cX (hEr [] [16,17,18,19,20]) 10 ?_;conv=>whnf
  refine To.cutC [1,2,3,4,8] 1 rfl rfl rfl rfl ?_
  refine AD c _ a b ?_
  repeat' first | (refine gN (hEr [] [16,17,18,19,20]) ?_;conv=>whnf) | refine ⟨a.toNat,j,?_⟩ | refine ⟨b.toNat,k,?_⟩ | refine ⟨_,e,?_⟩ | refine ⟨_,i,?_⟩ | exact rfl | (refine zt ?_;try intro h) | refine zu (fun h=>?_) fun h=>?_ | fail
  all_goals (refine congrArg (fun b=>Res.ret (AVal.bool b)) ?_;rw [<-d];clear e i j k m l d;simp_all<;>rfl)
 have e3:lv=3:=o_
 subst e3
 rw [if_neg d_,if_neg d_,if_neg d_] at d
 subst d
 refine cT (E:=(Er [] [16,17,18,19,20])) (fn:=Tryz.f189) (g:=.pure _) fun _=>?_
 refine cX (hEr [] [16,17,18,19,20]) 10 ?_;conv=>whnf
 refine To.cutC [1,2,3,4,8] 1 rfl rfl rfl rfl ?_
 refine AD c _ a b ?_
 repeat' first | (refine gN (hEr [] [16,17,18,19,20]) ?_;conv=>whnf) | refine ⟨a.toNat,j,?_⟩ | refine ⟨b.toNat,k,?_⟩ | refine ⟨_,e,?_⟩ | refine ⟨_,i,?_⟩ | exact rfl | (refine zt ?_;try intro h) | refine zu (fun h=>?_) fun h=>?_ | fail
theorem aB5 (c:Con) (lv a b:Int) (g:0<=lv) (h3:lv<=3) (e:vH c a) (d:vH c b):aA Tryz.prog 189 [c.av,ii lv,ii a,ii b] [] (.ret (.bool (alB c lv a b))) []:=W2 c lv a b g h3 e d _ rfl
noncomputable abbrev fRG:Func:=Tryz.f156
abbrev rgO (c:Con) (s:List (List Int)):List AObj:=[.cells 25 c.cs,.row 0 1 34 (gav s)]
abbrev rgF (lv:Int) (i:Int):List (Nat×AVal):=[(1,ii lv),(2,.ref 0 0),(5,.row 1 0),(6,ii i)]
structure GH (c:Con) (i:Nat) (s:List (List Int)):Prop where
 len:s.length<=i
 one:∀ g∈s,g.length<=i/\∃ a r,g=a::r/\vH c a
theorem GH.step {c:Con} {lv:Int} {i:Nat} {s:List (List Int)} (h:GH c i s) (n:i<c.hs.length):GH c (i+1) (rgS c lv s i):=by
 obtain ⟨h1,f⟩:=h
 unfold rgS
 split
 .rename_i k m
  refine ⟨by simp;omega,fun g b=>?_⟩
  rcases Dj b with b | rfl
  .obtain ⟨j,e⟩:=f g b
   exact ⟨by omega,e⟩
  .by_cases d:k<s.length
   .rw [Ab d]
    obtain ⟨j,a,r,e,l⟩:=f _ (Bg d)
    refine ⟨by simp;omega,a,r++[(i:Int)],?_,l⟩
    show s[k]++_=_
    rw [e];rfl
   .rw [Bj o_]
    exact ⟨by simp,(i:Int),[],rfl,⟨by omega,by omega⟩⟩
 .refine ⟨by simp;omega,fun g b=>?_⟩
  rcases Ao.1 b with b | b
  .obtain ⟨j,e⟩:=f g b
   exact ⟨by omega,e⟩
  .simp at b
   subst b
   exact ⟨by simp,(i:Int),[],rfl,⟨by omega,by omega⟩⟩
theorem aEb (l:List (List Int)) (i:Nat) (x:List Int):(gav l).set i (.slice 1 (iv x) .no)=gav (l.set i x):=by simp [gav,Ka]
theorem aHO (c:Con) (lv:Int) (C:0<=lv) (h3:lv<=3) (i:Nat) (F:i<c.hs.length) (D:c.hs.length<=1048576) (G:Goal) (H:G= .pure G.res) (s:List (List Int)) (hs:GH c i s):
  ∀ (m k:Nat),k+m=s.length->
  To (Er [5] []) fRG (.pure G.res) (.head (stk fRG 0) (rgF lv ((i:Int)+1)) (rgO c (match cP c lv (i:Int) (s.drop k) k with | some k=>s.set k ((s[k]?).getD []++[(i:Int)]) | none=>s++[[(i:Int)]])))->
  To (Er [5] []) fRG (.pure G.res) (.head (stk fRG 1) (rgF lv (i:Int)++[(7,.bool false),(8,ii k)]) (rgO c s)):=by
 have z:(gav s).length=s.length:=by simp
 have hsl:=hs.len
 intro m
 induction m with
 | zero=>
  intro k B b
  rw [Ae o_] at b
  have b:To (Er [5] []) fRG (.pure G.res) (.head (stk fRG 0) (rgF lv ((i:Int)+1)) (rgO c (s++[[(i:Int)]]))):=b
  have e:gav (s++[[(i:Int)]])=gav s++[.slice 1 [ii i] .no]:=by simp [gav]
  unfold rgO at b
  rw [e] at b
  refine gV ?_
  refine aF fun h=>?_
  repeat' first | (refine gN (hEr [5] []) ?_;conv=>whnf) | refine ⟨⟨by simp only [maxLen];simp;omega,by simp;omega⟩,?_⟩ | exact rfl | (refine zt ?_;try intro h) | refine zu (fun h=>?_) fun h=>?_ | fail
  exact zqra6
 | succ m v=>
  intro k B b
  have d:k<s.length:=o_
  obtain ⟨n,a,r,q,x⟩:=hs.one _ (Bg d)
  rw [Ad d] at b
  have w:s[k]? =some s[k]:=Ab d
  have o:=aEb s k (s[k]++[(i:Int)])
  have get:(gav s)[k]? =some (.slice 1 (iv s[k]) .no):=zU d
  have v:=v (k+1) o_
  have f:=aB5 c lv a (i:Int) C h3 x ⟨by omega,by omega⟩
  unfold cP at b
  rw [q] at n get
  have y:r.length+1<=i:=by simpa using n
  have g:(iv (a::r))[0]? =some (ii a):=rfl
  have u:(s[k]).headD 0=a:=by rw [q];rfl
  rw [u] at b
  cases p:alB c lv a (i:Int) with
  | false=>
   rw [p] at f
   rw [if_neg (by rw [p];decide)] at b
   have next:=v b
   refine gV ?_
   refine aT fun h=>?_
   repeat' first | (refine gN (hEr [5] []) ?_;conv=>whnf) | refine ⟨k,rfl,?_⟩ | refine ⟨_,get,?_⟩ | refine ⟨_,g,?_⟩ | refine .pure _ [] f ?_ | exact rfl | (refine zt ?_;try intro h) | refine zu (fun h=>?_) fun h=>?_ | fail
   refine To.part [1,2,5,6,7,8] [0,1] rfl rfl rfl ?_
   exact next
  | true=>
   rw [p] at f
   rw [if_pos p] at b
   have b:To (Er [5] []) fRG (.pure G.res) (.head (stk fRG 0) (rgF lv ((i:Int)+1)) (rgO c (s.set k ((s[k]?).getD []++[(i:Int)])))):=b
   rw [w] at b
   have b:To (Er [5] []) fRG (.pure G.res) (.head (stk fRG 0) (rgF lv ((i:Int)+1)) (rgO c (s.set k (s[k]++[(i:Int)])))):=b
   unfold rgO at b
   rw [<-o,q,show iv ((a::r)++[(i:Int)])=iv (a::r)++[ii i] from by simp] at b
   have l:((gav s).set k (.slice 1 (iv (a::r)++[ii i]) .no)).length=s.length:=by simp
   generalize A:(gav s).set k (.slice 1 (iv (a::r)++[ii i]) .no)=S at b l
   have j:To (Er [5] []) fRG (.pure G.res) (.head (stk fRG 1) (rgF lv (i:Int)++[(7,.bool true),(8,ii ((k:Int)+1))]) [.cells 25 c.cs,.row 0 1 34 S]):=by
    refine gV ?_
    repeat' first | (refine gN (hEr [5] []) ?_;conv=>whnf) | exact rfl | (refine zt ?_;try intro h) | refine zu (fun h=>?_) fun h=>?_ | fail
    .exact zqra6
    .exact zqra6
   rw [<-A] at j
   refine gV ?_
   refine aT fun h=>?_
   repeat' first | (refine gN (hEr [5] []) ?_;conv=>whnf) | refine ⟨k,rfl,?_⟩ | refine ⟨_,get,?_⟩ | refine ⟨_,g,?_⟩ | refine .pure _ [] f ?_ | refine ⟨⟨by simp only [maxLen];simp;omega,by simp;omega⟩,?_⟩ | exact rfl | (refine zt ?_;try intro h) | refine zu (fun h=>?_) fun h=>?_ | fail
   refine To.part [1,2,5,6,7,8] [0,1] rfl rfl rfl ?_
   exact j
theorem aFX (c:Con) (e:c.sm) (lv:Int) (g:0<=lv) (h3:lv<=3) (R:List (List Int)):∀ (n i:Nat) (s:List (List Int)),i+n=c.hs.length->GH c i s->(Gx i n).foldl (rgS c lv) s=R->
  To (Er [5] []) fRG (.pure (.ret (.slice 1 (gav R) .no))) (.head (stk fRG 0) (rgF lv (i:Int)) (rgO c s)):=by
 have h1:=e.hs
 have b:(hav c.hs).length=c.hs.length:=by simp
 intro n
 induction n with
 | zero=>
  intro i s f hs a
  have a:s=R:=a
  subst a
  refine gV ?_
  refine aF fun h=>?_
  repeat' first | (refine gN (hEr [5] []) ?_;conv=>whnf) | exact rfl | (refine zt ?_;try intro h) | refine zu (fun h=>?_) fun h=>?_ | fail
 | succ n d=>
  intro i s f hs a
  rw [Jb,Aq] at a
  have next:=d (i+1) (rgS c lv s i) o_ (hs.step o_) a
  refine gV ?_
  refine aT fun h=>?_
  repeat' first | (refine gN (hEr [5] []) ?_;conv=>whnf) | exact rfl | (refine zt ?_;try intro h) | refine zu (fun h=>?_) fun h=>?_ | fail
  refine To.part [1,2,5,6,7,8] [0,1] rfl rfl rfl ?_
  exact aHO c lv g h3 i o_ h1 (.pure (.ret (.slice 1 (gav R) .no))) rfl s hs s.length 0 o_ next
theorem OE (c:Con) (e:c.sm) (lv:Int):aA Tryz.prog 156 [c.av,ii lv] [] (.ret (.slice 1 (gav (gpL c lv)) .no)) []:=by
 have h1:=e.hs
 obtain ⟨R,a⟩:∃ R,R=gpL c lv:=⟨_,rfl⟩
 rw [<-a]
 rw [<-Y1] at a
 unfold rgL at a
 by_cases b:lv<0
 .rw [if_pos (decide_eq_true b)] at a
  subst a
  refine cT (E:=(Er [5] [])) (fn:=Tryz.f156) (g:=.pure _) fun _=>?_
  repeat' first | (refine gN (hEr [5] []) ?_;conv=>whnf) | exact rfl | (refine zt ?_;try intro h) | refine zu (fun h=>?_) fun h=>?_ | fail
 rw [if_neg (by rw [decide_eq_false b];decide)] at a
 by_cases d:3<lv
 .rw [if_pos (decide_eq_true d)] at a
  subst a
  refine cT (E:=(Er [5] [])) (fn:=Tryz.f156) (g:=.pure _) fun _=>?_
  repeat' first | (refine gN (hEr [5] []) ?_;conv=>whnf) | exact rfl | (refine zt ?_;try intro h) | refine zu (fun h=>?_) fun h=>?_ | fail
 rw [if_neg (by rw [decide_eq_false d];decide),Gm] at a
 refine cT (E:=(Er [5] [])) (fn:=Tryz.f156) (g:=.pure _) fun _=>?_
 repeat' first | (refine gN (hEr [5] []) ?_;conv=>whnf) | exact rfl | (refine zt ?_;try intro h) | refine zu (fun h=>?_) fun h=>?_ | fail
 refine To.part [1,2,5,6] [0,1] rfl rfl rfl ?_
 exact aFX c e lv o_ o_ R c.hs.length 0 [] o_ ⟨by simp,fun g i=>by simp at i⟩ a.symm
noncomputable abbrev aBe:Func:=Tryz.f190
theorem N5 (free need:V3) (r:Int):∀ (m:Nat) (n:Int),0<=n->n+m=16->rrF free need m n=r->
  To E aBe (.pure (.ret (ii r))) (.head (stk aBe 0) [(2,.ref 0 0),(3,.ref 1 0),(5,ii n)] [.cells 40 free.cs,.cells 40 need.cs]):=by
 intro m
 induction m with
 | zero=>
  intro n g e a
  have a:n=r:=a
  subst a
  refine gV ?_
  repeat' first | (refine gN hE ?_;conv=>whnf) | exact rfl | (refine zt ?_;try intro h) | refine zu (fun h=>?_) fun h=>?_ | fail
 | succ m f=>
  intro n g e a
  unfold rrF at a
  have h1:=RX need (n+1)
  generalize NG need (n+1)=q at h1 a
  have b:=kF q free
  have h3:=kF need free
  cases c:bK q free with
  | false=>
   rw [c] at b
   rw [if_neg (by rw [c];decide)] at a
   subst a
   refine gV ?_
   repeat' first | (refine gN hE ?_;conv=>whnf) | refine Aa (Aa (by simp only [bW];omega) (by simp only [bI];omega)) ?_ | refine .pure _ [] h1 ?_ | refine .pure _ [] b ?_ | exact rfl | (refine zt ?_;try intro h) | refine zu (fun h=>?_) fun h=>?_ | fail
  | true=>
   rw [c] at b
   rw [if_pos c] at a
   cases d:bK need free with
   | false=>
    rw [d] at h3
    rw [if_neg (by rw [d];decide)] at a
    subst a
    refine gV ?_
    repeat' first | (refine gN hE ?_;conv=>whnf) | refine Aa (Aa (by simp only [bW];omega) (by simp only [bI];omega)) ?_ | refine .pure _ [] h1 ?_ | refine .pure _ [] b ?_ | refine .pure _ [] h3 ?_ | exact rfl | (refine zt ?_;try intro h) | refine zu (fun h=>?_) fun h=>?_ | fail
   | true=>
    rw [d] at h3
    rw [if_pos d] at a
    have next:=f (n+1) o_ o_ a
    refine gV ?_
    repeat' first | (refine gN hE ?_;conv=>whnf) | refine Aa (Aa (by simp only [bW];omega) (by simp only [bI];omega)) ?_ | refine .pure _ [] h1 ?_ | refine .pure _ [] b ?_ | refine .pure _ [] h3 ?_ | exact rfl | (refine zt ?_;try intro h) | refine zu (fun h=>?_) fun h=>?_ | fail
    exact To.cut [2,3,5] 2 rfl rfl rfl rfl next
theorem YL (free need:V3) (a:aH need=true):aA Tryz.prog 190 [free.av,need.av] [] (.ret (ii (cO free need))) []:=by
 rw [<-aHL a]
 refine c_ Tryz.f190 fun _=>?_
 refine gV ?_
 exact To.cut [2,3,5] 2 rfl rfl rfl rfl (N5 free need _ 16 0 d_ d_ rfl)
noncomputable abbrev V2:Func:=Tryz.f157
abbrev inO (c:Con) (g:Gan):List AObj:=[.cells 25 c.cs,.cells 42 g.cs,.tail 0 1 3]
abbrev inF (free:List V3) (gr:List Int) (out:List Int) (i:Int):List (Nat×AVal):=[(1,.slice 3 (vav free) .no),(2,.slice 1 (iv gr) .no),(7,.ref 1 0),(10,.slice 1 (iv out) (.own 2 0)),(11,ii i)]
theorem aFW (c:Con) (free:List V3) (g:Gan) (o:0<=g.pods/\g.pods<=16) (b:List Int) (hl:b.length<=1048576) (G:Goal) (h:Int) (i:Nat) (p:i<1048576) (get:(iv b)[i]? =some (ii h)):∀ (m:Nat) (k:Int) (out:List Int),k<=16->(max (min k (g.pods-out.length)) 0).toNat=m->(out.length:Int)<=g.pods->
  To (Eo [10] []) V2 (.pure G.res) (.head (stk V2 0) (inF free b (out++Ah m h) ((i:Int)+1)) (inO c g))->
  To (Eo [10] []) V2 (.pure G.res) (.head (stk V2 1) (inF free b out (i:Int)++[(12,ii k)]) (inO c g)):=by
 have f:(iv b).length=b.length:=by simp
 intro m
 induction m with
 | zero=>
  intro k out n hm hp a
  have d:(iv out).length=out.length:=by simp
  rw [List.replicate_zero,Bm] at a
  by_cases h1:0<k
  .refine gV ?_
   repeat' first | (refine gN (hEo [10] []) ?_;conv=>whnf) | exact rfl | (refine zt ?_;try intro h) | refine zu (fun h=>?_) fun h=>?_ | fail
   refine To.part [1,2,7,10,11] [0,1,2] rfl rfl rfl ?_
   exact a
  .refine gV ?_
   repeat' first | (refine gN (hEo [10] []) ?_;conv=>whnf) | exact rfl | (refine zt ?_;try intro h) | refine zu (fun h=>?_) fun h=>?_ | fail
   refine To.part [1,2,7,10,11] [0,1,2] rfl rfl rfl ?_
   exact a
 | succ m l=>
  intro k out n hm hp a
  have d:(iv out).length=out.length:=by simp
  have j:out++[h]++Ah m h=out++Ah (m+1) h:=by rw [Ay];rfl
  have next:=l (k-1) (out++[h]) o_ q_ q_ (by rw [j];exact a)
  have e:iv (out++[h])=iv out++[ii h]:=by simp
  unfold inF at next
  rw [e] at next
  refine gV ?_
  refine aT fun h=>?_
  repeat' first | (refine gN (hEo [10] []) ?_;conv=>whnf) | refine ⟨i,rfl,?_⟩ | refine ⟨_,get,?_⟩ | refine ⟨⟨by simp only [maxLen];simp;omega,by simp;omega⟩,?_⟩ | exact rfl | (refine zt ?_;try intro h) | refine zu (fun h=>?_) fun h=>?_ | fail
  refine To.part [1,2,7,10,11,12] [0,1,2] rfl rfl rfl ?_
  exact next
theorem YY (c:Con) (free:List V3) (g:Gan) (u:0<=g.pods/\g.pods<=16) (s:aH g.need=true) (a:List Int) (hl:a.length<=1048576) (R:List Int):∀ (m i:Nat) (out:List Int),i+m=a.length->(out.length:Int)<=g.pods->(a.drop i).foldl (inS free g) out=R->
  To (Eo [10] []) V2 (.pure (.ret (CI R g))) (.head (stk V2 0) (inF free a out (i:Int)) (inO c g)):=by
 have r:(iv a).length=a.length:=by simp
 have x:(vav free).length=free.length:=by simp
 intro m
 induction m with
 | zero=>
  intro i out y hp b
  rw [Ae o_] at b
  have b:out=R:=b
  subst b
  have z:(iv out).length=out.length:=by simp
  obtain ⟨Q,d⟩:∃ Q,Q=CI out g:=⟨_,rfl⟩
  rw [<-d]
  unfold CI at d
  by_cases h1:(out.length:Int)<g.pods
  .rw [if_pos (decide_eq_true h1)] at d
   subst d
   refine gV ?_
   refine aF fun h=>?_
   repeat' first | (refine gN (hEo [10] []) ?_;conv=>whnf) | exact rfl | (refine zt ?_;try intro h) | refine zu (fun h=>?_) fun h=>?_ | fail
  .rw [if_neg (by rw [decide_eq_false h1];decide)] at d
   subst d
   refine gV ?_
   refine aF fun h=>?_
   repeat' first | (refine gN (hEo [10] []) ?_;conv=>whnf) | exact rfl | (refine zt ?_;try intro h) | refine zu (fun h=>?_) fun h=>?_ | fail
 | succ m w=>
  intro i out y hp b
  have f:i<a.length:=o_
  rw [Ad f,Aq] at b
  have j:=zS free g out a[i] hp
  have get:=cQ f
  generalize a[i]=u0 at b j get
  have next:=w (i+1) (inS free g out u0) o_ j b
  unfold inS at next
  by_cases h1:u0<0
  .rw [if_pos (decide_eq_true h1)] at next
   refine gV ?_
   refine aT fun h=>?_
   repeat' first | (refine gN (hEo [10] []) ?_;conv=>whnf) | refine ⟨i,rfl,?_⟩ | refine ⟨_,get,?_⟩ | exact rfl | (refine zt ?_;try intro h) | refine zu (fun h=>?_) fun h=>?_ | fail
   refine To.part [1,2,7,10,11] [0,1,2] rfl rfl rfl ?_
   exact next
  .rw [if_neg (by rw [decide_eq_false h1];decide)] at next
   by_cases q:(free.length:Int)<=u0
   .rw [if_pos (decide_eq_true q)] at next
    refine gV ?_
    refine aT fun h=>?_
    repeat' first | (refine gN (hEo [10] []) ?_;conv=>whnf) | refine ⟨i,rfl,?_⟩ | refine ⟨_,get,?_⟩ | exact rfl | (refine zt ?_;try intro h) | refine zu (fun h=>?_) fun h=>?_ | fail
    refine To.part [1,2,7,10,11] [0,1,2] rfl rfl rfl ?_
    exact next
   .rw [if_neg (by rw [decide_eq_false q];decide)] at next
    have e:u0.toNat<free.length:=o_
    have t:u0=(u0.toNat:Int):=o_
    rw [Ab e,show ((some free[u0.toNat]).getD V3.zero)=free[u0.toNat] from rfl] at next
    have o:(vav free)[u0.toNat]? =some free[u0.toNat].av:=jJ e
    generalize free[u0.toNat]=v at o next
    have n:=YL v g.need s
    have p:=A8 v g.need
    unfold inN at next
    generalize cO v g.need=k at n p next
    have l:=aFW c free g u a hl (.pure (.ret (CI R g))) u0 i o_ get _ k out p rfl hp next
    refine gV ?_
    refine aT fun h=>?_
    repeat' first | (refine gN (hEo [10] []) ?_;conv=>whnf) | refine ⟨i,rfl,?_⟩ | refine ⟨_,get,?_⟩ | refine ⟨u0.toNat,t,?_⟩ | refine ⟨_,o,?_⟩ | refine .pure _ [] n ?_ | exact rfl | (refine zt ?_;try intro h) | refine zu (fun h=>?_) fun h=>?_ | fail
    refine To.part [1,2,7,10,11,12] [0,1,2] rfl rfl rfl ?_
    exact l
theorem aFV (c:Con) (free:List V3) (g:Gan) (d:0<=g.pods/\g.pods<=16) (b:aH g.need=true) (a:List Int) (hl:a.length<=1048576):aA Tryz.prog 157 [c.av,.slice 3 (vav free) .no,.slice 1 (iv a) .no,g.av] [] (.ret (CI (inL free g a) g)) []:=by
 refine cT (E:=(Eo [10] [])) (fn:=Tryz.f157) (g:=.pure _) fun _=>?_
 refine gV ?_
 refine To.part [1,2,7,10,11] [0,1,2] rfl rfl rfl ?_
 exact YY c free g d b a hl _ a.length 0 [] o_ q_ rfl
noncomputable abbrev xA:Func:=Tryz.f111
abbrev rfO (c:Con) (g:Gan):List AObj:=[.cells 25 c.cs,.cells 42 g.cs]
abbrev rfF (free:List V3) (lv:Int):List (Nat×AVal):=[(1,.slice 3 (vav free) .no),(3,.ref 0 0),(5,.ref 1 0),(9,ii lv)]
theorem aFZ (c:Con) (A:c.sm) (free:List V3) (g:Gan) (v:0<=g.pods/\g.pods<=16) (u:aH g.need=true) (lv:Int) (w:0<=lv) (q:lv<=3) (Q:Option (Int×List Int)) (d:List (List Int)) (C:d.length<=1048576) (p:∀ xs∈d,xs≠[]/\xs.length<=c.hs.length/\∀ h∈xs,0<=h/\h<(c.hs.length:Int)):∀ (m i:Nat),i+m=d.length->
  (∀ x,fdG c free g (d.drop i)=some x->Q=some x)->(fdG c free g (d.drop i)=none->To E xA (.pure (.ret (fdA Q))) (.head (stk xA 0) (rfF free (lv+1)) (rfO c g)))->
  To E xA (.pure (.ret (fdA Q))) (.head (stk xA 1) (rfF free lv++[(10,.slice 1 (gav d) .no),(11,ii i)]) (rfO c g)):=by
 have t:(gav d).length=d.length:=by simp
 have B:=A.hs
 intro m
 induction m with
 | zero=>
  intro i D hs a
  rw [Ae o_] at a
  have next:=a rfl
  refine gV ?_
  refine aF fun h=>?_
  repeat' first | (refine gN hE ?_;conv=>whnf) | exact rfl | (refine zt ?_;try intro h) | refine zu (fun h=>?_) fun h=>?_ | fail
  exact To.cut [1,3,5,9] 2 rfl rfl rfl rfl next
 | succ m o=>
  intro i D hs a
  have f:i<d.length:=o_
  obtain ⟨n,l,j⟩:=p _ (Bg f)
  rw [Ad f] at hs a
  have get:=zU f
  generalize d[i]=gr at hs a get n l j
  have o:=o (i+1) o_
  have b:=aFV c free g v u gr o_
  unfold fdG at hs a
  unfold CI at b
  by_cases s:((inL free g gr).length:Int)<g.pods
  .rw [if_pos (decide_eq_true s)] at hs a b
   have next:=o hs a
   refine gV ?_
   refine aT fun h=>?_
   repeat' first | (refine gN hE ?_;conv=>whnf) | refine ⟨i,rfl,?_⟩ | refine ⟨_,get,?_⟩ | refine .pure _ [] b ?_ | exact rfl | (refine zt ?_;try intro h) | refine zu (fun h=>?_) fun h=>?_ | fail
   exact To.cut [1,3,5,9,10,11] 2 rfl rfl rfl rfl next
  .rw [if_neg (by rw [decide_eq_false s];decide)] at hs a b
   have F:=hs _ rfl
   subst F
   match gr,n with
   | e::r,_=>
   have y:=j e s_
   have z:(hav c.hs)[e.toNat]? =some (aS c.hs e).av:=by
    have:=rR (c:=c) (i:=e.toNat) o_
    rwa [Hw y.1] at this
   have a:e=(e.toNat:Int):=o_
   have k:(iv (e::r))[0]? =some (ii e):=rfl
   refine gV ?_
   refine aT fun h=>?_
   repeat' first | (refine gN hE ?_;conv=>whnf) | refine ⟨i,rfl,?_⟩ | refine ⟨e.toNat,a,?_⟩ | refine ⟨_,z,?_⟩ | refine ⟨_,k,?_⟩ | refine ⟨_,get,?_⟩ | refine .pure _ [] b ?_ | exact rfl | (refine zt ?_;try intro h) | refine zu (fun h=>?_) fun h=>?_ | fail
theorem aCZ (c:Con) (e:c.sm) (free:List V3) (g:Gan) (m:0<=g.pods/\g.pods<=16) (k:aH g.need=true):∀ (n:Nat) (lv:Int),0<=lv->n=(min g.lev 3+1-lv).toNat->
  To E xA (.pure (.ret (fdA (fdL c free g n lv)))) (.head (stk xA 0) (rfF free lv) (rfO c g)):=by
 intro n
 induction n with
 | zero=>
  intro lv j l
  by_cases h1:lv<=g.lev
  .refine gV ?_
   repeat' first | (refine gN hE ?_;conv=>whnf) | exact rfl | (refine zt ?_;try intro h) | refine zu (fun h=>?_) fun h=>?_ | fail
  .refine gV ?_
   repeat' first | (refine gN hE ?_;conv=>whnf) | exact rfl | (refine zt ?_;try intro h) | refine zu (fun h=>?_) fun h=>?_ | fail
 | succ n d=>
  intro lv j l
  have d:=d (lv+1) o_ o_
  have f:=PH c lv
  have o:=e.hs
  have i:(gav (gpL c lv)).length=(gpL c lv).length:=by simp
  obtain ⟨Q,b⟩:∃ Q,Q=fdL c free g (n+1) lv:=⟨_,rfl⟩
  rw [<-b]
  unfold fdL at b
  refine gV ?_
  refine aT fun h=>?_
  repeat' first | (refine gN hE ?_;conv=>whnf) | refine .pure _ [] (OE c e lv) ?_ | exact rfl | (refine zt ?_;try intro h) | refine zu (fun h=>?_) fun h=>?_ | fail
  refine To.cut [1,3,5,9,10,11] 2 rfl rfl rfl rfl ?_
  refine aFZ c e free g m k lv j o_ Q (gpL c lv) o_ f.2 (gpL c lv).length 0 o_ (fun x a=>?_) (fun a=>?_)
  .have a:fdG c free g (gpL c lv)=some x:=a
   rw [a] at b
   exact b
  .have a:fdG c free g (gpL c lv)=none:=a
   rw [a] at b
   rw [b]
   exact d
theorem Y4 (c:Con) (b:c.sm) (free:List V3) (g:Gan) (d:0<=g.pods/\g.pods<=16) (a:aH g.need=true):aA Tryz.prog 111 [c.av,.slice 3 (vav free) .no,g.av] [] (.ret (fdA (sM c free g))) []:=by
 refine c_ Tryz.f111 fun _=>?_
 refine gV ?_
 exact To.cut [1,3,5,9] 2 rfl rfl rfl rfl (aCZ c b free g d a _ _ o_ rfl)
theorem KV (c:Con) (m:c.sm) (l:List Rn) (hl:Sm l) (g:Gan) (o:0<=g.pods/\g.pods<=16) (n:aH g.need=true) (Q:Option (Int×List Int)) (e:bX c l g=Q):aA Tryz.prog 68 [c.av,.slice 14 (rav l) .no,g.av] [] (.ret (fdA Q)) []:=by
 unfold bX at e
 have hm:=YN c m (ofL c l) g.ten (dem g)
 have k:=HR g
 generalize yW c (ofL c l) g.ten (dem g)=b at e hm
 generalize dem g=d at hm k
 have j:=Y4 c m (fR c l) g o n
 have i:=Y2 c m l hl
 have a:=HM c m l hl.1
 generalize fR c l=fr at j e i
 generalize ofL c l=us at hm a
 cases b with
 | false=>
  have e:none=Q:=e
  subst e
  refine c_ Tryz.f68 fun _=>?_
  repeat' first | (refine gN hE ?_;conv=>whnf) | refine .pure _ [] a ?_ | refine .pure _ [] k ?_ | refine .pure _ [] hm ?_ | exact rfl | (refine zt ?_;try intro h) | refine zu (fun h=>?_) fun h=>?_ | fail
 | true=>
  have e:sM c fr g=Q:=e
  rw [e] at j
  unfold fdA at j⊢
  cases Q with
  | none=>
   refine c_ Tryz.f68 fun _=>?_
   repeat' first | (refine gN hE ?_;conv=>whnf) | refine .pure _ [] a ?_ | refine .pure _ [] k ?_ | refine .pure _ [] hm ?_ | refine .pure _ [] i ?_ | refine .pure _ [] j ?_ | exact rfl | (refine zt ?_;try intro h) | refine zu (fun h=>?_) fun h=>?_ | fail
  | some x=>
   refine c_ Tryz.f68 fun _=>?_
   repeat' first | (refine gN hE ?_;conv=>whnf) | refine .pure _ [] a ?_ | refine .pure _ [] k ?_ | refine .pure _ [] hm ?_ | refine .pure _ [] i ?_ | refine .pure _ [] j ?_ | exact rfl | (refine zt ?_;try intro h) | refine zu (fun h=>?_) fun h=>?_ | fail
theorem kI (c:Con) (d:c.sm) (l:List Rn) (hl:Sm l) (g:Gan) (a:0<=g.pods/\g.pods<=16) (b:aH g.need=true):aA Tryz.prog 68 [c.av,.slice 14 (rav l) .no,g.av] [] (.ret (fdA (bX c l g))) []:=KV c d l hl g a b _ rfl
noncomputable abbrev TD:Func:=Tryz.f73
theorem KG (c:Con) (p:c.sm) (l:List Rn) (hs:Sm l) (g:Gan) (o:0<=g.pods/\g.pods<=16) (n:aH g.need=true) (b:List Int) (r:b.length<=1048577) (R:Option Int):∀ (m i:Nat),i+m=b.length->stF c l g (b.drop i)=R->
  To E TD (.pure (.ret (stA R))) (.head (stk TD 0) [(2,.slice 14 (rav l) .no),(4,.ref 0 0),(7,.ref 1 0),(10,.slice 1 (iv b) .no),(11,ii i)] [.cells 25 c.cs,.cells 42 g.cs]):=by
 have k:(iv b).length=b.length:=by simp
 intro m
 induction m with
 | zero=>
  intro i q a
  rw [Ae o_] at a
  have a:none=R:=a
  subst a
  refine gV ?_
  refine aF fun h=>?_
  repeat' first | (refine gN hE ?_;conv=>whnf) | exact rfl | (refine zt ?_;try intro h) | refine zu (fun h=>?_) fun h=>?_ | fail
 | succ m j=>
  intro i q a
  have e:i<b.length:=o_
  rw [Ad e] at a
  have get:=cQ e
  generalize b[i]=t at a get
  unfold stF at a
  have d:=ZI l hs t
  have f:=kI c p (atL l t) (aHm hs t) g o n
  generalize atL l t=lt at d f a
  generalize bX c lt g=Q at f a
  have j:=j (i+1) o_
  unfold fdA at f
  cases Q with
  | none=>
   have a:stF c l g (b.drop (i+1))=R:=a
   have next:=j a
   refine gV ?_
   refine aT fun h=>?_
   repeat' first | (refine gN hE ?_;conv=>whnf) | refine ⟨i,rfl,?_⟩ | refine ⟨_,get,?_⟩ | refine .pure _ [] d ?_ | refine .pure _ [] f ?_ | exact rfl | (refine zt ?_;try intro h) | refine zu (fun h=>?_) fun h=>?_ | fail
   exact To.cut [2,4,7,10,11] 2 rfl rfl rfl rfl next
  | some x=>
   have a:some t=R:=a
   subst a
   refine gV ?_
   refine aT fun h=>?_
   repeat' first | (refine gN hE ?_;conv=>whnf) | refine ⟨i,rfl,?_⟩ | refine ⟨_,get,?_⟩ | refine .pure _ [] d ?_ | refine .pure _ [] f ?_ | exact rfl | (refine zt ?_;try intro h) | refine zu (fun h=>?_) fun h=>?_ | fail
theorem KT (c:Con) (j:c.sm) (now:Int) (l:List Rn) (hs:Sm l) (g:Gan) (i:0<=g.pods/\g.pods<=16) (e:aH g.need=true):aA Tryz.prog 73 [c.av,ii now,.slice 14 (rav l) .no,g.av] [] (.ret (stA (sX c now l g))) []:=by
 have a:=V5 l now
 have h1:=hs.1
 have b:=ZC l hs now
 rw [<-vO] at b
 unfold sX
 generalize yK l now=es at a b
 have d:(iv es).length=es.length:=by simp
 have next:=KG c j l hs g i e (now::es) q_ _ (es.length+1) 0 s_ rfl
 refine c_ Tryz.f73 fun _=>?_
 repeat' first | (refine gN hE ?_;conv=>whnf) | refine .pure _ [] b ?_ | refine ⟨⟨by simp only [maxLen];simp;omega,by simp;omega⟩,?_⟩ | exact rfl | (refine zt ?_;try intro h) | refine zu (fun h=>?_) fun h=>?_ | fail
 exact To.cut [2,4,7,10,11] 2 rfl rfl rfl rfl next
theorem aDV (free:List V3) (g:Gan) (c:0<=g.pods/\g.pods<=16) (a:List Int):(inL free g a).length<=16:=by
 have key:∀ (l:List Int) (out:List Int),(out.length:Int)<=g.pods->((l.foldl (inS free g) out).length:Int)<=g.pods:=fun l=>by
  induction l with
  | nil=>intro out h;exact h
  | cons x r b=>intro out h;exact b _ (zS free g out x h)
 have:=key a [] q_
 unfold inL
 omega
theorem S6 {c:Con} {free:List V3} {g:Gan} (a:0<=g.pods/\g.pods<=16) {x:Int×List Int}:∀ {b:List (List Int)},fdG c free g b=some x->x.2.length<=16
 | [],h=>by cases h
 | gr::r,h=>by
  unfold fdG at h
  split at h
  .exact S6 a h
  .cases h
   exact aDV free g a gr
theorem S5 {c:Con} {free:List V3} {g:Gan} (a:0<=g.pods/\g.pods<=16) {x:Int×List Int}:∀ {n:Nat} {lv:Int},fdL c free g n lv=some x->x.2.length<=16
 | 0,lv,h=>by cases h
 | n+1,lv,h=>by
  unfold fdL at h
  split at h
  .rename_i y b
   cases h
   exact S6 a b
  .exact S5 a h
theorem CV {c:Con} {l:List Rn} {g:Gan} (a:0<=g.pods/\g.pods<=16) {x:Int×List Int} (h:bX c l g=some x):x.2.length<=1048576:=by
 unfold bX at h
 split at h
 .unfold sM at h
  have:=S5 a h
  omega
 .cases h
end Go.Proofs.YtlanfgblaebddaaGreat
namespace Go.AW
open Go.RowKit
end Go.AW
namespace Go.Proofs.YtlanfgblaebddaaGreat
open Go Go.AW Go.Proofs
set_option maxRecDepth 10000
def aHc (a b:Int):Int:=if a<b then -1 else if b<a then 1 else 0
def orI (p q:Int):Int:=if p=0 then q else p
def dX (a b:Rn):Bool:=decide (orI (aHc b.st a.st) (aHc b.seq a.seq)<0)
theorem tD {a b:Rn}:dX a b=true↔b.st<a.st\/(b.st=a.st/\b.seq<a.seq):=by
 unfold dX orI aHc
 rw [decide_eq_true_iff]
 by_cases h1:b.st<a.st
 .simp [h1]
 .by_cases c:a.st<b.st
  .simp [h1,c]
   omega
  .have h3:b.st=a.st:=o_
   by_cases d:b.seq<a.seq
   .simp [h1,c,h3,d]
   .by_cases e:a.seq<b.seq
    .simp [h1,c,h3,d,e]
    .simp [h1,c,h3,d,e]
theorem aCl (x:Rn) (h:x.hs.length<=1048576):aA Tryz.prog 195 [x.av] [] (.ret x.av) []:=by
 refine c_ Tryz.f195 fun _=>?_
 repeat' first | (refine gN hE ?_;conv=>whnf) | refine .pure _ [] (WP x.hs h) ?_ | exact rfl | (refine zt ?_;try intro h) | refine zu (fun h=>?_) fun h=>?_ | fail
def rn0:Rn:=⟨⟨0,0,0,V3.zero,0,0,0⟩,0,0,0,0,[]⟩
def aX (xs:List Rn) (i:Nat):Rn:=(xs[i]?).getD rn0
theorem SZ {xs:List Rn} {i:Nat} (h:i<xs.length):(rav xs)[i]? =some (aX xs i).av:=by
 unfold aX
 rw [Ab h]
 exact cJ h
def mM (xs:List Rn) (i k:Nat):List Rn:=(xs.set i (aX xs k)).set k (aX xs i)
theorem dS (xs:List Rn) (i k:Nat):(mM xs i k).length=xs.length:=by unfold mM;simp
def upH:Nat->List Rn->Nat->List Rn
 | 0,xs,_=>xs
 | f+1,xs,i=>if i=0 then xs else if dX (aX xs i) (aX xs ((i-1) / 2))=true then upH f (mM xs i ((i-1) / 2)) ((i-1) / 2) else xs
def kJ (xs:List Rn) (x:Rn):List Rn:=upH (xs.length+1) (xs++[x]) xs.length
theorem Q7:∀ (f:Nat) (xs:List Rn) (i:Nat),(upH f xs i).length=xs.length
 | 0,xs,i=>rfl
 | f+1,xs,i=>by
  unfold upH
  split
  .rfl
  .split
   .rw [Q7 f,dS]
   .rfl
theorem E7 (xs:List Rn) (x:Rn):(kJ xs x).length=xs.length+1:=by unfold kJ;rw [Q7];simp
set_option maxHeartbeats 2000000
def lW (xs:List Rn) (n i:Nat):Nat:=if 2*i+2<n then (if dX (aX xs (2*i+2)) (aX xs (2*i+1))=true then 2*i+2 else 2*i+1) else 2*i+1
theorem AA (xs:List Rn) (n i:Nat) (h:2*i+1<n):lW xs n i<n/\i<lW xs n i/\(lW xs n i=2*i+1\/lW xs n i=2*i+2):=by
 unfold lW
 split
 .split<;>omega
 .omega
def nJ:Nat->List Rn->Nat->Nat->List Rn
 | 0,xs,_,_=>xs
 | f+1,xs,n,i=>if 2*i+1<n then (if dX (aX xs (lW xs n i)) (aX xs i)=true then nJ f (mM xs i (lW xs n i)) n (lW xs n i) else xs) else xs
theorem GM:∀ (f:Nat) (xs:List Rn) (n i:Nat),(nJ f xs n i).length=xs.length
 | 0,xs,n,i=>rfl
 | f+1,xs,n,i=>by
  unfold nJ
  split
  .split
   .rw [GM f,dS]
   .rfl
  .rfl
def BJ (xs:List Rn) (n:Nat):List Rn:=nJ n (xs.set 0 (aX xs (n-1))) (n-1) 0
theorem uM (xs:List Rn) (n:Nat):(BJ xs n).length=xs.length:=by unfold BJ;rw [GM];simp
inductive HV (ys:List Rn):AVal->Nat->Prop
 | row:HV ys (.row 1 0) ys.length
 | sub (n:Nat) (h:n<=ys.length):HV ys (.sub 1 0 0 n 14) n
set_option maxRecDepth 10000
def jA:Nat->List Rn->List Rn
 | 0,_=>[]
 | n+1,ys=>aX ys 0::jA n (BJ ys (n+1))
def jB (l:List Rn):List Rn:=jA l.length (l.foldl kJ [])
theorem oC:∀ (l ys:List Rn),(l.foldl kJ ys).length=ys.length+l.length
 | [],ys=>rfl
 | x::r,ys=>by rw [Aq,oC r,E7];simp;omega
theorem HV.inv {ys:List Rn} {a:AVal} {n:Nat} (h:HV ys a n):(a= .row 1 0/\n=ys.length)\/(a= .sub 1 0 0 n 14/\n<=ys.length):=by
 cases h with
 | row=>exact .inl ⟨rfl,rfl⟩
 | sub _ h=>exact .inr ⟨rfl,h⟩
def yI (p:Int->Bool):List Int->Nat->Int
 | [],_=> -1
 | x::r,i=>if p x=true then (i:Int) else yI p r (i+1)
theorem GB (p:Int->Bool):∀ (l:List Int) (i:Nat),decide (0<=yI p l i)=l.any p
 | [],i=>by simp [yI]
 | x::r,i=>by
  unfold yI
  rw [Gn]
  cases h:p x with
  | true=>simp
  | false=>simp [GB p r (i+1)]
def inB (v:Int) (l:List Int):Bool:=l.any fun x=>v==x
noncomputable abbrev aFn:Func:=Tryz.f218
theorem VT (l:List Int) (hl:l.length<=1048576) (v r:Int):∀ (m i:Nat),i+m=l.length->yI (fun x=>v==x) (l.drop i) i=r->
  To E aFn (.pure (.ret (ii r))) (.head (stk aFn 0) [(0,.slice 1 (iv l) .no),(1,ii v),(7,.int .i64 ((iv l).length:Nat)),(8,ii i)] []):=by
 have e:(iv l).length=l.length:=by simp
 intro m
 induction m with
 | zero=>
  intro i f a
  rw [Ae o_] at a
  have a: -1=r:=a
  subst a
  refine gV ?_
  refine aF fun h=>?_
  repeat' first | (refine gN hE ?_;conv=>whnf) | exact rfl | (refine zt ?_;try intro h) | refine zu (fun h=>?_) fun h=>?_ | fail
 | succ m d=>
  intro i f a
  have b:i<l.length:=o_
  rw [Ad b] at a
  have get:=cQ b
  generalize l[i]=x at a get
  unfold yI at a
  have d:=d (i+1) o_
  cases c:(v==x) with
  | true=>
   rw [if_pos c] at a
   subst a
   refine gV ?_
   refine aT fun h=>?_
   repeat' first | (refine gN hE ?_;conv=>whnf) | refine ⟨i,rfl,?_⟩ | refine ⟨_,get,?_⟩ | refine Aa (fun h=>?_) (fun h=>absurd h (by rw [c];decide)) | exact rfl | (refine zt ?_;try intro h) | refine zu (fun h=>?_) fun h=>?_ | fail
  | false=>
   rw [if_neg (by rw [c];decide)] at a
   have next:=d a
   refine gV ?_
   refine aT fun h=>?_
   repeat' first | (refine gN hE ?_;conv=>whnf) | refine ⟨i,rfl,?_⟩ | refine ⟨_,get,?_⟩ | refine Aa (fun h=>absurd h (by rw [c];decide)) (fun h=>?_) | exact rfl | (refine zt ?_;try intro h) | refine zu (fun h=>?_) fun h=>?_ | fail
   exact To.cut [0,1,7,8] 0 rfl rfl rfl rfl next
theorem aDY (l:List Int) (hl:l.length<=1048576) (v:Int):aA Tryz.prog 218 [.slice 1 (iv l) .no,ii v] [] (.ret (ii (yI (fun x=>v==x) l 0))) []:=by
 refine c_ Tryz.f218 fun _=>?_
 refine gV ?_
 exact To.cut [0,1,7,8] 0 rfl rfl rfl rfl (VT l hl v _ l.length 0 o_ rfl)
theorem MN (l:List Int) (hl:l.length<=1048576) (v:Int):aA Tryz.prog 194 [.slice 1 (iv l) .no,ii v] [] (.ret (.bool (inB v l))) []:=by
 have h:=aDY l hl v
 have e:=GB (fun x=>v==x) l 0
 unfold inB
 rw [<-e]
 generalize yI (fun x=>v==x) l 0=q at h
 refine c_ Tryz.f194 fun _=>?_
 repeat' first | (refine gN hE ?_;conv=>whnf) | refine .pure _ [] h ?_ | exact rfl | (refine zt ?_;try intro h) | refine zu (fun h=>?_) fun h=>?_ | fail
def aE (l:List Rn) (ids:List Int):List Rn:=l.filter fun x=>!(inB x.g.id ids)
theorem xQ {x:Rn} {r:List Rn} {ids:List Int} (h:inB x.g.id ids=false):aE (x::r) ids=x::aE r ids:=Fb (by rw [h];rfl)
theorem xR {x:Rn} {r:List Rn} {ids:List Int} (h:inB x.g.id ids=true):aE (x::r) ids=aE r ids:=Fa (by rw [h];decide)
theorem nV {l:List Rn} (hs:Sm l) (ids:List Int):Sm (aE l ids):=
 ⟨Cm (Dp _ _) hs.1,fun x a=>hs.2 x (Dt.1 a).1⟩
noncomputable abbrev fWo:Func:=Tryz.f171
theorem aCi (l:List Rn) (hs:Sm l) (ids:List Int) (p:ids.length<=1048576) (R:List Rn):∀ (m i:Nat) (a:List Rn),i+m=l.length->a.length<=i->a++aE (l.drop i) ids=R->
  To (Eo [5] []) fWo (.pure (.ret (.slice 14 (rav R) .no))) (.head (stk fWo 0) [(1,.slice 1 (iv ids) .no),(5,.slice 14 (rav a) (.own 0 0)),(8,.slice 14 (rav l) .no),(9,.int .i64 ((rav l).length:Nat)),(10,ii i)] [.tail 0 14 44]):=by
 have n:(rav l).length=l.length:=by simp
 have hl:=hs.1
 intro m
 induction m with
 | zero=>
  intro i a s o b
  rw [Ae o_] at b
  have b:a++[]=R:=b
  rw [Bm] at b
  subst b
  refine gV ?_
  refine aF fun h=>?_
  repeat' first | (refine gN (hEo [5] []) ?_;conv=>whnf) | exact rfl | (refine zt ?_;try intro h) | refine zu (fun h=>?_) fun h=>?_ | fail
 | succ m k=>
  intro i a s o b
  have c:i<l.length:=o_
  have j:=hs.at c
  rw [Ad c] at b
  generalize r:l[i]=x at b j
  have get:(rav l)[i]? =some x.av:=(cJ c).trans (by rw [r])
  have q:(rav a).length=a.length:=by simp
  have d:=MN ids p x.g.id
  cases f:inB x.g.id ids with
  | true=>
   rw [f] at d
   rw [xR f] at b
   have next:=k (i+1) a o_ o_ b
   refine gV ?_
   refine aT fun h=>?_
   repeat' first | (refine gN (hEo [5] []) ?_;conv=>whnf) | refine ⟨i,rfl,?_⟩ | refine ⟨_,get,?_⟩ | refine .pure _ [] d ?_ | exact rfl | (refine zt ?_;try intro h) | refine zu (fun h=>?_) fun h=>?_ | fail
   refine To.part [1,5,8,9,10] [0] rfl rfl rfl ?_
   exact next
  | false=>
   rw [f] at d
   rw [xQ f] at b
   have next:=k (i+1) (a++[x]) o_ q_ (by rw [Ay];exact b)
   have e:rav (a++[x])=rav a++[x.av]:=by simp
   rw [e] at next
   refine gV ?_
   refine aT fun h=>?_
   repeat' first | (refine gN (hEo [5] []) ?_;conv=>whnf) | refine ⟨i,rfl,?_⟩ | refine ⟨_,get,?_⟩ | refine .pure _ [] d ?_ | refine .pure _ [] (aCl x j) ?_ | refine ⟨⟨by simp only [maxLen];simp;omega,by simp;omega⟩,?_⟩ | exact rfl | (refine zt ?_;try intro h) | refine zu (fun h=>?_) fun h=>?_ | fail
   refine To.part [1,5,8,9,10] [0] rfl rfl rfl ?_
   exact next
theorem NE (l:List Rn) (hs:Sm l) (ids:List Int) (a:ids.length<=1048576):aA Tryz.prog 171 [.slice 14 (rav l) .no,.slice 1 (iv ids) .no] [] (.ret (.slice 14 (rav (aE l ids)) .no)) []:=by
 refine cT (E:=(Eo [5] [])) (fn:=Tryz.f171) (g:=.pure _) fun _=>?_
 refine gV ?_
 refine To.part [1,5,8,9,10] [0] rfl rfl rfl ?_
 exact aCi l hs ids a _ l.length 0 [] o_ s_ rfl
theorem FI {ns:List Nod} {t:Int} (h:aU ns t=true):0<=t/\t.toNat<ns.length:=by
 exact zqra1
theorem JT {c:Con} {t:Int} (h:0<=t/\t.toNat<c.ns.length):(nav c.ns)[t.toNat]? =some (bN c.ns t).av:=by
 unfold bN
 rw [Ab h.2]
 exact fU h.2
def rF (c:Con) (a:List V3) (t:Int) (need:V3):Bool:=if aU c.ns t=true then bK (dL (atV a t) need) (bN c.ns t).n else false
def cY (c:Con) (a:List V3) (t:Int):Bool:=if aU c.ns t=true then !bK (atV a t) (bN c.ns t).n else false
def sE (c:Con) (l:List Rn) (g:Gan) (ids:List Int):Bool:=(bX c (aE l ids) g).isSome
def bA (p:Rn->Bool):List Rn->Nat->Int
 | [],_=> -1
 | x::r,i=>if p x=true then (i:Int) else bA p r (i+1)
def kM (l:List Int) (a:Int):List Int:=l.filter fun x=>!(x==a)
theorem qN {xs:List Rn} {i:Nat} (h:i<xs.length):aX xs i∈xs:=by
 unfold aX
 rw [Ab h]
 exact Bg h
theorem ES {xs:List Rn} {i k:Nat} (b:i<xs.length) (a:k<xs.length) {y:Rn} (h:y∈mM xs i k):y∈xs:=by
 unfold mM at h
 rcases Dj h with h | rfl
 .rcases Dj h with h | rfl
  .exact h
  .exact qN a
 .exact qN b
theorem Q6 {y:Rn}:∀ (f:Nat) (xs:List Rn) (i:Nat),i<xs.length->y∈upH f xs i->y∈xs
 | 0,xs,i,_,h=>h
 | f+1,xs,i,hi,h=>by
  unfold upH at h
  split at h
  .exact h
  .split at h
   .exact ES hi o_ (Q6 f _ _ (by rw [dS];omega) h)
   .exact h
theorem U6 {xs:List Rn} {x y:Rn} (h:y∈kJ xs x):y∈xs\/y=x:=by
 have:=Q6 _ _ _ s_ h
 simpa using this
theorem BH {y:Rn}:∀ (l xs:List Rn),y∈l.foldl kJ xs->y∈xs\/y∈l
 | [],xs,h=>.inl h
 | x::r,xs,h=>by
  rcases BH r _ h with h | h
  .rcases U6 h with h | rfl
   .exact .inl h
   .exact .inr s_
  .exact .inr (by simp [h])
theorem GL {y:Rn}:∀ (f:Nat) (xs:List Rn) (n i:Nat),n<=xs.length->i<xs.length->y∈nJ f xs n i->y∈xs
 | 0,xs,n,i,_,_,h=>h
 | f+1,xs,n,i,hn,hi,h=>by
  unfold nJ at h
  split at h
  .rename_i a
   have b:=AA xs n i a
   split at h
   .exact ES hi o_ (GL f _ n _ (by rw [dS];exact hn) (by rw [dS];omega) h)
   .exact h
  .exact h
theorem ZQ {xs:List Rn} {n:Nat} (b:0<n) (a:n<=xs.length) {y:Rn} (h:y∈BJ xs n):y∈xs:=by
 unfold BJ at h
 have:=GL n (xs.set 0 (aX xs (n-1))) (n-1) 0 q_ q_ h
 rcases Dj this with h | rfl
 .exact h
 .exact qN o_
theorem BK {y:Rn}:∀ (n:Nat) (xs:List Rn),n<=xs.length->y∈jA n xs->y∈xs
 | 0,xs,_,h=>by cases h
 | n+1,xs,hn,h=>by
  unfold jA at h
  rcases Aj.1 h with rfl | h
  .exact qN o_
  .exact ZQ o_ hn (BK n _ (by rw [uM];omega) h)
theorem VD {l:List Rn} {y:Rn} (h:y∈jB l):y∈l:=by
 unfold jB at h
 have:=BK _ _ (by rw [oC];simp) h
 rcases BH l [] this with h | h
 .cases h
 .exact h
theorem BM:∀ (n:Nat) (xs:List Rn),(jA n xs).length=n
 | 0,xs=>rfl
 | n+1,xs=>by unfold jA;rw [Bt,BM n]
theorem O1 (l:List Rn):(jB l).length=l.length:=BM _ _
theorem MD (p:Rn->Bool):∀ (l:List Rn) (i:Nat),bA p l i= -1\/∃ k,k<l.length/\bA p l i=((i+k:Nat):Int)/\p (aX l k)=true
 | [],i=>.inl rfl
 | x::r,i=>by
  unfold bA
  cases b:p x with
  | true=>exact .inr ⟨0,by simp,by rw [if_pos rfl];simp,b⟩
  | false=>
   rw [if_neg d_]
   rcases MD p r (i+1) with h | ⟨k,h1,a,h3⟩
   .exact .inl h
   .refine .inr ⟨k+1,by simp;omega,by rw [a];congr 1;omega,?_⟩
    unfold aX at h3⊢
    simpa using h3
def atI (c:Con) (l:List Rn) (ids:List Int):Int:=bA (fun x=>cY c (ofL c (aE l ids)) x.g.ten) (jB (aE l ids)) 0
def BX (c:Con) (l:List Rn) (ids:List Int):Option Int:=if atI c l ids<0 then none else some (aX (jB (aE l ids)) (atI c l ids).toNat).g.id
def chA (c:Con) (l:List Rn) (g:Gan):Nat->List Int->Option (List Int)
 | 0,_=>none
 | f+1,ids=>if sE c l g ids=true then some ids else match BX c l ids with
  | none=>none
  | some n=>chA c l g f (ids++[n])
def chS (c:Con) (l:List Rn) (g:Gan) (ids:List Int) (a:Int):List Int:=if sE c l g (kM ids a)=true then kM ids a else ids
def fJ (c:Con) (l:List Rn) (g:Gan):Option (List Int):=if rF c (ofL c l) g.ten (dem g)=true then (match chA c l g (l.length+1) [] with
 | none=>none
 | some ids=>some (ids.foldl (chS c l g) ids)) else none
def chR:Option (List Int)->AVal
 | some ids=>.tup [.slice 1 (iv ids) .no,.bool true]
 | none=>.tup [.slice 1 [] .no,.bool false]
theorem FE {c:Con} {l:List Rn} {ids:List Int} {n:Int} (h:BX c l ids=some n):∃ x∈aE l ids,x.g.id=n/\cY c (ofL c (aE l ids)) x.g.ten=true:=by
 unfold BX at h
 split at h
 .cases h
 .rename_i b
  cases h
  rcases MD (fun x=>cY c (ofL c (aE l ids)) x.g.ten) (jB (aE l ids)) 0 with h1 | ⟨k,h1,a,h3⟩
  .exact absurd (show atI c l ids<0 from by unfold atI;rw [h1];decide) b
  .refine ⟨_,VD (qN ?_),rfl,?_⟩
   .unfold atI;rw [a];simpa using h1
   .unfold atI;rw [a];simpa using h3
theorem GU (l:List Rn) (ids:List Int) (n:Int):aE l (ids++[n])=(aE l ids).filter fun x=>!(x.g.id==n):=by
 unfold aE
 rw [List.filter_filter]
 refine Kl fun x _=>?_
 unfold inB
 rw [List.any_append]
 simp only [Gn,List.any_nil,Bool.or_false]
 cases (ids.any fun y=>x.g.id==y)<;>cases (x.g.id==n)<;>rfl
theorem GV {l:List Rn} {ids:List Int} {n:Int} (h:∃ x∈aE l ids,x.g.id=n):(aE l (ids++[n])).length<(aE l ids).length:=by
 obtain ⟨x,a,b⟩:=h
 rw [GU]
 generalize aE l ids=q at a
 refine Nat.lt_of_le_of_ne (Dp _ _) fun e=>?_
 have:=List.length_filter_eq_length_iff.1 e x a
 simp [b] at this
theorem VK (l:List Int) (a:Int):(kM l a).length<=l.length:=Dp _ _
def chB (c:Con) (l:List Rn) (g:Gan):Option (List Int)->Option (List Int)
 | none=>none
 | some ids=>some (ids.foldl (chS c l g) ids)
theorem lM (l:List Rn):aE l []=l:=Jz.2 fun x _=>rfl
def V3.le (a b:V3):Prop:=a.a<=b.a/\a.b<=b.b/\a.c<=b.c
def V3.farB (a:V3):Prop:=(0<=a.a/\a.a<=1099511627776)/\(0<=a.b/\a.b<=1099511627776)/\(0<=a.c/\a.c<=1099511627776)
theorem sA {a b d:Int} (h:a<=b):gY a d<=gY b d:=by unfold gY eU;omega
theorem AE {a d:Int} (b:0<=a) (h1:a<=1099511627776) (c:0<=d):a<=gY a d:=by unfold gY eU;omega
theorem JM {a d:Int} (c:0<=a) (b:0<=d):0<=gY a d/\gY a d<=1099511627776:=by unfold gY eU;omega
theorem T3 {a b:V3} (d:V3) (h:a.le b):(dL a d).le (dL b d):=⟨sA h.1,sA h.2.1,sA h.2.2⟩
def V3.pos (d:V3):Prop:=0<=d.a/\0<=d.b/\0<=d.c
theorem aCn {a d:V3} (h:a.farB) (b:d.pos):a.le (dL a d):=⟨AE h.1.1 h.1.2 b.1,AE h.2.1.1 h.2.1.2 b.2.1,AE h.2.2.1 h.2.2.2 b.2.2⟩
theorem XC {a d:V3} (h:a.farB) (b:d.pos):(dL a d).farB:=⟨JM h.1.1 b.1,JM h.2.1.1 b.2.1,JM h.2.2.1 b.2.2⟩
theorem V3.le.trans {a b c:V3} (h:a.le b) (k:b.le c):a.le c:=⟨Es h.1 k.1,Es h.2.1 k.2.1,Es h.2.2 k.2.2⟩
theorem tZ {a b:V3}:bK a b=true↔a.le b:=by
 obtain ⟨e,i,d⟩:=a
 obtain ⟨f,h,g⟩:=b
 unfold bK V3.le
 by_cases h1:f<e
 .first | (simp [h1];done) | (simp [h1];omega)
 by_cases c:h<i
 .first | (simp [h1,c];done) | (simp [h1,c];omega)
 by_cases h3:g<d
 .first | (simp [h1,c,h3];done) | (simp [h1,c,h3];omega)
 first | (simp [h1,c,h3];done) | (simp [h1,c,h3];omega)
def nW (c:Con) (j:Nat) (v:V3) (x:Rn):V3:=if aU c.ns x.g.ten=true/\(j:Int)∈upL c.ns x.g.ten then dL v (dem x.g) else v
theorem GT (v:V3) (j:Nat):∀ (ks:List Int) (xs:List V3),ks.Nodup->(∀ k∈ks,0<=k)->(ks.foldl (sF v) xs)[j]? =if (j:Int)∈ks then (xs[j]?).map fun x=>dL x v else xs[j]?
 | [],xs,_,_=>by simp
 | k::r,xs,b,h0=>by
  have b:=Bp.1 b
  have d:=h0 k s_
  rw [Aq,GT v j r _ b.2 fun x c=>h0 x (by simp [c]),nQ]
  by_cases h1:(j:Int)=k
  .have a:(j:Int)∉r:=by rw [h1];exact b.1
   rw [if_neg a,if_pos o_,if_pos (by simp [h1])]
  .have e:(j:Int)∈k::r↔(j:Int)∈r:=by simp [h1]
   by_cases a:(j:Int)∈r
   .rw [if_pos a,if_neg o_,if_pos (e.2 a)]
   .rw [if_neg a,if_neg o_,if_neg (fun h=>a (e.1 h))]
theorem YS (c:Con) (xs:List V3) (x:Rn) (j:Nat):(yV c xs x)[j]? =(xs[j]?).map fun v=>nW c j v x:=by
 unfold yV nW
 cases d:aU c.ns x.g.ten with
 | false=>rw [if_neg d_];simp
 | true=>
  rw [if_pos rfl]
  have a:(bG c.ns x.g.ten).Nodup:=by
   unfold bG
   exact List.pairwise_reverse.2 ((G3 c.ns _ _).imp fun h=>by omega)
  have hm:(j:Int)∈bG c.ns x.g.ten↔(j:Int)∈upL c.ns x.g.ten:=Gu
  rw [GT _ _ _ _ a fun k b=>(G4 _ _ _ _ (Gu.1 b)).1]
  by_cases h:(j:Int)∈upL c.ns x.g.ten
  .rw [if_pos (hm.2 h)];simp [h]
  .rw [if_neg (fun q=>h (hm.1 q))];simp [h]
theorem aAb (c:Con) (j:Nat):∀ (l:List Rn) (xs:List V3),(l.foldl (yV c) xs)[j]? =(xs[j]?).map fun v=>l.foldl (nW c j) v
 | [],xs=>by simp
 | x::r,xs=>by
  rw [Aq,aAb c j r,YS,Option.map_map]
  rfl
theorem yD {c:Con} {t:Int} (h:0<=t/\t.toNat<c.ns.length) (l:List Rn):atV (ofL c l) t=l.foldl (nW c t.toNat) V3.zero:=by
 unfold atV
 rw [if_neg (by rw [decide_eq_false o_];decide),<-aFa]
 unfold YT
 rw [aAb,Ec,if_pos h.2]
 rfl
theorem uA {c:Con} {j:Nat} (p:Rn->Bool):∀ (l:List Rn) (a b:V3),(∀ x∈l,(dem x.g).pos)->a.le b->b.farB->((l.filter p).foldl (nW c j) a).le (l.foldl (nW c j) b)/\(l.foldl (nW c j) b).farB
 | [],a,b,_,h,hf=>⟨h,hf⟩
 | x::r,a,b,hd,h,hf=>by
  have f:=hd x s_
  have e:(nW c j b x).farB:=by unfold nW;split;exact XC hf f;exact hf
  rw [Aq,Hv]
  cases p x with
  | true=>
   rw [if_pos rfl,Aq]
   refine uA p r _ _ (fun y d=>hd y (by simp [d])) ?_ e
   unfold nW
   split
   .exact T3 _ h
   .exact h
  | false=>
   rw [if_neg d_]
   refine uA p r _ _ (fun y d=>hd y (by simp [d])) ?_ e
   unfold nW
   split
   .exact h.trans (aCn hf f)
   .exact h
theorem JQ:V3.zero.farB:=by unfold V3.farB V3.zero;decide
theorem B5 (a:V3):a.le a:=⟨Di _,Di _,Di _⟩
theorem aEA {g:Gan} (a:aH g.need=true) (i:0<=g.pods/\g.pods<=16):(dem g).pos:=by
 unfold aH at a
 simp only [Af,decide_eq_true_eq] at a
 obtain ⟨⟨⟨b,k⟩,d,h⟩,c,f⟩:=a
 have key:∀ x,0<=x->0<=EA x g.pods:=fun x j=>by
  have e:0<=eU x 1099511627776*eU g.pods 1048576:=Hj (by unfold eU;omega) (by unfold eU;omega)
  unfold EA
  generalize eU x 1099511627776*eU g.pods 1048576=q at e
  unfold eU
  omega
 exact ⟨key _ b,key _ d,key _ c⟩
def Was (c:Con) (l:List Rn) (n:Int):Prop:=∃ (ids:List Int) (x:Rn),x∈l/\x.g.id=n/\cY c (ofL c (aE l ids)) x.g.ten=true
theorem aDW {v:Int} {l:List Int}:inB v l=true↔v∈l:=by unfold inB;simp
theorem eD {l:List Rn} {ids:List Int} {x:Rn}:x∈aE l ids↔x∈l/\x.g.id∉ids:=by
 unfold aE
 rw [Dt]
 refine and_congr Ly ?_
 rw [<-aDW]
 cases inB x.g.id ids<;>simp
theorem MW {c:Con} {l:List Rn} {g:Gan} {R:List Int}:∀ (f:Nat) (ids:List Int),ids.Nodup->(∀ n∈ids,Was c l n)->chA c l g f ids=some R->R.Nodup/\(∀ n∈R,Was c l n)/\sE c l g R=true
 | 0,ids,_,_,h=>by cases h
 | f+1,ids,hn,hw,h=>by
  unfold chA at h
  split at h
  .rename_i m
   cases h
   exact ⟨hn,hw,m⟩
  .split at h
   .cases h
   .rename_i n k
    obtain ⟨x,h1,j,h3⟩:=FE k
    have hm:=eD.1 h1
    refine MW f _ ?_ ?_ h
    .rw [Ax]
     refine ⟨hn,by simp,fun a d b i e=>?_⟩
     simp at i
     subst i e
     rw [j] at hm
     exact hm.2 d
    .intro a d
     rcases Ao.1 d with d | d
     .exact hw a d
     .simp at d
      subst d
      exact ⟨ids,x,hm.1,j,h3⟩
theorem aEI {c:Con} {l:List Rn} {g:Gan} (ids:List Int) (a:Int) (h:sE c l g ids=true):sE c l g (chS c l g ids a)=true/\(chS c l g ids a).Sublist ids:=by
 have e:chS c l g ids a=if sE c l g (kM ids a)=true then kM ids a else ids:=rfl
 rw [e]
 cases b:sE c l g (kM ids a) with
 | true=>rw [if_pos rfl];exact ⟨b,Gb⟩
 | false=>rw [if_neg d_];exact ⟨h,Hg _⟩
theorem aBS {c:Con} {l:List Rn} {g:Gan} (bs:List Int):∀ (ids:List Int),sE c l g ids=true->sE c l g (bs.foldl (chS c l g) ids)=true/\(bs.foldl (chS c l g) ids).Sublist ids:=by
 induction bs with
 | nil=>intro ids h;exact ⟨h,Hg _⟩
 | cons a r b=>
  intro ids h
  have h1:=aEI ids a h
  rw [Aq]
  generalize chS c l g ids a=q at h1
  obtain ⟨d,h3⟩:=b q h1.1
  exact ⟨d,h3.trans h1.2⟩
theorem yL {c:Con} {l:List Rn} {g:Gan} {R:List Int} (h:fJ c l g=some R):rF c (ofL c l) g.ten (dem g)=true/\R.Nodup/\(∀ n∈R,Was c l n)/\sE c l g R=true:=by
 unfold fJ at h
 split at h
 .rename_i b
  split at h
  .cases h
  .rename_i ids f
   cases h
   obtain ⟨h1,i,h3⟩:=MW _ [] s_ s_ f
   obtain ⟨d,a⟩:=aBS ids ids h3
   exact ⟨b,a.nodup h1,fun n e=>i n (a.subset e),d⟩
 .cases h
def pJ (l:List Rn):Prop:=l.Pairwise fun a b=>a.g.id≠b.g.id/\a.seq≠b.seq
theorem xU {a:Int}:∀ {q:List Rn},q.Pairwise (fun x y=>x.g.id≠y.g.id)->(∃ x∈q,x.g.id=a)->(q.filter fun y=>!(y.g.id==a)).length+1=q.length
 | [],_,h=>by obtain ⟨x,b,_⟩:=h;cases b
 | y::r,hp,h=>by
  have hp:=Bn.1 hp
  rw [Hv]
  by_cases c:y.g.id=a
  .have e:(r.filter fun y=>!(y.g.id==a))=r:=Jz.2 fun z hz=>by
    have:=hp.1 z hz
    rw [c] at this
    have:(z.g.id==a)=false:=by simpa using fun e=>this e.symm
    rw [this];rfl
   rw [if_neg (by simp [c]),e]
   simp
  .obtain ⟨x,b,d⟩:=h
   have b:x∈r:=by
    rcases Aj.1 b with rfl | b
    .exact absurd d c
    .exact b
   have:=xU hp.2 ⟨x,b,d⟩
   rw [if_pos (by simp [c])]
   simp only [Bt]
   omega
theorem GW (l:List Rn) (a:Int) (r:List Int):aE l (a::r)=(aE l r).filter fun x=>!(x.g.id==a):=by
 unfold aE
 rw [List.filter_filter]
 refine Kl fun x _=>?_
 unfold inB
 rw [Gn]
 cases (r.any fun y=>x.g.id==y)<;>cases (x.g.id==a)<;>rfl
theorem xS {l:List Rn} (c:pJ l):∀ {ids:List Int},ids.Nodup->(∀ n∈ids,∃ x∈l,x.g.id=n)->(aE l ids).length+ids.length=l.length
 | [],_,_=>by rw [lM];simp
 | a::r,b,hm=>by
  have b:=Bp.1 b
  have f:=xS c b.2 fun n h=>hm n (by simp [h])
  obtain ⟨x,e,d⟩:=hm a s_
  have hp:(aE l r).Pairwise fun x y=>x.g.id≠y.g.id:=(c.sublist Gb).imp fun h=>h.1
  have:=xU (a:=a) hp ⟨x,eD.2 ⟨e,by rw [d];exact b.1⟩,d⟩
  rw [GW]
  simp only [Bt]
  omega
theorem aDm {l:List Rn} (c:pJ l) {x y:Rn} (e:x∈l) (d:y∈l) (h:x.g.id=y.g.id):x=y:=by
 obtain ⟨i,b,rfl⟩:=Gr e
 obtain ⟨j,a,rfl⟩:=Gr d
 have hp:=Dh.1 c
 rcases Nat.lt_trichotomy i j with h1 | rfl | h1
 .exact absurd h (hp i j b a h1).1
 .rfl
 .exact absurd h.symm (hp j i a b h1).1
noncomputable abbrev aIg:Func:=Tryz.f60
theorem OB (l:List Int) (hl:l.length<=1048576) (v:Int) (r:Bool):∀ (m i:Nat),i+m=l.length->inB v (l.drop i)=r->
  To E aIg (.pure (.ret (.bool r))) (.head (stk aIg 0) [(0,ii v),(1,.slice 1 (iv l) .no),(5,ii i)] []):=by
 have e:(iv l).length=l.length:=by simp
 intro m
 induction m with
 | zero=>
  intro i g a
  rw [Ae o_] at a
  have a:false=r:=a
  subst a
  refine gV ?_
  refine aF fun h=>?_
  repeat' first | (refine gN hE ?_;conv=>whnf) | exact rfl | (refine zt ?_;try intro h) | refine zu (fun h=>?_) fun h=>?_ | fail
 | succ m d=>
  intro i g a
  have b:i<l.length:=o_
  rw [Ad b] at a
  have get:=cQ b
  generalize l[i]=x at a get
  unfold inB at a
  rw [Gn] at a
  have d:=d (i+1) o_
  have f:(v==x)=(x==v):=by
   by_cases h:v=x
   .subst h;rfl
   .rw [beq_eq_false_iff_ne.2 h,beq_eq_false_iff_ne.2 (Eu h)]
  rw [f] at a
  cases c:(x==v) with
  | true=>
   rw [c] at a
   have a:true=r:=a
   subst a
   refine gV ?_
   refine aT fun h=>?_
   repeat' first | (refine gN hE ?_;conv=>whnf) | refine ⟨i,rfl,?_⟩ | refine ⟨_,get,?_⟩ | refine Aa (fun h=>?_) (fun h=>absurd h (by rw [c];decide)) | exact rfl | (refine zt ?_;try intro h) | refine zu (fun h=>?_) fun h=>?_ | fail
  | false=>
   rw [c,Jm] at a
   have next:=d a
   refine gV ?_
   refine aT fun h=>?_
   repeat' first | (refine gN hE ?_;conv=>whnf) | refine ⟨i,rfl,?_⟩ | refine ⟨_,get,?_⟩ | refine Aa (fun h=>absurd h (by rw [c];decide)) (fun h=>?_) | exact rfl | (refine zt ?_;try intro h) | refine zu (fun h=>?_) fun h=>?_ | fail
   exact To.cut [0,1,5] 0 rfl rfl rfl rfl next
theorem YZ (l:List Int) (hl:l.length<=1048576) (v:Int):aA Tryz.prog 60 [ii v,.slice 1 (iv l) .no] [] (.ret (.bool (inB v l))) []:=by
 refine c_ Tryz.f60 fun _=>?_
 refine gV ?_
 exact To.cut [0,1,5] 0 rfl rfl rfl rfl (OB l hl v _ l.length 0 o_ rfl)
noncomputable abbrev aIi:Func:=Tryz.f31
theorem X9 (l:List Rn) (hs:Sm l) (ids:List Int) (o:ids.length<=1048576) (R:List Rn):∀ (m i:Nat) (a:List Rn),i+m=l.length->a.length<=i->a++aE (l.drop i) ids=R->
  To (Eo [5] []) aIi (.pure (.ret (.slice 14 (rav R) .no))) (.head (stk aIi 0) [(0,.slice 14 (rav l) .no),(1,.slice 1 (iv ids) .no),(5,.slice 14 (rav a) (.own 0 0)),(6,ii i)] [.tail 0 14 44]):=by
 have k:(rav l).length=l.length:=by simp
 have hl:=hs.1
 intro m
 induction m with
 | zero=>
  intro i a r n b
  rw [Ae o_] at b
  have b:a++[]=R:=b
  rw [Bm] at b
  subst b
  refine gV ?_
  refine aF fun h=>?_
  repeat' first | (refine gN (hEo [5] []) ?_;conv=>whnf) | exact rfl | (refine zt ?_;try intro h) | refine zu (fun h=>?_) fun h=>?_ | fail
 | succ m j=>
  intro i a r n b
  have c:i<l.length:=o_
  rw [Ad c] at b
  generalize q:l[i]=x at b
  have get:(rav l)[i]? =some x.av:=(cJ c).trans (by rw [q])
  have p:(rav a).length=a.length:=by simp
  have d:=YZ ids o x.g.id
  cases f:inB x.g.id ids with
  | true=>
   rw [f] at d
   rw [xR f] at b
   have next:=j (i+1) a o_ o_ b
   refine gV ?_
   refine aT fun h=>?_
   repeat' first | (refine gN (hEo [5] []) ?_;conv=>whnf) | refine ⟨i,rfl,?_⟩ | refine ⟨_,get,?_⟩ | refine .pure _ [] d ?_ | exact rfl | (refine zt ?_;try intro h) | refine zu (fun h=>?_) fun h=>?_ | fail
   refine To.part [0,1,5,6] [0] rfl rfl rfl ?_
   exact next
  | false=>
   rw [f] at d
   rw [xQ f] at b
   have next:=j (i+1) (a++[x]) o_ q_ (by rw [Ay];exact b)
   have e:rav (a++[x])=rav a++[x.av]:=by simp
   rw [e] at next
   refine gV ?_
   refine aT fun h=>?_
   repeat' first | (refine gN (hEo [5] []) ?_;conv=>whnf) | refine ⟨i,rfl,?_⟩ | refine ⟨_,get,?_⟩ | refine .pure _ [] d ?_ | refine ⟨⟨by simp only [maxLen];simp;omega,by simp;omega⟩,?_⟩ | exact rfl | (refine zt ?_;try intro h) | refine zu (fun h=>?_) fun h=>?_ | fail
   refine To.part [0,1,5,6] [0] rfl rfl rfl ?_
   exact next
theorem lQ (l:List Rn) (hs:Sm l) (ids:List Int) (a:ids.length<=1048576):aA Tryz.prog 31 [.slice 14 (rav l) .no,.slice 1 (iv ids) .no] [] (.ret (.slice 14 (rav (aE l ids)) .no)) []:=by
 refine cT (E:=(Eo [5] [])) (fn:=Tryz.f31) (g:=.pure _) fun _=>?_
 refine gV ?_
 refine To.part [0,1,5,6] [0] rfl rfl rfl ?_
 exact X9 l hs ids a _ l.length 0 [] o_ s_ rfl
def LeR (a b:Rn):Prop:=dX b a=false
theorem jR {a b:Rn}:LeR a b↔b.st<a.st\/(b.st=a.st/\b.seq<=a.seq):=by
 unfold LeR
 have h:=tD (a:=b) (b:=a)
 cases c:dX b a with
 | true=>
  have:=h.1 c
  constructor
  .intro h;cases h
  .intro d;omega
 | false=>
  have:¬ (a.st<b.st\/(a.st=b.st/\a.seq<b.seq)):=fun q=>by rw [h.2 q] at c;cases c
  constructor
  .intro _;omega
  .intro _;rfl
theorem LeR.trans {a b c:Rn} (h:LeR a b) (k:LeR b c):LeR a c:=by rw [jR] at *;omega
theorem IA {a b:Rn} (h:dX a b=true):LeR a b:=by
 have:=tD.1 h
 rw [jR]
 omega
theorem F1 {xs:List Rn} {i k:Nat} (c:i<xs.length) (b:k<xs.length) (j:Nat):aX (mM xs i k) j=if j=k then aX xs i else if j=i then aX xs k else aX xs j:=by
 unfold mM
 conv=>lhs;unfold aX
 rw [Fi,Fi]
 by_cases h1:j=k
 .subst h1
  rw [if_pos rfl,if_pos rfl,if_pos (by simpa using b)]
  rfl
 .rw [if_neg (fun e=>h1 e.symm),if_neg h1]
  by_cases a:j=i
  .subst a
   rw [if_pos rfl,if_pos rfl,if_pos c]
   rfl
  .rw [if_neg (fun e=>a e.symm),if_neg a]
   rfl
def Hp (n:Nat) (xs:List Rn):Prop:=∀ j,0<j->j<n->LeR (aX xs ((j-1) / 2)) (aX xs j)
theorem Hp.root {n:Nat} {xs:List Rn} (h:Hp n xs):∀ (m j:Nat),j<=m->j<n->LeR (aX xs 0) (aX xs j)
 | 0,j,hm,_=>by
  have:j=0:=o_
  subst this
  rw [jR];omega
 | m+1,j,hm,hj=>by
  by_cases a:j=0
  .subst a;rw [jR];omega
  .exact (h.root m ((j-1) / 2) o_ o_).trans (h j o_ hj)
theorem XG (n:Nat):∀ (f:Nat) (xs:List Rn) (i:Nat),xs.length=n->i<n->i<f->(∀ j,0<j->j<n->j≠i->LeR (aX xs ((j-1) / 2)) (aX xs j))->(∀ j,0<j->j<n->(j-1) / 2=i->0<i->LeR (aX xs ((i-1) / 2)) (aX xs j))->Hp n (upH f xs i)
 | 0,xs,i,_,_,h,_,_=>by omega
 | f+1,xs,i,hx,hi,hf,h1,h2=>by
  unfold upH
  by_cases r:i=0
  .rw [if_pos r]
   exact fun j a b=>h1 j a b o_
  rw [if_neg r]
  generalize d:(i-1) / 2=up
  have s:up<i:=o_
  cases q:dX (aX xs i) (aX xs up) with
  | false=>
   rw [if_neg d_]
   intro j a b
   by_cases l:j=i
   .subst l
    rw [d]
    exact q
   .exact h1 j a b l
  | true=>
   rw [if_pos rfl]
   have o:=IA q
   have g:=fun j=>F1 (xs:=xs) (i:=i) (k:=up) o_ o_ j
   have m:0<up->LeR (aX xs ((up-1) / 2)) (aX xs up):=fun h=>h1 up h o_ o_
   refine XG n f _ up (by rw [dS];exact hx) o_ o_ (fun j a b l=>?_) (fun j a b l p=>?_)
   .rw [g,g]
    by_cases c:j=i
    .subst c
     rw [d,if_pos rfl,if_neg l,if_pos rfl]
     exact o
    .rw [if_neg l,if_neg c]
     by_cases hp:(j-1) / 2=i
     .rw [if_neg o_,if_pos hp]
      have:=h2 j a b hp o_
      rwa [d] at this
     .by_cases e:(j-1) / 2=up
      .rw [if_pos e]
       have:=h1 j a b c
       rw [e] at this
       exact o.trans this
      .rw [if_neg e,if_neg hp]
       exact h1 j a b c
   .rw [g,g,if_neg o_,if_neg o_]
    by_cases c:j=i
    .subst c
     rw [if_neg o_,if_pos rfl]
     exact m p
    .rw [if_neg o_,if_neg c]
     have:=h1 j a b c
     rw [l] at this
     exact (m p).trans this
theorem L9 {xs:List Rn} {x:Rn} {j:Nat} (h:j<xs.length):aX (xs++[x]) j=aX xs j:=by
 unfold aX
 rw [Ag h]
theorem aDc {xs:List Rn} (h:Hp xs.length xs) (x:Rn):Hp (kJ xs x).length (kJ xs x):=by
 rw [E7]
 unfold kJ
 refine XG (xs.length+1) _ _ _ s_ o_ o_ (fun j a b c=>?_) (fun j a b c d=>by omega)
 rw [L9 o_,L9 o_]
 exact h j a o_
theorem MM (n:Nat):∀ (f:Nat) (xs:List Rn) (i:Nat),n<=xs.length->i<xs.length->n<f+i+1->(∀ j,0<j->j<n->(j-1) / 2≠i->LeR (aX xs ((j-1) / 2)) (aX xs j))->(∀ j,0<j->j<n->(j-1) / 2=i->0<i->LeR (aX xs ((i-1) / 2)) (aX xs j))->Hp n (nJ f xs n i)
 | 0,xs,i,_,_,hf,h1,h2=>by
  intro j a b
  exact h1 j a b o_
 | f+1,xs,i,hx,hi,hf,h1,h2=>by
  unfold nJ
  by_cases q:2*i+1<n
  .rw [if_pos q]
   have r:=AA xs n i q
   have c:∀ j,j<n->(j=2*i+1\/j=2*i+2)->LeR (aX xs (lW xs n i)) (aX xs j):=fun j d o=>by
    unfold lW
    by_cases h3:2*i+2<n
    .rw [if_pos h3]
     cases e:dX (aX xs (2*i+2)) (aX xs (2*i+1)) with
     | true=>
      rw [if_pos rfl]
      rcases o with rfl | rfl
      .exact IA e
      .rw [jR];omega
     | false=>
      rw [if_neg d_]
      rcases o with rfl | rfl
      .rw [jR];omega
      .exact e
    .rw [if_neg h3]
     rcases o with rfl | rfl
     .rw [jR];omega
     .omega
   generalize lW xs n i=k at r c
   cases e:dX (aX xs k) (aX xs i) with
   | false=>
    rw [if_neg d_]
    intro j a b
    by_cases d:(j-1) / 2=i
    .rw [d]
     exact LeR.trans e (c j b o_)
    .exact h1 j a b d
   | true=>
    rw [if_pos rfl]
    have p:=IA e
    have g:=fun j=>F1 (xs:=xs) (i:=i) (k:=k) hi o_ j
    have m:(k-1) / 2=i:=o_
    refine MM n f _ k (by rw [dS];exact hx) (by rw [dS];omega) o_ (fun j a b d=>?_) (fun j a b d s=>?_)
    .rw [g,g]
     by_cases hp:(j-1) / 2=i
     .rw [hp,if_neg o_,if_pos rfl]
      by_cases h:j=k
      .rw [if_pos h];exact p
      .rw [if_neg h,if_neg o_]
       exact c j b o_
     .rw [if_neg d,if_neg hp,if_neg o_]
      by_cases l:j=i
      .subst l
       rw [if_pos rfl]
       exact h2 k o_ o_ m a
      .rw [if_neg l]
       exact h1 j a b hp
    .rw [m,g,g,if_neg o_,if_pos rfl,if_neg o_,if_neg o_]
     have:=h1 j a b o_
     rwa [d] at this
  .rw [if_neg q]
   intro j a b
   exact h1 j a b o_
theorem F2 {xs:List Rn} {x:Rn} {j:Nat} (h:0<j):aX (xs.set 0 x) j=aX xs j:=by
 unfold aX
 rw [Bh o_]
theorem aGa {xs:List Rn} {n:Nat} (f:0<n) (d:n<=xs.length) (h:Hp n xs):Hp (n-1) (BJ xs n):=by
 unfold BJ
 refine MM (n-1) n _ 0 q_ q_ o_ (fun j a b c=>?_) (fun j a b c e=>by omega)
 rw [F2 o_,F2 a]
 exact h j a o_
theorem AZ {xs:List Rn} {i k:Nat} (b:i<xs.length) (a:k<xs.length):(mM xs i k).Perm xs:=by
 unfold mM aX
 rw [Ab b,Ab a]
 exact List.set_set_perm b a
theorem JX:∀ (f:Nat) (xs:List Rn) (i:Nat),i<xs.length->(upH f xs i).Perm xs
 | 0,xs,i,_=>Ep _
 | f+1,xs,i,hi=>by
  unfold upH
  split
  .exact Ep _
  .split
   .exact (JX f _ _ (by rw [dS];omega)).trans (AZ hi o_)
   .exact Ep _
theorem yB:∀ (l xs:List Rn),(l.foldl kJ xs).Perm (xs++l)
 | [],xs=>by simp
 | x::r,xs=>by
  rw [Aq]
  refine (yB r _).trans ?_
  have h:(kJ xs x).Perm (xs++[x]):=JX _ _ _ s_
  have:=h.append_right r
  rwa [Ay] at this
theorem E6:∀ (l xs:List Rn),Hp xs.length xs->Hp (l.foldl kJ xs).length (l.foldl kJ xs)
 | [],xs,h=>h
 | x::r,xs,h=>by rw [Aq];exact E6 r _ (aDc h x)
theorem jZ {xs:List Rn} {m j:Nat} (h:j<m):aX (xs.take m) j=aX xs j:=by
 unfold aX
 rw [Br h]
theorem NR {xs:List Rn} {m i k:Nat} (b:i<m) (a:k<m):(mM xs i k).take m=mM (xs.take m) i k:=by
 unfold mM
 rw [jZ b,jZ a,List.take_set,List.take_set]
theorem QB {xs:List Rn} {n i:Nat} (h:2*i+1<n):lW (xs.take n) n i=lW xs n i:=by
 unfold lW
 by_cases h3:2*i+2<n
 .rw [if_pos h3,if_pos h3,jZ h3,jZ h]
 .rw [if_neg h3,if_neg h3]
theorem DH (n:Nat):∀ (f:Nat) (xs:List Rn) (i:Nat),i<n\/n=0->(nJ f xs n i).take n=nJ f (xs.take n) n i
 | 0,xs,i,_=>rfl
 | f+1,xs,i,hi=>by
  unfold nJ
  by_cases a:2*i+1<n
  .rw [if_pos a,if_pos a]
   have b:=AA xs n i a
   rw [QB a,jZ b.1,jZ o_]
   split
   .rw [DH n f _ _ o_,NR o_ b.1]
   .rfl
  .rw [if_neg a,if_neg a]
theorem DI (n:Nat):∀ (f:Nat) (xs:List Rn) (i:Nat),n<=xs.length->i<xs.length->(nJ f xs n i).Perm xs
 | 0,xs,i,_,_=>Ep _
 | f+1,xs,i,hn,hi=>by
  unfold nJ
  split
  .rename_i a
   have b:=AA xs n i a
   split
   .exact (DI n f _ _ (by rw [dS];exact hn) (by rw [dS];omega)).trans (AZ hi o_)
   .exact Ep _
  .exact Ep _
theorem K5 {xs:List Rn} {n:Nat} (f:0<n) (a:n<=xs.length):(aX xs 0::(BJ xs n).take (n-1)).Perm (xs.take n):=by
 match n,f with
 | 1,_=>
  match xs,a with
  | x::r,_=>exact Ep _
 | m+2,_=>
  have d:m+2-1=m+1:=rfl
  unfold BJ
  rw [d,DH (m+1) _ _ 0 (.inl o_)]
  match xs,a with
  | x::r,a=>
  have c:m<r.length:=by simp at a;omega
  have b:aX (x::r) (m+1)=r[m]:=by
   unfold aX
   rw [Fe,Ab c]
   rfl
  have e:(List.set (x::r) 0 (aX (x::r) (m+1))).take (m+1)=r[m]::r.take m:=by rw [b];rfl
  rw [e]
  have e3:(x::r).take (m+2)=x::(r.take m++[r[m]]):=by
   show x::r.take (m+1)=_
   rw [Hz c]
  rw [e3]
  refine List.Perm.cons _ ?_
  refine (DI (m+1) _ _ 0 q_ s_).trans ?_
  exact (List.perm_append_singleton _ _).symm
theorem qD:∀ (n:Nat) (xs:List Rn),n<=xs.length->(jA n xs).Perm (xs.take n)
 | 0,xs,_=>by simp [jA]
 | n+1,xs,hn=>by
  unfold jA
  have h1:=K5 (xs:=xs) (n:=n+1) o_ hn
  have a:=qD n (BJ xs (n+1)) (by rw [uM];omega)
  exact (List.Perm.cons _ a).trans h1
theorem E8:∀ (n:Nat) (xs:List Rn),n<=xs.length->Hp n xs->(jA n xs).Pairwise LeR
 | 0,xs,_,_=>by simp [jA]
 | n+1,xs,hn,h=>by
  unfold jA
  refine Bn.2 ⟨fun y a=>?_,E8 n _ (by rw [uM];omega) (aGa o_ hn h)⟩
  have h1:=(qD n (BJ xs (n+1)) (by rw [uM];omega)).mem_iff.1 a
  have b:=(K5 (xs:=xs) (n:=n+1) o_ hn).mem_iff.1 (Ap _ h1)
  obtain ⟨j,c,rfl⟩:=Gk.1 b
  have e:aX xs j=xs[j]:=by
   unfold aX
   rw [Ab o_]
   rfl
  rw [<-e]
  exact h.root j j (Bi _) o_
theorem O0 (l:List Rn):(jB l).Perm l:=by
 unfold jB
 have a:(l.foldl kJ []).length=l.length:=by rw [oC];simp
 refine (qD _ _ o_).trans ?_
 rw [Cn o_]
 simpa using yB l []
theorem Z2 (l:List Rn):(jB l).Pairwise LeR:=by
 unfold jB
 have c:(l.foldl kJ []).length=l.length:=by rw [oC];simp
 refine E8 _ _ o_ ?_
 rw [<-c]
 exact E6 l [] (fun j a b=>by simp at b)
theorem EV {R:Rn->Rn->Prop}:∀ {a b:List Rn},a.Perm b->a.Pairwise R->b.Pairwise R->(∀ x∈a,∀ y∈a,R x y->R y x->x=y)->(∀ x∈a,R x x)->a=b
 | [],b,h,_,_,_,_=>by
  have:=h.length_eq
  exact (Al (by simpa using this.symm)).symm
 | x::r,[],h,_,_,_,_=>by have:=h.length_eq;simp at this
 | x::r,y::s,h,h1,d,ha,hr=>by
  have h1:=Bn.1 h1
  have d:=Bn.1 d
  have g:x=y:=by
   have i:x∈y::s:=h.mem_iff.1 s_
   have f:y∈x::r:=h.mem_iff.2 s_
   rcases Aj.1 i with e | i
   .exact e
   .rcases Aj.1 f with e | f
    .exact e.symm
    .exact ha x s_ y (by simp [f]) (h1.1 y f) (d.1 x i)
  subst g
  have hp:r.Perm s:=h.cons_inv
  rw [EV hp h1.2 d.2 (fun a c b j=>ha a (by simp [c]) b (by simp [j])) (fun a c=>hr a (by simp [c]))]
def qM (x:Rn) (out:List Rn):Nat->Nat
 | 0=>0
 | k+1=>if dX x (aX out k)=true then qM x out k else k+1
def CG (out:List Rn) (x:Rn):List Rn:=out.take (qM x out out.length)++[x]++out.drop (qM x out out.length)
def HU (l:List Rn):List Rn:=l.foldl CG []
theorem SP (x:Rn) (out:List Rn):∀ (k:Nat),qM x out k<=k
 | 0=>Bi _
 | k+1=>by
  unfold qM
  split
  .have:=SP x out k;omega
  .exact Bi _
theorem FP (x:Rn) (out:List Rn):∀ (k:Nat),(∀ j,qM x out k<=j->j<k->dX x (aX out j)=true)/\(0<qM x out k->dX x (aX out (qM x out k-1))=false)
 | 0=>⟨fun j _ h=>by omega,fun h=>by simp [qM] at h⟩
 | k+1=>by
  obtain ⟨h1,e⟩:=FP x out k
  unfold qM
  cases c:dX x (aX out k) with
  | true=>
   rw [if_pos rfl]
   refine ⟨fun j a b=>?_,e⟩
   by_cases d:j=k
   .subst d;exact c
   .exact h1 j a o_
  | false=>
   rw [if_neg d_]
   exact ⟨fun j a b=>by omega,fun _=>c⟩
theorem FQ (out:List Rn) (x:Rn):(CG out x).Perm (out++[x]):=by
 unfold CG
 generalize qM x out out.length=k
 have h:(out.take k++[x]++out.drop k).Perm (out.take k++out.drop k++[x]):=by
  rw [Ay,Ay]
  exact Fm _ Gj
 rwa [De] at h
theorem aDS {out:List Rn} (h:out.Pairwise LeR) (x:Rn):(CG out x).Pairwise LeR:=by
 have l:=SP x out out.length
 obtain ⟨h1,o⟩:=FP x out out.length
 unfold CG
 generalize qM x out out.length=k at l h1 o
 have hp:=Dh.1 h
 have m:∀ {j:Nat} (e:j<out.length),aX out j=out[j]:=fun {j} e=>by
  unfold aX
  rw [Ab e]
  rfl
 have c:∀ y∈out.take k,LeR y x:=fun y f=>by
  obtain ⟨j,e,rfl⟩:=Gk.1 f
  have hl:LeR (aX out (k-1)) x:=o o_
  rw [m o_] at hl
  by_cases i:j=k-1
  .subst i;exact hl
  .exact (hp j (k-1) o_ o_ o_).trans hl
 have d:∀ y∈out.drop k,LeR x y:=fun y f=>by
  obtain ⟨j,e,rfl⟩:=List.mem_drop_iff_getElem.1 f
  have:=h1 (k+j) o_ o_
  rw [m o_] at this
  exact IA this
 have hs:=h
 rw [<-De k out,Dx] at hs
 rw [Ay,Dx]
 refine ⟨hs.1,?_,fun a n b g=>?_⟩
 .exact Bn.2 ⟨d,hs.2.1⟩
 .rcases Aj.1 g with rfl | g
  .exact c a n
  .exact hs.2.2 a n b g
theorem E4:∀ (l out:List Rn),(l.foldl CG out).Perm (out++l)
 | [],out=>by simp
 | x::r,out=>by
  rw [Aq]
  refine (E4 r _).trans ?_
  have:=(FQ out x).append_right r
  rwa [Ay] at this
theorem R3:∀ (l out:List Rn),out.Pairwise LeR->(l.foldl CG out).Pairwise LeR
 | [],out,h=>h
 | x::r,out,h=>by rw [Aq];exact R3 r _ (aDS h x)
theorem K9 {l:List Rn} (g:pJ l):jB l=HU l:=by
 have h1:=O0 l
 have h:(HU l).Perm l:=by have:=E4 l [];simpa [HU] using this
 refine EV (h1.trans h.symm) (Z2 l) (R3 l [] s_) (fun x c y a b d=>?_) (fun x _=>by rw [jR];omega)
 have c:=h1.mem_iff.1 c
 have a:=h1.mem_iff.1 a
 rw [jR] at b d
 have hs:x.seq=y.seq:=o_
 obtain ⟨i,e,rfl⟩:=Gr c
 obtain ⟨j,f,rfl⟩:=Gr a
 have hp:=Dh.1 g
 rcases Nat.lt_trichotomy i j with h1 | rfl | h1
 .exact absurd hs (hp i j e f h1).2
 .rfl
 .exact absurd hs.symm (hp j i f e h1).2
noncomputable abbrev fRO:Func:=Tryz.f159
abbrev roF (l out:List Rn) (i:Int):List (Nat×AVal):=[(0,.slice 14 (rav l) .no),(3,.slice 14 (rav out) .no),(4,ii i)]
theorem aHM (l:List Rn) (R:AVal) (x:Rn) (i:Nat) (z:i<1048576) (f:(rav l)[i]? =some x.av) (out:List Rn) (w:out.length<=1048576)
  (next:∀ K:Nat,K<=out.length->K=qM x out out.length->To (Er [] [70,71,72]) fRO (.pure (.ret R)) (.head (stk fRO 0) [(0,.slice 14 (rav l) .no),(3,.slice 14 ((rav out).take K++[x.av]++(rav out).drop K) .no),(4,ii ((i:Int)+1))] [])):∀ (k:Nat),k<=out.length->qM x out out.length=qM x out k->
  To (Er [] [70,71,72]) fRO (.pure (.ret R)) (.head (stk fRO 1) (roF l out i++[(5,ii k)]) []):=by
 have q:(rav out).length=out.length:=by simp
 intro k
 induction k with
 | zero=>
  intro o d
  have next:=next 0 (Cc _) (by rw [d];rfl)
  have s:(En 0 (rav out)).length=0:=by simp
  refine gV ?_
  repeat' first | (refine gN (hEr [] [70,71,72]) ?_;conv=>whnf) | refine Ai 0 (Aa o_ ?_) | refine ⟨i,rfl,?_⟩ | refine ⟨_,f,?_⟩ | refine ⟨⟨by simp only [maxLen];simp;omega,by simp;omega⟩,?_⟩ | refine Aa (Aa (by simp [maxLen]) s_) ?_ | exact rfl | (refine zt ?_;try intro h) | refine zu (fun h=>?_) fun h=>?_ | fail
  exact zqra7
 | succ k t=>
  intro o d
  have g:=SZ (xs:=out) (i:=k) o_
  have e:=tD (a:=x) (b:=aX out k)
  have r:qM x out (k+1)=if dX x (aX out k)=true then qM x out k else k+1:=rfl
  rw [r] at d
  have n:dX x (aX out k)=false->To (Er [] [70,71,72]) fRO (.pure (.ret R)) (.head (stk fRO 0) [(0,.slice 14 (rav l) .no),(3,.slice 14 ((rav out).take (k+1)++[x.av]++(rav out).drop (k+1)) .no),(4,ii ((i:Int)+1))] []):=fun h=>next (k+1) o (by rw [d,if_neg (by rw [h];decide)])
  have m:dX x (aX out k)=true->To (Er [] [70,71,72]) fRO (.pure (.ret R)) (.head (stk fRO 1) (roF l out i++[(5,ii k)]) []):=fun h=>t o_ (by rw [d,if_pos h])
  generalize aX out k=y at g e n m
  have p:((k+1:Nat):Int)-1=((k:Nat):Int):=o_
  by_cases v:y.st<x.st
  .have next:=m (e.2 (.inl v))
   have c:((0:Int)==0)=true:=rfl
   refine gV ?_
   repeat' first
    | (refine gN (hEr [] [70,71,72]) ?_;conv=>whnf)
    | refine Ai (k+1) (Aa rfl ?_)
    | refine Ai k (Aa o_ ?_)
    | refine Ai i (Aa rfl ?_)
    | refine Ai _ (Aa f ?_)
    | refine Ai _ (Aa g ?_)
    | refine ⟨⟨by simp only [maxLen];simp;omega,by simp;omega⟩,?_⟩
    | refine aY ?_
    | refine aN ?_
    | refine aT fun h=>?_
    | refine aF fun h=>?_
    | refine Aa (fun h=>?_) (fun h=>absurd h (by rw [c];decide))
    | refine Aa (fun h=>absurd h (by rw [c];decide)) (fun h=>?_)
    | refine Aa (Aa (by simp only [bW];omega) (by simp only [bI];omega)) ?_
    | refine aJ ?_
    | refine Aa o_ ?_
    | fail
   rw [p]
   exact To.cut [0,3,4,5] 0 rfl rfl rfl rfl next
  .by_cases j:y.st=x.st
   .have c:(y.st==x.st)=true:=by simp [j]
    by_cases u:y.seq<x.seq
    .have next:=m (e.2 (.inr ⟨j,u⟩))
     refine gV ?_
     repeat' first
      | (refine gN (hEr [] [70,71,72]) ?_;conv=>whnf)
      | refine Ai (k+1) (Aa rfl ?_)
      | refine Ai k (Aa o_ ?_)
      | refine Ai i (Aa rfl ?_)
      | refine Ai _ (Aa f ?_)
      | refine Ai _ (Aa g ?_)
      | refine ⟨⟨by simp only [maxLen];simp;omega,by simp;omega⟩,?_⟩
      | refine aY ?_
      | refine aN ?_
      | refine aT fun h=>?_
      | refine aF fun h=>?_
      | refine Aa (fun h=>?_) (fun h=>absurd h (by rw [c];decide))
      | refine Aa (fun h=>absurd h (by rw [c];decide)) (fun h=>?_)
      | refine Aa (Aa (by simp only [bW];omega) (by simp only [bI];omega)) ?_
      | refine aJ ?_
      | refine Aa o_ ?_
      | fail
     rw [p]
     exact To.cut [0,3,4,5] 0 rfl rfl rfl rfl next
    .have next:=n (by cases h:dX x y with | false=>rfl | true=>have:=e.1 h;omega)
     refine gV ?_
     repeat' first
      | (refine gN (hEr [] [70,71,72]) ?_;conv=>whnf)
      | refine Ai (k+1) (Aa rfl ?_)
      | refine Ai k (Aa o_ ?_)
      | refine Ai i (Aa rfl ?_)
      | refine Ai _ (Aa f ?_)
      | refine Ai _ (Aa g ?_)
      | refine ⟨⟨by simp only [maxLen];simp;omega,by simp;omega⟩,?_⟩
      | refine aY ?_
      | refine aN ?_
      | refine aT fun h=>?_
      | refine aF fun h=>?_
      | refine Aa (fun h=>?_) (fun h=>absurd h (by rw [c];decide))
      | refine Aa (fun h=>absurd h (by rw [c];decide)) (fun h=>?_)
      | refine Aa (Aa (by simp only [bW];omega) (by simp only [bI];omega)) ?_
      | refine aJ ?_
      | refine Aa o_ ?_
      | fail
     exact zqra7
   .have c:(y.st==x.st)=false:=by simp [j]
    have next:=n (by cases h:dX x y with | false=>rfl | true=>have:=e.1 h;omega)
    refine gV ?_
    repeat' first
     | (refine gN (hEr [] [70,71,72]) ?_;conv=>whnf)
     | refine Ai (k+1) (Aa rfl ?_)
     | refine Ai k (Aa o_ ?_)
     | refine Ai i (Aa rfl ?_)
     | refine Ai _ (Aa f ?_)
     | refine Ai _ (Aa g ?_)
     | refine ⟨⟨by simp only [maxLen];simp;omega,by simp;omega⟩,?_⟩
     | refine aY ?_
     | refine aN ?_
     | refine aT fun h=>?_
     | refine aF fun h=>?_
     | refine Aa (fun h=>?_) (fun h=>absurd h (by rw [c];decide))
     | refine Aa (fun h=>absurd h (by rw [c];decide)) (fun h=>?_)
     | refine Aa (Aa (by simp only [bW];omega) (by simp only [bI];omega)) ?_
     | refine aJ ?_
     | refine Aa o_ ?_
     | fail
    exact zqra7
theorem aFS (l:List Rn) (hl:l.length<=1000000) (R:List Rn):∀ (m i:Nat) (out:List Rn),i+m=l.length->out.length=i->(l.drop i).foldl CG out=R->
  To (Er [] [70,71,72]) fRO (.pure (.ret (.slice 14 (rav R) .no))) (.head (stk fRO 0) (roF l out i) []):=by
 have g:(rav l).length=l.length:=by simp
 intro m
 induction m with
 | zero=>
  intro i out o j a
  rw [Ae o_] at a
  have a:out=R:=a
  subst a
  refine gV ?_
  refine aF fun h=>?_
  repeat' first | (refine gN (hEr [] [70,71,72]) ?_;conv=>whnf) | exact rfl | (refine zt ?_;try intro h) | refine zu (fun h=>?_) fun h=>?_ | fail
 | succ m n=>
  intro i out o j a
  have c:i<l.length:=o_
  rw [Ad c,Aq] at a
  have f:(rav l)[i]? =some l[i].av:=cJ c
  generalize l[i]=x at a f
  have d:(rav out).length=out.length:=by simp
  have b:=aHM l (.slice 14 (rav R) .no) x i o_ f out o_ (fun K p k=>by
   have e:(rav out).take K++[x.av]++(rav out).drop K=rav (CG out x):=by unfold CG;rw [<-k];simp
   rw [e]
   exact n (i+1) (CG out x) o_ (by have:=(FQ out x).length_eq;simp at this;omega) a) out.length (Bi _) rfl
  refine gV ?_
  refine aT fun h=>?_
  rw [<-d] at b
  repeat' first | (refine gN (hEr [] [70,71,72]) ?_;conv=>whnf) | exact rfl | (refine zt ?_;try intro h) | refine zu (fun h=>?_) fun h=>?_ | fail
  exact To.cut [0,3,4,5] 0 rfl rfl rfl rfl b
theorem UP (l:List Rn) (hl:l.length<=1000000):aA Tryz.prog 159 [.slice 14 (rav l) .no] [] (.ret (.slice 14 (rav (HU l)) .no)) []:=by
 refine cT (E:=(Er [] [70,71,72])) (fn:=Tryz.f159) (g:=.pure _) fun _=>?_
 refine gV ?_
 refine To.part [0,3,4] [] rfl rfl rfl ?_
 exact aFS l hl _ l.length 0 [] o_ rfl rfl
theorem KB (c:Con) (m:c.sm) (a:List V3) (t:Int) (need:V3) (r:Bool) (d:rF c a t need=r):aA Tryz.prog 113 [c.av,.slice 3 (vav a) .no,ii t,need.av] [] (.ret (.bool r)) []:=by
 have b:=fO c m t
 rw [qB] at b
 unfold rF at d
 cases i:aU c.ns t with
 | false=>
  rw [i] at b
  rw [if_neg (by rw [i];decide)] at d
  subst d
  refine c_ Tryz.f113 fun _=>?_
  repeat' first | (refine gN hE ?_;conv=>whnf) | refine .pure _ [] b ?_ | exact rfl | (refine zt ?_;try intro h) | refine zu (fun h=>?_) fun h=>?_ | fail
 | true=>
  rw [i] at b
  rw [if_pos i] at d
  have l:=FI i
  have k:t=(t.toNat:Int):=o_
  have e:=JT (c:=c) l
  generalize bN c.ns t=x at e d
  have h1:=uL a t
  generalize atV a t=q1 at h1 d
  have j:=jM q1 need
  generalize dL q1 need=q2 at j d
  have h3:=kF q2 x.n
  rw [d] at h3
  refine c_ Tryz.f113 fun _=>?_
  repeat' first | (refine gN hE ?_;conv=>whnf) | refine .pure _ [] b ?_ | refine ⟨t.toNat,k,?_⟩ | refine ⟨_,e,?_⟩ | refine .pure _ [] h1 ?_ | refine .pure _ [] j ?_ | refine .pure _ [] h3 ?_ | exact rfl | (refine zt ?_;try intro h) | refine zu (fun h=>?_) fun h=>?_ | fail
theorem NZ (c:Con) (b:c.sm) (a:List V3) (t:Int) (need:V3):aA Tryz.prog 113 [c.av,.slice 3 (vav a) .no,ii t,need.av] [] (.ret (.bool (rF c a t need))) []:=KB c b a t need _ rfl
theorem HT (c:Con) (m:c.sm) (b:List V3) (t:Int) (r:Bool) (a:cY c b t=r):aA Tryz.prog 160 [c.av,.slice 3 (vav b) .no,ii t] [] (.ret (.bool r)) []:=by
 have d:=fO c m t
 rw [qB] at d
 unfold cY at a
 cases i:aU c.ns t with
 | false=>
  rw [i] at d
  rw [if_neg (by rw [i];decide)] at a
  subst a
  refine c_ Tryz.f160 fun _=>?_
  repeat' first | (refine gN hE ?_;conv=>whnf) | refine .pure _ [] d ?_ | exact rfl | (refine zt ?_;try intro h) | refine zu (fun h=>?_) fun h=>?_ | fail
 | true=>
  rw [i] at d
  rw [if_pos i] at a
  have l:=FI i
  have k:t=(t.toNat:Int):=o_
  have e:=JT (c:=c) l
  generalize bN c.ns t=x at e a
  have h1:=uL b t
  generalize atV b t=q1 at h1 a
  have h3:=kF q1 x.n
  cases j:bK q1 x.n with
  | false=>
   rw [j] at h3 a
   have a:true=r:=a
   subst a
   refine c_ Tryz.f160 fun _=>?_
   repeat' first | (refine gN hE ?_;conv=>whnf) | refine .pure _ [] d ?_ | refine ⟨t.toNat,k,?_⟩ | refine ⟨_,e,?_⟩ | refine .pure _ [] h1 ?_ | refine .pure _ [] h3 ?_ | exact rfl | (refine zt ?_;try intro h) | refine zu (fun h=>?_) fun h=>?_ | fail
  | true=>
   rw [j] at h3 a
   have a:false=r:=a
   subst a
   refine c_ Tryz.f160 fun _=>?_
   repeat' first | (refine gN hE ?_;conv=>whnf) | refine .pure _ [] d ?_ | refine ⟨t.toNat,k,?_⟩ | refine ⟨_,e,?_⟩ | refine .pure _ [] h1 ?_ | refine .pure _ [] h3 ?_ | exact rfl | (refine zt ?_;try intro h) | refine zu (fun h=>?_) fun h=>?_ | fail
theorem KR (c:Con) (b:c.sm) (a:List V3) (t:Int):aA Tryz.prog 160 [c.av,.slice 3 (vav a) .no,ii t] [] (.ret (.bool (cY c a t))) []:=HT c b a t _ rfl
theorem xY (c:Con) (k:c.sm) (l:List Rn) (hs:Sm l) (g:Gan) (i:0<=g.pods/\g.pods<=16) (e:aH g.need=true) (ids:List Int) (j:ids.length<=1048576) (r:Bool) (b:sE c l g ids=r):
  aA Tryz.prog 114 [c.av,.slice 14 (rav l) .no,g.av,.slice 1 (iv ids) .no] [] (.ret (.bool r)) []:=by
 have d:=lQ l hs ids j
 have a:=kI c k (aE l ids) (nV hs ids) g i e
 unfold sE at b
 generalize aE l ids=left at d a b
 generalize bX c left g=Q at a b
 subst b
 unfold fdA at a
 cases Q with
 | none=>
  refine c_ Tryz.f114 fun _=>?_
  repeat' first | (refine gN hE ?_;conv=>whnf) | refine .pure _ [] d ?_ | refine .pure _ [] a ?_ | exact rfl | (refine zt ?_;try intro h) | refine zu (fun h=>?_) fun h=>?_ | fail
 | some x=>
  refine c_ Tryz.f114 fun _=>?_
  repeat' first | (refine gN hE ?_;conv=>whnf) | refine .pure _ [] d ?_ | refine .pure _ [] a ?_ | exact rfl | (refine zt ?_;try intro h) | refine zu (fun h=>?_) fun h=>?_ | fail
def nxA:Option Int->Int
 | some n=>n
 | none=>0
noncomputable abbrev fNx:Func:=Tryz.f115
theorem N8 (c:Con) (q:c.sm) (a:List V3) (o:List Rn) (u:o.length<=1048576) (r:Int):∀ (m i:Nat),i+m=o.length->(if bA (fun x=>cY c a x.g.ten) (o.drop i) i<0 then 0 else (aX o (bA (fun x=>cY c a x.g.ten) (o.drop i) i).toNat).g.id)=r->
  To E fNx (.pure (.ret (ii r))) (.head (stk fNx 0) [(3,.ref 0 0),(8,.slice 3 (vav a) .no),(9,.slice 14 (rav o) .no),(10,ii i)] [.cells 25 c.cs]):=by
 have n:(rav o).length=o.length:=by simp
 intro m
 induction m with
 | zero=>
  intro i s b
  rw [Ae o_] at b
  have b:0=r:=b
  subst b
  refine gV ?_
  refine aF fun h=>?_
  repeat' first | (refine gN hE ?_;conv=>whnf) | exact rfl | (refine zt ?_;try intro h) | refine zu (fun h=>?_) fun h=>?_ | fail
 | succ m j=>
  intro i s b
  have d:i<o.length:=o_
  have f:=SZ d
  have k:aX o i=o[i]:=by unfold aX;rw [Ab d];rfl
  rw [Ad d,<-k] at b
  have e:=KR c q a (aX o i).g.ten
  have j:=j (i+1) o_
  have p:bA (fun x=>cY c a x.g.ten) (aX o i::o.drop (i+1)) i=if cY c a (aX o i).g.ten=true then (i:Int) else bA (fun x=>cY c a x.g.ten) (o.drop (i+1)) (i+1):=rfl
  rw [p] at b
  cases l:cY c a (aX o i).g.ten with
  | true=>
   rw [l] at e b
   rw [if_pos rfl,if_neg o_,Dl] at b
   subst b
   generalize aX o i=x at f e
   refine gV ?_
   refine aT fun h=>?_
   repeat' first | (refine gN hE ?_;conv=>whnf) | refine ⟨i,rfl,?_⟩ | refine ⟨_,f,?_⟩ | refine .pure _ [] e ?_ | exact rfl | (refine zt ?_;try intro h) | refine zu (fun h=>?_) fun h=>?_ | fail
  | false=>
   rw [l] at e b
   simp only [Cv,if_false] at b
   have next:=j b
   generalize aX o i=x at f e
   refine gV ?_
   refine aT fun h=>?_
   repeat' first | (refine gN hE ?_;conv=>whnf) | refine ⟨i,rfl,?_⟩ | refine ⟨_,f,?_⟩ | refine .pure _ [] e ?_ | exact rfl | (refine zt ?_;try intro h) | refine zu (fun h=>?_) fun h=>?_ | fail
   exact To.cut [3,8,9,10] 1 rfl rfl rfl rfl next
theorem tS {l:List Rn} (a:pJ l) (ids:List Int):pJ (aE l ids):=a.sublist Gb
theorem YU (c:Con) (j:c.sm) (l:List Rn) (hs:Sm l) (hl:l.length<=1000000) (i:pJ l) (ids:List Int) (p:ids.length<=1048576):aA Tryz.prog 115 [c.av,.slice 14 (rav l) .no,.slice 1 (iv ids) .no] [] (.ret (ii (nxA (BX c l ids)))) []:=by
 have k:=lQ l hs ids p
 have hsl:=nV hs ids
 have m:(aE l ids).length<=l.length:=Dp _ _
 have b:=HM c j (aE l ids) hsl.1
 have a:=UP (aE l ids) o_
 have n:nxA (BX c l ids)=if bA (fun x=>cY c (ofL c (aE l ids)) x.g.ten) (HU (aE l ids)) 0<0 then 0 else (aX (HU (aE l ids)) (bA (fun x=>cY c (ofL c (aE l ids)) x.g.ten) (HU (aE l ids)) 0).toNat).g.id:=by
  rw [<-K9 (tS i ids)]
  unfold BX
  have e:atI c l ids=bA (fun x=>cY c (ofL c (aE l ids)) x.g.ten) (jB (aE l ids)) 0:=rfl
  rw [<-e]
  split
  .rfl
  .rfl
 have d:(HU (aE l ids)).length<=1048576:=by
  rw [<-K9 (tS i ids),O1]
  exact hsl.1
 rw [n]
 generalize ofL c (aE l ids)=us at b
 generalize HU (aE l ids)=o at a d
 generalize aE l ids=left at k b a
 refine c_ Tryz.f115 fun _=>?_
 repeat' first | (refine gN hE ?_;conv=>whnf) | refine .pure _ [] k ?_ | refine .pure _ [] b ?_ | refine .pure _ [] a ?_ | exact rfl | (refine zt ?_;try intro h) | refine zu (fun h=>?_) fun h=>?_ | fail
 exact To.cut [3,8,9,10] 1 rfl rfl rfl rfl (N8 c j us o d _ o.length 0 o_ rfl)
noncomputable abbrev fRC:Func:=Tryz.f71
abbrev rcO (c:Con) (g:Gan):List AObj:=[.cells 25 c.cs,.cells 42 g.cs]
abbrev rcF (l:List Rn) (ids:List Int):List (Nat×AVal):=[(1,.slice 14 (rav l) .no),(3,.ref 0 0),(5,.ref 1 0),(8,.slice 1 (iv ids) .no)]
abbrev aC6 (l:List Rn) (ids all:List Int) (i:Int):List (Nat×AVal):=rcF l ids++[(10,.slice 1 (iv all) .no),(11,ii i)]
theorem aHQ (c:Con) (g:Gan) (l:List Rn) (G:AVal) (ids all:List Int) (z:ids.length<=1048576) (i:Nat) (A:i<1048576) (a:Int) (r:(iv all)[i]? =some (ii a)) (R:List Int)
  (next:To (Eo [8,12] []) fRC (.pure (.ret G)) (.head (stk fRC 2) (aC6 l ids all i++[(12,.slice 1 (iv R) (.own 2 0)),(13,ii (ids.length:Nat))]) (rcO c g++[.tail 0 1 3]))):∀ (m k:Nat) (b:List Int),k+m=ids.length->b.length<=k->b++kM (ids.drop k) a=R->
  To (Eo [8,12] []) fRC (.pure (.ret G)) (.head (stk fRC 2) (aC6 l ids all i++[(12,.slice 1 (iv b) (.own 2 0)),(13,ii k)]) (rcO c g++[.tail 0 1 3])):=by
 have v:(iv ids).length=ids.length:=by simp
 intro m
 induction m with
 | zero=>
  intro k b p w d
  rw [Ae o_] at d
  have d:b++[]=R:=d
  rw [Bm] at d
  subst d
  have p:k=ids.length:=o_
  subst p
  exact next
 | succ m s=>
  intro k b p w d
  have f:k<ids.length:=o_
  rw [Ad f] at d
  have q:=cQ f
  generalize ids[k]=x at d q
  have y:(iv b).length=b.length:=by simp
  unfold kM at d
  rw [Hv] at d
  have j:(x !=a)= !(x==a):=rfl
  cases u:(x==a) with
  | true=>
   rw [u] at j d
   have o:(x !=a)=false:=j
   have n:=s (k+1) b o_ o_ d
   refine gV ?_
   refine aT fun h=>?_
   repeat' first | (refine gN (hEo [8,12] []) ?_;conv=>whnf) | refine ⟨k,rfl,?_⟩ | refine ⟨i,rfl,?_⟩ | refine ⟨_,q,?_⟩ | refine ⟨_,r,?_⟩ | refine Aa (fun h=>absurd h (by rw [o];decide)) (fun h=>?_) | exact rfl | (refine zt ?_;try intro h) | refine zu (fun h=>?_) fun h=>?_ | fail
   refine To.part [1,3,5,8,10,11,12,13] [0,1,2] rfl rfl rfl ?_
   exact n
  | false=>
   rw [u] at j d
   have o:(x !=a)=true:=j
   have n:=s (k+1) (b++[x]) o_ q_ (by rw [Ay];exact d)
   have e:iv (b++[x])=iv b++[ii x]:=by simp
   rw [e] at n
   refine gV ?_
   refine aT fun h=>?_
   repeat' first | (refine gN (hEo [8,12] []) ?_;conv=>whnf) | refine ⟨k,rfl,?_⟩ | refine ⟨i,rfl,?_⟩ | refine ⟨_,q,?_⟩ | refine ⟨_,r,?_⟩ | refine Aa (fun h=>?_) (fun h=>absurd h (by rw [o];decide)) | refine ⟨⟨by simp only [maxLen];simp;omega,by simp;omega⟩,?_⟩ | exact rfl | (refine zt ?_;try intro h) | refine zu (fun h=>?_) fun h=>?_ | fail
   refine To.part [1,3,5,8,10,11,12,13] [0,1,2] rfl rfl rfl ?_
   exact n
theorem aIH (c:Con) (v:c.sm) (l:List Rn) (hs:Sm l) (g:Gan) (s:0<=g.pods/\g.pods<=16) (r:aH g.need=true) (all:List Int) (x:all.length<=1048576) (R:List Int):∀ (m i:Nat) (ids:List Int),i+m=all.length->ids.length<=1048576->(all.drop i).foldl (chS c l g) ids=R->
  To (Eo [8,12] []) fRC (.pure (.ret (.tup [.slice 1 (iv R) .no,.bool true]))) (.head (stk fRC 1) (aC6 l ids all i) (rcO c g)):=by
 have p:(iv all).length=all.length:=by simp
 intro m
 induction m with
 | zero=>
  intro i ids w n b
  rw [Ae o_] at b
  have b:ids=R:=b
  subst b
  refine gV ?_
  refine aF fun h=>?_
  repeat' first | (refine gN (hEo [8,12] []) ?_;conv=>whnf) | exact rfl | (refine zt ?_;try intro h) | refine zu (fun h=>?_) fun h=>?_ | fail
 | succ m e=>
  intro i ids w n b
  have d:i<all.length:=o_
  rw [Ad d,Aq] at b
  have o:=cQ d
  generalize all[i]=a at b o
  have e:=e (i+1)
  have q:=VK ids a
  have u:(iv ids).length=ids.length:=by simp
  have h1:=xY c v l hs g s r (kM ids a) o_ _ rfl
  have j:chS c l g ids a=if sE c l g (kM ids a)=true then kM ids a else ids:=rfl
  rw [j] at b
  have fin:To (Eo [8,12] []) fRC (.pure (.ret (.tup [.slice 1 (iv R) .no,.bool true]))) (.head (stk fRC 2) (aC6 l ids all i++[(12,.slice 1 (iv (kM ids a)) (.own 2 0)),(13,ii (ids.length:Nat))]) (rcO c g++[.tail 0 1 3])):=by
   cases f:sE c l g (kM ids a) with
   | true=>
    rw [if_pos f] at b
    rw [f] at h1
    have next:=e (kM ids a) o_ o_ b
    refine gV ?_
    refine aF fun h=>?_
    repeat' first | (refine gN (hEo [8,12] []) ?_;conv=>whnf) | refine .pure _ [] (aA.strip h1) ?_ | exact rfl | (refine zt ?_;try intro h) | refine zu (fun h=>?_) fun h=>?_ | fail
    exact zqra2
   | false=>
    rw [if_neg (by rw [f];decide)] at b
    rw [f] at h1
    have next:=e ids o_ n b
    refine gV ?_
    refine aF fun h=>?_
    repeat' first | (refine gN (hEo [8,12] []) ?_;conv=>whnf) | refine .pure _ [] (aA.strip h1) ?_ | exact rfl | (refine zt ?_;try intro h) | refine zu (fun h=>?_) fun h=>?_ | fail
    exact zqra2
  have k:=aHQ c g l _ ids all n i o_ a o (kM ids a) fin ids.length 0 [] o_ s_ rfl
  refine gV ?_
  refine aT fun h=>?_
  repeat' first | (refine gN (hEo [8,12] []) ?_;conv=>whnf) | exact rfl | (refine zt ?_;try intro h) | refine zu (fun h=>?_) fun h=>?_ | fail
  refine To.part [1,3,5,8,10,11,12,13] [0,1,2] rfl rfl rfl ?_
  exact k
theorem aII (c:Con) (q:c.sm) (l:List Rn) (hs:Sm l) (hl:l.length<=1000000) (t:pJ l) (k:∀ x∈l,x.g.id≠0) (g:Gan) (s:0<=g.pods/\g.pods<=16) (r:aH g.need=true) (R:Option (List Int)):∀ (f:Nat) (ids:List Int),(aE l ids).length<f->ids.length+(aE l ids).length<=l.length->chB c l g (chA c l g f ids)=R->
  To (Eo [8,12] []) fRC (.pure (.ret (chR R))) (.head (stk fRC 0) (rcF l ids) (rcO c g)):=by
 intro f
 induction f with
 | zero=>intro ids h;omega
 | succ f z=>
  intro ids C B a
  have v:(iv ids).length=ids.length:=by simp
  have h1:=xY c q l hs g s r ids o_ _ rfl
  have b:=YU c q l hs hl t ids o_
  unfold chA at a
  cases m:sE c l g ids with
  | true=>
   rw [if_pos m] at a
   rw [m] at h1
   have a:some (ids.foldl (chS c l g) ids)=R:=a
   subst a
   have next:=aIH c q l hs g s r ids o_ _ ids.length 0 ids o_ o_ rfl
   refine gV ?_
   repeat' first | (refine gN (hEo [8,12] []) ?_;conv=>whnf) | refine .pure _ [] h1 ?_ | exact rfl | (refine zt ?_;try intro h) | refine zu (fun h=>?_) fun h=>?_ | fail
   exact zqra2
  | false=>
   rw [if_neg (by rw [m];decide)] at a
   rw [m] at h1
   have i:=fun n=>FE (c:=c) (l:=l) (ids:=ids) (n:=n)
   cases p:BX c l ids with
   | none=>
    rw [p] at a b
    have a:none=R:=a
    subst a
    have b:aA Tryz.prog 115 [c.av,.slice 14 (rav l) .no,.slice 1 (iv ids) .no] [] (.ret (ii 0)) []:=b
    refine gV ?_
    repeat' first | (refine gN (hEo [8,12] []) ?_;conv=>whnf) | refine .pure _ [] h1 ?_ | refine .pure _ [] b ?_ | exact rfl | (refine zt ?_;try intro h) | refine zu (fun h=>?_) fun h=>?_ | fail
   | some n=>
    obtain ⟨y,j,d,_⟩:=i n p
    have w:=GV ⟨y,j,d⟩
    have o:n≠0:=by rw [<-d];exact k y (eD.1 j).1
    rw [p] at a b
    have b:aA Tryz.prog 115 [c.av,.slice 14 (rav l) .no,.slice 1 (iv ids) .no] [] (.ret (ii n)) []:=b
    have next:=z (ids++[n]) o_ q_ a
    have e:iv (ids++[n])=iv ids++[ii n]:=by simp
    unfold rcF at next
    rw [e] at next
    have u:(n==0)=false:=by simp [o]
    refine gV ?_
    repeat' first | (refine gN (hEo [8,12] []) ?_;conv=>whnf) | refine .pure _ [] h1 ?_ | refine .pure _ [] b ?_ | refine Aa (fun h=>absurd h (by rw [u];decide)) (fun h=>?_) | refine ⟨⟨by simp only [maxLen];simp;omega,by simp;omega⟩,?_⟩ | exact rfl | (refine zt ?_;try intro h) | refine zu (fun h=>?_) fun h=>?_ | fail
    refine To.part [1,3,5,8] [0,1] rfl rfl rfl ?_
    exact next
theorem KQ (c:Con) (j:c.sm) (l:List Rn) (hs:Sm l) (hl:l.length<=1000000) (m:pJ l) (a:∀ x∈l,x.g.id≠0) (g:Gan) (o:0<=g.pods/\g.pods<=16) (n:aH g.need=true) (R:Option (List Int)) (d:fJ c l g=R):aA Tryz.prog 71 [c.av,.slice 14 (rav l) .no,g.av] [] (.ret (chR R)) []:=by
 have b:=HM c j l hs.1
 have k:=HR g
 have i:=NZ c j (ofL c l) g.ten (dem g)
 unfold fJ at d
 cases e:rF c (ofL c l) g.ten (dem g) with
 | false=>
  rw [if_neg (by rw [e];decide)] at d
  rw [e] at i
  subst d
  refine cT (E:=(Eo [8,12] [])) (fn:=Tryz.f71) (g:=.pure _) fun _=>?_
  repeat' first | (refine gN (hEo [8,12] []) ?_;conv=>whnf) | refine .pure _ [] b ?_ | refine .pure _ [] k ?_ | refine .pure _ [] i ?_ | exact rfl | (refine zt ?_;try intro h) | refine zu (fun h=>?_) fun h=>?_ | fail
 | true=>
  rw [if_pos e] at d
  rw [e] at i
  have next:=aII c j l hs hl m a g o n R (l.length+1) [] (by rw [lM];omega) (by rw [lM];simp) (by rw [<-d];unfold chB;split<;>rfl)
  refine cT (E:=(Eo [8,12] [])) (fn:=Tryz.f71) (g:=.pure _) fun _=>?_
  repeat' first | (refine gN (hEo [8,12] []) ?_;conv=>whnf) | refine .pure _ [] b ?_ | refine .pure _ [] k ?_ | refine .pure _ [] i ?_ | exact rfl | (refine zt ?_;try intro h) | refine zu (fun h=>?_) fun h=>?_ | fail
  refine To.part [1,3,5,8] [0,1] rfl rfl rfl ?_
  exact next
theorem aEJ {c:Con} {l:List Rn} {g:Gan} {R:List Int} (a:pJ l) (h:fJ c l g=some R):R.length<=l.length:=by
 obtain ⟨_,f,e,_⟩:=yL h
 have:=xS a f fun n b=>by
  obtain ⟨_,x,h1,d,_⟩:=e n b
  exact ⟨x,h1,d⟩
 omega
abbrev cV:Int:=1099511627776
theorem rB {v e:Int} (b:0<=v) (h1:v<=cV) (a:0<=e):gY v e=min (v+e) cV:=by unfold gY eU cV at *;omega
def bU:List Int->Int
 | []=>0
 | x::r=>x+bU r
theorem kC:∀ {es:List Int},(∀ e∈es,0<=e)->0<=bU es
 | [],_=>Di _
 | x::r,h=>by
  have:=kC (es:=r) fun e a=>h e (by simp [a])
  have:=h x s_
  unfold bU
  omega
theorem uG:∀ {es:List Int} {v:Int},0<=v->v<=cV->(∀ e∈es,0<=e)->es.foldl gY v=min (v+bU es) cV
 | [],v,h0,h1,_=>by
  unfold bU
  show v=_
  omega
 | x::r,v,h0,h1,h=>by
  have b:=h x s_
  have c:=kC (es:=r) fun e a=>h e (by simp [a])
  rw [Aq,rB h0 h1 b,uG (by unfold cV at *;omega) o_ fun e a=>h e (by simp [a])]
  have e:bU (x::r)=x+bU r:=rfl
  rw [e]
  omega
structure Prj (p:V3->Int):Prop where
 add:∀ u v,p (dL u v)=gY (p u) (p v)
 sub:∀ u v,p (tY u v)=T8 (p u) (p v)
 pos:∀ u,p (U7 u)=max (p u) 0
 zero:p V3.zero=0
theorem aDf:Prj V3.a:=⟨fun _ _=>rfl,fun _ _=>rfl,fun _=>rfl,rfl⟩
theorem aDe:Prj V3.b:=⟨fun _ _=>rfl,fun _ _=>rfl,fun _=>rfl,rfl⟩
theorem aDd:Prj V3.c:=⟨fun _ _=>rfl,fun _ _=>rfl,fun _=>rfl,rfl⟩
section
variable {p:V3->Int} (hp:Prj p)
include hp
theorem HC (us:List V3):∀ (B:List Int) (v:V3),p (B.foldl (smS us) v)=(B.map fun t=>p (atV us t)).foldl gY (p v)
 | [],v=>rfl
 | t::r,v=>by
  rw [Aq,HC us r,Bk,Aq]
  congr 1
  exact hp.add _ _
def kE (ns:List Nod) (p:V3->Int) (us:List V3) (t s:Int):Int:=if s=t then 0 else max (T8 (p (tY (bN ns s).n (bN ns s).l)) (p (atV us s))) 0
theorem SK (ns:List Nod) (us:List V3) (t:Int):∀ (B:List Int) (v:V3),0<=p v->p v<=cV->p (B.foldl (uV ns us t) v)=(B.map (kE ns p us t)).foldl gY (p v)
 | [],v,_,_=>rfl
 | s::r,v,h0,h1=>by
  rw [Aq,Bk,Aq]
  have e:p (uV ns us t v s)=gY (p v) (kE ns p us t s):=by
   unfold uV kE
   by_cases h:s=t
   .rw [if_pos (decide_eq_true h),if_pos h,rB h0 h1 (Di _)]
    omega
   .rw [if_neg (by rw [decide_eq_false h];decide),if_neg h,hp.add,hp.pos,hp.sub]
  have b:0<=kE ns p us t s:=by unfold kE;split<;>omega
  have a:0<=gY (p v) (kE ns p us t s)/\gY (p v) (kE ns p us t s)<=cV:=by
   rw [rB h0 h1 b]
   unfold cV at *
   omega
  rw [SK ns us t r _ (by rw [e];exact a.1) (by rw [e];exact a.2),e]
end
theorem zO (c:Con) (l:List Rn):(ofL c l).length=c.ns.length:=by unfold ofL lL;simp
theorem aDo {c:Con} {l:List Rn} (f:∀ x∈l,(dem x.g).pos) (q:Rn->Bool) (s:Int):(0<=(atV (ofL c (l.filter q)) s).a/\0<=(atV (ofL c (l.filter q)) s).b/\0<=(atV (ofL c (l.filter q)) s).c)/\(atV (ofL c (l.filter q)) s).le (atV (ofL c l) s)/\((atV (ofL c l) s).a<=cV/\(atV (ofL c l) s).b<=cV/\(atV (ofL c l) s).c<=cV):=by
 by_cases hs:0<=s/\s.toNat<c.ns.length
 .rw [yD hs,yD hs]
  obtain ⟨h1,d⟩:=uA (c:=c) (j:=s.toNat) q l V3.zero V3.zero f (B5 _) JQ
  have h3:=(uA (c:=c) (j:=s.toNat) (fun _=>true) (l.filter q) V3.zero V3.zero (fun x h=>f x (Dt.1 h).1) (B5 _) JQ).2
  exact ⟨⟨h3.1.1,h3.2.1.1,h3.2.2.1⟩,h1,d.1.2,d.2.1.2,d.2.2.2⟩
 .have z:∀ l,atV (ofL c l) s=V3.zero:=fun l=>by
   unfold atV
   by_cases e:s<0
   .rw [if_pos (decide_eq_true e)]
   .rw [if_neg (by rw [decide_eq_false e];decide),Bj (by rw [zO];omega)]
    rfl
  rw [z,z]
  exact ⟨by decide,B5 _,by decide⟩
theorem VX (need:V3) (xs:List V3) (h:Int) (j:Nat):((nG need xs h)[j]?).getD V3.zero=if 0<=h/\h.toNat<xs.length/\h.toNat=j then tY ((xs[j]?).getD V3.zero) need else (xs[j]?).getD V3.zero:=by
 unfold nG
 by_cases h1:0<=h
 .rw [if_pos (decide_eq_true h1)]
  by_cases a:h<(xs.length:Int)
  .rw [if_pos (decide_eq_true a),Fi]
   by_cases h3:h.toNat=j
   .rw [if_pos h3,if_pos o_,if_pos ⟨h1,by omega,h3⟩,h3]
    rfl
   .rw [if_neg h3,if_neg (fun q=>h3 q.2.2)]
  .rw [if_neg (by rw [decide_eq_false a];decide),if_neg (fun q=>by omega)]
 .rw [if_neg (by rw [decide_eq_false h1];decide),if_neg (fun q=>h1 q.1)]
def wiS (h:Int) (b:Bool) (y:Int):Bool:=if b=true then true else decide (y=h)
def tU (G hs:List Int):Bool:=hs.all fun h=>G.foldl (wiS h) false
def aHa (h n y:Int):Int:=if y=h then n+1 else n
def zH (h:Int) (l:List Int):Int:=l.foldl (aHa h) 0
def aA6 (free:List V3) (need:V3) (hs:List Int) (h:Int):Bool:=if decide (h<0)=true then false else if decide ((free.length:Int)<=h)=true then false else !decide (cO ((free[h.toNat]?).getD V3.zero) need<zH h hs)
def CW (free:List V3) (need:V3) (hs:List Int):Bool:=hs.all (aA6 free need hs)
def tM (free:List V3) (need:V3) (hs:List Int) (G:List Int):Bool:=tU G hs&&CW free need hs
def qU (c:Con) (free:List V3) (g:Gan) (hs:List Int):Bool:=if ((hs.length:Int)=g.pods) then (gpL c g.lev).any (tM free g.need hs) else false
theorem JL {c:Con} {lv a b:Int} (d:0<=lv) (h3:lv<=3):alB c lv a b=true↔pL c lv a=pL c lv b:=by
 rw [JK c lv a b d h3]
 simp
theorem Y6 {c:Con} {lv a b:Int} (d:0<=lv) (h3:lv<=3) (h:pL c lv a=pL c lv b):∀ (s:List (List Int)) (n:Nat),cP c lv a s n=cP c lv b s n
 | [],n=>rfl
 | g::r,n=>by
  unfold cP
  rw [Y6 d h3 h r (n+1),JK c lv _ a d h3,JK c lv _ b d h3,h]
theorem Y5 (c:Con) (lv i x:Int):∀ (s:List (List Int)) (k n:Nat),(∀ g∈s,g≠[])->cP c lv i (s.set k ((s[k]?).getD []++[x])) n=cP c lv i s n
 | [],k,n,_=>by simp
 | g::r,0,n,h=>by
  have b:=h g (Ak ..)
  cases g with
  | nil=>exact absurd rfl b
  | cons a t=>rfl
 | g::r,k+1,n,h=>by
  have d:=Y5 c lv i x r k (n+1) (fun g b=>h g (Ap _ b))
  show cP c lv i (g::r.set k ((r[k]?).getD []++[x])) n=_
  unfold cP
  rw [d]
theorem RZ (c:Con) (lv i:Int) (g:List Int):∀ (s:List (List Int)) (n:Nat),cP c lv i (s++[g]) n=match cP c lv i s n with
   | some k=>some k
   | none=>if alB c lv (g.headD 0) i=true then some (n+s.length) else none
 | [],n=>by simp [cP]
 | q::r,n=>by
  show cP c lv i (q::(r++[g])) n=_
  unfold cP
  by_cases h:alB c lv (q.headD 0) i=true
  .rw [if_pos h,if_pos h]
  .rw [if_neg h,if_neg h,RZ c lv i g r (n+1)]
   rw [show n+(q::r).length=n+1+r.length from by simp;omega]
theorem RY {c:Con} {lv i:Int}:∀ {s:List (List Int)} {n k:Nat},cP c lv i s n=some k->n<=k/\∃ G,s[k-n]? =some G/\alB c lv (G.headD 0) i=true
 | [],n,k,h=>by cases h
 | g::r,n,k,h=>by
  unfold cP at h
  by_cases h1:alB c lv (g.headD 0) i=true
  .rw [if_pos h1] at h
   cases h
   exact ⟨Bi _,g,by simp,h1⟩
  .rw [if_neg h1] at h
   obtain ⟨b,G,h3,a⟩:=RY h
   refine ⟨by omega,G,?_,a⟩
   rw [show k-n=(k-(n+1))+1 from by omega]
   exact h3
def aE0 (c:Con) (lv:Int) (m:Nat) (s:List (List Int)):Prop:=
 (∀ a:Nat,a<m->∃ k G,cP c lv (a:Int) s 0=some k/\s[k]? =some G/\(a:Int)∈G)/\∀ G∈s,G≠[]/\G.Nodup/\∀ x∈G,0<=x/\x<(m:Int)/\alB c lv (G.headD 0) x=true
theorem aAQ {c:Con} {lv:Int} (H:0<=lv) (h3:lv<=3) {m:Nat} {s:List (List Int)} (h:aE0 c lv m s):aE0 c lv (m+1) (rgS c lv s m):=by
 obtain ⟨h1,v⟩:=h
 have B:∀ g∈s,g≠[]:=fun g I=>(v g I).1
 unfold rgS
 cases z:cP c lv (m:Int) s 0 with
 | some k=>
  obtain ⟨_,l,e,w⟩:=RY z
  rw [Kb] at e
  have F:k<s.length:=(Ac.1 e).1
  have o:l∈s:=Az e
  refine ⟨fun a J=>?_,fun G d=>?_⟩
  .show ∃ i G,cP c lv (a:Int) (s.set k ((s[k]?).getD []++[(m:Int)])) 0=some i/\(s.set k ((s[k]?).getD []++[(m:Int)]))[i]? =some G/\(a:Int)∈G
   rw [Y5 c lv (a:Int) (m:Int) s k 0 B,e]
   by_cases j:a=m
   .subst j
    refine ⟨k,_,z,by rw [Ba F],by simp⟩
   .obtain ⟨i,A,u,n,e3⟩:=h1 a o_
    by_cases p:k=i
    .subst p
     rw [e] at n
     cases n
     exact ⟨k,l++[(m:Int)],u,by rw [Ba F];rfl,Ao.2 (.inl e3)⟩
    .exact ⟨i,A,u,by rw [Bh p];exact n,e3⟩
  .have d:G∈s.set k ((s[k]?).getD []++[(m:Int)]):=d
   rw [e] at d
   have d:G∈s.set k (l++[(m:Int)]):=d
   rcases Dj d with d | rfl
   .exact zqra5
   .obtain ⟨q,r,f⟩:=v l o
    have C:(l++[(m:Int)]).headD 0=l.headD 0:=by
     cases l with
     | nil=>exact absurd rfl q
     | cons y t=>rfl
    refine ⟨by simp,?_,fun x b=>?_⟩
    .rw [Ax]
     refine ⟨r,by simp,fun x b y D=>?_⟩
     simp at D
     subst D
     have:=(f x b).2.1
     omega
    .rw [C]
     rcases Ao.1 b with b | b
     .exact ⟨(f x b).1,by have:=(f x b).2.1;omega,(f x b).2.2⟩
     .simp at b
      subst b
      exact ⟨by omega,by omega,w⟩
 | none=>
  refine ⟨fun a J=>?_,fun G d=>?_⟩
  .show ∃ i G,cP c lv (a:Int) (s++[[(m:Int)]]) 0=some i/\(s++[[(m:Int)]])[i]? =some G/\(a:Int)∈G
   rw [RZ]
   by_cases j:a=m
   .subst j
    rw [z]
    refine ⟨0+s.length,[(a:Int)],if_pos ((JL H h3).2 rfl),by simp,by simp⟩
   .obtain ⟨i,A,u,n,e3⟩:=h1 a o_
    rw [u]
    refine ⟨i,A,rfl,?_,e3⟩
    rw [Ag (Ac.1 n).1]
    exact n
  .have d:G∈s++[[(m:Int)]]:=d
   rcases Ao.1 d with d | d
   .exact zqra5
   .simp at d
    subst d
    refine ⟨by simp,by simp,fun x b=>?_⟩
    simp at b
    subst b
    exact ⟨by omega,by omega,(JL H h3).2 rfl⟩
theorem II {c:Con} {lv:Int} (e:0<=lv) (h3:lv<=3):aE0 c lv c.hs.length (gpL c lv):=by
 rw [<-Y1]
 unfold rgL
 rw [if_neg q_,if_neg q_]
 have key:∀ m:Nat,aE0 c lv m ((Df m).foldl (rgS c lv) []):=fun m=>by
  induction m with
  | zero=>exact ⟨fun a f=>by omega,fun G d=>by cases d⟩
  | succ m b=>
   rw [Ju,Iv]
   exact aAQ e h3 b
 exact key _
theorem aGz {c:Con} {lv e a b:Int} (h:lv<=e) (f:pL c lv a=pL c lv b):pL c e a=pL c e b:=by
 unfold pL ofK at *
 simp only [Jt,and_true] at f⊢
 obtain ⟨i,j,g,k⟩:=f
 refine ⟨i,?_,?_,?_⟩
 .by_cases d:2<e
  .simp [d]
  .have:¬ 2<lv:=o_
   simpa [d,this] using j
 .by_cases d:1<e
  .simp [d]
  .have:¬ 1<lv:=o_
   simpa [d,this] using g
 .by_cases d:0<e
  .simp [d]
  .have:¬ 0<lv:=o_
   simpa [d,this] using k
theorem aGJ {c:Con} {lv f:Int} (d:0<=lv) (h:lv<=f) (h3:f<=3) {a:List Int} (p:a∈gpL c lv):a.Nodup/\∃ G∈gpL c f,∀ x∈a,x∈G:=by
 obtain ⟨_,w⟩:=II (c:=c) d (Es h h3)
 obtain ⟨j,_⟩:=II (c:=c) (Es d h) h3
 obtain ⟨z,r,l⟩:=w a p
 refine ⟨r,?_⟩
 have q:a.headD 0∈a:=by
  cases a with
  | nil=>exact absurd rfl z
  | cons y t=>exact Ak ..
 obtain ⟨B,H,_⟩:=l _ q
 have o:(a.headD 0)=((a.headD 0).toNat:Int):=o_
 obtain ⟨k,G,b,e,_⟩:=j (a.headD 0).toNat o_
 rw [<-o] at b
 refine ⟨G,Az e,fun x u=>?_⟩
 obtain ⟨F,A,n⟩:=l x u
 have v:=aGz h ((JL d (Es h h3)).1 n)
 rw [Y6 (Es d h) h3 v] at b
 have g:x=(x.toNat:Int):=o_
 obtain ⟨C,D,m,s,i⟩:=j x.toNat o_
 rw [<-g] at m i
 rw [m] at b
 cases b
 rw [s] at e
 cases e
 exact i
theorem PB {free:List V3} {g:Gan}:∀ (b out:List Int) (h:Int),h∈b.foldl (inS free g) out->h∈out\/(h∈b/\0<=h/\h<(free.length:Int))
 | [],out,h,a=>.inl a
 | u::r,out,h,a=>by
  rw [Aq] at a
  rcases PB r _ h a with a | a
  .unfold inS at a
   by_cases h1:u<0
   .rw [if_pos (decide_eq_true h1)] at a
    exact .inl a
   .rw [if_neg (by rw [decide_eq_false h1];decide)] at a
    by_cases c:(free.length:Int)<=u
    .rw [if_pos (decide_eq_true c)] at a
     exact .inl a
    .rw [if_neg (by rw [decide_eq_false c];decide)] at a
     rcases Ao.1 a with a | a
     .exact .inl a
     .have:=(Fq.1 a).2
      subst this
      exact .inr ⟨Ak ..,by omega,by omega⟩
  .exact .inr ⟨Ap _ a.1,a.2⟩
def rmN (free:List V3) (g:Gan) (h:Int):Nat:=(max (cO ((free[h.toNat]?).getD V3.zero) g.need) 0).toNat
theorem aDT (free:List V3) (g:Gan) (out:List Int) (u h:Int):(inS free g out u).count h<=out.count h+(if u=h then rmN free g h else 0):=by
 unfold inS
 split
 .omega
 .split
  .omega
  .rw [Ik,List.count_replicate]
   by_cases a:u=h
   .subst a
    rw [if_pos rfl]
    simp only [beq_self_eq_true,if_true]
    unfold rmN inN
    omega
   .rw [if_neg a]
    simp [a]
theorem SR (free:List V3) (g:Gan) (h:Int):∀ (a out:List Int),a.Nodup->(a.foldl (inS free g) out).count h<=out.count h+(if h∈a then rmN free g h else 0)
 | [],out,_=>by simp
 | u::r,out,hn=>by
  rw [Aq]
  have h1:=SR free g h r (inS free g out u) (Bp.1 hn).2
  have c:=aDT free g out u h
  by_cases b:u=h
  .subst b
   rw [if_neg (Bp.1 hn).1] at h1
   rw [if_pos rfl] at c
   rw [if_pos (Ak ..)]
   omega
  .rw [if_neg b] at c
   by_cases hm:h∈r
   .rw [if_pos hm] at h1
    rw [if_pos (Ap _ hm)]
    omega
   .rw [if_neg hm] at h1
    omega
theorem xI (h:Int):∀ (l:List Int) (n:Int),l.foldl (aHa h) n=n+(l.count h:Nat)
 | [],n=>by simp
 | y::r,n=>by
  rw [Aq,xI h r]
  unfold aHa
  by_cases a:y=h
  .subst a
   rw [if_pos rfl,Hi]
   omega
  .rw [if_neg a,Lg (by simpa using a)]
theorem tT {G hs:List Int}:tU G hs=true↔ ∀ h∈hs,h∈G:=by
 have key:∀ (h:Int) (G:List Int) (b:Bool),G.foldl (wiS h) b=true↔b=true\/h∈G:=fun h G=>by
  induction G with
  | nil=>intro b;simp
  | cons y r c=>
   intro b
   rw [Aq,c]
   unfold wiS
   cases b with
   | true=>simp
   | false=>simp [eq_comm]
 unfold tU
 rw [Bq]
 constructor
 .intro q h a
  have:=(key h G false).1 (q h a)
  simpa using this
 .intro q h a
  exact (key h G false).2 (.inr (q h a))
theorem aA8 {c:Con} {free:List V3} {g:Gan} (I:aH g.need=true) (J:1<=g.pods) (hl:0<=g.pref/\g.pref<=g.lev/\g.lev<=3) {x:Int×List Int} (h:sM c free g=some x):
  (∀ u∈x.2,0<=u/\u<(free.length:Int)/\((x.2.count u:Nat):Int)<=cO ((free[u.toNat]?).getD V3.zero) g.need)/\qU c free g x.2=true:=by
 have k:∀ (s:List (List Int)),fdG c free g s=some x->∃ d∈s,x.2=inL free g d/\¬ ((inL free g d).length:Int)<g.pods:=fun s=>by
  induction s with
  | nil=>intro h;cases h
  | cons d r o=>
   intro h
   unfold fdG at h
   by_cases h1:((inL free g d).length:Int)<g.pods
   .rw [if_pos (decide_eq_true h1)] at h
    obtain ⟨q,z,w⟩:=o h
    exact ⟨q,Ap _ z,w⟩
   .rw [if_neg (by rw [decide_eq_false h1];decide)] at h
    cases h
    exact ⟨d,Ak ..,rfl,h1⟩
 have j:∀ (n:Nat) (lv:Int),fdL c free g n lv=some x->∃ f,lv<=f/\f<lv+n/\fdG c free g (gpL c f)=some x:=fun n=>by
  induction n with
  | zero=>intro lv h;cases h
  | succ n o=>
   intro lv h
   unfold fdL at h
   cases v:fdG c free g (gpL c lv) with
   | some y=>
    rw [v] at h
    cases h
    exact ⟨lv,Di _,by omega,v⟩
   | none=>
    rw [v] at h
    obtain ⟨f,z,w,C⟩:=o (lv+1) h
    exact ⟨f,by omega,by omega,C⟩
 unfold sM at h
 obtain ⟨f,l1,l2,D⟩:=j _ _ h
 obtain ⟨d,F,t,K⟩:=k _ D
 have m:0<=f/\f<=g.lev:=o_
 obtain ⟨B,G,H,p⟩:=aGJ m.1 m.2 hl.2.2 F
 have A:((inL free g d).length:Int)<=g.pods:=by
  have key:∀ (l:List Int) (out:List Int),(out.length:Int)<=g.pods->((l.foldl (inS free g) out).length:Int)<=g.pods:=fun l=>by
   induction l with
   | nil=>intro out h;exact h
   | cons x r o=>intro out h;exact o _ (zS free g out x h)
  exact key d [] q_
 have b:∀ u∈x.2,u∈d/\0<=u/\u<(free.length:Int):=fun u a=>by
  rw [t] at a
  rcases PB d [] u a with a | a
  .cases a
  .exact a
 have i:∀ u∈x.2,((x.2.count u:Nat):Int)<=cO ((free[u.toNat]?).getD V3.zero) g.need:=fun u a=>by
  have h1:=SR free g u d [] B
  have L:0<x.2.count u:=Kc.2 a
  rw [if_pos (b u a).1,show d.foldl (inS free g) []=x.2 from t.symm] at h1
  unfold rmN at h1
  simp only [List.count_nil] at h1
  omega
 refine ⟨fun u a=>⟨(b u a).2.1,(b u a).2.2,i u a⟩,?_⟩
 unfold qU
 rw [if_pos (by rw [t];omega),Ef]
 refine ⟨G,H,?_⟩
 unfold tM
 rw [tT.2 fun u a=>p u (b u a).1,Bw]
 unfold CW
 rw [Bq]
 intro u a
 unfold aA6
 rw [if_neg (by have:=(b u a).2.1;simp;omega),if_neg (by have:=(b u a).2.2;simp;omega)]
 have:=i u a
 have e:zH u x.2=((x.2.count u:Nat):Int):=by unfold zH;rw [xI];omega
 rw [e]
 simp
 omega
theorem JV {ns:List Nod}:∀ (f:Nat) (s x:Int),x∈upF ns f s->x=s\/∃ d∈ns,d.p=x
 | 0,s,x,h=>by cases h
 | f+1,s,x,h=>by
  unfold upF at h
  by_cases b:0<=s
  .rw [if_pos (decide_eq_true b)] at h
   by_cases h1:s.toNat<ns.length
   .rw [dif_pos h1] at h
    by_cases a:s<=(ns[s.toNat]).p
    .rw [if_pos (decide_eq_true a)] at h
     simp at h
     exact .inl h
    .rw [if_neg (by rw [decide_eq_false a];decide)] at h
     rcases Aj.1 h with h | h
     .exact .inl h
     .rcases JV f _ x h with rfl | h
      .exact .inr ⟨_,Bg h1,rfl⟩
      .exact .inr h
   .rw [dif_neg h1] at h
    cases h
  .rw [if_neg (by rw [decide_eq_false b];decide)] at h
   cases h
theorem VL {ns:List Nod} {t:Int} (h:aU ns t=true):∀ d∈ns,d.p≠t:=by
 obtain ⟨a,h1⟩:=qK h
 unfold aU at h
 rw [if_pos (decide_eq_true a),if_pos (decide_eq_true o_),DT] at h
 intro d b e
 have:(ns.any fun x=>x.p==t)=true:=Ef.2 ⟨d,b,by simp [e]⟩
 rw [this] at h
 cases h
theorem SI {ns:List Nod} {t s:Int} (h:aU ns t=true) (hs:t∈upL ns s):t=s:=by
 rcases JV _ _ _ hs with h1 | ⟨d,a,e⟩
 .exact h1
 .exact absurd e (VL h d a)
theorem RQ {ns:List Nod} {t:Int} (b:0<=t) (h1:t.toNat<ns.length):t∈upL ns t:=by
 obtain ⟨r,a⟩:=JW b h1
 rw [a]
 exact Ak ..
theorem aDK {ns:List Nod} {t:Int} (h:aU ns t=true):t∈jQ ns:=by
 obtain ⟨e,h1⟩:=qK h
 have key:∀ (m i:Nat),i<=t.toNat->t.toNat<i+m->t∈lvF ns m i:=fun m=>by
  induction m with
  | zero=>intro i a b;omega
  | succ m c=>
   intro i a b
   unfold lvF
   by_cases d:i=t.toNat
   .subst d
    rw [show ((t.toNat:Nat):Int)=t from by omega,if_pos h]
    exact Ak ..
   .have:=c (i+1) o_ o_
    split
    .exact Ap _ this
    .exact this
 exact key _ 0 o_ o_
theorem O8 {ns:List Nod} {t:Int} (h:aU ns t=true):bB ns t=[t]:=by
 obtain ⟨j,h1⟩:=qK h
 have c:=RQ j h1
 have d:∀ s:Int,sD ns t s=if s=t then [t] else []:=fun s=>by
  unfold sD
  by_cases e:s=t
  .subst e
   rw [if_pos c,if_pos rfl]
  .rw [if_neg e,if_neg fun q=>e (SI h q).symm]
 have lo:∀ (m i:Nat),t.toNat<i->(lvF ns m i).flatMap (sD ns t)=[]:=fun m i f=>by
  rw [List.flatMap_eq_nil_iff]
  intro s hs
  have:=H8 ns m i s hs
  rw [d,if_neg o_]
 have key:∀ (m i:Nat),i<=t.toNat->t.toNat<i+m->(lvF ns m i).flatMap (sD ns t)=[t]:=fun m=>by
  induction m with
  | zero=>intro i a b;omega
  | succ m g=>
   intro i a b
   unfold lvF
   by_cases f:i=t.toNat
   .subst f
    rw [show ((t.toNat:Nat):Int)=t from by omega,if_pos h,Hf,lo _ _ o_,d,if_pos rfl]
    rfl
   .have:=g (i+1) o_ o_
    split
    .rw [Hf,d,if_neg o_,this]
     rfl
    .exact this
 exact key _ 0 o_ o_
section
variable {p:V3->Int} (hp:Prj p)
include hp
def uE (c:Con) (p:V3->Int) (j:Int) (x:Rn):Int:=if aU c.ns x.g.ten=true/\j∈upL c.ns x.g.ten then p (dem x.g) else 0
theorem Q5 {c:Con} {j:Nat}:∀ (l:List Rn) (v:V3),(∀ x∈l,0<=p (dem x.g))->0<=p v->p v<=cV->p (l.foldl (nW c j) v)=min (p v+bU (l.map (uE c p (j:Int)))) cV/\0<=bU (l.map (uE c p (j:Int)))
 | [],v,_,h0,h1=>by
  show p v=min (p v+0) cV/\(0:Int)<=0
  omega
 | x::r,v,hd,h0,h1=>by
  rw [Aq,Bk]
  show _=min (p v+(uE c p (j:Int) x+bU (r.map (uE c p (j:Int))))) cV/\0<=uE c p (j:Int) x+bU (r.map (uE c p (j:Int)))
  have f:=hd x (Ak ..)
  have e:p (nW c j v x)=min (p v+uE c p (j:Int) x) cV:=by
   unfold nW uE
   by_cases a:aU c.ns x.g.ten=true/\(j:Int)∈upL c.ns x.g.ten
   .rw [if_pos a,if_pos a,hp.add,rB h0 h1 f]
   .rw [if_neg a,if_neg a]
    omega
  have i:0<=uE c p (j:Int) x:=by unfold uE;split<;>omega
  obtain ⟨b,h⟩:=Q5 r (nW c j v x) (fun y d=>hd y (Ap _ d)) (by rw [e];unfold cV;omega) (by rw [e];unfold cV;omega)
  rw [b,e]
  unfold cV
  omega
omit hp in
theorem RL {α:Type} (f g:α->Int):∀ (l:List α),bU (l.map fun x=>f x+g x)=bU (l.map f)+bU (l.map g)
 | []=>rfl
 | x::r=>by
  rw [Bk,Bk,Bk]
  show f x+g x+bU _=(f x+bU _)+(g x+bU _)
  rw [RL f g r]
  omega
omit hp in
theorem RJ {α:Type} (f:α->Int):∀ (l:List α),(∀ y∈l,0<=f y)->∀ x∈l,f x<=bU (l.map f)
 | [],_,x,h=>by cases h
 | y::r,hf,x,h=>by
  rw [Bk]
  show f x<=f y+bU _
  have h1:=kC (es:=r.map f) fun e a=>by
   obtain ⟨z,hz,rfl⟩:=Bb.1 a
   exact hf z (Ap _ hz)
  have b:=hf y (Ak ..)
  rcases Aj.1 h with rfl | h
  .omega
  .have:=RJ f r (fun z hz=>hf z (Ap _ hz)) x h
   omega
omit hp in
theorem RG {α:Type} (f:α->Int):∀ (l:List α),(∀ y∈l,0<=f y)->min (bU (l.map f)) cV<=bU (l.map fun y=>min (f y) cV)/\0<=bU (l.map f)
 | [],_=>by
  show min (0:Int) cV<=0/\(0:Int)<=0
  unfold cV
  omega
 | y::r,hf=>by
  rw [Bk,Bk]
  show min (f y+bU _) cV<=min (f y) cV+bU _/\0<=f y+bU _
  have c:=hf y (Ak ..)
  obtain ⟨a,b⟩:=RG f r fun z hz=>hf z (Ap _ hz)
  unfold cV at *
  omega
omit hp in
theorem GR {c:Con} {n:Int}:∀ (l:List Rn),(∀ x∈l,0<=p (dem x.g))->bU (l.map (uE c p n))<=bU ((bB c.ns n).map fun s=>bU (l.map (uE c p s)))
 | [],_=>by
  show 0<=bU ((bB c.ns n).map fun s=>(0:Int))
  exact kC fun e h=>by
   obtain ⟨z,_,rfl⟩:=Bb.1 h
   exact Di _
 | x::r,hd=>by
  have m:=GR (c:=c) (n:=n) r fun y i=>hd y (Ap _ i)
  have e:bU ((bB c.ns n).map fun s=>bU ((x::r).map (uE c p s)))=bU ((bB c.ns n).map fun s=>uE c p s x)+bU ((bB c.ns n).map fun s=>bU (r.map (uE c p s))):=RL _ _ _
  rw [e,Bk]
  show uE c p n x+bU _<=_
  have k:=hd x (Ak ..)
  have b:∀ s∈bB c.ns n,0<=uE c p s x:=fun s _=>by unfold uE;split<;>omega
  have h1:uE c p n x<=bU ((bB c.ns n).map fun s=>uE c p s x):=by
   by_cases a:aU c.ns x.g.ten=true/\n∈upL c.ns x.g.ten
   .have f:x.g.ten∈bB c.ns n:=by
     unfold bB
     rw [List.mem_flatMap]
     refine ⟨x.g.ten,aDK a.1,?_⟩
     unfold sD
     rw [if_pos a.2]
     simp
    have:=RJ (fun s=>uE c p s x) (bB c.ns n) b _ f
    have d:uE c p x.g.ten x=uE c p n x:=by
     obtain ⟨j,h1⟩:=qK a.1
     unfold uE
     rw [if_pos a,if_pos ⟨a.1,RQ j h1⟩]
    rw [<-d]
    exact this
   .have d:uE c p n x=0:=by unfold uE;rw [if_neg a]
    rw [d]
    exact kC fun e h=>by
     obtain ⟨z,hz,rfl⟩:=Bb.1 h
     exact b z hz
  omega
theorem G1 {c:Con} {l:List Rn} (f:∀ x∈l,0<=p (dem x.g)) {n:Int} (d:c.ok n):p (atV (ofL c l) n)=min (bU (l.map (uE c p n))) cV/\0<=bU (l.map (uE c p n)):=by
 have hz:p V3.zero=0:=hp.zero
 obtain ⟨a,b⟩:=Q5 hp (c:=c) (j:=n.toNat) l V3.zero f (by rw [hz];exact Di _) (by rw [hz];decide)
 rw [yD d,a,hz]
 have e:((n.toNat:Nat):Int)=n:=by have:=d.1;omega
 rw [e] at b⊢
 exact ⟨by omega,b⟩
theorem aFL {c:Con} {l:List Rn} (a:∀ x∈l,0<=p (dem x.g)) (n:Int):p (gE c.ns n (ofL c l))=min (bU ((bB c.ns n).map fun s=>min (bU (l.map (uE c p s))) cV)) cV:=by
 have hz:p V3.zero=0:=hp.zero
 have e:(bB c.ns n).map (fun t=>p (atV (ofL c l) t))=(bB c.ns n).map fun s=>min (bU (l.map (uE c p s))) cV:=List.map_congr_left fun s hs=>(G1 hp a (iH c n s hs)).1
 unfold gE
 rw [HC hp,e,hz,uG (Di _) d_ fun e b=>by
  obtain ⟨s,hs,rfl⟩:=Bb.1 b
  have:=(G1 hp a (iH c n s hs)).2
  unfold cV
  omega]
 omega
theorem NI {c:Con} {l:List Rn} (b:∀ x∈l,0<=p (dem x.g)) {n:Int} (d:c.ok n):p (atV (ofL c l) n)<=p (gE c.ns n (ofL c l))/\0<=p (atV (ofL c l) n)/\p (gE c.ns n (ofL c l))<=cV:=by
 obtain ⟨a,f⟩:=G1 hp b d
 rw [a,aFL hp b n]
 have h1:=GR (p:=p) (c:=c) (n:=n) l b
 obtain ⟨e,h3⟩:=RG (fun s=>bU (l.map (uE c p s))) (bB c.ns n) fun s hs=>(G1 hp b (iH c n s hs)).2
 unfold cV at *
 omega
theorem aAG (ns:List Nod) (us:List V3) (n t:Int):0<=p (uW ns us n t):=by
 have hz:p V3.zero=0:=hp.zero
 have a:∀ e∈(bB ns n).map (kE ns p us t),0<=e:=fun e b=>by
  obtain ⟨s,_,rfl⟩:=Bb.1 b
  unfold kE
  split<;>omega
 have c:=kC a
 unfold uW
 rw [SK hp _ _ _ _ _ (by rw [hz];exact Di _) (by rw [hz];decide),hz,uG (Di _) d_ a]
 unfold cV
 omega
theorem JJ {c:Con} {l:List Rn} (i:∀ x∈l,0<=p (dem x.g)) {need:V3} (h:0<=p need) {n t:Int} (e:c.ok n):p (dL (atV (ofL c l) n) need)<=p (dL (dL (gE c.ns n (ofL c l)) need) (uW c.ns (ofL c l) n t)):=by
 obtain ⟨h1,m,h3⟩:=NI hp i e
 have f:=aAG hp c.ns (ofL c l) n t
 rw [hp.add,hp.add,hp.add]
 have k:=sA (d:=p need) h1
 have b:=JM (a:=p (gE c.ns n (ofL c l))) o_ h
 have j:=AE b.1 b.2 f
 omega
end
theorem xO (x y z:Int):gY (gY (gY 0 x) 0) y=gY x y/\gY (gY 0 x) y=gY x y:=by
 unfold gY eU
 omega
theorem T2 (x y:V3):dL (dL V3.zero x) y=dL x y:=by
 unfold dL V3.map2 V3.zero
 rw [(xO x.a y.a 0).2,(xO x.b y.b 0).2,(xO x.c y.c 0).2]
theorem aAg {c:Con} {t:Int} (h:c.ok t):atV (jP c.ns) t=(bN c.ns t).n:=by
 obtain ⟨a,h1⟩:=h
 unfold atV jP
 rw [if_neg q_,Bd,Dr h1]
 show (bN c.ns ((t.toNat:Nat):Int)).n=_
 rw [show ((t.toNat:Nat):Int)=t from by omega]
def SD (c:Con) (t n:Int):V3:=if n=t then dL (gE c.ns n (jP c.ns)) (bN c.ns n).b else gE c.ns n (jP c.ns)
theorem KX {c:Con} {l:List Rn} {x:Rn} (k:∀ y∈l,(dem y.g).pos) (j:(dem x.g).pos) (h:yW c (ofL c l) x.g.ten (dem x.g)=true):∀ n∈bG c.ns x.g.ten,c.ok n/\bK (atV (ofL c (l++[x])) n) (SD c x.g.ten n)=true:=by
 intro n i
 unfold bG at i
 rw [Gu] at i
 have a:c.ok n:=G5 c _ _ _ i
 refine ⟨a,?_⟩
 unfold yW at h
 by_cases hl:aU c.ns x.g.ten=true
 .rw [if_pos hl,Bq] at h
  have b:=h n i
  have e:atV (ofL c (l++[x])) n=dL (atV (ofL c l) n) (dem x.g):=by
   rw [yD a,yD a,Iv]
   show nW c n.toNat _ x=_
   unfold nW
   rw [if_pos ⟨hl,by rw [show ((n.toNat:Nat):Int)=n from by have:=a.1;omega];exact i⟩]
  rw [e]
  unfold H7 at b
  unfold SD
  by_cases f:n=x.g.ten
  .rw [if_pos (decide_eq_true f)] at b
   rw [if_pos f]
   unfold VB at b
   have m:gE c.ns n (jP c.ns)=dL V3.zero (bN c.ns n).n:=by
    unfold gE
    rw [O8 (by rw [f];exact hl)]
    show dL V3.zero (atV (jP c.ns) n)=_
    rw [aAg a]
   rw [m,T2]
   exact b
  .rw [if_neg (by rw [decide_eq_false f];decide)] at b
   rw [if_neg f]
   unfold QO at b
   rw [tZ] at b⊢
   exact ⟨Es (JJ aDf (fun y d=>(k y d).1) j.1 a) b.1,Es (JJ aDe (fun y d=>(k y d).2.1) j.2.1 a) b.2.1,Es (JJ aDd (fun y d=>(k y d).2.2) j.2.2 a) b.2.2⟩
 .rw [if_neg hl] at h
  cases h
end Go.Proofs.YtlanfgblaebddaaGreat
