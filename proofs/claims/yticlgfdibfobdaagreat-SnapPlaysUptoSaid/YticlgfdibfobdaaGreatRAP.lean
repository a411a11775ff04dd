/-
  The references, as walks; who must give way; what fits leaves nobody overfull.
-/
import Derived.Test.YticlgfdibfobdaaGreatHAP
set_option linter.all false
set_option maxHeartbeats 1000000
open And renaming intro->Ad
open Bool renaming and_eq_true->Af,eq_iff_iff->Fy,false_eq_true->Cv,false_or->La,true_and->Cd
open Exists renaming intro->Aw
open Iff renaming rfl->Mo
open Int renaming le_refl->Dc,le_trans->Fb,mul_nonneg->Ip,toNat_natCast->Cl,toNat_of_nonneg->Hy
open List renaming all_cons->Gm,all_eq_true->Cj,any_cons->Gn,any_eq_true->Ej,append_assoc->Aj,append_nil->Bo,count_append->Iq,count_cons_of_ne->Ly,count_cons_self->Hj,count_pos_iff->Km,drop_eq_getElem_cons->Ac,drop_eq_nil_of_le->Ae,eq_nil_of_length_eq_zero->Aq,ext_getElem?->Fa,filter_cons->Ht,filter_cons_of_neg->Ek,filter_cons_of_pos->Em,filter_eq_self->Kc,filter_sublist->Hz,flatMap_cons->Hh,foldl_append->Iw,foldl_cons->Al,getElem?_append_left->Ag,getElem?_cons_succ->Eu,getElem?_eq_getElem->Aa,getElem?_eq_none->Bj,getElem?_eq_some_iff->Ab,getElem?_map->Bc,getElem?_range->Ch,getElem?_replicate->Ds,getElem?_set->Ez,getElem?_set_ne->Bh,getElem?_set_self->Ax,getElem?_take_of_lt->Bl,getElem_mem->Bf,getElem_of_mem->Gq,length_append->Ar,length_cons->Ba,length_filter_le->Fk,map_append->Bm,map_cons->Bk,map_set->Kf,mem_append->Ay,mem_cons->Ao,mem_cons_of_mem->Bb,mem_cons_self->Az,mem_filter->Dw,mem_map->Bu,mem_of_getElem?->Av,mem_or_eq_of_mem_set->Da,mem_replicate->Fs,mem_reverse->Gu,mem_take_iff_getElem->Ks,nodup_append->Br,nodup_cons->Bw,pairwise_append->Mf,pairwise_cons->Ce,pairwise_iff_getElem->Dl,perm_append_comm->Gi,range->Db,range'->Gz,range'_succ->Jh,range_eq_range'->Gj,range_succ->Ie,replicate->Ah,reverse_cons->Iv,take->Fv,take_append_drop->Dj,take_append_getElem->Lc,take_append_of_le_length->Ea,take_of_length_le->Cf,take_zero->Hl
open List.Perm renaming append_left->Fl,refl->Fc
open List.Sublist renaming refl->Kv
open List.cons renaming injEq->Jy
open Nat renaming add_sub_cancel->Ii,le_refl->Bg,le_trans->Cs,sub_zero->Hu,zero_add->Bp,zero_le->Bt
open Ne renaming symm->Eb
open Prod renaming fst->Lh
namespace Go.Proofs.YticlgfdibfobdaaGreat
open Go Go.AW Go.Proofs
set_option maxRecDepth 10000
theorem zqra0 {P:Prop} (h:P:=by
 by_cases h1:0<=n
 .rw [if_pos (decide_eq_true h1)] at a
  by_cases d:n.toNat<c.ns.length
  .rw [dif_pos d] at a
   have e:=e h1 d
   generalize j:c.ns[n.toNat]=x at a
   have get:(nav c.ns)[n.toNat]? =some x.av:=(eW d).trans (by rw [j])
   have s:n=(n.toNat:Int):=o_
   by_cases h3:n<=x.p
   .rw [if_pos (decide_eq_true h3)] at a
    have a:n::b=R:=a
    subst a
    refine gV ?_
    exact zW
   .rw [if_neg (by rw [decide_eq_false h3];decide),Iv,Aj] at a
    have next:=m x.p (n::b) .no (.inr rfl) (fun _=>by have:=i h1;omega) (fun _ _=>by simp;omega) a
    refine gV ?_
    exact zW
  .rw [dif_neg d] at a
   have a:b=R:=a
   subst a
   refine gV ?_
   exact zW
 .rw [if_neg (by rw [decide_eq_false h1];decide)] at a
  have a:b=R:=a
  subst a
  refine gV ?_
  exact zW):P:=h
theorem zqra1 {P:Prop} (h:P:=by
 subst d
 refine cT (E:=(Er [] [16,17,18,19,20])) (fn:=Tryz.f297) (g:=.pure _) fun _=>?_
 refine bV (hEr [] [16,17,18,19,20]) 10 ?_;conv=>whnf
 refine To.cutC [1,2,3,4,8] 1 rfl rfl rfl rfl ?_
 refine yA c _ a b ?_
 exact zW):P:=h
theorem zqra2 {P:Prop} (h:P:=by
 refine gV ?_
 refine ⟨j,rfl,?_⟩
 refine gV ?_
 refine ⟨_,f,?_⟩
 exact zW):P:=h
theorem zqra3 {P:Prop} (h:P:=by
 unfold aW at h
 by_cases h1:0<=t
 .rw [if_pos (decide_eq_true h1)] at h
  by_cases a:t<(ns.length:Int)
  .omega
  .rw [if_neg (by rw [decide_eq_false a];decide)] at h
   cases h
 .rw [if_neg (by rw [decide_eq_false h1];decide)] at h
  cases h):P:=h
theorem zqra4 {P:Prop} (h:P:=by
 rw [Ae o_] at b
 have b:a++[]=R:=b
 rw [Bo] at b
 subst b
 refine gV ?_
 exact zW):P:=h
theorem zqra5 {P:Prop} (h:P:=by
 subst b
 exact c_ Tryz.f270 fun _=>zW):P:=h
theorem zqra6 {P:Prop} (h:P:=by
 subst a
 refine cT (E:=(Er [5] [])) (fn:=Tryz.f262) (g:=.pure _) fun _=>?_
 exact zW):P:=h
theorem zqra7 {P:Prop} (h:P:=by
 refine cT (E:=(Eo [8,12] [])) (fn:=Tryz.f146) (g:=.pure _) fun _=>?_
 exact zW):P:=h
theorem zqra8 {P:Prop} (h:P:=by
 obtain ⟨o,q,f⟩:=w G d
 exact ⟨o,q,fun x b=>⟨(f x b).1,by have:=(f x b).2.1;omega,(f x b).2.2⟩⟩):P:=h
theorem zqra9 {P:Prop} (h:P:=by
 exact c_ Tryz.f135 fun _=>zW):P:=h
theorem zqra10 {P:Prop} (h:P:=by
 exact c_ Tryz.f257 fun _=>zW):P:=h
theorem zqra11 {P:Prop} (h:P:=by
 rw [vP d] at b
 have next:=f (i+1) a o_ o_ b
 refine gV ?_
 exact zW):P:=h
theorem FX (n m:Int) (a:0<=m) (h1:m<=1099511627776):aA Tryz.prog 266 [ii n,ii m] [] (.ret (ii (eV n m))) []:=by
 have e:eV n m=max (0-m) (min n m):=by unfold eV;omega
 rw [e]
 exact c_ Tryz.f266 fun _=>zW
theorem jG (a b:V3):aA Tryz.prog 208 [a.av,b.av] [] (.ret (dG a b).av) []:=by
 have d:=eU a.a 1099511627776 d_
 have j:=eU a.b 1099511627776 d_
 have k:=eU a.c 1099511627776 d_
 have h:=eU b.a 1099511627776 d_
 have i:=eU b.b 1099511627776 d_
 have e:=eU b.c 1099511627776 d_
 refine c_ Tryz.f208 fun _=>?_
 repeat' first
  | (refine gW hE ?_;conv=>whnf)
  | refine .pure _ [] (FX _ _ d_ d_) ?_
  | exact rfl
  | refine aY ?_
  | refine aN ?_
  | refine aJ ?_
  | refine Aw _ (Ad rfl ?_)
  | refine Ad d_ ?_
theorem FR (a b:V3):aA Tryz.prog 264 [a.av,b.av] [] (.ret (sI a b).av) []:=by
 have d:=eU a.a 1099511627776 d_
 have j:=eU a.b 1099511627776 d_
 have k:=eU a.c 1099511627776 d_
 have h:=eU b.a 1099511627776 d_
 have i:=eU b.b 1099511627776 d_
 have e:=eU b.c 1099511627776 d_
 refine c_ Tryz.f264 fun _=>?_
 repeat' first
  | (refine gW hE ?_;conv=>whnf)
  | refine .pure _ [] (FX _ _ d_ d_) ?_
  | exact rfl
  | refine aY ?_
  | refine aN ?_
  | refine aJ ?_
  | refine Aw _ (Ad rfl ?_)
  | refine Ad d_ ?_
theorem PR (a:V3) (n:Int):aA Tryz.prog 261 [a.av,ii n] [] (.ret (LU a n).av) []:=by
 have d:=P9 a.a n
 have e:=P9 a.b n
 have h:=P9 a.c n
 refine c_ Tryz.f261 fun _=>?_
 repeat' first
  | (refine gW hE ?_;conv=>whnf)
  | refine .pure _ [] (FX _ _ d_ d_) ?_
  | exact rfl
  | refine aY ?_
  | refine aN ?_
  | refine aJ ?_
  | refine Aw _ (Ad rfl ?_)
  | refine Ad d_ ?_
theorem FW (g:Gan):aA Tryz.prog 203 [g.av] [] (.ret (dem g).av) []:=by
 refine c_ Tryz.f203 fun _=>?_
 have a:=PR g.need g.pods
 exact zW
theorem XT (l:List V3) (n:Int) (r:V3) (a:atV l n=r):aA Tryz.prog 257 [.slice 3 (vav l) .no,ii n] [] (.ret r.av) []:=by
 have hl:(vav l).length=l.length:=by simp
 unfold atV at a
 by_cases h1:n<0
 .rw [if_pos (decide_eq_true h1)] at a
  subst a
  exact zqra10
 .rw [if_neg (by rw [decide_eq_false h1];decide)] at a
  by_cases b:n.toNat<l.length
  .rw [Aa b] at a
   have get:=jD b
   have a:l[n.toNat]=r:=a
   rw [a] at get
   have c:n=(n.toNat:Int):=o_
   exact zqra10
  .rw [Bj o_] at a
   subst a
   exact zqra10
theorem sX (l:List V3) (n:Int):aA Tryz.prog 257 [.slice 3 (vav l) .no,ii n] [] (.ret (atV l n).av) []:=XT l n _ rfl
theorem B9 (n:Int):∀ (l:List Nod) (i:Nat),decide (0<=findP n l i)=l.any fun x=>x.p==n
 | [],i=>by simp [findP]
 | x::r,i=>by
  unfold findP
  rw [Gn]
  by_cases h:x.p=n
  .simp [h]
  .have:=B9 n r (i+1)
   simp [h,this]
theorem LQ (l:List Nod) (n:Int):(l.all fun x=>!(x.p==n))= !(l.any fun x=>x.p==n):=by
 induction l with
 | nil=>rfl
 | cons x r a=>rw [Gm,Gn,a];cases (x.p==n)<;>simp
theorem oN (ns:List Nod) (t:Int):rlB ns t=aW ns t:=by
 unfold rlB aW
 rw [B9,LQ]
 generalize (ns.any fun x=>x.p==t)=b
 by_cases h1:t<0
 .have a:¬ 0<=t:=o_
  simp [h1,a]
 .have h3:0<=t:=o_
  by_cases a:(ns.length:Int)<=t
  .have c:¬ t<(ns.length:Int):=o_
   simp [h1,h3,a,c]
  .have c:t<(ns.length:Int):=o_
   simp [h1,h3,a,c]
def bH (ns:List Nod) (n:Int):List Int:=(upL ns n).reverse
theorem EL {α β:Type} (f:β->α->β) (a:∀ b x y,f (f b x) y=f (f b y) x):∀ (l:List α) (b:β),l.reverse.foldl f b=l.foldl f b
 | [],b=>rfl
 | x::r,b=>by
  have h:∀ (l:List α) (b:β),l.foldl f (f b x)=f (l.foldl f b) x:=fun l=>by
   induction l with
   | nil=>intro b;rfl
   | cons y r c=>intro b;rw [Al,Al,a,c]
  rw [Iv,Iw,EL f a r b]
  show f (r.foldl f b) x=r.foldl f (f b x)
  rw [h]
def qX (v:V3) (xs:List V3) (k:Int):List V3:=xs.set k.toNat (dG ((xs[k.toNat]?).getD V3.zero) v)
theorem LR (v:V3) (xs:List V3) (k:Int):(qX v xs k).length=xs.length:=by unfold qX;simp
theorem mN (v:V3) (xs:List V3) (k:Int) (j:Nat):(qX v xs k)[j]? =if k.toNat=j then (xs[j]?).map fun x=>dG x v else xs[j]?:=by
 unfold qX
 rw [Ez]
 by_cases h:k.toNat=j
 .subst h
  rw [if_pos rfl,if_pos rfl]
  by_cases a:k.toNat<xs.length
  .rw [if_pos a,Aa a]
   rfl
  .rw [if_neg a,Bj o_]
   rfl
 .rw [if_neg h,if_neg h]
theorem U3 (v:V3) (xs:List V3) (a b:Int):qX v (qX v xs a) b=qX v (qX v xs b) a:=by
 refine Fa fun j=>?_
 rw [mN,mN,mN,mN]
 by_cases h1:a.toNat=j<;>by_cases c:b.toNat=j<;>simp [h1,c]
def wY (c:Con) (xs:List V3) (x:Rn):List V3:=if aW c.ns x.g.ten=true then (bH c.ns x.g.ten).foldl (qX (dem x.g)) xs else xs
def WZ (c:Con) (l:List Rn):List V3:=l.foldl (wY c) (Ah c.ns.length V3.zero)
theorem rL (v:V3):∀ (ks:List Int) (xs:List V3),(ks.foldl (qX v) xs).length=xs.length
 | [],_=>rfl
 | k::r,xs=>by rw [Al,rL v r,LR]
theorem WX (c:Con) (xs:List V3) (x:Rn):(wY c xs x).length=xs.length:=by
 unfold wY
 split
 .exact rL _ _ _
 .rfl
def oE (L:Led):Prop:=(L.map Lh).Nodup
theorem DX (n:Int) (v:V3):∀ (L:Led) (k:Int),k∈(uQ L n v).map Lh->k=n\/k∈L.map Lh
 | [],k,h=>by simp [uQ] at h;exact .inl h
 | (j,w)::r,k,h=>by
  unfold uQ at h
  split at h
  .rename_i a
   simp only [Bk,Ao] at h⊢
   rcases h with rfl | h
   .exact .inl rfl
   .exact .inr (.inr h)
  .simp only [Bk,Ao] at h⊢
   rcases h with rfl | h
   .exact .inr (.inl rfl)
   .rcases DX n v r k h with h | h
    .exact .inl h
    .exact .inr (.inr h)
theorem Y6 (n:Int) (v:V3):∀ (L:Led),oE L->oE (uQ L n v)
 | [],_=>by simp [uQ,oE]
 | (j,w)::r,h=>by
  have h1:=(Bw.1 h)
  unfold uQ
  split
  .rename_i a
   subst a
   exact h
  .rename_i a
   refine Bw.2 ⟨fun hm=>?_,Y6 n v r h1.2⟩
   rcases DX n v r _ hm with h | h
   .exact a h
   .exact h1.1 h
theorem DZ (n:Int):∀ (L:Led) (k:Int),k∈(AR L n).map Lh->k∈L.map Lh
 | [],k,h=>h
 | (j,w)::r,k,h=>by
  unfold AR at h
  simp only [Bk,Ao]
  split at h
  .exact .inr h
  .simp only [Bk,Ao] at h
   rcases h with h | h
   .exact .inl h
   .exact .inr (DZ n r k h)
theorem ZB (n:Int):∀ (L:Led),oE L->oE (AR L n)
 | [],h=>h
 | (j,w)::r,h=>by
  have h1:=(Bw.1 h)
  unfold AR
  split
  .exact h1.2
  .exact Bw.2 ⟨fun hm=>h1.1 (DZ n r _ hm),ZB n r h1.2⟩
theorem J4:∀ (L:Led) (n:Int),n∉L.map Lh->gO L n=none
 | [],n,h=>rfl
 | (j,w)::r,n,h=>by
  simp only [Bk,Ao,not_or] at h
  unfold gO
  rw [if_neg (fun e=>h.1 e.symm)]
  exact J4 r n h.2
theorem J3 (n:Int) (v:V3) (k:Int):∀ (L:Led),gO (uQ L n v) k=if k=n then some v else gO L k
 | []=>by
  unfold uQ gO gO
  by_cases h:k=n
  .rw [if_pos h,if_pos h.symm]
  .rw [if_neg h,if_neg (fun e=>h e.symm)]
 | (j,w)::r=>by
  have b:=J3 n v k r
  unfold uQ
  split
  .rename_i a
   subst a
   unfold gO
   by_cases h:k=j
   .rw [if_pos h,if_pos h.symm]
   .rw [if_neg h,if_neg (fun e=>h e.symm),if_neg (fun e=>h e.symm)]
  .rename_i a
   unfold gO
   rw [b]
   by_cases h:j=k
   .rw [if_pos h,if_pos h,if_neg (fun e=>a (h.trans e))]
   .rw [if_neg h,if_neg h]
theorem J5 (n:Int) (k:Int):∀ (L:Led),oE L->gO (AR L n) k=if k=n then none else gO L k
 | [],_=>by
  unfold AR gO
  split<;>rfl
 | (j,w)::r,h=>by
  have h1:=(Bw.1 h)
  have c:=J5 n k r h1.2
  unfold AR
  split
  .rename_i b
   subst b
   by_cases a:k=j
   .rw [if_pos a,a]
    exact J4 r j h1.1
   .rw [if_neg a]
    conv=>rhs;unfold gO
    rw [if_neg (fun e=>a e.symm)]
  .rename_i b
   unfold gO
   rw [c]
   by_cases a:j=k
   .rw [if_pos a,if_pos a,if_neg (fun e=>b (a.trans e))]
   .rw [if_neg a,if_neg a]
theorem ZH {v:V3} (h:isZ v=true):v=V3.zero:=by
 obtain ⟨a,b,c⟩:=v
 unfold isZ at h
 simp at h
 obtain ⟨rfl,rfl,rfl⟩:=h
 rfl
theorem aFS {L:Led} (h:oE L) (n:Int) (v:V3):oE (JY L n v):=by
 unfold JY
 split
 .exact ZB n L h
 .exact Y6 n v L h
theorem Y5 {L:Led} (h:oE L) (n:Int) (v:V3) (k:Int):nU (JY L n v) k=if k=n then v else nU L k:=by
 unfold JY nU
 split
 .rename_i hz
  rw [J5 n k L h]
  by_cases a:k=n
  .rw [if_pos a,if_pos a,ZH hz];rfl
  .rw [if_neg a,if_neg a]
 .rw [J3]
  by_cases a:k=n
  .rw [if_pos a,if_pos a];rfl
  .rw [if_neg a,if_neg a]
theorem CB (n:Nat) (L:Led) (j:Nat):(kR n L)[j]? =if j<n then some (nU L (j:Int)) else none:=by
 unfold kR
 rw [Bc]
 by_cases h:j<n
 .rw [if_pos h,Ch h];rfl
 .rw [if_neg h,Bj q_];rfl
theorem aDW {n:Nat} {L:Led} (h:oE L) (v:V3) (k:Int) (c:0<=k) (b:k.toNat<n):kR n (vE v L k)=qX v (kR n L) k:=by
 refine Fa fun j=>?_
 rw [mN,CB,CB]
 unfold vE
 rw [Y5 h]
 by_cases h1:j<n
 .rw [if_pos h1,if_pos h1]
  by_cases a:k.toNat=j
  .rw [if_pos a,if_pos o_]
   have:k=(j:Int):=o_
   rw [this]
   rfl
  .rw [if_neg a,if_neg o_]
 .rw [if_neg h1,if_neg h1]
  split<;>rfl
theorem aHZ {L:Led} (h:oE L) (v:V3) (k:Int):oE (vE v L k):=aFS h _ _
theorem LA {n:Nat} (v:V3):∀ (ks:List Int) (L:Led),oE L->(∀ k∈ks,0<=k/\k.toNat<n)->kR n (ks.foldl (vE v) L)=ks.foldl (qX v) (kR n L)/\oE (ks.foldl (vE v) L)
 | [],L,h,_=>⟨rfl,h⟩
 | k::r,L,h,hk=>by
  have h1:=hk k s_
  obtain ⟨c,a⟩:=LA v r (vE v L k) (aHZ h v k) fun x b=>hk x (by simp [b])
  exact ⟨by rw [Al,c,aDW h v k h1.1 h1.2];rfl,a⟩
theorem FE (ns:List Nod):∀ (f:Nat) (n x:Int),x∈upF ns f n->0<=x/\x.toNat<ns.length
 | 0,n,x,h=>by simp [upF] at h
 | f+1,n,x,h=>by
  unfold upF at h
  split at h
  .rename_i a
   have a:=of_decide_eq_true a
   split at h
   .rename_i h1
    split at h
    .simp at h;subst h;exact ⟨a,h1⟩
    .rcases Ao.1 h with rfl | h
     .exact ⟨a,h1⟩
     .exact FE ns f _ x h
   .simp at h
  .simp at h
theorem NC (c:Con) (L:Led) (h:oE L) (x:Rn):kR c.ns.length (rW c L x)=wY c (kR c.ns.length L) x/\oE (rW c L x):=by
 unfold rW wY bH
 split
 .obtain ⟨b,a⟩:=LA (n:=c.ns.length) (dem x.g) (upL c.ns x.g.ten) L h fun k d=>FE _ _ _ _ d
  exact ⟨by rw [b,EL _ (U3 _)],a⟩
 .exact ⟨rfl,h⟩
theorem aEs (c:Con) (l:List Rn):WZ c l=ofL c l:=by
 have key:∀ (l:List Rn) (L:Led),oE L->l.foldl (wY c) (kR c.ns.length L)=kR c.ns.length (l.foldl (rW c) L):=fun l=>by
  induction l with
  | nil=>intro L _;rfl
  | cons x r a=>
   intro L h
   obtain ⟨d,b⟩:=NC c L h x
   rw [Al,Al,<-d,a _ b]
 have e:kR c.ns.length []=Ah c.ns.length V3.zero:=by
  refine Fa fun j=>?_
  rw [CB,Ds]
  rfl
 unfold WZ ofL
 rw [<-e,key l [] (by simp [oE])]
noncomputable abbrev aED:Func:=Tryz.f315
theorem SQ (c:Con) (k:c.sm) (R:List Int):∀ (m i:Nat) (a:List Int),i+m=c.ns.length->a.length<=i->a++lvF c.ns m i=R->
  To (Eo [3] []) aED (.pure (.ret (.slice 1 (iv R) .no))) (.head (stk aED 0) [(1,.ref 0 0),(3,.slice 1 (iv a) (.own 1 0)),(4,.int .i64 i)] [.cells 26 c.cs,.tail 0 1 3]):=by
 have j:(nav c.ns).length=c.ns.length:=by simp
 have h1:=k.ns
 intro m
 induction m with
 | zero=>
  intro i a o l b
  unfold lvF at b
  rw [Bo] at b
  subst b
  refine gV ?_
  exact zW
 | succ m g=>
  intro i a o l b
  have n:(iv a).length=a.length:=by simp
  have f:=iM c k i
  rw [oN] at f
  unfold lvF at b
  refine gV ?_
  refine aT fun h=>?_
  refine gV ?_
  refine .pure _ [] f ?_
  refine gV ?_
  refine Ad (fun d=>?_) (fun d=>?_)
  .have d:aW c.ns (i:Int)=true:=d
   rw [if_pos d] at b
   have next:=g (i+1) (a++[(i:Int)]) o_ q_ (by rw [Aj];exact b)
   have e:iv (a++[(i:Int)])=iv a++[ii i]:=by simp
   rw [e] at next
   exact zW
  .have d:aW c.ns (i:Int)=false:=d
   rw [if_neg (by rw [d];decide)] at b
   have next:=g (i+1) a o_ o_ b
   exact zW
theorem aBV (c:Con) (b:c.sm):aA Tryz.prog 315 [c.av] [] (.ret (.slice 1 (iv (jI c.ns)) .no)) []:=by
 refine cT (E:=(Eo [3] [])) (fn:=Tryz.f315) (g:=.pure _) fun _=>?_
 have a:=SQ c b _ c.ns.length 0 [] o_ s_ rfl
 exact zW
noncomputable abbrev aAi:Func:=Tryz.f207
theorem MF (c:Con) (r:c.sm) (R:List Int):∀ (f:Nat) (n:Int) (b:List Int) (g:Tk),(g= .nil\/g= .no)->(0<=n->n.toNat<f)->(0<=n->n.toNat<c.ns.length->b.length+n.toNat<1048577)->(upF c.ns f n).reverse++b=R->
  To E aAi (.pure (.ret (.slice 1 (iv R) .no))) (.head (stk aAi 0) [(1,ii n),(2,.ref 0 0),(5,.slice 1 (iv b) g)] [.cells 26 c.cs]):=by
 have o:(nav c.ns).length=c.ns.length:=by simp
 have q:=r.ns
 intro f
 induction f with
 | zero=>
  intro n b g l i e a
  have k:(iv b).length=b.length:=by simp
  have h1:¬ 0<=n:=fun h=>by have:=i h;omega
  have a:b=R:=a
  subst a
  rcases l with rfl | rfl
  .refine gV ?_
   exact zW
  .refine gV ?_
   exact zW
 | succ f m=>
  intro n b g l i e a
  have k:(iv b).length=b.length:=by simp
  unfold upF at a
  rcases l with rfl | rfl
  .exact zqra0
  .exact zqra0
theorem oM (c:Con) (a:c.sm) (n:Int):aA Tryz.prog 207 [c.av,ii n] [] (.ret (.slice 1 (iv (bH c.ns n)) .no)) []:=by
 have b:=a.ns
 refine c_ Tryz.f207 fun _=>?_
 refine gV ?_
 refine To.part [1,2,5] [0] rfl rfl rfl ?_
 exact MF c a _ (n.toNat+1) n [] .nil (.inl rfl) (fun _=>by omega) (fun _ _=>by simp;omega) (by unfold bH upL;simp)
theorem O3 (ns:List Nod):∀ (f:Nat) (n:Int),(upF ns f n).length<=n.toNat+1/\(upF ns f n).length<=f
 | 0,n=>by simp [upF]
 | f+1,n=>by
  unfold upF
  split
  .split
   .split
    .simp
    .rename_i b h1 a
     have d:=O3 ns f (ns[n.toNat]).p
     have a:¬ n<=(ns[n.toNat]).p:=fun h=>a (decide_eq_true h)
     have b:=of_decide_eq_true b
     simp only [Ba]
     refine ⟨?_,by omega⟩
     by_cases c:0<=(ns[n.toNat]).p
     .omega
     .have e:(upF ns f (ns[n.toNat]).p)=[]:=by
       cases f with
       | zero=>rfl
       | succ f=>
          unfold upF
          rw [if_neg (by rw [decide_eq_false c];decide)]
      rw [e]
      simp
   .simp
  .simp
theorem aBi (ns:List Nod) (n:Int):(upL ns n).length<=ns.length:=by
 by_cases h:0<=n/\n.toNat<ns.length
 .have:=(O3 ns (n.toNat+1) n).1
  unfold upL
  omega
 .unfold upL upF
  by_cases a:0<=n
  .rw [if_pos (decide_eq_true a),dif_neg o_]
   simp
  .rw [if_neg (by rw [decide_eq_false a];decide)]
   simp
theorem lU (ns:List Nod) (n:Int):(bH ns n).length<=ns.length:=by
 unfold bH
 rw [List.length_reverse]
 exact aBi ns n
noncomputable abbrev aHF:Func:=Tryz.f316
def onB (ns:List Nod) (n t:Int):Bool:=(bH ns t).any fun x=>x==n
theorem aFF (ns:List Nod) (n t:Int):onB ns n t=decide (n∈upL ns t):=by
 unfold onB bH
 rw [List.any_reverse,Fy]
 simp
theorem WW (c:Con) (n:Int) (l:List Int) (hl:l.length<=1048576) (r:Bool):∀ (m i:Nat),i+m=l.length->((l.drop i).any fun x=>x==n)=r->
  To E aHF (.pure (.ret (.bool r))) (.head (stk aHF 0) [(1,ii n),(7,.slice 1 (iv l) .no),(8,ii i)] [.cells 26 c.cs]):=by
 have f:(iv l).length=l.length:=by simp
 intro m
 induction m with
 | zero=>
  intro i g a
  rw [Ae o_] at a
  have a:false=r:=a
  subst a
  refine gV ?_
  exact zW
 | succ m e=>
  intro i g a
  have d:i<l.length:=o_
  rw [Ac d,Gn] at a
  have get:=cH d
  generalize l[i]=x at a get
  have e:=e (i+1) o_
  refine gV ?_
  refine aT fun h=>?_
  refine gV ?_
  refine ⟨i,rfl,?_⟩
  refine gV ?_
  refine ⟨_,get,?_⟩
  refine gV ?_
  refine Ad (fun b=>?_) (fun b=>?_)
  .have b:(x==n)=true:=b
   rw [b] at a
   have a:true=r:=a
   subst a
   exact zW
  .have b:(x==n)=false:=b
   rw [b,La] at a
   repeat' first | (refine gN hE ?_;conv=>whnf) | exact rfl | refine aY ?_ | refine aN ?_ | refine aT fun h=>?_ | refine aF fun h=>?_ | refine ⟨fun h=>?_,fun h=>?_⟩ | refine aJ ?_ | refine ⟨_,rfl,?_⟩ | refine aD ?_ | fail
   exact To.cut [1,7,8] 1 rfl rfl rfl rfl (e a)
theorem aFe (c:Con) (a:c.sm) (n t:Int):aA Tryz.prog 316 [c.av,ii n,ii t] [] (.ret (.bool (onB c.ns n t))) []:=by
 have h1:=lU c.ns t
 have b:=a.ns
 have hp:=oM c a t
 unfold onB
 generalize bH c.ns t=l at h1 hp
 refine c_ Tryz.f316 fun _=>?_
 repeat' first | (refine gN hE ?_;conv=>whnf) | refine .pure _ [] hp ?_ | exact rfl | refine aY ?_ | refine aN ?_ | refine aT fun h=>?_ | refine aF fun h=>?_ | refine ⟨fun h=>?_,fun h=>?_⟩ | refine aJ ?_ | refine ⟨_,rfl,?_⟩ | refine aD ?_ | fail
 exact To.cut [1,7,8] 1 rfl rfl rfl rfl (WW c n l o_ _ l.length 0 o_ rfl)
noncomputable abbrev aEE:Func:=Tryz.f296
theorem IY (c:Con) (p:c.sm) (n:Int) (l:List Int) (hl:l.length<=1048576) (R:List Int):∀ (m i:Nat) (a:List Int),i+m=l.length->a.length<=i->a++(l.drop i).flatMap (qV c.ns n)=R->
  To (Eo [5] []) aEE (.pure (.ret (.slice 1 (iv R) .no))) (.head (stk aEE 0) [(1,ii n),(2,.ref 0 0),(5,.slice 1 (iv a) (.own 1 0)),(6,.slice 1 (iv l) .no),(7,ii i)] [.cells 26 c.cs,.tail 0 1 3]):=by
 have j:(iv l).length=l.length:=by simp
 intro m
 induction m with
 | zero=>
  intro i a k q b
  exact zqra4
 | succ m h=>
  intro i a k q b
  have o:(iv a).length=a.length:=by simp
  have f:i<l.length:=o_
  rw [Ac f,Hh] at b
  have get:=cH f
  generalize l[i]=x at b get
  have d:=aFe c p n x
  rw [aFF] at d
  unfold qV at b
  by_cases g:n∈upL c.ns x
  .rw [if_pos g] at b
   rw [decide_eq_true g] at d
   have next:=h (i+1) (a++[x]) o_ q_ (by rw [Aj];exact b)
   have e:iv (a++[x])=iv a++[ii x]:=by simp
   rw [e] at next
   refine gV ?_
   exact zW
  .rw [if_neg g] at b
   rw [decide_eq_false g] at d
   have next:=h (i+1) a o_ o_ b
   refine gV ?_
   exact zW
theorem uH (c:Con) (d:c.sm) (n:Int):aA Tryz.prog 296 [c.av,ii n] [] (.ret (.slice 1 (iv (bD c.ns n)) .no)) []:=by
 have e:=d.ns
 have h1:(jI c.ns).length<=c.ns.length:=xP c.ns c.ns.length 0
 have a:=aBV c d
 unfold bD
 generalize jI c.ns=l at h1 a
 refine cT (E:=(Eo [5] [])) (fn:=Tryz.f296) (g:=.pure _) fun _=>?_
 have b:=IY c d n l o_ _ l.length 0 [] o_ s_ rfl
 exact zW
noncomputable abbrev aEA:Func:=Tryz.f258
theorem SJ (c:Con) (l:List V3) (b:List Int) (k:b.length<=1048576) (R:V3):∀ (m i:Nat) (v:V3),i+m=b.length->(b.drop i).foldl (smS l) v=R->
  To E aEA (.pure (.ret R.av)) (.head (stk aEA 0) [(2,.slice 3 (vav l) .no),(6,.ref 1 0),(7,.ref 2 0),(8,.slice 1 (iv b) .no),(9,ii i)] [.cells 26 c.cs,.cells 34 V3.zero.cs,.cells 34 v.cs]):=by
 have g:(iv b).length=b.length:=by simp
 intro m
 induction m with
 | zero=>
  intro i v j a
  rw [Ae o_] at a
  have a:v=R:=a
  subst a
  refine gV ?_
  exact zW
 | succ m h=>
  intro i v j a
  have d:i<b.length:=o_
  rw [Ac d,Al] at a
  have get:=cH d
  generalize b[i]=x at a get
  have f:=sX l x
  have next:=h (i+1) (smS l v x) o_ a
  unfold smS at next
  generalize atV l x=u at f next
  have e:=jG v u
  generalize dG v u=q at e next
  refine gV ?_
  exact zW
theorem PL (c:Con) (d:c.sm) (n:Int) (l:List V3):aA Tryz.prog 258 [c.av,ii n,.slice 3 (vav l) .no] [] (.ret (gG c.ns n l).av) []:=by
 have h1:=mM c d n
 have a:=uH c d n
 unfold gG
 generalize bD c.ns n=b at h1 a
 refine c_ Tryz.f258 fun _=>?_
 repeat' first | (refine gN hE ?_;conv=>whnf) | refine .pure _ [] a ?_ | exact rfl | refine aY ?_ | refine aN ?_ | refine aT fun h=>?_ | refine aF fun h=>?_ | refine ⟨fun h=>?_,fun h=>?_⟩ | refine aJ ?_ | refine ⟨_,rfl,?_⟩ | refine aD ?_ | fail
 exact To.cut [2,6,7,8,9] 3 rfl rfl rfl rfl (SJ c l b h1 _ b.length 0 V3.zero o_ rfl)
noncomputable abbrev aEB:Func:=Tryz.f260
theorem zH {c:Con} {i:Nat} (h:i<c.ns.length):(nav c.ns)[i]? =some (bT c.ns (i:Int)).av:=by
 unfold bT
 rw [Cl,Aa h]
 exact eW h
theorem SN (c:Con) (f:c.sm) (n:Int):∀ (m i:Nat) (a:List V3),i+m=c.ns.length->a=(Db i).map (fun j:Nat=>(bT c.ns (j:Int)).n)->
  To (Eo [5] []) aEB (.pure (.ret (gG c.ns n (jH c.ns)).av)) (.head (stk aEB 0) [(1,ii n),(2,.ref 0 0),(4,.ref 1 0),(5,.slice 3 (vav a) (.own 2 0)),(6,ii i)] [.cells 26 c.cs,.cells 34 V3.zero.cs,.tail 0 3 34]):=by
 have g:(nav c.ns).length=c.ns.length:=by simp
 have k:=f.ns
 intro m
 induction m with
 | zero=>
  intro i a d b
  have d:i=c.ns.length:=o_
  have b:a=jH c.ns:=by rw [b,d];rfl
  subst b
  have hs:=PL c f n (jH c.ns)
  generalize gG c.ns n (jH c.ns)=S at hs
  refine gV ?_
  exact zW
 | succ m l=>
  intro i a d b
  have o:(vav a).length=a.length:=by simp
  have h:a.length=i:=by rw [b];simp
  have get:=zH (c:=c) (i:=i) o_
  have next:=l (i+1) (a++[(bT c.ns (i:Int)).n]) o_ (by rw [b,Ie,Bm];rfl)
  have e:vav (a++[(bT c.ns (i:Int)).n])=vav a++[(bT c.ns (i:Int)).n.av]:=by simp
  rw [e] at next
  generalize bT c.ns (i:Int)=x at get next
  refine gV ?_
  exact zW
theorem aBR (c:Con) (b:c.sm) (n:Int):aA Tryz.prog 260 [c.av,ii n] [] (.ret (gG c.ns n (jH c.ns)).av) []:=by
 refine cT (E:=(Eo [5] [])) (fn:=Tryz.f260) (g:=.pure _) fun _=>?_
 have a:=SN c b n c.ns.length 0 [] o_ rfl
 exact zW
noncomputable abbrev aAk:Func:=Tryz.f259
theorem MJ (c:Con) (d:List V3) (t:Int) (b:List Int) (D:b.length<=1048576) (u:∀ x∈b,c.ok x) (R:V3):∀ (m i:Nat) (v:V3),i+m=b.length->(b.drop i).foldl (tF c.ns d t) v=R->
  To E aAk (.pure (.ret R.av)) (.head (stk aAk 0) [(1,.slice 3 (vav d) .no),(3,ii t),(4,.ref 0 0),(8,.ref 1 0),(9,.ref 2 0),(10,.slice 1 (iv b) .no),(11,ii i)] [.cells 26 c.cs,.cells 34 V3.zero.cs,.cells 34 v.cs]):=by
 have y:(iv b).length=b.length:=by simp
 intro m
 induction m with
 | zero=>
  intro i v A f
  rw [Ae o_] at f
  have f:v=R:=f
  subst f
  refine gV ?_
  exact zW
 | succ m z=>
  intro i v A f
  have k:i<b.length:=o_
  have g:=u _ (Bf k)
  rw [Ac k,Al] at f
  have get:=cH k
  generalize b[i]=s at f get g
  have next:=z (i+1) (tF c.ns d t v s) o_ f
  unfold tF at next
  by_cases h1:s=t
  .subst h1
   rw [if_pos (decide_eq_true rfl)] at next
   have hst:(s==s)=true:=by simp
   refine gV ?_
   exact zW
  .rw [if_neg (by rw [decide_eq_false h1];decide)] at next
   have hst:(s==t)=false:=by simp [h1]
   obtain ⟨G,B⟩:=g
   have w:s=(s.toNat:Int):=o_
   have e:=zH (c:=c) (i:=s.toNat) B
   rw [<-w] at e
   generalize bT c.ns s=x at e next
   have p:=FR x.n x.l
   generalize sI x.n x.l=q1 at p next
   have o:=sX d s
   generalize atV d s=q2 at o next
   have q:=FR q1 q2
   generalize sI q1 q2=q3 at q next
   have j:=jG v (S8 q3)
   generalize r:S8 q3=q4 at j next
   have C:max q3.a 0=q4.a:=by rw [<-r];rfl
   have F:max q3.b 0=q4.b:=by rw [<-r];rfl
   have H:max q3.c 0=q4.c:=by rw [<-r];rfl
   subst r
   generalize dG v (S8 q3)=q5 at j next
   refine gV ?_
   refine aT fun h=>?_
   repeat' first
    | exact To.cut [1,3,4,8,9,10,11] 3 rfl rfl rfl rfl next
    | (refine gW hE ?_;conv=>whnf)
    | refine Aw s.toNat (Ad w ?_)
    | refine Aw _ (Ad e ?_)
    | refine Aw i (Ad rfl ?_)
    | refine Aw _ (Ad get ?_)
    | refine Ad (fun h=>absurd h (by rw [hst];decide)) (fun h=>?_)
    | refine .pure _ [] p ?_
    | refine .pure _ [] o ?_
    | refine .pure _ [] q ?_
    | refine .pure _ [] j ?_
    | refine aY ?_
    | refine aN ?_
    | refine aJ ?_
    | refine Aw _ (Ad rfl ?_)
    | refine Ad d_ ?_
    | fail
theorem W2 (c:Con) (i:c.sm) (a:List V3) (n t:Int):aA Tryz.prog 259 [c.av,.slice 3 (vav a) .no,ii n,ii t] [] (.ret (tG c.ns a n t).av) []:=by
 have h1:=mM c i n
 have e:=uH c i n
 have d:∀ x∈bD c.ns n,c.ok x:=fun x j=>iC c n x j
 unfold tG
 generalize bD c.ns n=b at h1 e d
 refine c_ Tryz.f259 fun _=>?_
 repeat' first | (refine gN hE ?_;conv=>whnf) | refine .pure _ [] e ?_ | exact rfl | refine aY ?_ | refine aN ?_ | refine aT fun h=>?_ | refine aF fun h=>?_ | refine ⟨fun h=>?_,fun h=>?_⟩ | refine aJ ?_ | refine ⟨_,rfl,?_⟩ | refine aD ?_ | fail
 exact To.cut [1,3,4,8,9,10,11] 3 rfl rfl rfl rfl (MJ c a t b h1 d _ b.length 0 V3.zero o_ rfl)
noncomputable abbrev aEC:Func:=Tryz.f202
theorem SP (c:Con) (f:c.sm) (a:List V3) (t:Int) (need:V3) (nd:V3) (l:List Int) (hl:l.length<=1048576) (r:Bool):∀ (m i:Nat),i+m+1=l.length->(((l.drop i).take m).all fun x=>OM c a need t x)=r->
  To E aEC (.pure (.ret (.bool r))) (.head (stk aEC 0) [(1,.slice 3 (vav a) .no),(2,ii t),(4,.ref 0 0),(7,.ref 1 0),(10,.slice 1 (iv l) .no),(11,ii i)] [.cells 26 c.cs,.cells 34 need.cs]):=by
 have g:(iv l).length=l.length:=by simp
 intro m
 induction m with
 | zero=>
  intro i k b
  rw [Hl] at b
  have b:true=r:=b
  subst b
  refine gV ?_
  exact zW
 | succ m j=>
  intro i k b
  have d:i<l.length:=o_
  rw [Ac d,List.take_succ_cons,Gm] at b
  have get:=cH d
  generalize l[i]=x at b get
  have next:=j (i+1) o_
  unfold OM at b
  have h1:=PL c f x a
  generalize gG c.ns x a=q1 at h1 b
  have p:=jG q1 need
  generalize dG q1 need=q2 at p b
  have h3:=W2 c f a x t
  generalize tG c.ns a x t=q3 at h3 b
  have o:=jG q2 q3
  generalize dG q2 q3=q4 at o b
  have n:=aBR c f x
  generalize gG c.ns x (jH c.ns)=q5 at n b
  have h:=jQ q4 q5
  cases e:bK q4 q5 with
  | false=>
   rw [e] at h b
   have b:false=r:=b
   subst b
   refine gV ?_
   exact zW
  | true=>
   rw [e,Cd] at b
   rw [e] at h
   have next:=next b
   refine gV ?_
   exact zW
theorem HZ {ns:List Nod} {t:Int} (a:0<=t) (h1:t.toNat<ns.length):∃ r,upL ns t=t::r:=by
 unfold upL upF
 rw [if_pos (decide_eq_true a),dif_pos h1]
 split
 .exact ⟨_,rfl⟩
 .exact ⟨_,rfl⟩
theorem oW {ns:List Nod} {t:Int} (h:aW ns t=true):0<=t/\t.toNat<ns.length:=by
 exact zqra3
theorem TN (c:Con) (d:List V3) (t:Int) (need:V3) (r:List Int) (j:upL c.ns t=t::r):(upL c.ns t).all (GD c d t need)=(TD c d need t&&((bH c.ns t).take ((bH c.ns t).length-1)).all fun x=>OM c d need t x):=by
 have f:=FD c.ns (t.toNat+1) t
 have f:(upL c.ns t).Pairwise fun a b=>b<a:=f
 unfold bH
 rw [j] at f⊢
 rw [Gm]
 unfold GD
 rw [if_pos (decide_eq_true rfl)]
 congr 1
 have e:(Fv ((t::r).reverse.length-1) (t::r).reverse)=r.reverse:=by
  rw [Iv,Ar,List.length_reverse]
  show Fv (r.length+1-1) _=_
  rw [Ii,Ea s_]
  exact Cf s_
 rw [e,List.all_reverse]
 rw [Fy,Cj,Cj]
 have i:∀ x∈r,¬ x=t:=fun x g=>by
  have:=(Ce.1 f).1 x g
  omega
 constructor
 .intro h x g
  have:=h x g
  rwa [if_neg (by rw [decide_eq_false (i x g)];decide)] at this
 .intro h x g
  rw [if_neg (by rw [decide_eq_false (i x g)];decide)]
  exact h x g
theorem SK (c:Con) (m:c.sm) (a:List V3) (t:Int) (need:V3) (r:Bool) (d:wZ c a t need=r):aA Tryz.prog 202 [c.av,.slice 3 (vav a) .no,ii t,need.av] [] (.ret (.bool r)) []:=by
 have j:=iM c m t
 rw [oN] at j
 unfold wZ at d
 cases k:aW c.ns t with
 | false=>
  rw [k] at j
  rw [if_neg (by rw [k];decide)] at d
  subst d
  exact c_ Tryz.f202 fun _=>zW
 | true=>
  rw [k] at j
  rw [if_pos k] at d
  obtain ⟨C,v⟩:=oW k
  obtain ⟨B,u⟩:=HZ C v
  rw [TN c a t need B u] at d
  have q:=lU c.ns t
  have o:0<(bH c.ns t).length:=by unfold bH;rw [u];simp
  have hp:=oM c m t
  generalize bH c.ns t=l at d q hp o
  have z:=m.ns
  have w:t=(t.toNat:Int):=o_
  have e:=zH (c:=c) (i:=t.toNat) v
  rw [<-w] at e
  unfold TD at d
  generalize bT c.ns t=x at e d
  have h1:=sX a t
  generalize atV a t=q1 at h1 d
  have y:=jG q1 need
  generalize dG q1 need=q2 at y d
  have h3:=jG x.n x.b
  generalize dG x.n x.b=q3 at h3 d
  have s:=jQ q2 q3
  cases p:bK q2 q3 with
  | false=>
   rw [p] at s d
   have d:false=r:=d
   subst d
   exact c_ Tryz.f202 fun _=>zW
  | true=>
   rw [p,Cd] at d
   rw [p] at s
   refine c_ Tryz.f202 fun _=>?_
   repeat' first | (refine gN hE ?_;conv=>whnf) | refine .pure _ [] j ?_ | refine ⟨t.toNat,w,?_⟩ | refine ⟨_,e,?_⟩ | refine .pure _ [] h1 ?_ | refine .pure _ [] y ?_ | refine .pure _ [] h3 ?_ | refine .pure _ [] s ?_ | refine .pure _ [] hp ?_ | exact rfl | refine aY ?_ | refine aN ?_ | refine aT fun h=>?_ | refine aF fun h=>?_ | refine ⟨fun h=>?_,fun h=>?_⟩ | refine aJ ?_ | refine ⟨_,rfl,?_⟩ | refine aD ?_ | fail
   exact To.cut [1,2,4,7,10,11] 2 rfl rfl rfl rfl (SP c m a t need need l o_ r (l.length-1) 0 o_ d)
theorem WR (c:Con) (b:c.sm) (a:List V3) (t:Int) (need:V3):aA Tryz.prog 202 [c.av,.slice 3 (vav a) .no,ii t,need.av] [] (.ret (.bool (wZ c a t need))) []:=SK c b a t need _ rfl
noncomputable abbrev UC:Func:=Tryz.f140
abbrev ofO (c:Con) (xs:List V3):List AObj:=[.cells 26 c.cs,.row 0 3 34 (vav xs)]
theorem aFf (c:Con) (l:List Rn) (R:List V3) (x:Rn) (j:Nat) (C:j<1048576) (D:(rav l)[j]? =some x.av) (p:List Int) (v:p.length<=1048576) (h:∀ k∈p,0<=k/\k.toNat<c.ns.length):
  ∀ (m i:Nat) (xs:List V3),xs.length=c.ns.length->i+m=p.length->
   To E UC (.pure (.ret (.slice 3 (vav R) .no))) (.head (stk UC 0) [(1,.slice 14 (rav l) .no),(2,.ref 0 0),(5,.row 1 0),(6,ii ((j:Int)+1))] (ofO c ((p.drop i).foldl (qX (dem x.g)) xs)))->
  To E UC (.pure (.ret (.slice 3 (vav R) .no))) (.head (stk UC 1) [(1,.slice 14 (rav l) .no),(2,.ref 0 0),(5,.row 1 0),(6,ii j),(7,.slice 1 (iv p) .no),(8,ii i)] (ofO c xs)):=by
 have n:(iv p).length=p.length:=by simp
 have A:(rav l).length=l.length:=by simp
 intro m
 induction m with
 | zero=>
  intro i xs e s a
  rw [Ae o_] at a
  refine gV ?_
  exact zW
 | succ m r=>
  intro i xs e s a
  have b:i<p.length:=o_
  obtain ⟨y,o⟩:=h _ (Bf b)
  rw [Ac b,Al] at a
  have get:=cH b
  generalize p[i]=k at a get y o
  have F:k=(k.toNat:Int):=o_
  have w:(vav xs).length=xs.length:=by simp
  have next:=r (i+1) (qX (dem x.g) xs k) (by rw [LR];exact e) o_ a
  have f:k.toNat<xs.length:=o_
  have t:(vav xs)[k.toNat]? =some xs[k.toNat].av:=jD f
  unfold qX at next
  rw [Aa f,show ((some xs[k.toNat]).getD V3.zero)=xs[k.toNat] from rfl] at next
  generalize xs[k.toNat]=u at t next
  have z:=FW x.g
  generalize dem x.g=d at z next a
  have B:=jG u d
  generalize dG u d=q at B next
  unfold ofO at next
  rw [<-FA] at next
  refine gV ?_
  exact zW
theorem aBQ (c:Con) (n:c.sm) (l:List Rn) (hl:l.length<=1048576) (R:List V3):∀ (m i:Nat) (xs:List V3),i+m=l.length->xs.length=c.ns.length->(l.drop i).foldl (wY c) xs=R->
  To E UC (.pure (.ret (.slice 3 (vav R) .no))) (.head (stk UC 0) [(1,.slice 14 (rav l) .no),(2,.ref 0 0),(5,.row 1 0),(6,ii i)] (ofO c xs)):=by
 have o:(rav l).length=l.length:=by simp
 have q:=n.ns
 intro m
 induction m with
 | zero=>
  intro i xs t j b
  rw [Ae o_] at b
  subst b
  refine gV ?_
  exact zW
 | succ m r=>
  intro i xs t j b
  have d:i<l.length:=o_
  rw [Ac d,Al] at b
  have get:(rav l)[i]? =some l[i].av:=dH d
  generalize l[i]=x at b get
  have next:=r (i+1) (wY c xs x) o_ (by rw [WX];exact j) b
  have a:=iM c n x.g.ten
  rw [oN] at a
  unfold wY at next
  cases f:aW c.ns x.g.ten with
  | false=>
   rw [f] at a
   rw [if_neg (by rw [f];decide)] at next
   refine gV ?_
   exact zW
  | true=>
   rw [f] at a
   rw [if_pos f] at next
   have hp:=oM c n x.g.ten
   have h:=lU c.ns x.g.ten
   have e:∀ k∈bH c.ns x.g.ten,0<=k/\k.toNat<c.ns.length:=fun k s=>FE _ _ _ _ (Gu.1 s)
   generalize bH c.ns x.g.ten=p at hp h e next
   have u:=aFf c l R x i o_ get p o_ e p.length 0 xs j o_ next
   refine gV ?_
   exact zW
theorem qAa (c:Con) (b:c.sm) (l:List Rn) (hl:l.length<=1048576):aA Tryz.prog 140 [c.av,.slice 14 (rav l) .no] [] (.ret (.slice 3 (vav (ofL c l)) .no)) []:=by
 have h1:=b.ns
 have a:(nav c.ns).length=c.ns.length:=by simp
 rw [<-aEs]
 have next:=aBQ c b l hl (WZ c l) l.length 0 (Ah c.ns.length V3.zero) o_ s_ rfl
 unfold ofO at next
 rw [show vav (Ah c.ns.length V3.zero)=Ah c.ns.length (AVal.agg [ii 0,ii 0,ii 0]) from by simp [vav,V3.av,V3.zero,V3.cs]] at next
 generalize WZ c l=R at next
 refine c_ Tryz.f140 fun _=>?_
 refine gV ?_
 refine ⟨c.ns.length,by rw [a],?_⟩
 refine gV ?_
 refine ⟨⟨rfl,by omega,by simp only [maxLen];omega⟩,?_⟩
 exact zW
noncomputable abbrev pD:Func:=Tryz.f205
theorem W9 (c:Con) (r:List Rn) (R:List V3) (x:Rn) (j:Nat) (w:j<1048576) (f:(rav r)[j]? =some x.av) (v:x.hs.length<=1048576) (y:c.hs.length<=1048576):
  ∀ (m i:Nat) (xs:List V3),xs.length=c.hs.length->i+m=x.hs.length->
   To (Er [5] []) pD (.pure (.ret (.slice 3 (vav R) .no))) (.head (stk pD 1) [(1,.slice 14 (rav r) .no),(5,.row 1 0),(7,ii ((j:Int)+1))] (ofO c ((x.hs.drop i).foldl (mF x.g.need) xs)))->
  To (Er [5] []) pD (.pure (.ret (.slice 3 (vav R) .no))) (.head (stk pD 2) [(1,.slice 14 (rav r) .no),(5,.row 1 0),(7,ii j),(8,ii i)] (ofO c xs)):=by
 have k:(iv x.hs).length=x.hs.length:=by simp
 have t:(rav r).length=r.length:=by simp
 intro m
 induction m with
 | zero=>
  intro i xs d o a
  rw [Ae o_] at a
  exact zqra2
 | succ m n=>
  intro i xs d o a
  have b:i<x.hs.length:=o_
  rw [Ac b,Al] at a
  have get:=cH b
  generalize x.hs[i]=u0 at a get
  have s:(vav xs).length=xs.length:=by simp
  have next:=n (i+1) (mF x.g.need xs u0) (by rw [mE];exact d) o_ a
  unfold mF ofO at next
  by_cases h1:0<=u0
  .rw [if_pos (decide_eq_true h1)] at next
   by_cases l:u0<(xs.length:Int)
   .rw [if_pos (decide_eq_true l)] at next
    have e:u0.toNat<xs.length:=o_
    have z:u0=(u0.toNat:Int):=o_
    rw [Aa e] at next
    have p:(vav xs)[u0.toNat]? =some xs[u0.toNat].av:=jD e
    rw [show ((some xs[u0.toNat]).getD V3.zero)=xs[u0.toNat] from rfl] at next
    generalize xs[u0.toNat]=u at p next
    have h:=FR u x.g.need
    generalize sI u x.g.need=q at h next
    rw [<-FA] at next
    exact zqra2
   .rw [if_neg (by rw [decide_eq_false l];decide)] at next
    exact zqra2
  .rw [if_neg (by rw [decide_eq_false h1];decide)] at next
   exact zqra2
theorem ST (c:Con) (n:c.sm) (r:List Rn) (g:Sm r) (R:List V3):∀ (m i:Nat) (xs:List V3),i+m=r.length->xs.length=c.hs.length->(r.drop i).foldl rF xs=R->
  To (Er [5] []) pD (.pure (.ret (.slice 3 (vav R) .no))) (.head (stk pD 1) [(1,.slice 14 (rav r) .no),(5,.row 1 0),(7,ii i)] (ofO c xs)):=by
 have h:(rav r).length=r.length:=by simp
 have hl:=g.1
 intro m
 induction m with
 | zero=>
  intro i xs k d b
  rw [Ae o_] at b
  subst b
  refine gV ?_
  exact zW
 | succ m j=>
  intro i xs k d b
  have a:i<r.length:=o_
  have f:=g.at a
  rw [Ac a,Al] at b
  generalize l:r[i]=x at b f
  have get:(rav r)[i]? =some x.av:=(dH a).trans (by rw [l])
  have next:=j (i+1) (rF xs x) o_ (by rw [qN];exact d) b
  refine gV ?_
  have e:=W9 c r R x i o_ get f n.hs x.hs.length 0 xs d o_ next
  exact zW
theorem MN (c:Con) (d:c.sm) (r:List Rn) (l:Sm r):∀ (m i:Nat) (xs:List V3),i+m=c.hs.length->xs=(Db i).map (fun j:Nat=>(aX c.hs (j:Int)).c)->
  To (Er [5] []) pD (.pure (.ret (.slice 3 (vav (fM c r)) .no))) (.head (stk pD 0) [(1,.slice 14 (rav r) .no),(2,.ref 0 0),(5,.row 1 0),(6,ii i)] (ofO c xs)):=by
 have f:(hav c.hs).length=c.hs.length:=by simp
 have h1:=d.hs
 intro m
 induction m with
 | zero=>
  intro i xs b a
  have b:i=c.hs.length:=o_
  subst b
  have next:=ST c d r l (fM c r) r.length 0 xs o_ (by rw [a];simp) (by rw [a];rfl)
  refine gV ?_
  exact zW
 | succ m g=>
  intro i xs b a
  have h:xs.length=i:=by rw [a];simp
  have k:(vav xs).length=xs.length:=by simp
  have n:(hav c.hs)[i]? =some (aX c.hs (i:Int)).av:=qK o_
  have next:=g (i+1) (xs++[(aX c.hs (i:Int)).c]) o_ (by rw [a,Ie,Bm];rfl)
  unfold ofO at next
  have e:vav (xs++[(aX c.hs (i:Int)).c])=vav xs++[(aX c.hs (i:Int)).c.av]:=by simp
  rw [e] at next
  generalize aX c.hs (i:Int)=x at n next
  refine gV ?_
  exact zW
theorem W8 (c:Con) (d:c.sm) (r:List Rn) (b:Sm r):aA Tryz.prog 205 [c.av,.slice 14 (rav r) .no] [] (.ret (.slice 3 (vav (fM c r)) .no)) []:=by
 refine cT (E:=(Er [5] [])) (fn:=Tryz.f205) (g:=.pure _) fun _=>?_
 have a:=MN c d r b c.hs.length 0 [] o_ rfl
 exact zW
def alB (c:Con) (lv a b:Int):Bool:=
 if lv=0 then decide (a=b)
 else if lv=1 then decide ((aX c.hs a).f=(aX c.hs b).f/\(aX c.hs a).b=(aX c.hs b).b/\(aX c.hs a).r=(aX c.hs b).r)
 else if lv=2 then decide ((aX c.hs a).f=(aX c.hs b).f/\(aX c.hs a).b=(aX c.hs b).b)
 else decide ((aX c.hs a).f=(aX c.hs b).f)
abbrev nZ (c:Con) (lv a:Int):List Int:=ofK (aX c.hs a) a lv
theorem HM (c:Con) (lv a b:Int) (i:0<=lv) (h3:lv<=3):alB c lv a b=decide (nZ c lv a=nZ c lv b):=by
 unfold alB nZ ofK
 by_cases e:lv=0
 .subst e
  by_cases h:a=b
  .subst h;simp
  .simp [h]
 by_cases g:lv=1
 .subst g;simp
 by_cases f:lv=2
 .subst f;simp
 have d:lv=3:=o_
 subst d
 simp
def cN (c:Con) (lv i:Int):List (List Int)->Nat->Option Nat
 | [],_=>none
 | g::r,k=>if alB c lv (g.headD 0) i=true then some k else cN c lv i r (k+1)
def rgS (c:Con) (lv:Int) (s:List (List Int)) (i:Nat):List (List Int):=
 match cN c lv (i:Int) s 0 with
 | some k=>s.set k ((s[k]?).getD []++[(i:Int)])
 | none=>s++[[(i:Int)]]
def rgL (c:Con) (lv:Int):List (List Int):=if decide (lv<0)=true then [] else if decide (3<lv)=true then [] else (Db c.hs.length).foldl (rgS c lv) []
def mB (c:Con) (lv:Int):Nat->List (List Int)->List (List Int×Nat)
 | _,[]=>[]
 | k,g::r=>(nZ c lv (g.headD 0),k)::mB c lv (k+1) r
theorem AV (c:Con) (lv i:Int) (a:0<=lv) (h3:lv<=3):∀ (s:List (List Int)) (k:Nat),jZ (mB c lv k s) (nZ c lv i)=cN c lv i s k
 | [],k=>rfl
 | g::r,k=>by
  unfold mB jZ cN
  rw [HM c lv _ _ a h3,AV c lv i a h3 r (k+1)]
  by_cases h:nZ c lv (g.headD 0)=nZ c lv i
  .rw [if_pos h,if_pos (decide_eq_true h)]
  .rw [if_neg h,if_neg (by rw [decide_eq_false h];decide)]
theorem D2 (c:Con) (lv i:Int):∀ (s:List (List Int)) (k m:Nat),(∀ g∈s,g≠[])->mB c lv m (s.set k ((s[k]?).getD []++[i]))=mB c lv m s
 | [],k,m,_=>by simp
 | g::r,0,m,h=>by
  have e:=h g s_
  cases g with
  | nil=>exact absurd rfl e
  | cons a t=>rfl
 | g::r,k+1,m,h=>by
  have b:=D2 c lv i r k (m+1) fun x d=>h x (by simp [d])
  show _::mB c lv (m+1) (r.set k ((r[k]?).getD []++[i]))=_
  rw [b]
  rfl
theorem AU (c:Con) (lv i:Int):∀ (s:List (List Int)) (m:Nat),mB c lv m (s++[[i]])=mB c lv m s++[(nZ c lv i,m+s.length)]
 | [],m=>rfl
 | g::r,m=>by
  show _::mB c lv (m+1) (r++[[i]])=_::(mB c lv (m+1) r++_)
  rw [AU c lv i r (m+1)]
  simp only [Ba]
  rw [show m+1+r.length=m+(r.length+1) from by omega]
theorem aFm (c:Con) (lv:Int) (f:0<=lv) (h3:lv<=3) (s:GSt) (i:Nat) (h1:s.1=mB c lv 0 s.2) (d:∀ g∈s.2,g≠[]):
  (gpS c lv s i).2=rgS c lv s.2 i/\(gpS c lv s i).1=mB c lv 0 (rgS c lv s.2 i)/\∀ g∈rgS c lv s.2 i,g≠[]:=by
 have e:=AV c lv (i:Int) f h3 s.2 0
 rw [<-h1] at e
 unfold gpS rgS
 have b:jZ s.1 (ofK (aX c.hs (i:Int)) i lv)=cN c lv (i:Int) s.2 0:=e
 rw [b]
 cases cN c lv (i:Int) s.2 0 with
 | some k=>
  refine ⟨rfl,?_,fun g a=>?_⟩
  .show s.1=_
   rw [h1,D2 c lv i s.2 k 0 d]
  .rcases Da a with a | rfl
   .exact d g a
   .simp
 | none=>
  refine ⟨rfl,?_,fun g a=>?_⟩
  .show s.1++_=_
   rw [h1,AU,Bp]
  .rcases Ay.1 a with a | a
   .exact d g a
   .simp at a;subst a;simp
theorem W7 (c:Con) (lv:Int):rgL c lv=gpL c lv:=by
 unfold rgL gpL
 by_cases h1:lv<0
 .simp only [h1,decide_true,if_true]
 by_cases e:3<lv
 .simp only [h1,e,decide_true,decide_false,if_true,if_false,Cv]
 simp only [h1,e,decide_false,if_false,Cv]
 have key:∀ (l:List Nat) (s:GSt),s.1=mB c lv 0 s.2->(∀ g∈s.2,g≠[])->l.foldl (rgS c lv) s.2=(l.foldl (gpS c lv) s).2:=fun l=>by
  induction l with
  | nil=>intro s _ _;rfl
  | cons i r h=>
   intro s a b
   obtain ⟨d,j,f⟩:=aFm c lv o_ o_ s i a b
   rw [Al,Al,<-d,h _ (by rw [d];exact j) (by rw [d];exact f)]
 exact key _ ([],[]) rfl (fun g k=>by simp at k)
def rrF (free need:V3):Nat->Int->Int
 | 0,n=>n
 | f+1,n=>if bK (LU need (n+1)) free=true then (if bK need free=true then rrF free need f (n+1) else n) else n
def rrI (free need:V3):Int:=rrF free need 16 0
theorem bP {v:V3} (h:aM v=true):(0<=v.a/\v.a<=1048576)/\(0<=v.b/\v.b<=1048576)/\(0<=v.c/\v.c<=1048576):=by
 unfold aM at h
 simpa [Af,and_assoc] using h
theorem pY {a b:V3}:bK a b=true↔a.a<=b.a/\a.b<=b.b/\a.c<=b.c:=by
 unfold bK
 by_cases h1:b.a<a.a
 .first | (simp [h1];done) | (simp [h1];omega)
 by_cases d:b.b<a.b
 .first | (simp [h1,d];done) | (simp [h1,d];omega)
 by_cases h3:b.c<a.c
 .first | (simp [h1,d,h3];done) | (simp [h1,d,h3];omega)
 first | (simp [h1,d,h3];done) | (simp [h1,d,h3];omega)
theorem HD {n m:Int} (h1: -m<=n) (a:n<=m):eV n m=n:=by unfold eV;omega
theorem aHk {x n:Int} (h1:0<=x) (b:x<=1048576) (h3:0<=n) (a:n<=16):0<=x*n/\x*n<=16777216:=by
 have c:x*n<=1048576*16:=Int.mul_le_mul b a h3 d_
 exact ⟨Ip h1 h3,by omega⟩
theorem F9 {x n:Int} (h1:0<=x) (b:x<=1048576) (h3:0<=n) (a:n<=16):CP x n=x*n:=by
 have:=aHk h1 b h3 a
 unfold CP
 rw [HD (n:=x) o_ o_,HD (n:=n) o_ o_,HD o_ o_]
theorem RU {need free:V3} (e:aM need=true) {n:Int} (d:0<=n) (h1:n<=16):bK (LU need n) free=true↔need.a*n<=free.a/\need.b*n<=free.b/\need.c*n<=free.c:=by
 obtain ⟨⟨h,k⟩,⟨g,f⟩,i,j⟩:=bP e
 rw [pY]
 show CP need.a n<=free.a/\CP need.b n<=free.b/\CP need.c n<=free.c↔_
 rw [F9 h k d h1,F9 g f d h1,F9 i j d h1]
theorem zC {m f k n:Int} (c:0<=k) (d:k<=f):n<=vX m f k↔n<=m/\k*n<=f:=by
 unfold vX
 by_cases h:0<k
 .rw [if_pos (decide_eq_true h),Int.tdiv_eq_ediv_of_nonneg o_]
  have:=Int.le_ediv_iff_mul_le h (a:=n) (b:=f)
  rw [Int.mul_comm] at this
  omega
 .have:k=0:=o_
  subst this
  rw [if_neg d_]
  omega
theorem xL {free need:V3} (i:aM need=true) (h:bK need free=true) (n:Int):n<=cS free need↔n<=16/\need.a*n<=free.a/\need.b*n<=free.b/\need.c*n<=free.c:=by
 obtain ⟨⟨k,_⟩,⟨j,_⟩,l,_⟩:=bP i
 obtain ⟨h1,m,h3⟩:=pY.1 h
 unfold cS
 rw [if_pos h,zC l h3,zC j m,zC k h1]
 constructor
 .rintro ⟨⟨⟨g,d⟩,e⟩,f⟩;exact ⟨g,d,e,f⟩
 .rintro ⟨g,d,e,f⟩;exact ⟨⟨⟨g,d⟩,e⟩,f⟩
theorem WQ {free need:V3} (a:aM need=true) (b:bK need free=true):∀ (f:Nat) (n:Int),0<=n->n+f=16->n<=cS free need->rrF free need f n=cS free need
 | 0,n,h0,h1,h2=>by
  have h3:=zD free need
  unfold rrF
  omega
 | f+1,n,h0,h1,h2=>by
  unfold rrF
  have hm:=RU (free:=free) a (n:=n+1) o_ o_
  have c:=xL a b (n+1)
  by_cases h:bK (LU need (n+1)) free=true
  .rw [if_pos h,if_pos b]
   exact WQ a b f (n+1) o_ o_ (c.2 ⟨by omega,hm.1 h⟩)
  .rw [if_neg h]
   have:¬ n+1<=cS free need:=fun d=>h (hm.2 (c.1 d).2)
   omega
theorem aG4 {free need:V3} (b:aM need=true):rrI free need=cS free need:=by
 unfold rrI
 by_cases a:bK need free=true
 .refine WQ b a 16 0 d_ d_ ((xL b a 0).2 ?_)
  obtain ⟨⟨d,_⟩,⟨c,_⟩,e,_⟩:=bP b
  obtain ⟨h1,f,h3⟩:=pY.1 a
  simp only [Int.mul_zero]
  omega
 .unfold rrF cS
  rw [if_neg a,if_neg a]
  split<;>rfl
def vH (c:Con) (a:Int):Prop:=0<=a/\a.toNat<c.hs.length
theorem aHo {c:Con} {a:Int} (h:vH c a):(hav c.hs)[a.toNat]? =some (aX c.hs a).av:=by
 have:=qK (c:=c) (i:=a.toNat) h.2
 rwa [Hy h.1] at this
noncomputable abbrev fAl:Func:=Tryz.f297
theorem aGS (c:Con):frzs [0] [.cells 26 c.cs]=[.fcells c.cs]:=by kernel_rfl
theorem aEc (c:Con) (lv a b:Int):xA [4] (aE [.fcells c.cs]) [(1,ii lv),(2,ii a),(3,ii b),(4,.ref 0 0),(8,.bool false)]=[(1,ii lv),(2,ii a),(3,ii b),(4,.ptr c.cs),(8,.bool false)]:=by kernel_rfl
theorem yA {g:Goal} {ks:List KI} (c:Con) (lv a b:Int) (h:To (Er [] [16,17,18,19,20]) fAl g (.code ks [(1,ii lv),(2,ii a),(3,ii b),(4,.ptr c.cs),(8,.bool false)] [.fcells c.cs])):
  To (Er [] [16,17,18,19,20]) fAl g (.code ks [(1,ii lv),(2,ii a),(3,ii b),(4,.ref 0 0),(8,.bool false)] [.cells 26 c.cs]):=by
 refine To.frz [4] [0] ?_
 rw [aGS,aEc]
 exact h
theorem U2 (c:Con) (lv a b:Int) (s:0<=lv) (h3:lv<=3) (m:vH c a) (j:vH c b) (r:Bool) (d:alB c lv a b=r):aA Tryz.prog 297 [c.av,ii lv,ii a,ii b] [] (.ret (.bool r)) []:=by
 have i:=aHo m
 have e:=aHo j
 have k:a=(a.toNat:Int):=by have:=m.1;omega
 have l:b=(b.toNat:Int):=by have:=j.1;omega
 unfold alB at d
 generalize aX c.hs a=x at i d
 generalize aX c.hs b=y at e d
 by_cases p:lv=0
 .subst p
  rw [if_pos rfl] at d
  exact zqra1
 by_cases n:lv=1
 .subst n
  rw [if_neg d_,if_pos rfl] at d
  refine cT (E:=(Er [] [16,17,18,19,20])) (fn:=Tryz.f297) (g:=.pure _) fun _=>?_
  refine bV (hEr [] [16,17,18,19,20]) 10 ?_;conv=>whnf
  refine To.cutC [1,2,3,4,8] 1 rfl rfl rfl rfl ?_
  refine yA c _ a b ?_
  repeat' first | (refine gN (hEr [] [16,17,18,19,20]) ?_;conv=>whnf) | refine ⟨a.toNat,k,?_⟩ | refine ⟨b.toNat,l,?_⟩ | refine ⟨_,i,?_⟩ | refine ⟨_,e,?_⟩ | exact rfl | refine aY ?_ | refine aN ?_ | refine aT fun h=>?_ | refine aF fun h=>?_ | refine ⟨fun h=>?_,fun h=>?_⟩ | refine aJ ?_ | refine ⟨_,rfl,?_⟩ | refine aD ?_ | fail
  all_goals (refine congrArg (fun b=>Res.ret (AVal.bool b)) ?_;rw [<-d];clear i e k l m j d;simp_all<;>rfl)
 by_cases o:lv=2
 .subst o
  rw [if_neg d_,if_neg d_,if_pos rfl] at d
  refine cT (E:=(Er [] [16,17,18,19,20])) (fn:=Tryz.f297) (g:=.pure _) fun _=>?_
  refine bV (hEr [] [16,17,18,19,20]) 10 ?_;conv=>whnf
  refine To.cutC [1,2,3,4,8] 1 rfl rfl rfl rfl ?_
  refine yA c _ a b ?_
  repeat' first | (refine gN (hEr [] [16,17,18,19,20]) ?_;conv=>whnf) | refine ⟨a.toNat,k,?_⟩ | refine ⟨b.toNat,l,?_⟩ | refine ⟨_,i,?_⟩ | refine ⟨_,e,?_⟩ | exact rfl | refine aY ?_ | refine aN ?_ | refine aT fun h=>?_ | refine aF fun h=>?_ | refine ⟨fun h=>?_,fun h=>?_⟩ | refine aJ ?_ | refine ⟨_,rfl,?_⟩ | refine aD ?_ | fail
  all_goals (refine congrArg (fun b=>Res.ret (AVal.bool b)) ?_;rw [<-d];clear i e k l m j d;simp_all<;>rfl)
 have q:lv=3:=o_
 subst q
 rw [if_neg d_,if_neg d_,if_neg d_] at d
 exact zqra1
theorem aA0 (c:Con) (lv a b:Int) (g:0<=lv) (h3:lv<=3) (e:vH c a) (d:vH c b):aA Tryz.prog 297 [c.av,ii lv,ii a,ii b] [] (.ret (.bool (alB c lv a b))) []:=U2 c lv a b g h3 e d _ rfl
noncomputable abbrev fRG:Func:=Tryz.f262
abbrev rgO (c:Con) (s:List (List Int)):List AObj:=[.cells 26 c.cs,.row 0 1 53 (gav s)]
abbrev rgF (lv:Int) (i:Int):List (Nat×AVal):=[(1,ii lv),(2,.ref 0 0),(5,.row 1 0),(6,ii i)]
structure GH (c:Con) (i:Nat) (s:List (List Int)):Prop where
 len:s.length<=i
 one:∀ g∈s,g.length<=i/\∃ a r,g=a::r/\vH c a
theorem GH.step {c:Con} {lv:Int} {i:Nat} {s:List (List Int)} (h:GH c i s) (m:i<c.hs.length):GH c (i+1) (rgS c lv s i):=by
 obtain ⟨h1,f⟩:=h
 unfold rgS
 split
 .rename_i k n
  refine ⟨by simp;omega,fun g b=>?_⟩
  rcases Da b with b | rfl
  .obtain ⟨j,d⟩:=f g b
   exact ⟨by omega,d⟩
  .by_cases e:k<s.length
   .rw [Aa e]
    obtain ⟨j,a,r,d,l⟩:=f _ (Bf e)
    refine ⟨by simp;omega,a,r++[(i:Int)],?_,l⟩
    show s[k]++_=_
    rw [d];rfl
   .rw [Bj o_]
    exact ⟨by simp,(i:Int),[],rfl,⟨by omega,by omega⟩⟩
 .refine ⟨by simp;omega,fun g b=>?_⟩
  rcases Ay.1 b with b | b
  .obtain ⟨j,d⟩:=f g b
   exact ⟨by omega,d⟩
  .simp at b
   subst b
   exact ⟨by simp,(i:Int),[],rfl,⟨by omega,by omega⟩⟩
theorem aDb (l:List (List Int)) (i:Nat) (x:List Int):(gav l).set i (.slice 1 (iv x) .no)=gav (l.set i x):=by simp [gav,Kf]
theorem aG7 (c:Con) (lv:Int) (C:0<=lv) (h3:lv<=3) (i:Nat) (F:i<c.hs.length) (H:c.hs.length<=1048576) (G:Goal) (D:G= .pure G.res) (s:List (List Int)) (hs:GH c i s):
  ∀ (m k:Nat),k+m=s.length->
  To (Er [5] []) fRG (.pure G.res) (.head (stk fRG 0) (rgF lv ((i:Int)+1)) (rgO c (match cN c lv (i:Int) (s.drop k) k with | some k=>s.set k ((s[k]?).getD []++[(i:Int)]) | none=>s++[[(i:Int)]])))->
  To (Er [5] []) fRG (.pure G.res) (.head (stk fRG 1) (rgF lv (i:Int)++[(7,.bool false),(8,ii k)]) (rgO c s)):=by
 have y:(gav s).length=s.length:=by simp
 have hsl:=hs.len
 intro m
 induction m with
 | zero=>
  intro k B b
  rw [Ae o_] at b
  have b:To (Er [5] []) fRG (.pure G.res) (.head (stk fRG 0) (rgF lv ((i:Int)+1)) (rgO c (s++[[(i:Int)]]))):=b
  have e:gav (s++[[(i:Int)]])=gav s++[.slice 1 [ii i] .no]:=by simp [gav]
  unfold rgO at b
  rw [e] at b
  refine gV ?_
  exact zW
 | succ m u=>
  intro k B b
  have d:k<s.length:=o_
  obtain ⟨n,a,r,w,q⟩:=hs.one _ (Bf d)
  rw [Ac d] at b
  have x:s[k]? =some s[k]:=Aa d
  have l:=aDb s k (s[k]++[(i:Int)])
  have get:(gav s)[k]? =some (.slice 1 (iv s[k]) .no):=xS d
  have u:=u (k+1) o_
  have f:=aA0 c lv a (i:Int) C h3 q ⟨by omega,by omega⟩
  unfold cN at b
  rw [w] at n get
  have z:r.length+1<=i:=by simpa using n
  have o:(iv (a::r))[0]? =some (ii a):=rfl
  have v:(s[k]).headD 0=a:=by rw [w];rfl
  rw [v] at b
  cases p:alB c lv a (i:Int) with
  | false=>
   rw [p] at f
   rw [if_neg (by rw [p];decide)] at b
   have next:=u b
   refine gV ?_
   exact zW
  | true=>
   rw [p] at f
   rw [if_pos p] at b
   have b:To (Er [5] []) fRG (.pure G.res) (.head (stk fRG 0) (rgF lv ((i:Int)+1)) (rgO c (s.set k ((s[k]?).getD []++[(i:Int)])))):=b
   rw [x] at b
   have b:To (Er [5] []) fRG (.pure G.res) (.head (stk fRG 0) (rgF lv ((i:Int)+1)) (rgO c (s.set k (s[k]++[(i:Int)])))):=b
   unfold rgO at b
   rw [<-l,w,show iv ((a::r)++[(i:Int)])=iv (a::r)++[ii i] from by simp] at b
   have g:((gav s).set k (.slice 1 (iv (a::r)++[ii i]) .no)).length=s.length:=by simp
   generalize A:(gav s).set k (.slice 1 (iv (a::r)++[ii i]) .no)=S at b g
   have j:To (Er [5] []) fRG (.pure G.res) (.head (stk fRG 1) (rgF lv (i:Int)++[(7,.bool true),(8,ii ((k:Int)+1))]) [.cells 26 c.cs,.row 0 1 53 S]):=by
    refine gV ?_
    repeat' first | (refine gN (hEr [5] []) ?_;conv=>whnf) | exact rfl | refine aY ?_ | refine aN ?_ | refine aT fun h=>?_ | refine aF fun h=>?_ | refine ⟨fun h=>?_,fun h=>?_⟩ | refine aJ ?_ | refine ⟨_,rfl,?_⟩ | refine aD ?_ | fail
    .exact zW
    .exact zW
   rw [<-A] at j
   refine gV ?_
   refine aT fun h=>?_
   repeat' first | (refine gN (hEr [5] []) ?_;conv=>whnf) | refine ⟨k,rfl,?_⟩ | refine ⟨_,get,?_⟩ | refine ⟨_,o,?_⟩ | refine .pure _ [] f ?_ | refine ⟨⟨by simp only [maxLen];simp;omega,by simp;omega⟩,?_⟩ | exact rfl | refine aY ?_ | refine aN ?_ | refine aT fun h=>?_ | refine aF fun h=>?_ | refine ⟨fun h=>?_,fun h=>?_⟩ | refine aJ ?_ | refine ⟨_,rfl,?_⟩ | refine aD ?_ | fail
   exact zW
theorem aFl (c:Con) (h:c.sm) (lv:Int) (g:0<=lv) (h3:lv<=3) (R:List (List Int)):∀ (n i:Nat) (s:List (List Int)),i+n=c.hs.length->GH c i s->(Gz i n).foldl (rgS c lv) s=R->
  To (Er [5] []) fRG (.pure (.ret (.slice 1 (gav R) .no))) (.head (stk fRG 0) (rgF lv (i:Int)) (rgO c s)):=by
 have h1:=h.hs
 have b:(hav c.hs).length=c.hs.length:=by simp
 intro n
 induction n with
 | zero=>
  intro i s f hs a
  have a:s=R:=a
  subst a
  refine gV ?_
  exact zW
 | succ n e=>
  intro i s f hs a
  rw [Jh,Al] at a
  have next:=e (i+1) (rgS c lv s i) o_ (hs.step o_) a
  refine gV ?_
  have d:=aG7 c lv g h3 i o_ h1 (.pure (.ret (.slice 1 (gav R) .no))) rfl s hs s.length 0 o_ next
  exact zW
theorem MM (c:Con) (h:c.sm) (lv:Int):aA Tryz.prog 262 [c.av,ii lv] [] (.ret (.slice 1 (gav (gpL c lv)) .no)) []:=by
 have h1:=h.hs
 obtain ⟨R,a⟩:∃ R,R=gpL c lv:=⟨_,rfl⟩
 rw [<-a]
 rw [<-W7] at a
 unfold rgL at a
 by_cases e:lv<0
 .rw [if_pos (decide_eq_true e)] at a
  exact zqra6
 rw [if_neg (by rw [decide_eq_false e];decide)] at a
 by_cases d:3<lv
 .rw [if_pos (decide_eq_true d)] at a
  exact zqra6
 rw [if_neg (by rw [decide_eq_false d];decide),Gj] at a
 refine cT (E:=(Er [5] [])) (fn:=Tryz.f262) (g:=.pure _) fun _=>?_
 have b:=aFl c h lv o_ o_ R c.hs.length 0 [] o_ ⟨by simp,fun g i=>by simp at i⟩ a.symm
 exact zW
noncomputable abbrev aAh:Func:=Tryz.f298
theorem ME (free need:V3) (r:Int):∀ (m:Nat) (n:Int),0<=n->n+m=16->rrF free need m n=r->
  To E aAh (.pure (.ret (ii r))) (.head (stk aAh 0) [(2,.ref 0 0),(3,.ref 1 0),(5,ii n)] [.cells 34 free.cs,.cells 34 need.cs]):=by
 intro m
 induction m with
 | zero=>
  intro n g e a
  have a:n=r:=a
  subst a
  refine gV ?_
  exact zW
 | succ m f=>
  intro n g e a
  unfold rrF at a
  have h1:=PR need (n+1)
  generalize LU need (n+1)=q at h1 a
  have b:=jQ q free
  have h3:=jQ need free
  cases c:bK q free with
  | false=>
   rw [c] at b
   rw [if_neg (by rw [c];decide)] at a
   subst a
   refine gV ?_
   repeat' first | (refine gN hE ?_;conv=>whnf) | refine Ad (Ad (by simp only [cL];omega) (by simp only [bI];omega)) ?_ | refine .pure _ [] h1 ?_ | refine .pure _ [] b ?_ | exact rfl | refine aY ?_ | refine aN ?_ | refine aT fun h=>?_ | refine aF fun h=>?_ | refine ⟨fun h=>?_,fun h=>?_⟩ | refine aJ ?_ | refine ⟨_,rfl,?_⟩ | refine aD ?_ | fail
  | true=>
   rw [c] at b
   rw [if_pos c] at a
   cases d:bK need free with
   | false=>
    rw [d] at h3
    rw [if_neg (by rw [d];decide)] at a
    subst a
    refine gV ?_
    repeat' first | (refine gN hE ?_;conv=>whnf) | refine Ad (Ad (by simp only [cL];omega) (by simp only [bI];omega)) ?_ | refine .pure _ [] h1 ?_ | refine .pure _ [] b ?_ | refine .pure _ [] h3 ?_ | exact rfl | refine aY ?_ | refine aN ?_ | refine aT fun h=>?_ | refine aF fun h=>?_ | refine ⟨fun h=>?_,fun h=>?_⟩ | refine aJ ?_ | refine ⟨_,rfl,?_⟩ | refine aD ?_ | fail
   | true=>
    rw [d] at h3
    rw [if_pos d] at a
    have next:=f (n+1) o_ o_ a
    refine gV ?_
    repeat' first | (refine gN hE ?_;conv=>whnf) | refine Ad (Ad (by simp only [cL];omega) (by simp only [bI];omega)) ?_ | refine .pure _ [] h1 ?_ | refine .pure _ [] b ?_ | refine .pure _ [] h3 ?_ | exact rfl | refine aY ?_ | refine aN ?_ | refine aT fun h=>?_ | refine aF fun h=>?_ | refine ⟨fun h=>?_,fun h=>?_⟩ | refine aJ ?_ | refine ⟨_,rfl,?_⟩ | refine aD ?_ | fail
    exact To.cut [2,3,5] 2 rfl rfl rfl rfl next
theorem WP (free need:V3) (a:aM need=true):aA Tryz.prog 298 [free.av,need.av] [] (.ret (ii (cS free need))) []:=by
 rw [<-aG4 a]
 refine c_ Tryz.f298 fun _=>?_
 refine gV ?_
 exact To.cut [2,3,5] 2 rfl rfl rfl rfl (ME free need _ 16 0 d_ d_ rfl)
noncomputable abbrev UD:Func:=Tryz.f263
abbrev inO (c:Con) (g:Gan):List AObj:=[.cells 26 c.cs,.cells 36 g.cs,.tail 0 1 3]
abbrev inF (free:List V3) (gr:List Int) (out:List Int) (i:Int):List (Nat×AVal):=[(1,.slice 3 (vav free) .no),(2,.slice 1 (iv gr) .no),(7,.ref 1 0),(10,.slice 1 (iv out) (.own 2 0)),(11,ii i)]
theorem aFk (c:Con) (free:List V3) (g:Gan) (p:0<=g.pods/\g.pods<=16) (b:List Int) (hl:b.length<=1048576) (G:Goal) (h:Int) (i:Nat) (o:i<1048576) (get:(iv b)[i]? =some (ii h)):∀ (m:Nat) (k:Int) (out:List Int),k<=16->(max (min k (g.pods-out.length)) 0).toNat=m->(out.length:Int)<=g.pods->
  To (Eo [10] []) UD (.pure G.res) (.head (stk UD 0) (inF free b (out++Ah m h) ((i:Int)+1)) (inO c g))->
  To (Eo [10] []) UD (.pure G.res) (.head (stk UD 1) (inF free b out (i:Int)++[(12,ii k)]) (inO c g)):=by
 have f:(iv b).length=b.length:=by simp
 intro m
 induction m with
 | zero=>
  intro k out l hm hp a
  have d:(iv out).length=out.length:=by simp
  rw [List.replicate_zero,Bo] at a
  by_cases h1:0<k
  .refine gV ?_
   exact zW
  .refine gV ?_
   exact zW
 | succ m j=>
  intro k out l hm hp a
  have d:(iv out).length=out.length:=by simp
  have n:out++[h]++Ah m h=out++Ah (m+1) h:=by rw [Aj];rfl
  have next:=j (k-1) (out++[h]) o_ q_ q_ (by rw [n];exact a)
  have e:iv (out++[h])=iv out++[ii h]:=by simp
  unfold inF at next
  rw [e] at next
  refine gV ?_
  exact zW
theorem W4 (c:Con) (free:List V3) (g:Gan) (w:0<=g.pods/\g.pods<=16) (s:aM g.need=true) (a:List Int) (hl:a.length<=1048576) (R:List Int):∀ (m i:Nat) (out:List Int),i+m=a.length->(out.length:Int)<=g.pods->(a.drop i).foldl (inS free g) out=R->
  To (Eo [10] []) UD (.pure (.ret (A2 R g))) (.head (stk UD 0) (inF free a out (i:Int)) (inO c g)):=by
 have l:(iv a).length=a.length:=by simp
 have x:(vav free).length=free.length:=by simp
 intro m
 induction m with
 | zero=>
  intro i out p hp b
  rw [Ae o_] at b
  have b:out=R:=b
  subst b
  have t:(iv out).length=out.length:=by simp
  obtain ⟨Q,d⟩:∃ Q,Q=A2 out g:=⟨_,rfl⟩
  rw [<-d]
  unfold A2 at d
  by_cases h1:(out.length:Int)<g.pods
  .rw [if_pos (decide_eq_true h1)] at d
   subst d
   refine gV ?_
   exact zW
  .rw [if_neg (by rw [decide_eq_false h1];decide)] at d
   subst d
   refine gV ?_
   exact zW
 | succ m o=>
  intro i out p hp b
  have e:i<a.length:=o_
  rw [Ac e,Al] at b
  have f:=xR free g out a[i] hp
  have get:=cH e
  generalize a[i]=u0 at b f get
  have next:=o (i+1) (inS free g out u0) o_ f b
  unfold inS at next
  by_cases h1:u0<0
  .rw [if_pos (decide_eq_true h1)] at next
   refine gV ?_
   exact zW
  .rw [if_neg (by rw [decide_eq_false h1];decide)] at next
   by_cases n:(free.length:Int)<=u0
   .rw [if_pos (decide_eq_true n)] at next
    refine gV ?_
    exact zW
   .rw [if_neg (by rw [decide_eq_false n];decide)] at next
    have h:u0.toNat<free.length:=o_
    have y:u0=(u0.toNat:Int):=o_
    rw [Aa h,show ((some free[u0.toNat]).getD V3.zero)=free[u0.toNat] from rfl] at next
    have q:(vav free)[u0.toNat]? =some free[u0.toNat].av:=jD h
    generalize free[u0.toNat]=v at q next
    have u:=WP v g.need s
    have j:=zD v g.need
    unfold inN at next
    generalize cS v g.need=k at u j next
    have r:=aFk c free g w a hl (.pure (.ret (A2 R g))) u0 i o_ get _ k out j rfl hp next
    refine gV ?_
    exact zW
theorem aFj (c:Con) (free:List V3) (g:Gan) (e:0<=g.pods/\g.pods<=16) (d:aM g.need=true) (a:List Int) (hl:a.length<=1048576):aA Tryz.prog 263 [c.av,.slice 3 (vav free) .no,.slice 1 (iv a) .no,g.av] [] (.ret (A2 (inL free g a) g)) []:=by
 refine cT (E:=(Eo [10] [])) (fn:=Tryz.f263) (g:=.pure _) fun _=>?_
 have b:=W4 c free g e d a hl _ a.length 0 [] o_ q_ rfl
 exact zW
noncomputable abbrev uV:Func:=Tryz.f204
abbrev rfO (c:Con) (g:Gan):List AObj:=[.cells 26 c.cs,.cells 36 g.cs]
abbrev rfF (free:List V3) (lv:Int):List (Nat×AVal):=[(1,.slice 3 (vav free) .no),(3,.ref 0 0),(5,.ref 1 0),(9,ii lv)]
theorem aFn (c:Con) (B:c.sm) (free:List V3) (g:Gan) (C:0<=g.pods/\g.pods<=16) (A:aM g.need=true) (lv:Int) (z:0<=lv) (s:lv<=3) (Q:Option (Int×List Int)) (a:List (List Int)) (D:a.length<=1048576) (o:∀ xs∈a,xs≠[]/\xs.length<=c.hs.length/\∀ h∈xs,0<=h/\h<(c.hs.length:Int)):∀ (m i:Nat),i+m=a.length->
  (∀ x,fdG c free g (a.drop i)=some x->Q=some x)->(fdG c free g (a.drop i)=none->To E uV (.pure (.ret (fdA Q))) (.head (stk uV 0) (rfF free (lv+1)) (rfO c g)))->
  To E uV (.pure (.ret (fdA Q))) (.head (stk uV 1) (rfF free lv++[(10,.slice 1 (gav a) .no),(11,ii i)]) (rfO c g)):=by
 have q:(gav a).length=a.length:=by simp
 have w:=B.hs
 intro m
 induction m with
 | zero=>
  intro i y hs b
  rw [Ae o_] at b
  have next:=b rfl
  refine gV ?_
  exact zW
 | succ m n=>
  intro i y hs b
  have e:i<a.length:=o_
  obtain ⟨l,j,k⟩:=o _ (Bf e)
  rw [Ac e] at hs b
  have get:=xS e
  generalize a[i]=gr at hs b get l j k
  have n:=n (i+1) o_
  have f:=aFj c free g C A gr o_
  unfold fdG at hs b
  unfold A2 at f
  by_cases p:((inL free g gr).length:Int)<g.pods
  .rw [if_pos (decide_eq_true p)] at hs b f
   have next:=n hs b
   refine gV ?_
   exact zW
  .rw [if_neg (by rw [decide_eq_false p];decide)] at hs b f
   have v:=hs _ rfl
   subst v
   match gr,l with
   | d::r,_=>
   have u:=k d s_
   have F:(hav c.hs)[d.toNat]? =some (aX c.hs d).av:=by
    have:=qK (c:=c) (i:=d.toNat) o_
    rwa [Hy u.1] at this
   have b:d=(d.toNat:Int):=o_
   have t:(iv (d::r))[0]? =some (ii d):=rfl
   refine gV ?_
   exact zW
theorem aBY (c:Con) (e:c.sm) (free:List V3) (g:Gan) (o:0<=g.pods/\g.pods<=16) (l:aM g.need=true):∀ (n:Nat) (lv:Int),0<=lv->n=(min g.lev 3+1-lv).toNat->
  To E uV (.pure (.ret (fdA (fdL c free g n lv)))) (.head (stk uV 0) (rfF free lv) (rfO c g)):=by
 intro n
 induction n with
 | zero=>
  intro lv j m
  by_cases h1:lv<=g.lev
  .refine gV ?_
   exact zW
  .refine gV ?_
   exact zW
 | succ n d=>
  intro lv j m
  have d:=d (lv+1) o_ o_
  have f:=NO c lv
  have k:=e.hs
  have i:(gav (gpL c lv)).length=(gpL c lv).length:=by simp
  obtain ⟨Q,b⟩:∃ Q,Q=fdL c free g (n+1) lv:=⟨_,rfl⟩
  rw [<-b]
  unfold fdL at b
  refine gV ?_
  refine aT fun h=>?_
  repeat' first | (refine gN hE ?_;conv=>whnf) | refine .pure _ [] (MM c e lv) ?_ | exact rfl | refine aY ?_ | refine aN ?_ | refine aT fun h=>?_ | refine aF fun h=>?_ | refine ⟨fun h=>?_,fun h=>?_⟩ | refine aJ ?_ | refine ⟨_,rfl,?_⟩ | refine aD ?_ | fail
  refine To.cut [1,3,5,9,10,11] 2 rfl rfl rfl rfl ?_
  refine aFn c e free g o l lv j o_ Q (gpL c lv) o_ f.2 (gpL c lv).length 0 o_ (fun x a=>?_) (fun a=>?_)
  .have a:fdG c free g (gpL c lv)=some x:=a
   rw [a] at b
   exact b
  .have a:fdG c free g (gpL c lv)=none:=a
   rw [a] at b
   rw [b]
   exact d
theorem XA (c:Con) (d:c.sm) (free:List V3) (g:Gan) (b:0<=g.pods/\g.pods<=16) (a:aM g.need=true):aA Tryz.prog 204 [c.av,.slice 3 (vav free) .no,g.av] [] (.ret (fdA (rG c free g))) []:=by
 refine c_ Tryz.f204 fun _=>?_
 refine gV ?_
 exact To.cut [1,3,5,9] 2 rfl rfl rfl rfl (aBY c d free g b a _ _ o_ rfl)
theorem I5 (c:Con) (e:c.sm) (l:List Rn) (hl:Sm l) (g:Gan) (n:0<=g.pods/\g.pods<=16) (k:aM g.need=true) (Q:Option (Int×List Int)) (a:cE c l g=Q):aA Tryz.prog 135 [c.av,.slice 14 (rav l) .no,g.av] [] (.ret (fdA Q)) []:=by
 unfold cE at a
 have hm:=WR c e (ofL c l) g.ten (dem g)
 have m:=FW g
 generalize wZ c (ofL c l) g.ten (dem g)=b at a hm
 generalize dem g=d at hm m
 have j:=XA c e (fM c l) g n k
 have h:=W8 c e l hl
 have i:=qAa c e l hl.1
 generalize fM c l=fr at j a h
 generalize ofL c l=us at hm i
 cases b with
 | false=>
  have a:none=Q:=a
  subst a
  exact zqra9
 | true=>
  have a:rG c fr g=Q:=a
  rw [a] at j
  unfold fdA at j⊢
  cases Q with
  | none=>
   exact zqra9
  | some x=>
   exact zqra9
theorem jS (c:Con) (d:c.sm) (l:List Rn) (hl:Sm l) (g:Gan) (b:0<=g.pods/\g.pods<=16) (a:aM g.need=true):aA Tryz.prog 135 [c.av,.slice 14 (rav l) .no,g.av] [] (.ret (fdA (cE c l g))) []:=I5 c d l hl g b a _ rfl
theorem F2 (c:Con) (l:c.sm) (g:Gan) (k:0<=g.pods/\g.pods<=16) (j:aM g.need=true) (b:Bool) (d:(cE c [] g).isNone=b):aA Tryz.prog 65 [c.av,g.av] [] (.ret (.bool b)) []:=by
 have a:=jS c l [] ⟨Bt _,fun x h=>by simp at h⟩ g k j
 generalize cE c [] g=Q at a d
 subst d
 unfold fdA at a
 cases Q with
 | none=>
  refine c_ Tryz.f65 fun _=>?_
  have e:=aA.nil2 a
  exact zW
 | some x=>
  refine c_ Tryz.f65 fun _=>?_
  have i:=aA.nil2 a
  exact zW
theorem I4 (c:Con) (d:c.sm) (g:Gan) (b:0<=g.pods/\g.pods<=16) (a:aM g.need=true):aA Tryz.prog 65 [c.av,g.av] [] (.ret (.bool (cE c [] g).isNone)) []:=F2 c d g b a _ rfl
noncomputable abbrev Q6:Func:=Tryz.f148
theorem IK (c:Con) (p:c.sm) (l:List Rn) (hs:Sm l) (g:Gan) (q:0<=g.pods/\g.pods<=16) (n:aM g.need=true) (b:List Int) (o:b.length<=1048577) (R:Option Int):∀ (m i:Nat),i+m=b.length->stF c l g (b.drop i)=R->
  To E Q6 (.pure (.ret (stA R))) (.head (stk Q6 0) [(2,.slice 14 (rav l) .no),(4,.ref 0 0),(7,.ref 1 0),(10,.slice 1 (iv b) .no),(11,ii i)] [.cells 26 c.cs,.cells 36 g.cs]):=by
 have j:(iv b).length=b.length:=by simp
 intro m
 induction m with
 | zero=>
  intro i k a
  rw [Ae o_] at a
  have a:none=R:=a
  subst a
  refine gV ?_
  exact zW
 | succ m f=>
  intro i k a
  have d:i<b.length:=o_
  rw [Ac d] at a
  have get:=cH d
  generalize b[i]=t at a get
  unfold stF at a
  have e:=XR l hs t
  have h:=jS c p (atL l t) (aGM hs t) g q n
  generalize atL l t=lt at e h a
  generalize cE c lt g=Q at h a
  have f:=f (i+1) o_
  unfold fdA at h
  cases Q with
  | none=>
   have a:stF c l g (b.drop (i+1))=R:=a
   have next:=f a
   refine gV ?_
   exact zW
  | some x=>
   have a:some t=R:=a
   subst a
   refine gV ?_
   exact zW
theorem I3 (c:Con) (i:c.sm) (now:Int) (l:List Rn) (hs:Sm l) (g:Gan) (h:0<=g.pods/\g.pods<=16) (e:aM g.need=true):aA Tryz.prog 148 [c.av,ii now,.slice 14 (rav l) .no,g.av] [] (.ret (stA (rQ c now l g))) []:=by
 have a:=UF l now
 have h1:=hs.1
 have d:=XH l hs now
 rw [<-KT] at d
 unfold rQ
 generalize KU l now=es at a d
 have b:(iv es).length=es.length:=by simp
 have next:=IK c i l hs g h e (now::es) q_ _ (es.length+1) 0 s_ rfl
 exact c_ Tryz.f148 fun _=>zW
theorem aCW (free:List V3) (g:Gan) (c:0<=g.pods/\g.pods<=16) (a:List Int):(inL free g a).length<=16:=by
 have key:∀ (l:List Int) (out:List Int),(out.length:Int)<=g.pods->((l.foldl (inS free g) out).length:Int)<=g.pods:=fun l=>by
  induction l with
  | nil=>intro out h;exact h
  | cons x r b=>intro out h;exact b _ (xR free g out x h)
 have:=key a [] q_
 unfold inL
 omega
theorem QZ {c:Con} {free:List V3} {g:Gan} (a:0<=g.pods/\g.pods<=16) {x:Int×List Int}:∀ {b:List (List Int)},fdG c free g b=some x->x.2.length<=16
 | [],h=>by cases h
 | gr::r,h=>by
  unfold fdG at h
  split at h
  .exact QZ a h
  .cases h
   exact aCW free g a gr
theorem QY {c:Con} {free:List V3} {g:Gan} (a:0<=g.pods/\g.pods<=16) {x:Int×List Int}:∀ {n:Nat} {lv:Int},fdL c free g n lv=some x->x.2.length<=16
 | 0,lv,h=>by cases h
 | n+1,lv,h=>by
  unfold fdL at h
  split at h
  .rename_i y b
   cases h
   exact QZ a b
  .exact QY a h
theorem BB {c:Con} {l:List Rn} {g:Gan} (a:0<=g.pods/\g.pods<=16) {x:Int×List Int} (h:cE c l g=some x):x.2.length<=1048576:=by
 unfold cE at h
 split at h
 .unfold rG at h
  have:=QY a h
  omega
 .cases h
end Go.Proofs.YticlgfdibfobdaaGreat
namespace Go.AW
open Go.RowKit
end Go.AW
namespace Go.Proofs.YticlgfdibfobdaaGreat
open Go Go.AW Go.Proofs
set_option maxRecDepth 10000
def aGA (a b:Int):Int:=if a<b then -1 else if b<a then 1 else 0
def orI (p q:Int):Int:=if p=0 then q else p
def dT (a b:Rn):Bool:=decide (orI (aGA b.st a.st) (aGA b.seq a.seq)<0)
theorem rX {a b:Rn}:dT a b=true↔b.st<a.st\/(b.st=a.st/\b.seq<a.seq):=by
 unfold dT orI aGA
 rw [decide_eq_true_iff]
 by_cases h1:b.st<a.st
 .simp [h1]
 .by_cases c:a.st<b.st
  .simp [h1,c]
   omega
  .have h3:b.st=a.st:=o_
   by_cases d:b.seq<a.seq
   .simp [h1,c,h3,d]
   .by_cases e:a.seq<b.seq
    .simp [h1,c,h3,d,e]
    .simp [h1,c,h3,d,e]
theorem aBd (x:Rn) (h:x.hs.length<=1048576):aA Tryz.prog 170 [x.av] [] (.ret x.av) []:=by
 refine c_ Tryz.f170 fun _=>?_
 have a:=US x.hs h
 exact zW
def rn0:Rn:=⟨⟨0,0,0,V3.zero,0,0,0⟩,0,0,0,0,[]⟩
def aU (xs:List Rn) (i:Nat):Rn:=(xs[i]?).getD rn0
theorem tK {xs:List Rn} {i:Nat} (h:i<xs.length):(rav xs)[i]? =some (aU xs i).av:=by
 unfold aU
 rw [Aa h]
 exact dH h
def lR (xs:List Rn) (i k:Nat):List Rn:=(xs.set i (aU xs k)).set k (aU xs i)
theorem dP (xs:List Rn) (i k:Nat):(lR xs i k).length=xs.length:=by unfold lR;simp
def upH:Nat->List Rn->Nat->List Rn
 | 0,xs,_=>xs
 | f+1,xs,i=>if i=0 then xs else if dT (aU xs i) (aU xs ((i-1) / 2))=true then upH f (lR xs i ((i-1) / 2)) ((i-1) / 2) else xs
def jU (xs:List Rn) (x:Rn):List Rn:=upH (xs.length+1) (xs++[x]) xs.length
theorem O2:∀ (f:Nat) (xs:List Rn) (i:Nat),(upH f xs i).length=xs.length
 | 0,xs,i=>rfl
 | f+1,xs,i=>by
  unfold upH
  split
  .rfl
  .split
   .rw [O2 f,dP]
   .rfl
theorem DO (xs:List Rn) (x:Rn):(jU xs x).length=xs.length+1:=by unfold jU;rw [O2];simp
set_option maxHeartbeats 2000000
def lB (xs:List Rn) (n i:Nat):Nat:=if 2*i+2<n then (if dT (aU xs (2*i+2)) (aU xs (2*i+1))=true then 2*i+2 else 2*i+1) else 2*i+1
theorem xX (xs:List Rn) (n i:Nat) (h:2*i+1<n):lB xs n i<n/\i<lB xs n i/\(lB xs n i=2*i+1\/lB xs n i=2*i+2):=by
 unfold lB
 split
 .split<;>omega
 .omega
def mJ:Nat->List Rn->Nat->Nat->List Rn
 | 0,xs,_,_=>xs
 | f+1,xs,n,i=>if 2*i+1<n then (if dT (aU xs (lB xs n i)) (aU xs i)=true then mJ f (lR xs i (lB xs n i)) n (lB xs n i) else xs) else xs
theorem EZ:∀ (f:Nat) (xs:List Rn) (n i:Nat),(mJ f xs n i).length=xs.length
 | 0,xs,n,i=>rfl
 | f+1,xs,n,i=>by
  unfold mJ
  split
  .split
   .rw [EZ f,dP]
   .rfl
  .rfl
def zS (xs:List Rn) (n:Nat):List Rn:=mJ n (xs.set 0 (aU xs (n-1))) (n-1) 0
theorem sY (xs:List Rn) (n:Nat):(zS xs n).length=xs.length:=by unfold zS;rw [EZ];simp
inductive HV (ys:List Rn):AVal->Nat->Prop
 | row:HV ys (.row 1 0) ys.length
 | sub (n:Nat) (h:n<=ys.length):HV ys (.sub 1 0 0 n 14) n
set_option maxRecDepth 10000
def iU:Nat->List Rn->List Rn
 | 0,_=>[]
 | n+1,ys=>aU ys 0::iU n (zS ys (n+1))
def iV (l:List Rn):List Rn:=iU l.length (l.foldl jU [])
theorem mW:∀ (l ys:List Rn),(l.foldl jU ys).length=ys.length+l.length
 | [],ys=>rfl
 | x::r,ys=>by rw [Al,mW r,DO];simp;omega
def wJ (p:Int->Bool):List Int->Nat->Int
 | [],_=> -1
 | x::r,i=>if p x=true then (i:Int) else wJ p r (i+1)
theorem EP (p:Int->Bool):∀ (l:List Int) (i:Nat),decide (0<=wJ p l i)=l.any p
 | [],i=>by simp [wJ]
 | x::r,i=>by
  unfold wJ
  rw [Gn]
  cases h:p x with
  | true=>simp
  | false=>simp [EP p r (i+1)]
def inB (v:Int) (l:List Int):Bool:=l.any fun x=>v==x
noncomputable abbrev aEH:Func:=Tryz.f232
theorem TX (l:List Int) (hl:l.length<=1048576) (v r:Int):∀ (m i:Nat),i+m=l.length->wJ (fun x=>v==x) (l.drop i) i=r->
  To E aEH (.pure (.ret (ii r))) (.head (stk aEH 0) [(0,.slice 1 (iv l) .no),(1,ii v),(7,.int .i64 ((iv l).length:Nat)),(8,ii i)] []):=by
 have e:(iv l).length=l.length:=by simp
 intro m
 induction m with
 | zero=>
  intro i f a
  rw [Ae o_] at a
  have a: -1=r:=a
  subst a
  refine gV ?_
  exact zW
 | succ m c=>
  intro i f a
  have b:i<l.length:=o_
  rw [Ac b] at a
  have get:=cH b
  generalize l[i]=x at a get
  unfold wJ at a
  have c:=c (i+1) o_
  cases d:(v==x) with
  | true=>
   rw [if_pos d] at a
   subst a
   refine gV ?_
   exact zW
  | false=>
   rw [if_neg (by rw [d];decide)] at a
   have next:=c a
   refine gV ?_
   exact zW
theorem aCZ (l:List Int) (hl:l.length<=1048576) (v:Int):aA Tryz.prog 232 [.slice 1 (iv l) .no,ii v] [] (.ret (ii (wJ (fun x=>v==x) l 0))) []:=by
 refine c_ Tryz.f232 fun _=>?_
 refine gV ?_
 exact To.cut [0,1,7,8] 0 rfl rfl rfl rfl (TX l hl v _ l.length 0 o_ rfl)
theorem K1 (l:List Int) (hl:l.length<=1048576) (v:Int):aA Tryz.prog 169 [.slice 1 (iv l) .no,ii v] [] (.ret (.bool (inB v l))) []:=by
 have h:=aCZ l hl v
 have e:=EP (fun x=>v==x) l 0
 unfold inB
 rw [<-e]
 generalize wJ (fun x=>v==x) l 0=q at h
 exact c_ Tryz.f169 fun _=>zW
def aC (l:List Rn) (ids:List Int):List Rn:=l.filter fun x=>!(inB x.g.id ids)
theorem vO {x:Rn} {r:List Rn} {ids:List Int} (h:inB x.g.id ids=false):aC (x::r) ids=x::aC r ids:=Em (by rw [h];rfl)
theorem vP {x:Rn} {r:List Rn} {ids:List Int} (h:inB x.g.id ids=true):aC (x::r) ids=aC r ids:=Ek (by rw [h];decide)
theorem mR {l:List Rn} (hs:Sm l) (ids:List Int):Sm (aC l ids):=
 ⟨Cs (Fk _ _) hs.1,fun x a=>hs.2 x (Dw.1 a).1⟩
noncomputable abbrev fWo:Func:=Tryz.f102
theorem aBc (l:List Rn) (hs:Sm l) (ids:List Int) (r:ids.length<=1048576) (R:List Rn):∀ (m i:Nat) (a:List Rn),i+m=l.length->a.length<=i->a++aC (l.drop i) ids=R->
  To (Eo [5] []) fWo (.pure (.ret (.slice 14 (rav R) .no))) (.head (stk fWo 0) [(1,.slice 1 (iv ids) .no),(5,.slice 14 (rav a) (.own 0 0)),(8,.slice 14 (rav l) .no),(9,.int .i64 ((rav l).length:Nat)),(10,ii i)] [.tail 0 14 127]):=by
 have n:(rav l).length=l.length:=by simp
 have hl:=hs.1
 intro m
 induction m with
 | zero=>
  intro i a o s b
  exact zqra4
 | succ m f=>
  intro i a o s b
  have c:i<l.length:=o_
  have h:=hs.at c
  rw [Ac c] at b
  generalize p:l[i]=x at b h
  have get:(rav l)[i]? =some x.av:=(dH c).trans (by rw [p])
  have q:(rav a).length=a.length:=by simp
  have k:=K1 ids r x.g.id
  cases d:inB x.g.id ids with
  | true=>
   rw [d] at k
   exact zqra11
  | false=>
   rw [d] at k
   rw [vO d] at b
   have next:=f (i+1) (a++[x]) o_ q_ (by rw [Aj];exact b)
   have e:rav (a++[x])=rav a++[x.av]:=by simp
   rw [e] at next
   refine gV ?_
   have j:=aBd x h
   exact zW
theorem LT (l:List Rn) (hs:Sm l) (ids:List Int) (b:ids.length<=1048576):aA Tryz.prog 102 [.slice 14 (rav l) .no,.slice 1 (iv ids) .no] [] (.ret (.slice 14 (rav (aC l ids)) .no)) []:=by
 refine cT (E:=(Eo [5] [])) (fn:=Tryz.f102) (g:=.pure _) fun _=>?_
 have a:=aBc l hs ids b _ l.length 0 [] o_ s_ rfl
 exact zW
theorem DY {ns:List Nod} {t:Int} (h:aW ns t=true):0<=t/\t.toNat<ns.length:=by
 exact zqra3
theorem HX {c:Con} {t:Int} (h:0<=t/\t.toNat<c.ns.length):(nav c.ns)[t.toNat]? =some (bT c.ns t).av:=by
 unfold bT
 rw [Aa h.2]
 exact eW h.2
def pX (c:Con) (a:List V3) (t:Int) (need:V3):Bool:=if aW c.ns t=true then bK (dG (atV a t) need) (bT c.ns t).n else false
def cX (c:Con) (a:List V3) (t:Int):Bool:=if aW c.ns t=true then !bK (atV a t) (bT c.ns t).n else false
def qW (c:Con) (l:List Rn) (g:Gan) (ids:List Int):Bool:=(cE c (aC l ids) g).isSome
abbrev chO (c:Con) (l:List Rn) (g:Gan):List AObj:=[.cells 26 c.cs,.cells 28 [.slice 14 (rav l) .no],.cells 36 g.cs]
def bB (p:Rn->Bool):List Rn->Nat->Int
 | [],_=> -1
 | x::r,i=>if p x=true then (i:Int) else bB p r (i+1)
def jY (l:List Int) (a:Int):List Int:=l.filter fun x=>!(x==a)
theorem pA {xs:List Rn} {i:Nat} (h:i<xs.length):aU xs i∈xs:=by
 unfold aU
 rw [Aa h]
 exact Bf h
theorem DB {xs:List Rn} {i k:Nat} (b:i<xs.length) (a:k<xs.length) {y:Rn} (h:y∈lR xs i k):y∈xs:=by
 unfold lR at h
 rcases Da h with h | rfl
 .rcases Da h with h | rfl
  .exact h
  .exact pA a
 .exact pA b
theorem O1 {y:Rn}:∀ (f:Nat) (xs:List Rn) (i:Nat),i<xs.length->y∈upH f xs i->y∈xs
 | 0,xs,i,_,h=>h
 | f+1,xs,i,hi,h=>by
  unfold upH at h
  split at h
  .exact h
  .split at h
   .exact DB hi o_ (O1 f _ _ (by rw [dP];omega) h)
   .exact h
theorem S6 {xs:List Rn} {x y:Rn} (h:y∈jU xs x):y∈xs\/y=x:=by
 have:=O1 _ _ _ s_ h
 simpa using this
theorem zQ {y:Rn}:∀ (l xs:List Rn),y∈l.foldl jU xs->y∈xs\/y∈l
 | [],xs,h=>.inl h
 | x::r,xs,h=>by
  rcases zQ r _ h with h | h
  .rcases S6 h with h | rfl
   .exact .inl h
   .exact .inr s_
  .exact .inr (by simp [h])
theorem EY {y:Rn}:∀ (f:Nat) (xs:List Rn) (n i:Nat),n<=xs.length->i<xs.length->y∈mJ f xs n i->y∈xs
 | 0,xs,n,i,_,_,h=>h
 | f+1,xs,n,i,hn,hi,h=>by
  unfold mJ at h
  split at h
  .rename_i a
   have b:=xX xs n i a
   split at h
   .exact DB hi o_ (EY f _ n _ (by rw [dP];exact hn) (by rw [dP];omega) h)
   .exact h
  .exact h
theorem X1 {xs:List Rn} {n:Nat} (b:0<n) (a:n<=xs.length) {y:Rn} (h:y∈zS xs n):y∈xs:=by
 unfold zS at h
 have:=EY n (xs.set 0 (aU xs (n-1))) (n-1) 0 q_ q_ h
 rcases Da this with h | rfl
 .exact h
 .exact pA o_
theorem zU {y:Rn}:∀ (n:Nat) (xs:List Rn),n<=xs.length->y∈iU n xs->y∈xs
 | 0,xs,_,h=>by cases h
 | n+1,xs,hn,h=>by
  unfold iU at h
  rcases Ao.1 h with rfl | h
  .exact pA o_
  .exact X1 o_ hn (zU n _ (by rw [sY];omega) h)
theorem TF {l:List Rn} {y:Rn} (h:y∈iV l):y∈l:=by
 unfold iV at h
 have:=zU _ _ (by rw [mW];simp) h
 rcases zQ l [] this with h | h
 .cases h
 .exact h
theorem zV:∀ (n:Nat) (xs:List Rn),(iU n xs).length=n
 | 0,xs=>rfl
 | n+1,xs=>by unfold iU;rw [Ba,zV n]
theorem NA (l:List Rn):(iV l).length=l.length:=zV _ _
theorem KO (p:Rn->Bool):∀ (l:List Rn) (i:Nat),bB p l i= -1\/∃ k,k<l.length/\bB p l i=((i+k:Nat):Int)/\p (aU l k)=true
 | [],i=>.inl rfl
 | x::r,i=>by
  unfold bB
  cases a:p x with
  | true=>exact .inr ⟨0,by simp,by rw [if_pos rfl];simp,a⟩
  | false=>
   rw [if_neg d_]
   rcases KO p r (i+1) with h | ⟨k,h1,b,h3⟩
   .exact .inl h
   .refine .inr ⟨k+1,by simp;omega,by rw [b];congr 1;omega,?_⟩
    unfold aU at h3⊢
    simpa using h3
def atI (c:Con) (l:List Rn) (ids:List Int):Int:=bB (fun x=>cX c (ofL c (aC l ids)) x.g.ten) (iV (aC l ids)) 0
def AI (c:Con) (l:List Rn) (ids:List Int):Option Int:=if atI c l ids<0 then none else some (aU (iV (aC l ids)) (atI c l ids).toNat).g.id
def chA (c:Con) (l:List Rn) (g:Gan):Nat->List Int->Option (List Int)
 | 0,_=>none
 | f+1,ids=>if qW c l g ids=true then some ids else match AI c l ids with
  | none=>none
  | some n=>chA c l g f (ids++[n])
def chS (c:Con) (l:List Rn) (g:Gan) (ids:List Int) (a:Int):List Int:=if qW c l g (jY ids a)=true then jY ids a else ids
def fT (c:Con) (l:List Rn) (g:Gan):Option (List Int):=if pX c (ofL c l) g.ten (dem g)=true then (match chA c l g (l.length+1) [] with
 | none=>none
 | some ids=>some (ids.foldl (chS c l g) ids)) else none
def chR:Option (List Int)->AVal
 | some ids=>.tup [.slice 1 (iv ids) .no,.bool true]
 | none=>.tup [.slice 1 [] .no,.bool false]
theorem DW {c:Con} {l:List Rn} {ids:List Int} {n:Int} (h:AI c l ids=some n):∃ x∈aC l ids,x.g.id=n/\cX c (ofL c (aC l ids)) x.g.ten=true:=by
 unfold AI at h
 split at h
 .cases h
 .rename_i b
  cases h
  rcases KO (fun x=>cX c (ofL c (aC l ids)) x.g.ten) (iV (aC l ids)) 0 with h1 | ⟨k,h1,a,h3⟩
  .exact absurd (show atI c l ids<0 from by unfold atI;rw [h1];decide) b
  .refine ⟨_,TF (pA ?_),rfl,?_⟩
   .unfold atI;rw [a];simpa using h1
   .unfold atI;rw [a];simpa using h3
theorem E6 (l:List Rn) (ids:List Int) (n:Int):aC l (ids++[n])=(aC l ids).filter fun x=>!(x.g.id==n):=by
 unfold aC
 rw [List.filter_filter]
 refine List.filter_congr fun x _=>?_
 unfold inB
 rw [List.any_append]
 simp only [Gn,List.any_nil,Bool.or_false]
 cases (ids.any fun y=>x.g.id==y)<;>cases (x.g.id==n)<;>rfl
theorem E7 {l:List Rn} {ids:List Int} {n:Int} (h:∃ x∈aC l ids,x.g.id=n):(aC l (ids++[n])).length<(aC l ids).length:=by
 obtain ⟨x,a,b⟩:=h
 rw [E6]
 generalize aC l ids=q at a
 refine Nat.lt_of_le_of_ne (Fk _ _) fun e=>?_
 have:=List.length_filter_eq_length_iff.1 e x a
 simp [b] at this
theorem TQ (l:List Int) (a:Int):(jY l a).length<=l.length:=Fk _ _
def chB (c:Con) (l:List Rn) (g:Gan):Option (List Int)->Option (List Int)
 | none=>none
 | some ids=>some (ids.foldl (chS c l g) ids)
theorem kS (l:List Rn):aC l []=l:=Kc.2 fun x _=>rfl
def V3.le (a b:V3):Prop:=a.a<=b.a/\a.b<=b.b/\a.c<=b.c
def V3.farB (a:V3):Prop:=(0<=a.a/\a.a<=1099511627776)/\(0<=a.b/\a.b<=1099511627776)/\(0<=a.c/\a.c<=1099511627776)
theorem qT {a b d:Int} (h:a<=b):hD a d<=hD b d:=by unfold hD eV;omega
theorem yB {a d:Int} (c:0<=a) (h1:a<=1099511627776) (b:0<=d):a<=hD a d:=by unfold hD eV;omega
theorem HP {a d:Int} (c:0<=a) (b:0<=d):0<=hD a d/\hD a d<=1099511627776:=by unfold hD eV;omega
theorem RY {a b:V3} (d:V3) (h:a.le b):(dG a d).le (dG b d):=⟨qT h.1,qT h.2.1,qT h.2.2⟩
def V3.pos (d:V3):Prop:=0<=d.a/\0<=d.b/\0<=d.c
theorem aBf {a d:V3} (h:a.farB) (b:d.pos):a.le (dG a d):=⟨yB h.1.1 h.1.2 b.1,yB h.2.1.1 h.2.1.2 b.2.1,yB h.2.2.1 h.2.2.2 b.2.2⟩
theorem VA {a d:V3} (h:a.farB) (b:d.pos):(dG a d).farB:=⟨HP h.1.1 b.1,HP h.2.1.1 b.2.1,HP h.2.2.1 b.2.2⟩
theorem V3.le.trans {a b c:V3} (h:a.le b) (k:b.le c):a.le c:=⟨Fb h.1 k.1,Fb h.2.1 k.2.1,Fb h.2.2 k.2.2⟩
theorem sJ {a b:V3}:bK a b=true↔a.le b:=by
 obtain ⟨g,i,h⟩:=a
 obtain ⟨f,d,e⟩:=b
 unfold bK V3.le
 by_cases h1:f<g
 .first | (simp [h1];done) | (simp [h1];omega)
 by_cases c:d<i
 .first | (simp [h1,c];done) | (simp [h1,c];omega)
 by_cases h3:e<h
 .first | (simp [h1,c,h3];done) | (simp [h1,c,h3];omega)
 first | (simp [h1,c,h3];done) | (simp [h1,c,h3];omega)
def mS (c:Con) (j:Nat) (v:V3) (x:Rn):V3:=if aW c.ns x.g.ten=true/\(j:Int)∈upL c.ns x.g.ten then dG v (dem x.g) else v
theorem E5 (v:V3) (j:Nat):∀ (ks:List Int) (xs:List V3),ks.Nodup->(∀ k∈ks,0<=k)->(ks.foldl (qX v) xs)[j]? =if (j:Int)∈ks then (xs[j]?).map fun x=>dG x v else xs[j]?
 | [],xs,_,_=>by simp
 | k::r,xs,b,h0=>by
  have b:=Bw.1 b
  have d:=h0 k s_
  rw [Al,E5 v j r _ b.2 fun x c=>h0 x (by simp [c]),mN]
  by_cases h1:(j:Int)=k
  .have a:(j:Int)∉r:=by rw [h1];exact b.1
   rw [if_neg a,if_pos o_,if_pos (by simp [h1])]
  .have e:(j:Int)∈k::r↔(j:Int)∈r:=by simp [h1]
   by_cases a:(j:Int)∈r
   .rw [if_pos a,if_neg o_,if_pos (e.2 a)]
   .rw [if_neg a,if_neg o_,if_neg (fun h=>a (e.1 h))]
theorem WY (c:Con) (xs:List V3) (x:Rn) (j:Nat):(wY c xs x)[j]? =(xs[j]?).map fun v=>mS c j v x:=by
 unfold wY mS
 cases d:aW c.ns x.g.ten with
 | false=>rw [if_neg d_];simp
 | true=>
  rw [if_pos rfl]
  have a:(bH c.ns x.g.ten).Nodup:=by
   unfold bH
   exact List.pairwise_reverse.2 ((FD c.ns _ _).imp fun h=>by omega)
  have hm:(j:Int)∈bH c.ns x.g.ten↔(j:Int)∈upL c.ns x.g.ten:=Gu
  rw [E5 _ _ _ _ a fun k b=>(FE _ _ _ _ (Gu.1 b)).1]
  by_cases h:(j:Int)∈upL c.ns x.g.ten
  .rw [if_pos (hm.2 h)];simp [h]
  .rw [if_neg (fun q=>h (hm.1 q))];simp [h]
theorem YM (c:Con) (j:Nat):∀ (l:List Rn) (xs:List V3),(l.foldl (wY c) xs)[j]? =(xs[j]?).map fun v=>l.foldl (mS c j) v
 | [],xs=>by simp
 | x::r,xs=>by
  rw [Al,YM c j r,WY,Option.map_map]
  rfl
theorem wE {c:Con} {t:Int} (h:0<=t/\t.toNat<c.ns.length) (l:List Rn):atV (ofL c l) t=l.foldl (mS c t.toNat) V3.zero:=by
 unfold atV
 rw [if_neg (by rw [decide_eq_false o_];decide),<-aEs]
 unfold WZ
 rw [YM,Ds,if_pos h.2]
 rfl
theorem sM {c:Con} {j:Nat} (p:Rn->Bool):∀ (l:List Rn) (a b:V3),(∀ x∈l,(dem x.g).pos)->a.le b->b.farB->((l.filter p).foldl (mS c j) a).le (l.foldl (mS c j) b)/\(l.foldl (mS c j) b).farB
 | [],a,b,_,h,hf=>⟨h,hf⟩
 | x::r,a,b,hd,h,hf=>by
  have f:=hd x s_
  have e:(mS c j b x).farB:=by unfold mS;split;exact VA hf f;exact hf
  rw [Al,Ht]
  cases p x with
  | true=>
   rw [if_pos rfl,Al]
   refine sM p r _ _ (fun y d=>hd y (by simp [d])) ?_ e
   unfold mS
   split
   .exact RY _ h
   .exact h
  | false=>
   rw [if_neg d_]
   refine sM p r _ _ (fun y d=>hd y (by simp [d])) ?_ e
   unfold mS
   split
   .exact h.trans (aBf hf f)
   .exact h
theorem HT:V3.zero.farB:=by unfold V3.farB V3.zero;decide
theorem AP (a:V3):a.le a:=⟨Dc _,Dc _,Dc _⟩
theorem aDI {g:Gan} (a:aM g.need=true) (j:0<=g.pods/\g.pods<=16):(dem g).pos:=by
 unfold aM at a
 simp only [Af,decide_eq_true_eq] at a
 obtain ⟨⟨⟨c,k⟩,b,f⟩,d,i⟩:=a
 have key:∀ x,0<=x->0<=CP x g.pods:=fun x h=>by
  have e:0<=eV x 1099511627776*eV g.pods 1048576:=Ip (by unfold eV;omega) (by unfold eV;omega)
  unfold CP
  generalize eV x 1099511627776*eV g.pods 1048576=q at e
  unfold eV
  omega
 exact ⟨key _ c,key _ b,key _ d⟩
def Was (c:Con) (l:List Rn) (n:Int):Prop:=∃ (ids:List Int) (x:Rn),x∈l/\x.g.id=n/\cX c (ofL c (aC l ids)) x.g.ten=true
theorem aCX {v:Int} {l:List Int}:inB v l=true↔v∈l:=by unfold inB;simp
theorem fZ {l:List Rn} {ids:List Int} {x:Rn}:x∈aC l ids↔x∈l/\x.g.id∉ids:=by
 unfold aC
 rw [Dw]
 refine and_congr Mo ?_
 rw [<-aCX]
 cases inB x.g.id ids<;>simp
theorem LD {c:Con} {l:List Rn} {g:Gan} {R:List Int}:∀ (f:Nat) (ids:List Int),ids.Nodup->(∀ n∈ids,Was c l n)->chA c l g f ids=some R->R.Nodup/\(∀ n∈R,Was c l n)/\qW c l g R=true
 | 0,ids,_,_,h=>by cases h
 | f+1,ids,hn,hw,h=>by
  unfold chA at h
  split at h
  .rename_i m
   cases h
   exact ⟨hn,hw,m⟩
  .split at h
   .cases h
   .rename_i n k
    obtain ⟨x,h1,j,h3⟩:=DW k
    have hm:=fZ.1 h1
    refine LD f _ ?_ ?_ h
    .rw [Br]
     refine ⟨hn,by simp,fun a d b i e=>?_⟩
     simp at i
     subst i e
     rw [j] at hm
     exact hm.2 d
    .intro a d
     rcases Ay.1 d with d | d
     .exact hw a d
     .simp at d
      subst d
      exact ⟨ids,x,hm.1,j,h3⟩
theorem aDX {c:Con} {l:List Rn} {g:Gan} (ids:List Int) (a:Int) (h:qW c l g ids=true):qW c l g (chS c l g ids a)=true/\(chS c l g ids a).Sublist ids:=by
 have e:chS c l g ids a=if qW c l g (jY ids a)=true then jY ids a else ids:=rfl
 rw [e]
 cases b:qW c l g (jY ids a) with
 | true=>rw [if_pos rfl];exact ⟨b,Hz⟩
 | false=>rw [if_neg d_];exact ⟨h,Kv _⟩
theorem aAN {c:Con} {l:List Rn} {g:Gan} (bs:List Int):∀ (ids:List Int),qW c l g ids=true->qW c l g (bs.foldl (chS c l g) ids)=true/\(bs.foldl (chS c l g) ids).Sublist ids:=by
 induction bs with
 | nil=>intro ids h;exact ⟨h,Kv _⟩
 | cons a r b=>
  intro ids h
  have h1:=aDX ids a h
  rw [Al]
  generalize chS c l g ids a=q at h1
  obtain ⟨d,h3⟩:=b q h1.1
  exact ⟨d,h3.trans h1.2⟩
theorem wL {c:Con} {l:List Rn} {g:Gan} {R:List Int} (h:fT c l g=some R):pX c (ofL c l) g.ten (dem g)=true/\R.Nodup/\(∀ n∈R,Was c l n)/\qW c l g R=true:=by
 unfold fT at h
 split at h
 .rename_i e
  split at h
  .cases h
  .rename_i ids i
   cases h
   obtain ⟨h1,f,h3⟩:=LD _ [] s_ s_ i
   obtain ⟨d,a⟩:=aAN ids ids h3
   exact ⟨e,a.nodup h1,fun n b=>f n (a.subset b),d⟩
 .cases h
def nX (l:List Rn):Prop:=l.Pairwise fun a b=>a.g.id≠b.g.id/\a.seq≠b.seq
theorem vS {a:Int}:∀ {q:List Rn},q.Pairwise (fun x y=>x.g.id≠y.g.id)->(∃ x∈q,x.g.id=a)->(q.filter fun y=>!(y.g.id==a)).length+1=q.length
 | [],_,h=>by obtain ⟨x,b,_⟩:=h;cases b
 | y::r,hp,h=>by
  have hp:=Ce.1 hp
  rw [Ht]
  by_cases c:y.g.id=a
  .have e:(r.filter fun y=>!(y.g.id==a))=r:=Kc.2 fun z hz=>by
    have:=hp.1 z hz
    rw [c] at this
    have:(z.g.id==a)=false:=by simpa using fun e=>this e.symm
    rw [this];rfl
   rw [if_neg (by simp [c]),e]
   simp
  .obtain ⟨x,b,d⟩:=h
   have b:x∈r:=by
    rcases Ao.1 b with rfl | b
    .exact absurd d c
    .exact b
   have:=vS hp.2 ⟨x,b,d⟩
   rw [if_pos (by simp [c])]
   simp only [Ba]
   omega
theorem E8 (l:List Rn) (a:Int) (r:List Int):aC l (a::r)=(aC l r).filter fun x=>!(x.g.id==a):=by
 unfold aC
 rw [List.filter_filter]
 refine List.filter_congr fun x _=>?_
 unfold inB
 rw [Gn]
 cases (r.any fun y=>x.g.id==y)<;>cases (x.g.id==a)<;>rfl
theorem vQ {l:List Rn} (d:nX l):∀ {ids:List Int},ids.Nodup->(∀ n∈ids,∃ x∈l,x.g.id=n)->(aC l ids).length+ids.length=l.length
 | [],_,_=>by rw [kS];simp
 | a::r,b,hm=>by
  have b:=Bw.1 b
  have f:=vQ d b.2 fun n h=>hm n (by simp [h])
  obtain ⟨x,e,c⟩:=hm a s_
  have hp:(aC l r).Pairwise fun x y=>x.g.id≠y.g.id:=(d.sublist Hz).imp fun h=>h.1
  have:=vS (a:=a) hp ⟨x,fZ.2 ⟨e,by rw [c];exact b.1⟩,c⟩
  rw [E8]
  simp only [Ba]
  omega
theorem aCm {l:List Rn} (e:nX l) {x y:Rn} (d:x∈l) (c:y∈l) (h:x.g.id=y.g.id):x=y:=by
 obtain ⟨i,b,rfl⟩:=Gq d
 obtain ⟨j,a,rfl⟩:=Gq c
 have hp:=Dl.1 e
 rcases Nat.lt_trichotomy i j with h1 | rfl | h1
 .exact absurd h (hp i j b a h1).1
 .rfl
 .exact absurd h.symm (hp j i a b h1).1
noncomputable abbrev aHB:Func:=Tryz.f73
theorem MK (l:List Int) (hl:l.length<=1048576) (v:Int) (r:Bool):∀ (m i:Nat),i+m=l.length->inB v (l.drop i)=r->
  To E aHB (.pure (.ret (.bool r))) (.head (stk aHB 0) [(0,ii v),(1,.slice 1 (iv l) .no),(5,ii i)] []):=by
 have e:(iv l).length=l.length:=by simp
 intro m
 induction m with
 | zero=>
  intro i f a
  rw [Ae o_] at a
  have a:false=r:=a
  subst a
  refine gV ?_
  exact zW
 | succ m c=>
  intro i f a
  have b:i<l.length:=o_
  rw [Ac b] at a
  have get:=cH b
  generalize l[i]=x at a get
  unfold inB at a
  rw [Gn] at a
  have c:=c (i+1) o_
  have g:(v==x)=(x==v):=by
   by_cases h:v=x
   .subst h;rfl
   .rw [beq_eq_false_iff_ne.2 h,beq_eq_false_iff_ne.2 (Eb h)]
  rw [g] at a
  cases d:(x==v) with
  | true=>
   rw [d] at a
   have a:true=r:=a
   subst a
   refine gV ?_
   exact zW
  | false=>
   rw [d,La] at a
   have next:=c a
   refine gV ?_
   exact zW
theorem W5 (l:List Int) (hl:l.length<=1048576) (v:Int):aA Tryz.prog 73 [ii v,.slice 1 (iv l) .no] [] (.ret (.bool (inB v l))) []:=by
 refine c_ Tryz.f73 fun _=>?_
 refine gV ?_
 exact To.cut [0,1,5] 0 rfl rfl rfl rfl (MK l hl v _ l.length 0 o_ rfl)
noncomputable abbrev aHD:Func:=Tryz.f25
theorem V7 (l:List Rn) (hs:Sm l) (ids:List Int) (p:ids.length<=1048576) (R:List Rn):∀ (m i:Nat) (a:List Rn),i+m=l.length->a.length<=i->a++aC (l.drop i) ids=R->
  To (Eo [5] []) aHD (.pure (.ret (.slice 14 (rav R) .no))) (.head (stk aHD 0) [(0,.slice 14 (rav l) .no),(1,.slice 1 (iv ids) .no),(5,.slice 14 (rav a) (.own 0 0)),(6,ii i)] [.tail 0 14 127]):=by
 have j:(rav l).length=l.length:=by simp
 have hl:=hs.1
 intro m
 induction m with
 | zero=>
  intro i a k q b
  exact zqra4
 | succ m f=>
  intro i a k q b
  have c:i<l.length:=o_
  rw [Ac c] at b
  generalize n:l[i]=x at b
  have get:(rav l)[i]? =some x.av:=(dH c).trans (by rw [n])
  have o:(rav a).length=a.length:=by simp
  have h:=W5 ids p x.g.id
  cases d:inB x.g.id ids with
  | true=>
   rw [d] at h
   exact zqra11
  | false=>
   rw [d] at h
   rw [vO d] at b
   have next:=f (i+1) (a++[x]) o_ q_ (by rw [Aj];exact b)
   have e:rav (a++[x])=rav a++[x.av]:=by simp
   rw [e] at next
   refine gV ?_
   exact zW
theorem kU (l:List Rn) (hs:Sm l) (ids:List Int) (b:ids.length<=1048576):aA Tryz.prog 25 [.slice 14 (rav l) .no,.slice 1 (iv ids) .no] [] (.ret (.slice 14 (rav (aC l ids)) .no)) []:=by
 refine cT (E:=(Eo [5] [])) (fn:=Tryz.f25) (g:=.pure _) fun _=>?_
 have a:=V7 l hs ids b _ l.length 0 [] o_ s_ rfl
 exact zW
def LeR (a b:Rn):Prop:=dT b a=false
theorem jJ {a b:Rn}:LeR a b↔b.st<a.st\/(b.st=a.st/\b.seq<=a.seq):=by
 unfold LeR
 have h:=rX (a:=b) (b:=a)
 cases c:dT b a with
 | true=>
  have:=h.1 c
  constructor
  .intro h;cases h
  .intro d;omega
 | false=>
  have:¬ (a.st<b.st\/(a.st=b.st/\a.seq<b.seq)):=fun q=>by rw [h.2 q] at c;cases c
  constructor
  .intro _;omega
  .intro _;rfl
theorem LeR.trans {a b c:Rn} (h:LeR a b) (k:LeR b c):LeR a c:=by rw [jJ] at *;omega
theorem GJ {a b:Rn} (h:dT a b=true):LeR a b:=by
 have:=rX.1 h
 rw [jJ]
 omega
theorem EG {xs:List Rn} {i k:Nat} (c:i<xs.length) (b:k<xs.length) (j:Nat):aU (lR xs i k) j=if j=k then aU xs i else if j=i then aU xs k else aU xs j:=by
 unfold lR
 conv=>lhs;unfold aU
 rw [Ez,Ez]
 by_cases h1:j=k
 .subst h1
  rw [if_pos rfl,if_pos rfl,if_pos (by simpa using b)]
  rfl
 .rw [if_neg (fun e=>h1 e.symm),if_neg h1]
  by_cases a:j=i
  .subst a
   rw [if_pos rfl,if_pos rfl,if_pos c]
   rfl
  .rw [if_neg (fun e=>a e.symm),if_neg a]
   rfl
def Hp (n:Nat) (xs:List Rn):Prop:=∀ j,0<j->j<n->LeR (aU xs ((j-1) / 2)) (aU xs j)
theorem Hp.root {n:Nat} {xs:List Rn} (h:Hp n xs):∀ (m j:Nat),j<=m->j<n->LeR (aU xs 0) (aU xs j)
 | 0,j,hm,_=>by
  have:j=0:=o_
  subst this
  rw [jJ];omega
 | m+1,j,hm,hj=>by
  by_cases a:j=0
  .subst a;rw [jJ];omega
  .exact (h.root m ((j-1) / 2) o_ o_).trans (h j o_ hj)
theorem VD (n:Nat):∀ (f:Nat) (xs:List Rn) (i:Nat),xs.length=n->i<n->i<f->(∀ j,0<j->j<n->j≠i->LeR (aU xs ((j-1) / 2)) (aU xs j))->(∀ j,0<j->j<n->(j-1) / 2=i->0<i->LeR (aU xs ((i-1) / 2)) (aU xs j))->Hp n (upH f xs i)
 | 0,xs,i,_,_,h,_,_=>by omega
 | f+1,xs,i,hx,hi,hf,h1,h2=>by
  unfold upH
  by_cases r:i=0
  .rw [if_pos r]
   exact fun j a b=>h1 j a b o_
  rw [if_neg r]
  generalize l:(i-1) / 2=up
  have s:up<i:=o_
  cases q:dT (aU xs i) (aU xs up) with
  | false=>
   rw [if_neg d_]
   intro j a b
   by_cases d:j=i
   .subst d
    rw [l]
    exact q
   .exact h1 j a b d
  | true=>
   rw [if_pos rfl]
   have m:=GJ q
   have g:=fun j=>EG (xs:=xs) (i:=i) (k:=up) o_ o_ j
   have o:0<up->LeR (aU xs ((up-1) / 2)) (aU xs up):=fun h=>h1 up h o_ o_
   refine VD n f _ up (by rw [dP];exact hx) o_ o_ (fun j a b d=>?_) (fun j a b d p=>?_)
   .rw [g,g]
    by_cases c:j=i
    .subst c
     rw [l,if_pos rfl,if_neg d,if_pos rfl]
     exact m
    .rw [if_neg d,if_neg c]
     by_cases hp:(j-1) / 2=i
     .rw [if_neg o_,if_pos hp]
      have:=h2 j a b hp o_
      rwa [l] at this
     .by_cases e:(j-1) / 2=up
      .rw [if_pos e]
       have:=h1 j a b c
       rw [e] at this
       exact m.trans this
      .rw [if_neg e,if_neg hp]
       exact h1 j a b c
   .rw [g,g,if_neg o_,if_neg o_]
    by_cases c:j=i
    .subst c
     rw [if_neg o_,if_pos rfl]
     exact o p
    .rw [if_neg o_,if_neg c]
     have:=h1 j a b c
     rw [d] at this
     exact (o p).trans this
theorem KG {xs:List Rn} {x:Rn} {j:Nat} (h:j<xs.length):aU (xs++[x]) j=aU xs j:=by
 unfold aU
 rw [Ag h]
theorem aCd {xs:List Rn} (h:Hp xs.length xs) (x:Rn):Hp (jU xs x).length (jU xs x):=by
 rw [DO]
 unfold jU
 refine VD (xs.length+1) _ _ _ s_ o_ o_ (fun j a b c=>?_) (fun j a b c d=>by omega)
 rw [KG o_,KG o_]
 exact h j a o_
theorem K0 (n:Nat):∀ (f:Nat) (xs:List Rn) (i:Nat),n<=xs.length->i<xs.length->n<f+i+1->(∀ j,0<j->j<n->(j-1) / 2≠i->LeR (aU xs ((j-1) / 2)) (aU xs j))->(∀ j,0<j->j<n->(j-1) / 2=i->0<i->LeR (aU xs ((i-1) / 2)) (aU xs j))->Hp n (mJ f xs n i)
 | 0,xs,i,_,_,hf,h1,h2=>by
  intro j a b
  exact h1 j a b o_
 | f+1,xs,i,hx,hi,hf,h1,h2=>by
  unfold mJ
  by_cases q:2*i+1<n
  .rw [if_pos q]
   have r:=xX xs n i q
   have c:∀ j,j<n->(j=2*i+1\/j=2*i+2)->LeR (aU xs (lB xs n i)) (aU xs j):=fun j d p=>by
    unfold lB
    by_cases h3:2*i+2<n
    .rw [if_pos h3]
     cases h:dT (aU xs (2*i+2)) (aU xs (2*i+1)) with
     | true=>
      rw [if_pos rfl]
      rcases p with rfl | rfl
      .exact GJ h
      .rw [jJ];omega
     | false=>
      rw [if_neg d_]
      rcases p with rfl | rfl
      .rw [jJ];omega
      .exact h
    .rw [if_neg h3]
     rcases p with rfl | rfl
     .rw [jJ];omega
     .omega
   generalize lB xs n i=k at r c
   cases h:dT (aU xs k) (aU xs i) with
   | false=>
    rw [if_neg d_]
    intro j a b
    by_cases d:(j-1) / 2=i
    .rw [d]
     exact LeR.trans h (c j b o_)
    .exact h1 j a b d
   | true=>
    rw [if_pos rfl]
    have o:=GJ h
    have g:=fun j=>EG (xs:=xs) (i:=i) (k:=k) hi o_ j
    have l:(k-1) / 2=i:=o_
    refine K0 n f _ k (by rw [dP];exact hx) (by rw [dP];omega) o_ (fun j a b d=>?_) (fun j a b d s=>?_)
    .rw [g,g]
     by_cases hp:(j-1) / 2=i
     .rw [hp,if_neg o_,if_pos rfl]
      by_cases m:j=k
      .rw [if_pos m];exact o
      .rw [if_neg m,if_neg o_]
       exact c j b o_
     .rw [if_neg d,if_neg hp,if_neg o_]
      by_cases e:j=i
      .subst e
       rw [if_pos rfl]
       exact h2 k o_ o_ l a
      .rw [if_neg e]
       exact h1 j a b hp
    .rw [l,g,g,if_neg o_,if_pos rfl,if_neg o_,if_neg o_]
     have:=h1 j a b o_
     rwa [d] at this
  .rw [if_neg q]
   intro j a b
   exact h1 j a b o_
theorem EH {xs:List Rn} {x:Rn} {j:Nat} (h:0<j):aU (xs.set 0 x) j=aU xs j:=by
 unfold aU
 rw [Bh o_]
theorem aFy {xs:List Rn} {n:Nat} (f:0<n) (e:n<=xs.length) (h:Hp n xs):Hp (n-1) (zS xs n):=by
 unfold zS
 refine K0 (n-1) n _ 0 q_ q_ o_ (fun j a b c=>?_) (fun j a b c d=>by omega)
 rw [EH o_,EH a]
 exact h j a o_
theorem yR {xs:List Rn} {i k:Nat} (b:i<xs.length) (a:k<xs.length):(lR xs i k).Perm xs:=by
 unfold lR aU
 rw [Aa b,Aa a]
 exact List.set_set_perm b a
theorem H0:∀ (f:Nat) (xs:List Rn) (i:Nat),i<xs.length->(upH f xs i).Perm xs
 | 0,xs,i,_=>Fc _
 | f+1,xs,i,hi=>by
  unfold upH
  split
  .exact Fc _
  .split
   .exact (H0 f _ _ (by rw [dP];omega)).trans (yR hi o_)
   .exact Fc _
theorem wB:∀ (l xs:List Rn),(l.foldl jU xs).Perm (xs++l)
 | [],xs=>by simp
 | x::r,xs=>by
  rw [Al]
  refine (wB r _).trans ?_
  have h:(jU xs x).Perm (xs++[x]):=H0 _ _ _ s_
  have:=h.append_right r
  rwa [Aj] at this
theorem DN:∀ (l xs:List Rn),Hp xs.length xs->Hp (l.foldl jU xs).length (l.foldl jU xs)
 | [],xs,h=>h
 | x::r,xs,h=>by rw [Al];exact DN r _ (aCd h x)
theorem jN {xs:List Rn} {m j:Nat} (h:j<m):aU (xs.take m) j=aU xs j:=by
 unfold aU
 rw [Bl h]
theorem L2 {xs:List Rn} {m i k:Nat} (a:i<m) (b:k<m):(lR xs i k).take m=lR (xs.take m) i k:=by
 unfold lR
 rw [jN a,jN b,List.take_set,List.take_set]
theorem N4 {xs:List Rn} {n i:Nat} (h:2*i+1<n):lB (xs.take n) n i=lB xs n i:=by
 unfold lB
 by_cases h3:2*i+2<n
 .rw [if_pos h3,if_pos h3,jN h3,jN h]
 .rw [if_neg h3,if_neg h3]
theorem BZ (n:Nat):∀ (f:Nat) (xs:List Rn) (i:Nat),i<n\/n=0->(mJ f xs n i).take n=mJ f (xs.take n) n i
 | 0,xs,i,_=>rfl
 | f+1,xs,i,hi=>by
  unfold mJ
  by_cases a:2*i+1<n
  .rw [if_pos a,if_pos a]
   have b:=xX xs n i a
   rw [N4 a,jN b.1,jN o_]
   split
   .rw [BZ n f _ _ o_,L2 o_ b.1]
   .rfl
  .rw [if_neg a,if_neg a]
theorem B0 (n:Nat):∀ (f:Nat) (xs:List Rn) (i:Nat),n<=xs.length->i<xs.length->(mJ f xs n i).Perm xs
 | 0,xs,i,_,_=>Fc _
 | f+1,xs,i,hn,hi=>by
  unfold mJ
  split
  .rename_i a
   have b:=xX xs n i a
   split
   .exact (B0 n f _ _ (by rw [dP];exact hn) (by rw [dP];omega)).trans (yR hi o_)
   .exact Fc _
  .exact Fc _
theorem JG {xs:List Rn} {n:Nat} (g:0<n) (a:n<=xs.length):(aU xs 0::(zS xs n).take (n-1)).Perm (xs.take n):=by
 match n,g with
 | 1,_=>
  match xs,a with
  | x::r,_=>exact Fc _
 | m+2,_=>
  have f:m+2-1=m+1:=rfl
  unfold zS
  rw [f,BZ (m+1) _ _ 0 (.inl o_)]
  match xs,a with
  | x::r,a=>
  have c:m<r.length:=by simp at a;omega
  have b:aU (x::r) (m+1)=r[m]:=by
   unfold aU
   rw [Eu,Aa c]
   rfl
  have e:(List.set (x::r) 0 (aU (x::r) (m+1))).take (m+1)=r[m]::r.take m:=by rw [b];rfl
  rw [e]
  have d:(x::r).take (m+2)=x::(r.take m++[r[m]]):=by
   show x::r.take (m+1)=_
   rw [Lc c]
  rw [d]
  refine List.Perm.cons _ ?_
  refine (B0 (m+1) _ _ 0 q_ s_).trans ?_
  exact (List.perm_append_singleton _ _).symm
theorem oS:∀ (n:Nat) (xs:List Rn),n<=xs.length->(iU n xs).Perm (xs.take n)
 | 0,xs,_=>by simp [iU]
 | n+1,xs,hn=>by
  unfold iU
  have h1:=JG (xs:=xs) (n:=n+1) o_ hn
  have a:=oS n (zS xs (n+1)) (by rw [sY];omega)
  exact (List.Perm.cons _ a).trans h1
theorem DP:∀ (n:Nat) (xs:List Rn),n<=xs.length->Hp n xs->(iU n xs).Pairwise LeR
 | 0,xs,_,_=>by simp [iU]
 | n+1,xs,hn,h=>by
  unfold iU
  refine Ce.2 ⟨fun y b=>?_,DP n _ (by rw [sY];omega) (aFy o_ hn h)⟩
  have h1:=(oS n (zS xs (n+1)) (by rw [sY];omega)).mem_iff.1 b
  have a:=(JG (xs:=xs) (n:=n+1) o_ hn).mem_iff.1 (Bb _ h1)
  obtain ⟨j,c,rfl⟩:=Ks.1 a
  have e:aU xs j=xs[j]:=by
   unfold aU
   rw [Aa o_]
   rfl
  rw [<-e]
  exact h.root j j (Bg _) o_
theorem M9 (l:List Rn):(iV l).Perm l:=by
 unfold iV
 have a:(l.foldl jU []).length=l.length:=by rw [mW];simp
 refine (oS _ _ o_).trans ?_
 rw [Cf o_]
 simpa using wB l []
theorem YF (l:List Rn):(iV l).Pairwise LeR:=by
 unfold iV
 have c:(l.foldl jU []).length=l.length:=by rw [mW];simp
 refine DP _ _ o_ ?_
 rw [<-c]
 exact DN l [] (fun j a b=>by simp at b)
theorem DD {R:Rn->Rn->Prop}:∀ {a b:List Rn},a.Perm b->a.Pairwise R->b.Pairwise R->(∀ x∈a,∀ y∈a,R x y->R y x->x=y)->(∀ x∈a,R x x)->a=b
 | [],b,h,_,_,_,_=>by
  have:=h.length_eq
  exact (Aq (by simpa using this.symm)).symm
 | x::r,[],h,_,_,_,_=>by have:=h.length_eq;simp at this
 | x::r,y::s,h,h1,f,ha,hr=>by
  have h1:=Ce.1 h1
  have f:=Ce.1 f
  have i:x=y:=by
   have j:x∈y::s:=h.mem_iff.1 s_
   have d:y∈x::r:=h.mem_iff.2 s_
   rcases Ao.1 j with e | j
   .exact e
   .rcases Ao.1 d with e | d
    .exact e.symm
    .exact ha x s_ y (by simp [d]) (h1.1 y d) (f.1 x j)
  subst i
  have hp:r.Perm s:=h.cons_inv
  rw [DD hp h1.2 f.2 (fun a c b g=>ha a (by simp [c]) b (by simp [g])) (fun a c=>hr a (by simp [c]))]
def oY (x:Rn) (out:List Rn):Nat->Nat
 | 0=>0
 | k+1=>if dT x (aU out k)=true then oY x out k else k+1
def A0 (out:List Rn) (x:Rn):List Rn:=out.take (oY x out out.length)++[x]++out.drop (oY x out out.length)
def FZ (l:List Rn):List Rn:=l.foldl A0 []
theorem QK (x:Rn) (out:List Rn):∀ (k:Nat),oY x out k<=k
 | 0=>Bg _
 | k+1=>by
  unfold oY
  split
  .have:=QK x out k;omega
  .exact Bg _
theorem D5 (x:Rn) (out:List Rn):∀ (k:Nat),(∀ j,oY x out k<=j->j<k->dT x (aU out j)=true)/\(0<oY x out k->dT x (aU out (oY x out k-1))=false)
 | 0=>⟨fun j _ h=>by omega,fun h=>by simp [oY] at h⟩
 | k+1=>by
  obtain ⟨h1,d⟩:=D5 x out k
  unfold oY
  cases c:dT x (aU out k) with
  | true=>
   rw [if_pos rfl]
   refine ⟨fun j a b=>?_,d⟩
   by_cases e:j=k
   .subst e;exact c
   .exact h1 j a o_
  | false=>
   rw [if_neg d_]
   exact ⟨fun j a b=>by omega,fun _=>c⟩
theorem D6 (out:List Rn) (x:Rn):(A0 out x).Perm (out++[x]):=by
 unfold A0
 generalize oY x out out.length=k
 have h:(out.take k++[x]++out.drop k).Perm (out.take k++out.drop k++[x]):=by
  rw [Aj,Aj]
  exact Fl _ Gi
 rwa [Dj] at h
theorem aCT {out:List Rn} (h:out.Pairwise LeR) (x:Rn):(A0 out x).Pairwise LeR:=by
 have f:=QK x out out.length
 obtain ⟨h1,n⟩:=D5 x out out.length
 unfold A0
 generalize oY x out out.length=k at f h1 n
 have hp:=Dl.1 h
 have m:∀ {j:Nat} (e:j<out.length),aU out j=out[j]:=fun {j} e=>by
  unfold aU
  rw [Aa e]
  rfl
 have d:∀ y∈out.take k,LeR y x:=fun y i=>by
  obtain ⟨j,e,rfl⟩:=Ks.1 i
  have hl:LeR (aU out (k-1)) x:=n o_
  rw [m o_] at hl
  by_cases l:j=k-1
  .subst l;exact hl
  .exact (hp j (k-1) o_ o_ o_).trans hl
 have c:∀ y∈out.drop k,LeR x y:=fun y i=>by
  obtain ⟨j,e,rfl⟩:=List.mem_drop_iff_getElem.1 i
  have:=h1 (k+j) o_ o_
  rw [m o_] at this
  exact GJ this
 have hs:=h
 rw [<-Dj k out,Mf] at hs
 rw [Aj,Mf]
 refine ⟨hs.1,?_,fun a o b g=>?_⟩
 .exact Ce.2 ⟨c,hs.2.1⟩
 .rcases Ao.1 g with rfl | g
  .exact d a o
  .exact hs.2.2 a o b g
theorem DL:∀ (l out:List Rn),(l.foldl A0 out).Perm (out++l)
 | [],out=>by simp
 | x::r,out=>by
  rw [Al]
  refine (DL r _).trans ?_
  have:=(D6 out x).append_right r
  rwa [Aj] at this
theorem PY:∀ (l out:List Rn),out.Pairwise LeR->(l.foldl A0 out).Pairwise LeR
 | [],out,h=>h
 | x::r,out,h=>by rw [Al];exact PY r _ (aCT h x)
theorem JI {l:List Rn} (h:nX l):iV l=FZ l:=by
 have h1:=M9 l
 have g:(FZ l).Perm l:=by have:=DL l [];simpa [FZ] using this
 refine DD (h1.trans g.symm) (YF l) (PY l [] s_) (fun x d y c b a=>?_) (fun x _=>by rw [jJ];omega)
 have d:=h1.mem_iff.1 d
 have c:=h1.mem_iff.1 c
 rw [jJ] at b a
 have hs:x.seq=y.seq:=o_
 obtain ⟨i,f,rfl⟩:=Gq d
 obtain ⟨j,e,rfl⟩:=Gq c
 have hp:=Dl.1 h
 rcases Nat.lt_trichotomy i j with h1 | rfl | h1
 .exact absurd hs (hp i j f e h1).2
 .rfl
 .exact absurd hs.symm (hp j i e f h1).2
noncomputable abbrev fRO:Func:=Tryz.f269
abbrev roF (l out:List Rn) (i:Int):List (Nat×AVal):=[(0,.slice 14 (rav l) .no),(3,.slice 14 (rav out) .no),(4,ii i)]
theorem aG5 (l:List Rn) (R:AVal) (x:Rn) (i:Nat) (w:i<1048576) (e:(rav l)[i]? =some x.av) (out:List Rn) (z:out.length<=1048576)
  (next:∀ K:Nat,K<=out.length->K=oY x out out.length->To (Er [] [70,71,72]) fRO (.pure (.ret R)) (.head (stk fRO 0) [(0,.slice 14 (rav l) .no),(3,.slice 14 ((rav out).take K++[x.av]++(rav out).drop K) .no),(4,ii ((i:Int)+1))] [])):∀ (k:Nat),k<=out.length->oY x out out.length=oY x out k->
  To (Er [] [70,71,72]) fRO (.pure (.ret R)) (.head (stk fRO 1) (roF l out i++[(5,ii k)]) []):=by
 have q:(rav out).length=out.length:=by simp
 intro k
 induction k with
 | zero=>
  intro o g
  have next:=next 0 (Bt _) (by rw [g];rfl)
  have t:(Fv 0 (rav out)).length=0:=by simp
  refine gV ?_
  repeat' first | (refine gN (hEr [] [70,71,72]) ?_;conv=>whnf) | refine Aw 0 (Ad o_ ?_) | refine ⟨i,rfl,?_⟩ | refine ⟨_,e,?_⟩ | refine ⟨⟨by simp only [maxLen];simp;omega,by simp;omega⟩,?_⟩ | refine Ad (Ad (by simp [maxLen]) s_) ?_ | exact rfl | refine aY ?_ | refine aN ?_ | refine aT fun h=>?_ | refine aF fun h=>?_ | refine ⟨fun h=>?_,fun h=>?_⟩ | refine aJ ?_ | refine ⟨_,rfl,?_⟩ | refine aD ?_ | fail
  exact zW
 | succ k r=>
  intro o g
  have d:=tK (xs:=out) (i:=k) o_
  have f:=rX (a:=x) (b:=aU out k)
  have v:oY x out (k+1)=if dT x (aU out k)=true then oY x out k else k+1:=rfl
  rw [v] at g
  have n:dT x (aU out k)=false->To (Er [] [70,71,72]) fRO (.pure (.ret R)) (.head (stk fRO 0) [(0,.slice 14 (rav l) .no),(3,.slice 14 ((rav out).take (k+1)++[x.av]++(rav out).drop (k+1)) .no),(4,ii ((i:Int)+1))] []):=fun h=>next (k+1) o (by rw [g,if_neg (by rw [h];decide)])
  have m:dT x (aU out k)=true->To (Er [] [70,71,72]) fRO (.pure (.ret R)) (.head (stk fRO 1) (roF l out i++[(5,ii k)]) []):=fun h=>r o_ (by rw [g,if_pos h])
  generalize aU out k=y at d f n m
  have p:((k+1:Nat):Int)-1=((k:Nat):Int):=o_
  by_cases s:y.st<x.st
  .have next:=m (f.2 (.inl s))
   have c:((0:Int)==0)=true:=rfl
   refine gV ?_
   repeat' first
    | (refine gN (hEr [] [70,71,72]) ?_;conv=>whnf)
    | refine Aw (k+1) (Ad rfl ?_)
    | refine Aw k (Ad o_ ?_)
    | refine Aw i (Ad rfl ?_)
    | refine Aw _ (Ad e ?_)
    | refine Aw _ (Ad d ?_)
    | refine ⟨⟨by simp only [maxLen];simp;omega,by simp;omega⟩,?_⟩
    | refine aY ?_
    | refine aN ?_
    | refine aT fun h=>?_
    | refine aF fun h=>?_
    | refine Ad (fun h=>?_) (fun h=>absurd h (by rw [c];decide))
    | refine Ad (fun h=>absurd h (by rw [c];decide)) (fun h=>?_)
    | refine Ad (Ad (by simp only [cL];omega) (by simp only [bI];omega)) ?_
    | refine aJ ?_
    | refine Ad o_ ?_
    | fail
   rw [p]
   exact To.cut [0,3,4,5] 0 rfl rfl rfl rfl next
  .by_cases j:y.st=x.st
   .have c:(y.st==x.st)=true:=by simp [j]
    by_cases u:y.seq<x.seq
    .have next:=m (f.2 (.inr ⟨j,u⟩))
     refine gV ?_
     repeat' first
      | (refine gN (hEr [] [70,71,72]) ?_;conv=>whnf)
      | refine Aw (k+1) (Ad rfl ?_)
      | refine Aw k (Ad o_ ?_)
      | refine Aw i (Ad rfl ?_)
      | refine Aw _ (Ad e ?_)
      | refine Aw _ (Ad d ?_)
      | refine ⟨⟨by simp only [maxLen];simp;omega,by simp;omega⟩,?_⟩
      | refine aY ?_
      | refine aN ?_
      | refine aT fun h=>?_
      | refine aF fun h=>?_
      | refine Ad (fun h=>?_) (fun h=>absurd h (by rw [c];decide))
      | refine Ad (fun h=>absurd h (by rw [c];decide)) (fun h=>?_)
      | refine Ad (Ad (by simp only [cL];omega) (by simp only [bI];omega)) ?_
      | refine aJ ?_
      | refine Ad o_ ?_
      | fail
     rw [p]
     exact To.cut [0,3,4,5] 0 rfl rfl rfl rfl next
    .have next:=n (by cases h:dT x y with | false=>rfl | true=>have:=f.1 h;omega)
     refine gV ?_
     repeat' first
      | (refine gN (hEr [] [70,71,72]) ?_;conv=>whnf)
      | refine Aw (k+1) (Ad rfl ?_)
      | refine Aw k (Ad o_ ?_)
      | refine Aw i (Ad rfl ?_)
      | refine Aw _ (Ad e ?_)
      | refine Aw _ (Ad d ?_)
      | refine ⟨⟨by simp only [maxLen];simp;omega,by simp;omega⟩,?_⟩
      | refine aY ?_
      | refine aN ?_
      | refine aT fun h=>?_
      | refine aF fun h=>?_
      | refine Ad (fun h=>?_) (fun h=>absurd h (by rw [c];decide))
      | refine Ad (fun h=>absurd h (by rw [c];decide)) (fun h=>?_)
      | refine Ad (Ad (by simp only [cL];omega) (by simp only [bI];omega)) ?_
      | refine aJ ?_
      | refine Ad o_ ?_
      | fail
     exact zW
   .have c:(y.st==x.st)=false:=by simp [j]
    have next:=n (by cases h:dT x y with | false=>rfl | true=>have:=f.1 h;omega)
    refine gV ?_
    repeat' first
     | (refine gN (hEr [] [70,71,72]) ?_;conv=>whnf)
     | refine Aw (k+1) (Ad rfl ?_)
     | refine Aw k (Ad o_ ?_)
     | refine Aw i (Ad rfl ?_)
     | refine Aw _ (Ad e ?_)
     | refine Aw _ (Ad d ?_)
     | refine ⟨⟨by simp only [maxLen];simp;omega,by simp;omega⟩,?_⟩
     | refine aY ?_
     | refine aN ?_
     | refine aT fun h=>?_
     | refine aF fun h=>?_
     | refine Ad (fun h=>?_) (fun h=>absurd h (by rw [c];decide))
     | refine Ad (fun h=>absurd h (by rw [c];decide)) (fun h=>?_)
     | refine Ad (Ad (by simp only [cL];omega) (by simp only [bI];omega)) ?_
     | refine aJ ?_
     | refine Ad o_ ?_
     | fail
    exact zW
theorem aFg (l:List Rn) (hl:l.length<=1000000) (R:List Rn):∀ (m i:Nat) (out:List Rn),i+m=l.length->out.length=i->(l.drop i).foldl A0 out=R->
  To (Er [] [70,71,72]) fRO (.pure (.ret (.slice 14 (rav R) .no))) (.head (stk fRO 0) (roF l out i) []):=by
 have g:(rav l).length=l.length:=by simp
 intro m
 induction m with
 | zero=>
  intro i out k o a
  rw [Ae o_] at a
  have a:out=R:=a
  subst a
  refine gV ?_
  exact zW
 | succ m j=>
  intro i out k o a
  have b:i<l.length:=o_
  rw [Ac b,Al] at a
  have f:(rav l)[i]? =some l[i].av:=dH b
  generalize l[i]=x at a f
  have d:(rav out).length=out.length:=by simp
  have c:=aG5 l (.slice 14 (rav R) .no) x i o_ f out o_ (fun K n p=>by
   have e:(rav out).take K++[x.av]++(rav out).drop K=rav (A0 out x):=by unfold A0;rw [<-p];simp
   rw [e]
   exact j (i+1) (A0 out x) o_ (by have:=(D6 out x).length_eq;simp at this;omega) a) out.length (Bg _) rfl
  refine gV ?_
  refine aT fun h=>?_
  rw [<-d] at c
  exact zW
theorem SL (l:List Rn) (hl:l.length<=1000000):aA Tryz.prog 269 [.slice 14 (rav l) .no] [] (.ret (.slice 14 (rav (FZ l)) .no)) []:=by
 refine cT (E:=(Er [] [70,71,72])) (fn:=Tryz.f269) (g:=.pure _) fun _=>?_
 have a:=aFg l hl _ l.length 0 [] o_ rfl rfl
 exact zW
theorem IF (c:Con) (i:c.sm) (a:List V3) (t:Int) (need:V3) (r:Bool) (b:pX c a t need=r):aA Tryz.prog 213 [c.av,.slice 3 (vav a) .no,ii t,need.av] [] (.ret (.bool r)) []:=by
 have d:=iM c i t
 rw [oN] at d
 unfold pX at b
 cases h:aW c.ns t with
 | false=>
  rw [h] at d
  rw [if_neg (by rw [h];decide)] at b
  subst b
  exact c_ Tryz.f213 fun _=>zW
 | true=>
  rw [h] at d
  rw [if_pos h] at b
  have j:=DY h
  have l:t=(t.toNat:Int):=o_
  have e:=HX (c:=c) j
  generalize bT c.ns t=x at e b
  have h1:=sX a t
  generalize atV a t=q1 at h1 b
  have k:=jG q1 need
  generalize dG q1 need=q2 at k b
  have h3:=jQ q2 x.n
  rw [b] at h3
  exact c_ Tryz.f213 fun _=>zW
theorem L9 (c:Con) (b:c.sm) (a:List V3) (t:Int) (need:V3):aA Tryz.prog 213 [c.av,.slice 3 (vav a) .no,ii t,need.av] [] (.ret (.bool (pX c a t need))) []:=IF c b a t need _ rfl
theorem FY (c:Con) (k:c.sm) (a:List V3) (t:Int) (r:Bool) (b:cX c a t=r):aA Tryz.prog 270 [c.av,.slice 3 (vav a) .no,ii t] [] (.ret (.bool r)) []:=by
 have d:=iM c k t
 rw [oN] at d
 unfold cX at b
 cases h:aW c.ns t with
 | false=>
  rw [h] at d
  rw [if_neg (by rw [h];decide)] at b
  exact zqra5
 | true=>
  rw [h] at d
  rw [if_pos h] at b
  have j:=DY h
  have l:t=(t.toNat:Int):=o_
  have e:=HX (c:=c) j
  generalize bT c.ns t=x at e b
  have h1:=sX a t
  generalize atV a t=q1 at h1 b
  have h3:=jQ q1 x.n
  cases i:bK q1 x.n with
  | false=>
   rw [i] at h3 b
   have b:true=r:=b
   exact zqra5
  | true=>
   rw [i] at h3 b
   have b:false=r:=b
   exact zqra5
theorem IX (c:Con) (b:c.sm) (a:List V3) (t:Int):aA Tryz.prog 270 [c.av,.slice 3 (vav a) .no,ii t] [] (.ret (.bool (cX c a t))) []:=FY c b a t _ rfl
theorem vY (c:Con) (j:c.sm) (l:List Rn) (hs:Sm l) (g:Gan) (i:0<=g.pods/\g.pods<=16) (d:aM g.need=true) (ids:List Int) (e:ids.length<=1048576) (r:Bool) (a:qW c l g ids=r):
  aA Tryz.prog 214 [c.av,.slice 14 (rav l) .no,g.av,.slice 1 (iv ids) .no] [] (.ret (.bool r)) []:=by
 have h:=kU l hs ids e
 have b:=jS c j (aC l ids) (mR hs ids) g i d
 unfold qW at a
 generalize aC l ids=left at h b a
 generalize cE c left g=Q at b a
 subst a
 unfold fdA at b
 cases Q with
 | none=>
  exact c_ Tryz.f214 fun _=>zW
 | some x=>
  exact c_ Tryz.f214 fun _=>zW
def nxA:Option Int->Int
 | some n=>n
 | none=>0
noncomputable abbrev fNx:Func:=Tryz.f215
theorem MH (c:Con) (p:c.sm) (a:List V3) (o:List Rn) (s:o.length<=1048576) (r:Int):∀ (m i:Nat),i+m=o.length->(if bB (fun x=>cX c a x.g.ten) (o.drop i) i<0 then 0 else (aU o (bB (fun x=>cX c a x.g.ten) (o.drop i) i).toNat).g.id)=r->
  To E fNx (.pure (.ret (ii r))) (.head (stk fNx 0) [(3,.ref 0 0),(8,.slice 3 (vav a) .no),(9,.slice 14 (rav o) .no),(10,ii i)] [.cells 26 c.cs]):=by
 have l:(rav o).length=o.length:=by simp
 intro m
 induction m with
 | zero=>
  intro i n b
  rw [Ae o_] at b
  have b:0=r:=b
  subst b
  refine gV ?_
  exact zW
 | succ m f=>
  intro i n b
  have d:i<o.length:=o_
  have k:=tK d
  have h:aU o i=o[i]:=by unfold aU;rw [Aa d];rfl
  rw [Ac d,<-h] at b
  have e:=IX c p a (aU o i).g.ten
  have f:=f (i+1) o_
  have q:bB (fun x=>cX c a x.g.ten) (aU o i::o.drop (i+1)) i=if cX c a (aU o i).g.ten=true then (i:Int) else bB (fun x=>cX c a x.g.ten) (o.drop (i+1)) (i+1):=rfl
  rw [q] at b
  cases j:cX c a (aU o i).g.ten with
  | true=>
   rw [j] at e b
   rw [if_pos rfl,if_neg o_,Cl] at b
   subst b
   generalize aU o i=x at k e
   refine gV ?_
   exact zW
  | false=>
   rw [j] at e b
   simp only [Cv,if_false] at b
   have next:=f b
   generalize aU o i=x at k e
   refine gV ?_
   exact zW
theorem sG {l:List Rn} (a:nX l) (ids:List Int):nX (aC l ids):=a.sublist Hz
theorem W0 (c:Con) (k:c.sm) (l:List Rn) (hs:Sm l) (hl:l.length<=1000000) (j:nX l) (ids:List Int) (p:ids.length<=1048576):aA Tryz.prog 215 [c.av,.slice 14 (rav l) .no,.slice 1 (iv ids) .no] [] (.ret (ii (nxA (AI c l ids)))) []:=by
 have i:=kU l hs ids p
 have hsl:=mR hs ids
 have n:(aC l ids).length<=l.length:=Fk _ _
 have a:=qAa c k (aC l ids) hsl.1
 have b:=SL (aC l ids) o_
 have m:nxA (AI c l ids)=if bB (fun x=>cX c (ofL c (aC l ids)) x.g.ten) (FZ (aC l ids)) 0<0 then 0 else (aU (FZ (aC l ids)) (bB (fun x=>cX c (ofL c (aC l ids)) x.g.ten) (FZ (aC l ids)) 0).toNat).g.id:=by
  rw [<-JI (sG j ids)]
  unfold AI
  have e:atI c l ids=bB (fun x=>cX c (ofL c (aC l ids)) x.g.ten) (iV (aC l ids)) 0:=rfl
  rw [<-e]
  split
  .rfl
  .rfl
 have d:(FZ (aC l ids)).length<=1048576:=by
  rw [<-JI (sG j ids),NA]
  exact hsl.1
 rw [m]
 generalize ofL c (aC l ids)=us at a
 generalize FZ (aC l ids)=o at b d
 generalize aC l ids=left at i a b
 refine c_ Tryz.f215 fun _=>?_
 repeat' first | (refine gN hE ?_;conv=>whnf) | refine .pure _ [] i ?_ | refine .pure _ [] a ?_ | refine .pure _ [] b ?_ | exact rfl | refine aY ?_ | refine aN ?_ | refine aT fun h=>?_ | refine aF fun h=>?_ | refine ⟨fun h=>?_,fun h=>?_⟩ | refine aJ ?_ | refine ⟨_,rfl,?_⟩ | refine aD ?_ | fail
 exact To.cut [3,8,9,10] 1 rfl rfl rfl rfl (MH c k us o d _ o.length 0 o_ rfl)
noncomputable abbrev fRC:Func:=Tryz.f146
abbrev rcO (c:Con) (g:Gan):List AObj:=[.cells 26 c.cs,.cells 36 g.cs]
abbrev rcF (l:List Rn) (ids:List Int):List (Nat×AVal):=[(1,.slice 14 (rav l) .no),(3,.ref 0 0),(5,.ref 1 0),(8,.slice 1 (iv ids) .no)]
abbrev aB7 (l:List Rn) (ids all:List Int) (i:Int):List (Nat×AVal):=rcF l ids++[(10,.slice 1 (iv all) .no),(11,ii i)]
theorem aHb (c:Con) (g:Gan) (l:List Rn) (G:AVal) (ids all:List Int) (z:ids.length<=1048576) (i:Nat) (w:i<1048576) (a:Int) (y:(iv all)[i]? =some (ii a)) (R:List Int)
  (next:To (Eo [8,12] []) fRC (.pure (.ret G)) (.head (stk fRC 2) (aB7 l ids all i++[(12,.slice 1 (iv R) (.own 2 0)),(13,ii (ids.length:Nat))]) (rcO c g++[.tail 0 1 3]))):∀ (m k:Nat) (b:List Int),k+m=ids.length->b.length<=k->b++jY (ids.drop k) a=R->
  To (Eo [8,12] []) fRC (.pure (.ret G)) (.head (stk fRC 2) (aB7 l ids all i++[(12,.slice 1 (iv b) (.own 2 0)),(13,ii k)]) (rcO c g++[.tail 0 1 3])):=by
 have q:(iv ids).length=ids.length:=by simp
 intro m
 induction m with
 | zero=>
  intro k b j v d
  rw [Ae o_] at d
  have d:b++[]=R:=d
  rw [Bo] at d
  subst d
  have j:k=ids.length:=o_
  subst j
  exact next
 | succ m o=>
  intro k b j v d
  have f:k<ids.length:=o_
  rw [Ac f] at d
  have r:=cH f
  generalize ids[k]=x at d r
  have s:(iv b).length=b.length:=by simp
  unfold jY at d
  rw [Ht] at d
  have h:(x !=a)= !(x==a):=rfl
  cases p:(x==a) with
  | true=>
   rw [p] at h d
   have u:(x !=a)=false:=h
   have n:=o (k+1) b o_ o_ d
   refine gV ?_
   exact zW
  | false=>
   rw [p] at h d
   have u:(x !=a)=true:=h
   have n:=o (k+1) (b++[x]) o_ q_ (by rw [Aj];exact d)
   have e:iv (b++[x])=iv b++[ii x]:=by simp
   rw [e] at n
   refine gV ?_
   exact zW
theorem aIb (c:Con) (r:c.sm) (l:List Rn) (hs:Sm l) (g:Gan) (s:0<=g.pods/\g.pods<=16) (q:aM g.need=true) (all:List Int) (w:all.length<=1048576) (R:List Int):∀ (m i:Nat) (ids:List Int),i+m=all.length->ids.length<=1048576->(all.drop i).foldl (chS c l g) ids=R->
  To (Eo [8,12] []) fRC (.pure (.ret (.tup [.slice 1 (iv R) .no,.bool true]))) (.head (stk fRC 1) (aB7 l ids all i) (rcO c g)):=by
 have n:(iv all).length=all.length:=by simp
 intro m
 induction m with
 | zero=>
  intro i ids o h b
  rw [Ae o_] at b
  have b:ids=R:=b
  subst b
  refine gV ?_
  exact zW
 | succ m e=>
  intro i ids o h b
  have d:i<all.length:=o_
  rw [Ac d,Al] at b
  have k:=cH d
  generalize all[i]=a at b k
  have e:=e (i+1)
  have v:=TQ ids a
  have u:(iv ids).length=ids.length:=by simp
  have h1:=vY c r l hs g s q (jY ids a) o_ _ rfl
  have j:chS c l g ids a=if qW c l g (jY ids a)=true then jY ids a else ids:=rfl
  rw [j] at b
  have fin:To (Eo [8,12] []) fRC (.pure (.ret (.tup [.slice 1 (iv R) .no,.bool true]))) (.head (stk fRC 2) (aB7 l ids all i++[(12,.slice 1 (iv (jY ids a)) (.own 2 0)),(13,ii (ids.length:Nat))]) (rcO c g++[.tail 0 1 3])):=by
   cases f:qW c l g (jY ids a) with
   | true=>
    rw [if_pos f] at b
    rw [f] at h1
    have next:=e (jY ids a) o_ o_ b
    refine gV ?_
    exact zW
   | false=>
    rw [if_neg (by rw [f];decide)] at b
    rw [f] at h1
    have next:=e ids o_ h b
    refine gV ?_
    exact zW
  have p:=aHb c g l _ ids all h i o_ a k (jY ids a) fin ids.length 0 [] o_ s_ rfl
  refine gV ?_
  exact zW
theorem aIc (c:Con) (q:c.sm) (l:List Rn) (hs:Sm l) (hl:l.length<=1000000) (v:nX l) (i:∀ x∈l,x.g.id≠0) (g:Gan) (s:0<=g.pods/\g.pods<=16) (r:aM g.need=true) (R:Option (List Int)):∀ (f:Nat) (ids:List Int),(aC l ids).length<f->ids.length+(aC l ids).length<=l.length->chB c l g (chA c l g f ids)=R->
  To (Eo [8,12] []) fRC (.pure (.ret (chR R))) (.head (stk fRC 0) (rcF l ids) (rcO c g)):=by
 intro f
 induction f with
 | zero=>intro ids h;omega
 | succ f u=>
  intro ids C B a
  have w:(iv ids).length=ids.length:=by simp
  have h1:=vY c q l hs g s r ids o_ _ rfl
  have b:=W0 c q l hs hl v ids o_
  unfold chA at a
  cases m:qW c l g ids with
  | true=>
   rw [if_pos m] at a
   rw [m] at h1
   have a:some (ids.foldl (chS c l g) ids)=R:=a
   subst a
   have next:=aIb c q l hs g s r ids o_ _ ids.length 0 ids o_ o_ rfl
   refine gV ?_
   exact zW
  | false=>
   rw [if_neg (by rw [m];decide)] at a
   rw [m] at h1
   have k:=fun n=>DW (c:=c) (l:=l) (ids:=ids) (n:=n)
   cases p:AI c l ids with
   | none=>
    rw [p] at a b
    have a:none=R:=a
    subst a
    have b:aA Tryz.prog 215 [c.av,.slice 14 (rav l) .no,.slice 1 (iv ids) .no] [] (.ret (ii 0)) []:=b
    refine gV ?_
    exact zW
   | some n=>
    obtain ⟨y,j,d,_⟩:=k n p
    have t:=E7 ⟨y,j,d⟩
    have o:n≠0:=by rw [<-d];exact i y (fZ.1 j).1
    rw [p] at a b
    have b:aA Tryz.prog 215 [c.av,.slice 14 (rav l) .no,.slice 1 (iv ids) .no] [] (.ret (ii n)) []:=b
    have next:=u (ids++[n]) o_ q_ a
    have e:iv (ids++[n])=iv ids++[ii n]:=by simp
    unfold rcF at next
    rw [e] at next
    have z:(n==0)=false:=by simp [o]
    refine gV ?_
    exact zW
theorem IW (c:Con) (e:c.sm) (l:List Rn) (hs:Sm l) (hl:l.length<=1000000) (k:nX l) (b:∀ x∈l,x.g.id≠0) (g:Gan) (m:0<=g.pods/\g.pods<=16) (j:aM g.need=true) (R:Option (List Int)) (a:fT c l g=R):aA Tryz.prog 146 [c.av,.slice 14 (rav l) .no,g.av] [] (.ret (chR R)) []:=by
 have i:=qAa c e l hs.1
 have n:=FW g
 have h:=L9 c e (ofL c l) g.ten (dem g)
 unfold fT at a
 cases d:pX c (ofL c l) g.ten (dem g) with
 | false=>
  rw [if_neg (by rw [d];decide)] at a
  rw [d] at h
  subst a
  exact zqra7
 | true=>
  rw [if_pos d] at a
  rw [d] at h
  have next:=aIc c e l hs hl k b g m j R (l.length+1) [] (by rw [kS];omega) (by rw [kS];simp) (by rw [<-a];unfold chB;split<;>rfl)
  exact zqra7
theorem aDY {c:Con} {l:List Rn} {g:Gan} {R:List Int} (e:nX l) (h:fT c l g=some R):R.length<=l.length:=by
 obtain ⟨_,b,f,_⟩:=wL h
 have:=vQ e b fun n a=>by
  obtain ⟨_,x,h1,d,_⟩:=f n a
  exact ⟨x,h1,d⟩
 omega
abbrev cY:Int:=1099511627776
theorem pQ {v e:Int} (b:0<=v) (h1:v<=cY) (a:0<=e):hD v e=min (v+e) cY:=by unfold hD eV cY at *;omega
def cG:List Int->Int
 | []=>0
 | x::r=>x+cG r
theorem jO:∀ {es:List Int},(∀ e∈es,0<=e)->0<=cG es
 | [],_=>Dc _
 | x::r,h=>by
  have:=jO (es:=r) fun e a=>h e (by simp [a])
  have:=h x s_
  unfold cG
  omega
theorem sS:∀ {es:List Int} {v:Int},0<=v->v<=cY->(∀ e∈es,0<=e)->es.foldl hD v=min (v+cG es) cY
 | [],v,h0,h1,_=>by
  unfold cG
  show v=_
  omega
 | x::r,v,h0,h1,h=>by
  have b:=h x s_
  have c:=jO (es:=r) fun e a=>h e (by simp [a])
  rw [Al,pQ h0 h1 b,sS (by unfold cY at *;omega) o_ fun e a=>h e (by simp [a])]
  have e:cG (x::r)=x+cG r:=rfl
  rw [e]
  omega
structure Prj (p:V3->Int):Prop where
 add:∀ u v,p (dG u v)=hD (p u) (p v)
 sub:∀ u v,p (sI u v)=R4 (p u) (p v)
 pos:∀ u,p (S8 u)=max (p u) 0
 zero:p V3.zero=0
theorem aCg:Prj V3.a:=⟨fun _ _=>rfl,fun _ _=>rfl,fun _=>rfl,rfl⟩
theorem aCf:Prj V3.b:=⟨fun _ _=>rfl,fun _ _=>rfl,fun _=>rfl,rfl⟩
theorem aCe:Prj V3.c:=⟨fun _ _=>rfl,fun _ _=>rfl,fun _=>rfl,rfl⟩
section
variable {p:V3->Int} (hp:Prj p)
include hp
theorem FI (us:List V3):∀ (B:List Int) (v:V3),p (B.foldl (smS us) v)=(B.map fun t=>p (atV us t)).foldl hD (p v)
 | [],v=>rfl
 | t::r,v=>by
  rw [Al,FI us r,Bk,Al]
  congr 1
  exact hp.add _ _
def kE (ns:List Nod) (p:V3->Int) (us:List V3) (t s:Int):Int:=if s=t then 0 else max (R4 (p (sI (bT ns s).n (bT ns s).l)) (p (atV us s))) 0
theorem QG (ns:List Nod) (us:List V3) (t:Int):∀ (B:List Int) (v:V3),0<=p v->p v<=cY->p (B.foldl (tF ns us t) v)=(B.map (kE ns p us t)).foldl hD (p v)
 | [],v,_,_=>rfl
 | s::r,v,h0,h1=>by
  rw [Al,Bk,Al]
  have e:p (tF ns us t v s)=hD (p v) (kE ns p us t s):=by
   unfold tF kE
   by_cases h:s=t
   .rw [if_pos (decide_eq_true h),if_pos h,pQ h0 h1 (Dc _)]
    omega
   .rw [if_neg (by rw [decide_eq_false h];decide),if_neg h,hp.add,hp.pos,hp.sub]
  have b:0<=kE ns p us t s:=by unfold kE;split<;>omega
  have a:0<=hD (p v) (kE ns p us t s)/\hD (p v) (kE ns p us t s)<=cY:=by
   rw [pQ h0 h1 b]
   unfold cY at *
   omega
  rw [QG ns us t r _ (by rw [e];exact a.1) (by rw [e];exact a.2),e]
end
theorem aCq (c:Con) (l:List Rn):(ofL c l).length=c.ns.length:=by unfold ofL kR;simp
theorem aCo {c:Con} {l:List Rn} (e:∀ x∈l,(dem x.g).pos) (q:Rn->Bool) (s:Int):(0<=(atV (ofL c (l.filter q)) s).a/\0<=(atV (ofL c (l.filter q)) s).b/\0<=(atV (ofL c (l.filter q)) s).c)/\(atV (ofL c (l.filter q)) s).le (atV (ofL c l) s)/\((atV (ofL c l) s).a<=cY/\(atV (ofL c l) s).b<=cY/\(atV (ofL c l) s).c<=cY):=by
 by_cases hs:0<=s/\s.toNat<c.ns.length
 .rw [wE hs,wE hs]
  obtain ⟨h1,d⟩:=sM (c:=c) (j:=s.toNat) q l V3.zero V3.zero e (AP _) HT
  have h3:=(sM (c:=c) (j:=s.toNat) (fun _=>true) (l.filter q) V3.zero V3.zero (fun x h=>e x (Dw.1 h).1) (AP _) HT).2
  exact ⟨⟨h3.1.1,h3.2.1.1,h3.2.2.1⟩,h1,d.1.2,d.2.1.2,d.2.2.2⟩
 .have z:∀ l,atV (ofL c l) s=V3.zero:=fun l=>by
   unfold atV
   by_cases f:s<0
   .rw [if_pos (decide_eq_true f)]
   .rw [if_neg (by rw [decide_eq_false f];decide),Bj (by rw [aCq];omega)]
    rfl
  rw [z,z]
  exact ⟨by decide,AP _,by decide⟩
theorem T4 (need:V3) (xs:List V3) (h:Int) (j:Nat):((mF need xs h)[j]?).getD V3.zero=if 0<=h/\h.toNat<xs.length/\h.toNat=j then sI ((xs[j]?).getD V3.zero) need else (xs[j]?).getD V3.zero:=by
 unfold mF
 by_cases h1:0<=h
 .rw [if_pos (decide_eq_true h1)]
  by_cases a:h<(xs.length:Int)
  .rw [if_pos (decide_eq_true a),Ez]
   by_cases h3:h.toNat=j
   .rw [if_pos h3,if_pos o_,if_pos ⟨h1,by omega,h3⟩,h3]
    rfl
   .rw [if_neg h3,if_neg (fun q=>h3 q.2.2)]
  .rw [if_neg (by rw [decide_eq_false a];decide),if_neg (fun q=>by omega)]
 .rw [if_neg (by rw [decide_eq_false h1];decide),if_neg (fun q=>h1 q.1)]
def wiS (h:Int) (b:Bool) (y:Int):Bool:=if b=true then true else decide (y=h)
def C4 (G hs:List Int):Bool:=hs.all fun h=>G.foldl (wiS h) false
def aGz (h n y:Int):Int:=if y=h then n+1 else n
def xE (h:Int) (l:List Int):Int:=l.foldl (aGz h) 0
def Z9 (free:List V3) (need:V3) (hs:List Int) (h:Int):Bool:=if decide (h<0)=true then false else if decide ((free.length:Int)<=h)=true then false else !decide (cS ((free[h.toNat]?).getD V3.zero) need<xE h hs)
def BC (free:List V3) (need:V3) (hs:List Int):Bool:=hs.all (Z9 free need hs)
def oC (free:List V3) (need:V3) (hs:List Int) (G:List Int):Bool:=C4 G hs&&BC free need hs
def oD (c:Con) (free:List V3) (g:Gan) (hs:List Int):Bool:=if ((hs.length:Int)=g.pods) then (gpL c g.lev).any (oC free g.need hs) else false
theorem HN {c:Con} {lv a b:Int} (d:0<=lv) (h3:lv<=3):alB c lv a b=true↔nZ c lv a=nZ c lv b:=by
 rw [HM c lv a b d h3]
 simp
theorem XC {c:Con} {lv a b:Int} (d:0<=lv) (h3:lv<=3) (h:nZ c lv a=nZ c lv b):∀ (s:List (List Int)) (n:Nat),cN c lv a s n=cN c lv b s n
 | [],n=>rfl
 | g::r,n=>by
  unfold cN
  rw [XC d h3 h r (n+1),HM c lv _ a d h3,HM c lv _ b d h3,h]
theorem XB (c:Con) (lv i x:Int):∀ (s:List (List Int)) (k n:Nat),(∀ g∈s,g≠[])->cN c lv i (s.set k ((s[k]?).getD []++[x])) n=cN c lv i s n
 | [],k,n,_=>by simp
 | g::r,0,n,h=>by
  have b:=h g (Az ..)
  cases g with
  | nil=>exact absurd rfl b
  | cons a t=>rfl
 | g::r,k+1,n,h=>by
  have d:=XB c lv i x r k (n+1) (fun g b=>h g (Bb _ b))
  show cN c lv i (g::r.set k ((r[k]?).getD []++[x])) n=_
  unfold cN
  rw [d]
theorem PU (c:Con) (lv i:Int) (g:List Int):∀ (s:List (List Int)) (n:Nat),cN c lv i (s++[g]) n=match cN c lv i s n with
   | some k=>some k
   | none=>if alB c lv (g.headD 0) i=true then some (n+s.length) else none
 | [],n=>by simp [cN]
 | q::r,n=>by
  show cN c lv i (q::(r++[g])) n=_
  unfold cN
  by_cases h:alB c lv (q.headD 0) i=true
  .rw [if_pos h,if_pos h]
  .rw [if_neg h,if_neg h,PU c lv i g r (n+1)]
   rw [show n+(q::r).length=n+1+r.length from by simp;omega]
theorem PT {c:Con} {lv i:Int}:∀ {s:List (List Int)} {n k:Nat},cN c lv i s n=some k->n<=k/\∃ G,s[k-n]? =some G/\alB c lv (G.headD 0) i=true
 | [],n,k,h=>by cases h
 | g::r,n,k,h=>by
  unfold cN at h
  by_cases h1:alB c lv (g.headD 0) i=true
  .rw [if_pos h1] at h
   cases h
   exact ⟨Bg _,g,by simp,h1⟩
  .rw [if_neg h1] at h
   obtain ⟨b,G,h3,a⟩:=PT h
   refine ⟨by omega,G,?_,a⟩
   rw [show k-n=(k-(n+1))+1 from by omega]
   exact h3
def aEg (c:Con) (lv:Int) (m:Nat) (s:List (List Int)):Prop:=
 (∀ a:Nat,a<m->∃ k G,cN c lv (a:Int) s 0=some k/\s[k]? =some G/\(a:Int)∈G)/\∀ G∈s,G≠[]/\G.Nodup/\∀ x∈G,0<=x/\x<(m:Int)/\alB c lv (G.headD 0) x=true
theorem ZP {c:Con} {lv:Int} (I:0<=lv) (h3:lv<=3) {m:Nat} {s:List (List Int)} (h:aEg c lv m s):aEg c lv (m+1) (rgS c lv s m):=by
 obtain ⟨h1,w⟩:=h
 have D:∀ g∈s,g≠[]:=fun g J=>(w g J).1
 unfold rgS
 cases A:cN c lv (m:Int) s 0 with
 | some k=>
  obtain ⟨_,j,e,B⟩:=PT A
  rw [Hu] at e
  have F:k<s.length:=(Ab.1 e).1
  have r:j∈s:=Av e
  refine ⟨fun a K=>?_,fun G d=>?_⟩
  .show ∃ i G,cN c lv (a:Int) (s.set k ((s[k]?).getD []++[(m:Int)])) 0=some i/\(s.set k ((s[k]?).getD []++[(m:Int)]))[i]? =some G/\(a:Int)∈G
   rw [XB c lv (a:Int) (m:Int) s k 0 D,e]
   by_cases l:a=m
   .subst l
    refine ⟨k,_,A,by rw [Ax F],by simp⟩
   .obtain ⟨i,C,u,n,v⟩:=h1 a o_
    by_cases p:k=i
    .subst p
     rw [e] at n
     cases n
     exact ⟨k,j++[(m:Int)],u,by rw [Ax F];rfl,Ay.2 (.inl v)⟩
    .exact ⟨i,C,u,by rw [Bh p];exact n,v⟩
  .have d:G∈s.set k ((s[k]?).getD []++[(m:Int)]):=d
   rw [e] at d
   have d:G∈s.set k (j++[(m:Int)]):=d
   rcases Da d with d | rfl
   .exact zqra8
   .obtain ⟨o,q,f⟩:=w j r
    have z:(j++[(m:Int)]).headD 0=j.headD 0:=by
     cases j with
     | nil=>exact absurd rfl o
     | cons y t=>rfl
    refine ⟨by simp,?_,fun x b=>?_⟩
    .rw [Br]
     refine ⟨q,by simp,fun x b y H=>?_⟩
     simp at H
     subst H
     have:=(f x b).2.1
     omega
    .rw [z]
     rcases Ay.1 b with b | b
     .exact ⟨(f x b).1,by have:=(f x b).2.1;omega,(f x b).2.2⟩
     .simp at b
      subst b
      exact ⟨by omega,by omega,B⟩
 | none=>
  refine ⟨fun a K=>?_,fun G d=>?_⟩
  .show ∃ i G,cN c lv (a:Int) (s++[[(m:Int)]]) 0=some i/\(s++[[(m:Int)]])[i]? =some G/\(a:Int)∈G
   rw [PU]
   by_cases l:a=m
   .subst l
    rw [A]
    refine ⟨0+s.length,[(a:Int)],if_pos ((HN I h3).2 rfl),by simp,by simp⟩
   .obtain ⟨i,C,u,n,v⟩:=h1 a o_
    rw [u]
    refine ⟨i,C,rfl,?_,v⟩
    rw [Ag (Ab.1 n).1]
    exact n
  .have d:G∈s++[[(m:Int)]]:=d
   rcases Ay.1 d with d | d
   .exact zqra8
   .simp at d
    subst d
    refine ⟨by simp,by simp,fun x b=>?_⟩
    simp at b
    subst b
    exact ⟨by omega,by omega,(HN I h3).2 rfl⟩
theorem GQ {c:Con} {lv:Int} (e:0<=lv) (h3:lv<=3):aEg c lv c.hs.length (gpL c lv):=by
 rw [<-W7]
 unfold rgL
 rw [if_neg q_,if_neg q_]
 have key:∀ m:Nat,aEg c lv m ((Db m).foldl (rgS c lv) []):=fun m=>by
  induction m with
  | zero=>exact ⟨fun a f=>by omega,fun G b=>by cases b⟩
  | succ m d=>
   rw [Ie,Iw]
   exact ZP e h3 d
 exact key _
theorem aFU {c:Con} {lv e a b:Int} (h:lv<=e) (f:nZ c lv a=nZ c lv b):nZ c e a=nZ c e b:=by
 unfold nZ ofK at *
 simp only [Jy,and_true] at f⊢
 obtain ⟨k,g,i,j⟩:=f
 refine ⟨k,?_,?_,?_⟩
 .by_cases d:2<e
  .simp [d]
  .have:¬ 2<lv:=o_
   simpa [d,this] using g
 .by_cases d:1<e
  .simp [d]
  .have:¬ 1<lv:=o_
   simpa [d,this] using i
 .by_cases d:0<e
  .simp [d]
  .have:¬ 0<lv:=o_
   simpa [d,this] using j
theorem aF4 {c:Con} {lv e:Int} (d:0<=lv) (h:lv<=e) (h3:e<=3) {a:List Int} (v:a∈gpL c lv):a.Nodup/\∃ G∈gpL c e,∀ x∈a,x∈G:=by
 obtain ⟨_,w⟩:=GQ (c:=c) d (Fb h h3)
 obtain ⟨i,_⟩:=GQ (c:=c) (Fb d h) h3
 obtain ⟨u,r,m⟩:=w a v
 refine ⟨r,?_⟩
 have n:a.headD 0∈a:=by
  cases a with
  | nil=>exact absurd rfl u
  | cons y t=>exact Az ..
 obtain ⟨A,F,_⟩:=m _ n
 have s:(a.headD 0)=((a.headD 0).toNat:Int):=o_
 obtain ⟨k,G,b,f,_⟩:=i (a.headD 0).toNat o_
 rw [<-s] at b
 refine ⟨G,Av f,fun x q=>?_⟩
 obtain ⟨D,B,z⟩:=m x q
 have o:=aFU h ((HN d (Fb h h3)).1 z)
 rw [XC (Fb d h) h3 o] at b
 have g:x=(x.toNat:Int):=o_
 obtain ⟨H,C,j,p,l⟩:=i x.toNat o_
 rw [<-g] at j l
 rw [j] at b
 cases b
 rw [p] at f
 cases f
 exact l
theorem NL {free:List V3} {g:Gan}:∀ (c out:List Int) (h:Int),h∈c.foldl (inS free g) out->h∈out\/(h∈c/\0<=h/\h<(free.length:Int))
 | [],out,h,a=>.inl a
 | u::r,out,h,a=>by
  rw [Al] at a
  rcases NL r _ h a with a | a
  .unfold inS at a
   by_cases h1:u<0
   .rw [if_pos (decide_eq_true h1)] at a
    exact .inl a
   .rw [if_neg (by rw [decide_eq_false h1];decide)] at a
    by_cases b:(free.length:Int)<=u
    .rw [if_pos (decide_eq_true b)] at a
     exact .inl a
    .rw [if_neg (by rw [decide_eq_false b];decide)] at a
     rcases Ay.1 a with a | a
     .exact .inl a
     .have:=(Fs.1 a).2
      subst this
      exact .inr ⟨Az ..,by omega,by omega⟩
  .exact .inr ⟨Bb _ a.1,a.2⟩
def rmN (free:List V3) (g:Gan) (h:Int):Nat:=(max (cS ((free[h.toNat]?).getD V3.zero) g.need) 0).toNat
theorem aCU (free:List V3) (g:Gan) (out:List Int) (u h:Int):(inS free g out u).count h<=out.count h+(if u=h then rmN free g h else 0):=by
 unfold inS
 split
 .omega
 .split
  .omega
  .rw [Iq,List.count_replicate]
   by_cases a:u=h
   .subst a
    rw [if_pos rfl]
    simp only [beq_self_eq_true,if_true]
    unfold rmN inN
    omega
   .rw [if_neg a]
    simp [a]
theorem QL (free:List V3) (g:Gan) (h:Int):∀ (a out:List Int),a.Nodup->(a.foldl (inS free g) out).count h<=out.count h+(if h∈a then rmN free g h else 0)
 | [],out,_=>by simp
 | u::r,out,hn=>by
  rw [Al]
  have h1:=QL free g h r (inS free g out u) (Bw.1 hn).2
  have c:=aCU free g out u h
  by_cases b:u=h
  .subst b
   rw [if_neg (Bw.1 hn).1] at h1
   rw [if_pos rfl] at c
   rw [if_pos (Az ..)]
   omega
  .rw [if_neg b] at c
   by_cases hm:h∈r
   .rw [if_pos hm] at h1
    rw [if_pos (Bb _ hm)]
    omega
   .rw [if_neg hm] at h1
    omega
theorem vC (h:Int):∀ (l:List Int) (n:Int),l.foldl (aGz h) n=n+(l.count h:Nat)
 | [],n=>by simp
 | y::r,n=>by
  rw [Al,vC h r]
  unfold aGz
  by_cases a:y=h
  .subst a
   rw [if_pos rfl,Hj]
   omega
  .rw [if_neg a,Ly (by simpa using a)]
theorem sH {G hs:List Int}:C4 G hs=true↔ ∀ h∈hs,h∈G:=by
 have key:∀ (h:Int) (G:List Int) (b:Bool),G.foldl (wiS h) b=true↔b=true\/h∈G:=fun h G=>by
  induction G with
  | nil=>intro b;simp
  | cons y r c=>
   intro b
   rw [Al,c]
   unfold wiS
   cases b with
   | true=>simp
   | false=>simp [eq_comm]
 unfold C4
 rw [Cj]
 constructor
 .intro q h a
  have:=(key h G false).1 (q h a)
  simpa using this
 .intro q h a
  exact (key h G false).2 (.inr (q h a))
theorem aAb {c:Con} {free:List V3} {g:Gan} (I:aM g.need=true) (J:1<=g.pods) (hl:0<=g.pref/\g.pref<=g.lev/\g.lev<=3) {x:Int×List Int} (h:rG c free g=some x):
  (∀ u∈x.2,0<=u/\u<(free.length:Int)/\((x.2.count u:Nat):Int)<=cS ((free[u.toNat]?).getD V3.zero) g.need)/\oD c free g x.2=true:=by
 have j:∀ (s:List (List Int)),fdG c free g s=some x->∃ d∈s,x.2=inL free g d/\¬ ((inL free g d).length:Int)<g.pods:=fun s=>by
  induction s with
  | nil=>intro h;cases h
  | cons d r m=>
   intro h
   unfold fdG at h
   by_cases h1:((inL free g d).length:Int)<g.pods
   .rw [if_pos (decide_eq_true h1)] at h
    obtain ⟨q,A,w⟩:=m h
    exact ⟨q,Bb _ A,w⟩
   .rw [if_neg (by rw [decide_eq_false h1];decide)] at h
    cases h
    exact ⟨d,Az ..,rfl,h1⟩
 have k:∀ (n:Nat) (lv:Int),fdL c free g n lv=some x->∃ f,lv<=f/\f<lv+n/\fdG c free g (gpL c f)=some x:=fun n=>by
  induction n with
  | zero=>intro lv h;cases h
  | succ n m=>
   intro lv h
   unfold fdL at h
   cases t:fdG c free g (gpL c lv) with
   | some y=>
    rw [t] at h
    cases h
    exact ⟨lv,Dc _,by omega,t⟩
   | none=>
    rw [t] at h
    obtain ⟨f,A,w,C⟩:=m (lv+1) h
    exact ⟨f,by omega,by omega,C⟩
 unfold rG at h
 obtain ⟨f,l1,l2,H⟩:=k _ _ h
 obtain ⟨d,D,v,K⟩:=j _ H
 have p:0<=f/\f<=g.lev:=o_
 obtain ⟨F,G,B,o⟩:=aF4 p.1 p.2 hl.2.2 D
 have z:((inL free g d).length:Int)<=g.pods:=by
  have key:∀ (l:List Int) (out:List Int),(out.length:Int)<=g.pods->((l.foldl (inS free g) out).length:Int)<=g.pods:=fun l=>by
   induction l with
   | nil=>intro out h;exact h
   | cons x r m=>intro out h;exact m _ (xR free g out x h)
  exact key d [] q_
 have b:∀ u∈x.2,u∈d/\0<=u/\u<(free.length:Int):=fun u a=>by
  rw [v] at a
  rcases NL d [] u a with a | a
  .cases a
  .exact a
 have i:∀ u∈x.2,((x.2.count u:Nat):Int)<=cS ((free[u.toNat]?).getD V3.zero) g.need:=fun u a=>by
  have h1:=QL free g u d [] F
  have L:0<x.2.count u:=Km.2 a
  rw [if_pos (b u a).1,show d.foldl (inS free g) []=x.2 from v.symm] at h1
  unfold rmN at h1
  simp only [List.count_nil] at h1
  omega
 refine ⟨fun u a=>⟨(b u a).2.1,(b u a).2.2,i u a⟩,?_⟩
 unfold oD
 rw [if_pos (by rw [v];omega),Ej]
 refine ⟨G,B,?_⟩
 unfold oC
 rw [sH.2 fun u a=>o u (b u a).1,Cd]
 unfold BC
 rw [Cj]
 intro u a
 unfold Z9
 rw [if_neg (by have:=(b u a).2.1;simp;omega),if_neg (by have:=(b u a).2.2;simp;omega)]
 have:=i u a
 have e:xE u x.2=((x.2.count u:Nat):Int):=by unfold xE;rw [vC];omega
 rw [e]
 simp
 omega
theorem HY {ns:List Nod}:∀ (f:Nat) (s x:Int),x∈upF ns f s->x=s\/∃ d∈ns,d.p=x
 | 0,s,x,h=>by cases h
 | f+1,s,x,h=>by
  unfold upF at h
  by_cases b:0<=s
  .rw [if_pos (decide_eq_true b)] at h
   by_cases h1:s.toNat<ns.length
   .rw [dif_pos h1] at h
    by_cases a:s<=(ns[s.toNat]).p
    .rw [if_pos (decide_eq_true a)] at h
     simp at h
     exact .inl h
    .rw [if_neg (by rw [decide_eq_false a];decide)] at h
     rcases Ao.1 h with h | h
     .exact .inl h
     .rcases HY f _ x h with rfl | h
      .exact .inr ⟨_,Bf h1,rfl⟩
      .exact .inr h
   .rw [dif_neg h1] at h
    cases h
  .rw [if_neg (by rw [decide_eq_false b];decide)] at h
   cases h
theorem TR {ns:List Nod} {t:Int} (h:aW ns t=true):∀ d∈ns,d.p≠t:=by
 obtain ⟨b,h1⟩:=oW h
 unfold aW at h
 rw [if_pos (decide_eq_true b),if_pos (decide_eq_true o_),B9] at h
 intro d a e
 have:(ns.any fun x=>x.p==t)=true:=Ej.2 ⟨d,a,by simp [e]⟩
 rw [this] at h
 cases h
theorem QF {ns:List Nod} {t s:Int} (h:aW ns t=true) (hs:t∈upL ns s):t=s:=by
 rcases HY _ _ _ hs with h1 | ⟨d,a,e⟩
 .exact h1
 .exact absurd e (TR h d a)
theorem PH {ns:List Nod} {t:Int} (b:0<=t) (h1:t.toNat<ns.length):t∈upL ns t:=by
 obtain ⟨r,a⟩:=HZ b h1
 rw [a]
 exact Az ..
theorem aCO {ns:List Nod} {t:Int} (h:aW ns t=true):t∈jI ns:=by
 obtain ⟨e,h1⟩:=oW h
 have key:∀ (m i:Nat),i<=t.toNat->t.toNat<i+m->t∈lvF ns m i:=fun m=>by
  induction m with
  | zero=>intro i a b;omega
  | succ m c=>
   intro i a b
   unfold lvF
   by_cases d:i=t.toNat
   .subst d
    rw [show ((t.toNat:Nat):Int)=t from by omega,if_pos h]
    exact Az ..
   .have:=c (i+1) o_ o_
    split
    .exact Bb _ this
    .exact this
 exact key _ 0 o_ o_
theorem NH {ns:List Nod} {t:Int} (h:aW ns t=true):bD ns t=[t]:=by
 obtain ⟨j,h1⟩:=oW h
 have c:=PH j h1
 have d:∀ s:Int,qV ns t s=if s=t then [t] else []:=fun s=>by
  unfold qV
  by_cases e:s=t
  .subst e
   rw [if_pos c,if_pos rfl]
  .rw [if_neg e,if_neg fun q=>e (QF h q).symm]
 have lo:∀ (m i:Nat),t.toNat<i->(lvF ns m i).flatMap (qV ns t)=[]:=fun m i f=>by
  rw [List.flatMap_eq_nil_iff]
  intro s hs
  have:=GE ns m i s hs
  rw [d,if_neg o_]
 have key:∀ (m i:Nat),i<=t.toNat->t.toNat<i+m->(lvF ns m i).flatMap (qV ns t)=[t]:=fun m=>by
  induction m with
  | zero=>intro i a b;omega
  | succ m g=>
   intro i a b
   unfold lvF
   by_cases f:i=t.toNat
   .subst f
    rw [show ((t.toNat:Nat):Int)=t from by omega,if_pos h,Hh,lo _ _ o_,d,if_pos rfl]
    rfl
   .have:=g (i+1) o_ o_
    split
    .rw [Hh,d,if_neg o_,this]
     rfl
    .exact this
 exact key _ 0 o_ o_
section
variable {p:V3->Int} (hp:Prj p)
include hp
def uE (c:Con) (p:V3->Int) (j:Int) (x:Rn):Int:=if aW c.ns x.g.ten=true/\j∈upL c.ns x.g.ten then p (dem x.g) else 0
theorem O0 {c:Con} {j:Nat}:∀ (l:List Rn) (v:V3),(∀ x∈l,0<=p (dem x.g))->0<=p v->p v<=cY->p (l.foldl (mS c j) v)=min (p v+cG (l.map (uE c p (j:Int)))) cY/\0<=cG (l.map (uE c p (j:Int)))
 | [],v,_,h0,h1=>by
  show p v=min (p v+0) cY/\(0:Int)<=0
  omega
 | x::r,v,hd,h0,h1=>by
  rw [Al,Bk]
  show _=min (p v+(uE c p (j:Int) x+cG (r.map (uE c p (j:Int))))) cY/\0<=uE c p (j:Int) x+cG (r.map (uE c p (j:Int)))
  have d:=hd x (Az ..)
  have e:p (mS c j v x)=min (p v+uE c p (j:Int) x) cY:=by
   unfold mS uE
   by_cases a:aW c.ns x.g.ten=true/\(j:Int)∈upL c.ns x.g.ten
   .rw [if_pos a,if_pos a,hp.add,pQ h0 h1 d]
   .rw [if_neg a,if_neg a]
    omega
  have i:0<=uE c p (j:Int) x:=by unfold uE;split<;>omega
  obtain ⟨b,h⟩:=O0 r (mS c j v x) (fun y f=>hd y (Bb _ f)) (by rw [e];unfold cY;omega) (by rw [e];unfold cY;omega)
  rw [b,e]
  unfold cY
  omega
omit hp in
theorem PB {α:Type} (f g:α->Int):∀ (l:List α),cG (l.map fun x=>f x+g x)=cG (l.map f)+cG (l.map g)
 | []=>rfl
 | x::r=>by
  rw [Bk,Bk,Bk]
  show f x+g x+cG _=(f x+cG _)+(g x+cG _)
  rw [PB f g r]
  omega
omit hp in
theorem PA {α:Type} (f:α->Int):∀ (l:List α),(∀ y∈l,0<=f y)->∀ x∈l,f x<=cG (l.map f)
 | [],_,x,h=>by cases h
 | y::r,hf,x,h=>by
  rw [Bk]
  show f x<=f y+cG _
  have h1:=jO (es:=r.map f) fun e a=>by
   obtain ⟨z,hz,rfl⟩:=Bu.1 a
   exact hf z (Bb _ hz)
  have b:=hf y (Az ..)
  rcases Ao.1 h with rfl | h
  .omega
  .have:=PA f r (fun z hz=>hf z (Bb _ hz)) x h
   omega
omit hp in
theorem O8 {α:Type} (f:α->Int):∀ (l:List α),(∀ y∈l,0<=f y)->min (cG (l.map f)) cY<=cG (l.map fun y=>min (f y) cY)/\0<=cG (l.map f)
 | [],_=>by
  show min (0:Int) cY<=0/\(0:Int)<=0
  unfold cY
  omega
 | y::r,hf=>by
  rw [Bk,Bk]
  show min (f y+cG _) cY<=min (f y) cY+cG _/\0<=f y+cG _
  have c:=hf y (Az ..)
  obtain ⟨a,b⟩:=O8 f r fun z hz=>hf z (Bb _ hz)
  unfold cY at *
  omega
omit hp in
theorem E3 {c:Con} {n:Int}:∀ (l:List Rn),(∀ x∈l,0<=p (dem x.g))->cG (l.map (uE c p n))<=cG ((bD c.ns n).map fun s=>cG (l.map (uE c p s)))
 | [],_=>by
  show 0<=cG ((bD c.ns n).map fun s=>(0:Int))
  exact jO fun e d=>by
   obtain ⟨z,_,rfl⟩:=Bu.1 d
   exact Dc _
 | x::r,hd=>by
  have k:=E3 (c:=c) (n:=n) r fun y j=>hd y (Bb _ j)
  have e:cG ((bD c.ns n).map fun s=>cG ((x::r).map (uE c p s)))=cG ((bD c.ns n).map fun s=>uE c p s x)+cG ((bD c.ns n).map fun s=>cG (r.map (uE c p s))):=PB _ _ _
  rw [e,Bk]
  show uE c p n x+cG _<=_
  have m:=hd x (Az ..)
  have b:∀ s∈bD c.ns n,0<=uE c p s x:=fun s _=>by unfold uE;split<;>omega
  have h1:uE c p n x<=cG ((bD c.ns n).map fun s=>uE c p s x):=by
   by_cases a:aW c.ns x.g.ten=true/\n∈upL c.ns x.g.ten
   .have f:x.g.ten∈bD c.ns n:=by
     unfold bD
     rw [List.mem_flatMap]
     refine ⟨x.g.ten,aCO a.1,?_⟩
     unfold qV
     rw [if_pos a.2]
     simp
    have:=PA (fun s=>uE c p s x) (bD c.ns n) b _ f
    have h:uE c p x.g.ten x=uE c p n x:=by
     obtain ⟨i,h1⟩:=oW a.1
     unfold uE
     rw [if_pos a,if_pos ⟨a.1,PH i h1⟩]
    rw [<-h]
    exact this
   .have h:uE c p n x=0:=by unfold uE;rw [if_neg a]
    rw [h]
    exact jO fun e d=>by
     obtain ⟨z,hz,rfl⟩:=Bu.1 d
     exact b z hz
  omega
theorem FC {c:Con} {l:List Rn} (f:∀ x∈l,0<=p (dem x.g)) {n:Int} (d:c.ok n):p (atV (ofL c l) n)=min (cG (l.map (uE c p n))) cY/\0<=cG (l.map (uE c p n)):=by
 have hz:p V3.zero=0:=hp.zero
 obtain ⟨a,b⟩:=O0 hp (c:=c) (j:=n.toNat) l V3.zero f (by rw [hz];exact Dc _) (by rw [hz];decide)
 rw [wE d,a,hz]
 have e:((n.toNat:Nat):Int)=n:=by have:=d.1;omega
 rw [e] at b⊢
 exact ⟨by omega,b⟩
theorem aE7 {c:Con} {l:List Rn} (a:∀ x∈l,0<=p (dem x.g)) (n:Int):p (gG c.ns n (ofL c l))=min (cG ((bD c.ns n).map fun s=>min (cG (l.map (uE c p s))) cY)) cY:=by
 have hz:p V3.zero=0:=hp.zero
 have e:(bD c.ns n).map (fun t=>p (atV (ofL c l) t))=(bD c.ns n).map fun s=>min (cG (l.map (uE c p s))) cY:=List.map_congr_left fun s hs=>(FC hp a (iC c n s hs)).1
 unfold gG
 rw [FI hp,e,hz,sS (Dc _) d_ fun e b=>by
  obtain ⟨s,hs,rfl⟩:=Bu.1 b
  have:=(FC hp a (iC c n s hs)).2
  unfold cY
  omega]
 omega
theorem LW {c:Con} {l:List Rn} (b:∀ x∈l,0<=p (dem x.g)) {n:Int} (d:c.ok n):p (atV (ofL c l) n)<=p (gG c.ns n (ofL c l))/\0<=p (atV (ofL c l) n)/\p (gG c.ns n (ofL c l))<=cY:=by
 obtain ⟨a,e⟩:=FC hp b d
 rw [a,aE7 hp b n]
 have h1:=E3 (p:=p) (c:=c) (n:=n) l b
 obtain ⟨f,h3⟩:=O8 (fun s=>cG (l.map (uE c p s))) (bD c.ns n) fun s hs=>(FC hp b (iC c n s hs)).2
 unfold cY at *
 omega
theorem ZF (ns:List Nod) (us:List V3) (n t:Int):0<=p (tG ns us n t):=by
 have hz:p V3.zero=0:=hp.zero
 have a:∀ e∈(bD ns n).map (kE ns p us t),0<=e:=fun e b=>by
  obtain ⟨s,_,rfl⟩:=Bu.1 b
  unfold kE
  split<;>omega
 have c:=jO a
 unfold tG
 rw [QG hp _ _ _ _ _ (by rw [hz];exact Dc _) (by rw [hz];decide),hz,sS (Dc _) d_ a]
 unfold cY
 omega
theorem HK {c:Con} {l:List Rn} (e:∀ x∈l,0<=p (dem x.g)) {need:V3} (f:0<=p need) {n t:Int} (h:c.ok n):p (dG (atV (ofL c l) n) need)<=p (dG (dG (gG c.ns n (ofL c l)) need) (tG c.ns (ofL c l) n t)):=by
 obtain ⟨h1,m,h3⟩:=LW hp e h
 have i:=ZF hp c.ns (ofL c l) n t
 rw [hp.add,hp.add,hp.add]
 have j:=qT (d:=p need) h1
 have b:=HP (a:=p (gG c.ns n (ofL c l))) o_ f
 have k:=yB b.1 b.2 i
 omega
end
theorem vM (x y z:Int):hD (hD (hD 0 x) 0) y=hD x y/\hD (hD 0 x) y=hD x y:=by
 unfold hD eV
 omega
theorem RX (x y:V3):dG (dG V3.zero x) y=dG x y:=by
 unfold dG V3.map2 V3.zero
 rw [(vM x.a y.a 0).2,(vM x.b y.b 0).2,(vM x.c y.c 0).2]
theorem YS {c:Con} {t:Int} (h:c.ok t):atV (jH c.ns) t=(bT c.ns t).n:=by
 obtain ⟨a,h1⟩:=h
 unfold atV jH
 rw [if_neg q_,Bc,Ch h1]
 show (bT c.ns ((t.toNat:Nat):Int)).n=_
 rw [show ((t.toNat:Nat):Int)=t from by omega]
def QA (c:Con) (t n:Int):V3:=if n=t then dG (gG c.ns n (jH c.ns)) (bT c.ns n).b else gG c.ns n (jH c.ns)
theorem I6 {c:Con} {l:List Rn} {x:Rn} (j:∀ y∈l,(dem y.g).pos) (k:(dem x.g).pos) (h:wZ c (ofL c l) x.g.ten (dem x.g)=true):∀ n∈bH c.ns x.g.ten,c.ok n/\bK (atV (ofL c (l++[x])) n) (QA c x.g.ten n)=true:=by
 intro n d
 unfold bH at d
 rw [Gu] at d
 have a:c.ok n:=FF c _ _ _ d
 refine ⟨a,?_⟩
 unfold wZ at h
 by_cases hl:aW c.ns x.g.ten=true
 .rw [if_pos hl,Cj] at h
  have b:=h n d
  have e:atV (ofL c (l++[x])) n=dG (atV (ofL c l) n) (dem x.g):=by
   rw [wE a,wE a,Iw]
   show mS c n.toNat _ x=_
   unfold mS
   rw [if_pos ⟨hl,by rw [show ((n.toNat:Nat):Int)=n from by have:=a.1;omega];exact d⟩]
  rw [e]
  unfold GD at b
  unfold QA
  by_cases f:n=x.g.ten
  .rw [if_pos (decide_eq_true f)] at b
   rw [if_pos f]
   unfold TD at b
   have m:gG c.ns n (jH c.ns)=dG V3.zero (bT c.ns n).n:=by
    unfold gG
    rw [NH (by rw [f];exact hl)]
    show dG V3.zero (atV (jH c.ns) n)=_
    rw [YS a]
   rw [m,RX]
   exact b
  .rw [if_neg (by rw [decide_eq_false f];decide)] at b
   rw [if_neg f]
   unfold OM at b
   rw [sJ] at b⊢
   exact ⟨Fb (HK aCg (fun y i=>(j y i).1) k.1 a) b.1,Fb (HK aCf (fun y i=>(j y i).2.1) k.2.1 a) b.2.1,Fb (HK aCe (fun y i=>(j y i).2.2) k.2.2 a) b.2.2⟩
 .rw [if_neg hl] at h
  cases h
end Go.Proofs.YticlgfdibfobdaaGreat
