/-
  The references, as walks; what fits leaves nobody overfull.
-/
import Derived.Test.YtmalnhgopkfdaaaGreatHAD
set_option linter.all false
set_option maxHeartbeats 1000000
open And renaming intro->Aa
open Bool renaming and_eq_true->Ad,eq_iff_iff->Fa,false_eq_true->Bq,false_or->Ji,true_and->Bt
open Exists renaming intro->Al
open Int renaming tdiv_eq_ediv_of_nonneg->Il,toNat_natCast->Br,toNat_of_nonneg->Fq
open List renaming all_cons->Dq,all_eq_true->Cl,any_cons->Gb,append_assoc->Aj,append_nil->Ay,count_cons_self->Hv,drop_eq_getElem_cons->Ae,drop_eq_nil_of_le->Af,ext_getElem?->Ee,flatMap_cons->Ja,foldl_cons->Bi,getElem?_eq_getElem->Ac,getElem?_eq_none->Bf,getElem?_map->Bb,getElem?_range->Cm,getElem?_replicate->Dz,getElem?_set->Gf,getElem_mem->Bn,length_append->Ag,length_cons->Ao,map_append->Cf,map_cons->Cn,map_set->Ih,mem_append->Ba,mem_cons->Bh,mem_filter->Jz,mem_or_eq_of_mem_set->Ej,nodup_cons->Dr,pairwise_cons->Ip,range->Dc,range'->Eh,range'_succ->Hk,range_eq_range'->Eu,range_succ->Ia,replicate->Ai,reverse_cons->Gy,take->Jm,take_append_of_le_length->Dd,take_of_length_le->Cs,take_zero->Ft
open Nat renaming add_sub_cancel->Iq,le_trans->Cx,zero_add->Bk,zero_le->Bm
open Prod renaming fst->Jn
namespace Go.Proofs.YtmalnhgopkfdaaaGreat
open Go Go.AW Go.Proofs
set_option maxRecDepth 10000
theorem BY (n m:Int) (h0:0<=m) (h1:m<=1099511627776):aA Tryz.prog 101 [ii n,ii m] [] (.ret (ii (iT n m))) []:=by
 have e:iT n m=max (0-m) (min n m):=by unfold iT;omega
 rw [e]
 refine cT (E:=E) (fn:=Tryz.f101) (g:=.pure _) fun _=>?_
 repeat' first | (refine gN hE ?_;conv=>whnf) | exact rfl | refine aY ?_ | refine aN ?_ | refine aT fun h=>?_ | refine aF fun h=>?_ | refine ⟨fun h=>?_,fun h=>?_⟩ | refine aJ ?_ | refine ⟨_,rfl,?_⟩ | refine aD ?_ | fail
theorem kA (a b:V3):aA Tryz.prog 52 [a.av,b.av] [] (.ret (iG a b).av) []:=by
 have r1:=eD a.a 1099511627776 (by decide)
 have r2:=eD a.b 1099511627776 (by decide)
 have r3:=eD a.c 1099511627776 (by decide)
 have r4:=eD b.a 1099511627776 (by decide)
 have r5:=eD b.b 1099511627776 (by decide)
 have r6:=eD b.c 1099511627776 (by decide)
 refine cT (E:=E) (fn:=Tryz.f52) (g:=.pure _) fun _=>?_
 repeat' first
  | (refine gW hE ?_;conv=>whnf)
  | refine .pure _ [] (BY _ _ (by decide) (by decide)) ?_
  | exact rfl
  | refine aY ?_
  | refine aN ?_
  | refine aJ ?_
  | refine Al _ (Aa rfl ?_)
  | refine Aa (by decide) ?_
theorem BT (a b:V3):aA Tryz.prog 97 [a.av,b.av] [] (.ret (uL a b).av) []:=by
 have r1:=eD a.a 1099511627776 (by decide)
 have r2:=eD a.b 1099511627776 (by decide)
 have r3:=eD a.c 1099511627776 (by decide)
 have r4:=eD b.a 1099511627776 (by decide)
 have r5:=eD b.b 1099511627776 (by decide)
 have r6:=eD b.c 1099511627776 (by decide)
 refine cT (E:=E) (fn:=Tryz.f97) (g:=.pure _) fun _=>?_
 repeat' first
  | (refine gW hE ?_;conv=>whnf)
  | refine .pure _ [] (BY _ _ (by decide) (by decide)) ?_
  | exact rfl
  | refine aY ?_
  | refine aN ?_
  | refine aJ ?_
  | refine Al _ (Aa rfl ?_)
  | refine Aa (by decide) ?_
theorem JN (a:V3) (n:Int):aA Tryz.prog 145 [a.av,ii n] [] (.ret (GF a n).av) []:=by
 have r1:=J7 a.a n
 have r2:=J7 a.b n
 have r3:=J7 a.c n
 refine cT (E:=E) (fn:=Tryz.f145) (g:=.pure _) fun _=>?_
 repeat' first
  | (refine gW hE ?_;conv=>whnf)
  | refine .pure _ [] (BY _ _ (by decide) (by decide)) ?_
  | exact rfl
  | refine aY ?_
  | refine aN ?_
  | refine aJ ?_
  | refine Al _ (Aa rfl ?_)
  | refine Aa (by decide) ?_
theorem JQ (g:Gan):aA Tryz.prog 99 [g.av] [] (.ret (dem g).av) []:=by
 refine cT (E:=E) (fn:=Tryz.f99) (g:=.pure _) fun _=>?_
 repeat' first | (refine gN hE ?_;conv=>whnf) | refine .pure _ [] (JN g.need g.pods) ?_ | exact rfl | refine aY ?_ | refine aN ?_ | refine aT fun h=>?_ | refine aF fun h=>?_ | refine ⟨fun h=>?_,fun h=>?_⟩ | refine aJ ?_ | refine ⟨_,rfl,?_⟩ | refine aD ?_ | fail
theorem PX (l:List V3) (n:Int) (r:V3) (hr:atV l n=r):aA Tryz.prog 147 [.slice 3 (vav l) .no,ii n] [] (.ret r.av) []:=by
 have hl:(vav l).length=l.length:=by simp
 unfold atV at hr
 by_cases h1:n<0
 .rw [if_pos (decide_eq_true h1)] at hr
  subst hr
  refine cT (E:=E) (fn:=Tryz.f147) (g:=.pure _) fun _=>?_
  repeat' first | (refine gN hE ?_;conv=>whnf) | exact rfl | refine aY ?_ | refine aN ?_ | refine aT fun h=>?_ | refine aF fun h=>?_ | refine ⟨fun h=>?_,fun h=>?_⟩ | refine aJ ?_ | refine ⟨_,rfl,?_⟩ | refine aD ?_ | fail
 .rw [if_neg (by rw [decide_eq_false h1];decide)] at hr
  by_cases h2:n.toNat<l.length
  .rw [Ac h2] at hr
   have get:=iP h2
   have hr:l[n.toNat]=r:=hr
   rw [hr] at get
   have hn:n=(n.toNat:Int):=by omega
   refine cT (E:=E) (fn:=Tryz.f147) (g:=.pure _) fun _=>?_
   repeat' first | (refine gN hE ?_;conv=>whnf) | refine ⟨n.toNat,hn,?_⟩ | refine ⟨_,get,?_⟩ | exact rfl | refine aY ?_ | refine aN ?_ | refine aT fun h=>?_ | refine aF fun h=>?_ | refine ⟨fun h=>?_,fun h=>?_⟩ | refine aJ ?_ | refine ⟨_,rfl,?_⟩ | refine aD ?_ | fail
  .rw [Bf (by omega)] at hr
   subst hr
   refine cT (E:=E) (fn:=Tryz.f147) (g:=.pure _) fun _=>?_
   repeat' first | (refine gN hE ?_;conv=>whnf) | exact rfl | refine aY ?_ | refine aN ?_ | refine aT fun h=>?_ | refine aF fun h=>?_ | refine ⟨fun h=>?_,fun h=>?_⟩ | refine aJ ?_ | refine ⟨_,rfl,?_⟩ | refine aD ?_ | fail
theorem BZ (l:List V3) (n:Int):aA Tryz.prog 147 [.slice 3 (vav l) .no,ii n] [] (.ret (atV l n).av) []:=PX l n _ rfl
theorem GA (n:Int):∀ (l:List Nod) (i:Nat),decide (0<=gF n l i)=l.any fun x=>x.p==n
 | [],i=>by simp [gF]
 | x::r,i=>by
  unfold gF
  rw [Gb]
  by_cases h:x.p=n
  .simp [h]
  .have:=GA n r (i+1)
   simp [h,this]
theorem GB (l:List Nod) (n:Int):(l.all fun x=>!(x.p==n))= !(l.any fun x=>x.p==n):=by
 induction l with
 | nil=>rfl
 | cons x r ih=>rw [Dq,Gb,ih];cases (x.p==n)<;>simp
theorem sG (ns:List Nod) (t:Int):rlB ns t=bS ns t:=by
 unfold rlB bS
 rw [GA,GB]
 generalize (ns.any fun x=>x.p==t)=b
 by_cases h1:t<0
 .have h2:¬ 0<=t:=by omega
  simp [h1,h2]
 .have h3:0<=t:=by omega
  by_cases h2:(ns.length:Int)<=t
  .have h4:¬ t<(ns.length:Int):=by omega
   simp [h1,h3,h2,h4]
  .have h4:t<(ns.length:Int):=by omega
   simp [h1,h3,h2,h4]
def hJ (ns:List Nod) (n:Int):List Int:=(upL ns n).reverse
theorem A5 {α β:Type} (f:β->α->β) (hf:∀ b x y,f (f b x) y=f (f b y) x):∀ (l:List α) (b:β),l.reverse.foldl f b=l.foldl f b
 | [],b=>rfl
 | x::r,b=>by
  have h:∀ (l:List α) (b:β),l.foldl f (f b x)=f (l.foldl f b) x:=fun l=>by
   induction l with
   | nil=>intro b;rfl
   | cons y r ih=>intro b;rw [Bi,Bi,hf,ih]
  rw [Gy,List.foldl_append,A5 f hf r b]
  show f (r.foldl f b) x=r.foldl f (f b x)
  rw [h]
def qB (v:V3) (xs:List V3) (k:Int):List V3:=xs.set k.toNat (iG ((xs[k.toNat]?).getD V3.zero) v)
theorem GC (v:V3) (xs:List V3) (k:Int):(qB v xs k).length=xs.length:=by unfold qB;simp
theorem oE (v:V3) (xs:List V3) (k:Int) (j:Nat):(qB v xs k)[j]? =if k.toNat=j then (xs[j]?).map fun x=>iG x v else xs[j]?:=by
 unfold qB
 rw [Gf]
 by_cases h:k.toNat=j
 .subst h
  rw [if_pos rfl,if_pos rfl]
  by_cases h2:k.toNat<xs.length
  .rw [if_pos h2,Ac h2]
   rfl
  .rw [if_neg h2,Bf (by omega)]
   rfl
 .rw [if_neg h,if_neg h]
theorem NV (v:V3) (xs:List V3) (a b:Int):qB v (qB v xs a) b=qB v (qB v xs b) a:=by
 refine Ee fun j=>?_
 rw [oE,oE,oE,oE]
 by_cases h1:a.toNat=j<;>by_cases h2:b.toNat=j<;>simp [h1,h2]
def BU (c:Con) (xs:List V3) (x:Rn):List V3:=if bS c.ns x.g.ten=true then (hJ c.ns x.g.ten).foldl (qB (dem x.g)) xs else xs
def VF (c:Con) (l:List Rn):List V3:=l.foldl (BU c) (Ai c.ns.length V3.zero)
theorem pJ (v:V3):∀ (ks:List Int) (xs:List V3),(ks.foldl (qB v) xs).length=xs.length
 | [],_=>rfl
 | k::r,xs=>by rw [Bi,pJ v r,GC]
theorem PB (c:Con) (xs:List V3) (x:Rn):(BU c xs x).length=xs.length:=by
 unfold BU
 split
 .exact pJ _ _ _
 .rfl
def nA (L:Led):Prop:=(L.map Jn).Nodup
theorem AL (n:Int) (v:V3):∀ (L:Led) (k:Int),k∈(sR L n v).map Jn->k=n\/k∈L.map Jn
 | [],k,h=>by simp [sR] at h;exact .inl h
 | (j,w)::r,k,h=>by
  unfold sR at h
  split at h
  .rename_i hj
   simp only [Cn,Bh] at h⊢
   rcases h with rfl | h
   .exact .inl rfl
   .exact .inr (.inr h)
  .simp only [Cn,Bh] at h⊢
   rcases h with rfl | h
   .exact .inr (.inl rfl)
   .rcases AL n v r k h with h | h
    .exact .inl h
    .exact .inr (.inr h)
theorem RE (n:Int) (v:V3):∀ (L:Led),nA L->nA (sR L n v)
 | [],_=>by simp [sR,nA]
 | (j,w)::r,h=>by
  have h1:=(Dr.1 h)
  unfold sR
  split
  .rename_i hj
   subst hj
   exact h
  .rename_i hj
   refine Dr.2 ⟨fun hm=>?_,RE n v r h1.2⟩
   rcases AL n v r _ hm with h | h
   .exact hj h
   .exact h1.1 h
theorem AN (n:Int):∀ (L:Led) (k:Int),k∈(xK L n).map Jn->k∈L.map Jn
 | [],k,h=>h
 | (j,w)::r,k,h=>by
  unfold xK at h
  simp only [Cn,Bh]
  split at h
  .exact .inr h
  .simp only [Cn,Bh] at h
   rcases h with h | h
   .exact .inl h
   .exact .inr (AN n r k h)
theorem RL (n:Int):∀ (L:Led),nA L->nA (xK L n)
 | [],h=>h
 | (j,w)::r,h=>by
  have h1:=(Dr.1 h)
  unfold xK
  split
  .exact h1.2
  .exact Dr.2 ⟨fun hm=>h1.1 (AN n r _ hm),RL n r h1.2⟩
theorem EX:∀ (L:Led) (n:Int),n∉L.map Jn->fU L n=none
 | [],n,h=>rfl
 | (j,w)::r,n,h=>by
  simp only [Cn,Bh,not_or] at h
  unfold fU
  rw [if_neg (fun e=>h.1 e.symm)]
  exact EX r n h.2
theorem EW (n:Int) (v:V3) (k:Int):∀ (L:Led),fU (sR L n v) k=if k=n then some v else fU L k
 | []=>by
  unfold sR fU fU
  by_cases h:k=n
  .rw [if_pos h,if_pos h.symm]
  .rw [if_neg h,if_neg (fun e=>h e.symm)]
 | (j,w)::r=>by
  have ih:=EW n v k r
  unfold sR
  split
  .rename_i hj
   subst hj
   unfold fU
   by_cases h:k=j
   .rw [if_pos h,if_pos h.symm]
   .rw [if_neg h,if_neg (fun e=>h e.symm),if_neg (fun e=>h e.symm)]
  .rename_i hj
   unfold fU
   rw [ih]
   by_cases h:j=k
   .rw [if_pos h,if_pos h,if_neg (fun e=>hj (h.trans e))]
   .rw [if_neg h,if_neg h]
theorem EY (n:Int) (k:Int):∀ (L:Led),nA L->fU (xK L n) k=if k=n then none else fU L k
 | [],_=>by
  unfold xK fU
  split<;>rfl
 | (j,w)::r,h=>by
  have h1:=(Dr.1 h)
  have ih:=EY n k r h1.2
  unfold xK
  split
  .rename_i hj
   subst hj
   by_cases h2:k=j
   .rw [if_pos h2,h2]
    exact EX r j h1.1
   .rw [if_neg h2]
    conv=>rhs;unfold fU
    rw [if_neg (fun e=>h2 e.symm)]
  .rename_i hj
   unfold fU
   rw [ih]
   by_cases h2:j=k
   .rw [if_pos h2,if_pos h2,if_neg (fun e=>hj (h2.trans e))]
   .rw [if_neg h2,if_neg h2]
theorem RT {v:V3} (h:isZ v=true):v=V3.zero:=by
 obtain ⟨a,b,c⟩:=v
 unfold isZ at h
 simp at h
 obtain ⟨rfl,rfl,rfl⟩:=h
 rfl
theorem aAG {L:Led} (h:nA L) (n:Int) (v:V3):nA (ER L n v):=by
 unfold ER
 split
 .exact RL n L h
 .exact RE n v L h
theorem RD {L:Led} (h:nA L) (n:Int) (v:V3) (k:Int):mR (ER L n v) k=if k=n then v else mR L k:=by
 unfold ER mR
 split
 .rename_i hz
  rw [EY n k L h]
  by_cases h2:k=n
  .rw [if_pos h2,if_pos h2,RT hz];rfl
  .rw [if_neg h2,if_neg h2]
 .rw [EW]
  by_cases h2:k=n
  .rw [if_pos h2,if_pos h2];rfl
  .rw [if_neg h2,if_neg h2]
theorem zA (n:Nat) (L:Led) (j:Nat):(mJ n L)[j]? =if j<n then some (mR L (j:Int)) else none:=by
 unfold mJ
 rw [Bb]
 by_cases h:j<n
 .rw [if_pos h,Cm h];rfl
 .rw [if_neg h,Bf (by simp;omega)];rfl
theorem YQ {n:Nat} {L:Led} (h:nA L) (v:V3) (k:Int) (h0:0<=k) (hk:k.toNat<n):mJ n (tF v L k)=qB v (mJ n L) k:=by
 refine Ee fun j=>?_
 rw [oE,zA,zA]
 unfold tF
 rw [RD h]
 by_cases h1:j<n
 .rw [if_pos h1,if_pos h1]
  by_cases h2:k.toNat=j
  .rw [if_pos h2,if_pos (by omega)]
   have:k=(j:Int):=by omega
   rw [this]
   rfl
  .rw [if_neg h2,if_neg (by omega)]
 .rw [if_neg h1,if_neg h1]
  split<;>rfl
theorem aCm {L:Led} (h:nA L) (v:V3) (k:Int):nA (tF v L k):=aAG h _ _
theorem FV {n:Nat} (v:V3):∀ (ks:List Int) (L:Led),nA L->(∀ k∈ks,0<=k/\k.toNat<n)->mJ n (ks.foldl (tF v) L)=ks.foldl (qB v) (mJ n L)/\nA (ks.foldl (tF v) L)
 | [],L,h,_=>⟨rfl,h⟩
 | k::r,L,h,hk=>by
  have h1:=hk k (by simp)
  obtain ⟨e1,e2⟩:=FV v r (tF v L k) (aCm h v k) fun x hx=>hk x (by simp [hx])
  exact ⟨by rw [Bi,e1,YQ h v k h1.1 h1.2];rfl,e2⟩
theorem GM (ns:List Nod):∀ (f:Nat) (n x:Int),x∈upF ns f n->0<=x/\x.toNat<ns.length
 | 0,n,x,h=>by simp [upF] at h
 | f+1,n,x,h=>by
  unfold upF at h
  split at h
  .rename_i h0
   have h0:=of_decide_eq_true h0
   split at h
   .rename_i h1
    split at h
    .simp at h;subst h;exact ⟨h0,h1⟩
    .rcases Bh.1 h with rfl | h
     .exact ⟨h0,h1⟩
     .exact GM ns f _ x h
   .simp at h
  .simp at h
theorem HK (c:Con) (L:Led) (h:nA L) (x:Rn):mJ c.ns.length (pV c L x)=BU c (mJ c.ns.length L) x/\nA (pV c L x):=by
 unfold pV BU hJ
 split
 .obtain ⟨e1,e2⟩:=FV (n:=c.ns.length) (dem x.g) (upL c.ns x.g.ten) L h fun k hk=>GM _ _ _ _ hk
  exact ⟨by rw [e1,A5 _ (NV _)],e2⟩
 .exact ⟨rfl,h⟩
theorem aBD (c:Con) (l:List Rn):VF c l=ofL c l:=by
 have key:∀ (l:List Rn) (L:Led),nA L->l.foldl (BU c) (mJ c.ns.length L)=mJ c.ns.length (l.foldl (pV c) L):=fun l=>by
  induction l with
  | nil=>intro L _;rfl
  | cons x r ih=>
   intro L h
   obtain ⟨e1,e2⟩:=HK c L h x
   rw [Bi,Bi,<-e1,ih _ e2]
 have h0:mJ c.ns.length []=Ai c.ns.length V3.zero:=by
  refine Ee fun j=>?_
  rw [zA,Dz]
  rfl
 unfold VF ofL
 rw [<-h0,key l [] (by simp [nA])]
noncomputable abbrev ZJ:Func:=Tryz.f171
theorem L2 (c:Con) (hc:c.sm) (R:List Int):∀ (m i:Nat) (acc:List Int),i+m=c.ns.length->acc.length<=i->acc++lvF c.ns m i=R->
  To (Eo [3] []) ZJ (.pure (.ret (.slice 1 (iv R) .no))) (.head (stk ZJ 0) [(1,.ref 0 0),(3,.slice 1 (iv acc) (.own 1 0)),(4,.int .i64 i)] [.cells 26 c.cs,.tail 0 1 3]):=by
 have hlen:(nav c.ns).length=c.ns.length:=by simp
 have h1:=hc.ns
 intro m
 induction m with
 | zero=>
  intro i acc hi ha hR
  unfold lvF at hR
  rw [Ay] at hR
  subst hR
  refine gW (hEo [3] []) ?_;conv=>whnf
  refine aF fun h=>?_
  repeat' first | (refine gN (hEo [3] []) ?_;conv=>whnf) | exact rfl | refine aY ?_ | refine aN ?_ | refine aT fun h=>?_ | refine aF fun h=>?_ | refine ⟨fun h=>?_,fun h=>?_⟩ | refine aJ ?_ | refine ⟨_,rfl,?_⟩ | refine aD ?_ | fail
 | succ m ih=>
  intro i acc hi ha hR
  have hla:(iv acc).length=acc.length:=by simp
  have hlf:=kU c hc i
  rw [sG] at hlf
  unfold lvF at hR
  refine gW (hEo [3] []) ?_;conv=>whnf
  refine aT fun h=>?_
  refine gW (hEo [3] []) ?_;conv=>whnf
  refine .pure _ [] hlf ?_
  refine gW (hEo [3] []) ?_;conv=>whnf
  refine Aa (fun h2=>?_) (fun h2=>?_)
  .have h2:bS c.ns (i:Int)=true:=h2
   rw [if_pos h2] at hR
   have next:=ih (i+1) (acc++[(i:Int)]) (by omega) (by simp;omega) (by rw [Aj];exact hR)
   have e:iv (acc++[(i:Int)])=iv acc++[ii i]:=by simp
   rw [e] at next
   refine gW (hEo [3] []) ?_;conv=>whnf
   refine ⟨⟨by simp only [maxLen];simp;omega,by simp;omega⟩,?_⟩
   refine gW (hEo [3] []) ?_;conv=>whnf
   refine aJ ?_
   refine gW (hEo [3] []) ?_;conv=>whnf
   refine To.part [1,3,4] [0,1] rfl rfl rfl ?_
   exact next
  .have h2:bS c.ns (i:Int)=false:=h2
   rw [if_neg (by rw [h2];decide)] at hR
   have next:=ih (i+1) acc (by omega) (by omega) hR
   refine gW (hEo [3] []) ?_;conv=>whnf
   refine aJ ?_
   refine gW (hEo [3] []) ?_;conv=>whnf
   refine To.part [1,3,4] [0,1] rfl rfl rfl ?_
   exact next
theorem VH (c:Con) (hc:c.sm):aA Tryz.prog 171 [c.av] [] (.ret (.slice 1 (iv (kC c.ns)) .no)) []:=by
 refine cT (E:=(Eo [3] [])) (fn:=Tryz.f171) (g:=.pure _) fun _=>?_
 refine gW (hEo [3] []) ?_;conv=>whnf
 refine To.part [1,3,4] [0,1] rfl rfl rfl ?_
 exact L2 c hc _ c.ns.length 0 [] (by omega) (by simp) rfl
noncomputable abbrev SV:Func:=Tryz.f98
theorem GV (c:Con) (hc:c.sm) (R:List Int):∀ (f:Nat) (n:Int) (acc:List Int) (tk:Tk),(tk= .nil\/tk= .no)->(0<=n->n.toNat<f)->(0<=n->n.toNat<c.ns.length->acc.length+n.toNat<1048577)->(upF c.ns f n).reverse++acc=R->
  To E SV (.pure (.ret (.slice 1 (iv R) .no))) (.head (stk SV 0) [(1,ii n),(2,.ref 0 0),(5,.slice 1 (iv acc) tk)] [.cells 26 c.cs]):=by
 have hlen:(nav c.ns).length=c.ns.length:=by simp
 have hcn:=hc.ns
 intro f
 induction f with
 | zero=>
  intro n acc tk ht hf hb hR
  have hla:(iv acc).length=acc.length:=by simp
  have h1:¬ 0<=n:=fun h=>by have:=hf h;omega
  have hR:acc=R:=hR
  subst hR
  rcases ht with rfl | rfl
  .refine gW hE ?_;conv=>whnf
   repeat' first | (refine gN hE ?_;conv=>whnf) | exact rfl | refine aY ?_ | refine aN ?_ | refine aT fun h=>?_ | refine aF fun h=>?_ | refine ⟨fun h=>?_,fun h=>?_⟩ | refine aJ ?_ | refine ⟨_,rfl,?_⟩ | refine aD ?_ | fail
  .refine gW hE ?_;conv=>whnf
   repeat' first | (refine gN hE ?_;conv=>whnf) | exact rfl | refine aY ?_ | refine aN ?_ | refine aT fun h=>?_ | refine aF fun h=>?_ | refine ⟨fun h=>?_,fun h=>?_⟩ | refine aJ ?_ | refine ⟨_,rfl,?_⟩ | refine aD ?_ | fail
 | succ f ih=>
  intro n acc tk ht hf hb hR
  have hla:(iv acc).length=acc.length:=by simp
  unfold upF at hR
  rcases ht with rfl | rfl
  .by_cases h1:0<=n
   .rw [if_pos (decide_eq_true h1)] at hR
    by_cases h2:n.toNat<c.ns.length
    .rw [dif_pos h2] at hR
     have hb:=hb h1 h2
     generalize hx:c.ns[n.toNat]=x at hR
     have get:(nav c.ns)[n.toNat]? =some x.av:=(eF h2).trans (by rw [hx])
     have hn:n=(n.toNat:Int):=by omega
     by_cases h3:n<=x.p
     .rw [if_pos (decide_eq_true h3)] at hR
      have hR:n::acc=R:=hR
      subst hR
      refine gW hE ?_;conv=>whnf
      repeat' first | (refine gN hE ?_;conv=>whnf) | refine ⟨n.toNat,hn,?_⟩ | refine ⟨_,get,?_⟩ | refine ⟨⟨by simp only [maxLen];simp;omega,by simp;omega⟩,?_⟩ | exact rfl | refine aY ?_ | refine aN ?_ | refine aT fun h=>?_ | refine aF fun h=>?_ | refine ⟨fun h=>?_,fun h=>?_⟩ | refine aJ ?_ | refine ⟨_,rfl,?_⟩ | refine aD ?_ | fail
     .rw [if_neg (by rw [decide_eq_false h3];decide),Gy,Aj] at hR
      have next:=ih x.p (n::acc) .no (.inr rfl) (fun _=>by have:=hf h1;omega) (fun _ _=>by simp;omega) hR
      refine gW hE ?_;conv=>whnf
      repeat' first | (refine gN hE ?_;conv=>whnf) | refine ⟨n.toNat,hn,?_⟩ | refine ⟨_,get,?_⟩ | refine ⟨⟨by simp only [maxLen];simp;omega,by simp;omega⟩,?_⟩ | exact rfl | refine aY ?_ | refine aN ?_ | refine aT fun h=>?_ | refine aF fun h=>?_ | refine ⟨fun h=>?_,fun h=>?_⟩ | refine aJ ?_ | refine ⟨_,rfl,?_⟩ | refine aD ?_ | fail
      refine To.part [1,2,5] [0] rfl rfl rfl ?_
      exact next
    .rw [dif_neg h2] at hR
     have hR:acc=R:=hR
     subst hR
     refine gW hE ?_;conv=>whnf
     repeat' first | (refine gN hE ?_;conv=>whnf) | exact rfl | refine aY ?_ | refine aN ?_ | refine aT fun h=>?_ | refine aF fun h=>?_ | refine ⟨fun h=>?_,fun h=>?_⟩ | refine aJ ?_ | refine ⟨_,rfl,?_⟩ | refine aD ?_ | fail
   .rw [if_neg (by rw [decide_eq_false h1];decide)] at hR
    have hR:acc=R:=hR
    subst hR
    refine gW hE ?_;conv=>whnf
    repeat' first | (refine gN hE ?_;conv=>whnf) | exact rfl | refine aY ?_ | refine aN ?_ | refine aT fun h=>?_ | refine aF fun h=>?_ | refine ⟨fun h=>?_,fun h=>?_⟩ | refine aJ ?_ | refine ⟨_,rfl,?_⟩ | refine aD ?_ | fail
  .by_cases h1:0<=n
   .rw [if_pos (decide_eq_true h1)] at hR
    by_cases h2:n.toNat<c.ns.length
    .rw [dif_pos h2] at hR
     have hb:=hb h1 h2
     generalize hx:c.ns[n.toNat]=x at hR
     have get:(nav c.ns)[n.toNat]? =some x.av:=(eF h2).trans (by rw [hx])
     have hn:n=(n.toNat:Int):=by omega
     by_cases h3:n<=x.p
     .rw [if_pos (decide_eq_true h3)] at hR
      have hR:n::acc=R:=hR
      subst hR
      refine gW hE ?_;conv=>whnf
      repeat' first | (refine gN hE ?_;conv=>whnf) | refine ⟨n.toNat,hn,?_⟩ | refine ⟨_,get,?_⟩ | refine ⟨⟨by simp only [maxLen];simp;omega,by simp;omega⟩,?_⟩ | exact rfl | refine aY ?_ | refine aN ?_ | refine aT fun h=>?_ | refine aF fun h=>?_ | refine ⟨fun h=>?_,fun h=>?_⟩ | refine aJ ?_ | refine ⟨_,rfl,?_⟩ | refine aD ?_ | fail
     .rw [if_neg (by rw [decide_eq_false h3];decide),Gy,Aj] at hR
      have next:=ih x.p (n::acc) .no (.inr rfl) (fun _=>by have:=hf h1;omega) (fun _ _=>by simp;omega) hR
      refine gW hE ?_;conv=>whnf
      repeat' first | (refine gN hE ?_;conv=>whnf) | refine ⟨n.toNat,hn,?_⟩ | refine ⟨_,get,?_⟩ | refine ⟨⟨by simp only [maxLen];simp;omega,by simp;omega⟩,?_⟩ | exact rfl | refine aY ?_ | refine aN ?_ | refine aT fun h=>?_ | refine aF fun h=>?_ | refine ⟨fun h=>?_,fun h=>?_⟩ | refine aJ ?_ | refine ⟨_,rfl,?_⟩ | refine aD ?_ | fail
      refine To.part [1,2,5] [0] rfl rfl rfl ?_
      exact next
    .rw [dif_neg h2] at hR
     have hR:acc=R:=hR
     subst hR
     refine gW hE ?_;conv=>whnf
     repeat' first | (refine gN hE ?_;conv=>whnf) | exact rfl | refine aY ?_ | refine aN ?_ | refine aT fun h=>?_ | refine aF fun h=>?_ | refine ⟨fun h=>?_,fun h=>?_⟩ | refine aJ ?_ | refine ⟨_,rfl,?_⟩ | refine aD ?_ | fail
   .rw [if_neg (by rw [decide_eq_false h1];decide)] at hR
    have hR:acc=R:=hR
    subst hR
    refine gW hE ?_;conv=>whnf
    repeat' first | (refine gN hE ?_;conv=>whnf) | exact rfl | refine aY ?_ | refine aN ?_ | refine aT fun h=>?_ | refine aF fun h=>?_ | refine ⟨fun h=>?_,fun h=>?_⟩ | refine aJ ?_ | refine ⟨_,rfl,?_⟩ | refine aD ?_ | fail
theorem wE (c:Con) (hc:c.sm) (n:Int):aA Tryz.prog 98 [c.av,ii n] [] (.ret (.slice 1 (iv (hJ c.ns n)) .no)) []:=by
 have hcn:=hc.ns
 refine cT (E:=E) (fn:=Tryz.f98) (g:=.pure _) fun _=>?_
 refine gW hE ?_;conv=>whnf
 refine To.part [1,2,5] [0] rfl rfl rfl ?_
 exact GV c hc _ (n.toNat+1) n [] .nil (.inl rfl) (fun _=>by omega) (fun _ _=>by simp;omega) (by unfold hJ upL;simp)
theorem I9 (ns:List Nod):∀ (f:Nat) (n:Int),(upF ns f n).length<=n.toNat+1/\(upF ns f n).length<=f
 | 0,n=>by simp [upF]
 | f+1,n=>by
  unfold upF
  split
  .split
   .split
    .simp
    .rename_i h0 h1 h2
     have ih:=I9 ns f (ns[n.toNat]).p
     have h2:¬ n<=(ns[n.toNat]).p:=fun h=>h2 (decide_eq_true h)
     have h0:=of_decide_eq_true h0
     simp only [Ao]
     refine ⟨?_,by omega⟩
     by_cases h4:0<=(ns[n.toNat]).p
     .omega
     .have e:(upF ns f (ns[n.toNat]).p)=[]:=by
       cases f with
       | zero=>rfl
       | succ f=>
          unfold upF
          rw [if_neg (by rw [decide_eq_false h4];decide)]
      rw [e]
      simp
   .simp
  .simp
theorem UR (ns:List Nod) (n:Int):(upL ns n).length<=ns.length:=by
 by_cases h:0<=n/\n.toNat<ns.length
 .have:=(I9 ns (n.toNat+1) n).1
  unfold upL
  omega
 .unfold upL upF
  by_cases h0:0<=n
  .rw [if_pos (decide_eq_true h0),dif_neg (by omega)]
   simp
  .rw [if_neg (by rw [decide_eq_false h0];decide)]
   simp
theorem sL (ns:List Nod) (n:Int):(hJ ns n).length<=ns.length:=by
 unfold hJ
 rw [List.length_reverse]
 exact UR ns n
noncomputable abbrev aB1:Func:=Tryz.f172
def onB (ns:List Nod) (n t:Int):Bool:=(hJ ns t).any fun x=>x==n
theorem aAw (ns:List Nod) (n t:Int):onB ns n t=decide (n∈upL ns t):=by
 unfold onB hJ
 rw [List.any_reverse,Fa]
 simp
theorem O9 (c:Con) (n:Int) (l:List Int) (hl:l.length<=1048576) (r:Bool):∀ (m i:Nat),i+m=l.length->((l.drop i).any fun x=>x==n)=r->
  To E aB1 (.pure (.ret (.bool r))) (.head (stk aB1 0) [(1,ii n),(7,.slice 1 (iv l) .no),(8,ii i)] [.cells 26 c.cs]):=by
 have hlen:(iv l).length=l.length:=by simp
 intro m
 induction m with
 | zero=>
  intro i hi hr
  rw [Af (by omega)] at hr
  have hr:false=r:=hr
  subst hr
  refine gW hE ?_;conv=>whnf
  refine aF fun h=>?_
  repeat' first | (refine gN hE ?_;conv=>whnf) | exact rfl | refine aY ?_ | refine aN ?_ | refine aT fun h=>?_ | refine aF fun h=>?_ | refine ⟨fun h=>?_,fun h=>?_⟩ | refine aJ ?_ | refine ⟨_,rfl,?_⟩ | refine aD ?_ | fail
 | succ m ih=>
  intro i hi hr
  have hlt:i<l.length:=by omega
  rw [Ae hlt,Gb] at hr
  have get:=cG hlt
  generalize l[i]=x at hr get
  have ih:=ih (i+1) (by omega)
  refine gW hE ?_;conv=>whnf
  refine aT fun h=>?_
  refine gW hE ?_;conv=>whnf
  refine ⟨i,rfl,?_⟩
  refine gW hE ?_;conv=>whnf
  refine ⟨_,get,?_⟩
  refine gW hE ?_;conv=>whnf
  refine Aa (fun h2=>?_) (fun h2=>?_)
  .have h2:(x==n)=true:=h2
   rw [h2] at hr
   have hr:true=r:=hr
   subst hr
   repeat' first | (refine gN hE ?_;conv=>whnf) | exact rfl | refine aY ?_ | refine aN ?_ | refine aT fun h=>?_ | refine aF fun h=>?_ | refine ⟨fun h=>?_,fun h=>?_⟩ | refine aJ ?_ | refine ⟨_,rfl,?_⟩ | refine aD ?_ | fail
  .have h2:(x==n)=false:=h2
   rw [h2,Ji] at hr
   repeat' first | (refine gN hE ?_;conv=>whnf) | exact rfl | refine aY ?_ | refine aN ?_ | refine aT fun h=>?_ | refine aF fun h=>?_ | refine ⟨fun h=>?_,fun h=>?_⟩ | refine aJ ?_ | refine ⟨_,rfl,?_⟩ | refine aD ?_ | fail
   exact To.cut [1,7,8] 1 rfl rfl rfl rfl (ih hr)
theorem Z7 (c:Con) (hc:c.sm) (n t:Int):aA Tryz.prog 172 [c.av,ii n,ii t] [] (.ret (.bool (onB c.ns n t))) []:=by
 have h1:=sL c.ns t
 have hcn:=hc.ns
 have hp:=wE c hc t
 unfold onB
 generalize hJ c.ns t=l at h1 hp
 refine cT (E:=E) (fn:=Tryz.f172) (g:=.pure _) fun _=>?_
 repeat' first | (refine gN hE ?_;conv=>whnf) | refine .pure _ [] hp ?_ | exact rfl | refine aY ?_ | refine aN ?_ | refine aT fun h=>?_ | refine aF fun h=>?_ | refine ⟨fun h=>?_,fun h=>?_⟩ | refine aJ ?_ | refine ⟨_,rfl,?_⟩ | refine aD ?_ | fail
 exact To.cut [1,7,8] 1 rfl rfl rfl rfl (O9 c n l (by omega) _ l.length 0 (by omega) rfl)
noncomputable abbrev ZK:Func:=Tryz.f146
theorem D0 (c:Con) (hc:c.sm) (n:Int) (l:List Int) (hl:l.length<=1048576) (R:List Int):∀ (m i:Nat) (acc:List Int),i+m=l.length->acc.length<=i->acc++(l.drop i).flatMap (xS c.ns n)=R->
  To (Eo [5] []) ZK (.pure (.ret (.slice 1 (iv R) .no))) (.head (stk ZK 0) [(1,ii n),(2,.ref 0 0),(5,.slice 1 (iv acc) (.own 1 0)),(6,.slice 1 (iv l) .no),(7,ii i)] [.cells 26 c.cs,.tail 0 1 3]):=by
 have hlen:(iv l).length=l.length:=by simp
 intro m
 induction m with
 | zero=>
  intro i acc hi ha hR
  rw [Af (by omega)] at hR
  have hR:acc++[]=R:=hR
  rw [Ay] at hR
  subst hR
  refine gW (hEo [5] []) ?_;conv=>whnf
  refine aF fun h=>?_
  repeat' first | (refine gN (hEo [5] []) ?_;conv=>whnf) | exact rfl | refine aY ?_ | refine aN ?_ | refine aT fun h=>?_ | refine aF fun h=>?_ | refine ⟨fun h=>?_,fun h=>?_⟩ | refine aJ ?_ | refine ⟨_,rfl,?_⟩ | refine aD ?_ | fail
 | succ m ih=>
  intro i acc hi ha hR
  have hla:(iv acc).length=acc.length:=by simp
  have hlt:i<l.length:=by omega
  rw [Ae hlt,Ja] at hR
  have get:=cG hlt
  generalize l[i]=x at hR get
  have hon:=Z7 c hc n x
  rw [aAw] at hon
  unfold xS at hR
  by_cases h2:n∈upL c.ns x
  .rw [if_pos h2] at hR
   rw [decide_eq_true h2] at hon
   have next:=ih (i+1) (acc++[x]) (by omega) (by simp;omega) (by rw [Aj];exact hR)
   have e:iv (acc++[x])=iv acc++[ii x]:=by simp
   rw [e] at next
   refine gW (hEo [5] []) ?_;conv=>whnf
   refine aT fun h=>?_
   repeat' first | (refine gN (hEo [5] []) ?_;conv=>whnf) | refine ⟨i,rfl,?_⟩ | refine ⟨_,get,?_⟩ | refine .pure _ [] hon ?_ | refine ⟨⟨by simp only [maxLen];simp;omega,by simp;omega⟩,?_⟩ | exact rfl | refine aY ?_ | refine aN ?_ | refine aT fun h=>?_ | refine aF fun h=>?_ | refine ⟨fun h=>?_,fun h=>?_⟩ | refine aJ ?_ | refine ⟨_,rfl,?_⟩ | refine aD ?_ | fail
   refine To.part [1,2,5,6,7] [0,1] rfl rfl rfl ?_
   exact next
  .rw [if_neg h2] at hR
   rw [decide_eq_false h2] at hon
   have next:=ih (i+1) acc (by omega) (by omega) hR
   refine gW (hEo [5] []) ?_;conv=>whnf
   refine aT fun h=>?_
   repeat' first | (refine gN (hEo [5] []) ?_;conv=>whnf) | refine ⟨i,rfl,?_⟩ | refine ⟨_,get,?_⟩ | refine .pure _ [] hon ?_ | exact rfl | refine aY ?_ | refine aN ?_ | refine aT fun h=>?_ | refine aF fun h=>?_ | refine ⟨fun h=>?_,fun h=>?_⟩ | refine aJ ?_ | refine ⟨_,rfl,?_⟩ | refine aD ?_ | fail
   refine To.part [1,2,5,6,7] [0,1] rfl rfl rfl ?_
   exact next
theorem AH (c:Con) (hc:c.sm) (n:Int):aA Tryz.prog 146 [c.av,ii n] [] (.ret (.slice 1 (iv (dR c.ns n)) .no)) []:=by
 have hcn:=hc.ns
 have h1:(kC c.ns).length<=c.ns.length:=uZ c.ns c.ns.length 0
 have hlv:=VH c hc
 unfold dR
 generalize kC c.ns=l at h1 hlv
 refine cT (E:=(Eo [5] [])) (fn:=Tryz.f146) (g:=.pure _) fun _=>?_
 repeat' first | (refine gN (hEo [5] []) ?_;conv=>whnf) | refine .pure _ [] hlv ?_ | exact rfl | refine aY ?_ | refine aN ?_ | refine aT fun h=>?_ | refine aF fun h=>?_ | refine ⟨fun h=>?_,fun h=>?_⟩ | refine aJ ?_ | refine ⟨_,rfl,?_⟩ | refine aD ?_ | fail
 refine To.part [1,2,5,6,7] [0,1] rfl rfl rfl ?_
 exact D0 c hc n l (by omega) _ l.length 0 [] (by omega) (by simp) rfl
noncomputable abbrev ZG:Func:=Tryz.f100
theorem LU (c:Con) (l:List V3) (b:List Int) (hb:b.length<=1048576) (R:V3):∀ (m i:Nat) (v:V3),i+m=b.length->(b.drop i).foldl (smS l) v=R->
  To E ZG (.pure (.ret R.av)) (.head (stk ZG 0) [(2,.slice 3 (vav l) .no),(6,.ref 1 0),(7,.ref 2 0),(8,.slice 1 (iv b) .no),(9,ii i)] [.cells 26 c.cs,.cells 57 V3.zero.cs,.cells 57 v.cs]):=by
 have hlen:(iv b).length=b.length:=by simp
 intro m
 induction m with
 | zero=>
  intro i v hi hR
  rw [Af (by omega)] at hR
  have hR:v=R:=hR
  subst hR
  refine gW hE ?_;conv=>whnf
  refine aF fun h=>?_
  repeat' first | (refine gN hE ?_;conv=>whnf) | exact rfl | refine aY ?_ | refine aN ?_ | refine aT fun h=>?_ | refine aF fun h=>?_ | refine ⟨fun h=>?_,fun h=>?_⟩ | refine aJ ?_ | refine ⟨_,rfl,?_⟩ | refine aD ?_ | fail
 | succ m ih=>
  intro i v hi hR
  have hlt:i<b.length:=by omega
  rw [Ae hlt,Bi] at hR
  have get:=cG hlt
  generalize b[i]=x at hR get
  have hat:=BZ l x
  have next:=ih (i+1) (smS l v x) (by omega) hR
  unfold smS at next
  generalize atV l x=u at hat next
  have had:=kA v u
  generalize iG v u=q at had next
  refine gW hE ?_;conv=>whnf
  refine aT fun h=>?_
  repeat' first | (refine gN hE ?_;conv=>whnf) | refine ⟨i,rfl,?_⟩ | refine ⟨_,get,?_⟩ | refine .pure _ [] hat ?_ | refine .pure _ [] had ?_ | exact rfl | refine aY ?_ | refine aN ?_ | refine aT fun h=>?_ | refine aF fun h=>?_ | refine ⟨fun h=>?_,fun h=>?_⟩ | refine aJ ?_ | refine ⟨_,rfl,?_⟩ | refine aD ?_ | fail
  exact To.cut [2,6,7,8,9] 3 rfl rfl rfl rfl next
theorem JH (c:Con) (hc:c.sm) (n:Int) (l:List V3):aA Tryz.prog 100 [c.av,ii n,.slice 3 (vav l) .no] [] (.ret (mV c.ns n l).av) []:=by
 have h1:=oX c hc n
 have hbl:=AH c hc n
 unfold mV
 generalize dR c.ns n=b at h1 hbl
 refine cT (E:=E) (fn:=Tryz.f100) (g:=.pure _) fun _=>?_
 repeat' first | (refine gN hE ?_;conv=>whnf) | refine .pure _ [] hbl ?_ | exact rfl | refine aY ?_ | refine aN ?_ | refine aT fun h=>?_ | refine aF fun h=>?_ | refine ⟨fun h=>?_,fun h=>?_⟩ | refine aJ ?_ | refine ⟨_,rfl,?_⟩ | refine aD ?_ | fail
 exact To.cut [2,6,7,8,9] 3 rfl rfl rfl rfl (LU c l b h1 _ b.length 0 V3.zero (by omega) rfl)
noncomputable abbrev ZH:Func:=Tryz.f50
theorem wI {c:Con} {i:Nat} (h:i<c.ns.length):(nav c.ns)[i]? =some (dM c.ns (i:Int)).av:=by
 unfold dM
 rw [Br,Ac h]
 exact eF h
theorem LX (c:Con) (hc:c.sm) (n:Int):∀ (m i:Nat) (acc:List V3),i+m=c.ns.length->acc=(Dc i).map (fun j:Nat=>(dM c.ns (j:Int)).n)->
  To (Eo [5] []) ZH (.pure (.ret (mV c.ns n (oZ c.ns)).av)) (.head (stk ZH 0) [(1,ii n),(2,.ref 0 0),(4,.ref 1 0),(5,.slice 3 (vav acc) (.own 2 0)),(6,ii i)] [.cells 26 c.cs,.cells 57 V3.zero.cs,.tail 0 3 57]):=by
 have hlen:(nav c.ns).length=c.ns.length:=by simp
 have hcn:=hc.ns
 intro m
 induction m with
 | zero=>
  intro i acc hi ha
  have hi:i=c.ns.length:=by omega
  have ha:acc=oZ c.ns:=by rw [ha,hi];rfl
  subst ha
  have hs:=JH c hc n (oZ c.ns)
  generalize mV c.ns n (oZ c.ns)=S at hs
  refine gW (hEo [5] []) ?_;conv=>whnf
  refine aF fun h=>?_
  repeat' first | (refine gN (hEo [5] []) ?_;conv=>whnf) | refine .pure _ [] (aA.strip hs) ?_ | exact rfl | refine aY ?_ | refine aN ?_ | refine aT fun h=>?_ | refine aF fun h=>?_ | refine ⟨fun h=>?_,fun h=>?_⟩ | refine aJ ?_ | refine ⟨_,rfl,?_⟩ | refine aD ?_ | fail
 | succ m ih=>
  intro i acc hi ha
  have hla:(vav acc).length=acc.length:=by simp
  have hla2:acc.length=i:=by rw [ha];simp
  have get:=wI (c:=c) (i:=i) (by omega)
  have next:=ih (i+1) (acc++[(dM c.ns (i:Int)).n]) (by omega) (by rw [ha,Ia,Cf];rfl)
  have e:vav (acc++[(dM c.ns (i:Int)).n])=vav acc++[(dM c.ns (i:Int)).n.av]:=by simp
  rw [e] at next
  generalize dM c.ns (i:Int)=x at get next
  refine gW (hEo [5] []) ?_;conv=>whnf
  refine aT fun h=>?_
  repeat' first | (refine gN (hEo [5] []) ?_;conv=>whnf) | refine ⟨i,rfl,?_⟩ | refine ⟨_,get,?_⟩ | refine ⟨⟨by simp only [maxLen];simp;omega,by simp;omega⟩,?_⟩ | exact rfl | refine aY ?_ | refine aN ?_ | refine aT fun h=>?_ | refine aF fun h=>?_ | refine ⟨fun h=>?_,fun h=>?_⟩ | refine aJ ?_ | refine ⟨_,rfl,?_⟩ | refine aD ?_ | fail
  refine To.part [1,2,4,5,6] [0,1,2] rfl rfl rfl ?_
  exact next
theorem JK (c:Con) (hc:c.sm) (n:Int):aA Tryz.prog 50 [c.av,ii n] [] (.ret (mV c.ns n (oZ c.ns)).av) []:=by
 refine cT (E:=(Eo [5] [])) (fn:=Tryz.f50) (g:=.pure _) fun _=>?_
 refine gW (hEo [5] []) ?_;conv=>whnf
 refine To.part [1,2,4,5,6] [0,1,2] rfl rfl rfl ?_
 exact LX c hc n c.ns.length 0 [] (by omega) rfl
noncomputable abbrev SY:Func:=Tryz.f189
theorem GX (c:Con) (used:List V3) (t:Int) (b:List Int) (hb:b.length<=1048576) (hok:∀ x∈b,c.ok x) (R:V3):∀ (m i:Nat) (v:V3),i+m=b.length->(b.drop i).foldl (AR c.ns used t) v=R->
  To E SY (.pure (.ret R.av)) (.head (stk SY 0) [(1,.slice 3 (vav used) .no),(3,ii t),(4,.ref 0 0),(8,.ref 1 0),(9,.ref 2 0),(10,.slice 1 (iv b) .no),(11,ii i)] [.cells 26 c.cs,.cells 57 V3.zero.cs,.cells 57 v.cs]):=by
 have hlen:(iv b).length=b.length:=by simp
 intro m
 induction m with
 | zero=>
  intro i v hi hR
  rw [Af (by omega)] at hR
  have hR:v=R:=hR
  subst hR
  refine gW hE ?_;conv=>whnf
  refine aF fun h=>?_
  repeat' first | (refine gN hE ?_;conv=>whnf) | exact rfl | refine aY ?_ | refine aN ?_ | refine aT fun h=>?_ | refine aF fun h=>?_ | refine ⟨fun h=>?_,fun h=>?_⟩ | refine aJ ?_ | refine ⟨_,rfl,?_⟩ | refine aD ?_ | fail
 | succ m ih=>
  intro i v hi hR
  have hlt:i<b.length:=by omega
  have hokx:=hok _ (Bn hlt)
  rw [Ae hlt,Bi] at hR
  have get:=cG hlt
  generalize b[i]=s at hR get hokx
  have next:=ih (i+1) (AR c.ns used t v s) (by omega) hR
  unfold AR at next
  by_cases h1:s=t
  .subst h1
   rw [if_pos (decide_eq_true rfl)] at next
   have hst:(s==s)=true:=by simp
   refine gW hE ?_;conv=>whnf
   refine aT fun h=>?_
   repeat' first | (refine gN hE ?_;conv=>whnf) | refine ⟨i,rfl,?_⟩ | refine ⟨_,get,?_⟩ | refine Aa (fun h=>?_) (fun h=>absurd h (by rw [hst];decide)) | exact rfl | refine aY ?_ | refine aN ?_ | refine aT fun h=>?_ | refine aF fun h=>?_ | refine ⟨fun h=>?_,fun h=>?_⟩ | refine aJ ?_ | refine ⟨_,rfl,?_⟩ | refine aD ?_ | fail
   exact To.cut [1,3,4,8,9,10,11] 3 rfl rfl rfl rfl next
  .rw [if_neg (by rw [decide_eq_false h1];decide)] at next
   have hst:(s==t)=false:=by simp [h1]
   obtain ⟨h0,h2⟩:=hokx
   have hn:s=(s.toNat:Int):=by omega
   have getn:=wI (c:=c) (i:=s.toNat) h2
   rw [<-hn] at getn
   generalize dM c.ns s=x at getn next
   have hs1:=BT x.n x.l
   generalize uL x.n x.l=q1 at hs1 next
   have hat:=BZ used s
   generalize atV used s=q2 at hat next
   have hs2:=BT q1 q2
   generalize uL q1 q2=q3 at hs2 next
   have had:=kA v (ME q3)
   generalize hq:ME q3=q4 at had next
   have e1:max q3.a 0=q4.a:=by rw [<-hq];rfl
   have e2:max q3.b 0=q4.b:=by rw [<-hq];rfl
   have e3:max q3.c 0=q4.c:=by rw [<-hq];rfl
   subst hq
   generalize iG v (ME q3)=q5 at had next
   refine gW hE ?_;conv=>whnf
   refine aT fun h=>?_
   repeat' first
    | exact To.cut [1,3,4,8,9,10,11] 3 rfl rfl rfl rfl next
    | (refine gW hE ?_;conv=>whnf)
    | refine Al s.toNat (Aa hn ?_)
    | refine Al _ (Aa getn ?_)
    | refine Al i (Aa rfl ?_)
    | refine Al _ (Aa get ?_)
    | refine Aa (fun h=>absurd h (by rw [hst];decide)) (fun h=>?_)
    | refine .pure _ [] hs1 ?_
    | refine .pure _ [] hat ?_
    | refine .pure _ [] hs2 ?_
    | refine .pure _ [] had ?_
    | refine aY ?_
    | refine aN ?_
    | refine aJ ?_
    | refine Al _ (Aa rfl ?_)
    | refine Aa (by decide) ?_
    | fail
theorem PD (c:Con) (hc:c.sm) (used:List V3) (n t:Int):aA Tryz.prog 189 [c.av,.slice 3 (vav used) .no,ii n,ii t] [] (.ret (AT c.ns used n t).av) []:=by
 have h1:=oX c hc n
 have hbl:=AH c hc n
 have hok:∀ x∈dR c.ns n,c.ok x:=fun x hx=>BG c n x hx
 unfold AT
 generalize dR c.ns n=b at h1 hbl hok
 refine cT (E:=E) (fn:=Tryz.f189) (g:=.pure _) fun _=>?_
 repeat' first | (refine gN hE ?_;conv=>whnf) | refine .pure _ [] hbl ?_ | exact rfl | refine aY ?_ | refine aN ?_ | refine aT fun h=>?_ | refine aF fun h=>?_ | refine ⟨fun h=>?_,fun h=>?_⟩ | refine aJ ?_ | refine ⟨_,rfl,?_⟩ | refine aD ?_ | fail
 exact To.cut [1,3,4,8,9,10,11] 3 rfl rfl rfl rfl (GX c used t b h1 hok _ b.length 0 V3.zero (by omega) rfl)
noncomputable abbrev ZI:Func:=Tryz.f173
theorem LZ (c:Con) (hc:c.sm) (used:List V3) (t:Int) (need:V3) (nd:V3) (l:List Int) (hl:l.length<=1048576) (r:Bool):∀ (m i:Nat),i+m+1=l.length->(((l.drop i).take m).all fun x=>NT c used need t x)=r->
  To E ZI (.pure (.ret (.bool r))) (.head (stk ZI 0) [(1,.slice 3 (vav used) .no),(2,ii t),(4,.ref 0 0),(7,.ref 1 0),(10,.slice 1 (iv l) .no),(11,ii i)] [.cells 26 c.cs,.cells 57 need.cs]):=by
 have hlen:(iv l).length=l.length:=by simp
 intro m
 induction m with
 | zero=>
  intro i hi hr
  rw [Ft] at hr
  have hr:true=r:=hr
  subst hr
  refine gW hE ?_;conv=>whnf
  repeat' first | (refine gN hE ?_;conv=>whnf) | exact rfl | refine aY ?_ | refine aN ?_ | refine aT fun h=>?_ | refine aF fun h=>?_ | refine ⟨fun h=>?_,fun h=>?_⟩ | refine aJ ?_ | refine ⟨_,rfl,?_⟩ | refine aD ?_ | fail
 | succ m ih=>
  intro i hi hr
  have hlt:i<l.length:=by omega
  rw [Ae hlt,List.take_succ_cons,Dq] at hr
  have get:=cG hlt
  generalize l[i]=x at hr get
  have next:=ih (i+1) (by omega)
  unfold NT at hr
  have h1:=JH c hc x used
  generalize mV c.ns x used=q1 at h1 hr
  have h2:=kA q1 need
  generalize iG q1 need=q2 at h2 hr
  have h3:=PD c hc used x t
  generalize AT c.ns used x t=q3 at h3 hr
  have h4:=kA q2 q3
  generalize iG q2 q3=q4 at h4 hr
  have h5:=JK c hc x
  generalize mV c.ns x (oZ c.ns)=q5 at h5 hr
  have h6:=iZ q4 q5
  cases hq:bO q4 q5 with
  | false=>
   rw [hq] at h6 hr
   have hr:false=r:=hr
   subst hr
   refine gW hE ?_;conv=>whnf
   repeat' first | (refine gN hE ?_;conv=>whnf) | refine ⟨i,rfl,?_⟩ | refine ⟨_,get,?_⟩ | refine .pure _ [] h1 ?_ | refine .pure _ [] h2 ?_ | refine .pure _ [] h3 ?_ | refine .pure _ [] h4 ?_ | refine .pure _ [] h5 ?_ | refine .pure _ [] h6 ?_ | exact rfl | refine aY ?_ | refine aN ?_ | refine aT fun h=>?_ | refine aF fun h=>?_ | refine ⟨fun h=>?_,fun h=>?_⟩ | refine aJ ?_ | refine ⟨_,rfl,?_⟩ | refine aD ?_ | fail
  | true=>
   rw [hq,Bt] at hr
   rw [hq] at h6
   have next:=next hr
   refine gW hE ?_;conv=>whnf
   repeat' first | (refine gN hE ?_;conv=>whnf) | refine ⟨i,rfl,?_⟩ | refine ⟨_,get,?_⟩ | refine .pure _ [] h1 ?_ | refine .pure _ [] h2 ?_ | refine .pure _ [] h3 ?_ | refine .pure _ [] h4 ?_ | refine .pure _ [] h5 ?_ | refine .pure _ [] h6 ?_ | exact rfl | refine aY ?_ | refine aN ?_ | refine aT fun h=>?_ | refine aF fun h=>?_ | refine ⟨fun h=>?_,fun h=>?_⟩ | refine aJ ?_ | refine ⟨_,rfl,?_⟩ | refine aD ?_ | fail
   exact To.cut [1,2,4,7,10,11] 2 rfl rfl rfl rfl next
theorem N7 {ns:List Nod} {t:Int} (h0:0<=t) (h1:t.toNat<ns.length):∃ r,upL ns t=t::r:=by
 unfold upL upF
 rw [if_pos (decide_eq_true h0),dif_pos h1]
 split
 .exact ⟨_,rfl⟩
 .exact ⟨_,rfl⟩
theorem RJ {ns:List Nod} {t:Int} (h:bS ns t=true):0<=t/\t.toNat<ns.length:=by
 unfold bS at h
 by_cases h1:0<=t
 .rw [if_pos (decide_eq_true h1)] at h
  by_cases h2:t<(ns.length:Int)
  .omega
  .rw [if_neg (by rw [decide_eq_false h2];decide)] at h
   cases h
 .rw [if_neg (by rw [decide_eq_false h1];decide)] at h
  cases h
theorem MO (c:Con) (used:List V3) (t:Int) (need:V3) (r:List Int) (hu:upL c.ns t=t::r):(upL c.ns t).all (EP c used t need)=(QP c used need t&&((hJ c.ns t).take ((hJ c.ns t).length-1)).all fun x=>NT c used need t x):=by
 have hpw:=GL c.ns (t.toNat+1) t
 have hpw:(upL c.ns t).Pairwise fun a b=>b<a:=hpw
 unfold hJ
 rw [hu] at hpw⊢
 rw [Dq]
 unfold EP
 rw [if_pos (decide_eq_true rfl)]
 congr 1
 have e:(Jm ((t::r).reverse.length-1) (t::r).reverse)=r.reverse:=by
  rw [Gy,Ag,List.length_reverse]
  show Jm (r.length+1-1) _=_
  rw [Iq,Dd (by simp)]
  exact Cs (by simp)
 rw [e,List.all_reverse]
 rw [Fa,Cl,Cl]
 have hne:∀ x∈r,¬ x=t:=fun x hx=>by
  have:=(Ip.1 hpw).1 x hx
  omega
 constructor
 .intro h x hx
  have:=h x hx
  rwa [if_neg (by rw [decide_eq_false (hne x hx)];decide)] at this
 .intro h x hx
  rw [if_neg (by rw [decide_eq_false (hne x hx)];decide)]
  exact h x hx
theorem LV (c:Con) (hc:c.sm) (used:List V3) (t:Int) (need:V3) (r:Bool) (hr:CB c used t need=r):aA Tryz.prog 173 [c.av,.slice 3 (vav used) .no,ii t,need.av] [] (.ret (.bool r)) []:=by
 have hlf:=kU c hc t
 rw [sG] at hlf
 unfold CB at hr
 cases hq:bS c.ns t with
 | false=>
  rw [hq] at hlf
  rw [if_neg (by rw [hq];decide)] at hr
  subst hr
  refine cT (E:=E) (fn:=Tryz.f173) (g:=.pure _) fun _=>?_
  repeat' first | (refine gN hE ?_;conv=>whnf) | refine .pure _ [] hlf ?_ | exact rfl | refine aY ?_ | refine aN ?_ | refine aT fun h=>?_ | refine aF fun h=>?_ | refine ⟨fun h=>?_,fun h=>?_⟩ | refine aJ ?_ | refine ⟨_,rfl,?_⟩ | refine aD ?_ | fail
 | true=>
  rw [hq] at hlf
  rw [if_pos hq] at hr
  obtain ⟨g0,g1⟩:=RJ hq
  obtain ⟨rr,hu⟩:=N7 g0 g1
  rw [MO c used t need rr hu] at hr
  have hpl:=sL c.ns t
  have hpp:0<(hJ c.ns t).length:=by unfold hJ;rw [hu];simp
  have hp:=wE c hc t
  generalize hJ c.ns t=l at hr hpl hp hpp
  have hcn:=hc.ns
  have hn:t=(t.toNat:Int):=by omega
  have getn:=wI (c:=c) (i:=t.toNat) g1
  rw [<-hn] at getn
  unfold QP at hr
  generalize dM c.ns t=x at getn hr
  have h1:=BZ used t
  generalize atV used t=q1 at h1 hr
  have h2:=kA q1 need
  generalize iG q1 need=q2 at h2 hr
  have h3:=kA x.n x.b
  generalize iG x.n x.b=q3 at h3 hr
  have h4:=iZ q2 q3
  cases hw:bO q2 q3 with
  | false=>
   rw [hw] at h4 hr
   have hr:false=r:=hr
   subst hr
   refine cT (E:=E) (fn:=Tryz.f173) (g:=.pure _) fun _=>?_
   repeat' first | (refine gN hE ?_;conv=>whnf) | refine .pure _ [] hlf ?_ | refine ⟨t.toNat,hn,?_⟩ | refine ⟨_,getn,?_⟩ | refine .pure _ [] h1 ?_ | refine .pure _ [] h2 ?_ | refine .pure _ [] h3 ?_ | refine .pure _ [] h4 ?_ | exact rfl | refine aY ?_ | refine aN ?_ | refine aT fun h=>?_ | refine aF fun h=>?_ | refine ⟨fun h=>?_,fun h=>?_⟩ | refine aJ ?_ | refine ⟨_,rfl,?_⟩ | refine aD ?_ | fail
  | true=>
   rw [hw,Bt] at hr
   rw [hw] at h4
   refine cT (E:=E) (fn:=Tryz.f173) (g:=.pure _) fun _=>?_
   repeat' first | (refine gN hE ?_;conv=>whnf) | refine .pure _ [] hlf ?_ | refine ⟨t.toNat,hn,?_⟩ | refine ⟨_,getn,?_⟩ | refine .pure _ [] h1 ?_ | refine .pure _ [] h2 ?_ | refine .pure _ [] h3 ?_ | refine .pure _ [] h4 ?_ | refine .pure _ [] hp ?_ | exact rfl | refine aY ?_ | refine aN ?_ | refine aT fun h=>?_ | refine aF fun h=>?_ | refine ⟨fun h=>?_,fun h=>?_⟩ | refine aJ ?_ | refine ⟨_,rfl,?_⟩ | refine aD ?_ | fail
   exact To.cut [1,2,4,7,10,11] 2 rfl rfl rfl rfl (LZ c hc used t need need l (by omega) r (l.length-1) 0 (by omega) hr)
theorem O3 (c:Con) (hc:c.sm) (used:List V3) (t:Int) (need:V3):aA Tryz.prog 173 [c.av,.slice 3 (vav used) .no,ii t,need.av] [] (.ret (.bool (CB c used t need))) []:=LV c hc used t need _ rfl
noncomputable abbrev M6:Func:=Tryz.f49
abbrev ofO (c:Con) (xs:List V3):List AObj:=[.cells 26 c.cs,.row 0 3 57 (vav xs)]
theorem Z8 (c:Con) (l:List Rn) (R:List V3) (x:Rn) (j:Nat) (hj:j<1048576) (hx:(rav l)[j]? =some x.av) (p:List Int) (hpl:p.length<=1048576) (hpo:∀ k∈p,0<=k/\k.toNat<c.ns.length):
  ∀ (m i:Nat) (xs:List V3),xs.length=c.ns.length->i+m=p.length->
   To E M6 (.pure (.ret (.slice 3 (vav R) .no))) (.head (stk M6 0) [(1,.slice 14 (rav l) .no),(2,.ref 0 0),(5,.row 1 0),(6,ii ((j:Int)+1))] (ofO c ((p.drop i).foldl (qB (dem x.g)) xs)))->
  To E M6 (.pure (.ret (.slice 3 (vav R) .no))) (.head (stk M6 1) [(1,.slice 14 (rav l) .no),(2,.ref 0 0),(5,.row 1 0),(6,ii j),(7,.slice 1 (iv p) .no),(8,ii i)] (ofO c xs)):=by
 have hlen:(iv p).length=p.length:=by simp
 have hll:(rav l).length=l.length:=by simp
 intro m
 induction m with
 | zero=>
  intro i xs hxl hi hto
  rw [Af (by omega)] at hto
  refine gW hE ?_;conv=>whnf
  refine aF fun h=>?_
  refine gW hE ?_;conv=>whnf
  refine aJ ?_
  refine gW hE ?_;conv=>whnf
  exact To.cut [1,2,5,6] 2 rfl rfl rfl rfl hto
 | succ m ih=>
  intro i xs hxl hi hto
  have hlt:i<p.length:=by omega
  obtain ⟨k0,k1⟩:=hpo _ (Bn hlt)
  rw [Ae hlt,Bi] at hto
  have get:=cG hlt
  generalize p[i]=k at hto get k0 k1
  have hn:k=(k.toNat:Int):=by omega
  have hvl:(vav xs).length=xs.length:=by simp
  have next:=ih (i+1) (qB (dem x.g) xs k) (by rw [GC];exact hxl) (by omega) hto
  have hl2:k.toNat<xs.length:=by omega
  have gv:(vav xs)[k.toNat]? =some xs[k.toNat].av:=iP hl2
  unfold qB at next
  rw [Ac hl2,show ((some xs[k.toNat]).getD V3.zero)=xs[k.toNat] from rfl] at next
  generalize xs[k.toNat]=u at gv next
  have hd:=JQ x.g
  generalize dem x.g=d at hd next hto
  have ha:=kA u d
  generalize iG u d=q at ha next
  unfold ofO at next
  rw [<-BJ] at next
  refine gW hE ?_;conv=>whnf
  refine aT fun h=>?_
  repeat' first
   | (refine gN hE ?_;conv=>whnf)
   | refine Al i (Aa rfl ?_)
   | refine Al k.toNat (Aa hn ?_)
   | refine Al j (Aa rfl ?_)
   | refine Al _ (Aa get ?_)
   | refine Al _ (Aa gv ?_)
   | refine Al _ (Aa hx ?_)
   | refine .pure _ [] hd ?_
   | refine .pure _ [] ha ?_
   | refine Aa (by omega) ?_
   | refine aJ ?_
   | fail
  exact To.cut [1,2,5,6,7,8] 2 rfl rfl rfl rfl next
theorem VE (c:Con) (hc:c.sm) (l:List Rn) (hl:l.length<=1048576) (R:List V3):∀ (m i:Nat) (xs:List V3),i+m=l.length->xs.length=c.ns.length->(l.drop i).foldl (BU c) xs=R->
  To E M6 (.pure (.ret (.slice 3 (vav R) .no))) (.head (stk M6 0) [(1,.slice 14 (rav l) .no),(2,.ref 0 0),(5,.row 1 0),(6,ii i)] (ofO c xs)):=by
 have hlen:(rav l).length=l.length:=by simp
 have hcn:=hc.ns
 intro m
 induction m with
 | zero=>
  intro i xs hi hx hR
  rw [Af (by omega)] at hR
  subst hR
  refine gW hE ?_;conv=>whnf
  refine aF fun h=>?_
  repeat' first | (refine gN hE ?_;conv=>whnf) | exact rfl | refine aY ?_ | refine aN ?_ | refine aT fun h=>?_ | refine aF fun h=>?_ | refine ⟨fun h=>?_,fun h=>?_⟩ | refine aJ ?_ | refine ⟨_,rfl,?_⟩ | refine aD ?_ | fail
 | succ m ih=>
  intro i xs hi hx hR
  have hlt:i<l.length:=by omega
  rw [Ae hlt,Bi] at hR
  have get:(rav l)[i]? =some l[i].av:=fQ hlt
  generalize l[i]=x at hR get
  have next:=ih (i+1) (BU c xs x) (by omega) (by rw [PB];exact hx) hR
  have hlf:=kU c hc x.g.ten
  rw [sG] at hlf
  unfold BU at next
  cases hq:bS c.ns x.g.ten with
  | false=>
   rw [hq] at hlf
   rw [if_neg (by rw [hq];decide)] at next
   refine gW hE ?_;conv=>whnf
   refine aT fun h=>?_
   repeat' first | (refine gN hE ?_;conv=>whnf) | refine ⟨i,rfl,?_⟩ | refine ⟨_,get,?_⟩ | refine .pure _ [] hlf ?_ | exact rfl | refine aY ?_ | refine aN ?_ | refine aT fun h=>?_ | refine aF fun h=>?_ | refine ⟨fun h=>?_,fun h=>?_⟩ | refine aJ ?_ | refine ⟨_,rfl,?_⟩ | refine aD ?_ | fail
   exact To.cut [1,2,5,6] 2 rfl rfl rfl rfl next
  | true=>
   rw [hq] at hlf
   rw [if_pos hq] at next
   have hp:=wE c hc x.g.ten
   have hpl:=sL c.ns x.g.ten
   have hpo:∀ k∈hJ c.ns x.g.ten,0<=k/\k.toNat<c.ns.length:=fun k hk=>GM _ _ _ _ (List.mem_reverse.1 hk)
   generalize hJ c.ns x.g.ten=p at hp hpl hpo next
   have hin:=Z8 c l R x i (by omega) get p (by omega) hpo p.length 0 xs hx (by omega) next
   refine gW hE ?_;conv=>whnf
   refine aT fun h=>?_
   repeat' first | (refine gN hE ?_;conv=>whnf) | refine ⟨i,rfl,?_⟩ | refine ⟨_,get,?_⟩ | refine .pure _ [] hlf ?_ | refine .pure _ [] hp ?_ | exact rfl | refine aY ?_ | refine aN ?_ | refine aT fun h=>?_ | refine aF fun h=>?_ | refine ⟨fun h=>?_,fun h=>?_⟩ | refine aJ ?_ | refine ⟨_,rfl,?_⟩ | refine aD ?_ | fail
   exact To.cut [1,2,5,6,7,8] 2 rfl rfl rfl rfl hin
theorem PA (c:Con) (hc:c.sm) (l:List Rn) (hl:l.length<=1048576):aA Tryz.prog 49 [c.av,.slice 14 (rav l) .no] [] (.ret (.slice 3 (vav (ofL c l)) .no)) []:=by
 have h1:=hc.ns
 have hlen:(nav c.ns).length=c.ns.length:=by simp
 rw [<-aBD]
 have next:=VE c hc l hl (VF c l) l.length 0 (Ai c.ns.length V3.zero) (by omega) (by simp) rfl
 unfold ofO at next
 rw [show vav (Ai c.ns.length V3.zero)=Ai c.ns.length (AVal.agg [ii 0,ii 0,ii 0]) from by simp [vav,V3.av,V3.zero,V3.cs]] at next
 generalize VF c l=R at next
 refine cT (E:=E) (fn:=Tryz.f49) (g:=.pure _) fun _=>?_
 refine gW hE ?_;conv=>whnf
 refine ⟨c.ns.length,by rw [hlen],?_⟩
 refine gW hE ?_;conv=>whnf
 refine ⟨⟨rfl,by omega,by simp only [maxLen];omega⟩,?_⟩
 refine gW hE ?_;conv=>whnf
 exact To.cut [1,2,5,6] 2 rfl rfl rfl rfl next
noncomputable abbrev nU:Func:=Tryz.f47
theorem PH (c:Con) (r:List Rn) (R:List V3) (x:Rn) (j:Nat) (hj:j<1048576) (hx:(rav r)[j]? =some x.av) (hh:x.hs.length<=1048576) (hc:c.hs.length<=1048576):
  ∀ (m i:Nat) (xs:List V3),xs.length=c.hs.length->i+m=x.hs.length->
   To (Er [5] []) nU (.pure (.ret (.slice 3 (vav R) .no))) (.head (stk nU 1) [(1,.slice 14 (rav r) .no),(5,.row 1 0),(7,ii ((j:Int)+1))] (ofO c ((x.hs.drop i).foldl (rJ x.g.need) xs)))->
  To (Er [5] []) nU (.pure (.ret (.slice 3 (vav R) .no))) (.head (stk nU 2) [(1,.slice 14 (rav r) .no),(5,.row 1 0),(7,ii j),(8,ii i)] (ofO c xs)):=by
 have hlen:(iv x.hs).length=x.hs.length:=by simp
 have hll:(rav r).length=r.length:=by simp
 intro m
 induction m with
 | zero=>
  intro i xs hxl hi hto
  rw [Af (by omega)] at hto
  refine gW (hEr [5] []) ?_;conv=>whnf
  refine ⟨j,rfl,?_⟩
  refine gW (hEr [5] []) ?_;conv=>whnf
  refine ⟨_,hx,?_⟩
  refine gW (hEr [5] []) ?_;conv=>whnf
  refine aF fun h=>?_
  refine gW (hEr [5] []) ?_;conv=>whnf
  refine aJ ?_
  refine gW (hEr [5] []) ?_;conv=>whnf
  refine To.part [1,5,7] [0,1] rfl rfl rfl ?_
  exact hto
 | succ m ih=>
  intro i xs hxl hi hto
  have hlt:i<x.hs.length:=by omega
  rw [Ae hlt,Bi] at hto
  have get:=cG hlt
  generalize x.hs[i]=u0 at hto get
  have hvl:(vav xs).length=xs.length:=by simp
  have next:=ih (i+1) (rJ x.g.need xs u0) (by rw [sX];exact hxl) (by omega) hto
  unfold rJ ofO at next
  by_cases h1:0<=u0
  .rw [if_pos (decide_eq_true h1)] at next
   by_cases h2:u0<(xs.length:Int)
   .rw [if_pos (decide_eq_true h2)] at next
    have hl2:u0.toNat<xs.length:=by omega
    have hn:u0=(u0.toNat:Int):=by omega
    rw [Ac hl2] at next
    have gv:(vav xs)[u0.toNat]? =some xs[u0.toNat].av:=iP hl2
    rw [show ((some xs[u0.toNat]).getD V3.zero)=xs[u0.toNat] from rfl] at next
    generalize xs[u0.toNat]=u at gv next
    have hsb:=BT u x.g.need
    generalize uL u x.g.need=q at hsb next
    rw [<-BJ] at next
    refine gW (hEr [5] []) ?_;conv=>whnf
    refine ⟨j,rfl,?_⟩
    refine gW (hEr [5] []) ?_;conv=>whnf
    refine ⟨_,hx,?_⟩
    refine gW (hEr [5] []) ?_;conv=>whnf
    refine aT fun h=>?_
    repeat' first | (refine gN (hEr [5] []) ?_;conv=>whnf) | refine ⟨i,rfl,?_⟩ | refine ⟨j,rfl,?_⟩ | refine ⟨u0.toNat,hn,?_⟩ | refine ⟨_,get,?_⟩ | refine ⟨_,hx,?_⟩ | refine ⟨_,gv,?_⟩ | refine .pure _ [] hsb ?_ | exact rfl | refine aY ?_ | refine aN ?_ | refine aT fun h=>?_ | refine aF fun h=>?_ | refine ⟨fun h=>?_,fun h=>?_⟩ | refine aJ ?_ | refine ⟨_,rfl,?_⟩ | refine aD ?_ | fail
    refine To.part [1,5,7,8] [0,1] rfl rfl rfl ?_
    exact next
   .rw [if_neg (by rw [decide_eq_false h2];decide)] at next
    refine gW (hEr [5] []) ?_;conv=>whnf
    refine ⟨j,rfl,?_⟩
    refine gW (hEr [5] []) ?_;conv=>whnf
    refine ⟨_,hx,?_⟩
    refine gW (hEr [5] []) ?_;conv=>whnf
    refine aT fun h=>?_
    repeat' first | (refine gN (hEr [5] []) ?_;conv=>whnf) | refine ⟨i,rfl,?_⟩ | refine ⟨j,rfl,?_⟩ | refine ⟨_,get,?_⟩ | refine ⟨_,hx,?_⟩ | exact rfl | refine aY ?_ | refine aN ?_ | refine aT fun h=>?_ | refine aF fun h=>?_ | refine ⟨fun h=>?_,fun h=>?_⟩ | refine aJ ?_ | refine ⟨_,rfl,?_⟩ | refine aD ?_ | fail
    refine To.part [1,5,7,8] [0,1] rfl rfl rfl ?_
    exact next
  .rw [if_neg (by rw [decide_eq_false h1];decide)] at next
   refine gW (hEr [5] []) ?_;conv=>whnf
   refine ⟨j,rfl,?_⟩
   refine gW (hEr [5] []) ?_;conv=>whnf
   refine ⟨_,hx,?_⟩
   refine gW (hEr [5] []) ?_;conv=>whnf
   refine aT fun h=>?_
   repeat' first | (refine gN (hEr [5] []) ?_;conv=>whnf) | refine ⟨i,rfl,?_⟩ | refine ⟨j,rfl,?_⟩ | refine ⟨_,get,?_⟩ | refine ⟨_,hx,?_⟩ | exact rfl | refine aY ?_ | refine aN ?_ | refine aT fun h=>?_ | refine aF fun h=>?_ | refine ⟨fun h=>?_,fun h=>?_⟩ | refine aJ ?_ | refine ⟨_,rfl,?_⟩ | refine aD ?_ | fail
   refine To.part [1,5,7,8] [0,1] rfl rfl rfl ?_
   exact next
theorem L5 (c:Con) (hc:c.sm) (r:List Rn) (hr:Sm r) (R:List V3):∀ (m i:Nat) (xs:List V3),i+m=r.length->xs.length=c.hs.length->(r.drop i).foldl uB xs=R->
  To (Er [5] []) nU (.pure (.ret (.slice 3 (vav R) .no))) (.head (stk nU 1) [(1,.slice 14 (rav r) .no),(5,.row 1 0),(7,ii i)] (ofO c xs)):=by
 have hlen:(rav r).length=r.length:=by simp
 have hl:=hr.1
 intro m
 induction m with
 | zero=>
  intro i xs hi hx hR
  rw [Af (by omega)] at hR
  subst hR
  refine gW (hEr [5] []) ?_;conv=>whnf
  refine aF fun h=>?_
  repeat' first | (refine gN (hEr [5] []) ?_;conv=>whnf) | exact rfl | refine aY ?_ | refine aN ?_ | refine aT fun h=>?_ | refine aF fun h=>?_ | refine ⟨fun h=>?_,fun h=>?_⟩ | refine aJ ?_ | refine ⟨_,rfl,?_⟩ | refine aD ?_ | fail
 | succ m ih=>
  intro i xs hi hx hR
  have hlt:i<r.length:=by omega
  have hb:=hr.at hlt
  rw [Ae hlt,Bi] at hR
  generalize hq:r[i]=x at hR hb
  have get:(rav r)[i]? =some x.av:=(fQ hlt).trans (by rw [hq])
  have next:=ih (i+1) (uB xs x) (by omega) (by rw [sW];exact hx) hR
  refine gW (hEr [5] []) ?_;conv=>whnf
  refine aT fun h=>?_
  refine gW (hEr [5] []) ?_;conv=>whnf
  refine To.part [1,5,7,8] [0,1] rfl rfl rfl ?_
  exact PH c r R x i (by omega) get hb hc.hs x.hs.length 0 xs hx (by omega) next
theorem G0 (c:Con) (hc:c.sm) (r:List Rn) (hr:Sm r):∀ (m i:Nat) (xs:List V3),i+m=c.hs.length->xs=(Dc i).map (fun j:Nat=>(bG c.hs (j:Int)).c)->
  To (Er [5] []) nU (.pure (.ret (.slice 3 (vav (hZ c r)) .no))) (.head (stk nU 0) [(1,.slice 14 (rav r) .no),(2,.ref 0 0),(5,.row 1 0),(6,ii i)] (ofO c xs)):=by
 have hlen:(hav c.hs).length=c.hs.length:=by simp
 have h1:=hc.hs
 intro m
 induction m with
 | zero=>
  intro i xs hi hx
  have hi:i=c.hs.length:=by omega
  subst hi
  have next:=L5 c hc r hr (hZ c r) r.length 0 xs (by omega) (by rw [hx];simp) (by rw [hx];rfl)
  refine gW (hEr [5] []) ?_;conv=>whnf
  refine aF fun h=>?_
  refine gW (hEr [5] []) ?_;conv=>whnf
  refine To.part [1,5,7] [0,1] rfl rfl rfl ?_
  exact next
 | succ m ih=>
  intro i xs hi hx
  have hxl:xs.length=i:=by rw [hx];simp
  have hvl:(vav xs).length=xs.length:=by simp
  have gn:(hav c.hs)[i]? =some (bG c.hs (i:Int)).av:=oP (by omega)
  have next:=ih (i+1) (xs++[(bG c.hs (i:Int)).c]) (by omega) (by rw [hx,Ia,Cf];rfl)
  unfold ofO at next
  have e:vav (xs++[(bG c.hs (i:Int)).c])=vav xs++[(bG c.hs (i:Int)).c.av]:=by simp
  rw [e] at next
  generalize bG c.hs (i:Int)=x at gn next
  refine gW (hEr [5] []) ?_;conv=>whnf
  refine aT fun h=>?_
  repeat' first | (refine gN (hEr [5] []) ?_;conv=>whnf) | refine ⟨i,rfl,?_⟩ | refine ⟨_,gn,?_⟩ | refine ⟨⟨by simp only [maxLen];simp;omega,by simp;omega⟩,?_⟩ | exact rfl | refine aY ?_ | refine aN ?_ | refine aT fun h=>?_ | refine aF fun h=>?_ | refine ⟨fun h=>?_,fun h=>?_⟩ | refine aJ ?_ | refine ⟨_,rfl,?_⟩ | refine aD ?_ | fail
  refine To.part [1,2,5,6] [0,1] rfl rfl rfl ?_
  exact next
theorem DT (c:Con) (hc:c.sm) (r:List Rn) (hr:Sm r):aA Tryz.prog 47 [c.av,.slice 14 (rav r) .no] [] (.ret (.slice 3 (vav (hZ c r)) .no)) []:=by
 refine cT (E:=(Er [5] [])) (fn:=Tryz.f47) (g:=.pure _) fun _=>?_
 refine gW (hEr [5] []) ?_;conv=>whnf
 refine To.part [1,2,5,6] [0,1] rfl rfl rfl ?_
 exact G0 c hc r hr c.hs.length 0 [] (by omega) rfl
def alB (c:Con) (lv a b:Int):Bool:=
 if lv=0 then decide (a=b)
 else if lv=1 then decide ((bG c.hs a).f=(bG c.hs b).f/\(bG c.hs a).b=(bG c.hs b).b/\(bG c.hs a).r=(bG c.hs b).r)
 else if lv=2 then decide ((bG c.hs a).f=(bG c.hs b).f/\(bG c.hs a).b=(bG c.hs b).b)
 else decide ((bG c.hs a).f=(bG c.hs b).f)
abbrev E1 (c:Con) (lv a:Int):List Int:=ofK (bG c.hs a) a lv
theorem aBo (c:Con) (lv a b:Int) (h0:0<=lv) (h3:lv<=3):alB c lv a b=decide (E1 c lv a=E1 c lv b):=by
 unfold alB E1 ofK
 by_cases e0:lv=0
 .subst e0
  by_cases h:a=b
  .subst h;simp
  .simp [h]
 by_cases e1:lv=1
 .subst e1;simp
 by_cases e2:lv=2
 .subst e2;simp
 have e3:lv=3:=by omega
 subst e3
 simp
def nI (c:Con) (lv i:Int):List (List Int)->Nat->Option Nat
 | [],_=>none
 | g::r,k=>if alB c lv (g.headD 0) i=true then some k else nI c lv i r (k+1)
def rgS (c:Con) (lv:Int) (s:List (List Int)) (i:Nat):List (List Int):=
 match nI c lv (i:Int) s 0 with
 | some k=>s.set k ((s[k]?).getD []++[(i:Int)])
 | none=>s++[[(i:Int)]]
def rgL (c:Con) (lv:Int):List (List Int):=if decide (lv<0)=true then [] else if decide (3<lv)=true then [] else (Dc c.hs.length).foldl (rgS c lv) []
def lF (c:Con) (lv:Int):Nat->List (List Int)->List (List Int×Nat)
 | _,[]=>[]
 | k,g::r=>(E1 c lv (g.headD 0),k)::lF c lv (k+1) r
theorem xM (c:Con) (lv i:Int) (h0:0<=lv) (h3:lv<=3):∀ (s:List (List Int)) (k:Nat),jI (lF c lv k s) (E1 c lv i)=nI c lv i s k
 | [],k=>rfl
 | g::r,k=>by
  unfold lF jI nI
  rw [aBo c lv _ _ h0 h3,xM c lv i h0 h3 r (k+1)]
  by_cases h:E1 c lv (g.headD 0)=E1 c lv i
  .rw [if_pos h,if_pos (decide_eq_true h)]
  .rw [if_neg h,if_neg (by rw [decide_eq_false h];decide)]
theorem AP (c:Con) (lv i:Int):∀ (s:List (List Int)) (k m:Nat),(∀ g∈s,g≠[])->lF c lv m (s.set k ((s[k]?).getD []++[i]))=lF c lv m s
 | [],k,m,_=>by simp
 | g::r,0,m,h=>by
  have hg:=h g (by simp)
  cases g with
  | nil=>exact absurd rfl hg
  | cons a t=>rfl
 | g::r,k+1,m,h=>by
  have ih:=AP c lv i r k (m+1) fun x hx=>h x (by simp [hx])
  show _::lF c lv (m+1) (r.set k ((r[k]?).getD []++[i]))=_
  rw [ih]
  rfl
theorem xL (c:Con) (lv i:Int):∀ (s:List (List Int)) (m:Nat),lF c lv m (s++[[i]])=lF c lv m s++[(E1 c lv i,m+s.length)]
 | [],m=>rfl
 | g::r,m=>by
  show _::lF c lv (m+1) (r++[[i]])=_::(lF c lv (m+1) r++_)
  rw [xL c lv i r (m+1)]
  simp only [Ao]
  rw [show m+1+r.length=m+(r.length+1) from by omega]
theorem aAc (c:Con) (lv:Int) (h0:0<=lv) (h3:lv<=3) (s:GSt) (i:Nat) (h1:s.1=lF c lv 0 s.2) (h2:∀ g∈s.2,g≠[]):
  (gpS c lv s i).2=rgS c lv s.2 i/\(gpS c lv s i).1=lF c lv 0 (rgS c lv s.2 i)/\∀ g∈rgS c lv s.2 i,g≠[]:=by
 have hf:=xM c lv (i:Int) h0 h3 s.2 0
 rw [<-h1] at hf
 unfold gpS rgS
 have hf':jI s.1 (ofK (bG c.hs (i:Int)) i lv)=nI c lv (i:Int) s.2 0:=hf
 rw [hf']
 cases nI c lv (i:Int) s.2 0 with
 | some k=>
  refine ⟨rfl,?_,fun g hg=>?_⟩
  .show s.1=_
   rw [h1,AP c lv i s.2 k 0 h2]
  .rcases Ej hg with hg | rfl
   .exact h2 g hg
   .simp
 | none=>
  refine ⟨rfl,?_,fun g hg=>?_⟩
  .show s.1++_=_
   rw [h1,xL,Bk]
  .rcases Ba.1 hg with hg | hg
   .exact h2 g hg
   .simp at hg;subst hg;simp
theorem aAd (c:Con) (lv:Int):rgL c lv=gpL c lv:=by
 unfold rgL gpL
 by_cases h1:lv<0
 .simp only [h1,decide_true,if_true]
 by_cases h2:3<lv
 .simp only [h1,h2,decide_true,decide_false,if_true,if_false,Bq]
 simp only [h1,h2,decide_false,if_false,Bq]
 have key:∀ (l:List Nat) (s:GSt),s.1=lF c lv 0 s.2->(∀ g∈s.2,g≠[])->l.foldl (rgS c lv) s.2=(l.foldl (gpS c lv) s).2:=fun l=>by
  induction l with
  | nil=>intro s _ _;rfl
  | cons i r ih=>
   intro s a b
   obtain ⟨e1,e2,e3⟩:=aAc c lv (by omega) (by omega) s i a b
   rw [Bi,Bi,<-e1,ih _ (by rw [e1];exact e2) (by rw [e1];exact e3)]
 exact key _ ([],[]) rfl (fun g hg=>by simp at hg)
def rrF (free need:V3):Nat->Int->Int
 | 0,n=>n
 | f+1,n=>if bO (GF need (n+1)) free=true then (if bO need free=true then rrF free need f (n+1) else n) else n
def rrI (free need:V3):Int:=rrF free need 16 0
theorem pK {v:V3} (h:aV v=true):(0<=v.a/\v.a<=1048576)/\(0<=v.b/\v.b<=1048576)/\(0<=v.c/\v.c<=1048576):=by
 unfold aV at h
 simpa [Ad,and_assoc] using h
theorem rX {a b:V3}:bO a b=true↔a.a<=b.a/\a.b<=b.b/\a.c<=b.c:=by
 unfold bO
 by_cases h1:b.a<a.a
 .first | (simp [h1];done) | (simp [h1];omega)
 by_cases h2:b.b<a.b
 .first | (simp [h1,h2];done) | (simp [h1,h2];omega)
 by_cases h3:b.c<a.c
 .first | (simp [h1,h2,h3];done) | (simp [h1,h2,h3];omega)
 first | (simp [h1,h2,h3];done) | (simp [h1,h2,h3];omega)
theorem CX {n m:Int} (h1: -m<=n) (h2:n<=m):iT n m=n:=by unfold iT;omega
theorem aBG {x n:Int} (h1:0<=x) (h2:x<=1048576) (h3:0<=n) (h4:n<=16):0<=x*n/\x*n<=16777216:=by
 have h5:x*n<=1048576*16:=Int.mul_le_mul h2 h4 h3 (by decide)
 exact ⟨Int.mul_nonneg h1 h3,by omega⟩
theorem B7 {x n:Int} (h1:0<=x) (h2:x<=1048576) (h3:0<=n) (h4:n<=16):EN x n=x*n:=by
 have:=aBG h1 h2 h3 h4
 unfold EN
 rw [CX (n:=x) (by omega) (by omega),CX (n:=n) (by omega) (by omega),CX (by omega) (by omega)]
theorem LF {need free:V3} (hv:aV need=true) {n:Int} (h0:0<=n) (h1:n<=16):bO (GF need n) free=true↔need.a*n<=free.a/\need.b*n<=free.b/\need.c*n<=free.c:=by
 obtain ⟨⟨a1,a2⟩,⟨b1,b2⟩,c1,c2⟩:=pK hv
 rw [rX]
 show EN need.a n<=free.a/\EN need.b n<=free.b/\EN need.c n<=free.c↔_
 rw [B7 a1 a2 h0 h1,B7 b1 b2 h0 h1,B7 c1 c2 h0 h1]
theorem wG {m f k n:Int} (hk:0<=k) (hf:k<=f):n<=tV m f k↔n<=m/\k*n<=f:=by
 unfold tV
 by_cases h:0<k
 .rw [if_pos (decide_eq_true h),Il (by omega)]
  have:=Int.le_ediv_iff_mul_le h (a:=n) (b:=f)
  rw [Int.mul_comm] at this
  omega
 .have:k=0:=by omega
  subst this
  rw [if_neg (by decide)]
  omega
theorem JJ {free need:V3} (hv:aV need=true) (hf:bO need free=true) (n:Int):n<=dT free need↔n<=16/\need.a*n<=free.a/\need.b*n<=free.b/\need.c*n<=free.c:=by
 obtain ⟨⟨a1,_⟩,⟨b1,_⟩,c1,_⟩:=pK hv
 obtain ⟨h1,h2,h3⟩:=rX.1 hf
 unfold dT
 rw [if_pos hf,wG c1 h3,wG b1 h2,wG a1 h1]
 constructor
 .rintro ⟨⟨⟨p1,p2⟩,p3⟩,p4⟩;exact ⟨p1,p2,p3,p4⟩
 .rintro ⟨p1,p2,p3,p4⟩;exact ⟨⟨⟨p1,p2⟩,p3⟩,p4⟩
theorem O2 {free need:V3} (hv:aV need=true) (hf:bO need free=true):∀ (f:Nat) (n:Int),0<=n->n+f=16->n<=dT free need->rrF free need f n=dT free need
 | 0,n,h0,h1,h2=>by
  have h3:=wH free need
  unfold rrF
  omega
 | f+1,n,h0,h1,h2=>by
  unfold rrF
  have hm:=LF (free:=free) hv (n:=n+1) (by omega) (by omega)
  have hr:=JJ hv hf (n+1)
  by_cases h:bO (GF need (n+1)) free=true
  .rw [if_pos h,if_pos hf]
   exact O2 hv hf f (n+1) (by omega) (by omega) (hr.2 ⟨by omega,hm.1 h⟩)
  .rw [if_neg h]
   have:¬ n+1<=dT free need:=fun h9=>h (hm.2 (hr.1 h9).2)
   omega
theorem aBu {free need:V3} (hv:aV need=true):rrI free need=dT free need:=by
 unfold rrI
 by_cases hf:bO need free=true
 .refine O2 hv hf 16 0 (by decide) (by decide) ((JJ hv hf 0).2 ?_)
  obtain ⟨⟨a1,_⟩,⟨b1,_⟩,c1,_⟩:=pK hv
  obtain ⟨h1,h2,h3⟩:=rX.1 hf
  simp only [Int.mul_zero]
  omega
 .unfold rrF dT
  rw [if_neg hf,if_neg hf]
  split<;>rfl
def vH (c:Con) (a:Int):Prop:=0<=a/\a.toNat<c.hs.length
theorem aBN {c:Con} {a:Int} (h:vH c a):(hav c.hs)[a.toNat]? =some (bG c.hs a).av:=by
 have:=oP (c:=c) (i:=a.toNat) h.2
 rwa [Fq h.1] at this
noncomputable abbrev fAl:Func:=Tryz.f175
theorem aBp (c:Con):frzs [0] [.cells 26 c.cs]=[.fcells c.cs]:=by kernel_rfl
theorem YY (c:Con) (lv a b:Int):uP [4] (aE [.fcells c.cs]) [(1,ii lv),(2,ii a),(3,ii b),(4,.ref 0 0),(8,.bool false)]=[(1,ii lv),(2,ii a),(3,ii b),(4,.ptr c.cs),(8,.bool false)]:=by kernel_rfl
theorem vK {g:Goal} {ks:List KI} (c:Con) (lv a b:Int) (h:To (Er [] [16,17,18,19,20]) fAl g (.code ks [(1,ii lv),(2,ii a),(3,ii b),(4,.ptr c.cs),(8,.bool false)] [.fcells c.cs])):
  To (Er [] [16,17,18,19,20]) fAl g (.code ks [(1,ii lv),(2,ii a),(3,ii b),(4,.ref 0 0),(8,.bool false)] [.cells 26 c.cs]):=by
 refine To.frz [4] [0] ?_
 rw [aBp,YY]
 exact h
theorem NU (c:Con) (lv a b:Int) (h0:0<=lv) (h3:lv<=3) (ha:vH c a) (hb:vH c b) (r:Bool) (hr:alB c lv a b=r):aA Tryz.prog 175 [c.av,ii lv,ii a,ii b] [] (.ret (.bool r)) []:=by
 have ga:=aBN ha
 have gb:=aBN hb
 have na:a=(a.toNat:Int):=by have:=ha.1;omega
 have nb:b=(b.toNat:Int):=by have:=hb.1;omega
 unfold alB at hr
 generalize bG c.hs a=x at ga hr
 generalize bG c.hs b=y at gb hr
 by_cases e0:lv=0
 .subst e0
  rw [if_pos rfl] at hr
  subst hr
  refine cT (E:=(Er [] [16,17,18,19,20])) (fn:=Tryz.f175) (g:=.pure _) fun _=>?_
  refine bW (hEr [] [16,17,18,19,20]) 10 ?_;conv=>whnf
  refine To.cutC [1,2,3,4,8] 1 rfl rfl rfl rfl ?_
  refine vK c _ a b ?_
  repeat' first | (refine gN (hEr [] [16,17,18,19,20]) ?_;conv=>whnf) | refine ⟨a.toNat,na,?_⟩ | refine ⟨b.toNat,nb,?_⟩ | refine ⟨_,ga,?_⟩ | refine ⟨_,gb,?_⟩ | exact rfl | refine aY ?_ | refine aN ?_ | refine aT fun h=>?_ | refine aF fun h=>?_ | refine ⟨fun h=>?_,fun h=>?_⟩ | refine aJ ?_ | refine ⟨_,rfl,?_⟩ | refine aD ?_ | fail
 by_cases e1:lv=1
 .subst e1
  rw [if_neg (by decide),if_pos rfl] at hr
  refine cT (E:=(Er [] [16,17,18,19,20])) (fn:=Tryz.f175) (g:=.pure _) fun _=>?_
  refine bW (hEr [] [16,17,18,19,20]) 10 ?_;conv=>whnf
  refine To.cutC [1,2,3,4,8] 1 rfl rfl rfl rfl ?_
  refine vK c _ a b ?_
  repeat' first | (refine gN (hEr [] [16,17,18,19,20]) ?_;conv=>whnf) | refine ⟨a.toNat,na,?_⟩ | refine ⟨b.toNat,nb,?_⟩ | refine ⟨_,ga,?_⟩ | refine ⟨_,gb,?_⟩ | exact rfl | refine aY ?_ | refine aN ?_ | refine aT fun h=>?_ | refine aF fun h=>?_ | refine ⟨fun h=>?_,fun h=>?_⟩ | refine aJ ?_ | refine ⟨_,rfl,?_⟩ | refine aD ?_ | fail
  all_goals (refine congrArg (fun b=>Res.ret (AVal.bool b)) ?_;rw [<-hr];clear ga gb na nb ha hb hr;simp_all<;>rfl)
 by_cases e2:lv=2
 .subst e2
  rw [if_neg (by decide),if_neg (by decide),if_pos rfl] at hr
  refine cT (E:=(Er [] [16,17,18,19,20])) (fn:=Tryz.f175) (g:=.pure _) fun _=>?_
  refine bW (hEr [] [16,17,18,19,20]) 10 ?_;conv=>whnf
  refine To.cutC [1,2,3,4,8] 1 rfl rfl rfl rfl ?_
  refine vK c _ a b ?_
  repeat' first | (refine gN (hEr [] [16,17,18,19,20]) ?_;conv=>whnf) | refine ⟨a.toNat,na,?_⟩ | refine ⟨b.toNat,nb,?_⟩ | refine ⟨_,ga,?_⟩ | refine ⟨_,gb,?_⟩ | exact rfl | refine aY ?_ | refine aN ?_ | refine aT fun h=>?_ | refine aF fun h=>?_ | refine ⟨fun h=>?_,fun h=>?_⟩ | refine aJ ?_ | refine ⟨_,rfl,?_⟩ | refine aD ?_ | fail
  all_goals (refine congrArg (fun b=>Res.ret (AVal.bool b)) ?_;rw [<-hr];clear ga gb na nb ha hb hr;simp_all<;>rfl)
 have e3:lv=3:=by omega
 subst e3
 rw [if_neg (by decide),if_neg (by decide),if_neg (by decide)] at hr
 subst hr
 refine cT (E:=(Er [] [16,17,18,19,20])) (fn:=Tryz.f175) (g:=.pure _) fun _=>?_
 refine bW (hEr [] [16,17,18,19,20]) 10 ?_;conv=>whnf
 refine To.cutC [1,2,3,4,8] 1 rfl rfl rfl rfl ?_
 refine vK c _ a b ?_
 repeat' first | (refine gN (hEr [] [16,17,18,19,20]) ?_;conv=>whnf) | refine ⟨a.toNat,na,?_⟩ | refine ⟨b.toNat,nb,?_⟩ | refine ⟨_,ga,?_⟩ | refine ⟨_,gb,?_⟩ | exact rfl | refine aY ?_ | refine aN ?_ | refine aT fun h=>?_ | refine aF fun h=>?_ | refine ⟨fun h=>?_,fun h=>?_⟩ | refine aJ ?_ | refine ⟨_,rfl,?_⟩ | refine aD ?_ | fail
theorem T9 (c:Con) (lv a b:Int) (h0:0<=lv) (h3:lv<=3) (ha:vH c a) (hb:vH c b):aA Tryz.prog 175 [c.av,ii lv,ii a,ii b] [] (.ret (.bool (alB c lv a b))) []:=NU c lv a b h0 h3 ha hb _ rfl
noncomputable abbrev fRG:Func:=Tryz.f151
abbrev rgO (c:Con) (s:List (List Int)):List AObj:=[.cells 26 c.cs,.row 0 1 68 (gav s)]
abbrev rgF (lv:Int) (i:Int):List (Nat×AVal):=[(1,ii lv),(2,.ref 0 0),(5,.row 1 0),(6,ii i)]
structure GH (c:Con) (i:Nat) (s:List (List Int)):Prop where
 len:s.length<=i
 one:∀ g∈s,g.length<=i/\∃ a r,g=a::r/\vH c a
theorem GH.step {c:Con} {lv:Int} {i:Nat} {s:List (List Int)} (h:GH c i s) (hi:i<c.hs.length):GH c (i+1) (rgS c lv s i):=by
 obtain ⟨h1,h2⟩:=h
 unfold rgS
 split
 .rename_i k hk
  refine ⟨by simp;omega,fun g hg=>?_⟩
  rcases Ej hg with hg | rfl
  .obtain ⟨q1,q2⟩:=h2 g hg
   exact ⟨by omega,q2⟩
  .by_cases hk2:k<s.length
   .rw [Ac hk2]
    obtain ⟨q1,a,r,q2,q3⟩:=h2 _ (Bn hk2)
    refine ⟨by simp;omega,a,r++[(i:Int)],?_,q3⟩
    show s[k]++_=_
    rw [q2];rfl
   .rw [Bf (by omega)]
    exact ⟨by simp,(i:Int),[],rfl,⟨by omega,by omega⟩⟩
 .refine ⟨by simp;omega,fun g hg=>?_⟩
  rcases Ba.1 hg with hg | hg
  .obtain ⟨q1,q2⟩:=h2 g hg
   exact ⟨by omega,q2⟩
  .simp at hg
   subst hg
   exact ⟨by simp,(i:Int),[],rfl,⟨by omega,by omega⟩⟩
theorem XF (l:List (List Int)) (i:Nat) (x:List Int):(gav l).set i (.slice 1 (iv x) .no)=gav (l.set i x):=by simp [gav,Ih]
theorem aBw (c:Con) (lv:Int) (h0:0<=lv) (h3:lv<=3) (i:Nat) (hi:i<c.hs.length) (hc:c.hs.length<=1048576) (G:Goal) (hG:G= .pure G.res) (s:List (List Int)) (hs:GH c i s):
  ∀ (m k:Nat),k+m=s.length->
  To (Er [5] []) fRG (.pure G.res) (.head (stk fRG 0) (rgF lv ((i:Int)+1)) (rgO c (match nI c lv (i:Int) (s.drop k) k with | some k=>s.set k ((s[k]?).getD []++[(i:Int)]) | none=>s++[[(i:Int)]])))->
  To (Er [5] []) fRG (.pure G.res) (.head (stk fRG 1) (rgF lv (i:Int)++[(7,.bool false),(8,ii k)]) (rgO c s)):=by
 have hlen:(gav s).length=s.length:=by simp
 have hsl:=hs.len
 intro m
 induction m with
 | zero=>
  intro k hk hto
  rw [Af (by omega)] at hto
  have hto:To (Er [5] []) fRG (.pure G.res) (.head (stk fRG 0) (rgF lv ((i:Int)+1)) (rgO c (s++[[(i:Int)]]))):=hto
  have e:gav (s++[[(i:Int)]])=gav s++[.slice 1 [ii i] .no]:=by simp [gav]
  unfold rgO at hto
  rw [e] at hto
  refine gW (hEr [5] []) ?_;conv=>whnf
  refine aF fun h=>?_
  repeat' first | (refine gN (hEr [5] []) ?_;conv=>whnf) | refine ⟨⟨by simp only [maxLen];simp;omega,by simp;omega⟩,?_⟩ | exact rfl | refine aY ?_ | refine aN ?_ | refine aT fun h=>?_ | refine aF fun h=>?_ | refine ⟨fun h=>?_,fun h=>?_⟩ | refine aJ ?_ | refine ⟨_,rfl,?_⟩ | refine aD ?_ | fail
  refine To.part [1,2,5,6] [0,1] rfl rfl rfl ?_
  exact hto
 | succ m ih=>
  intro k hk hto
  have hlt:k<s.length:=by omega
  obtain ⟨hgl,a,r,hg,hva⟩:=hs.one _ (Bn hlt)
  rw [Ae hlt] at hto
  have hsk:s[k]? =some s[k]:=Ac hlt
  have hset:=XF s k (s[k]++[(i:Int)])
  have get:(gav s)[k]? =some (.slice 1 (iv s[k]) .no):=rI hlt
  have ih:=ih (k+1) (by omega)
  have hal:=T9 c lv a (i:Int) h0 h3 hva ⟨by omega,by omega⟩
  unfold nI at hto
  rw [hg] at hgl get
  have hgl2:r.length+1<=i:=by simpa using hgl
  have get0:(iv (a::r))[0]? =some (ii a):=rfl
  have ehd:(s[k]).headD 0=a:=by rw [hg];rfl
  rw [ehd] at hto
  cases hq:alB c lv a (i:Int) with
  | false=>
   rw [hq] at hal
   rw [if_neg (by rw [hq];decide)] at hto
   have next:=ih hto
   refine gW (hEr [5] []) ?_;conv=>whnf
   refine aT fun h=>?_
   repeat' first | (refine gN (hEr [5] []) ?_;conv=>whnf) | refine ⟨k,rfl,?_⟩ | refine ⟨_,get,?_⟩ | refine ⟨_,get0,?_⟩ | refine .pure _ [] hal ?_ | exact rfl | refine aY ?_ | refine aN ?_ | refine aT fun h=>?_ | refine aF fun h=>?_ | refine ⟨fun h=>?_,fun h=>?_⟩ | refine aJ ?_ | refine ⟨_,rfl,?_⟩ | refine aD ?_ | fail
   refine To.part [1,2,5,6,7,8] [0,1] rfl rfl rfl ?_
   exact next
  | true=>
   rw [hq] at hal
   rw [if_pos hq] at hto
   have hto:To (Er [5] []) fRG (.pure G.res) (.head (stk fRG 0) (rgF lv ((i:Int)+1)) (rgO c (s.set k ((s[k]?).getD []++[(i:Int)])))):=hto
   rw [hsk] at hto
   have hto:To (Er [5] []) fRG (.pure G.res) (.head (stk fRG 0) (rgF lv ((i:Int)+1)) (rgO c (s.set k (s[k]++[(i:Int)])))):=hto
   unfold rgO at hto
   rw [<-hset,hg,show iv ((a::r)++[(i:Int)])=iv (a::r)++[ii i] from by simp] at hto
   have hsl2:((gav s).set k (.slice 1 (iv (a::r)++[ii i]) .no)).length=s.length:=by simp
   generalize hS:(gav s).set k (.slice 1 (iv (a::r)++[ii i]) .no)=S at hto hsl2
   have hfin:To (Er [5] []) fRG (.pure G.res) (.head (stk fRG 1) (rgF lv (i:Int)++[(7,.bool true),(8,ii ((k:Int)+1))]) [.cells 26 c.cs,.row 0 1 68 S]):=by
    refine gW (hEr [5] []) ?_;conv=>whnf
    repeat' first | (refine gN (hEr [5] []) ?_;conv=>whnf) | exact rfl | refine aY ?_ | refine aN ?_ | refine aT fun h=>?_ | refine aF fun h=>?_ | refine ⟨fun h=>?_,fun h=>?_⟩ | refine aJ ?_ | refine ⟨_,rfl,?_⟩ | refine aD ?_ | fail
    .refine To.part [1,2,5,6] [0,1] rfl rfl rfl ?_
     exact hto
    .refine To.part [1,2,5,6] [0,1] rfl rfl rfl ?_
     exact hto
   rw [<-hS] at hfin
   refine gW (hEr [5] []) ?_;conv=>whnf
   refine aT fun h=>?_
   repeat' first | (refine gN (hEr [5] []) ?_;conv=>whnf) | refine ⟨k,rfl,?_⟩ | refine ⟨_,get,?_⟩ | refine ⟨_,get0,?_⟩ | refine .pure _ [] hal ?_ | refine ⟨⟨by simp only [maxLen];simp;omega,by simp;omega⟩,?_⟩ | exact rfl | refine aY ?_ | refine aN ?_ | refine aT fun h=>?_ | refine aF fun h=>?_ | refine ⟨fun h=>?_,fun h=>?_⟩ | refine aJ ?_ | refine ⟨_,rfl,?_⟩ | refine aD ?_ | fail
   refine To.part [1,2,5,6,7,8] [0,1] rfl rfl rfl ?_
   exact hfin
theorem aAb (c:Con) (hc:c.sm) (lv:Int) (h0:0<=lv) (h3:lv<=3) (R:List (List Int)):∀ (n i:Nat) (s:List (List Int)),i+n=c.hs.length->GH c i s->(Eh i n).foldl (rgS c lv) s=R->
  To (Er [5] []) fRG (.pure (.ret (.slice 1 (gav R) .no))) (.head (stk fRG 0) (rgF lv (i:Int)) (rgO c s)):=by
 have h1:=hc.hs
 have hlen:(hav c.hs).length=c.hs.length:=by simp
 intro n
 induction n with
 | zero=>
  intro i s hi hs hR
  have hR:s=R:=hR
  subst hR
  refine gW (hEr [5] []) ?_;conv=>whnf
  refine aF fun h=>?_
  repeat' first | (refine gN (hEr [5] []) ?_;conv=>whnf) | exact rfl | refine aY ?_ | refine aN ?_ | refine aT fun h=>?_ | refine aF fun h=>?_ | refine ⟨fun h=>?_,fun h=>?_⟩ | refine aJ ?_ | refine ⟨_,rfl,?_⟩ | refine aD ?_ | fail
 | succ n ih=>
  intro i s hi hs hR
  rw [Hk,Bi] at hR
  have next:=ih (i+1) (rgS c lv s i) (by omega) (hs.step (by omega)) hR
  refine gW (hEr [5] []) ?_;conv=>whnf
  refine aT fun h=>?_
  repeat' first | (refine gN (hEr [5] []) ?_;conv=>whnf) | exact rfl | refine aY ?_ | refine aN ?_ | refine aT fun h=>?_ | refine aF fun h=>?_ | refine ⟨fun h=>?_,fun h=>?_⟩ | refine aJ ?_ | refine ⟨_,rfl,?_⟩ | refine aD ?_ | fail
  refine To.part [1,2,5,6,7,8] [0,1] rfl rfl rfl ?_
  exact aBw c lv h0 h3 i (by omega) h1 (.pure (.ret (.slice 1 (gav R) .no))) rfl s hs s.length 0 (by omega) next
theorem wJ (c:Con) (hc:c.sm) (lv:Int):aA Tryz.prog 151 [c.av,ii lv] [] (.ret (.slice 1 (gav (gpL c lv)) .no)) []:=by
 have h1:=hc.hs
 obtain ⟨R,hR⟩:∃ R,R=gpL c lv:=⟨_,rfl⟩
 rw [<-hR]
 rw [<-aAd] at hR
 unfold rgL at hR
 by_cases p1:lv<0
 .rw [if_pos (decide_eq_true p1)] at hR
  subst hR
  refine cT (E:=(Er [5] [])) (fn:=Tryz.f151) (g:=.pure _) fun _=>?_
  repeat' first | (refine gN (hEr [5] []) ?_;conv=>whnf) | exact rfl | refine aY ?_ | refine aN ?_ | refine aT fun h=>?_ | refine aF fun h=>?_ | refine ⟨fun h=>?_,fun h=>?_⟩ | refine aJ ?_ | refine ⟨_,rfl,?_⟩ | refine aD ?_ | fail
 rw [if_neg (by rw [decide_eq_false p1];decide)] at hR
 by_cases p2:3<lv
 .rw [if_pos (decide_eq_true p2)] at hR
  subst hR
  refine cT (E:=(Er [5] [])) (fn:=Tryz.f151) (g:=.pure _) fun _=>?_
  repeat' first | (refine gN (hEr [5] []) ?_;conv=>whnf) | exact rfl | refine aY ?_ | refine aN ?_ | refine aT fun h=>?_ | refine aF fun h=>?_ | refine ⟨fun h=>?_,fun h=>?_⟩ | refine aJ ?_ | refine ⟨_,rfl,?_⟩ | refine aD ?_ | fail
 rw [if_neg (by rw [decide_eq_false p2];decide),Eu] at hR
 refine cT (E:=(Er [5] [])) (fn:=Tryz.f151) (g:=.pure _) fun _=>?_
 repeat' first | (refine gN (hEr [5] []) ?_;conv=>whnf) | exact rfl | refine aY ?_ | refine aN ?_ | refine aT fun h=>?_ | refine aF fun h=>?_ | refine ⟨fun h=>?_,fun h=>?_⟩ | refine aJ ?_ | refine ⟨_,rfl,?_⟩ | refine aD ?_ | fail
 refine To.part [1,2,5,6] [0,1] rfl rfl rfl ?_
 exact aAb c hc lv (by omega) (by omega) R c.hs.length 0 [] (by omega) ⟨by simp,fun g hg=>by simp at hg⟩ hR.symm
noncomputable abbrev SU:Func:=Tryz.f176
theorem GU (free need:V3) (r:Int):∀ (m:Nat) (n:Int),0<=n->n+m=16->rrF free need m n=r->
  To E SU (.pure (.ret (ii r))) (.head (stk SU 0) [(2,.ref 0 0),(3,.ref 1 0),(5,ii n)] [.cells 57 free.cs,.cells 57 need.cs]):=by
 intro m
 induction m with
 | zero=>
  intro n h0 hn hr
  have hr:n=r:=hr
  subst hr
  refine gW hE ?_;conv=>whnf
  repeat' first | (refine gN hE ?_;conv=>whnf) | exact rfl | refine aY ?_ | refine aN ?_ | refine aT fun h=>?_ | refine aF fun h=>?_ | refine ⟨fun h=>?_,fun h=>?_⟩ | refine aJ ?_ | refine ⟨_,rfl,?_⟩ | refine aD ?_ | fail
 | succ m ih=>
  intro n h0 hn hr
  unfold rrF at hr
  have h1:=JN need (n+1)
  generalize GF need (n+1)=q at h1 hr
  have h2:=iZ q free
  have h3:=iZ need free
  cases hq:bO q free with
  | false=>
   rw [hq] at h2
   rw [if_neg (by rw [hq];decide)] at hr
   subst hr
   refine gW hE ?_;conv=>whnf
   repeat' first | (refine gN hE ?_;conv=>whnf) | refine Aa (Aa (by simp only [cC];omega) (by simp only [bF];omega)) ?_ | refine .pure _ [] h1 ?_ | refine .pure _ [] h2 ?_ | exact rfl | refine aY ?_ | refine aN ?_ | refine aT fun h=>?_ | refine aF fun h=>?_ | refine ⟨fun h=>?_,fun h=>?_⟩ | refine aJ ?_ | refine ⟨_,rfl,?_⟩ | refine aD ?_ | fail
  | true=>
   rw [hq] at h2
   rw [if_pos hq] at hr
   cases hw:bO need free with
   | false=>
    rw [hw] at h3
    rw [if_neg (by rw [hw];decide)] at hr
    subst hr
    refine gW hE ?_;conv=>whnf
    repeat' first | (refine gN hE ?_;conv=>whnf) | refine Aa (Aa (by simp only [cC];omega) (by simp only [bF];omega)) ?_ | refine .pure _ [] h1 ?_ | refine .pure _ [] h2 ?_ | refine .pure _ [] h3 ?_ | exact rfl | refine aY ?_ | refine aN ?_ | refine aT fun h=>?_ | refine aF fun h=>?_ | refine ⟨fun h=>?_,fun h=>?_⟩ | refine aJ ?_ | refine ⟨_,rfl,?_⟩ | refine aD ?_ | fail
   | true=>
    rw [hw] at h3
    rw [if_pos hw] at hr
    have next:=ih (n+1) (by omega) (by omega) hr
    refine gW hE ?_;conv=>whnf
    repeat' first | (refine gN hE ?_;conv=>whnf) | refine Aa (Aa (by simp only [cC];omega) (by simp only [bF];omega)) ?_ | refine .pure _ [] h1 ?_ | refine .pure _ [] h2 ?_ | refine .pure _ [] h3 ?_ | exact rfl | refine aY ?_ | refine aN ?_ | refine aT fun h=>?_ | refine aF fun h=>?_ | refine ⟨fun h=>?_,fun h=>?_⟩ | refine aJ ?_ | refine ⟨_,rfl,?_⟩ | refine aD ?_ | fail
    exact To.cut [2,3,5] 2 rfl rfl rfl rfl next
theorem DQ (free need:V3) (hv:aV need=true):aA Tryz.prog 176 [free.av,need.av] [] (.ret (ii (dT free need))) []:=by
 rw [<-aBu hv]
 refine cT (E:=E) (fn:=Tryz.f176) (g:=.pure _) fun _=>?_
 refine gW hE ?_;conv=>whnf
 exact To.cut [2,3,5] 2 rfl rfl rfl rfl (GU free need _ 16 0 (by decide) (by decide) rfl)
noncomputable abbrev M7:Func:=Tryz.f190
abbrev inO (c:Con) (g:Gan):List AObj:=[.cells 26 c.cs,.cells 59 g.cs,.tail 0 1 3]
abbrev inF (free:List V3) (gr:List Int) (out:List Int) (i:Int):List (Nat×AVal):=[(1,.slice 3 (vav free) .no),(2,.slice 1 (iv gr) .no),(7,.ref 1 0),(10,.slice 1 (iv out) (.own 2 0)),(11,ii i)]
theorem aAa (c:Con) (free:List V3) (g:Gan) (hg:0<=g.pods/\g.pods<=16) (gr:List Int) (hl:gr.length<=1048576) (G:Goal) (h:Int) (i:Nat) (hi:i<1048576) (get:(iv gr)[i]? =some (ii h)):∀ (m:Nat) (k:Int) (out:List Int),k<=16->(max (min k (g.pods-out.length)) 0).toNat=m->(out.length:Int)<=g.pods->
  To (Eo [10] []) M7 (.pure G.res) (.head (stk M7 0) (inF free gr (out++Ai m h) ((i:Int)+1)) (inO c g))->
  To (Eo [10] []) M7 (.pure G.res) (.head (stk M7 1) (inF free gr out (i:Int)++[(12,ii k)]) (inO c g)):=by
 have hlen:(iv gr).length=gr.length:=by simp
 intro m
 induction m with
 | zero=>
  intro k out hk hm hp hto
  have hol:(iv out).length=out.length:=by simp
  rw [List.replicate_zero,Ay] at hto
  by_cases h1:0<k
  .refine gW (hEo [10] []) ?_;conv=>whnf
   repeat' first | (refine gN (hEo [10] []) ?_;conv=>whnf) | exact rfl | refine aY ?_ | refine aN ?_ | refine aT fun h=>?_ | refine aF fun h=>?_ | refine ⟨fun h=>?_,fun h=>?_⟩ | refine aJ ?_ | refine ⟨_,rfl,?_⟩ | refine aD ?_ | fail
   refine To.part [1,2,7,10,11] [0,1,2] rfl rfl rfl ?_
   exact hto
  .refine gW (hEo [10] []) ?_;conv=>whnf
   repeat' first | (refine gN (hEo [10] []) ?_;conv=>whnf) | exact rfl | refine aY ?_ | refine aN ?_ | refine aT fun h=>?_ | refine aF fun h=>?_ | refine ⟨fun h=>?_,fun h=>?_⟩ | refine aJ ?_ | refine ⟨_,rfl,?_⟩ | refine aD ?_ | fail
   refine To.part [1,2,7,10,11] [0,1,2] rfl rfl rfl ?_
   exact hto
 | succ m ih=>
  intro k out hk hm hp hto
  have hol:(iv out).length=out.length:=by simp
  have e2:out++[h]++Ai m h=out++Ai (m+1) h:=by rw [Aj];rfl
  have next:=ih (k-1) (out++[h]) (by omega) (by simp;omega) (by simp;omega) (by rw [e2];exact hto)
  have e:iv (out++[h])=iv out++[ii h]:=by simp
  unfold inF at next
  rw [e] at next
  refine gW (hEo [10] []) ?_;conv=>whnf
  refine aT fun h=>?_
  repeat' first | (refine gN (hEo [10] []) ?_;conv=>whnf) | refine ⟨i,rfl,?_⟩ | refine ⟨_,get,?_⟩ | refine ⟨⟨by simp only [maxLen];simp;omega,by simp;omega⟩,?_⟩ | exact rfl | refine aY ?_ | refine aN ?_ | refine aT fun h=>?_ | refine aF fun h=>?_ | refine ⟨fun h=>?_,fun h=>?_⟩ | refine aJ ?_ | refine ⟨_,rfl,?_⟩ | refine aD ?_ | fail
  refine To.part [1,2,7,10,11,12] [0,1,2] rfl rfl rfl ?_
  exact next
theorem PE (c:Con) (free:List V3) (g:Gan) (hg:0<=g.pods/\g.pods<=16) (hv:aV g.need=true) (gr:List Int) (hl:gr.length<=1048576) (R:List Int):∀ (m i:Nat) (out:List Int),i+m=gr.length->(out.length:Int)<=g.pods->(gr.drop i).foldl (inS free g) out=R->
  To (Eo [10] []) M7 (.pure (.ret (xQ R g))) (.head (stk M7 0) (inF free gr out (i:Int)) (inO c g)):=by
 have hlen:(iv gr).length=gr.length:=by simp
 have hfl:(vav free).length=free.length:=by simp
 intro m
 induction m with
 | zero=>
  intro i out hi hp hR
  rw [Af (by omega)] at hR
  have hR:out=R:=hR
  subst hR
  have hol:(iv out).length=out.length:=by simp
  obtain ⟨Q,hQ⟩:∃ Q,Q=xQ out g:=⟨_,rfl⟩
  rw [<-hQ]
  unfold xQ at hQ
  by_cases h1:(out.length:Int)<g.pods
  .rw [if_pos (decide_eq_true h1)] at hQ
   subst hQ
   refine gW (hEo [10] []) ?_;conv=>whnf
   refine aF fun h=>?_
   repeat' first | (refine gN (hEo [10] []) ?_;conv=>whnf) | exact rfl | refine aY ?_ | refine aN ?_ | refine aT fun h=>?_ | refine aF fun h=>?_ | refine ⟨fun h=>?_,fun h=>?_⟩ | refine aJ ?_ | refine ⟨_,rfl,?_⟩ | refine aD ?_ | fail
  .rw [if_neg (by rw [decide_eq_false h1];decide)] at hQ
   subst hQ
   refine gW (hEo [10] []) ?_;conv=>whnf
   refine aF fun h=>?_
   repeat' first | (refine gN (hEo [10] []) ?_;conv=>whnf) | exact rfl | refine aY ?_ | refine aN ?_ | refine aT fun h=>?_ | refine aF fun h=>?_ | refine ⟨fun h=>?_,fun h=>?_⟩ | refine aJ ?_ | refine ⟨_,rfl,?_⟩ | refine aD ?_ | fail
 | succ m ih=>
  intro i out hi hp hR
  have hlt:i<gr.length:=by omega
  rw [Ae hlt,Bi] at hR
  have hp2:=KH free g out gr[i] hp
  have get:=cG hlt
  generalize gr[i]=u0 at hR hp2 get
  have next:=ih (i+1) (inS free g out u0) (by omega) hp2 hR
  unfold inS at next
  by_cases h1:u0<0
  .rw [if_pos (decide_eq_true h1)] at next
   refine gW (hEo [10] []) ?_;conv=>whnf
   refine aT fun h=>?_
   repeat' first | (refine gN (hEo [10] []) ?_;conv=>whnf) | refine ⟨i,rfl,?_⟩ | refine ⟨_,get,?_⟩ | exact rfl | refine aY ?_ | refine aN ?_ | refine aT fun h=>?_ | refine aF fun h=>?_ | refine ⟨fun h=>?_,fun h=>?_⟩ | refine aJ ?_ | refine ⟨_,rfl,?_⟩ | refine aD ?_ | fail
   refine To.part [1,2,7,10,11] [0,1,2] rfl rfl rfl ?_
   exact next
  .rw [if_neg (by rw [decide_eq_false h1];decide)] at next
   by_cases h2:(free.length:Int)<=u0
   .rw [if_pos (decide_eq_true h2)] at next
    refine gW (hEo [10] []) ?_;conv=>whnf
    refine aT fun h=>?_
    repeat' first | (refine gN (hEo [10] []) ?_;conv=>whnf) | refine ⟨i,rfl,?_⟩ | refine ⟨_,get,?_⟩ | exact rfl | refine aY ?_ | refine aN ?_ | refine aT fun h=>?_ | refine aF fun h=>?_ | refine ⟨fun h=>?_,fun h=>?_⟩ | refine aJ ?_ | refine ⟨_,rfl,?_⟩ | refine aD ?_ | fail
    refine To.part [1,2,7,10,11] [0,1,2] rfl rfl rfl ?_
    exact next
   .rw [if_neg (by rw [decide_eq_false h2];decide)] at next
    have hl2:u0.toNat<free.length:=by omega
    have hn:u0=(u0.toNat:Int):=by omega
    rw [Ac hl2,show ((some free[u0.toNat]).getD V3.zero)=free[u0.toNat] from rfl] at next
    have gv:(vav free)[u0.toNat]? =some free[u0.toNat].av:=iP hl2
    generalize free[u0.toNat]=v at gv next
    have hr:=DQ v g.need hv
    have hk:=wH v g.need
    unfold inN at next
    generalize dT v g.need=k at hr hk next
    have hin:=aAa c free g hg gr hl (.pure (.ret (xQ R g))) u0 i (by omega) get _ k out hk rfl hp next
    refine gW (hEo [10] []) ?_;conv=>whnf
    refine aT fun h=>?_
    repeat' first | (refine gN (hEo [10] []) ?_;conv=>whnf) | refine ⟨i,rfl,?_⟩ | refine ⟨_,get,?_⟩ | refine ⟨u0.toNat,hn,?_⟩ | refine ⟨_,gv,?_⟩ | refine .pure _ [] hr ?_ | exact rfl | refine aY ?_ | refine aN ?_ | refine aT fun h=>?_ | refine aF fun h=>?_ | refine ⟨fun h=>?_,fun h=>?_⟩ | refine aJ ?_ | refine ⟨_,rfl,?_⟩ | refine aD ?_ | fail
    refine To.part [1,2,7,10,11,12] [0,1,2] rfl rfl rfl ?_
    exact hin
theorem Z9 (c:Con) (free:List V3) (g:Gan) (hg:0<=g.pods/\g.pods<=16) (hv:aV g.need=true) (gr:List Int) (hl:gr.length<=1048576):aA Tryz.prog 190 [c.av,.slice 3 (vav free) .no,.slice 1 (iv gr) .no,g.av] [] (.ret (xQ (inL free g gr) g)) []:=by
 refine cT (E:=(Eo [10] [])) (fn:=Tryz.f190) (g:=.pure _) fun _=>?_
 refine gW (hEo [10] []) ?_;conv=>whnf
 refine To.part [1,2,7,10,11] [0,1,2] rfl rfl rfl ?_
 exact PE c free g hg hv gr hl _ gr.length 0 [] (by omega) (by simp;omega) rfl
noncomputable abbrev tA:Func:=Tryz.f174
abbrev rfO (c:Con) (g:Gan):List AObj:=[.cells 26 c.cs,.cells 59 g.cs]
abbrev rfF (free:List V3) (lv:Int):List (Nat×AVal):=[(1,.slice 3 (vav free) .no),(3,.ref 0 0),(5,.ref 1 0),(9,ii lv)]
theorem aAe (c:Con) (hc:c.sm) (free:List V3) (g:Gan) (hg:0<=g.pods/\g.pods<=16) (hv:aV g.need=true) (lv:Int) (hlv:0<=lv) (hlv2:lv<=3) (Q:Option (Int×List Int)) (gs:List (List Int)) (hgl:gs.length<=1048576) (hgs:∀ xs∈gs,xs≠[]/\xs.length<=c.hs.length/\∀ h∈xs,0<=h/\h<(c.hs.length:Int)):∀ (m i:Nat),i+m=gs.length->
  (∀ x,fdG c free g (gs.drop i)=some x->Q=some x)->(fdG c free g (gs.drop i)=none->To E tA (.pure (.ret (fdA Q))) (.head (stk tA 0) (rfF free (lv+1)) (rfO c g)))->
  To E tA (.pure (.ret (fdA Q))) (.head (stk tA 1) (rfF free lv++[(10,.slice 1 (gav gs) .no),(11,ii i)]) (rfO c g)):=by
 have hlen:(gav gs).length=gs.length:=by simp
 have hch:=hc.hs
 intro m
 induction m with
 | zero=>
  intro i hi hs hn
  rw [Af (by omega)] at hn
  have next:=hn rfl
  refine gW hE ?_;conv=>whnf
  refine aF fun h=>?_
  repeat' first | (refine gN hE ?_;conv=>whnf) | exact rfl | refine aY ?_ | refine aN ?_ | refine aT fun h=>?_ | refine aF fun h=>?_ | refine ⟨fun h=>?_,fun h=>?_⟩ | refine aJ ?_ | refine ⟨_,rfl,?_⟩ | refine aD ?_ | fail
  exact To.cut [1,3,5,9] 2 rfl rfl rfl rfl next
 | succ m ih=>
  intro i hi hs hn
  have hlt:i<gs.length:=by omega
  obtain ⟨gne,glen,gin⟩:=hgs _ (Bn hlt)
  rw [Ae hlt] at hs hn
  have get:=rI hlt
  generalize gs[i]=gr at hs hn get gne glen gin
  have ih:=ih (i+1) (by omega)
  have hin:=Z9 c free g hg hv gr (by omega)
  unfold fdG at hs hn
  unfold xQ at hin
  by_cases p1:((inL free g gr).length:Int)<g.pods
  .rw [if_pos (decide_eq_true p1)] at hs hn hin
   have next:=ih hs hn
   refine gW hE ?_;conv=>whnf
   refine aT fun h=>?_
   repeat' first | (refine gN hE ?_;conv=>whnf) | refine ⟨i,rfl,?_⟩ | refine ⟨_,get,?_⟩ | refine .pure _ [] hin ?_ | exact rfl | refine aY ?_ | refine aN ?_ | refine aT fun h=>?_ | refine aF fun h=>?_ | refine ⟨fun h=>?_,fun h=>?_⟩ | refine aJ ?_ | refine ⟨_,rfl,?_⟩ | refine aD ?_ | fail
   exact To.cut [1,3,5,9,10,11] 2 rfl rfl rfl rfl next
  .rw [if_neg (by rw [decide_eq_false p1];decide)] at hs hn hin
   have hQ:=hs _ rfl
   subst hQ
   match gr,gne with
   | u0::r,_=>
   have hu:=gin u0 (by simp)
   have gn:(hav c.hs)[u0.toNat]? =some (bG c.hs u0).av:=by
    have:=oP (c:=c) (i:=u0.toNat) (by omega)
    rwa [Fq hu.1] at this
   have hn:u0=(u0.toNat:Int):=by omega
   have get0:(iv (u0::r))[0]? =some (ii u0):=rfl
   refine gW hE ?_;conv=>whnf
   refine aT fun h=>?_
   repeat' first | (refine gN hE ?_;conv=>whnf) | refine ⟨i,rfl,?_⟩ | refine ⟨u0.toNat,hn,?_⟩ | refine ⟨_,gn,?_⟩ | refine ⟨_,get0,?_⟩ | refine ⟨_,get,?_⟩ | refine .pure _ [] hin ?_ | exact rfl | refine aY ?_ | refine aN ?_ | refine aT fun h=>?_ | refine aF fun h=>?_ | refine ⟨fun h=>?_,fun h=>?_⟩ | refine aJ ?_ | refine ⟨_,rfl,?_⟩ | refine aD ?_ | fail
theorem VL (c:Con) (hc:c.sm) (free:List V3) (g:Gan) (hg:0<=g.pods/\g.pods<=16) (hv:aV g.need=true):∀ (n:Nat) (lv:Int),0<=lv->n=(min g.lev 3+1-lv).toNat->
  To E tA (.pure (.ret (fdA (fdL c free g n lv)))) (.head (stk tA 0) (rfF free lv) (rfO c g)):=by
 intro n
 induction n with
 | zero=>
  intro lv h0 hn
  by_cases h1:lv<=g.lev
  .refine gW hE ?_;conv=>whnf
   repeat' first | (refine gN hE ?_;conv=>whnf) | exact rfl | refine aY ?_ | refine aN ?_ | refine aT fun h=>?_ | refine aF fun h=>?_ | refine ⟨fun h=>?_,fun h=>?_⟩ | refine aJ ?_ | refine ⟨_,rfl,?_⟩ | refine aD ?_ | fail
  .refine gW hE ?_;conv=>whnf
   repeat' first | (refine gN hE ?_;conv=>whnf) | exact rfl | refine aY ?_ | refine aN ?_ | refine aT fun h=>?_ | refine aF fun h=>?_ | refine ⟨fun h=>?_,fun h=>?_⟩ | refine aJ ?_ | refine ⟨_,rfl,?_⟩ | refine aD ?_ | fail
 | succ n ih=>
  intro lv h0 hn
  have ih:=ih (lv+1) (by omega) (by omega)
  have hok:=CH c lv
  have hch:=hc.hs
  have hlen:(gav (gpL c lv)).length=(gpL c lv).length:=by simp
  obtain ⟨Q,hQ⟩:∃ Q,Q=fdL c free g (n+1) lv:=⟨_,rfl⟩
  rw [<-hQ]
  unfold fdL at hQ
  refine gW hE ?_;conv=>whnf
  refine aT fun h=>?_
  repeat' first | (refine gN hE ?_;conv=>whnf) | refine .pure _ [] (wJ c hc lv) ?_ | exact rfl | refine aY ?_ | refine aN ?_ | refine aT fun h=>?_ | refine aF fun h=>?_ | refine ⟨fun h=>?_,fun h=>?_⟩ | refine aJ ?_ | refine ⟨_,rfl,?_⟩ | refine aD ?_ | fail
  refine To.cut [1,3,5,9,10,11] 2 rfl rfl rfl rfl ?_
  refine aAe c hc free g hg hv lv h0 (by omega) Q (gpL c lv) (by omega) hok.2 (gpL c lv).length 0 (by omega) (fun x hx=>?_) (fun hx=>?_)
  .have hx:fdG c free g (gpL c lv)=some x:=hx
   rw [hx] at hQ
   exact hQ
  .have hx:fdG c free g (gpL c lv)=none:=hx
   rw [hx] at hQ
   rw [hQ]
   exact ih
theorem PI (c:Con) (hc:c.sm) (free:List V3) (g:Gan) (hg:0<=g.pods/\g.pods<=16) (hv:aV g.need=true):aA Tryz.prog 174 [c.av,.slice 3 (vav free) .no,g.av] [] (.ret (fdA (FJ c free g))) []:=by
 refine cT (E:=E) (fn:=Tryz.f174) (g:=.pure _) fun _=>?_
 refine gW hE ?_;conv=>whnf
 exact To.cut [1,3,5,9] 2 rfl rfl rfl rfl (VL c hc free g hg hv _ _ (by omega) rfl)
theorem D4 (c:Con) (hc:c.sm) (l:List Rn) (hl:Sm l) (g:Gan) (hg:0<=g.pods/\g.pods<=16) (hv:aV g.need=true) (Q:Option (Int×List Int)) (hQ:iA c l g=Q):aA Tryz.prog 149 [c.av,.slice 14 (rav l) .no,g.av] [] (.ret (fdA Q)) []:=by
 unfold iA at hQ
 have hm:=O3 c hc (ofL c l) g.ten (dem g)
 have hd:=JQ g
 generalize CB c (ofL c l) g.ten (dem g)=b at hQ hm
 generalize dem g=d at hm hd
 have hf:=PI c hc (hZ c l) g hg hv
 have hfr:=DT c hc l hl
 have hof:=PA c hc l hl.1
 generalize hZ c l=fr at hf hQ hfr
 generalize ofL c l=us at hm hof
 cases b with
 | false=>
  have hQ:none=Q:=hQ
  subst hQ
  refine cT (E:=E) (fn:=Tryz.f149) (g:=.pure _) fun _=>?_
  repeat' first | (refine gN hE ?_;conv=>whnf) | refine .pure _ [] hof ?_ | refine .pure _ [] hd ?_ | refine .pure _ [] hm ?_ | exact rfl | refine aY ?_ | refine aN ?_ | refine aT fun h=>?_ | refine aF fun h=>?_ | refine ⟨fun h=>?_,fun h=>?_⟩ | refine aJ ?_ | refine ⟨_,rfl,?_⟩ | refine aD ?_ | fail
 | true=>
  have hQ:FJ c fr g=Q:=hQ
  rw [hQ] at hf
  unfold fdA at hf⊢
  cases Q with
  | none=>
   refine cT (E:=E) (fn:=Tryz.f149) (g:=.pure _) fun _=>?_
   repeat' first | (refine gN hE ?_;conv=>whnf) | refine .pure _ [] hof ?_ | refine .pure _ [] hd ?_ | refine .pure _ [] hm ?_ | refine .pure _ [] hfr ?_ | refine .pure _ [] hf ?_ | exact rfl | refine aY ?_ | refine aN ?_ | refine aT fun h=>?_ | refine aF fun h=>?_ | refine ⟨fun h=>?_,fun h=>?_⟩ | refine aJ ?_ | refine ⟨_,rfl,?_⟩ | refine aD ?_ | fail
  | some x=>
   refine cT (E:=E) (fn:=Tryz.f149) (g:=.pure _) fun _=>?_
   repeat' first | (refine gN hE ?_;conv=>whnf) | refine .pure _ [] hof ?_ | refine .pure _ [] hd ?_ | refine .pure _ [] hm ?_ | refine .pure _ [] hfr ?_ | refine .pure _ [] hf ?_ | exact rfl | refine aY ?_ | refine aN ?_ | refine aT fun h=>?_ | refine aF fun h=>?_ | refine ⟨fun h=>?_,fun h=>?_⟩ | refine aJ ?_ | refine ⟨_,rfl,?_⟩ | refine aD ?_ | fail
theorem G9 (c:Con) (hc:c.sm) (l:List Rn) (hl:Sm l) (g:Gan) (hg:0<=g.pods/\g.pods<=16) (hv:aV g.need=true):aA Tryz.prog 149 [c.av,.slice 14 (rav l) .no,g.av] [] (.ret (fdA (iA c l g))) []:=D4 c hc l hl g hg hv _ rfl
theorem B0 (c:Con) (hc:c.sm) (g:Gan) (hg:0<=g.pods/\g.pods<=16) (hv:aV g.need=true) (b:Bool) (hb:(iA c [] g).isNone=b):aA Tryz.prog 113 [c.av,g.av] [] (.ret (.bool b)) []:=by
 have hf:=G9 c hc [] ⟨Bm _,fun x h=>by simp at h⟩ g hg hv
 generalize iA c [] g=Q at hf hb
 subst hb
 unfold fdA at hf
 cases Q with
 | none=>
  refine cT (E:=E) (fn:=Tryz.f113) (g:=.pure _) fun _=>?_
  repeat' first | (refine gN hE ?_;conv=>whnf) | refine .pure _ [] (aA.nil2 hf) ?_ | exact rfl | refine aY ?_ | refine aN ?_ | refine aT fun h=>?_ | refine aF fun h=>?_ | refine ⟨fun h=>?_,fun h=>?_⟩ | refine aJ ?_ | refine ⟨_,rfl,?_⟩ | refine aD ?_ | fail
 | some x=>
  refine cT (E:=E) (fn:=Tryz.f113) (g:=.pure _) fun _=>?_
  repeat' first | (refine gN hE ?_;conv=>whnf) | refine .pure _ [] (aA.nil2 hf) ?_ | exact rfl | refine aY ?_ | refine aN ?_ | refine aT fun h=>?_ | refine aF fun h=>?_ | refine ⟨fun h=>?_,fun h=>?_⟩ | refine aJ ?_ | refine ⟨_,rfl,?_⟩ | refine aD ?_ | fail
theorem D3 (c:Con) (hc:c.sm) (g:Gan) (hg:0<=g.pods/\g.pods<=16) (hv:aV g.need=true):aA Tryz.prog 113 [c.av,g.av] [] (.ret (.bool (iA c [] g).isNone)) []:=B0 c hc g hg hv _ rfl
def uD (p:Int->Bool):List Int->Nat->Int
 | [],_=> -1
 | x::r,i=>if p x=true then (i:Int) else uD p r (i+1)
theorem A7 (p:Int->Bool):∀ (l:List Int) (i:Nat),decide (0<=uD p l i)=l.any p
 | [],i=>by simp [uD]
 | x::r,i=>by
  unfold uD
  rw [Gb]
  cases h:p x with
  | true=>simp
  | false=>simp [A7 p r (i+1)]
def inB (v:Int) (l:List Int):Bool:=l.any fun x=>v==x
noncomputable abbrev ZN:Func:=Tryz.f180
theorem MV (l:List Int) (hl:l.length<=1048576) (v r:Int):∀ (m i:Nat),i+m=l.length->uD (fun x=>v==x) (l.drop i) i=r->
  To E ZN (.pure (.ret (ii r))) (.head (stk ZN 0) [(0,.slice 1 (iv l) .no),(1,ii v),(7,.int .i64 ((iv l).length:Nat)),(8,ii i)] []):=by
 have hlen:(iv l).length=l.length:=by simp
 intro m
 induction m with
 | zero=>
  intro i hi hr
  rw [Af (by omega)] at hr
  have hr: -1=r:=hr
  subst hr
  refine gW hE ?_;conv=>whnf
  refine aF fun h=>?_
  repeat' first | (refine gN hE ?_;conv=>whnf) | exact rfl | refine aY ?_ | refine aN ?_ | refine aT fun h=>?_ | refine aF fun h=>?_ | refine ⟨fun h=>?_,fun h=>?_⟩ | refine aJ ?_ | refine ⟨_,rfl,?_⟩ | refine aD ?_ | fail
 | succ m ih=>
  intro i hi hr
  have hlt:i<l.length:=by omega
  rw [Ae hlt] at hr
  have get:=cG hlt
  generalize l[i]=x at hr get
  unfold uD at hr
  have ih:=ih (i+1) (by omega)
  cases hq:(v==x) with
  | true=>
   rw [if_pos hq] at hr
   subst hr
   refine gW hE ?_;conv=>whnf
   refine aT fun h=>?_
   repeat' first | (refine gN hE ?_;conv=>whnf) | refine ⟨i,rfl,?_⟩ | refine ⟨_,get,?_⟩ | refine Aa (fun h=>?_) (fun h=>absurd h (by rw [hq];decide)) | exact rfl | refine aY ?_ | refine aN ?_ | refine aT fun h=>?_ | refine aF fun h=>?_ | refine ⟨fun h=>?_,fun h=>?_⟩ | refine aJ ?_ | refine ⟨_,rfl,?_⟩ | refine aD ?_ | fail
  | false=>
   rw [if_neg (by rw [hq];decide)] at hr
   have next:=ih hr
   refine gW hE ?_;conv=>whnf
   refine aT fun h=>?_
   repeat' first | (refine gN hE ?_;conv=>whnf) | refine ⟨i,rfl,?_⟩ | refine ⟨_,get,?_⟩ | refine Aa (fun h=>absurd h (by rw [hq];decide)) (fun h=>?_) | exact rfl | refine aY ?_ | refine aN ?_ | refine aT fun h=>?_ | refine aF fun h=>?_ | refine ⟨fun h=>?_,fun h=>?_⟩ | refine aJ ?_ | refine ⟨_,rfl,?_⟩ | refine aD ?_ | fail
   exact To.cut [0,1,7,8] 0 rfl rfl rfl rfl next
theorem W2 (l:List Int) (hl:l.length<=1048576) (v:Int):aA Tryz.prog 180 [.slice 1 (iv l) .no,ii v] [] (.ret (ii (uD (fun x=>v==x) l 0))) []:=by
 refine cT (E:=E) (fn:=Tryz.f180) (g:=.pure _) fun _=>?_
 refine gW hE ?_;conv=>whnf
 exact To.cut [0,1,7,8] 0 rfl rfl rfl rfl (MV l hl v _ l.length 0 (by omega) rfl)
theorem qAa (l:List Int) (hl:l.length<=1048576) (v:Int):aA Tryz.prog 157 [.slice 1 (iv l) .no,ii v] [] (.ret (.bool (inB v l))) []:=by
 have h:=W2 l hl v
 have e:=A7 (fun x=>v==x) l 0
 unfold inB
 rw [<-e]
 generalize uD (fun x=>v==x) l 0=q at h
 refine cT (E:=E) (fn:=Tryz.f157) (g:=.pure _) fun _=>?_
 repeat' first | (refine gN hE ?_;conv=>whnf) | refine .pure _ [] h ?_ | exact rfl | refine aY ?_ | refine aN ?_ | refine aT fun h=>?_ | refine aF fun h=>?_ | refine ⟨fun h=>?_,fun h=>?_⟩ | refine aJ ?_ | refine ⟨_,rfl,?_⟩ | refine aD ?_ | fail
def cJ (l:List Rn) (ids:List Int):List Rn:=l.filter fun x=>!(inB x.g.id ids)
theorem tN {x:Rn} {r:List Rn} {ids:List Int} (h:inB x.g.id ids=false):cJ (x::r) ids=x::cJ r ids:=List.filter_cons_of_pos (by rw [h];rfl)
theorem tO {x:Rn} {r:List Rn} {ids:List Int} (h:inB x.g.id ids=true):cJ (x::r) ids=cJ r ids:=List.filter_cons_of_neg (by rw [h];decide)
theorem vP {l:List Rn} (hs:Sm l) (ids:List Int):Sm (cJ l ids):=
 ⟨Cx (List.length_filter_le _ _) hs.1,fun x hx=>hs.2 x (Jz.1 hx).1⟩
noncomputable abbrev fWo:Func:=Tryz.f133
theorem UN (l:List Rn) (hs:Sm l) (ids:List Int) (hd:ids.length<=1048576) (R:List Rn):∀ (m i:Nat) (acc:List Rn),i+m=l.length->acc.length<=i->acc++cJ (l.drop i) ids=R->
  To (Eo [5] []) fWo (.pure (.ret (.slice 14 (rav R) .no))) (.head (stk fWo 0) [(1,.slice 1 (iv ids) .no),(5,.slice 14 (rav acc) (.own 0 0)),(8,.slice 14 (rav l) .no),(9,.int .i64 ((rav l).length:Nat)),(10,ii i)] [.tail 0 14 70]):=by
 have hlen:(rav l).length=l.length:=by simp
 have hl:=hs.1
 intro m
 induction m with
 | zero=>
  intro i acc hi ha hR
  rw [Af (by omega)] at hR
  have hR:acc++[]=R:=hR
  rw [Ay] at hR
  subst hR
  refine gW (hEo [5] []) ?_;conv=>whnf
  refine aF fun h=>?_
  repeat' first | (refine gN (hEo [5] []) ?_;conv=>whnf) | exact rfl | refine aY ?_ | refine aN ?_ | refine aT fun h=>?_ | refine aF fun h=>?_ | refine ⟨fun h=>?_,fun h=>?_⟩ | refine aJ ?_ | refine ⟨_,rfl,?_⟩ | refine aD ?_ | fail
 | succ m ih=>
  intro i acc hi ha hR
  have hlt:i<l.length:=by omega
  have hb:=hs.at hlt
  rw [Ae hlt] at hR
  generalize hq:l[i]=x at hR hb
  have get:(rav l)[i]? =some x.av:=(fQ hlt).trans (by rw [hq])
  have hla:(rav acc).length=acc.length:=by simp
  have hc:=qAa ids hd x.g.id
  cases hw:inB x.g.id ids with
  | true=>
   rw [hw] at hc
   rw [tO hw] at hR
   have next:=ih (i+1) acc (by omega) (by omega) hR
   refine gW (hEo [5] []) ?_;conv=>whnf
   refine aT fun h=>?_
   repeat' first | (refine gN (hEo [5] []) ?_;conv=>whnf) | refine ⟨i,rfl,?_⟩ | refine ⟨_,get,?_⟩ | refine .pure _ [] hc ?_ | exact rfl | refine aY ?_ | refine aN ?_ | refine aT fun h=>?_ | refine aF fun h=>?_ | refine ⟨fun h=>?_,fun h=>?_⟩ | refine aJ ?_ | refine ⟨_,rfl,?_⟩ | refine aD ?_ | fail
   refine To.part [1,5,8,9,10] [0] rfl rfl rfl ?_
   exact next
  | false=>
   rw [hw] at hc
   rw [tN hw] at hR
   have next:=ih (i+1) (acc++[x]) (by omega) (by simp;omega) (by rw [Aj];exact hR)
   have e:rav (acc++[x])=rav acc++[x.av]:=by simp
   rw [e] at next
   refine gW (hEo [5] []) ?_;conv=>whnf
   refine aT fun h=>?_
   repeat' first | (refine gN (hEo [5] []) ?_;conv=>whnf) | refine ⟨i,rfl,?_⟩ | refine ⟨_,get,?_⟩ | refine .pure _ [] hc ?_ | refine .pure _ [] (UP x hb) ?_ | refine ⟨⟨by simp only [maxLen];simp;omega,by simp;omega⟩,?_⟩ | exact rfl | refine aY ?_ | refine aN ?_ | refine aT fun h=>?_ | refine aF fun h=>?_ | refine ⟨fun h=>?_,fun h=>?_⟩ | refine aJ ?_ | refine ⟨_,rfl,?_⟩ | refine aD ?_ | fail
   refine To.part [1,5,8,9,10] [0] rfl rfl rfl ?_
   exact next
theorem GE (l:List Rn) (hs:Sm l) (ids:List Int) (hd:ids.length<=1048576):aA Tryz.prog 133 [.slice 14 (rav l) .no,.slice 1 (iv ids) .no] [] (.ret (.slice 14 (rav (cJ l ids)) .no)) []:=by
 refine cT (E:=(Eo [5] [])) (fn:=Tryz.f133) (g:=.pure _) fun _=>?_
 refine gW (hEo [5] []) ?_;conv=>whnf
 refine To.part [1,5,8,9,10] [0] rfl rfl rfl ?_
 exact UN l hs ids hd _ l.length 0 [] (by omega) (by simp) rfl
def V3.pos (d:V3):Prop:=0<=d.a/\0<=d.b/\0<=d.c
structure Prj (p:V3->Int):Prop where
 add:∀ u v,p (iG u v)=YZ (p u) (p v)
 sub:∀ u v,p (uL u v)=U0 (p u) (p v)
 pos:∀ u,p (ME u)=max (p u) 0
 zero:p V3.zero=0
section
variable {p:V3->Int} (hp:Prj p)
include hp
end
noncomputable abbrev M5:Func:=Tryz.f152
def wiS (h:Int) (b:Bool) (y:Int):Bool:=if b=true then true else decide (y=h)
def kN (G hs:List Int):Bool:=hs.all fun h=>G.foldl (wiS h) false
abbrev wtF (G hs:List Int) (i:Int):List (Nat×AVal):=[(0,.slice 1 (iv G) .no),(1,.slice 1 (iv hs) .no),(5,ii i)]
abbrev wtI (G hs:List Int) (i:Int) (b:Bool) (k:Int):List (Nat×AVal):=[(0,.slice 1 (iv G) .no),(1,.slice 1 (iv hs) .no),(5,ii i),(6,.bool b),(7,ii k)]
theorem ZU (G hs:List Int) (hG:G.length<=1048576) (r:Bool) (i:Nat) (hi:i<1048576) (h:Int) (get:(iv hs)[i]? =some (ii h)) (Rb:Bool) (hno:Rb=false->r=false) (hto:Rb=true->To E M5 (.pure (.ret (.bool r))) (.head (stk M5 0) (wtF G hs ((i:Int)+1)) [])):∀ (m k:Nat) (b:Bool),k+m=G.length->(G.drop k).foldl (wiS h) b=Rb->
  To E M5 (.pure (.ret (.bool r))) (.head (stk M5 1) (wtI G hs (i:Int) b (k:Int)) []):=by
 have hlen:(iv G).length=G.length:=by simp
 intro m
 induction m with
 | zero=>
  intro k b hk hb
  rw [Af (by omega)] at hb
  have hb:b=Rb:=hb
  subst hb
  cases b with
  | false=>
   have hr:=hno rfl
   subst hr
   refine gW hE ?_;conv=>whnf
   refine aF fun h=>?_
   repeat' first | (refine gN hE ?_;conv=>whnf) | exact rfl | refine aY ?_ | refine aN ?_ | refine aT fun h=>?_ | refine aF fun h=>?_ | refine ⟨fun h=>?_,fun h=>?_⟩ | refine aJ ?_ | refine ⟨_,rfl,?_⟩ | refine aD ?_ | fail
  | true=>
   refine gW hE ?_;conv=>whnf
   refine aF fun h=>?_
   repeat' first | (refine gN hE ?_;conv=>whnf) | exact rfl | refine aY ?_ | refine aN ?_ | refine aT fun h=>?_ | refine aF fun h=>?_ | refine ⟨fun h=>?_,fun h=>?_⟩ | refine aJ ?_ | refine ⟨_,rfl,?_⟩ | refine aD ?_ | fail
   exact To.cut [0,1,5] 0 rfl rfl rfl rfl (hto rfl)
 | succ m ih=>
  intro k b hk hb
  have hlt:k<G.length:=by omega
  rw [Ae hlt,Bi] at hb
  have get2:=cG hlt
  generalize G[k]=y at hb get2
  cases b with
  | false=>
   have next:=ih (k+1) (decide (y=h)) (by omega) hb
   refine gW hE ?_;conv=>whnf
   refine aT fun h=>?_
   repeat' first | (refine gN hE ?_;conv=>whnf) | refine ⟨k,rfl,?_⟩ | refine ⟨i,rfl,?_⟩ | refine ⟨_,get2,?_⟩ | refine ⟨_,get,?_⟩ | exact rfl | refine aY ?_ | refine aN ?_ | refine aT fun h=>?_ | refine aF fun h=>?_ | refine ⟨fun h=>?_,fun h=>?_⟩ | refine aJ ?_ | refine ⟨_,rfl,?_⟩ | refine aD ?_ | fail
   exact To.cut [0,1,5,6,7] 0 rfl rfl rfl rfl next
  | true=>
   have next:=ih (k+1) true (by omega) hb
   refine gW hE ?_;conv=>whnf
   refine aT fun h=>?_
   repeat' first | (refine gN hE ?_;conv=>whnf) | exact rfl | refine aY ?_ | refine aN ?_ | refine aT fun h=>?_ | refine aF fun h=>?_ | refine ⟨fun h=>?_,fun h=>?_⟩ | refine aJ ?_ | refine ⟨_,rfl,?_⟩ | refine aD ?_ | fail
   exact To.cut [0,1,5,6,7] 0 rfl rfl rfl rfl next
theorem UK (G hs:List Int) (hG:G.length<=1048576) (hH:hs.length<=1048576) (r:Bool):∀ (m i:Nat),i+m=hs.length->(hs.drop i).all (fun h=>G.foldl (wiS h) false)=r->
  To E M5 (.pure (.ret (.bool r))) (.head (stk M5 0) (wtF G hs (i:Int)) []):=by
 have hlen:(iv hs).length=hs.length:=by simp
 intro m
 induction m with
 | zero=>
  intro i hi hr
  rw [Af (by omega)] at hr
  have hr:true=r:=hr
  subst hr
  refine gW hE ?_;conv=>whnf
  refine aF fun h=>?_
  repeat' first | (refine gN hE ?_;conv=>whnf) | exact rfl | refine aY ?_ | refine aN ?_ | refine aT fun h=>?_ | refine aF fun h=>?_ | refine ⟨fun h=>?_,fun h=>?_⟩ | refine aJ ?_ | refine ⟨_,rfl,?_⟩ | refine aD ?_ | fail
 | succ m ih=>
  intro i hi hr
  have hlt:i<hs.length:=by omega
  rw [Ae hlt,Dq] at hr
  have get:=cG hlt
  generalize hs[i]=y at hr get
  have next:=ZU G hs hG r i (by omega) y get (G.foldl (wiS y) false) (fun h=>by rw [h] at hr;exact hr.symm) (fun h=>by rw [h] at hr;exact ih (i+1) (by omega) hr) G.length 0 false (by omega) rfl
  refine gW hE ?_;conv=>whnf
  refine aT fun h=>?_
  repeat' first | (refine gN hE ?_;conv=>whnf) | exact rfl | refine aY ?_ | refine aN ?_ | refine aT fun h=>?_ | refine aF fun h=>?_ | refine ⟨fun h=>?_,fun h=>?_⟩ | refine aJ ?_ | refine ⟨_,rfl,?_⟩ | refine aD ?_ | fail
  exact To.cut [0,1,5,6,7] 0 rfl rfl rfl rfl next
theorem UO (G hs:List Int) (hG:G.length<=1048576) (hH:hs.length<=1048576):aA Tryz.prog 152 [.slice 1 (iv G) .no,.slice 1 (iv hs) .no] [] (.ret (.bool (kN G hs))) []:=by
 have h:=UK G hs hG hH (kN G hs) hs.length 0 (by omega) rfl
 refine cT (E:=E) (fn:=Tryz.f152) (g:=.pure _) fun _=>?_
 refine gW hE ?_;conv=>whnf
 exact To.cut [0,1,5] 0 rfl rfl rfl rfl h
noncomputable abbrev M8:Func:=Tryz.f153
def TU (h n y:Int):Int:=if y=h then n+1 else n
def CZ (h:Int) (l:List Int):Int:=l.foldl (TU h) 0
def H0 (free:List V3) (need:V3) (hs:List Int) (h:Int):Bool:=if decide (h<0)=true then false else if decide ((free.length:Int)<=h)=true then false else !decide (dT ((free[h.toNat]?).getD V3.zero) need<CZ h hs)
def rK (free:List V3) (need:V3) (hs:List Int):Bool:=hs.all (H0 free need hs)
abbrev ftO (need:V3):List AObj:=[.cells 57 need.cs]
abbrev ftF (free:List V3) (hs:List Int) (i:Int):List (Nat×AVal):=[(0,.slice 3 (vav free) .no),(2,.slice 1 (iv hs) .no),(4,.ref 0 0),(7,ii i)]
abbrev ftI (free:List V3) (hs:List Int) (i n k:Int):List (Nat×AVal):=[(0,.slice 3 (vav free) .no),(2,.slice 1 (iv hs) .no),(4,.ref 0 0),(7,ii i),(8,ii n),(9,ii k)]
theorem aAU (free:List V3) (need:V3) (hv:aV need=true) (hs:List Int) (hH:hs.length<=1048576) (r:Bool) (i:Nat) (hi:i<1048576) (u0:Int) (get:(iv hs)[i]? =some (ii u0)) (Rn:Int) (hRn:Rn=CZ u0 hs) (hno:H0 free need hs u0=false->r=false) (hto:H0 free need hs u0=true->To E M8 (.pure (.ret (.bool r))) (.head (stk M8 0) (ftF free hs ((i:Int)+1)) (ftO need))):∀ (m k:Nat) (n:Int),k+m=hs.length->0<=n->n<=k->(hs.drop k).foldl (TU u0) n=Rn->
  To E M8 (.pure (.ret (.bool r))) (.head (stk M8 1) (ftI free hs (i:Int) n (k:Int)) (ftO need)):=by
 have hlen:(iv hs).length=hs.length:=by simp
 have hfl:(vav free).length=free.length:=by simp
 intro m
 induction m with
 | zero=>
  intro k n hk hn0 hnk hn
  rw [Af (by omega)] at hn
  have hn:n=Rn:=hn
  subst hn
  unfold H0 at hno hto
  rw [<-hRn] at hno hto
  by_cases h1:u0<0
  .rw [decide_eq_true h1] at hno
   have hr:=hno rfl
   subst hr
   refine gW hE ?_;conv=>whnf
   refine aF fun h=>?_
   repeat' first | (refine gN hE ?_;conv=>whnf) | refine ⟨i,rfl,?_⟩ | refine ⟨_,get,?_⟩ | exact rfl | refine aY ?_ | refine aN ?_ | refine aT fun h=>?_ | refine aF fun h=>?_ | refine ⟨fun h=>?_,fun h=>?_⟩ | refine aJ ?_ | refine ⟨_,rfl,?_⟩ | refine aD ?_ | fail
  .rw [decide_eq_false h1,if_neg (by decide)] at hno hto
   by_cases h2:(free.length:Int)<=u0
   .rw [decide_eq_true h2] at hno
    have hr:=hno rfl
    subst hr
    refine gW hE ?_;conv=>whnf
    refine aF fun h=>?_
    repeat' first | (refine gN hE ?_;conv=>whnf) | refine ⟨i,rfl,?_⟩ | refine ⟨_,get,?_⟩ | exact rfl | refine aY ?_ | refine aN ?_ | refine aT fun h=>?_ | refine aF fun h=>?_ | refine ⟨fun h=>?_,fun h=>?_⟩ | refine aJ ?_ | refine ⟨_,rfl,?_⟩ | refine aD ?_ | fail
   .rw [decide_eq_false h2,if_neg (by decide)] at hno hto
    have hl2:u0.toNat<free.length:=by omega
    have hn:u0=(u0.toNat:Int):=by omega
    rw [Ac hl2,show ((some free[u0.toNat]).getD V3.zero)=free[u0.toNat] from rfl] at hno hto
    have gv:(vav free)[u0.toNat]? =some free[u0.toNat].av:=iP hl2
    have hroom:=DQ free[u0.toNat] need hv
    generalize dT free[u0.toNat] need=q at hroom hno hto
    generalize free[u0.toNat]=fv at gv hroom
    by_cases h3:q<n
    .rw [decide_eq_true h3] at hno
     have hr:=hno rfl
     subst hr
     refine gW hE ?_;conv=>whnf
     refine aF fun h=>?_
     repeat' first | (refine gN hE ?_;conv=>whnf) | refine ⟨i,rfl,?_⟩ | refine ⟨_,get,?_⟩ | refine ⟨u0.toNat,hn,?_⟩ | refine ⟨_,gv,?_⟩ | refine .pure _ [] hroom ?_ | exact rfl | refine aY ?_ | refine aN ?_ | refine aT fun h=>?_ | refine aF fun h=>?_ | refine ⟨fun h=>?_,fun h=>?_⟩ | refine aJ ?_ | refine ⟨_,rfl,?_⟩ | refine aD ?_ | fail
    .rw [decide_eq_false h3] at hto
     have next:=hto rfl
     refine gW hE ?_;conv=>whnf
     refine aF fun h=>?_
     repeat' first | (refine gN hE ?_;conv=>whnf) | refine ⟨i,rfl,?_⟩ | refine ⟨_,get,?_⟩ | refine ⟨u0.toNat,hn,?_⟩ | refine ⟨_,gv,?_⟩ | refine .pure _ [] hroom ?_ | exact rfl | refine aY ?_ | refine aN ?_ | refine aT fun h=>?_ | refine aF fun h=>?_ | refine ⟨fun h=>?_,fun h=>?_⟩ | refine aJ ?_ | refine ⟨_,rfl,?_⟩ | refine aD ?_ | fail
     exact To.cut [0,2,4,7] 1 rfl rfl rfl rfl next
 | succ m ih=>
  intro k n hk hn0 hnk hn
  have hlt:k<hs.length:=by omega
  rw [Ae hlt,Bi] at hn
  have get2:=cG hlt
  generalize hs[k]=y at hn get2
  unfold TU at hn
  by_cases hy:y=u0
  .rw [if_pos hy] at hn
   have next:=ih (k+1) (n+1) (by omega) (by omega) (by omega) hn
   refine gW hE ?_;conv=>whnf
   refine aT fun h=>?_
   repeat' first | (refine gN hE ?_;conv=>whnf) | refine ⟨k,rfl,?_⟩ | refine ⟨i,rfl,?_⟩ | refine ⟨_,get2,?_⟩ | refine ⟨_,get,?_⟩ | exact rfl | refine aY ?_ | refine aN ?_ | refine aT fun h=>?_ | refine aF fun h=>?_ | refine ⟨fun h=>?_,fun h=>?_⟩ | refine aJ ?_ | refine ⟨_,rfl,?_⟩ | refine aD ?_ | fail
   exact To.cut [0,2,4,7,8,9] 1 rfl rfl rfl rfl next
  .rw [if_neg hy] at hn
   have next:=ih (k+1) n (by omega) (by omega) (by omega) hn
   refine gW hE ?_;conv=>whnf
   refine aT fun h=>?_
   repeat' first | (refine gN hE ?_;conv=>whnf) | refine ⟨k,rfl,?_⟩ | refine ⟨i,rfl,?_⟩ | refine ⟨_,get2,?_⟩ | refine ⟨_,get,?_⟩ | exact rfl | refine aY ?_ | refine aN ?_ | refine aT fun h=>?_ | refine aF fun h=>?_ | refine ⟨fun h=>?_,fun h=>?_⟩ | refine aJ ?_ | refine ⟨_,rfl,?_⟩ | refine aD ?_ | fail
   exact To.cut [0,2,4,7,8,9] 1 rfl rfl rfl rfl next
theorem XK (free:List V3) (need:V3) (hv:aV need=true) (hs:List Int) (hH:hs.length<=1048576) (r:Bool):∀ (m i:Nat),i+m=hs.length->(hs.drop i).all (H0 free need hs)=r->
  To E M8 (.pure (.ret (.bool r))) (.head (stk M8 0) (ftF free hs (i:Int)) (ftO need)):=by
 have hlen:(iv hs).length=hs.length:=by simp
 intro m
 induction m with
 | zero=>
  intro i hi hr
  rw [Af (by omega)] at hr
  have hr:true=r:=hr
  subst hr
  refine gW hE ?_;conv=>whnf
  refine aF fun h=>?_
  repeat' first | (refine gN hE ?_;conv=>whnf) | exact rfl | refine aY ?_ | refine aN ?_ | refine aT fun h=>?_ | refine aF fun h=>?_ | refine ⟨fun h=>?_,fun h=>?_⟩ | refine aJ ?_ | refine ⟨_,rfl,?_⟩ | refine aD ?_ | fail
 | succ m ih=>
  intro i hi hr
  have hlt:i<hs.length:=by omega
  rw [Ae hlt,Dq] at hr
  have get:=cG hlt
  generalize hs[i]=y at hr get
  have next:=aAU free need hv hs hH r i (by omega) y get _ rfl (fun h=>by rw [h] at hr;exact hr.symm) (fun h=>by rw [h] at hr;exact ih (i+1) (by omega) hr) hs.length 0 0 (by omega) (by omega) (by omega) rfl
  refine gW hE ?_;conv=>whnf
  refine aT fun h=>?_
  repeat' first | (refine gN hE ?_;conv=>whnf) | exact rfl | refine aY ?_ | refine aN ?_ | refine aT fun h=>?_ | refine aF fun h=>?_ | refine ⟨fun h=>?_,fun h=>?_⟩ | refine aJ ?_ | refine ⟨_,rfl,?_⟩ | refine aD ?_ | fail
  exact To.cut [0,2,4,7,8,9] 1 rfl rfl rfl rfl next
theorem aAT (free:List V3) (need:V3) (hv:aV need=true) (hs:List Int) (hH:hs.length<=1048576):aA Tryz.prog 153 [.slice 3 (vav free) .no,need.av,.slice 1 (iv hs) .no] [] (.ret (.bool (rK free need hs))) []:=by
 have h:=XK free need hv hs hH (rK free need hs) hs.length 0 (by omega) rfl
 refine cT (E:=E) (fn:=Tryz.f153) (g:=.pure _) fun _=>?_
 refine gW hE ?_;conv=>whnf
 exact To.cut [0,2,4,7] 1 rfl rfl rfl rfl h
noncomputable abbrev aB7:Func:=Tryz.f116
def chkG (free:List V3) (need:V3) (hs:List Int) (G:List Int):Bool:=kN G hs&&rK free need hs
def rT (c:Con) (free:List V3) (g:Gan) (hs:List Int):Bool:=if ((hs.length:Int)=g.pods) then (gpL c g.lev).any (chkG free g.need hs) else false
abbrev ckO (c:Con) (g:Gan):List AObj:=[.cells 26 c.cs,.cells 59 g.cs]
abbrev ckF (free:List V3) (hs:List Int) (gs:List (List Int)) (i:Int):List (Nat×AVal):=[(1,.slice 3 (vav free) .no),(3,.slice 1 (iv hs) .no),(6,.ref 1 0),(9,.slice 1 (gav gs) .no),(10,ii i)]
theorem TX (c:Con) (free:List V3) (g:Gan) (hv:aV g.need=true) (hs:List Int) (hH:hs.length<=1048576) (gs:List (List Int)) (hgl:gs.length<=1048576) (hgs:∀ x∈gs,x.length<=1048576) (r:Bool):∀ (m i:Nat),i+m=gs.length->(gs.drop i).any (chkG free g.need hs)=r->
  To E aB7 (.pure (.ret (.bool r))) (.head (stk aB7 0) (ckF free hs gs (i:Int)) (ckO c g)):=by
 have hlen:(gav gs).length=gs.length:=by simp
 have hf:=aAT free g.need hv hs hH
 intro m
 induction m with
 | zero=>
  intro i hi hr
  rw [Af (by omega)] at hr
  have hr:false=r:=hr
  subst hr
  refine gW hE ?_;conv=>whnf
  refine aF fun h=>?_
  repeat' first | (refine gN hE ?_;conv=>whnf) | exact rfl | refine aY ?_ | refine aN ?_ | refine aT fun h=>?_ | refine aF fun h=>?_ | refine ⟨fun h=>?_,fun h=>?_⟩ | refine aJ ?_ | refine ⟨_,rfl,?_⟩ | refine aD ?_ | fail
 | succ m ih=>
  intro i hi hr
  have hlt:i<gs.length:=by omega
  rw [Ae hlt,Gb] at hr
  have get:=rI hlt
  have hw:=UO gs[i] hs (hgs _ (Bn hlt)) hH
  generalize gs[i]=G at hr get hw
  rw [show chkG free g.need hs G=(kN G hs&&rK free g.need hs) from rfl] at hr
  generalize kN G hs=bw at hw hr
  have ih:=ih (i+1) (by omega)
  generalize rK free g.need hs=bf at hf hr
  cases bw with
  | false=>
   have next:=ih hr
   refine gW hE ?_;conv=>whnf
   refine aT fun h=>?_
   repeat' first | (refine gN hE ?_;conv=>whnf) | refine ⟨i,rfl,?_⟩ | refine ⟨_,get,?_⟩ | refine .pure _ [] hw ?_ | refine .pure _ [] hf ?_ | exact rfl | refine aY ?_ | refine aN ?_ | refine aT fun h=>?_ | refine aF fun h=>?_ | refine ⟨fun h=>?_,fun h=>?_⟩ | refine aJ ?_ | refine ⟨_,rfl,?_⟩ | refine aD ?_ | fail
   exact To.cut [1,3,6,9,10] 2 rfl rfl rfl rfl next
  | true=>
   cases bf with
   | false=>
    have next:=ih hr
    refine gW hE ?_;conv=>whnf
    refine aT fun h=>?_
    repeat' first | (refine gN hE ?_;conv=>whnf) | refine ⟨i,rfl,?_⟩ | refine ⟨_,get,?_⟩ | refine .pure _ [] hw ?_ | refine .pure _ [] hf ?_ | exact rfl | refine aY ?_ | refine aN ?_ | refine aT fun h=>?_ | refine aF fun h=>?_ | refine ⟨fun h=>?_,fun h=>?_⟩ | refine aJ ?_ | refine ⟨_,rfl,?_⟩ | refine aD ?_ | fail
    exact To.cut [1,3,6,9,10] 2 rfl rfl rfl rfl next
   | true=>
    have hr:true=r:=hr
    subst hr
    refine gW hE ?_;conv=>whnf
    refine aT fun h=>?_
    repeat' first | (refine gN hE ?_;conv=>whnf) | refine ⟨i,rfl,?_⟩ | refine ⟨_,get,?_⟩ | refine .pure _ [] hw ?_ | refine .pure _ [] hf ?_ | exact rfl | refine aY ?_ | refine aN ?_ | refine aT fun h=>?_ | refine aF fun h=>?_ | refine ⟨fun h=>?_,fun h=>?_⟩ | refine aJ ?_ | refine ⟨_,rfl,?_⟩ | refine aD ?_ | fail
theorem aBg (c:Con) (hc:c.sm) (free:List V3) (g:Gan) (hv:aV g.need=true) (hs:List Int) (hH:hs.length<=1048576):aA Tryz.prog 116 [c.av,.slice 3 (vav free) .no,g.av,.slice 1 (iv hs) .no] [] (.ret (.bool (rT c free g hs))) []:=by
 have hok:=CH c g.lev
 have hch:=hc.hs
 have hlen:(iv hs).length=hs.length:=by simp
 have hgr:=wJ c hc g.lev
 have hlp:=TX c free g hv hs hH (gpL c g.lev) (by omega) (fun x hx=>by have:=(hok.2 x hx).2.1;omega) ((gpL c g.lev).any (chkG free g.need hs)) (gpL c g.lev).length 0 (by omega) rfl
 unfold rT
 by_cases h1:(hs.length:Int)=g.pods
 .rw [if_pos h1]
  generalize (gpL c g.lev).any (chkG free g.need hs)=r at hlp
  have hk:((((iv hs).length:Nat):Int) !=g.pods)=false:=by rw [hlen];simp [h1]
  refine cT (E:=E) (fn:=Tryz.f116) (g:=.pure _) fun _=>?_
  refine gW hE ?_;conv=>whnf
  repeat' first | (refine gN hE ?_;conv=>whnf) | refine .pure _ [] hgr ?_ | refine Aa (fun h=>absurd h (by rw [hk];decide)) (fun h=>?_) | exact rfl | refine aY ?_ | refine aN ?_ | refine aT fun h=>?_ | refine aF fun h=>?_ | refine ⟨fun h=>?_,fun h=>?_⟩ | refine aJ ?_ | refine ⟨_,rfl,?_⟩ | refine aD ?_ | fail
  exact To.cut [1,3,6,9,10] 2 rfl rfl rfl rfl hlp
 .rw [if_neg h1]
  refine cT (E:=E) (fn:=Tryz.f116) (g:=.pure _) fun _=>?_
  have hk:((((iv hs).length:Nat):Int) !=g.pods)=true:=by rw [hlen];simp [h1]
  refine gW hE ?_;conv=>whnf
  repeat' first | (refine gN hE ?_;conv=>whnf) | refine .pure _ [] hgr ?_ | refine Aa (fun h=>?_) (fun h=>absurd h (by rw [hk];decide)) | exact rfl | refine aY ?_ | refine aN ?_ | refine aT fun h=>?_ | refine aF fun h=>?_ | refine ⟨fun h=>?_,fun h=>?_⟩ | refine aJ ?_ | refine ⟨_,rfl,?_⟩ | refine aD ?_ | fail
theorem CY (h:Int):∀ (l:List Int) (n:Int),l.foldl (TU h) n=n+(l.count h:Nat)
 | [],n=>by simp
 | y::r,n=>by
  rw [Bi,CY h r]
  unfold TU
  by_cases hy:y=h
  .subst hy
   rw [if_pos rfl,Hv]
   omega
  .rw [if_neg hy,List.count_cons_of_ne (by simpa using hy)]
theorem N1 {G hs:List Int}:kN G hs=true↔ ∀ h∈hs,h∈G:=by
 have key:∀ (h:Int) (G:List Int) (b:Bool),G.foldl (wiS h) b=true↔b=true\/h∈G:=fun h G=>by
  induction G with
  | nil=>intro b;simp
  | cons y r ih=>
   intro b
   rw [Bi,ih]
   unfold wiS
   cases b with
   | true=>simp
   | false=>simp [eq_comm]
 unfold kN
 rw [Cl]
 constructor
 .intro q h hh
  have:=(key h G false).1 (q h hh)
  simpa using this
 .intro q h hh
  exact (key h G false).2 (.inr (q h hh))
section
variable {p:V3->Int} (hp:Prj p)
include hp
end
end Go.Proofs.YtmalnhgopkfdaaaGreat
