/-
  The references, as walks; who must give way; what fits leaves nobody overfull.
-/
import Derived.Test.YtpomiadgghchnaaGreatHA
set_option linter.all false
set_option maxHeartbeats 1000000
open And renaming intro->Ac
open Bool renaming and_eq_true->Ag,eq_iff_iff->Km,false_eq_true->Db,false_or->Mu,or_eq_false_iff->Ih,true_and->Cb
open Exists renaming intro->Al
open Go.World renaming ownsRow_nil->Hf
open Iff renaming rfl->Nd
open Int renaming le_refl->Dr,le_trans->Fo,mul_nonneg->Ji,tdiv->Hb,tdiv_eq_ediv_of_nonneg->Lb,toNat_natCast->Ck
open List renaming all_cons->Fk,all_eq_true->Ch,any_cons->Hg,any_eq_true->Il,append_assoc->Ai,append_nil->Bg,count_cons_of_ne->Mj,count_cons_self->Mn,count_pos_iff->Jd,drop->Hi,drop_drop->Ii,drop_eq_getElem_cons->Ad,drop_eq_nil_of_le->Ae,drop_zero->Bt,ext_getElem?->Es,filter_congr->Ll,filter_cons->Hl,filter_cons_of_neg->Et,filter_cons_of_pos->Eu,filter_eq_self->Fu,filter_filter->Lc,filter_sublist->Ix,flatMap_cons->Ie,foldl_append->Jn,foldl_cons->Av,getElem?_append_left->Af,getElem?_append_right->Aj,getElem?_drop->Bq,getElem?_eq_getElem->Aa,getElem?_eq_none->Bb,getElem?_eq_some_iff->Ab,getElem?_map->Bi,getElem?_range->Cq,getElem?_replicate->Ew,getElem?_set->Hd,getElem?_set_ne->Ax,getElem?_set_self->Ao,getElem_mem->Bl,getElem_of_mem->Iw,length_append->Aw,length_cons->Bo,length_filter_le->Gd,length_nil->Fz,length_reverse->Kw,length_set->Dp,map_append->Bu,map_cons->Bk,map_set->Gq,mem_append->Ba,mem_cons->Bd,mem_cons_of_mem->Bj,mem_cons_self->Ar,mem_filter->Dx,mem_map->Bx,mem_of_getElem?->Ap,mem_or_eq_of_mem_set->Di,mem_replicate->Gf,mem_reverse->Hk,nodup_append->Bm,nodup_cons->Cc,pairwise_cons->Cv,pairwise_iff_getElem->Fh,prefix_refl->Cn,range->Dh,range_succ->Kr,replicate->Ah,reverse_cons->Lk,take->Hw,take_append_drop->Bv,take_append_of_le_length->Dm,take_of_length_le->Cl
open List.Sublist renaming refl->Jo
open List.cons renaming injEq->Ko
open Nat renaming le_refl->Au,le_trans->Da,sub_zero->Hu,zero_add->Bn
open Ne renaming symm->Eh
open Or renaming inl->Fm
open Prod renaming fst->Lu
namespace Go.Proofs.YtpomiadgghchnaaGreat
open Go Go.AW Go.Proofs
set_option maxRecDepth 10000
theorem GJ (n m:Int) (h0:0<=m) (h1:m<=1099511627776):aA Tryz.prog 167 [ii n,ii m] [] (.ret (ii (fK n m))) []:=by
 have e:fK n m=max (0-m) (min n m):=by unfold fK;omega
 rw [e]
 refine cT (E:=E) (fn:=Tryz.f167) (g:=.pure _) fun _=>?_
 exact zW
theorem GK (a b:V3):aA Tryz.prog 85 [a.av,b.av] [] (.ret (eF a b).av) []:=by
 have r1:=fE a.a 1099511627776 (by decide)
 have r2:=fE a.b 1099511627776 (by decide)
 have r3:=fE a.c 1099511627776 (by decide)
 have r4:=fE b.a 1099511627776 (by decide)
 have r5:=fE b.b 1099511627776 (by decide)
 have r6:=fE b.c 1099511627776 (by decide)
 refine cT (E:=E) (fn:=Tryz.f85) (g:=.pure _) fun _=>?_
 repeat' first
  | (refine gW (by first | exact hE | exact hEr _ _ | exact hEo _ _) ?_;conv=>whnf)
  | refine .pure _ [] (GJ _ _ (by decide) (by decide)) ?_
  | exact rfl
  | refine aY ?_
  | refine aN ?_
  | refine aJ ?_
  | refine Al _ (Ac rfl ?_)
  | refine Ac (by decide) ?_
theorem aCH (a b:V3):aA Tryz.prog 163 [a.av,b.av] [] (.ret (xS a b).av) []:=by
 have r1:=fE a.a 1099511627776 (by decide)
 have r2:=fE a.b 1099511627776 (by decide)
 have r3:=fE a.c 1099511627776 (by decide)
 have r4:=fE b.a 1099511627776 (by decide)
 have r5:=fE b.b 1099511627776 (by decide)
 have r6:=fE b.c 1099511627776 (by decide)
 refine cT (E:=E) (fn:=Tryz.f163) (g:=.pure _) fun _=>?_
 repeat' first
  | (refine gW (by first | exact hE | exact hEr _ _ | exact hEo _ _) ?_;conv=>whnf)
  | refine .pure _ [] (GJ _ _ (by decide) (by decide)) ?_
  | exact rfl
  | refine aY ?_
  | refine aN ?_
  | refine aJ ?_
  | refine Al _ (Ac rfl ?_)
  | refine Ac (by decide) ?_
theorem aCP (a:V3) (n:Int):aA Tryz.prog 252 [a.av,ii n] [] (.ret (aFN a n).av) []:=by
 have r1:=Q0 a.a n
 have r2:=Q0 a.b n
 have r3:=Q0 a.c n
 refine cT (E:=E) (fn:=Tryz.f252) (g:=.pure _) fun _=>?_
 repeat' first
  | (refine gW (by first | exact hE | exact hEr _ _ | exact hEo _ _) ?_;conv=>whnf)
  | refine .pure _ [] (GJ _ _ (by decide) (by decide)) ?_
  | exact rfl
  | refine aY ?_
  | refine aN ?_
  | refine aJ ?_
  | refine Al _ (Ac rfl ?_)
  | refine Ac (by decide) ?_
theorem aCY (g:Gan):aA Tryz.prog 165 [g.av] [] (.ret (dem g).av) []:=by
 refine cT (E:=E) (fn:=Tryz.f165) (g:=.pure _) fun _=>?_
 have z4_1:=aCP g.need g.pods
 exact zW
theorem YI (l:List V3) (n:Int) (r:V3) (hr:atV l n=r):aA Tryz.prog 254 [.slice 3 (vav l) .no,ii n] [] (.ret r.av) []:=by
 have hl:(vav l).length=l.length:=by simp
 unfold atV at hr
 by_cases h1:n<0
 .rw [if_pos (decide_eq_true h1)] at hr
  subst hr
  refine cT (E:=E) (fn:=Tryz.f254) (g:=.pure _) fun _=>?_
  exact zW
 .rw [if_neg (by rw [decide_eq_false h1];decide)] at hr
  by_cases h2:n.toNat<l.length
  .rw [Aa h2] at hr
   have get:=kD h2
   have hr:l[n.toNat]=r:=hr
   rw [hr] at get
   have hn:n=(n.toNat:Int):=by omega
   refine cT (E:=E) (fn:=Tryz.f254) (g:=.pure _) fun _=>?_
   exact zW
  .rw [Bb (by omega)] at hr
   subst hr
   refine cT (E:=E) (fn:=Tryz.f254) (g:=.pure _) fun _=>?_
   exact zW
theorem aCZ (l:List V3) (n:Int):aA Tryz.prog 254 [.slice 3 (vav l) .no,ii n] [] (.ret (atV l n).av) []:=YI l n _ rfl
theorem C0 (n:Int):∀ (l:List Nod) (i:Nat),decide (0<=findP n l i)=l.any fun x=>x.p==n
 | [],i=>by simp [findP]
 | x::r,i=>by
  unfold findP
  rw [Hg]
  by_cases h:x.p=n
  .simp [h]
  .have:=C0 n r (i+1)
   simp [h,this]
theorem MM (l:List Nod) (n:Int):(l.all fun x=>!(x.p==n))= !(l.any fun x=>x.p==n):=by
 induction l with
 | nil=>rfl
 | cons x r ih=>rw [Fk,Hg,ih];cases (x.p==n)<;>simp
theorem GD (ns:List Nod) (t:Int):rlB ns t=aX ns t:=by
 unfold rlB aX
 rw [C0,MM]
 generalize (ns.any fun x=>x.p==t)=b
 by_cases h1:t<0
 .have h2:¬ 0<=t:=by omega
  simp [h1,h2]
 .have h3:0<=t:=by omega
  by_cases h2:(ns.length:Int)<=t
  .have h4:¬ t<(ns.length:Int):=by omega
   simp [h1,h3,h2,h4]
  .have h4:t<(ns.length:Int):=by omega
   simp [h1,h3,h2,h4]
def cJ (ns:List Nod) (n:Int):List Int:=(upL ns n).reverse
theorem E6 {α β:Type} (f:β->α->β) (hf:∀ b x y,f (f b x) y=f (f b y) x):∀ (l:List α) (b:β),l.reverse.foldl f b=l.foldl f b
 | [],b=>rfl
 | x::r,b=>by
  have h:∀ (l:List α) (b:β),l.foldl f (f b x)=f (l.foldl f b) x:=fun l=>by
   induction l with
   | nil=>intro b;rfl
   | cons y r ih=>intro b;rw [Av,Av,hf,ih]
  rw [Lk,Jn,E6 f hf r b]
  show f (r.foldl f b) x=r.foldl f (f b x)
  rw [h]
def rO (v:V3) (xs:List V3) (k:Int):List V3:=xs.set k.toNat (eF ((xs[k.toNat]?).getD V3.zero) v)
theorem MP (v:V3) (xs:List V3) (k:Int):(rO v xs k).length=xs.length:=by unfold rO;simp
theorem nN (v:V3) (xs:List V3) (k:Int) (j:Nat):(rO v xs k)[j]? =if k.toNat=j then (xs[j]?).map fun x=>eF x v else xs[j]?:=by
 unfold rO
 rw [Hd]
 by_cases h:k.toNat=j
 .subst h
  rw [if_pos rfl,if_pos rfl]
  by_cases h2:k.toNat<xs.length
  .rw [if_pos h2,Aa h2]
   rfl
  .rw [if_neg h2,Bb (by omega)]
   rfl
 .rw [if_neg h,if_neg h]
theorem V4 (v:V3) (xs:List V3) (a b:Int):rO v (rO v xs a) b=rO v (rO v xs b) a:=by
 refine Es fun j=>?_
 rw [nN,nN,nN,nN]
 by_cases h1:a.toNat=j<;>by_cases h2:b.toNat=j<;>simp [h1,h2]
def xX (c:Con) (xs:List V3) (x:Rn):List V3:=if aX c.ns x.g.ten=true then (cJ c.ns x.g.ten).foldl (rO (dem x.g)) xs else xs
def X3 (c:Con) (l:List Rn):List V3:=l.foldl (xX c) (Ah c.ns.length V3.zero)
theorem rX (v:V3):∀ (ks:List Int) (xs:List V3),(ks.foldl (rO v) xs).length=xs.length
 | [],_=>rfl
 | k::r,xs=>by rw [Av,rX v r,MP]
theorem X0 (c:Con) (xs:List V3) (x:Rn):(xX c xs x).length=xs.length:=by
 unfold xX
 split
 .exact rX _ _ _
 .rfl
def oW (L:Led):Prop:=(L.map Lu).Nodup
theorem EM (n:Int) (v:V3):∀ (L:Led) (k:Int),k∈(vS L n v).map Lu->k=n\/k∈L.map Lu
 | [],k,h=>by simp [vS] at h;exact .inl h
 | (j,w)::r,k,h=>by
  unfold vS at h
  split at h
  .rename_i hj
   simp only [Bk,Bd] at h⊢
   rcases h with rfl | h
   .exact .inl rfl
   .exact .inr (.inr h)
  .simp only [Bk,Bd] at h⊢
   rcases h with rfl | h
   .exact .inr (.inl rfl)
   .rcases EM n v r k h with h | h
    .exact .inl h
    .exact .inr (.inr h)
theorem ZW (n:Int) (v:V3):∀ (L:Led),oW L->oW (vS L n v)
 | [],_=>by simp [vS,oW]
 | (j,w)::r,h=>by
  have h1:=(Cc.1 h)
  unfold vS
  split
  .rename_i hj
   subst hj
   exact h
  .rename_i hj
   refine Cc.2 ⟨fun hm=>?_,ZW n v r h1.2⟩
   rcases EM n v r _ hm with h | h
   .exact hj h
   .exact h1.1 h
theorem EO (n:Int):∀ (L:Led) (k:Int),k∈(BI L n).map Lu->k∈L.map Lu
 | [],k,h=>h
 | (j,w)::r,k,h=>by
  unfold BI at h
  simp only [Bk,Bd]
  split at h
  .exact .inr h
  .simp only [Bk,Bd] at h
   rcases h with h | h
   .exact .inl h
   .exact .inr (EO n r k h)
theorem Z2 (n:Int):∀ (L:Led),oW L->oW (BI L n)
 | [],h=>h
 | (j,w)::r,h=>by
  have h1:=(Cc.1 h)
  unfold BI
  split
  .exact h1.2
  .exact Cc.2 ⟨fun hm=>h1.1 (EO n r _ hm),Z2 n r h1.2⟩
theorem KS:∀ (L:Led) (n:Int),n∉L.map Lu->hZ L n=none
 | [],n,h=>rfl
 | (j,w)::r,n,h=>by
  simp only [Bk,Bd,not_or] at h
  unfold hZ
  rw [if_neg (fun e=>h.1 e.symm)]
  exact KS r n h.2
theorem KR (n:Int) (v:V3) (k:Int):∀ (L:Led),hZ (vS L n v) k=if k=n then some v else hZ L k
 | []=>by
  unfold vS hZ hZ
  by_cases h:k=n
  .rw [if_pos h,if_pos h.symm]
  .rw [if_neg h,if_neg (fun e=>h e.symm)]
 | (j,w)::r=>by
  have ih:=KR n v k r
  unfold vS
  split
  .rename_i hj
   subst hj
   unfold hZ
   by_cases h:k=j
   .rw [if_pos h,if_pos h.symm]
   .rw [if_neg h,if_neg (fun e=>h e.symm),if_neg (fun e=>h e.symm)]
  .rename_i hj
   unfold hZ
   rw [ih]
   by_cases h:j=k
   .rw [if_pos h,if_pos h,if_neg (fun e=>hj (h.trans e))]
   .rw [if_neg h,if_neg h]
theorem KT (n:Int) (k:Int):∀ (L:Led),oW L->hZ (BI L n) k=if k=n then none else hZ L k
 | [],_=>by
  unfold BI hZ
  split<;>rfl
 | (j,w)::r,h=>by
  have h1:=(Cc.1 h)
  have ih:=KT n k r h1.2
  unfold BI
  split
  .rename_i hj
   subst hj
   by_cases h2:k=j
   .rw [if_pos h2,h2]
    exact KS r j h1.1
   .rw [if_neg h2]
    conv=>rhs;unfold hZ
    rw [if_neg (fun e=>h2 e.symm)]
  .rename_i hj
   unfold hZ
   rw [ih]
   by_cases h2:j=k
   .rw [if_pos h2,if_pos h2,if_neg (fun e=>hj (h2.trans e))]
   .rw [if_neg h2,if_neg h2]
theorem aAb {v:V3} (h:isZ v=true):v=V3.zero:=by
 obtain ⟨a,b,c⟩:=v
 unfold isZ at h
 simp at h
 obtain ⟨rfl,rfl,rfl⟩:=h
 rfl
theorem aGV {L:Led} (h:oW L) (n:Int) (v:V3):oW (KM L n v):=by
 unfold KM
 split
 .exact Z2 n L h
 .exact ZW n v L h
theorem ZV {L:Led} (h:oW L) (n:Int) (v:V3) (k:Int):oN (KM L n v) k=if k=n then v else oN L k:=by
 unfold KM oN
 split
 .rename_i hz
  rw [KT n k L h]
  by_cases h2:k=n
  .rw [if_pos h2,if_pos h2,aAb hz];rfl
  .rw [if_neg h2,if_neg h2]
 .rw [KR]
  by_cases h2:k=n
  .rw [if_pos h2,if_pos h2];rfl
  .rw [if_neg h2,if_neg h2]
theorem C1 (n:Nat) (L:Led) (j:Nat):(lN n L)[j]? =if j<n then some (oN L (j:Int)) else none:=by
 unfold lN
 rw [Bi]
 by_cases h:j<n
 .rw [if_pos h,Cq h];rfl
 .rw [if_neg h,Bb (by simp;omega)];rfl
theorem aET {n:Nat} {L:Led} (h:oW L) (v:V3) (k:Int) (h0:0<=k) (hk:k.toNat<n):lN n (wJ v L k)=rO v (lN n L) k:=by
 refine Es fun j=>?_
 rw [nN,C1,C1]
 unfold wJ
 rw [ZV h]
 by_cases h1:j<n
 .rw [if_pos h1,if_pos h1]
  by_cases h2:k.toNat=j
  .rw [if_pos h2,if_pos (by omega)]
   have:k=(j:Int):=by omega
   rw [this]
   rfl
  .rw [if_neg h2,if_neg (by omega)]
 .rw [if_neg h1,if_neg h1]
  split<;>rfl
theorem aI6 {L:Led} (h:oW L) (v:V3) (k:Int):oW (wJ v L k):=aGV h _ _
theorem LY {n:Nat} (v:V3):∀ (ks:List Int) (L:Led),oW L->(∀ k∈ks,0<=k/\k.toNat<n)->lN n (ks.foldl (wJ v) L)=ks.foldl (rO v) (lN n L)/\oW (ks.foldl (wJ v) L)
 | [],L,h,_=>⟨rfl,h⟩
 | k::r,L,h,hk=>by
  have h1:=hk k (by simp)
  obtain ⟨e1,e2⟩:=LY v r (wJ v L k) (aI6 h v k) fun x hx=>hk x (by simp [hx])
  exact ⟨by rw [Av,e1,aET h v k h1.1 h1.2];rfl,e2⟩
theorem FX (ns:List Nod):∀ (f:Nat) (n x:Int),x∈upF ns f n->0<=x/\x.toNat<ns.length
 | 0,n,x,h=>by simp [upF] at h
 | f+1,n,x,h=>by
  unfold upF at h
  split at h
  .rename_i h0
   have h0:=of_decide_eq_true h0
   split at h
   .rename_i h1
    split at h
    .simp at h;subst h;exact ⟨h0,h1⟩
    .rcases Bd.1 h with rfl | h
     .exact ⟨h0,h1⟩
     .exact FX ns f _ x h
   .simp at h
  .simp at h
theorem NW (c:Con) (L:Led) (h:oW L) (x:Rn):lN c.ns.length (sK c L x)=xX c (lN c.ns.length L) x/\oW (sK c L x):=by
 unfold sK xX cJ
 split
 .obtain ⟨e1,e2⟩:=LY (n:=c.ns.length) (dem x.g) (upL c.ns x.g.ten) L h fun k hk=>FX _ _ _ _ hk
  exact ⟨by rw [e1,E6 _ (V4 _)],e2⟩
 .exact ⟨rfl,h⟩
theorem aFm (c:Con) (l:List Rn):X3 c l=ofL c l:=by
 have key:∀ (l:List Rn) (L:Led),oW L->l.foldl (xX c) (lN c.ns.length L)=lN c.ns.length (l.foldl (sK c) L):=fun l=>by
  induction l with
  | nil=>intro L _;rfl
  | cons x r ih=>
   intro L h
   obtain ⟨e1,e2⟩:=NW c L h x
   rw [Av,Av,<-e1,ih _ e2]
 have h0:lN c.ns.length []=Ah c.ns.length V3.zero:=by
  refine Es fun j=>?_
  rw [C1,Ew]
  rfl
 unfold X3 ofL
 rw [<-h0,key l [] (by simp [oW])]
noncomputable abbrev aFs:Func:=Tryz.f319
theorem TN (c:Con) (hc:c.sm) (R:List Int):∀ (m i:Nat) (acc:List Int),i+m=c.ns.length->acc.length<=i->acc++lvF c.ns m i=R->
  To (Eo [3] []) aFs (.pure (.ret (.slice 1 (iv R) .no))) (.head (stk aFs 0) [(1,.ref 0 0),(3,.slice 1 (iv acc) (.own 1 0)),(4,.int .i64 i)] [.cells 26 c.cs,.tail 0 1 3]):=by
 have hlen:(nav c.ns).length=c.ns.length:=by simp
 have h1:=hc.ns
 intro m
 induction m with
 | zero=>
  intro i acc hi ha hR
  unfold lvF at hR
  rw [Bg] at hR
  subst hR
  refine gV ?_
  exact zW
 | succ m ih=>
  intro i acc hi ha hR
  have hla:(iv acc).length=acc.length:=by simp
  have hlf:=pH c hc i
  rw [GD] at hlf
  unfold lvF at hR
  refine gV ?_
  refine aT fun h=>?_
  refine gV ?_
  refine .pure _ [] hlf ?_
  refine gV ?_
  refine Ac (fun h2=>?_) (fun h2=>?_)
  .have h2:aX c.ns (i:Int)=true:=h2
   rw [if_pos h2] at hR
   have next:=ih (i+1) (acc++[(i:Int)]) (by omega) (by simp;omega) (by rw [Ai];exact hR)
   have e:iv (acc++[(i:Int)])=iv acc++[ii i]:=by simp
   rw [e] at next
   exact zW
  .have h2:aX c.ns (i:Int)=false:=h2
   rw [if_neg (by rw [h2];decide)] at hR
   have next:=ih (i+1) acc (by omega) (by omega) hR
   exact zW
theorem aCR (c:Con) (hc:c.sm):aA Tryz.prog 319 [c.av] [] (.ret (.slice 1 (iv (kF c.ns)) .no)) []:=by
 refine cT (E:=(Eo [3] [])) (fn:=Tryz.f319) (g:=.pure _) fun _=>?_
 have z3_1:=TN c hc _ c.ns.length 0 [] (by omega) (by simp) rfl
 exact zW
noncomputable abbrev aAI:Func:=Tryz.f164
theorem NC (c:Con) (hc:c.sm) (R:List Int):∀ (f:Nat) (n:Int) (acc:List Int) (tk:Tk),(tk= .nil\/tk= .no)->(0<=n->n.toNat<f)->(0<=n->n.toNat<c.ns.length->acc.length+n.toNat<1048577)->(upF c.ns f n).reverse++acc=R->
  To E aAI (.pure (.ret (.slice 1 (iv R) .no))) (.head (stk aAI 0) [(1,ii n),(2,.ref 0 0),(5,.slice 1 (iv acc) tk)] [.cells 26 c.cs]):=by
 have hlen:(nav c.ns).length=c.ns.length:=by simp
 have hcn:=hc.ns
 intro f
 induction f with
 | zero=>
  intro n acc tk ht hf hb hR
  have hla:(iv acc).length=acc.length:=by simp
  have h1:¬ 0<=n:=fun h=>by have:=hf h;omega
  have hR:acc=R:=hR
  subst hR
  rcases ht with rfl | rfl
  .refine gV ?_
   exact zW
  .refine gV ?_
   exact zW
 | succ f ih=>
  intro n acc tk ht hf hb hR
  have hla:(iv acc).length=acc.length:=by simp
  unfold upF at hR
  rcases ht with rfl | rfl
  .by_cases h1:0<=n
   .rw [if_pos (decide_eq_true h1)] at hR
    by_cases h2:n.toNat<c.ns.length
    .rw [dif_pos h2] at hR
     have hb:=hb h1 h2
     generalize hx:c.ns[n.toNat]=x at hR
     have get:(nav c.ns)[n.toNat]? =some x.av:=(fQ h2).trans (by rw [hx])
     have hn:n=(n.toNat:Int):=by omega
     by_cases h3:n<=x.p
     .rw [if_pos (decide_eq_true h3)] at hR
      have hR:n::acc=R:=hR
      subst hR
      refine gV ?_
      exact zW
     .rw [if_neg (by rw [decide_eq_false h3];decide),Lk,Ai] at hR
      have next:=ih x.p (n::acc) .no (.inr rfl) (fun _=>by have:=hf h1;omega) (fun _ _=>by simp;omega) hR
      refine gV ?_
      exact zW
    .rw [dif_neg h2] at hR
     have hR:acc=R:=hR
     subst hR
     refine gV ?_
     exact zW
   .rw [if_neg (by rw [decide_eq_false h1];decide)] at hR
    have hR:acc=R:=hR
    subst hR
    refine gV ?_
    exact zW
  .by_cases h1:0<=n
   .rw [if_pos (decide_eq_true h1)] at hR
    by_cases h2:n.toNat<c.ns.length
    .rw [dif_pos h2] at hR
     have hb:=hb h1 h2
     generalize hx:c.ns[n.toNat]=x at hR
     have get:(nav c.ns)[n.toNat]? =some x.av:=(fQ h2).trans (by rw [hx])
     have hn:n=(n.toNat:Int):=by omega
     by_cases h3:n<=x.p
     .rw [if_pos (decide_eq_true h3)] at hR
      have hR:n::acc=R:=hR
      subst hR
      refine gV ?_
      exact zW
     .rw [if_neg (by rw [decide_eq_false h3];decide),Lk,Ai] at hR
      have next:=ih x.p (n::acc) .no (.inr rfl) (fun _=>by have:=hf h1;omega) (fun _ _=>by simp;omega) hR
      refine gV ?_
      exact zW
    .rw [dif_neg h2] at hR
     have hR:acc=R:=hR
     subst hR
     refine gV ?_
     exact zW
   .rw [if_neg (by rw [decide_eq_false h1];decide)] at hR
    have hR:acc=R:=hR
    subst hR
    refine gV ?_
    exact zW
theorem JA (c:Con) (hc:c.sm) (n:Int):aA Tryz.prog 164 [c.av,ii n] [] (.ret (.slice 1 (iv (cJ c.ns n)) .no)) []:=by
 have hcn:=hc.ns
 refine cT (E:=E) (fn:=Tryz.f164) (g:=.pure _) fun _=>?_
 refine gV ?_
 refine To.part [1,2,5] [0] rfl rfl rfl ?_
 exact NC c hc _ (n.toNat+1) n [] .nil (.inl rfl) (fun _=>by omega) (fun _ _=>by simp;omega) (by unfold cJ upL;simp)
theorem PZ (ns:List Nod):∀ (f:Nat) (n:Int),(upF ns f n).length<=n.toNat+1/\(upF ns f n).length<=f
 | 0,n=>by simp [upF]
 | f+1,n=>by
  unfold upF
  split
  .split
   .split
    .simp
    .rename_i h0 h1 h2
     have ih:=PZ ns f (ns[n.toNat]).p
     have h2:¬ n<=(ns[n.toNat]).p:=fun h=>h2 (decide_eq_true h)
     have h0:=of_decide_eq_true h0
     simp only [Bo]
     refine ⟨?_,by omega⟩
     by_cases h4:0<=(ns[n.toNat]).p
     .omega
     .have e:(upF ns f (ns[n.toNat]).p)=[]:=by
       cases f with
       | zero=>rfl
       | succ f=>
          unfold upF
          rw [if_neg (by rw [decide_eq_false h4];decide)]
      rw [e]
      simp
   .simp
  .simp
theorem PW (ns:List Nod) (n:Int):(upL ns n).length<=ns.length:=by
 by_cases h:0<=n/\n.toNat<ns.length
 .have:=(PZ ns (n.toNat+1) n).1
  unfold upL
  omega
 .unfold upL upF
  by_cases h0:0<=n
  .rw [if_pos (decide_eq_true h0),dif_neg (by omega)]
   simp
  .rw [if_neg (by rw [decide_eq_false h0];decide)]
   simp
theorem EF (ns:List Nod) (n:Int):(cJ ns n).length<=ns.length:=by
 unfold cJ
 rw [Kw]
 exact PW ns n
noncomputable abbrev aIK:Func:=Tryz.f320
def onB (ns:List Nod) (n t:Int):Bool:=(cJ ns t).any fun x=>x==n
theorem aGI (ns:List Nod) (n t:Int):onB ns n t=decide (n∈upL ns t):=by
 unfold onB cJ
 rw [List.any_reverse,Km]
 simp
theorem XZ (c:Con) (n:Int) (l:List Int) (hl:l.length<=1048576) (r:Bool):∀ (m i:Nat),i+m=l.length->((l.drop i).any fun x=>x==n)=r->
  To E aIK (.pure (.ret (.bool r))) (.head (stk aIK 0) [(1,ii n),(7,.slice 1 (iv l) .no),(8,ii i)] [.cells 26 c.cs]):=by
 have hlen:(iv l).length=l.length:=by simp
 intro m
 induction m with
 | zero=>
  intro i hi hr
  rw [Ae (by omega)] at hr
  have hr:false=r:=hr
  subst hr
  refine gV ?_
  exact zW
 | succ m ih=>
  intro i hi hr
  have hlt:i<l.length:=by omega
  rw [Ad hlt,Hg] at hr
  have get:=dO hlt
  generalize l[i]=x at hr get
  have ih:=ih (i+1) (by omega)
  refine gV ?_
  refine aT fun h=>?_
  refine gV ?_
  refine ⟨i,rfl,?_⟩
  refine gV ?_
  refine ⟨_,get,?_⟩
  refine gV ?_
  refine Ac (fun h2=>?_) (fun h2=>?_)
  .have h2:(x==n)=true:=h2
   rw [h2] at hr
   have hr:true=r:=hr
   subst hr
   exact zW
  .have h2:(x==n)=false:=h2
   rw [h2,Mu] at hr
   repeat' first | (refine gN hE ?_;conv=>whnf) | exact rfl | refine aY ?_ | refine aN ?_ | refine aT fun h=>?_ | refine aF fun h=>?_ | refine ⟨fun h=>?_,fun h=>?_⟩ | refine aJ ?_ | refine ⟨_,rfl,?_⟩ | refine aD ?_ | fail
   exact To.cut [1,7,8] 1 rfl rfl rfl rfl (ih hr)
theorem aGn (c:Con) (hc:c.sm) (n t:Int):aA Tryz.prog 320 [c.av,ii n,ii t] [] (.ret (.bool (onB c.ns n t))) []:=by
 have h1:=EF c.ns t
 have hcn:=hc.ns
 have hp:=JA c hc t
 unfold onB
 generalize cJ c.ns t=l at h1 hp
 refine cT (E:=E) (fn:=Tryz.f320) (g:=.pure _) fun _=>?_
 repeat' first | (refine gN hE ?_;conv=>whnf) | refine .pure _ [] hp ?_ | exact rfl | refine aY ?_ | refine aN ?_ | refine aT fun h=>?_ | refine aF fun h=>?_ | refine ⟨fun h=>?_,fun h=>?_⟩ | refine aJ ?_ | refine ⟨_,rfl,?_⟩ | refine aD ?_ | fail
 exact To.cut [1,7,8] 1 rfl rfl rfl rfl (XZ c n l (by omega) _ l.length 0 (by omega) rfl)
noncomputable abbrev aFt:Func:=Tryz.f253
theorem JM (c:Con) (hc:c.sm) (n:Int) (l:List Int) (hl:l.length<=1048576) (R:List Int):∀ (m i:Nat) (acc:List Int),i+m=l.length->acc.length<=i->acc++(l.drop i).flatMap (rN c.ns n)=R->
  To (Eo [5] []) aFt (.pure (.ret (.slice 1 (iv R) .no))) (.head (stk aFt 0) [(1,ii n),(2,.ref 0 0),(5,.slice 1 (iv acc) (.own 1 0)),(6,.slice 1 (iv l) .no),(7,ii i)] [.cells 26 c.cs,.tail 0 1 3]):=by
 have hlen:(iv l).length=l.length:=by simp
 intro m
 induction m with
 | zero=>
  intro i acc hi ha hR
  rw [Ae (by omega)] at hR
  have hR:acc++[]=R:=hR
  rw [Bg] at hR
  subst hR
  refine gV ?_
  exact zW
 | succ m ih=>
  intro i acc hi ha hR
  have hla:(iv acc).length=acc.length:=by simp
  have hlt:i<l.length:=by omega
  rw [Ad hlt,Ie] at hR
  have get:=dO hlt
  generalize l[i]=x at hR get
  have hon:=aGn c hc n x
  rw [aGI] at hon
  unfold rN at hR
  by_cases h2:n∈upL c.ns x
  .rw [if_pos h2] at hR
   rw [decide_eq_true h2] at hon
   have next:=ih (i+1) (acc++[x]) (by omega) (by simp;omega) (by rw [Ai];exact hR)
   have e:iv (acc++[x])=iv acc++[ii x]:=by simp
   rw [e] at next
   refine gV ?_
   exact zW
  .rw [if_neg h2] at hR
   rw [decide_eq_false h2] at hon
   have next:=ih (i+1) acc (by omega) (by omega) hR
   refine gV ?_
   exact zW
theorem TV (c:Con) (hc:c.sm) (n:Int):aA Tryz.prog 253 [c.av,ii n] [] (.ret (.slice 1 (iv (bH c.ns n)) .no)) []:=by
 have hcn:=hc.ns
 have h1:(kF c.ns).length<=c.ns.length:=yO c.ns c.ns.length 0
 have hlv:=aCR c hc
 unfold bH
 generalize kF c.ns=l at h1 hlv
 refine cT (E:=(Eo [5] [])) (fn:=Tryz.f253) (g:=.pure _) fun _=>?_
 have z20_1:=JM c hc n l (by omega) _ l.length 0 [] (by omega) (by simp) rfl
 exact zW
noncomputable abbrev aFq:Func:=Tryz.f166
theorem TJ (c:Con) (l:List V3) (b:List Int) (hb:b.length<=1048576) (R:V3):∀ (m i:Nat) (v:V3),i+m=b.length->(b.drop i).foldl (smS l) v=R->
  To E aFq (.pure (.ret R.av)) (.head (stk aFq 0) [(2,.slice 3 (vav l) .no),(6,.ref 1 0),(7,.ref 2 0),(8,.slice 1 (iv b) .no),(9,ii i)] [.cells 26 c.cs,.cells 34 V3.zero.cs,.cells 34 v.cs]):=by
 have hlen:(iv b).length=b.length:=by simp
 intro m
 induction m with
 | zero=>
  intro i v hi hR
  rw [Ae (by omega)] at hR
  have hR:v=R:=hR
  subst hR
  refine gV ?_
  exact zW
 | succ m ih=>
  intro i v hi hR
  have hlt:i<b.length:=by omega
  rw [Ad hlt,Av] at hR
  have get:=dO hlt
  generalize b[i]=x at hR get
  have hat:=aCZ l x
  have next:=ih (i+1) (smS l v x) (by omega) hR
  unfold smS at next
  generalize atV l x=u at hat next
  have had:=GK v u
  generalize eF v u=q at had next
  refine gV ?_
  exact zW
theorem aCG (c:Con) (hc:c.sm) (n:Int) (l:List V3):aA Tryz.prog 166 [c.av,ii n,.slice 3 (vav l) .no] [] (.ret (iJ c.ns n l).av) []:=by
 have h1:=rE c hc n
 have hbl:=TV c hc n
 unfold iJ
 generalize bH c.ns n=b at h1 hbl
 refine cT (E:=E) (fn:=Tryz.f166) (g:=.pure _) fun _=>?_
 repeat' first | (refine gN hE ?_;conv=>whnf) | refine .pure _ [] hbl ?_ | exact rfl | refine aY ?_ | refine aN ?_ | refine aT fun h=>?_ | refine aF fun h=>?_ | refine ⟨fun h=>?_,fun h=>?_⟩ | refine aJ ?_ | refine ⟨_,rfl,?_⟩ | refine aD ?_ | fail
 exact To.cut [2,6,7,8,9] 3 rfl rfl rfl rfl (TJ c l b h1 _ b.length 0 V3.zero (by omega) rfl)
noncomputable abbrev aFr:Func:=Tryz.f83
theorem X4 {c:Con} {i:Nat} (h:i<c.ns.length):(nav c.ns)[i]? =some (bX c.ns (i:Int)).av:=by
 unfold bX
 rw [Ck,Aa h]
 exact fQ h
theorem TM (c:Con) (hc:c.sm) (n:Int):∀ (m i:Nat) (acc:List V3),i+m=c.ns.length->acc=(Dh i).map (fun j:Nat=>(bX c.ns (j:Int)).n)->
  To (Eo [5] []) aFr (.pure (.ret (iJ c.ns n (kT c.ns)).av)) (.head (stk aFr 0) [(1,ii n),(2,.ref 0 0),(4,.ref 1 0),(5,.slice 3 (vav acc) (.own 2 0)),(6,ii i)] [.cells 26 c.cs,.cells 34 V3.zero.cs,.tail 0 3 34]):=by
 have hlen:(nav c.ns).length=c.ns.length:=by simp
 have hcn:=hc.ns
 intro m
 induction m with
 | zero=>
  intro i acc hi ha
  have hi:i=c.ns.length:=by omega
  have ha:acc=kT c.ns:=by rw [ha,hi];rfl
  subst ha
  have hs:=aCG c hc n (kT c.ns)
  generalize iJ c.ns n (kT c.ns)=S at hs
  refine gV ?_
  exact zW
 | succ m ih=>
  intro i acc hi ha
  have hla:(vav acc).length=acc.length:=by simp
  have hla2:acc.length=i:=by rw [ha];simp
  have get:=X4 (c:=c) (i:=i) (by omega)
  have next:=ih (i+1) (acc++[(bX c.ns (i:Int)).n]) (by omega) (by rw [ha,Kr,Bu];rfl)
  have e:vav (acc++[(bX c.ns (i:Int)).n])=vav acc++[(bX c.ns (i:Int)).n.av]:=by simp
  rw [e] at next
  generalize bX c.ns (i:Int)=x at get next
  refine gV ?_
  exact zW
theorem aCO (c:Con) (hc:c.sm) (n:Int):aA Tryz.prog 83 [c.av,ii n] [] (.ret (iJ c.ns n (kT c.ns)).av) []:=by
 refine cT (E:=(Eo [5] [])) (fn:=Tryz.f83) (g:=.pure _) fun _=>?_
 have z2_1:=TM c hc n c.ns.length 0 [] (by omega) rfl
 exact zW
theorem WN {ns:List Nod} {t:Int} (h0:0<=t) (h1:t.toNat<ns.length):∃ r,upL ns t=t::r:=by
 unfold upL upF
 rw [if_pos (decide_eq_true h0),dif_pos h1]
 split
 .exact ⟨_,rfl⟩
 .exact ⟨_,rfl⟩
theorem tX {ns:List Nod} {t:Int} (h:aX ns t=true):0<=t/\t.toNat<ns.length:=by
 unfold aX at h
 by_cases h1:0<=t
 .rw [if_pos (decide_eq_true h1)] at h
  by_cases h2:t<(ns.length:Int)
  .omega
  .rw [if_neg (by rw [decide_eq_false h2];decide)] at h
   cases h
 .rw [if_neg (by rw [decide_eq_false h1];decide)] at h
  cases h
noncomputable abbrev U4:Func:=Tryz.f82
abbrev ofO (c:Con) (xs:List V3):List AObj:=[.cells 26 c.cs,.row 0 3 34 (vav xs)]
theorem aGp (c:Con) (l:List Rn) (R:List V3) (x:Rn) (j:Nat) (hj:j<1048576) (hx:(rav l)[j]? =some x.av) (p:List Int) (hpl:p.length<=1048576) (hpo:∀ k∈p,0<=k/\k.toNat<c.ns.length):
  ∀ (m i:Nat) (xs:List V3),xs.length=c.ns.length->i+m=p.length->
   To E U4 (.pure (.ret (.slice 3 (vav R) .no))) (.head (stk U4 0) [(1,.slice 14 (rav l) .no),(2,.ref 0 0),(5,.row 1 0),(6,ii ((j:Int)+1))] (ofO c ((p.drop i).foldl (rO (dem x.g)) xs)))->
  To E U4 (.pure (.ret (.slice 3 (vav R) .no))) (.head (stk U4 1) [(1,.slice 14 (rav l) .no),(2,.ref 0 0),(5,.row 1 0),(6,ii j),(7,.slice 1 (iv p) .no),(8,ii i)] (ofO c xs)):=by
 have hlen:(iv p).length=p.length:=by simp
 have hll:(rav l).length=l.length:=by simp
 intro m
 induction m with
 | zero=>
  intro i xs hxl hi hto
  rw [Ae (by omega)] at hto
  refine gV ?_
  exact zW
 | succ m ih=>
  intro i xs hxl hi hto
  have hlt:i<p.length:=by omega
  obtain ⟨k0,k1⟩:=hpo _ (Bl hlt)
  rw [Ad hlt,Av] at hto
  have get:=dO hlt
  generalize p[i]=k at hto get k0 k1
  have hn:k=(k.toNat:Int):=by omega
  have hvl:(vav xs).length=xs.length:=by simp
  have next:=ih (i+1) (rO (dem x.g) xs k) (by rw [MP];exact hxl) (by omega) hto
  have hl2:k.toNat<xs.length:=by omega
  have gv:(vav xs)[k.toNat]? =some xs[k.toNat].av:=kD hl2
  unfold rO at next
  rw [Aa hl2,show ((some xs[k.toNat]).getD V3.zero)=xs[k.toNat] from rfl] at next
  generalize xs[k.toNat]=u at gv next
  have hd:=aCY x.g
  generalize dem x.g=d at hd next hto
  have ha:=GK u d
  generalize eF u d=q at ha next
  unfold ofO at next
  rw [<-FU] at next
  refine gV ?_
  exact zW
theorem aCN (c:Con) (hc:c.sm) (l:List Rn) (hl:l.length<=1048576) (R:List V3):∀ (m i:Nat) (xs:List V3),i+m=l.length->xs.length=c.ns.length->(l.drop i).foldl (xX c) xs=R->
  To E U4 (.pure (.ret (.slice 3 (vav R) .no))) (.head (stk U4 0) [(1,.slice 14 (rav l) .no),(2,.ref 0 0),(5,.row 1 0),(6,ii i)] (ofO c xs)):=by
 have hlen:(rav l).length=l.length:=by simp
 have hcn:=hc.ns
 intro m
 induction m with
 | zero=>
  intro i xs hi hx hR
  rw [Ae (by omega)] at hR
  subst hR
  refine gV ?_
  exact zW
 | succ m ih=>
  intro i xs hi hx hR
  have hlt:i<l.length:=by omega
  rw [Ad hlt,Av] at hR
  have get:(rav l)[i]? =some l[i].av:=bN hlt
  generalize l[i]=x at hR get
  have next:=ih (i+1) (xX c xs x) (by omega) (by rw [X0];exact hx) hR
  have hlf:=pH c hc x.g.ten
  rw [GD] at hlf
  unfold xX at next
  cases hq:aX c.ns x.g.ten with
  | false=>
   rw [hq] at hlf
   rw [if_neg (by rw [hq];decide)] at next
   refine gV ?_
   exact zW
  | true=>
   rw [hq] at hlf
   rw [if_pos hq] at next
   have hp:=JA c hc x.g.ten
   have hpl:=EF c.ns x.g.ten
   have hpo:∀ k∈cJ c.ns x.g.ten,0<=k/\k.toNat<c.ns.length:=fun k hk=>FX _ _ _ _ (Hk.1 hk)
   generalize cJ c.ns x.g.ten=p at hp hpl hpo next
   have hin:=aGp c l R x i (by omega) get p (by omega) hpo p.length 0 xs hx (by omega) next
   refine gV ?_
   exact zW
theorem aGo (c:Con) (hc:c.sm) (l:List Rn) (hl:l.length<=1048576):aA Tryz.prog 82 [c.av,.slice 14 (rav l) .no] [] (.ret (.slice 3 (vav (ofL c l)) .no)) []:=by
 have h1:=hc.ns
 have hlen:(nav c.ns).length=c.ns.length:=by simp
 rw [<-aFm]
 have next:=aCN c hc l hl (X3 c l) l.length 0 (Ah c.ns.length V3.zero) (by omega) (by simp) rfl
 unfold ofO at next
 rw [show vav (Ah c.ns.length V3.zero)=Ah c.ns.length (AVal.agg [ii 0,ii 0,ii 0]) from by simp [vav,V3.av,V3.zero,V3.cs]] at next
 generalize X3 c l=R at next
 refine cT (E:=E) (fn:=Tryz.f82) (g:=.pure _) fun _=>?_
 refine gV ?_
 refine ⟨c.ns.length,by rw [hlen],?_⟩
 refine gV ?_
 refine ⟨⟨rfl,by omega,by simp only [maxLen];omega⟩,?_⟩
 exact zW
noncomputable abbrev pT:Func:=Tryz.f80
theorem X5 (c:Con) (r:List Rn) (R:List V3) (x:Rn) (j:Nat) (hj:j<1048576) (hx:(rav r)[j]? =some x.av) (hh:x.hs.length<=1048576) (hc:c.hs.length<=1048576):
  ∀ (m i:Nat) (xs:List V3),xs.length=c.hs.length->i+m=x.hs.length->
   To (Er [5] []) pT (.pure (.ret (.slice 3 (vav R) .no))) (.head (stk pT 1) [(1,.slice 14 (rav r) .no),(5,.row 1 0),(7,ii ((j:Int)+1))] (ofO c ((x.hs.drop i).foldl (nG x.g.need) xs)))->
  To (Er [5] []) pT (.pure (.ret (.slice 3 (vav R) .no))) (.head (stk pT 2) [(1,.slice 14 (rav r) .no),(5,.row 1 0),(7,ii j),(8,ii i)] (ofO c xs)):=by
 have hlen:(iv x.hs).length=x.hs.length:=by simp
 have hll:(rav r).length=r.length:=by simp
 intro m
 induction m with
 | zero=>
  intro i xs hxl hi hto
  rw [Ae (by omega)] at hto
  refine gV ?_
  refine ⟨j,rfl,?_⟩
  refine gV ?_
  refine ⟨_,hx,?_⟩
  exact zW
 | succ m ih=>
  intro i xs hxl hi hto
  have hlt:i<x.hs.length:=by omega
  rw [Ad hlt,Av] at hto
  have get:=dO hlt
  generalize x.hs[i]=u0 at hto get
  have hvl:(vav xs).length=xs.length:=by simp
  have next:=ih (i+1) (nG x.g.need xs u0) (by rw [nF];exact hxl) (by omega) hto
  unfold nG ofO at next
  by_cases h1:0<=u0
  .rw [if_pos (decide_eq_true h1)] at next
   by_cases h2:u0<(xs.length:Int)
   .rw [if_pos (decide_eq_true h2)] at next
    have hl2:u0.toNat<xs.length:=by omega
    have hn:u0=(u0.toNat:Int):=by omega
    rw [Aa hl2] at next
    have gv:(vav xs)[u0.toNat]? =some xs[u0.toNat].av:=kD hl2
    rw [show ((some xs[u0.toNat]).getD V3.zero)=xs[u0.toNat] from rfl] at next
    generalize xs[u0.toNat]=u at gv next
    have hsb:=aCH u x.g.need
    generalize xS u x.g.need=q at hsb next
    rw [<-FU] at next
    refine gV ?_
    refine ⟨j,rfl,?_⟩
    refine gV ?_
    refine ⟨_,hx,?_⟩
    exact zW
   .rw [if_neg (by rw [decide_eq_false h2];decide)] at next
    refine gV ?_
    refine ⟨j,rfl,?_⟩
    refine gV ?_
    refine ⟨_,hx,?_⟩
    exact zW
  .rw [if_neg (by rw [decide_eq_false h1];decide)] at next
   refine gV ?_
   refine ⟨j,rfl,?_⟩
   refine gV ?_
   refine ⟨_,hx,?_⟩
   exact zW
theorem TQ (c:Con) (hc:c.sm) (r:List Rn) (hr:Sm r) (R:List V3):∀ (m i:Nat) (xs:List V3),i+m=r.length->xs.length=c.hs.length->(r.drop i).foldl rU xs=R->
  To (Er [5] []) pT (.pure (.ret (.slice 3 (vav R) .no))) (.head (stk pT 1) [(1,.slice 14 (rav r) .no),(5,.row 1 0),(7,ii i)] (ofO c xs)):=by
 have hlen:(rav r).length=r.length:=by simp
 have hl:=hr.1
 intro m
 induction m with
 | zero=>
  intro i xs hi hx hR
  rw [Ae (by omega)] at hR
  subst hR
  refine gV ?_
  exact zW
 | succ m ih=>
  intro i xs hi hx hR
  have hlt:i<r.length:=by omega
  have hb:=hr.at hlt
  rw [Ad hlt,Av] at hR
  generalize hq:r[i]=x at hR hb
  have get:(rav r)[i]? =some x.av:=(bN hlt).trans (by rw [hq])
  have next:=ih (i+1) (rU xs x) (by omega) (by rw [qW];exact hx) hR
  refine gV ?_
  have z11_1:=X5 c r R x i (by omega) get hb hc.hs x.hs.length 0 xs hx (by omega) next
  exact zW
theorem NF (c:Con) (hc:c.sm) (r:List Rn) (hr:Sm r):∀ (m i:Nat) (xs:List V3),i+m=c.hs.length->xs=(Dh i).map (fun j:Nat=>(bF c.hs (j:Int)).c)->
  To (Er [5] []) pT (.pure (.ret (.slice 3 (vav (dQ c r)) .no))) (.head (stk pT 0) [(1,.slice 14 (rav r) .no),(2,.ref 0 0),(5,.row 1 0),(6,ii i)] (ofO c xs)):=by
 have hlen:(hav c.hs).length=c.hs.length:=by simp
 have h1:=hc.hs
 intro m
 induction m with
 | zero=>
  intro i xs hi hx
  have hi:i=c.hs.length:=by omega
  subst hi
  have next:=TQ c hc r hr (dQ c r) r.length 0 xs (by omega) (by rw [hx];simp) (by rw [hx];rfl)
  refine gV ?_
  exact zW
 | succ m ih=>
  intro i xs hi hx
  have hxl:xs.length=i:=by rw [hx];simp
  have hvl:(vav xs).length=xs.length:=by simp
  have gn:(hav c.hs)[i]? =some (bF c.hs (i:Int)).av:=yQ (by omega)
  have next:=ih (i+1) (xs++[(bF c.hs (i:Int)).c]) (by omega) (by rw [hx,Kr,Bu];rfl)
  unfold ofO at next
  have e:vav (xs++[(bF c.hs (i:Int)).c])=vav xs++[(bF c.hs (i:Int)).c.av]:=by simp
  rw [e] at next
  generalize bF c.hs (i:Int)=x at gn next
  refine gV ?_
  exact zW
theorem JD (c:Con) (hc:c.sm) (r:List Rn) (hr:Sm r):aA Tryz.prog 80 [c.av,.slice 14 (rav r) .no] [] (.ret (.slice 3 (vav (dQ c r)) .no)) []:=by
 refine cT (E:=(Er [5] [])) (fn:=Tryz.f80) (g:=.pure _) fun _=>?_
 have z14_1:=NF c hc r hr c.hs.length 0 [] (by omega) rfl
 exact zW
def alB (c:Con) (lv a b:Int):Bool:=
 if lv=0 then decide (a=b)
 else if lv=1 then decide ((bF c.hs a).f=(bF c.hs b).f/\(bF c.hs a).b=(bF c.hs b).b/\(bF c.hs a).r=(bF c.hs b).r)
 else if lv=2 then decide ((bF c.hs a).f=(bF c.hs b).f/\(bF c.hs a).b=(bF c.hs b).b)
 else decide ((bF c.hs a).f=(bF c.hs b).f)
abbrev oT (c:Con) (lv a:Int):List Int:=ofK (bF c.hs a) a lv
theorem H7 (c:Con) (lv a b:Int) (h0:0<=lv) (h3:lv<=3):alB c lv a b=decide (oT c lv a=oT c lv b):=by
 unfold alB oT ofK
 by_cases e0:lv=0
 .subst e0
  by_cases h:a=b
  .subst h;simp
  .simp [h]
 by_cases e1:lv=1
 .subst e1;simp
 by_cases e2:lv=2
 .subst e2;simp
 have e3:lv=3:=by omega
 subst e3
 simp
def cO (c:Con) (lv i:Int):List (List Int)->Nat->Option Nat
 | [],_=>none
 | g::r,k=>if alB c lv (g.headD 0) i=true then some k else cO c lv i r (k+1)
def rgS (c:Con) (lv:Int) (s:List (List Int)) (i:Nat):List (List Int):=
 match cO c lv (i:Int) s 0 with
 | some k=>s.set k ((s[k]?).getD []++[(i:Int)])
 | none=>s++[[(i:Int)]]
def rgL (c:Con) (lv:Int):List (List Int):=if decide (lv<0)=true then [] else if decide (3<lv)=true then [] else (Dh c.hs.length).foldl (rgS c lv) []
def nC (c:Con) (lv:Int):Nat->List (List Int)->List (List Int×Nat)
 | _,[]=>[]
 | k,g::r=>(oT c lv (g.headD 0),k)::nC c lv (k+1) r
theorem BM (c:Con) (lv i:Int) (h0:0<=lv) (h3:lv<=3):∀ (s:List (List Int)) (k:Nat),kV (nC c lv k s) (oT c lv i)=cO c lv i s k
 | [],k=>rfl
 | g::r,k=>by
  unfold nC kV cO
  rw [H7 c lv _ _ h0 h3,BM c lv i h0 h3 r (k+1)]
  by_cases h:oT c lv (g.headD 0)=oT c lv i
  .rw [if_pos h,if_pos (decide_eq_true h)]
  .rw [if_neg h,if_neg (by rw [decide_eq_false h];decide)]
theorem ES (c:Con) (lv i:Int):∀ (s:List (List Int)) (k m:Nat),(∀ g∈s,g≠[])->nC c lv m (s.set k ((s[k]?).getD []++[i]))=nC c lv m s
 | [],k,m,_=>by simp
 | g::r,0,m,h=>by
  have hg:=h g (by simp)
  cases g with
  | nil=>exact absurd rfl hg
  | cons a t=>rfl
 | g::r,k+1,m,h=>by
  have ih:=ES c lv i r k (m+1) fun x hx=>h x (by simp [hx])
  show _::nC c lv (m+1) (r.set k ((r[k]?).getD []++[i]))=_
  rw [ih]
  rfl
theorem BK (c:Con) (lv i:Int):∀ (s:List (List Int)) (m:Nat),nC c lv m (s++[[i]])=nC c lv m s++[(oT c lv i,m+s.length)]
 | [],m=>rfl
 | g::r,m=>by
  show _::nC c lv (m+1) (r++[[i]])=_::(nC c lv (m+1) r++_)
  rw [BK c lv i r (m+1)]
  simp only [Bo]
  rw [show m+1+r.length=m+(r.length+1) from by omega]
theorem aGq (c:Con) (lv:Int) (h0:0<=lv) (h3:lv<=3) (s:GSt) (i:Nat) (h1:s.1=nC c lv 0 s.2) (h2:∀ g∈s.2,g≠[]):
  (gpS c lv s i).2=rgS c lv s.2 i/\(gpS c lv s i).1=nC c lv 0 (rgS c lv s.2 i)/\∀ g∈rgS c lv s.2 i,g≠[]:=by
 have hf:=BM c lv (i:Int) h0 h3 s.2 0
 rw [<-h1] at hf
 unfold gpS rgS
 have hf':kV s.1 (ofK (bF c.hs (i:Int)) i lv)=cO c lv (i:Int) s.2 0:=hf
 rw [hf']
 cases cO c lv (i:Int) s.2 0 with
 | some k=>
  refine ⟨rfl,?_,fun g hg=>?_⟩
  .show s.1=_
   rw [h1,ES c lv i s.2 k 0 h2]
  .rcases Di hg with hg | rfl
   .exact h2 g hg
   .simp
 | none=>
  refine ⟨rfl,?_,fun g hg=>?_⟩
  .show s.1++_=_
   rw [h1,BK,Bn]
  .rcases Ba.1 hg with hg | hg
   .exact h2 g hg
   .simp at hg;subst hg;simp
theorem aGr (c:Con) (lv:Int):rgL c lv=gpL c lv:=by
 unfold rgL gpL
 by_cases h1:lv<0
 .simp only [h1,decide_true,if_true]
 by_cases h2:3<lv
 .simp only [h1,h2,decide_true,decide_false,if_true,if_false,Db]
 simp only [h1,h2,decide_false,if_false,Db]
 have key:∀ (l:List Nat) (s:GSt),s.1=nC c lv 0 s.2->(∀ g∈s.2,g≠[])->l.foldl (rgS c lv) s.2=(l.foldl (gpS c lv) s).2:=fun l=>by
  induction l with
  | nil=>intro s _ _;rfl
  | cons i r ih=>
   intro s a b
   obtain ⟨e1,e2,e3⟩:=aGq c lv (by omega) (by omega) s i a b
   rw [Av,Av,<-e1,ih _ (by rw [e1];exact e2) (by rw [e1];exact e3)]
 exact key _ ([],[]) rfl (fun g hg=>by simp at hg)
theorem bL {v:V3} (h:aU v=true):(0<=v.a/\v.a<=1048576)/\(0<=v.b/\v.b<=1048576)/\(0<=v.c/\v.c<=1048576):=by
 unfold aU at h
 simpa [Ag,and_assoc] using h
theorem DX {a b:V3}:cN a b=true↔a.a<=b.a/\a.b<=b.b/\a.c<=b.c:=by
 unfold cN
 by_cases h1:b.a<a.a
 .first | (simp [h1];done) | (simp [h1];omega)
 by_cases h2:b.b<a.b
 .first | (simp [h1,h2];done) | (simp [h1,h2];omega)
 by_cases h3:b.c<a.c
 .first | (simp [h1,h2,h3];done) | (simp [h1,h2,h3];omega)
 first | (simp [h1,h2,h3];done) | (simp [h1,h2,h3];omega)
theorem AH {m f k n:Int} (hk:0<=k) (hf:k<=f):n<=xA m f k↔n<=m/\k*n<=f:=by
 unfold xA
 by_cases h:0<k
 .rw [if_pos (decide_eq_true h),Lb (by omega)]
  have:=Int.le_ediv_iff_mul_le h (a:=n) (b:=f)
  rw [Int.mul_comm] at this
  omega
 .have:k=0:=by omega
  subst this
  rw [if_neg (by decide)]
  omega
theorem QH {free need:V3} (hv:aU need=true) (hf:cN need free=true) (n:Int):n<=fT free need↔n<=16/\need.a*n<=free.a/\need.b*n<=free.b/\need.c*n<=free.c:=by
 obtain ⟨⟨a1,_⟩,⟨b1,_⟩,c1,_⟩:=bL hv
 obtain ⟨h1,h2,h3⟩:=DX.1 hf
 unfold fT
 rw [if_pos hf,AH c1 h3,AH b1 h2,AH a1 h1]
 constructor
 .rintro ⟨⟨⟨p1,p2⟩,p3⟩,p4⟩;exact ⟨p1,p2,p3,p4⟩
 .rintro ⟨p1,p2,p3,p4⟩;exact ⟨⟨⟨p1,p2⟩,p3⟩,p4⟩
def vH (c:Con) (a:Int):Prop:=0<=a/\a.toNat<c.hs.length
structure GH (c:Con) (i:Nat) (s:List (List Int)):Prop where
 len:s.length<=i
 one:∀ g∈s,g.length<=i/\∃ a r,g=a::r/\vH c a
theorem GH.step {c:Con} {lv:Int} {i:Nat} {s:List (List Int)} (h:GH c i s) (hi:i<c.hs.length):GH c (i+1) (rgS c lv s i):=by
 obtain ⟨h1,h2⟩:=h
 unfold rgS
 split
 .rename_i k hk
  refine ⟨by simp;omega,fun g hg=>?_⟩
  rcases Di hg with hg | rfl
  .obtain ⟨q1,q2⟩:=h2 g hg
   exact ⟨by omega,q2⟩
  .by_cases hk2:k<s.length
   .rw [Aa hk2]
    obtain ⟨q1,a,r,q2,q3⟩:=h2 _ (Bl hk2)
    refine ⟨by simp;omega,a,r++[(i:Int)],?_,q3⟩
    show s[k]++_=_
    rw [q2];rfl
   .rw [Bb (by omega)]
    exact ⟨by simp,(i:Int),[],rfl,⟨by omega,by omega⟩⟩
 .refine ⟨by simp;omega,fun g hg=>?_⟩
  rcases Ba.1 hg with hg | hg
  .obtain ⟨q1,q2⟩:=h2 g hg
   exact ⟨by omega,q2⟩
  .simp at hg
   subst hg
   exact ⟨by simp,(i:Int),[],rfl,⟨by omega,by omega⟩⟩
abbrev inO (c:Con) (g:Gan):List AObj:=[.cells 26 c.cs,.cells 36 g.cs,.tail 0 1 3]
theorem aDP (free:List V3) (g:Gan) (hg:0<=g.pods/\g.pods<=16) (gr:List Int):(inL free g gr).length<=16:=by
 have key:∀ (l:List Int) (out:List Int),(out.length:Int)<=g.pods->((l.foldl (inS free g) out).length:Int)<=g.pods:=fun l=>by
  induction l with
  | nil=>intro out h;exact h
  | cons x r ih=>intro out h;exact ih _ (G5 free g out x h)
 have:=key gr [] (by simp;omega)
 unfold inL
 omega
theorem RX {c:Con} {free:List V3} {g:Gan} (hg:0<=g.pods/\g.pods<=16) {x:Int×List Int}:∀ {gs:List (List Int)},fdG c free g gs=some x->x.2.length<=16
 | [],h=>by cases h
 | gr::r,h=>by
  unfold fdG at h
  split at h
  .exact RX hg h
  .cases h
   exact aDP free g hg gr
theorem RW {c:Con} {free:List V3} {g:Gan} (hg:0<=g.pods/\g.pods<=16) {x:Int×List Int}:∀ {n:Nat} {lv:Int},fdL c free g n lv=some x->x.2.length<=16
 | 0,lv,h=>by cases h
 | n+1,lv,h=>by
  unfold fdL at h
  split at h
  .rename_i y hy
   cases h
   exact RX hg hy
  .exact RW hg h
theorem aAA {c:Con} {l:List Rn} {g:Gan} (hg:0<=g.pods/\g.pods<=16) {x:Int×List Int} (h:cK c l g=some x):x.2.length<=1048576:=by
 unfold cK at h
 split at h
 .unfold xI at h
  have:=RW hg h
  omega
 .cases h
end Go.Proofs.YtpomiadgghchnaaGreat
namespace Go.AW
open Go.RowKit
theorem Mem.beginRow {M:Imm} {ob:Hs} {obs:List AObj} {w:World} (hm:Mem M ob obs w) {k i sz:Nat} {T e:TypeId} {cs:List AVal} (hk:obs[k]? =some (.cells T cs)) (hi:cs[i]? =some (.slice sz [] .nil)):
  Mem M (ob++[[.slice none 0 0]]) (obs.set k (.cells T (cs.set i (.row obs.length 0)))++[.row 0 sz e []]) w/\
   Ext M ob obs w M (ob++[[.slice none 0 0]]) (obs.set k (.cells T (cs.set i (.row obs.length 0)))++[.row 0 sz e []]) w/\cW ob (ob++[[.slice none 0 0]]):=by
 have hle:cW ob (ob++[[.slice none 0 0]]):=fun j hs hj=>⟨hs,by rw [Af (Ab.1 hj).1];exact hj,Cn _⟩
 have hkl:k<obs.length:=(Ab.1 hk).1
 have hnew:(ob++[[.slice none 0 0]])[obs.length]? =some [.slice none 0 0]:=by rw [<-hm.len];simp
 have hat:at' (ob++[[.slice none 0 0]]) obs.length 0=some (.slice none 0 0):=by rw [bT hnew];rfl
 have old:∀ {j:Nat} {c:AObj},(obs.set k (.cells T (cs.set i (.row obs.length 0)))++[.row 0 sz e []])[j]? =some c->
   (j=obs.length/\c= .row 0 sz e [])\/(j=k/\c= .cells T (cs.set i (.row obs.length 0)))\/(j≠k/\j<obs.length/\obs[j]? =some c):=fun {j c} hj=>by
  by_cases hjl:j<obs.length
  .rw [Af (by simpa using hjl)] at hj
   by_cases hjk:j=k
   .subst hjk
    rw [Ao hjl] at hj
    cases hj
    exact .inr (.inl ⟨rfl,rfl⟩)
   .rw [Ax (Eh hjk)] at hj
    exact .inr (.inr ⟨hjk,hjl,hj⟩)
  .have h2:j=obs.length:=by
    have:=(Ab.1 hj).1
    simp at this
    omega
   subst h2
   rw [Aj (by simp)] at hj
   simp at hj
   exact .inl ⟨rfl,hj.symm⟩
 have al:∀ {j b:Nat},aH (ob++[[.slice none 0 0]]) (obs.set k (.cells T (cs.set i (.row obs.length 0)))++[.row 0 sz e []]) j b->aH ob obs j b:=fun {j b} ⟨c,hs,e1,e2,e3,e4⟩=>by
  rcases old e1 with ⟨rfl,rfl⟩ | ⟨rfl,rfl⟩ | ⟨h1,h2,h3⟩
  .rw [hnew] at e3
   cases e3
   cases e4
  .rw [Af (by rw [hm.len];exact hkl)] at e3
   exact ⟨_,hs,hk,rfl,e3,e4⟩
  .rw [Af (by rw [hm.len];exact h2)] at e3
   exact ⟨c,hs,h3,e2,e3,e4⟩
 have hok:∀ (j:Nat) c,(obs.set k (.cells T (cs.set i (.row obs.length 0)))++[.row 0 sz e []])[j]? =some c->∃ hs,(ob++[[.slice none 0 0]])[j]? =some hs/\gD M (ob++[[.slice none 0 0]]) w hs c:=fun j c hj=>by
  rcases old hj with ⟨rfl,rfl⟩ | ⟨rfl,rfl⟩ | ⟨h1,h2,h3⟩
  .have hr:cV M w (.slice none 0 0) sz e []:=by
    refine ⟨[],Hf w 0 _ _,?_,?_,?_,?_,?_⟩
    .intro u hu;simp at hu
    .intro x hx;simp at hx
    .intro q c hc;simp [aG] at hc
    .intro b hb;cases hb
    .intro b hb;cases hb
   exact ⟨_,hnew,rfl,_,rfl,hr⟩
  .obtain ⟨hs,e1,b,q1,q2,cv,q3,q4,q5,q6⟩:=hm.obj _ _ hk
   refine ⟨hs,by rw [Af (by rw [hm.len];exact hkl)];exact e1,b,q1,q2,cv,q3,by simpa using q4,q5,fun n v a hv ha=>?_⟩
   by_cases hn:n=i
   .subst hn
    have hlt:n<cs.length:=(Ab.1 hi).1
    rw [Ao hlt] at ha
    cases ha
    have:=q6 n v _ hv hi
    obtain ⟨_,ht⟩:=this.untok
    have ht:v= .slice none 0 0:=ht
    subst ht
    exact .row _ _ _ _ _ hat
   .rw [Ax (Eh hn)] at ha
    exact (q6 n v a hv ha).mono (fun _ _ _ h=>h) hle
  .obtain ⟨hs,e1,e2⟩:=hm.obj j c h3
   refine ⟨hs,by rw [Af (by rw [hm.len];exact h2)];exact e1,?_⟩
   cases c with
   | cells T' cs'=>
    obtain ⟨b,q1,q2,cv,q3,q4,q5,q6⟩:=e2
    exact ⟨b,q1,q2,cv,q3,q4,q5,fun n v a hv ha=>(q6 n v a hv ha).mono (fun _ _ _ h=>h) hle⟩
   | _=>exact e2
 refine ⟨⟨hm.imm,by simp [hm.len],hok,fun j b ha=>hm.lt j b (al ha),fun j j' b h1 h2=>hm.inj j j' b (al h1) (al h2)⟩,⟨fun _ _ _ h=>h,fun _ _ _ h=>.inl h,hle,rfl,rfl,rfl,Au _,fun _ _ _=>rfl,fun j b ha=>.inl ⟨j,al ha⟩⟩,hle⟩
theorem To.beginRowH {E:Env} {fn:Func} {g:Goal} {st:List KI} {fr:List (Nat×AVal)} {obs:List AObj} (k i:Nat) (e:TypeId) {T:TypeId} {cs:List AVal} {sz:Nat} (hk:aE obs k= .cells T cs) (hi:nth cs i=some (.slice sz [] .nil))
  (h:To E fn g (.head st fr (jY (bG obs k (.cells T (I4 cs i (.row (aM obs) 0)))) (.row 0 sz e [])))):To E fn g (.head st fr obs):=
 .mk fun hok M0 ob0 obs0 w0 a w hst hs=>by
  refine h.rec fun h=>h hok M0 ob0 obs0 w0 a w hst ?_
  obtain ⟨M,ob,hx,hm,hfr,r1,r2,r3⟩:=hs
  have hk':=bA hk (by simp)
  obtain ⟨m1,m2,m3⟩:=hm.beginRow (e:=e) hk' (kR hi)
  rw [mS,F6,bE,aO hk']
  exact ⟨M,_,hx.trans m2,m1,fun t=>(hfr t).mono (fun _ _ _ h=>h) m3,r1,r2.mono (fun _ _ _ h=>h) m3,by simp;omega⟩
theorem To.beginRow {E:Env} {fn:Func} {g:Goal} {st:List KI} {fr:List (Nat×AVal)} {obs:List AObj} (k i:Nat) (e:TypeId) {T:TypeId} {cs:List AVal} {sz:Nat} (hk:aE obs k= .cells T cs) (hi:nth cs i=some (.slice sz [] .nil))
  (h:To E fn g (.code st fr (jY (bG obs k (.cells T (I4 cs i (.row (aM obs) 0)))) (.row 0 sz e [])))):To E fn g (.code st fr obs):=
 To.toC (To.beginRowH k i e hk hi (To.ofC h))
end Go.AW
namespace Go.Proofs.YtpomiadgghchnaaGreat
open Go Go.AW Go.Proofs
set_option maxRecDepth 10000
theorem GV (x:Int):aA Tryz.prog 138 [ii x] [] (.ret (.bool false)) []:=by
 refine cT (E:=E) (fn:=Tryz.f138) (g:=.pure _) fun _=>?_
 refine gV ?_
 exact congrArg (fun b=>Res.ret (AVal.bool b)) (by simp)
def O6 (a b:Int):Int:=if a<b then -1 else if b<a then 1 else 0
theorem SH (a b r:Int) (hr:O6 a b=r):aA Tryz.prog 62 [ii a,ii b] [] (.ret (ii r)) []:=by
 unfold O6 at hr
 by_cases h1:a<b
 .rw [if_pos h1] at hr
  subst hr
  refine cT (E:=E) (fn:=Tryz.f62) (g:=.pure _) fun _=>?_
  have hz1:=fun y0=>GV y0
  exact zW
 .rw [if_neg h1] at hr
  by_cases h2:b<a
  .rw [if_pos h2] at hr
   subst hr
   refine cT (E:=E) (fn:=Tryz.f62) (g:=.pure _) fun _=>?_
   have hz1:=fun y0=>GV y0
   exact zW
  .rw [if_neg h2] at hr
   subst hr
   refine cT (E:=E) (fn:=Tryz.f62) (g:=.pure _) fun _=>?_
   have hz1:=fun y0=>GV y0
   exact zW
theorem aBj (a b:Int):aA Tryz.prog 62 [ii a,ii b] [] (.ret (ii (O6 a b))) []:=SH a b _ rfl
def orI (p q:Int):Int:=if p=0 then q else p
theorem A1 (p q r:Int) (hr:orI p q=r):aA Tryz.prog 307 [.slice 1 [ii p,ii q] .no] [] (.ret (ii r)) []:=by
 unfold orI at hr
 by_cases h1:p=0
 .subst h1
  rw [if_pos rfl] at hr
  have hp:((0:Int) !=0)=false:=by decide
  by_cases h2:q=0
  .subst h2
   subst hr
   have hq:((0:Int) !=0)=false:=by decide
   refine cT (E:=E) (fn:=Tryz.f307) (g:=.pure _) fun _=>?_
   repeat' first
    | (refine gW (by first | exact hE | exact hEr _ _ | exact hEo _ _) ?_;conv=>whnf)
    | exact rfl
    | refine Al 0 (Ac rfl ?_)
    | refine Al 1 (Ac rfl ?_)
    | refine Al _ (Ac rfl ?_)
    | refine aY ?_
    | refine aN ?_
    | refine Ac (fun h=>?_) (fun h=>absurd h (by rw [hp];decide))
    | refine Ac (fun h=>?_) (fun h=>absurd h (by rw [hq];decide))
    | refine Ac (fun h=>absurd h (by rw [hp];decide)) (fun h=>?_)
    | refine Ac (fun h=>absurd h (by rw [hq];decide)) (fun h=>?_)
    | refine aJ ?_
    | fail
  .subst hr
   have hq:(q !=0)=true:=by simp [h2]
   refine cT (E:=E) (fn:=Tryz.f307) (g:=.pure _) fun _=>?_
   repeat' first
    | (refine gW (by first | exact hE | exact hEr _ _ | exact hEo _ _) ?_;conv=>whnf)
    | exact rfl
    | refine Al 0 (Ac rfl ?_)
    | refine Al 1 (Ac rfl ?_)
    | refine Al _ (Ac rfl ?_)
    | refine aY ?_
    | refine aN ?_
    | refine Ac (fun h=>?_) (fun h=>absurd h (by rw [hp];decide))
    | refine Ac (fun h=>?_) (fun h=>absurd h (by rw [hq];decide))
    | refine Ac (fun h=>absurd h (by rw [hp];decide)) (fun h=>?_)
    | refine Ac (fun h=>absurd h (by rw [hq];decide)) (fun h=>?_)
    | refine aJ ?_
    | fail
 .rw [if_neg h1] at hr
  subst hr
  have hp:(p !=0)=true:=by simp [h1]
  have hq:((0:Int) !=0)=false:=by decide
  refine cT (E:=E) (fn:=Tryz.f307) (g:=.pure _) fun _=>?_
  repeat' first
   | (refine gW (by first | exact hE | exact hEr _ _ | exact hEo _ _) ?_;conv=>whnf)
   | exact rfl
   | refine Al 0 (Ac rfl ?_)
   | refine Al 1 (Ac rfl ?_)
   | refine Al _ (Ac rfl ?_)
   | refine aY ?_
   | refine aN ?_
   | refine Ac (fun h=>?_) (fun h=>absurd h (by rw [hp];decide))
   | refine Ac (fun h=>?_) (fun h=>absurd h (by rw [hq];decide))
   | refine Ac (fun h=>absurd h (by rw [hp];decide)) (fun h=>?_)
   | refine Ac (fun h=>absurd h (by rw [hq];decide)) (fun h=>?_)
   | refine aJ ?_
   | fail
def jR (a b:Rn):Bool:=decide (orI (O6 b.st a.st) (O6 b.seq a.seq)<0)
theorem aDF (a b:Rn) (r:Bool) (hr:jR a b=r):aA Tryz.prog 350 [a.av,b.av] [] (.ret (.bool r)) []:=by
 have h1:=aBj b.st a.st
 have h2:=aBj b.seq a.seq
 unfold jR at hr
 generalize O6 b.st a.st=p at h1 hr
 generalize O6 b.seq a.seq=q at h2 hr
 have h3:=A1 p q _ rfl
 generalize orI p q=o at h3 hr
 subst hr
 refine cT (E:=E) (fn:=Tryz.f350) (g:=.pure _) fun _=>?_
 exact zW
theorem N2 (a b:Rn):aA Tryz.prog 350 [a.av,b.av] [] (.ret (.bool (jR a b))) []:=aDF a b _ rfl
theorem yE (x:Rn) (h:x.hs.length<=1048576):aA Tryz.prog 226 [x.av] [] (.ret x.av) []:=by
 refine cT (E:=E) (fn:=Tryz.f226) (g:=.pure _) fun _=>?_
 have z7_1:=wH x.hs h
 exact zW
def rn0:Rn:=⟨⟨0,0,0,V3.zero,0,0,0⟩,0,0,0,0,[]⟩
def aW (xs:List Rn) (i:Nat):Rn:=(xs[i]?).getD rn0
theorem lW {xs:List Rn} {i:Nat} (h:i<xs.length):(rav xs)[i]? =some (aW xs i).av:=by
 unfold aW
 rw [Aa h]
 exact bN h
def oJ (xs:List Rn) (i k:Nat):List Rn:=(xs.set i (aW xs k)).set k (aW xs i)
theorem iN (xs:List Rn) (i k:Nat):(oJ xs i k).length=xs.length:=by unfold oJ;simp
theorem JN (xs:List Rn) (i k:Nat):rav (oJ xs i k)=((rav xs).set i (aW xs k).av).set k (aW xs i).av:=by unfold oJ;simp [rav,Gq]
def upH:Nat->List Rn->Nat->List Rn
 | 0,xs,_=>xs
 | f+1,xs,i=>if i=0 then xs else if jR (aW xs i) (aW xs ((i-1) / 2))=true then upH f (oJ xs i ((i-1) / 2)) ((i-1) / 2) else xs
def pK (xs:List Rn) (x:Rn):List Rn:=upH (xs.length+1) (xs++[x]) xs.length
theorem PY:∀ (f:Nat) (xs:List Rn) (i:Nat),(upH f xs i).length=xs.length
 | 0,xs,i=>rfl
 | f+1,xs,i=>by
  unfold upH
  split
  .rfl
  .split
   .rw [PY f,iN]
   .rfl
theorem EE (xs:List Rn) (x:Rn):(pK xs x).length=xs.length+1:=by unfold pK;rw [PY];simp
abbrev aDG:AVal:=.func (.func 350) [] []
abbrev hpO (l:AVal) (g:Nat) (xs:List Rn):List AObj:=[.cells 390 [l,aDG],.row g 14 53 (rav xs)]
noncomputable abbrev aFu:Func:=Tryz.f351
theorem T1 (N:Nat) (hN:N<=1048577) (R:List Rn):∀ (f i:Nat) (ys:List Rn),ys.length=N->i<N->i<f->upH f ys i=R->
  To (Er [] [6,14,15,56]) aFu (.full 2 (.ret (.tup [])) (hpO (.row 1 1) 1 R)) (.head (stk aFu 0) [(0,.ref 0 0),(4,ii i)] (hpO (.row 1 1) 1 ys)):=by
 intro f
 induction f with
 | zero=>intro i ys _ _ h;omega
 | succ f ih=>
  intro i ys hy hi hf hR
  have hrl:(rav ys).length=ys.length:=by simp
  unfold upH at hR
  by_cases h0:i=0
  .subst h0
   rw [if_pos rfl] at hR
   subst hR
   refine gV ?_
   exact zW
  rw [if_neg h0] at hR
  have hlt:(i-1) / 2<ys.length:=by omega
  have hdiv:Hb ((i:Int)-1) 2=(((i-1) / 2:Nat):Int):=by
   rw [Lb (by omega)]
   omega
  have g1:=lW (xs:=ys) (i:=i) (by omega)
  have g2:=lW hlt
  have hl:=N2 (aW ys i) (aW ys ((i-1) / 2))
  generalize hup:(i-1) / 2=up at hR hdiv g2 hl hlt
  by_cases h1:jR (aW ys i) (aW ys up)=true
  .rw [if_pos h1] at hR
   rw [h1] at hl
   have next:=ih up (oJ ys i up) (by rw [iN];exact hy) (by omega) (by omega) hR
   unfold hpO at next
   rw [JN] at next
   generalize aW ys i=a at g1 hl next
   generalize aW ys up=b at g2 hl next
   refine gV ?_
   refine aT fun h=>?_
   repeat' first
    | exact To.cut [0,4] 2 rfl rfl rfl rfl next
    | (refine gN (hEr [] [6,14,15,56]) ?_;conv=>whnf)
    | refine Al i (Ac rfl ?_)
    | refine Al up (Ac hdiv ?_)
    | refine Al _ (Ac g1 ?_)
    | refine Al _ (Ac g2 ?_)
    | refine .pure _ [] hl ?_
    | refine aY ?_
    | refine aN ?_
    | refine Ac (by omega) ?_
    | refine Ac (by rw [Dp];omega) ?_
    | refine aJ ?_
    | refine Ac (by decide) ?_
    | fail
   rw [hdiv]
   exact To.cut [0,4] 2 rfl rfl rfl rfl next
  .have h1:jR (aW ys i) (aW ys up)=false:=by simpa using h1
   rw [if_neg (by rw [h1];decide)] at hR
   subst hR
   rw [h1] at hl
   generalize aW ys i=a at g1 hl
   generalize aW ys up=b at g2 hl
   refine gV ?_
   exact zW
theorem aC3 (xs:List Rn) (hl:xs.length<=1048576) (x:Rn):aA Tryz.prog 351 [.ref 0 0,x.av] (hpO (.row 1 0) 0 xs) (.ret (.tup [])) (hpO (.row 1 1) 1 (pK xs x)):=by
 have hrl:(rav xs).length=xs.length:=by simp
 have next:=T1 (xs.length+1) (by omega) (pK xs x) (xs.length+1) xs.length (xs++[x]) (by simp) (by omega) (by omega) rfl
 have e:rav (xs++[x])=rav xs++[x.av]:=by simp
 unfold hpO at next
 rw [e] at next
 refine cT (E:=(Er [] [6,14,15,56])) (fn:=Tryz.f351) (g:=.full 2 _ _) fun _=>?_
 repeat' first | (refine gN (hEr [] [6,14,15,56]) ?_;conv=>whnf) | refine ⟨⟨by simp only [maxLen];simp;omega,by simp;omega⟩,?_⟩ | refine Fm (Ac (Ac (by simp only [Aw,Bo,Fz,bY];omega) (by simp only [Aw,Bo,Fz,bI];omega)) ?_) | exact rfl | refine aY ?_ | refine aN ?_ | refine aT fun h=>?_ | refine aF fun h=>?_ | refine ⟨fun h=>?_,fun h=>?_⟩ | refine aJ ?_ | refine ⟨_,rfl,?_⟩ | refine aD ?_ | fail
 refine To.cut [0,4] 2 rfl rfl rfl rfl ?_
 have e2:(((rav xs++[x.av]).length:Int)-1)=((xs.length:Nat):Int):=by simp
 rw [<-e2] at next
 exact next
set_option maxHeartbeats 2000000
def fW (xs:List Rn) (n i:Nat):Nat:=if 2*i+2<n then (if jR (aW xs (2*i+2)) (aW xs (2*i+1))=true then 2*i+2 else 2*i+1) else 2*i+1
theorem SD (xs:List Rn) (n i:Nat) (h:2*i+1<n):fW xs n i<n/\i<fW xs n i/\(fW xs n i=2*i+1\/fW xs n i=2*i+2):=by
 unfold fW
 split
 .split<;>omega
 .omega
def uL:Nat->List Rn->Nat->Nat->List Rn
 | 0,xs,_,_=>xs
 | f+1,xs,n,i=>if 2*i+1<n then (if jR (aW xs (fW xs n i)) (aW xs i)=true then uL f (oJ xs i (fW xs n i)) n (fW xs n i) else xs) else xs
theorem FG:∀ (f:Nat) (xs:List Rn) (n i:Nat),(uL f xs n i).length=xs.length
 | 0,xs,n,i=>rfl
 | f+1,xs,n,i=>by
  unfold uL
  split
  .split
   .rw [FG f,iN]
   .rfl
  .rfl
def xY (xs:List Rn) (n:Nat):List Rn:=uL n (xs.set 0 (aW xs (n-1))) (n-1) 0
theorem AR (xs:List Rn) (n:Nat):(xY xs n).length=xs.length:=by unfold xY;rw [FG];simp
theorem BW {xs:List Rn} {i:Nat} (h:i<xs.length):(rav xs)[0+i]? =some (aW xs i).av:=by rw [Bn];exact lW h
theorem TW (xs:List Rn) (i k:Nat):rav (oJ xs i k)=((rav xs).set (0+i) (aW xs k).av).set (0+k) (aW xs i).av:=by rw [Bn,Bn];exact JN xs i k
abbrev z14:List AVal:=[ii 0,ii 0,ii 0,ii 0,ii 0,ii 0,ii 0,ii 0,ii 0,ii 0,ii 0,ii 0,ii 0,.slice 1 [] .nil]
abbrev ppO (n:Nat) (ys:List Rn) (x:List AVal):List AObj:=hpO (.sub 1 0 0 n 14) 0 ys++[.cells 53 z14,.cells 53 x]
abbrev ppF (n i:Int):List (Nat×AVal):=[(0,.ref 0 0),(2,.ref 2 0),(3,.ref 3 0),(4,ii n),(5,ii i)]
noncomputable abbrev uI:Func:=Tryz.f352
theorem aGA (n N:Nat) (hn:n<=N) (hN:N<=1048577) (R:List Rn) (x:Rn) (i:Nat) (ys:List Rn) (hy:ys.length=N) (h0:2*i+1<n) (h3:2*i+2<n) (a b c:Rn) (g0:(rav ys)[0+i]? =some a.av) (g1:(rav ys)[0+(2*i+1)]? =some b.av) (g2:(rav ys)[0+(2*i+2)]? =some c.av)
  (hl1:aA Tryz.prog 350 [c.av,b.av] [] (.ret (.bool true)) []) (r:Bool) (hl2:aA Tryz.prog 350 [c.av,a.av] [] (.ret (.bool r)) []) (hR:r=false->ys=R)
  (next:r=true->To (Er [] [105]) uI (.full 2 (.ret x.av) (hpO (.sub 1 0 0 n 14) 0 R)) (.head (stk uI 0) (ppF n ((2*i+2:Nat):Int)) [.cells 390 [.sub 1 0 0 n 14,aDG],.row 0 14 53 (((rav ys).set (0+i) c.av).set (0+(2*i+2)) a.av),.cells 53 z14,.cells 53 x.cs])):
  To (Er [] [105]) uI (.full 2 (.ret x.av) (hpO (.sub 1 0 0 n 14) 0 R)) (.head (stk uI 0) (ppF n i) (ppO n ys x.cs)):=by
 have hrl:(rav ys).length=ys.length:=by simp
 have hc:2*(i:Int)+1+1=((2*i+2:Nat):Int):=by omega
 cases r with
 | false=>
  have hR:=hR rfl
  subst hR
  refine gV ?_
  repeat' first
   | (refine gN (hEr [] [105]) ?_;conv=>whnf)
   | refine Al (2*i+2) (Ac (by omega) ?_)
   | refine Al (2*i+1) (Ac (by omega) ?_)
   | refine Al i (Ac rfl ?_)
   | refine Al _ (Ac g2 ?_)
   | refine Al _ (Ac g1 ?_)
   | refine Al _ (Ac g0 ?_)
   | refine .pure _ [] hl1 ?_
   | refine .pure _ [] hl2 ?_
   | refine aY ?_
   | refine aN ?_
   | refine aT fun h=>?_
   | refine aF fun h=>?_
   | refine Ac (by omega) ?_
   | refine Ac (by rw [Dp];omega) ?_
   | refine Ac (Ac (by simp only [bY];omega) (by simp only [bI];omega)) ?_
   | refine aJ ?_
   | refine Ac (by decide) ?_
   | refine ⟨[],[0,1],⟨rfl,rfl⟩,⟨rfl,rfl⟩⟩
   | fail
 | true=>
  have next:=next rfl
  rw [<-hc] at next
  refine gV ?_
  repeat' first
   | (refine gN (hEr [] [105]) ?_;conv=>whnf)
   | refine Al (2*i+2) (Ac (by omega) ?_)
   | refine Al (2*i+1) (Ac (by omega) ?_)
   | refine Al i (Ac rfl ?_)
   | refine Al _ (Ac g2 ?_)
   | refine Al _ (Ac g1 ?_)
   | refine Al _ (Ac g0 ?_)
   | refine .pure _ [] hl1 ?_
   | refine .pure _ [] hl2 ?_
   | refine aY ?_
   | refine aN ?_
   | refine aT fun h=>?_
   | refine aF fun h=>?_
   | refine Ac (by omega) ?_
   | refine Ac (by rw [Dp];omega) ?_
   | refine Ac (Ac (by simp only [bY];omega) (by simp only [bI];omega)) ?_
   | refine aJ ?_
   | refine Ac (by decide) ?_
   | refine ⟨[],[0,1],⟨rfl,rfl⟩,⟨rfl,rfl⟩⟩
   | fail
  exact To.cut [0,2,3,4,5] 4 rfl rfl rfl rfl next
theorem aGB (n N:Nat) (hn:n<=N) (hN:N<=1048577) (R:List Rn) (x:Rn) (i:Nat) (ys:List Rn) (hy:ys.length=N) (h0:2*i+1<n) (h3:2*i+2<n) (a b c:Rn) (g0:(rav ys)[0+i]? =some a.av) (g1:(rav ys)[0+(2*i+1)]? =some b.av) (g2:(rav ys)[0+(2*i+2)]? =some c.av)
  (hl1:aA Tryz.prog 350 [c.av,b.av] [] (.ret (.bool false)) []) (r:Bool) (hl2:aA Tryz.prog 350 [b.av,a.av] [] (.ret (.bool r)) []) (hR:r=false->ys=R)
  (next:r=true->To (Er [] [105]) uI (.full 2 (.ret x.av) (hpO (.sub 1 0 0 n 14) 0 R)) (.head (stk uI 0) (ppF n ((2*i+1:Nat):Int)) [.cells 390 [.sub 1 0 0 n 14,aDG],.row 0 14 53 (((rav ys).set (0+i) b.av).set (0+(2*i+1)) a.av),.cells 53 z14,.cells 53 x.cs])):
  To (Er [] [105]) uI (.full 2 (.ret x.av) (hpO (.sub 1 0 0 n 14) 0 R)) (.head (stk uI 0) (ppF n i) (ppO n ys x.cs)):=by
 have hrl:(rav ys).length=ys.length:=by simp
 have hc:2*(i:Int)+1=((2*i+1:Nat):Int):=by omega
 cases r with
 | false=>
  have hR:=hR rfl
  subst hR
  refine gV ?_
  repeat' first
   | (refine gN (hEr [] [105]) ?_;conv=>whnf)
   | refine Al (2*i+2) (Ac (by omega) ?_)
   | refine Al (2*i+1) (Ac (by omega) ?_)
   | refine Al i (Ac rfl ?_)
   | refine Al _ (Ac g2 ?_)
   | refine Al _ (Ac g1 ?_)
   | refine Al _ (Ac g0 ?_)
   | refine .pure _ [] hl1 ?_
   | refine .pure _ [] hl2 ?_
   | refine aY ?_
   | refine aN ?_
   | refine aT fun h=>?_
   | refine aF fun h=>?_
   | refine Ac (by omega) ?_
   | refine Ac (by rw [Dp];omega) ?_
   | refine Ac (Ac (by simp only [bY];omega) (by simp only [bI];omega)) ?_
   | refine aJ ?_
   | refine Ac (by decide) ?_
   | refine ⟨[],[0,1],⟨rfl,rfl⟩,⟨rfl,rfl⟩⟩
   | fail
 | true=>
  have next:=next rfl
  rw [<-hc] at next
  refine gV ?_
  repeat' first
   | (refine gN (hEr [] [105]) ?_;conv=>whnf)
   | refine Al (2*i+2) (Ac (by omega) ?_)
   | refine Al (2*i+1) (Ac (by omega) ?_)
   | refine Al i (Ac rfl ?_)
   | refine Al _ (Ac g2 ?_)
   | refine Al _ (Ac g1 ?_)
   | refine Al _ (Ac g0 ?_)
   | refine .pure _ [] hl1 ?_
   | refine .pure _ [] hl2 ?_
   | refine aY ?_
   | refine aN ?_
   | refine aT fun h=>?_
   | refine aF fun h=>?_
   | refine Ac (by omega) ?_
   | refine Ac (by rw [Dp];omega) ?_
   | refine Ac (Ac (by simp only [bY];omega) (by simp only [bI];omega)) ?_
   | refine aJ ?_
   | refine Ac (by decide) ?_
   | refine ⟨[],[0,1],⟨rfl,rfl⟩,⟨rfl,rfl⟩⟩
   | fail
  exact To.cut [0,2,3,4,5] 4 rfl rfl rfl rfl next
theorem aGC (n N:Nat) (hn:n<=N) (hN:N<=1048577) (R:List Rn) (x:Rn) (i:Nat) (ys:List Rn) (hy:ys.length=N) (h0:2*i+1<n) (h3:¬ 2*i+2<n) (a b:Rn) (g0:(rav ys)[0+i]? =some a.av) (g1:(rav ys)[0+(2*i+1)]? =some b.av)
 (r:Bool) (hl2:aA Tryz.prog 350 [b.av,a.av] [] (.ret (.bool r)) []) (hR:r=false->ys=R)
  (next:r=true->To (Er [] [105]) uI (.full 2 (.ret x.av) (hpO (.sub 1 0 0 n 14) 0 R)) (.head (stk uI 0) (ppF n ((2*i+1:Nat):Int)) [.cells 390 [.sub 1 0 0 n 14,aDG],.row 0 14 53 (((rav ys).set (0+i) b.av).set (0+(2*i+1)) a.av),.cells 53 z14,.cells 53 x.cs])):
  To (Er [] [105]) uI (.full 2 (.ret x.av) (hpO (.sub 1 0 0 n 14) 0 R)) (.head (stk uI 0) (ppF n i) (ppO n ys x.cs)):=by
  have hrl:(rav ys).length=ys.length:=by simp
  have hl1:=GV 0
  have g2:True:=trivial
  have hc:2*(i:Int)+1=((2*i+1:Nat):Int):=by omega
  cases r with
  | false=>
   have hR:=hR rfl
   subst hR
   refine gV ?_
   repeat' first
    | (refine gN (hEr [] [105]) ?_;conv=>whnf)
    | refine Al (2*i+2) (Ac (by omega) ?_)
    | refine Al (2*i+1) (Ac (by omega) ?_)
    | refine Al i (Ac rfl ?_)
    | refine Al _ (Ac g2 ?_)
    | refine Al _ (Ac g1 ?_)
    | refine Al _ (Ac g0 ?_)
    | refine .pure _ [] hl1 ?_
    | refine .pure _ [] hl2 ?_
    | refine aY ?_
    | refine aN ?_
    | refine aT fun h=>?_
    | refine aF fun h=>?_
    | refine Ac (by omega) ?_
    | refine Ac (by rw [Dp];omega) ?_
    | refine Ac (Ac (by simp only [bY];omega) (by simp only [bI];omega)) ?_
    | refine aJ ?_
    | refine Ac (by decide) ?_
    | refine ⟨[],[0,1],⟨rfl,rfl⟩,⟨rfl,rfl⟩⟩
    | fail
  | true=>
   have next:=next rfl
   rw [<-hc] at next
   refine gV ?_
   repeat' first
    | (refine gN (hEr [] [105]) ?_;conv=>whnf)
    | refine Al (2*i+2) (Ac (by omega) ?_)
    | refine Al (2*i+1) (Ac (by omega) ?_)
    | refine Al i (Ac rfl ?_)
    | refine Al _ (Ac g2 ?_)
    | refine Al _ (Ac g1 ?_)
    | refine Al _ (Ac g0 ?_)
    | refine .pure _ [] hl1 ?_
    | refine .pure _ [] hl2 ?_
    | refine aY ?_
    | refine aN ?_
    | refine aT fun h=>?_
    | refine aF fun h=>?_
    | refine Ac (by omega) ?_
    | refine Ac (by rw [Dp];omega) ?_
    | refine Ac (Ac (by simp only [bY];omega) (by simp only [bI];omega)) ?_
    | refine aJ ?_
    | refine Ac (by decide) ?_
    | refine ⟨[],[0,1],⟨rfl,rfl⟩,⟨rfl,rfl⟩⟩
    | fail
   exact To.cut [0,2,3,4,5] 4 rfl rfl rfl rfl next
theorem JX (n N:Nat) (hn:n<=N) (hN:N<=1048577) (R:List Rn) (x:Rn):∀ (f i:Nat) (ys:List Rn),ys.length=N->i<N->n<f+i+1->uL f ys n i=R->
  To (Er [] [105]) uI (.full 2 (.ret x.av) (hpO (.sub 1 0 0 n 14) 0 R)) (.head (stk uI 0) (ppF n i) (ppO n ys x.cs)):=by
 intro f
 induction f with
 | zero=>
  intro i ys hy hi hf hR
  have hR:ys=R:=hR
  subst hR
  have hrl:(rav ys).length=ys.length:=by simp
  refine gV ?_
  exact zW
 | succ f ih=>
  intro i ys hy hi hf hR
  have hrl:(rav ys).length=ys.length:=by simp
  unfold uL at hR
  by_cases h0:2*i+1<n
  .rw [if_pos h0] at hR
   have hkr:=SD ys n i h0
   have g0:=BW (xs:=ys) (i:=i) (by omega)
   have g1:=BW (xs:=ys) (i:=2*i+1) (by omega)
   have hl2:=N2 (aW ys (fW ys n i)) (aW ys i)
   have hsw:=TW ys i (fW ys n i)
   have ih:=ih (fW ys n i) (oJ ys i (fW ys n i)) (by rw [iN];exact hy) (by omega) (by omega)
   unfold ppO hpO at ih
   rw [hsw] at ih
   have e5:∀ r,jR (aW ys (fW ys n i)) (aW ys i)=r->(r=false->ys=R)/\(r=true->uL f (oJ ys i (fW ys n i)) n (fW ys n i)=R):=fun r hr=>by
    subst hr
    refine ⟨fun h=>?_,fun h=>?_⟩
    .rw [if_neg (by rw [h];decide)] at hR
     exact hR
    .rw [if_pos h] at hR
     exact hR
   have e5:=e5 _ rfl
   generalize jR (aW ys (fW ys n i)) (aW ys i)=r at hl2 e5
   have next:=fun hr=>ih (e5.2 hr)
   by_cases h3:2*i+2<n
   .have g2:=BW (xs:=ys) (i:=2*i+2) (by omega)
    have hl1:=N2 (aW ys (2*i+2)) (aW ys (2*i+1))
    by_cases h4:jR (aW ys (2*i+2)) (aW ys (2*i+1))=true
    .have hk:fW ys n i=2*i+2:=by unfold fW;rw [if_pos h3,if_pos h4]
     rw [h4] at hl1
     rw [hk] at next hl2
     exact aGA n N hn hN R x i ys hy h0 h3 _ _ _ g0 g1 g2 hl1 r hl2 e5.1 next
    .have h4:jR (aW ys (2*i+2)) (aW ys (2*i+1))=false:=by simpa using h4
     have hk:fW ys n i=2*i+1:=by unfold fW;rw [if_pos h3,if_neg (by rw [h4];decide)]
     rw [h4] at hl1
     rw [hk] at next hl2
     exact aGB n N hn hN R x i ys hy h0 h3 _ _ _ g0 g1 g2 hl1 r hl2 e5.1 next
   .have hk:fW ys n i=2*i+1:=by unfold fW;rw [if_neg h3]
    rw [hk] at next hl2
    exact aGC n N hn hN R x i ys hy h0 h3 _ _ g0 g1 r hl2 e5.1 next
  .rw [if_neg h0] at hR
   subst hR
   refine gV ?_
   exact zW
inductive HV (ys:List Rn):AVal->Nat->Prop
 | row:HV ys (.row 1 0) ys.length
 | sub (n:Nat) (h:n<=ys.length):HV ys (.sub 1 0 0 n 14) n
theorem aGz (ys:List Rn) (hl:ys.length<=1048577) (hv:AVal) (n:Nat) (hh:HV ys hv n) (hn:0<n):aA Tryz.prog 352 [.ref 0 0] (hpO hv 0 ys) (.ret (aW ys 0).av) (hpO (.sub 1 0 0 (n-1) 14) 0 (xY ys n)):=by
 have hrl:(rav ys).length=ys.length:=by simp
 cases hh with
 | row=>
  have g0:=lW (xs:=ys) (i:=0) (by omega)
  have g1:=lW (xs:=ys) (i:=ys.length-1) (by omega)
  have hn1:((ys.length:Nat):Int)-1=((ys.length-1:Nat):Int):=by omega
  obtain ⟨n,hnn⟩:∃ n,n=ys.length:=⟨_,rfl⟩
  rw [<-hnn] at g1 hn1 hn⊢
  have hn2:((rav ys).length:Int)-1=((n-1:Nat):Int):=by rw [hrl,<-hnn];exact hn1
  have next:=JX (n-1) ys.length (by omega) (by omega) (xY ys n) (aW ys 0) n 0 (ys.set 0 (aW ys (n-1))) (by simp) (by omega) (by omega) rfl
  have e:rav (ys.set 0 (aW ys (n-1)))=(rav ys).set 0 (aW ys (n-1)).av:=by simp [rav,Gq]
  unfold ppO hpO at next
  rw [e] at next
  generalize aW ys 0=a at g0 next
  generalize aW ys (n-1)=b at g1 next
  refine cT (E:=(Er [] [105])) (fn:=Tryz.f352) (g:=.full 2 _ _) fun _=>?_
  repeat' first | (refine gN (hEr [] [105]) ?_;conv=>whnf) | refine ⟨0,rfl,?_⟩ | refine ⟨_,g0,?_⟩ | refine Al (n-1) (Ac hn2 ?_) | refine ⟨_,g1,?_⟩ | refine Ac (by rw [Dp];omega) ?_ | exact rfl | refine aY ?_ | refine aN ?_ | refine aT fun h=>?_ | refine aF fun h=>?_ | refine ⟨fun h=>?_,fun h=>?_⟩ | refine aJ ?_ | refine ⟨_,rfl,?_⟩ | refine aD ?_ | fail
  rw [hn2]
  exact To.cut [0,2,3,4,5] 4 rfl rfl rfl rfl next
 | sub _ h=>
  have g0:=BW (xs:=ys) (i:=0) (by omega)
  have g1:=BW (xs:=ys) (i:=n-1) (by omega)
  have hn1:((n:Nat):Int)-1=((n-1:Nat):Int):=by omega
  have next:=JX (n-1) ys.length (by omega) (by omega) (xY ys n) (aW ys 0) n 0 (ys.set 0 (aW ys (n-1))) (by simp) (by omega) (by omega) rfl
  have e:rav (ys.set 0 (aW ys (n-1)))=(rav ys).set (0+0) (aW ys (n-1)).av:=by simp [rav,Gq]
  unfold ppO hpO at next
  rw [e] at next
  generalize aW ys 0=a at g0 next
  generalize aW ys (n-1)=b at g1 next
  refine cT (E:=(Er [] [105])) (fn:=Tryz.f352) (g:=.full 2 _ _) fun _=>?_
  repeat' first | (refine gN (hEr [] [105]) ?_;conv=>whnf) | refine ⟨0,rfl,?_⟩ | refine ⟨_,g0,?_⟩ | refine Al (n-1) (Ac hn1 ?_) | refine ⟨_,g1,?_⟩ | refine Ac (by rw [Dp];omega) ?_ | exact rfl | refine aY ?_ | refine aN ?_ | refine aT fun h=>?_ | refine aF fun h=>?_ | refine ⟨fun h=>?_,fun h=>?_⟩ | refine aJ ?_ | refine ⟨_,rfl,?_⟩ | refine aD ?_ | fail
  rw [hn1]
  exact To.cut [0,2,3,4,5] 4 rfl rfl rfl rfl next
set_option maxRecDepth 10000
def mF:Nat->List Rn->List Rn
 | 0,_=>[]
 | n+1,ys=>aW ys 0::mF n (xY ys (n+1))
def fX (l:List Rn):List Rn:=mF l.length (l.foldl pK [])
theorem AP:∀ (l ys:List Rn),(l.foldl pK ys).length=ys.length+l.length
 | [],ys=>rfl
 | x::r,ys=>by rw [Av,AP r,EE];simp;omega
theorem HV.inv {ys:List Rn} {hv:AVal} {n:Nat} (h:HV ys hv n):(hv= .row 1 0/\n=ys.length)\/(hv= .sub 1 0 0 n 14/\n<=ys.length):=by
 cases h with
 | row=>exact .inl ⟨rfl,rfl⟩
 | sub _ h=>exact .inr ⟨rfl,h⟩
noncomputable abbrev aEf:Func:=Tryz.f312
theorem NU (R:List Rn):∀ (n:Nat) (ys:List Rn) (hv:AVal) (out:List Rn),HV ys hv n->ys.length<=1048577->out.length+n<=1048576->out++mF n ys=R->
  To (Eo [6] []) aEf (.pure (.ret (.slice 14 (rav R) .no))) (.head (stk aEf 1) [(3,.ref 0 0),(6,.slice 14 (rav out) (.own 2 0))] (hpO hv 0 ys++[.tail 0 14 53])):=by
 intro n
 induction n with
 | zero=>
  intro ys hv out hh hy ho hR
  have hR:out++[]=R:=hR
  rw [Bg] at hR
  subst hR
  have hrl:(rav ys).length=ys.length:=by simp
  rcases hh.inv with ⟨e,h⟩ | ⟨e,h⟩
  .subst e
   refine gV ?_
   exact zW
  .subst e
   refine gV ?_
   exact zW
 | succ n ih=>
  intro ys hv out hh hy ho hR
  have hrl:(rav ys).length=ys.length:=by simp
  have hp:=aGz ys hy hv (n+1) hh (by omega)
  have hR:out++aW ys 0::mF n (xY ys (n+1))=R:=hR
  have hnl:n<=(xY ys (n+1)).length:=by
   rw [AR]
   rcases hh.inv with ⟨_,h⟩ | ⟨_,h⟩<;>omega
  have next:=ih (xY ys (n+1)) (.sub 1 0 0 n 14) (out++[aW ys 0]) (.sub n hnl) (by rw [AR];exact hy) (by simp;omega) (by rw [Ai];exact hR)
  have e:rav (out++[aW ys 0])=rav out++[(aW ys 0).av]:=by simp
  rw [e] at next
  have hol:(rav out).length=out.length:=by simp
  generalize aW ys 0=x at hp next
  have en:n+1-1=n:=by omega
  rw [en] at hp
  generalize xY ys (n+1)=ys' at hp next
  rcases hh.inv with ⟨e,h⟩ | ⟨e,h⟩
  .subst e
   refine gV ?_
   exact zW
  .subst e
   refine gV ?_
   exact zW
theorem NT (l:List Rn) (hs:Sm l) (R:List Rn):∀ (m i:Nat) (ys:List Rn),i+m=l.length->ys.length=i->mF l.length ((l.drop i).foldl pK ys)=R->
  To (Eo [6] []) aEf (.pure (.ret (.slice 14 (rav R) .no))) (.head (stk aEf 0) [(3,.ref 0 0),(9,.slice 14 (rav l) .no),(10,.int .i64 ((rav l).length:Nat)),(11,ii i)] (hpO (.row 1 0) 0 ys)):=by
 have hlen:(rav l).length=l.length:=by simp
 have hl:=hs.1
 intro m
 induction m with
 | zero=>
  intro i ys hi hy hR
  rw [Ae (by omega)] at hR
  have hR:mF l.length ys=R:=hR
  have next:=NU R l.length ys (.row 1 0) [] (by rw [show l.length=ys.length from by omega];exact .row) (by omega) (by simp;omega) hR
  refine gV ?_
  exact zW
 | succ m ih=>
  intro i ys hi hy hR
  have hlt:i<l.length:=by omega
  have hb:=hs.at hlt
  rw [Ad hlt,Av] at hR
  generalize hq:l[i]=x at hR hb
  have get:(rav l)[i]? =some x.av:=(bN hlt).trans (by rw [hq])
  have next:=ih (i+1) (pK ys x) (by omega) (by rw [EE];omega) hR
  have hp:=aC3 ys (by omega) x
  generalize pK ys x=ys' at hp next
  refine gV ?_
  have z5_1:=yE x hb
  exact zW
theorem Y3 (l:List Rn) (hs:Sm l):aA Tryz.prog 312 [.slice 14 (rav l) .no] [] (.ret (.slice 14 (rav (fX l)) .no)) []:=by
 refine cT (E:=(Eo [6] [])) (fn:=Tryz.f312) (g:=.pure _) fun _=>?_
 refine gV ?_
 refine To.beginRowH 0 0 53 rfl rfl ?_
 have z6_1:=NT l hs _ l.length 0 [] (by omega) rfl rfl
 exact zW
def kX (p:Int->Bool):List Int->Nat->Int
 | [],_=> -1
 | x::r,i=>if p x=true then (i:Int) else kX p r (i+1)
theorem E9 (p:Int->Bool):∀ (l:List Int) (i:Nat),decide (0<=kX p l i)=l.any p
 | [],i=>by simp [kX]
 | x::r,i=>by
  unfold kX
  rw [Hg]
  cases h:p x with
  | true=>simp
  | false=>simp [E9 p r (i+1)]
def inB (v:Int) (l:List Int):Bool:=l.any fun x=>v==x
noncomputable abbrev aFy:Func:=Tryz.f295
theorem UO (l:List Int) (hl:l.length<=1048576) (v r:Int):∀ (m i:Nat),i+m=l.length->kX (fun x=>v==x) (l.drop i) i=r->
  To E aFy (.pure (.ret (ii r))) (.head (stk aFy 0) [(0,.slice 1 (iv l) .no),(1,ii v),(7,.int .i64 ((iv l).length:Nat)),(8,ii i)] []):=by
 have hlen:(iv l).length=l.length:=by simp
 intro m
 induction m with
 | zero=>
  intro i hi hr
  rw [Ae (by omega)] at hr
  have hr: -1=r:=hr
  subst hr
  refine gV ?_
  exact zW
 | succ m ih=>
  intro i hi hr
  have hlt:i<l.length:=by omega
  rw [Ad hlt] at hr
  have get:=dO hlt
  generalize l[i]=x at hr get
  unfold kX at hr
  have ih:=ih (i+1) (by omega)
  cases hq:(v==x) with
  | true=>
   rw [if_pos hq] at hr
   subst hr
   refine gV ?_
   exact zW
  | false=>
   rw [if_neg (by rw [hq];decide)] at hr
   have next:=ih hr
   refine gV ?_
   exact zW
theorem aDS (l:List Int) (hl:l.length<=1048576) (v:Int):aA Tryz.prog 295 [.slice 1 (iv l) .no,ii v] [] (.ret (ii (kX (fun x=>v==x) l 0))) []:=by
 refine cT (E:=E) (fn:=Tryz.f295) (g:=.pure _) fun _=>?_
 refine gV ?_
 exact To.cut [0,1,7,8] 0 rfl rfl rfl rfl (UO l hl v _ l.length 0 (by omega) rfl)
theorem CN (l:List Int) (hl:l.length<=1048576) (v:Int):aA Tryz.prog 225 [.slice 1 (iv l) .no,ii v] [] (.ret (.bool (inB v l))) []:=by
 have h:=aDS l hl v
 have e:=E9 (fun x=>v==x) l 0
 unfold inB
 rw [<-e]
 generalize kX (fun x=>v==x) l 0=q at h
 refine cT (E:=E) (fn:=Tryz.f225) (g:=.pure _) fun _=>?_
 exact zW
def aC (l:List Rn) (ids:List Int):List Rn:=l.filter fun x=>!(inB x.g.id ids)
theorem jF {x:Rn} {r:List Rn} {ids:List Int} (h:inB x.g.id ids=false):aC (x::r) ids=x::aC r ids:=Eu (by rw [h];rfl)
theorem jG {x:Rn} {r:List Rn} {ids:List Int} (h:inB x.g.id ids=true):aC (x::r) ids=aC r ids:=Et (by rw [h];decide)
theorem rZ {l:List Rn} (hs:Sm l) (ids:List Int):Sm (aC l ids):=
 ⟨Da (Gd _ _) hs.1,fun x hx=>hs.2 x (Dx.1 hx).1⟩
noncomputable abbrev fWo:Func:=Tryz.f145
theorem aBY (l:List Rn) (hs:Sm l) (ids:List Int) (hd:ids.length<=1048576) (R:List Rn):∀ (m i:Nat) (acc:List Rn),i+m=l.length->acc.length<=i->acc++aC (l.drop i) ids=R->
  To (Eo [5] []) fWo (.pure (.ret (.slice 14 (rav R) .no))) (.head (stk fWo 0) [(1,.slice 1 (iv ids) .no),(5,.slice 14 (rav acc) (.own 0 0)),(8,.slice 14 (rav l) .no),(9,.int .i64 ((rav l).length:Nat)),(10,ii i)] [.tail 0 14 53]):=by
 have hlen:(rav l).length=l.length:=by simp
 have hl:=hs.1
 intro m
 induction m with
 | zero=>
  intro i acc hi ha hR
  rw [Ae (by omega)] at hR
  have hR:acc++[]=R:=hR
  rw [Bg] at hR
  subst hR
  refine gV ?_
  exact zW
 | succ m ih=>
  intro i acc hi ha hR
  have hlt:i<l.length:=by omega
  have hb:=hs.at hlt
  rw [Ad hlt] at hR
  generalize hq:l[i]=x at hR hb
  have get:(rav l)[i]? =some x.av:=(bN hlt).trans (by rw [hq])
  have hla:(rav acc).length=acc.length:=by simp
  have hc:=CN ids hd x.g.id
  cases hw:inB x.g.id ids with
  | true=>
   rw [hw] at hc
   rw [jG hw] at hR
   have next:=ih (i+1) acc (by omega) (by omega) hR
   refine gV ?_
   exact zW
  | false=>
   rw [hw] at hc
   rw [jF hw] at hR
   have next:=ih (i+1) (acc++[x]) (by omega) (by simp;omega) (by rw [Ai];exact hR)
   have e:rav (acc++[x])=rav acc++[x.av]:=by simp
   rw [e] at next
   refine gV ?_
   have z6_1:=yE x hb
   exact zW
theorem sA (l:List Rn) (hs:Sm l) (ids:List Int) (hd:ids.length<=1048576):aA Tryz.prog 145 [.slice 14 (rav l) .no,.slice 1 (iv ids) .no] [] (.ret (.slice 14 (rav (aC l ids)) .no)) []:=by
 refine cT (E:=(Eo [5] [])) (fn:=Tryz.f145) (g:=.pure _) fun _=>?_
 have z7_1:=aBY l hs ids hd _ l.length 0 [] (by omega) (by simp) rfl
 exact zW
theorem EN {ns:List Nod} {t:Int} (h:aX ns t=true):0<=t/\t.toNat<ns.length:=by
 unfold aX at h
 by_cases h1:0<=t
 .rw [if_pos (decide_eq_true h1)] at h
  by_cases h2:t<(ns.length:Int)
  .omega
  .rw [if_neg (by rw [decide_eq_false h2];decide)] at h
   cases h
 .rw [if_neg (by rw [decide_eq_false h1];decide)] at h
  cases h
theorem IJ {c:Con} {t:Int} (h:0<=t/\t.toNat<c.ns.length):(nav c.ns)[t.toNat]? =some (bX c.ns t).av:=by
 unfold bX
 rw [Aa h.2]
 exact fQ h.2
def qK (c:Con) (used:List V3) (t:Int) (need:V3):Bool:=if aX c.ns t=true then cN (eF (atV used t) need) (bX c.ns t).n else false
def dF (c:Con) (used:List V3) (t:Int):Bool:=if aX c.ns t=true then !cN (atV used t) (bX c.ns t).n else false
theorem MQ (c:Con) (used:List V3) (t:Int) (need:V3) (r:Bool) (hr:qK c used t need=r):aA Tryz.prog 310 [c.av,.slice 3 (vav used) .no,ii t,need.av] [] (.ret (.bool r)) []:=by
 have hlf:=kG c t
 unfold qK at hr
 cases hq:aX c.ns t with
 | false=>
  rw [hq] at hlf
  rw [if_neg (by rw [hq];decide)] at hr
  subst hr
  refine cT (E:=E) (fn:=Tryz.f310) (g:=.pure _) fun _=>?_
  exact zW
 | true=>
  rw [hq] at hlf
  rw [if_pos hq] at hr
  have hg:=EN hq
  have hn:t=(t.toNat:Int):=by omega
  have getn:=IJ (c:=c) hg
  generalize bX c.ns t=x at getn hr
  have h1:=CY used t
  generalize atV used t=q1 at h1 hr
  have h2:=iY q1 need
  generalize eF q1 need=q2 at h2 hr
  have h3:=kM q2 x.n
  rw [hr] at h3
  refine cT (E:=E) (fn:=Tryz.f310) (g:=.pure _) fun _=>?_
  exact zW
theorem SY (c:Con) (used:List V3) (t:Int) (need:V3):aA Tryz.prog 310 [c.av,.slice 3 (vav used) .no,ii t,need.av] [] (.ret (.bool (qK c used t need))) []:=MQ c used t need _ rfl
theorem MD (c:Con) (used:List V3) (t:Int) (r:Bool) (hr:dF c used t=r):aA Tryz.prog 314 [c.av,.slice 3 (vav used) .no,ii t] [] (.ret (.bool r)) []:=by
 have hlf:=kG c t
 unfold dF at hr
 cases hq:aX c.ns t with
 | false=>
  rw [hq] at hlf
  rw [if_neg (by rw [hq];decide)] at hr
  subst hr
  refine cT (E:=E) (fn:=Tryz.f314) (g:=.pure _) fun _=>?_
  exact zW
 | true=>
  rw [hq] at hlf
  rw [if_pos hq] at hr
  have hg:=EN hq
  have hn:t=(t.toNat:Int):=by omega
  have getn:=IJ (c:=c) hg
  generalize bX c.ns t=x at getn hr
  have h1:=CY used t
  generalize atV used t=q1 at h1 hr
  have h3:=II q1 x.n
  rw [hr] at h3
  refine cT (E:=E) (fn:=Tryz.f314) (g:=.pure _) fun _=>?_
  exact zW
theorem PD (c:Con) (used:List V3) (t:Int):aA Tryz.prog 314 [c.av,.slice 3 (vav used) .no,ii t] [] (.ret (.bool (dF c used t))) []:=MD c used t _ rfl
def pS (c:Con) (l:List Rn) (g:Gan) (ids:List Int):Bool:=(cK c (aC l ids) g).isSome
abbrev chO (c:Con) (l:List Rn) (g:Gan):List AObj:=[.cells 26 c.cs,.cells 28 [.slice 14 (rav l) .no],.cells 36 g.cs]
theorem SN (c:Con) (hc:c.sm) (l:List Rn) (hs:Sm l) (g:Gan) (hg:0<=g.pods/\g.pods<=16) (ids:List Int) (hd:ids.length<=1048576) (r:Bool) (hr:pS c l g ids=r):
  aA Tryz.prog 311 [.slice 1 (iv ids) .no,.ref 0 0,.ref 1 0,.ref 2 0] (chO c l g) (.ret (.bool r)) (chO c l g):=by
 have hw:=sA l hs ids hd
 have hf:=uG c hc (aC l ids) (rZ hs ids) g hg
 unfold pS at hr
 generalize aC l ids=left at hw hf hr
 generalize cK c left g=Q at hf hr
 subst hr
 unfold fdA at hf
 cases Q with
 | none=>
  refine cT (E:=E) (fn:=Tryz.f311) (g:=.full 3 _ _) fun _=>?_
  exact zW
 | some x=>
  refine cT (E:=E) (fn:=Tryz.f311) (g:=.full 3 _ _) fun _=>?_
  exact zW
abbrev VQ (c:Con) (used:List V3):List AObj:=[.cells 26 c.cs,.cells 127 [.slice 3 (vav used) .no]]
theorem aHP (c:Con) (used:List V3) (x:Rn):aA Tryz.prog 313 [x.av,.ref 0 0,.ref 1 0] (VQ c used) (.ret (.bool (dF c used x.g.ten))) (VQ c used):=by
 have hb:=PD c used x.g.ten
 generalize dF c used x.g.ten=r at hb
 refine cT (E:=E) (fn:=Tryz.f313) (g:=.full 2 _ _) fun _=>?_
 exact zW
theorem aBs (x a:Int):aA Tryz.prog 316 [ii x,.ref 0 0] [.cells 3 [ii a]] (.ret (.bool (x==a))) [.cells 3 [ii a]]:=by
 refine cT (E:=E) (fn:=Tryz.f316) (g:=.full 1 _ _) fun _=>?_
 exact zW
def aP (p:Rn->Bool):List Rn->Nat->Int
 | [],_=> -1
 | x::r,i=>if p x=true then (i:Int) else aP p r (i+1)
noncomputable abbrev FA:Func:=Tryz.f229
abbrev aI8:AVal:=.func (.func 313) [] [.ref 0 0,.ref 1 0]
theorem UM (c:Con) (used:List V3) (l:List Rn) (hl:l.length<=1048576) (r:Int):∀ (m i:Nat),i+m=l.length->aP (fun x=>dF c used x.g.ten) (l.drop i) i=r->
  To E FA (.full 2 (.ret (ii r)) (VQ c used)) (.head (stk FA 0) [(0,.slice 14 (rav l) .no),(1,aI8),(7,.int .i64 ((rav l).length:Nat)),(8,ii i)] (VQ c used)):=by
 have hlen:(rav l).length=l.length:=by simp
 intro m
 induction m with
 | zero=>
  intro i hi hr
  rw [Ae (by omega)] at hr
  have hr: -1=r:=hr
  subst hr
  refine gV ?_
  exact zW
 | succ m ih=>
  intro i hi hr
  have hlt:i<l.length:=by omega
  rw [Ad hlt] at hr
  have get:(rav l)[i]? =some l[i].av:=bN hlt
  generalize l[i]=x at hr get
  unfold aP at hr
  have hb:=aHP c used x
  have ih:=ih (i+1) (by omega)
  cases hq:dF c used x.g.ten with
  | true=>
   rw [if_pos hq] at hr
   rw [hq] at hb
   subst hr
   refine gV ?_
   exact zW
  | false=>
   rw [if_neg (by rw [hq];decide)] at hr
   rw [hq] at hb
   have next:=ih hr
   refine gV ?_
   exact zW
theorem aDQ (c:Con) (used:List V3) (l:List Rn) (hl:l.length<=1048576):aA Tryz.prog 229 [.slice 14 (rav l) .no,aI8] (VQ c used) (.ret (ii (aP (fun x=>dF c used x.g.ten) l 0))) (VQ c used):=by
 refine cT (E:=E) (fn:=Tryz.f229) (g:=.full 2 _ _) fun _=>?_
 refine gV ?_
 exact To.cut [0,1,7,8] 2 rfl rfl rfl rfl (UM c used l hl _ l.length 0 (by omega) rfl)
theorem FJ (l:List Int) (h:l.length<=1048576):aA Tryz.prog 296 [.slice 1 (iv l) .no] [] (.ret (.row 0 0)) [.row 0 1 3 (iv l)]:=by
 have hlen:(iv l).length=l.length:=by simp
 refine cT (E:=(Er [2,5] [])) (fn:=Tryz.f296) (g:=.full 0 _ _) fun _=>?_
 refine gV ?_
 intro b hb
 refine gV ?_
 refine ⟨fun h=>?_,fun h=>?_⟩
 .refine gV ?_
  refine ⟨[],[1],⟨rfl,rfl⟩,?_⟩;conv=>whnf
  rw [hb (by simpa using h)]
  exact ⟨rfl,rfl⟩
 .refine gV ?_
  refine ⟨⟨by simp only [maxLen];simp;omega,by simp;omega⟩,?_⟩
  refine gV ?_
  refine ⟨[],[1],⟨rfl,rfl⟩,?_⟩
  exact ⟨rfl,rfl⟩
abbrev aBt:AVal:=.func (.func 316) [] [.ref 1 0]
abbrev dlO (l:List Int) (a:Int):List AObj:=[.row 0 1 3 (iv l),.cells 3 [ii a]]
noncomputable abbrev aFz:Func:=Tryz.f332
theorem UP (l:List Int) (hl:l.length<=1048576) (a r:Int):∀ (m i:Nat),i+m=l.length->kX (fun x=>x==a) (l.drop i) i=r->
  To E aFz (.full 2 (.ret (ii r)) (dlO l a)) (.head (stk aFz 0) [(0,.row 0 0),(1,aBt),(7,.int .i64 ((iv l).length:Nat)),(8,ii i)] (dlO l a)):=by
 have hlen:(iv l).length=l.length:=by simp
 intro m
 induction m with
 | zero=>
  intro i hi hr
  rw [Ae (by omega)] at hr
  have hr: -1=r:=hr
  subst hr
  refine gV ?_
  exact zW
 | succ m ih=>
  intro i hi hr
  have hlt:i<l.length:=by omega
  rw [Ad hlt] at hr
  have get:=dO hlt
  generalize l[i]=x at hr get
  unfold kX at hr
  have hb:=aBs x a
  have ih:=ih (i+1) (by omega)
  cases hq:(x==a) with
  | true=>
   rw [if_pos hq] at hr
   rw [hq] at hb
   subst hr
   refine gV ?_
   exact zW
  | false=>
   rw [if_neg (by rw [hq];decide)] at hr
   rw [hq] at hb
   have next:=ih hr
   refine gV ?_
   exact zW
theorem RM (l:List Int) (hl:l.length<=1048576) (a:Int):aA Tryz.prog 332 [.row 0 0,aBt] (dlO l a) (.ret (ii (kX (fun x=>x==a) l 0))) (dlO l a):=by
 refine cT (E:=E) (fn:=Tryz.f332) (g:=.full 2 _ _) fun _=>?_
 refine gV ?_
 exact To.cut [0,1,7,8] 2 rfl rfl rfl rfl (UP l hl a _ l.length 0 (by omega) rfl)
def dW (l:List Int) (a:Int):List Int:=l.filter fun x=>!(x==a)
theorem LG (p:Int->Bool):∀ (l:List Int) (i:Nat),l.any p=false->kX p l i= -1
 | [],i,_=>rfl
 | x::r,i,h=>by
  rw [Hg,Ih] at h
  unfold kX
  rw [if_neg (by rw [h.1];decide)]
  exact LG p r (i+1) h.2
theorem E8 (p:Int->Bool):∀ (l:List Int) (i:Nat),l.any p=true->∃ k,k<l.length/\kX p l i=((i+k:Nat):Int)/\(∀ x∈l.take k,p x=false)/\∃ x,l[k]? =some x/\p x=true
 | [],i,h=>by simp at h
 | x::r,i,h=>by
  unfold kX
  cases hq:p x with
  | true=>exact ⟨0,by simp,by rw [if_pos rfl];simp,by simp,x,rfl,hq⟩
  | false=>
   rw [Hg,hq,Mu] at h
   obtain ⟨k,h1,h2,h3,y,h4,h5⟩:=E8 p r (i+1) h
   refine ⟨k+1,by simp;omega,?_,fun z hz=>?_,y,by simpa using h4,h5⟩
   .rw [if_neg (by decide),h2]
    congr 1
    omega
   .simp only [List.take_succ_cons,Bd] at hz
    rcases hz with rfl | hz
    .exact hq
    .exact h3 z hz
theorem aHK (l:List Int) (hl:l.length<=1048576) (a:Int) (h:(l.any fun x=>x==a)=false):aA Tryz.prog 315 [.row 0 0,aBt] (dlO l a) (.ret (.row 0 0)) (dlO l a):=by
 have hi:=RM l hl a
 rw [LG _ l 0 h] at hi
 refine cT (E:=E) (fn:=Tryz.f315) (g:=.full 2 _ _) fun _=>?_
 exact zW
noncomputable abbrev aIT:Func:=Tryz.f315
abbrev aIY (z:List AVal) (a:Int):List AObj:=[.row 0 1 3 z,.cells 3 [ii a]]
theorem aG1 (l:List Int) (i:Nat) (x:Int):(iv l).set i (ii x)=iv (l.set i x):=by simp [iv,Gq]
theorem aBc (l:List Int) (hl:l.length<=1048576) (a:Int) (R:List Int):∀ (m j i:Nat) (z:List Int),j+m=l.length->i<j->z.length=l.length->z.drop j=l.drop j->z.take i++dW (l.drop j) a=R->
  To E aIT (.full 2 (.ret (.sub 0 0 0 R.length 1)) (aIY (iv R++Ah (l.length-R.length) (ii 0)) a)) (.head (stk aIT 0) [(0,.row 0 0),(1,aBt),(5,ii i),(6,ii j)] (dlO z a)):=by
 intro m
 induction m with
 | zero=>
  intro j i z hj hi hz hd hR
  have hzl:(iv z).length=z.length:=by simp
  rw [Ae (by omega)] at hR
  have hR:z.take i++[]=R:=hR
  rw [Bg] at hR
  have hRl:R.length=i:=by rw [<-hR];simp;omega
  have e:(iv z).take i=iv R:=by rw [<-hR];simp
  rw [hRl]
  refine gV ?_
  refine aF fun h=>?_
  repeat' first | (refine gN hE ?_;conv=>whnf) | refine ⟨i,rfl,?_⟩ | exact rfl | refine aY ?_ | refine aN ?_ | refine aT fun h=>?_ | refine aF fun h=>?_ | refine ⟨fun h=>?_,fun h=>?_⟩ | refine aJ ?_ | refine ⟨_,rfl,?_⟩ | refine aD ?_ | fail
  refine Ac (by simp;omega) ?_
  refine gV ?_
  refine ⟨[],[0,1],⟨rfl,rfl⟩,?_⟩;conv=>whnf
  refine ⟨rfl,?_⟩
  have e3:Hi (i+((iv z).length-i)) (iv z)=[]:=Ae (by omega)
  have e4:Hw i (iv z)++Ah ((iv z).length-i) (ii 0)++Hi (i+((iv z).length-i)) (iv z)=iv R++Ah (l.length-i) (ii 0):=by rw [e,e3,Bg,hzl,hz]
  exact congrArg (fun l=>[AObj.row 0 1 3 l,.cells 3 [ii a]]) e4
 | succ m ih=>
  intro j i z hj hi hz hd hR
  have hzl:(iv z).length=z.length:=by simp
  have hlt:j<l.length:=by omega
  rw [Ad hlt] at hR
  have hzj:z[j]? =some l[j]:=by
   have:=congrArg (fun q=>q[0]?) hd
   simpa [Bq,Aa hlt] using this
  have get:(iv z)[j]? =some (ii l[j]):=by simp [hzj]
  have hd1:z.drop (j+1)=l.drop (j+1):=by
   have:=congrArg (Hi 1) hd
   rwa [Ii,Ii] at this
  generalize l[j]=x at hR get hzj
  have hb:=aBs x a
  unfold dW at hR
  rw [Hl] at hR
  cases hq:(x==a) with
  | true=>
   rw [hq] at hb hR
   have next:=ih (j+1) i z (by omega) (by omega) hz hd1 hR
   refine gV ?_
   exact zW
  | false=>
   rw [hq] at hb hR
   have next:=ih (j+1) (i+1) (z.set i x) (by omega) (by omega) (by simp;exact hz) (by rw [List.drop_set_of_lt (by omega)];exact hd1) (by
    have e1:(z.set i x).take (i+1)=z.take i++[x]:=by
     rw [List.take_add_one,Ao (by omega),List.take_set_of_le (Au _)]
     rfl
    rw [e1,Ai]
    exact hR)
   unfold dlO at next
   rw [<-aG1] at next
   refine gV ?_
   exact zW
theorem aEI (l:List Int) (hl:l.length<=1048576) (a:Int) (h:(l.any fun x=>x==a)=true):aA Tryz.prog 315 [.row 0 0,aBt] (dlO l a) (.ret (.sub 0 0 0 (dW l a).length 1)) (aIY (iv (dW l a)++Ah (l.length-(dW l a).length) (ii 0)) a):=by
 have hi:=RM l hl a
 obtain ⟨k,h1,h2,h3,x,h4,h5⟩:=E8 (fun x=>x==a) l 0 h
 rw [h2] at hi
 rw [Bn] at hi
 have hne:((k:Int)== -1)=false:=by simp
 have next:=aBc l hl a (dW l a) (l.length-(k+1)) (k+1) k l (by omega) (by omega) rfl rfl (by
  conv=>rhs;rw [<-Bv k l]
  have hx:x=a:=by simpa using h5
  have e:l.drop k=x::l.drop (k+1):=by
   rw [Ad h1]
   rw [Aa h1] at h4
   cases h4
   rfl
  unfold dW
  rw [List.filter_append,e,Hl,h5]
  have e2:(l.take k).filter (fun x=>!(x==a))=l.take k:=Fu.2 fun y hy=>by rw [h3 y hy];rfl
  rw [e2]
  rfl)
 refine cT (E:=E) (fn:=Tryz.f315) (g:=.full 2 _ _) fun _=>?_
 exact zW
theorem pQ {xs:List Rn} {i:Nat} (h:i<xs.length):aW xs i∈xs:=by
 unfold aW
 rw [Aa h]
 exact Bl h
theorem D1 {xs:List Rn} {i k:Nat} (hi:i<xs.length) (hk:k<xs.length) {y:Rn} (h:y∈oJ xs i k):y∈xs:=by
 unfold oJ at h
 rcases Di h with h | rfl
 .rcases Di h with h | rfl
  .exact h
  .exact pQ hk
 .exact pQ hi
theorem PX {y:Rn}:∀ (f:Nat) (xs:List Rn) (i:Nat),i<xs.length->y∈upH f xs i->y∈xs
 | 0,xs,i,_,h=>h
 | f+1,xs,i,hi,h=>by
  unfold upH at h
  split at h
  .exact h
  .split at h
   .exact D1 hi (by omega) (PX f _ _ (by rw [iN];omega) h)
   .exact h
theorem T2 {xs:List Rn} {x y:Rn} (h:y∈pK xs x):y∈xs\/y=x:=by
 have:=PX _ _ _ (by simp) h
 simpa using this
theorem AO {y:Rn}:∀ (l xs:List Rn),y∈l.foldl pK xs->y∈xs\/y∈l
 | [],xs,h=>.inl h
 | x::r,xs,h=>by
  rcases AO r _ h with h | h
  .rcases T2 h with h | rfl
   .exact .inl h
   .exact .inr (by simp)
  .exact .inr (by simp [h])
theorem FF {y:Rn}:∀ (f:Nat) (xs:List Rn) (n i:Nat),n<=xs.length->i<xs.length->y∈uL f xs n i->y∈xs
 | 0,xs,n,i,_,_,h=>h
 | f+1,xs,n,i,hn,hi,h=>by
  unfold uL at h
  split at h
  .rename_i h0
   have hk:=SD xs n i h0
   split at h
   .exact D1 hi (by omega) (FF f _ n _ (by rw [iN];exact hn) (by rw [iN];omega) h)
   .exact h
  .exact h
theorem YQ {xs:List Rn} {n:Nat} (h0:0<n) (hn:n<=xs.length) {y:Rn} (h:y∈xY xs n):y∈xs:=by
 unfold xY at h
 have:=FF n (xs.set 0 (aW xs (n-1))) (n-1) 0 (by simp;omega) (by simp;omega) h
 rcases Di this with h | rfl
 .exact h
 .exact pQ (by omega)
theorem AT {y:Rn}:∀ (n:Nat) (xs:List Rn),n<=xs.length->y∈mF n xs->y∈xs
 | 0,xs,_,h=>by cases h
 | n+1,xs,hn,h=>by
  unfold mF at h
  rcases Bd.1 h with rfl | h
  .exact pQ (by omega)
  .exact YQ (by omega) hn (AT n _ (by rw [AR];omega) h)
theorem EG {l:List Rn} {y:Rn} (h:y∈fX l):y∈l:=by
 unfold fX at h
 have:=AT _ _ (by rw [AP];simp) h
 rcases AO l [] this with h | h
 .cases h
 .exact h
theorem AU:∀ (n:Nat) (xs:List Rn),(mF n xs).length=n
 | 0,xs=>rfl
 | n+1,xs=>by unfold mF;rw [Bo,AU n]
theorem AZ (l:List Rn):(fX l).length=l.length:=AU _ _
theorem Y2 {l:List Rn} (h:Sm l):Sm (fX l):=⟨by rw [AZ];exact h.1,fun x hx=>h.2 x (EG hx)⟩
theorem B2 (p:Rn->Bool):∀ (l:List Rn) (i:Nat),aP p l i= -1\/∃ k,k<l.length/\aP p l i=((i+k:Nat):Int)/\p (aW l k)=true
 | [],i=>.inl rfl
 | x::r,i=>by
  unfold aP
  cases hq:p x with
  | true=>exact .inr ⟨0,by simp,by rw [if_pos rfl];simp,hq⟩
  | false=>
   rw [if_neg (by decide)]
   rcases B2 p r (i+1) with h | ⟨k,h1,h2,h3⟩
   .exact .inl h
   .refine .inr ⟨k+1,by simp;omega,by rw [h2];congr 1;omega,?_⟩
    unfold aW at h3⊢
    simpa using h3
def atI (c:Con) (l:List Rn) (ids:List Int):Int:=aP (fun x=>dF c (ofL c (aC l ids)) x.g.ten) (fX (aC l ids)) 0
def QY (c:Con) (l:List Rn) (ids:List Int):Option Int:=if atI c l ids<0 then none else some (aW (fX (aC l ids)) (atI c l ids).toNat).g.id
def chA (c:Con) (l:List Rn) (g:Gan):Nat->List Int->Option (List Int)
 | 0,_=>none
 | f+1,ids=>if pS c l g ids=true then some ids else match QY c l ids with
  | none=>none
  | some n=>chA c l g f (ids++[n])
def chS (c:Con) (l:List Rn) (g:Gan) (ids:List Int) (a:Int):List Int:=if pS c l g (dW ids a)=true then dW ids a else ids
def fS (c:Con) (l:List Rn) (g:Gan):Option (List Int):=if qK c (ofL c l) g.ten (dem g)=true then (match chA c l g (l.length+1) [] with
 | none=>none
 | some ids=>some (ids.foldl (chS c l g) ids)) else none
def chR:Option (List Int)->AVal
 | some ids=>.tup [.slice 1 (iv ids) .no,.bool true]
 | none=>.tup [.slice 1 [] .no,.bool false]
theorem EL {c:Con} {l:List Rn} {ids:List Int} {n:Int} (h:QY c l ids=some n):∃ x∈aC l ids,x.g.id=n/\dF c (ofL c (aC l ids)) x.g.ten=true:=by
 unfold QY at h
 split at h
 .cases h
 .rename_i h0
  cases h
  rcases B2 (fun x=>dF c (ofL c (aC l ids)) x.g.ten) (fX (aC l ids)) 0 with h1 | ⟨k,h1,h2,h3⟩
  .exact absurd (show atI c l ids<0 from by unfold atI;rw [h1];decide) h0
  .refine ⟨_,EG (pQ ?_),rfl,?_⟩
   .unfold atI;rw [h2];simpa using h1
   .unfold atI;rw [h2];simpa using h3
theorem FQ (l:List Rn) (ids:List Int) (n:Int):aC l (ids++[n])=(aC l ids).filter fun x=>!(x.g.id==n):=by
 unfold aC
 rw [Lc]
 refine Ll fun x _=>?_
 unfold inB
 rw [List.any_append]
 simp only [Hg,List.any_nil,Bool.or_false]
 cases (ids.any fun y=>x.g.id==y)<;>cases (x.g.id==n)<;>rfl
theorem FR {l:List Rn} {ids:List Int} {n:Int} (h:∃ x∈aC l ids,x.g.id=n):(aC l (ids++[n])).length<(aC l ids).length:=by
 obtain ⟨x,hx,hn⟩:=h
 rw [FQ]
 generalize aC l ids=q at hx
 refine Nat.lt_of_le_of_ne (Gd _ _) fun e=>?_
 have:=List.length_filter_eq_length_iff.1 e x hx
 simp [hn] at this
theorem UH (l:List Int) (a:Int):(dW l a).length<=l.length:=Gd _ _
abbrev aI9:AVal:=.func (.func 311) [] [.ref 0 0,.ref 1 0,.ref 2 0]
noncomputable abbrev fCh:Func:=Tryz.f248
abbrev cbF (ids all:List Int) (i:Int):List (Nat×AVal):=[(8,aI9),(9,.slice 1 (iv ids) .no),(54,.slice 1 (iv all) .no),(55,.int .i64 ((iv all).length:Nat)),(56,ii i)]
theorem aHQ (c:Con) (l:List Rn) (g:Gan) (a:Int) (z:List AVal):frzs [4] (chO c l g++[.cells 3 [ii a],.row 0 1 3 z])=chO c l g++[.cells 3 [ii a],.frow 0 1 z]:=by kernel_rfl
theorem aEX (c:Con) (l:List Rn) (g:Gan) (a:Int) (z:List AVal) (n:Nat) (ids all:List Int) (i:Int):HC [15] (aE (chO c l g++[.cells 3 [ii a],.frow 0 1 z])) ((15,.sub 4 0 0 n 1)::cbF ids all i)=(15,.slice 1 ((z.drop 0).take n) .no)::cbF ids all i:=by kernel_rfl
theorem aEY (c:Con) (l:List Rn) (g:Gan) (a:Int) (z:List AVal) (ids all:List Int) (i:Int):HC [15] (aE (chO c l g++[.cells 3 [ii a],.frow 0 1 z])) ((15,.row 4 0)::cbF ids all i)=(15,.slice 1 z .no)::cbF ids all i:=by kernel_rfl
theorem SO {G:Goal} {ks:List KI} (c:Con) (l:List Rn) (g:Gan) (a:Int) (z:List AVal) (fr:List (Nat×AVal)) {fr':List (Nat×AVal)} (hf:HC [15] (aE (chO c l g++[.cells 3 [ii a],.frow 0 1 z])) fr=fr')
  (h:To (Eo [9] []) fCh G (.code ks fr' (chO c l g++[.cells 3 [ii a],.frow 0 1 z]))):To (Eo [9] []) fCh G (.code ks fr (chO c l g++[.cells 3 [ii a],.row 0 1 3 z])):=by
 refine To.frz [15] [4] ?_
 rw [aHQ,hf]
 exact h
theorem aBn (c:Con) (hc:c.sm) (l:List Rn) (hs:Sm l) (g:Gan) (hg:0<=g.pods/\g.pods<=16) (all:List Int) (ha:all.length<=1048576) (R:List Int):∀ (m i:Nat) (ids:List Int),i+m=all.length->ids.length<=1048576->(all.drop i).foldl (chS c l g) ids=R->
  To (Eo [9] []) fCh (.pure (.ret (.tup [.slice 1 (iv R) .no,.bool true]))) (.head (stk fCh 1) (cbF ids all i) (chO c l g)):=by
 have hlen:(iv all).length=all.length:=by simp
 intro m
 induction m with
 | zero=>
  intro i ids hi hd hR
  rw [Ae (by omega)] at hR
  have hR:ids=R:=hR
  subst hR
  refine gV ?_
  exact zW
 | succ m ih=>
  intro i ids hi hd hR
  have hlt:i<all.length:=by omega
  rw [Ad hlt,Av] at hR
  have get:=dO hlt
  generalize all[i]=a at hR get
  have ih:=ih (i+1)
  have hll:=UH ids a
  have h1:=SN c hc l hs g hg (dW ids a) (by omega) _ rfl
  have ech:chS c l g ids a=if pS c l g (dW ids a)=true then dW ids a else ids:=rfl
  rw [ech] at hR
  cases hp:(ids.any fun x=>x==a) with
  | true=>
   have hd':=aEI ids hd a hp
   generalize hz:iv (dW ids a)++Ah (ids.length-(dW ids a).length) (ii 0)=z at hd'
   have hzt:(z.drop 0).take (dW ids a).length=iv (dW ids a):=by
    rw [<-hz,Bt,Dm (by simp),Cl (by simp)]
   refine gV ?_
   refine aT fun h=>?_
   repeat' first | (refine gN (hEo [9] []) ?_;conv=>whnf) | refine ⟨i,rfl,?_⟩ | refine ⟨_,get,?_⟩ | refine .pure _ [_] (FJ ids hd) ?_ | exact rfl | refine aY ?_ | refine aN ?_ | refine aT fun h=>?_ | refine aF fun h=>?_ | refine ⟨fun h=>?_,fun h=>?_⟩ | refine aJ ?_ | refine ⟨_,rfl,?_⟩ | refine aD ?_ | fail
   refine .eff [] [4,3] _ _ rfl hd' ?_
   refine dP (hEo [9] []) 5 ?_;conv=>whnf
   refine To.cutC [15,8,9,54,55,56] 5 rfl rfl rfl rfl ?_
   refine SO c l g a _ _ (aEX c l g a z _ ids all i) ?_
   rw [hzt]
   cases hf:pS c l g (dW ids a) with
   | true=>
    rw [if_pos hf] at hR
    rw [hf] at h1
    have next:=ih (dW ids a) (by omega) (by omega) hR
    exact zW
   | false=>
    rw [if_neg (by rw [hf];decide)] at hR
    rw [hf] at h1
    have next:=ih ids (by omega) hd hR
    exact zW
  | false=>
   have hd':=aHK ids hd a hp
   have hzt:iv ids=iv (dW ids a):=by
    have:dW ids a=ids:=Fu.2 fun y hy=>by
     have:=(List.any_eq_false.1 hp) y hy
     simpa using this
    rw [this]
   refine gV ?_
   refine aT fun h=>?_
   repeat' first | (refine gN (hEo [9] []) ?_;conv=>whnf) | refine ⟨i,rfl,?_⟩ | refine ⟨_,get,?_⟩ | refine .pure _ [_] (FJ ids hd) ?_ | exact rfl | refine aY ?_ | refine aN ?_ | refine aT fun h=>?_ | refine aF fun h=>?_ | refine ⟨fun h=>?_,fun h=>?_⟩ | refine aJ ?_ | refine ⟨_,rfl,?_⟩ | refine aD ?_ | fail
   refine .eff [] [4,3] _ _ rfl hd' ?_
   refine dP (hEo [9] []) 5 ?_;conv=>whnf
   refine To.cutC [15,8,9,54,55,56] 5 rfl rfl rfl rfl ?_
   refine SO c l g a _ _ (aEY c l g a (iv ids) ids all i) ?_
   rw [hzt]
   cases hf:pS c l g (dW ids a) with
   | true=>
    rw [if_pos hf] at hR
    rw [hf] at h1
    have next:=ih (dW ids a) (by omega) (by omega) hR
    exact zW
   | false=>
    rw [if_neg (by rw [hf];decide)] at hR
    rw [hf] at h1
    have next:=ih ids (by omega) hd hR
    exact zW
def chB (c:Con) (l:List Rn) (g:Gan):Option (List Int)->Option (List Int)
 | none=>none
 | some ids=>some (ids.foldl (chS c l g) ids)
abbrev caF (ids:List Int):List (Nat×AVal):=[(3,.ref 0 0),(4,.ref 1 0),(5,.ref 2 0),(8,aI9),(9,.slice 1 (iv ids) (.own 3 0))]
theorem aBo (c:Con) (hc:c.sm) (l:List Rn) (hs:Sm l) (g:Gan) (hg:0<=g.pods/\g.pods<=16) (R:Option (List Int)):∀ (f:Nat) (ids:List Int),(aC l ids).length<f->ids.length+(aC l ids).length<=l.length->chB c l g (chA c l g f ids)=R->
  To (Eo [9] []) fCh (.pure (.ret (chR R))) (.head (stk fCh 0) (caF ids) (chO c l g++[.tail 0 1 3])):=by
 have hl:=hs.1
 intro f
 induction f with
 | zero=>intro ids h;omega
 | succ f ih=>
  intro ids hf hn hR
  have hil:(iv ids).length=ids.length:=by simp
  have h1:=SN c hc l hs g hg ids (by omega) _ rfl
  have hw:=sA l hs ids (by omega)
  have hsl:=rZ hs ids
  have hof:=QU c hc (aC l ids) hsl.1
  have hor:=Y3 (aC l ids) hsl
  have hix:=aDQ c (ofL c (aC l ids)) (fX (aC l ids)) (Y2 hsl).1
  have hat:aP (fun x=>dF c (ofL c (aC l ids)) x.g.ten) (fX (aC l ids)) 0=atI c l ids:=rfl
  rw [hat] at hix
  unfold chA at hR
  cases hq:pS c l g ids with
  | true=>
   rw [if_pos hq] at hR
   rw [hq] at h1
   have hR:some (ids.foldl (chS c l g) ids)=R:=hR
   subst hR
   have hcl:=wH ids (by omega)
   have next:=aBn c hc l hs g hg ids (by omega) _ ids.length 0 ids (by omega) (by omega) rfl
   refine gV ?_
   exact zW
  | false=>
   rw [if_neg (by rw [hq];decide)] at hR
   rw [hq] at h1
   have hnx:QY c l ids=if atI c l ids<0 then none else some (aW (fX (aC l ids)) (atI c l ids).toNat).g.id:=rfl
   have hmem:=fun n=>EL (c:=c) (l:=l) (ids:=ids) (n:=n)
   by_cases hneg:atI c l ids<0
   .rw [if_pos hneg] at hnx
    rw [hnx] at hR
    have hR:none=R:=hR
    subst hR
    generalize atI c l ids=q at hix hneg
    generalize ofL c (aC l ids)=us at hof hix
    generalize fX (aC l ids)=o at hor hix
    generalize aC l ids=left at hw hof hor
    refine gV ?_
    repeat' first | (refine gN (hEo [9] []) ?_;conv=>whnf) | refine .eff [] [0,1,2] _ _ rfl h1 ?_ | refine .pure _ [] hw ?_ | refine .pure _ [] hof ?_ | refine .pure _ [] hor ?_ | refine .eff [] [0,4] _ _ rfl hix ?_ | exact rfl | refine aY ?_ | refine aN ?_ | refine aT fun h=>?_ | refine aF fun h=>?_ | refine ⟨fun h=>?_,fun h=>?_⟩ | refine aJ ?_ | refine ⟨_,rfl,?_⟩ | refine aD ?_ | fail
   .rw [if_neg hneg] at hnx
    obtain ⟨k,hk1,hk2⟩:∃ k:Nat,k<(fX (aC l ids)).length/\atI c l ids=(k:Int):=by
     rcases B2 (fun x=>dF c (ofL c (aC l ids)) x.g.ten) (fX (aC l ids)) 0 with h | ⟨k,h1,h2,_⟩
     .exact absurd (show atI c l ids<0 from by unfold atI;rw [h];decide) hneg
     .exact ⟨k,h1,by unfold atI;rw [h2];simp⟩
    rw [hk2] at hnx hix
    rw [Ck] at hnx
    have get:=lW hk1
    have hml:=hmem _ hnx
    obtain ⟨y,hy1,hy2,_⟩:=hml
    have hlt:=FR ⟨y,hy1,hy2⟩
    rw [hnx] at hR
    generalize aW (fX (aC l ids)) k=x at get hR hlt
    have next:=ih (ids++[x.g.id]) (by omega) (by simp;omega) hR
    have e:iv (ids++[x.g.id])=iv ids++[ii x.g.id]:=by simp
    unfold caF at next
    rw [e] at next
    have hol:=AZ (aC l ids)
    generalize ofL c (aC l ids)=us at hof hix
    generalize fX (aC l ids)=o at hor hix get hk1 hol
    generalize aC l ids=left at hw hof hor hn hol
    refine gV ?_
    repeat' first | (refine gN (hEo [9] []) ?_;conv=>whnf) | refine .eff [] [0,1,2] _ _ rfl h1 ?_ | refine .pure _ [] hw ?_ | refine .pure _ [] hof ?_ | refine .pure _ [] hor ?_ | refine .eff [] [0,4] _ _ rfl hix ?_ | refine ⟨k,rfl,?_⟩ | refine ⟨_,get,?_⟩ | refine ⟨⟨by simp only [maxLen];simp;omega,by simp;omega⟩,?_⟩ | exact rfl | refine aY ?_ | refine aN ?_ | refine aT fun h=>?_ | refine aF fun h=>?_ | refine ⟨fun h=>?_,fun h=>?_⟩ | refine aJ ?_ | refine ⟨_,rfl,?_⟩ | refine aD ?_ | fail
    exact zW
theorem fH (l:List Rn):aC l []=l:=Fu.2 fun x _=>rfl
theorem PA (c:Con) (hc:c.sm) (l:List Rn) (hs:Sm l) (g:Gan) (hg:0<=g.pods/\g.pods<=16) (R:Option (List Int)) (hR:fS c l g=R):aA Tryz.prog 248 [c.av,.slice 14 (rav l) .no,g.av] [] (.ret (chR R)) []:=by
 have hof:=QU c hc l hs.1
 have hd:=OV g
 have hw:=SY c (ofL c l) g.ten (dem g)
 unfold fS at hR
 cases hq:qK c (ofL c l) g.ten (dem g) with
 | false=>
  rw [if_neg (by rw [hq];decide)] at hR
  rw [hq] at hw
  subst hR
  refine cT (E:=(Eo [9] [])) (fn:=Tryz.f248) (g:=.pure _) fun _=>?_
  exact zW
 | true=>
  rw [if_pos hq] at hR
  rw [hq] at hw
  have next:=aBo c hc l hs g hg R (l.length+1) [] (by rw [fH];omega) (by rw [fH];simp) (by rw [<-hR];unfold chB;split<;>rfl)
  refine cT (E:=(Eo [9] [])) (fn:=Tryz.f248) (g:=.pure _) fun _=>?_
  exact zW
theorem VN (c:Con) (hc:c.sm) (l:List Rn) (hs:Sm l) (g:Gan) (hg:0<=g.pods/\g.pods<=16):aA Tryz.prog 248 [c.av,.slice 14 (rav l) .no,g.av] [] (.ret (chR (fS c l g))) []:=PA c hc l hs g hg _ rfl
def V3.le (a b:V3):Prop:=a.a<=b.a/\a.b<=b.b/\a.c<=b.c
def V3.farB (a:V3):Prop:=(0<=a.a/\a.a<=1099511627776)/\(0<=a.b/\a.b<=1099511627776)/\(0<=a.c/\a.c<=1099511627776)
theorem rG {a b d:Int} (h:a<=b):iL a d<=iL b d:=by unfold iL fK;omega
theorem zA {a d:Int} (h0:0<=a) (h1:a<=1099511627776) (hd:0<=d):a<=iL a d:=by unfold iL fK;omega
theorem H9 {a d:Int} (h0:0<=a) (hd:0<=d):0<=iL a d/\iL a d<=1099511627776:=by unfold iL fK;omega
theorem S4 {a b:V3} (d:V3) (h:a.le b):(eF a d).le (eF b d):=⟨rG h.1,rG h.2.1,rG h.2.2⟩
def V3.pos (d:V3):Prop:=0<=d.a/\0<=d.b/\0<=d.c
theorem aB1 {a d:V3} (h:a.farB) (hd:d.pos):a.le (eF a d):=⟨zA h.1.1 h.1.2 hd.1,zA h.2.1.1 h.2.1.2 hd.2.1,zA h.2.2.1 h.2.2.2 hd.2.2⟩
theorem WK {a d:V3} (h:a.farB) (hd:d.pos):(eF a d).farB:=⟨H9 h.1.1 hd.1,H9 h.2.1.1 hd.2.1,H9 h.2.2.1 hd.2.2⟩
theorem V3.le.trans {a b c:V3} (h:a.le b) (k:b.le c):a.le c:=⟨Fo h.1 k.1,Fo h.2.1 k.2.1,Fo h.2.2 k.2.2⟩
theorem oX {a b:V3}:cN a b=true↔a.le b:=by
 obtain ⟨a1,a2,a3⟩:=a
 obtain ⟨b1,b2,b3⟩:=b
 unfold cN V3.le
 by_cases h1:b1<a1
 .first | (simp [h1];done) | (simp [h1];omega)
 by_cases h2:b2<a2
 .first | (simp [h1,h2];done) | (simp [h1,h2];omega)
 by_cases h3:b3<a3
 .first | (simp [h1,h2,h3];done) | (simp [h1,h2,h3];omega)
 first | (simp [h1,h2,h3];done) | (simp [h1,h2,h3];omega)
def nR (c:Con) (j:Nat) (v:V3) (x:Rn):V3:=if aX c.ns x.g.ten=true/\(j:Int)∈upL c.ns x.g.ten then eF v (dem x.g) else v
theorem FO (v:V3) (j:Nat):∀ (ks:List Int) (xs:List V3),ks.Nodup->(∀ k∈ks,0<=k)->(ks.foldl (rO v) xs)[j]? =if (j:Int)∈ks then (xs[j]?).map fun x=>eF x v else xs[j]?
 | [],xs,_,_=>by simp
 | k::r,xs,hn,h0=>by
  have hn:=Cc.1 hn
  have hk:=h0 k (by simp)
  rw [Av,FO v j r _ hn.2 fun x hx=>h0 x (by simp [hx]),nN]
  by_cases h1:(j:Int)=k
  .have h2:(j:Int)∉r:=by rw [h1];exact hn.1
   rw [if_neg h2,if_pos (by omega),if_pos (by simp [h1])]
  .have e:(j:Int)∈k::r↔(j:Int)∈r:=by simp [h1]
   by_cases h2:(j:Int)∈r
   .rw [if_pos h2,if_neg (by omega),if_pos (e.2 h2)]
   .rw [if_neg h2,if_neg (by omega),if_neg (fun h=>h2 (e.1 h))]
theorem X1 (c:Con) (xs:List V3) (x:Rn) (j:Nat):(xX c xs x)[j]? =(xs[j]?).map fun v=>nR c j v x:=by
 unfold xX nR
 cases hq:aX c.ns x.g.ten with
 | false=>rw [if_neg (by decide)];simp
 | true=>
  rw [if_pos rfl]
  have hpw:(cJ c.ns x.g.ten).Nodup:=by
   unfold cJ
   exact List.pairwise_reverse.2 ((MW c.ns _ _).imp fun h=>by omega)
  have hm:(j:Int)∈cJ c.ns x.g.ten↔(j:Int)∈upL c.ns x.g.ten:=Hk
  rw [FO _ _ _ _ hpw fun k hk=>(FX _ _ _ _ (Hk.1 hk)).1]
  by_cases h:(j:Int)∈upL c.ns x.g.ten
  .rw [if_pos (hm.2 h)];simp [h]
  .rw [if_neg (fun q=>h (hm.1 q))];simp [h]
theorem ZB (c:Con) (j:Nat):∀ (l:List Rn) (xs:List V3),(l.foldl (xX c) xs)[j]? =(xs[j]?).map fun v=>l.foldl (nR c j) v
 | [],xs=>by simp
 | x::r,xs=>by
  rw [Av,ZB c j r,X1,Option.map_map]
  rfl
theorem tO {c:Con} {t:Int} (h:0<=t/\t.toNat<c.ns.length) (l:List Rn):atV (ofL c l) t=l.foldl (nR c t.toNat) V3.zero:=by
 unfold atV
 rw [if_neg (by rw [decide_eq_false (by omega)];decide),<-aFm]
 unfold X3
 rw [ZB,Ew,if_pos h.2]
 rfl
theorem sW {c:Con} {j:Nat} (p:Rn->Bool):∀ (l:List Rn) (a b:V3),(∀ x∈l,(dem x.g).pos)->a.le b->b.farB->((l.filter p).foldl (nR c j) a).le (l.foldl (nR c j) b)/\(l.foldl (nR c j) b).farB
 | [],a,b,_,h,hf=>⟨h,hf⟩
 | x::r,a,b,hd,h,hf=>by
  have hx:=hd x (by simp)
  have hb:(nR c j b x).farB:=by unfold nR;split;exact WK hf hx;exact hf
  rw [Av,Hl]
  cases p x with
  | true=>
   rw [if_pos rfl,Av]
   refine sW p r _ _ (fun y hy=>hd y (by simp [hy])) ?_ hb
   unfold nR
   split
   .exact S4 _ h
   .exact h
  | false=>
   rw [if_neg (by decide)]
   refine sW p r _ _ (fun y hy=>hd y (by simp [hy])) ?_ hb
   unfold nR
   split
   .exact h.trans (aB1 hf hx)
   .exact h
theorem ID:V3.zero.farB:=by unfold V3.farB V3.zero;decide
theorem BH (a:V3):a.le a:=⟨Dr _,Dr _,Dr _⟩
theorem aEH {g:Gan} (hv:aU g.need=true) (hg:0<=g.pods/\g.pods<=16):(dem g).pos:=by
 unfold aU at hv
 simp only [Ag,decide_eq_true_eq] at hv
 obtain ⟨⟨⟨a1,a2⟩,b1,b2⟩,c1,c2⟩:=hv
 have key:∀ x,0<=x->0<=ZO x g.pods:=fun x hx=>by
  have h2:0<=fK x 1099511627776*fK g.pods 1048576:=Ji (by unfold fK;omega) (by unfold fK;omega)
  unfold ZO
  generalize fK x 1099511627776*fK g.pods 1048576=q at h2
  unfold fK
  omega
 exact ⟨key _ a1,key _ b1,key _ c1⟩
def Was (c:Con) (l:List Rn) (n:Int):Prop:=∃ (ids:List Int) (x:Rn),x∈l/\x.g.id=n/\dF c (ofL c (aC l ids)) x.g.ten=true
theorem oB {v:Int} {l:List Int}:inB v l=true↔v∈l:=by unfold inB;simp
theorem jH {l:List Rn} {ids:List Int} {x:Rn}:x∈aC l ids↔x∈l/\x.g.id∉ids:=by
 unfold aC
 rw [Dx]
 refine and_congr Nd ?_
 rw [<-oB]
 cases inB x.g.id ids<;>simp
theorem L6 {c:Con} {l:List Rn} {g:Gan} {R:List Int}:∀ (f:Nat) (ids:List Int),ids.Nodup->(∀ n∈ids,Was c l n)->chA c l g f ids=some R->R.Nodup/\(∀ n∈R,Was c l n)/\pS c l g R=true
 | 0,ids,_,_,h=>by cases h
 | f+1,ids,hn,hw,h=>by
  unfold chA at h
  split at h
  .rename_i hf
   cases h
   exact ⟨hn,hw,hf⟩
  .split at h
   .cases h
   .rename_i n hx
    obtain ⟨x,h1,h2,h3⟩:=EL hx
    have hm:=jH.1 h1
    refine L6 f _ ?_ ?_ h
    .rw [Bm]
     refine ⟨hn,by simp,fun a ha b hb e=>?_⟩
     simp at hb
     subst hb e
     rw [h2] at hm
     exact hm.2 ha
    .intro a ha
     rcases Ba.1 ha with ha | ha
     .exact hw a ha
     .simp at ha
      subst ha
      exact ⟨ids,x,hm.1,h2,h3⟩
theorem aEU {c:Con} {l:List Rn} {g:Gan} (ids:List Int) (a:Int) (h:pS c l g ids=true):pS c l g (chS c l g ids a)=true/\(chS c l g ids a).Sublist ids:=by
 have e:chS c l g ids a=if pS c l g (dW ids a)=true then dW ids a else ids:=rfl
 rw [e]
 cases hf:pS c l g (dW ids a) with
 | true=>rw [if_pos rfl];exact ⟨hf,Ix⟩
 | false=>rw [if_neg (by decide)];exact ⟨h,Jo _⟩
theorem aBr {c:Con} {l:List Rn} {g:Gan} (bs:List Int):∀ (ids:List Int),pS c l g ids=true->pS c l g (bs.foldl (chS c l g) ids)=true/\(bs.foldl (chS c l g) ids).Sublist ids:=by
 induction bs with
 | nil=>intro ids h;exact ⟨h,Jo _⟩
 | cons a r ih=>
  intro ids h
  have h1:=aEU ids a h
  rw [Av]
  generalize chS c l g ids a=q at h1
  obtain ⟨h2,h3⟩:=ih q h1.1
  exact ⟨h2,h3.trans h1.2⟩
theorem xK {c:Con} {l:List Rn} {g:Gan} {R:List Int} (h:fS c l g=some R):qK c (ofL c l) g.ten (dem g)=true/\R.Nodup/\(∀ n∈R,Was c l n)/\pS c l g R=true:=by
 unfold fS at h
 split at h
 .rename_i hw
  split at h
  .cases h
  .rename_i ids hc
   cases h
   obtain ⟨h1,h2,h3⟩:=L6 _ [] (by simp) (by simp) hc
   obtain ⟨h4,h5⟩:=aBr ids ids h3
   exact ⟨hw,h5.nodup h1,fun n hn=>h2 n (h5.subset hn),h4⟩
 .cases h
def FP (l:List Rn):Prop:=l.Pairwise fun a b=>a.g.id≠b.g.id/\a.seq≠b.seq
theorem wV {a:Int}:∀ {q:List Rn},q.Pairwise (fun x y=>x.g.id≠y.g.id)->(∃ x∈q,x.g.id=a)->(q.filter fun y=>!(y.g.id==a)).length+1=q.length
 | [],_,h=>by obtain ⟨x,hx,_⟩:=h;cases hx
 | y::r,hp,h=>by
  have hp:=Cv.1 hp
  rw [Hl]
  by_cases hy:y.g.id=a
  .have e:(r.filter fun y=>!(y.g.id==a))=r:=Fu.2 fun z hz=>by
    have:=hp.1 z hz
    rw [hy] at this
    have:(z.g.id==a)=false:=by simpa using fun e=>this e.symm
    rw [this];rfl
   rw [if_neg (by simp [hy]),e]
   simp
  .obtain ⟨x,hx,he⟩:=h
   have hx:x∈r:=by
    rcases Bd.1 hx with rfl | hx
    .exact absurd he hy
    .exact hx
   have:=wV hp.2 ⟨x,hx,he⟩
   rw [if_pos (by simp [hy])]
   simp only [Bo]
   omega
theorem qAa (l:List Rn) (a:Int) (r:List Int):aC l (a::r)=(aC l r).filter fun x=>!(x.g.id==a):=by
 unfold aC
 rw [Lc]
 refine Ll fun x _=>?_
 unfold inB
 rw [Hg]
 cases (r.any fun y=>x.g.id==y)<;>cases (x.g.id==a)<;>rfl
theorem wT {l:List Rn} (ho:FP l):∀ {ids:List Int},ids.Nodup->(∀ n∈ids,∃ x∈l,x.g.id=n)->(aC l ids).length+ids.length=l.length
 | [],_,_=>by rw [fH];simp
 | a::r,hn,hm=>by
  have hn:=Cc.1 hn
  have ih:=wT ho hn.2 fun n h=>hm n (by simp [h])
  obtain ⟨x,hx,he⟩:=hm a (by simp)
  have hp:(aC l r).Pairwise fun x y=>x.g.id≠y.g.id:=(ho.sublist Ix).imp fun h=>h.1
  have:=wV (a:=a) hp ⟨x,jH.2 ⟨hx,by rw [he];exact hn.1⟩,he⟩
  rw [qAa]
  simp only [Bo]
  omega
theorem aC9 {l:List Rn} (ho:FP l) {x y:Rn} (hx:x∈l) (hy:y∈l) (h:x.g.id=y.g.id):x=y:=by
 obtain ⟨i,hi,rfl⟩:=Iw hx
 obtain ⟨j,hj,rfl⟩:=Iw hy
 have hp:=Fh.1 ho
 rcases Nat.lt_trichotomy i j with h1 | rfl | h1
 .exact absurd h (hp i j hi hj h1).1
 .rfl
 .exact absurd h.symm (hp j i hj hi h1).1
theorem aEV {c:Con} {l:List Rn} {g:Gan} {R:List Int} (ho:FP l) (h:fS c l g=some R):R.length<=l.length:=by
 obtain ⟨_,w2,w3,_⟩:=xK h
 have:=wT ho w2 fun n hn=>by
  obtain ⟨_,x,h1,h2,_⟩:=w3 n hn
  exact ⟨x,h1,h2⟩
 omega
abbrev cM:Int:=1099511627776
theorem qG {v e:Int} (h0:0<=v) (h1:v<=cM) (he:0<=e):iL v e=min (v+e) cM:=by unfold iL fK cM at *;omega
def bW:List Int->Int
 | []=>0
 | x::r=>x+bW r
theorem kN:∀ {es:List Int},(∀ e∈es,0<=e)->0<=bW es
 | [],_=>Dr _
 | x::r,h=>by
  have:=kN (es:=r) fun e he=>h e (by simp [he])
  have:=h x (by simp)
  unfold bW
  omega
theorem tI:∀ {es:List Int} {v:Int},0<=v->v<=cM->(∀ e∈es,0<=e)->es.foldl iL v=min (v+bW es) cM
 | [],v,h0,h1,_=>by
  unfold bW
  show v=_
  omega
 | x::r,v,h0,h1,h=>by
  have hx:=h x (by simp)
  have hr:=kN (es:=r) fun e he=>h e (by simp [he])
  rw [Av,qG h0 h1 hx,tI (by unfold cM at *;omega) (by omega) fun e he=>h e (by simp [he])]
  have e:bW (x::r)=x+bW r:=rfl
  rw [e]
  omega
structure Prj (p:V3->Int):Prop where
 add:∀ u v,p (eF u v)=iL (p u) (p v)
 sub:∀ u v,p (xS u v)=S9 (p u) (p v)
 pos:∀ u,p (aGy u)=max (p u) 0
 zero:p V3.zero=0
theorem YO:Prj V3.a:=⟨fun _ _=>rfl,fun _ _=>rfl,fun _=>rfl,rfl⟩
theorem YN:Prj V3.b:=⟨fun _ _=>rfl,fun _ _=>rfl,fun _=>rfl,rfl⟩
theorem YM:Prj V3.c:=⟨fun _ _=>rfl,fun _ _=>rfl,fun _=>rfl,rfl⟩
section
variable {p:V3->Int} (hp:Prj p)
include hp
theorem F5 (us:List V3):∀ (B:List Int) (v:V3),p (B.foldl (smS us) v)=(B.map fun t=>p (atV us t)).foldl iL (p v)
 | [],v=>rfl
 | t::r,v=>by
  rw [Av,F5 us r,Bk,Av]
  congr 1
  exact hp.add _ _
def kE (ns:List Nod) (p:V3->Int) (us:List V3) (t s:Int):Int:=if s=t then 0 else max (S9 (p (xS (bX ns s).n (bX ns s).l)) (p (atV us s))) 0
theorem Q8 (ns:List Nod) (us:List V3) (t:Int):∀ (B:List Int) (v:V3),0<=p v->p v<=cM->p (B.foldl (EU ns us t) v)=(B.map (kE ns p us t)).foldl iL (p v)
 | [],v,_,_=>rfl
 | s::r,v,h0,h1=>by
  rw [Av,Bk,Av]
  have e:p (EU ns us t v s)=iL (p v) (kE ns p us t s):=by
   unfold EU kE
   by_cases h:s=t
   .rw [if_pos (decide_eq_true h),if_pos h,qG h0 h1 (Dr _)]
    omega
   .rw [if_neg (by rw [decide_eq_false h];decide),if_neg h,hp.add,hp.pos,hp.sub]
  have hk:0<=kE ns p us t s:=by unfold kE;split<;>omega
  have hr:0<=iL (p v) (kE ns p us t s)/\iL (p v) (kE ns p us t s)<=cM:=by
   rw [qG h0 h1 hk]
   unfold cM at *
   omega
  rw [Q8 ns us t r _ (by rw [e];exact hr.1) (by rw [e];exact hr.2),e]
end
theorem QV (c:Con) (l:List Rn):(ofL c l).length=c.ns.length:=by unfold ofL lN;simp
theorem aDc {c:Con} {l:List Rn} (hd:∀ x∈l,(dem x.g).pos) (q:Rn->Bool) (s:Int):(0<=(atV (ofL c (l.filter q)) s).a/\0<=(atV (ofL c (l.filter q)) s).b/\0<=(atV (ofL c (l.filter q)) s).c)/\(atV (ofL c (l.filter q)) s).le (atV (ofL c l) s)/\((atV (ofL c l) s).a<=cM/\(atV (ofL c l) s).b<=cM/\(atV (ofL c l) s).c<=cM):=by
 by_cases hs:0<=s/\s.toNat<c.ns.length
 .rw [tO hs,tO hs]
  obtain ⟨h1,h2⟩:=sW (c:=c) (j:=s.toNat) q l V3.zero V3.zero hd (BH _) ID
  have h3:=(sW (c:=c) (j:=s.toNat) (fun _=>true) (l.filter q) V3.zero V3.zero (fun x hx=>hd x (Dx.1 hx).1) (BH _) ID).2
  exact ⟨⟨h3.1.1,h3.2.1.1,h3.2.2.1⟩,h1,h2.1.2,h2.2.1.2,h2.2.2.2⟩
 .have z:∀ l,atV (ofL c l) s=V3.zero:=fun l=>by
   unfold atV
   by_cases h0:s<0
   .rw [if_pos (decide_eq_true h0)]
   .rw [if_neg (by rw [decide_eq_false h0];decide),Bb (by rw [QV];omega)]
    rfl
  rw [z,z]
  exact ⟨by decide,BH _,by decide⟩
theorem UU (need:V3) (xs:List V3) (h:Int) (j:Nat):((nG need xs h)[j]?).getD V3.zero=if 0<=h/\h.toNat<xs.length/\h.toNat=j then xS ((xs[j]?).getD V3.zero) need else (xs[j]?).getD V3.zero:=by
 unfold nG
 by_cases h1:0<=h
 .rw [if_pos (decide_eq_true h1)]
  by_cases h2:h<(xs.length:Int)
  .rw [if_pos (decide_eq_true h2),Hd]
   by_cases h3:h.toNat=j
   .rw [if_pos h3,if_pos (by omega),if_pos ⟨h1,by omega,h3⟩,h3]
    rfl
   .rw [if_neg h3,if_neg (fun q=>h3 q.2.2)]
  .rw [if_neg (by rw [decide_eq_false h2];decide),if_neg (fun q=>by omega)]
 .rw [if_neg (by rw [decide_eq_false h1];decide),if_neg (fun q=>h1 q.1)]
def wiS (h:Int) (b:Bool) (y:Int):Bool:=if b=true then true else decide (y=h)
def IF (G hs:List Int):Bool:=hs.all fun h=>G.foldl (wiS h) false
def aHL (h n y:Int):Int:=if y=h then n+1 else n
def O5 (h:Int) (l:List Int):Int:=l.foldl (aHL h) 0
def aD4 (free:List V3) (need:V3) (hs:List Int) (h:Int):Bool:=if decide (h<0)=true then false else if decide ((free.length:Int)<=h)=true then false else !decide (fT ((free[h.toNat]?).getD V3.zero) need<O5 h hs)
def RS (free:List V3) (need:V3) (hs:List Int):Bool:=hs.all (aD4 free need hs)
def HZ (free:List V3) (need:V3) (hs:List Int) (G:List Int):Bool:=IF G hs&&RS free need hs
def DM (c:Con) (free:List V3) (g:Gan) (hs:List Int):Bool:=if ((hs.length:Int)=g.pods) then (gpL c g.lev).any (HZ free g.need hs) else false
theorem H8 {c:Con} {lv a b:Int} (h0:0<=lv) (h3:lv<=3):alB c lv a b=true↔oT c lv a=oT c lv b:=by
 rw [H7 c lv a b h0 h3]
 simp
theorem X7 {c:Con} {lv a b:Int} (h0:0<=lv) (h3:lv<=3) (h:oT c lv a=oT c lv b):∀ (s:List (List Int)) (n:Nat),cO c lv a s n=cO c lv b s n
 | [],n=>rfl
 | g::r,n=>by
  unfold cO
  rw [X7 h0 h3 h r (n+1),H7 c lv _ a h0 h3,H7 c lv _ b h0 h3,h]
theorem X6 (c:Con) (lv i x:Int):∀ (s:List (List Int)) (k n:Nat),(∀ g∈s,g≠[])->cO c lv i (s.set k ((s[k]?).getD []++[x])) n=cO c lv i s n
 | [],k,n,_=>by simp
 | g::r,0,n,h=>by
  have hg:=h g (Ar ..)
  cases g with
  | nil=>exact absurd rfl hg
  | cons a t=>rfl
 | g::r,k+1,n,h=>by
  have ih:=X6 c lv i x r k (n+1) (fun g hg=>h g (Bj _ hg))
  show cO c lv i (g::r.set k ((r[k]?).getD []++[x])) n=_
  unfold cO
  rw [ih]
theorem QJ (c:Con) (lv i:Int) (g:List Int):∀ (s:List (List Int)) (n:Nat),cO c lv i (s++[g]) n=match cO c lv i s n with
   | some k=>some k
   | none=>if alB c lv (g.headD 0) i=true then some (n+s.length) else none
 | [],n=>by simp [cO]
 | q::r,n=>by
  show cO c lv i (q::(r++[g])) n=_
  unfold cO
  by_cases h:alB c lv (q.headD 0) i=true
  .rw [if_pos h,if_pos h]
  .rw [if_neg h,if_neg h,QJ c lv i g r (n+1)]
   rw [show n+(q::r).length=n+1+r.length from by simp;omega]
theorem QI {c:Con} {lv i:Int}:∀ {s:List (List Int)} {n k:Nat},cO c lv i s n=some k->n<=k/\∃ G,s[k-n]? =some G/\alB c lv (G.headD 0) i=true
 | [],n,k,h=>by cases h
 | g::r,n,k,h=>by
  unfold cO at h
  by_cases h1:alB c lv (g.headD 0) i=true
  .rw [if_pos h1] at h
   cases h
   exact ⟨Au _,g,by simp,h1⟩
  .rw [if_neg h1] at h
   obtain ⟨h2,G,h3,h4⟩:=QI h
   refine ⟨by omega,G,?_,h4⟩
   rw [show k-n=(k-(n+1))+1 from by omega]
   exact h3
def aFb (c:Con) (lv:Int) (m:Nat) (s:List (List Int)):Prop:=
 (∀ a:Nat,a<m->∃ k G,cO c lv (a:Int) s 0=some k/\s[k]? =some G/\(a:Int)∈G)/\∀ G∈s,G≠[]/\G.Nodup/\∀ x∈G,0<=x/\x<(m:Int)/\alB c lv (G.headD 0) x=true
theorem aAk {c:Con} {lv:Int} (h0:0<=lv) (h3:lv<=3) {m:Nat} {s:List (List Int)} (h:aFb c lv m s):aFb c lv (m+1) (rgS c lv s m):=by
 obtain ⟨h1,h2⟩:=h
 have hne:∀ g∈s,g≠[]:=fun g hg=>(h2 g hg).1
 unfold rgS
 cases hq:cO c lv (m:Int) s 0 with
 | some k=>
  obtain ⟨_,G0,hG0,hal⟩:=QI hq
  rw [Hu] at hG0
  have hk:k<s.length:=(Ab.1 hG0).1
  have hmem:G0∈s:=Ap hG0
  refine ⟨fun a ha=>?_,fun G hG=>?_⟩
  .show ∃ k' G,cO c lv (a:Int) (s.set k ((s[k]?).getD []++[(m:Int)])) 0=some k'/\(s.set k ((s[k]?).getD []++[(m:Int)]))[k']? =some G/\(a:Int)∈G
   rw [X6 c lv (a:Int) (m:Int) s k 0 hne,hG0]
   by_cases ham:a=m
   .subst ham
    refine ⟨k,_,hq,by rw [Ao hk],by simp⟩
   .obtain ⟨k',G',e1,e2,e3⟩:=h1 a (by omega)
    by_cases hkk:k=k'
    .subst hkk
     rw [hG0] at e2
     cases e2
     exact ⟨k,G0++[(m:Int)],e1,by rw [Ao hk];rfl,Ba.2 (.inl e3)⟩
    .exact ⟨k',G',e1,by rw [Ax hkk];exact e2,e3⟩
  .have hG:G∈s.set k ((s[k]?).getD []++[(m:Int)]):=hG
   rw [hG0] at hG
   have hG:G∈s.set k (G0++[(m:Int)]):=hG
   rcases Di hG with hG | rfl
   .obtain ⟨a1,a2,a3⟩:=h2 G hG
    exact ⟨a1,a2,fun x hx=>⟨(a3 x hx).1,by have:=(a3 x hx).2.1;omega,(a3 x hx).2.2⟩⟩
   .obtain ⟨a1,a2,a3⟩:=h2 G0 hmem
    have hhd:(G0++[(m:Int)]).headD 0=G0.headD 0:=by
     cases G0 with
     | nil=>exact absurd rfl a1
     | cons y t=>rfl
    refine ⟨by simp,?_,fun x hx=>?_⟩
    .rw [Bm]
     refine ⟨a2,by simp,fun x hx y hy=>?_⟩
     simp at hy
     subst hy
     have:=(a3 x hx).2.1
     omega
    .rw [hhd]
     rcases Ba.1 hx with hx | hx
     .exact ⟨(a3 x hx).1,by have:=(a3 x hx).2.1;omega,(a3 x hx).2.2⟩
     .simp at hx
      subst hx
      exact ⟨by omega,by omega,hal⟩
 | none=>
  refine ⟨fun a ha=>?_,fun G hG=>?_⟩
  .show ∃ k' G,cO c lv (a:Int) (s++[[(m:Int)]]) 0=some k'/\(s++[[(m:Int)]])[k']? =some G/\(a:Int)∈G
   rw [QJ]
   by_cases ham:a=m
   .subst ham
    rw [hq]
    refine ⟨0+s.length,[(a:Int)],if_pos ((H8 h0 h3).2 rfl),by simp,by simp⟩
   .obtain ⟨k',G',e1,e2,e3⟩:=h1 a (by omega)
    rw [e1]
    refine ⟨k',G',rfl,?_,e3⟩
    rw [Af (Ab.1 e2).1]
    exact e2
  .have hG:G∈s++[[(m:Int)]]:=hG
   rcases Ba.1 hG with hG | hG
   .obtain ⟨a1,a2,a3⟩:=h2 G hG
    exact ⟨a1,a2,fun x hx=>⟨(a3 x hx).1,by have:=(a3 x hx).2.1;omega,(a3 x hx).2.2⟩⟩
   .simp at hG
    subst hG
    refine ⟨by simp,by simp,fun x hx=>?_⟩
    simp at hx
    subst hx
    exact ⟨by omega,by omega,(H8 h0 h3).2 rfl⟩
theorem G8 {c:Con} {lv:Int} (h0:0<=lv) (h3:lv<=3):aFb c lv c.hs.length (gpL c lv):=by
 rw [<-aGr]
 unfold rgL
 rw [if_neg (by simp;omega),if_neg (by simp;omega)]
 have key:∀ m:Nat,aFb c lv m ((Dh m).foldl (rgS c lv) []):=fun m=>by
  induction m with
  | zero=>exact ⟨fun a ha=>by omega,fun G hG=>by cases hG⟩
  | succ m ih=>
   rw [Kr,Jn]
   exact aAk h0 h3 ih
 exact key _
theorem aGX {c:Con} {lv lw a b:Int} (h:lv<=lw) (hk:oT c lv a=oT c lv b):oT c lw a=oT c lw b:=by
 unfold oT ofK at *
 simp only [Ko,and_true] at hk⊢
 obtain ⟨k1,k2,k3,k4⟩:=hk
 refine ⟨k1,?_,?_,?_⟩
 .by_cases h2:2<lw
  .simp [h2]
  .have:¬ 2<lv:=by omega
   simpa [h2,this] using k2
 .by_cases h2:1<lw
  .simp [h2]
  .have:¬ 1<lv:=by omega
   simpa [h2,this] using k3
 .by_cases h2:0<lw
  .simp [h2]
  .have:¬ 0<lv:=by omega
   simpa [h2,this] using k4
theorem aG7 {c:Con} {lv lw:Int} (h0:0<=lv) (h:lv<=lw) (h3:lw<=3) {gr:List Int} (hg:gr∈gpL c lv):gr.Nodup/\∃ G∈gpL c lw,∀ x∈gr,x∈G:=by
 obtain ⟨_,a2⟩:=G8 (c:=c) h0 (Fo h h3)
 obtain ⟨b1,_⟩:=G8 (c:=c) (Fo h0 h) h3
 obtain ⟨c1,c2,c3⟩:=a2 gr hg
 refine ⟨c2,?_⟩
 have hh:gr.headD 0∈gr:=by
  cases gr with
  | nil=>exact absurd rfl c1
  | cons y t=>exact Ar ..
 obtain ⟨d1,d2,_⟩:=c3 _ hh
 have hn:(gr.headD 0)=((gr.headD 0).toNat:Int):=by omega
 obtain ⟨k,G,e1,e2,_⟩:=b1 (gr.headD 0).toNat (by omega)
 rw [<-hn] at e1
 refine ⟨G,Ap e2,fun x hx=>?_⟩
 obtain ⟨f1,f2,f3⟩:=c3 x hx
 have hk:=aGX h ((H8 h0 (Fo h h3)).1 f3)
 rw [X7 (Fo h0 h) h3 hk] at e1
 have hxn:x=(x.toNat:Int):=by omega
 obtain ⟨k',G',g1,g2,g3⟩:=b1 x.toNat (by omega)
 rw [<-hxn] at g1 g3
 rw [g1] at e1
 cases e1
 rw [g2] at e2
 cases e2
 exact g3
theorem N6 {free:List V3} {g:Gan}:∀ (gr out:List Int) (h:Int),h∈gr.foldl (inS free g) out->h∈out\/(h∈gr/\0<=h/\h<(free.length:Int))
 | [],out,h,hh=>.inl hh
 | u::r,out,h,hh=>by
  rw [Av] at hh
  rcases N6 r _ h hh with hh | hh
  .unfold inS at hh
   by_cases h1:u<0
   .rw [if_pos (decide_eq_true h1)] at hh
    exact .inl hh
   .rw [if_neg (by rw [decide_eq_false h1];decide)] at hh
    by_cases h2:(free.length:Int)<=u
    .rw [if_pos (decide_eq_true h2)] at hh
     exact .inl hh
    .rw [if_neg (by rw [decide_eq_false h2];decide)] at hh
     rcases Ba.1 hh with hh | hh
     .exact .inl hh
     .have:=(Gf.1 hh).2
      subst this
      exact .inr ⟨Ar ..,by omega,by omega⟩
  .exact .inr ⟨Bj _ hh.1,hh.2⟩
def rmN (free:List V3) (g:Gan) (h:Int):Nat:=(max (fT ((free[h.toNat]?).getD V3.zero) g.need) 0).toNat
theorem aDN (free:List V3) (g:Gan) (out:List Int) (u h:Int):(inS free g out u).count h<=out.count h+(if u=h then rmN free g h else 0):=by
 unfold inS
 split
 .omega
 .split
  .omega
  .rw [List.count_append,List.count_replicate]
   by_cases hu:u=h
   .subst hu
    rw [if_pos rfl]
    simp only [beq_self_eq_true,if_true]
    unfold rmN inN
    omega
   .rw [if_neg hu]
    simp [hu]
theorem RL (free:List V3) (g:Gan) (h:Int):∀ (gr out:List Int),gr.Nodup->(gr.foldl (inS free g) out).count h<=out.count h+(if h∈gr then rmN free g h else 0)
 | [],out,_=>by simp
 | u::r,out,hn=>by
  rw [Av]
  have h1:=RL free g h r (inS free g out u) (Cc.1 hn).2
  have h2:=aDN free g out u h
  by_cases hu:u=h
  .subst hu
   rw [if_neg (Cc.1 hn).1] at h1
   rw [if_pos rfl] at h2
   rw [if_pos (Ar ..)]
   omega
  .rw [if_neg hu] at h2
   by_cases hm:h∈r
   .rw [if_pos hm] at h1
    rw [if_pos (Bj _ hm)]
    omega
   .rw [if_neg hm] at h1
    omega
theorem HT (h:Int):∀ (l:List Int) (n:Int),l.foldl (aHL h) n=n+(l.count h:Nat)
 | [],n=>by simp
 | y::r,n=>by
  rw [Av,HT h r]
  unfold aHL
  by_cases hy:y=h
  .subst hy
   rw [if_pos rfl,Mn]
   omega
  .rw [if_neg hy,Mj (by simpa using hy)]
theorem zL {G hs:List Int}:IF G hs=true↔ ∀ h∈hs,h∈G:=by
 have key:∀ (h:Int) (G:List Int) (b:Bool),G.foldl (wiS h) b=true↔b=true\/h∈G:=fun h G=>by
  induction G with
  | nil=>intro b;simp
  | cons y r ih=>
   intro b
   rw [Av,ih]
   unfold wiS
   cases b with
   | true=>simp
   | false=>simp [eq_comm]
 unfold IF
 rw [Ch]
 constructor
 .intro q h hh
  have:=(key h G false).1 (q h hh)
  simpa using this
 .intro q h hh
  exact (key h G false).2 (.inr (q h hh))
theorem aAD {c:Con} {free:List V3} {g:Gan} (hv:aU g.need=true) (hg:1<=g.pods) (hl:0<=g.pref/\g.pref<=g.lev/\g.lev<=3) {x:Int×List Int} (h:xI c free g=some x):
  (∀ u∈x.2,0<=u/\u<(free.length:Int)/\((x.2.count u:Nat):Int)<=fT ((free[u.toNat]?).getD V3.zero) g.need)/\DM c free g x.2=true:=by
 have gstep:∀ (gs:List (List Int)),fdG c free g gs=some x->∃ gr∈gs,x.2=inL free g gr/\¬ ((inL free g gr).length:Int)<g.pods:=fun gs=>by
  induction gs with
  | nil=>intro h;cases h
  | cons gr r ih=>
   intro h
   unfold fdG at h
   by_cases h1:((inL free g gr).length:Int)<g.pods
   .rw [if_pos (decide_eq_true h1)] at h
    obtain ⟨q,q1,q2⟩:=ih h
    exact ⟨q,Bj _ q1,q2⟩
   .rw [if_neg (by rw [decide_eq_false h1];decide)] at h
    cases h
    exact ⟨gr,Ar ..,rfl,h1⟩
 have lstep:∀ (n:Nat) (lv:Int),fdL c free g n lv=some x->∃ lw,lv<=lw/\lw<lv+n/\fdG c free g (gpL c lw)=some x:=fun n=>by
  induction n with
  | zero=>intro lv h;cases h
  | succ n ih=>
   intro lv h
   unfold fdL at h
   cases hq:fdG c free g (gpL c lv) with
   | some y=>
    rw [hq] at h
    cases h
    exact ⟨lv,Dr _,by omega,hq⟩
   | none=>
    rw [hq] at h
    obtain ⟨lw,q1,q2,q3⟩:=ih (lv+1) h
    exact ⟨lw,by omega,by omega,q3⟩
 unfold xI at h
 obtain ⟨lw,l1,l2,l3⟩:=lstep _ _ h
 obtain ⟨gr,g1,g2,g3⟩:=gstep _ l3
 have hlw:0<=lw/\lw<=g.lev:=by omega
 obtain ⟨hn,G,hG,hsub⟩:=aG7 hlw.1 hlw.2 hl.2.2 g1
 have hlen:((inL free g gr).length:Int)<=g.pods:=by
  have key:∀ (l:List Int) (out:List Int),(out.length:Int)<=g.pods->((l.foldl (inS free g) out).length:Int)<=g.pods:=fun l=>by
   induction l with
   | nil=>intro out h;exact h
   | cons x r ih=>intro out h;exact ih _ (G5 free g out x h)
  exact key gr [] (by simp;omega)
 have hin:∀ u∈x.2,u∈gr/\0<=u/\u<(free.length:Int):=fun u hu=>by
  rw [g2] at hu
  rcases N6 gr [] u hu with hu | hu
  .cases hu
  .exact hu
 have hcnt:∀ u∈x.2,((x.2.count u:Nat):Int)<=fT ((free[u.toNat]?).getD V3.zero) g.need:=fun u hu=>by
  have h1:=RL free g u gr [] hn
  have h2:0<x.2.count u:=Jd.2 hu
  rw [if_pos (hin u hu).1,show gr.foldl (inS free g) []=x.2 from g2.symm] at h1
  unfold rmN at h1
  simp only [List.count_nil] at h1
  omega
 refine ⟨fun u hu=>⟨(hin u hu).2.1,(hin u hu).2.2,hcnt u hu⟩,?_⟩
 unfold DM
 rw [if_pos (by rw [g2];omega),Il]
 refine ⟨G,hG,?_⟩
 unfold HZ
 rw [zL.2 fun u hu=>hsub u (hin u hu).1,Cb]
 unfold RS
 rw [Ch]
 intro u hu
 unfold aD4
 rw [if_neg (by have:=(hin u hu).2.1;simp;omega),if_neg (by have:=(hin u hu).2.2;simp;omega)]
 have:=hcnt u hu
 have e:O5 u x.2=((x.2.count u:Nat):Int):=by unfold O5;rw [HT];omega
 rw [e]
 simp
 omega
theorem IK {ns:List Nod}:∀ (f:Nat) (s x:Int),x∈upF ns f s->x=s\/∃ d∈ns,d.p=x
 | 0,s,x,h=>by cases h
 | f+1,s,x,h=>by
  unfold upF at h
  by_cases h0:0<=s
  .rw [if_pos (decide_eq_true h0)] at h
   by_cases h1:s.toNat<ns.length
   .rw [dif_pos h1] at h
    by_cases h2:s<=(ns[s.toNat]).p
    .rw [if_pos (decide_eq_true h2)] at h
     simp at h
     exact .inl h
    .rw [if_neg (by rw [decide_eq_false h2];decide)] at h
     rcases Bd.1 h with h | h
     .exact .inl h
     .rcases IK f _ x h with rfl | h
      .exact .inr ⟨_,Bl h1,rfl⟩
      .exact .inr h
   .rw [dif_neg h1] at h
    cases h
  .rw [if_neg (by rw [decide_eq_false h0];decide)] at h
   cases h
theorem UJ {ns:List Nod} {t:Int} (h:aX ns t=true):∀ d∈ns,d.p≠t:=by
 obtain ⟨h0,h1⟩:=tX h
 unfold aX at h
 rw [if_pos (decide_eq_true h0),if_pos (decide_eq_true (by omega)),C0] at h
 intro d hd e
 have:(ns.any fun x=>x.p==t)=true:=Il.2 ⟨d,hd,by simp [e]⟩
 rw [this] at h
 cases h
theorem Q7 {ns:List Nod} {t s:Int} (h:aX ns t=true) (hs:t∈upL ns s):t=s:=by
 rcases IK _ _ _ hs with h1 | ⟨d,hd,e⟩
 .exact h1
 .exact absurd e (UJ h d hd)
theorem QE {ns:List Nod} {t:Int} (h0:0<=t) (h1:t.toNat<ns.length):t∈upL ns t:=by
 obtain ⟨r,hr⟩:=WN h0 h1
 rw [hr]
 exact Ar ..
theorem aDE {ns:List Nod} {t:Int} (h:aX ns t=true):t∈kF ns:=by
 obtain ⟨h0,h1⟩:=tX h
 have key:∀ (m i:Nat),i<=t.toNat->t.toNat<i+m->t∈lvF ns m i:=fun m=>by
  induction m with
  | zero=>intro i a b;omega
  | succ m ih=>
   intro i a b
   unfold lvF
   by_cases hi:i=t.toNat
   .subst hi
    rw [show ((t.toNat:Nat):Int)=t from by omega,if_pos h]
    exact Ar ..
   .have:=ih (i+1) (by omega) (by omega)
    split
    .exact Bj _ this
    .exact this
 exact key _ 0 (by omega) (by omega)
theorem N1 {ns:List Nod} {t:Int} (h:aX ns t=true):bH ns t=[t]:=by
 obtain ⟨h0,h1⟩:=tX h
 have hself:=QE h0 h1
 have hit:∀ s:Int,rN ns t s=if s=t then [t] else []:=fun s=>by
  unfold rN
  by_cases e:s=t
  .subst e
   rw [if_pos hself,if_pos rfl]
  .rw [if_neg e,if_neg fun q=>e (Q7 h q).symm]
 have lo:∀ (m i:Nat),t.toNat<i->(lvF ns m i).flatMap (rN ns t)=[]:=fun m i hi=>by
  rw [List.flatMap_eq_nil_iff]
  intro s hs
  have:=G1 ns m i s hs
  rw [hit,if_neg (by omega)]
 have key:∀ (m i:Nat),i<=t.toNat->t.toNat<i+m->(lvF ns m i).flatMap (rN ns t)=[t]:=fun m=>by
  induction m with
  | zero=>intro i a b;omega
  | succ m ih=>
   intro i a b
   unfold lvF
   by_cases hi:i=t.toNat
   .subst hi
    rw [show ((t.toNat:Nat):Int)=t from by omega,if_pos h,Ie,lo _ _ (by omega),hit,if_pos rfl]
    rfl
   .have:=ih (i+1) (by omega) (by omega)
    split
    .rw [Ie,hit,if_neg (by omega),this]
     rfl
    .exact this
 exact key _ 0 (by omega) (by omega)
section
variable {p:V3->Int} (hp:Prj p)
include hp
def uE (c:Con) (p:V3->Int) (j:Int) (x:Rn):Int:=if aX c.ns x.g.ten=true/\j∈upL c.ns x.g.ten then p (dem x.g) else 0
theorem PT {c:Con} {j:Nat}:∀ (l:List Rn) (v:V3),(∀ x∈l,0<=p (dem x.g))->0<=p v->p v<=cM->p (l.foldl (nR c j) v)=min (p v+bW (l.map (uE c p (j:Int)))) cM/\0<=bW (l.map (uE c p (j:Int)))
 | [],v,_,h0,h1=>by
  show p v=min (p v+0) cM/\(0:Int)<=0
  omega
 | x::r,v,hd,h0,h1=>by
  rw [Av,Bk]
  show _=min (p v+(uE c p (j:Int) x+bW (r.map (uE c p (j:Int))))) cM/\0<=uE c p (j:Int) x+bW (r.map (uE c p (j:Int)))
  have hx:=hd x (Ar ..)
  have e:p (nR c j v x)=min (p v+uE c p (j:Int) x) cM:=by
   unfold nR uE
   by_cases hc:aX c.ns x.g.ten=true/\(j:Int)∈upL c.ns x.g.ten
   .rw [if_pos hc,if_pos hc,hp.add,qG h0 h1 hx]
   .rw [if_neg hc,if_neg hc]
    omega
  have hu:0<=uE c p (j:Int) x:=by unfold uE;split<;>omega
  obtain ⟨ih,ih0⟩:=PT r (nR c j v x) (fun y hy=>hd y (Bj _ hy)) (by rw [e];unfold cM;omega) (by rw [e];unfold cM;omega)
  rw [ih,e]
  unfold cM
  omega
omit hp in
theorem P7 {α:Type} (f g:α->Int):∀ (l:List α),bW (l.map fun x=>f x+g x)=bW (l.map f)+bW (l.map g)
 | []=>rfl
 | x::r=>by
  rw [Bk,Bk,Bk]
  show f x+g x+bW _=(f x+bW _)+(g x+bW _)
  rw [P7 f g r]
  omega
omit hp in
theorem P6 {α:Type} (f:α->Int):∀ (l:List α),(∀ y∈l,0<=f y)->∀ x∈l,f x<=bW (l.map f)
 | [],_,x,h=>by cases h
 | y::r,hf,x,h=>by
  rw [Bk]
  show f x<=f y+bW _
  have h1:=kN (es:=r.map f) fun e he=>by
   obtain ⟨z,hz,rfl⟩:=Bx.1 he
   exact hf z (Bj _ hz)
  have h2:=hf y (Ar ..)
  rcases Bd.1 h with rfl | h
  .omega
  .have:=P6 f r (fun z hz=>hf z (Bj _ hz)) x h
   omega
omit hp in
theorem P5 {α:Type} (f:α->Int):∀ (l:List α),(∀ y∈l,0<=f y)->min (bW (l.map f)) cM<=bW (l.map fun y=>min (f y) cM)/\0<=bW (l.map f)
 | [],_=>by
  show min (0:Int) cM<=0/\(0:Int)<=0
  unfold cM
  omega
 | y::r,hf=>by
  rw [Bk,Bk]
  show min (f y+bW _) cM<=min (f y) cM+bW _/\0<=f y+bW _
  have h2:=hf y (Ar ..)
  obtain ⟨a,b⟩:=P5 f r fun z hz=>hf z (Bj _ hz)
  unfold cM at *
  omega
omit hp in
theorem FL {c:Con} {n:Int}:∀ (l:List Rn),(∀ x∈l,0<=p (dem x.g))->bW (l.map (uE c p n))<=bW ((bH c.ns n).map fun s=>bW (l.map (uE c p s)))
 | [],_=>by
  show 0<=bW ((bH c.ns n).map fun s=>(0:Int))
  exact kN fun e he=>by
   obtain ⟨z,_,rfl⟩:=Bx.1 he
   exact Dr _
 | x::r,hd=>by
  have ih:=FL (c:=c) (n:=n) r fun y hy=>hd y (Bj _ hy)
  have e:bW ((bH c.ns n).map fun s=>bW ((x::r).map (uE c p s)))=bW ((bH c.ns n).map fun s=>uE c p s x)+bW ((bH c.ns n).map fun s=>bW (r.map (uE c p s))):=P7 _ _ _
  rw [e,Bk]
  show uE c p n x+bW _<=_
  have hx:=hd x (Ar ..)
  have hnn:∀ s∈bH c.ns n,0<=uE c p s x:=fun s _=>by unfold uE;split<;>omega
  have h1:uE c p n x<=bW ((bH c.ns n).map fun s=>uE c p s x):=by
   by_cases hc:aX c.ns x.g.ten=true/\n∈upL c.ns x.g.ten
   .have hin:x.g.ten∈bH c.ns n:=by
     unfold bH
     rw [List.mem_flatMap]
     refine ⟨x.g.ten,aDE hc.1,?_⟩
     unfold rN
     rw [if_pos hc.2]
     simp
    have:=P6 (fun s=>uE c p s x) (bH c.ns n) hnn _ hin
    have e2:uE c p x.g.ten x=uE c p n x:=by
     obtain ⟨h0,h1⟩:=tX hc.1
     unfold uE
     rw [if_pos hc,if_pos ⟨hc.1,QE h0 h1⟩]
    rw [<-e2]
    exact this
   .have e2:uE c p n x=0:=by unfold uE;rw [if_neg hc]
    rw [e2]
    exact kN fun e he=>by
     obtain ⟨z,hz,rfl⟩:=Bx.1 he
     exact hnn z hz
  omega
theorem FW {c:Con} {l:List Rn} (hd:∀ x∈l,0<=p (dem x.g)) {n:Int} (hn:c.ok n):p (atV (ofL c l) n)=min (bW (l.map (uE c p n))) cM/\0<=bW (l.map (uE c p n)):=by
 have hz:p V3.zero=0:=hp.zero
 obtain ⟨a,b⟩:=PT hp (c:=c) (j:=n.toNat) l V3.zero hd (by rw [hz];exact Dr _) (by rw [hz];decide)
 rw [tO hn,a,hz]
 have e:((n.toNat:Nat):Int)=n:=by have:=hn.1;omega
 rw [e] at b⊢
 exact ⟨by omega,b⟩
theorem aF5 {c:Con} {l:List Rn} (hd:∀ x∈l,0<=p (dem x.g)) (n:Int):p (iJ c.ns n (ofL c l))=min (bW ((bH c.ns n).map fun s=>min (bW (l.map (uE c p s))) cM)) cM:=by
 have hz:p V3.zero=0:=hp.zero
 have e:(bH c.ns n).map (fun t=>p (atV (ofL c l) t))=(bH c.ns n).map fun s=>min (bW (l.map (uE c p s))) cM:=List.map_congr_left fun s hs=>(FW hp hd (kK c n s hs)).1
 unfold iJ
 rw [F5 hp,e,hz,tI (Dr _) (by decide) fun e he=>by
  obtain ⟨s,hs,rfl⟩:=Bx.1 he
  have:=(FW hp hd (kK c n s hs)).2
  unfold cM
  omega]
 omega
theorem MS {c:Con} {l:List Rn} (hd:∀ x∈l,0<=p (dem x.g)) {n:Int} (hn:c.ok n):p (atV (ofL c l) n)<=p (iJ c.ns n (ofL c l))/\0<=p (atV (ofL c l) n)/\p (iJ c.ns n (ofL c l))<=cM:=by
 obtain ⟨a,a0⟩:=FW hp hd hn
 rw [a,aF5 hp hd n]
 have h1:=FL (p:=p) (c:=c) (n:=n) l hd
 obtain ⟨h2,h3⟩:=P5 (fun s=>bW (l.map (uE c p s))) (bH c.ns n) fun s hs=>(FW hp hd (kK c n s hs)).2
 unfold cM at *
 omega
theorem Z9 (ns:List Nod) (us:List V3) (n t:Int):0<=p (EV ns us n t):=by
 have hz:p V3.zero=0:=hp.zero
 have a2:∀ e∈(bH ns n).map (kE ns p us t),0<=e:=fun e he=>by
  obtain ⟨s,_,rfl⟩:=Bx.1 he
  unfold kE
  split<;>omega
 have s2:=kN a2
 unfold EV
 rw [Q8 hp _ _ _ _ _ (by rw [hz];exact Dr _) (by rw [hz];decide),hz,tI (Dr _) (by decide) a2]
 unfold cM
 omega
theorem H5 {c:Con} {l:List Rn} (hd:∀ x∈l,0<=p (dem x.g)) {need:V3} (hn:0<=p need) {n t:Int} (ho:c.ok n):p (eF (atV (ofL c l) n) need)<=p (eF (eF (iJ c.ns n (ofL c l)) need) (EV c.ns (ofL c l) n t)):=by
 obtain ⟨h1,h2,h3⟩:=MS hp hd ho
 have hk:=Z9 hp c.ns (ofL c l) n t
 rw [hp.add,hp.add,hp.add]
 have a1:=rG (d:=p need) h1
 have a2:=H9 (a:=p (iJ c.ns n (ofL c l))) (by omega) hn
 have a3:=zA a2.1 a2.2 hk
 omega
end
theorem wP (x y z:Int):iL (iL (iL 0 x) 0) y=iL x y/\iL (iL 0 x) y=iL x y:=by
 unfold iL fK
 omega
theorem S3 (x y:V3):eF (eF V3.zero x) y=eF x y:=by
 unfold eF V3.map2 V3.zero
 rw [(wP x.a y.a 0).2,(wP x.b y.b 0).2,(wP x.c y.c 0).2]
theorem ZG {c:Con} {t:Int} (h:c.ok t):atV (kT c.ns) t=(bX c.ns t).n:=by
 obtain ⟨h0,h1⟩:=h
 unfold atV kT
 rw [if_neg (by simp;omega),Bi,Cq h1]
 show (bX c.ns ((t.toNat:Nat):Int)).n=_
 rw [show ((t.toNat:Nat):Int)=t from by omega]
def Q1 (c:Con) (t n:Int):V3:=if n=t then eF (iJ c.ns n (kT c.ns)) (bX c.ns n).b else iJ c.ns n (kT c.ns)
theorem JP {c:Con} {l:List Rn} {x:Rn} (hd:∀ y∈l,(dem y.g).pos) (hx:(dem x.g).pos) (h:KJ c (ofL c l) x.g.ten (dem x.g)=true):∀ n∈cJ c.ns x.g.ten,c.ok n/\cN (atV (ofL c (l++[x])) n) (Q1 c x.g.ten n)=true:=by
 intro n hn
 unfold cJ at hn
 rw [Hk] at hn
 have hok:c.ok n:=FY c _ _ _ hn
 refine ⟨hok,?_⟩
 unfold KJ at h
 by_cases hl:aX c.ns x.g.ten=true
 .rw [if_pos hl,Ch] at h
  have hq:=h n hn
  have e:atV (ofL c (l++[x])) n=eF (atV (ofL c l) n) (dem x.g):=by
   rw [tO hok,tO hok,Jn]
   show nR c n.toNat _ x=_
   unfold nR
   rw [if_pos ⟨hl,by rw [show ((n.toNat:Nat):Int)=n from by have:=hok.1;omega];exact hn⟩]
  rw [e]
  unfold N0 at hq
  unfold Q1
  by_cases ht:n=x.g.ten
  .rw [if_pos (decide_eq_true ht)] at hq
   rw [if_pos ht]
   unfold aC6 at hq
   have e2:iJ c.ns n (kT c.ns)=eF V3.zero (bX c.ns n).n:=by
    unfold iJ
    rw [N1 (by rw [ht];exact hl)]
    show eF V3.zero (atV (kT c.ns) n)=_
    rw [ZG hok]
   rw [e2,S3]
   exact hq
  .rw [if_neg (by rw [decide_eq_false ht];decide)] at hq
   rw [if_neg ht]
   unfold aE8 at hq
   rw [oX] at hq⊢
   exact ⟨Fo (H5 YO (fun y hy=>(hd y hy).1) hx.1 hok) hq.1,Fo (H5 YN (fun y hy=>(hd y hy).2.1) hx.2.1 hok) hq.2.1,Fo (H5 YM (fun y hy=>(hd y hy).2.2) hx.2.2 hok) hq.2.2⟩
 .rw [if_neg hl] at h
  cases h
end Go.Proofs.YtpomiadgghchnaaGreat
