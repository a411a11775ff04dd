/-
  LWS: what the law needs besides, and the law.
-/
import Derived.Test.YtlanfgblaebddaaGreatTA
set_option linter.all false
set_option maxHeartbeats 1000000
open And renaming intro->Aa
open Array renaming getElem?_eq_some_iff->Dw
open Bool renaming and_assoc->Ge,and_eq_true->Af,and_false->Ct,false_and->Dn,false_or->Jm,not_eq_true'->Co,or_eq_false_iff->Hl,true_and->Bw
open Decidable renaming not_not->Dm
open Exists renaming intro->Ai
open Go.Value renaming okWide->Eb
open Int renaming tdiv->Ha,toNat->Ht
open List renaming Nodup->Fp,all_cons->Da,all_eq_true->Bq,any_eq_true->Ef,append_assoc->Ay,append_nil->Bm,drop_drop->Im,drop_eq_getElem_cons->Ad,drop_eq_nil_of_le->Ae,drop_zero->Bx,eq_nil_iff_forall_not_mem->Eh,eq_nil_of_length_eq_zero->Al,filter_cons->Hv,filter_sublist->Gb,foldl_cons->Aq,getD_eq_getElem?_getD->Cw,getElem?_append_left->Ag,getElem?_append_right->Ar,getElem?_cons_succ->Fe,getElem?_eq_getElem->Ab,getElem?_eq_some_iff->Ac,getElem?_map->Bd,getElem?_of_mem->Ch,getElem_mem->Bg,getElem_of_mem->Gr,length_append->Bo,length_cons->Bt,length_eq_zero_iff->Cf,length_filter_le->Dp,length_map->Ck,length_replicate->Fl,length_take->Fc,map_append->Bl,map_map->Cu,mem_append->Ao,mem_append_left->Cd,mem_append_right->Cp,mem_cons->Aj,mem_cons_of_mem->Ap,mem_cons_self->Ak,mem_filter->Dt,mem_map->Bb,mem_map_of_mem->Ca,mem_range->Fu,mem_singleton->Bf,mem_take_iff_getElem->Gk,mergeSort_perm->Ga,nodup_append->Ax,nodup_cons->Bp,nodup_nil->Gh,pairwise_append->Dx,pairwise_cons->Bn,pairwise_iff_getElem->Dh,pairwise_map->Bu,pairwise_singleton->Dq,range->Df,replicate->Ah,take_add->Lq,take_append_drop->De,take_of_length_le->Cn
open List.Pairwise renaming nil->Cz
open List.Perm renaming append_right->Fh
open List.cons renaming inj->Hb
open Nat renaming add_mul->Bz,add_zero->Dy,beq->Av,blt->Eg,blt_eq->Jc,div_div_eq_div_mul->Il,div_eq_of_lt->Ja,div_le_self->Et,div_lt_iff_lt_mul->Ea,div_one->Jp,le_refl->Bi,le_trans->Cm,lt_of_le_of_lt->Ke,lt_of_lt_of_le->Dz,mod_lt->Gp,mul_assoc->Hy,mul_le_mul->Gg,one_mul->Ft,pow_le_pow_right->Hk,sub_self->Ip,zero_le->Cc,zero_mul->Lb
open Option renaming bind_eq_some_iff->Kx,getD_some->Gt
set_option maxRecDepth 10000
namespace Go.AW
open Go.RowKit Go.ChangeShapes Go.WideShapes Go.ChangeAt
theorem zqws0 {P:Prop} (h:P:=by
 refine To.cutC [1,4] 1 rfl rfl rfl rfl ?_
 exact (fF x false r a)):P:=h
theorem zqws1 {P:Prop} (h:P:=by
 refine gV ?_
 refine aY ?_
 refine gV ?_
 refine aY ?_
 refine gW hE ?_;conv=>whnf):P:=h
theorem zqws2 {P:Prop} (h:P:=by
 refine To.part [1,3] [0] rfl rfl rfl ?_
 exact next):P:=h
theorem zqws3 {P:Prop} (h:P:=by
 dsimp only
 by_cases c:p.g.id=h
 .rw [if_pos c]
  exact .inr ⟨⟨p,Ak ..,c⟩,_,rfl⟩
 .rw [if_neg c]
  refine .inl ⟨fun q b=>?_,rfl⟩
  rcases Aj.1 b with rfl | b
  .exact c
  .exact a q b):P:=h
theorem zqws4 {P:Prop} (h:P:=by
 refine cX hE 8 ?_;conv=>whnf
 refine To.cutC [1,4] 1 rfl rfl rfl rfl ?_
 exact (fF x _ r a)):P:=h
theorem zqws5 {P:Prop} (h:P:=by
 replace a:=oN a b
 refine gV ?_
 refine aN ?_
 refine cX hE 10 ?_;conv=>whnf
 exact zqws0):P:=h
theorem zqws6 {P:Prop} (h:P:=by
 obtain ⟨k,j⟩:=back b
 refine .inl ⟨k,?_⟩
 refine gV ?_
 refine To.cut [0,3] 0 rfl rfl rfl rfl ?_
 exact j):P:=h
theorem zqws7 {P:Prop} (h:P:=by
 refine cX hE 2 ?_;conv=>whnf
 exact To.cutC [5,6,7,8] 0 rfl rfl rfl rfl tail):P:=h
theorem zqws8 {P:Prop} (h:P:=by
 replace a:=oN a h3
 refine cX hE 10 ?_;conv=>whnf
 exact zqws0):P:=h
theorem zqws9 {P:Prop} (h:P:=by
 refine To.part [2,5,6,7,8] [0,1,2] rfl rfl rfl ?_
 exact next):P:=h
theorem zqws10 {P:Prop} (h:P:=by
 have hl:0<vs.length:=by rw [h.1];simp
 have:=h.2 0 _ c.av (Ab hl) rfl
 exact ⟨bS this 0 _ rfl,bS this 1 _ rfl⟩):P:=h
theorem zqws11 {P:Prop} (h:P:=by
 refine To.part [6,8,9,10,11] [0] rfl rfl rfl ?_
 exact n0):P:=h
theorem zqws12 {P:Prop} (h:P:=by
 subst this
 refine gV ?_
 refine aY ?_
 refine gW hE ?_;conv=>whnf):P:=h
theorem zqws13 {P:Prop} (h:P:=by
 refine gV ?_
 refine aY ?_
 refine gV ?_
 refine aY ?_
 exact zqws1):P:=h
theorem aHn {args:Array Value} (h:args.toList.length=2):∃ a b,args= #[a,b]:=by
 obtain ⟨l⟩:=args
 match l,h with
 | [a,b],_=>simp
def nX (P:Program) (a:TypeId->Bool):Nat->List Field->Nat->Bool
 | off,[],total=>Av off total
 | off,f::fs,total=>(Av f.offset off&&a f.type)&&nX P a (off+P.cellsOf f.type) fs total
def eL (P:Program):Nat->TypeId->Bool
 | 0,_=>false
 | n+1,t=>match P.underlying t with
  | some .bool=>true
  | some (.int _)=>true
  | some .string=>true
  | some (.struct fs)=>nX P (eL P n) 0 fs.toList (P.cellsOf t)
  | some (.array m e)=>eL P n e&&Av (P.cellsOf t) (m*P.cellsOf e)
  | some (.slice e)=>eL P n e&&Eg 0 (P.cellsOf e)
  | _=>false
theorem tB {P:Program} {w:World} {r:Reach} {b0:Nat} {t:TypeId} {v:Value} (a:aG P t=true) (h:Eb P w r b0 t v):∃ cs:Array Value,v= .agg cs:=by
 unfold Eb at h
 unfold aG at a
 split at h
 .grind
 .grind
 grind
section
variable {H:Type} {N:Nat} {G:DataW H->Prop} {enc:TypeId×Value->H} {P:Program} {w:World} {base:Nat} {spare:Nat->Bool} {held:Bool}
theorem oD {n m:Nat} (u:∀ t,eL P n t=true->∀ cs x,DataW.trod enc P w base spare held m t cs=some x->G x.1->∃ aZ9,cI w cs aZ9/\TyN P N n t aZ9) (cs:List Value):
  ∀ (c:List Field) (off:Nat),(∀ f∈c,∃ y,DataW.trod enc P w base spare held m f.type ((cs.drop f.offset).take (P.cellsOf f.type))=some y/\G y.1)->nX P (eL P n) off c cs.length=true->
   ∃ aZ9,cI w (cs.drop off) aZ9/\TyF (TyN P N n) c aZ9:=by
 intro c
 induction c with
 | nil=>
  intro off _ h
  have:=aB h
  subst this
  exact ⟨[],by simpa using cI.nil,rfl⟩
 | cons f c e=>
  intro off o h
  simp only [nX,Af] at h
  obtain ⟨⟨h1,v⟩,h3⟩:=h
  have d:=aB h1
  obtain ⟨y,q,k⟩:=o f s_
  obtain ⟨a,l,i⟩:=u f.type v _ y q k
  obtain ⟨b,r,j⟩:=e (off+P.cellsOf f.type) (fun g p=>o g (by simp [p])) h3
  refine ⟨a++b,?_,a,b,rfl,i,j⟩
  have s:cs.drop off=(cs.drop off).take (P.cellsOf f.type)++cs.drop (off+P.cellsOf f.type):=by rw [<-Im,De]
  rw [s]
  rw [d] at l
  exact l.append r
theorem qG {n m:Nat} {e:TypeId} (r:eL P n e=true) (p:∀ t,eL P n t=true->∀ cs x,DataW.trod enc P w base spare held m t cs=some x->G x.1->∃ aZ9,cI w cs aZ9/\TyN P N n t aZ9) (cs:List Value):
  ∀ (k:Nat),k*P.cellsOf e<=cs.length->(∀ i,i<k->∃ y,DataW.trod enc P w base spare held m e ((cs.drop (i*P.cellsOf e)).take (P.cellsOf e))=some y/\G y.1)->
   ∃ c:List (List AVal),c.length=k/\(∀ x∈c,TyN P N n e x)/\cI w (cs.take (k*P.cellsOf e)) c.flatten:=by
 intro k
 induction k with
 | zero=>intro _ _;exact ⟨[],rfl,fun x b=>by simp at b,by simpa using cI.nil⟩
 | succ k g=>
  intro q h
  rw [Bz,Ft] at q
  obtain ⟨c,l1,l2,l⟩:=g o_ (fun i s=>h i o_)
  obtain ⟨y,j,f⟩:=h k o_
  obtain ⟨a,o,d⟩:=p e r _ y j f
  refine ⟨c++[a],by simp [l1],fun x b=>?_,?_⟩
  .rcases Ao.1 b with b | b
   .exact l2 x b
   .simp at b;subst b;exact d
  .rw [Bz,Ft,Lq]
   simp only [List.flatten_append,List.flatten_cons,List.flatten_nil,Bm]
   exact l.append o
theorem qH {n m:Nat} {e:TypeId} (C:eL P n e=true) (A:∀ t,eL P n t=true->∀ cs x,DataW.trod enc P w base spare held m t cs=some x->G x.1->∃ aZ9,cI w cs aZ9/\TyN P N n t aZ9) (a:Addr):
  ∀ (k:Nat),(∀ i,i<k->∃ y,((w.cells? base (a.add (i*P.cellsOf e)) (P.cellsOf e)).bind (DataW.trod enc P w base spare held m e))=some y/\G y.1)->
   ∃ (xs:List AVal) (us:List (List Value)),xs.length=k/\us.length=k/\∀ (i:Nat) x u,xs[i]? =some x->us[i]? =some u->x.cells.length=P.cellsOf e/\(∀ j,j<P.cellsOf e->w.cell? ((a.add (i*P.cellsOf e)).add j)=u[j]?)/\cI w u x.cells/\
    TyN P N n e x.cells/\(aG P e=true->∃ l,x= .agg l)/\(aG P e=false->x.cells=[x]):=by
 intro k
 induction k with
 | zero=>intro _;exact ⟨[],[],rfl,rfl,fun i x u c=>by simp at c⟩
 | succ k r=>
  intro s
  obtain ⟨xs,us,l1,l2,v⟩:=r fun i D=>s i o_
  obtain ⟨y,h,o⟩:=s k o_
  obtain ⟨u,z,h⟩:=Kx.1 h
  obtain ⟨_,g,d⟩:=World.cells?_some z
  obtain ⟨aZ9,has,f⟩:=A e C _ y h o
  obtain ⟨x,rfl,q⟩:=f.pack
  refine ⟨xs++[x],us++[u],by simp [l1],by simp [l2],fun i x' B c b=>?_⟩
  by_cases D:i<k
  .rw [Ag o_] at c b
   exact v i x' B c b
  .have p:i=k:=by
    have:=(Ac.1 c).1
    simp at this
    omega
   subst p
   rw [Ar o_] at c b
   rw [l1,Ip] at c
   rw [l2,Ip] at b
   simp at c b
   subst c b
   exact ⟨by rw [<-has.1,g],d,has,f,q⟩
theorem tA (W:Bulk H N G):∀ (n:Nat) (t:TypeId),eL P n t=true->∀ (I:Nat) (cs:List Value) (x:DataW H×List MemPlace),DataW.trod enc P w base spare held I t cs=some x->G x.1->∃ aZ9,cI w cs aZ9/\TyN P N n t aZ9:=by
 intro n
 induction n with
 | zero=>intro t h;cases h
 | succ n ih=>
  intro t h I cs x d J
  unfold eL at h
  unfold TyN
  split at h
  .rename_i g
   try rw [g]
   obtain ⟨b,rfl,_⟩:=DataW.trod_bool g d
   exact ⟨[.bool b],cI.single (.bool b),b,rfl⟩
  .rename_i k g
   try rw [g]
   obtain ⟨m,rfl,_,Q⟩:=DataW.trod_int g d
   simp only [Lit.wf,Af,decide_eq_true_eq] at Q
   exact ⟨[.int k m],cI.single (.int k m (vD Q)),m,rfl,vD Q⟩
  .rename_i g
   try rw [g]
   obtain ⟨s,rfl,r,hs⟩:=DataW.trod_string g d
   obtain ⟨⟨l⟩⟩:=s
   have Z:=W.str _ (by rw [r] at J;exact J)
   exact ⟨[.str l],cI.single (.str l (by have:=dW;have F:l.length<=maxLen:=hs;omega)),l,rfl,Z⟩
  .rename_i fs g
   try rw [g]
   obtain ⟨xs,m,rfl,r,C,hxl,V⟩:=DataW.trod_struct g d
   have y:=W.agg _ (by rw [r] at J;exact J)
   rw [<-C] at h
   have:=oD (fun t U cs x d T=>ih t U m cs x d T) cs fs.toList 0 (fun f Y=>by
    obtain ⟨i,z⟩:=Ch Y
    have S:fs[i]? =some f:=by simpa using z
    have K:=(Dw.1 S).1
    exact ⟨xs[i]' o_,(V i f S).trans (Ab o_),y _ (Ca (Bg _))⟩) h
   simpa using this
  .rename_i m e g
   try rw [g]
   simp only [Af] at h
   obtain ⟨h1,F⟩:=h
   obtain ⟨xs,q,rfl,r,C,hxl,V⟩:=DataW.trod_array g d
   have y:=W.agg _ (by rw [r] at J;exact J)
   have hc:=aB F
   obtain ⟨Ls,l1,l2,M⟩:=qG h1 (fun t U cs x d T=>ih t U q cs x d T) cs m o_ (fun i z=>⟨xs[i]' o_,(V i z).trans (Ab o_),y _ (Ca (Bg _))⟩)
   rw [Cn o_] at M
   exact ⟨Ls.flatten,M,Ls,l1,l2,rfl⟩
  .rename_i e g
   try rw [g]
   simp only [Af] at h
   obtain ⟨h1,F⟩:=h
   have D:0<P.cellsOf e:=by simpa [Jc] using F
   rcases DataW.trod_slice g d with ⟨rfl,_⟩ | ⟨a,len,cap,L,rest,q,rfl,rfl,r,hb,hlc,hcm,hel,V,_⟩
   .exact ⟨[.slice (P.cellsOf e) [] .no],cI.single (.nilslice _),[],rfl,Cc _,fun x d=>by simp at d⟩
   .have y:=W.sl _ _ (by rw [r] at J;exact J)
    obtain ⟨xs,us,l1,l2,M⟩:=qH h1 (fun t U cs x d T=>ih t U q cs x d T) a len (fun i z=>⟨L[i]' o_,(V i z).trans (Ab o_),y.2 _ (Ca (Bg _))⟩)
    have hty:∀ x∈xs,TyN P N n e x.cells/\(aG P e=true->∃ l,x= .agg l)/\(aG P e=false->x.cells=[x]):=fun x d=>by
     obtain ⟨i,z⟩:=Ch d
     have K:=(Ac.1 z).1
     exact (M i x (us[i]' o_) z (Ab o_)).2.2.2
    by_cases h0:len=0
    .subst h0
     have:xs=[]:=Al l1
     subst this
     exact ⟨[.slice (P.cellsOf e) [] .no],cI.single (.emptys _ a cap),[],rfl,Cc _,fun x d=>by simp at d⟩
    .obtain ⟨b,o,sp⟩:=a
     have hx0:xs[0]? =some (xs[0]' o_):=Ab o_
     have X:us[0]? =some (us[0]' o_):=Ab o_
     obtain ⟨c1,c2,c3,_⟩:=M 0 _ _ hx0 X
     have u:=c2 0 D
     have O:0<(us[0]' o_).length:=by rw [c3.1,c1];exact D
     rw [Ab O] at u
     have hsp:sp=none:=by
      have:=World.cell?_spot u
      simpa [Addr.add] using this
     subst hsp
     have key:∀ (i j:Nat) x c,xs[i]? =some x->x.cells[j]? =some c->∃ v,(us.getD i []).getD j undef=v/\w.cell? ⟨b,o+i*P.cellsOf e+j,none⟩=some v/\RepW w v c:=by
      intro i j x c d B
      have K:=(Ac.1 d).1
      have R:us[i]? =some (us[i]' o_):=Ab o_
      obtain ⟨d1,d2,d3,_⟩:=M i x _ d R
      have hjl:=(Ac.1 B).1
      have A:j<(us[i]' o_).length:=by rw [d3.1];exact hjl
      have p:=d2 j o_
      rw [Ab A] at p
      refine ⟨_,rfl,?_,?_⟩
      .rw [Cw,Cw,R]
       simp only [Gt,Ab A]
       rw [aW,aW] at p
       exact p
      .rw [Cw,Cw,R]
       simp only [Gt,Ab A]
       exact d3.2 j _ c (Ab A) B
     refine ⟨[.slice (P.cellsOf e) xs .no],cI.single (.slice (P.cellsOf e) b o len cap xs (fun i j=>(us.getD i []).getD j undef) l1 hlc (by have:=dW;omega) (fun x d=>?_) (fun i j x c d B=>?_) (fun i j x c d B=>?_) (fun i j x c d B=>?_)),xs,rfl,by have h9:=y.1;simp only [Ck] at h9;omega,hty⟩
     .obtain ⟨i,z⟩:=Ch d
      have K:=(Ac.1 z).1
      exact (M i x (us[i]' o_) z (Ab o_)).1
     .obtain ⟨v,rfl,h1,_⟩:=key i j x c d B;exact h1
     .obtain ⟨v,rfl,_,F⟩:=key i j x c d B;exact F.one
     .obtain ⟨v,rfl,_,F⟩:=key i j x c d B;exact F
  .cases h
theorem vV (j:Bulk H N G) {r:Reach} {b0:Nat} {n:Nat} {t:TypeId} {v:Value} {d:DataW H} {ps:List MemPlace}
  (g:aG P t=true) (f:eL P n t=true) (c:Eb P w r b0 t v) (h:DataW.Trod enc P w base spare held t v d ps) (m:G d):∃ aZ9,Rep (Mw w) [] v (.agg aZ9)/\TyN P N n t aZ9:=by
 obtain ⟨cs,rfl⟩:=tB g c
 obtain ⟨b,h⟩:=h
 obtain ⟨aZ9,h1,l⟩:=tA j n t f b _ _ h m
 have e:(Value.agg cs).cells.toList=cs.toList:=rfl
 rw [e] at h1
 refine ⟨aZ9,?_,l⟩
 have:=Rep.agg (M:=Mw w) (ob:=[]) cs.toList aZ9 h1.1 (fun i v a c k=>(h1.2 i v a c k).rep)
 omega
end
end Go.AW
namespace Go.Proofs.YtlanfgblaebddaaGreat
open Go Go.AW Go.Proofs
set_option maxRecDepth 10000
theorem TO (c:Con) (M:Imm) (ob:Hs) (vs:List Value) (h:bT M ob vs [c.av]):((nav c.ns).length:Int)<=9223372036854775807/\((hav c.hs).length:Int)<=9223372036854775807:=by
 exact zqws10
theorem CP (c:Con) (i:c.sm) (g:Gan) (r:Int) (a:dA c.ns g=r):aA Tryz.prog 40 [c.av,g.av] [] (.ret (ii r)) []:=by
 have b:=kB g.need
 have hl:=fO c i g.ten
 unfold dA vI at a
 generalize aH g.need=bv at a b
 generalize rlB c.ns g.ten=bl at a hl
 by_cases e:1<=g.id/\g.id<=1073741824/\1<=g.pods/\g.pods<=16
 .rw [decide_eq_true e] at a
  cases bv with
  | false=>
   have a:0=r:=a
   subst a
   refine c_ Tryz.f40 fun _=>?_
   repeat' first
    | (refine gW hE ?_;conv=>whnf)
    | exact rfl
    | refine .pure _ [] b ?_
    | refine .pure _ [] hl ?_
    | refine aY ?_
    | refine aN ?_
    | refine aF fun h=>?_
    | refine aT fun h=>?_
    | refine Aa (fun h=>?_) (fun h=>?_)
  | true=>
   by_cases d:1<=g.run/\g.run<=1048576/\0<=g.lev/\g.lev<=3/\0<=g.pref/\g.pref<=g.lev
   .rw [decide_eq_true d] at a
    cases bl with
    | false=>
     have a:0=r:=a
     subst a
     refine c_ Tryz.f40 fun _=>?_
     repeat' first
      | (refine gW hE ?_;conv=>whnf)
      | exact rfl
      | refine .pure _ [] b ?_
      | refine .pure _ [] hl ?_
      | refine aY ?_
      | refine aN ?_
      | refine aF fun h=>?_
      | refine aT fun h=>?_
      | refine Aa (fun h=>?_) (fun h=>?_)
    | true=>
     have a:1=r:=a
     subst a
     refine c_ Tryz.f40 fun _=>?_
     repeat' first
      | (refine gW hE ?_;conv=>whnf)
      | exact rfl
      | refine .pure _ [] b ?_
      | refine .pure _ [] hl ?_
      | refine aY ?_
      | refine aN ?_
      | refine aF fun h=>?_
      | refine aT fun h=>?_
      | refine Aa (fun h=>?_) (fun h=>?_)
   .rw [decide_eq_false d] at a
    have a:0=r:=a
    subst a
    refine c_ Tryz.f40 fun _=>?_
    repeat' first
     | (refine gW hE ?_;conv=>whnf)
     | exact rfl
     | refine .pure _ [] b ?_
     | refine .pure _ [] hl ?_
     | refine aY ?_
     | refine aN ?_
     | refine aF fun h=>?_
     | refine aT fun h=>?_
     | refine Aa (fun h=>?_) (fun h=>?_)
    all_goals (exfalso;simp only [decide_eq_true_eq] at *;omega)
 .rw [decide_eq_false e] at a
  have a:0=r:=a
  subst a
  refine c_ Tryz.f40 fun _=>?_
  repeat' first
   | (refine gW hE ?_;conv=>whnf)
   | exact rfl
   | refine .pure _ [] b ?_
   | refine .pure _ [] hl ?_
   | refine aY ?_
   | refine aN ?_
   | refine aF fun h=>?_
   | refine aT fun h=>?_
   | refine Aa (fun h=>?_) (fun h=>?_)
  all_goals (exfalso;simp only [decide_eq_true_eq] at *;omega)
theorem vG (c:Con) (a:c.sm) (g:Gan):aA Tryz.prog 40 [c.av,g.av] [] (.ret (ii (dA c.ns g))) []:=CP c a g _ rfl
noncomputable abbrev xC:Func:=Tryz.f38
theorem PQ (c:Con) (o:c.sm) (now:Int) (l:List Rn) (x:Rn) (p:x.hs.length<=1048576) (r:Int) (j:Nat) (s:j<1048576):
  ∀ (m i:Nat),i+m=x.hs.length->(hJ c.hs.length (x.hs.drop i)=false->r=0)->(hJ c.hs.length (x.hs.drop i)=true->To E xC (.pure (.ret (ii r))) (.head (stk xC 0) [(1,ii now),(2,.slice 14 (rav l) .no),(3,.ref 0 0),(7,ii ((j:Int)+1))] [.cells 25 c.cs]))->
  To E xC (.pure (.ret (ii r))) (.head (stk xC 1) [(1,ii now),(2,.slice 14 (rav l) .no),(3,.ref 0 0),(7,ii j),(8,.ref 1 0),(9,ii i)] [.cells 25 c.cs,.cells 44 x.cs]):=by
 have g:(iv x.hs).length=x.hs.length:=by simp
 have n:(hav c.hs).length=c.hs.length:=by simp
 have h1:=o.hs
 intro m
 induction m with
 | zero=>
  intro i q b a
  rw [Ae o_] at a
  have a:=a rfl
  refine gV ?_
  refine aF fun h=>?_
  repeat' first | (refine gN hE ?_;conv=>whnf) | exact rfl | (refine zt ?_;try intro h) | refine zu (fun h=>?_) fun h=>?_ | fail
  exact To.cut [1,2,3,7] 1 rfl rfl rfl rfl a
 | succ m e=>
  intro i q b a
  have d:i<x.hs.length:=o_
  rw [Ad d] at b a
  have get:=cQ d
  generalize x.hs[i]=u at b a get
  have e:=e (i+1) o_
  unfold hJ at b a
  rw [Da] at b a
  by_cases f:0<=u/\u<(c.hs.length:Int)
  .rw [decide_eq_true f] at b a
   have next:=e b a
   refine gV ?_
   refine aT fun h=>?_
   repeat' first | (refine gN hE ?_;conv=>whnf) | refine ⟨i,rfl,?_⟩ | refine ⟨_,get,?_⟩ | exact rfl | (refine zt ?_;try intro h) | refine zu (fun h=>?_) fun h=>?_ | fail
   exact To.cut [1,2,3,7,8,9] 2 rfl rfl rfl rfl next
  .rw [decide_eq_false f] at b
   have k:=b rfl
   subst k
   refine gV ?_
   refine aT fun h=>?_
   repeat' first
    | (refine gN hE ?_;conv=>whnf)
    | exact rfl
    | refine Ai i (Aa rfl ?_)
    | refine Ai _ (Aa get ?_)
    | refine aY ?_
    | refine aN ?_
    | refine aF fun h=>?_
    | refine aT fun h=>?_
    | refine Aa (fun h=>?_) (fun h=>?_)
   all_goals (exfalso;simp at *;omega)
theorem qAa (c:Con) (q:c.sm) (now:Int) (l:List Rn) (hs:Sm l) (r:Int):∀ (m i:Nat),i+m=l.length->(if (l.drop i).all (N3 c now)=true then (1:Int) else 0)=r->
  To E xC (.pure (.ret (ii r))) (.head (stk xC 0) [(1,ii now),(2,.slice 14 (rav l) .no),(3,.ref 0 0),(7,ii i)] [.cells 25 c.cs]):=by
 have s:(rav l).length=l.length:=by simp
 have h1:=hs.1
 intro m
 induction m with
 | zero=>
  intro i u a
  rw [Ae o_] at a
  have a:1=r:=a
  subst a
  refine gV ?_
  refine aF fun h=>?_
  repeat' first | (refine gN hE ?_;conv=>whnf) | exact rfl | (refine zt ?_;try intro h) | refine zu (fun h=>?_) fun h=>?_ | fail
 | succ m k=>
  intro i u a
  have d:i<l.length:=o_
  have f:=hs.at d
  rw [Ad d,Da] at a
  have get:=cJ d
  generalize l[i]=x at a get f
  have k:=k (i+1) o_
  have b:=vG c q x.g
  have o:(iv x.hs).length=x.hs.length:=by simp
  unfold N3 at a
  by_cases e:DQ c now x
  .rw [if_pos e] at a
   have a:0=r:=a
   subst a
   unfold DQ at e
   generalize dA c.ns x.g=gi at e b
   refine gV ?_
   refine aT fun h=>?_
   repeat' first
    | (refine gN hE ?_;conv=>whnf)
    | exact rfl
    | refine .pure _ [] b ?_
    | refine Ai i (Aa rfl ?_)
    | refine Ai _ (Aa get ?_)
    | refine aY ?_
    | refine aN ?_
    | refine aF fun h=>?_
    | refine aT fun h=>?_
    | refine Aa (fun h=>?_) (fun h=>?_)
   all_goals (exfalso;simp at *;omega)
  .rw [if_neg e] at a
   unfold DQ at e
   generalize dA c.ns x.g=gi at e b
   have n:(gi==0)=false:=by simp;omega
   have p:((x.hs.length:Int) !=x.g.pods)=false:=by simp;omega
   have j:=PQ c q now l x f r i o_ x.hs.length 0 o_ (fun h=>by
    have h:hJ c.hs.length x.hs=false:=h
    rw [h] at a
    exact a.symm) (fun h=>by
    have h:hJ c.hs.length x.hs=true:=h
    rw [h] at a
    exact k a)
   refine gV ?_
   refine aT fun h=>?_
   repeat' first
    | (refine gN hE ?_;conv=>whnf)
    | refine .pure _ [] b ?_
    | refine Ai i (Aa rfl ?_)
    | refine Ai _ (Aa get ?_)
    | refine aY ?_
    | refine aN ?_
    | refine aF fun h=>?_
    | refine aT fun h=>?_
    | refine Aa (fun h=>absurd (show (gi==0)=true from h) (by rw [n];decide)) (fun h=>?_)
    | refine Aa (fun h=>absurd h (by rw [o,p];decide)) (fun h=>?_)
   all_goals exact To.cut [1,2,3,7,8,9] 2 rfl rfl rfl rfl j
theorem IP (c:Con) (e:c.sm) (now:Int) (l:List Rn) (hs:Sm l) (r:Int) (d:jD c now l=r):aA Tryz.prog 38 [c.av,ii now,.slice 14 (rav l) .no] [] (.ret (ii r)) []:=by
 have i:(rav l).length=l.length:=by simp
 have a:=check_ok c e
 unfold jD at d
 by_cases b:DR c now l
 .rw [if_pos b] at d
  subst d
  unfold DR at b
  generalize bC c=k at b a
  refine c_ Tryz.f38 fun _=>?_
  repeat' first
   | (refine gN hE ?_;conv=>whnf)
   | exact rfl
   | refine .pure _ [] a ?_
   | refine aY ?_
   | refine aN ?_
   | refine aF fun h=>?_
   | refine aT fun h=>?_
   | refine Aa (fun h=>?_) (fun h=>?_)
  all_goals (exfalso;simp at *;omega)
 .rw [if_neg b] at d
  unfold DR at b
  generalize bC c=k at b a
  have j:(k !=0)=false:=by simp;omega
  refine c_ Tryz.f38 fun _=>?_
  repeat' first
   | (refine gN hE ?_;conv=>whnf)
   | refine .pure _ [] a ?_
   | refine aY ?_
   | refine aN ?_
   | refine aF fun h=>?_
   | refine aT fun h=>?_
   | refine Aa (fun h=>absurd h (by rw [j];decide)) (fun h=>?_)
  all_goals exact To.cut [1,2,3,7] 1 rfl rfl rfl rfl (qAa c e now l hs r l.length 0 o_ d)
theorem PO (c:Con) (a:c.sm) (now:Int) (l:List Rn) (hs:Sm l):aA Tryz.prog 38 [c.av,ii now,.slice 14 (rav l) .no] [] (.ret (ii (jD c now l))) []:=IP c a now l hs _ rfl
theorem HX (c:Con) (i:c.sm) (g:Gan) (j:0<=g.pods/\g.pods<=16) (e:aH g.need=true) (b:Bool) (d:(bX c [] g).isNone=b):aA Tryz.prog 55 [c.av,g.av] [] (.ret (.bool b)) []:=by
 have a:=kI c i [] ⟨Cc _,fun x h=>by simp at h⟩ g j e
 generalize bX c [] g=Q at a d
 subst d
 unfold fdA at a
 cases Q with
 | none=>
  refine c_ Tryz.f55 fun _=>?_
  repeat' first | (refine gN hE ?_;conv=>whnf) | refine .pure _ [] (aA.nil2 a) ?_ | exact rfl | (refine zt ?_;try intro h) | refine zu (fun h=>?_) fun h=>?_ | fail
 | some x=>
  refine c_ Tryz.f55 fun _=>?_
  repeat' first | (refine gN hE ?_;conv=>whnf) | refine .pure _ [] (aA.nil2 a) ?_ | exact rfl | (refine zt ?_;try intro h) | refine zu (fun h=>?_) fun h=>?_ | fail
theorem KU (c:Con) (b:c.sm) (g:Gan) (d:0<=g.pods/\g.pods<=16) (a:aH g.need=true):aA Tryz.prog 55 [c.av,g.av] [] (.ret (.bool (bX c [] g).isNone)) []:=HX c b g d a _ rfl
end Go.Proofs.YtlanfgblaebddaaGreat
namespace Go.Proofs.YtlanfgblaebddaaGreat.C8
open Go Go.AW Go.Proofs
set_option maxRecDepth 10000
theorem TO (c:Con) (M:Imm) (ob:Hs) (vs:List Value) (h:bT M ob vs [c.av]):((nav c.ns).length:Int)<=9223372036854775807/\((hav c.hs).length:Int)<=9223372036854775807:=by
 exact zqws10
theorem lT {b:Bool} {p q r:Int} (a:(if b then p else q)=r) (h:b=true):p=r:=by subst h;exact a
theorem oN {b:Bool} {p q r:Int} (a:(if b then p else q)=r) (h:b=false):q=r:=by subst h;exact a
theorem AP (v:V3):aA Tryz.prog 89 [.agg v.cs] [] (.ret (.bool (okI v.l))) []:=by
 refine c_ Tryz.f89 fun _=>?_
 refine gV ?_
 refine ⟨by decide,?_⟩
 refine gV ?_
 refine ⟨by decide,?_⟩
 refine gV ?_
 refine ⟨by decide,?_⟩
 refine gV ?_
 refine .pure _ [] (aA.strip (yG v.l)) ?_
 refine gW hE ?_;conv=>whnf
theorem Y0 (g:Gan):aA Tryz.prog 50 [g.av] [] (.ret (.bool g.ok)) []:=by
 refine c_ Tryz.f50 fun _=>?_
 refine gV ?_
 refine .pure _ [] (aA.strip (yG [g.id,g.ten,g.pods,g.run,g.lev,g.pref])) ?_
 refine gV ?_
 refine ⟨fun h=>?_,fun h=>?_⟩
 .refine gV ?_
  refine .pure _ [] (AP g.need) ?_
  refine gV ?_
  unfold Gan.ok
  rw [h]
  rfl
 .refine gV ?_
  unfold Gan.ok
  rw [h]
  rfl
theorem OC (c:Con) (o:((hav c.hs).length:Int)<=9223372036854775807) (r:Bool):∀ (n i:Nat),i+n=c.hs.length->(W1 (c.hs.drop i)&&okI [c.half,c.age])=r->
  To E Tryz.f48 (.pure (.ret (.bool r))) (.head (stk Tryz.f48 1) [(1,.ref 0 0),(5,.int .i64 i)] [.cells 25 c.cs]):=by
 have j:(hav c.hs).length=c.hs.length:=by simp
 intro n
 induction n with
 | zero=>
  intro i l a
  rw [Ae o_] at a
  subst a
  refine gV ?_
  refine ⟨fun h=>absurd (of_decide_eq_true h) o_,fun h=>?_⟩
  refine gV ?_
  refine .pure _ [] (aA.strip (yG [c.half,c.age])) ?_
  refine gV ?_
  rfl
 | succ n k=>
  intro i l a
  have g:i<c.hs.length:=o_
  rw [Ad g] at a
  have a:((c.hs[i].ok&&W1 (c.hs.drop (i+1)))&&okI [c.half,c.age])=r:=a
  generalize m:c.hs[i]=x at a
  have get:(hav c.hs)[i]? =some x.av:=(vC g).trans (by rw [m])
  have e:x.ok=false->r=false:=fun h=>by rw [h] at a;exact a.symm
  refine gV ?_
  refine ⟨fun h=>?_,fun h=>absurd (of_decide_eq_false h) o_⟩
  refine gV ?_
  refine ⟨i,rfl,?_⟩
  refine gV ?_
  refine ⟨_,get,?_⟩
  refine gV ?_
  refine .pure _ [] (aA.strip (yG [x.f,x.b,x.r])) ?_
  refine gV ?_
  refine ⟨fun h1=>?_,fun h1=>?_⟩
  .have h1:=pC h1
   have:=e (by unfold Hos.ok;rw [h1];rfl)
   exact zqws12
  .have h1:=pD h1
   refine gV ?_
   refine .pure _ [] (AP x.c) ?_
   refine gV ?_
   refine ⟨fun d=>?_,fun d=>?_⟩
   .have d:=pC d
    have:=e (by unfold Hos.ok;rw [d,Ct])
    subst this
    refine gW hE ?_;conv=>whnf
   .have d:=pD d
    refine gV ?_
    refine .inl ⟨⟨by simp only [bW];omega,by simp only [bI];omega⟩,?_⟩
    refine gV ?_
    refine To.cut [1,5] 1 rfl rfl rfl rfl ?_
    refine k (i+1) o_ ?_
    have:x.ok=true:=by unfold Hos.ok;rw [h1,d];rfl
    rw [this,Bw] at a
    exact a
theorem UR (c:Con) (hl:((nav c.ns).length:Int)<=9223372036854775807) (q:((hav c.hs).length:Int)<=9223372036854775807) (r:Bool):∀ (n i:Nat),i+n=c.ns.length->(aEV (c.ns.drop i)&&(W1 c.hs&&okI [c.half,c.age]))=r->
  To E Tryz.f48 (.pure (.ret (.bool r))) (.head (stk Tryz.f48 0) [(1,.ref 0 0),(3,.int .i64 i)] [.cells 25 c.cs]):=by
 have o:(nav c.ns).length=c.ns.length:=by simp
 intro n
 induction n with
 | zero=>
  intro i v d
  rw [Ae o_] at d
  refine gV ?_
  refine ⟨fun h=>absurd (of_decide_eq_true h) o_,fun h=>?_⟩
  refine gV ?_
  refine To.cut [1,5] 1 rfl rfl rfl rfl ?_
  exact OC c q r c.hs.length 0 o_ d
 | succ n u=>
  intro i v d
  have m:i<c.ns.length:=o_
  rw [Ad m] at d
  have d:((c.ns[i].ok&&aEV (c.ns.drop (i+1)))&&(W1 c.hs&&okI [c.half,c.age]))=r:=d
  generalize s:c.ns[i]=x at d
  have get:(nav c.ns)[i]? =some x.av:=(fU m).trans (by rw [s])
  have a:x.ok=false->r=false:=fun h=>by rw [h] at d;exact d.symm
  refine gV ?_
  refine ⟨fun h=>?_,fun h=>absurd (of_decide_eq_false h) o_⟩
  refine gV ?_
  refine ⟨i,rfl,?_⟩
  refine gV ?_
  refine ⟨_,get,?_⟩
  refine gV ?_
  refine ⟨fun h1=>?_,fun h1=>?_⟩
  .have h1:decide (x.p< -1)=true:=h1
   have h1:=of_decide_eq_true h1
   have:=a (by unfold Nod.ok;rw [decide_eq_false (p:= -1<=x.p) o_];simp only [Dn])
   subst this
   refine gV ?_
   refine aY ?_
   exact zqws13
  .have h1:decide (x.p< -1)=false:=h1
   have h1:=of_decide_eq_false h1
   refine gV ?_
   refine ⟨fun e=>?_,fun e=>?_⟩
   .have e:decide (1099511627776<x.p)=true:=e
    have e:=of_decide_eq_true e
    have:=a (by unfold Nod.ok;rw [decide_eq_false (p:=x.p<=1099511627776) o_];simp only [Dn,Ct])
    subst this
    exact zqws13
   .have e:decide (1099511627776<x.p)=false:=e
    have e:=of_decide_eq_false e
    refine gV ?_
    refine .pure _ [] (aA.strip (yG [x.w])) ?_
    refine gV ?_
    refine ⟨fun h3=>?_,fun h3=>?_⟩
    .have h3:=pC h3
     have:=a (by unfold Nod.ok;rw [h3];simp only [Dn,Ct])
     subst this
     refine gV ?_
     refine aY ?_
     exact zqws1
    .have h3:=pD h3
     refine gV ?_
     refine .pure _ [] (AP x.n) ?_
     refine gV ?_
     refine ⟨fun k=>?_,fun k=>?_⟩
     .have k:=pC k
      have:=a (by unfold Nod.ok;rw [k];simp only [Dn,Ct])
      subst this
      exact zqws1
     .have k:=pD k
      refine gV ?_
      refine .pure _ [] (AP x.b) ?_
      refine gV ?_
      refine ⟨fun j=>?_,fun j=>?_⟩
      .have j:=pC j
       have:=a (by unfold Nod.ok;rw [j];simp only [Dn,Ct])
       exact zqws12
      .have j:=pD j
       refine gV ?_
       refine .pure _ [] (AP x.l) ?_
       refine gV ?_
       refine ⟨fun g=>?_,fun g=>?_⟩
       .have g:=pC g
        have:=a (by unfold Nod.ok;rw [g];simp only [Ct])
        subst this
        refine gW hE ?_;conv=>whnf
       .have g:=pD g
        refine gV ?_
        refine .inl ⟨⟨by simp only [bW];omega,by simp only [bI];omega⟩,?_⟩
        refine gV ?_
        refine To.cut [1,3] 1 rfl rfl rfl rfl ?_
        refine u (i+1) o_ ?_
        have:x.ok=true:=by unfold Nod.ok;rw [h3,k,j,g,decide_eq_true (p:= -1<=x.p) o_,decide_eq_true (p:=x.p<=1099511627776) o_];rfl
        rw [this,Bw] at d
        exact d
theorem aEC (c:Con):aA Tryz.prog 48 [c.av] [] (.ret (.bool c.tok)) []:=by
 refine aA.get _ (TO c) fun ⟨hl,a⟩=>?_
 refine c_ Tryz.f48 fun _=>?_
 refine gV ?_
 refine To.cut [1,3] 1 rfl rfl rfl rfl ?_
 exact UR c hl a _ c.ns.length 0 o_ (by unfold Con.tok;rw [Ge];rfl)
theorem fF (x:Cmd) (b:Bool) (r:Int) (a:(if b then JD x else 1)=r):To E Tryz.f26 (.pure (.ret (ii r))) (.code (oU Tryz.f26 5) [(1,.ref 0 0),(4,.bool b)] [.cells 51 x.cs]):=by
 refine gV ?_
 refine ⟨fun h=>?_,fun h=>?_⟩
 .have h:=pC h
  subst h
  refine gV ?_
  rw [<-a];rfl
 .have h:=pD h
  subst h
  have a:JD x=r:=a
  unfold JD at a
  refine gV ?_
  refine ⟨fun h1=>?_,fun h1=>?_⟩
  .have h1:decide ((12:Int)<((nav x.c.ns).length:Int))=true:=h1
   have h1:=of_decide_eq_true h1
   rw [decide_eq_false o_,Dn] at a
   subst a
   refine gV ?_
   refine aY ?_
   refine gV ?_
   rfl
  .have h1:decide ((12:Int)<((nav x.c.ns).length:Int))=false:=h1
   have h1:=of_decide_eq_false h1
   rw [decide_eq_true o_,Bw] at a
   refine gV ?_
   refine ⟨fun d=>?_,fun d=>?_⟩
   .have d:decide ((24:Int)<((hav x.c.hs).length:Int))=true:=d
    have d:=of_decide_eq_true d
    rw [decide_eq_false o_] at a
    subst a
    refine gV ?_
    rfl
   .have d:decide ((24:Int)<((hav x.c.hs).length:Int))=false:=d
    have d:=of_decide_eq_false d
    rw [decide_eq_true o_] at a
    subst a
    refine gV ?_
    rfl
theorem O9 {g:Gan} (h:g.isZ=true):g.ok=true:=by
 simp only [Gan.isZ,Af,beq_iff_eq,and_true] at h
 obtain ⟨h1,i,h3,e,d,b,a,f,c⟩:=h
 unfold Gan.ok V3.l
 rw [h1,i,h3,e,d,b,a,f,c]
 rfl
theorem aIL (x:Cmd) (r:Int) (a:chk x=r) (h1:(x.k==1)=true):To E Tryz.f26 (.pure (.ret (ii r))) (.code (gQ Tryz.f26 5) [(1,.ref 0 0),(3,.ref 1 0)] [.cells 51 x.cs,.cells 42 Gan.zero.cs]):=by
 have d:x.k=1:=by simpa using h1
 have i:chk x=if x.g.isZ then (if x.n==0 then (if x.c.tok then tM x else 1) else 1) else 1:=by
  unfold chk aBQ aBP aBO zI
  rw [d]
  rfl
 rw [i] at a
 refine gV ?_
 refine ⟨fun b=>?_,fun b=>?_⟩
 .have b:x.g.isZ=true:=b
  replace a:=lT a b
  refine gV ?_
  refine ⟨fun h3=>?_,fun h3=>?_⟩
  .have h3:(x.n==0)=true:=h3
   replace a:=lT a h3
   have h:x.n=0:=by simpa using h3
   have e:tM x=JD x:=by unfold tM aBN;rw [O9 b,h];rfl
   rw [e] at a
   refine gV ?_
   refine .pure _ [] (aEC x.c) ?_
   exact zqws4
  .have h3:(x.n==0)=false:=h3
   exact zqws8
 .have b:x.g.isZ=false:=b
  exact zqws5
theorem O4 {c:Con} (h:c.non=true):c.tok=true:=by
 simp only [Con.non,Af,beq_iff_eq] at h
 obtain ⟨⟨⟨h1,d⟩,h3⟩,b⟩:=h
 obtain ⟨ns,hs,half,age⟩:=c
 dsimp only at h1 d h3 b
 have e:ns=[]:=by cases ns with | nil=>rfl | cons a l=>simp at h1;omega
 have f:hs=[]:=by cases hs with | nil=>rfl | cons a l=>simp at d;omega
 subst e f h3 b
 rfl
theorem aIK (x:Cmd) (r:Int) (a:chk x=r) (h1:(x.k==2)=true):To E Tryz.f26 (.pure (.ret (ii r))) (.code (gQ Tryz.f26 7) [(1,.ref 0 0),(3,.ref 1 0)] [.cells 51 x.cs,.cells 42 Gan.zero.cs]):=by
 have d:x.k=2:=by simpa using h1
 have i:chk x=if x.c.non then (if x.n==0 then zI x else 1) else 1:=by
  unfold chk aBQ aBP aBO
  rw [d]
  rfl
 rw [i] at a
 refine gV ?_
 refine .pure _ [] (qS x.c) ?_
 refine gV ?_
 refine ⟨fun b=>?_,fun b=>?_⟩
 .have b:x.c.non=true:=b
  replace a:=lT a b
  refine gV ?_
  refine ⟨fun h3=>?_,fun h3=>?_⟩
  .have h3:(x.n==0)=true:=h3
   replace a:=lT a h3
   have h:x.n=0:=by simpa using h3
   have e:zI x=if x.g.ok then JD x else 1:=by unfold zI tM aBN;rw [O4 b,h];rfl
   rw [e] at a
   refine gV ?_
   refine .pure _ [] (Y0 x.g) ?_
   exact zqws4
  .have h3:(x.n==0)=false:=h3
   exact zqws8
 .have b:x.c.non=false:=b
  exact zqws5
theorem aF7 (x:Cmd) (r:Int) (a:chk x=r) (h1:x.k=3\/x.k=4\/x.k=5):To E Tryz.f26 (.pure (.ret (ii r))) (.code (gQ Tryz.f26 11) [(1,.ref 0 0),(3,.ref 1 0)] [.cells 51 x.cs,.cells 42 Gan.zero.cs]):=by
 have d:chk x=if x.c.non then (if x.g.isZ then zI x else 1) else 1:=by
  unfold chk aBQ aBP aBO
  rcases h1 with h | h | h<;>rw [h]<;>rfl
 rw [d] at a
 refine gV ?_
 refine .pure _ [] (qS x.c) ?_
 refine gV ?_
 refine ⟨fun b=>?_,fun b=>?_⟩
 .have b:x.c.non=true:=b
  replace a:=lT a b
  refine gV ?_
  refine ⟨fun h3=>?_,fun h3=>?_⟩
  .have h3:x.g.isZ=true:=h3
   replace a:=lT a h3
   have e:zI x=if okI [x.n] then JD x else 1:=by unfold zI tM aBN;rw [O4 b,O9 h3];rfl
   rw [e] at a
   refine gV ?_
   refine .pure _ [] (aA.strip (yG [x.n])) ?_
   exact zqws4
  .have h3:x.g.isZ=false:=h3
   replace a:=oN a h3
   refine cX hE 11 ?_;conv=>whnf
   exact zqws0
 .have b:x.c.non=false:=b
  replace a:=oN a b
  refine gV ?_
  refine aN ?_
  refine cX hE 11 ?_;conv=>whnf
  exact zqws0
theorem aIJ (x:Cmd) (r:Int) (a:chk x=r) (h1:x.k=6):To E Tryz.f26 (.pure (.ret (ii r))) (.code (gQ Tryz.f26 13) [(1,.ref 0 0),(3,.ref 1 0)] [.cells 51 x.cs,.cells 42 Gan.zero.cs]):=by
 have i:chk x=if x.c.non then (if x.g.isZ then (if x.n==0 then zI x else 1) else 1) else 1:=by
  unfold chk aBQ aBP aBO
  rw [h1]
  rfl
 rw [i] at a
 refine gV ?_
 refine .pure _ [] (qS x.c) ?_
 refine gV ?_
 refine ⟨fun b=>?_,fun b=>?_⟩
 .have b:x.c.non=true:=b
  replace a:=lT a b
  refine gV ?_
  refine ⟨fun h3=>?_,fun h3=>?_⟩
  .have h3:x.g.isZ=true:=h3
   replace a:=lT a h3
   have e:(if x.n==0 then zI x else 1)=if (x.n==0) then JD x else 1:=by
    cases h:(x.n==0) with
    | false=>rfl
    | true=>
     have d:x.n=0:=by simpa using h
     show zI x=JD x
     unfold zI tM aBN
     rw [O4 b,O9 h3,d]
     rfl
   rw [e] at a
   refine cX hE 16 ?_;conv=>whnf
   refine To.cutC [1,4] 1 rfl rfl rfl rfl ?_
   exact (fF x _ r a)
  .have h3:x.g.isZ=false:=h3
   exact zqws8
 .have b:x.c.non=false:=b
  exact zqws5
theorem rcheck_any (x:Cmd) (r:Int) (a:chk x=r):aA Tryz.prog 26 [x.av] [] (.ret (ii r)) []:=by
 refine c_ Tryz.f26 fun _=>?_
 refine gV ?_
 refine ⟨fun h1=>?_,fun h1=>?_⟩
 .refine To.cutC [1,3] 2 rfl rfl rfl rfl ?_
  exact aIL x r a h1
 .have h1:(x.k==1)=false:=h1
  refine gV ?_
  refine ⟨fun j=>?_,fun j=>?_⟩
  .refine To.cutC [1,3] 2 rfl rfl rfl rfl ?_
   exact aIK x r a j
  .have j:(x.k==2)=false:=j
   refine gV ?_
   refine ⟨fun h3=>?_,fun h3=>?_⟩
   .have h3:(x.k==3)=true:=h3
    have b:x.k=3:=by simpa using h3
    refine gV ?_
    refine ⟨fun _=>?_,fun h=>absurd (h3.symm.trans h) d_⟩
    refine To.cutC [1,3] 2 rfl rfl rfl rfl ?_
    exact aF7 x r a (.inl b)
   .have h3:(x.k==3)=false:=h3
    refine gV ?_
    refine ⟨fun c=>?_,fun c=>?_⟩
    .have c:(x.k==4)=true:=c
     have b:x.k=4:=by simpa using c
     refine gV ?_
     refine ⟨fun _=>?_,fun h=>absurd (c.symm.trans h) d_⟩
     refine To.cutC [1,3] 2 rfl rfl rfl rfl ?_
     exact aF7 x r a (.inr (.inl b))
    .have c:(x.k==4)=false:=c
     refine gV ?_
     refine ⟨fun i=>?_,fun i=>?_⟩
     .have i:(x.k==5)=true:=i
      have b:x.k=5:=by simpa using i
      refine To.cutC [1,3] 2 rfl rfl rfl rfl ?_
      exact aF7 x r a (.inr (.inr b))
     .have i:(x.k==5)=false:=i
      refine gV ?_
      refine ⟨fun d=>?_,fun d=>?_⟩
      .have d:(x.k==6)=true:=d
       have b:x.k=6:=by simpa using d
       refine To.cutC [1,3] 2 rfl rfl rfl rfl ?_
       exact aIJ x r a b
      .have d:(x.k==6)=false:=d
       have e:(decide (1<=x.k)&&decide (x.k<=6))=false:=by
        simp only [beq_eq_false_iff_ne] at h1 j h3 c i d
        by_cases b:1<=x.k
        .rw [decide_eq_false (p:=x.k<=6) o_,Ct]
        .rw [decide_eq_false b,Dn]
       replace a:=oN a e
       refine cX hE 1 ?_;conv=>whnf
       exact zqws0
theorem _root_.Go.Proofs.YtlanfgblaebddaaGreat.Nod.eqb_eq {x y:Nod}:x.eqb y=true↔x=y:=by
 obtain ⟨_,_,⟨_,_,_⟩,⟨_,_,_⟩,⟨_,_,_⟩⟩:=x
 obtain ⟨_,_,⟨_,_,_⟩,⟨_,_,_⟩,⟨_,_,_⟩⟩:=y
 simp [Nod.eqb,and_assoc]
theorem _root_.Go.Proofs.YtlanfgblaebddaaGreat.Hos.eqb_eq {x y:Hos}:x.eqb y=true↔x=y:=by
 obtain ⟨_,_,_,⟨_,_,_⟩⟩:=x
 obtain ⟨_,_,_,⟨_,_,_⟩⟩:=y
 simp [Hos.eqb]
theorem _root_.Go.Proofs.YtlanfgblaebddaaGreat.Gan.eqb_eq {x y:Gan}:x.eqb y=true↔x=y:=by
 obtain ⟨_,_,_,⟨_,_,_⟩,_,_,_⟩:=x
 obtain ⟨_,_,_,⟨_,_,_⟩,_,_,_⟩:=y
 simp [Gan.eqb,and_assoc]
end Go.Proofs.YtlanfgblaebddaaGreat.C8
namespace Go.Proofs.YtlanfgblaebddaaGreat.Q2
open Go Go.AW Go.Proofs
set_option maxRecDepth 10000
theorem mH (l:List Pend) (hl:l.length<=1000000) (r:Bool):∀ (n i:Nat),i+n=l.length->cW l n i=r->
  To E Tryz.f39 (.pure (.ret (.bool r))) (.head (stk Tryz.f39 0) [(0,.slice 11 (pav l) .no),(3,.int .i64 i)] []):=by
 have p:(pav l).length=l.length:=by simp
 intro n
 induction n with
 | zero=>
  intro i t b
  refine gV ?_
  refine ⟨fun h=>?_,fun h=>?_⟩
  .exact absurd (of_decide_eq_true h) o_
  .refine gV ?_
   rw [<-b]
   rfl
 | succ n s=>
  intro i t b
  have d:i<l.length:=o_
  have b:(oG l i&&cW l n (i+1))=r:=b
  have back:cW l n (i+1)=r->inR .i64 ((i:Int)+1)/\To E Tryz.f39 (.pure (.ret (.bool r))) (.head (stk Tryz.f39 0) [(0,.slice 11 (pav l) .no),(3,.int .i64 ((i:Int)+1))] []):=fun h=>
   ⟨sC o_ o_,by have:=s (i+1) o_ h;push_cast at this;exact this⟩
  refine gV ?_
  refine ⟨fun h=>?_,fun h=>?_⟩
  .refine gV ?_
   refine ⟨fun h1=>?_,fun h1=>?_⟩
   .have g:0<i:=by have:=of_decide_eq_true h1;omega
    have c:i-1<l.length:=o_
    have a:oG l i= !((true&& !decide (l[i-1].seq<l[i].seq))||(findP l[i].id l !=(i:Int))):=by
     unfold oG
     rw [Ab d,Ab c,decide_eq_true g]
    have m:(!decide (l[i-1].seq<l[i].seq))=decide (l[i].seq<=l[i-1].seq):=by
     by_cases o:l[i-1].seq<l[i].seq
     .rw [decide_eq_true o,decide_eq_false o_];rfl
     .rw [decide_eq_false o,decide_eq_true o_];rfl
    rw [m] at a
    refine gV ?_
    refine ⟨i,rfl,?_⟩
    refine gV ?_
    refine ⟨_,fG d,?_⟩
    refine gV ?_
    refine .inl ⟨sC o_ o_,?_⟩
    refine gV ?_
    refine ⟨i-1,by omega,?_⟩
    refine gV ?_
    refine ⟨_,fG c,?_⟩
    refine gV ?_
    refine ⟨fun e=>?_,fun e=>?_⟩
    .refine gV ?_
     refine ⟨fun _=>?_,fun h3=>(by cases h3)⟩
     refine gV ?_
     rw [a,e] at b
     rw [<-b]
     rfl
    .refine gV ?_
     refine ⟨i,rfl,?_⟩
     refine gV ?_
     refine ⟨_,fG d,?_⟩
     refine gV ?_
     refine .pure _ [] (findref_ok _ _) ?_
     refine gV ?_
     refine ⟨fun h3=>?_,fun h3=>?_⟩
     .refine gV ?_
      rw [a,e,h3] at b
      rw [<-b]
      rfl
     .refine gV ?_
      rw [a,e,h3] at b
      exact zqws6
   .have q:i=0:=by have:=of_decide_eq_false h1;omega
    have a:oG l i= !((false&&false)||(findP l[i].id l !=(i:Int))):=by
     unfold oG
     have c:i-1<l.length:=o_
     rw [Ab d,Ab c]
     subst q
     simp
    refine gV ?_
    refine ⟨fun e=>(by cases e),fun _=>?_⟩
    refine gV ?_
    refine ⟨i,rfl,?_⟩
    refine gV ?_
    refine ⟨_,fG d,?_⟩
    refine gV ?_
    refine .pure _ [] (findref_ok _ _) ?_
    refine gV ?_
    refine ⟨fun h3=>?_,fun h3=>?_⟩
    .refine gV ?_
     rw [a,h3] at b
     rw [<-b]
     rfl
    .refine gV ?_
     rw [a,h3] at b
     exact zqws6
  .exact absurd (of_decide_eq_false h) o_
theorem checkref_ok (l:List Pend) (hl:l.length<=1000000):aA Tryz.prog 39 [.slice 11 (pav l) .no] [] (.ret (.bool (checkP l))) []:=by
 refine c_ Tryz.f39 fun _=>?_
 refine gV ?_
 refine To.cut [0,3] 0 rfl rfl rfl rfl ?_
 exact mH l hl _ l.length 0 o_ rfl
end Go.Proofs.YtlanfgblaebddaaGreat.Q2
namespace Go.Proofs.YtlanfgblaebddaaGreat
open Go Go.AW Go.Proofs
set_option maxRecDepth 10000
theorem OQ (c:Con) (e:c.sm) (g:Gan):aA Tryz.prog 54 [c.av,g.av] [] (.ret (ii (dQ c g))) []:=by
 have a:=kB g.need
 have hl:=fO c e g.ten
 rw [qB] at hl
 unfold dQ EL
 generalize aH g.need=q3 at a
 generalize aU c.ns g.ten=q7 at hl
 by_cases d:1<=g.id/\g.id<=1073741824/\1<=g.pods/\g.pods<=16
 .rw [decide_eq_true d]
  cases q3 with
  | false=>
   refine c_ Tryz.f54 fun _=>?_
   repeat' first | (refine gN hE ?_;conv=>whnf) | refine .pure _ [] a ?_ | refine .pure _ [] hl ?_ | exact rfl | (refine zt ?_;try intro h) | refine zu (fun h=>?_) fun h=>?_ | fail
  | true=>
   by_cases b:1<=g.run/\g.run<=1048576/\0<=g.lev/\g.lev<=3/\0<=g.pref/\g.pref<=g.lev
   .rw [decide_eq_true b]
    cases q7 with
    | false=>
     refine c_ Tryz.f54 fun _=>?_
     repeat' first | (refine gN hE ?_;conv=>whnf) | refine .pure _ [] a ?_ | refine .pure _ [] hl ?_ | exact rfl | (refine zt ?_;try intro h) | refine zu (fun h=>?_) fun h=>?_ | fail
    | true=>
     refine c_ Tryz.f54 fun _=>?_
     repeat' first | (refine gN hE ?_;conv=>whnf) | refine .pure _ [] a ?_ | refine .pure _ [] hl ?_ | exact rfl | (refine zt ?_;try intro h) | refine zu (fun h=>?_) fun h=>?_ | fail
   .rw [decide_eq_false b]
    refine c_ Tryz.f54 fun _=>?_
    repeat' first | (refine gN hE ?_;conv=>whnf) | refine .pure _ [] a ?_ | refine .pure _ [] hl ?_ | exact rfl | (refine zt ?_;try intro h) | refine zu (fun h=>?_) fun h=>?_ | fail
    all_goals (exfalso;simp only [decide_eq_true_eq,decide_eq_false_iff_not] at *;omega)
 .rw [decide_eq_false d]
  refine c_ Tryz.f54 fun _=>?_
  repeat' first | (refine gN hE ?_;conv=>whnf) | refine .pure _ [] a ?_ | refine .pure _ [] hl ?_ | exact rfl | (refine zt ?_;try intro h) | refine zu (fun h=>?_) fun h=>?_ | fail
  all_goals (exfalso;simp only [decide_eq_true_eq,decide_eq_false_iff_not] at *;omega)
theorem aEz (a b:Nat):I9 a b<18446744073709551616:=by
 unfold I9
 repeat' split
 .omega
 .omega
 .exact HF _
theorem aC4 {a b ah d c bl:Nat} (g:a=ah*4294967296+d) (f:b=c*4294967296+bl) (i:d<4294967296) (j:bl<4294967296):
  a*b / 4294967296=ah*c*4294967296+ah*bl+d*c+d*bl / 4294967296:=by
 have e:a*b=(ah*c*4294967296+ah*bl+d*c)*4294967296+d*bl:=by
  subst g f
  simp only [Bz,Nat.mul_add]
  have h1:ah*4294967296*(c*4294967296)=ah*c*4294967296*4294967296:=by
   rw [Nat.mul_mul_mul_comm,Hy (ah*c)]
  have h:ah*4294967296*bl=ah*bl*4294967296:=Nat.mul_right_comm ..
  have h3:d*(c*4294967296)=d*c*4294967296:=(Hy ..).symm
  rw [h1,h,h3]
  omega
 rw [e]
 omega
theorem ZE {ah a:Nat} (b:0<a):(18446744073709551615 / a / 4294967296<ah)↔4294967296<=ah*a:=by
 rw [Il,Ea (Nat.mul_pos b d_),<-Hy]
 generalize ah*a=x
 omega
theorem tdN (x y:Nat):Ha (x:Int) (y:Int)=((x / y:Nat):Int):=rfl
theorem tmN (x y:Nat):Int.tmod (x:Int) (y:Int)=((x % y:Nat):Int):=rfl
theorem aDz (x y:Nat):(x:Int)*(y:Int)=((x*y:Nat):Int):=(Int.natCast_mul x y).symm
theorem aFJ (x y:Nat):Ha (x:Int) (y:Int)=((x / y:Nat):Int):=rfl
theorem aIF (x y:Nat):Int.tmod (x:Int) (y:Int)=((x % y:Nat):Int):=rfl
theorem aC3 {s x y l:Nat}:uH (s+x+y+l)=if mJ (mJ s x) y=18446744073709551615 then 18446744073709551615 else mJ (mJ (mJ s x) y) l:=by
 unfold mJ
 simp only [oA]
 repeat' split
 all_goals omega
noncomputable abbrev fRM:Func:=Tryz.f93
def rmF (ah a b bl:Nat):List (Nat×AVal):=[(5,uu ah),(6,uu a),(7,uu b),(8,uu bl)]
theorem aCX (ah a c bl r:Nat) (x:ah<4294967296) (s:a<4294967296) (e:c<4294967296) (u:bl<4294967296) (b:uH (ah*c*4294967296+ah*bl+a*c+a*bl / 4294967296)=r):
  To E fRM (.pure (.ret (uu r))) (.code (vT fRM 5) (rmF ah a c bl) []):=by
 have f:=aDz ah c
 have n:=aDz ah bl
 have j:=aDz a c
 have p:=aDz a bl
 have l1:ah*c<=4294967295*4294967295:=Gg o_ o_
 have l2:ah*bl<=4294967295*4294967295:=Gg o_ o_
 have w:a*c<=4294967295*4294967295:=Gg o_ o_
 have z:a*bl<=4294967295*4294967295:=Gg o_ o_
 have o:Ha ((a*bl:Nat):Int) 4294967296=((a*bl / 4294967296:Nat):Int):=tdN (a*bl) 4294967296
 have y:a*bl / 4294967296<4294967296:=o_
 unfold rmF
 generalize ah*c=P at *
 generalize ah*bl=X at *
 generalize a*c=Y at *
 generalize a*bl=Z at *
 generalize Z / 4294967296=L at *
 by_cases h1:4294967296<=P
 .have b:18446744073709551615=r:=by rw [oA,if_neg o_] at b;exact b
  subst b
  refine gV ?_
  rw [f]
  refine aJ ?_
  refine gV ?_
  refine aT fun h=>?_
  refine gV ?_
  exact rfl
 .have i:(P:Int)*4294967296=((P*4294967296:Nat):Int):=o_
  obtain ⟨S,v⟩:∃ S,S=P*4294967296:=⟨_,rfl⟩
  rw [<-v] at b i
  have k:=jY S X o_ o_
  have t:=AF S X
  rw [aC3] at b
  generalize mJ S X=S1 at *
  have m:=jY S1 Y o_ o_
  have q:=AF S1 Y
  generalize mJ S1 Y=d at *
  by_cases g:d=18446744073709551615
  .rw [if_pos g] at b
   subst b
   have e:((d:Int)==18446744073709551615)=true:=by rw [g];rfl
   refine gV ?_
   rw [f]
   refine aJ ?_
   refine gV ?_
   refine aF fun h=>?_
   refine gV ?_
   rw [i]
   refine aJ ?_
   refine gV ?_
   rw [n]
   refine aJ ?_
   refine gV ?_
   refine .pure _ [] k ?_
   refine gV ?_
   rw [j]
   refine aJ ?_
   refine gV ?_
   refine .pure _ [] m ?_
   refine gV ?_
   rw [p]
   refine aJ ?_
   refine gV ?_
   refine Aa d_ ?_
   refine gV ?_
   rw [o]
   refine aJ ?_
   refine gV ?_
   refine Aa (fun _=>?_) (fun h=>absurd (e.symm.trans h) d_)
   refine gV ?_
   exact rfl
  .rw [if_neg g] at b
   have l:=jY d L o_ o_
   rw [b] at l
   have e:((d:Int)==18446744073709551615)=false:=beq_eq_false_iff_ne.2 o_
   refine gV ?_
   rw [f]
   refine aJ ?_
   refine gV ?_
   refine aF fun h=>?_
   refine gV ?_
   rw [i]
   refine aJ ?_
   refine gV ?_
   rw [n]
   refine aJ ?_
   refine gV ?_
   refine .pure _ [] k ?_
   refine gV ?_
   rw [j]
   refine aJ ?_
   refine gV ?_
   refine .pure _ [] m ?_
   refine gV ?_
   rw [p]
   refine aJ ?_
   refine gV ?_
   refine Aa d_ ?_
   refine gV ?_
   rw [o]
   refine aJ ?_
   refine gV ?_
   refine Aa (fun h=>absurd (e.symm.trans h) d_) (fun _=>?_)
   refine gV ?_
   refine .pure _ [] l ?_
   refine gW hE ?_;conv=>whnf
theorem OS (a b:Nat) (C:a<18446744073709551616) (B:b<18446744073709551616) (r:Nat) (d:oI a b=r):aA Tryz.prog 93 [uu a,uu b] [] (.ret (uu r)) []:=by
 have y:Ha (a:Int) 4294967296=((a / 4294967296:Nat):Int):=tdN a 4294967296
 have q:Int.tmod (a:Int) 4294967296=((a % 4294967296:Nat):Int):=tmN a 4294967296
 have v:Ha (b:Int) 4294967296=((b / 4294967296:Nat):Int):=tdN b 4294967296
 have s:Int.tmod (b:Int) 4294967296=((b % 4294967296:Nat):Int):=tmN b 4294967296
 have n:a=a / 4294967296*4294967296+a % 4294967296:=o_
 have l:b=b / 4294967296*4294967296+b % 4294967296:=o_
 have o:a % 4294967296<4294967296:=Gp _ d_
 have m:b % 4294967296<4294967296:=Gp _ d_
 have j:a / 4294967296<4294967296:=o_
 have e:b / 4294967296<4294967296:=o_
 have p:=aC4 n l o m
 unfold oI at d
 rw [p] at d
 clear p n l
 have tail:=aCX _ _ _ _ r j o e m d
 unfold rmF at tail
 generalize a / 4294967296=ah at *
 generalize a % 4294967296=al at *
 generalize b / 4294967296=c at *
 generalize b % 4294967296=bl at *
 refine c_ Tryz.f93 fun _=>?_
 refine gV ?_
 refine Aa d_ ?_
 refine gV ?_
 rw [y]
 refine aJ ?_
 refine gV ?_
 refine Aa d_ ?_
 refine gV ?_
 rw [q]
 refine Aa d_ ?_
 refine gV ?_
 rw [v]
 refine aJ ?_
 refine gV ?_
 refine Aa d_ ?_
 refine gV ?_
 rw [s]
 by_cases h1:0<ah
 .refine aT fun h=>?_
  by_cases x:0<c
  .have t:Ha 18446744073709551615 (c:Int)=((18446744073709551615 / c:Nat):Int):=tdN 18446744073709551615 c
   have w:Ha ((18446744073709551615 / c:Nat):Int) 4294967296=((18446744073709551615 / c / 4294967296:Nat):Int):=tdN (18446744073709551615 / c) 4294967296
   have i:=ZE (ah:=ah) x
   have u:18446744073709551615 / c<=18446744073709551615:=Et ..
   have k:18446744073709551615 / c / 4294967296<=18446744073709551615 / c:=Et ..
   generalize 18446744073709551615 / c=Q at *
   generalize Q / 4294967296=Q2 at *
   refine gV ?_
   refine aT fun h=>?_
   refine gV ?_
   refine Aa o_ ?_
   refine gV ?_
   rw [t]
   refine aJ ?_
   refine gV ?_
   refine Aa d_ ?_
   refine gV ?_
   rw [w]
   refine aJ ?_
   refine gV ?_
   by_cases h3:Q2<ah
   .have z:=i.1 h3
    have d:18446744073709551615=r:=by
     rw [oA,if_neg] at d
     .exact d
     .generalize ah*c=P at *
      omega
    subst d
    refine aT fun h=>?_
    refine gV ?_
    exact rfl
   .refine aF fun h=>?_
    exact zqws7
  .refine gV ?_
   refine aF fun h=>?_
   refine gV ?_
   refine aN ?_
   exact zqws7
 .refine aF fun h=>?_
  refine gV ?_
  refine aN ?_
  refine gV ?_
  refine aN ?_
  exact zqws7
theorem rL (a b:Nat) (d:a<18446744073709551616) (c:b<18446744073709551616):aA Tryz.prog 93 [uu a,uu b] [] (.ret (uu (oI a b))) []:=OS a b d c _ rfl
theorem rK (a b:Int) (k:a<=9223372036854775807) (i:b<=9223372036854775807):aA Tryz.prog 139 [ii a,ii b] [] (.ret (uu (D6 a b))) []:=by
 unfold D6 I9
 by_cases h1:a<=0
 .rw [if_pos o_]
  refine c_ Tryz.f139 fun _=>?_
  repeat' first | (refine gN hE ?_;conv=>whnf) | exact rfl | (refine zt ?_;try intro h) | refine zu (fun h=>?_) fun h=>?_ | fail
 .rw [if_neg o_]
  by_cases j:b<=0
  .rw [if_pos o_]
   refine c_ Tryz.f139 fun _=>?_
   repeat' first | (refine gN hE ?_;conv=>whnf) | exact rfl | (refine zt ?_;try intro h) | refine zu (fun h=>?_) fun h=>?_ | fail
  .rw [if_neg o_]
   have c:=R8 (max a 0).toNat (max b 0).toNat o_ o_ o_
   have d:(((max a 0).toNat:Nat):Int)=a:=o_
   have e:(((max b 0).toNat:Nat):Int)=b:=o_
   generalize uH ((max a 0).toNat*4294967296 / (max b 0).toNat)=R at *
   unfold uu at c
   rw [d,e] at c
   refine c_ Tryz.f139 fun _=>?_
   repeat' first | (refine gN hE ?_;conv=>whnf) | refine .pure _ [] c ?_ | exact rfl | (refine zt ?_;try intro h) | refine zu (fun h=>?_) fun h=>?_ | fail
abbrev aCB:List AVal:=QC.map uu
theorem aBG {i:Nat} (h:i<16):∃ p:Nat,QC[i]? =some p/\p<=4294967296/\aCB[i]? =some (uu p):=by
 have hl:QC.length=16:=rfl
 refine ⟨QC[i],Ab o_,?_,by show (QC.map uu)[i]? =_;rw [Bd,Ab o_];rfl⟩
 have:∀ p∈QC,p<=4294967296:=by decide
 exact this _ (Bg _)
theorem aAm {x p:Nat} (a:x<=4294967296) (hp:p<=4294967296):oI x p<=4294967296:=by
 unfold oI
 have h1:x*p<=4294967296*4294967296:=Gg a hp
 generalize x*p=z at *
 rw [oA]
 split<;>omega
theorem S7 {f x i:Nat} (c:i<16) (a:x<=4294967296):EF f x i<=4294967296:=by
 unfold EF
 obtain ⟨p,h1,b,_⟩:=aBG c
 rw [h1]
 split
 .exact aAm a b
 .exact a
theorem S9 (f:Nat):∀ (l:List Nat) (x:Nat),(∀ i∈l,i<16)->x<=4294967296->l.foldl (EF f) x<=4294967296
 | [],x,_,hx=>hx
 | i::l,x,h,hx=>S9 f l _ (fun j a=>h j (Ap _ a)) (S7 (h i (Ak ..)) hx)
theorem S8 (f:Nat):aGV f<=4294967296:=S9 f _ _ (fun i a=>Fu.1 a) (Bi _)
theorem aEf (age half:Int):yZ age half<=4294967296:=by
 unfold yZ
 split
 .omega
 .exact Cm (Et ..) (S8 _)
theorem uK (a b:Int):D6 a b<18446744073709551616:=aEz _ _
theorem OO (f:Nat) {i:Nat} (h:i<16) (x:Nat):((Df 16).drop i).foldl (EF f) x=((Df 16).drop (i+1)).foldl (EF f) (EF f x i):=by
 rw [Ad (by simpa using h)]
 simp
theorem aFC {i:Nat} (h:i<16):i=0\/i=1\/i=2\/i=3\/i=4\/i=5\/i=6\/i=7\/i=8\/i=9\/i=10\/i=11\/i=12\/i=13\/i=14\/i=15:=o_
theorem aCP:aA Tryz.prog 177 [] [] (.ret (.agg aCB)) []:=by
 refine c_ Tryz.f177 fun _=>?_
 repeat' first | (refine gN hE ?_;conv=>whnf) | exact rfl | (refine zt ?_;try intro h) | refine zu (fun h=>?_) fun h=>?_ | fail
noncomputable abbrev fRF:Func:=Tryz.f136
theorem aC1 (q:Nat) (k:q<9223372036854775808) (R:Nat):∀ (m y j:Nat),y<=m->j<=q->y / 2 ^ (q-j)=R->y<18446744073709551616->
  To E fRF (.pure (.ret (uu R))) (.head (stk fRF 1) [(5,ii q),(9,uu y),(11,ii j)] []):=by
 intro m
 induction m with
 | zero=>
  intro y j b d a c
  have b:y=0:=o_
  subst b
  rw [Nat.zero_div] at a
  subst a
  by_cases h1:j<q
  .refine gV ?_
   refine aT fun h=>?_
   repeat' first | (refine gN hE ?_;conv=>whnf) | exact rfl | (refine zt ?_;try intro h) | refine zu (fun h=>?_) fun h=>?_ | fail
  .refine gV ?_
   refine aF fun h=>?_
   repeat' first | (refine gN hE ?_;conv=>whnf) | exact rfl | (refine zt ?_;try intro h) | refine zu (fun h=>?_) fun h=>?_ | fail
 | succ m f=>
  intro y j b d a c
  have e:Ha (y:Int) 2=((y / 2:Nat):Int):=aFJ y 2
  by_cases h1:j<q
  .by_cases i:0<y
   .have next:=f (y / 2) (j+1) o_ o_ (by
     rw [Il,<-Nat.pow_succ',show (q-(j+1)).succ=q-j by omega]
     exact a) o_
    have g:y / 2<=y:=Et ..
    generalize y / 2=z at *
    refine gV ?_
    refine aT fun h=>?_
    repeat' first | (refine gN hE ?_;conv=>whnf) | (rw [e];refine aJ ?_) | exact rfl | (refine zt ?_;try intro h) | refine zu (fun h=>?_) fun h=>?_ | fail
    refine To.part [5,9,11] [] rfl rfl rfl ?_
    exact next
   .have b:y=0:=o_
    subst b
    rw [Nat.zero_div] at a
    subst a
    refine gV ?_
    refine aT fun h=>?_
    repeat' first | (refine gN hE ?_;conv=>whnf) | exact rfl | (refine zt ?_;try intro h) | refine zu (fun h=>?_) fun h=>?_ | fail
  .have d:q-j=0:=o_
   rw [d,Nat.pow_zero,Jp] at a
   subst a
   refine gV ?_
   refine aF fun h=>?_
   repeat' first | (refine gN hE ?_;conv=>whnf) | exact rfl | (refine zt ?_;try intro h) | refine zu (fun h=>?_) fun h=>?_ | fail
theorem aC0 (q f:Nat) (u:f<18446744073709551616) (s:q<9223372036854775808) (R:Nat):∀ (m i x:Nat),i+m=16->x<=4294967296->((Df 16).drop i).foldl (EF f) x / 2 ^ q=R->
  To E fRF (.pure (.ret (uu R))) (.head (stk fRF 0) [(5,ii q),(7,uu f),(8,.ref 0 0),(9,uu x),(10,ii i)] [.cells 237 aCB]):=by
 intro m
 induction m with
 | zero=>
  intro i x v j a
  rw [Ae q_] at a
  have a:x / 2 ^ (q-0)=R:=a
  have next:=aC1 q s R x x 0 (Bi _) o_ a o_
  refine gV ?_
  refine aF fun h=>?_
  refine gV ?_
  refine To.part [5,9,11] [] rfl rfl rfl ?_
  exact next
 | succ m o=>
  intro i x v j a
  rw [OO f o_] at a
  have next:=o (i+1) (EF f x i) o_ (S7 o_ j) a
  obtain ⟨p,hp,r,_⟩:=aBG (i:=i) o_
  have g:(15:Int)-(i:Int)=((15-i:Nat):Int):=o_
  have e:=aHG f (15-i)
  have e3:=DC (f / 2 ^ (15-i)) (Ke (Et ..) u)
  unfold EF at next
  rw [hp,Nat.testBit_eq_decide_div_mod_eq] at next
  have hm:=rL x p o_ o_
  have w:15-i<=15:=o_
  have n:f / 2 ^ (15-i)<=f:=Et ..
  have l:f / 2 ^ (15-i) % 2<2:=Gp _ d_
  generalize 15-i=k at *
  generalize f / 2 ^ k=z at *
  generalize z % 2=b at *
  by_cases d:b=1
  .rw [decide_eq_true d,if_pos rfl] at next
   have nxt:To E fRF (.pure (.ret (uu R))) (.head (stk fRF 0) [(5,ii q),(7,uu f),(8,.ref 0 0),(9,uu (oI x p)),(10,ii ((i+1:Nat):Int))] [.cells 237 aCB]):=next
   clear next
   generalize oI x p=y at *
   have c:((b:Int)==1)=true:=by rw [d];rfl
   rcases aFC (show i<16 by omega) with rfl | rfl | rfl | rfl | rfl | rfl | rfl | rfl | rfl | rfl | rfl | rfl | rfl | rfl | rfl | rfl
   all_goals cases hp
   all_goals
    refine gV ?_
    refine aT fun h=>?_
    refine gV ?_
    rw [g]
    refine aJ ?_
    refine gV ?_
    refine aJ ?_
    refine gV ?_
    rw [e]
    refine Aa (Aa o_ (show Ht (k:Int)<=64 by omega)) ?_
    refine gV ?_
    rw [e3]
    refine Aa (fun _=>?_) (fun h=>absurd (c.symm.trans h) d_)
    refine gV ?_
    refine Aa (Aa d_ d_) ?_
    refine gV ?_
    refine .pure _ [] hm ?_
    refine gV ?_
    refine aJ ?_
    refine gV ?_
    refine To.part [5,7,8,9,10] [0] rfl rfl rfl ?_
    exact nxt
  .rw [decide_eq_false d,if_neg d_] at next
   have c:((b:Int)==1)=false:=beq_eq_false_iff_ne.2 o_
   refine gV ?_
   refine aT fun h=>?_
   refine gV ?_
   rw [g]
   refine aJ ?_
   refine gV ?_
   refine aJ ?_
   refine gV ?_
   rw [e]
   refine Aa (Aa o_ (show Ht (k:Int)<=64 by omega)) ?_
   refine gV ?_
   rw [e3]
   refine Aa (fun h=>absurd (c.symm.trans h) d_) (fun _=>?_)
   refine gV ?_
   refine aJ ?_
   refine gV ?_
   refine To.part [5,7,8,9,10] [0] rfl rfl rfl ?_
   exact next
theorem KK (age half:Int) (h1:age<=9223372036854775807) (s:half<=9223372036854775807) (R:Nat) (a:yZ age half=R):aA Tryz.prog 136 [ii age,ii half] [] (.ret (uu R)) []:=by
 unfold yZ at a
 have n:(((max age 0).toNat:Nat):Int)=max age 0:=o_
 have e:(((max half 1).toNat:Nat):Int)=max half 1:=o_
 have o:(max age 0).toNat<9223372036854775808:=o_
 have p:0<(max half 1).toNat:=o_
 have h:(max half 1).toNat<9223372036854775808:=o_
 generalize (max age 0).toNat=A at *
 generalize (max half 1).toNat=H at *
 have i:=aFJ A H
 have c:=aIF A H
 have k:A / H<=A:=Et ..
 have j:=Nat.mod_le A H
 have a:aGV (D6 ((A % H:Nat):Int) (H:Int) / 65536) / 2 ^ (A / H)=R:=by
  by_cases b:63<A / H
  .rw [if_pos b] at a
   rw [<-a]
   refine Ja (Ke (S8 _) ?_)
   exact Dz (show 4294967296<2 ^ 63 by decide) (Hk d_ o_)
  .rw [if_neg b] at a
   exact a
 have d:=rK ((A % H:Nat):Int) (H:Int) o_ o_
 have l:=uK ((A % H:Nat):Int) (H:Int)
 generalize D6 ((A % H:Nat):Int) (H:Int)=T at *
 have e3:Ha (T:Int) 65536=((T / 65536:Nat):Int):=aFJ T 65536
 have m:=aC0 (A / H) (T / 65536) o_ o_ R 16 0 4294967296 o_ (Bi _) a
 have t:T / 65536<=T:=Et ..
 generalize T / 65536=f at *
 generalize A / H=q at *
 generalize A % H=r at *
 refine c_ Tryz.f136 fun _=>?_
 refine gV ?_
 rw [<-n,<-e]
 refine Aa o_ ?_
 refine gV ?_
 rw [i]
 refine aJ ?_
 refine gV ?_
 refine Aa o_ ?_
 refine gV ?_
 rw [c]
 refine .pure _ [] d ?_
 refine gV ?_
 refine Aa d_ ?_
 refine gV ?_
 rw [e3]
 refine aJ ?_
 refine gV ?_
 refine .pure _ [] aCP ?_
 refine gV ?_
 refine To.part [5,7,8,9,10] [0] rfl rfl rfl ?_
 exact m
theorem OG (age half:Int) (h1:age<=9223372036854775807) (a:half<=9223372036854775807):aA Tryz.prog 136 [ii age,ii half] [] (.ret (uu (yZ age half))) []:=KK age half h1 a _ rfl
theorem U2 (x:Nat) (age half:Int) (c:x<18446744073709551616) (h1:age<=9223372036854775807) (a:half<=9223372036854775807):aA Tryz.prog 92 [uu x,ii age,ii half] [] (.ret (uu (oI x (yZ age half)))) []:=by
 have h3:=OG age half h1 a
 have hl:=aEf age half
 have b:=rL x (yZ age half) c o_
 generalize yZ age half=f at *
 generalize oI x f=y at *
 refine c_ Tryz.f92 fun _=>?_
 repeat' first | (refine gN hE ?_;conv=>whnf) | refine .pure _ [] h3 ?_ | refine .pure _ [] b ?_ | exact rfl | (refine zt ?_;try intro h) | refine zu (fun h=>?_) fun h=>?_ | fail
theorem I8 {x:Nat} {n m:Int} (h:x<18446744073709551616):WL x n m<18446744073709551616:=by
 have:=uK n m
 unfold WL
 split
 .omega
 .exact h
theorem aEy (u v:V3):WM u v<18446744073709551616:=I8 (I8 (I8 d_))
theorem aHB (v u:V3) (M:Imm) (ob:Hs) (vs:List Value) (h:bT M ob vs [v.av,u.av]):(inR .i64 v.a/\inR .i64 v.b/\inR .i64 v.c)/\inR .i64 u.a/\inR .i64 u.b/\inR .i64 u.c:=by
 have hl:1<vs.length:=by rw [h.1];simp
 have h1:=h.2 0 _ v.av (Ab o_) rfl
 have d:=h.2 1 _ u.av (Ab hl) rfl
 exact ⟨⟨bS h1 0 _ rfl,bS h1 1 _ rfl,bS h1 2 _ rfl⟩,bS d 0 _ rfl,bS d 1 _ rfl,bS d 2 _ rfl⟩
theorem ZF (u v:V3) (r:Nat) (d:WM u v=r):aA Tryz.prog 97 [u.av,v.av] [] (.ret (uu r)) []:=by
  refine aA.get _ (aHB u v) fun ⟨⟨⟨a1,a2⟩,⟨b1,b2⟩,⟨c1,c2⟩⟩,⟨d1,d2⟩,⟨e1,e2⟩,⟨f1,f2⟩⟩=>?_
  simp only [bW,bI] at a1 a2 b1 b2 c1 c2 d1 d2 e1 e2 f1 f2
  have h1:=rK u.a v.a o_ o_
  have j:=rK u.b v.b o_ o_
  have h3:=rK u.c v.c o_ o_
  have l1:=uK u.a v.a
  have l2:=uK u.b v.b
  have l:=uK u.c v.c
  unfold WM WL at d
  generalize D6 u.a v.a=p at *
  generalize D6 u.b v.b=q at *
  generalize D6 u.c v.c=s at *
  by_cases k:0<u.a<;>by_cases i:0<u.b<;>by_cases e:0<u.c<;>simp only [k,i,e,if_true,if_false] at d
  all_goals
   subst d
   refine c_ Tryz.f97 fun _=>?_
   refine gV ?_
   repeat' first
    | (refine gW hE ?_;conv=>whnf)
    | refine .pure _ [] h1 ?_
    | refine .pure _ [] j ?_
    | refine .pure _ [] h3 ?_
    | exact rfl
    | refine aY ?_
    | refine aN ?_
    | refine aT fun h=>?_
    | refine aF fun h=>?_
    | refine aJ ?_
    | refine Ai _ (Aa rfl ?_)
    | refine Aa d_ ?_
    | fail
   all_goals exact congrArg (fun n=>Res.ret (AVal.int .u64 n)) o_
noncomputable abbrev aFf:Func:=Tryz.f96
theorem UM (c:Con) (hl:c.hs.length<=1048576) (r:V3):∀ (m i:Nat) (v:V3),i+m=c.hs.length->(c.hs.drop i).foldl aFE v=r->
  To E aFf (.pure (.ret r.av)) (.head (stk aFf 0) [(1,.ref 0 0),(2,.ref 1 0),(3,.ref 2 0),(4,ii i)] [.cells 25 c.cs,.cells 40 V3.zero.cs,.cells 40 v.cs]):=by
 have e:(hav c.hs).length=c.hs.length:=by simp
 intro m
 induction m with
 | zero=>
  intro i v g a
  rw [Ae o_] at a
  have a:v=r:=a
  subst a
  refine gV ?_
  refine aF fun h=>?_
  repeat' first | (refine gN hE ?_;conv=>whnf) | exact rfl | (refine zt ?_;try intro h) | refine zu (fun h=>?_) fun h=>?_ | fail
 | succ m f=>
  intro i v g a
  have b:i<c.hs.length:=o_
  rw [Ad b,Aq] at a
  have next:=f (i+1) _ o_ a
  have get:=vC b
  generalize c.hs[i]=x at get next
  have d:=jM v x.c
  unfold aFE at next
  generalize dL v x.c=w at d next
  refine gV ?_
  refine aT fun h=>?_
  repeat' first | (refine gN hE ?_;conv=>whnf) | refine ⟨i,rfl,?_⟩ | refine ⟨_,get,?_⟩ | refine .pure _ [] d ?_ | exact rfl | (refine zt ?_;try intro h) | refine zu (fun h=>?_) fun h=>?_ | fail
  refine To.part [1,2,3,4] [0,1,2] rfl rfl rfl ?_
  exact next
theorem UL (c:Con) (a:c.sm):aA Tryz.prog 96 [c.av] [] (.ret (NL c).av) []:=by
 have h1:=a.hs
 have next:=UM c o_ (NL c) c.hs.length 0 V3.zero o_ rfl
 generalize NL c=r at next
 refine c_ Tryz.f96 fun _=>?_
 repeat' first | (refine gN hE ?_;conv=>whnf) | exact rfl | (refine zt ?_;try intro h) | refine zu (fun h=>?_) fun h=>?_ | fail
 refine To.part [1,2,3,4] [0,1,2] rfl rfl rfl ?_
 exact next
theorem GJ {α:Type} (d:Nat->α->Nat):∀ (l:List α) (i k:Nat) (h:k<l.length),(lV d l i)[k]? =some (d (i+k) l[k])
 | [],_,k,h=>absurd h s_
 | x::r,i,0,_=>rfl
 | x::r,i,k+1,h=>by
  have:=GJ d r (i+1) k (by simpa using h)
  simp only [lV,Fe,List.getElem_cons_succ]
  rw [this,show i+1+k=i+(k+1) by omega]
theorem aC5 (u v:V3):aA Tryz.prog 97 [u.av,v.av] [] (.ret (uu (WM u v))) []:=ZF u v _ rfl
theorem aCI (c:Con) (l:List Rn):LtF (yS c l):=by
 intro x b
 obtain ⟨k,a,e⟩:=Gr b
 unfold yS at a e
 rw [iE] at a
 have:=GJ (yR c) (ofL c l) 0 k a
 rw [Ab (by rw [iE];exact a),e] at this
 cases this
 unfold yR
 split
 .exact aEy _ _
 .decide
noncomputable abbrev V0:Func:=Tryz.f57
theorem YI (h b:List Nat) (v:LtF h) (hl:h.length<=1048576) (hs:LtF b) (hsl:b.length<=1048576) (n half:Int) (u:n<=9223372036854775807) (F:half<=9223372036854775807) (R:List Nat):∀ (m i:Nat) (a:List Nat),i+m=h.length->a.length=i->a++lV (tkS b n half) (h.drop i) i=R->
  To (Eo [9] []) V0 (.pure (.ret (.slice 1 (fv R) .no))) (.head (stk V0 0) [(0,.slice 1 (fv h) .no),(1,.slice 1 (fv b) .no),(2,ii n),(3,ii half),(9,.slice 1 (fv a) (.own 0 0)),(10,ii i)] [.tail 0 1 68]):=by
 have s:(fv h).length=h.length:=by simp
 have l:(fv b).length=b.length:=by simp
 intro m
 induction m with
 | zero=>
  intro i a G C c
  rw [Ae o_] at c
  have c:a++[]=R:=c
  rw [Bm] at c
  subst c
  refine gV ?_
  refine aF fun h=>?_
  repeat' first | (refine gN (hEo [9] []) ?_;conv=>whnf) | exact rfl | (refine zt ?_;try intro h) | refine zu (fun h=>?_) fun h=>?_ | fail
 | succ m r=>
  intro i a G C c
  have f:i<h.length:=o_
  have get:=aA1 f
  have q:=v _ (Bg f)
  rw [Ad f] at c
  generalize h[i]=x at get q c
  have c:a++(tkS b n half i x::lV (tkS b n half) (h.drop (i+1)) (i+1))=R:=c
  have o:=BD n
  have j:=O3 n
  have h1:=U2 x n half q u F
  have l1:=H5 x (yZ n half)
  have D:(fv a).length=a.length:=by simp
  have step:∀ y,tkS b n half i x=y->To (Eo [9] []) V0 (.pure (.ret (.slice 1 (fv R) .no))) (.head (stk V0 0) [(0,.slice 1 (fv h) .no),(1,.slice 1 (fv b) .no),(2,ii n),(3,ii half),(9,.slice 1 (fv a++[uu y]) (.own 0 0)),(10,ii ((i:Int)+1))] [.tail 0 1 68]):=fun y B=>by
   rw [B] at c
   have next:=r (i+1) (a++[y]) o_ q_ (by rw [Ay];exact c)
   have e:fv (a++[y])=fv a++[uu y]:=by simp [fv]
   rw [e] at next
   exact next
  clear c r
  unfold tkS at step
  generalize oI x (yZ n half)=p at *
  generalize ofF n=t at *
  by_cases d:i<b.length
  .have g:=aA1 d
   have hz:=hs _ (Bg d)
   rw [if_pos d,Ab d] at step
   have step:=step _ rfl
   have step:To (Eo [9] []) V0 (.pure (.ret (.slice 1 (fv R) .no))) (.head (stk V0 0) [(0,.slice 1 (fv h) .no),(1,.slice 1 (fv b) .no),(2,ii n),(3,ii half),(9,.slice 1 (fv a++[uu (mJ p (oI b[i] t))]) (.own 0 0)),(10,ii ((i:Int)+1))] [.tail 0 1 68]):=step
   generalize b[i]=z at *
   have k:=rL z t hz j
   have l2:=H5 z t
   generalize oI z t=w at *
   have h3:=jY p w l1 l2
   generalize mJ p w=y at *
   refine gV ?_
   refine aT fun h=>?_
   repeat' first | (refine gN (hEo [9] []) ?_;conv=>whnf) | refine ⟨i,rfl,?_⟩ | refine ⟨_,g,?_⟩ | refine ⟨_,get,?_⟩ | refine .pure _ [] h1 ?_ | refine .pure _ [] o ?_ | refine .pure _ [] k ?_ | refine .pure _ [] h3 ?_ | refine ⟨⟨by simp only [maxLen];simp;omega,by simp;omega⟩,?_⟩ | exact rfl | (refine zt ?_;try intro h) | refine zu (fun h=>?_) fun h=>?_ | fail
   refine To.part [0,1,2,3,9,10] [0] rfl rfl rfl ?_
   exact step
  .rw [if_neg d] at step
   have step:=step _ rfl
   have k:=rL 0 t d_ j
   have H:oI 0 t=0:=by unfold oI;rw [Lb];rfl
   rw [H] at k
   have h3:=jY p 0 l1 d_
   have A:mJ p 0=p:=by unfold mJ;rw [Dy,oA,if_pos l1]
   rw [A] at h3
   refine gV ?_
   refine aT fun h=>?_
   repeat' first | (refine gN (hEo [9] []) ?_;conv=>whnf) | refine ⟨i,rfl,?_⟩ | refine ⟨_,get,?_⟩ | refine .pure _ [] h1 ?_ | refine .pure _ [] o ?_ | refine .pure _ [] k ?_ | refine .pure _ [] h3 ?_ | refine ⟨⟨by simp only [maxLen];simp;omega,by simp;omega⟩,?_⟩ | exact rfl | (refine zt ?_;try intro h) | refine zu (fun h=>?_) fun h=>?_ | fail
   refine To.part [0,1,2,3,9,10] [0] rfl rfl rfl ?_
   exact step
theorem YH (h a:List Nat) (b:LtF h) (hl:h.length<=1048576) (hs:LtF a) (hsl:a.length<=1048576) (n half:Int) (d:n<=9223372036854775807) (c:half<=9223372036854775807):aA Tryz.prog 57 [.slice 1 (fv h) .no,.slice 1 (fv a) .no,ii n,ii half] [] (.ret (.slice 1 (fv (tkL h a n half)) .no)) []:=by
 have next:=YI h a b hl hs hsl n half d c (tkL h a n half) h.length 0 [] o_ rfl rfl
 generalize tkL h a n half=R at next
 refine cT (E:=(Eo [9] [])) (fn:=Tryz.f57) (g:=.pure _) fun _=>?_
 refine gV ?_
 refine To.part [0,1,2,3,9,10] [0] rfl rfl rfl ?_
 exact next
noncomputable abbrev aIj:Func:=Tryz.f58
theorem YK (c:Con) (k:c.sm) (us:List V3) (v:us.length=c.ns.length) (a:V3) (s:NL c=a) (R:List Nat):∀ (m i:Nat) (b:List Nat),i+m=us.length->b.length=i->b++lV (yR c) (us.drop i) i=R->
  To (Eo [7] []) aIj (.pure (.ret (.slice 1 (fv R) .no))) (.head (stk aIj 0) [(2,.ref 0 0),(5,.slice 3 (vav us) .no),(6,.ref 1 0),(7,.slice 1 (fv b) (.own 2 0)),(8,ii i)] [.cells 25 c.cs,.cells 40 a.cs,.tail 0 1 68]):=by
 have n:(vav us).length=us.length:=by simp
 have r:(nav c.ns).length=c.ns.length:=by simp
 have o:=k.ns
 intro m
 induction m with
 | zero=>
  intro i b u p d
  rw [Ae o_] at d
  have d:b++[]=R:=d
  rw [Bm] at d
  subst d
  refine gV ?_
  refine aF fun h=>?_
  repeat' first | (refine gN (hEo [7] []) ?_;conv=>whnf) | exact rfl | (refine zt ?_;try intro h) | refine zu (fun h=>?_) fun h=>?_ | fail
 | succ m j=>
  intro i b u p d
  have f:i<us.length:=o_
  have get:=jJ f
  rw [Ad f] at d
  generalize us[i]=x at get d
  have d:b++(yR c i x::lV (yR c) (us.drop (i+1)) (i+1))=R:=d
  have h1:=fO c k (i:Int)
  rw [qB] at h1
  have l:=aC5 x a
  have q:(fv b).length=b.length:=by simp
  have next:=j (i+1) (b++[yR c i x]) o_ q_ (by rw [Ay];exact d)
  have e:fv (b++[yR c i x])=fv b++[uu (yR c i x)]:=by simp [fv]
  rw [e] at next
  clear d j
  unfold yR at next
  rw [s] at next
  generalize WM x a=y at *
  cases g:aU c.ns (i:Int) with
  | true=>
   rw [g] at h1
   rw [g,if_pos rfl] at next
   refine gV ?_
   refine aT fun h=>?_
   repeat' first | (refine gN (hEo [7] []) ?_;conv=>whnf) | refine ⟨i,rfl,?_⟩ | refine ⟨_,get,?_⟩ | refine .pure _ [] h1 ?_ | refine .pure _ [] l ?_ | refine ⟨⟨by simp only [maxLen];simp;omega,by simp;omega⟩,?_⟩ | exact rfl | (refine zt ?_;try intro h) | refine zu (fun h=>?_) fun h=>?_ | fail
   exact zqws9
  | false=>
   rw [g] at h1
   rw [g,if_neg d_] at next
   refine gV ?_
   refine aT fun h=>?_
   repeat' first | (refine gN (hEo [7] []) ?_;conv=>whnf) | refine ⟨i,rfl,?_⟩ | refine ⟨_,get,?_⟩ | refine .pure _ [] h1 ?_ | refine .pure _ [] l ?_ | refine ⟨⟨by simp only [maxLen];simp;omega,by simp;omega⟩,?_⟩ | exact rfl | (refine zt ?_;try intro h) | refine zu (fun h=>?_) fun h=>?_ | fail
   exact zqws9
theorem N4 (c:Con) (d:c.sm) (l:List Rn) (hl:l.length<=1048576):aA Tryz.prog 58 [c.av,.slice 14 (rav l) .no] [] (.ret (.slice 1 (fv (yS c l)) .no)) []:=by
 have h1:=UL c d
 have e:=HM c d l hl
 have b:(ofL c l).length=c.ns.length:=by unfold ofL lL;simp
 unfold yS
 have next:=YK c d (ofL c l) b (NL c) rfl (lV (yR c) (ofL c l) 0) (ofL c l).length 0 [] o_ rfl rfl
 generalize lV (yR c) (ofL c l) 0=R at *
 generalize ofL c l=us at *
 generalize NL c=a at *
 refine cT (E:=(Eo [7] [])) (fn:=Tryz.f58) (g:=.pure _) fun _=>?_
 repeat' first | (refine gN (hEo [7] []) ?_;conv=>whnf) | refine .pure _ [] h1 ?_ | refine .pure _ [] e ?_ | exact rfl | (refine zt ?_;try intro h) | refine zu (fun h=>?_) fun h=>?_ | fail
 exact zqws9
theorem vK {l:List Ev} {i:Nat} (h:i<l.length):(evv l)[i]? =some l[i].av:=by simp [evv,h]
noncomputable abbrev aIe:Func:=Tryz.f30
abbrev aHD (s:Sta):AObj:=.cells 30 s.cs
theorem YG (s:Sta) (id:Int) (hl:s.run.length<=1048576) (r:Int):∀ (m i:Nat),i+m=s.run.length->bA (cR id) (s.run.drop i) i=r->
  To E aIe (.pure (.ret (ii r))) (.head (stk aIe 0) [(1,ii id),(2,.ref 0 0),(5,ii i)] [aHD s]):=by
 have e:(rav s.run).length=s.run.length:=by simp
 intro m
 induction m with
 | zero=>
  intro i f a
  rw [Ae o_] at a
  have a: -1=r:=a
  subst a
  refine gV ?_
  refine aF fun h=>?_
  repeat' first | (refine gN hE ?_;conv=>whnf) | exact rfl | (refine zt ?_;try intro h) | refine zu (fun h=>?_) fun h=>?_ | fail
 | succ m d=>
  intro i f a
  have c:i<s.run.length:=o_
  rw [Ad c] at a
  have get:(rav s.run)[i]? =some s.run[i].av:=cJ c
  generalize s.run[i]=x at a get
  unfold bA at a
  have d:=d (i+1) o_
  cases b:cR id x with
  | true=>
   rw [if_pos b] at a
   subst a
   unfold cR at b
   refine gV ?_
   refine aT fun h=>?_
   repeat' first | (refine gN hE ?_;conv=>whnf) | refine ⟨i,rfl,?_⟩ | refine ⟨_,get,?_⟩ | refine Aa (fun _=>?_) (fun h=>absurd (b.symm.trans h) d_) | exact rfl | (refine zt ?_;try intro h) | refine zu (fun h=>?_) fun h=>?_ | fail
  | false=>
   rw [if_neg (by rw [b];decide)] at a
   have next:=d a
   unfold cR at b
   refine gV ?_
   refine aT fun h=>?_
   repeat' first | (refine gN hE ?_;conv=>whnf) | refine ⟨i,rfl,?_⟩ | refine ⟨_,get,?_⟩ | refine Aa (fun h=>absurd (b.symm.trans h) d_) (fun _=>?_) | exact rfl | (refine zt ?_;try intro h) | refine zu (fun h=>?_) fun h=>?_ | fail
   refine To.part [1,2,5] [0] rfl rfl rfl ?_
   exact next
theorem HJ (s:Sta) (id:Int) (hl:s.run.length<=1048576):aA Tryz.prog 30 [s.av,ii id] [] (.ret (ii (bA (cR id) s.run 0))) []:=by
 have h:=YG s id hl _ s.run.length 0 o_ rfl
 rw [Bx] at h
 generalize bA (cR id) s.run 0=r at *
 refine c_ Tryz.f30 fun _=>?_
 refine gV ?_
 refine To.part [1,2,5] [0] rfl rfl rfl ?_
 exact h
theorem wJ (l:List Pn) (a:Int) (hl:l.length<=1000000):aA Tryz.prog 20 [.slice 11 (pnv l) .no,ii a] [] (.ret (ii (jF a l))) []:=by
 have h:=Q2.findref_ok (l.map Pn.q) a
 rw [uN] at h
 exact h
theorem aAY {c:Con} {g:Gan} (h:dQ c g=0):(0<=g.pods/\g.pods<=16)/\aH g.need=true:=by
 unfold dQ at h
 split at h
 .rename_i a
  unfold EL at a
  simp only [Af,decide_eq_true_eq] at a
  exact ⟨⟨by omega,by omega⟩,a.2.1⟩
 .omega
set_option maxHeartbeats 2000000 in
theorem NS (s:Sta) (g:Gan) (n:s.c.sm) (hp:s.pend.length<=1000000) (hl:s.run.length<=1000000) (y:s.nxt<=1099511627777) (v:0<=s.nxt):
  aA Tryz.prog 28 [s.av,g.av] [] (.ret (.tup [(cM s g).1.av,ii (cM s g).2])) []:=by
 have h1:=OQ s.c n g
 have i:=wJ s.pend g.id hp
 have h3:=HJ s g.id o_
 have t:(pnv s.pend).length=s.pend.length:=by simp
 have p:(rav s.run).length=s.run.length:=by simp
 unfold cM
 by_cases d:dQ s.c g≠0
 .rw [if_pos d]
  have l:(dQ s.c g !=0)=true:=by simpa using d
  generalize dQ s.c g=e at *
  refine c_ Tryz.f28 fun _=>?_
  repeat' first | (refine gN hE ?_;conv=>whnf) | refine .pure _ [] h1 ?_ | refine Aa (fun _=>?_) (fun h=>absurd (l.symm.trans h) d_) | exact rfl | (refine zt ?_;try intro h) | refine zu (fun h=>?_) fun h=>?_ | fail
 rw [if_neg d]
 have d:dQ s.c g=0:=Dm.1 d
 obtain ⟨x,u⟩:=aAY d
 rw [d] at h1
 have l:((0:Int) !=0)=false:=by decide
 have j:=KU s.c n g x u
 generalize jF g.id s.pend=a at *
 generalize bA (cR g.id) s.run 0=b at *
 by_cases m:0<=a\/0<=b
 .rw [if_pos m]
  by_cases r:0<=a
  .refine c_ Tryz.f28 fun _=>?_
   repeat' first | (refine gN hE ?_;conv=>whnf) | refine .pure _ [] h1 ?_ | refine .pure _ [] i ?_ | exact rfl | (refine zt ?_;try intro h) | refine zu (fun h=>?_) fun h=>?_ | fail
  .have q:0<=b:=o_
   refine c_ Tryz.f28 fun _=>?_
   repeat' first | (refine gN hE ?_;conv=>whnf) | refine .pure _ [] h1 ?_ | refine .pure _ [] i ?_ | refine .pure _ [] h3 ?_ | exact rfl | (refine zt ?_;try intro h) | refine zu (fun h=>?_) fun h=>?_ | fail
 rw [if_neg m]
 have r:a<0:=o_
 have q:b<0:=o_
 cases k:(bX s.c [] g).isNone with
 | true=>
  rw [k] at j
  rw [if_pos rfl]
  refine c_ Tryz.f28 fun _=>?_
  repeat' first | (refine gN hE ?_;conv=>whnf) | refine .pure _ [] h1 ?_ | refine .pure _ [] i ?_ | refine .pure _ [] h3 ?_ | refine .pure _ [] j ?_ | exact rfl | (refine zt ?_;try intro h) | refine zu (fun h=>?_) fun h=>?_ | fail
 | false=>
  rw [k] at j
  rw [if_neg d_]
  by_cases o:32<=s.pend.length+s.run.length
  .rw [if_pos o]
   refine c_ Tryz.f28 fun _=>?_
   repeat' first | (refine gN hE ?_;conv=>whnf) | refine .pure _ [] h1 ?_ | refine .pure _ [] i ?_ | refine .pure _ [] h3 ?_ | refine .pure _ [] j ?_ | exact rfl | (refine zt ?_;try intro h) | refine zu (fun h=>?_) fun h=>?_ | fail
  .rw [if_neg o]
   have w:=KH s.pend ⟨g,s.nxt,s.now⟩ hp
   generalize oB s.pend ⟨g,s.nxt,s.now⟩=pq at *
   refine c_ Tryz.f28 fun _=>?_
   repeat' first | (refine gN hE ?_;conv=>whnf) | refine .pure _ [] h1 ?_ | refine .pure _ [] i ?_ | refine .pure _ [] h3 ?_ | refine .pure _ [] j ?_ | refine .pure _ [] w ?_ | exact rfl | (refine zt ?_;try intro h) | refine zu (fun h=>?_) fun h=>?_ | fail
theorem V6 {x:Rn} {l:List Rn} {t:Int} (h:dN x<=t):lA (x::l) t=⟨3,x.g.id,0⟩::lA l t:=by
 unfold lA
 rw [Hv,if_pos (decide_eq_true h)]
 rfl
theorem V7 {x:Rn} {l:List Rn} {t:Int} (h:¬ dN x<=t):lA (x::l) t=lA l t:=by
 unfold lA
 rw [Hv,if_neg (by simpa using h)]
noncomputable abbrev aIc:Func:=Tryz.f29
set_option maxHeartbeats 1000000 in
theorem XQ (s R:Sta) (hs:Sm s.run) (p:R={s with run:=atL s.run s.now}) (Q:List Ev):∀ (m i:Nat) (ev:List Ev),i+m=s.run.length->ev.length<=i->ev++lA (s.run.drop i) s.now=Q->
  To (Eo [7] []) aIc (.pure (.ret (.tup [R.av,.slice 3 (evv Q) .no,ii 0]))) (.head (stk aIc 0) [(2,.ref 0 0),(4,.ref 1 0),(7,.slice 3 (evv ev) (.own 2 0)),(8,ii i)] [aHD s,aE2,evT 0]):=by
 have l:(rav s.run).length=s.run.length:=by simp
 have hl:=hs.1
 intro m
 induction m with
 | zero=>
  intro i ev q o a
  rw [Ae o_] at a
  have a:ev++[]=Q:=a
  rw [Bm] at a
  subst a
  have n:=ZI s.run hs s.now
  generalize atL s.run s.now=ra at *
  subst p
  refine gV ?_
  refine aF fun h=>?_
  repeat' first | (refine gN (hEo [7] []) ?_;conv=>whnf) | refine .pure _ [] n ?_ | exact rfl | (refine zt ?_;try intro h) | refine zu (fun h=>?_) fun h=>?_ | fail
 | succ m e=>
  intro i ev q o a
  have d:i<s.run.length:=o_
  rw [Ad d] at a
  have get:(rav s.run)[i]? =some s.run[i].av:=cJ d
  generalize s.run[i]=x at a get
  have c:=uJ x
  have f:(evv ev).length<=1048576:=by simp;omega
  by_cases k:dN x<=s.now
  .have b:lA (x::s.run.drop (i+1)) s.now=⟨3,x.g.id,0⟩::lA (s.run.drop (i+1)) s.now:=V6 k
   rw [b] at a
   have next:=e (i+1) (ev++[⟨3,x.g.id,0⟩]) o_ q_ (by rw [Ay];exact a)
   have j:evv (ev++[⟨3,x.g.id,0⟩])=evv ev++[Ev.av ⟨3,x.g.id,0⟩]:=by simp
   rw [j] at next
   generalize dN x=t at *
   clear e a b j
   refine gV ?_
   refine aT fun h=>?_
   repeat' first | (refine gN (hEo [7] []) ?_;conv=>whnf) | refine ⟨i,rfl,?_⟩ | refine ⟨_,get,?_⟩ | refine .pure _ [] c ?_ | refine Aa (fun _=>?_) (fun h=>absurd (of_decide_eq_false h) o_) | refine Aa (qP f d_) ?_ | exact rfl | (refine zt ?_;try intro h) | refine zu (fun h=>?_) fun h=>?_ | fail
   refine To.part [2,4,7,8] [0,1,2] rfl rfl rfl ?_
   exact next
  .have b:lA (x::s.run.drop (i+1)) s.now=lA (s.run.drop (i+1)) s.now:=V7 k
   rw [b] at a
   have next:=e (i+1) ev o_ o_ a
   generalize dN x=t at *
   clear e a b
   refine gV ?_
   refine aT fun h=>?_
   repeat' first | (refine gN (hEo [7] []) ?_;conv=>whnf) | refine ⟨i,rfl,?_⟩ | refine ⟨_,get,?_⟩ | refine .pure _ [] c ?_ | refine Aa (fun h=>absurd (of_decide_eq_true h) o_) (fun _=>?_) | exact rfl | (refine zt ?_;try intro h) | refine zu (fun h=>?_) fun h=>?_ | fail
   refine To.part [2,4,7,8] [0,1,2] rfl rfl rfl ?_
   exact next
set_option maxHeartbeats 1000000 in
theorem XS (s:Sta) (n:Int) (j:s.c.sm) (hs:Sm s.run) (m:LtF s.hist) (a:s.hist.length<=1048576) (t:s.c.half<=9223372036854775807) (p: -9223372036854775808<=s.now) (k:s.now<=1099511627776) (q: -9223372036854775808<=n/\n<=9223372036854775807):
  aA Tryz.prog 29 [s.av,ii n] [] (.ret (.tup [(gZ s n).1.av,.slice 3 (evv (gZ s n).2.1) .no,ii (gZ s n).2.2])) []:=by
 unfold gZ
 by_cases i:n<1\/1048576<n
 .rw [if_pos i]
  by_cases o:n<1
  .refine cT (E:=(Eo [7] [])) (fn:=Tryz.f29) (g:=.pure _) fun _=>?_
   repeat' first | (refine gN (hEo [7] []) ?_;conv=>whnf) | exact rfl | (refine zt ?_;try intro h) | refine zu (fun h=>?_) fun h=>?_ | fail
  .have l:1048576<n:=o_
   refine cT (E:=(Eo [7] [])) (fn:=Tryz.f29) (g:=.pure _) fun _=>?_
   repeat' first | (refine gN (hEo [7] []) ?_;conv=>whnf) | exact rfl | (refine zt ?_;try intro h) | refine zu (fun h=>?_) fun h=>?_ | fail
 rw [if_neg i]
 have o:1<=n:=o_
 have l:n<=1048576:=o_
 by_cases d:1099511627776-n<s.now
 .rw [if_pos d]
  refine cT (E:=(Eo [7] [])) (fn:=Tryz.f29) (g:=.pure _) fun _=>?_
  repeat' first | (refine gN (hEo [7] []) ?_;conv=>whnf) | exact rfl | (refine zt ?_;try intro h) | refine zu (fun h=>?_) fun h=>?_ | fail
 .rw [if_neg d]
  have b:=aCI s.c s.run
  have hsl:(yS s.c s.run).length<=1048576:=by
   have:=j.ns
   unfold yS ofL lL
   rw [iE]
   simp
   omega
  have h1:=N4 s.c j s.run hs.1
  have r:=YH s.hist (yS s.c s.run) m a b hsl n s.c.half o_ t
  have e:=XQ {s with hist:=tkL s.hist (yS s.c s.run) n s.c.half,now:=s.now+n} {s with hist:=tkL s.hist (yS s.c s.run) n s.c.half,now:=s.now+n,run:=atL s.run (s.now+n)} hs rfl _ s.run.length 0 [] s_ s_ rfl
  rw [Bx] at e
  generalize tkL s.hist (yS s.c s.run) n s.c.half=th at *
  generalize yS s.c s.run=sh at *
  generalize lA s.run (s.now+n)=Q at *
  have u:[]++Q=Q:=rfl
  generalize atL s.run (s.now+n)=ra at *
  refine cT (E:=(Eo [7] [])) (fn:=Tryz.f29) (g:=.pure _) fun _=>?_
  repeat' first | (refine gN (hEo [7] []) ?_;conv=>whnf) | refine .pure _ [] h1 ?_ | refine .pure _ [] r ?_ | exact rfl | (refine zt ?_;try intro h) | refine zu (fun h=>?_) fun h=>?_ | fail
  refine To.part [2,4,7,8] [0,1,2] rfl rfl rfl ?_
  exact e
abbrev apC (s:Sta) (x:Cmd) (R:Sta×List Ev×Int):Prop:=aA Tryz.prog 12 [s.av,x.av] [] (.ret (.tup [R.1.av,.slice 3 (evv R.2.1) .no,ii R.2.2])) []
theorem aES (s:Sta) (x:Cmd) (e:Int) (b:C8.chk x=e) (h:e≠0):apC s x (s,[],e):=by
 have h1:=C8.rcheck_any x e b
 have a:(e !=0)=true:=by simpa using h
 refine c_ Tryz.f12 fun _=>?_
 repeat' first | (refine gN hE ?_;conv=>whnf) | refine .pure _ [] h1 ?_ | refine Aa (fun _=>?_) (fun h=>absurd (a.symm.trans h) d_) | exact rfl | (refine zt ?_;try intro h) | refine zu (fun h=>?_) fun h=>?_ | fail
theorem aIA (s:Sta) (x:Cmd) (d:C8.chk x=0) (a:x.k=2) (S:Sta) (e:Int) (b:aA Tryz.prog 28 [s.av,x.g.av] [] (.ret (.tup [S.av,ii e])) []):apC s x (S,[],e):=by
 have h1:=C8.rcheck_any x 0 d
 obtain ⟨k,c,g,n⟩:=x
 dsimp only at a
 subst a
 refine c_ Tryz.f12 fun _=>?_
 repeat' first | (refine gN hE ?_;conv=>whnf) | refine .pure _ [] h1 ?_ | refine .pure _ [] b ?_ | exact rfl | (refine zt ?_;try intro h) | refine zu (fun h=>?_) fun h=>?_ | fail
theorem aIz (s:Sta) (x:Cmd) (d:C8.chk x=0) (a:x.k=5) (S:Sta) (ev:List Ev) (e:Int) (b:aA Tryz.prog 29 [s.av,ii x.n] [] (.ret (.tup [S.av,.slice 3 (evv ev) .no,ii e])) []):apC s x (S,ev,e):=by
 have h1:=C8.rcheck_any x 0 d
 obtain ⟨k,c,g,n⟩:=x
 dsimp only at a
 subst a
 refine c_ Tryz.f12 fun _=>?_
 repeat' first | (refine gN hE ?_;conv=>whnf) | refine .pure _ [] h1 ?_ | refine .pure _ [] b ?_ | exact rfl | (refine zt ?_;try intro h) | refine zu (fun h=>?_) fun h=>?_ | fail
theorem aIy (s:Sta) (x:Cmd) (d:C8.chk x=0) (a:x.k=6) (S:Sta) (ev:List Ev) (b:aA Tryz.prog 18 [s.av] [] (.ret (.tup [S.av,.slice 3 (evv ev) .no])) []):apC s x (S,ev,0):=by
 have h1:=C8.rcheck_any x 0 d
 obtain ⟨k,c,g,n⟩:=x
 dsimp only at a
 subst a
 refine c_ Tryz.f12 fun _=>?_
 repeat' first | (refine gN hE ?_;conv=>whnf) | refine .pure _ [] h1 ?_ | refine .pure _ [] b ?_ | exact rfl | (refine zt ?_;try intro h) | refine zu (fun h=>?_) fun h=>?_ | fail
theorem aEQ (s:Sta) (x:Cmd) (e:C8.chk x=0) (b:x.k=3\/x.k=4) (hs:Sm s.run) (h:0<=bA (cR x.n) s.run 0):apC s x ({s with run:=aE s.run [x.n]},[],0):=by
 have h1:=C8.rcheck_any x 0 e
 have d:=HJ s x.n hs.1
 have h3:=lQ s.run hs [x.n] s_
 generalize bA (cR x.n) s.run 0=a at *
 obtain ⟨k,c,g,n⟩:=x
 generalize aE s.run [n]=rn at *
 rcases b with b | b<;>dsimp only at b<;>subst b
 all_goals
  refine cT (E:=(Eo [87] [])) (fn:=Tryz.f12) (g:=.pure _) fun _=>?_
  repeat' first | (refine gN (hEo [87] []) ?_;conv=>whnf) | refine .pure _ [] h1 ?_ | refine .pure _ [] d ?_ | refine .pure _ [] h3 ?_ | exact rfl | (refine zt ?_;try intro h) | refine zu (fun h=>?_) fun h=>?_ | fail
theorem aHq (s:Sta) (x:Cmd) (i:C8.chk x=0) (d:x.k=3\/x.k=4) (hs:Sm s.run) (hp:s.pend.length<=1000000) (h:¬ 0<=bA (cR x.n) s.run 0) (j:x.k=3\/jF x.n s.pend<0):apC s x (s,[],4):=by
 have h1:=C8.rcheck_any x 0 i
 have e:=HJ s x.n hs.1
 have h3:=wJ s.pend x.n hp
 generalize bA (cR x.n) s.run 0=a at *
 generalize jF x.n s.pend=b at *
 obtain ⟨k,c,g,n⟩:=x
 dsimp only at d j
 rcases d with rfl | rfl
 .refine c_ Tryz.f12 fun _=>?_
  repeat' first | (refine gN hE ?_;conv=>whnf) | refine .pure _ [] h1 ?_ | refine .pure _ [] e ?_ | exact rfl | (refine zt ?_;try intro h) | refine zu (fun h=>?_) fun h=>?_ | fail
 .have l:b<0:=o_
  refine c_ Tryz.f12 fun _=>?_
  repeat' first | (refine gN hE ?_;conv=>whnf) | refine .pure _ [] h1 ?_ | refine .pure _ [] e ?_ | refine .pure _ [] h3 ?_ | exact rfl | (refine zt ?_;try intro h) | refine zu (fun h=>?_) fun h=>?_ | fail
theorem aER (s:Sta) (x:Cmd) (i:C8.chk x=0) (d:x.k=4) (hs:Sm s.run) (hp:s.pend.length<=1000000) (h:¬ 0<=bA (cR x.n) s.run 0) (l:¬ jF x.n s.pend<0):apC s x ({s with pend:=fM s.pend x.n},[],0):=by
 have h1:=C8.rcheck_any x 0 i
 have e:=HJ s x.n hs.1
 have h3:=wJ s.pend x.n hp
 have j:=EZ s.pend x.n hp
 generalize bA (cR x.n) s.run 0=a at *
 generalize jF x.n s.pend=b at *
 generalize fM s.pend x.n=pq at *
 obtain ⟨k,c,g,n⟩:=x
 dsimp only at d
 subst d
 refine c_ Tryz.f12 fun _=>?_
 repeat' first | (refine gN hE ?_;conv=>whnf) | refine .pure _ [] h1 ?_ | refine .pure _ [] e ?_ | refine .pure _ [] h3 ?_ | refine .pure _ [] j ?_ | exact rfl | (refine zt ?_;try intro h) | refine zu (fun h=>?_) fun h=>?_ | fail
theorem aHr (s:Sta) (x:Cmd) (j:C8.chk x=0) (a:x.k=1) (i:x.c.sm) (h:bC x.c≠0):apC s x (s,[],bC x.c):=by
 have h1:=C8.rcheck_any x 0 j
 have b:=check_ok x.c i
 obtain ⟨k,c,g,n⟩:=x
 dsimp only at a h b⊢
 generalize bC c=e at *
 subst a
 have d:(e !=0)=true:=by simpa using h
 refine c_ Tryz.f12 fun _=>?_
 repeat' first | (refine gN hE ?_;conv=>whnf) | refine .pure _ [] h1 ?_ | refine .pure _ [] b ?_ | refine Aa (fun _=>?_) (fun h=>absurd (d.symm.trans h) d_) | exact rfl | (refine zt ?_;try intro h) | refine zu (fun h=>?_) fun h=>?_ | fail
theorem aB2 (s:Sta) (x:Cmd) (j:C8.chk x=0) (b:x.k=1) (i:x.c.sm) (h:bC x.c=0) (hp:s.pend.length<=1000000) (hl:s.run.length<=1000000) (l:0<s.pend.length+s.run.length):apC s x (s,[],7):=by
 have h1:=C8.rcheck_any x 0 j
 have a:=check_ok x.c i
 have e:(pnv s.pend).length=s.pend.length:=by simp
 have d:(rav s.run).length=s.run.length:=by simp
 obtain ⟨k,c,g,n⟩:=x
 dsimp only at b h a
 rw [h] at a
 subst b
 refine c_ Tryz.f12 fun _=>?_
 repeat' first | (refine gN hE ?_;conv=>whnf) | refine .pure _ [] h1 ?_ | refine .pure _ [] a ?_ | exact rfl | (refine zt ?_;try intro h) | refine zu (fun h=>?_) fun h=>?_ | fail
theorem aB1 (s:Sta) (x:Cmd) (q:C8.chk x=0) (i:x.k=1) (d:x.c.sm) (h:bC x.c=0) (hp:s.pend=[]) (hl:s.run=[]):apC s x ({s with c:=x.c,hist:=Ah x.c.ns.length 0},[],0):=by
 have h1:=C8.rcheck_any x 0 q
 have e:=check_ok x.c d
 have p:(pnv s.pend).length=0:=by rw [hp];rfl
 have o:(rav s.run).length=0:=by rw [hl];rfl
 obtain ⟨k,c,g,n⟩:=x
 dsimp only at i h e d⊢
 rw [h] at e
 subst i
 have m:=d.ns
 have a:(nav c.ns).length=c.ns.length:=by simp
 have l:(8:Int)*((nav c.ns).length:Int)<=281474976710656:=by rw [a];omega
 have j:(nav c.ns).length<=maxLen:=by rw [a];simp only [maxLen];omega
 have b:fv (Ah c.ns.length 0)=Ah (nav c.ns).length (.int .u64 0):=by rw [a];simp
 unfold apC Sta.av Sta.cs
 dsimp only
 rw [b]
 refine c_ Tryz.f12 fun _=>?_
 refine gV ?_
 refine .pure _ [] h1 ?_
 refine gV ?_
 refine Aa (fun h=>absurd h d_) (fun _=>?_)
 refine gV ?_
 refine Aa (fun _=>?_) (fun h=>by cases h)
 refine gV ?_
 refine .pure _ [] e ?_
 refine gV ?_
 refine Aa (fun h=>absurd h d_) (fun _=>?_)
 refine gV ?_
 refine aJ ?_
 refine gV ?_
 refine Aa (fun h=>absurd (of_decide_eq_true h) o_) (fun _=>?_)
 refine cX hE 2 ?_;conv=>whnf
 refine To.permT hE [0,1,2,3,4,5,7,9] [6,8,10] (by rfl) ?_;conv=>whnf
 refine aL ?_;conv=>whnf
 refine ⟨?_,?_,trivial⟩
 .conv=>whnf
  refine Ai (nav c.ns).length (Aa rfl ?_);conv=>whnf
  refine Aa (Aa rfl (Aa l j)) ?_;conv=>whnf
  refine aL ?_;conv=>whnf
  refine ⟨?_,trivial⟩;conv=>whnf
  refine aL ?_;conv=>whnf
  refine ⟨?_,trivial⟩;conv=>whnf
  refine aL ?_;conv=>whnf
  repeat' first | (refine gN hE ?_;conv=>whnf) | exact rfl | (refine zt ?_;try intro h) | refine zu (fun h=>?_) fun h=>?_ | fail
 .conv=>whnf
  refine aL ?_;conv=>whnf
  refine ⟨?_,trivial⟩;conv=>whnf
  refine Ai (nav c.ns).length (Aa rfl ?_);conv=>whnf
  refine Aa (Aa rfl (Aa l j)) ?_;conv=>whnf
  refine aL ?_;conv=>whnf
  refine ⟨?_,trivial⟩;conv=>whnf
  refine aL ?_;conv=>whnf
  repeat' first | (refine gN hE ?_;conv=>whnf) | exact rfl | (refine zt ?_;try intro h) | refine zu (fun h=>?_) fun h=>?_ | fail
theorem aBM {x:Cmd} (h:C8.chk x=0):1<=x.k/\x.k<=6:=by
 unfold C8.chk at h
 split at h
 .rename_i a
  simpa using a
 .omega
theorem WX (s:Sta) (x:Cmd) (h:StOK s) (t:x.k=1->x.c.sm) (r: -9223372036854775808<=x.n/\x.n<=9223372036854775807):apC s x (bP s x):=by
 have d:=h.run.sm
 have m:=h.run.base.few
 rw [Bo,Ck] at m
 unfold bP
 by_cases a:C8.chk x≠0
 .rw [if_pos a]
  exact aES s x _ rfl a
 rw [if_neg a]
 have a:C8.chk x=0:=Dm.1 a
 have u:=aBM a
 by_cases f:x.k=1
 .rw [if_pos f]
  have e:=t f
  by_cases b:bC x.c≠0
  .rw [if_pos b]
   exact aHr s x a f e b
  rw [if_neg b]
  have b:bC x.c=0:=Dm.1 b
  by_cases l:0<s.pend.length+s.run.length
  .rw [if_pos l]
   exact aB2 s x a f e b o_ o_ l
  .rw [if_neg l]
   exact aB1 s x a f e b (Cf.1 o_) (Cf.1 o_)
 rw [if_neg f]
 by_cases b:x.k=2
 .rw [if_pos b]
  exact aIA s x a b _ _ (NS s x.g h.c o_ o_ h.nxt.2 h.nxt.1)
 rw [if_neg b]
 by_cases p:x.k=5
 .rw [if_pos p]
  exact aIz s x a p _ _ _ (XS s x.n h.c d.run h.run.ord.lt h.run.ord.hl h.half (by have:=h.run.ord.now;omega) h.run.ord.now.2 r)
 rw [if_neg p]
 by_cases q:x.k=6
 .rw [if_pos q]
  exact aIy s x a q _ _ (RU s h.run)
 rw [if_neg q]
 have j:x.k=3\/x.k=4:=o_
 by_cases i:0<=bA (cR x.n) s.run 0
 .rw [if_pos i]
  exact aEQ s x a j d.run i
 rw [if_neg i]
 by_cases o:x.k=3\/jF x.n s.pend<0
 .rw [if_pos o]
  exact aHq s x a j d.run o_ i o
 .rw [if_neg o]
  exact aER s x a o_ d.run o_ i o_
def fpB (s:Sta) (p:Pn):Bool:=!((dA s.c.ns p.g==0)||(decide (p.at'<0)||decide (s.now<p.at')))&&s.run.all (two p.g.id p.seq)
def frB (l:List Rn):Nat->Nat->Bool
 | 0,_=>true
 | m+1,i=>(match l[i]? with
  | some x=>(l.take i).all (two x.g.id x.seq)
  | none=>true)&&frB l m (i+1)
def kX (s:Sta):Int:=
 if jD s.c s.now s.run=0 then 0 else if 32<s.pend.length then 0 else if yU s.pend=false then 0 else if s.hist.length≠s.c.ns.length then 0 else
 if s.pend.all (fpB s)&&frB s.run s.run.length 0 then 1 else 0
noncomputable abbrev fFa:Func:=Tryz.f17
theorem aBa (s:Sta) (hl:s.run.length<=1048576) (i:Nat) (q:i<1048576) (p:Pn) (r:Int):∀ (m k:Nat),k+m=s.run.length->((s.run.drop k).all (two p.g.id p.seq)=false->r=0)->
  ((s.run.drop k).all (two p.g.id p.seq)=true->To E fFa (.pure (.ret (ii r))) (.head (stk fFa 0) [(1,.ref 0 0),(3,.int .i64 ((i:Int)+1))] [.cells 30 s.cs]))->
  To E fFa (.pure (.ret (ii r))) (.head (stk fFa 1) [(1,.ref 0 0),(3,.int .i64 i),(4,.ref 1 0),(5,.int .i64 k)] [.cells 30 s.cs,.cells 62 p.cs]):=by
 have l:(rav s.run).length=s.run.length:=by simp
 intro m
 induction m with
 | zero=>
  intro k o b a
  have a:=a (by rw [Ae o_];rfl)
  refine gV ?_
  refine aF fun h=>?_
  repeat' first | (refine gN hE ?_;conv=>whnf) | exact rfl | (refine zt ?_;try intro h) | refine zu (fun h=>?_) fun h=>?_ | fail
  refine To.part [1,3] [0] rfl rfl rfl ?_
  exact a
 | succ m f=>
  intro k o b a
  have d:k<s.run.length:=o_
  rw [Ad d,Da] at b a
  have get:=cJ d
  generalize s.run[k]=x at get b a
  have j:two p.g.id p.seq x= !((x.g.id==p.g.id)||(x.seq==p.seq)):=rfl
  have next:=f (k+1) o_
  cases c:x.g.id==p.g.id with
  | true=>
   obtain rfl:=b (by rw [j,c];rfl)
   clear next a f
   refine gV ?_
   refine aT fun h=>?_
   repeat' first | (refine gN hE ?_;conv=>whnf) | refine ⟨k,rfl,?_⟩ | refine ⟨_,get,?_⟩ | refine Aa (fun _=>?_) (fun h=>absurd (c.symm.trans h) d_) | exact rfl | (refine zt ?_;try intro h) | refine zu (fun h=>?_) fun h=>?_ | fail
  | false=>
   cases e:x.seq==p.seq with
   | true=>
    obtain rfl:=b (by rw [j,c,e];rfl)
    clear next a f
    refine gV ?_
    refine aT fun h=>?_
    repeat' first | (refine gN hE ?_;conv=>whnf) | refine ⟨k,rfl,?_⟩ | refine ⟨_,get,?_⟩ | refine Aa (fun h=>absurd (c.symm.trans h) d_) (fun _=>?_) | refine Aa (fun _=>?_) (fun h=>absurd (e.symm.trans h) d_) | exact rfl | (refine zt ?_;try intro h) | refine zu (fun h=>?_) fun h=>?_ | fail
   | false=>
    have n:two p.g.id p.seq x=true:=by rw [j,c,e];rfl
    rw [n,Bw] at b a
    have next:=next b a
    clear f b a
    refine gV ?_
    refine aT fun h=>?_
    repeat' first | (refine gN hE ?_;conv=>whnf) | refine ⟨k,rfl,?_⟩ | refine ⟨_,get,?_⟩ | refine Aa (fun h=>absurd (c.symm.trans h) d_) (fun _=>?_) | refine Aa (fun h=>absurd (e.symm.trans h) d_) (fun _=>?_) | exact rfl | (refine zt ?_;try intro h) | refine zu (fun h=>?_) fun h=>?_ | fail
    refine To.part [1,3,4,5] [0,1] rfl rfl rfl ?_
    exact next
theorem PK (s:Sta) (hl:s.run.length<=1048576) (i:Nat) (y:Rn) (f:(rav s.run)[i]? =some y.av) (q:i<s.run.length) (r:Int):∀ (m k:Nat),k+m=i->(((s.run.take i).drop k).all (two y.g.id y.seq)=false->r=0)->
  (((s.run.take i).drop k).all (two y.g.id y.seq)=true->To E fFa (.pure (.ret (ii r))) (.head (stk fFa 2) [(1,.ref 0 0),(6,.int .i64 ((i:Int)+1))] [.cells 30 s.cs]))->
  To E fFa (.pure (.ret (ii r))) (.head (stk fFa 3) [(1,.ref 0 0),(6,.int .i64 i),(7,.int .i64 k)] [.cells 30 s.cs]):=by
 have n:(rav s.run).length=s.run.length:=by simp
 intro m
 induction m with
 | zero=>
  intro k p b a
  have a:=a (by rw [Ae (by rw [Fc];omega)];rfl)
  refine gV ?_
  refine aF fun h=>?_
  repeat' first | (refine gN hE ?_;conv=>whnf) | exact rfl | (refine zt ?_;try intro h) | refine zu (fun h=>?_) fun h=>?_ | fail
  refine To.part [1,6] [0] rfl rfl rfl ?_
  exact a
 | succ m e=>
  intro k p b a
  have j:k<(s.run.take i).length:=by rw [Fc];omega
  rw [Ad j,Da] at b a
  rw [List.getElem_take] at b a
  have get:=cJ (show k<s.run.length by omega)
  generalize s.run[k]=x at get b a
  have l:two y.g.id y.seq x= !((x.g.id==y.g.id)||(x.seq==y.seq)):=rfl
  have next:=e (k+1) o_
  cases c:x.g.id==y.g.id with
  | true=>
   obtain rfl:=b (by rw [l,c];rfl)
   clear next a e
   refine gV ?_
   refine aT fun h=>?_
   repeat' first | (refine gN hE ?_;conv=>whnf) | refine ⟨k,rfl,?_⟩ | refine ⟨_,get,?_⟩ | refine ⟨i,rfl,?_⟩ | refine ⟨_,f,?_⟩ | refine Aa (fun _=>?_) (fun h=>absurd (c.symm.trans h) d_) | exact rfl | (refine zt ?_;try intro h) | refine zu (fun h=>?_) fun h=>?_ | fail
  | false=>
   cases d:x.seq==y.seq with
   | true=>
    obtain rfl:=b (by rw [l,c,d];rfl)
    clear next a e
    refine gV ?_
    refine aT fun h=>?_
    repeat' first | (refine gN hE ?_;conv=>whnf) | refine ⟨k,rfl,?_⟩ | refine ⟨_,get,?_⟩ | refine ⟨i,rfl,?_⟩ | refine ⟨_,f,?_⟩ | refine Aa (fun h=>absurd (c.symm.trans h) d_) (fun _=>?_) | refine Aa (fun _=>?_) (fun h=>absurd (d.symm.trans h) d_) | exact rfl | (refine zt ?_;try intro h) | refine zu (fun h=>?_) fun h=>?_ | fail
   | false=>
    have o:two y.g.id y.seq x=true:=by rw [l,c,d];rfl
    rw [o,Bw] at b a
    have next:=next b a
    clear e b a
    refine gV ?_
    refine aT fun h=>?_
    repeat' first | (refine gN hE ?_;conv=>whnf) | refine ⟨k,rfl,?_⟩ | refine ⟨_,get,?_⟩ | refine ⟨i,rfl,?_⟩ | refine ⟨_,f,?_⟩ | refine Aa (fun h=>absurd (c.symm.trans h) d_) (fun _=>?_) | refine Aa (fun h=>absurd (d.symm.trans h) d_) (fun _=>?_) | exact rfl | (refine zt ?_;try intro h) | refine zu (fun h=>?_) fun h=>?_ | fail
    refine To.part [1,6,7] [0] rfl rfl rfl ?_
    exact next
theorem PL (s:Sta) (hl:s.run.length<=1048576) (r:Int):∀ (m i:Nat),i+m=s.run.length->(if frB s.run m i then (1:Int) else 0)=r->
  To E fFa (.pure (.ret (ii r))) (.head (stk fFa 2) [(1,.ref 0 0),(6,.int .i64 i)] [.cells 30 s.cs]):=by
 have c:(rav s.run).length=s.run.length:=by simp
 intro m
 induction m with
 | zero=>
  intro i e a
  have a:1=r:=a
  subst a
  refine gV ?_
  refine aF fun h=>?_
  repeat' first | (refine gN hE ?_;conv=>whnf) | exact rfl | (refine zt ?_;try intro h) | refine zu (fun h=>?_) fun h=>?_ | fail
 | succ m d=>
  intro i e a
  have b:i<s.run.length:=o_
  unfold frB at a
  rw [Ab b] at a
  have a:(if ((s.run.take i).all (two s.run[i].g.id s.run[i].seq)&&frB s.run m (i+1))=true then (1:Int) else 0)=r:=a
  have next:=PK s hl i s.run[i] (cJ b) b r i 0 o_ (fun h=>by rw [Bx] at h;rw [h] at a;exact a.symm) (fun h=>d (i+1) o_ (by rw [Bx] at h;rw [h,Bw] at a;exact a))
  refine gV ?_
  refine aT fun h=>?_
  repeat' first | (refine gN hE ?_;conv=>whnf) | exact rfl | (refine zt ?_;try intro h) | refine zu (fun h=>?_) fun h=>?_ | fail
  refine To.part [1,6,7] [0] rfl rfl rfl ?_
  exact next
theorem PN (s:Sta) (o:s.c.sm) (hp:s.pend.length<=1000000) (hl:s.run.length<=1048576) (r:Int):∀ (m i:Nat),i+m=s.pend.length->(if (s.pend.drop i).all (fpB s)&&frB s.run s.run.length 0 then (1:Int) else 0)=r->
  To E fFa (.pure (.ret (ii r))) (.head (stk fFa 0) [(1,.ref 0 0),(3,.int .i64 i)] [.cells 30 s.cs]):=by
 have n:(pnv s.pend).length=s.pend.length:=by simp
 intro m
 induction m with
 | zero=>
  intro i u a
  rw [Ae o_] at a
  have next:=PL s hl r s.run.length 0 o_ a
  refine gV ?_
  refine aF fun h=>?_
  repeat' first | (refine gN hE ?_;conv=>whnf) | exact rfl | (refine zt ?_;try intro h) | refine zu (fun h=>?_) fun h=>?_ | fail
  refine To.part [1,6] [0] rfl rfl rfl ?_
  exact next
 | succ m e=>
  intro i u a
  have f:i<s.pend.length:=o_
  rw [Ad f,Da] at a
  have get:=lR f
  generalize s.pend[i]=p at get a
  have b:=vG s.c o p.g
  have j:fpB s p=(!((dA s.c.ns p.g==0)||(decide (p.at'<0)||decide (s.now<p.at')))&&s.run.all (two p.g.id p.seq)):=rfl
  have next:=aBa s hl i o_ p r s.run.length 0 o_
  have e:=e (i+1) o_
  cases d:(dA s.c.ns p.g==0) with
  | true=>
   rw [j,d] at a
   have a:0=r:=a
   subst a
   generalize dA s.c.ns p.g=q at *
   clear next e
   refine gV ?_
   refine aT fun h=>?_
   repeat' first | (refine gN hE ?_;conv=>whnf) | refine ⟨i,rfl,?_⟩ | refine ⟨_,get,?_⟩ | refine .pure _ [] b ?_ | refine Aa (fun _=>?_) (fun h=>absurd (d.symm.trans h) d_) | exact rfl | (refine zt ?_;try intro h) | refine zu (fun h=>?_) fun h=>?_ | fail
  | false=>
   by_cases k:p.at'<0
   .rw [j,d,decide_eq_true k] at a
    have a:0=r:=a
    subst a
    generalize dA s.c.ns p.g=q at *
    clear next e
    refine gV ?_
    refine aT fun h=>?_
    repeat' first | (refine gN hE ?_;conv=>whnf) | refine ⟨i,rfl,?_⟩ | refine ⟨_,get,?_⟩ | refine .pure _ [] b ?_ | refine Aa (fun h=>absurd (d.symm.trans h) d_) (fun _=>?_) | exact rfl | (refine zt ?_;try intro h) | refine zu (fun h=>?_) fun h=>?_ | fail
   .by_cases l:s.now<p.at'
    .rw [j,d,decide_eq_true l,decide_eq_false k] at a
     have a:0=r:=a
     subst a
     generalize dA s.c.ns p.g=q at *
     clear next e
     refine gV ?_
     refine aT fun h=>?_
     repeat' first | (refine gN hE ?_;conv=>whnf) | refine ⟨i,rfl,?_⟩ | refine ⟨_,get,?_⟩ | refine .pure _ [] b ?_ | refine Aa (fun h=>absurd (d.symm.trans h) d_) (fun _=>?_) | exact rfl | (refine zt ?_;try intro h) | refine zu (fun h=>?_) fun h=>?_ | fail
    .rw [j,d,decide_eq_false l,decide_eq_false k] at a
     have a:(if (s.run.all (two p.g.id p.seq)&&(s.pend.drop (i+1)).all (fpB s))&&frB s.run s.run.length 0 then (1:Int) else 0)=r:=a
     have next:=next (fun h=>by rw [Bx] at h;rw [h] at a;exact a.symm) (fun h=>e (by rw [Bx] at h;rw [h,Bw] at a;exact a))
     generalize dA s.c.ns p.g=q at *
     clear e a
     refine gV ?_
     refine aT fun h=>?_
     repeat' first | (refine gN hE ?_;conv=>whnf) | refine ⟨i,rfl,?_⟩ | refine ⟨_,get,?_⟩ | refine .pure _ [] b ?_ | refine Aa (fun h=>absurd (d.symm.trans h) d_) (fun _=>?_) | exact rfl | (refine zt ?_;try intro h) | refine zu (fun h=>?_) fun h=>?_ | fail
     refine To.part [1,3,4,5] [0,1] rfl rfl rfl ?_
     exact next
theorem tH (s:Sta) (o:s.c.sm) (hs:Sm s.run) (r:Int) (a:kX s=r):aA Tryz.prog 17 [s.av] [] (.ret (ii r)) []:=by
 have d:=PO s.c o s.now s.run hs
 have l1:(pnv s.pend).length=s.pend.length:=by simp
 have l2:(fv s.hist).length=s.hist.length:=by simp
 have n:(nav s.c.ns).length=s.c.ns.length:=by simp
 unfold kX at a
 by_cases j:jD s.c s.now s.run=0
 .rw [if_pos j] at a
  subst a
  rw [j] at d
  refine c_ Tryz.f17 fun _=>?_
  repeat' first | (refine gN hE ?_;conv=>whnf) | refine .pure _ [] d ?_ | exact rfl | (refine zt ?_;try intro h) | refine zu (fun h=>?_) fun h=>?_ | fail
 rw [if_neg j] at a
 have k:(jD s.c s.now s.run==0)=false:=beq_eq_false_iff_ne.2 j
 generalize jD s.c s.now s.run=w at *
 by_cases m:32<s.pend.length
 .rw [if_pos m] at a
  subst a
  refine c_ Tryz.f17 fun _=>?_
  repeat' first | (refine gN hE ?_;conv=>whnf) | refine .pure _ [] d ?_ | refine Aa (fun h=>absurd (k.symm.trans h) d_) (fun _=>?_) | exact rfl | (refine zt ?_;try intro h) | refine zu (fun h=>?_) fun h=>?_ | fail
 rw [if_neg m] at a
 have b:=Q2.checkref_ok (s.pend.map Pn.q) (by rw [Ck];omega)
 rw [uN,show Q2.checkP (s.pend.map Pn.q)=yU s.pend from rfl] at b
 cases i:yU s.pend with
 | false=>
  rw [if_pos i] at a
  subst a
  rw [i] at b
  refine c_ Tryz.f17 fun _=>?_
  repeat' first | (refine gN hE ?_;conv=>whnf) | refine .pure _ [] d ?_ | refine .pure _ [] b ?_ | refine Aa (fun h=>absurd (k.symm.trans h) d_) (fun _=>?_) | exact rfl | (refine zt ?_;try intro h) | refine zu (fun h=>?_) fun h=>?_ | fail
 | true=>
  rw [if_neg (by rw [i];decide)] at a
  rw [i] at b
  by_cases e:s.hist.length≠s.c.ns.length
  .rw [if_pos e] at a
   subst a
   have l:(((fv s.hist).length:Int) !=((nav s.c.ns).length:Int))=true:=by rw [l2,n];simp;omega
   refine c_ Tryz.f17 fun _=>?_
   repeat' first | (refine gN hE ?_;conv=>whnf) | refine .pure _ [] d ?_ | refine .pure _ [] b ?_ | refine Aa (fun h=>absurd (k.symm.trans h) d_) (fun _=>?_) | refine Aa (fun _=>?_) (fun h=>absurd (l.symm.trans h) d_) | exact rfl | (refine zt ?_;try intro h) | refine zu (fun h=>?_) fun h=>?_ | fail
  .rw [if_neg e] at a
   have e:s.hist.length=s.c.ns.length:=Dm.1 e
   have l:(((fv s.hist).length:Int) !=((nav s.c.ns).length:Int))=false:=by rw [l2,n,e];simp
   have next:=PN s o o_ hs.1 r s.pend.length 0 o_ (by rw [Bx];exact a)
   refine c_ Tryz.f17 fun _=>?_
   repeat' first | (refine gN hE ?_;conv=>whnf) | refine .pure _ [] d ?_ | refine .pure _ [] b ?_ | refine Aa (fun h=>absurd (k.symm.trans h) d_) (fun _=>?_) | refine Aa (fun h=>absurd (l.symm.trans h) d_) (fun _=>?_) | exact rfl | (refine zt ?_;try intro h) | refine zu (fun h=>?_) fun h=>?_ | fail
   exact zqws2
theorem qO {l:List Rn}:∀ {m i:Nat},frB l m i=true->∀ j (h:j<l.length),i<=j->j<i+m->(l.take j).all (two l[j].g.id l[j].seq)=true
 | 0,i,_,j,_,h1,h2=>by omega
 | m+1,i,h0,j,h,h1,h2=>by
  unfold frB at h0
  rw [Af] at h0
  by_cases a:j=i
  .subst a
   have:=h0.1
   rw [Ab h] at this
   exact this
  .exact qO h0.2 j h o_ o_
theorem AT {a b:Int} {x:Rn} (h:two a b x=true):x.g.id≠a/\x.seq≠b:=by
 unfold two at h
 simpa using h
theorem IJ {l:List Rn} (h:frB l l.length 0=true):l.Pairwise fun a b=>a.g.id≠b.g.id/\a.seq≠b.seq:=by
 rw [Dh]
 intro i j e c d
 have h1:=qO h j c (Cc _) o_
 rw [Bq] at h1
 exact AT (h1 l[i] (Gk.2 ⟨i,by omega,rfl⟩))
theorem PR (c:Con) (now:Int) (l:List Rn):jD c now l=0\/jD c now l=1:=by
 unfold jD
 repeat' split
 all_goals first | exact .inl rfl | exact .inr rfl
theorem PT {s:Sta} (h:kX s≠0):FairP s:=by
 unfold kX at h
 split at h
 .exact absurd rfl h
 split at h
 .exact absurd rfl h
 split at h
 .exact absurd rfl h
 split at h
 .exact absurd rfl h
 split at h
 .rename_i h1 d h3 b a
  rw [Af,Bq] at a
  refine ⟨(PR _ _ _).resolve_left h1,by omega,by simpa using h3,Dm.1 b,fun p hp=>?_,fun p hp x c=>?_,IJ a.2⟩
  .have:=a.1 p hp
   unfold fpB at this
   simp only [Af,Co,Hl,beq_eq_false_iff_ne,decide_eq_false_iff_not] at this
   exact ⟨this.1.1,by omega,by omega⟩
  .have:=a.1 p hp
   unfold fpB at this
   rw [Af,Bq] at this
   exact AT (this.2 x c)
 .exact absurd rfl h
theorem kV {ns:List Nod} {g:Gan} (h:dA ns g≠0):vI ns g=true:=by
 unfold dA at h
 split at h
 .assumption
 .exact absurd rfl h
theorem fX {ns:List Nod} {g:Gan} (h:vI ns g=true):NeedOK g:=by
 unfold vI at h
 simp only [Af,decide_eq_true_eq] at h
 exact ⟨h.2.1,by omega,by omega,by omega,by omega⟩
theorem wY {c:Con} {now:Int} {l:List Rn} (h:jD c now l=1):bC c=0/\l.length<=32/\(0<=now/\now<=1099511627776)/\∀ x∈l,dA c.ns x.g≠0/\(0<=x.st/\x.st<=now)/\(x.hs.length:Int)=x.g.pods/\∀ u∈x.hs,0<=u/\u<(c.hs.length:Int):=by
 unfold jD at h
 split at h
 .omega
 .rename_i b
  unfold DR at b
  split at h
  .rename_i hl
   rw [Bq] at hl
   refine ⟨by omega,by omega,by omega,fun x e=>?_⟩
   have h1:=hl x e
   unfold N3 at h1
   split at h1
   .cases h1
   .rename_i a
    unfold DQ at a
    unfold hJ at h1
    rw [Bq] at h1
    exact ⟨by omega,by omega,by omega,fun u d=>of_decide_eq_true (h1 u d)⟩
  .omega
def hC (s:Sta):Int:=
 if dP s.c=true then (if (s.pend.length=0/\s.run.length=0/\s.hist.length=0)/\(0<=s.now/\s.now<=1099511627776)/\1<=s.nxt/\s.nxt<=1099511627776 then 1 else 0) else
 if s.nxt<1\/1099511627776<s.nxt\/32<s.pend.length+s.run.length then 0 else
 if s.pend.all (fun p=>decide (0<=p.seq/\p.seq<s.nxt))=true then kX s else 0
theorem wZ {s:Sta} (h:hC s≠0):FairS s:=by
 unfold hC at h
 split at h
 .rename_i n
  split at h
  .rename_i h1
   have C:=iB.1 n
   obtain ⟨c,now,nxt,pend,run,hist⟩:=s
   dsimp only at *
   obtain ⟨⟨a,b,d⟩,e,f⟩:=h1
   obtain rfl:=Cf.1 a
   obtain rfl:=Cf.1 b
   obtain rfl:=Cf.1 d
   subst C
   exact ⟨kU (.inl n),.inl n,e,f,Cc _,rfl,Cz,Gh,Gh,fun x i=>(by cases i),fun x i=>(by cases i),fun x i=>(by cases i)⟩
  .exact absurd rfl h
 .split at h
  .exact absurd rfl h
  .split at h
   .rename_i h1 D h3
    have hp:=PT h
    obtain ⟨u,F,z,t⟩:=wY hp.few
    have l:Q2.Good (s.pend.map Pn.q):=Q2.check_good.1 hp.row
    have A:(s.pend.map fun x=>x.g.id).Nodup:=by
     have:=l.id
     rw [Bu] at this
     unfold Fp
     rw [Bu]
     exact this
    have B:(s.pend.map fun x=>x.seq).Nodup:=by
     have:=l.seq
     rw [Bu] at this
     unfold Fp
     rw [Bu]
     exact this.imp fun h e=>by have h:_<_:=h;exact absurd e (Int.ne_of_lt h)
    have y:((s.run.map Rn.pn).map fun x=>x.g.id).Nodup:=by
     unfold Fp
     rw [Bu,Bu]
     exact hp.once.imp fun h=>h.1
    have w:((s.run.map Rn.pn).map fun x=>x.seq).Nodup:=by
     unfold Fp
     rw [Bu,Bu]
     exact hp.once.imp fun h=>h.2
    refine ⟨kU (.inr u),.inr u,z,by omega,by omega,hp.hist,ET.1 l.seq,?_,?_,fun x i=>?_,fun p i=>(hp.gang p i).2,fun x i=>?_⟩
    .rw [Bl,Ax]
     refine ⟨A,y,fun a m b j e=>?_⟩
     obtain ⟨p,o,rfl⟩:=Bb.1 m
     rw [Cu] at j
     obtain ⟨x,i,k⟩:=Bb.1 j
     exact (hp.two p o x i).1 (k.trans e.symm)
    .rw [Bl,Ax]
     refine ⟨B,w,fun a m b j e=>?_⟩
     obtain ⟨p,o,rfl⟩:=Bb.1 m
     rw [Cu] at j
     obtain ⟨x,i,k⟩:=Bb.1 j
     exact (hp.two p o x i).2 (k.trans e.symm)
    .rcases Ao.1 i with i | i
     .exact fX (kV (hp.gang x i).1)
     .obtain ⟨r,v,rfl⟩:=Bb.1 i
      exact fX (kV (t r v).1)
    .have h1:=t x i
     have D:=(fX (kV h1.1)).pods
     have h3:=h1.2.2.1
     omega
   .exact absurd rfl h
theorem aGh {s:Sta} (h:StOK s) (hs:Sm s.run) (x:Cmd) (f:x.k=1->x.c.sm):Sm (bP s x).1.run/\(bP s x).1.hist.length<=1048576/\(bP s x).2.1.length<=1000000:=by
 have a:=h.run.ord.hl
 have fl:∀ q:Rn->Bool,Sm (s.run.filter q):=fun q=>⟨Cm (Dp _ _) hs.1,fun x i=>hs.2 x (Dt.1 i).1⟩
 have same:Sm s.run/\s.hist.length<=1048576/\([]:List Ev).length<=1000000:=⟨hs,a,by simp⟩
 unfold bP
 split
 .exact same
 split
 .rename_i d
  split
  .exact same
  .split
   .exact same
   .refine ⟨hs,?_,by simp⟩
    show (Ah _ _).length<=_
    rw [Fl]
    exact (f d).ns
 split
 .have:(cM s x.g).1.hist=s.hist/\(cM s x.g).1.run=s.run:=by
   unfold cM
   iterate 4 (split;· exact ⟨rfl,rfl⟩)
   exact ⟨rfl,rfl⟩
  rw [this.1,this.2]
  exact same
 split
 .unfold gZ
  split
  .exact same
  .split
   .exact same
   .refine ⟨fl _,?_,?_⟩
    .show (tkL _ _ _ _).length<=_
     unfold tkL
     rw [iE]
     exact a
    .show (lA _ _).length<=_
     unfold lA
     rw [Ck]
     have:=Dp (fun x=>decide (dN x<=s.now+x.g.id)) s.run
     refine Cm (Dp _ _) ?_
     have:=h.run.base.few
     simp at this
     omega
 split
 .obtain ⟨h1,b⟩:=mQ h.run.base (uQ s) _ h.run.start
  refine ⟨h1.sm h.run.base,?_,?_⟩
  .have e:(eW s).s.hist=s.hist:=h1.hist
   show (eW s).s.hist.length<=_
   rw [e]
   exact a
  .have b:(eW s).ev.length+100*0<=900000:=b
   show (eW s).ev.length<=_
   omega
 split
 .exact ⟨fl _,a,by simp⟩
 split
 .exact same
 .exact ⟨hs,a,by simp⟩
noncomputable abbrev fF4:Func:=Tryz.f6
theorem IR (s:Sta) (f:s.c.sm) (hs:Sm s.run) (hp:s.pend.length<=32) (r:Int):∀ (m i:Nat),i+m=s.pend.length->(if (s.pend.drop i).all (fun p=>decide (0<=p.seq/\p.seq<s.nxt))=true then kX s else 0)=r->
  To E fF4 (.pure (.ret (ii r))) (.head (stk fF4 0) [(1,.ref 0 0),(3,ii i)] [.cells 30 s.cs]):=by
 have e:(pnv s.pend).length=s.pend.length:=by simp
 intro m
 induction m with
 | zero=>
  intro i g a
  rw [Ae o_] at a
  have a:kX s=r:=a
  have h1:=tH s f hs r a
  refine gV ?_
  refine aF fun h=>?_
  repeat' first | (refine gN hE ?_;conv=>whnf) | refine .pure _ [] h1 ?_ | exact rfl | (refine zt ?_;try intro h) | refine zu (fun h=>?_) fun h=>?_ | fail
 | succ m d=>
  intro i g a
  have b:i<s.pend.length:=o_
  rw [Ad b,Da] at a
  have get:=lR b
  generalize s.pend[i]=p at get a
  have d:=d (i+1) o_
  by_cases q:0<=p.seq/\p.seq<s.nxt
  .rw [decide_eq_true q,Bw] at a
   have next:=d a
   clear d a
   refine gV ?_
   refine aT fun h=>?_
   repeat' first | (refine gN hE ?_;conv=>whnf) | refine ⟨i,rfl,?_⟩ | refine ⟨_,get,?_⟩ | exact rfl | (refine zt ?_;try intro h) | refine zu (fun h=>?_) fun h=>?_ | fail
   exact zqws2
  .rw [decide_eq_false q,Dn] at a
   have a:0=r:=a
   subst a
   clear d
   by_cases k:p.seq<0
   .refine gV ?_
    refine aT fun h=>?_
    repeat' first | (refine gN hE ?_;conv=>whnf) | refine ⟨i,rfl,?_⟩ | refine ⟨_,get,?_⟩ | exact rfl | (refine zt ?_;try intro h) | refine zu (fun h=>?_) fun h=>?_ | fail
   .have j:s.nxt<=p.seq:=o_
    refine gV ?_
    refine aT fun h=>?_
    repeat' first | (refine gN hE ?_;conv=>whnf) | refine ⟨i,rfl,?_⟩ | refine ⟨_,get,?_⟩ | exact rfl | (refine zt ?_;try intro h) | refine zu (fun h=>?_) fun h=>?_ | fail
set_option maxHeartbeats 2000000 in
theorem oS (s:Sta) (F:s.c.sm) (hs:Sm s.run) (C:s.pend.length<=1048576) (r:Int) (i:hC s=r):aA Tryz.prog 6 [s.av] [] (.ret (ii r)) []:=by
 have l1:(pnv s.pend).length=s.pend.length:=by simp
 have l2:(fv s.hist).length=s.hist.length:=by simp
 have I:(nav s.c.ns).length=s.c.ns.length:=by simp
 have L:(hav s.c.hs).length=s.c.hs.length:=by simp
 have K:(rav s.run).length=s.run.length:=by simp
 have hsl:=hs.1
 unfold hC at i
 by_cases v:dP s.c=true
 .rw [if_pos v] at i
  have n:=iB.1 v
  have m:(((nav s.c.ns).length:Int)==0)=true:=by rw [n];rfl
  have l:(((hav s.c.hs).length:Int)==0)=true:=by rw [n];rfl
  have k:(s.c.half==0)=true:=by rw [n];rfl
  have j:(s.c.age==0)=true:=by rw [n];rfl
  obtain ⟨t,d⟩:∃ b,(((pnv s.pend).length:Int)==0)=b:=⟨_,rfl⟩
  obtain ⟨q,a⟩:∃ b,(((rav s.run).length:Int)==0)=b:=⟨_,rfl⟩
  obtain ⟨p,e3⟩:∃ b,(((fv s.hist).length:Int)==0)=b:=⟨_,rfl⟩
  have x:t=true↔s.pend.length=0:=by rw [<-d,beq_iff_eq];omega
  have z:q=true↔s.run.length=0:=by rw [<-a,beq_iff_eq];omega
  have y:p=true↔s.hist.length=0:=by rw [<-e3,beq_iff_eq];omega
  by_cases o:(s.pend.length=0/\s.run.length=0/\s.hist.length=0)/\(0<=s.now/\s.now<=1099511627776)/\1<=s.nxt/\s.nxt<=1099511627776
  .rw [if_pos o] at i
   subst i
   obtain rfl:=x.2 o.1.1
   obtain rfl:=z.2 o.1.2.1
   obtain rfl:=y.2 o.1.2.2
   refine c_ Tryz.f6 fun _=>?_
   repeat' first | (refine gN hE ?_;conv=>whnf) | refine Aa (fun h=>absurd (m.symm.trans h) d_) (fun _=>?_) | refine Aa (fun _=>?_) (fun h=>absurd (m.symm.trans h) d_) | refine Aa (fun h=>absurd (l.symm.trans h) d_) (fun _=>?_) | refine Aa (fun _=>?_) (fun h=>absurd (l.symm.trans h) d_) | refine Aa (fun h=>absurd (k.symm.trans h) d_) (fun _=>?_) | refine Aa (fun _=>?_) (fun h=>absurd (k.symm.trans h) d_) | refine Aa (fun h=>absurd (j.symm.trans h) d_) (fun _=>?_) | refine Aa (fun _=>?_) (fun h=>absurd (j.symm.trans h) d_) | refine Aa (fun h=>absurd (d.symm.trans h) d_) (fun _=>?_) | refine Aa (fun _=>?_) (fun h=>absurd (d.symm.trans h) d_) | refine Aa (fun h=>absurd (a.symm.trans h) d_) (fun _=>?_) | refine Aa (fun _=>?_) (fun h=>absurd (a.symm.trans h) d_) | refine Aa (fun h=>absurd (e3.symm.trans h) d_) (fun _=>?_) | refine Aa (fun _=>?_) (fun h=>absurd (e3.symm.trans h) d_) | exact rfl | (refine zt ?_;try intro h) | refine zu (fun h=>?_) fun h=>?_ | fail
  .rw [if_neg o] at i
   subst i
   cases t with
   | false=>
     refine c_ Tryz.f6 fun _=>?_
     repeat' first | (refine gN hE ?_;conv=>whnf) | refine Aa (fun h=>absurd (m.symm.trans h) d_) (fun _=>?_) | refine Aa (fun _=>?_) (fun h=>absurd (m.symm.trans h) d_) | refine Aa (fun h=>absurd (l.symm.trans h) d_) (fun _=>?_) | refine Aa (fun _=>?_) (fun h=>absurd (l.symm.trans h) d_) | refine Aa (fun h=>absurd (k.symm.trans h) d_) (fun _=>?_) | refine Aa (fun _=>?_) (fun h=>absurd (k.symm.trans h) d_) | refine Aa (fun h=>absurd (j.symm.trans h) d_) (fun _=>?_) | refine Aa (fun _=>?_) (fun h=>absurd (j.symm.trans h) d_) | refine Aa (fun h=>absurd (d.symm.trans h) d_) (fun _=>?_) | refine Aa (fun _=>?_) (fun h=>absurd (d.symm.trans h) d_) | refine Aa (fun h=>absurd (a.symm.trans h) d_) (fun _=>?_) | refine Aa (fun _=>?_) (fun h=>absurd (a.symm.trans h) d_) | refine Aa (fun h=>absurd (e3.symm.trans h) d_) (fun _=>?_) | refine Aa (fun _=>?_) (fun h=>absurd (e3.symm.trans h) d_) | exact rfl | (refine zt ?_;try intro h) | refine zu (fun h=>?_) fun h=>?_ | fail
   | true=>
    cases q with
    | false=>
     refine c_ Tryz.f6 fun _=>?_
     repeat' first | (refine gN hE ?_;conv=>whnf) | refine Aa (fun h=>absurd (m.symm.trans h) d_) (fun _=>?_) | refine Aa (fun _=>?_) (fun h=>absurd (m.symm.trans h) d_) | refine Aa (fun h=>absurd (l.symm.trans h) d_) (fun _=>?_) | refine Aa (fun _=>?_) (fun h=>absurd (l.symm.trans h) d_) | refine Aa (fun h=>absurd (k.symm.trans h) d_) (fun _=>?_) | refine Aa (fun _=>?_) (fun h=>absurd (k.symm.trans h) d_) | refine Aa (fun h=>absurd (j.symm.trans h) d_) (fun _=>?_) | refine Aa (fun _=>?_) (fun h=>absurd (j.symm.trans h) d_) | refine Aa (fun h=>absurd (d.symm.trans h) d_) (fun _=>?_) | refine Aa (fun _=>?_) (fun h=>absurd (d.symm.trans h) d_) | refine Aa (fun h=>absurd (a.symm.trans h) d_) (fun _=>?_) | refine Aa (fun _=>?_) (fun h=>absurd (a.symm.trans h) d_) | refine Aa (fun h=>absurd (e3.symm.trans h) d_) (fun _=>?_) | refine Aa (fun _=>?_) (fun h=>absurd (e3.symm.trans h) d_) | exact rfl | (refine zt ?_;try intro h) | refine zu (fun h=>?_) fun h=>?_ | fail
    | true=>
     cases p with
     | false=>
     refine c_ Tryz.f6 fun _=>?_
     repeat' first | (refine gN hE ?_;conv=>whnf) | refine Aa (fun h=>absurd (m.symm.trans h) d_) (fun _=>?_) | refine Aa (fun _=>?_) (fun h=>absurd (m.symm.trans h) d_) | refine Aa (fun h=>absurd (l.symm.trans h) d_) (fun _=>?_) | refine Aa (fun _=>?_) (fun h=>absurd (l.symm.trans h) d_) | refine Aa (fun h=>absurd (k.symm.trans h) d_) (fun _=>?_) | refine Aa (fun _=>?_) (fun h=>absurd (k.symm.trans h) d_) | refine Aa (fun h=>absurd (j.symm.trans h) d_) (fun _=>?_) | refine Aa (fun _=>?_) (fun h=>absurd (j.symm.trans h) d_) | refine Aa (fun h=>absurd (d.symm.trans h) d_) (fun _=>?_) | refine Aa (fun _=>?_) (fun h=>absurd (d.symm.trans h) d_) | refine Aa (fun h=>absurd (a.symm.trans h) d_) (fun _=>?_) | refine Aa (fun _=>?_) (fun h=>absurd (a.symm.trans h) d_) | refine Aa (fun h=>absurd (e3.symm.trans h) d_) (fun _=>?_) | refine Aa (fun _=>?_) (fun h=>absurd (e3.symm.trans h) d_) | exact rfl | (refine zt ?_;try intro h) | refine zu (fun h=>?_) fun h=>?_ | fail
     | true=>
      have n1:=x.1 rfl
      have n2:=z.1 rfl
      have J:=y.1 rfl
      refine c_ Tryz.f6 fun _=>?_
      repeat' first | (refine gN hE ?_;conv=>whnf) | refine Aa (fun h=>absurd (m.symm.trans h) d_) (fun _=>?_) | refine Aa (fun _=>?_) (fun h=>absurd (m.symm.trans h) d_) | refine Aa (fun h=>absurd (l.symm.trans h) d_) (fun _=>?_) | refine Aa (fun _=>?_) (fun h=>absurd (l.symm.trans h) d_) | refine Aa (fun h=>absurd (k.symm.trans h) d_) (fun _=>?_) | refine Aa (fun _=>?_) (fun h=>absurd (k.symm.trans h) d_) | refine Aa (fun h=>absurd (j.symm.trans h) d_) (fun _=>?_) | refine Aa (fun _=>?_) (fun h=>absurd (j.symm.trans h) d_) | refine Aa (fun h=>absurd (d.symm.trans h) d_) (fun _=>?_) | refine Aa (fun _=>?_) (fun h=>absurd (d.symm.trans h) d_) | refine Aa (fun h=>absurd (a.symm.trans h) d_) (fun _=>?_) | refine Aa (fun _=>?_) (fun h=>absurd (a.symm.trans h) d_) | refine Aa (fun h=>absurd (e3.symm.trans h) d_) (fun _=>?_) | refine Aa (fun _=>?_) (fun h=>absurd (e3.symm.trans h) d_) | exact rfl | (refine zt ?_;try intro h) | refine zu (fun h=>?_) fun h=>?_ | fail
      all_goals (exfalso;simp only [decide_eq_true_eq,decide_eq_false_iff_not] at *;omega)
 .rw [if_neg v] at i
  obtain ⟨t,d⟩:∃ b,(((nav s.c.ns).length:Int)==0)=b:=⟨_,rfl⟩
  obtain ⟨q,a⟩:∃ b,(((hav s.c.hs).length:Int)==0)=b:=⟨_,rfl⟩
  obtain ⟨p,e3⟩:∃ b,(s.c.half==0)=b:=⟨_,rfl⟩
  obtain ⟨w,e⟩:∃ b,(s.c.age==0)=b:=⟨_,rfl⟩
  have u:¬ (t=true/\q=true/\p=true/\w=true):=fun ⟨H,B,G,D⟩=>v (by
   rw [H,beq_iff_eq] at d
   rw [B,beq_iff_eq] at a
   rw [G,beq_iff_eq] at e3
   rw [D,beq_iff_eq] at e
   unfold dP
   rw [decide_eq_true (Cf.1 (show s.c.ns.length=0 by omega)),decide_eq_true (Cf.1 (show s.c.hs.length=0 by omega)),decide_eq_true e3,decide_eq_true e]
   rfl)
  by_cases o:s.nxt<1\/1099511627776<s.nxt\/32<s.pend.length+s.run.length
  .rw [if_pos o] at i
   subst i
   cases t with
   | false=>
    refine c_ Tryz.f6 fun _=>?_
    repeat' first | (refine gN hE ?_;conv=>whnf) | refine Aa (fun h=>absurd (d.symm.trans h) d_) (fun _=>?_) | refine Aa (fun _=>?_) (fun h=>absurd (d.symm.trans h) d_) | refine Aa (fun h=>absurd (a.symm.trans h) d_) (fun _=>?_) | refine Aa (fun _=>?_) (fun h=>absurd (a.symm.trans h) d_) | refine Aa (fun h=>absurd (e3.symm.trans h) d_) (fun _=>?_) | refine Aa (fun _=>?_) (fun h=>absurd (e3.symm.trans h) d_) | refine Aa (fun h=>absurd (e.symm.trans h) d_) (fun _=>?_) | refine Aa (fun _=>?_) (fun h=>absurd (e.symm.trans h) d_) | exact rfl | (refine zt ?_;try intro h) | refine zu (fun h=>?_) fun h=>?_ | fail
    all_goals (exfalso;simp only [decide_eq_true_eq,decide_eq_false_iff_not] at *;omega)
   | true=>
    cases q with
    | false=>
     refine c_ Tryz.f6 fun _=>?_
     repeat' first | (refine gN hE ?_;conv=>whnf) | refine Aa (fun h=>absurd (d.symm.trans h) d_) (fun _=>?_) | refine Aa (fun _=>?_) (fun h=>absurd (d.symm.trans h) d_) | refine Aa (fun h=>absurd (a.symm.trans h) d_) (fun _=>?_) | refine Aa (fun _=>?_) (fun h=>absurd (a.symm.trans h) d_) | refine Aa (fun h=>absurd (e3.symm.trans h) d_) (fun _=>?_) | refine Aa (fun _=>?_) (fun h=>absurd (e3.symm.trans h) d_) | refine Aa (fun h=>absurd (e.symm.trans h) d_) (fun _=>?_) | refine Aa (fun _=>?_) (fun h=>absurd (e.symm.trans h) d_) | exact rfl | (refine zt ?_;try intro h) | refine zu (fun h=>?_) fun h=>?_ | fail
     all_goals (exfalso;simp only [decide_eq_true_eq,decide_eq_false_iff_not] at *;omega)
    | true=>
     cases p with
     | false=>
      refine c_ Tryz.f6 fun _=>?_
      repeat' first | (refine gN hE ?_;conv=>whnf) | refine Aa (fun h=>absurd (d.symm.trans h) d_) (fun _=>?_) | refine Aa (fun _=>?_) (fun h=>absurd (d.symm.trans h) d_) | refine Aa (fun h=>absurd (a.symm.trans h) d_) (fun _=>?_) | refine Aa (fun _=>?_) (fun h=>absurd (a.symm.trans h) d_) | refine Aa (fun h=>absurd (e3.symm.trans h) d_) (fun _=>?_) | refine Aa (fun _=>?_) (fun h=>absurd (e3.symm.trans h) d_) | refine Aa (fun h=>absurd (e.symm.trans h) d_) (fun _=>?_) | refine Aa (fun _=>?_) (fun h=>absurd (e.symm.trans h) d_) | exact rfl | (refine zt ?_;try intro h) | refine zu (fun h=>?_) fun h=>?_ | fail
      all_goals (exfalso;simp only [decide_eq_true_eq,decide_eq_false_iff_not] at *;omega)
     | true=>
      cases w with
      | false=>
       refine c_ Tryz.f6 fun _=>?_
       repeat' first | (refine gN hE ?_;conv=>whnf) | refine Aa (fun h=>absurd (d.symm.trans h) d_) (fun _=>?_) | refine Aa (fun _=>?_) (fun h=>absurd (d.symm.trans h) d_) | refine Aa (fun h=>absurd (a.symm.trans h) d_) (fun _=>?_) | refine Aa (fun _=>?_) (fun h=>absurd (a.symm.trans h) d_) | refine Aa (fun h=>absurd (e3.symm.trans h) d_) (fun _=>?_) | refine Aa (fun _=>?_) (fun h=>absurd (e3.symm.trans h) d_) | refine Aa (fun h=>absurd (e.symm.trans h) d_) (fun _=>?_) | refine Aa (fun _=>?_) (fun h=>absurd (e.symm.trans h) d_) | exact rfl | (refine zt ?_;try intro h) | refine zu (fun h=>?_) fun h=>?_ | fail
       all_goals (exfalso;simp only [decide_eq_true_eq,decide_eq_false_iff_not] at *;omega)
      | true=>exact absurd ⟨rfl,rfl,rfl,rfl⟩ u
  .rw [if_neg o] at i
   have next:=IR s F hs o_ r s.pend.length 0 o_ (by rw [Bx];exact i)
   cases t with
   | false=>
    refine c_ Tryz.f6 fun _=>?_
    repeat' first | (refine gN hE ?_;conv=>whnf) | refine Aa (fun h=>absurd (d.symm.trans h) d_) (fun _=>?_) | refine Aa (fun _=>?_) (fun h=>absurd (d.symm.trans h) d_) | refine Aa (fun h=>absurd (a.symm.trans h) d_) (fun _=>?_) | refine Aa (fun _=>?_) (fun h=>absurd (a.symm.trans h) d_) | refine Aa (fun h=>absurd (e3.symm.trans h) d_) (fun _=>?_) | refine Aa (fun _=>?_) (fun h=>absurd (e3.symm.trans h) d_) | refine Aa (fun h=>absurd (e.symm.trans h) d_) (fun _=>?_) | refine Aa (fun _=>?_) (fun h=>absurd (e.symm.trans h) d_) | exact rfl | (refine zt ?_;try intro h) | refine zu (fun h=>?_) fun h=>?_ | fail
    exact zqws2
   | true=>
    cases q with
    | false=>
     refine c_ Tryz.f6 fun _=>?_
     repeat' first | (refine gN hE ?_;conv=>whnf) | refine Aa (fun h=>absurd (d.symm.trans h) d_) (fun _=>?_) | refine Aa (fun _=>?_) (fun h=>absurd (d.symm.trans h) d_) | refine Aa (fun h=>absurd (a.symm.trans h) d_) (fun _=>?_) | refine Aa (fun _=>?_) (fun h=>absurd (a.symm.trans h) d_) | refine Aa (fun h=>absurd (e3.symm.trans h) d_) (fun _=>?_) | refine Aa (fun _=>?_) (fun h=>absurd (e3.symm.trans h) d_) | refine Aa (fun h=>absurd (e.symm.trans h) d_) (fun _=>?_) | refine Aa (fun _=>?_) (fun h=>absurd (e.symm.trans h) d_) | exact rfl | (refine zt ?_;try intro h) | refine zu (fun h=>?_) fun h=>?_ | fail
     exact zqws2
    | true=>
     cases p with
     | false=>
      refine c_ Tryz.f6 fun _=>?_
      repeat' first | (refine gN hE ?_;conv=>whnf) | refine Aa (fun h=>absurd (d.symm.trans h) d_) (fun _=>?_) | refine Aa (fun _=>?_) (fun h=>absurd (d.symm.trans h) d_) | refine Aa (fun h=>absurd (a.symm.trans h) d_) (fun _=>?_) | refine Aa (fun _=>?_) (fun h=>absurd (a.symm.trans h) d_) | refine Aa (fun h=>absurd (e3.symm.trans h) d_) (fun _=>?_) | refine Aa (fun _=>?_) (fun h=>absurd (e3.symm.trans h) d_) | refine Aa (fun h=>absurd (e.symm.trans h) d_) (fun _=>?_) | refine Aa (fun _=>?_) (fun h=>absurd (e.symm.trans h) d_) | exact rfl | (refine zt ?_;try intro h) | refine zu (fun h=>?_) fun h=>?_ | fail
      exact zqws2
     | true=>
      cases w with
      | false=>
       refine c_ Tryz.f6 fun _=>?_
       repeat' first | (refine gN hE ?_;conv=>whnf) | refine Aa (fun h=>absurd (d.symm.trans h) d_) (fun _=>?_) | refine Aa (fun _=>?_) (fun h=>absurd (d.symm.trans h) d_) | refine Aa (fun h=>absurd (a.symm.trans h) d_) (fun _=>?_) | refine Aa (fun _=>?_) (fun h=>absurd (a.symm.trans h) d_) | refine Aa (fun h=>absurd (e3.symm.trans h) d_) (fun _=>?_) | refine Aa (fun _=>?_) (fun h=>absurd (e3.symm.trans h) d_) | refine Aa (fun h=>absurd (e.symm.trans h) d_) (fun _=>?_) | refine Aa (fun _=>?_) (fun h=>absurd (e.symm.trans h) d_) | exact rfl | (refine zt ?_;try intro h) | refine zu (fun h=>?_) fun h=>?_ | fail
       exact zqws2
      | true=>exact absurd ⟨rfl,rfl,rfl,rfl⟩ u
theorem Ev.eqb_eq {x y:Ev}:x.eqb y=true↔x=y:=by
 obtain ⟨_,_,_⟩:=x
 obtain ⟨_,_,_⟩:=y
 simp [Ev.eqb]
theorem Pn.eqb_eq {x y:Pn}:x.eqb y=true↔x=y:=by
 obtain ⟨⟨_,_,_,⟨_,_,_⟩,_,_,_⟩,_,_⟩:=x
 obtain ⟨⟨_,_,_,⟨_,_,_⟩,_,_,_⟩,_,_⟩:=y
 simp [Pn.eqb,and_assoc]
open Go.ChangeShapes Go.WideShapes Go.ChangeAt Go.RowKit
set_option maxRecDepth 100000
theorem DL {H:Type} (d:DataW H):1<=Rows.uptoBulk d:=by
 cases d with
 | lit l=>cases l<;>simp [Rows.uptoBulk]
 | _=>simp [Rows.uptoBulk]
theorem iG {H:Type} {d:DataW H}:∀ {l:List (DataW H)},d∈l->Rows.uptoBulk d<=Rows.uptoBulkAll l
 | [],h=>by cases h
 | x::r,h=>by
  simp only [Rows.uptoBulkAll]
  rcases Aj.1 h with rfl | h
  .omega
  .have:=iG h
   omega
theorem qX {H:Type}:∀ (l:List (DataW H)),l.length<=Rows.uptoBulkAll l
 | []=>by simp
 | x::r=>by
  have:=DL x
  have:=qX r
  simp only [Rows.uptoBulkAll,Bt]
  omega
theorem TR (H:Type) (N:Nat):Bulk H N (fun d=>Rows.uptoBulk d<=N) where
 str l h:=by
  simp only [Rows.uptoBulk] at h
  omega
 sl e r h:=by
  simp only [Rows.uptoBulk] at h
  have:=qX e
  exact ⟨by omega,fun d hd=>by have:=iG hd;omega⟩
 agg l h:=by
  simp only [Rows.uptoBulk] at h
  exact fun d hd=>by have:=iG hd;omega
section
variable {N:Nat}
theorem aFG {n:Nat} {cs:List AVal} (h:TyN Tryz.prog N (n+1) 3 cs):∃ m:Int,cs=[ii m]/\ -9223372036854775808<=m/\m<=9223372036854775807:=by
 unfold TyN at h
 rw [Tryz.underlying3] at h
 obtain ⟨m,h,h1,a⟩:=h
 simp only [bW,bI] at h1 a
 exact ⟨m,h,by omega,by omega⟩
theorem bF {n:Nat} {cs:List AVal} (h:TyN Tryz.prog N (n+1) 3 cs):∃ m:Int,cs=[ii m]:=by
 unfold TyN at h
 rw [Tryz.underlying3] at h
 obtain ⟨m,h,_⟩:=h
 exact ⟨m,h⟩
theorem pP {n:Nat} {cs:List AVal} (h:TyN Tryz.prog N (n+2) 40 cs):∃ v:V3,cs=v.cs:=by
 unfold TyN at h
 rw [Tryz.underlying40] at h
 obtain ⟨xs,hl,d,rfl⟩:=h
 match xs,hl,d with
 | [x,y,z],_,d=>
  obtain ⟨a,rfl⟩:=bF (d x s_)
  obtain ⟨b,rfl⟩:=bF (d y s_)
  obtain ⟨c,rfl⟩:=bF (d z s_)
  exact ⟨⟨a,b,c⟩,rfl⟩
theorem wD {n:Nat} {cs:List AVal} (h:TyN Tryz.prog N (n+3) 42 cs):∃ g:Gan,cs=g.cs:=by
 unfold TyN at h
 rw [Tryz.underlying42] at h
 obtain ⟨o,r,rfl,m,s,r,rfl,h1,q,r,rfl,d,u,r,rfl,h3,x,r,rfl,l,p,r,rfl,j,w,r,rfl,b,rfl⟩:=h
 obtain ⟨e,rfl⟩:=bF m
 obtain ⟨c,rfl⟩:=bF h1
 obtain ⟨f,rfl⟩:=bF d
 obtain ⟨v,rfl⟩:=pP h3
 obtain ⟨i,rfl⟩:=bF l
 obtain ⟨k,rfl⟩:=bF j
 obtain ⟨a,rfl⟩:=bF b
 exact ⟨⟨e,c,f,v,i,k,a⟩,rfl⟩
theorem lI {α:Type} {av:α->AVal} {P:AVal->Prop} {Q:α->Prop} (b:∀ x,P x->∃ p:α,x=av p/\Q p):∀ (xs:List AVal),(∀ x∈xs,P x)->∃ l:List α,xs=l.map av/\∀ p∈l,Q p
 | [],_=>⟨[],rfl,fun p h=>by cases h⟩
 | x::xs,h=>by
  obtain ⟨p,rfl,hp⟩:=b x (h x s_)
  obtain ⟨l,rfl,hl⟩:=lI b xs fun x c=>h x (by simp [c])
  exact ⟨p::l,rfl,fun q a=>by
   rcases Aj.1 a with rfl | a
   .exact hp
   .exact hl q a⟩
theorem NO {n:Nat} {cs:List AVal} (h:TyN Tryz.prog N (n+2) 34 cs):∃ l:List Int,cs=[.slice 1 (iv l) .no]/\l.length<=N:=by
 unfold TyN at h
 rw [Tryz.underlying34] at h
 obtain ⟨xs,rfl,c,b⟩:=h
 have f:Tryz.prog.cellsOf 3=1:=by kernel_rfl
 have d:aG Tryz.prog 3=false:=by kernel_rfl
 obtain ⟨l,rfl,_⟩:=lI (av:=fun m:Int=>ii m) (Q:=fun _=>True) (P:=fun x=>x∈xs) (fun x hm=>by
  obtain ⟨m,e⟩:=bF (n:=n) (b x hm).1
  have a:=(b x hm).2.2 d
  rw [e] at a
  exact ⟨m,(Hb a).1.symm,trivial⟩) xs fun x hm=>hm
 exact ⟨l,by rw [f],by simpa using c⟩
theorem XO {n:Nat} {cs:List AVal} (h:TyN Tryz.prog N (n+4) 44 cs):∃ x:Rn,cs=x.cs/\x.hs.length<=N:=by
 unfold TyN at h
 rw [Tryz.underlying44] at h
 obtain ⟨k,r,rfl,j,p,r,rfl,h1,o,r,rfl,c,q,r,rfl,h3,s,r,rfl,i,m,r,rfl,f,rfl⟩:=h
 obtain ⟨g,rfl⟩:=wD j
 obtain ⟨a,rfl⟩:=bF h1
 obtain ⟨d,rfl⟩:=bF c
 obtain ⟨b,rfl⟩:=bF h3
 obtain ⟨e,rfl⟩:=bF i
 obtain ⟨l,rfl,hl⟩:=NO (n:=n+1) f
 exact ⟨⟨g,a,d,b,e,l⟩,rfl,hl⟩
end
section
variable {N:Nat}
theorem NN {n:Nat} {cs:List AVal} (h:TyN Tryz.prog N (n+3) 64 cs):∃ x:Nod,cs=x.cs:=by
 unfold TyN at h
 rw [Tryz.underlying64] at h
 obtain ⟨f,r,rfl,e,i,r,rfl,h1,g,r,rfl,c,j,r,rfl,h3,k,r,rfl,d,rfl⟩:=h
 obtain ⟨b,rfl⟩:=bF e
 obtain ⟨a,rfl⟩:=bF h1
 obtain ⟨u,rfl⟩:=pP c
 obtain ⟨v,rfl⟩:=pP h3
 obtain ⟨w,rfl⟩:=pP d
 exact ⟨⟨b,a,u,v,w⟩,rfl⟩
theorem NP {n:Nat} {cs:List AVal} (h:TyN Tryz.prog N (n+3) 66 cs):∃ x:Hos,cs=x.cs:=by
 unfold TyN at h
 rw [Tryz.underlying66] at h
 obtain ⟨j,r,rfl,e,g,r,rfl,h1,f,r,rfl,c,i,r,rfl,h3,rfl⟩:=h
 obtain ⟨b,rfl⟩:=bF e
 obtain ⟨a,rfl⟩:=bF h1
 obtain ⟨d,rfl⟩:=bF c
 obtain ⟨v,rfl⟩:=pP h3
 exact ⟨⟨b,a,d,v⟩,rfl⟩
theorem G8 {n:Nat} {cs:List AVal} (h:TyN Tryz.prog N (n+4) 22 cs):∃ l:List Nod,cs=[.slice 11 (nav l) .no]/\l.length<=N:=by
 unfold TyN at h
 rw [Tryz.underlying22] at h
 obtain ⟨xs,rfl,b,a⟩:=h
 have c:Tryz.prog.cellsOf 64=11:=by kernel_rfl
 obtain ⟨l,rfl,hl⟩:=lI (av:=Nod.av) (Q:=fun x=>True) (P:=fun x=>x∈xs) (fun x hm=>by
  obtain ⟨cs,rfl⟩:=(a x hm).2.1 (by kernel_rfl)
  obtain ⟨p,hp⟩:=NN (n:=n) (a _ hm).1
  exact ⟨p,by unfold Nod.av;rw [<-hp];rfl,trivial⟩) xs fun x hm=>hm
 exact ⟨l,by rw [c],by simpa using b⟩
theorem G9 {n:Nat} {cs:List AVal} (h:TyN Tryz.prog N (n+4) 23 cs):∃ l:List Hos,cs=[.slice 6 (hav l) .no]/\l.length<=N:=by
 unfold TyN at h
 rw [Tryz.underlying23] at h
 obtain ⟨xs,rfl,b,a⟩:=h
 have c:Tryz.prog.cellsOf 66=6:=by kernel_rfl
 obtain ⟨l,rfl,hl⟩:=lI (av:=Hos.av) (Q:=fun x=>True) (P:=fun x=>x∈xs) (fun x hm=>by
  obtain ⟨cs,rfl⟩:=(a x hm).2.1 (by kernel_rfl)
  obtain ⟨p,hp⟩:=NP (n:=n) (a _ hm).1
  exact ⟨p,by unfold Hos.av;rw [<-hp];rfl,trivial⟩) xs fun x hm=>hm
 exact ⟨l,by rw [c],by simpa using b⟩
theorem RF {n:Nat} {cs:List AVal} (h:TyN Tryz.prog 1048576 (n+5) 25 cs):∃ c:Con,cs=c.cs/\c.sm:=by
 unfold TyN at h
 rw [Tryz.underlying25] at h
 obtain ⟨g,r,rfl,f,j,r,rfl,h1,i,r,rfl,b,k,r,rfl,h3,rfl⟩:=h
 obtain ⟨ns,rfl,e⟩:=G8 (n:=n) f
 obtain ⟨hs,rfl,l1⟩:=G9 (n:=n) h1
 obtain ⟨d,rfl⟩:=bF b
 obtain ⟨a,rfl⟩:=bF h3
 exact ⟨⟨ns,hs,d,a⟩,rfl,⟨e,l1⟩⟩
end
theorem G6 {N n:Nat} {cs:List AVal} (a:N<=1048576) (h:TyN Tryz.prog N (n+5) 27 cs):∃ l:List Rn,cs=[.slice 14 (rav l) .no]/\Sm l/\l.length<=N:=by
 unfold TyN at h
 rw [Tryz.underlying27] at h
 obtain ⟨xs,rfl,b,c⟩:=h
 have d:Tryz.prog.cellsOf 44=14:=by kernel_rfl
 obtain ⟨l,rfl,hl⟩:=lI (av:=Rn.av) (Q:=fun x=>x.hs.length<=1048576) (P:=fun x=>x∈xs) (fun x hm=>by
  obtain ⟨cs,rfl⟩:=(c x hm).2.1 (by kernel_rfl)
  obtain ⟨p,hp,e⟩:=XO (n:=n) (c _ hm).1
  exact ⟨p,by unfold Rn.av;rw [<-hp];rfl,Cm e a⟩) xs fun x hm=>hm
 exact ⟨l,by rw [d],⟨Cm (by simpa using b) a,hl⟩,by simpa using b⟩
theorem NM {N n:Nat} {cs:List AVal} (h:TyN Tryz.prog N (n+4) 62 cs):∃ x:Pn,cs=x.cs:=by
 unfold TyN at h
 rw [Tryz.underlying62] at h
 obtain ⟨i,r,rfl,d,f,r,rfl,h1,e,r,rfl,b,rfl⟩:=h
 obtain ⟨g,rfl⟩:=wD d
 obtain ⟨a,rfl⟩:=bF h1
 obtain ⟨c,rfl⟩:=bF b
 exact ⟨⟨g,a,c⟩,rfl⟩
theorem G7 {N n:Nat} {cs:List AVal} (h:TyN Tryz.prog N (n+5) 26 cs):∃ l:List Pn,cs=[.slice 11 (pnv l) .no]/\l.length<=N:=by
 unfold TyN at h
 rw [Tryz.underlying26] at h
 obtain ⟨xs,rfl,b,a⟩:=h
 have c:Tryz.prog.cellsOf 62=11:=by kernel_rfl
 obtain ⟨l,rfl,_⟩:=lI (av:=Pn.av) (Q:=fun _=>True) (P:=fun x=>x∈xs) (fun x hm=>by
  obtain ⟨cs,rfl⟩:=(a x hm).2.1 (by kernel_rfl)
  obtain ⟨p,hp⟩:=NM (n:=n) (a _ hm).1
  exact ⟨p,by unfold Pn.av;rw [<-hp];rfl,trivial⟩) xs fun x hm=>hm
 exact ⟨l,by rw [c],by simpa using b⟩
theorem XP {N n:Nat} {cs:List AVal} (h:TyN Tryz.prog N (n+1) 68 cs):∃ x:Nat,cs=[.int .u64 (x:Int)]/\x<18446744073709551616:=by
 unfold TyN at h
 rw [Tryz.underlying68] at h
 obtain ⟨m,rfl,h1,a⟩:=h
 simp only [bW,bI] at h1 a
 exact ⟨m.toNat,by rw [show ((m.toNat:Nat):Int)=m from by omega],by omega⟩
theorem NQ {N n:Nat} {cs:List AVal} (h:TyN Tryz.prog N (n+2) 28 cs):∃ l:List Nat,cs=[.slice 1 (fv l) .no]/\l.length<=N/\∀ x∈l,x<18446744073709551616:=by
 unfold TyN at h
 rw [Tryz.underlying28] at h
 obtain ⟨xs,rfl,d,c⟩:=h
 have g:Tryz.prog.cellsOf 68=1:=by kernel_rfl
 have f:aG Tryz.prog 68=false:=by kernel_rfl
 obtain ⟨l,rfl,hl⟩:=lI (av:=fun x:Nat=>.int .u64 (x:Int)) (Q:=fun x=>x<18446744073709551616) (P:=fun x=>x∈xs) (fun x hm=>by
  obtain ⟨m,e,a⟩:=XP (n:=n) (c x hm).1
  have b:=(c x hm).2.2 f
  rw [e] at b
  exact ⟨m,(Hb b).1.symm,a⟩) xs fun x hm=>hm
 exact ⟨l,by rw [g],by simpa using d,hl⟩
theorem XN {n:Nat} {cs:List AVal} (h:TyN Tryz.prog 1048576 (n+6) 30 cs):∃ s:Sta,cs=s.cs/\StaSm s:=by
 unfold TyN at h
 rw [Tryz.underlying30] at h
 obtain ⟨o,r,rfl,m,u,r,rfl,h1,q,r,rfl,d,v,r,rfl,h3,w,r,rfl,i,p,r,rfl,f,rfl⟩:=h
 obtain ⟨c,rfl,b⟩:=RF (n:=n) m
 obtain ⟨now,rfl⟩:=bF h1
 obtain ⟨k,rfl⟩:=bF d
 obtain ⟨g,rfl,j⟩:=G7 (n:=n) h3
 obtain ⟨l,rfl,hl,_⟩:=G6 (n:=n) (Bi _) i
 obtain ⟨a,rfl,hz,e⟩:=NQ (n:=n+3) f
 exact ⟨⟨c,now,k,g,l,a⟩,rfl,b,j,hl,hz,e⟩
theorem aHC {n:Nat} {cs:List AVal} (h:TyN Tryz.prog 1048576 (n+6) 51 cs):∃ x:Cmd,cs=x.cs/\CmSm x:=by
 unfold TyN at h
 rw [Tryz.underlying51] at h
 obtain ⟨e,r,rfl,d,i,r,rfl,h1,f,r,rfl,b,j,r,rfl,h3,rfl⟩:=h
 obtain ⟨k,rfl⟩:=bF d
 obtain ⟨c,rfl,a⟩:=RF (n:=n) h1
 obtain ⟨g,rfl⟩:=wD (n:=n+2) b
 obtain ⟨m,rfl,hm⟩:=aFG h3
 exact ⟨⟨k,c,g,m⟩,rfl,a,hm⟩
section
variable {H:Type} {enc:TypeId×Value->H} {W:World} {r:Reach} {base b0:Nat} {spare:Nat->Bool} {held:Bool} {v:Value} {d:DataW H} {ps:List MemPlace}
theorem uR (b:Eb Tryz.prog W r b0 30 v) (h:DataW.Trod enc Tryz.prog W base spare held 30 v d ps) (e:Rows.uptoBulk d<=1048576):∃ s:Sta,Rep (Mw W) [] v s.av/\StaSm s:=by
 obtain ⟨f,a,c⟩:=vV (n:=6) (TR H 1048576) (by kernel_rfl) (by kernel_rfl) b h e
 obtain ⟨s,rfl,hs⟩:=XN (n:=0) c
 exact ⟨s,a,hs⟩
theorem Z5 (c:Eb Tryz.prog W r b0 51 v) (h:DataW.Trod enc Tryz.prog W base spare held 51 v d ps) (f:Rows.uptoBulk d<=1048576):∃ x:Cmd,Rep (Mw W) [] v x.av/\CmSm x:=by
 obtain ⟨b,a,e⟩:=vV (n:=6) (TR H 1048576) (by kernel_rfl) (by kernel_rfl) c h f
 obtain ⟨x,rfl,g⟩:=aHC (n:=0) e
 exact ⟨x,a,g⟩
end
theorem kP (h:Int):∀ l:List Pn,((∀ p∈l,p.g.id≠h)/\kQ h l=none)\/((∃ p∈l,p.g.id=h)/\∃ n,kQ h l=some (plV 1 n))
 | []=>.inl ⟨fun p hp=>(by cases hp),rfl⟩
 | p::l=>by
  unfold kQ
  rcases kP h l with ⟨a,e⟩ | ⟨⟨q,b,a⟩,n,e⟩
  .rw [e]
   exact zqws3
  .rw [e]
   exact .inr ⟨⟨q,Ap _ b,a⟩,n,rfl⟩
theorem kN (h:Int):∀ l:List Rn,((∀ p∈l,p.g.id≠h)/\kO h l=none)\/((∃ p∈l,p.g.id=h)/\∃ n,kO h l=some (plV 2 n))
 | []=>.inl ⟨fun p hp=>(by cases hp),rfl⟩
 | p::l=>by
  unfold kO
  rcases kN h l with ⟨a,e⟩ | ⟨⟨q,b,a⟩,n,e⟩
  .rw [e]
   exact zqws3
  .rw [e]
   exact .inr ⟨⟨q,Ap _ b,a⟩,n,rfl⟩
theorem iM (s:Sta) (h:Int):((∃ p∈s.pend,p.g.id=h)/\pk s h=1)\/((∀ p∈s.pend,p.g.id≠h)/\(∃ r∈s.run,r.g.id=h)/\pk s h=2)\/((∀ p∈s.pend,p.g.id≠h)/\(∀ r∈s.run,r.g.id≠h)/\pk s h=0):=by
 unfold pk
 rw [aAu]
 rcases kP h s.pend with ⟨a,e⟩ | ⟨a,n,e⟩
 .rcases kN h s.run with ⟨b,f⟩ | ⟨b,n,f⟩
  .rw [e,f];exact .inr (.inr ⟨a,b,rfl⟩)
  .rw [e,f];exact .inr (.inl ⟨a,b,rfl⟩)
 .rw [e];exact .inl ⟨a,rfl⟩
theorem iO {a b:Sta} {e:Ev}:∀ {l:List Rn},e∈evA a b l↔ ∃ r∈l,(pk b r.g.id=2/\pk a r.g.id≠2)/\e=⟨1,r.g.id,r.fl⟩
 | []=>by unfold evA;simp
 | r::l=>by
  unfold evA
  rw [Ao,iO (l:=l)]
  unfold zC
  constructor
  .rintro (h | ⟨x,c,h⟩)
   .split at h
    .rename_i d
     exact ⟨r,Ak ..,d,Bf.1 h⟩
    .cases h
   .exact ⟨x,Ap _ c,h⟩
  .rintro ⟨x,c,d,h⟩
   rcases Aj.1 c with rfl | c
   .rw [if_pos d]
    exact .inl (Bf.2 h)
   .exact .inr ⟨x,c,d,h⟩
theorem iN {a b:Sta} {e:Ev}:∀ {l:List Rn},e∈evB a b l↔ ∃ r∈l,(pk a r.g.id=2/\pk b r.g.id≠2)/\e=⟨if pk b r.g.id=1 then 2 else 3,r.g.id,0⟩
 | []=>by unfold evB;simp
 | r::l=>by
  unfold evB
  rw [Ao,iN (l:=l)]
  have one:e∈vM a b r↔(pk a r.g.id=2/\pk b r.g.id≠2)/\e=⟨if pk b r.g.id=1 then 2 else 3,r.g.id,0⟩:=by
   unfold vM
   by_cases h1:pk a r.g.id=2
   .by_cases d:pk b r.g.id=2
    .simp [h1,d]
    .by_cases h3:pk b r.g.id=1
     .simp [h1,h3]
     .simp [h1,d,h3]
   .simp [h1]
  rw [one]
  constructor
  .rintro (h | ⟨x,c,h⟩)
   .exact ⟨r,Ak ..,h⟩
   .exact ⟨x,Ap _ c,h⟩
  .rintro ⟨x,c,h⟩
   rcases Aj.1 c with rfl | c
   .exact .inl h
   .exact .inr ⟨x,c,h⟩
theorem MG (s:Sta):evW s s=[]:=by
 refine Eh.2 fun e a=>?_
 unfold evW at a
 rcases Ao.1 a with a | a
 .obtain ⟨r,_,h,_⟩:=iO.1 a
  exact h.2 h.1
 .obtain ⟨r,_,h,_⟩:=iN.1 a
  exact h.2 h.1
theorem vN {a b:Sta}:∀ {l:List Rn},(l.map fun x=>x.g.id).Nodup->(evA a b l).Pairwise fun x y=>x.id≠y.id
 | [],_=>Cz
 | r::l,hn=>by
  have h1:=Bp.1 hn
  unfold evA
  refine Dx.2 ⟨?_,vN h1.2,fun x c y d e=>?_⟩
  .unfold zC
   split
   .exact Dq ..
   .exact Cz
  .obtain ⟨z,hz,_,rfl⟩:=iO.1 d
   unfold zC at c
   split at c
   .rw [Bf.1 c] at e
    exact h1.1 (Bb.2 ⟨z,hz,e.symm⟩)
   .cases c
theorem vL {a b:Sta}:∀ {l:List Rn},(l.map fun x=>x.g.id).Nodup->(evB a b l).Pairwise fun x y=>x.id≠y.id
 | [],_=>Cz
 | r::l,hn=>by
  have h1:=Bp.1 hn
  unfold evB
  refine Dx.2 ⟨?_,vL h1.2,fun x c y f e=>?_⟩
  .unfold vM
   split
   .exact Cz
   .split
    .exact Dq ..
    .exact Dq ..
  .obtain ⟨z,hz,_,rfl⟩:=iN.1 f
   have e:x.id=z.g.id:=e
   unfold vM at c
   have d:x.id=r.g.id:=by
    split at c
    .cases c
    .split at c
     .rw [Bf.1 c]
     .rw [Bf.1 c]
   exact h1.1 (Bb.2 ⟨z,hz,e.symm.trans d⟩)
theorem zY {a b:Sta} (i:(a.run.map fun x=>x.g.id).Nodup) (f:(b.run.map fun x=>x.g.id).Nodup):(evW a b).Pairwise fun x y=>x.id≠y.id:=by
 unfold evW
 refine Dx.2 ⟨vN f,vL i,fun x h y c e=>?_⟩
 obtain ⟨r,_,h1,rfl⟩:=iO.1 h
 obtain ⟨q,_,d,rfl⟩:=iN.1 c
 have e:r.g.id=q.g.id:=e
 rw [e] at h1
 exact d.2 h1.1
theorem mV:∀ {l:List Ev},(l.Pairwise fun x y=>x.id≠y.id)->∀ x∈l,∀ y∈l,x.id=y.id->x=y
 | [],_,_,hx,_,_,_=>by cases hx
 | z::l,h,x,hx,y,hy,e=>by
  have h1:=Bn.1 h
  rcases Aj.1 hx with c | d
  .rcases Aj.1 hy with a | b
   .exact c.trans a.symm
   .rw [c] at e
    exact absurd e (h1.1 y b)
  .rcases Aj.1 hy with a | b
   .rw [a] at e
    exact absurd e.symm (h1.1 x d)
   .exact mV h1.2 x d y b e
abbrev weG:Goal:=.pure (.ret (.bool true))
theorem FairS.runs {s:Sta} (h:FairS s):(s.run.map fun x=>x.g.id).Nodup:=by
 have h1:=h.ids
 rw [Bl,Ax,Cu] at h1
 exact h1.2.1
structure SeenR (s:Sta) (r:Rd):Prop where
 new:∀ y∈r.s.run,(∃ q∈s.run,q.g.id=y.g.id)\/(⟨1,y.g.id,y.fl⟩:Ev)∈r.ev
 gone:∀ q∈s.run,(∃ y∈r.s.run,y.g.id=q.g.id)\/(⟨2,q.g.id,0⟩:Ev)∈r.ev
theorem SeenR.adm {s:Sta} {r:Rd} (h:SeenR s r) (p:Pn) (fl:Int) (hs:List Int):SeenR s (DW r p fl hs) where
 new y hy:=by
  rcases Ao.1 hy with hy | hy
  .exact (h.new y hy).imp id fun h=>Cd _ h
  .rw [Bf.1 hy]
   exact .inr (Cp _ (Bf.2 rfl))
 gone q hq:=(h.gone q hq).imp (fun ⟨y,hy,e⟩=>⟨y,Cd _ hy,e⟩) fun h=>Cd _ h
theorem SeenR.let {s:Sta} {r:Rd} (h:SeenR s r) (p:Pn):SeenR s (admR r p).1:=by
 unfold admR
 cases bX r.s.c r.s.run p.g with
 | none=>exact h
 | some x=>
  obtain ⟨fl,hs⟩:=x
  unfold EM
  dsimp only
  split
  .exact h
  .exact h.adm p fl hs
theorem IK (run:List Rn):∀ (ids:List Int) (r:Rd),(ids.foldl (dM run) r).ev=r.ev++ids.map fun id=>(⟨2,id,0⟩:Ev)
 | [],r=>by simp
 | id::ids,r=>by
  rw [Aq,IK run ids]
  show (r.ev++[_])++_=_
  simp
theorem SeenR.evic {s:Sta} {r:Rd} (h:SeenR s r) (ids:List Int):SeenR s (jG r ids) where
 new y hy:=by
  have hy:y∈aE r.s.run ids:=hy
  show _\/_∈(ids.foldl (dM r.s.run) r).ev
  rw [IK]
  exact (h.new y (eD.1 hy).1).imp id fun h=>Cd _ h
 gone q hq:=by
  show (∃ y∈aE r.s.run ids,_)\/_∈(ids.foldl (dM r.s.run) r).ev
  rw [IK]
  rcases h.gone q hq with ⟨y,hy,e⟩ | h
  .by_cases hi:y.g.id∈ids
   .exact .inr (Cp _ (Bb.2 ⟨_,hi,by rw [e]⟩))
   .exact .inl ⟨y,eD.2 ⟨hy,hi⟩,e⟩
  .exact .inr (Cd _ h)
theorem SeenR.res {s:Sta} {r:Rd} (h:SeenR s r) (p:Pn):∀ o,SeenR s (UY r p o)
 | none=>h
 | some n=>⟨fun y a=>(h.new y a).imp id fun h=>Cd _ h,fun q b=>(h.gone q b).imp id fun h=>Cd _ h⟩
theorem SeenR.look {s:Sta} {r:Rd} (h:SeenR s r) (p:Pn):SeenR s (cG r p):=by
 unfold cG
 split
 .exact h.let p
 .split
  .exact h
  .cases fJ r.s.c r.s.run p.g with
   | none=>exact h.res p _
   | some ids=>exact (h.evic ids).let p
theorem SeenR.fold {s:Sta}:∀ (L:List Pn) {r:Rd},SeenR s r->SeenR s (L.foldl cG r)
 | [],_,h=>h
 | p::L,r,h=>SeenR.fold L (h.look p)
theorem X7 (s:Sta):SeenR s (eW s):=SeenR.fold _ ⟨fun y a=>.inl ⟨y,a,rfl⟩,fun q b=>.inl ⟨q,b,rfl⟩⟩
abbrev CL (s:Sta):Prop:=((s.pend++s.run.map Rn.pn).map fun x=>x.g.id).Nodup
theorem IG {s:Sta} (h:CL s) {p:Pn} (hp:p∈s.pend) {r:Rn} (a:r∈s.run):p.g.id≠r.g.id:=by
 unfold CL at h
 rw [Bl,Ax] at h
 exact h.2.2 _ (Ca hp) _ (Bb.2 ⟨r.pn,Ca a,rfl⟩)
structure Seen (s x:Sta) (l:List Ev):Prop where
 ids:CL x
 new:∀ y∈x.run,(∃ q∈s.run,q.g.id=y.g.id)\/(⟨1,y.g.id,y.fl⟩:Ev)∈l
 gone:∀ q∈s.run,(∃ y∈x.run,y.g.id=q.g.id)\/((⟨2,q.g.id,0⟩:Ev)∈l/\∃ p∈x.pend,p.g.id=q.g.id)\/((⟨3,q.g.id,0⟩:Ev)∈l/\∀ p∈x.pend,p.g.id≠q.g.id)
theorem Seen.ev {s x:Sta} {l:List Ev} (k:CL s) (h:Seen s x l):∀ e∈evW s x,e∈l:=by
 intro e a
 unfold evW at a
 rcases Ao.1 a with a | a
 .obtain ⟨r,i,⟨_,b⟩,rfl⟩:=iO.1 a
  rcases h.new r i with ⟨q,c,e⟩ | h
  .exfalso
   rcases iM s r.g.id with ⟨⟨p,hp,d⟩,_⟩ | ⟨_,_,h3⟩ | ⟨_,h3,_⟩
   .exact IG k hp c (d.trans e.symm)
   .exact b h3
   .exact h3 q c e
  .exact h
 .obtain ⟨q,c,⟨_,b⟩,rfl⟩:=iN.1 a
  rcases h.gone q c with ⟨y,f,e⟩ | ⟨h,p,hp,e⟩ | ⟨h,j⟩
  .exfalso
   rcases iM x q.g.id with ⟨⟨p,hp,d⟩,_⟩ | ⟨_,_,h3⟩ | ⟨_,h3,_⟩
   .exact IG h.ids hp f (d.trans e.symm)
   .exact b h3
   .exact h3 y f e
  .rcases iM x q.g.id with ⟨_,h3⟩ | ⟨h3,_,_⟩ | ⟨h3,_,_⟩
   .rw [if_pos h3];exact h
   .exact absurd e (h3 p hp)
   .exact absurd e (h3 p hp)
  .rcases iM x q.g.id with ⟨⟨p,hp,e⟩,_⟩ | ⟨_,_,h3⟩ | ⟨_,_,h3⟩
   .exact absurd e (j p hp)
   .exact absurd h3 b
   .rw [if_neg o_];exact h
theorem NW {s:Sta} (h:StOK s):Seen s (eW s).s (eW s).ev:=by
 have c:=X7 s
 have hp:((eW s).s.pend++(eW s).s.run.map Rn.pn).Perm (s.pend++s.run.map Rn.pn):=(mQ h.run.base _ _ h.run.start).1.perm
 refine ⟨((hp.map fun x=>x.g.id).nodup_iff).2 h.run.base.ids,c.new,fun q d=>?_⟩
 by_cases a:∃ y∈(eW s).s.run,y.g.id=q.g.id
 .exact .inl a
 .refine .inr (.inl ⟨(c.gone q d).resolve_left a,?_⟩)
  rcases Ao.1 (hp.mem_iff.2 (Cp _ (Ca d))) with hm | hm
  .exact ⟨_,hm,rfl⟩
  .obtain ⟨y,b,e⟩:=Bb.1 hm
   exact absurd ⟨y,b,congrArg (fun p:Pn=>p.g.id) e⟩ a
theorem jW {s x:Sta} (c:CL x) (a:x.run=s.run) (l:List Ev):Seen s x l:=
 ⟨c,fun y b=>.inl ⟨y,a▸b,rfl⟩,fun q d=>.inl ⟨q,a.symm▸d,rfl⟩⟩
theorem KA {s:Sta} (c:CL s) (g:Gan):Seen s (cM s g).1 []:=by
 unfold cM
 iterate 4 (split;· exact jW c (by rfl) _)
 rename_i h1 h h3 f
 refine jW ?_ (by rfl) _
 have b:(oB s.pend ⟨g,s.nxt,s.now⟩++s.run.map Rn.pn).Perm (⟨g,s.nxt,s.now⟩::(s.pend++s.run.map Rn.pn)):=Fh _ (mS s.pend ⟨g,s.nxt,s.now⟩)
 refine ((b.map fun x=>x.g.id).nodup_iff).2 (Bp.2 ⟨fun hm=>?_,c⟩)
 obtain ⟨x,a,e⟩:=Bb.1 hm
 have e:x.g.id=g.id:=e
 rcases Ao.1 a with a | a
 .exact F9 o_ x a e
 .obtain ⟨r,d,rfl⟩:=Bb.1 a
  have:=tF s.run 0 r d e
  omega
theorem UG {s:Sta} (a:CL s) (n:Int):Seen s (gZ s n).1 (gZ s n).2.1:=by
 unfold gZ
 iterate 2 (split;· exact jW a (by rfl) _)
 refine ⟨?_,fun y c=>.inl ⟨y,(Dt.1 c).1,rfl⟩,fun q b=>?_⟩
 .have:(s.pend++(atL s.run (s.now+n)).map Rn.pn).Sublist (s.pend++s.run.map Rn.pn):=List.Sublist.append_left ((Gb).map _) _
  exact List.Nodup.sublist (this.map _) a
 .by_cases h:dN q<=s.now+n
  .exact .inr (.inr ⟨Bb.2 ⟨q,Dt.2 ⟨b,decide_eq_true h⟩,rfl⟩,fun p hp=>IG a hp b⟩)
  .exact .inl ⟨q,Dt.2 ⟨b,decide_eq_true o_⟩,rfl⟩
theorem NX {s:Sta} (h:StOK s) (x:Cmd) (i:x.k≠3/\x.k≠4) (b:(bP s x).2.2=0):Seen s (bP s x).1 (bP s x).2.1:=by
 have a:CL s:=h.run.base.ids
 by_cases d:C8.chk x=0
 .have:=aBM d
  unfold bP at b⊢
  rw [if_neg (by simpa using d)] at b⊢
  by_cases h1:x.k=1
  .rw [if_pos h1]
   split
   .exact jW a (by rfl) _
   .split
    .exact jW a (by rfl) _
    .refine jW (s:=s) (x:={s with c:=x.c,hist:=Ah x.c.ns.length 0}) ?_ rfl _
     exact a
  .rw [if_neg h1]
   by_cases f:x.k=2
   .rw [if_pos f];exact KA a x.g
   .rw [if_neg f]
    by_cases e:x.k=5
    .rw [if_pos e];exact UG a x.n
    .rw [if_neg e,if_pos o_]
     exact NW h
 .exfalso
  unfold bP at b
  rw [if_pos d] at b
  exact d b
noncomputable abbrev fWs:Func:=Tryz.f4
abbrev wsO (G:List Ev):List AObj:=[.row 0 3 46 (evv G)]
abbrev wsF (ev:List Ev) (i:Int):List (Nat×AVal):=[(6,.slice 3 (evv ev) .no),(8,.row 0 0),(9,ii i)]
abbrev wsI (ev:List Ev) (i:Int) (f:Bool) (k:Int):List (Nat×AVal):=[(6,.slice 3 (evv ev) .no),(8,.row 0 0),(9,ii i),(10,.bool f),(11,ii k)]
theorem aHw (ev G:List Ev) (hl:ev.length<=1048576) (o:G.length<=1048576) (i:Nat) (v:Ev) (get:(evv G)[i]? =some v.av) (n:(i:Int)<=4194304) (next:To E fWs weG (.head (stk fWs 0) (wsF ev ((i+1:Nat):Int)) (wsO G))):∀ (m k:Nat) (f:Bool),k+m=ev.length->(f||(ev.drop k).any fun y=>y.eqb v)=true->
  To E fWs weG (.head (stk fWs 1) (wsI ev i f k) (wsO G)):=by
 have g:(evv ev).length=ev.length:=by simp
 have l:(evv G).length=G.length:=by simp
 have c:i<(evv G).length:=(Ac.1 get).1
 intro m
 induction m with
 | zero=>
  intro k f j a
  rw [Ae o_] at a
  obtain rfl:f=true:=by simpa using a
  refine gV ?_
  refine aF fun h=>?_
  repeat' first | (refine gN hE ?_;conv=>whnf) | exact rfl | (refine zt ?_;try intro h) | refine zu (fun h=>?_) fun h=>?_ | fail
  refine To.part [6,8,9] [0] rfl rfl rfl ?_
  exact next
 | succ m d=>
  intro k f j a
  have b:k<ev.length:=o_
  rw [Ad b] at a
  have e:=vK b
  generalize ev[k]=y at a e
  cases f with
  | true=>
   have n0:=d (k+1) true o_ rfl
   clear d next a
   refine gV ?_
   refine aT fun h=>?_
   repeat' first | (refine gN hE ?_;conv=>whnf) | refine ⟨k,rfl,?_⟩ | refine ⟨_,e,?_⟩ | refine ⟨i,rfl,?_⟩ | refine Aa c ?_ | refine ⟨_,get,?_⟩ | exact rfl | (refine zt ?_;try intro h) | refine zu (fun h=>?_) fun h=>?_ | fail
   exact zqws11
  | false=>
   have n0:=d (k+1) (y.eqb v) o_ (by simpa using a)
   clear d next a
   refine gV ?_
   refine aT fun h=>?_
   repeat' first | (refine gN hE ?_;conv=>whnf) | refine ⟨k,rfl,?_⟩ | refine ⟨_,e,?_⟩ | refine ⟨i,rfl,?_⟩ | refine Aa c ?_ | refine ⟨_,get,?_⟩ | exact rfl | (refine zt ?_;try intro h) | refine zu (fun h=>?_) fun h=>?_ | fail
   exact zqws11
theorem aCf (ev G:List Ev) (hl:ev.length<=1048576) (f:G.length<=1048576) (a:∀ v∈G,v∈ev):∀ (m i:Nat),i+m=G.length->
  To E fWs weG (.head (stk fWs 0) (wsF ev i) (wsO G)):=by
 have d:(evv G).length=G.length:=by simp
 intro m
 induction m with
 | zero=>
  intro i e
  refine gV ?_
  refine aF fun h=>?_
  repeat' first | (refine gN hE ?_;conv=>whnf) | refine .pure _ [] iI ?_ | exact rfl | (refine zt ?_;try intro h) | refine zu (fun h=>?_) fun h=>?_ | fail
 | succ m c=>
  intro i e
  have b:i<G.length:=o_
  have get:=vK b
  have hm:=a _ (Bg b)
  generalize G[i]=v at get hm
  have n0:=aHw ev G hl f i v get o_ (c (i+1) o_) ev.length 0 false o_ (by rw [Bx,Jm,Ef];exact ⟨v,hm,Ev.eqb_eq.2 rfl⟩)
  clear c a
  refine gV ?_
  refine aT fun h=>?_
  repeat' first | (refine gN hE ?_;conv=>whnf) | exact rfl | (refine zt ?_;try intro h) | refine zu (fun h=>?_) fun h=>?_ | fail
  exact zqws11
theorem XR {s:Sta} (n:Int):(gZ s n).1.pend.length=s.pend.length/\(gZ s n).1.run.length<=s.run.length:=by
 unfold gZ
 iterate 2 (split;· exact ⟨rfl,Bi _⟩)
 exact ⟨rfl,Dp _ _⟩
theorem aCC {s:Sta} (g:Gan):(cM s g).1.pend.length<=s.pend.length+1/\(cM s g).1.run.length<=s.run.length:=by
 unfold cM
 iterate 4 (split;· exact ⟨Nat.le_succ _,Bi _⟩)
 refine ⟨?_,Bi _⟩
 have:=(mS s.pend ⟨g,s.nxt,s.now⟩).length_eq
 rw [Bt] at this
 show (oB s.pend ⟨g,s.nxt,s.now⟩).length<=_
 omega
theorem aEP {s:Sta} (h:StOK s) (x:Cmd) (i:x.k≠3/\x.k≠4):(bP s x).1.pend.length<=1000/\(bP s x).1.run.length<=1000:=by
 have e:=h.run.base.few
 rw [Bo,Ck] at e
 have same:s.pend.length<=1000/\s.run.length<=1000:=⟨by omega,by omega⟩
 by_cases a:C8.chk x=0
 .have d:=aBM a
  unfold bP
  rw [if_neg (by simpa using a)]
  by_cases h1:x.k=1
  .rw [if_pos h1]
   split
   .exact same
   .split<;>exact same
  .rw [if_neg h1]
   by_cases c:x.k=2
   .rw [if_pos c]
    have:=aCC (s:=s) x.g
    exact ⟨by show (cM s x.g).1.pend.length<=_;omega,by show (cM s x.g).1.run.length<=_;omega⟩
   .rw [if_neg c]
    by_cases b:x.k=5
    .rw [if_pos b]
     have:=XR (s:=s) x.n
     omega
    .rw [if_neg b,if_pos o_]
     have f:=(mQ h.run.base _ _ h.run.start).1.few h.run.base
     show (eW s).s.pend.length<=_/\(eW s).s.run.length<=_
     unfold eW
     omega
 .unfold bP
  rw [if_pos a]
  exact same
theorem RS {s:Sta} (h:CL s):(s.run.map fun x=>x.g.id).Nodup:=by
 unfold CL at h
 rw [Bl,Ax,Cu] at h
 exact h.2.1
theorem TW (s:Sta) (x:Cmd) (H:s.c.sm) (hs:Sm s.run) (hp:s.pend.length<=1048576) (J:LtF s.hist) (b:x.c.sm) (F: -9223372036854775808<=x.n/\x.n<=9223372036854775807):aA Tryz.prog 4 [s.av,x.av] [] (.ret (.bool true)) []:=by
 have m:=iI
 have h1:=oS s H hs hp _ rfl
 have l1:(nav x.c.ns).length=x.c.ns.length:=by simp
 have l2:(hav x.c.hs).length=x.c.hs.length:=by simp
 have M:=b.ns
 have N:=b.hs
 by_cases q:hC s=0
 .rw [q] at h1
  refine c_ Tryz.f4 fun _=>?_
  repeat' first | (refine gN hE ?_;conv=>whnf) | refine .pure _ [] h1 ?_ | refine .pure _ [] m ?_ | exact rfl | (refine zt ?_;try intro h) | refine zu (fun h=>?_) fun h=>?_ | fail
 have d:(hC s==0)=false:=beq_eq_false_iff_ne.2 q
 have hst:=(wZ q).st J
 have I:=(wZ q).few
 have i:CL s:=(wZ q).ids
 generalize hC s=w at *
 by_cases hz:300<x.c.ns.length+x.c.hs.length
 .refine c_ Tryz.f4 fun _=>?_
  repeat' first | (refine gN hE ?_;conv=>whnf) | refine Aa (fun h=>absurd (h.symm.trans d) d_) (fun _=>?_) | refine .pure _ [] h1 ?_ | refine .pure _ [] m ?_ | exact rfl | (refine zt ?_;try intro h) | refine zu (fun h=>?_) fun h=>?_ | fail
 by_cases r:x.k=4
 .have l:(x.k==4)=true:=by simpa using r
  refine c_ Tryz.f4 fun _=>?_
  repeat' first | (refine gN hE ?_;conv=>whnf) | refine Aa (fun h=>absurd (h.symm.trans d) d_) (fun _=>?_) | refine Aa (fun _=>?_) (fun h=>absurd (h.symm.trans l) d_) | refine .pure _ [] h1 ?_ | refine .pure _ [] m ?_ | exact rfl | (refine zt ?_;try intro h) | refine zu (fun h=>?_) fun h=>?_ | fail
 have l:(x.k==4)=false:=by simpa using r
 by_cases t:x.k=3
 .have o:(x.k==3)=true:=by simpa using t
  refine c_ Tryz.f4 fun _=>?_
  repeat' first | (refine gN hE ?_;conv=>whnf) | refine Aa (fun h=>absurd (h.symm.trans d) d_) (fun _=>?_) | refine Aa (fun h=>absurd (h.symm.trans l) d_) (fun _=>?_) | refine Aa (fun _=>?_) (fun h=>absurd (h.symm.trans o) d_) | refine .pure _ [] h1 ?_ | refine .pure _ [] m ?_ | exact rfl | (refine zt ?_;try intro h) | refine zu (fun h=>?_) fun h=>?_ | fail
 have o:(x.k==3)=false:=by simpa using t
 have y:=WX s x hst (fun _=>b) F
 unfold apC at y
 have j:=(aGh hst hs x (fun _=>b)).2.2
 by_cases u:(bP s x).2.2=0
 .have a:=NX hst x ⟨t,r⟩ u
  obtain ⟨K,z⟩:=aEP hst x ⟨t,r⟩
  have p:=rW s (bP s x).1 o_ z hp o_ (mV (zY (RS i) (RS a.ids)))
  have B:(fZ (evW s (bP s x).1)).length<=1048576:=by
   have L:=IV s (bP s x).1 (bP s x).1.run
   have O:=IU s (bP s x).1 s.run
   unfold fZ
   rw [List.length_mergeSort]
   unfold evW
   rw [Bo]
   omega
  have n0:=aCf (bP s x).2.1 (fZ (evW s (bP s x).1)) o_ B (fun v C=>a.ev i v ((Ga _ _).mem_iff.1 C)) (fZ (evW s (bP s x).1)).length 0 o_
  clear a K z B j hst
  generalize fZ (evW s (bP s x).1)=G at *
  generalize bP s x=R at *
  obtain ⟨S,ev,e⟩:=R
  dsimp only at u
  subst u
  refine c_ Tryz.f4 fun _=>?_
  repeat' first | (refine gN hE ?_;conv=>whnf) | refine Aa (fun h=>absurd (h.symm.trans d) d_) (fun _=>?_) | refine Aa (fun h=>absurd (h.symm.trans l) d_) (fun _=>?_) | refine Aa (fun h=>absurd (h.symm.trans o) d_) (fun _=>?_) | refine .pure _ [] h1 ?_ | refine .pure _ [] y ?_ | refine .pure _ _ p ?_ | exact rfl | (refine zt ?_;try intro h) | refine zu (fun h=>?_) fun h=>?_ | fail
  refine To.part [6,8,9] [3] rfl rfl rfl ?_
  exact n0
 .have p:=rW s s o_ o_ hp hp (by rw [MG];intro x b;cases b)
  rw [MG,show fZ []=[] from List.mergeSort_nil] at p
  have D:((bP s x).2.2 !=0)=true:=by simpa using u
  clear j hst
  generalize bP s x=R at *
  obtain ⟨S,ev,e⟩:=R
  refine c_ Tryz.f4 fun _=>?_
  repeat' first | (refine gN hE ?_;conv=>whnf) | refine Aa (fun h=>absurd (h.symm.trans d) d_) (fun _=>?_) | refine Aa (fun h=>absurd (h.symm.trans l) d_) (fun _=>?_) | refine Aa (fun h=>absurd (h.symm.trans o) d_) (fun _=>?_) | refine Aa (fun _=>?_) (fun h=>absurd (h.symm.trans D) d_) | refine .pure _ [] h1 ?_ | refine .pure _ [] y ?_ | refine .pure _ _ p ?_ | refine .pure _ [] m ?_ | exact rfl | (refine zt ?_;try intro h) | refine zu (fun h=>?_) fun h=>?_ | fail
end Go.Proofs.YtlanfgblaebddaaGreat
