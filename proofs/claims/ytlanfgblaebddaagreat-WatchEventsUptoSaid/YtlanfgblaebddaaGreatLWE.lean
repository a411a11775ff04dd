/-
  LWE: what the law needs besides, and the law.
-/
import Derived.Test.YtlanfgblaebddaaGreatTA
set_option linter.all false
set_option maxHeartbeats 1000000
open And renaming intro->Aa
open Array renaming getD_eq_getD_getElem?->Aw,getElem?_eq_getElem->Fk,getElem?_eq_none->Iq,getElem?_eq_some_iff->Dw,getElem?_setIfInBounds_ne->Dk,getElem?_setIfInBounds_self_of_lt->Cs,replicate->Ey
open Bool renaming and_eq_true->Af,false_and->Dn,false_eq_true->Cv,not_eq_true'->Co,or_eq_false_iff->Hl,true_and->Bw
open Decidable renaming not_not->Dm
open Exists renaming intro->Ai
open Go.Region renaming wanted->Ds
open Go.Value renaming okWide->Eb
open List renaming Nodup->Fp,all_cons->Da,all_eq_true->Bq,append_assoc->Ay,append_nil->Bm,drop->Fv,drop_drop->Im,drop_eq_getElem_cons->Ad,drop_eq_nil_of_le->Ae,drop_zero->Bx,eq_nil_iff_forall_not_mem->Eh,eq_nil_of_length_eq_zero->Al,getD_eq_getElem?_getD->Cw,getElem?_append_left->Ag,getElem?_append_right->Ar,getElem?_eq_getElem->Ab,getElem?_eq_some_iff->Ac,getElem?_of_mem->Ch,getElem_mem->Bg,length_append->Bo,length_cons->Bt,length_eq_zero_iff->Cf,length_erase_of_mem->Gq,length_map->Ck,length_nil->Gl,length_pos_of_mem->Gz,length_take->Fc,map_append->Bl,map_cons->Bk,map_map->Cu,mem_append->Ao,mem_append_left->Cd,mem_append_right->Cp,mem_cons->Aj,mem_cons_of_mem->Ap,mem_cons_self->Ak,mem_map->Bb,mem_map_of_mem->Ca,mem_of_getElem?->Az,mem_range->Fu,mem_singleton->Bf,mem_take_iff_getElem->Gk,mergeSort_perm->Ga,nodup_append->Ax,nodup_cons->Bp,nodup_nil->Gh,not_mem_nil->Hr,pairwise_append->Dx,pairwise_cons->Bn,pairwise_iff_getElem->Dh,pairwise_map->Bu,pairwise_mergeSort->Kw,pairwise_singleton->Dq,range->Df,take->En,take_add->Lq,take_append_drop->De,take_append_getElem->Hz,take_length->Hu,take_of_length_le->Cn
open List.Pairwise renaming nil->Cz
open List.Sublist renaming refl->Hg
open List.cons renaming inj->Hb
open Nat renaming add_mul->Bz,beq->Av,blt->Eg,blt_eq->Jc,le_refl->Bi,le_trans->Cm,one_mul->Ft,sub_self->Ip,zero_add->Cb,zero_le->Cc
open Ne renaming symm->Eu
open Option renaming bind_eq_some_iff->Kx,getD_some->Gt
set_option maxRecDepth 10000
namespace Go.AW
open Go.RowKit Go.ChangeShapes Go.WideShapes Go.ChangeAt
theorem zqwe0 {P:Prop} (h:P:=by
 refine To.part [2,3,5,6,7] [0,1,2] rfl rfl rfl ?_
 exact next):P:=h
theorem zqwe1 {P:Prop} (h:P:=by
 refine To.part [1,3] [0] rfl rfl rfl ?_
 exact next):P:=h
theorem zqwe2 {P:Prop} (h:P:=by
 dsimp only
 by_cases c:p.g.id=h
 .rw [if_pos c]
  exact .inr ⟨⟨p,Ak ..,c⟩,_,rfl⟩
 .rw [if_neg c]
  refine .inl ⟨fun q b=>?_,rfl⟩
  rcases Aj.1 b with rfl | b
  .exact c
  .exact a q b):P:=h
theorem zqwe3 {P:Prop} (h:P:=by
 obtain ⟨k,j⟩:=back b
 refine .inl ⟨k,?_⟩
 refine gV ?_
 refine To.cut [0,3] 0 rfl rfl rfl rfl ?_
 exact j):P:=h
theorem zqwe4 {P:Prop} (h:P:=by
 refine To.part [2,3,5,6,7,10] [0,1,2] rfl rfl rfl ?_
 exact n0):P:=h
theorem zqwe5 {P:Prop} (h:P:=by
 refine .inl ⟨fun q b=>?_,c⟩
 rcases Aj.1 b with rfl | b
 .exact e
 .exact a q b):P:=h
theorem zqwe6 {P:Prop} (h:P:=by
 rintro (h | h | h)
 .exact .inr (.inl h)
 .exact .inl h
 .exact .inr (.inr h)):P:=h
theorem aHn {args:Array Value} (h:args.toList.length=2):∃ a b,args= #[a,b]:=by
 obtain ⟨l⟩:=args
 match l,h with
 | [a,b],_=>simp
def nX (P:Program) (a:TypeId->Bool):Nat->List Field->Nat->Bool
 | off,[],total=>Av off total
 | off,f::fs,total=>(Av f.offset off&&a f.type)&&nX P a (off+P.cellsOf f.type) fs total
def eL (P:Program):Nat->TypeId->Bool
 | 0,_=>false
 | n+1,t=>match P.underlying t with
  | some .bool=>true
  | some (.int _)=>true
  | some .string=>true
  | some (.struct fs)=>nX P (eL P n) 0 fs.toList (P.cellsOf t)
  | some (.array m e)=>eL P n e&&Av (P.cellsOf t) (m*P.cellsOf e)
  | some (.slice e)=>eL P n e&&Eg 0 (P.cellsOf e)
  | _=>false
theorem tB {P:Program} {w:World} {r:Reach} {b0:Nat} {t:TypeId} {v:Value} (a:aG P t=true) (h:Eb P w r b0 t v):∃ cs:Array Value,v= .agg cs:=by
 unfold Eb at h
 unfold aG at a
 split at h
 .grind
 .grind
 grind
section
variable {H:Type} {N:Nat} {G:DataW H->Prop} {enc:TypeId×Value->H} {P:Program} {w:World} {base:Nat} {spare:Nat->Bool} {held:Bool}
theorem oD {n m:Nat} (u:∀ t,eL P n t=true->∀ cs x,DataW.trod enc P w base spare held m t cs=some x->G x.1->∃ aZ9,cI w cs aZ9/\TyN P N n t aZ9) (cs:List Value):
  ∀ (c:List Field) (off:Nat),(∀ f∈c,∃ y,DataW.trod enc P w base spare held m f.type ((cs.drop f.offset).take (P.cellsOf f.type))=some y/\G y.1)->nX P (eL P n) off c cs.length=true->
   ∃ aZ9,cI w (cs.drop off) aZ9/\TyF (TyN P N n) c aZ9:=by
 intro c
 induction c with
 | nil=>
  intro off _ h
  have:=aB h
  subst this
  exact ⟨[],by simpa using cI.nil,rfl⟩
 | cons f c e=>
  intro off o h
  simp only [nX,Af] at h
  obtain ⟨⟨h1,v⟩,h3⟩:=h
  have d:=aB h1
  obtain ⟨y,q,k⟩:=o f (by simp)
  obtain ⟨a,l,i⟩:=u f.type v _ y q k
  obtain ⟨b,r,j⟩:=e (off+P.cellsOf f.type) (fun g p=>o g (by simp [p])) h3
  refine ⟨a++b,?_,a,b,rfl,i,j⟩
  have s:cs.drop off=(cs.drop off).take (P.cellsOf f.type)++cs.drop (off+P.cellsOf f.type):=by rw [<-Im,De]
  rw [s]
  rw [d] at l
  exact l.append r
theorem qG {n m:Nat} {e:TypeId} (r:eL P n e=true) (p:∀ t,eL P n t=true->∀ cs x,DataW.trod enc P w base spare held m t cs=some x->G x.1->∃ aZ9,cI w cs aZ9/\TyN P N n t aZ9) (cs:List Value):
  ∀ (k:Nat),k*P.cellsOf e<=cs.length->(∀ i,i<k->∃ y,DataW.trod enc P w base spare held m e ((cs.drop (i*P.cellsOf e)).take (P.cellsOf e))=some y/\G y.1)->
   ∃ c:List (List AVal),c.length=k/\(∀ x∈c,TyN P N n e x)/\cI w (cs.take (k*P.cellsOf e)) c.flatten:=by
 intro k
 induction k with
 | zero=>intro _ _;exact ⟨[],rfl,fun x b=>by simp at b,by simpa using cI.nil⟩
 | succ k g=>
  intro q h
  rw [Bz,Ft] at q
  obtain ⟨c,l1,l2,l⟩:=g (by omega) (fun i hi=>h i (by omega))
  obtain ⟨y,j,f⟩:=h k (by omega)
  obtain ⟨a,o,d⟩:=p e r _ y j f
  refine ⟨c++[a],by simp [l1],fun x b=>?_,?_⟩
  .rcases Ao.1 b with b | b
   .exact l2 x b
   .simp at b;subst b;exact d
  .rw [Bz,Ft,Lq]
   simp only [List.flatten_append,List.flatten_cons,List.flatten_nil,Bm]
   exact l.append o
theorem qH {n m:Nat} {e:TypeId} (C:eL P n e=true) (A:∀ t,eL P n t=true->∀ cs x,DataW.trod enc P w base spare held m t cs=some x->G x.1->∃ aZ9,cI w cs aZ9/\TyN P N n t aZ9) (a:Addr):
  ∀ (k:Nat),(∀ i,i<k->∃ y,((w.cells? base (a.add (i*P.cellsOf e)) (P.cellsOf e)).bind (DataW.trod enc P w base spare held m e))=some y/\G y.1)->
   ∃ (xs:List AVal) (us:List (List Value)),xs.length=k/\us.length=k/\∀ (i:Nat) x u,xs[i]? =some x->us[i]? =some u->x.cells.length=P.cellsOf e/\(∀ j,j<P.cellsOf e->w.cell? ((a.add (i*P.cellsOf e)).add j)=u[j]?)/\cI w u x.cells/\
    TyN P N n e x.cells/\(aG P e=true->∃ l,x= .agg l)/\(aG P e=false->x.cells=[x]):=by
 intro k
 induction k with
 | zero=>intro _;exact ⟨[],[],rfl,rfl,fun i x u c=>by simp at c⟩
 | succ k r=>
  intro s
  obtain ⟨xs,us,l1,l2,v⟩:=r fun i hi=>s i (by omega)
  obtain ⟨y,h,o⟩:=s k (by omega)
  obtain ⟨u,z,h⟩:=Kx.1 h
  obtain ⟨_,g,d⟩:=World.cells?_some z
  obtain ⟨aZ9,has,f⟩:=A e C _ y h o
  obtain ⟨x,rfl,q⟩:=f.pack
  refine ⟨xs++[x],us++[u],by simp [l1],by simp [l2],fun i x' B c b=>?_⟩
  by_cases hi:i<k
  .rw [Ag (by omega)] at c b
   exact v i x' B c b
  .have p:i=k:=by
    have:=(Ac.1 c).1
    simp at this
    omega
   subst p
   rw [Ar (by omega)] at c b
   rw [l1,Ip] at c
   rw [l2,Ip] at b
   simp at c b
   subst c b
   exact ⟨by rw [<-has.1,g],d,has,f,q⟩
theorem tA (V:Bulk H N G):∀ (n:Nat) (t:TypeId),eL P n t=true->∀ (F:Nat) (cs:List Value) (x:DataW H×List MemPlace),DataW.trod enc P w base spare held F t cs=some x->G x.1->∃ aZ9,cI w cs aZ9/\TyN P N n t aZ9:=by
 intro n
 induction n with
 | zero=>intro t h;cases h
 | succ n Z=>
  intro t h F cs x d I
  unfold eL at h
  unfold TyN
  split at h
  .rename_i g
   try rw [g]
   obtain ⟨b,rfl,_⟩:=DataW.trod_bool g d
   exact ⟨[.bool b],cI.single (.bool b),b,rfl⟩
  .rename_i k g
   try rw [g]
   obtain ⟨m,rfl,_,O⟩:=DataW.trod_int g d
   simp only [Lit.wf,Af,decide_eq_true_eq] at O
   exact ⟨[.int k m],cI.single (.int k m (vD O)),m,rfl,vD O⟩
  .rename_i g
   try rw [g]
   obtain ⟨s,rfl,r,hs⟩:=DataW.trod_string g d
   obtain ⟨⟨l⟩⟩:=s
   have Y:=V.str _ (by rw [r] at I;exact I)
   exact ⟨[.str l],cI.single (.str l (by have:=dW;have D:l.length<=maxLen:=hs;omega)),l,rfl,Y⟩
  .rename_i fs g
   try rw [g]
   obtain ⟨xs,m,rfl,r,B,hxl,U⟩:=DataW.trod_struct g d
   have y:=V.agg _ (by rw [r] at I;exact I)
   rw [<-B] at h
   have:=oD (fun t T cs x d S=>Z t T m cs x d S) cs fs.toList 0 (fun f X=>by
    obtain ⟨i,hi⟩:=Ch X
    have R:fs[i]? =some f:=by simpa using hi
    have J:=(Dw.1 R).1
    exact ⟨xs[i]'(by omega),(U i f R).trans (Ab (by omega)),y _ (Ca (Bg _))⟩) h
   simpa using this
  .rename_i m e g
   try rw [g]
   simp only [Af] at h
   obtain ⟨h1,D⟩:=h
   obtain ⟨xs,q,rfl,r,B,hxl,U⟩:=DataW.trod_array g d
   have y:=V.agg _ (by rw [r] at I;exact I)
   have hc:=aB D
   obtain ⟨Ls,l1,l2,L⟩:=qG h1 (fun t T cs x d S=>Z t T q cs x d S) cs m (by omega) (fun i hi=>⟨xs[i]'(by omega),(U i hi).trans (Ab (by omega)),y _ (Ca (Bg _))⟩)
   rw [Cn (by omega)] at L
   exact ⟨Ls.flatten,L,Ls,l1,l2,rfl⟩
  .rename_i e g
   try rw [g]
   simp only [Af] at h
   obtain ⟨h1,D⟩:=h
   have C:0<P.cellsOf e:=by simpa [Jc] using D
   rcases DataW.trod_slice g d with ⟨rfl,_⟩ | ⟨a,len,cap,K,rest,q,rfl,rfl,r,hb,hlc,hcm,hel,U,_⟩
   .exact ⟨[.slice (P.cellsOf e) [] .no],cI.single (.nilslice _),[],rfl,Cc _,fun x d=>by simp at d⟩
   .have y:=V.sl _ _ (by rw [r] at I;exact I)
    obtain ⟨xs,us,l1,l2,L⟩:=qH h1 (fun t T cs x d S=>Z t T q cs x d S) a len (fun i hi=>⟨K[i]'(by omega),(U i hi).trans (Ab (by omega)),y.2 _ (Ca (Bg _))⟩)
    have hty:∀ x∈xs,TyN P N n e x.cells/\(aG P e=true->∃ l,x= .agg l)/\(aG P e=false->x.cells=[x]):=fun x d=>by
     obtain ⟨i,hi⟩:=Ch d
     have J:=(Ac.1 hi).1
     exact (L i x (us[i]'(by omega)) hi (Ab (by omega))).2.2.2
    by_cases h0:len=0
    .subst h0
     have:xs=[]:=Al l1
     subst this
     exact ⟨[.slice (P.cellsOf e) [] .no],cI.single (.emptys _ a cap),[],rfl,Cc _,fun x d=>by simp at d⟩
    .obtain ⟨b,o,sp⟩:=a
     have hx0:xs[0]? =some (xs[0]'(by omega)):=Ab (by omega)
     have W:us[0]? =some (us[0]'(by omega)):=Ab (by omega)
     obtain ⟨c1,c2,c3,_⟩:=L 0 _ _ hx0 W
     have u:=c2 0 C
     have M:0<(us[0]'(by omega)).length:=by rw [c3.1,c1];exact C
     rw [Ab M] at u
     have hsp:sp=none:=by
      have:=World.cell?_spot u
      simpa [Addr.add] using this
     subst hsp
     have key:∀ (i j:Nat) x c,xs[i]? =some x->x.cells[j]? =some c->∃ v,(us.getD i []).getD j undef=v/\w.cell? ⟨b,o+i*P.cellsOf e+j,none⟩=some v/\RepW w v c:=by
      intro i j x c d A
      have J:=(Ac.1 d).1
      have Q:us[i]? =some (us[i]'(by omega)):=Ab (by omega)
      obtain ⟨d1,d2,d3,_⟩:=L i x _ d Q
      have hjl:=(Ac.1 A).1
      have z:j<(us[i]'(by omega)).length:=by rw [d3.1];exact hjl
      have p:=d2 j (by omega)
      rw [Ab z] at p
      refine ⟨_,rfl,?_,?_⟩
      .rw [Cw,Cw,Q]
       simp only [Gt,Ab z]
       rw [aW,aW] at p
       exact p
      .rw [Cw,Cw,Q]
       simp only [Gt,Ab z]
       exact d3.2 j _ c (Ab z) A
     refine ⟨[.slice (P.cellsOf e) xs .no],cI.single (.slice (P.cellsOf e) b o len cap xs (fun i j=>(us.getD i []).getD j undef) l1 hlc (by have:=dW;omega) (fun x d=>?_) (fun i j x c d A=>?_) (fun i j x c d A=>?_) (fun i j x c d A=>?_)),xs,rfl,by have h9:=y.1;simp only [Ck] at h9;omega,hty⟩
     .obtain ⟨i,hi⟩:=Ch d
      have J:=(Ac.1 hi).1
      exact (L i x (us[i]'(by omega)) hi (Ab (by omega))).1
     .obtain ⟨v,rfl,h1,_⟩:=key i j x c d A;exact h1
     .obtain ⟨v,rfl,_,D⟩:=key i j x c d A;exact D.one
     .obtain ⟨v,rfl,_,D⟩:=key i j x c d A;exact D
  .cases h
theorem vV (j:Bulk H N G) {r:Reach} {b0:Nat} {n:Nat} {t:TypeId} {v:Value} {d:DataW H} {ps:List MemPlace}
  (g:aG P t=true) (f:eL P n t=true) (c:Eb P w r b0 t v) (h:DataW.Trod enc P w base spare held t v d ps) (m:G d):∃ aZ9,Rep (Mw w) [] v (.agg aZ9)/\TyN P N n t aZ9:=by
 obtain ⟨cs,rfl⟩:=tB g c
 obtain ⟨b,h⟩:=h
 obtain ⟨aZ9,h1,l⟩:=tA j n t f b _ _ h m
 have e:(Value.agg cs).cells.toList=cs.toList:=rfl
 rw [e] at h1
 refine ⟨aZ9,?_,l⟩
 have:=Rep.agg (M:=Mw w) (ob:=[]) cs.toList aZ9 h1.1 (fun i v a c k=>(h1.2 i v a c k).rep)
 omega
end
open Go.RowKit
open Classical
def B0 (z:AVal):OR->Prop
 | .val v=>v=z
 | .need p r=>p/\B0 z r
 | .idx n f=>∃ i:Nat,n=(i:Int)/\B0 z (f i)
 | .elem xs i f=>∃ x,xs[i]? =some x/\B0 z (f x)
 | .find es key f=>B0 z (f (aZ es key))
 | _=>False
theorem nB {P:Program} {obs:List AObj} {Kp:AVal->List AObj->Prop} {z:AVal}:∀ {r:OR},B0 z r->orF P obs (fun v obs'=>v=z/\obs'=obs) Kp r
 | .val v,h=>⟨h,rfl⟩
 | .need p r,h=>⟨h.1,nB h.2⟩
 | .idx n f,⟨i,hi,h⟩=>⟨i,hi,nB h⟩
 | .elem xs i f,⟨x,hx,h⟩=>⟨x,hx,nB h⟩
 | .find es key f,h=>⟨_,rfl,nB h⟩
 | .no,h=>h.elim
 | .mkf _ _ _,h=>h.elim
 | .alt _ _ _,h=>h.elim
 | .byte _ _,h=>h.elim
 | .text _,h=>h.elim
 | .born _ _,h=>h.elim
 | .upd _ _ _,h=>h.elim
 | .nilq _ _,h=>h.elim
 | .call _ _,h=>h.elim
 | .pan _,h=>h.elim
theorem qJ {k:AVal->Prop}:∀ {r:OR},FH k r->∃ v,k v
 | .val v,h=>⟨v,h⟩
 | .need p r,h=>qJ h.2
 | .idx n f,⟨i,hi,h⟩=>qJ h
 | .elem xs i f,⟨x,hx,h⟩=>qJ h
 | .find es key f,⟨o,ho,h⟩=>qJ h
 | .no,h=>h.elim
 | .mkf _ _ _,h=>h.elim
 | .alt _ _ _,h=>h.elim
 | .byte _ _,h=>h.elim
 | .text _,h=>h.elim
 | .born _ _,h=>h.elim
 | .upd _ _ _,h=>h.elim
 | .nilq _ _,h=>h.elim
 | .call _ _,h=>h.elim
 | .pan _,h=>h.elim
def LO (E:Env) (A tab:List Nat) (all:List Oper) (fr:List (Nat×AVal)) (obs:List AObj):List Nat->Prop
 | []=>True
 | i::r=>(match nth all i with
   | some p=>(match p.guard with
    | none=>(match p.dst with
     | some d=>B0 (aR fr d) (eop E (cZ E p.dst) (aM obs) (aC obs) (evP A tab all i fr) p.op p.type)
     | none=>False)
    | some _=>False)
   | none=>False)/\LO E A tab all fr obs r
theorem LN {E:Env} {A tab:List Nat} {all:List Oper} {fr:List (Nat×AVal)} {obs:List AObj}:∀ {U:List Nat},LO E A tab all fr obs U->∀ i∈U,∃ p d,all[i]? =some p/\p.guard=none/\p.dst=some d/\
  B0 (aR fr d) (eop E (cZ E p.dst) (aM obs) (aC obs) (evP A tab all i fr) p.op p.type)
 | [],_,i,hi=>by cases hi
 | j::r,h,i,hi=>by
  rcases Aj.1 hi with rfl | hi
  .have h1:=h.1
   split at h1
   .rename_i p hp
    split at h1
    .rename_i a
     split at h1
     .rename_i d b
      exact ⟨p,d,gJ hp,a,b,h1⟩
     grind
    grind
   grind
  .exact LN h.2 i hi
section
variable {rd:Option Nat} {M0:Imm} {ob0:Hs} {obs0:List AObj} {w0:World} {sz:Nat} {dfs:List (Nat×List AVal)} {E:Env} {ops:Array Oper} {Q:Exit->Act->World->Prop} {K:List (Nat×AVal)->List AObj->Prop} {Kp:(Nat->AVal)->AVal->List AObj->Prop} {A tab:List Nat}
theorem AL {all:List Oper} {obs:List AObj}:∀ {l:List Nat} {fr:List (Nat×AVal)} {k:List (Nat×AVal)->Prop},tU E A tab all obs l fr k->(∀ i∈l,i∈A)->∃ a,k a/\∀ t,zG A t 0 all=false->aR a t=aR fr t
 | [],fr,k,h,_=>⟨fr,h,fun t _=>rfl⟩
 | i::r,fr,k,h,hA=>by
  unfold tU at h
  split at h
  .rename_i p hp
   split at h
   .rename_i d f
    obtain ⟨v,h⟩:=qJ h
    .rw [jI,jO] at h
     obtain ⟨a,h1,c⟩:=AL h fun j e=>hA j (Ap _ e)
     refine ⟨a,h1,fun t b=>?_⟩
     rw [c t b,rS]
     have:=nI b i p (by simpa using gJ hp) (by grind)
     grind
   grind
  grind
end
theorem To.partC {E:Env} {fn:Func} {g:Goal} {st:List KI} {fr:List (Nat×AVal)} {obs:List AObj} (l ks:List Nat) (b:E.df=[]) (c:iV ks obs=true) (d:lF g.n0 0 ks=true)
  (h:To E fn g (.code st (WN g.n0 ks (aC obs) (mT l fr)) (fN g.n0 ks obs))) (a:g.strict=true:=by rfl):To E fn g (.code st fr obs):=To.toC (To.part l ks b c d (To.ofC h) a)
def JZ (E:Env) (A tab:List Nat) (all:List Oper) (K:List (Nat×AVal)->List AObj->Prop) (Kp:(Nat->AVal)->AVal->List AObj->Prop):List Nat->List Nat->List Nat->List (Nat×AVal)->List AObj->Prop
 | [],_,U,fr,obs=>LO E A tab all fr obs U/\K fr obs
 | _::F,Bs,U,fr,obs=>LO E A tab all fr obs U/\sN tab Bs (fun n=>match nth all n with
   | none=>False
   | some p=>(match p.guard with
    | some _=>False
    | none=>orF E.P obs (fun v obs'=>KD 5 v fun v=>ODL obs' fun obs'=>K0 fr p.dst v fun fr=>JZ E A tab all K Kp F (D5 n Bs) (pI tab n U) fr obs') (Kp (gP A all fr))
      (eop E (cZ E p.dst) (aM obs) (aC obs) (evP A tab all n fr) p.op p.type))) Bs
theorem XJ {E:Env} {A tab:List Nat} {all:List Oper} {K:List (Nat×AVal)->List AObj->Prop} {Kp:(Nat->AVal)->AVal->List AObj->Prop} {F a U:List Nat} {fr:List (Nat×AVal)} {obs:List AObj} (h:JZ E A tab all K Kp F a U fr obs):LO E A tab all fr obs U:=by
 cases F with
 | nil=>exact h.1
 | cons n r=>exact h.1
section
variable {rd:Option Nat} {M0:Imm} {ob0:Hs} {obs0:List AObj} {w0:World} {sz:Nat} {dfs:List (Nat×List AVal)} {E:Env} {ops:Array Oper} {Q:Exit->Act->World->Prop} {K:List (Nat×AVal)->List AObj->Prop} {Kp:(Nat->AVal)->AVal->List AObj->Prop} {A tab:List Nat}
theorem OY (hE:EnvOK E) (ht:TabSp ops tab) (hd:∀ (i:Nat) p,ops[i]? =some p->∀ d,p.dst=some d->d<sz)
  (hp:∀ g v obs ch a w,Kp g v obs->PP M0 ob0 obs0 w0 sz dfs g v obs ch a w->Q (.panic ch) a w) (hq:∀ fr obs a w,K fr obs->SS M0 ob0 obs0 w0 sz dfs fr obs a w->Q .normal a w):
  ∀ (J:Nat) (b:Array Bool) (F m z U:List Nat) (fr:List (Nat×AVal)) (obs:List AObj) (a:Act) (w:World),F.length=m.length->J=m.length+z.length->b.size=ops.size->lJ tab b->
   (∀ i,i<ops.size->(b.getD i false=false↔i∈m\/i∈z))->(m++z).Nodup->(∀ i∈m,i<ops.size)->(∀ i∈z,i∈A/\i∈U/\i<ops.size)->
   JZ E A tab ops.toList K Kp F m U fr obs->SM M0 ob0 obs0 w0 sz dfs ops z fr obs a w->wpAnyIn (fen rd) 0 E.P .any ops Q J b a w:=by
 intro J
 induction J with
 | zero=>
  intro b F m z U fr obs a w hF hf O hc c B S H h hs
  have e1:m=[]:=Al (by omega)
  have e2:z=[]:=Al (by omega)
  subst e1 e2
  obtain rfl:=Al hF
  refine ⟨Eh.2 fun j k=>?_,hq fr obs a w h.2 ?_⟩
  .obtain ⟨h1,X⟩:=uB k O
   rcases (c j h1).1 X with q | q<;>cases q
  .obtain ⟨M,ob,Y,hm,N,r⟩:=hs
   exact ⟨M,ob,Y,hm,fun t=>N t (fun i hi=>absurd hi Hr),r⟩
 | succ J ih=>
  intro b F m z U fr obs a w hF hf O hc c B S H h hs
  refine ⟨fun h0=>?_,fun i hi=>?_⟩
  .exfalso
   cases m with
   | cons n r=>
    have hn:=S n (Ak ..)
    exact kH ht O (n+1) n (by omega) hn ((c n hn).2 (.inl (Ak ..))) h0
   | nil=>
    cases z with
    | nil=>simp at hf
    | cons n r=>
     have hn:=(H n (Ak ..)).2.2
     exact kH ht O (n+1) n (by omega) hn ((c n hn).2 (.inr (Ak ..))) h0
  .obtain ⟨hilt,hil⟩:=uB hi O
   obtain ⟨hc',R⟩:=hc.step ht hi
   obtain ⟨M,ob,Y,hm,N,G,hdf,h0⟩:=hs
   have hl:=hm.len
   have hev:∀ x,Rep M ob (a.eval x) (evP A tab ops.toList i fr x):=fun x=>by
    cases x with
    | const v=>exact nK v
    | global g=>exact .undef _
    | func f=>exact .func (.func f) [] [] [] [] rfl rfl (fun i v a h=>by simp at h) (fun i v a h=>by simp at h)
    | tmp t=>
     show Rep M ob _ (bif L6 A tab i t 0 ops.toList then .undef else aR fr t)
     cases hh:L6 A tab i t 0 ops.toList with
     | true=>exact .undef _
     | false=>
      refine N t fun j k p hp s=>?_
      have h1:=wV hh j p (by simpa using hp) s (by rw [Cb];exact (H j k).1)
      rw [Cb] at h1
      have X:=R j h1
      rw [(c j (H j k).2.2).2 (.inr k)] at X
      cases X
   have L:∀ (Bs' UA':List Nat),(∀ j,(j∈Bs'\/j∈UA')↔(j∈m\/j∈z)/\j≠i)->∀ j,j<ops.size->((b.setIfInBounds i true).getD j false=false↔j∈Bs'\/j∈UA'):=fun Bs' UA' he j k=>by
    rw [he j]
    by_cases e:j=i
    .subst e
     rw [Aw,Cs (by omega)]
     simp
    .rw [getD_set_ne false (Eu e),c j k]
     simp [e]
   have hsz':(b.setIfInBounds i true).size=ops.size:=by simpa using O
   rcases (c i hilt).1 hil with hB | hA
   .
    cases F with
    | nil=>rw [Al hF.symm] at hB;cases hB
    | cons n0 F=>
     have hfree:pG tab i m=true:=CU fun j k=>by
      cases hq2:cF (dC tab i) j with
      | false=>rfl
      | true=>
       have X:=R j hq2
       rw [(c j (S j k)).2 (.inl k)] at X
       cases X
     obtain ⟨hok,h⟩:=h
     have h:=vP hfree h hB
     split at h
     .exact h.elim
     .rename_i p hnp
      have D:ops[i]? =some p:=by simpa using gJ hnp
      split at h
      .exact h.elim
      .rename_i hg
       have h:orF E.P obs (fun v obs'=>JZ E A tab ops.toList K Kp F (D5 i m) (pI tab i U) (jN fr p.dst v) obs') (Kp (gP A ops.toList fr)) (eop E (cZ E p.dst) (aM obs) (aC obs) (evP A tab ops.toList i fr) p.op p.type):=
        gI (fun v o h=>by rw [jI,oZ,BF] at h;exact h) h
       have hw:Ds p (yielded ops a.tmps)=true:=by unfold Ds;rw [hg]
       unfold wpOpIn
       rw [D]
       dsimp only
       rw [if_pos hw]
       refine (rI hE hm hev h).wpIn (gC h) (fun u w' ⟨M',ob',L',I,x2,x3⟩=>?_) (fun ch w' ⟨M',ob',L',I,x2,x3⟩=>?_)
       .rcases x3 with ⟨u',v,e,hr,hk⟩ | ⟨ch,v,e,_⟩
        .cases e
         have:=I.lens
         have:=x2.len
         have Z:m.Nodup:=(Ax.1 B).1
         have l:∀ j,j∈m.erase i↔j≠i/\j∈m:=fun j=>Z.mem_erase_iff
         have hlen:(m.erase i).length+1=m.length:=by
                    rw [Gq hB]
                    have:=Gz hB
                    omega
         have W:i∉z:=fun hb=>(Ax.1 B).2.2 i hB i hb rfl
         rw [HP] at hk
         refine ih (b.setIfInBounds i true) F (m.erase i) z (pI tab i U) _ L' _ w' (by simp at hF;omega) (by omega) hsz' hc' (L (m.erase i) z fun j=>?_) ?_ (fun j k=>S j ((l j).1 k).2) (fun j k=>?_) hk
                    ⟨M',ob',Y.trans I,x2,fun t hmt=>?_,(dD _ _ _).1.trans G,(hdf.ext hm I).put,by omega⟩
         .rw [l j]
          constructor
          .rintro (⟨C,k⟩ | k)
           .exact ⟨.inl k,C⟩
           .exact ⟨.inr k,fun e=>W (e▸k)⟩
          .rintro ⟨k | k,C⟩
           .exact .inl ⟨C,k⟩
           .exact .inr k
         .refine Ax.2 ⟨Z.erase i,(Ax.1 B).2.1,fun x Y y hy=>?_⟩
          exact (Ax.1 B).2.2 x ((l x).1 Y).2 y hy
         .obtain ⟨k1,k2,k3⟩:=H j k
          refine ⟨k1,xF k2 ?_,k3⟩
          cases hq2:cF (dC tab i) j with
          | false=>rfl
          | true=>
           have X:=R j hq2
           rw [(c j k3).2 (.inr k)] at X
           cases X
         .rw [dK]
          unfold gT
          by_cases s:p.dst=some t
          .rw [if_pos s]
           have hlt:t<a.tmps.size:=G▸hd i p D t s
           rw [s]
           simp only [Act.put]
           rw [Aw,Cs hlt]
           exact hr
          .rw [if_neg s]
           have hold:=(N t hmt).mono I.imm I.hs
           cases T:p.dst with
           | none=>exact hold
           | some d=>
            have C:d≠t:=fun e=>s (by rw [T,e])
            simp only [Act.put]
            rw [Aw,Dk C,<-Aw]
            exact hold
        .cases e
       .rcases x3 with ⟨u',v,e,_⟩ | ⟨ch',v,e,hr,hk⟩
        .cases e
        .cases e
         have:=I.lens
         have:=x2.len
         refine hp _ v L' ch a w' hk ⟨M',ob',Y.trans I,x2,hr,fun t=>?_,G,hdf.ext hm I,by omega⟩
         unfold gP
         cases hda:zG A t 0 ops.toList with
         | true=>exact .undef _
         | false=>
                    exact (N t fun j k q V=>nI hda j q (by simpa using V) (by rw [Cb];exact (H j k).1)).mono I.imm I.hs
   .
    obtain ⟨k1,k2,k3⟩:=H i hA
    obtain ⟨p,d,D,hg,T,hev2⟩:=LN (XJ h) i k2
    have D:ops[i]? =some p:=by simpa using D
    have hor:orF E.P obs (fun v obs'=>v=aR fr d/\obs'=obs) (fun _ _=>False) (eop E (cZ E p.dst) (aM obs) (aC obs) (evP A tab ops.toList i fr) p.op p.type):=nB hev2
    have hw:Ds p (yielded ops a.tmps)=true:=by unfold Ds;rw [hg]
    unfold wpOpIn
    rw [D]
    dsimp only
    rw [if_pos hw]
    refine (rI hE hm hev hor).wpIn (gC hor) (fun u w' ⟨M',ob',L',I,x2,x3⟩=>?_) (fun ch w' ⟨M',ob',L',I,x2,x3⟩=>?_)
    .rcases x3 with ⟨u',v,e,hr,hk1,hk2⟩ | ⟨ch,v,e,_⟩
     .cases e
      subst hk1 hk2
      have hlt:d<a.tmps.size:=G▸hd i p D d T
      have hnod:z.Nodup:=(Ax.1 B).2.1
      have l:∀ j,j∈z.erase i↔j≠i/\j∈z:=fun j=>hnod.mem_erase_iff
      have hlen:(z.erase i).length+1=z.length:=by
       rw [Gq hA]
       have:=Gz hA
       omega
      have W:i∉m:=fun hb=>(Ax.1 B).2.2 i hb i hA rfl
      refine ih (b.setIfInBounds i true) F m (z.erase i) U fr L' _ w' hF (by omega) hsz' hc' (L m (z.erase i) fun j=>?_) ?_ S (fun j k=>H j ((l j).1 k).2) h
       ⟨M',ob',Y.trans I,x2,fun t hmt=>?_,(dD _ _ _).1.trans G,(hdf.ext hm I).put,h0⟩
      .rw [l j]
       constructor
       .rintro (k | ⟨C,k⟩)
        .exact ⟨.inl k,fun e=>W (e▸k)⟩
        .exact ⟨.inr k,C⟩
       .rintro ⟨k | k,C⟩
        .exact .inl k
        .exact .inr ⟨C,k⟩
      .refine Ax.2 ⟨(Ax.1 B).1,hnod.erase i,fun x Y y hy=>?_⟩
       exact (Ax.1 B).2.2 x Y y ((l y).1 hy).2
      .rw [T]
       simp only [Act.put]
       by_cases s:d=t
       .subst s
        rw [Aw,Cs hlt]
        exact hr
       .rw [Aw,Dk s,<-Aw]
        refine (N t fun j k q V=>?_).mono I.imm I.hs
        by_cases hji:j=i
        .subst hji
         rw [D] at V
         cases V
         rw [T]
         exact fun e=>s (Option.some.inj e)
        .exact hmt j ((l j).2 ⟨hji,k⟩) q V
     .cases e
    .rcases x3 with ⟨u',v,e,_⟩ | ⟨ch',v,e,hr,hk⟩
     .cases e
     .exact hk.elim
end
theorem To.permTV {E:Env} {fn:Func} {g:Goal} (hE:EnvOK E) (A B:List Nat) {id:Nat} {ops:Array Oper} {ks:List KI} {fr:List (Nat×AVal)} {obs:List AObj} (hst:RC A B (fL [] ops.toList) ops.size=true)
  (h:tU E A (fL [] ops.toList) ops.toList obs A fr fun fr=>JZ E A (fL [] ops.toList) ops.toList (fun fr obs=>To E fn g (.code ks fr obs)) (iA E fn g) B B A fr obs):To E fn g (.code (.code (.region id ops true)::ks) fr obs):=
 .mk fun J M0 ob0 obs0 w0 a w f hs=>by
  simp only [aV,KI.ok,cS,Af] at J
  obtain ⟨⟨x,D⟩,z⟩:=J
  have V:=kA x
  refine KW.code (Q':=QR E fn g M0 ob0 obs0 w0 ks) ?_ (fun a w h=>h) (fun m a w h=>h) (fun e a w O=>by
   cases e<;>first | exact .inl rfl | exact .inr ⟨_,rfl⟩ | exact O.elim)
  have l:∀ n v obs m a w,iA E fn g n v obs->PP M0 ob0 obs0 w0 fn.ntmps E.df n v obs m a w->jV E fn M0 ob0 obs0 w0 g (.panic m) a w:=fun n v obs m a w W l=>vE W f l
  have C:∀ fr obs a w,To E fn g (.code ks fr obs)->SS M0 ob0 obs0 w0 fn.ntmps E.df fr obs a w->KW E.rd E.P (jV E fn M0 ob0 obs0 w0 g) ks a w:=fun fr obs a w F hs=>F.rec fun F=>F z M0 ob0 obs0 w0 a w f hs
  have S:TabSp ops (fL [] ops.toList):=sZ ops (by simpa using D)
  refine wpIn_region_any hE.mix ?_
  simp only [RC,Af] at hst
  obtain ⟨Y,T⟩:=hst
  obtain ⟨R,G⟩:=wQ Y
  have K:=xH T
  obtain ⟨H,h1,o⟩:=AL h fun i hi=>hi
  have k:(B++A).Nodup:=List.perm_append_comm.nodup_iff.1 R
  have b:ops.size=B.length+A.length:=by
   have y:(B++A).length<=ops.size:=by
    have:=(k.sublist (Hg _))
    have h3:(B++A).Subset (Df ops.size):=fun i hi=>Fu.2 (G i (by rw [Ao] at hi⊢;exact hi.symm))
    have:=k.length_le_of_subset h3
    simpa using this
   have q:ops.size<=(B++A).length:=by
    have h3:(Df ops.size).Subset (B++A):=fun i hi=>by
     rw [Ao]
     exact (K i (Fu.1 hi)).symm
    have:=List.nodup_range.length_le_of_subset h3
    simpa using this
   simp at y q
   omega
  obtain ⟨M,ob,U,hm,X,N⟩:=hs.draw
  have c:∀ i,i<ops.size->(Ey ops.size false).getD i false=false:=fun i hi=>by
   rw [Aw,Fk (by simpa using hi)]
   simp
  refine OY (Q:=QR E fn g M0 ob0 obs0 w0 ks) hE S (fun i p hi d u=>V p (Az (i:=i) (by simpa using hi)) d u) (fun n v obs m a w h1 o=>l n v obs m a w h1 o) (fun fr obs a w h1 o=>C fr obs a w h1 o) ops.size _ B B A A H obs a _ rfl b (by simp) (fun j i r _=>?_)
   (fun i hi=>⟨fun _=>(K i hi).symm,fun _=>c i hi⟩) k (fun i hi=>G i (Cp _ hi)) (fun i hi=>⟨hi,hi,G i (Cd _ hi)⟩) h1 ⟨M,ob,U,hm,fun t I=>?_,N⟩
  .by_cases L:j<ops.size
   .rw [c j L] at r;cases r
   .rw [Aw,Iq (by simpa using L)] at r
    cases r
  .rw [o t ?_]
   .exact X t
   .cases s:zG A t 0 ops.toList with
    | false=>rfl
    | true=>
     obtain ⟨i,p,y,q,e3⟩:=I7 s
     rw [Cb] at q
     exact absurd e3 (I i q p (by simpa using y))
end Go.AW
namespace Go.Proofs.YtlanfgblaebddaaGreat
open Go Go.AW Go.Proofs
set_option maxRecDepth 10000
theorem CP (c:Con) (i:c.sm) (g:Gan) (r:Int) (a:dA c.ns g=r):aA Tryz.prog 40 [c.av,g.av] [] (.ret (ii r)) []:=by
 have b:=kB g.need
 have hl:=fO c i g.ten
 unfold dA vI at a
 generalize aH g.need=bv at a b
 generalize rlB c.ns g.ten=bl at a hl
 by_cases e:1<=g.id/\g.id<=1073741824/\1<=g.pods/\g.pods<=16
 .rw [decide_eq_true e] at a
  cases bv with
  | false=>
   have a:0=r:=a
   subst a
   refine cT (E:=E) (fn:=Tryz.f40) (g:=.pure _) fun _=>?_
   repeat' first
    | (refine gW hE ?_;conv=>whnf)
    | exact rfl
    | refine .pure _ [] b ?_
    | refine .pure _ [] hl ?_
    | refine aY ?_
    | refine aN ?_
    | refine aF fun h=>?_
    | refine aT fun h=>?_
    | refine Aa (fun h=>?_) (fun h=>?_)
  | true=>
   by_cases d:1<=g.run/\g.run<=1048576/\0<=g.lev/\g.lev<=3/\0<=g.pref/\g.pref<=g.lev
   .rw [decide_eq_true d] at a
    cases bl with
    | false=>
     have a:0=r:=a
     subst a
     refine cT (E:=E) (fn:=Tryz.f40) (g:=.pure _) fun _=>?_
     repeat' first
      | (refine gW hE ?_;conv=>whnf)
      | exact rfl
      | refine .pure _ [] b ?_
      | refine .pure _ [] hl ?_
      | refine aY ?_
      | refine aN ?_
      | refine aF fun h=>?_
      | refine aT fun h=>?_
      | refine Aa (fun h=>?_) (fun h=>?_)
    | true=>
     have a:1=r:=a
     subst a
     refine cT (E:=E) (fn:=Tryz.f40) (g:=.pure _) fun _=>?_
     repeat' first
      | (refine gW hE ?_;conv=>whnf)
      | exact rfl
      | refine .pure _ [] b ?_
      | refine .pure _ [] hl ?_
      | refine aY ?_
      | refine aN ?_
      | refine aF fun h=>?_
      | refine aT fun h=>?_
      | refine Aa (fun h=>?_) (fun h=>?_)
   .rw [decide_eq_false d] at a
    have a:0=r:=a
    subst a
    refine cT (E:=E) (fn:=Tryz.f40) (g:=.pure _) fun _=>?_
    repeat' first
     | (refine gW hE ?_;conv=>whnf)
     | exact rfl
     | refine .pure _ [] b ?_
     | refine .pure _ [] hl ?_
     | refine aY ?_
     | refine aN ?_
     | refine aF fun h=>?_
     | refine aT fun h=>?_
     | refine Aa (fun h=>?_) (fun h=>?_)
    all_goals (exfalso;simp only [decide_eq_true_eq] at *;omega)
 .rw [decide_eq_false e] at a
  have a:0=r:=a
  subst a
  refine cT (E:=E) (fn:=Tryz.f40) (g:=.pure _) fun _=>?_
  repeat' first
   | (refine gW hE ?_;conv=>whnf)
   | exact rfl
   | refine .pure _ [] b ?_
   | refine .pure _ [] hl ?_
   | refine aY ?_
   | refine aN ?_
   | refine aF fun h=>?_
   | refine aT fun h=>?_
   | refine Aa (fun h=>?_) (fun h=>?_)
  all_goals (exfalso;simp only [decide_eq_true_eq] at *;omega)
theorem vG (c:Con) (a:c.sm) (g:Gan):aA Tryz.prog 40 [c.av,g.av] [] (.ret (ii (dA c.ns g))) []:=CP c a g _ rfl
noncomputable abbrev xC:Func:=Tryz.f38
theorem PQ (c:Con) (o:c.sm) (now:Int) (l:List Rn) (x:Rn) (p:x.hs.length<=1048576) (r:Int) (j:Nat) (q:j<1048576):
  ∀ (m i:Nat),i+m=x.hs.length->(hJ c.hs.length (x.hs.drop i)=false->r=0)->(hJ c.hs.length (x.hs.drop i)=true->To E xC (.pure (.ret (ii r))) (.head (stk xC 0) [(1,ii now),(2,.slice 14 (rav l) .no),(3,.ref 0 0),(7,ii ((j:Int)+1))] [.cells 25 c.cs]))->
  To E xC (.pure (.ret (ii r))) (.head (stk xC 1) [(1,ii now),(2,.slice 14 (rav l) .no),(3,.ref 0 0),(7,ii j),(8,.ref 1 0),(9,ii i)] [.cells 25 c.cs,.cells 44 x.cs]):=by
 have g:(iv x.hs).length=x.hs.length:=by simp
 have n:(hav c.hs).length=c.hs.length:=by simp
 have h1:=o.hs
 intro m
 induction m with
 | zero=>
  intro i hi b a
  rw [Ae (by omega)] at a
  have a:=a rfl
  refine gV ?_
  refine aF fun h=>?_
  repeat' first | (refine gN hE ?_;conv=>whnf) | exact rfl | (refine zt ?_;try intro h) | refine zu (fun h=>?_) fun h=>?_ | fail
  exact To.cut [1,2,3,7] 1 rfl rfl rfl rfl a
 | succ m e=>
  intro i hi b a
  have d:i<x.hs.length:=by omega
  rw [Ad d] at b a
  have get:=cQ d
  generalize x.hs[i]=u at b a get
  have e:=e (i+1) (by omega)
  unfold hJ at b a
  rw [Da] at b a
  by_cases f:0<=u/\u<(c.hs.length:Int)
  .rw [decide_eq_true f] at b a
   have next:=e b a
   refine gV ?_
   refine aT fun h=>?_
   repeat' first | (refine gN hE ?_;conv=>whnf) | refine ⟨i,rfl,?_⟩ | refine ⟨_,get,?_⟩ | exact rfl | (refine zt ?_;try intro h) | refine zu (fun h=>?_) fun h=>?_ | fail
   exact To.cut [1,2,3,7,8,9] 2 rfl rfl rfl rfl next
  .rw [decide_eq_false f] at b
   have k:=b rfl
   subst k
   refine gV ?_
   refine aT fun h=>?_
   repeat' first
    | (refine gN hE ?_;conv=>whnf)
    | exact rfl
    | refine Ai i (Aa rfl ?_)
    | refine Ai _ (Aa get ?_)
    | refine aY ?_
    | refine aN ?_
    | refine aF fun h=>?_
    | refine aT fun h=>?_
    | refine Aa (fun h=>?_) (fun h=>?_)
   all_goals (exfalso;simp at *;omega)
theorem qAa (c:Con) (q:c.sm) (now:Int) (l:List Rn) (hs:Sm l) (r:Int):∀ (m i:Nat),i+m=l.length->(if (l.drop i).all (N3 c now)=true then (1:Int) else 0)=r->
  To E xC (.pure (.ret (ii r))) (.head (stk xC 0) [(1,ii now),(2,.slice 14 (rav l) .no),(3,.ref 0 0),(7,ii i)] [.cells 25 c.cs]):=by
 have s:(rav l).length=l.length:=by simp
 have h1:=hs.1
 intro m
 induction m with
 | zero=>
  intro i hi a
  rw [Ae (by omega)] at a
  have a:1=r:=a
  subst a
  refine gV ?_
  refine aF fun h=>?_
  repeat' first | (refine gN hE ?_;conv=>whnf) | exact rfl | (refine zt ?_;try intro h) | refine zu (fun h=>?_) fun h=>?_ | fail
 | succ m k=>
  intro i hi a
  have d:i<l.length:=by omega
  have f:=hs.at d
  rw [Ad d,Da] at a
  have get:=cJ d
  generalize l[i]=x at a get f
  have k:=k (i+1) (by omega)
  have b:=vG c q x.g
  have o:(iv x.hs).length=x.hs.length:=by simp
  unfold N3 at a
  by_cases e:DQ c now x
  .rw [if_pos e] at a
   have a:0=r:=a
   subst a
   unfold DQ at e
   generalize dA c.ns x.g=gi at e b
   refine gV ?_
   refine aT fun h=>?_
   repeat' first
    | (refine gN hE ?_;conv=>whnf)
    | exact rfl
    | refine .pure _ [] b ?_
    | refine Ai i (Aa rfl ?_)
    | refine Ai _ (Aa get ?_)
    | refine aY ?_
    | refine aN ?_
    | refine aF fun h=>?_
    | refine aT fun h=>?_
    | refine Aa (fun h=>?_) (fun h=>?_)
   all_goals (exfalso;simp at *;omega)
  .rw [if_neg e] at a
   unfold DQ at e
   generalize dA c.ns x.g=gi at e b
   have n:(gi==0)=false:=by simp;omega
   have p:((x.hs.length:Int) !=x.g.pods)=false:=by simp;omega
   have j:=PQ c q now l x f r i (by omega) x.hs.length 0 (by omega) (fun h=>by
    have h:hJ c.hs.length x.hs=false:=h
    rw [h] at a
    exact a.symm) (fun h=>by
    have h:hJ c.hs.length x.hs=true:=h
    rw [h] at a
    exact k a)
   refine gV ?_
   refine aT fun h=>?_
   repeat' first
    | (refine gN hE ?_;conv=>whnf)
    | refine .pure _ [] b ?_
    | refine Ai i (Aa rfl ?_)
    | refine Ai _ (Aa get ?_)
    | refine aY ?_
    | refine aN ?_
    | refine aF fun h=>?_
    | refine aT fun h=>?_
    | refine Aa (fun h=>absurd (show (gi==0)=true from h) (by rw [n];decide)) (fun h=>?_)
    | refine Aa (fun h=>absurd h (by rw [o,p];decide)) (fun h=>?_)
   all_goals exact To.cut [1,2,3,7,8,9] 2 rfl rfl rfl rfl j
theorem IP (c:Con) (e:c.sm) (now:Int) (l:List Rn) (hs:Sm l) (r:Int) (d:jD c now l=r):aA Tryz.prog 38 [c.av,ii now,.slice 14 (rav l) .no] [] (.ret (ii r)) []:=by
 have i:(rav l).length=l.length:=by simp
 have a:=check_ok c e
 unfold jD at d
 by_cases b:DR c now l
 .rw [if_pos b] at d
  subst d
  unfold DR at b
  generalize bC c=k at b a
  refine cT (E:=E) (fn:=Tryz.f38) (g:=.pure _) fun _=>?_
  repeat' first
   | (refine gN hE ?_;conv=>whnf)
   | exact rfl
   | refine .pure _ [] a ?_
   | refine aY ?_
   | refine aN ?_
   | refine aF fun h=>?_
   | refine aT fun h=>?_
   | refine Aa (fun h=>?_) (fun h=>?_)
  all_goals (exfalso;simp at *;omega)
 .rw [if_neg b] at d
  unfold DR at b
  generalize bC c=k at b a
  have j:(k !=0)=false:=by simp;omega
  refine cT (E:=E) (fn:=Tryz.f38) (g:=.pure _) fun _=>?_
  repeat' first
   | (refine gN hE ?_;conv=>whnf)
   | refine .pure _ [] a ?_
   | refine aY ?_
   | refine aN ?_
   | refine aF fun h=>?_
   | refine aT fun h=>?_
   | refine Aa (fun h=>absurd h (by rw [j];decide)) (fun h=>?_)
  all_goals exact To.cut [1,2,3,7] 1 rfl rfl rfl rfl (qAa c e now l hs r l.length 0 (by omega) d)
theorem PO (c:Con) (a:c.sm) (now:Int) (l:List Rn) (hs:Sm l):aA Tryz.prog 38 [c.av,ii now,.slice 14 (rav l) .no] [] (.ret (ii (jD c now l))) []:=IP c a now l hs _ rfl
end Go.Proofs.YtlanfgblaebddaaGreat
namespace Go.Proofs.YtlanfgblaebddaaGreat.C8
open Go Go.AW Go.Proofs
set_option maxRecDepth 10000
theorem _root_.Go.Proofs.YtlanfgblaebddaaGreat.Nod.eqb_eq {x y:Nod}:x.eqb y=true↔x=y:=by
 obtain ⟨_,_,⟨_,_,_⟩,⟨_,_,_⟩,⟨_,_,_⟩⟩:=x
 obtain ⟨_,_,⟨_,_,_⟩,⟨_,_,_⟩,⟨_,_,_⟩⟩:=y
 simp [Nod.eqb,and_assoc]
theorem _root_.Go.Proofs.YtlanfgblaebddaaGreat.Hos.eqb_eq {x y:Hos}:x.eqb y=true↔x=y:=by
 obtain ⟨_,_,_,⟨_,_,_⟩⟩:=x
 obtain ⟨_,_,_,⟨_,_,_⟩⟩:=y
 simp [Hos.eqb]
theorem _root_.Go.Proofs.YtlanfgblaebddaaGreat.Gan.eqb_eq {x y:Gan}:x.eqb y=true↔x=y:=by
 obtain ⟨_,_,_,⟨_,_,_⟩,_,_,_⟩:=x
 obtain ⟨_,_,_,⟨_,_,_⟩,_,_,_⟩:=y
 simp [Gan.eqb,and_assoc]
end Go.Proofs.YtlanfgblaebddaaGreat.C8
namespace Go.Proofs.YtlanfgblaebddaaGreat.Q2
open Go Go.AW Go.Proofs
set_option maxRecDepth 10000
theorem mH (l:List Pend) (hl:l.length<=1000000) (r:Bool):∀ (n i:Nat),i+n=l.length->cW l n i=r->
  To E Tryz.f39 (.pure (.ret (.bool r))) (.head (stk Tryz.f39 0) [(0,.slice 11 (pav l) .no),(3,.int .i64 i)] []):=by
 have p:(pav l).length=l.length:=by simp
 intro n
 induction n with
 | zero=>
  intro i hi b
  refine gV ?_
  refine ⟨fun h=>?_,fun h=>?_⟩
  .exact absurd (of_decide_eq_true h) (by omega)
  .refine gV ?_
   rw [<-b]
   rfl
 | succ n s=>
  intro i hi b
  have d:i<l.length:=by omega
  have b:(oG l i&&cW l n (i+1))=r:=b
  have back:cW l n (i+1)=r->inR .i64 ((i:Int)+1)/\To E Tryz.f39 (.pure (.ret (.bool r))) (.head (stk Tryz.f39 0) [(0,.slice 11 (pav l) .no),(3,.int .i64 ((i:Int)+1))] []):=fun h=>
   ⟨sC (by omega) (by omega),by have:=s (i+1) (by omega) h;push_cast at this;exact this⟩
  refine gV ?_
  refine ⟨fun h=>?_,fun h=>?_⟩
  .refine gV ?_
   refine ⟨fun h1=>?_,fun h1=>?_⟩
   .have g:0<i:=by have:=of_decide_eq_true h1;omega
    have c:i-1<l.length:=by omega
    have a:oG l i= !((true&& !decide (l[i-1].seq<l[i].seq))||(findP l[i].id l !=(i:Int))):=by
     unfold oG
     rw [Ab d,Ab c,decide_eq_true g]
    have m:(!decide (l[i-1].seq<l[i].seq))=decide (l[i].seq<=l[i-1].seq):=by
     by_cases o:l[i-1].seq<l[i].seq
     .rw [decide_eq_true o,decide_eq_false (by omega)];rfl
     .rw [decide_eq_false o,decide_eq_true (by omega)];rfl
    rw [m] at a
    refine gV ?_
    refine ⟨i,rfl,?_⟩
    refine gV ?_
    refine ⟨_,fG d,?_⟩
    refine gV ?_
    refine .inl ⟨sC (by omega) (by omega),?_⟩
    refine gV ?_
    refine ⟨i-1,by omega,?_⟩
    refine gV ?_
    refine ⟨_,fG c,?_⟩
    refine gV ?_
    refine ⟨fun e=>?_,fun e=>?_⟩
    .refine gV ?_
     refine ⟨fun _=>?_,fun h3=>(by cases h3)⟩
     refine gV ?_
     rw [a,e] at b
     rw [<-b]
     rfl
    .refine gV ?_
     refine ⟨i,rfl,?_⟩
     refine gV ?_
     refine ⟨_,fG d,?_⟩
     refine gV ?_
     refine .pure _ [] (findref_ok _ _) ?_
     refine gV ?_
     refine ⟨fun h3=>?_,fun h3=>?_⟩
     .refine gV ?_
      rw [a,e,h3] at b
      rw [<-b]
      rfl
     .refine gV ?_
      rw [a,e,h3] at b
      exact zqwe3
   .have q:i=0:=by have:=of_decide_eq_false h1;omega
    have a:oG l i= !((false&&false)||(findP l[i].id l !=(i:Int))):=by
     unfold oG
     have c:i-1<l.length:=by omega
     rw [Ab d,Ab c]
     subst q
     simp
    refine gV ?_
    refine ⟨fun e=>(by cases e),fun _=>?_⟩
    refine gV ?_
    refine ⟨i,rfl,?_⟩
    refine gV ?_
    refine ⟨_,fG d,?_⟩
    refine gV ?_
    refine .pure _ [] (findref_ok _ _) ?_
    refine gV ?_
    refine ⟨fun h3=>?_,fun h3=>?_⟩
    .refine gV ?_
     rw [a,h3] at b
     rw [<-b]
     rfl
    .refine gV ?_
     rw [a,h3] at b
     exact zqwe3
  .exact absurd (of_decide_eq_false h) (by omega)
theorem checkref_ok (l:List Pend) (hl:l.length<=1000000):aA Tryz.prog 39 [.slice 11 (pav l) .no] [] (.ret (.bool (checkP l))) []:=by
 refine cT (E:=E) (fn:=Tryz.f39) (g:=.pure _) fun _=>?_
 refine gV ?_
 refine To.cut [0,3] 0 rfl rfl rfl rfl ?_
 exact mH l hl _ l.length 0 (by omega) rfl
end Go.Proofs.YtlanfgblaebddaaGreat.Q2
namespace Go.Proofs.YtlanfgblaebddaaGreat
open Go Go.AW Go.Proofs
theorem vK {l:List Ev} {i:Nat} (h:i<l.length):(evv l)[i]? =some l[i].av:=by simp [evv,h]
set_option maxRecDepth 10000
def fpB (s:Sta) (p:Pn):Bool:=!((dA s.c.ns p.g==0)||(decide (p.at'<0)||decide (s.now<p.at')))&&s.run.all (two p.g.id p.seq)
def frB (l:List Rn):Nat->Nat->Bool
 | 0,_=>true
 | m+1,i=>(match l[i]? with
  | some x=>(l.take i).all (two x.g.id x.seq)
  | none=>true)&&frB l m (i+1)
def kX (s:Sta):Int:=
 if jD s.c s.now s.run=0 then 0 else if 32<s.pend.length then 0 else if yU s.pend=false then 0 else if s.hist.length≠s.c.ns.length then 0 else
 if s.pend.all (fpB s)&&frB s.run s.run.length 0 then 1 else 0
noncomputable abbrev fFa:Func:=Tryz.f17
theorem aBa (s:Sta) (hl:s.run.length<=1048576) (i:Nat) (hi:i<1048576) (p:Pn) (r:Int):∀ (m k:Nat),k+m=s.run.length->((s.run.drop k).all (two p.g.id p.seq)=false->r=0)->
  ((s.run.drop k).all (two p.g.id p.seq)=true->To E fFa (.pure (.ret (ii r))) (.head (stk fFa 0) [(1,.ref 0 0),(3,.int .i64 ((i:Int)+1))] [.cells 30 s.cs]))->
  To E fFa (.pure (.ret (ii r))) (.head (stk fFa 1) [(1,.ref 0 0),(3,.int .i64 i),(4,.ref 1 0),(5,.int .i64 k)] [.cells 30 s.cs,.cells 62 p.cs]):=by
 have l:(rav s.run).length=s.run.length:=by simp
 intro m
 induction m with
 | zero=>
  intro k o b a
  have a:=a (by rw [Ae (by omega)];rfl)
  refine gV ?_
  refine aF fun h=>?_
  repeat' first | (refine gN hE ?_;conv=>whnf) | exact rfl | (refine zt ?_;try intro h) | refine zu (fun h=>?_) fun h=>?_ | fail
  refine To.part [1,3] [0] rfl rfl rfl ?_
  exact a
 | succ m f=>
  intro k o b a
  have d:k<s.run.length:=by omega
  rw [Ad d,Da] at b a
  have get:=cJ d
  generalize s.run[k]=x at get b a
  have j:two p.g.id p.seq x= !((x.g.id==p.g.id)||(x.seq==p.seq)):=rfl
  have next:=f (k+1) (by omega)
  cases c:x.g.id==p.g.id with
  | true=>
   obtain rfl:=b (by rw [j,c];rfl)
   clear next a f
   refine gV ?_
   refine aT fun h=>?_
   repeat' first | (refine gN hE ?_;conv=>whnf) | refine ⟨k,rfl,?_⟩ | refine ⟨_,get,?_⟩ | refine Aa (fun _=>?_) (fun h=>absurd (c.symm.trans h) (by decide)) | exact rfl | (refine zt ?_;try intro h) | refine zu (fun h=>?_) fun h=>?_ | fail
  | false=>
   cases e:x.seq==p.seq with
   | true=>
    obtain rfl:=b (by rw [j,c,e];rfl)
    clear next a f
    refine gV ?_
    refine aT fun h=>?_
    repeat' first | (refine gN hE ?_;conv=>whnf) | refine ⟨k,rfl,?_⟩ | refine ⟨_,get,?_⟩ | refine Aa (fun h=>absurd (c.symm.trans h) (by decide)) (fun _=>?_) | refine Aa (fun _=>?_) (fun h=>absurd (e.symm.trans h) (by decide)) | exact rfl | (refine zt ?_;try intro h) | refine zu (fun h=>?_) fun h=>?_ | fail
   | false=>
    have n:two p.g.id p.seq x=true:=by rw [j,c,e];rfl
    rw [n,Bw] at b a
    have next:=next b a
    clear f b a
    refine gV ?_
    refine aT fun h=>?_
    repeat' first | (refine gN hE ?_;conv=>whnf) | refine ⟨k,rfl,?_⟩ | refine ⟨_,get,?_⟩ | refine Aa (fun h=>absurd (c.symm.trans h) (by decide)) (fun _=>?_) | refine Aa (fun h=>absurd (e.symm.trans h) (by decide)) (fun _=>?_) | exact rfl | (refine zt ?_;try intro h) | refine zu (fun h=>?_) fun h=>?_ | fail
    refine To.part [1,3,4,5] [0,1] rfl rfl rfl ?_
    exact next
theorem PK (s:Sta) (hl:s.run.length<=1048576) (i:Nat) (y:Rn) (f:(rav s.run)[i]? =some y.av) (hi:i<s.run.length) (r:Int):∀ (m k:Nat),k+m=i->(((s.run.take i).drop k).all (two y.g.id y.seq)=false->r=0)->
  (((s.run.take i).drop k).all (two y.g.id y.seq)=true->To E fFa (.pure (.ret (ii r))) (.head (stk fFa 2) [(1,.ref 0 0),(6,.int .i64 ((i:Int)+1))] [.cells 30 s.cs]))->
  To E fFa (.pure (.ret (ii r))) (.head (stk fFa 3) [(1,.ref 0 0),(6,.int .i64 i),(7,.int .i64 k)] [.cells 30 s.cs]):=by
 have n:(rav s.run).length=s.run.length:=by simp
 intro m
 induction m with
 | zero=>
  intro k p b a
  have a:=a (by rw [Ae (by rw [Fc];omega)];rfl)
  refine gV ?_
  refine aF fun h=>?_
  repeat' first | (refine gN hE ?_;conv=>whnf) | exact rfl | (refine zt ?_;try intro h) | refine zu (fun h=>?_) fun h=>?_ | fail
  refine To.part [1,6] [0] rfl rfl rfl ?_
  exact a
 | succ m e=>
  intro k p b a
  have j:k<(s.run.take i).length:=by rw [Fc];omega
  rw [Ad j,Da] at b a
  rw [List.getElem_take] at b a
  have get:=cJ (show k<s.run.length by omega)
  generalize s.run[k]=x at get b a
  have l:two y.g.id y.seq x= !((x.g.id==y.g.id)||(x.seq==y.seq)):=rfl
  have next:=e (k+1) (by omega)
  cases c:x.g.id==y.g.id with
  | true=>
   obtain rfl:=b (by rw [l,c];rfl)
   clear next a e
   refine gV ?_
   refine aT fun h=>?_
   repeat' first | (refine gN hE ?_;conv=>whnf) | refine ⟨k,rfl,?_⟩ | refine ⟨_,get,?_⟩ | refine ⟨i,rfl,?_⟩ | refine ⟨_,f,?_⟩ | refine Aa (fun _=>?_) (fun h=>absurd (c.symm.trans h) (by decide)) | exact rfl | (refine zt ?_;try intro h) | refine zu (fun h=>?_) fun h=>?_ | fail
  | false=>
   cases d:x.seq==y.seq with
   | true=>
    obtain rfl:=b (by rw [l,c,d];rfl)
    clear next a e
    refine gV ?_
    refine aT fun h=>?_
    repeat' first | (refine gN hE ?_;conv=>whnf) | refine ⟨k,rfl,?_⟩ | refine ⟨_,get,?_⟩ | refine ⟨i,rfl,?_⟩ | refine ⟨_,f,?_⟩ | refine Aa (fun h=>absurd (c.symm.trans h) (by decide)) (fun _=>?_) | refine Aa (fun _=>?_) (fun h=>absurd (d.symm.trans h) (by decide)) | exact rfl | (refine zt ?_;try intro h) | refine zu (fun h=>?_) fun h=>?_ | fail
   | false=>
    have o:two y.g.id y.seq x=true:=by rw [l,c,d];rfl
    rw [o,Bw] at b a
    have next:=next b a
    clear e b a
    refine gV ?_
    refine aT fun h=>?_
    repeat' first | (refine gN hE ?_;conv=>whnf) | refine ⟨k,rfl,?_⟩ | refine ⟨_,get,?_⟩ | refine ⟨i,rfl,?_⟩ | refine ⟨_,f,?_⟩ | refine Aa (fun h=>absurd (c.symm.trans h) (by decide)) (fun _=>?_) | refine Aa (fun h=>absurd (d.symm.trans h) (by decide)) (fun _=>?_) | exact rfl | (refine zt ?_;try intro h) | refine zu (fun h=>?_) fun h=>?_ | fail
    refine To.part [1,6,7] [0] rfl rfl rfl ?_
    exact next
theorem PL (s:Sta) (hl:s.run.length<=1048576) (r:Int):∀ (m i:Nat),i+m=s.run.length->(if frB s.run m i then (1:Int) else 0)=r->
  To E fFa (.pure (.ret (ii r))) (.head (stk fFa 2) [(1,.ref 0 0),(6,.int .i64 i)] [.cells 30 s.cs]):=by
 have c:(rav s.run).length=s.run.length:=by simp
 intro m
 induction m with
 | zero=>
  intro i hi a
  have a:1=r:=a
  subst a
  refine gV ?_
  refine aF fun h=>?_
  repeat' first | (refine gN hE ?_;conv=>whnf) | exact rfl | (refine zt ?_;try intro h) | refine zu (fun h=>?_) fun h=>?_ | fail
 | succ m d=>
  intro i hi a
  have b:i<s.run.length:=by omega
  unfold frB at a
  rw [Ab b] at a
  have a:(if ((s.run.take i).all (two s.run[i].g.id s.run[i].seq)&&frB s.run m (i+1))=true then (1:Int) else 0)=r:=a
  have next:=PK s hl i s.run[i] (cJ b) b r i 0 (by omega) (fun h=>by rw [Bx] at h;rw [h] at a;exact a.symm) (fun h=>d (i+1) (by omega) (by rw [Bx] at h;rw [h,Bw] at a;exact a))
  refine gV ?_
  refine aT fun h=>?_
  repeat' first | (refine gN hE ?_;conv=>whnf) | exact rfl | (refine zt ?_;try intro h) | refine zu (fun h=>?_) fun h=>?_ | fail
  refine To.part [1,6,7] [0] rfl rfl rfl ?_
  exact next
theorem PN (s:Sta) (o:s.c.sm) (hp:s.pend.length<=1000000) (hl:s.run.length<=1048576) (r:Int):∀ (m i:Nat),i+m=s.pend.length->(if (s.pend.drop i).all (fpB s)&&frB s.run s.run.length 0 then (1:Int) else 0)=r->
  To E fFa (.pure (.ret (ii r))) (.head (stk fFa 0) [(1,.ref 0 0),(3,.int .i64 i)] [.cells 30 s.cs]):=by
 have n:(pnv s.pend).length=s.pend.length:=by simp
 intro m
 induction m with
 | zero=>
  intro i hi a
  rw [Ae (by omega)] at a
  have next:=PL s hl r s.run.length 0 (by omega) a
  refine gV ?_
  refine aF fun h=>?_
  repeat' first | (refine gN hE ?_;conv=>whnf) | exact rfl | (refine zt ?_;try intro h) | refine zu (fun h=>?_) fun h=>?_ | fail
  refine To.part [1,6] [0] rfl rfl rfl ?_
  exact next
 | succ m e=>
  intro i hi a
  have f:i<s.pend.length:=by omega
  rw [Ad f,Da] at a
  have get:=lR f
  generalize s.pend[i]=p at get a
  have b:=vG s.c o p.g
  have j:fpB s p=(!((dA s.c.ns p.g==0)||(decide (p.at'<0)||decide (s.now<p.at')))&&s.run.all (two p.g.id p.seq)):=rfl
  have next:=aBa s hl i (by omega) p r s.run.length 0 (by omega)
  have e:=e (i+1) (by omega)
  cases d:(dA s.c.ns p.g==0) with
  | true=>
   rw [j,d] at a
   have a:0=r:=a
   subst a
   generalize dA s.c.ns p.g=q at *
   clear next e
   refine gV ?_
   refine aT fun h=>?_
   repeat' first | (refine gN hE ?_;conv=>whnf) | refine ⟨i,rfl,?_⟩ | refine ⟨_,get,?_⟩ | refine .pure _ [] b ?_ | refine Aa (fun _=>?_) (fun h=>absurd (d.symm.trans h) (by decide)) | exact rfl | (refine zt ?_;try intro h) | refine zu (fun h=>?_) fun h=>?_ | fail
  | false=>
   by_cases k:p.at'<0
   .rw [j,d,decide_eq_true k] at a
    have a:0=r:=a
    subst a
    generalize dA s.c.ns p.g=q at *
    clear next e
    refine gV ?_
    refine aT fun h=>?_
    repeat' first | (refine gN hE ?_;conv=>whnf) | refine ⟨i,rfl,?_⟩ | refine ⟨_,get,?_⟩ | refine .pure _ [] b ?_ | refine Aa (fun h=>absurd (d.symm.trans h) (by decide)) (fun _=>?_) | exact rfl | (refine zt ?_;try intro h) | refine zu (fun h=>?_) fun h=>?_ | fail
   .by_cases l:s.now<p.at'
    .rw [j,d,decide_eq_true l,decide_eq_false k] at a
     have a:0=r:=a
     subst a
     generalize dA s.c.ns p.g=q at *
     clear next e
     refine gV ?_
     refine aT fun h=>?_
     repeat' first | (refine gN hE ?_;conv=>whnf) | refine ⟨i,rfl,?_⟩ | refine ⟨_,get,?_⟩ | refine .pure _ [] b ?_ | refine Aa (fun h=>absurd (d.symm.trans h) (by decide)) (fun _=>?_) | exact rfl | (refine zt ?_;try intro h) | refine zu (fun h=>?_) fun h=>?_ | fail
    .rw [j,d,decide_eq_false l,decide_eq_false k] at a
     have a:(if (s.run.all (two p.g.id p.seq)&&(s.pend.drop (i+1)).all (fpB s))&&frB s.run s.run.length 0 then (1:Int) else 0)=r:=a
     have next:=next (fun h=>by rw [Bx] at h;rw [h] at a;exact a.symm) (fun h=>e (by rw [Bx] at h;rw [h,Bw] at a;exact a))
     generalize dA s.c.ns p.g=q at *
     clear e a
     refine gV ?_
     refine aT fun h=>?_
     repeat' first | (refine gN hE ?_;conv=>whnf) | refine ⟨i,rfl,?_⟩ | refine ⟨_,get,?_⟩ | refine .pure _ [] b ?_ | refine Aa (fun h=>absurd (d.symm.trans h) (by decide)) (fun _=>?_) | exact rfl | (refine zt ?_;try intro h) | refine zu (fun h=>?_) fun h=>?_ | fail
     refine To.part [1,3,4,5] [0,1] rfl rfl rfl ?_
     exact next
theorem tH (s:Sta) (o:s.c.sm) (hs:Sm s.run) (r:Int) (a:kX s=r):aA Tryz.prog 17 [s.av] [] (.ret (ii r)) []:=by
 have d:=PO s.c o s.now s.run hs
 have l1:(pnv s.pend).length=s.pend.length:=by simp
 have l2:(fv s.hist).length=s.hist.length:=by simp
 have n:(nav s.c.ns).length=s.c.ns.length:=by simp
 unfold kX at a
 by_cases j:jD s.c s.now s.run=0
 .rw [if_pos j] at a
  subst a
  rw [j] at d
  refine cT (E:=E) (fn:=Tryz.f17) (g:=.pure _) fun _=>?_
  repeat' first | (refine gN hE ?_;conv=>whnf) | refine .pure _ [] d ?_ | exact rfl | (refine zt ?_;try intro h) | refine zu (fun h=>?_) fun h=>?_ | fail
 rw [if_neg j] at a
 have k:(jD s.c s.now s.run==0)=false:=beq_eq_false_iff_ne.2 j
 generalize jD s.c s.now s.run=w at *
 by_cases m:32<s.pend.length
 .rw [if_pos m] at a
  subst a
  refine cT (E:=E) (fn:=Tryz.f17) (g:=.pure _) fun _=>?_
  repeat' first | (refine gN hE ?_;conv=>whnf) | refine .pure _ [] d ?_ | refine Aa (fun h=>absurd (k.symm.trans h) (by decide)) (fun _=>?_) | exact rfl | (refine zt ?_;try intro h) | refine zu (fun h=>?_) fun h=>?_ | fail
 rw [if_neg m] at a
 have b:=Q2.checkref_ok (s.pend.map Pn.q) (by rw [Ck];omega)
 rw [uN,show Q2.checkP (s.pend.map Pn.q)=yU s.pend from rfl] at b
 cases i:yU s.pend with
 | false=>
  rw [if_pos i] at a
  subst a
  rw [i] at b
  refine cT (E:=E) (fn:=Tryz.f17) (g:=.pure _) fun _=>?_
  repeat' first | (refine gN hE ?_;conv=>whnf) | refine .pure _ [] d ?_ | refine .pure _ [] b ?_ | refine Aa (fun h=>absurd (k.symm.trans h) (by decide)) (fun _=>?_) | exact rfl | (refine zt ?_;try intro h) | refine zu (fun h=>?_) fun h=>?_ | fail
 | true=>
  rw [if_neg (by rw [i];decide)] at a
  rw [i] at b
  by_cases e:s.hist.length≠s.c.ns.length
  .rw [if_pos e] at a
   subst a
   have l:(((fv s.hist).length:Int) !=((nav s.c.ns).length:Int))=true:=by rw [l2,n];simp;omega
   refine cT (E:=E) (fn:=Tryz.f17) (g:=.pure _) fun _=>?_
   repeat' first | (refine gN hE ?_;conv=>whnf) | refine .pure _ [] d ?_ | refine .pure _ [] b ?_ | refine Aa (fun h=>absurd (k.symm.trans h) (by decide)) (fun _=>?_) | refine Aa (fun _=>?_) (fun h=>absurd (l.symm.trans h) (by decide)) | exact rfl | (refine zt ?_;try intro h) | refine zu (fun h=>?_) fun h=>?_ | fail
  .rw [if_neg e] at a
   have e:s.hist.length=s.c.ns.length:=Dm.1 e
   have l:(((fv s.hist).length:Int) !=((nav s.c.ns).length:Int))=false:=by rw [l2,n,e];simp
   have next:=PN s o (by omega) hs.1 r s.pend.length 0 (by omega) (by rw [Bx];exact a)
   refine cT (E:=E) (fn:=Tryz.f17) (g:=.pure _) fun _=>?_
   repeat' first | (refine gN hE ?_;conv=>whnf) | refine .pure _ [] d ?_ | refine .pure _ [] b ?_ | refine Aa (fun h=>absurd (k.symm.trans h) (by decide)) (fun _=>?_) | refine Aa (fun h=>absurd (l.symm.trans h) (by decide)) (fun _=>?_) | exact rfl | (refine zt ?_;try intro h) | refine zu (fun h=>?_) fun h=>?_ | fail
   exact zqwe1
theorem qO {l:List Rn}:∀ {m i:Nat},frB l m i=true->∀ j (h:j<l.length),i<=j->j<i+m->(l.take j).all (two l[j].g.id l[j].seq)=true
 | 0,i,_,j,_,h1,h2=>by omega
 | m+1,i,h0,j,h,h1,h2=>by
  unfold frB at h0
  rw [Af] at h0
  by_cases a:j=i
  .subst a
   have:=h0.1
   rw [Ab h] at this
   exact this
  .exact qO h0.2 j h (by omega) (by omega)
theorem AT {a b:Int} {x:Rn} (h:two a b x=true):x.g.id≠a/\x.seq≠b:=by
 unfold two at h
 simpa using h
theorem IJ {l:List Rn} (h:frB l l.length 0=true):l.Pairwise fun a b=>a.g.id≠b.g.id/\a.seq≠b.seq:=by
 rw [Dh]
 intro i j hi c d
 have h1:=qO h j c (Cc _) (by omega)
 rw [Bq] at h1
 exact AT (h1 l[i] (Gk.2 ⟨i,by omega,rfl⟩))
theorem PR (c:Con) (now:Int) (l:List Rn):jD c now l=0\/jD c now l=1:=by
 unfold jD
 repeat' split
 all_goals first | exact .inl rfl | exact .inr rfl
theorem PT {s:Sta} (h:kX s≠0):FairP s:=by
 unfold kX at h
 split at h
 .exact absurd rfl h
 split at h
 .exact absurd rfl h
 split at h
 .exact absurd rfl h
 split at h
 .exact absurd rfl h
 split at h
 .rename_i h1 d h3 b a
  rw [Af,Bq] at a
  refine ⟨(PR _ _ _).resolve_left h1,by omega,by simpa using h3,Dm.1 b,fun p hp=>?_,fun p hp x c=>?_,IJ a.2⟩
  .have:=a.1 p hp
   unfold fpB at this
   simp only [Af,Co,Hl,beq_eq_false_iff_ne,decide_eq_false_iff_not] at this
   exact ⟨this.1.1,by omega,by omega⟩
  .have:=a.1 p hp
   unfold fpB at this
   rw [Af,Bq] at this
   exact AT (this.2 x c)
 .exact absurd rfl h
theorem kV {ns:List Nod} {g:Gan} (h:dA ns g≠0):vI ns g=true:=by
 unfold dA at h
 split at h
 .assumption
 .exact absurd rfl h
theorem fX {ns:List Nod} {g:Gan} (h:vI ns g=true):NeedOK g:=by
 unfold vI at h
 simp only [Af,decide_eq_true_eq] at h
 exact ⟨h.2.1,by omega,by omega,by omega,by omega⟩
theorem wY {c:Con} {now:Int} {l:List Rn} (h:jD c now l=1):bC c=0/\l.length<=32/\(0<=now/\now<=1099511627776)/\∀ x∈l,dA c.ns x.g≠0/\(0<=x.st/\x.st<=now)/\(x.hs.length:Int)=x.g.pods/\∀ u∈x.hs,0<=u/\u<(c.hs.length:Int):=by
 unfold jD at h
 split at h
 .omega
 .rename_i b
  unfold DR at b
  split at h
  .rename_i hl
   rw [Bq] at hl
   refine ⟨by omega,by omega,by omega,fun x e=>?_⟩
   have h1:=hl x e
   unfold N3 at h1
   split at h1
   .cases h1
   .rename_i a
    unfold DQ at a
    unfold hJ at h1
    rw [Bq] at h1
    exact ⟨by omega,by omega,by omega,fun u d=>of_decide_eq_true (h1 u d)⟩
  .omega
def hC (s:Sta):Int:=
 if dP s.c=true then (if (s.pend.length=0/\s.run.length=0/\s.hist.length=0)/\(0<=s.now/\s.now<=1099511627776)/\1<=s.nxt/\s.nxt<=1099511627776 then 1 else 0) else
 if s.nxt<1\/1099511627776<s.nxt\/32<s.pend.length+s.run.length then 0 else
 if s.pend.all (fun p=>decide (0<=p.seq/\p.seq<s.nxt))=true then kX s else 0
theorem wZ {s:Sta} (h:hC s≠0):FairS s:=by
 unfold hC at h
 split at h
 .rename_i n
  split at h
  .rename_i h1
   have C:=iB.1 n
   obtain ⟨c,now,nxt,pend,run,hist⟩:=s
   dsimp only at *
   obtain ⟨⟨a,b,d⟩,e,f⟩:=h1
   obtain rfl:=Cf.1 a
   obtain rfl:=Cf.1 b
   obtain rfl:=Cf.1 d
   subst C
   exact ⟨kU (.inl n),.inl n,e,f,Cc _,rfl,Cz,Gh,Gh,fun x i=>(by cases i),fun x i=>(by cases i),fun x i=>(by cases i)⟩
  .exact absurd rfl h
 .split at h
  .exact absurd rfl h
  .split at h
   .rename_i h1 D h3
    have hp:=PT h
    obtain ⟨u,F,z,t⟩:=wY hp.few
    have l:Q2.Good (s.pend.map Pn.q):=Q2.check_good.1 hp.row
    have A:(s.pend.map fun x=>x.g.id).Nodup:=by
     have:=l.id
     rw [Bu] at this
     unfold Fp
     rw [Bu]
     exact this
    have B:(s.pend.map fun x=>x.seq).Nodup:=by
     have:=l.seq
     rw [Bu] at this
     unfold Fp
     rw [Bu]
     exact this.imp fun h e=>by have h:_<_:=h;exact absurd e (Int.ne_of_lt h)
    have y:((s.run.map Rn.pn).map fun x=>x.g.id).Nodup:=by
     unfold Fp
     rw [Bu,Bu]
     exact hp.once.imp fun h=>h.1
    have w:((s.run.map Rn.pn).map fun x=>x.seq).Nodup:=by
     unfold Fp
     rw [Bu,Bu]
     exact hp.once.imp fun h=>h.2
    refine ⟨kU (.inr u),.inr u,z,by omega,by omega,hp.hist,ET.1 l.seq,?_,?_,fun x i=>?_,fun p i=>(hp.gang p i).2,fun x i=>?_⟩
    .rw [Bl,Ax]
     refine ⟨A,y,fun a m b j e=>?_⟩
     obtain ⟨p,o,rfl⟩:=Bb.1 m
     rw [Cu] at j
     obtain ⟨x,i,k⟩:=Bb.1 j
     exact (hp.two p o x i).1 (k.trans e.symm)
    .rw [Bl,Ax]
     refine ⟨B,w,fun a m b j e=>?_⟩
     obtain ⟨p,o,rfl⟩:=Bb.1 m
     rw [Cu] at j
     obtain ⟨x,i,k⟩:=Bb.1 j
     exact (hp.two p o x i).2 (k.trans e.symm)
    .rcases Ao.1 i with i | i
     .exact fX (kV (hp.gang x i).1)
     .obtain ⟨r,v,rfl⟩:=Bb.1 i
      exact fX (kV (t r v).1)
    .have h1:=t x i
     have D:=(fX (kV h1.1)).pods
     have h3:=h1.2.2.1
     omega
   .exact absurd rfl h
noncomputable abbrev fF4:Func:=Tryz.f6
theorem IR (s:Sta) (f:s.c.sm) (hs:Sm s.run) (hp:s.pend.length<=32) (r:Int):∀ (m i:Nat),i+m=s.pend.length->(if (s.pend.drop i).all (fun p=>decide (0<=p.seq/\p.seq<s.nxt))=true then kX s else 0)=r->
  To E fF4 (.pure (.ret (ii r))) (.head (stk fF4 0) [(1,.ref 0 0),(3,ii i)] [.cells 30 s.cs]):=by
 have e:(pnv s.pend).length=s.pend.length:=by simp
 intro m
 induction m with
 | zero=>
  intro i hi a
  rw [Ae (by omega)] at a
  have a:kX s=r:=a
  have h1:=tH s f hs r a
  refine gV ?_
  refine aF fun h=>?_
  repeat' first | (refine gN hE ?_;conv=>whnf) | refine .pure _ [] h1 ?_ | exact rfl | (refine zt ?_;try intro h) | refine zu (fun h=>?_) fun h=>?_ | fail
 | succ m d=>
  intro i hi a
  have b:i<s.pend.length:=by omega
  rw [Ad b,Da] at a
  have get:=lR b
  generalize s.pend[i]=p at get a
  have d:=d (i+1) (by omega)
  by_cases q:0<=p.seq/\p.seq<s.nxt
  .rw [decide_eq_true q,Bw] at a
   have next:=d a
   clear d a
   refine gV ?_
   refine aT fun h=>?_
   repeat' first | (refine gN hE ?_;conv=>whnf) | refine ⟨i,rfl,?_⟩ | refine ⟨_,get,?_⟩ | exact rfl | (refine zt ?_;try intro h) | refine zu (fun h=>?_) fun h=>?_ | fail
   exact zqwe1
  .rw [decide_eq_false q,Dn] at a
   have a:0=r:=a
   subst a
   clear d
   by_cases j:p.seq<0
   .refine gV ?_
    refine aT fun h=>?_
    repeat' first | (refine gN hE ?_;conv=>whnf) | refine ⟨i,rfl,?_⟩ | refine ⟨_,get,?_⟩ | exact rfl | (refine zt ?_;try intro h) | refine zu (fun h=>?_) fun h=>?_ | fail
   .have g:s.nxt<=p.seq:=by omega
    refine gV ?_
    refine aT fun h=>?_
    repeat' first | (refine gN hE ?_;conv=>whnf) | refine ⟨i,rfl,?_⟩ | refine ⟨_,get,?_⟩ | exact rfl | (refine zt ?_;try intro h) | refine zu (fun h=>?_) fun h=>?_ | fail
set_option maxHeartbeats 2000000 in
theorem oS (s:Sta) (F:s.c.sm) (hs:Sm s.run) (C:s.pend.length<=1048576) (r:Int) (i:hC s=r):aA Tryz.prog 6 [s.av] [] (.ret (ii r)) []:=by
 have l1:(pnv s.pend).length=s.pend.length:=by simp
 have l2:(fv s.hist).length=s.hist.length:=by simp
 have I:(nav s.c.ns).length=s.c.ns.length:=by simp
 have L:(hav s.c.hs).length=s.c.hs.length:=by simp
 have K:(rav s.run).length=s.run.length:=by simp
 have hsl:=hs.1
 unfold hC at i
 by_cases v:dP s.c=true
 .rw [if_pos v] at i
  have n:=iB.1 v
  have m:(((nav s.c.ns).length:Int)==0)=true:=by rw [n];rfl
  have l:(((hav s.c.hs).length:Int)==0)=true:=by rw [n];rfl
  have k:(s.c.half==0)=true:=by rw [n];rfl
  have j:(s.c.age==0)=true:=by rw [n];rfl
  obtain ⟨t,d⟩:∃ b,(((pnv s.pend).length:Int)==0)=b:=⟨_,rfl⟩
  obtain ⟨q,a⟩:∃ b,(((rav s.run).length:Int)==0)=b:=⟨_,rfl⟩
  obtain ⟨p,e3⟩:∃ b,(((fv s.hist).length:Int)==0)=b:=⟨_,rfl⟩
  have x:t=true↔s.pend.length=0:=by rw [<-d,beq_iff_eq];omega
  have z:q=true↔s.run.length=0:=by rw [<-a,beq_iff_eq];omega
  have y:p=true↔s.hist.length=0:=by rw [<-e3,beq_iff_eq];omega
  by_cases o:(s.pend.length=0/\s.run.length=0/\s.hist.length=0)/\(0<=s.now/\s.now<=1099511627776)/\1<=s.nxt/\s.nxt<=1099511627776
  .rw [if_pos o] at i
   subst i
   obtain rfl:=x.2 o.1.1
   obtain rfl:=z.2 o.1.2.1
   obtain rfl:=y.2 o.1.2.2
   refine cT (E:=E) (fn:=Tryz.f6) (g:=.pure _) fun _=>?_
   repeat' first | (refine gN hE ?_;conv=>whnf) | refine Aa (fun h=>absurd (m.symm.trans h) (by decide)) (fun _=>?_) | refine Aa (fun _=>?_) (fun h=>absurd (m.symm.trans h) (by decide)) | refine Aa (fun h=>absurd (l.symm.trans h) (by decide)) (fun _=>?_) | refine Aa (fun _=>?_) (fun h=>absurd (l.symm.trans h) (by decide)) | refine Aa (fun h=>absurd (k.symm.trans h) (by decide)) (fun _=>?_) | refine Aa (fun _=>?_) (fun h=>absurd (k.symm.trans h) (by decide)) | refine Aa (fun h=>absurd (j.symm.trans h) (by decide)) (fun _=>?_) | refine Aa (fun _=>?_) (fun h=>absurd (j.symm.trans h) (by decide)) | refine Aa (fun h=>absurd (d.symm.trans h) (by decide)) (fun _=>?_) | refine Aa (fun _=>?_) (fun h=>absurd (d.symm.trans h) (by decide)) | refine Aa (fun h=>absurd (a.symm.trans h) (by decide)) (fun _=>?_) | refine Aa (fun _=>?_) (fun h=>absurd (a.symm.trans h) (by decide)) | refine Aa (fun h=>absurd (e3.symm.trans h) (by decide)) (fun _=>?_) | refine Aa (fun _=>?_) (fun h=>absurd (e3.symm.trans h) (by decide)) | exact rfl | (refine zt ?_;try intro h) | refine zu (fun h=>?_) fun h=>?_ | fail
  .rw [if_neg o] at i
   subst i
   cases t with
   | false=>
     refine cT (E:=E) (fn:=Tryz.f6) (g:=.pure _) fun _=>?_
     repeat' first | (refine gN hE ?_;conv=>whnf) | refine Aa (fun h=>absurd (m.symm.trans h) (by decide)) (fun _=>?_) | refine Aa (fun _=>?_) (fun h=>absurd (m.symm.trans h) (by decide)) | refine Aa (fun h=>absurd (l.symm.trans h) (by decide)) (fun _=>?_) | refine Aa (fun _=>?_) (fun h=>absurd (l.symm.trans h) (by decide)) | refine Aa (fun h=>absurd (k.symm.trans h) (by decide)) (fun _=>?_) | refine Aa (fun _=>?_) (fun h=>absurd (k.symm.trans h) (by decide)) | refine Aa (fun h=>absurd (j.symm.trans h) (by decide)) (fun _=>?_) | refine Aa (fun _=>?_) (fun h=>absurd (j.symm.trans h) (by decide)) | refine Aa (fun h=>absurd (d.symm.trans h) (by decide)) (fun _=>?_) | refine Aa (fun _=>?_) (fun h=>absurd (d.symm.trans h) (by decide)) | refine Aa (fun h=>absurd (a.symm.trans h) (by decide)) (fun _=>?_) | refine Aa (fun _=>?_) (fun h=>absurd (a.symm.trans h) (by decide)) | refine Aa (fun h=>absurd (e3.symm.trans h) (by decide)) (fun _=>?_) | refine Aa (fun _=>?_) (fun h=>absurd (e3.symm.trans h) (by decide)) | exact rfl | (refine zt ?_;try intro h) | refine zu (fun h=>?_) fun h=>?_ | fail
   | true=>
    cases q with
    | false=>
     refine cT (E:=E) (fn:=Tryz.f6) (g:=.pure _) fun _=>?_
     repeat' first | (refine gN hE ?_;conv=>whnf) | refine Aa (fun h=>absurd (m.symm.trans h) (by decide)) (fun _=>?_) | refine Aa (fun _=>?_) (fun h=>absurd (m.symm.trans h) (by decide)) | refine Aa (fun h=>absurd (l.symm.trans h) (by decide)) (fun _=>?_) | refine Aa (fun _=>?_) (fun h=>absurd (l.symm.trans h) (by decide)) | refine Aa (fun h=>absurd (k.symm.trans h) (by decide)) (fun _=>?_) | refine Aa (fun _=>?_) (fun h=>absurd (k.symm.trans h) (by decide)) | refine Aa (fun h=>absurd (j.symm.trans h) (by decide)) (fun _=>?_) | refine Aa (fun _=>?_) (fun h=>absurd (j.symm.trans h) (by decide)) | refine Aa (fun h=>absurd (d.symm.trans h) (by decide)) (fun _=>?_) | refine Aa (fun _=>?_) (fun h=>absurd (d.symm.trans h) (by decide)) | refine Aa (fun h=>absurd (a.symm.trans h) (by decide)) (fun _=>?_) | refine Aa (fun _=>?_) (fun h=>absurd (a.symm.trans h) (by decide)) | refine Aa (fun h=>absurd (e3.symm.trans h) (by decide)) (fun _=>?_) | refine Aa (fun _=>?_) (fun h=>absurd (e3.symm.trans h) (by decide)) | exact rfl | (refine zt ?_;try intro h) | refine zu (fun h=>?_) fun h=>?_ | fail
    | true=>
     cases p with
     | false=>
     refine cT (E:=E) (fn:=Tryz.f6) (g:=.pure _) fun _=>?_
     repeat' first | (refine gN hE ?_;conv=>whnf) | refine Aa (fun h=>absurd (m.symm.trans h) (by decide)) (fun _=>?_) | refine Aa (fun _=>?_) (fun h=>absurd (m.symm.trans h) (by decide)) | refine Aa (fun h=>absurd (l.symm.trans h) (by decide)) (fun _=>?_) | refine Aa (fun _=>?_) (fun h=>absurd (l.symm.trans h) (by decide)) | refine Aa (fun h=>absurd (k.symm.trans h) (by decide)) (fun _=>?_) | refine Aa (fun _=>?_) (fun h=>absurd (k.symm.trans h) (by decide)) | refine Aa (fun h=>absurd (j.symm.trans h) (by decide)) (fun _=>?_) | refine Aa (fun _=>?_) (fun h=>absurd (j.symm.trans h) (by decide)) | refine Aa (fun h=>absurd (d.symm.trans h) (by decide)) (fun _=>?_) | refine Aa (fun _=>?_) (fun h=>absurd (d.symm.trans h) (by decide)) | refine Aa (fun h=>absurd (a.symm.trans h) (by decide)) (fun _=>?_) | refine Aa (fun _=>?_) (fun h=>absurd (a.symm.trans h) (by decide)) | refine Aa (fun h=>absurd (e3.symm.trans h) (by decide)) (fun _=>?_) | refine Aa (fun _=>?_) (fun h=>absurd (e3.symm.trans h) (by decide)) | exact rfl | (refine zt ?_;try intro h) | refine zu (fun h=>?_) fun h=>?_ | fail
     | true=>
      have n1:=x.1 rfl
      have n2:=z.1 rfl
      have J:=y.1 rfl
      refine cT (E:=E) (fn:=Tryz.f6) (g:=.pure _) fun _=>?_
      repeat' first | (refine gN hE ?_;conv=>whnf) | refine Aa (fun h=>absurd (m.symm.trans h) (by decide)) (fun _=>?_) | refine Aa (fun _=>?_) (fun h=>absurd (m.symm.trans h) (by decide)) | refine Aa (fun h=>absurd (l.symm.trans h) (by decide)) (fun _=>?_) | refine Aa (fun _=>?_) (fun h=>absurd (l.symm.trans h) (by decide)) | refine Aa (fun h=>absurd (k.symm.trans h) (by decide)) (fun _=>?_) | refine Aa (fun _=>?_) (fun h=>absurd (k.symm.trans h) (by decide)) | refine Aa (fun h=>absurd (j.symm.trans h) (by decide)) (fun _=>?_) | refine Aa (fun _=>?_) (fun h=>absurd (j.symm.trans h) (by decide)) | refine Aa (fun h=>absurd (d.symm.trans h) (by decide)) (fun _=>?_) | refine Aa (fun _=>?_) (fun h=>absurd (d.symm.trans h) (by decide)) | refine Aa (fun h=>absurd (a.symm.trans h) (by decide)) (fun _=>?_) | refine Aa (fun _=>?_) (fun h=>absurd (a.symm.trans h) (by decide)) | refine Aa (fun h=>absurd (e3.symm.trans h) (by decide)) (fun _=>?_) | refine Aa (fun _=>?_) (fun h=>absurd (e3.symm.trans h) (by decide)) | exact rfl | (refine zt ?_;try intro h) | refine zu (fun h=>?_) fun h=>?_ | fail
      all_goals (exfalso;simp only [decide_eq_true_eq,decide_eq_false_iff_not] at *;omega)
 .rw [if_neg v] at i
  obtain ⟨t,d⟩:∃ b,(((nav s.c.ns).length:Int)==0)=b:=⟨_,rfl⟩
  obtain ⟨q,a⟩:∃ b,(((hav s.c.hs).length:Int)==0)=b:=⟨_,rfl⟩
  obtain ⟨p,e3⟩:∃ b,(s.c.half==0)=b:=⟨_,rfl⟩
  obtain ⟨w,e⟩:∃ b,(s.c.age==0)=b:=⟨_,rfl⟩
  have u:¬ (t=true/\q=true/\p=true/\w=true):=fun ⟨H,B,G,D⟩=>v (by
   rw [H,beq_iff_eq] at d
   rw [B,beq_iff_eq] at a
   rw [G,beq_iff_eq] at e3
   rw [D,beq_iff_eq] at e
   unfold dP
   rw [decide_eq_true (Cf.1 (show s.c.ns.length=0 by omega)),decide_eq_true (Cf.1 (show s.c.hs.length=0 by omega)),decide_eq_true e3,decide_eq_true e]
   rfl)
  by_cases o:s.nxt<1\/1099511627776<s.nxt\/32<s.pend.length+s.run.length
  .rw [if_pos o] at i
   subst i
   cases t with
   | false=>
    refine cT (E:=E) (fn:=Tryz.f6) (g:=.pure _) fun _=>?_
    repeat' first | (refine gN hE ?_;conv=>whnf) | refine Aa (fun h=>absurd (d.symm.trans h) (by decide)) (fun _=>?_) | refine Aa (fun _=>?_) (fun h=>absurd (d.symm.trans h) (by decide)) | refine Aa (fun h=>absurd (a.symm.trans h) (by decide)) (fun _=>?_) | refine Aa (fun _=>?_) (fun h=>absurd (a.symm.trans h) (by decide)) | refine Aa (fun h=>absurd (e3.symm.trans h) (by decide)) (fun _=>?_) | refine Aa (fun _=>?_) (fun h=>absurd (e3.symm.trans h) (by decide)) | refine Aa (fun h=>absurd (e.symm.trans h) (by decide)) (fun _=>?_) | refine Aa (fun _=>?_) (fun h=>absurd (e.symm.trans h) (by decide)) | exact rfl | (refine zt ?_;try intro h) | refine zu (fun h=>?_) fun h=>?_ | fail
    all_goals (exfalso;simp only [decide_eq_true_eq,decide_eq_false_iff_not] at *;omega)
   | true=>
    cases q with
    | false=>
     refine cT (E:=E) (fn:=Tryz.f6) (g:=.pure _) fun _=>?_
     repeat' first | (refine gN hE ?_;conv=>whnf) | refine Aa (fun h=>absurd (d.symm.trans h) (by decide)) (fun _=>?_) | refine Aa (fun _=>?_) (fun h=>absurd (d.symm.trans h) (by decide)) | refine Aa (fun h=>absurd (a.symm.trans h) (by decide)) (fun _=>?_) | refine Aa (fun _=>?_) (fun h=>absurd (a.symm.trans h) (by decide)) | refine Aa (fun h=>absurd (e3.symm.trans h) (by decide)) (fun _=>?_) | refine Aa (fun _=>?_) (fun h=>absurd (e3.symm.trans h) (by decide)) | refine Aa (fun h=>absurd (e.symm.trans h) (by decide)) (fun _=>?_) | refine Aa (fun _=>?_) (fun h=>absurd (e.symm.trans h) (by decide)) | exact rfl | (refine zt ?_;try intro h) | refine zu (fun h=>?_) fun h=>?_ | fail
     all_goals (exfalso;simp only [decide_eq_true_eq,decide_eq_false_iff_not] at *;omega)
    | true=>
     cases p with
     | false=>
      refine cT (E:=E) (fn:=Tryz.f6) (g:=.pure _) fun _=>?_
      repeat' first | (refine gN hE ?_;conv=>whnf) | refine Aa (fun h=>absurd (d.symm.trans h) (by decide)) (fun _=>?_) | refine Aa (fun _=>?_) (fun h=>absurd (d.symm.trans h) (by decide)) | refine Aa (fun h=>absurd (a.symm.trans h) (by decide)) (fun _=>?_) | refine Aa (fun _=>?_) (fun h=>absurd (a.symm.trans h) (by decide)) | refine Aa (fun h=>absurd (e3.symm.trans h) (by decide)) (fun _=>?_) | refine Aa (fun _=>?_) (fun h=>absurd (e3.symm.trans h) (by decide)) | refine Aa (fun h=>absurd (e.symm.trans h) (by decide)) (fun _=>?_) | refine Aa (fun _=>?_) (fun h=>absurd (e.symm.trans h) (by decide)) | exact rfl | (refine zt ?_;try intro h) | refine zu (fun h=>?_) fun h=>?_ | fail
      all_goals (exfalso;simp only [decide_eq_true_eq,decide_eq_false_iff_not] at *;omega)
     | true=>
      cases w with
      | false=>
       refine cT (E:=E) (fn:=Tryz.f6) (g:=.pure _) fun _=>?_
       repeat' first | (refine gN hE ?_;conv=>whnf) | refine Aa (fun h=>absurd (d.symm.trans h) (by decide)) (fun _=>?_) | refine Aa (fun _=>?_) (fun h=>absurd (d.symm.trans h) (by decide)) | refine Aa (fun h=>absurd (a.symm.trans h) (by decide)) (fun _=>?_) | refine Aa (fun _=>?_) (fun h=>absurd (a.symm.trans h) (by decide)) | refine Aa (fun h=>absurd (e3.symm.trans h) (by decide)) (fun _=>?_) | refine Aa (fun _=>?_) (fun h=>absurd (e3.symm.trans h) (by decide)) | refine Aa (fun h=>absurd (e.symm.trans h) (by decide)) (fun _=>?_) | refine Aa (fun _=>?_) (fun h=>absurd (e.symm.trans h) (by decide)) | exact rfl | (refine zt ?_;try intro h) | refine zu (fun h=>?_) fun h=>?_ | fail
       all_goals (exfalso;simp only [decide_eq_true_eq,decide_eq_false_iff_not] at *;omega)
      | true=>exact absurd ⟨rfl,rfl,rfl,rfl⟩ u
  .rw [if_neg o] at i
   have next:=IR s F hs (by omega) r s.pend.length 0 (by omega) (by rw [Bx];exact i)
   cases t with
   | false=>
    refine cT (E:=E) (fn:=Tryz.f6) (g:=.pure _) fun _=>?_
    repeat' first | (refine gN hE ?_;conv=>whnf) | refine Aa (fun h=>absurd (d.symm.trans h) (by decide)) (fun _=>?_) | refine Aa (fun _=>?_) (fun h=>absurd (d.symm.trans h) (by decide)) | refine Aa (fun h=>absurd (a.symm.trans h) (by decide)) (fun _=>?_) | refine Aa (fun _=>?_) (fun h=>absurd (a.symm.trans h) (by decide)) | refine Aa (fun h=>absurd (e3.symm.trans h) (by decide)) (fun _=>?_) | refine Aa (fun _=>?_) (fun h=>absurd (e3.symm.trans h) (by decide)) | refine Aa (fun h=>absurd (e.symm.trans h) (by decide)) (fun _=>?_) | refine Aa (fun _=>?_) (fun h=>absurd (e.symm.trans h) (by decide)) | exact rfl | (refine zt ?_;try intro h) | refine zu (fun h=>?_) fun h=>?_ | fail
    exact zqwe1
   | true=>
    cases q with
    | false=>
     refine cT (E:=E) (fn:=Tryz.f6) (g:=.pure _) fun _=>?_
     repeat' first | (refine gN hE ?_;conv=>whnf) | refine Aa (fun h=>absurd (d.symm.trans h) (by decide)) (fun _=>?_) | refine Aa (fun _=>?_) (fun h=>absurd (d.symm.trans h) (by decide)) | refine Aa (fun h=>absurd (a.symm.trans h) (by decide)) (fun _=>?_) | refine Aa (fun _=>?_) (fun h=>absurd (a.symm.trans h) (by decide)) | refine Aa (fun h=>absurd (e3.symm.trans h) (by decide)) (fun _=>?_) | refine Aa (fun _=>?_) (fun h=>absurd (e3.symm.trans h) (by decide)) | refine Aa (fun h=>absurd (e.symm.trans h) (by decide)) (fun _=>?_) | refine Aa (fun _=>?_) (fun h=>absurd (e.symm.trans h) (by decide)) | exact rfl | (refine zt ?_;try intro h) | refine zu (fun h=>?_) fun h=>?_ | fail
     exact zqwe1
    | true=>
     cases p with
     | false=>
      refine cT (E:=E) (fn:=Tryz.f6) (g:=.pure _) fun _=>?_
      repeat' first | (refine gN hE ?_;conv=>whnf) | refine Aa (fun h=>absurd (d.symm.trans h) (by decide)) (fun _=>?_) | refine Aa (fun _=>?_) (fun h=>absurd (d.symm.trans h) (by decide)) | refine Aa (fun h=>absurd (a.symm.trans h) (by decide)) (fun _=>?_) | refine Aa (fun _=>?_) (fun h=>absurd (a.symm.trans h) (by decide)) | refine Aa (fun h=>absurd (e3.symm.trans h) (by decide)) (fun _=>?_) | refine Aa (fun _=>?_) (fun h=>absurd (e3.symm.trans h) (by decide)) | refine Aa (fun h=>absurd (e.symm.trans h) (by decide)) (fun _=>?_) | refine Aa (fun _=>?_) (fun h=>absurd (e.symm.trans h) (by decide)) | exact rfl | (refine zt ?_;try intro h) | refine zu (fun h=>?_) fun h=>?_ | fail
      exact zqwe1
     | true=>
      cases w with
      | false=>
       refine cT (E:=E) (fn:=Tryz.f6) (g:=.pure _) fun _=>?_
       repeat' first | (refine gN hE ?_;conv=>whnf) | refine Aa (fun h=>absurd (d.symm.trans h) (by decide)) (fun _=>?_) | refine Aa (fun _=>?_) (fun h=>absurd (d.symm.trans h) (by decide)) | refine Aa (fun h=>absurd (a.symm.trans h) (by decide)) (fun _=>?_) | refine Aa (fun _=>?_) (fun h=>absurd (a.symm.trans h) (by decide)) | refine Aa (fun h=>absurd (e3.symm.trans h) (by decide)) (fun _=>?_) | refine Aa (fun _=>?_) (fun h=>absurd (e3.symm.trans h) (by decide)) | refine Aa (fun h=>absurd (e.symm.trans h) (by decide)) (fun _=>?_) | refine Aa (fun _=>?_) (fun h=>absurd (e.symm.trans h) (by decide)) | exact rfl | (refine zt ?_;try intro h) | refine zu (fun h=>?_) fun h=>?_ | fail
       exact zqwe1
      | true=>exact absurd ⟨rfl,rfl,rfl,rfl⟩ u
noncomputable abbrev aIo:Func:=Tryz.f10
theorem Ev.eqb_eq {x y:Ev}:x.eqb y=true↔x=y:=by
 obtain ⟨_,_,_⟩:=x
 obtain ⟨_,_,_⟩:=y
 simp [Ev.eqb]
theorem aBi (a b:List Ev) (o:a.length=b.length) (hl:a.length<=1048576) (r:Bool):∀ (m i:Nat),i+m=a.length->decide (a.drop i=b.drop i)=r->
  To E aIo (.pure (.ret (.bool r))) (.head (stk aIo 0) [(0,.slice 3 (evv a) .no),(1,.slice 3 (evv b) .no),(5,.int .i64 i)] []):=by
 have n:(evv a).length=a.length:=by simp
 intro m
 induction m with
 | zero=>
  intro i hi c
  rw [Ae (by omega),Ae (by omega)] at c
  have c:true=r:=c
  subst c
  refine gV ?_
  refine aF fun h=>?_
  repeat' first | (refine gN hE ?_;conv=>whnf) | exact rfl | (refine zt ?_;try intro h) | refine zu (fun h=>?_) fun h=>?_ | fail
 | succ m k=>
  intro i hi c
  have f:i<a.length:=by omega
  have d:i<b.length:=by omega
  rw [Ad f,Ad d] at c
  have l:=vK f
  have g:=vK d
  generalize a[i]=u at l c
  generalize b[i]=v at g c
  have next:=k (i+1) (by omega)
  by_cases h1:u=v
  .have j:(!(Ev.eqb u v))=false:=by rw [Ev.eqb_eq.2 h1];rfl
   have next:=next (by rw [<-c,h1];exact decide_eq_decide.2 ⟨fun e=>by rw [e],fun e=>(Hb e).2⟩)
   clear k c
   refine gV ?_
   refine aT fun h=>?_
   repeat' first | (refine gN hE ?_;conv=>whnf) | refine ⟨i,rfl,?_⟩ | refine ⟨_,l,?_⟩ | refine ⟨_,g,?_⟩ | refine Aa (fun h=>absurd (j.symm.trans h) (by decide)) (fun _=>?_) | exact rfl | (refine zt ?_;try intro h) | refine zu (fun h=>?_) fun h=>?_ | fail
   refine To.part [0,1,5] [] rfl rfl rfl ?_
   exact next
  .have j:(!(Ev.eqb u v))=true:=by
    cases h:Ev.eqb u v with
    | false=>rfl
    | true=>exact absurd (Ev.eqb_eq.1 h) h1
   have c:false=r:=by rw [<-c,decide_eq_false fun e=>h1 (Hb e).1]
   subst c
   clear k next
   refine gV ?_
   refine aT fun h=>?_
   repeat' first | (refine gN hE ?_;conv=>whnf) | refine ⟨i,rfl,?_⟩ | refine ⟨_,l,?_⟩ | refine ⟨_,g,?_⟩ | refine Aa (fun _=>?_) (fun h=>absurd (j.symm.trans h) (by decide)) | exact rfl | (refine zt ?_;try intro h) | refine zu (fun h=>?_) fun h=>?_ | fail
theorem aGY (a b:List Ev) (hl:a.length<=1048576):aA Tryz.prog 10 [.slice 3 (evv a) .no,.slice 3 (evv b) .no] [] (.ret (.bool (decide (a=b)))) []:=by
 have d:(evv a).length=a.length:=by simp
 have i:(evv b).length=b.length:=by simp
 by_cases h1:a.length=b.length
 .have c:(((evv a).length:Int) !=((evv b).length:Int))=false:=by rw [d,i,h1];simp
  have next:=aBi a b h1 hl _ a.length 0 (by omega) (show _=decide (a=b) by rw [Bx,Bx])
  generalize decide (a=b)=r at *
  refine cT (E:=E) (fn:=Tryz.f10) (g:=.pure _) fun _=>?_
  repeat' first | (refine gN hE ?_;conv=>whnf) | refine Aa (fun h=>absurd (c.symm.trans h) (by decide)) (fun _=>?_) | exact rfl | (refine zt ?_;try intro h) | refine zu (fun h=>?_) fun h=>?_ | fail
  refine To.part [0,1,5] [] rfl rfl rfl ?_
  exact next
 .have c:(((evv a).length:Int) !=((evv b).length:Int))=true:=by rw [d,i];simp;omega
  rw [decide_eq_false fun e=>h1 (by rw [e])]
  refine cT (E:=E) (fn:=Tryz.f10) (g:=.pure _) fun _=>?_
  repeat' first | (refine gN hE ?_;conv=>whnf) | refine Aa (fun _=>?_) (fun h=>absurd (c.symm.trans h) (by decide)) | exact rfl | (refine zt ?_;try intro h) | refine zu (fun h=>?_) fun h=>?_ | fail
theorem Pn.eqb_eq {x y:Pn}:x.eqb y=true↔x=y:=by
 obtain ⟨⟨_,_,_,⟨_,_,_⟩,_,_,_⟩,_,_⟩:=x
 obtain ⟨⟨_,_,_,⟨_,_,_⟩,_,_,_⟩,_,_⟩:=y
 simp [Pn.eqb,and_assoc]
open Go.ChangeShapes Go.WideShapes Go.ChangeAt Go.RowKit
set_option maxRecDepth 100000
theorem DL {H:Type} (d:DataW H):1<=Rows.uptoBulk d:=by
 cases d with
 | lit l=>cases l<;>simp [Rows.uptoBulk]
 | _=>simp [Rows.uptoBulk]
theorem iG {H:Type} {d:DataW H}:∀ {l:List (DataW H)},d∈l->Rows.uptoBulk d<=Rows.uptoBulkAll l
 | [],h=>by cases h
 | x::r,h=>by
  simp only [Rows.uptoBulkAll]
  rcases Aj.1 h with rfl | h
  .omega
  .have:=iG h
   omega
theorem qX {H:Type}:∀ (l:List (DataW H)),l.length<=Rows.uptoBulkAll l
 | []=>by simp
 | x::r=>by
  have:=DL x
  have:=qX r
  simp only [Rows.uptoBulkAll,Bt]
  omega
theorem TR (H:Type) (N:Nat):Bulk H N (fun d=>Rows.uptoBulk d<=N) where
 str l h:=by
  simp only [Rows.uptoBulk] at h
  omega
 sl e r h:=by
  simp only [Rows.uptoBulk] at h
  have:=qX e
  exact ⟨by omega,fun d hd=>by have:=iG hd;omega⟩
 agg l h:=by
  simp only [Rows.uptoBulk] at h
  exact fun d hd=>by have:=iG hd;omega
section
variable {N:Nat}
theorem bF {n:Nat} {cs:List AVal} (h:TyN Tryz.prog N (n+1) 3 cs):∃ m:Int,cs=[ii m]:=by
 unfold TyN at h
 rw [Tryz.underlying3] at h
 obtain ⟨m,h,_⟩:=h
 exact ⟨m,h⟩
theorem pP {n:Nat} {cs:List AVal} (h:TyN Tryz.prog N (n+2) 40 cs):∃ v:V3,cs=v.cs:=by
 unfold TyN at h
 rw [Tryz.underlying40] at h
 obtain ⟨xs,hl,d,rfl⟩:=h
 match xs,hl,d with
 | [x,y,z],_,d=>
  obtain ⟨a,rfl⟩:=bF (d x (by simp))
  obtain ⟨b,rfl⟩:=bF (d y (by simp))
  obtain ⟨c,rfl⟩:=bF (d z (by simp))
  exact ⟨⟨a,b,c⟩,rfl⟩
theorem wD {n:Nat} {cs:List AVal} (h:TyN Tryz.prog N (n+3) 42 cs):∃ g:Gan,cs=g.cs:=by
 unfold TyN at h
 rw [Tryz.underlying42] at h
 obtain ⟨o,r,rfl,m,s,r,rfl,h1,q,r,rfl,d,u,r,rfl,h3,x,r,rfl,l,p,r,rfl,j,w,r,rfl,b,rfl⟩:=h
 obtain ⟨e,rfl⟩:=bF m
 obtain ⟨c,rfl⟩:=bF h1
 obtain ⟨f,rfl⟩:=bF d
 obtain ⟨v,rfl⟩:=pP h3
 obtain ⟨i,rfl⟩:=bF l
 obtain ⟨k,rfl⟩:=bF j
 obtain ⟨a,rfl⟩:=bF b
 exact ⟨⟨e,c,f,v,i,k,a⟩,rfl⟩
theorem lI {α:Type} {av:α->AVal} {P:AVal->Prop} {Q:α->Prop} (b:∀ x,P x->∃ p:α,x=av p/\Q p):∀ (xs:List AVal),(∀ x∈xs,P x)->∃ l:List α,xs=l.map av/\∀ p∈l,Q p
 | [],_=>⟨[],rfl,fun p h=>by cases h⟩
 | x::xs,h=>by
  obtain ⟨p,rfl,hp⟩:=b x (h x (by simp))
  obtain ⟨l,rfl,hl⟩:=lI b xs fun x c=>h x (by simp [c])
  exact ⟨p::l,rfl,fun q a=>by
   rcases Aj.1 a with rfl | a
   .exact hp
   .exact hl q a⟩
theorem NO {n:Nat} {cs:List AVal} (h:TyN Tryz.prog N (n+2) 34 cs):∃ l:List Int,cs=[.slice 1 (iv l) .no]/\l.length<=N:=by
 unfold TyN at h
 rw [Tryz.underlying34] at h
 obtain ⟨xs,rfl,c,b⟩:=h
 have f:Tryz.prog.cellsOf 3=1:=by kernel_rfl
 have d:aG Tryz.prog 3=false:=by kernel_rfl
 obtain ⟨l,rfl,_⟩:=lI (av:=fun m:Int=>ii m) (Q:=fun _=>True) (P:=fun x=>x∈xs) (fun x hm=>by
  obtain ⟨m,e⟩:=bF (n:=n) (b x hm).1
  have a:=(b x hm).2.2 d
  rw [e] at a
  exact ⟨m,(Hb a).1.symm,trivial⟩) xs fun x hm=>hm
 exact ⟨l,by rw [f],by simpa using c⟩
theorem XO {n:Nat} {cs:List AVal} (h:TyN Tryz.prog N (n+4) 44 cs):∃ x:Rn,cs=x.cs/\x.hs.length<=N:=by
 unfold TyN at h
 rw [Tryz.underlying44] at h
 obtain ⟨k,r,rfl,j,p,r,rfl,h1,o,r,rfl,c,q,r,rfl,h3,s,r,rfl,i,m,r,rfl,f,rfl⟩:=h
 obtain ⟨g,rfl⟩:=wD j
 obtain ⟨a,rfl⟩:=bF h1
 obtain ⟨d,rfl⟩:=bF c
 obtain ⟨b,rfl⟩:=bF h3
 obtain ⟨e,rfl⟩:=bF i
 obtain ⟨l,rfl,hl⟩:=NO (n:=n+1) f
 exact ⟨⟨g,a,d,b,e,l⟩,rfl,hl⟩
end
section
variable {N:Nat}
theorem NN {n:Nat} {cs:List AVal} (h:TyN Tryz.prog N (n+3) 64 cs):∃ x:Nod,cs=x.cs:=by
 unfold TyN at h
 rw [Tryz.underlying64] at h
 obtain ⟨f,r,rfl,e,i,r,rfl,h1,g,r,rfl,c,j,r,rfl,h3,k,r,rfl,d,rfl⟩:=h
 obtain ⟨b,rfl⟩:=bF e
 obtain ⟨a,rfl⟩:=bF h1
 obtain ⟨u,rfl⟩:=pP c
 obtain ⟨v,rfl⟩:=pP h3
 obtain ⟨w,rfl⟩:=pP d
 exact ⟨⟨b,a,u,v,w⟩,rfl⟩
theorem NP {n:Nat} {cs:List AVal} (h:TyN Tryz.prog N (n+3) 66 cs):∃ x:Hos,cs=x.cs:=by
 unfold TyN at h
 rw [Tryz.underlying66] at h
 obtain ⟨j,r,rfl,e,g,r,rfl,h1,f,r,rfl,c,i,r,rfl,h3,rfl⟩:=h
 obtain ⟨b,rfl⟩:=bF e
 obtain ⟨a,rfl⟩:=bF h1
 obtain ⟨d,rfl⟩:=bF c
 obtain ⟨v,rfl⟩:=pP h3
 exact ⟨⟨b,a,d,v⟩,rfl⟩
theorem G8 {n:Nat} {cs:List AVal} (h:TyN Tryz.prog N (n+4) 22 cs):∃ l:List Nod,cs=[.slice 11 (nav l) .no]/\l.length<=N:=by
 unfold TyN at h
 rw [Tryz.underlying22] at h
 obtain ⟨xs,rfl,b,a⟩:=h
 have c:Tryz.prog.cellsOf 64=11:=by kernel_rfl
 obtain ⟨l,rfl,hl⟩:=lI (av:=Nod.av) (Q:=fun x=>True) (P:=fun x=>x∈xs) (fun x hm=>by
  obtain ⟨cs,rfl⟩:=(a x hm).2.1 (by kernel_rfl)
  obtain ⟨p,hp⟩:=NN (n:=n) (a _ hm).1
  exact ⟨p,by unfold Nod.av;rw [<-hp];rfl,trivial⟩) xs fun x hm=>hm
 exact ⟨l,by rw [c],by simpa using b⟩
theorem G9 {n:Nat} {cs:List AVal} (h:TyN Tryz.prog N (n+4) 23 cs):∃ l:List Hos,cs=[.slice 6 (hav l) .no]/\l.length<=N:=by
 unfold TyN at h
 rw [Tryz.underlying23] at h
 obtain ⟨xs,rfl,b,a⟩:=h
 have c:Tryz.prog.cellsOf 66=6:=by kernel_rfl
 obtain ⟨l,rfl,hl⟩:=lI (av:=Hos.av) (Q:=fun x=>True) (P:=fun x=>x∈xs) (fun x hm=>by
  obtain ⟨cs,rfl⟩:=(a x hm).2.1 (by kernel_rfl)
  obtain ⟨p,hp⟩:=NP (n:=n) (a _ hm).1
  exact ⟨p,by unfold Hos.av;rw [<-hp];rfl,trivial⟩) xs fun x hm=>hm
 exact ⟨l,by rw [c],by simpa using b⟩
theorem RF {n:Nat} {cs:List AVal} (h:TyN Tryz.prog 1048576 (n+5) 25 cs):∃ c:Con,cs=c.cs/\c.sm:=by
 unfold TyN at h
 rw [Tryz.underlying25] at h
 obtain ⟨g,r,rfl,f,j,r,rfl,h1,i,r,rfl,b,k,r,rfl,h3,rfl⟩:=h
 obtain ⟨ns,rfl,e⟩:=G8 (n:=n) f
 obtain ⟨hs,rfl,l1⟩:=G9 (n:=n) h1
 obtain ⟨d,rfl⟩:=bF b
 obtain ⟨a,rfl⟩:=bF h3
 exact ⟨⟨ns,hs,d,a⟩,rfl,⟨e,l1⟩⟩
end
theorem G6 {N n:Nat} {cs:List AVal} (a:N<=1048576) (h:TyN Tryz.prog N (n+5) 27 cs):∃ l:List Rn,cs=[.slice 14 (rav l) .no]/\Sm l/\l.length<=N:=by
 unfold TyN at h
 rw [Tryz.underlying27] at h
 obtain ⟨xs,rfl,b,c⟩:=h
 have d:Tryz.prog.cellsOf 44=14:=by kernel_rfl
 obtain ⟨l,rfl,hl⟩:=lI (av:=Rn.av) (Q:=fun x=>x.hs.length<=1048576) (P:=fun x=>x∈xs) (fun x hm=>by
  obtain ⟨cs,rfl⟩:=(c x hm).2.1 (by kernel_rfl)
  obtain ⟨p,hp,e⟩:=XO (n:=n) (c _ hm).1
  exact ⟨p,by unfold Rn.av;rw [<-hp];rfl,Cm e a⟩) xs fun x hm=>hm
 exact ⟨l,by rw [d],⟨Cm (by simpa using b) a,hl⟩,by simpa using b⟩
theorem NM {N n:Nat} {cs:List AVal} (h:TyN Tryz.prog N (n+4) 62 cs):∃ x:Pn,cs=x.cs:=by
 unfold TyN at h
 rw [Tryz.underlying62] at h
 obtain ⟨i,r,rfl,d,f,r,rfl,h1,e,r,rfl,b,rfl⟩:=h
 obtain ⟨g,rfl⟩:=wD d
 obtain ⟨a,rfl⟩:=bF h1
 obtain ⟨c,rfl⟩:=bF b
 exact ⟨⟨g,a,c⟩,rfl⟩
theorem G7 {N n:Nat} {cs:List AVal} (h:TyN Tryz.prog N (n+5) 26 cs):∃ l:List Pn,cs=[.slice 11 (pnv l) .no]/\l.length<=N:=by
 unfold TyN at h
 rw [Tryz.underlying26] at h
 obtain ⟨xs,rfl,b,a⟩:=h
 have c:Tryz.prog.cellsOf 62=11:=by kernel_rfl
 obtain ⟨l,rfl,_⟩:=lI (av:=Pn.av) (Q:=fun _=>True) (P:=fun x=>x∈xs) (fun x hm=>by
  obtain ⟨cs,rfl⟩:=(a x hm).2.1 (by kernel_rfl)
  obtain ⟨p,hp⟩:=NM (n:=n) (a _ hm).1
  exact ⟨p,by unfold Pn.av;rw [<-hp];rfl,trivial⟩) xs fun x hm=>hm
 exact ⟨l,by rw [c],by simpa using b⟩
theorem XP {N n:Nat} {cs:List AVal} (h:TyN Tryz.prog N (n+1) 68 cs):∃ x:Nat,cs=[.int .u64 (x:Int)]/\x<18446744073709551616:=by
 unfold TyN at h
 rw [Tryz.underlying68] at h
 obtain ⟨m,rfl,h1,a⟩:=h
 simp only [bW,bI] at h1 a
 exact ⟨m.toNat,by rw [show ((m.toNat:Nat):Int)=m from by omega],by omega⟩
theorem NQ {N n:Nat} {cs:List AVal} (h:TyN Tryz.prog N (n+2) 28 cs):∃ l:List Nat,cs=[.slice 1 (fv l) .no]/\l.length<=N/\∀ x∈l,x<18446744073709551616:=by
 unfold TyN at h
 rw [Tryz.underlying28] at h
 obtain ⟨xs,rfl,d,c⟩:=h
 have g:Tryz.prog.cellsOf 68=1:=by kernel_rfl
 have f:aG Tryz.prog 68=false:=by kernel_rfl
 obtain ⟨l,rfl,hl⟩:=lI (av:=fun x:Nat=>.int .u64 (x:Int)) (Q:=fun x=>x<18446744073709551616) (P:=fun x=>x∈xs) (fun x hm=>by
  obtain ⟨m,e,a⟩:=XP (n:=n) (c x hm).1
  have b:=(c x hm).2.2 f
  rw [e] at b
  exact ⟨m,(Hb b).1.symm,a⟩) xs fun x hm=>hm
 exact ⟨l,by rw [g],by simpa using d,hl⟩
theorem XN {n:Nat} {cs:List AVal} (h:TyN Tryz.prog 1048576 (n+6) 30 cs):∃ s:Sta,cs=s.cs/\StaSm s:=by
 unfold TyN at h
 rw [Tryz.underlying30] at h
 obtain ⟨o,r,rfl,m,u,r,rfl,h1,q,r,rfl,d,v,r,rfl,h3,w,r,rfl,i,p,r,rfl,f,rfl⟩:=h
 obtain ⟨c,rfl,b⟩:=RF (n:=n) m
 obtain ⟨now,rfl⟩:=bF h1
 obtain ⟨k,rfl⟩:=bF d
 obtain ⟨g,rfl,j⟩:=G7 (n:=n) h3
 obtain ⟨l,rfl,hl,_⟩:=G6 (n:=n) (Bi _) i
 obtain ⟨a,rfl,hz,e⟩:=NQ (n:=n+3) f
 exact ⟨⟨c,now,k,g,l,a⟩,rfl,b,j,hl,hz,e⟩
section
variable {H:Type} {enc:TypeId×Value->H} {W:World} {r:Reach} {base b0:Nat} {spare:Nat->Bool} {held:Bool} {v:Value} {d:DataW H} {ps:List MemPlace}
theorem uR (b:Eb Tryz.prog W r b0 30 v) (h:DataW.Trod enc Tryz.prog W base spare held 30 v d ps) (e:Rows.uptoBulk d<=1048576):∃ s:Sta,Rep (Mw W) [] v s.av/\StaSm s:=by
 obtain ⟨f,a,c⟩:=vV (n:=6) (TR H 1048576) (by kernel_rfl) (by kernel_rfl) b h e
 obtain ⟨s,rfl,hs⟩:=XN (n:=0) c
 exact ⟨s,a,hs⟩
end
theorem kP (h:Int):∀ l:List Pn,((∀ p∈l,p.g.id≠h)/\kQ h l=none)\/((∃ p∈l,p.g.id=h)/\∃ n,kQ h l=some (plV 1 n))
 | []=>.inl ⟨fun p hp=>(by cases hp),rfl⟩
 | p::l=>by
  unfold kQ
  rcases kP h l with ⟨a,e⟩ | ⟨⟨q,b,a⟩,n,e⟩
  .rw [e]
   exact zqwe2
  .rw [e]
   exact .inr ⟨⟨q,Ap _ b,a⟩,n,rfl⟩
theorem kN (h:Int):∀ l:List Rn,((∀ p∈l,p.g.id≠h)/\kO h l=none)\/((∃ p∈l,p.g.id=h)/\∃ n,kO h l=some (plV 2 n))
 | []=>.inl ⟨fun p hp=>(by cases hp),rfl⟩
 | p::l=>by
  unfold kO
  rcases kN h l with ⟨a,e⟩ | ⟨⟨q,b,a⟩,n,e⟩
  .rw [e]
   exact zqwe2
  .rw [e]
   exact .inr ⟨⟨q,Ap _ b,a⟩,n,rfl⟩
theorem iM (s:Sta) (h:Int):((∃ p∈s.pend,p.g.id=h)/\pk s h=1)\/((∀ p∈s.pend,p.g.id≠h)/\(∃ r∈s.run,r.g.id=h)/\pk s h=2)\/((∀ p∈s.pend,p.g.id≠h)/\(∀ r∈s.run,r.g.id≠h)/\pk s h=0):=by
 unfold pk
 rw [aAu]
 rcases kP h s.pend with ⟨a,e⟩ | ⟨a,n,e⟩
 .rcases kN h s.run with ⟨b,f⟩ | ⟨b,n,f⟩
  .rw [e,f];exact .inr (.inr ⟨a,b,rfl⟩)
  .rw [e,f];exact .inr (.inl ⟨a,b,rfl⟩)
 .rw [e];exact .inl ⟨a,rfl⟩
theorem iO {a b:Sta} {e:Ev}:∀ {l:List Rn},e∈evA a b l↔ ∃ r∈l,(pk b r.g.id=2/\pk a r.g.id≠2)/\e=⟨1,r.g.id,r.fl⟩
 | []=>by unfold evA;simp
 | r::l=>by
  unfold evA
  rw [Ao,iO (l:=l)]
  unfold zC
  constructor
  .rintro (h | ⟨x,c,h⟩)
   .split at h
    .rename_i d
     exact ⟨r,Ak ..,d,Bf.1 h⟩
    .cases h
   .exact ⟨x,Ap _ c,h⟩
  .rintro ⟨x,c,d,h⟩
   rcases Aj.1 c with rfl | c
   .rw [if_pos d]
    exact .inl (Bf.2 h)
   .exact .inr ⟨x,c,d,h⟩
theorem iN {a b:Sta} {e:Ev}:∀ {l:List Rn},e∈evB a b l↔ ∃ r∈l,(pk a r.g.id=2/\pk b r.g.id≠2)/\e=⟨if pk b r.g.id=1 then 2 else 3,r.g.id,0⟩
 | []=>by unfold evB;simp
 | r::l=>by
  unfold evB
  rw [Ao,iN (l:=l)]
  have one:e∈vM a b r↔(pk a r.g.id=2/\pk b r.g.id≠2)/\e=⟨if pk b r.g.id=1 then 2 else 3,r.g.id,0⟩:=by
   unfold vM
   by_cases h1:pk a r.g.id=2
   .by_cases d:pk b r.g.id=2
    .simp [h1,d]
    .by_cases h3:pk b r.g.id=1
     .simp [h1,h3]
     .simp [h1,d,h3]
   .simp [h1]
  rw [one]
  constructor
  .rintro (h | ⟨x,c,h⟩)
   .exact ⟨r,Ak ..,h⟩
   .exact ⟨x,Ap _ c,h⟩
  .rintro ⟨x,c,h⟩
   rcases Aj.1 c with rfl | c
   .exact .inl h
   .exact .inr ⟨x,c,h⟩
noncomputable abbrev fPc:Func:=Tryz.f9
theorem ST (h:Int):∀ (l:List Pn) (k:Int),0<=k->(K6 h l=none/\Q2.idx (fun x=>x.id==h) (l.map Pn.q) k= -1)\/∃ i p,l[i]? =some p/\K6 h l=some p.at'/\Q2.idx (fun x=>x.id==h) (l.map Pn.q) k=k+(i:Nat)
 | [],k,_=>.inl ⟨rfl,rfl⟩
 | p::l,k,hk=>by
  unfold K6
  rw [Bk]
  unfold Q2.idx
  by_cases e:p.g.id=h
  .right
   refine ⟨0,p,rfl,if_pos e,?_⟩
   have:((Pn.q p).id==h)=true:=by simpa [Pn.q] using e
   rw [this]
   simp
  .have h1:((Pn.q p).id==h)=false:=by simpa [Pn.q] using e
   rw [if_neg e,h1]
   rcases ST h l (k+1) (by omega) with ⟨a,b⟩ | ⟨i,q,a,b,c⟩
   .exact .inl ⟨a,by simpa using b⟩
   .exact .inr ⟨i+1,q,by simpa using a,b,by simp only [Cv,if_false,cond_false];rw [c];omega⟩
theorem aDj (s:Sta) (h:Int) (j:s.run.length<=1048576) (R:Int×Int):∀ (m i:Nat),i+m=s.run.length->HZ h (s.run.drop i)=R->
  To E fPc (.pure (.ret (plV R.1 R.2))) (.head (stk fPc 0) [(1,ii h),(2,.ref 0 0),(4,.ref 1 0),(6,ii i)] [wtS s,.cells 37 [ii 0,ii 0]]):=by
 have e:(rav s.run).length=s.run.length:=by simp
 intro m
 induction m with
 | zero=>
  intro i hi a
  rw [Ae (by omega)] at a
  have a:(0,0)=R:=a
  subst a
  refine gV ?_
  refine aF fun h=>?_
  repeat' first | (refine gN hE ?_;conv=>whnf) | exact rfl | (refine zt ?_;try intro h) | refine zu (fun h=>?_) fun h=>?_ | fail
 | succ m d=>
  intro i hi a
  have b:i<s.run.length:=by omega
  rw [Ad b] at a
  have get:(rav s.run)[i]? =some (Rn.av s.run[i]):=by simp [b]
  generalize s.run[i]=x at a get
  have f:=uJ x
  unfold HZ at a
  by_cases q:x.g.id=h
  .rw [if_pos q] at a
   have a:(2,dN x)=R:=a
   subst a
   have c:decide (x.g.id=h)=true:=decide_eq_true q
   clear d
   refine gV ?_
   refine aT fun h=>?_
   repeat' first | (refine gN hE ?_;conv=>whnf) | refine ⟨i,rfl,?_⟩ | refine ⟨_,get,?_⟩ | refine zE c ?_ | refine .pure _ [] f ?_ | exact rfl | (refine zt ?_;try intro h) | refine zu (fun h=>?_) fun h=>?_ | fail
  .rw [if_neg q] at a
   have c:decide (x.g.id=h)=false:=decide_eq_false q
   have next:=d (i+1) (by omega) a
   clear d
   refine gV ?_
   refine aT fun h=>?_
   repeat' first | (refine gN hE ?_;conv=>whnf) | refine ⟨i,rfl,?_⟩ | refine ⟨_,get,?_⟩ | refine zF c ?_ | exact rfl | (refine zt ?_;try intro h) | refine zu (fun h=>?_) fun h=>?_ | fail
   refine To.part [1,2,4,6] [0,1] rfl rfl rfl ?_
   exact next
theorem K7 (s:Sta) (h:Int) (hp:s.pend.length<=1048576) (j:s.run.length<=1048576):aA Tryz.prog 9 [s.av,ii h] [] (.ret (plV (plc s h).1 (plc s h).2)) []:=by
 have d:=Q2.findref_ok (s.pend.map Pn.q) h
 rw [uN] at d
 have k:(pnv s.pend).length=s.pend.length:=by simp
 unfold Q2.findP at d
 rcases ST h s.pend 0 (by omega) with ⟨a,b⟩ | ⟨i,p,a,b,c⟩
 .rw [b] at d
  have e:plc s h=HZ h s.run:=by unfold plc;rw [a]
  rw [e]
  have next:=aDj s h j _ s.run.length 0 (by omega) (by rw [Bx])
  generalize HZ h s.run=R at *
  refine cT (E:=E) (fn:=Tryz.f9) (g:=.pure _) fun _=>?_
  repeat' first | (refine gN hE ?_;conv=>whnf) | refine .pure _ [] d ?_ | exact rfl | (refine zt ?_;try intro h) | refine zu (fun h=>?_) fun h=>?_ | fail
  refine To.part [1,2,4,6] [0,1] rfl rfl rfl ?_
  exact next
 .rw [c,Int.zero_add] at d
  have e:plc s h=(1,p.at'):=by unfold plc;rw [b]
  rw [e]
  have l:=(Ac.1 a).1
  have get:(pnv s.pend)[i]? =some (Pn.av p):=by simp [a]
  refine cT (E:=E) (fn:=Tryz.f9) (g:=.pure _) fun _=>?_
  repeat' first | (refine gN hE ?_;conv=>whnf) | refine .pure _ [] d ?_ | refine ⟨i,rfl,?_⟩ | refine ⟨_,get,?_⟩ | exact rfl | (refine zt ?_;try intro h) | refine zu (fun h=>?_) fun h=>?_ | fail
theorem FA (h:Int):∀ l:List Pn,((∀ p∈l,p.g.id≠h)/\K6 h l=none)\/((∃ p∈l,p.g.id=h)/\∃ n,K6 h l=some n)
 | []=>.inl ⟨fun p hp=>(by cases hp),rfl⟩
 | p::l=>by
  unfold K6
  by_cases e:p.g.id=h
  .rw [if_pos e]
   exact .inr ⟨⟨p,Ak ..,e⟩,_,rfl⟩
  .rw [if_neg e]
   rcases FA h l with ⟨a,c⟩ | ⟨⟨q,b,a⟩,n,c⟩
   .exact zqwe5
   .exact .inr ⟨⟨q,Ap _ b,a⟩,n,c⟩
theorem E9 (h:Int):∀ l:List Rn,((∀ p∈l,p.g.id≠h)/\(HZ h l).1=0)\/((∃ p∈l,p.g.id=h)/\(HZ h l).1=2)
 | []=>.inl ⟨fun p hp=>(by cases hp),rfl⟩
 | p::l=>by
  unfold HZ
  by_cases e:p.g.id=h
  .rw [if_pos e]
   exact .inr ⟨⟨p,Ak ..,e⟩,rfl⟩
  .rw [if_neg e]
   rcases E9 h l with ⟨a,c⟩ | ⟨⟨q,b,a⟩,c⟩
   .exact zqwe5
   .exact .inr ⟨⟨q,Ap _ b,a⟩,c⟩
theorem aGb (s:Sta) (h:Int):(plc s h).1=pk s h:=by
 unfold plc
 rcases FA h s.pend with ⟨a,e⟩ | ⟨⟨p,hp,c⟩,n,e⟩
 .rw [e]
  dsimp only
  rcases E9 h s.run with ⟨b,f⟩ | ⟨⟨r,g,b⟩,f⟩
  .rcases iM s h with ⟨⟨p,hp,c⟩,_⟩ | ⟨_,⟨r,g,c⟩,_⟩ | ⟨_,_,d⟩
   .exact absurd c (a p hp)
   .exact absurd c (b r g)
   .rw [f,d]
  .rcases iM s h with ⟨⟨p,hp,c⟩,_⟩ | ⟨_,_,d⟩ | ⟨_,h3,_⟩
   .exact absurd c (a p hp)
   .rw [f,d]
   .exact absurd b (h3 r g)
 .rw [e]
  dsimp only
  rcases iM s h with ⟨_,d⟩ | ⟨h3,_⟩ | ⟨h3,_⟩
  .rw [d]
  .exact absurd c (h3 p hp)
  .exact absurd c (h3 p hp)
def jS (x:Int):List Int->List Int
 | []=>[x]
 | y::r=>if y<x then y::jS x r else if y=x then y::r else x::y::r
def zL (a b:Sta):List Int:=(((a.pend.map fun p=>p.g.id)++a.run.map fun r=>r.g.id)++b.pend.map fun p=>p.g.id)++b.run.map fun r=>r.g.id
def CN (l o:List Int):List Int:=l.foldl (fun o x=>jS x o) o
def CM (a b:Sta):List Int:=CN (zL a b) []
def zM (h:Int):List Rn->List Ev
 | []=>[]
 | r::l=>if r.g.id=h then ⟨1,h,r.fl⟩::zM h l else zM h l
def sT (a b:Sta) (h:Int):List Ev:=
 if (plc b h).1=2/\(plc a h).1≠2 then zM h b.run else if (plc a h).1=2/\(plc b h).1=1 then [⟨2,h,0⟩] else if (plc a h).1=2/\(plc b h).1=0 then [⟨3,h,0⟩] else []
def vY (a b:Sta):List Int->List Ev
 | []=>[]
 | h::l=>sT a b h++vY a b l
theorem CD {x z:Int}:∀ {l:List Int},z∈jS x l↔z=x\/z∈l
 | []=>by unfold jS;simp
 | y::r=>by
  unfold jS
  split
  .rw [Aj,CD,Aj]
   constructor
   .exact zqwe6
   .exact zqwe6
  .split
   .rename_i e
    rw [Aj]
    constructor
    .exact .inr
    .rintro (h | h)
     .exact .inl (h.trans e.symm)
     .exact h
   .rw [Aj]
theorem LY {x:Int}:∀ {l:List Int},l.Pairwise (· < ·)->(jS x l).Pairwise (· < ·)
 | [],_=>by unfold jS;simp
 | y::r,h=>by
  have h1:=Bn.1 h
  unfold jS
  split
  .rename_i hl
   refine Bn.2 ⟨fun z hz=>?_,LY h1.2⟩
   rcases CD.1 hz with rfl | hz
   .exact hl
   .exact h1.1 z hz
  .split
   .exact h
   .refine Bn.2 ⟨fun z hz=>?_,h⟩
    rcases Aj.1 hz with rfl | hz
    .omega
    .have:=h1.1 z hz;omega
theorem FU:∀ (l o:List Int),o.Pairwise (· < ·)->(CN l o).Pairwise (· < ·)/\∀ z,z∈CN l o↔z∈l\/z∈o
 | [],o,h=>⟨h,fun z=>by simp [CN]⟩
 | x::l,o,h=>by
  obtain ⟨a,b⟩:=FU l (jS x o) (LY h)
  refine ⟨a,fun z=>?_⟩
  have:z∈CN (x::l) o↔z∈l\/z∈jS x o:=b z
  rw [this,CD,Aj]
  constructor
  .rintro (h | h | h)
   .exact .inl (.inr h)
   .exact .inl (.inl h)
   .exact .inr h
  .rintro ((h | h) | h)
   .exact .inr (.inl h)
   .exact .inl h
   .exact .inr (.inr h)
theorem GE:∀ {l m:List Ev},l.Pairwise (fun x y=>x.id<y.id)->m.Pairwise (fun x y=>x.id<y.id)->(∀ e,e∈l↔e∈m)->l=m
 | [],[],_,_,_=>rfl
 | [],y::m,_,_,h=>absurd ((h y).2 (Ak ..)) (by simp)
 | x::l,[],_,_,h=>absurd ((h x).1 (Ak ..)) (by simp)
 | x::l,y::m,h1,h2,h=>by
  have c:=Bn.1 h1
  have b:=Bn.1 h2
  have e:x=y:=by
   rcases Aj.1 ((h x).1 (Ak ..)) with e | f
   .exact e
   .rcases Aj.1 ((h y).2 (Ak ..)) with e | d
    .exact e.symm
    .have:=c.1 y d
     have:=b.1 x f
     omega
  subst e
  rw [GE c.2 b.2 fun e=>?_]
  constructor
  .intro a
   rcases Aj.1 ((h e).1 (Ap _ a)) with rfl | hm
   .have:=c.1 _ a;omega
   .exact hm
  .intro a
   rcases Aj.1 ((h e).2 (Ap _ a)) with rfl | hm
   .have:=b.1 _ a;omega
   .exact hm
theorem nP {h:Int} {e:Ev}:∀ {l:List Rn},e∈zM h l↔ ∃ r∈l,r.g.id=h/\e=⟨1,h,r.fl⟩
 | []=>by unfold zM;simp
 | r::l=>by
  unfold zM
  split
  .rename_i hi
   rw [Aj,nP]
   constructor
   .rintro (e | ⟨x,a,e⟩)
    .exact ⟨r,Ak ..,hi,e⟩
    .exact ⟨x,Ap _ a,e⟩
   .rintro ⟨x,a,e⟩
    rcases Aj.1 a with rfl | a
    .exact .inl e.2
    .exact .inr ⟨x,a,e⟩
  .rename_i hi
   rw [nP]
   constructor
   .rintro ⟨x,a,e⟩
    exact ⟨x,Ap _ a,e⟩
   .rintro ⟨x,a,e⟩
    rcases Aj.1 a with rfl | a
    .exact absurd e.1 hi
    .exact ⟨x,a,e⟩
theorem DX {h:Int}:∀ {l:List Rn},(l.map fun x=>x.g.id).Nodup->(zM h l).Pairwise fun x y=>x.id<y.id
 | [],_=>Cz
 | r::l,hn=>by
  have h1:=Bp.1 hn
  unfold zM
  split
  .rename_i hi
   refine Bn.2 ⟨fun e c=>?_,DX h1.2⟩
   obtain ⟨x,b,a,_⟩:=nP.1 c
   exact absurd (Bb.2 ⟨x,b,a.trans hi.symm⟩) h1.1
  .exact DX h1.2
theorem QY {a b:Sta} {h:Int} {e:Ev} (c:e∈sT a b h):e.id=h:=by
 unfold sT at c
 split at c
 .obtain ⟨r,_,_,rfl⟩:=nP.1 c;rfl
 .split at c
  .rw [Bf.1 c]
  .split at c
   .rw [Bf.1 c]
   .cases c
theorem W7 {a b:Sta} {h:Int} (c:(b.run.map fun x=>x.g.id).Nodup):(sT a b h).Pairwise fun x y=>x.id<y.id:=by
 unfold sT
 split
 .exact DX c
 .split
  .exact Dq ..
  .split
   .exact Dq ..
   .exact Cz
theorem AK {a b:Sta} {e:Ev}:∀ {l:List Int},e∈vY a b l↔ ∃ h∈l,e∈sT a b h
 | []=>by unfold vY;simp
 | h::l=>by
  unfold vY
  rw [Ao,AK]
  constructor
  .rintro (e | ⟨x,c,e⟩)
   .exact ⟨h,Ak ..,e⟩
   .exact ⟨x,Ap _ c,e⟩
  .rintro ⟨x,c,e⟩
   rcases Aj.1 c with rfl | c
   .exact .inl e
   .exact .inr ⟨x,c,e⟩
theorem JS {a b:Sta} (d:(b.run.map fun x=>x.g.id).Nodup):∀ {l:List Int},l.Pairwise (· < ·)->(vY a b l).Pairwise fun x y=>x.id<y.id
 | [],_=>Cz
 | h::l,hl=>by
  have h1:=Bn.1 hl
  unfold vY
  refine Dx.2 ⟨W7 d,JS d h1.2,fun x e y c=>?_⟩
  obtain ⟨z,hz,c⟩:=AK.1 c
  have:=h1.1 z hz
  rw [QY e,QY c]
  exact this
theorem vN {a b:Sta}:∀ {l:List Rn},(l.map fun x=>x.g.id).Nodup->(evA a b l).Pairwise fun x y=>x.id≠y.id
 | [],_=>Cz
 | r::l,hn=>by
  have h1:=Bp.1 hn
  unfold evA
  refine Dx.2 ⟨?_,vN h1.2,fun x c y d e=>?_⟩
  .unfold zC
   split
   .exact Dq ..
   .exact Cz
  .obtain ⟨z,hz,_,rfl⟩:=iO.1 d
   unfold zC at c
   split at c
   .rw [Bf.1 c] at e
    exact h1.1 (Bb.2 ⟨z,hz,e.symm⟩)
   .cases c
theorem vL {a b:Sta}:∀ {l:List Rn},(l.map fun x=>x.g.id).Nodup->(evB a b l).Pairwise fun x y=>x.id≠y.id
 | [],_=>Cz
 | r::l,hn=>by
  have h1:=Bp.1 hn
  unfold evB
  refine Dx.2 ⟨?_,vL h1.2,fun x c y f e=>?_⟩
  .unfold vM
   split
   .exact Cz
   .split
    .exact Dq ..
    .exact Dq ..
  .obtain ⟨z,hz,_,rfl⟩:=iN.1 f
   have e:x.id=z.g.id:=e
   unfold vM at c
   have d:x.id=r.g.id:=by
    split at c
    .cases c
    .split at c
     .rw [Bf.1 c]
     .rw [Bf.1 c]
   exact h1.1 (Bb.2 ⟨z,hz,e.symm.trans d⟩)
theorem zY {a b:Sta} (i:(a.run.map fun x=>x.g.id).Nodup) (f:(b.run.map fun x=>x.g.id).Nodup):(evW a b).Pairwise fun x y=>x.id≠y.id:=by
 unfold evW
 refine Dx.2 ⟨vN f,vL i,fun x h y c e=>?_⟩
 obtain ⟨r,_,h1,rfl⟩:=iO.1 h
 obtain ⟨q,_,d,rfl⟩:=iN.1 c
 have e:r.g.id=q.g.id:=e
 rw [e] at h1
 exact d.2 h1.1
theorem mV:∀ {l:List Ev},(l.Pairwise fun x y=>x.id≠y.id)->∀ x∈l,∀ y∈l,x.id=y.id->x=y
 | [],_,_,hx,_,_,_=>by cases hx
 | z::l,h,x,hx,y,hy,e=>by
  have h1:=Bn.1 h
  rcases Aj.1 hx with c | d
  .rcases Aj.1 hy with a | b
   .exact c.trans a.symm
   .rw [c] at e
    exact absurd e (h1.1 y b)
  .rcases Aj.1 hy with a | b
   .rw [a] at e
    exact absurd e.symm (h1.1 x d)
   .exact mV h1.2 x d y b e
theorem UB {l:List Ev} (h:l.Pairwise fun x y=>x.id≠y.id):(fZ l).Pairwise fun x y=>x.id<y.id:=by
 have h1:(fZ l).Pairwise fun x y=>decide (x.id<=y.id)=true:=Kw (le:=fun x y:Ev=>decide (x.id<=y.id)) (fun a b c h1 d=>by simp at *;omega) (fun a b=>by simp;omega) l
 have d:(fZ l).Pairwise fun x y=>x.id≠y.id:=(Ga l _).symm.pairwise h fun e=>e.symm
 exact (h1.and d).imp fun ⟨a,b⟩=>by have:=of_decide_eq_true a;omega
theorem aCk {a b:Sta} (l:(a.run.map fun x=>x.g.id).Nodup) (j:(b.run.map fun x=>x.g.id).Nodup):fZ (evW a b)=vY a b (CM a b):=by
 obtain ⟨m,k⟩:=FU (zL a b) [] Cz
 refine GE (UB (zY l j)) (JS j m) fun e=>?_
 rw [show e∈fZ (evW a b)↔e∈evW a b from (Ga _ _).mem_iff,AK]
 have i:∀ r∈a.run,r.g.id∈CM a b:=fun r d=>(k _).2 (.inl (by unfold zL;simp only [Ao,Bb];exact .inl (.inl (.inr ⟨r,d,rfl⟩))))
 have inB:∀ r∈b.run,r.g.id∈CM a b:=fun r d=>(k _).2 (.inl (by unfold zL;simp only [Ao,Bb];exact .inr ⟨r,d,rfl⟩))
 unfold sT evW
 simp only [aGb]
 rw [Ao,iO,iN]
 constructor
 .rintro (⟨r,d,c,rfl⟩ | ⟨r,d,c,rfl⟩)
  .refine ⟨_,inB r d,?_⟩
   rw [if_pos c]
   exact nP.2 ⟨r,d,rfl,rfl⟩
  .refine ⟨_,i r d,?_⟩
   rw [if_neg (fun h=>h.2 c.1)]
   rcases iM b r.g.id with ⟨_,h⟩ | ⟨_,_,h⟩ | ⟨_,_,h⟩
   .rw [if_pos ⟨c.1,h⟩,if_pos h]
    exact Bf.2 rfl
   .exact absurd h c.2
   .rw [if_neg (by omega),if_pos ⟨c.1,h⟩,if_neg (by omega)]
    exact Bf.2 rfl
 .rintro ⟨h,_,f⟩
  have run:∀ s,pk s h=2->∃ r∈s.run,r.g.id=h:=fun s e=>by
   rcases iM s h with ⟨_,h3⟩ | ⟨_,h3,_⟩ | ⟨_,_,h3⟩
   .omega
   .exact h3
   .omega
  split at f
  .rename_i c
   obtain ⟨r,d,rfl,rfl⟩:=nP.1 f
   exact .inl ⟨r,d,c,rfl⟩
  .split at f
   .rename_i c
    obtain ⟨r,d,rfl⟩:=run a c.1
    exact .inr ⟨r,d,⟨c.1,by omega⟩,by rw [if_pos c.2];exact Bf.1 f⟩
   .split at f
    .rename_i c
     obtain ⟨r,d,rfl⟩:=run a c.1
     exact .inr ⟨r,d,⟨c.1,by omega⟩,by rw [if_neg (by omega)];exact Bf.1 f⟩
    .cases f
noncomputable abbrev fH:Func:=Tryz.f8
noncomputable abbrev Ei:Env:=Eo [5,10] [129,130,131]
theorem hEi:EnvOK Ei:=hEo _ _
abbrev idG (W:List Int):Goal:=.pure (.ret (.slice 1 (iv W) .no))
abbrev idO (a b:Sta):List AObj:=[wtS a,wtS b,.tail 0 1 3]
abbrev PE (acc:List Int) (sl:Nat) (i:Int):List (Nat×AVal):=[(2,.ref 0 0),(3,.ref 1 0),(5,.slice 1 (iv acc) (.own 2 0)),(sl,ii i)]
abbrev idP:List AObj:=[.tail 0 1 3,.tail 0 1 3]
abbrev aGF (l o:List Int) (i:Int):List (Nat×AVal):=[(5,.slice 1 (iv l) (.own 0 0)),(10,.slice 1 (iv o) (.own 1 0)),(11,ii i)]
abbrev aIT (l o:List Int) (i k:Int):List (Nat×AVal):=[(5,.slice 1 (iv l) (.own 0 0)),(10,.slice 1 (iv o) (.own 1 0)),(11,ii i),(12,ii k)]
theorem aDO {x y:Int} {r:List Int} (h:y<x):jS x (y::r)=y::jS x r:=by rw [jS,if_pos h]
theorem aDQ {y:Int} {r:List Int}:jS y (y::r)=y::r:=by rw [jS,if_neg (by omega),if_pos rfl]
theorem aDP {x y:Int} {r:List Int} (h:¬ y<x) (a:y≠x):jS x (y::r)=x::y::r:=by rw [jS,if_neg h,if_neg a]
theorem CE (x:Int):∀ l:List Int,(jS x l).length<=l.length+1
 | []=>Bi _
 | y::r=>by
  have:=CE x r
  unfold jS
  split
  .simp;omega
  .split<;>simp
theorem aH3 (l o:List Int) (i:Nat) (x:Int) (s:l[i]? =some x) (C:l.length<=4194304) (D:o.length<=4194304) (W Z:List Int) (next:To Ei fH (idG W) (.head (stk fH 4) (aGF l Z ((i+1:Nat):Int)) idP)):∀ (m k:Nat),k+m=o.length->o.take k++jS x (o.drop k)=Z->
  To Ei fH (idG W) (.head (stk fH 5) (aIT l o i k) idP):=by
 have B:(iv o).length=o.length:=by simp
 have v:=(Ac.1 s).1
 have d:(iv l)[i]? =some (ii x):=by simp [s]
 intro m
 induction m with
 | zero=>
  intro k z a
  obtain rfl:k=o.length:=by omega
  rw [Ae (Bi _),Hu] at a
  have a:o++[x]=Z:=a
  have e:iv Z=En o.length (iv o)++[ii x]++Fv o.length (iv o):=by
   rw [<-a,Cn (by simp),Ae (by simp)]
   simp
  have next:To Ei fH (idG W) (.head (stk fH 4) [(5,.slice 1 (iv l) (.own 0 0)),(10,.slice 1 (En o.length (iv o)++[ii x]++Fv o.length (iv o)) (.own 1 0)),(11,ii ((i+1:Nat):Int))] idP):=by rw [<-e];exact next
  have A:(o.length:Int)<=4194304:=by omega
  refine gW hEi ?_;conv=>whnf
  repeat' first | (refine gN hEi ?_;conv=>whnf) | refine Aa (by simp only [iv,Ck];omega) ?_ | refine ⟨o.length,rfl,?_⟩ | refine ⟨i,rfl,?_⟩ | refine ⟨_,d,?_⟩ | refine ⟨⟨by simp only [maxLen];simp;omega,by simp;omega⟩,?_⟩ | exact rfl | (refine zt ?_;try intro h) | refine zu (fun h=>?_) fun h=>?_ | fail
  refine To.part [5,10,11] [0,2] rfl rfl rfl ?_
  exact next
 | succ m j=>
  intro k z a
  have b:k<o.length:=by omega
  have w:(i:Int)<=4194304:=by omega
  have t:(k:Int)<=4194304:=by omega
  have f:(iv o)[k]? =some (ii o[k]):=by simp [b]
  rw [Ad b] at a
  have g:o.take k++o[k]::o.drop (k+1)=o:=by rw [<-Ad b];exact De k o
  have p:o.take (k+1)=o.take k++[o[k]]:=(Hz b).symm
  have r:o.drop k=o[k]::o.drop (k+1):=Ad b
  generalize o[k]=y at *
  by_cases h1:y<x
  .rw [aDO h1] at a
   have n1:=j (k+1) (by omega) (by rw [p,Ay];exact a)
   have c:decide (y<x)=true:=decide_eq_true h1
   clear j next
   refine gW hEi ?_;conv=>whnf
   repeat' first | (refine gN hEi ?_;conv=>whnf) | refine zE c ?_ | refine ⟨k,rfl,?_⟩ | refine ⟨i,rfl,?_⟩ | refine ⟨_,d,?_⟩ | refine ⟨_,f,?_⟩ | exact rfl | (refine zt ?_;try intro h) | refine zu (fun h=>?_) fun h=>?_ | fail
   refine To.part [5,10,11,12] [0,1] rfl rfl rfl ?_
   exact n1
  .clear j
   have c:decide (y<x)=false:=decide_eq_false h1
   by_cases n:y=x
   .subst n
    rw [aDQ,g] at a
    subst a
    have q:(y !=y)=false:=by simp
    refine gW hEi ?_;conv=>whnf
    repeat' first | (refine gN hEi ?_;conv=>whnf) | refine zF c ?_ | refine Aa (fun h=>absurd (h.symm.trans q) (by decide)) (fun _=>?_) | refine ⟨k,rfl,?_⟩ | refine ⟨i,rfl,?_⟩ | refine ⟨_,d,?_⟩ | refine ⟨_,f,?_⟩ | exact rfl | (refine zt ?_;try intro h) | refine zu (fun h=>?_) fun h=>?_ | fail
    refine To.part [5,10,11] [0,1] rfl rfl rfl ?_
    exact next
   .rw [aDP h1 n] at a
    have q:(y !=x)=true:=by simpa using n
    have e:iv Z=En k (iv o)++[ii x]++Fv k (iv o):=by
     rw [<-a]
     have u:o.drop k=y::o.drop (k+1):=r
     rw [<-u]
     simp
    have next:To Ei fH (idG W) (.head (stk fH 4) [(5,.slice 1 (iv l) (.own 0 0)),(10,.slice 1 (En k (iv o)++[ii x]++Fv k (iv o)) (.own 1 0)),(11,ii ((i+1:Nat):Int))] idP):=by rw [<-e];exact next
    refine gW hEi ?_;conv=>whnf
    repeat' first | (refine gN hEi ?_;conv=>whnf) | refine zF c ?_ | refine Aa (fun _=>?_) (fun h=>absurd (h.symm.trans q) (by decide)) | refine Aa (by simp only [iv,Ck];omega) ?_ | refine ⟨k,rfl,?_⟩ | refine ⟨i,rfl,?_⟩ | refine ⟨_,d,?_⟩ | refine ⟨_,f,?_⟩ | refine ⟨⟨by simp only [maxLen];simp;omega,by simp;omega⟩,?_⟩ | exact rfl | (refine zt ?_;try intro h) | refine zu (fun h=>?_) fun h=>?_ | fail
    refine To.part [5,10,11] [0,2] rfl rfl rfl ?_
    exact next
theorem aGE (l:List Int) (c:l.length<=4194304) (R:List Int):∀ (m i:Nat) (o:List Int),i+m=l.length->o.length<=i->CN (l.drop i) o=R->
  To Ei fH (idG R) (.head (stk fH 4) (aGF l o i) idP):=by
 have g:(iv l).length=l.length:=by simp
 intro m
 induction m with
 | zero=>
  intro i o hi e a
  rw [Ae (by omega)] at a
  have a:o=R:=a
  subst a
  refine gW hEi ?_;conv=>whnf
  refine aF fun h=>?_
  repeat' first | (refine gN hEi ?_;conv=>whnf) | exact rfl | (refine zt ?_;try intro h) | refine zu (fun h=>?_) fun h=>?_ | fail
 | succ m d=>
  intro i o hi e a
  have b:i<l.length:=by omega
  have f:l[i]? =some l[i]:=Ab b
  rw [Ad b] at a
  generalize l[i]=x at *
  have a:CN (l.drop (i+1)) (jS x o)=R:=a
  have n0:=aH3 l o i x f c (by omega) R _ (d (i+1) (jS x o) (by omega) (by have:=CE x o;omega) a) o.length 0 (by omega) rfl
  clear d a
  refine gW hEi ?_;conv=>whnf
  refine aT fun h=>?_
  repeat' first | (refine gN hEi ?_;conv=>whnf) | exact rfl | (refine zt ?_;try intro h) | refine zu (fun h=>?_) fun h=>?_ | fail
  refine To.part [5,10,11,12] [0,1] rfl rfl rfl ?_
  exact n0
theorem aHZ (a b:Sta) (hl:b.run.length<=1048576) (R W:List Int) (K:Nat) (o:K<=3145728) (next:To Ei fH (idG W) (.head (stk fH 4) (aGF R [] 0) idP)):∀ (m i:Nat) (c:List Int),i+m=b.run.length->c.length<=K+i->c++(b.run.drop i).map (fun x=>x.g.id)=R->
  To Ei fH (idG W) (.head (stk fH 3) (PE c 9 i) (idO a b)):=by
 have k:(rav b.run).length=b.run.length:=by simp
 intro m
 induction m with
 | zero=>
  intro i c hi l d
  rw [Ae (by omega)] at d
  have d:c++[]=R:=d
  rw [Bm] at d
  subst d
  refine gW hEi ?_;conv=>whnf
  refine aF fun h=>?_
  repeat' first | (refine gN hEi ?_;conv=>whnf) | exact rfl | (refine zt ?_;try intro h) | refine zu (fun h=>?_) fun h=>?_ | fail
  refine To.part [5,10,11] [2,3] rfl rfl rfl ?_
  exact next
 | succ m j=>
  intro i c hi l d
  have f:i<b.run.length:=by omega
  have n:(iv c).length=c.length:=by simp
  rw [Ad f] at d
  have get:(rav b.run)[i]? =some (Rn.av b.run[i]):=by simp [f]
  generalize b.run[i]=x at d get
  have n0:=j (i+1) (c++[x.g.id]) (by omega) (by simp;omega) (by rw [Ay];exact d)
  have e:iv (c++[x.g.id])=iv c++[ii x.g.id]:=by simp
  have n0:To Ei fH (idG W) (.head (stk fH 3) [(2,.ref 0 0),(3,.ref 1 0),(5,.slice 1 (iv c++[ii x.g.id]) (.own 2 0)),(9,ii ((i+1:Nat):Int))] (idO a b)):=by rw [<-e];exact n0
  clear j d
  refine gW hEi ?_;conv=>whnf
  refine aT fun h=>?_
  repeat' first | (refine gN hEi ?_;conv=>whnf) | refine ⟨i,rfl,?_⟩ | refine ⟨_,get,?_⟩ | refine ⟨⟨by simp only [maxLen];simp;omega,by simp;omega⟩,?_⟩ | exact rfl | (refine zt ?_;try intro h) | refine zu (fun h=>?_) fun h=>?_ | fail
  refine To.part [2,3,5,9] [0,1,2] rfl rfl rfl ?_
  exact n0
theorem aH0 (a b:Sta) (hl:b.pend.length<=1048576) (R W:List Int) (K:Nat) (o:K<=3145728) (next:To Ei fH (idG W) (.head (stk fH 3) (PE R 9 0) (idO a b))):∀ (m i:Nat) (c:List Int),i+m=b.pend.length->c.length<=K+i->c++(b.pend.drop i).map (fun x=>x.g.id)=R->
  To Ei fH (idG W) (.head (stk fH 2) (PE c 8 i) (idO a b)):=by
 have k:(pnv b.pend).length=b.pend.length:=by simp
 intro m
 induction m with
 | zero=>
  intro i c hi l d
  rw [Ae (by omega)] at d
  have d:c++[]=R:=d
  rw [Bm] at d
  subst d
  refine gW hEi ?_;conv=>whnf
  refine aF fun h=>?_
  repeat' first | (refine gN hEi ?_;conv=>whnf) | exact rfl | (refine zt ?_;try intro h) | refine zu (fun h=>?_) fun h=>?_ | fail
  refine To.part [2,3,5,9] [0,1,2] rfl rfl rfl ?_
  exact next
 | succ m j=>
  intro i c hi l d
  have f:i<b.pend.length:=by omega
  have n:(iv c).length=c.length:=by simp
  rw [Ad f] at d
  have get:(pnv b.pend)[i]? =some (Pn.av b.pend[i]):=by simp [f]
  generalize b.pend[i]=x at d get
  have n0:=j (i+1) (c++[x.g.id]) (by omega) (by simp;omega) (by rw [Ay];exact d)
  have e:iv (c++[x.g.id])=iv c++[ii x.g.id]:=by simp
  have n0:To Ei fH (idG W) (.head (stk fH 2) [(2,.ref 0 0),(3,.ref 1 0),(5,.slice 1 (iv c++[ii x.g.id]) (.own 2 0)),(8,ii ((i+1:Nat):Int))] (idO a b)):=by rw [<-e];exact n0
  clear j d
  refine gW hEi ?_;conv=>whnf
  refine aT fun h=>?_
  repeat' first | (refine gN hEi ?_;conv=>whnf) | refine ⟨i,rfl,?_⟩ | refine ⟨_,get,?_⟩ | refine ⟨⟨by simp only [maxLen];simp;omega,by simp;omega⟩,?_⟩ | exact rfl | (refine zt ?_;try intro h) | refine zu (fun h=>?_) fun h=>?_ | fail
  refine To.part [2,3,5,8] [0,1,2] rfl rfl rfl ?_
  exact n0
theorem aH1 (a b:Sta) (hl:a.run.length<=1048576) (R W:List Int) (K:Nat) (o:K<=3145728) (next:To Ei fH (idG W) (.head (stk fH 2) (PE R 8 0) (idO a b))):∀ (m i:Nat) (c:List Int),i+m=a.run.length->c.length<=K+i->c++(a.run.drop i).map (fun x=>x.g.id)=R->
  To Ei fH (idG W) (.head (stk fH 1) (PE c 7 i) (idO a b)):=by
 have k:(rav a.run).length=a.run.length:=by simp
 intro m
 induction m with
 | zero=>
  intro i c hi l d
  rw [Ae (by omega)] at d
  have d:c++[]=R:=d
  rw [Bm] at d
  subst d
  refine gW hEi ?_;conv=>whnf
  refine aF fun h=>?_
  repeat' first | (refine gN hEi ?_;conv=>whnf) | exact rfl | (refine zt ?_;try intro h) | refine zu (fun h=>?_) fun h=>?_ | fail
  refine To.part [2,3,5,8] [0,1,2] rfl rfl rfl ?_
  exact next
 | succ m j=>
  intro i c hi l d
  have f:i<a.run.length:=by omega
  have n:(iv c).length=c.length:=by simp
  rw [Ad f] at d
  have get:(rav a.run)[i]? =some (Rn.av a.run[i]):=by simp [f]
  generalize a.run[i]=x at d get
  have n0:=j (i+1) (c++[x.g.id]) (by omega) (by simp;omega) (by rw [Ay];exact d)
  have e:iv (c++[x.g.id])=iv c++[ii x.g.id]:=by simp
  have n0:To Ei fH (idG W) (.head (stk fH 1) [(2,.ref 0 0),(3,.ref 1 0),(5,.slice 1 (iv c++[ii x.g.id]) (.own 2 0)),(7,ii ((i+1:Nat):Int))] (idO a b)):=by rw [<-e];exact n0
  clear j d
  refine gW hEi ?_;conv=>whnf
  refine aT fun h=>?_
  repeat' first | (refine gN hEi ?_;conv=>whnf) | refine ⟨i,rfl,?_⟩ | refine ⟨_,get,?_⟩ | refine ⟨⟨by simp only [maxLen];simp;omega,by simp;omega⟩,?_⟩ | exact rfl | (refine zt ?_;try intro h) | refine zu (fun h=>?_) fun h=>?_ | fail
  refine To.part [2,3,5,7] [0,1,2] rfl rfl rfl ?_
  exact n0
theorem aH2 (a b:Sta) (hl:a.pend.length<=1048576) (R W:List Int) (K:Nat) (o:K<=3145728) (next:To Ei fH (idG W) (.head (stk fH 1) (PE R 7 0) (idO a b))):∀ (m i:Nat) (c:List Int),i+m=a.pend.length->c.length<=K+i->c++(a.pend.drop i).map (fun x=>x.g.id)=R->
  To Ei fH (idG W) (.head (stk fH 0) (PE c 6 i) (idO a b)):=by
 have k:(pnv a.pend).length=a.pend.length:=by simp
 intro m
 induction m with
 | zero=>
  intro i c hi l d
  rw [Ae (by omega)] at d
  have d:c++[]=R:=d
  rw [Bm] at d
  subst d
  refine gW hEi ?_;conv=>whnf
  refine aF fun h=>?_
  repeat' first | (refine gN hEi ?_;conv=>whnf) | exact rfl | (refine zt ?_;try intro h) | refine zu (fun h=>?_) fun h=>?_ | fail
  refine To.part [2,3,5,7] [0,1,2] rfl rfl rfl ?_
  exact next
 | succ m j=>
  intro i c hi l d
  have f:i<a.pend.length:=by omega
  have n:(iv c).length=c.length:=by simp
  rw [Ad f] at d
  have get:(pnv a.pend)[i]? =some (Pn.av a.pend[i]):=by simp [f]
  generalize a.pend[i]=x at d get
  have n0:=j (i+1) (c++[x.g.id]) (by omega) (by simp;omega) (by rw [Ay];exact d)
  have e:iv (c++[x.g.id])=iv c++[ii x.g.id]:=by simp
  have n0:To Ei fH (idG W) (.head (stk fH 0) [(2,.ref 0 0),(3,.ref 1 0),(5,.slice 1 (iv c++[ii x.g.id]) (.own 2 0)),(6,ii ((i+1:Nat):Int))] (idO a b)):=by rw [<-e];exact n0
  clear j d
  refine gW hEi ?_;conv=>whnf
  refine aT fun h=>?_
  repeat' first | (refine gN hEi ?_;conv=>whnf) | refine ⟨i,rfl,?_⟩ | refine ⟨_,get,?_⟩ | refine ⟨⟨by simp only [maxLen];simp;omega,by simp;omega⟩,?_⟩ | exact rfl | (refine zt ?_;try intro h) | refine zu (fun h=>?_) fun h=>?_ | fail
  refine To.part [2,3,5,6] [0,1,2] rfl rfl rfl ?_
  exact n0
theorem aGC (a b:Sta) (d:a.pend.length<=1048576) (j:a.run.length<=1048576) (e:b.pend.length<=1048576) (i:b.run.length<=1048576):aA Tryz.prog 8 [a.av,b.av] [] (.ret (.slice 1 (iv (CM a b)) .no)) []:=by
 have hl:(zL a b).length=a.pend.length+a.run.length+b.pend.length+b.run.length:=by unfold zL;simp;omega
 have c:=aGE (zL a b) (by omega) (CM a b) (zL a b).length 0 [] (by omega) (Bi _) rfl
 have h:=aHZ a b i _ _ 3145728 (Bi _) c b.run.length 0 ((a.pend.map (fun p=>p.g.id)++a.run.map (fun r=>r.g.id))++b.pend.map (fun p=>p.g.id)) (by omega) (by simp;omega) rfl
 have n2:=aH0 a b e _ _ 2097152 (by omega) h b.pend.length 0 (a.pend.map (fun p=>p.g.id)++a.run.map (fun r=>r.g.id)) (by omega) (by simp;omega) rfl
 have n1:=aH1 a b j _ _ 1048576 (by omega) n2 a.run.length 0 (a.pend.map (fun p=>p.g.id)) (by omega) (by simp;omega) rfl
 have n0:=aH2 a b d _ _ 0 (by omega) n1 a.pend.length 0 [] (by omega) (Bi _) rfl
 generalize CM a b=W at *
 refine cT (E:=Ei) (fn:=Tryz.f8) (g:=.pure _) fun _=>?_
 refine gW hEi ?_;conv=>whnf
 refine To.part [2,3,5,6] [0,1,2] rfl rfl rfl ?_
 exact n0
noncomputable abbrev fWe:Func:=Tryz.f3
noncomputable abbrev Ew:Env:=Eo [5] []
theorem hEw:EnvOK Ew:=hEo _ _
abbrev weG:Goal:=.pure (.ret (.bool true))
abbrev weO (a b:Sta):List AObj:=[wtS a,wtS b,.tail 0 3 46]
abbrev aDh (x:Int×Int):AObj:=.cells 37 [ii x.1,ii x.2]
abbrev weF (L:List Int) (acc:List Ev) (i:Int):List (Nat×AVal):=[(2,.ref 0 0),(3,.ref 1 0),(5,.slice 3 (evv acc) (.own 2 0)),(6,.slice 1 (iv L) .no),(7,ii i)]
abbrev weP (L:List Int) (acc:List Ev) (i:Int):List (Nat×AVal):=[(2,.ref 0 0),(3,.ref 1 0),(5,.slice 3 (evv acc) (.own 2 0)),(6,.slice 1 (iv L) .no),(7,ii i),(8,.ref 3 0),(9,.ref 4 0)]
set_option maxHeartbeats 4000000 in
theorem aFv (a b:Sta) (L:List Int) (c:List Ev) (i:Nat) (h:Int) (get:(iv L)[i]? =some (ii h)) (j:a.pend.length<=1048576) (e:a.run.length<=1048576) (g:b.pend.length<=1048576) (d:b.run.length<=1048576)
  (rest:To Ew fWe weG (.code (oU fWe 8) (weP L c i) (weO a b++[aDh (plc a h),aDh (plc b h)]))):To Ew fWe weG (.code (gQ fWe 8) (weF L c i) (weO a b)):=by
 have h1:=K7 a h j e
 have f:=K7 b h g d
 generalize plc a h=x at *
 generalize plc b h=y at *
 refine To.permTV hEw [0,1,2,3,4,6,7,8,9,10] [5,11,12,13,14,15] (by rfl) ?_;conv=>whnf
 repeat (first | (refine ⟨i,rfl,?_⟩;conv=>whnf) | (refine ⟨_,get,?_⟩;conv=>whnf))
 repeat' first
  | (refine .pure _ [] h1 ?_;conv=>whnf)
  | (refine .pure _ [] f ?_;conv=>whnf)
  | exact ⟨trivial,To.partC [2,3,5,6,7,8,9] [0,1,2,3,4] rfl rfl rfl rest⟩
  | exact ⟨trivial,To.partC [2,3,5,6,7,8,9] [0,1,2,4,3] rfl rfl rfl rest⟩
  | (refine Aa ?_ ?_;(focus ((repeat first | exact trivial | refine Aa rfl ?_ | refine Aa ⟨i,rfl,_,get,rfl⟩ ?_);done));(repeat (refine Aa ?_ ?_;rotate_left));exact trivial;all_goals (conv=>whnf))
  | fail
abbrev weI (L:List Int) (acc:List Ev) (i k:Int):List (Nat×AVal):=[(2,.ref 0 0),(3,.ref 1 0),(5,.slice 3 (evv acc) (.own 2 0)),(6,.slice 1 (iv L) .no),(7,ii i),(10,ii k)]
section
variable (a b:Sta) (L:List Int) (i:Nat) (h:Int) (get:(iv L)[i]? =some (ii h)) (hi:(i:Int)<=4194304)
include get hi
theorem aHz (s:b.run.length<=1048576) (Z:List Ev) (f:Z.length<=8000000) (next:To Ew fWe weG (.head (stk fWe 0) (weF L Z ((i+1:Nat):Int)) (weO a b))):∀ (m k:Nat) (c:List Ev),k+m=b.run.length->c++zM h (b.run.drop k)=Z->
  To Ew fWe weG (.head (stk fWe 1) (weI L c i k) (weO a b)):=by
 have r:(rav b.run).length=b.run.length:=by simp
 intro m
 induction m with
 | zero=>
  intro k c v d
  rw [Ae (by omega)] at d
  have d:c++[]=Z:=d
  rw [Bm] at d
  subst d
  refine gW hEw ?_;conv=>whnf
  refine aF fun h=>?_
  repeat' first | (refine gN hEw ?_;conv=>whnf) | exact rfl | (refine zt ?_;try intro h) | refine zu (fun h=>?_) fun h=>?_ | fail
  exact zqwe0
 | succ m l=>
  intro k c v d
  have j:k<b.run.length:=by omega
  have t:(evv c).length=c.length:=by simp
  have u:c.length<=8000000:=by rw [<-d,Bo] at f;omega
  rw [Ad j] at d
  have n:(rav b.run)[k]? =some (Rn.av b.run[k]):=by simp [j]
  generalize b.run[k]=x at d n
  unfold zM at d
  by_cases q:x.g.id=h
  .rw [if_pos q] at d
   have n0:=l (k+1) (c++[⟨1,h,x.fl⟩]) (by omega) (by rw [Ay];exact d)
   have e:evv (c++[⟨1,h,x.fl⟩])=evv c++[Ev.av ⟨1,h,x.fl⟩]:=by simp
   have n0:To Ew fWe weG (.head (stk fWe 1) [(2,.ref 0 0),(3,.ref 1 0),(5,.slice 3 (evv c++[Ev.av ⟨1,h,x.fl⟩]) (.own 2 0)),(6,.slice 1 (iv L) .no),(7,ii i),(10,ii ((k+1:Nat):Int))] (weO a b)):=by rw [<-e];exact n0
   have o:(x.g.id==h)=true:=by simpa using q
   have p:decide (x.g.id=h)=true:=decide_eq_true q
   clear l next d f
   refine gW hEw ?_;conv=>whnf
   refine aT fun h=>?_
   repeat' first | (refine gN hEw ?_;conv=>whnf) | refine zE p ?_ | refine Aa (fun _=>?_) (fun h=>absurd (h.symm.trans o) (by decide)) | refine ⟨k,rfl,?_⟩ | refine ⟨_,n,?_⟩ | refine ⟨i,rfl,?_⟩ | refine ⟨_,get,?_⟩ | refine ⟨⟨by simp only [maxLen];simp;omega,by simp;omega⟩,?_⟩ | exact rfl | (refine zt ?_;try intro h) | refine zu (fun h=>?_) fun h=>?_ | fail
   exact zqwe4
  .rw [if_neg q] at d
   have n0:=l (k+1) c (by omega) d
   have o:(x.g.id==h)=false:=by simpa using q
   have p:decide (x.g.id=h)=false:=decide_eq_false q
   clear l next d f
   refine gW hEw ?_;conv=>whnf
   refine aT fun h=>?_
   repeat' first | (refine gN hEw ?_;conv=>whnf) | refine zF p ?_ | refine Aa (fun h=>absurd (h.symm.trans o) (by decide)) (fun _=>?_) | refine ⟨k,rfl,?_⟩ | refine ⟨_,n,?_⟩ | refine ⟨i,rfl,?_⟩ | refine ⟨_,get,?_⟩ | exact rfl | (refine zt ?_;try intro h) | refine zu (fun h=>?_) fun h=>?_ | fail
   exact zqwe4
theorem aHy (q:b.run.length<=1048576) (c:List Ev) (l:(c++sT a b h).length<=8000000) (next:To Ew fWe weG (.head (stk fWe 0) (weF L (c++sT a b h) ((i+1:Nat):Int)) (weO a b))):
  To Ew fWe weG (.code (oU fWe 8) (weP L c i) (weO a b++[aDh (plc a h),aDh (plc b h)])):=by
 have r:(evv c).length=c.length:=by simp
 have s:c.length<=8000000:=by rw [Bo] at l;omega
 unfold sT at next l
 generalize plc a h=x at *
 generalize plc b h=y at *
 by_cases n:y.1=2
 .have d:(y.1==2)=true:=by simpa using n
  have g:(y.1==1)=false:=by rw [n];rfl
  have k:(y.1==0)=false:=by rw [n];rfl
  by_cases j:x.1=2
  .have f:(x.1==2)=true:=by simpa using j
   have m:(x.1 !=2)=false:=by simpa using j
   rw [if_neg (fun h=>h.2 j),if_neg (by omega),if_neg (by omega),Bm] at next
   refine gW hEw ?_;conv=>whnf
   repeat' first | (refine gN hEw ?_;conv=>whnf) | refine Aa (fun _=>?_) (fun h=>absurd (h.symm.trans d) (by decide)) | refine Aa (fun h=>absurd (h.symm.trans g) (by decide)) (fun _=>?_) | refine Aa (fun h=>absurd (h.symm.trans k) (by decide)) (fun _=>?_) | refine Aa (fun _=>?_) (fun h=>absurd (h.symm.trans f) (by decide)) | refine Aa (fun h=>absurd (h.symm.trans m) (by decide)) (fun _=>?_) | exact rfl | (refine zt ?_;try intro h) | refine zu (fun h=>?_) fun h=>?_ | fail
   exact zqwe0
  .have m:(x.1 !=2)=true:=by simpa using j
   rw [if_pos ⟨n,j⟩] at next l
   have n0:=aHz a b L i h get hi q _ l next b.run.length 0 c (by omega) rfl
   clear next
   refine gW hEw ?_;conv=>whnf
   repeat' first | (refine gN hEw ?_;conv=>whnf) | refine Aa (fun _=>?_) (fun h=>absurd (h.symm.trans d) (by decide)) | refine Aa (fun _=>?_) (fun h=>absurd (h.symm.trans m) (by decide)) | exact rfl | (refine zt ?_;try intro h) | refine zu (fun h=>?_) fun h=>?_ | fail
   exact zqwe4
 .have d:(y.1==2)=false:=by simpa using n
  rw [if_neg (fun h=>n h.1)] at next
  by_cases j:x.1=2
  .have f:(x.1==2)=true:=by simpa using j
   by_cases o:y.1=1
   .have g:(y.1==1)=true:=by simpa using o
    rw [if_pos ⟨j,o⟩] at next
    have e:evv (c++[⟨2,h,0⟩])=evv c++[Ev.av ⟨2,h,0⟩]:=by simp
    have next:To Ew fWe weG (.head (stk fWe 0) [(2,.ref 0 0),(3,.ref 1 0),(5,.slice 3 (evv c++[Ev.av ⟨2,h,0⟩]) (.own 2 0)),(6,.slice 1 (iv L) .no),(7,ii ((i+1:Nat):Int))] (weO a b)):=by rw [<-e];exact next
    refine gW hEw ?_;conv=>whnf
    repeat' first | (refine gN hEw ?_;conv=>whnf) | refine Aa (fun h=>absurd (h.symm.trans d) (by decide)) (fun _=>?_) | refine Aa (fun _=>?_) (fun h=>absurd (h.symm.trans f) (by decide)) | refine Aa (fun _=>?_) (fun h=>absurd (h.symm.trans g) (by decide)) | refine ⟨i,rfl,?_⟩ | refine ⟨_,get,?_⟩ | refine ⟨⟨by simp only [maxLen];simp;omega,by simp;omega⟩,?_⟩ | exact rfl | (refine zt ?_;try intro h) | refine zu (fun h=>?_) fun h=>?_ | fail
    exact zqwe0
   .have g:(y.1==1)=false:=by simpa using o
    rw [if_neg (fun h=>o h.2)] at next
    by_cases p:y.1=0
    .have k:(y.1==0)=true:=by simpa using p
     rw [if_pos ⟨j,p⟩] at next
     have e:evv (c++[⟨3,h,0⟩])=evv c++[Ev.av ⟨3,h,0⟩]:=by simp
     have next:To Ew fWe weG (.head (stk fWe 0) [(2,.ref 0 0),(3,.ref 1 0),(5,.slice 3 (evv c++[Ev.av ⟨3,h,0⟩]) (.own 2 0)),(6,.slice 1 (iv L) .no),(7,ii ((i+1:Nat):Int))] (weO a b)):=by rw [<-e];exact next
     refine gW hEw ?_;conv=>whnf
     repeat' first | (refine gN hEw ?_;conv=>whnf) | refine Aa (fun h=>absurd (h.symm.trans d) (by decide)) (fun _=>?_) | refine Aa (fun _=>?_) (fun h=>absurd (h.symm.trans f) (by decide)) | refine Aa (fun h=>absurd (h.symm.trans g) (by decide)) (fun _=>?_) | refine Aa (fun _=>?_) (fun h=>absurd (h.symm.trans k) (by decide)) | refine ⟨i,rfl,?_⟩ | refine ⟨_,get,?_⟩ | refine ⟨⟨by simp only [maxLen];simp;omega,by simp;omega⟩,?_⟩ | exact rfl | (refine zt ?_;try intro h) | refine zu (fun h=>?_) fun h=>?_ | fail
     exact zqwe0
    .have k:(y.1==0)=false:=by simpa using p
     rw [if_neg (fun h=>p h.2),Bm] at next
     refine gW hEw ?_;conv=>whnf
     repeat' first | (refine gN hEw ?_;conv=>whnf) | refine Aa (fun h=>absurd (h.symm.trans d) (by decide)) (fun _=>?_) | refine Aa (fun _=>?_) (fun h=>absurd (h.symm.trans f) (by decide)) | refine Aa (fun h=>absurd (h.symm.trans g) (by decide)) (fun _=>?_) | refine Aa (fun h=>absurd (h.symm.trans k) (by decide)) (fun _=>?_) | exact rfl | (refine zt ?_;try intro h) | refine zu (fun h=>?_) fun h=>?_ | fail
     exact zqwe0
  .have f:(x.1==2)=false:=by simpa using j
   rw [if_neg (fun h=>j h.1),if_neg (fun h=>j h.1),Bm] at next
   refine gW hEw ?_;conv=>whnf
   repeat' first | (refine gN hEw ?_;conv=>whnf) | refine Aa (fun h=>absurd (h.symm.trans d) (by decide)) (fun _=>?_) | refine Aa (fun h=>absurd (h.symm.trans f) (by decide)) (fun _=>?_) | exact rfl | (refine zt ?_;try intro h) | refine zu (fun h=>?_) fun h=>?_ | fail
   exact zqwe0
end
theorem NC (h:Int):∀ l:List Rn,(zM h l).length<=l.length
 | []=>Bi _
 | r::l=>by
  have:=NC h l
  unfold zM
  split<;>simp<;>omega
theorem W8 (a b:Sta) (h:Int) (c:b.run.length<=32):(sT a b h).length<=32:=by
 have:=NC h b.run
 unfold sT
 split
 .omega
 .split
  .simp
  .split<;>simp
theorem aCj (a b:Sta) (t:a.pend.length<=32) (q:a.run.length<=32) (s:b.pend.length<=32) (j:b.run.length<=32) (hi:(evW a b).Pairwise fun x y=>x.id≠y.id) (L:List Int) (r:L.length<=10000) (o:fZ (evW a b)=vY a b L):∀ (m i:Nat) (c:List Ev),i+m=L.length->c.length<=32*i->c++vY a b (L.drop i)=vY a b L->
  To Ew fWe weG (.head (stk fWe 0) (weF L c i) (weO a b)):=by
 have p:(iv L).length=L.length:=by simp
 intro m
 induction m with
 | zero=>
  intro i c hm g d
  rw [Ae (by omega)] at d
  have d:c++[]=vY a b L:=d
  rw [Bm] at d
  have k:=rW a b (by omega) (by omega) (by omega) (by omega) (mV hi)
  rw [o,<-d] at k
  have l:=aGY c c (by omega)
  rw [decide_eq_true rfl] at l
  refine gW hEw ?_;conv=>whnf
  refine aF fun h=>?_
  repeat' first | (refine gN hEw ?_;conv=>whnf) | refine .pure _ _ k ?_ | refine .pure _ [] l ?_ | refine .pure _ [] iI ?_ | exact rfl | (refine zt ?_;try intro h) | refine zu (fun h=>?_) fun h=>?_ | fail
 | succ m n=>
  intro i c hm g d
  have e:i<L.length:=by omega
  rw [Ad e] at d
  have get:(iv L)[i]? =some (ii L[i]):=by simp [e]
  generalize L[i]=h at d get
  have d:c++(sT a b h++vY a b (L.drop (i+1)))=vY a b L:=d
  have u:=W8 a b h j
  have f:(c++sT a b h).length<=32*(i+1):=by rw [Bo];omega
  have n1:=n (i+1) (c++sT a b h) (by omega) f (by rw [Ay];exact d)
  have n2:=aHy a b L i h get (by omega) (by omega) c (by omega) n1
  have key:=aFv a b L c i h get (by omega) (by omega) (by omega) (by omega) n2
  clear n n1 n2 d o hi
  refine gW hEw ?_;conv=>whnf
  refine aT fun h=>?_
  repeat' first
   | exact To.partC [2,3,5,6,7] [0,1,2] rfl rfl rfl key
   | (refine goN hEw 1 rfl ?_;conv=>whnf)
theorem FairS.runs {s:Sta} (h:FairS s):(s.run.map fun x=>x.g.id).Nodup:=by
 have h1:=h.ids
 rw [Bl,Ax,Cu] at h1
 exact h1.2.1
theorem NF (a b:Sta) (v:a.c.sm) (d:Sm a.run) (p:a.pend.length<=1048576) (y:b.c.sm) (bs:Sm b.run) (s:b.pend.length<=1048576):aA Tryz.prog 3 [a.av,b.av] [] (.ret (.bool true)) []:=by
 have h1:=oS a v d p _ rfl
 have n:=oS b y bs s _ rfl
 by_cases j:hC a=0
 .rw [j] at h1
  refine cT (E:=Ew) (fn:=Tryz.f3) (g:=.pure _) fun _=>?_
  repeat' first | (refine gN hEw ?_;conv=>whnf) | refine .pure _ [] h1 ?_ | refine .pure _ [] iI ?_ | exact rfl | (refine zt ?_;try intro h) | refine zu (fun h=>?_) fun h=>?_ | fail
 .have r:(hC a==0)=false:=by simpa using j
  have i:=wZ j
  generalize hC a=qa at *
  by_cases m:hC b=0
  .rw [m] at n
   refine cT (E:=Ew) (fn:=Tryz.f3) (g:=.pure _) fun _=>?_
   repeat' first | (refine gN hEw ?_;conv=>whnf) | refine Aa (fun h=>absurd (h.symm.trans r) (by decide)) (fun _=>?_) | refine .pure _ [] h1 ?_ | refine .pure _ [] n ?_ | refine .pure _ [] iI ?_ | exact rfl | (refine zt ?_;try intro h) | refine zu (fun h=>?_) fun h=>?_ | fail
  .have u:(hC b==0)=false:=by simpa using m
   have e:=wZ m
   generalize hC b=qb at *
   have z:=i.few
   have B:=e.few
   have h3:=aGC a b p d.1 s bs.1
   have hl:(CM a b).length<=10000:=by
    have key:∀ (l o:List Int),(CN l o).length<=l.length+o.length:=fun l=>by
     induction l with
     | nil=>intro o;show o.length<=_;simp
     | cons x l w=>
      intro o
      have q:=w (jS x o)
      have t:=CE x o
      have k:(CN (x::l) o).length=(CN l (jS x o)).length:=rfl
      rw [k,Bt]
      omega
    have q:=key (zL a b) []
    have t:(zL a b).length=a.pend.length+a.run.length+b.pend.length+b.run.length:=by unfold zL;simp;omega
    have k:CM a b=CN (zL a b) []:=rfl
    rw [k]
    rw [t,Gl] at q
    omega
   have n0:=aCj a b (by omega) (by omega) (by omega) (by omega) (zY i.runs e.runs) (CM a b) hl (aCk i.runs e.runs) (CM a b).length 0 [] (by omega) (by simp) rfl
   clear i e
   generalize CM a b=L at *
   refine cT (E:=Ew) (fn:=Tryz.f3) (g:=.pure _) fun _=>?_
   repeat' first | (refine gN hEw ?_;conv=>whnf) | refine Aa (fun h=>absurd (h.symm.trans r) (by decide)) (fun _=>?_) | refine Aa (fun h=>absurd (h.symm.trans u) (by decide)) (fun _=>?_) | refine .pure _ [] h1 ?_ | refine .pure _ [] n ?_ | refine .pure _ [] h3 ?_ | exact rfl | (refine zt ?_;try intro h) | refine zu (fun h=>?_) fun h=>?_ | fail
   refine To.part [2,3,5,6,7] [0,1,2] rfl rfl rfl ?_
   exact n0
end Go.Proofs.YtlanfgblaebddaaGreat
