/- Part 2 of what the statement rests on. -/
import Derived.Lib.ConvBytes
import Derived.MapKept
import Derived.WalkSmall
import Derived.Carry
import Derived.Orders
import Derived.Test.YtaeegbkbahgjhaaGreatDoorWA
set_option linter.all false
open Array renaming ext'->Ds,getD_eq_getD_getElem?->Bk,getElem?_append_left->Gz,getElem?_eq_none->Mj,getElem?_eq_some_iff->Ey,getElem?_setIfInBounds_ne->Ep,getElem?_setIfInBounds_self_of_lt->Ek,length_toList->Iw,range->Kn,setIfInBounds_comm->Iz,toList_map->Jv
open Bool renaming and_eq_true->Ad,and_true->Kc,false_eq_true->Cp,false_or->Nf,not_eq_true'->Cw,or_eq_true->Fb,true_and->Cz
open Decidable renaming byContradiction->Li
open Go.Builtin renaming append_->Co,clear_->Jp,copy_->Kf,delete_->Kv,firstCells->Cj,len_->Fo,zeroCells->Ci
open Go.Instr renaming alloc->Nn,buildSlice->Jy,checkKey->Hr,field->Nb,fieldAt->Lq,findAsking->Jz,findKey->Lt,findNow->Lr,index->Ln,indexAt->Ia,loadAt->Mh,lookup->Mi,mapUpdate->Ku,sameBits->Jq,slice->Lo,sliceAt->Gw,sliceBound->Jx,sliceBounds->Gp,storeAt->Ke,sureAddr->Ip,typeAssert->Ka
open Go.Region renaming binds->Jo,ready->Dy
open Go.Result renaming andThen->Ee,andThen_ok->Aq
open Go.Sem renaming run_bind->Bh,run_pure->Bz
open Go.Value renaming iface->Nc,int->Ea,ownBlock->Gl,slice->Gv
open Go.World renaming block_lt_of_cell?->Ct,cell?_of_block->Cs,ownsRow_nil->Hg
open Iff renaming rfl->Np
open Int renaming le_refl->De,toNat_natCast->Bv
open List renaming all_cons->Kb,all_eq_true->Cr,append_nil->Ar,drop_drop->Hl,drop_left->Ji,drop_zero->Cq,eq_nil_iff_forall_not_mem->Ht,eq_nil_of_length_eq_zero->Az,ext_getElem?->Eb,foldl_cons->Bc,getD_eq_getElem?_getD->Fa,getElem?_append_left->Ag,getElem?_append_right->Ak,getElem?_cons_succ->Fu,getElem?_cons_zero->Ma,getElem?_drop->Bq,getElem?_eq_getElem->Aa,getElem?_eq_none->Bi,getElem?_eq_some_iff->Ab,getElem?_map->Bg,getElem?_of_mem->Cu,getElem?_range->Dm,getElem?_replicate->Em,getElem?_set->Hf,getElem?_set_ne->Bb,getElem?_set_self->Au,getElem?_take->Gg,getElem?_take_of_lt->Bj,getElem?_toArray->Js,length_append->Ai,length_cons->Al,length_drop->Eh,length_eraseIdx_of_lt->Lf,length_map->Cc,length_nil->Bu,length_replicate->Gc,length_set->Dh,length_take->Dn,map_cons->Bl,mem_append->Ba,mem_cons->Aw,mem_of_getElem?->Av,mem_of_mem_drop->Ez,mem_of_mem_take->Cy,mem_or_eq_of_mem_set->Df,mem_replicate->Gf,nil_append->Bn,prefix_refl->Cn,range->Di,replicate->Aj,replicate_succ->Kx,size_toArray->Gn,take_left->Hn,take_length->Ge,take_of_length_le->Ch,take_zero->Im
open Nat renaming add_assoc->Kd,add_comm->Mc,add_mul->Bw,add_sub_cancel_left->Gm,add_zero->Fm,beq->Ax,ble->Fv,blt->Ff,blt_eq->Ju,div_add_mod->Fx,eq_zero_or_pos->Fp,le_of_ble_eq_true->Ck,le_refl->Bd,le_trans->Cx,lt_of_lt_of_le->Ew,lt_or_ge->Ni,lt_trans->Nj,min_eq_left->Gr,mod_lt->Fg,mul_comm->Dd,mul_le_mul_right->Br,one_mul->Gu,sub_zero->Iq,zero_add->Bp,zero_le->Bx,zero_mul->Mb
open Ne renaming symm->Ej
open Option renaming getD_some->Jw,isSome_iff_exists->Da,isSome_none->Jb,map_eq_some_iff->Cf,map_some->Mq,none->Nm
open Option.some renaming injEq->Dq
open Prod.mk renaming injEq->Lp
open UInt8 renaming ofNat->Dt
namespace Go.AW
open Go.RowKit
section
variable {P:Program} {E:Env} {M:Imm} {ob:Hs} {ac:au} {w:World} {base:Nat}
def aR{s:Sem Value}{v:aa}{u:Value}(h:s.run P w= .ok u w)(a:Rep M ob u v):PS0 P M ob w s ac base (.val v):=⟨rfl,u,h,a⟩
def aIG{b o:Nat}(l:ay)(h:∀ (i:Nat) c,l[i]? =some c->∃ u,w.cell? ⟨b,o+i,none⟩=some u/\Rep M ob u c):
  ∃ vs:ba,vs.length=l.length/\(∀ (j:Nat) u,vs[j]? =some u->w.cell? ⟨b,o+j,none⟩=some u)/\∀ (i:Nat) v a,vs[i]? =some v->l[i]? =some a->Rep M ob v a:=by
 refine ⟨(Di l.length).map λ q=>(w.cell? ⟨b,o+q,none⟩).getD undef,by simp,λ j u k=>?_,λ i v a n f=>?_⟩
 .simp only [Bg] at k;by_cases e:j<l.length
  .obtain ⟨g,d,_⟩:=h j _ (Aa e);simp_all
  grind
 .have e:i<l.length:=(Ab.1 f).1;obtain ⟨g,d,m⟩:=h i a f;simp_all
def zQ{t:Nat}{a:TI}(i:vC P t a.agg a.size a.kind)(hs:(P.info? t).map (·.size)=some a.size){b o:Nat}{vs:ba}(hl:vs.length=a.size)
  (g:∀ (j:Nat) u,vs[j]? =some u->w.cell? ⟨b,o+j,none⟩=some u) (u:Value) (k:a.agg=true->u= .agg vs.toArray) (e:a.agg=false->vs=[u]):
  (loadVar t ⟨b,o,none⟩).run P w= .ok u w:=by
 obtain ⟨h1,h⟩:=i.isAgg;unfold loadVar;simp only [Bh,xP h1,Aq,h];cases f:a.agg with
 | true=>
  have c:=run_loadCells_list (P:=P) w ⟨b,o,none⟩ vs (λ j v d=>by rw [bB];exact g j v d);rw [hl] at c;simp only [if_true,Bh,af hs,Aq,c,Bz,k f]
 | false=>
  have d:=e f;have:=g 0 u (by rw [d];rfl);rw [Fm] at this;simp only [Cp,if_false,run_load,this]
def aGU{b:TI}{l:ay}{a:aa}(h:mk b l=some a):(b.agg=true/\a= .agg l)\/(b.agg=false/\l=[a]):=by
 unfold mk at h
 grind
def NX{t:Nat}{j:TI}(d:TIOK P t j){b o:Nat}{l:ay}{a:aa}(k:mk j l=some a)(hl:l.length=j.size)
  (h:∀ (i:Nat) c,l[i]? =some c->∃ u,w.cell? ⟨b,o+i,none⟩=some u/\Rep M ob u c):∃ u,(loadVar t ⟨b,o,none⟩).run P w= .ok u w/\Rep M ob u a:=by
 obtain ⟨vs,e,f,g⟩:=aIG l h;rcases aGU k with ⟨m,rfl⟩ | ⟨m,rfl⟩
 .exact ⟨.agg vs.toArray,zQ d.kind d.size? (e.trans hl) f _ (λ_=>rfl) (λ h=>by grind),.agg vs l e g⟩
 .match vs,e with
  | [u],_=>exact ⟨u,zQ d.kind d.size? o_ f u (λ h=>by grind) (λ_=>rfl),g 0 u a rfl rfl⟩
def WI{t:Nat}{d:TI}(f:TIOK P t d){b o off:Nat}{cs:ay}
  (h:∀ (i:Nat) c,cs[off+i]? =some c->∃ u,w.cell? ⟨b,o+i,none⟩=some u/\Rep M ob u c):PS0 P M ob w (Mh t (.pointer (some ⟨b,o,none⟩))) ac base (fin d (lZ d.size (kR off cs))):=by
 unfold fin;split
 .exact trivial
 .rename_i l hl;split
  .exact trivial
  .rename_i a e;obtain ⟨h1,g⟩:=jP hl;obtain ⟨u,m,j⟩:=NX f e h1 (b:=b) (o:=o) (M:=M) (ob:=ob) (w:=w) λ i c k=>by have:=g i c k;rw [mB,Bq] at this;exact h i c this
   refine aR (u:=u) ?_ j;unfold Mh Ip
   grind
def dM.cell{v:Value}{f:Nat}{e:TypeId}{xs:ay}(h:dM M w v f e xs){b:Nat}{n c:Nat}(k:v= .slice (some ⟨b,0,none⟩) n c){i j:Nat}{x a:aa}(d:xs[i]? =some x)(l:x.cells[j]? =some a):
  ∃ u,w.cell? ⟨b,i*f+j,none⟩=some u/\Rep M [] u a:=by
 obtain ⟨cv,h1,_,h3,o,_⟩:=h;obtain ⟨u,m,g⟩:=o _ a (H7 d l (h3 x (Av d)));exact ⟨u,fK h1 (by rw [k];rfl) m,g⟩
def bZ{k:Nat}{x:ab}(h:aB ac k=x)(a:x≠ .dead):ac[k]? =some x:=bF h a
def WZ(hE:ae E)(hm:Mem M ob ac w){t:Nat}{v:Value}{a:aa}(y:Rep M ob v a):PS0 E.P M ob w (Mh t v) ac base (W0 E (aB ac) t a):=by
 unfold W0;split
 .exact trivial
 .rename_i G B;have h:=hE.tab t G B;split
  .rename_i cs;obtain ⟨b,o,rfl,D⟩:=y.ptr_inv;refine WI (off:=0) (cs:=cs) h λ i c m=>?_;rw [Bp] at m;obtain ⟨u,s,_,q⟩:=hm.imm b _ c (D i c m);exact ⟨u,s,q.pure⟩
  .rename_i k off;obtain ⟨b,rfl,l⟩:=y.ref_inv;split
   .rename_i cs d;obtain ⟨hs,h1,K,rfl,_,cv,O,r,_,f⟩:=hm.obj k _ (bZ d s_);rw [bW h1] at l;cases l;refine WI h λ i c m=>?_;have p:off+i<cv.length:=by rw [r];exact (Ab.1 m).1
    exact ⟨cv[off+i],by rw [cell_of_row w b _ _ _ (0,0) O];simp [p],f _ _ c (Aa p) m⟩
   .rename_i cs d;obtain ⟨hs,h1,K,rfl,f⟩:=hm.obj k _ (bZ d s_);rw [bW h1] at l;cases l;refine WI h λ i c m=>?_;obtain ⟨u,s,_,q⟩:=hm.imm b _ c (f _ c m);exact ⟨u,s,q.pure⟩
   .exact trivial
  .rename_i k g i J off;cases y with
   | eref k g i J off b n c l=>
   split
   .rename_i R C e xs d;refine sdc λ I=>?_;obtain ⟨z,A⟩:=aV I;obtain rfl:=aC z;obtain rfl:=aC A;intro x H;obtain ⟨hs,v,h1,Q,h3,L,N,_⟩:=hm.rowOf (bZ d s_);rw [L] at l;cases l;refine WI h λ j c F=>?_;obtain ⟨u,s,q⟩:=N.cell rfl H F;exact ⟨u,by grind,q.pure⟩
   .exact trivial
  .exact trivial
def MD{t:Nat}{a off:Nat}(h1:(P.info? t).map (·.size)=some a)(d:(P.underlying t).isSome=true)(vs:ba)(u:Value)
  (e:aK P t=true->u= .agg ((vs.drop off).take a).toArray) (c:aK P t=false->vs[off]? =some u):(part t vs.toArray off).run P w= .ok u w:=by
 unfold part;simp only [Bh,xP d,Aq];cases b:aK P t with
 | true=>
  simp only [if_true,Bh,af h1,Aq,Bz,e b];simp
 | false=>simp [c b]
def aB3{vs:ba}{cs:ay}(h:cA M ob vs cs){b off:Nat}{l:ay}(j:lZ b (kR off cs)=some l):cA M ob ((vs.drop off).take b) l:=by
 obtain ⟨h1,d⟩:=jP j;rw [mB] at d;have hl:=h.1;have c:((vs.drop off).take b).length=l.length:=by
  have:b<=(cs.drop off).length:=by
   rcases Fp b with k | k
   .omega
   .have:=d (b-1) _ (Aa o_);have:=(Ab.1 this).1;omega
  simp at this;simp;omega
 refine ⟨c,λ i v a e g=>?_⟩;have f:=d i a g;rw [Bq] at f;have m:i<b:=by rw [<-h1];grind
 rw [Bj m,Bq] at e;exact h.2 _ v a e f
def C0{t:Nat}{g off:Nat}(h1:(P.info? t).map (·.size)=some g)(j:(P.underlying t).isSome=true){vs:ba}{cs:ay}(h:cA M ob vs cs)
  {l:ay} (k:lZ g (kR off cs)=some l) {a:aa} (b:aK P t=true->a= .agg l) (c:aK P t=false->l=[a]):∃ u,(part t vs.toArray off).run P w= .ok u w/\Rep M ob u a:=by
 have hp:=aB3 h k;cases m:aK P t with
 | true=>
  rw [b m];exact ⟨_,MD h1 j vs _ (λ_=>rfl) (λ e=>by grind),.agg _ l hp.1 hp.2⟩
 | false=>
  have i:=c m;subst i;obtain ⟨o,n⟩:=hp;have d:g=1:=by have:=(jP k).1;simpa using this.symm
  subst d;have p:((vs.drop off).take 1)[0]? =vs[off]?:=by rw [Bj o_,Bq,Fm]
  have f:0<((vs.drop off).take 1).length:=by rw [o];simp
  refine ⟨((vs.drop off).take 1)[0],MD h1 j vs _ (λ e=>by grind) (λ_=>?_),n 0 _ a (Aa f) rfl⟩;simp
def aDQ(hE:ae E){s f:Nat}{v:Value}{a:aa}(r:Rep M ob v a):PS0 E.P M ob w (Nb s v f) ac base (SH E s a f):=by
 unfold SH;split
 .rename_i H _ _ _ n;have k:=hE.tab s _ n;obtain ⟨⟨b,z,A⟩,_⟩:=k.kind;split
  .exact trivial
  .rename_i off G m y;obtain ⟨g,h,p,C,D,F⟩:=A.get y;split
   .rename_i cs;split
    .exact trivial
    .rename_i l hl;obtain ⟨vs,rfl,c,q⟩:=r.agg_inv;have key:∀ x,(aK E.P g.type=true->x= .agg l)->(aK E.P g.type=false->l=[x])->PS0 E.P M ob w (Nb s (.agg vs.toArray) f) ac base (.val x):=by
      intro x h1 o;obtain ⟨u,i,j⟩:=C0 (P:=E.P) (w:=w) (t:=g.type) C D ⟨c,q⟩ hl h1 o;refine aR (u:=u) ?_ j;have d:b[f]? =some g:=by simpa using h
      unfold Nb;simp only [Bh,run_underlying z,Aq,d,asAgg,Bz,p,i]
     cases B:m with
     | true=>exact key _ (λ_=>rfl) (λ e=>by grind)
     | false=>
      simp only [cond_false];split
      .exact key _ (λ e=>by grind) (λ_=>rfl)
      .exact trivial
   .exact trivial
 .exact trivial
def KJ(hE:ae E){s f:Nat}{v:Value}{a:aa}(i:Rep M ob v a):PS0 E.P M ob w (Lq s v f) ac base (uW E s a f):=by
 unfold uW;split
 .rename_i H _ _ _ t;have m:=hE.tab s _ t;obtain ⟨⟨d,A,B⟩,_⟩:=m.kind;split
  .exact trivial
  .rename_i off q D z;obtain ⟨r,y,u,C,G,F⟩:=B.get z;have g:d[f]? =some r:=by simp_all
   cases hz:Ax q 0 with
   | true=>exact trivial
   | false=>
    simp only [cond_false];have l:¬ q=0:=λ e=>by simp_all
    have key:∀ h,(Lq s (.pointer (some h)) f).run E.P w= .ok (.pointer (some (h.add off))) w:=λ h=>by unfold Lq Ip fieldPlace;simp only [Bh,run_underlying A,Aq,g,Bz,af C,if_neg l,u]
    split
    .obtain ⟨b,o,rfl,x⟩:=i.ptr_inv;refine aR (key _) ?_;rw [bB];exact .ptr b (o+off) _ λ j c p=>by rw [mB,Bq] at p;have:=x _ c p;grind
    .obtain ⟨b,rfl,k⟩:=i.ref_inv;refine aR (key _) ?_;rw [bB];exact .ref _ _ b k
    .cases i with
     | eref _ _ _ _ _ b n c k=>
      refine aR (key _) ?_;rw [bB,Kd];exact .eref _ _ _ _ _ b n c k
    .exact trivial
 .exact trivial
def dM.len{v:Value}{c:Nat}{e:TypeId}{xs:ay}(h:dM M w v c e xs):(v= .slice none 0 0/\xs=[])\/∃ b cap,v= .slice (some ⟨b,0,none⟩) xs.length cap/\v.ownBlock=some b/\xs.length<=cap/\cap<=maxLen:=by
 obtain ⟨cv,h1,_⟩:=h;rcases dI h1 with ⟨a,h3⟩ | a
 .exact .inl ⟨a,Az h3⟩
 .exact .inr a
def gI:(maxLen:Int)<=9223372036854775807:=by decide
def KH(hE:ae E)(hm:Mem M ob ac w){t:Nat}{v Y:Value}{a i:aa}(B:Rep M ob v a)(J:Rep M ob Y i):PS0 E.P M ob w (Ia t v Y) ac base (uT E (aB ac) t a i):=by
 unfold uT;split
 .rename_i ti _ n hT;have F:=hE.tab t ti hT;obtain ⟨rfl,hri⟩:=J.int_inv;split
  .rename_i e m eb Q;have d:=F.kind;rw [Q] at d;obtain ⟨⟨R,i',z,s,hs,_⟩,_⟩:=d;have q:(E.P.info? e).map (·.size)=some m:=by grind
   have key:∀ (r:Addr) (len cap:Nat) (k:IntKind) (i:Nat),i<len->(Ia t (.slice (some r) len cap) (.int k (i:Int))).run E.P w= .ok (.pointer (some (r.add (i*m)))) w:=λ r len cap k i h1=>by unfold Ia;simp only [Bh,asIntOf,Bz,Aq,run_underlying R];rw [if_pos ⟨by omega,by omega⟩];simp only [Bh,af q,Aq,Bz,Bv]
   have slc:∀ {I:Value} {xs:ay} {tk:Tk},Rep M ob I (.slice m xs tk)->∀ (k:IntKind) (i:Nat) x,xs[i]? =some x->PS0 E.P M ob w (Ia t I (.int k (i:Int))) ac base (.val (.ptr x.cells)):=λ{I xs tk} hr k i x u=>by
    have C:i<xs.length:=(Ab.1 u).1;cases hr.untok.1 with
    | slnil=>simp at C
    | slemp=>simp at C
    | sl _ b o n1 cap _ _ hn W S hz N _=>
     refine aR (key _ n1 cap _ i o_) ?_;rw [bB];exact .ptr b _ _ λ j c hj=>N i j x c u hj
   split
   .rename_i D xs tt;refine sdc λ G=>?_;obtain rfl:=aC G;rintro i rfl x u;exact slc B _ i x u
   .rename_i k g;obtain ⟨a,n',c,rfl,f⟩:=B.row_inv;split
    .rename_i X D e' xs p;refine sdc λ A=>?_;obtain ⟨l,h⟩:=aV A;obtain rfl:=aC l;obtain rfl:=aC h;rintro i rfl s;obtain ⟨hs',v,h1,T,h3,U,h5,_⟩:=hm.rowOf (bZ p s_);rw [U] at f;cases f;rcases h5.len with ⟨V,rfl⟩ | ⟨b,cap,V,e2,_⟩
     .simp at s
     .cases V;refine aR (key _ _ _ _ i s) ?_;rw [bB,Mc 0];exact .eref k _ i D 0 b _ _ U
    .rename_i X D xs p;refine sdc λ A=>?_;obtain ⟨l,h⟩:=aV A;obtain rfl:=aC l;obtain rfl:=aC h;rintro i rfl x u;obtain ⟨hs',h1,v,T,h3⟩:=hm.obj k _ (bZ p s_);rw [bW h1,T] at f;cases f;exact slc h3.pure _ i x u
    .exact trivial
   .rename_i k g lo len D;split
    .rename_i X Z e' xs p;refine sdc λ A=>?_;obtain ⟨y,H⟩:=aV A;obtain ⟨l,h⟩:=aV y;obtain rfl:=aC l;obtain rfl:=aC h;obtain rfl:=aC H;rintro i rfl s;cases B with
     | sub _ _ _ _ _ b n' c f hl hn K S=>
      refine aR (key _ _ _ _ i s) ?_;rw [bB,<-Bw];exact .eref k _ (lo+i) D 0 b _ _ f
     | sub0=>simp at s
    .exact trivial
   .exact trivial
  .rename_i len m ea Q;have d:=F.kind;rw [Q] at d;obtain ⟨⟨e,R,q,_⟩,_⟩:=d;have key:∀ (r:Addr) k,0<=n->n.toNat<len->(Ia t (.pointer (some r)) (.int k n)).run E.P w= .ok (.pointer (some (r.add (n.toNat*m)))) w:=λ r k h0 h1=>by unfold Ia Ip;simp only [Bh,asIntOf,Bz,Aq,run_underlying R];rw [if_pos ⟨h0,by omega⟩];simp only [Bh,af q,Aq,Bz]
   split
   .rintro ⟨L,O⟩;obtain ⟨b,rfl,hb⟩:=B.ref_inv;refine aR (key _ _ L O) ?_;rw [bB];exact .ref _ _ b hb
   .rintro ⟨L,O⟩;obtain ⟨b,o,rfl,N⟩:=B.ptr_inv;refine aR (key _ _ L O) ?_;rw [bB];exact .ptr b _ _ λ j c K=>by rw [mB,Bq] at K;have:=N _ c K;rw [Kd];exact this
   .exact trivial
  .exact trivial
 .exact trivial
def aDP(hE:ae E){t:Nat}{v A:Value}{a i:aa}(s:Rep M ob v a)(b:Rep M ob A i):PS0 E.P M ob w (Ln t v A) ac base (SG E t a i):=by
 unfold SG;split
 .rename_i l k n;obtain ⟨rfl,_⟩:=b.int_inv;obtain ⟨rfl,_⟩:=s.str_inv;split
  .rename_i _ _ _ h;obtain ⟨m,_⟩:=(hE.tab t _ h).kind;rintro i rfl c y;refine ⟨rfl,.int .u8 c.toNat,?_,wC c⟩;have j:i<l.length:=(Ab.1 y).1;unfold Ln;simp only [Bh,asIntOf,Bz,Aq,run_underlying m];rw [if_pos o_];have I:(⟨l.toArray⟩:ByteArray)[i]? =some c:=by
    have:i<(⟨l.toArray⟩:ByteArray).size:=by simpa [ByteArray.size] using j
    rw [getElem?_pos (⟨l.toArray⟩:ByteArray) i this];have r:=(Ab.1 y).2;rw [<-r];rfl
   simp_all
  .exact trivial
 .rename_i cs k n;obtain ⟨rfl,_⟩:=b.int_inv;split
  .rename_i len H B _ _ _ h;obtain ⟨⟨e,m,f,o,F⟩,_⟩:=(hE.tab t _ h).kind;split
   .rename_i l hl;obtain ⟨vs,rfl,g,D⟩:=s.agg_inv;have key:∀ x,0<=n->n<len->(aK E.P e=true->x= .agg l)->(aK E.P e=false->l=[x])->PS0 E.P M ob w (Ln t (.agg vs.toArray) (.int k n)) ac base (.val x):=by intro x G h1 C h3;obtain ⟨u,p,q⟩:=C0 (P:=E.P) (w:=w) (t:=e) f o ⟨g,D⟩ hl C h3;refine aR (u:=u) ?_ q;unfold Ln;simp only [Bh,asIntOf,Bz,Aq,run_underlying m];rw [if_pos ⟨G,h1⟩];simp only [Bh,af f,Aq,p]
    cases z:B with
    | true=>exact λ d=>key _ d.1 d.2 (λ_=>rfl) (λ e=>by simp_all)
    | false=>
     simp only [cond_false];split
     .exact λ d=>key _ d.1 d.2 (λ e=>by simp_all) (λ_=>rfl)
     .exact trivial
   .exact trivial
  .exact trivial
 .exact trivial
def aLo(hE:ae E)(hm:Mem M ob ac w){t ty:TypeId}{v:Value}{a:aa}(k:Rep M ob v a):PS0 E.P M ob w (Fo #[t] ty #[v]) ac base (aLp E (aB ac) t a):=by
 unfold aLp;split
 .exact trivial
 .rename_i C B;have d:=(hE.tab t C B).kind
  have f:∀ n:Nat,(n:Int)<=9223372036854775807->inR .i64 (n:Int):=λ n h=>⟨by simp only [cJ];omega,by simp only [bE];omega⟩
  have p:Rep M ob (.int .i64 (0:Nat)) (.int .i64 (0:Nat)):=.int _ _ (f 0 d_);have slc:∀ {r:Value} {o:Nat} {xs:ay} {tk:Tk} {e:TypeId},E.P.underlying t=some (.slice e)->Rep M ob r (.slice o xs tk)->PS0 E.P M ob w (Fo #[t] ty #[r]) ac base (.val (.int .i64 xs.length)):=λ{r o xs tk e} s hr=>by obtain ⟨a,c,rfl,_,_,y⟩:=hr.slice_inv;exact aR (u:=.int .i64 xs.length) (by simp [Fo,run_underlying s,goInt]) (.int _ _ (f _ y))
  split
  .rename_i l g;rw [g] at d;obtain ⟨rfl,h⟩:=k.str_inv;exact aR (u:=.int .i64 l.length) (by simp [Fo,run_underlying d.1,goInt,pI]) (.int _ _ (f _ h))
  .rename_i g;rw [g] at d;exact slc d.1.1 k
  .rename_i g;rw [g] at d;cases k;exact aR (u:=.int .i64 (0:Nat)) (by simp [Fo,run_underlying d.1.1,goInt]) p
  .rename_i g;rw [g] at d;cases k with
   | csl _ _ _ _ b h j=>exact aR (u:=.int .i64 (Nat.cast _)) (by simp [Fo,run_underlying d.1.1,goInt]) (.int _ _ (f _ j))
  .rename_i g;rw [g] at d;cases k;exact λ j=>aR (u:=.int .i64 (Nat.cast _)) (by simp [Fo,run_underlying d.1.1,goInt]) (.int _ _ (f _ j))
  .rename_i g;rw [g] at d;obtain ⟨a,n,c,rfl,i⟩:=k.row_inv;split
   .rename_i D o e xs m;refine sdc λ x=>?_;obtain rfl:=aC x;obtain ⟨hs',v,h1,z,h3,y,F,_⟩:=hm.rowOf (bZ m s_);rw [y] at i;cases i;rcases F.len with ⟨q,rfl⟩ | ⟨b,cap,q,I,J,G⟩
    .cases q;exact aR (u:=.int .i64 (0:Nat)) (by simp [Fo,run_underlying d.1.1,goInt]) p
    .cases q;exact aR (u:=.int .i64 xs.length) (by simp [Fo,run_underlying d.1.1,goInt]) (.int _ _ (f _ (by have:=gI;omega)))
   .rename_i D o xs m;refine sdc λ x=>?_;obtain rfl:=aC x;obtain ⟨hs',h1,v,z,h3⟩:=hm.obj _ _ (bZ m s_);rw [bW h1,z] at i;cases i;exact slc d.1.1 (h3.pure (M:=M) (ob:=ob))
   .exact trivial
  .rename_i g;rw [g] at d;cases k with
   | sub _ _ _ _ _ b n c i hl A H j=>exact aR (u:=.int .i64 (Nat.cast _)) (by simp [Fo,run_underlying d.1.1,goInt]) (.int _ _ (f _ o_))
   | sub0 _ _ _ _ a K n c=>exact aR (u:=.int .i64 (0:Nat)) (by simp [Fo,run_underlying d.1.1,goInt]) p
  .rename_i _ g;rw [g] at d;obtain ⟨⟨e,s,_⟩,_⟩:=d;intro A;exact aR (u:=.int .i64 (Nat.cast _)) (by simp [Fo,run_underlying s,goInt]) (.int _ _ (f _ A))
  .exact trivial
end
def VM(P:Program)(M:Imm)(ob:Hs)(ac:au)(w:World)(s:Sem Value)(v:aa)(ao:au):Prop:=
 ∃ u w' M' ob',s.run P w= .ok u w'/\Ext M ob ac w M' ob' ao w'/\Mem M' ob' ao w'/\cK ob ac ob' ao/\Rep M' ob' u v
abbrev PM(P:Program)(M:Imm)(ob:Hs)(w:World)(s:Sem Value)(ac:au)(base:Nat)(r:OR):Prop:=Sd (VM P M ob ac w s) (λ_ _=>False) (λ_=>False) ac base r
section
variable {P:Program} {E:Env} {M:Imm} {ob:Hs} {ac:au} {w:World} {base:Nat}
def PM.of(hm:Mem M ob ac w){s:Sem Value}{r:OR}(h:PS0 P M ob w s ac base r):PM P M ob w s ac base r:=
 Sd.mono (λ v o ⟨h1,u,a,h3⟩=>⟨u,w,M,ob,a,h1▸Ext.refl _ _ _ _,h1▸hm,h1▸cK.refl _ _,h3⟩) (λ_ _ h=>h) (λ_ h=>h) h
def cB.pm{ρv:Operand->Value}{op:Op}{ty:TypeId}{r:OR}{s:Sem Value}
  (i:∀ d pos a g,execOp ρv ⟨d,op,ty,pos,a,g⟩=(s >>= λ v=>Pure.pure (.value v))) (h:PM P M ob w s ac base r):cB P ρv op ty M ob ac w base r:=
 Sd.mono (λ v o ⟨u,w',M',ob',f,h3,b,c,e⟩=>⟨u,w',M',ob',λ d pos a g=>.inl (by simp_all),h3,b,c,e⟩) (λ_ _ h=>h.elim) (λ_ h=>h.elim) h
def E5(M:Imm)(ob:Hs)(v:Option Value)(a:Option aa):Prop:=(v=none/\a=none)\/∃ u x,v=some u/\a=some x/\Rep M ob u x
def aER(v:Option Value)(q:Option Nat):Prop:=(v=none/\q=none)\/∃ (k:IntKind) (n:Nat),v=some (.int k n)/\q=some n
def sA{s:Sem Value}{a:Option Value}{l:Option aa}(h:E5 M ob a l){f:Option Nat->OR}(k:∀ q,aER a q->PS0 P M ob w s ac base (f q)):PS0 P M ob w s ac base (bnd l f):=by
 rcases h with ⟨rfl,rfl⟩ | ⟨u,x,rfl,rfl,b⟩
 .exact k none (.inl ⟨rfl,rfl⟩)
 .cases x with
  | int c n=>
   obtain ⟨rfl,_⟩:=b.int_inv;rintro i rfl;exact k (some i) (.inr ⟨c,i,rfl,rfl⟩)
  | _=>exact trivial
def aER.none{v:Option Value}(h:aER v none):v=none:=by rcases h with ⟨h,_⟩ | ⟨_,_,_,h⟩;exact h;cases h
def aER.some{v:Option Value}{n:Nat}(h:aER v (some n)):∃ k,v=some (.int k n):=by rcases h with ⟨_,h⟩ | ⟨k,n,h1,h⟩;cases h;grind
def EE{t e:TypeId}(h:P.underlying t=some (.slice e)):P.underlying t=some (.slice (P.elem t))/\P.elem t=e:=by
 have:P.elem t=e:=by simp [Program.elem,h]
 grind
def QN{v:Value}{f:Nat}{xs:ay}(h:Rep M ob v (.slice f xs .no)):∃ a n c,v= .slice a n c/\xs.length=n/\n<=c/\∀ l d,l<=d->d<=n->
  Rep M ob (sliced a l d c f) (.slice f ((xs.take d).drop l) .no)/\(Rep M ob (sliced a l d d f) (.slice f ((xs.take d).drop l) .no)):=by
 cases h with
 | slnil f=>
  refine ⟨none,0,0,rfl,rfl,Bd _,λ l d h1 u=>?_⟩;have:d=0:=o_;subst this;have:l=0:=o_;subst this;exact ⟨.slnil f .no trivial,.slnil f .no trivial⟩
 | slemp f _ a cap=>
  refine ⟨some a,0,cap,rfl,rfl,Bx _,λ l d h1 u=>?_⟩;have:d=0:=o_;subst this;have:l=0:=o_;subst this;have hs:∀ m,∃ b c,sliced (some a) 0 0 m f= .slice (some b) 0 c:=λ m=>by
   unfold sliced
   grind
  obtain ⟨F,D,w⟩:=hs cap;obtain ⟨G,C,A⟩:=hs 0;rw [w,A];exact ⟨.slemp _ _ _ _ trivial,.slemp _ _ _ _ trivial⟩
 | sl f b o n c xs _ z t B hz y=>
  refine ⟨_,n,c,rfl,z,t,λ l d h1 u=>?_⟩;have s:∀ m,d<=m->Rep M ob (sliced (some ⟨b,o,none⟩) l d m f) (.slice f ((xs.take d).drop l) .no):=by
   intro m hm;have g:((xs.take d).drop l).length=d-l:=by simp;omega
   have r:∀ x∈(xs.take d).drop l,x.cells.length=f:=λ x k=>hz x (Cy (Ez k));have p:∀ (i:Nat) x,((xs.take d).drop l)[i]? =some x->xs[l+i]? =some x:=λ i x k=>by
    rw [Bq,Gg] at k;split at k
    .exact k
    .cases k
   by_cases q:m=l
   .have e:sliced (some ⟨b,o,none⟩) l d m f= .slice (some ⟨b,o,none⟩) (d-l) (m-l):=by simp [sliced,q]
    rw [e];refine .sl f b o _ _ _ _ g o_ o_ r (λ i j x c k t=>?_) trivial;have:i<d-l:=by rw [<-g];exact (Ab.1 k).1
    omega
   .have e:sliced (some ⟨b,o,none⟩) l d m f= .slice (some ⟨b,o+l*f,none⟩) (d-l) (m-l):=by simp [sliced,q,bB]
    rw [e];refine .sl f b _ _ _ _ _ g o_ o_ r (λ i j x c k t=>?_) trivial;have:=y _ j x c (p i x k) t;rwa [Bw,<-Kd] at this
  exact ⟨s c o_,s d (Bd _)⟩
def uD{k g x y d:Nat}{a:Option Addr}{n c:Nat}(j:a=none/\n=0/\c=0\/∃ b,a=some ⟨b,0,none⟩)(h:at' ob k g=some (.slice a n c))(m:n<=c)(l:x<=y)(o:y<=n)(i:(n:Int)<=9223372036854775807):
  Rep M ob (sliced a x y c d) (.sub k g x (y-x) d):=by
 by_cases f:c=x
 .have e:sliced a x y c d= .slice a 0 0:=by have:y-x=0:=o_;simp [sliced,f,this]
  rw [e];have:y-x=0:=o_;rw [this];exact .sub0 k g x d a a n c h o_ o_
 .rcases j with ⟨rfl,rfl,rfl⟩ | ⟨b,rfl⟩
  .omega
  .have e:sliced (some ⟨b,0,none⟩) x y c d= .slice (some ⟨b,x*d,none⟩) (y-x) (c-x):=by simp [sliced,f,bB]
   rw [e];exact .sub k g x (y-x) d b n c h o_ o_ m i
def pC{k g lo x y a b n c:Nat}(f:at' ob k g=some (.slice (some ⟨b,0,none⟩) n c))(hl:lo<c)(l:n<=c)(j:x<=y)(m:lo+y<=n)(h:(n:Int)<=9223372036854775807):
  Rep M ob (sliced (some ⟨b,lo*a,none⟩) x y (c-lo) a) (.sub k g (lo+x) (y-x) a):=by
 by_cases d:c-lo=x
 .have i:y-x=0:=o_;have e:sliced (some ⟨b,lo*a,none⟩) x y (c-lo) a= .slice (some ⟨b,lo*a,none⟩) 0 0:=by simp [sliced,d,i]
  rw [e,i];exact .sub0 k g (lo+x) a _ _ n c f o_ o_
 .have e:sliced (some ⟨b,lo*a,none⟩) x y (c-lo) a= .slice (some ⟨b,(lo+x)*a,none⟩) (y-x) (c-(lo+x)):=by simp [sliced,d,bB,Bw];omega
  rw [e];exact .sub k g (lo+x) (y-x) a b n c f o_ o_ l h
def aDB(hE:ae E)(hm:Mem M ob ac w){t:TypeId}{v:Value}{a:aa}(hv:Rep M ob v a){vlo Y vmx:Option Value}{lo hi mx:Option aa}
  (L:E5 M ob vlo lo) (K:E5 M ob Y hi) (hmx:E5 M ob vmx mx):PS0 E.P M ob w (Gw t v vlo Y vmx) ac base (R7 E (aB ac) t a lo hi mx):=by
 have I:mx=none->vmx=none:=λ e=>by
  rcases hmx with ⟨h,_⟩ | ⟨_,_,_,h,_⟩
  .exact h
  grind
 have W:lo=none->vlo=none:=λ e=>by
  rcases L with ⟨h,_⟩ | ⟨_,_,_,h,_⟩
  .exact h
  grind
 have U:hi=none->Y=none:=λ e=>by
  rcases K with ⟨h,_⟩ | ⟨_,_,_,h,_⟩
  .exact h
  grind
 unfold R7;split
 .exact trivial
 .rename_i ti hT;have hti:=hE.tab t ti hT;have f:=hti.kind;split
  .rename_i l;obtain ⟨rfl,hlm⟩:=hv.str_inv;split
   .have O:=‹ti.kind=TK.str›;rw [O] at f;obtain rfl:=I rfl;have G:=f.1;have hb:∀ i j,(⟨l.toArray⟩:ByteArray).extract i j=⟨((l.take j).drop i).toArray⟩:=RG l;have hs:(⟨l.toArray⟩:ByteArray).size=l.length:=pI l;refine sA L λ D s=>sA K λ q o=>?_;cases D with
    | none=>
     obtain rfl:=s.none;cases q with
     | none=>
      obtain rfl:=o.none;refine aR (u:=.string ⟨l.toArray⟩) ?_ (.str _ hlm);rw [run_sliceAt_string w t _ _ _ _ G];unfold Lo Gp;simp only [Bh,run_underlying G,Aq,Jb,Cp,if_false,Bz,hb,hs];simp
     | some y=>
      obtain ⟨k,rfl⟩:=o.some;intro H;refine aR (u:=.string ⟨(l.take y).toArray⟩) ?_ (.str _ q_);rw [run_sliceAt_string w t _ _ _ _ G];unfold Lo Gp Jx;simp only [Bh,run_underlying G,Aq,Jb,Cp,if_false,Bz,hb,hs,asIntOf];simp_all
    | some x=>
     obtain ⟨k,rfl⟩:=s.some;cases q with
     | none=>
      obtain rfl:=o.none;intro H;refine aR (u:=.string ⟨(l.drop x).toArray⟩) ?_ (.str _ q_);rw [run_sliceAt_string w t _ _ _ _ G];unfold Lo Gp Jx;simp only [Bh,run_underlying G,Aq,Jb,Cp,if_false,Bz,hb,hs,asIntOf];simp_all
     | some y=>
      obtain ⟨k',rfl⟩:=o.some;rintro ⟨H,c2⟩;refine aR (u:=.string ⟨((l.take y).drop x).toArray⟩) ?_ (.str _ q_);rw [run_sliceAt_string w t _ _ _ _ G];unfold Lo Gp Jx;simp only [Bh,run_underlying G,Aq,Jb,Cp,if_false,Bz,hb,hs,asIntOf];rw [if_pos ⟨by omega,by omega⟩];simp;omega
   .exact trivial
  .rename_i A xs tt;split
   .rename_i e esz eb O;rw [O] at f;obtain ⟨⟨G,ie,z,hi',hs,_⟩,_⟩:=f;refine sdc λ hg=>?_;obtain rfl:=aC hg;obtain ⟨d,hel⟩:=EE G;have F:(E.P.info? (E.P.elem t)).map (·.size)=some A:=by grind
    obtain ⟨B,n,cap,rfl,Q,J,key⟩:=QN hv.untok.1;have p:=λ u:World=>af (P:=E.P) F u;refine sA L λ D s=>sA K λ q o=>sA hmx λ qmx bmx=>?_;cases qmx with
    | none=>
     obtain rfl:=bmx.none;cases D with
     | none=>
      obtain rfl:=s.none;cases q with
      | none=>
       obtain rfl:=o.none;refine aR (u:=sliced B 0 n cap A) ?_ ?_
       .rw [run_sliceAt_slice w t _ _ _ _ d,run_slice_all w t B n cap d,p];rfl
       .have:=(key 0 n o_ (Bd _)).1;rw [<-Q,Ge,Cq] at this;rw [<-Q];exact this
      | some y=>
       obtain ⟨k,rfl⟩:=o.some;intro H;refine aR (u:=sliced B 0 y cap A) ?_ ?_
       .rw [run_sliceAt_slice w t _ _ _ _ d,run_slice_h w t B n cap d k y o_ o_,p];rfl
       .have:=(key 0 y o_ o_).1;rw [Cq] at this;exact this
     | some x=>
      obtain ⟨k,rfl⟩:=s.some;cases q with
      | none=>
       obtain rfl:=o.none;intro H;refine aR (u:=sliced B x n cap A) ?_ ?_
       .rw [run_sliceAt_slice w t _ _ _ _ d,run_slice_l w t B n cap d k x o_ o_,p];rfl
       .have:=(key x n o_ (Bd _)).1;rw [<-Q,Ge] at this;rw [<-Q];exact this
      | some y=>
       obtain ⟨k',rfl⟩:=o.some;rintro ⟨H,c2⟩;refine aR (u:=sliced B x y cap A) ?_ ?_
       .rw [run_sliceAt_slice w t _ _ _ _ d,run_slice_lh w t B n cap d k k' x y o_ o_ o_,p];rfl
       .exact (key x y o_ o_).1
    | some m=>
     obtain ⟨km,rfl⟩:=bmx.some;cases D with
     | some x=>cases q<;>exact trivial
     | none=>
      obtain rfl:=s.none;cases q with
      | none=>exact trivial
      | some y=>
       obtain ⟨k,rfl⟩:=o.some;rintro ⟨H,rfl⟩;have hk2:=(key 0 m o_ o_).2;rw [Cq] at hk2;refine aR (u:=sliced B 0 m m A) ?_ ?_
       .rw [run_sliceAt_slice w t _ _ _ _ d,run_slice_hm w t B n cap d k km m m o_ (De _) o_,p];rfl
       .exact hk2.tok ⟨_,m,rfl⟩
   .exact trivial
  .rename_i k g;split
   .rename_i g' A e' xs _ hog;have O:=‹ti.kind=TK.slc _ _ _›;rw [O] at f;refine sdc λ hg=>?_;obtain ⟨hg1,Z⟩:=aV hg;obtain rfl:=aC hg1;obtain rfl:=aC Z;obtain ⟨⟨G,ie,z,hi',hs,_⟩,_⟩:=f;obtain ⟨d,hel⟩:=EE G;have F:(E.P.info? (E.P.elem t)).map (·.size)=some A:=by simp_all
    have p:=λ u:World=>af (P:=E.P) F u;obtain rfl:=I rfl;obtain ⟨B,n,cap,rfl,r⟩:=hv.row_inv;obtain ⟨hs',v,h1,h2,h3,h4,h5,_⟩:=hm.rowOf (bZ hog s_);rw [r] at h4;cases h4;have Q:n=xs.length/\n<=cap/\(n:Int)<=9223372036854775807/\(B=none/\n=0/\cap=0\/∃ b,B=some ⟨b,0,none⟩):=by
     rcases h5.len with ⟨e1,rfl⟩ | ⟨b,c,e1,e2,e3,e4⟩
     .cases e1;simp
     .cases e1;exact ⟨rfl,e3,by have:=gI;omega,.inr ⟨b,rfl⟩⟩
    obtain ⟨Q,J,C,S⟩:=Q;refine sA L λ D s=>sA K λ q o=>?_;cases D with
    | none=>
     obtain rfl:=s.none;cases q with
     | none=>
      obtain rfl:=o.none;refine aR (u:=.slice B n cap) ?_ hv;rw [run_sliceAt_slice w t _ _ _ _ d,run_slice_all w t B n cap d,p];show Result.ok (sliced B 0 n cap A) w=_;congr 1;rcases S with ⟨rfl,rfl,rfl⟩ | ⟨b,rfl⟩
      .rfl
      .simp [sliced,bB]
     | some y=>
      obtain ⟨k',rfl⟩:=o.some;intro H;refine aR (u:=sliced B 0 y cap A) ?_ (uD S r J (Bx _) o_ C);rw [run_sliceAt_slice w t _ _ _ _ d,run_slice_h w t B n cap d k' y o_ o_,p];rfl
    | some x=>
     obtain ⟨T,rfl⟩:=s.some;cases q with
     | none=>
      obtain rfl:=o.none;intro H;refine aR (u:=sliced B x n cap A) ?_ ?_
      .rw [run_sliceAt_slice w t _ _ _ _ d,run_slice_l w t B n cap d T x o_ o_,p];rfl
      .rw [<-Q];exact uD S r J o_ o_ C
     | some y=>
      obtain ⟨k',rfl⟩:=o.some;rintro ⟨H,c2⟩;refine aR (u:=sliced B x y cap A) ?_ (uD S r J o_ o_ C);rw [run_sliceAt_slice w t _ _ _ _ d,run_slice_lh w t B n cap d T k' x y o_ o_ o_,p];rfl
   .exact trivial
  .rename_i k g R len A;split
   .rename_i g' sz' e' xs _ hog;have O:=‹ti.kind=TK.slc _ _ _›;rw [O] at f;refine sdc λ hg=>?_;obtain ⟨hg12,hg3⟩:=aV hg;obtain ⟨hg1,Z⟩:=aV hg12;obtain rfl:=aC hg1;obtain rfl:=aC Z;obtain rfl:=aC hg3;obtain ⟨⟨G,ie,z,hi',hs,_⟩,_⟩:=f;obtain ⟨d,hel⟩:=EE G;have F:(E.P.info? (E.P.elem t)).map (·.size)=some A:=by rw [hel];simp [hi',hs]
    have p:=λ u:World=>af (P:=E.P) F u;obtain rfl:=I rfl;obtain ⟨hs',v,h1,h2,h3,h4,h5,_⟩:=hm.rowOf (bZ hog s_);have nl:∀ {n:Nat} {B:Option Addr} {cap:Nat},at' ob k g=some (.slice B n cap)->n=xs.length/\n<=cap:=λ{n B cap} r=>by
     rw [r] at h4;cases h4;rcases h5.len with ⟨e1,rfl⟩ | ⟨b,c,e1,e2,e3,e4⟩
     .cases e1;simp
     .cases e1;omega
    cases hv with
    | sub _ _ _ _ _ b n c r hl Q N C=>
     obtain ⟨hnx,_⟩:=nl r;refine sA L λ D s=>sA K λ q o=>?_;cases D with
     | none=>
      obtain rfl:=s.none;cases q with
      | none=>
       obtain rfl:=o.none;refine aR (u:=sliced (some ⟨b,R*A,none⟩) 0 len (c-R) A) ?_ (pC r hl N (Bx _) Q C);rw [run_sliceAt_slice w t _ _ _ _ d,run_slice_all w t _ len _ d,p];rfl
      | some y=>
       obtain ⟨k',rfl⟩:=o.some;intro H;refine aR (u:=sliced (some ⟨b,R*A,none⟩) 0 y (c-R) A) ?_ (pC r hl N (Bx _) o_ C);rw [run_sliceAt_slice w t _ _ _ _ d,run_slice_h w t _ len _ d k' y o_ o_,p];rfl
     | some x=>
      obtain ⟨T,rfl⟩:=s.some;cases q with
      | none=>
       obtain rfl:=o.none;intro H;refine aR (u:=sliced (some ⟨b,R*A,none⟩) x len (c-R) A) ?_ (pC r hl N H Q C);rw [run_sliceAt_slice w t _ _ _ _ d,run_slice_l w t _ len _ d T x o_ o_,p];rfl
      | some y=>
       obtain ⟨k',rfl⟩:=o.some;rintro ⟨H,c2⟩;refine aR (u:=sliced (some ⟨b,R*A,none⟩) x y (c-R) A) ?_ (pC r hl N H o_ C);rw [run_sliceAt_slice w t _ _ _ _ d,run_slice_lh w t _ len _ d T k' x y o_ o_ o_,p];rfl
    | sub0 _ _ _ _ a X n c r hl N=>
     obtain ⟨hnx,_⟩:=nl r;have e0:sliced X 0 0 0 A= .slice X 0 0:=by rfl
     have r0:Rep M ob (sliced X 0 0 0 A) (.sub k g R 0 A):=by rw [e0];exact .sub0 _ _ _ _ a X n c r hl N
     refine sA L λ D s=>sA K λ q o=>?_;cases D with
     | none=>
      obtain rfl:=s.none;cases q with
      | none=>
       obtain rfl:=o.none;refine aR (u:=sliced X 0 0 0 A) ?_ r0;rw [run_sliceAt_slice w t _ _ _ _ d,run_slice_all w t _ 0 _ d,p];rfl
      | some y=>
       obtain ⟨k',rfl⟩:=o.some;intro H;obtain rfl:y=0:=o_;refine aR (u:=sliced X 0 0 0 A) ?_ r0;rw [run_sliceAt_slice w t _ _ _ _ d,run_slice_h w t _ 0 _ d k' ((0:Nat):Int) o_ o_,p];rfl
     | some x=>
      obtain ⟨T,rfl⟩:=s.some;cases q with
      | none=>
       obtain rfl:=o.none;intro H;obtain rfl:x=0:=o_;refine aR (u:=sliced X 0 0 0 A) ?_ r0;rw [run_sliceAt_slice w t _ _ _ _ d,run_slice_l w t _ 0 _ d T ((0:Nat):Int) o_ o_,p];rfl
      | some y=>
       obtain ⟨k',rfl⟩:=o.some;rintro ⟨H,c2⟩;obtain rfl:y=0:=o_;obtain rfl:x=0:=o_;refine aR (u:=sliced X 0 0 0 A) ?_ r0;rw [run_sliceAt_slice w t _ _ _ _ d,run_slice_lh w t _ 0 _ d T k' ((0:Nat):Int) ((0:Nat):Int) o_ o_ o_,p];rfl
   .exact trivial
  .rename_i k off;split
   .rename_i len esz ea O;rw [O] at f;obtain ⟨⟨e,G,F,_⟩,_⟩:=f;obtain rfl:=I rfl;obtain rfl:=W rfl;obtain rfl:=U rfl;intro C;obtain ⟨b,rfl,hb⟩:=hv.ref_inv;refine aR (u:=.slice (some ⟨b,off,none⟩) len len) ?_ (.csl _ _ _ _ b hb C);unfold Gw Ip Gp;simp only [Bh,run_underlying G,Aq,Bz,af F];simp [bB]
   .exact trivial
  .rename_i cs;split
   .rename_i len O;rw [O] at f;obtain ⟨⟨e,G,F,_⟩,_⟩:=f;obtain rfl:=I rfl;obtain rfl:=W rfl;obtain rfl:=U rfl;split
    .rename_i l hl;refine sdc λ V=>?_;intro C;obtain ⟨t1,t2⟩:=jP hl;obtain ⟨b,o',rfl,hM⟩:=hv.ptr_inv;refine aR (u:=.slice (some ⟨b,o',none⟩) len len) ?_ (.sl 1 b o' len len l _ t1 (Bd _) C (λ x hx=>?_) (λ i j x c hx N=>?_) ⟨_,len,rfl⟩)
     .unfold Gw Ip Gp;simp only [Bh,run_underlying G,Aq,Bz,af F];simp [bB]
     .obtain ⟨i,hi⟩:=Cu hx;rw [oA (lN V i x hi)];rfl
     .rw [oA (lN V i x hx)] at N;cases j with
      | succ j=>simp at N
      | zero=>
       simp at N;subst N;have:=hM i x (t2 i x hx)
       grind
    .exact trivial
   .exact trivial
  .exact trivial
end
section
variable {P:Program} {E:Env} {M:Imm} {ob:Hs} {ac:au} {w:World} {base:Nat}
def aAV{α:Type}(l:List α):(l.drop 0).take l.length=l:=by simp
def aA8(hm:Mem M ob ac w){x:Value}{a:aa}(u:Rep M ob x a){y:Nat}{xs:ay}(h:aFv (aB ac) a=some (y,xs))(hs:0<y){I N:TypeId}(q:P.underlying I=some (.slice N)):
  SrcA P M w y I x xs/\∃ i c,x= .slice i xs.length c/\(i=none->xs=[]/\c=0):=by
 unfold aFv at h;split at h
 .cases h;obtain ⟨i,c,e,G,_⟩:=u.slice_inv;exact ⟨SrcA.ofSlice hm hs q u,i,c,e,G⟩
 .rename_i k g;obtain ⟨i,n,c,rfl,d⟩:=u.row_inv;split at h
  .rename_i J o e xs' f;obtain ⟨r,h⟩:=eW h;cases h;obtain rfl:=aC r;have m:=bZ f s_;obtain ⟨hs',v,h1,A,h3,j,z,_⟩:=hm.rowOf m;rw [d] at j;cases j;have hl:n=xs.length/\(i=none->xs=[]/\c=0):=by
    rcases z.len with ⟨l,rfl⟩ | ⟨b,c,l,U,V,S⟩
    .simp_all
    grind
   obtain ⟨rfl,B⟩:=hl;have:=SrcA.ofRow hm hs m q d (lo:=0) (len:=xs.length) o_ (x:=.slice i xs.length c) (λ b K t e _=>by cases e;simp) (λ h=>⟨i,c,by rw [h]⟩);rw [aAV] at this;exact ⟨this,i,c,rfl,B⟩
  .rename_i J o xs' f;obtain ⟨r,h⟩:=eW h;cases h;obtain rfl:=aC r;obtain ⟨hs',h1,v,A,h3⟩:=hm.obj _ _ (bZ f s_);rw [bW h1,A] at d;cases d;have p:=h3.pure (M:=M) (ob:=ob);obtain ⟨C,t,e,G,_⟩:=p.slice_inv;exact ⟨SrcA.ofSlice hm hs q p,C,t,e,G⟩
  .cases h
 .rename_i k g lo len y;split at h
  .rename_i J o e xs' f;obtain ⟨r,h⟩:=eW h;cases h;obtain ⟨F,H⟩:=aV r;obtain rfl:=aC F;obtain rfl:=aC H;have m:=bZ f s_;obtain ⟨hs',v,h1,A,h3,j,z,_⟩:=hm.rowOf m;cases u with
   | sub _ _ _ _ _ b n c d hl T L R=>
    rw [d] at j;cases j;have D:n=xs'.length:=by
     rcases z.len with ⟨l,_⟩ | ⟨b,c,l,_⟩
     .cases l
     grind
    have s:((xs'.drop lo).take len).length=len:=by simp;omega
    refine ⟨SrcA.ofRow hm hs m q d (lo:=lo) (len:=len) o_ (λ O K t e _=>by cases e;simp) (λ h=>⟨_,_,by rw [h]⟩),_,_,by rw [s],λ e=>by cases e⟩
   | sub0 _ _ _ _ i Q n c d hl L=>
    rw [d] at j;cases j;have D:n=xs'.length:=by
     rcases z.len with ⟨l,rfl⟩ | ⟨b,c,l,_⟩
     .simp_all
     grind
    refine ⟨SrcA.ofRow hm hs m q d (lo:=lo) (len:=0) o_ (λ O K t e h=>absurd rfl h) (λ_=>⟨_,_,rfl⟩),Q,0,by simp,λ_=>⟨by simp,rfl⟩⟩
  .cases h
 .cases h
def QK(hE:ae E)(hm:Mem M ob ac w){x:Value}{a:aa}(f:Rep M ob x a){b e:Nat}{ys:ay}(h:aA9 E (aB ac) b e a=some ys)(hs:0<b):SrcA E.P M w b e x ys:=by
 unfold aA9 at h;split at h
 .rename_i l;split at h
  .rename_i _ _ _ d;obtain ⟨g,h⟩:=eW h;cases h;obtain rfl:=aC g;obtain ⟨rfl,_⟩:=f.str_inv;exact SrcA.ofStr (hE.tab e _ d).kind.1 l
  .cases h
 .split at h
  .rename_i _ _ _ _ _ _ d;cases h;cases f;exact ⟨⟨[],Src.ofNil w (hE.tab e _ d).kind.1.1 0,λ q c j=>by simp [aH] at j⟩,λ y i=>by simp at i,λ m hm=>CV hm⟩
  .cases h
 .split at h
  .rename_i _ _ _ _ _ _ n xs d k;obtain ⟨g,h⟩:=eW h;cases h;obtain rfl:=aC g;exact (aA8 hm f k hs (hE.tab e _ d).kind.1.1).1
  .cases h
def aBk{s d e:TypeId}{a:Option Addr}{l:ax}{c:Nat}(t:P.underlying s=some (.slice e))(y:P.underlying e=some (.int .u8))(q:P.underlying d=some .string)
  (v:a=none->l=[]/\c=0) (hs:SrcA P M w 1 s (.slice a l.length c) (l.map ub)):(convert s d (.slice a l.length c)).run P w= .ok (.string ⟨l.toArray⟩) w:=by
 rw [run_convert_bytes_string w s d e a l.length c t y q];cases a with
 | none=>
  obtain ⟨rfl,rfl⟩:=v rfl;rfl
 | some a=>
  obtain ⟨⟨news,b,o⟩,_⟩:=hs;have x:news.length=l.length:=by rw [b.newsLen];simp
  have g:news=(l.map λ c=>(c.toNat:Int)).map (Ea .u8):=by
   refine Eb λ j=>?_;by_cases m:j<l.length
   .obtain ⟨u,i,k⟩:=o j (ub l[j]) (by rw [yW,Aa m];rfl);rw [i,k.int_inv.1];simp [Aa m]
   .rw [Bi o_,Bi q_]
  have h:(loadCells a l.length).run P w= .ok news.toArray w:=by have:=b.cells;rw [Cc] at this;have e:Cj 1 l.length (.slice (some a) l.length c)=loadCells a (l.length*1):=rfl;rw [e,Nat.mul_one] at this;exact this
  rw [g] at h;rw [run_bytesToString w a l.length c _ h];congr 2;have f:∀ (l:ax) (r:ByteArray),(l.map λ c=>(c.toNat:Int)).foldl (λ r n=>r.push (Dt n.toNat)) r=⟨r.data++l.toArray⟩:=by
   intro l;induction l with
   | nil=>simp
   | cons c l p=>
    intro r;simp only [Bl,Bc,p];simp
  rw [f];simp
def A6(w:World)(e:TypeId)(s:ByteArray):(Lib.bytesWorld w e s).os=w.os/\(Lib.bytesWorld w e s).tape=w.tape/\(Lib.bytesWorld w e s).output=w.output:=⟨rfl,rfl,rfl⟩
def aH7(hE:ae E)(hm:Mem M ob ac w){s d:TypeId}{v:Value}{a:aa}(C:Rep M ob v a):PM E.P M ob w (convert s d v) ac base (aDT E (aB ac) s d a):=by
 unfold aDT;split
 .rename_i Q N hs R;have f:=(hE.tab s Q hs).kind;have g:=(hE.tab d N R).kind;obtain ⟨r,_⟩:=f.isAgg;obtain ⟨ds,G⟩:=Da.1 r;split
  .rename_i k k0 n t;rw [t] at g;obtain ⟨rfl,_⟩:=C.int_inv;have key:(convert s d (.int k0 n)).run E.P w= .ok (.int k (k.wrap n)) w:=by simp [convert,run_underlying G,run_underlying g.1,Conv.intToInt]
   refine PM.of hm ⟨λ hp=>⟨rfl,_,by rw [key,kB hp],.int _ _ hp⟩,rfl,_,key,.int _ _ (kH _ _)⟩
  .rename_i l t;rw [t] at g;obtain ⟨rfl,hl⟩:=C.str_inv;split
   .rename_i m;rw [m] at f;refine PM.of hm (aR (u:=.string ⟨l.toArray⟩) ?_ (.str _ hl));simp [convert,run_underlying f.1,run_underlying g.1]
   .exact trivial
  .rename_i e Y l t;rw [t] at g;obtain ⟨⟨H,_⟩,_⟩:=g;obtain ⟨rfl,hl⟩:=C.str_inv;split
   .rename_i _ _ _ m K;rw [m] at f;have z:=(hE.tab e _ K).kind.1;have q:=Lib.run_convert_string_bytes (P:=E.P) w s d e ⟨l.toArray⟩ f.1 H z;rw [pI] at q;obtain ⟨q1,Z,W⟩:=A6 w e ⟨l.toArray⟩;have key:∀ (j:Nat) c,l[j]? =some c->(Lib.bytesWorld w e ⟨l.toArray⟩).cell? ⟨w.heap.size,j,none⟩=some (.int .u8 c.toNat):=λ j c L=>by have F:j<l.length:=(Ab.1 L).1;rw [Lib.bytesWorld_cell w e ⟨l.toArray⟩ j (by rw [pI];exact F)];simp [List.getD,L]
    obtain ⟨S,X⟩:=hm.more (M':=λ b o y=>M b o y\/(b=w.heap.size/\∃ c,l[o]? =some c/\y=ub c)) (w':=Lib.bytesWorld w e ⟨l.toArray⟩) (λ_ _ _ h=>.inl h) (λ b o y A=>by
      rcases A with A | ⟨rfl,_⟩
      .exact .inl A
      omega) (λ b o y A=>by
      rcases A with A | ⟨rfl,c,B,rfl⟩
      .obtain ⟨v,h1,O,h3⟩:=hm.imm b o y A;exact ⟨v,(Lib.bytesWorld_old w e _ _ (Ct w _ h1)).trans h1,O,h3.monoM λ_ _ _ h=>.inl h⟩
      .exact ⟨_,key o c B,rfl,wC c⟩) (λ b V=>Lib.bytesWorld_at_old w e _ b V) q1 Z W (by rw [Lib.bytesWorld_size];omega)
    refine ⟨_,_,_,ob,q,X,S,cK.refl _ _,.sl 1 w.heap.size 0 _ _ _ _ s_ (grownCap_ge w _ 0 e) hl (λ x D=>T3 l x D) (λ i j x c D B=>?_) trivial⟩;rw [Bg] at D;obtain ⟨U,T,rfl⟩:=Cf.1 D;cases j with
    | succ j=>simp [ub,aa.cells] at B
    | zero=>
     simp [ub,aa.cells] at B;subst B;exact .inr ⟨rfl,U,by simp;omega,rfl⟩
   .exact trivial
  .have t:=‹N.kind=TK.str›;rw [t] at g;split
   .rename_i e Y xs m hL;rw [m] at f;split
    .rename_i _ _ _ K;have z:=(hE.tab e _ K).kind.1;intro l I J;subst I;obtain ⟨p,ad,c,rfl,h0⟩:=aA8 (P:=E.P) hm C hL d_ f.1.1;refine ⟨_,w,M,ob,?_,Ext.refl _ _ _ _,hm,cK.refl _ _,.str l J⟩;rw [Cc] at p⊢;exact aBk f.1.1 z g.1 (λ e=>by grind) p
    .exact trivial
   .exact trivial
  .exact trivial
 .exact trivial
def HF(off:Nat):∀ (l:ba) (k:Nat) (cells:Array Value),((l.zipIdx k).foldl (λ(cs:Array Value) (p:Value×Nat)=>cs.setIfInBounds (off+p.2) p.1) cells).size=cells.size/\
  ∀ (i:Nat),((l.zipIdx k).foldl (λ(cs:Array Value) (p:Value×Nat)=>cs.setIfInBounds (off+p.2) p.1) cells)[i]? =if off+k<=i/\i<off+k+l.length/\i<cells.size then l[i-(off+k)]? else cells[i]?
 | [],k,cells=>by
  refine ⟨rfl,λ i=>?_⟩;simp;omega
 | c::l,k,cells=>by
  obtain ⟨h1,d⟩:=HF off l (k+1) (cells.setIfInBounds (off+k) c);simp only [List.zipIdx_cons,Bc];refine ⟨by rw [h1];simp,λ i=>?_⟩;rw [d];simp only [Array.size_setIfInBounds,Al];by_cases b:i=off+k
  .subst b;rw [if_neg o_];by_cases hs:off+k<cells.size
   .rw [if_pos ⟨by omega,by omega,hs⟩];simp [hs]
   .rw [if_neg o_];rw [Array.getElem?_setIfInBounds_self];simp [hs]
  .rw [Ep o_];by_cases a:off+(k+1)<=i/\i<off+(k+1)+l.length/\i<cells.size
   .rw [if_pos a,if_pos ⟨by omega,by omega,a.2.2⟩];have:i-(off+k)=(i-(off+(k+1)))+1:=o_;rw [this,Fu]
   .rw [if_neg a,if_neg o_]
def E4(M:Imm)(ob:Hs)(vs:List (Nat×Value))(as:ar):Prop:=
 vs.length=as.length/\∀ (i:Nat) (p:Nat×Value) (q:Nat×aa),vs[i]? =some p->as[i]? =some q->p.1=q.1/\Rep M ob p.2 q.2
def uQ{place d:Nat->Option (Nat×Nat)}(hp:∀ i p,d i=some p->place i=some p):
  ∀ {b:ar} {vparts:List (Nat×Value)} {cs cs':ay} {cells:Array Value},EF d cs b=some cs'->cA M ob cells.toList cs->E4 M ob vparts b->
   ∃ a,Instr.fill place cells vparts=some a/\cA M ob a.toList cs':=by
 intro b;induction b with
 | nil=>
  intro vparts cs cs' cells h s hl;have:vparts=[]:=Az hl.1;subst this;cases h;exact ⟨cells,rfl,s⟩
 | cons q b I=>
  intro vparts cs cs' cells h s hl;obtain ⟨hl,F⟩:=hl;obtain ⟨i,x⟩:=q
  match vparts,hl with
  | (i',v)::vparts,hl=>
   obtain ⟨D,f⟩:=F 0 _ _ rfl rfl;dsimp only at D f;subst D;simp only [EF] at h;split at h
   .cases h
   .rename_i off R z;obtain ⟨N,t⟩:=eW h;obtain ⟨B,w⟩:=aV N;have A:x≠ .undef:=λ e=>by subst e;cases B
    have l:=aC w;rw [xJ] at l;split at t
    .rename_i C o;obtain ⟨S,Q,K⟩:=kL o;obtain ⟨G,y⟩:=f.cells A;have O:v.cells.size=x.cells.length:=o_;obtain ⟨U,L⟩:=HF off v.cells.toList 0 cells;have P:cells.size=cs.length:=by have:=s.1;omega
     have g:v.cells.zipIdx.foldl (λ(cs:Array Value) (x:Value×Nat)=>match x with | (c,j)=>cs.setIfInBounds (off+j) c) cells=(v.cells.toList.zipIdx 0).foldl (λ(cs:Array Value) (p:Value×Nat)=>cs.setIfInBounds (off+p.2) p.1) cells:=by rw [<-Array.foldl_toList];simp
     have k:cA M ob ((v.cells.toList.zipIdx 0).foldl (λ(cs:Array Value) (p:Value×Nat)=>cs.setIfInBounds (off+p.2) p.1) cells).toList C:=by
      refine ⟨by simp;omega,λ j u c m n=>?_⟩;rw [Array.getElem?_toList,L j] at m;rw [K j] at n;simp only [Fm] at m;by_cases r:off<=j/\j<off+x.cells.length
      .rw [if_pos r] at n;rw [if_pos ⟨by omega,by omega,by omega⟩] at m;exact y _ u c m n
      .rw [if_neg r] at n;rw [if_neg o_] at m;exact s.2 j u c q_ n
     obtain ⟨a,H,J⟩:=I (vparts:=vparts) t k ⟨by simpa using hl,λ i p q hp T=>F (i+1) p q q_ q_⟩;refine ⟨a,?_,J⟩;simp only [Instr.fill,hp _ _ z];rw [if_neg]
     .rw [g];exact H
     simp;omega
    .cases t
def AB{P:Program}:∀ {a:List Field} {b:List (Nat×Nat×Bool)},oV P a b->a.mapM (λ f=>(P.info? f.type).map λ i=>(f.offset,i.size))=some (b.map λ f=>(f.1,f.2.1))
 | [],[],_=>rfl
 | [],_::_,h=>h.elim
 | _::_,[],h=>h.elim
 | f::a,(off,sz,ag)::b,h=>by obtain ⟨h1,e,h3,g,c⟩:=h;obtain ⟨i,d,rfl⟩:=Cf.1 e;simp [List.mapM_cons,d,AB c,h1]
def U9{α β:Type}(f:α->β):∀ (l:List α) (n:Nat),(nth l n).map f=(l.map f)[n]?
 | [],_=>by simp [nth]
 | x::_,0=>rfl
 | _::r,n+1=>by simpa [nth] using U9 f r n
def aDV(hE:ae E){t:TypeId}{g:ar}{vparts:Array (Nat×Value)}(hl:E4 M ob vparts.toList g):PS0 E.P M ob w (Instr.build t vparts) ac base (SJ E t g):=by
 unfold SJ;split
 .rename_i J H;have r:=hE.tab t J H;obtain ⟨info,z,G,I,hz,N,h,_,_⟩:=r.info;have c:=r.kind;split
  .rename_i Q B u k;rw [u] at c;obtain ⟨⟨F,y,L⟩,_⟩:=c;split
   .rename_i cs d;rw [k] at h;cases h with
    | agg vs as q l=>
     have j:cA M ob vs.toArray.toList B:=⟨by omega,λ i v a K x=>kA (l i v a o_ x)⟩
     obtain ⟨b,s,m⟩:=uQ (place:=((Q.map λ f=>(f.1,f.2.1)).toArray[·]?)) (λ i p hp=>by rw [U9] at hp;simpa using hp) d j hl;have o:E.P.built t vparts.toList=some b:=by simp only [Program.built,G,y,hz,AB L];exact s
     have:b=b.toList.toArray:=by simp
     rw [this] at o;exact aR (run_build w t vparts _ o) (.agg _ _ m.1 m.2)
   .exact trivial
  .rename_i n O R B u k;rw [u] at c;obtain ⟨⟨e,y,A,_⟩,_⟩:=c;obtain ⟨D,C,rfl⟩:=Cf.1 A;split
   .rename_i cs d;rw [k] at h;cases h with
    | agg vs as q l=>
     have j:cA M ob vs.toArray.toList B:=⟨by omega,λ i v a K x=>kA (l i v a o_ x)⟩
     obtain ⟨b,s,m⟩:=uQ (place:=λ i=>some (i*D.size,D.size)) (λ i p hp=>hp) d j hl;have o:E.P.built t vparts.toList=some b:=by simp only [Program.built,G,y,hz,C];exact s
     have:b=b.toList.toArray:=by simp
     rw [this] at o;exact aR (run_build w t vparts _ o) (.agg _ _ m.1 m.2)
   .exact trivial
  .exact trivial
 .exact trivial
end
section
variable {P:Program} {E:Env} {M:Imm} {ob:Hs} {ac:au} {w:World} {base:Nat}
def Mem.bare(h:Mem M ob ac w):Mem M [] [] w:=
 ⟨h.imm,rfl,λ k c a=>by simp at a,λ k b ⟨c,hs,h1,_⟩=>by simp at h1,λ k k' b ⟨c,hs,h1,_⟩=>by simp at h1⟩
def aCd:aB []=λ_=>ab.dead:=by rfl
def Mem.pure0(h:Mem M ob ac w){v:Value}{a:aa}(b:Rep (λ_ _ _=>False) [] v a):Rep M [] v (AW.ah (λ_=>.dead) 4 a):=by have:=h.bare.pureV 4 v a (kA b);rwa [aCd] at this
def zO{t:Nat}{a:Addr}{v:Value}{w':World}(hs:(P.info? t).map (·.size)=some v.cells.size)(h:(storeCells a v.cells.toList).run P w= .ok () w'):
  (Ke t (.pointer (some a)) v).run P w= .ok () w':=by
 unfold Ke Ip storeVar;simp only [Bh,Bz,Aq,af hs,ne_eq,not_true_eq_false,if_false];exact h
def QX{y:aa}{new cs':ay}{off:Nat}(f:nL off new y.cells=some cs')(d:pF new=true):(aKg y cs').cells=cs':=by
 obtain ⟨j,h,g⟩:=kL f;by_cases i:∃ as,y= .agg as
 .obtain ⟨as,rfl⟩:=i;rfl
 .have a:y.cells=[y]:=by cases y<;>first | rfl | grind
  have e:aKg y cs'=aJa cs':=by cases y<;>first | rfl | grind
  rw [e];rw [a] at h g
  match cs',h,g with
  | [c],_,g=>
   show c.cells=[c]
   have b:=g 0;simp only [Ma] at b;split at b
   .exact oA (lN d _ c b.symm)
   .simp at b;rw [b];exact a
def YB{a:Nat}{xs:ay}{i off:Nat}{y k:aa}{new:ay}(hs:0<a)(l:xs[i]? =some y)(hz:y.cells.length=a)
  (h1:off+new.length<=a) (n:∀ (j:Nat),k.cells[j]? =if off<=j/\j<off+new.length then new[j-off]? else y.cells[j]?) {q:Nat} {c:aa} (h:aH a (xs.set i k) q=some c):
  (i*a+off<=q/\q<i*a+off+new.length/\new[q-(i*a+off)]? =some c)\/((q<i*a+off\/i*a+off+new.length<=q)/\aH a xs q=some c):=by
 have f:i<xs.length:=(Ab.1 l).1;obtain ⟨z,hz1,hz2⟩:=gB h;have g:a*(q / a)+q % a=q:=Fx q a;have m:=Fg q hs;by_cases b:q / a=i
 .rw [b,Au f] at hz1;cases hz1;rw [n] at hz2;rw [b,Dd] at g;split at hz2
  .rename_i e;left;refine ⟨by omega,by omega,?_⟩;rw [show q-(i*a+off)=q % a-off from by omega];exact hz2
  .rename_i e;right;refine ⟨by omega,?_⟩;unfold aH;rw [b,l];exact hz2
 .rw [Bb (Ej b)] at hz1;right;refine ⟨?_,?_⟩
  .rcases Ni (q / a) i with d | o
   .left;have:(q / a+1)*a<=i*a:=Br _ d;rw [Bw,Dd] at this;omega
   .right;have:(i+1)*a<=q / a*a:=Br _ o_;rw [Bw,Dd (q / a)] at this;omega
  .unfold aH;rw [hz1];exact hz2
def VU(P:Program)(M:Imm)(ob:Hs)(ac:au)(w:World)(s:Sem Unit)(v:aa)(ao:au):Prop:=
 v= .undef/\∃ w' M' ob',s.run P w= .ok () w'/\Ext M ob ac w M' ob' ao w'/\Mem M' ob' ao w'/\cK ob ac ob' ao
def aDA(hE:ae E)(hm:Mem M ob ac w){t:Nat}{v u:Value}{a x:aa}(o:Rep M ob v a)(hu:Rep M ob u x):
  Sd (VU E.P M ob ac w (Ke t v u)) (λ_ _=>False) (λ_=>False) ac base (R6 E (aB ac) t a x):=by
 unfold R6;split
 .exact trivial
 .rename_i ti hT;have hti:=hE.tab t ti hT;refine sdc λ hg=>?_;obtain ⟨R,S⟩:=aV hg;obtain ⟨hcl,C,hcr⟩:=hu.cells_one R;have Y:u.cells.size=ti.size:=by
   have:=aC S;rw [xJ] at this
   grind
  have hs:(E.P.info? t).map (·.size)=some u.cells.size:=by rw [Y];exact hti.size?
  split
  .rename_i k off;obtain ⟨b,rfl,hb⟩:=o.ref_inv;split
   .rename_i T' cs D;have F:=bZ D s_;split
    .rename_i cs' f;obtain ⟨p1,p2,p3⟩:=kL f;obtain ⟨hs0,e1,b',rfl,hM,cv,hh,hlen',Q,L⟩:=hm.obj k _ F;have hbb:b'=b:=by rw [bW e1] at hb;simpa using hb
     subst hbb;have W:off+u.cells.toList.length<=cv.length:=o_;obtain ⟨q1,q2⟩:=fJ cv u.cells.toList off W;have hst:=run_storeCells_at E.P b' off T' u.cells.toList 0 cv.toArray w hh o_ C;simp only [Fm] at hst
     have:=hm.cellsTurn (cs':=cs') (cv':=cv.take off++u.cells.toList++cv.drop (off+u.cells.toList.length)) F hb o_ (λ v o=>by
       simp only [Ba] at o;rcases o with (o | o) | o
       .exact Q v (Cy o)
       .exact C v o
       .exact Q v (Ez o)) (λ i v c r l=>by
       rw [q2 i] at r;rw [p3 i,<-hcl] at l;split at r
       .rename_i B;rw [if_pos B] at l;exact hcr _ v c r l
       .rename_i B;rw [if_neg B] at l
        exact L i v c r l)
     refine ⟨rfl,_,M,ob,zO hs hst,?_⟩;rw [aP F];exact ⟨this.2.1,this.1,this.2.2⟩
    .exact trivial
   .exact trivial
  .rename_i k g i h off;cases o with
   | eref _ _ _ _ _ b n c K=>
   split
   .rename_i g' sz' e xs D;have F:=bZ D s_;refine sdc λ hg2=>?_;obtain ⟨O,m⟩:=aV hg2;obtain ⟨hg3,H⟩:=aV O;obtain ⟨hg4,hg5⟩:=aV hg3;obtain rfl:=aC hg4;obtain rfl:=aC hg5;have d:0<h:=Ck H;have hpu:=hm.pureV 4 u x hu;obtain ⟨hcl',_,V⟩:=hpu.cells_one m;obtain ⟨hs0,v0,e1,e2,e3,e4,A,_⟩:=hm.rowOf F;have hrl:=A.len;rw [K] at e4;cases e4;obtain ⟨cv,_,_,hz,_⟩:=A
    have U:∀ {y N:aa},0<h->xs[i]? =some y->off+(ah (aB ac) 4 x).cells.length<=h->(∀ (j:Nat),N.cells[j]? =if off<=j/\j<off+(ah (aB ac) 4 x).cells.length then (ah (aB ac) 4 x).cells[j-off]? else y.cells[j]?)->
      N.cells.length=h->VU E.P M ob ac w (Ke t (.pointer (some ⟨b,i*h+off,none⟩)) u) .undef (bM ac k (.row g h e (xs.set i N))):=by
     intro y N d s h1 h2 h3;have G:i<xs.length:=(Ab.1 s).1;have X:(i+1)*h<=xs.length*h:=Br _ G;rw [Bw,Gu] at X
     obtain ⟨w',r1,r2,r3,r4⟩:=hm.rowWrite (P:=E.P) (xs':=xs.set i N) F K d (p:=i*h+off) (news:=u.cells.toList) o_ C s_ (λ z I=>by
       rcases Df I with I | rfl
       .exact hz z I
       .exact h3) (λ q c hq=>by
       rcases YB d s (hz y (Av s)) h1 h2 hq with ⟨a1,a2,a3⟩ | ⟨a1,a2⟩
       .left;refine ⟨a1,by omega,?_⟩;have J:q-(i*h+off)<u.cells.toList.length:=o_;exact ⟨_,Aa J,V _ _ c (Aa J) a3⟩
       .right
        exact ⟨by omega,a2⟩)
     refine ⟨rfl,w',M,ob,zO hs r1,?_⟩;rw [aP F];exact ⟨r3,r2,r4⟩
    cases hq:(Ax off 0&&Ax ti.size h) with
    | true=>
     obtain ⟨ho1,Z⟩:=aV hq;obtain rfl:=aC ho1;have hts:=aC Z;intro G;have hnl:(ah (aB ac) 4 x).cells.length=h:=by
      have:u.cells.toList.length=u.cells.size:=by simp
      omega
     have s:=Aa G;have hyz:=hz _ (Av s)
     exact U d s o_ (λ j=>by
       split
       .rfl
       .rw [Bi o_,Bi o_]) hnl
    | false=>
     intro y s;dsimp only;split
     .rename_i cs' f;obtain ⟨p1,p2,p3⟩:=kL f;have hyz:=hz y (Av s);have T:=QX f m;exact U d s o_ (λ j=>by rw [T];exact p3 j) (by rw [T];omega)
     .exact trivial
   .exact trivial
  .exact trivial
end
section
variable {P:Program} {E:Env} {M:Imm} {ob:Hs} {ac:au} {w:World} {base:Nat}
def Mem.rowSplice(hm:Mem M ob ac w){k g a:Nat}{e:TypeId}{xs ys:ay}(m:ac[k]? =some (.row g a e xs)){b n cap:Nat}(t:at' ob k g=some (.slice (some ⟨b,0,none⟩) n cap))(hs:0<a){i:Nat}(o:i+ys.length<=xs.length)
  (hz:∀ y∈ys,y.cells.length=a) {news:ba} (hl:news.length=ys.length*a) (h1:∀ u∈news,u.oneCell'=true) (s:∀ (q:Nat) c,aH a ys q=some c->∃ u,news[q]? =some u/\Rep M [] u c):
  ∃ w',(storeCells ⟨b,i*a,none⟩ news).run P w= .ok () w'/\Mem M ob (ac.set k (.row g a e (xs.take i++ys++xs.drop (i+ys.length)))) w'/\
   Ext M ob ac w M ob (ac.set k (.row g a e (xs.take i++ys++xs.drop (i+ys.length)))) w'/\cK ob ac ob (ac.set k (.row g a e (xs.take i++ys++xs.drop (i+ys.length)))):=by
 obtain ⟨x,C,A,D,F,B,j,_⟩:=hm.rowOf m;obtain ⟨cv,_,_,f,_⟩:=j;have h:(i+ys.length)*a<=xs.length*a:=Br _ o;rw [Bw] at h;refine hm.rowWrite (P:=P) m t hs (p:=i*a) (news:=news) o_ h1 q_ (λ y d=>?_) (λ q c v=>?_)
 .simp only [Ba] at d;rcases d with (d | d) | d
  .exact f y (Cy d)
  .exact hz y d
  .exact f y (Ez d)
 .rcases FQ hs o v with ⟨r,l,z⟩ | ⟨r,l⟩
  .left;exact ⟨r,by omega,s _ c z⟩
  .right;exact ⟨by omega,l⟩
def qX{xs:ay}{i:Nat}:xs.take i++[]++xs.drop (i+0)=xs:=by simp
def pR(hm:Mem M ob ac w)(a:ac[base]? =some .dead)(d:ob[base]? =some []){s:Sem Value}{f:Nat}{e:TypeId}{v:Value}{w':World}{xs:ay}(i:s.run P w= .ok v w')(g:Grown M w w' f e v xs){hint:Nat}:
  PM P M ob w s ac base (pS hint base f e xs):=by
 have j:base<ob.length:=(Ab.1 d).1;unfold pS;split
 .obtain ⟨h1,h,h3⟩:=g.row hm a d;refine ⟨v,w',M,ob.set base [v],i,?_⟩;rw [aP a];refine ⟨h,h1,h3,?_⟩;obtain ⟨cv,k,_⟩:=g.own;have c:at' (ob.set base [v]) base 0=some v:=by rw [bW (Au j)];rfl
  rcases dI k with ⟨q,_⟩ | ⟨b,cap,q,_⟩
  .rw [q] at c⊢;exact .row _ _ _ _ _ c
  .rw [q] at c⊢;exact .row _ _ _ _ _ c
 .obtain ⟨h1,h,h3,l⟩:=g.tail hm a d;refine ⟨v,w',hZ M v f xs,ob.set base [v],i,?_⟩;rw [aP a]
  grind
def G8(hm:Mem M ob ac w){s:Sem Value}{a:Nat}{e:TypeId}{v:Value}{w':World}{xs:ay}(c:s.run P w= .ok v w')(g:Grown M w w' a e v xs){t:Tk}(d:tK ob v t):PM P M ob w s ac base (.val (.slice a xs t)):=by obtain ⟨h1,b⟩:=g.more hm;obtain ⟨cv,f,_⟩:=g.own;exact ⟨v,w',_,ob,c,b,h1,cK.refl _ _,kD f g.hz d⟩
def ZX(hE:ae E)(hm:Mem M ob ac w)(R:ac[base]? =some .dead)(N:ob[base]? =some []){hint:Nat}{t t2 ty:TypeId}{v x:Value}{s a:aa}(J:Rep M ob v s)(hx:Rep M ob x a):
  PM E.P M ob w (Co #[t,t2] ty #[v,x]) ac base (sZ E hint base (aB ac) t t2 s a):=by
 unfold sZ;split
 .rename_i e esz eb _ _ _ hT;obtain ⟨⟨Q,i,z,L,hsz,heb,hz,C,hz1⟩,_⟩:=(hE.tab t _ hT).kind;subst hsz heb;refine sdc λ hp=>?_;have d:0<i.size:=Ck hp;split
  .exact trivial
  .rename_i ys hys;have h:=QK hE hm hx hys d;split
   .rename_i sz xs tk;split
    .rename_i k g;split
     .rename_i g' sz' e' u;refine sdc λ F=>?_;obtain ⟨m,O⟩:=aV F;obtain ⟨j,r⟩:=aV m;obtain ⟨B,p⟩:=aV j;obtain rfl:=aC B;have U:=aC r;have Z:=aC p;subst Z;subst U;have q4:=aC O;subst q4;rintro ⟨G,D⟩;have A:=bZ u s_;obtain ⟨I,w',M',ob',o,l,S,V,r5⟩:=hm.appendTail (P:=E.P) (ty:=ty) Q L hz hz1 C d A J h G D;refine ⟨I,w',M',ob',o,?_⟩;rw [aP A];exact ⟨S,l,V,r5⟩
     .exact trivial
    .refine sdc λ F=>?_;have q:=aC F;subst q;rintro ⟨G,D⟩;obtain ⟨_,T⟩:=J.untok;obtain rfl:v= .slice none 0 0:=T;obtain ⟨I,w',o,l⟩:=append_nil (P:=E.P) (ty:=ty) hm Q L hz hz1 C d h G D;exact pR hm R N o l
    .refine sdc λ F=>?_;have q:=aC F;subst q;rintro ⟨G,D⟩;obtain ⟨I,w',o,l⟩:=P2 (P:=E.P) (ty:=ty) hm Q L hz hz1 C d J h G D;split
     .rcases l with ⟨rfl,rfl,rfl⟩ | ⟨_,l⟩
      .refine ⟨I,w',M,ob,o,Ext.refl _ _ _ _,hm,cK.refl _ _,?_⟩;rw [Ar];exact J.untok.1
      .exact G8 hm o l trivial
     .intro Y;rcases l with ⟨_,rfl,rfl⟩ | ⟨q,_⟩
      .exact ⟨I,w',M,ob,o,Ext.refl _ _ _ _,hm,cK.refl _ _,J⟩
      .exact absurd Y q
     .intro Y;rcases l with ⟨q,_⟩ | ⟨_,l⟩
      .grind
      .exact pR hm R N o l
    .exact trivial
   .rintro ⟨G,D⟩;cases J;obtain ⟨I,w',o,l⟩:=append_nil (P:=E.P) (ty:=ty) hm Q L hz hz1 C d h G D;exact pR hm R N o l
   .rename_i k g;split
    .rename_i g' sz e' xs u;refine sdc λ F=>?_;obtain ⟨j,r⟩:=aV F;obtain ⟨B,p⟩:=aV j;obtain rfl:=aC B;have Z:=aC p;subst Z;have U:=aC r;subst U;rintro ⟨G,D⟩;have A:=bZ u s_;obtain ⟨W,n,c,rfl,f⟩:=J.row_inv;obtain ⟨I,w',ob',o,l,S,V,r5⟩:=hm.appendRow (P:=E.P) (ty:=ty) Q L hz hz1 C d A f h G D;refine ⟨I,w',M,ob',o,?_⟩;rw [aP A];exact ⟨S,l,V,r5⟩
    .exact trivial
   .rename_i k g lo len sz;split
    .rename_i g' sz' e' xs u;refine sdc λ F=>?_;obtain ⟨m,O⟩:=aV F;obtain ⟨j,r⟩:=aV m;obtain ⟨B,p⟩:=aV j;obtain rfl:=aC B;have U:=aC r;have Z:=aC p;subst Z;subst U;have q4:=aC O;subst q4;intro hfit;have A:=bZ u s_;obtain ⟨hs0,v0,e1,e2,e3,e4,X,_⟩:=hm.rowOf A;have hnl:∀ {W n c},at' ob k g=some (.slice W n c)->n=xs.length:=λ{W n c} f=>by rw [f] at e4;cases e4;rcases X.len with ⟨q,rfl⟩ | ⟨b,cap,q,_⟩<;>cases q<;>rfl
     obtain ⟨⟨news,H,s2⟩,hz',_⟩:=h;cases J with
     | sub _ _ _ _ _ b n c f hl hn hc hmm=>
      have:=hnl f;obtain ⟨w',o,l,S,V⟩:=hm.rowSplice (P:=E.P) (ys:=ys) (i:=lo+len) (news:=news) A f d o_ hz' H.newsLen H.one s2;refine ⟨.slice (some ⟨b,lo*i.size,none⟩) (len+ys.length) (c-lo),w',M,ob,?_,?_⟩
      .have hst:(storeCells ((⟨b,lo*i.size,none⟩:Addr).add (len*i.size)) news).run E.P w= .ok () w':=by rw [bB,<-Bw];exact o
       have K:len+ys.length<=c-lo:=o_;rcases H.kind with ⟨e',y⟩ | y<;>simp [Co,run_underlying Q,run_underlying y,sizeOf,typeInfo,L,H.len,K,H.cells,hst]
      .rw [aP A];exact ⟨S,l,V,.sub _ _ _ _ _ b n c f hl o_ hc hmm⟩
     | sub0 _ _ _ _ W a' n c f hl hc=>
      have:=hnl f;have hy0:ys=[]:=Az o_;subst hy0;have hn0:news=[]:=Az (by rw [H.newsLen];simp);subst hn0;refine ⟨.slice a' 0 0,w,M,ob,?_,?_⟩
      .have hc0:(Cj i.size 0 x).run E.P w= .ok #[] w:=H.cells;have hl0:∀ w,(Builtin.lenOf x).run E.P w= .ok 0 w:=H.len;rcases H.kind with ⟨e',y⟩ | y<;>cases a'<;>simp [Co,run_underlying Q,run_underlying y,sizeOf,typeInfo,L,hl0,hc0,storeCells]
      .rw [aP A];have:ac.set k (.row g i.size e (xs.take (lo+0)++[]++xs.drop (lo+0+([]:ay).length)))=ac:=by rw [Bu,qX];exact fT A
       rw [this];exact ⟨Ext.refl _ _ _ _,hm,cK.refl _ _,.sub0 _ _ _ _ W a' n c f hl hc⟩
    .exact trivial
   .exact trivial
 .exact trivial
end
section
variable {P:Program} {E:Env} {M:Imm} {ob:Hs} {ac:au} {w:World} {base:Nat}
def aCu{α:Type}(l:List α)(n:Nat):l.drop (min n l.length)=l.drop n:=by simp
def aH6(hE:ae E)(hm:Mem M ob ac w){t T ty:TypeId}{v x:Value}{d a:aa}(hv:Rep M ob v d)(hx:Rep M ob x a):
  PM E.P M ob w (Kf #[t,T] ty #[v,x]) ac base (aDS E (aB ac) t T d a):=by
 unfold aDS;split
 .rename_i e esz eb _ _ _ hT;obtain ⟨⟨hu,i,z,hi,R,S,hz,hzs,hz1⟩,_⟩:=(hE.tab t _ hT).kind;subst R S;refine sdc λ hp=>?_;have j:0<i.size:=Ck hp
  have B:∀ n:Nat,(n:Int)<=9223372036854775807->inR .i64 (n:Int):=λ n h=>⟨by simp only [cJ];omega,by simp only [bE];omega⟩
  split
  .exact trivial
  .rename_i ys V;obtain ⟨⟨Z,s1,_⟩,hz',u⟩:=QK hE hm hx V j
   have run:∀ {A:Option Addr} {n c m:Nat} {news:ba} {w':World},m=min ys.length n->(Cj i.size m x).run E.P w= .ok news.toArray w->(∀ a,A=some a->(storeCells a news).run E.P w= .ok () w')->(A=none->w'=w)->
     (Kf #[t,T] ty #[.slice A n c,x]).run E.P w= .ok (.int .i64 (m:Nat)) w':=by
    intro A n c m news w' h1 h2 h3 h4;subst h1;have C:Nat.min ys.length n=min ys.length n:=rfl;cases A with
    | none=>
     rw [h4 rfl];simp [Kf,run_underlying hu,s1.len,C,sizeOf,typeInfo,hi,h2,goInt]
    | some a=>
     simp [Kf,run_underlying hu,s1.len,C,sizeOf,typeInfo,hi,h2,h3 a rfl,goInt]
   have put:∀ {k g:Nat} {xs:ay} {b n cap p m:Nat},ac[k]? =some (.row g i.size e xs)\/(∃ r,ac[k]? =some (.row g i.size r xs))->True:=λ_=>trivial;clear put
   -- the elements that are written
   have key:∀ {k g:Nat} {r:TypeId} {xs:ay} {b n cap p m:Nat},ac[k]? =some (.row g i.size r xs)->at' ob k g=some (.slice (some ⟨b,0,none⟩) n cap)->m<=ys.length->p+m<=xs.length->
     ∃ (news:ba) (w':World),(Cj i.size m x).run E.P w= .ok news.toArray w/\(storeCells ⟨b,p*i.size,none⟩ news).run E.P w= .ok () w'/\
      Mem M ob (ac.set k (.row g i.size r (xs.take p++ys.take m++xs.drop (p+m)))) w'/\Ext M ob ac w M ob (ac.set k (.row g i.size r (xs.take p++ys.take m++xs.drop (p+m)))) w'/\cK ob ac ob (ac.set k (.row g i.size r (xs.take p++ys.take m++xs.drop (p+m)))):=by
    intro k g r xs b n cap p m l f Y hpm;obtain ⟨news,n1,n2,G,F⟩:=u m Y;have s:(ys.take m).length=m:=by simp;omega
    obtain ⟨w',r1,r2,r3,r4⟩:=hm.rowSplice (P:=E.P) (ys:=ys.take m) (i:=p) (news:=news) l f j o_ (λ y hy=>hz' y (Cy hy)) (by rw [s];exact n2) G (λ q c hq=>by
     have D:=fM j hq;rw [s] at D;rw [mZ j D] at hq
     exact F q c D hq)
    rw [s] at r2 r3 r4;exact ⟨news,w',n1,r1,r2,r3,r4⟩
   split
   .rename_i k g;split
    .rename_i g' sz r xs I;refine sdc λ U=>?_;obtain ⟨J,H⟩:=aV U;obtain rfl:=aC J;have Q:=aC H;subst Q;have l:=bZ I s_;obtain ⟨A,n,c,rfl,f⟩:=hv.row_inv;obtain ⟨hs0,v0,e1,e2,e3,L,o,_⟩:=hm.rowOf l;rw [f] at L;cases L;rcases o.len with ⟨q,rfl⟩ | ⟨b,cap,q,Q,q3,q4⟩
     .cases q;obtain ⟨news,n1,n2,_⟩:=u 0 (Bx _);refine ⟨.int .i64 ((0:Nat):Int),w,M,ob,run (m:=0) s_ n1 (λ a h=>by cases h) (λ_=>rfl),?_⟩;rw [aP l];have:ac.set k (.row g i.size r (ys.take ([]:ay).length++([]:ay).drop ys.length))=ac:=by simp only [Bu,Im,List.drop_nil,Ar];exact fT l
      rw [this];exact ⟨Ext.refl _ _ _ _,hm,cK.refl _ _,by simpa using Rep.int .i64 0 (B 0 d_)⟩
     .cases q;obtain ⟨news,w',n1,n2,G,F,N⟩:=key (p:=0) (m:=min ys.length xs.length) l f (Nat.min_le_left _ _) o_;rw [Mb] at n2;refine ⟨.int .i64 ((min ys.length xs.length:Nat):Int),w',M,ob,run rfl n1 (λ a h=>by cases h;exact n2) (λ h=>by cases h),?_⟩;rw [aP l];have e0:xs.take 0++ys.take (min ys.length xs.length)++xs.drop (0+min ys.length xs.length)=ys.take xs.length++xs.drop ys.length:=by
       rw [Im,Bn,Bp,aCu];congr 1;by_cases h:ys.length<=xs.length
       .rw [Gr h,Ge,Ch h]
       .rw [Nat.min_eq_right o_]
      rw [e0] at G F N;have hmx:=gI;have:min ys.length xs.length<=xs.length:=Nat.min_le_right _ _;exact ⟨F,G,N,.int _ _ (B _ o_)⟩
    .exact trivial
   .rename_i k g lo len sz;split
    .rename_i g' sz' r xs I;refine sdc λ U=>?_;obtain ⟨K,X⟩:=aV U;obtain ⟨J,H⟩:=aV K;obtain rfl:=aC J;have q3:=aC X;have Q:=aC H;subst Q;subst q3;have l:=bZ I s_;obtain ⟨hs0,v0,e1,e2,e3,L,o,_⟩:=hm.rowOf l;have O:∀ {A n c},at' ob k g=some (.slice A n c)->n=xs.length:=λ{A n c} f=>by rw [f] at L;cases L;rcases o.len with ⟨q,rfl⟩ | ⟨b,cap,q,_⟩<;>cases q<;>rfl
     cases hv with
     | sub _ _ _ _ _ b n c f hl hn hc hmm=>
      have:=O f;obtain ⟨news,w',n1,n2,G,F,N⟩:=key (p:=lo) (m:=min ys.length len) l f (Nat.min_le_left _ _) o_;refine ⟨.int .i64 ((min ys.length len:Nat):Int),w',M,ob,run rfl n1 (λ a h=>by cases h;exact n2) (λ h=>by cases h),?_⟩;rw [aP l];have e0:ys.take (min ys.length len)=ys.take len:=by
       by_cases h:ys.length<=len
       .rw [Gr h,Ge,Ch h]
       .rw [Nat.min_eq_right o_]
      rw [e0] at G F N;have:min ys.length len<=len:=Nat.min_le_right _ _;exact ⟨F,G,N,.int _ _ (B _ o_)⟩
     | sub0 _ _ _ _ A a' n c f hl hc=>
      have:=O f;obtain ⟨news,n1,n2,_⟩:=u 0 (Bx _);have W:news=[]:=Az o_;subst W;refine ⟨.int .i64 ((0:Nat):Int),w,M,ob,run (m:=0) s_ n1 (λ a h=>rfl) (λ_=>rfl),?_⟩;rw [aP l];have:ac.set k (.row g i.size r (xs.take lo++ys.take 0++xs.drop (lo+min ys.length 0)))=ac:=by rw [Im,Nat.min_zero,qX];exact fT l
      rw [this];exact ⟨Ext.refl _ _ _ _,hm,cK.refl _ _,by simpa using Rep.int .i64 0 (B 0 d_)⟩
    .exact trivial
   .exact trivial
 .exact trivial
def xT{z:Value}{a:aa}(k:Rep M [] z a)(l:a≠ .undef){b:Nat}(hz:z.cells.size=b)(hs:0<b){n:Nat}{cv:ba}(hl:cv.length=n*b)(m:∀ q,q<n*b->cv[q]? =z.cells.toList[q % b]?):
  (∀ y∈Aj n a,y.cells.length=b)/\∀ (q:Nat) c,aH b (Aj n a) q=some c->∃ u,cv[q]? =some u/\Rep M [] u c:=by
 obtain ⟨h1,j⟩:=k.cells l;have o:z.cells.toList.length=b:=o_;refine ⟨λ y g=>by rw [(Gf.1 g).2];omega,λ q c h=>?_⟩;have e:=fM hs h;rw [Gc] at e;obtain ⟨y,g,f⟩:=gB h;have:=Av g;rw [(Gf.1 this).2] at f;have i:=Fg q hs;rw [m q e];have d:q % b<z.cells.toList.length:=o_;exact ⟨_,Aa d,j _ _ c (Aa d) f⟩
def tL{z:Array Value}{n:Nat}:(Ci z n).toList.length=n*z.size/\∀ q,q<n*z.size->(Ci z n).toList[q]? =z.toList[q % z.size]?:=by
 refine ⟨by simp [Ci],λ q b=>?_⟩;have hs:0<z.size:=by grind
 have a:=Fg q hs;simp only [Ci,Jv,Bg,Array.toList_range];simp_all
def FJ{z:Array Value}{n:Nat}(hs:0<z.size):(madeCells z n).toList.length=n/\∀ q,q<n->(madeCells z n).toList[q]? =z.toList[q % z.size]?:=by refine ⟨by simp [madeCells],λ q b=>?_⟩;have a:=Fg q hs;simp only [madeCells,Jv,Bg,Array.toList_range];simp_all
def XJ{z:Array Value}{cv:ba}{n:Nat}(h:z.toList.all (·.oneCell')=true)(hl:cv.length=n)(d:∀ q,q<n->∃ j:Nat,cv[q]? =z.toList[j]?):∀ u∈cv,u.oneCell'=true:=λ u c=>by obtain ⟨q,b⟩:=Cu c;obtain ⟨j,a⟩:=d q (by grind);rw [b] at a;exact Cr.1 h u (Av a.symm)
def BI{a:aa}(h:DC a=true):a≠ .undef:=λ e=>by subst e;cases h
def aDU(hE:ae E)(hm:Mem M ob ac w){t ty:TypeId}{v:Value}{d:aa}(l:Rep M ob v d):PM E.P M ob w (Jp #[t] ty #[v]) ac base (SI E (aB ac) t d):=by
 unfold SI;split
 .rename_i e esz eb _ _ _ hT;obtain ⟨⟨Q,i,z,W,B,C,hz,x,hz1⟩,_⟩:=(hE.tab t _ hT).kind;subst B C;split
  .rename_i A G;refine sdc λ hp=>?_;obtain ⟨R,L⟩:=aV hp;have j:0<i.size:=Ck R;obtain ⟨i',z',p,hsz',y,hzs',K,s,hne⟩:=(hE.tab e A G).info;rw [W] at p;cases p;rw [hz] at y;cases y;split
   .rename_i k g lo len sz;split
    .rename_i g' sz' e' xs N;refine sdc λ hg=>?_;obtain ⟨o,H⟩:=aV hg;obtain ⟨T,F⟩:=aV o;obtain rfl:=aC T;have q3:=aC H;have q2:=aC F;subst q2;subst q3;have m:=bZ N s_;obtain ⟨hs0,v0,e1,e2,e3,V,r,_⟩:=hm.rowOf m;have U:∀ {I n c},at' ob k g=some (.slice I n c)->n=xs.length:=λ{I n c} f=>by rw [f] at V;cases V;rcases r.len with ⟨q,rfl⟩ | ⟨b,cap,q,_⟩<;>cases q<;>rfl
     have same:len=0->ac.set k (.row g i.size e' (xs.take lo++Aj len (ah (λ_=>.dead) 4 A.zero)++xs.drop (lo+len)))=ac:=λ h=>by subst h;rw [List.replicate_zero,qX];exact fT m
     cases l with
     | sub _ _ _ _ _ b n c f hl hn hc hmm=>
      have:=U f;by_cases h0:len=0
      .refine ⟨.tuple #[],w,M,ob,?_,?_⟩
       .subst h0;simp [Jp,run_underlying Q]
       .rw [aP m,same h0];exact ⟨Ext.refl _ _ _ _,hm,cK.refl _ _,.tup [] [] rfl λ i v a l=>by simp at l⟩
      .have S:=hm.pure0 K;obtain ⟨O,D⟩:=tL (z:=z.cells) (n:=len);rw [x] at O D;have u:ah (λ_=>.dead) 4 A.zero≠ .undef:=BI L;obtain ⟨r1,r2⟩:=xT (M:=M) S u x j O D;obtain ⟨w',s1,Z,X,Y⟩:=hm.rowSplice (P:=E.P) (ys:=Aj len (ah (λ_=>.dead) 4 A.zero)) (i:=lo) (news:=(Ci z.cells len).toList) m f j q_ r1 q_ (XJ s O λ q hq=>⟨_,D q hq⟩) r2;rw [Gc] at Z X Y;refine ⟨.tuple #[],w',M,ob,?_,?_⟩
       .have J:(zeroValue e).run E.P w= .ok z w:=by simp [zeroValue,typeInfo,W,hz]
        cases len with
        | zero=>omega
        | succ len=>simp [Jp,run_underlying Q,J,s1]
       .rw [aP m];exact ⟨X,Z,Y,.tup [] [] rfl λ i v a l=>by simp at l⟩
     | sub0 _ _ _ _ I a' n c f hl hc=>
      refine ⟨.tuple #[],w,M,ob,?_,?_⟩
      .cases a'<;>simp [Jp,run_underlying Q]
      .rw [aP m,same rfl];exact ⟨Ext.refl _ _ _ _,hm,cK.refl _ _,.tup [] [] rfl λ i v a l=>by simp at l⟩
    .exact trivial
   .exact trivial
  .exact trivial
 .exact trivial
def aH4(hE:ae E)(hm:Mem M ob ac w)(v:ac[base]? =some .dead)(u:ob[base]? =some []){t:TypeId}{F K:Value}{n c:aa}(Q:Rep M ob F n)(T:Rep M ob K c){hint:Nat}:
  PM E.P M ob w (Instr.makeSlice t F K) ac base (WY E hint base t n c):=by
 unfold WY;split
 .rename_i e X eb _ _ _ k a k' b N;obtain ⟨⟨S,i,z,I,p,r,hz,l,hz1⟩,_⟩:=(hE.tab t _ N).kind;subst p r;split
  .rename_i L D;refine sdc λ hp=>?_;obtain ⟨A,y⟩:=aV hp;have f:0<i.size:=Ck A;obtain ⟨i',Z,h,H,o,J,s,j,R⟩:=(hE.tab e L D).info;rw [I] at h;cases h;rw [hz] at o;cases o;obtain ⟨rfl,_⟩:=Q.int_inv;obtain ⟨rfl,_⟩:=T.int_inv;rintro m rfl ⟨rfl,O,c3⟩;have V:=gI;have d:=run_make (P:=E.P) w t e i z S I hz k k' (m:Int) (m:Int) o_ (De _) O o_;rw [Bv] at d;have x:=hm.pure0 s;obtain ⟨G,B⟩:=FJ (z:=z.cells) (n:=m*i.size) o_;rw [l] at B;obtain ⟨Y,U⟩:=xT (M:=M) x (BI y) l f G B;have g:=Grown.ofAlloc (M:=M) (w:=w) (e:=e) (xs:=Aj m (ah (λ_=>.dead) 4 L.zero)) (cv:=(madeCells z.cells (m*i.size)).toList) f q_ (XJ j G λ q W=>⟨_,B q W⟩) Y q_ U;have C:(madeCells z.cells (m*i.size)).toList.toArray=madeCells z.cells (m*i.size):=by simp
   rw [C,Gc] at g;exact pR (hint:=2) hm v u d g
  .exact trivial
 .exact trivial
def W6:∀ (new l:ay),new.length<=l.length->∃ r,S2 new l=some r
 | [],l,_=>⟨l,rfl⟩
 | _::_,[],h=>by simp at h
 | c::new,d::l,h=>by obtain ⟨r,a⟩:=W6 new l (by grind);exact ⟨c::r,by simp [S2,a]⟩
def H4:∀ (off:Nat) (new l:ay),off+new.length<=l.length->∃ r,nL off new l=some r
 | 0,new,l,h=>by obtain ⟨r,a⟩:=W6 new l o_;exact ⟨r,by simpa [nL] using a⟩
 | n+1,new,[],h=>by simp at h
 | n+1,new,c::l,h=>by obtain ⟨r,a⟩:=H4 n new l (by grind);exact ⟨c::r,by simp [nL,a]⟩
def MX(og:Nat->ab)(l:ar):ar:=l.map λ p=>(p.1,ah og 4 p.2)
def KK(og:Nat->ab)(d:Nat):∀ {b:ar} {n:Nat} {xs:ay} {base:ay},EG og d n b=some xs->(n+b.length)*d<=base.length->
  ∃ cs',EF (λ i=>some (i*d,d)) base (MX og b)=some cs'/\cs'.length=base.length/\(∀ o,o<n*d->cs'[o]? =base[o]?)/\xs.length=b.length/\
   (∀ x∈xs,x.cells.length=d/\pF x.cells=true)/\∀ (i j:Nat) x c,xs[i]? =some x->x.cells[j]? =some c->cs'[(n+i)*d+j]? =some c:=by
 intro b;induction b with
 | nil=>intro n xs base h hl;cases h;exact ⟨base,rfl,rfl,λ_ _=>rfl,rfl,λ x e=>by simp at e,λ i j x c e=>by simp at e⟩
 | cons p b D=>
  intro n xs base h hl;obtain ⟨i,I⟩:=p;simp only [EG] at h
  obtain ⟨v,y⟩:∃ v,ah og 4 I=v:=⟨_,rfl⟩
  rw [y] at h;obtain ⟨z,k⟩:=eW h;simp only [Ad] at z;obtain ⟨⟨C,t⟩,B⟩:=z;have L:=aC C;subst L;have hz:=aC t;rw [xJ] at hz;cases r:EG og d (i+1) b with
  | none=>simp [r] at k
  | some l=>
   simp only [r,Dq] at k;subst k;have g:(i+1)*d<=base.length:=by refine Cx (Br _ ?_) hl;simp
   rw [Bw,Gu] at g;obtain ⟨H,f⟩:=H4 (i*d) v.cells base o_;obtain ⟨N,u,w⟩:=kL f;obtain ⟨cs',s,K,A,F,G,J⟩:=D (base:=H) r (by rw [u];refine Cx (Nat.le_of_eq ?_) hl;simp;congr 1;omega);have q:DC v=true:=by cases v<;>first | rfl | (simp [aa.cells,pF,AW.one] at B)
   refine ⟨cs',by
    unfold MX at s⊢
    simp only [Bl,EF,y,q,t,Bool.and_self,cond_true,f,s],K.trans u,λ o O=>?_,by simp [F],λ x e=>?_,λ a j x c e m=>?_⟩
   .rw [A o (by rw [Bw];omega),w o,if_neg o_]
   .rcases Aw.1 e with rfl | e
    .exact ⟨hz,B⟩
    .exact G x e
   .cases a with
    | zero=>
     simp at e;subst e;have M:j<d:=by rw [<-hz];exact (Ab.1 m).1
     rw [Fm,A _ (by rw [Bw];omega),w,if_pos o_,Gm];exact m
    | succ a=>
     have:=J a j x c (by simpa using e) m;rw [show i+(a+1)=i+1+a from by omega];exact this
def aGt(l:ar):aB1 l=l.length:=by induction l with
 | nil=>rfl
 | cons a r b=>simp [aB1,b]
def FO(hE:ae E)(hm:Mem M ob ac w)(W:ac[base]? =some .dead)(Q:ob[base]? =some []){hint:Nat}{t:TypeId}{len:Nat}{h:ar}{vparts:Array (Nat×Value)}(hl:E4 M ob vparts.toList h):
  PM E.P M ob w (Jy t len vparts) ac base (mX E hint base (aB ac) t len h):=by
 unfold mX;split
 .rename_i e b eb _ _ _ hT;obtain ⟨⟨hu,ie,z,Z,hs,hb,hz,hzs,_⟩,_⟩:=(hE.tab t _ hT).kind;refine sdc λ Y=>?_;simp only [Ad] at Y;obtain ⟨⟨g1,g2⟩,g3⟩:=Y;have r:=aC g1;rw [aGt] at r;have O:len*b<=1000:=Ck g2;have k:1<=b:=Ck g3;split
  .rename_i xs V
   let f:Array Value:=if len*b=0 then #[] else (Kn (len*b)).map (z.cells[· % z.cells.size]!)
   have s:f.size=len*b:=by show (if len*b=0 then (#[]:Array Value) else (Kn (len*b)).map (z.cells[· % z.cells.size]!)).size=_;split<;>simp [*]
   obtain ⟨cs',e1,e2,_,e4,L,e6⟩:=KK (aB ac) b (base:=Aj (len*b) .undef) V (by simp [r])
   have N:cA M [] f.toList (Aj (len*b) aa.undef):=⟨by simp [s],λ i v a _ ha=>by
    have:a= .undef:=(Gf.1 (Av ha)).2;subst this
    exact .undef _⟩
   have X:E4 M [] vparts.toList (MX (aB ac) h):=⟨by unfold MX;rw [Cc];exact hl.1,λ i p q hp S=>by
    unfold MX at S;rw [Bg] at S;obtain ⟨q',I,rfl⟩:=Cf.1 S;obtain ⟨a1,a2⟩:=hl.2 i p q' hp I
    exact ⟨a1,hm.pureV 4 _ _ a2⟩⟩
   obtain ⟨d,f1,H⟩:=uQ (place:=λ i=>some (i*b,b)) (λ i p hp=>hp) e1 N X;have o:(Jy t len vparts).run E.P w= .ok (.slice (some ⟨w.heap.size,0,Nm⟩) len len) (w.alloc (.cells d e)):=by
    have J:(E.P.info? e).map (·.size)=some b:=by simp [Z,hs]
    unfold Jy;simp only [Bh,run_underlying hu,Aq,af J];rw [if_neg o_];have K:(zeroValue e).run E.P w= .ok z w:=by simp [zeroValue,typeInfo,Z,hz]
    by_cases G:len*b=0
    .have B:(Kn (len*b)).map ((#[]:Array Value)[· % (#[]:Array Value).size]!)=f:=by
      show _=(if len*b=0 then (#[]:Array Value) else (Kn (len*b)).map (z.cells[· % z.cells.size]!))
      rw [if_pos G,G];simp
     rw [if_pos G];simp only [Bh,Bz,Aq];rw [B,f1];rfl
    .have B:(Kn (len*b)).map (z.cells[· % z.cells.size]!)=f:=by
      show _=(if len*b=0 then (#[]:Array Value) else (Kn (len*b)).map (z.cells[· % z.cells.size]!))
      simp
     rw [if_neg G];simp only [Bh,Bz,Aq,K];rw [B,f1];rfl
   have l:xs.length=len:=by rw [e4,r]
   have A:d.toList.length=xs.length*b:=by rw [H.1,e2];simp;rw [l]
   have m:∀ (j:Nat) c,aH b xs j=some c->cs'[j]? =some c/\AW.one c=true:=by intro j c C;obtain ⟨y,hy,F⟩:=gB C;have:=e6 _ _ y c hy F;rw [Bp,Dd,Fx] at this;obtain ⟨_,h1⟩:=L y (Av hy);exact ⟨this,lN h1 _ c F⟩
   have D:∀ u∈d.toList,u.oneCell'=true:=λ u T=>by
    obtain ⟨j,hj⟩:=Cu T;have n:j<xs.length*b:=by rw [<-A];exact (Ab.1 hj).1
    obtain ⟨c,C⟩:=yX k (λ x R=>(L x R).1) n;obtain ⟨h1,h2⟩:=m j c C;exact (H.2 j u c hj h1).one h2
   have g:=Grown.ofAlloc (M:=M) (w:=w) (e:=e) (xs:=xs) (cv:=d.toList) k A D (λ x R=>(L x R).1) (by rw [l];unfold maxLen;have:len*1<=len*b:=Nat.mul_le_mul_left _ k;omega) (λ q c C=>by
    obtain ⟨h1,_⟩:=m q c C;have n:q<d.toList.length:=by rw [A];exact fM k C
    exact ⟨_,Aa n,H.2 q _ c (Aa n) h1⟩)
   have U:d.toList.toArray=d:=by simp
   rw [U,l] at g;split
   .exact G8 hm o g ⟨_,len,rfl⟩
   .exact pR hm W Q o g
  .exact trivial
 .exact trivial
def NM(hm:Mem M ob ac w)(b:ac[base]? =some .dead)(d:ob[base]? =some []){t:TypeId}{v:Value}{a:aa}(h:Rep M ob v a)(h1:pF a.cells=true):
  PM P M ob w (do Pure.pure (.pointer (some (<-newVar t v))):Sem Value) ac base (.born (.cells t a.cells) (.ref base 0)):=by
 obtain ⟨hl,c,i⟩:=h.cells_one h1;obtain ⟨f,g,j,k⟩:=hm.bornCells b d t hl c i;have e:v.cells.toList.toArray=v.cells:=by simp
 rw [e] at f g;refine ⟨.pointer (some ⟨w.heap.size,0,Nm⟩),w.alloc (.cells v.cells t),M,ob.set base [.pointer (some ⟨w.heap.size,0,Nm⟩)],?_,?_⟩
 .rfl
 .rw [aP b]
  grind
end
section
variable {P:Program} {E:Env} {M:Imm} {ob:Hs} {ac:au} {w:World} {base:Nat}
def aI4(P:Program)(k:Nat)(a:Bool)(n:Nat):Prop:=(a=false/\n=1/\P.underlying k=some (.int .i64))\/(a=true/\(P.underlying k).isSome=true/\LA P k n)
def G3:∀ {cs:ay} {l:aw},N5 cs=some l->cs=l.map (aa.int .i64)
 | [],l,h=>by cases h;rfl
 | c::r,l,h=>by
  cases c<;>first | (simp [N5] at h;done) | skip
  rename_i k n;cases k<;>first | (simp [N5] at h;done) | skip
  cases a:N5 r with
  | none=>simp [N5,a] at h
  | some q=>
   simp only [N5,a,Dq] at h;subst h;simp [G3 a]
def yC(hE:ae E){k:Nat}{e:Bool}{a:aa}{l:aw}{v:Value}(h:GY E k e a=some l)(m:Rep M ob v a):v=fR e l/\aI4 E.P k e l.length:=by
 cases e with
 | false=>
  simp only [GY] at h;split at h
  .rename_i f;split at h
   .cases h;have q:=(hE.tab _ _ f).kind.1;exact ⟨m.int_inv.1,.inl ⟨rfl,rfl,q⟩⟩
   .cases h
  .cases h
 | true=>
  simp only [GY] at h;split at h
  .rename_i s f;have j:=(hE.tab _ _ f).kind.isAgg.1;split at h
   .rename_i cs;split at h
    .rename_i t d;obtain ⟨h1,o⟩:=eW h;cases o;obtain ⟨h3,r⟩:=aV h1;have g:=G3 d;subst g;obtain ⟨vs,rfl,hl,p⟩:=m.agg_inv;have c:l.length=A2 E.fl k:=by
      have:=aC r;rw [xJ] at this
      grind
     refine ⟨?_,.inr ⟨rfl,j,?_⟩⟩
     .simp only [fR,if_true];congr 2;refine Eb λ i=>?_;rw [Bg];cases d:l[i]? with
      | none=>
       have:=List.getElem?_eq_none_iff.1 d;rw [Bi (by grind)];rfl
      | some n=>
       have b:i<vs.length:=by have:=(Ab.1 d).1;rw [hl];simp;omega
       have:=p i _ (.int .i64 n) (Aa b) (by simp [d]);rw [Aa b,this.int_inv.1];rfl
     .rw [c];exact (hE.fl k (by simpa [Ju] using h3)).2
    .cases h
   .cases h
  .cases h
def pJ:∀ {es:List (aw×aa)} {key:aw},(∀ y∈es,y.1≠key)->bR es key=none/\(∀ v,lP es key v=es++[(key,v)])/\FI es key=es
 | [],key,_=>⟨rfl,λ_=>rfl,rfl⟩
 | (k,x)::r,key,h=>by obtain ⟨h1,b,h3⟩:=pJ (es:=r) (key:=key) λ y c=>h y (by simp [c]);have a:¬ k=key:=h (k,x) s_;exact ⟨by simp [bR,a,h1],λ v=>by simp [lP,a,b],by simp [FI,a,h3]⟩
def wJ:∀ {es:List (aw×aa)} {key:aw} {j:Nat} {y:aw×aa},es[j]? =some y->y.1=key->(∀ (i:Nat) b,i<j->es[i]? =some b->b.1≠key)->
  bR es key=some y.2/\(∀ v,lP es key v=es.set j (key,v))/\FI es key=es.eraseIdx j
 | [],key,j,y,h,_,_=>by simp at h
 | (k,x)::r,key,0,y,h,a,_=>by
  simp only [Ma,Dq] at h;subst h;have a:k=key:=a;exact ⟨by simp [bR,a],λ v=>by simp [lP,a],by simp [FI,a]⟩
 | (k,x)::r,key,j+1,y,h,a,hb=>by obtain ⟨h1,e,h3⟩:=wJ (es:=r) (key:=key) (j:=j) (y:=y) (by simpa using h) a λ i b f d=>hb (i+1) b o_ q_;have c:¬ k=key:=hb 0 (k,x) o_ rfl;exact ⟨by simp [bR,c,h1],λ v=>by simp [lP,c,e],by simp [FI,c,h3]⟩
def FV(b:Bool)(n:Nat)(a:List MapEntry)(es:List (aw×aa)):Prop:=a.length=es.length/\∀ (i:Nat) x y,a[i]? =some x->es[i]? =some y->x.key=fR b y.1/\y.1.length=n
def FV.tail{c:Bool}{n:Nat}{x:MapEntry}{y:aw×aa}{d:List MapEntry}{es:List (aw×aa)}(h:FV c n (x::d) (y::es)):FV c n d es:=
 ⟨by simpa using h.1,λ i a b f e=>h.2 (i+1) a b (by grind) (by grind)⟩
def FV.cons{a:Bool}{n:Nat}{x:MapEntry}{b:List MapEntry}{es:List (aw×aa)}(h:FV a n (x::b) es):∃ y r,es=y::r/\x.key=fR a y.1/\y.1.length=n/\FV a n b r:=by
 cases es with
 | nil=>have:=h.1;simp at this
 | cons y r=>exact ⟨y,r,rfl,(h.2 0 x y rfl rfl).1,(h.2 0 x y rfl rfl).2,h.tail⟩
def AO(key:aw)(a:List MapEntry)(es:List (aw×aa))(o:Nat)(r:Option (Nat×Value)):Prop:=
 (r=none/\∀ y∈es,y.1≠key)\/∃ j x y,r=some (o+j,x.val)/\a[j]? =some x/\es[j]? =some y/\y.1=key/\∀ (i:Nat) y',i<j->es[i]? =some y'->y'.1≠key
def AO.there{key:aw}{x:MapEntry}{y:aw×aa}{a:List MapEntry}{es:List (aw×aa)}{o:Nat}(h:y.1=key):AO key (x::a) (y::es) o (some (o,x.val)):=
 .inr ⟨0,x,y,rfl,rfl,rfl,h,λ i _ b=>by omega⟩
def AO.on{key:aw}{x:MapEntry}{y:aw×aa}{a:List MapEntry}{es:List (aw×aa)}{o:Nat}{r:Option (Nat×Value)}(d:y.1≠key)(h:AO key a es (o+1) r):AO key (x::a) (y::es) o r:=by
 rcases h with ⟨h1,b⟩ | ⟨j,x',c,h1,b,h3,e,f⟩
 .exact .inl ⟨h1,λ z hz=>by grind⟩
 .refine .inr ⟨j+1,x',c,by grind,by simp;omega,by simp;omega,e,λ i z g hz=>?_⟩;cases i with
  | zero=>simp at hz;grind
  | succ i=>exact f i z o_ (by simpa using hz)
def AE(a:Int):∀ (d:List MapEntry) (es:List (aw×aa)) (o:Nat),FV false 1 d es->∃ r,Lr (.int .i64) (.int .i64 a) d o=some r/\AO [a] d es o r
 | [],es,o,h=>⟨none,rfl,.inl ⟨rfl,λ y m=>by
   have:es=[]:=Az (by have:=h.1;grind)
   grind⟩⟩
 | x::d,es,o,h=>by
  obtain ⟨y,r,rfl,h1,f,h3⟩:=h.cons;obtain ⟨k,v⟩:=y;have f:k.length=1:=f
  match k,f with
  | [b],_=>
   have i:x.key= .int .i64 b:=h1;simp only [Lr,i,Instr.sameNow,if_true];by_cases c:a=b
   .subst c;simp only [beq_self_eq_true];exact ⟨_,rfl,.there rfl⟩
   .have:(a==b)=false:=by grind
    rw [this];obtain ⟨l,g,j⟩:=AE a d r (o+1) h3;exact ⟨l,g,.on (λ e=>c (by cases e;rfl)) j⟩
def qE{k:Nat}{n:Nat}(f:LA P k n){key:aw}(d:key.length=n):∀ (a:List MapEntry) (es:List (aw×aa)) (o:Nat),FV true n a es->∃ r,(Jz k (fR true key) a o).run P w= .ok r w/\AO key a es o r
 | [],es,o,h=>⟨none,by rfl,.inl ⟨rfl,λ y m=>by
   have:es=[]:=Az (by have:=h.1;grind)
   grind⟩⟩
 | x::a,es,o,h=>by
  obtain ⟨y,r,rfl,h1,i,h3⟩:=h.cons;have b:=(f w key y.1 d i).1;rw [<-h1] at b;by_cases c:key=y.1
  .rw [decide_eq_true c] at b;exact ⟨_,by simp [Jz,b],.there c.symm⟩
  .rw [decide_eq_false c] at b;obtain ⟨l,g,j⟩:=qE f d a r (o+1) h3;exact ⟨l,by simp [Jz,b,g],.on (λ e=>c e.symm) j⟩
def rA{k:Nat}{g:Bool}{n:Nat}(j:aI4 P k g n){key:aw}(i:key.length=n){b:List MapEntry}{es:List (aw×aa)}(h:FV g n b es):
  ∃ r,(Lt k (fR g key) b).run P w= .ok r w/\AO key b es 0 r:=by
 rcases j with ⟨rfl,rfl,e⟩ | ⟨rfl,m,l⟩
 .match key,i with
  | [a],_=>
   obtain ⟨r,c,f⟩:=AE a b es 0 h;exact ⟨r,by simp [Lt,run_underlying e,fR,c],f⟩
 .obtain ⟨r,c,f⟩:=qE (w:=w) l i b es 0 h;cases e:P.underlying k with
  | none=>grind
  | some d=>
   cases b with
   | nil=>simp [Jz] at c;subst c;exact ⟨none,by simp [Lt,run_underlying e,Lr],f⟩
   | cons x b=>
    obtain ⟨y,p,rfl,h1,o,h3⟩:=h.cons;refine ⟨r,?_,f⟩;have hs:Instr.sameNow d (fR true key) x.key=none:=by rw [h1];simp only [fR,if_true];cases d<;>rfl
    simp only [Lt,Bh,run_underlying e,Aq,Lr,hs];exact c
def I3{k:Nat}{a:Bool}{n:Nat}(d:aI4 P k a n){key:aw}(b:key.length=n)(c:Bool):(Hr c 10000 k (fR a key)).run P w= .ok () w:=by
 rcases d with ⟨rfl,rfl,f⟩ | ⟨rfl,e,g⟩
 .rw [show (10000:Nat)=9999+1 from rfl,Hr];simp only [Bh,run_underlying f,Aq,fR,Cp,if_false,Bz]
 .exact (g w key key b b).2 c
def Mem.mpOf(hm:Mem M ob ac w){j:Nat}{a:Bool}{es:List (aw×aa)}(i:aB ac j= .mp a es){v:Value}(f:Rep M ob v (.mref j)):
  ∃ b,v= .map (some b)/\ob[j]? =some [.map (some b)]/\ac[j]? =some (.mp a es)/\(∀ o,NoM M b o)/\aAq M w b a es:=by
 cases f with
 | mref _ b c=>
  have e:=bZ i s_;obtain ⟨hs,d,h,g,l,k⟩:=hm.obj j _ e;have:h=b:=by rw [bW d,g] at c;simp_all
  subst this;simp_all
def aAq.enOK{b:Nat}{a:Bool}{es:List (aw×aa)}{n:Nat}{e:List MapEntry}(hl:e.length=es.length)(h:∀ (i:Nat) x y,e[i]? =some x->es[i]? =some y->x.key=fR a y.1/\(a=false->y.1.length=1)/\Rep M [] x.val y.2)
  (g:(a=false/\n=1)\/(a=true/\∀ p∈es,p.1.length=n)):FV a n e es:=
 ⟨hl,λ i x y f d=>⟨(h i x y f d).1,by
  rcases g with ⟨h1,c⟩ | ⟨_,c⟩
  .rw [c];exact (h i x y f d).2.1 h1
  .exact c y (Av d)⟩⟩
def IY{VS:aa->au->Prop}{CS:Fn->ay->Prop}{PS:aa->Prop}{a:Bool}{es:List (aw×aa)}{key:aw}{r:OR}{k:Nat}(b:aI4 P k a key.length)
  (h:(a=false/\key.length=1)\/(a=true/\∀ p∈es,p.1.length=key.length)->Sd VS CS PS ac base r):Sd VS CS PS ac base (BJ a es key r):=by
 rcases b with ⟨rfl,c,_⟩ | ⟨rfl,_⟩
 .exact h (.inl ⟨rfl,c⟩)
 .exact λ hp=>h (.inr ⟨rfl,hp⟩)
def Rep.pairB{v:Value}{a:aa}(h:Rep M ob v a)(b:Bool):Rep M ob (.tuple #[v,.bool b]) (.tup [a,.bool b]):=by
 refine .tup [v,.bool b] _ rfl λ i q c d e=>?_;rcases i with _ | _ | i
 .grind
 .simp at d e;subst d e;exact .bool b
 simp_all
def ZW(hE:ae E)(hm:Mem M ob ac w){t:Nat}{H kv:Value}{m k:aa}(s:Rep M ob H m)(p:Rep M ob kv k)(ok:Bool):
  PS0 E.P M ob w (Mi t H kv ok) ac base (KG E (aB ac) t m k ok):=by
 unfold KG;split
 .rename_i Q e _ _ _ j I;have l:=(hE.tab _ _ I).kind.1;split
  .rename_i S O es C B;split
   .rename_i key f;obtain ⟨rfl,d⟩:=yC hE f p;refine IY d λ J=>?_;obtain ⟨b,rfl,_,_,_,R,v,F,hl,h,_⟩:=hm.mpOf B s;obtain ⟨r,D,A⟩:=rA (w:=w) d rfl (aAq.enOK (b:=b) hl h J);have a:=λ N=>I3 (w:=w) d rfl N;obtain ⟨i,z,L,_,hz,_,g,_⟩:=(hE.tab _ _ C).info;have o:(zeroValue e).run E.P w= .ok z w:=by simp [zeroValue,typeInfo,L,hz]
    rcases A with ⟨rfl,A⟩ | ⟨q,x,y,rfl,K,G,u,n⟩
    .rw [Sd.eq_def];simp only;rw [(pJ A).1];refine ⟨rfl,if ok then .tuple #[z,.bool false] else z,?_,?_⟩
     .simp only [Mi,Bh,run_underlying l,Aq,MapKept.run_getObj_map F,a,D,o,Bz]
     .cases ok with
      | true=>exact (kA g).pairB false
      | false=>exact kA g
    .rw [Sd.eq_def];simp only;rw [(wJ G u n).1];have c:=(h q x y K G).2.2.pure (ob:=ob);refine ⟨rfl,if ok then .tuple #[x.val,.bool true] else x.val,?_,?_⟩
     .simp only [Mi,Bh,run_underlying l,Aq,MapKept.run_getObj_map F,a,D,Bz]
     .cases ok with
      | true=>exact c.pairB true
      | false=>exact c
   .exact trivial
  .exact trivial
 .exact trivial
abbrev IX(w:World)(b:Nat)(o:Obj):World:={w with heap:=w.heap.setIfInBounds b o}
def YC{b:Nat}{o a:Obj}(h:w.heap[b]? =some a):(IX w b o).heap[b]? =some o:=by have:=fE h;simp_all
def CH{b c:Nat}{o:Obj}(h:c≠b):(IX w b o).heap[c]? =w.heap[c]?:=by grind
def Mem.mpTurn(h:Mem M ob ac w){j b f clock':Nat}{d:Bool}{es es':List (aw×aa)}{B:Array MapEntry}{en':List MapEntry}(A:ac[j]? =some (.mp d es))(r:ob[j]? =some [.map (some b)])(k:∀ o,NoM M b o)(p:w.heap[b]? =some (.map B f))
  (hl:en'.length=es'.length) (F:∀ (i:Nat) x y,en'[i]? =some x->es'[i]? =some y->x.key=fR d y.1/\(d=false->y.1.length=1)/\Rep M [] x.val y.2)
  (h1:∀ (i:Nat) x,en'[i]? =some x->x.born<clock') (s:∀ (i j:Nat) x y,en'[i]? =some x->en'[j]? =some y->x.born=y.born->i=j):
  Mem M ob (ac.set j (.mp d es')) (IX w b (.map en'.toArray clock'))/\Ext M ob ac w M ob (ac.set j (.mp d es')) (IX w b (.map en'.toArray clock'))/\cK ob ac ob (ac.set j (.mp d es')):=by
 have m:=fT (l:=ob) r
 have:=h.turn (M':=M) (w':=IX w b (.map en'.toArray clock')) (x':=.mp d es') (hs':=[.map (some b)]) A r (Cn _) (λ e=>by cases e) (λ_ _ _ h=>h) (λ_ _ _ h=>.inl h) (λ c o y q=>by
   obtain ⟨u,z,C,D⟩:=h.imm c o y q;have n:c≠b:=λ e=>by subst e;exact k o y q
   exact ⟨u,(Cs (w:=w) (a:=⟨c,o,none⟩) (CH n)).trans z,C,D⟩)
  (λ c _ v=>CH λ e=>v ⟨rfl,by subst e;exact dU.2 rfl⟩) rfl rfl rfl s_ (λ t=>⟨b,rfl,k,en',clock',YC p,hl,F,h1,s⟩)
  (λ_ c g=>⟨.inl ⟨rfl,g⟩,by
   have:b=c:=dU.1 g;subst this;have:=fE p
   simp;omega⟩)
 rw [m] at this;exact this
def tN:∀ (n:Nat) (l:aw),(((l.map (Ea .i64)).zip (l.map (Ea .i64))).all λ(x,y)=>Jq n x y)=true
 | n,[]=>rfl
 | n,a::r=>by simp only [Bl,List.zip_cons_cons,Kb,tN n r,Kc];cases n<;>simp [Jq]
def I0(n:Nat)(a:Bool)(l:aw):Jq (n+1) (fR a l) (fR a l)=true:=by
 cases a with
 | false=>simp [fR,Jq]
 | true=>
  simp only [fR,if_true,Jq,beq_self_eq_true,Cz];exact tN n l
def aGT{a:List MapEntry}{q:Nat}{x:MapEntry}(d:a[q]? =some x)(f:MapEntry->MapEntry):a.toArray.modify q f=(a.set q (f x)).toArray:=by
 apply Ds;simp only [Array.toList_modify];refine Eb λ i=>?_;rw [List.getElem?_modify,Hf];have c:=(Ab.1 d).1;by_cases b:q=i
 .grind
 .simp [b]
def MI:Rep M ob (.tuple #[]) (.tup []):=.tup [] [] rfl λ i v a h=>by simp at h
def aDO(hE:ae E)(hm:Mem M ob ac w){t:Nat}{mv kv D:Value}{m k v:aa}(Z:Rep M ob mv m)(hkv:Rep M ob kv k)(hvv:Rep M ob D v):
  Sd (VU E.P M ob ac w (Ku t mv kv D)) (λ_ _=>False) (λ_=>False) ac base (SF E (aB ac) t m k v):=by
 unfold SF;split
 .rename_i kt _ _ _ _ j hT;have L:=(hE.tab _ _ hT).kind.1;split
  .rename_i u es hog;split
   .rename_i key T;obtain ⟨rfl,I⟩:=yC hE T hkv;have B:=hm.pureV 4 D v hvv;generalize ah (aB ac) 4 v=v' at B;refine sdc λ_=>IY I λ hn=>?_;have V:u=false->key.length=1:=λ e=>by grind
    obtain ⟨b,rfl,R,n,N,h,f,J,hl,F,hst,G⟩:=hm.mpOf hog Z;obtain ⟨r,hr,hf⟩:=rA (w:=w) I rfl (aAq.enOK (b:=b) hl F hn);have H:=λ em=>I3 (w:=w) I rfl em;rcases hf with ⟨rfl,hf⟩ | ⟨q,x,y,rfl,K,hy,Q,U⟩
    .have A:=(pJ hf).2.1 v'
     have:=hm.mpTurn (es':=es++[(key,v')]) (en':=h++[⟨fR u key,D,f⟩]) (clock':=f+1) n R N J (by simp [hl]) (λ i a c d s=>by
       by_cases g:i<h.length
       .rw [Ag g] at d;rw [Ag o_] at s;exact F i a c d s
       .rw [Ak o_] at d;rw [Ak o_] at s;have p:i-h.length=0:=by have:=(Ab.1 d).1;simp at this;omega
        rw [p] at d;rw [<-hl,p] at s;simp at d s;subst d s
        exact ⟨rfl,V,B⟩) (λ i a d=>by
       by_cases g:i<h.length
       .rw [Ag g] at d;have:=hst i a d;omega
       .rw [Ak o_] at d;have p:i-h.length=0:=by have:=(Ab.1 d).1;simp at this;omega
        rw [p] at d;simp at d;subst d
        simp) (λ i O a a' d l z=>by
       have o:∀ {i:Nat} {a:MapEntry},¬ i<h.length->(h++[⟨fR u key,D,f⟩])[i]? =some a->i=h.length/\a.born=f:=λ{i a} g d=>by
        rw [Ak o_] at d;have p:i-h.length=0:=by have:=(Ab.1 d).1;simp at this;omega
        rw [p] at d;simp at d;subst d;simp;omega
       by_cases g:i<h.length<;>by_cases C:O<h.length
       .rw [Ag g] at d;rw [Ag C] at l;exact G i O a a' d l z
       .rw [Ag g] at d;have:=hst i a d;have:=(o C l).2;omega
       .rw [Ag C] at l;have:=hst O a' l;have:=(o g d).2;omega
       .have:=(o g d).1;have:=(o C l).1
        omega)
     refine ⟨rfl,IX w b (.map (h++[(⟨fR u key,D,f⟩:MapEntry)]).toArray (f+1)),M,ob,?_,?_⟩
     .simp only [Ku,Bh,run_underlying L,Aq,MapKept.run_getObj_map J,H,hr,MapKept.run_setObj_map _ J];simp
     .rw [A,aP n];exact ⟨this.2.1,this.1,this.2.2⟩
    .have A:=(wJ hy Q U).2.1 v';have hxk:=(F q x y K hy).1;have hql:=(Ab.1 K).1
     have:=hm.mpTurn (es':=es.set q (key,v')) (en':=h.set q ⟨fR u key,D,x.born⟩) (clock':=f) n R N J (by simp [hl]) (λ i a c d s=>by
       rw [Hf] at d s;by_cases g:q=i
       .rw [if_pos g] at d s;subst g;rw [if_pos hql] at d;rw [if_pos o_] at s;cases d;cases s;exact ⟨rfl,V,B⟩
       .rw [if_neg g] at d s
        exact F i a c d s) (λ i a d=>by
       rw [Hf] at d;by_cases g:q=i
       .rw [if_pos g,if_pos o_] at d;cases d;exact hst q x K
       .rw [if_neg g] at d
        exact hst i a d) (λ i O a a' d l z=>by
       have S:∀ {i:Nat} {a:MapEntry},(h.set q ⟨fR u key,D,x.born⟩)[i]? =some a->∃ X,h[i]? =some X/\X.born=a.born:=λ{i a} d=>by
        rw [Hf] at d;by_cases g:q=i
        .rw [if_pos g,if_pos o_] at d;cases d;exact ⟨x,g▸K,rfl⟩
        .rw [if_neg g] at d;exact ⟨a,d,rfl⟩
       obtain ⟨X,g1,g2⟩:=S d;obtain ⟨Y,g1',g2'⟩:=S l
       exact G i O X Y g1 g1' o_)
     refine ⟨rfl,IX w b (.map (h.set q ⟨fR u key,D,x.born⟩).toArray f),M,ob,?_,?_⟩
     .have W:(((h.toArray[0+q]?).map (·.key)).getD (fR u key))=fR u key:=by simp only [Bp,Js,K,Mq,Jw];rw [hxk,Q]
      have hst:(Instr.keyThatStays (fR u key) (fR u key)).run E.P w= .ok (fR u key) w:=by unfold Instr.keyThatStays;rw [show (10000:Nat)=9999+1 from rfl,I0 9999 u key];simp
      simp only [Ku,Bh,run_underlying L,Aq,MapKept.run_getObj_map J,H,hr,W,hst,MapKept.run_setObj_map _ J];rw [Bp,aGT K]
     .rw [A,aP n];exact ⟨this.2.1,this.1,this.2.2⟩
   .exact trivial
  .exact trivial
 .exact trivial
def ZV(hE:ae E)(hm:Mem M ob ac w){t V ty:Nat}{R kv:Value}{m k:aa}(I:Rep M ob R m)(H:Rep M ob kv k):
  PM E.P M ob w (Kv #[t,V] ty #[R,kv]) ac base (KF E (aB ac) t m k):=by
 unfold KF;split
 .rename_i kt _ _ _ _ j S;have A:=(hE.tab _ _ S).kind.1;split
  .rename_i Z es L;split
   .rename_i key z;obtain ⟨rfl,s⟩:=yC hE z H;refine IY s λ T=>?_;obtain ⟨b,rfl,D,e,C,v,d,u,hl,o,hst,h⟩:=hm.mpOf L I;obtain ⟨r,O,K⟩:=rA (w:=w) s rfl (aAq.enOK (b:=b) hl o T);have g:=λ Y=>I3 (w:=w) s rfl Y;rcases K with ⟨rfl,K⟩ | ⟨q,x,y,rfl,U,W,J,G⟩
    .have:=hm.mpTurn (es':=es) (en':=v) (clock':=d) e D C u hl o hst h;refine ⟨.tuple #[],IX w b (.map v.toArray d),M,ob,?_,?_⟩
     .simp [Kv,run_underlying A,MapKept.run_getObj_map u,g,O,MapKept.run_setObj_map _ u,Ee]
     .rw [(pJ K).2.2,aP e];exact ⟨this.2.1,this.1,this.2.2,MI⟩
    .have N:=(Ab.1 U).1;have B:(v.toArray.eraseIdxIfInBounds q)=(v.eraseIdx q).toArray:=by simp
     have n:∀ {α:Type} (l:List α) (i:Nat),(l.eraseIdx q)[i]? =l[if i<q then i else i+1]?:=λ l i=>by rw [List.getElem?_eraseIdx];split<;>rfl
     have:=hm.mpTurn (es':=es.eraseIdx q) (en':=v.eraseIdx q) (clock':=d) e D C u (by
       rw [Lf N,Lf o_];omega) (λ i a c f Q=>by
       rw [n] at f Q
       exact o _ a c f Q) (λ i a f=>by
       rw [n] at f
       exact hst _ a f) (λ i i' a X f F p=>by
       rw [n] at f F;have:=h _ _ a X f F p
       split at this<;>split at this<;>omega)
     refine ⟨.tuple #[],IX w b (.map (v.eraseIdx q).toArray d),M,ob,?_,?_⟩
     .simp [Kv,run_underlying A,MapKept.run_getObj_map u,g,O,MapKept.run_setObj_map _ u,Ee,B]
     .rw [(wJ W J G).2.2,aP e];exact ⟨this.2.1,this.1,this.2.2,MI⟩
   .exact trivial
  .exact trivial
 .exact trivial
end
section
variable {P:Program} {E:Env} {M:Imm} {ob:Hs} {ac:au} {w:World} {base:Nat}
def Rep.nilif_inv{v:Value}(h:Rep M ob v .nilif):v= .nilIface:=by cases h;rfl
def BQ{ρv:Operand->Value}{ρ:Operand->aa}(h:∀ x,Rep M ob (ρv x) (ρ x)):∀ (l:List Operand),cA M ob (l.map ρv) (evO ρ l)
 | []=>⟨rfl,λ i v a h=>by simp at h⟩
 | x::l=>by
  obtain ⟨h1,e⟩:=BQ h l;refine ⟨by simp [AW.evO,h1],λ i v b d c=>?_⟩;cases i with
  | zero=>simp [AW.evO] at d c;grind
  | succ i=>exact e i v b (by simpa using d) (by simpa [AW.evO] using c)
def J9{ρv:Operand->Value}{ρ:Operand->aa}(h:∀ x,Rep M ob (ρv x) (ρ x)):∀ (l:List (Nat×Operand)),E4 M ob (l.map λ(p:Nat×Operand)=>(p.1,ρv p.2)) (evL ρ l)
 | []=>⟨rfl,λ i p q h=>by simp at h⟩
 | (n,x)::l=>by
  obtain ⟨h1,b⟩:=J9 h l;refine ⟨by simpa [AW.evL] using h1,λ i p q hp a=>?_⟩;cases i with
  | zero=>simp [AW.evL] at hp a;subst hp a;exact ⟨rfl,h x⟩
  | succ i=>exact b i p q (by simpa using hp) (by simpa [AW.evL] using a)
def cA.append{vs us:ba}{as bs:ay}(h:cA M ob vs as)(k:cA M ob us bs):cA M ob (vs++us) (as++bs):=by
 refine ⟨by simp [h.1,k.1],λ i v a b c=>?_⟩;by_cases d:i<vs.length
 .rw [Ag d] at b;rw [Ag (by rw [<-h.1];exact d)] at c;exact h.2 i v a b c
 .rw [Ak o_] at b;rw [Ak (by rw [<-h.1];omega),<-h.1] at c;exact k.2 _ v a b c
def cA.cons{v:Value}{a:aa}{vs:ba}{as:ay}(h:Rep M ob v a)(k:cA M ob vs as):cA M ob (v::vs) (a::as):=
 cA.append (vs:=[v]) (as:=[a]) ⟨rfl,λ i u b c d=>by cases i with | zero=>grind | succ i=>simp at c⟩ k
def sH(hE:ae E){t:Nat}{v:Value}{a:aa}(h:Rep M ob v a):Rep M ob v (B6 E t a):=by
 unfold B6;split
 .split
  .cases h;exact .slnil _ _ rfl
  .exact h
 .exact h
def cB.now{ρv:Operand->Value}{op:Op}{ty:TypeId}{u:Value}{v:aa}(hm:Mem M ob ac w)(b:∀ d pos a g,execOp ρv ⟨d,op,ty,pos,a,g⟩=Pure.pure (.value u))(h:Rep M ob u v):VS P ρv op ty M ob ac w v ac:=
 ⟨u,w,M,ob,λ d pos a g=>.inl (by rw [b];rfl),Ext.refl _ _ _ _,hm,cK.refl _ _,h⟩
def aBm(a:Array TypeId)(t:TypeId)(k k':IntKind)(x y:Int):(Builtin.max_ a t #[.int k x,.int k' y]).run P w= .ok (.int k (max x y)) w:=by
 rw [run_max_int2]
 grind
def aBl(a:Array TypeId)(t:TypeId)(k k':IntKind)(x y:Int):(Builtin.min_ a t #[.int k x,.int k' y]).run P w= .ok (.int k (min x y)) w:=by
 rw [run_min_int2]
 grind
def JK{ρv:Operand->Value}{ρ:Operand->aa}(h:∀ x,Rep M ob (ρv x) (ρ x))(l:Option Operand):E5 M ob (l.map ρv) (l.map ρ):=by
 cases l with
 | none=>exact .inl ⟨rfl,rfl⟩
 | some y=>exact .inr ⟨_,_,rfl,rfl,h y⟩
def vC.notIface{P:Program}{t:Nat}{i:Bool}{size:Nat}{k:TK}(h:vC P t i size k)(j:k≠ .iface):∃ c,P.underlying t=some c/\∀ g,c≠ .interface g:=by
 obtain ⟨a,_⟩:=h.isAgg;obtain ⟨c,d⟩:=Da.1 a;refine ⟨c,d,λ g e=>?_⟩;subst e;cases k with
 | int k=>have:=h.1;grind
 | bool=>have:=h.1;grind
 | str=>have:=h.1;grind
 | strct m=>obtain ⟨⟨fl,f,_⟩,_⟩:=h;grind
 | arr n s p=>obtain ⟨⟨fl,f,_⟩,_⟩:=h;grind
 | slc e s b=>have:=h.1.1;grind
 | ptr e=>have:=h.1;grind
 | iface=>grind
 | mp k e=>have:=h.1;grind
 | other=>obtain ⟨⟨o,f,l⟩,_⟩:=h;grind
def DT{k:IntKind}{x y:Int}(b:inR k x)(a:inR k y):inR k (min x y)/\inR k (max x y):=by grind
def SA(hE:ae E)(hm:Mem M ob ac w)(D:ac[base]? =some .dead)(H:ob[base]? =some []){ρv:Operand->Value}{ρ:Operand->aa}(j:∀ x,Rep M ob (ρv x) (ρ x))(hint:Nat)(op:Op)(ty:TypeId):
  cB E.P ρv op ty M ob ac w base (lY E hint base (aB ac) ρ op ty):=by
 cases op with
 | move x=>exact cB.now hm (λ_ _ _ _=>rfl) (j x)
 | assign x=>
  have A:=sH hE (t:=ty) (j x);have hs:∀ d pos a g,execOp ρv ⟨d,.assign x,ty,pos,a,g⟩=((Pure.pure (ρv x):Sem Value) >>= λ v=>Pure.pure (.value v)):=λ_ _ _ _=>rfl;simp only [lY];split
  .exact cB.now hm (λ_ _ _ _=>rfl) A
  .split
   .rename_i esz xs t heq;rw [heq] at A;split
    .split
     .obtain ⟨_,Y⟩:=A.untok;have Y:ρv x= .slice none 0 0:=Y;split
      .refine sdc λ hg=>?_;obtain ⟨hg1,hg2⟩:=aV hg;have hpos:0<esz:=Ck hg2;refine cB.pm hs (pR hm D H (v:=.slice none 0 0) (w':=w) q_ ⟨⟨[],Hg w 0 _ _,by simp,λ q c hq=>by simp [aH] at hq⟩,hpos,by simp,λ b hb=>by simp [Gl] at hb,λ_ _=>rfl,rfl,rfl,rfl,Bd _,C6 w⟩)
      .exact trivial
     .exact trivial
    .exact cB.now hm (λ_ _ _ _=>rfl) A
   .exact cB.now hm (λ_ _ _ _=>rfl) A
 | pick c x y=>
  have T:=j c;simp only [lY];split
  .rename_i l;rw [l] at T;exact cB.now hm (λ_ _ _ _=>by simp [execOp,T.bool_inv,asBool]) (j x)
  .rename_i l;rw [l] at T;exact cB.now hm (λ_ _ _ _=>by simp [execOp,T.bool_inv,asBool]) (j y)
  .exact trivial
 | alloc t=>
  simp only [lY];split
  .rename_i V C;refine sdc λ h1=>?_;obtain ⟨i,z,hi,hs,hz,hzs,Q,_,_⟩:=(hE.tab t V C).info;have hzv:(zeroValue t).run E.P w= .ok z w:=by simp [zeroValue,typeInfo,hi,hz]
   obtain ⟨u,w',M',ob',J,hrest⟩:=NM (P:=E.P) (t:=t) hm D H (kA Q) h1;have hal:(Nn t true (.tuple #[])).run E.P w= .ok u w':=by unfold Nn;rw [Bh,hzv];exact J
   exact cB.pm (r:=.born _ _) (s:=Nn t true (.tuple #[])) (λ_ _ _ _=>rfl) ⟨u,w',M',ob',hal,hrest⟩
  .exact trivial
 | box t x=>
  simp only [lY];refine sdc λ h1=>?_;exact cB.pm (r:=.born _ _) (s:=Instr.box t (ρv x)) (λ_ _ _ _=>rfl) (NM (P:=E.P) (t:=t) hm D H (j x) h1)
 | build t ps=>
  exact cB.pv (s:=Instr.build t (ps.map λ(p:Nat×Operand)=>(p.1,ρv p.2))) hm (λ_ _ _ _=>rfl) (aDV hE (by simpa using J9 j ps.toList))
 | buildSlice t n ps=>
  exact cB.pm (s:=Jy t n (ps.map λ(p:Nat×Operand)=>(p.1,ρv p.2))) (λ_ _ _ _=>rfl) (FO hE hm D H (by simpa using J9 j ps.toList))
 | load t x=>exact cB.pv (s:=Mh t (ρv x)) hm (λ_ _ _ _=>rfl) ((WZ hE hm (j x)).bind λ v u h=>sH hE h)
 | store t x y=>
  refine Sd.mono (λ v o ⟨h1,w',M',ob',h2,h3,h4,h5⟩=>?_) (λ_ _ h=>h.elim) (λ_ h=>h.elim) (aDA (t:=t) hE hm (j x) (sH hE (t:=t) (j y)));refine ⟨undef,w',M',ob',λ d pos a g=>.inr ⟨?_,rfl⟩,h3,h4,h5,by rw [h1];exact .undef _⟩;have:execOp ρv ⟨d,.store t x y,ty,pos,a,g⟩=(Ke t (ρv x) (ρv y) >>= λ_=>Pure.pure .skip):=rfl;simp_all
 | nilCheck x=>
  have A:=j x;simp only [lY];split<;>first | exact trivial | skip
  all_goals
   rename_i l;rw [l] at A;refine cB.now hm (u:=ρv x) (λ d pos a g=>?_) A;generalize hu:ρv x=u at A;simp only [execOp,hu];cases A<;>rfl
 | binOp bop t x y yt=>exact cB.pv (s:=KO bop t x y (ρv x) (ρv y)) hm (λ_ _ _ _=>rfl) (aLt (og:=aB ac) hE (j x) (j y))
 | unOp uop t x=>
  have A:=j x;simp only [lY];refine cB.pv (s:=Op.unary uop (ρv x)) hm (λ_ _ _ _=>rfl) ?_;split
  .rename_i b l;rw [l] at A;rw [A.bool_inv];exact aR (u:=.bool (!b)) rfl (.bool _)
  .rename_i k n l;rw [l] at A;rw [A.int_inv.1];have e:(Op.unary .neg (.int k n)).run E.P w= .ok (.int k (k.wrap (0-n))) w:=rfl;exact ⟨λ hp=>⟨rfl,_,by rw [e,kB hp],.int _ _ hp⟩,rfl,_,e,.int _ _ (kH _ _)⟩
  .rename_i k n l;rw [l] at A;rw [A.int_inv.1];exact aR (u:=.int k (dL .xor k (if k.signed then -1 else k.max) n)) rfl (.int _ _ (by unfold dL;exact kH _ _))
  .exact trivial
 | convert s t x=>exact cB.pm (s:=convert s t (ρv x)) (λ_ _ _ _=>rfl) (aH7 hE hm (j x))
 | makeInterface t x=>
  simp only [lY];refine cB.pv (s:=Instr.makeInterface t (ρv x)) hm (λ_ _ _ _=>rfl) ?_;split
  .rename_i V C;have hk:=(hE.tab t V C).kind;split
   .exact trivial
   .rename_i R;obtain ⟨dd,S,X⟩:=hk.notIface R;refine aR (run_makeInterface w t _ ?_) (.iface _ _ _ (j x));unfold Program.concrete;simp_all
  .exact trivial
 | makeFunc fn fs cs=>
  obtain ⟨p1,p2⟩:=BQ j fs.toList;obtain ⟨q1,q2⟩:=BQ j cs.toList;refine cB.now hm (u:=.func fn (fs.toList.map ρv).toArray (cs.toList.map ρv).toArray) (λ d pos a g=>?_) (.func fn _ _ _ _ p1 q1 p2 q2);have W:(fs.toList.map ρv).toArray=fs.map ρv:=by apply Ds;simp
  have e2:(cs.toList.map ρv).toArray=cs.map ρv:=by apply Ds;simp
  rw [W,e2];rfl
 | makeMap t x=>
  cases x with
  | some x=>exact trivial
  | none=>
   simp only [lY];split
   .split
    .rename_i tk _;obtain ⟨m1,m2,m3,m4⟩:=hm.bornMap D H tk.agg;refine cB.pm (r:=.born _ _) (s:=Instr.makeMap t none) (λ_ _ _ _=>rfl) ⟨_,_,M,ob.set base [.map (some w.heap.size)],run_makeMap t w,?_⟩;rw [aP D]
     grind
    .exact trivial
   .exact trivial
 | makeSlice t x y=>exact cB.pm (s:=Instr.makeSlice t (ρv x) (ρv y)) (λ_ _ _ _=>rfl) (aH4 (hint:=hint) hE hm D H (j x) (j y))
 | slice t x lo hi mx=>exact cB.pv (s:=Gw t (ρv x) (lo.map ρv) (hi.map ρv) (mx.map ρv)) hm (λ_ _ _ _=>rfl) (aDB hE hm (j x) (JK j lo) (JK j hi) (JK j mx))
 | fieldAddr t x f=>exact cB.pv (s:=Lq t (ρv x) f) hm (λ_ _ _ _=>rfl) (KJ hE (j x))
 | field t x f=>exact cB.pv (s:=Nb t (ρv x) f) hm (λ_ _ _ _=>rfl) ((aDQ hE (j x)).bind λ v u h=>sH hE h)
 | indexAddr t x i=>exact cB.pv (s:=Ia t (ρv x) (ρv i)) hm (λ_ _ _ _=>rfl) (KH hE hm (j x) (j i))
 | index t x i=>exact cB.pv (s:=Ln t (ρv x) (ρv i)) hm (λ_ _ _ _=>rfl) (aDP hE (j x) (j i))
 | typeAssert x xt t ok=>
  have A:=j x;simp only [lY];refine cB.pv (s:=Ka (ρv x) xt t ok) hm (λ_ _ _ _=>rfl) ?_;split
  .rename_i V u v C l;rw [l] at A;obtain ⟨i,z,hi,hs,hz,hzs,Q,_,_⟩:=(hE.tab t V C).info;split
   .exact trivial
   .rename_i R;obtain ⟨dd,S,X⟩:=(hE.tab t V C).kind.notIface R;obtain ⟨F,L,hv⟩:=A.iface_inv;rw [L];cases hq:Ax u t with
    | true=>
     have:=aC hq;subst this;refine aR (u:=if ok then .tuple #[F,.bool true] else F) ?_ ?_
     .unfold Ka;simp only [Bh,run_underlying S,Aq];rfl
     .cases ok with
      | true=>exact hv.pairB true
      | false=>exact hv
    | false=>
     have hne2:¬ u=t:=λ e=>by subst e;simp at hq
     simp only [cond_false];refine sdc λ hok=>?_;subst hok;refine aR (u:=.tuple #[z,.bool false]) ?_ ((kA Q).pairB false);unfold Ka;simp only [Bh,run_underlying S,Aq];cases dd<;>first | exact absurd rfl (X _) | (simp [hne2,zeroValue,typeInfo,hi,hz])
  .rename_i V C l;rw [l] at A;obtain ⟨i,z,hi,hs,hz,hzs,Q,_,_⟩:=(hE.tab t V C).info;split
   .exact trivial
   .rename_i R;obtain ⟨dd,S,X⟩:=(hE.tab t V C).kind.notIface R;refine sdc λ hok=>?_;subst hok;rw [A.nilif_inv];refine aR (u:=.tuple #[z,.bool false]) ?_ ((kA Q).pairB false);unfold Ka;simp only [Bh,run_underlying S,Aq];cases dd<;>first | exact absurd rfl (X _) | (simp [zeroValue,typeInfo,hi,hz])
  .exact trivial
 | extract x i=>
  have A:=j x;simp only [lY];refine cB.pv (s:=Instr.extract (ρv x) i) hm (λ_ _ _ _=>rfl) ?_;split
  .rename_i vs l;rw [l] at A;split
   .rename_i v hn;have hnv:=gX hn;obtain ⟨us,L,hl,J⟩:=A.tup_inv;have hlt:i<us.length:=by grind
    rw [L];refine aR (u:=us[i]) ?_ (J i _ v (Aa hlt) hnv);simp [Instr.extract,hlt]
   .exact trivial
  .exact trivial
 | panic x=>
  have A:=j x;simp only [lY];split
  .rename_i t v l;rw [l] at A;obtain ⟨u,L,hu⟩:=A.iface_inv;have:∀ F,F=ah (aB ac) 3 v->cB E.P ρv (.panic x) ty M ob ac w base ((λ v=>bif DC v then OR.pan (.iface t v) else .no) F):=λ F e=>by
    subst e
    refine sdc λ_=>⟨.iface t u,λ d pos a g=>?_,.iface _ _ _ (hm.pureV 3 _ _ hu)⟩
    simp [execOp,Instr.panic,L]
   grind
  .exact trivial
 | lookup t m k ok=>exact cB.pv (s:=Mi t (ρv m) (ρv k) ok) hm (λ_ _ _ _=>rfl) (ZW hE hm (j m) (j k) ok)
 | mapUpdate t m k v0=>
  refine Sd.mono (λ v o ⟨h1,w',M',ob',h2,h3,h4,h5⟩=>?_) (λ_ _ h=>h.elim) (λ_ h=>h.elim) (aDO (t:=t) hE hm (j m) (j k) (j v0));refine ⟨undef,w',M',ob',λ d pos a g=>.inr ⟨?_,rfl⟩,h3,h4,h5,by rw [h1];exact .undef _⟩;have:execOp ρv ⟨d,.mapUpdate t m k v0,ty,pos,a,g⟩=(Ku t (ρv m) (ρv k) (ρv v0) >>= λ_=>Pure.pure .skip):=rfl;simp_all
 | call c=>
  obtain ⟨callee,args,argTypes⟩:=c;have I:=BQ j args.toList;simp only [lY];cases callee with
  | value f=>
   have B:=j f;dsimp only;split
   .rename_i gid fs cs l;rw [l] at B;cases G:ρv f with
    | func fn first caps=>
     rw [G] at B;cases B with
     | func _ vfs vcs _ _ hl1 hl2 hr1 hr2=>
      rw [KY,KY];refine ⟨_,cA.append (cA.append ⟨hl1,hr1⟩ I) ⟨hl2,hr2⟩,λ d pos a g=>?_⟩;have W:(args.map ρv)=(args.toList.map ρv).toArray:=by apply Ds;simp
      simp [execOp,resolve,G,Deferred.ofValue,invoke,W,ES]
    | _=>rw [G] at B;cases B
   .rename_i lid fs cs l;rw [l] at B;cases G:ρv f with
    | func fn first caps=>
     rw [G] at B;cases B with
     | func _ vfs vcs _ _ hl1 hl2 hr1 hr2=>
      rw [KY];refine ⟨_,cA.append ⟨hl1,hr1⟩ I,λ d pos a g=>?_⟩;have W:(args.map ρv)=(args.toList.map ρv).toArray:=by apply Ds;simp
      simp [execOp,resolve,G,Deferred.ofValue,invoke,W,ES]
    | _=>rw [G] at B;cases B
   .exact trivial
  | invoke rc name=>
   have N:=j rc;dsimp only;split
   .rename_i t v l;rw [l] at N;split
    .rename_i gid hmg;cases hre:ρv rc with
     | iface t' F=>
      rw [hre] at N;cases N with
      | iface _ _ _ hv=>
       have hmm:=hE.mth t name gid hmg F w;refine ⟨_,cA.cons hv I,λ d pos a g=>?_⟩;have hva: #[F]++args.map ρv=(F::args.toList.map ρv).toArray:=by simp
       rw [<-hva];have hex:(#[Nc t F]++args.map ρv).extract 1 (#[Nc t F]++args.map ρv).size=args.map ρv:=by apply Ds;simp [Array.toList_extract];exact Ch s_
       simp only [execOp,resolve,Bh,Bz,Aq,invoke,hre];simp only [Gz (show 0<(#[Nc t F]).size by simp)];simp only [show (#[Nc t F]:Array Value)[0]? =some (.iface t F) from rfl,hex,callMethod,Bh,run_program,Aq,hmm,ES]
     | _=>rw [hre] at N;cases N
    .exact trivial
   .exact trivial
  | builtin b=>
   dsimp only
   have O:∀ {s:Sem Value} {r:OR},(∀ {u:Value} {w':World},s.run E.P w= .ok u w'->∀ d pos a g,(execOp ρv ⟨d,.call ⟨.builtin b,args,argTypes⟩,ty,pos,a,g⟩).run E.P w= .ok (.value u) w')->PM E.P M ob w s ac base r->cB E.P ρv (.call ⟨.builtin b,args,argTypes⟩) ty M ob ac w base r:=λ{s r} A h=>
    Sd.mono (λ v o ⟨u,w',M',ob',h2,h3,h4,h5,h6⟩=>⟨u,w',M',ob',λ d pos a g=>.inl (A h2 d pos a g),h3,h4,h5,h6⟩) (λ_ _ h=>h.elim) (λ_ h=>h.elim) h
   split
   .rename_i x t h1 h2;have K:args= #[x]:=by apply Ds;omega
    have U:argTypes= #[t]:=by apply Ds;omega
    subst K U;exact O (s:=Fo #[t] ty #[ρv x]) (λ J d pos a g=>by simp [execOp,resolve,invoke,builtin,J]) (PM.of hm (aLo hE hm (j x)))
   .rename_i x y h1;have K:args= #[x,y]:=by apply Ds;omega
    subst K;split
    .rename_i k p k' q W e2;have A:=j x;have hy:=j y;rw [W] at A;rw [e2] at hy;refine sdc λ hk=>?_;have:=wP hk;subst this;obtain ⟨hx1,hx2⟩:=A.int_inv;obtain ⟨hy1,hy2⟩:=hy.int_inv;refine ⟨_,w,M,ob,λ d pos a g=>.inl ?_,Ext.refl _ _ _ _,hm,cK.refl _ _,.int _ _ (DT hx2 hy2).1⟩;simp [execOp,resolve,invoke,builtin,hx1,hy1,aBl]
    .exact trivial
   .rename_i x y h1;have K:args= #[x,y]:=by apply Ds;omega
    subst K;split
    .rename_i k p k' q W e2;have A:=j x;have hy:=j y;rw [W] at A;rw [e2] at hy;refine sdc λ hk=>?_;have:=wP hk;subst this;obtain ⟨hx1,hx2⟩:=A.int_inv;obtain ⟨hy1,hy2⟩:=hy.int_inv;refine ⟨_,w,M,ob,λ d pos a g=>.inl ?_,Ext.refl _ _ _ _,hm,cK.refl _ _,.int _ _ (DT hx2 hy2).2⟩;simp [execOp,resolve,invoke,builtin,hx1,hy1,aBm]
    .exact trivial
   .rename_i x y t Z h1 h2;have K:args= #[x,y]:=by apply Ds;omega
    have U:argTypes= #[t,Z]:=by apply Ds;omega
    subst K U;exact O (s:=Co #[t,Z] ty #[ρv x,ρv y]) (λ J d pos a g=>by simp [execOp,resolve,invoke,builtin,J]) (ZX hE hm D H (j x) (j y))
   .rename_i x y t Z h1 h2;have K:args= #[x,y]:=by apply Ds;omega
    have U:argTypes= #[t,Z]:=by apply Ds;omega
    subst K U;exact O (s:=Kf #[t,Z] ty #[ρv x,ρv y]) (λ J d pos a g=>by simp [execOp,resolve,invoke,builtin,J]) (aH6 hE hm (j x) (j y))
   .rename_i x t h1 h2;have K:args= #[x]:=by apply Ds;omega
    have U:argTypes= #[t]:=by apply Ds;omega
    subst K U;exact O (s:=Jp #[t] ty #[ρv x]) (λ J d pos a g=>by simp [execOp,resolve,invoke,builtin,J]) (aDU hE hm (j x))
   .rename_i m k t Z h1 h2;have K:args= #[m,k]:=by apply Ds;omega
    have U:argTypes= #[t,Z]:=by apply Ds;omega
    subst K U;exact O (s:=Kv #[t,Z] ty #[ρv m,ρv k]) (λ J d pos a g=>by simp [execOp,resolve,invoke,builtin,J]) (ZV hE hm (j m) (j k))
   .exact trivial
 | _=>exact trivial
def aGG{v:Value}{a:aa}(h:Rep M ob v a):Rep M ob v (nrm a):=by
 cases h with
 | rowc k g c a n h hm=>exact .row k g a n c h
 | pre k g n c d b len h e j hl hm=>
  have:=Rep.sub (M:=M) k g 0 n d b len c h e o_ hl o_;rw [Mb,Iq] at this;exact this
 | undef v=>exact .undef v
 | bool b=>exact .bool b
 | int k n p=>exact .int k n p
 | str l hl=>exact .str l hl
 | agg vs as hl h=>exact .agg vs as hl h
 | tup vs as hl h=>exact .tup vs as hl h
 | ptr b o cs h=>exact .ptr b o cs h
 | ref k off b h=>exact .ref k off b h
 | eref k g i d off b n c h=>exact .eref k g i d off b n c h
 | csl k off len d b h hm=>exact .csl k off len d b h hm
 | row k g a n c h=>exact .row k g a n c h
 | sub k g lo len d b n c h hl j e hm=>exact .sub k g lo len d b n c h hl j e hm
 | sub0 k g lo d a w n c h hl e=>exact .sub0 k g lo d a w n c h hl e
 | mref k b h=>exact .mref k b h
 | nilptr=>exact .nilptr
 | nilslice=>exact .nilslice
 | nilmap=>exact .nilmap
 | nilfunc=>exact .nilfunc
 | nilif=>exact .nilif
 | hsl a n c=>exact .hsl a n c
 | slnil d t f=>exact .slnil d t f
 | slemp d t a cap f=>exact .slemp d t a cap f
 | sl d b o n cap xs t j e hm hz h f=>exact .sl d b o n cap xs t j e hm hz h f
 | func fn u cs r q s e h1 m=>exact .func fn u cs r q s e h1 m
 | iface t v a h=>exact .iface t v a h
def Rep.rowc_inv{v:Value}{k g c:Nat}(h:Rep M ob v (.rowc k g c)):∃ a n,v= .slice a n c/\at' ob k g=some (.slice a n c)/\(c:Int)<=9223372036854775807:=by cases h with | rowc _ _ _ a n h hm=>grind
def Rep.pre_inv{v:Value}{k g n c a:Nat}(h:Rep M ob v (.pre k g n c a)):∃ b len,v= .slice (some ⟨b,0,none⟩) n c/\at' ob k g=some (.slice (some ⟨b,0,none⟩) len c)/\0<c/\n<=len/\len<=c/\(c:Int)<=9223372036854775807:=by cases h with | pre _ _ _ _ _ b len h hc hn hl hm=>exact ⟨b,len,rfl,h,hc,hn,hl,hm⟩
def Mem.rowIs(hm:Mem M ob ac w){k g j:Nat}{e:TypeId}{xs:ay}(i:ac[k]? =some (.row g j e xs)){a:Option Addr}{n c:Nat}(d:at' ob k g=some (.slice a n c)):
  n=xs.length/\n<=c/\(n:Int)<=9223372036854775807/\(a=none/\n=0/\c=0\/∃ b,a=some ⟨b,0,none⟩):=by
 obtain ⟨hs',v,h1,o,h3,h,m,_⟩:=hm.rowOf i;rw [d] at h;cases h;rcases m.len with ⟨f,rfl⟩ | ⟨b,q,f,r,l,p⟩
 .simp_all
 .cases f;exact ⟨rfl,l,by have:=gI;omega,.inr ⟨b,rfl⟩⟩
def dM.on{v:Value}{j:Nat}{e:TypeId}{xs:ay}(h:dM M w v j e xs)(f:0<j){b n c y:Nat}(D:v= .slice (some ⟨b,0,none⟩) n c)(h1:xs.length<=y)(B:y<=c):
  dM M w (.slice (some ⟨b,0,none⟩) y c) j e (xs++Aj (y-xs.length) (.agg (Aj j .undef))):=by
 subst D;obtain ⟨cv,⟨P,A⟩,h3,I,J,H,t⟩:=h;rcases A with ⟨q,_⟩ | ⟨g,cap,i,L,_,z,N,G,s,K⟩
 .cases q
 cases L;have O:y*j<=i.size:=by rw [s];exact Br _ B
 have a:(xs++Aj (y-xs.length) (aa.agg (Aj j .undef))).length=y:=by simp;omega
 refine ⟨i.toList.take (y*j),⟨by rw [a];simp;omega,.inr ⟨b,c,i,by rw [a],Bx _,z,by omega,G,s,by rw [a]⟩⟩,λ u r=>t b rfl _ _ _ z u (Cy r),λ x k=>?_,λ q d p=>?_,H,t⟩
 .rcases Ba.1 k with k | k
  .exact I x k
  .rw [(Gf.1 k).2];simp [aa.cells]
 .have m:=fM f p;rw [a] at m;rw [Bj m];by_cases o:q<xs.length*j
  .rw [cN f o] at p;obtain ⟨u,r,C⟩:=J q d p;refine ⟨u,?_,C⟩;rw [<-K,Bj o] at r;exact r
  .rw [cF f o_] at p;obtain ⟨x,k,F⟩:=gB p;have:=(Gf.1 (Av k)).2;subst this;have:d= .undef:=(Gf.1 (Av (show (Aj j aa.undef)[_]? =some d from F))).2;subst this;have l:q<i.toList.length:=by simp;omega
   exact ⟨_,Aa l,.undef _⟩
def aLr(hE:ae E)(hm:Mem M ob ac w){t k g c hint:Nat}{v u:Value}{h:aa}(hv:Rep M ob v (.rowc k g c))(hu:Rep M ob u h):
  PM E.P M ob w (Gw t v none (some u) none) ac base (aLs E hint (aB ac) t k g c h):=by
 unfold aLs;split
 .rename_i e0 esz eb _ _ _ g' j e xs Y n hT Q;have s:=bZ Q s_;obtain ⟨⟨G,ie,z,hi',hs,_,_,_,_⟩,_⟩:=(hE.tab t _ hT).kind;refine sdc λ hg=>?_;obtain ⟨x,K⟩:=aV hg;obtain ⟨V,I⟩:=aV x;obtain rfl:=aC V;obtain rfl:=aC I;have C:0<j:=Ck K;obtain ⟨B,hel⟩:=EE G;have H:(E.P.info? (E.P.elem t)).map (·.size)=some j:=by simp_all
  have U:=λ u:World=>af (P:=E.P) H u;obtain ⟨L,len,rfl,l,W⟩:=hv.rowc_inv;obtain ⟨rfl,N,hnm,A⟩:=hm.rowIs s l;obtain ⟨rfl,_⟩:=hu.int_inv;rintro y rfl;have run:y<=c->(Gw t (.slice L xs.length c) none (some (.int Y (y:Int))) none).run E.P w= .ok (sliced L 0 y c j) w:=λ hy=>by rw [run_sliceAt_slice w t _ _ _ _ B,run_slice_h w t L _ c B Y y o_ o_,U];rfl
  cases hint with
  | zero=>
   rintro ⟨S,D⟩;refine ⟨_,w,M,ob,run o_,Ext.refl _ _ _ _,hm,cK.refl _ _,?_⟩;rcases A with ⟨rfl,_,q⟩ | ⟨b,rfl⟩
   .omega
   .have r:sliced (some ⟨b,0,none⟩) 0 y c j= .slice (some ⟨b,0,none⟩) y c:=by simp [sliced,bB]
    rw [r];exact .pre k g y c j b _ l D S N W
  | succ m=>
   rintro ⟨S,D⟩;obtain ⟨a,v0,r,F,Z,X,i,hblk⟩:=hm.rowOf s;rw [l] at X;cases X;rcases A with ⟨rfl,q1,q2⟩ | ⟨b,rfl⟩
   .-- nil:nothing cP on
    subst q2;obtain rfl:y=0:=o_;have J:xs=[]:=Az q1;subst J;have p:(a++[Gv none 0 0]).length=g+1+1:=by simp [F]
    have d:(a++[Gv none 0 0])[g+1]? =some (.slice none 0 0):=by rw [<-F];simp
    have:=hm.rowTurn (hs':=a++[Gv none 0 0]) s r Z ⟨_,rfl⟩ p d i (λ b _ _=>rfl) rfl rfl rfl (Bd _) (λ b O=>by cases O);refine ⟨_,w,M,ob.set k (a++[Gv none 0 0]),run (Bd _),?_⟩;rw [aP s];have R:([]:ay)++Aj (0-([]:ay).length) (aa.agg (Aj j .undef))=[]:=rfl;rw [R];refine ⟨this.2.1,this.1,this.2.2,?_⟩;have f:at' (ob.set k (a++[Gv none 0 0])) k (g+1)=some (.slice none 0 0):=by rw [bW (Au (Ab.1 r).1)];exact d
    have T:sliced none 0 0 0 j= .slice none 0 0:=by rfl
    rw [T];exact .row _ _ _ _ _ f
   .have T:sliced (some ⟨b,0,none⟩) 0 y c j= .slice (some ⟨b,0,none⟩) y c:=by simp [sliced,bB]
    have o:=i.on C rfl S D;have p:(a++[Gv (some ⟨b,0,none⟩) y c]).length=g+1+1:=by simp [F]
    have d:(a++[Gv (some ⟨b,0,none⟩) y c])[g+1]? =some (.slice (some ⟨b,0,none⟩) y c):=by rw [<-F];simp
    have:=hm.rowTurn (hs':=a++[Gv (some ⟨b,0,none⟩) y c]) s r Z ⟨_,rfl⟩ p d o (λ b _ _=>rfl) rfl rfl rfl (Bd _) (λ b' O=>.inl O);refine ⟨_,w,M,ob.set k (a++[Gv (some ⟨b,0,none⟩) y c]),run D,?_⟩;rw [aP s];refine ⟨this.2.1,this.1,this.2.2,?_⟩;have f:at' (ob.set k (a++[Gv (some ⟨b,0,none⟩) y c])) k (g+1)=some (.slice (some ⟨b,0,none⟩) y c):=by rw [bW (Au (Ab.1 r).1)];exact d
    rw [T];exact .row _ _ _ _ _ f
 .exact trivial
def aH5(hE:ae E)(hm:Mem M ob ac w){t k g:Nat}{v D B C:Value}{l h m:aa}(K:Rep M ob v (.row k g))(hl:Rep M ob D l)(S:Rep M ob B h)(f:Rep M ob C m):
  PM E.P M ob w (Gw t v (some D) (some B) (some C)) ac base (aDR E (aB ac) t k g l h m):=by
 unfold aDR;split
 .rename_i U Q eb _ _ _ X A e xs Y a Z b kc c F p;have J:=bZ p s_;obtain ⟨⟨i,T,z,L,hs,_,_,_,_⟩,_⟩:=(hE.tab t _ F).kind;refine sdc λ N=>?_;obtain ⟨o,s⟩:=aV N;obtain rfl:=aC o;obtain rfl:=aC s;obtain ⟨d,R⟩:=EE i;have r:(E.P.info? (E.P.elem t)).map (·.size)=some A:=by simp_all
  have n:=λ u:World=>af (P:=E.P) r u;obtain ⟨G,len,cap,rfl,j⟩:=K.row_inv;obtain ⟨rfl,I,O,H⟩:=hm.rowIs J j;obtain ⟨rfl,_⟩:=hl.int_inv;obtain ⟨rfl,_⟩:=S.int_inv;obtain ⟨rfl,_⟩:=f.int_inv;rintro x rfl y rfl q rfl ⟨⟨W,V⟩,c3⟩;refine ⟨sliced G x y q A,w,M,ob,?_,Ext.refl _ _ _ _,hm,cK.refl _ _,.undef _⟩;rw [run_sliceAt_slice w t _ _ _ _ d];unfold Lo Gp Jx;simp only [Bh,run_underlying d,Aq,Option.isSome_some,if_true,Bz,asIntOf];rw [if_pos ⟨by omega,by omega⟩];simp only [Bz,Aq];rw [if_pos ⟨by omega,by omega⟩];simp only [Bz,Aq];rw [if_pos ⟨by omega,by omega⟩];simp only [Bz,Aq,n,Bv];rfl
 .exact trivial
def AY{P:Program}(w:World)(t p ty e:TypeId)(x:IntKind)(i:TypeInfo)(z:Value)(s:P.underlying t=some (.slice e))(u:P.underlying p=some (.int x))(B:P.info? e=some i)(hz:i.zero=some z)
  (b n c m:Nat) (o:0<m) (f:0<i.size) (d:ba) (h:(Cj i.size n (.slice (some ⟨b,0,none⟩) n c)).run P w.drew= .ok d.toArray w.drew) (v:c<n+m) (A:((n+m:Nat):Int)<=9223372036854775807)
  (a:(n+m)*i.bytes<=140737488355328):
  (Co #[t,p] ty #[.slice (some ⟨b,0,none⟩) n c,.int .i64 (m:Int)]).run P w=
   .ok (.slice (some ⟨w.heap.size,0,none⟩) (n+m) (grownCap w (n+m) c e))
    (w.drew.alloc (.cells (d++(Ci z.cells m).toList++(Ci z.cells (grownCap w (n+m) c e-(n+m))).toList).toArray e)):=by
 have r:¬ (n+m<=c):=o_;have j:¬ (9223372036854775807<((n:Int)+(m:Int))):=o_;have q:=growslice_fits (bytes:=i.bytes) v a;have g:¬ (281474976710656<Builtin.nextslicecap (n+m) c*i.bytes):=o_;have C:IntKind.i64.wrap (m:Int)=(m:Int):=kB ⟨by simp only [cJ];omega,by simp only [bE];omega⟩;have k:¬ (281474976710656<(m:Int)*(i.bytes:Int)):=by grind
 have y:¬ ((m:Int)<0):=o_;have l:¬ (m*i.size=0):=by have:=Nat.mul_pos o f;omega
 simp [Co,run_underlying s,run_underlying u,sizeOf,typeInfo,zeroValue,B,hz,asInt,asIntOf,C,y,k,r,j,g,l,Question.forced,h,newRow,grownCap];congr 2;simp
def aH3(hE:ae E)(hm:Mem M ob ac w)(hb1:ac[base]? =some .dead)(Y:ob[base]? =some []){t T ty k g n c sz:Nat}{kt:IntKind}(Z:E.P.underlying T=some (.int kt)){v u:Value}{m:aa}
  (hv:Rep M ob v (.pre k g n c sz)) (l:Rep M ob u m):PM E.P M ob w (Co #[t,T] ty #[v,u]) ac base (WV E base (aB ac) t k g n c sz m):=by
 unfold WV;split
 .rename_i e esz eb _ _ _ g' sz' e' xs a hT W;split
  .rename_i te U;obtain ⟨⟨S,i,z,hi,O,Q,hz,C,hz1⟩,_⟩:=(hE.tab t _ hT).kind;subst O Q;refine sdc λ hg=>?_;simp only [Ad] at hg;obtain ⟨⟨⟨g1,g2⟩,g3,g4⟩,g5,g6⟩:=hg;obtain rfl:=aC g1;have q2:=aC g2;subst q2;have q3:=aC g3;subst q3;have q4:=aC g4;subst q4;have f:0<i.size:=Ck g5;obtain ⟨i',z',F,hsz',K,hzs',V,hone,hne⟩:=(hE.tab e te U).info;rw [hi] at F;cases F;rw [hz] at K;cases K;have hk:=bZ W s_;obtain ⟨b,len,rfl,D,hc0,hnl,hlc,hcm⟩:=hv.pre_inv;obtain ⟨rfl,_,hnm,_⟩:=hm.rowIs hk D;obtain ⟨rfl,_⟩:=l.int_inv;rintro y rfl ⟨c1,f1,f2⟩;obtain ⟨hs0,v0,e1,e2,e3,e4,G,hblk⟩:=hm.rowOf hk;rw [D] at e4;cases e4;obtain ⟨cv,o1,o2,o3,o4,o5,o6⟩:=G;have hml:=gI;have hle:n*i.size<=xs.length*i.size:=Br _ hnl;have h:(cv.take (n*i.size)).length=n*i.size:=by rw [Dn,o1.1];omega
   have X:(Cj i.size n (.slice (some ⟨b,0,none⟩) n c)).run E.P w.drew= .ok (cv.take (n*i.size)).toArray w.drew:=by
    refine run_firstCells_some w.drew i.size n ⟨b,0,none⟩ n c _ h λ j u L=>?_;rw [Gg] at L;split at L
    .rw [bB,Bp];exact fK o1 (b:=b) rfl L
    .cases L
   have H:=AY (P:=E.P) w t T ty e kt i z S Z hi hz b n c y o_ f _ X c1 o_ f2;have hp0:=hm.pure0 V;obtain ⟨R,d2⟩:=tL (z:=z.cells) (n:=y);rw [C] at R d2;obtain ⟨r1,r2⟩:=xT (M:=M) hp0 (BI g6) C f R d2;have hge:=grownCap_ge w (n+y) c e;have J:grownCap w (n+y) c e<=maxLen:=grownCap_le_maxLen w (n+y) c e f1;have A:(xs.take n).length=n:=by simp;omega
   have B:(xs.take n++Aj y (ah (λ_=>.dead) 4 te.zero)).length=n+y:=by simp;omega
   have o:∀ u∈cv.take (n*i.size)++(Ci z.cells y).toList,u.oneCell'=true:=λ u l=>by
    rcases Ba.1 l with l | l
    .exact o2 u (Cy l)
    .exact jT hz1 u l
   have r:(cv.take (n*i.size)++(Ci z.cells y).toList).length=(n+y)*i.size:=by rw [Ai,h,R,Bw]
   have gr:Grown M w (w.drew.alloc (.cells (cv.take (n*i.size)++(Ci z.cells y).toList++(Ci z.cells (grownCap w (n+y) c e-(n+y))).toList).toArray e)) i.size e
     (.slice (some ⟨w.heap.size,0,none⟩) (n+y) (grownCap w (n+y) c e)) (xs.take n++Aj y (ah (λ_=>.dead) 4 te.zero)):=by
    refine ⟨⟨cv.take (n*i.size)++(Ci z.cells y).toList,⟨by rw [r,B],.inr ⟨w.heap.size,_,_,by rw [B],Bx _,heap_alloc_new w.drew _,by omega,J,?_,?_⟩⟩,o,λ q d N=>?_⟩,f,λ x I=>?_,λ b' s=>?_,λ b' s=>heap_alloc_old w.drew _ s,rfl,rfl,rfl,by simp,?_⟩
    .rw [Gn,Ai,r,Iw,size_zeroCells,C,<-Bw];congr 1;omega
    .rw [B,<-r];exact Hn
    .by_cases p:q<n*i.size
     .rw [cN f (by rw [A];exact p),mZ f p] at N;obtain ⟨u,l,hr⟩:=o4 q d N;exact ⟨u,by rw [Ag o_,Bj p];exact l,hr⟩
     .rw [cF f (by rw [A];omega),A] at N;rw [Ak o_,h];exact r2 _ d N
    .rcases Ba.1 I with I | I
     .exact o3 x (Cy I)
     .exact r1 x I
    .simp only [Gl,Dq] at s;omega
    .refine pG (w:=w.drew) λ u l=>?_;rcases Ba.1 l with l | l
     .exact o u l
     .exact jT hz1 u l
   exact pR (hint:=2) hm hb1 Y H gr
  .exact trivial
 .exact trivial
def R9(hE:ae E)(hm:Mem M ob ac w)(A:ac[base]? =some .dead)(q:ob[base]? =some []){ρv:Operand->Value}{ρ:Operand->aa}(a:∀ x,Rep M ob (ρv x) (ρ x)){hint:Nat}{op:Op}(ty:TypeId){r:OR}
  (h:kY E hint base (aB ac) ρ op=some r):cB E.P ρv op ty M ob ac w base r:=by
 cases op with
 | move x=>cases h;exact cB.now hm (λ_ _ _ _=>rfl) (a x)
 | assign x=>
  simp only [kY] at h;split at h
  .rename_i k g c b;cases h;have:=a x;rw [b] at this;exact cB.now hm (u:=ρv x) (λ_ _ _ _=>rfl) this
  .cases h
 | slice t x lo H F=>
  cases lo with
  | none=>
   cases H with
   | none=>simp [kY] at h
   | some i=>
    cases F with
    | some _=>simp [kY] at h
    | none=>
     simp only [kY] at h;split at h
     .rename_i k g c b;cases h;have:=a x;rw [b] at this;exact cB.pm (s:=Gw t (ρv x) none (some (ρv i)) none) (λ_ _ _ _=>rfl) (aLr hE hm this (a i))
     .cases h
  | some l=>
   cases H with
   | none=>simp [kY] at h
   | some i=>
    cases F with
    | none=>simp [kY] at h
    | some m=>
     simp only [kY] at h;split at h
     .rename_i k g b;cases h;have:=a x;rw [b] at this;exact cB.pm (s:=Gw t (ρv x) (some (ρv l)) (some (ρv i)) (some (ρv m))) (λ_ _ _ _=>rfl) (aH5 hE hm this (a l) (a i) (a m))
     .cases h
 | call c=>
  obtain ⟨callee,args,argTypes⟩:=c;simp only [kY] at h;split at h
  .split at h
   .rename_i x t h1 j;split at h
    .rename_i k g n _ _ _ _ _ _ b I;cases h;have B:args= #[x]:=by apply Ds;omega
     have C:argTypes= #[t]:=by apply Ds;omega
     subst B C;have f:=a x;rw [b] at f;obtain ⟨R,len,J,K,L⟩:=f.rowc_inv;obtain ⟨⟨p,_⟩,_⟩:=(hE.tab t _ I).kind;refine ⟨.int .i64 n,w,M,ob,λ d pos e g=>.inl ?_,Ext.refl _ _ _ _,hm,cK.refl _ _,.int _ _ ⟨by simp only [cJ];omega,by simp only [bE];omega⟩⟩;simp [execOp,resolve,invoke,builtin,Builtin.cap_,J,run_underlying p,goInt]
    .cases h
   .cases h
  .split at h
   .rename_i x y t G h1 j;split at h
    .rename_i k g n c S T _ _ _ b D;cases h;have B:args= #[x,y]:=by apply Ds;omega
     have C:argTypes= #[t,G]:=by apply Ds;omega
     subst B C;have f:=a x;rw [b] at f;have z:=(hE.tab G _ D).kind.1;exact Sd.mono (λ v o ⟨u,w',M',ob',j,h3,O,Q,N⟩=>⟨u,w',M',ob',λ d pos e g=>.inl (by simp [execOp,resolve,invoke,builtin,j]),h3,O,Q,N⟩) (λ_ _ h=>h.elim) (λ_ h=>h.elim) (aH3 hE hm A q (ty:=ty) z f (a y))
    .cases h
   .cases h
  .cases h
 | _=>simp [kY] at h
def yL(hE:ae E)(hm:Mem M ob ac w)(b:ac[base]? =some .dead)(a:ob[base]? =some []){ρv:Operand->Value}{ρ:Operand->aa}(c:∀ x,Rep M ob (ρv x) (ρ x))(hint:Nat)(op:Op)(ty:TypeId):
  cB E.P ρv op ty M ob ac w base (eop E hint base (aB ac) ρ op ty):=by
 unfold eop;split
 .rename_i r d;exact R9 hE hm b a c ty d
 .exact SA hE hm b a (λ x=>aGG (c x)) hint op ty
end
section
variable {P:Program} {M M':Imm} {ob ob':Hs} {ac L:au} {w w':World}
def tK.monoA(a:∀ (k g:Nat) v,at' ob k g=some v->at' ob' k g=some v){v:Value}{t:Tk}(h:tK ob v t):tK ob' v t:=by
 cases t with
 | own k g=>exact a _ _ _ h
 | _=>exact h
def Rep.monoA(e:∀ (k g:Nat) v,at' ob k g=some v->at' ob' k g=some v){v:Value}{a:aa}(h:Rep M ob v a):Rep M ob' v a:=by
 induction h with
 | undef v=>exact .undef v
 | bool b=>exact .bool b
 | int k n h=>exact .int k n h
 | str l h=>exact .str l h
 | agg vs as hl _ j=>exact .agg vs as hl j
 | tup vs as hl _ j=>exact .tup vs as hl j
 | ptr b o cs h=>exact .ptr b o cs h
 | ref k off b h=>exact .ref k off b (e _ _ _ h)
 | eref k g i d off b n c h=>exact .eref k g i d off b n c (e _ _ _ h)
 | csl k off len d b h hm=>exact .csl k off len d b (e _ _ _ h) hm
 | row k g a n c h=>exact .row k g a n c (e _ _ _ h)
 | sub k g lo len d b n c h hl m f hm=>exact .sub k g lo len d b n c (e _ _ _ h) hl m f hm
 | sub0 k g lo d a y n c h hl f=>exact .sub0 k g lo d a y n c (e _ _ _ h) hl f
 | rowc k g c a n h hm=>exact .rowc k g c a n (e _ _ _ h) hm
 | pre k g n c d b len h f m hl hm=>exact .pre k g n c d b len (e _ _ _ h) f m hl hm
 | mref k b h=>exact .mref k b (e _ _ _ h)
 | nilptr=>exact .nilptr
 | nilslice=>exact .nilslice
 | nilmap=>exact .nilmap
 | nilfunc=>exact .nilfunc
 | nilif=>exact .nilif
 | hsl a n c=>exact .hsl a n c
 | slnil d t p=>exact .slnil d t (p.monoA e)
 | slemp d t a cap p=>exact .slemp d t a cap (p.monoA e)
 | sl d b o n cap xs t m f hm hz h p=>exact .sl d b o n cap xs t m f hm hz h (p.monoA e)
 | func fn x cs u s w f _ _ q r=>exact .func fn x cs u s w f q r
 | iface t v a _ j=>exact .iface t v a j
def Mem.idle(h:Mem M ob L w){k:Nat}(j:ob[k]? =some []):L[k]? =some .dead:=by
 have d:k<L.length:=by rw [<-h.len];grind
 have e:=Aa d;obtain ⟨hs,f,a⟩:=h.obj k _ e;rw [j] at f;cases f;cases c:L[k] with
 | dead=>rw [e,c]
 | cells T cs=>rw [c] at a;obtain ⟨b,q,_⟩:=a;cases q
 | fcells cs=>rw [c] at a;obtain ⟨b,q,_⟩:=a;cases q
 | row g i e xs=>rw [c] at a;have:=a.1;simp at this
 | frow g i xs=>rw [c] at a;obtain ⟨v,q,_⟩:=a;simp at q
 | tail g i e=>rw [c] at a;have:=a.1;simp at this
 | mp l es=>rw [c] at a;obtain ⟨b,q,_⟩:=a;cases q
 | bun g I=>rw [c] at a;have:=a.1;simp at this
def Mem.live(h:Mem M ob L w){k:Nat}{c:ab}(b:L[k]? =some c)(d:c≠ .dead):∃ hs,ob[k]? =some hs/\hs≠[]:=by
 obtain ⟨hs,a,_⟩:=h.obj k c b;refine ⟨hs,a,λ e=>?_⟩;subst e;rw [h.idle a] at b
 grind
def Mem.shrink{n:Nat}(h:Mem M ob (ac++Aj n .dead) w)(x:∀ (i:Nat) hs,ac.length<=i->ob[i]? =some hs->hs=[]):
  Mem M (ob.take ac.length) ac w/\(∀ (k g:Nat) v,at' ob k g=some v->at' (ob.take ac.length) k g=some v)/\
   ∀ {M0:Imm} {ob0:Hs} {d:au} {w0:World},Ext M0 ob0 d w0 M ob (ac++Aj n .dead) w->ob0.length<=ac.length->Ext M0 ob0 d w0 M (ob.take ac.length) ac w:=by
 have hl:=h.len;simp at hl
 have left:∀ {i:Nat},i<ac.length->(ob.take ac.length)[i]? =ob[i]?/\(ac++Aj n ab.dead)[i]? =ac[i]?:=λ{i} hi=>⟨Bj hi,Ag hi⟩
 have o:∀ (k g:Nat) v,at' ob k g=some v->at' (ob.take ac.length) k g=some v:=by
  intro k g v f;by_cases e:k<ac.length
  .unfold at' at f⊢;rw [(left e).1];exact f
  .unfold at' at f;cases r:ob[k]? with
   | none=>rw [r] at f;cases f
   | some hs=>
    have:=x k hs o_ r;subst this;rw [r] at f;simp at f
 have alive:∀ {k b:Nat},aG (ob.take ac.length) ac k b->aG ob (ac++Aj n .dead) k b:=λ{k b} ⟨c,hs,m,q,e3,e4⟩=>by have e:=(Ab.1 m).1;exact ⟨c,hs,(left e).2.trans m,q,(left e).1▸e3,e4⟩
 refine ⟨⟨h.imm,by simp;omega,λ k c s=>?_,λ k b l=>h.lt k b (alive l),λ i j b l A=>h.inj i j b (alive l) (alive A)⟩,o,λ{M0 ob0 d w0} hx h0=>⟨hx.imm,hx.new,λ k hs e=>?_,hx.os,hx.tape,hx.output,hx.size,hx.keep,λ k b l=>hx.fresh k b (alive l)⟩⟩
 .have e:=(Ab.1 s).1;obtain ⟨hs,m,p⟩:=h.obj k c ((left e).2.trans s);refine ⟨hs,(left e).1.trans m,?_⟩;cases c with
  | cells T cs=>
   obtain ⟨b,D,C,cv,B,y,z,u⟩:=p;exact ⟨b,D,C,cv,B,y,z,λ i v a f l=>(u i v a f l).monoA o⟩
  | _=>exact p
 .obtain ⟨hs',m,q⟩:=hx.hs k hs e;have t:=(Ab.1 e).1;exact ⟨hs',(left o_).1.trans m,q⟩
def O0(ac:au)(j g:Nat):jF [] ac j g=g:=rfl
def aDM(base:Nat)(ac:au):∀ n,embV [] base ac n=embV [] base [] n:=by
 intro n;induction n with
 | zero=>rfl
 | succ n b=>
  funext a;cases a<;>simp only [embV,O0,b]
def jM(base:Nat)(new:au):au:=new.map (pP [] base [] 0)
def Mem.emb0(h:Mem M ob L w){base:Nat}{new:au}{d:Hs}(R:base+new.length<=L.length)(H:∀ j,j<new.length->ob[base+j]? =some [])
  (p:Ext M [] [] w M' d new w') (O:Mem M' d new w'):
  Mem M' (ob.take base++d++ob.drop (base+d.length)) (L.take base++jM base new++L.drop (base+(jM base new).length)) w'/\
   Ext M ob L w M' (ob.take base++d++ob.drop (base+d.length)) (L.take base++jM base new++L.drop (base+(jM base new).length)) w'/\
   (∀ n v a,Rep M' d v a->Rep M' (ob.take base++d++ob.drop (base+d.length)) v (AW.embV [] base [] n a)):=by
 have r:d.length=new.length:=O.len;have C:(jM base new).length=new.length:=by simp [jM]
 obtain ⟨p1,Y⟩:=fJ ob d base (by rw [h.len,r];exact R);obtain ⟨q1,q2⟩:=fJ L (jM base new) base o_;rw [r] at Y;rw [C] at q2;have inO:∀ {j:Nat},j<new.length->(ob.take base++d++ob.drop (base+d.length))[base+j]? =d[j]?:=λ{j} m=>by have:=Y (base+j);rw [if_pos ⟨by omega,by omega⟩,Gm] at this;rw [r];exact this
 have u:∀ {i:Nat},¬ (base<=i/\i<base+new.length)->(ob.take base++d++ob.drop (base+d.length))[i]? =ob[i]?:=λ{i} I=>by have:=Y i;rw [if_neg I] at this;rw [r];exact this
 have inL:∀ {j:Nat},j<new.length->(L.take base++jM base new++L.drop (base+(jM base new).length))[base+j]? =(new[j]?).map (pP [] base [] 0):=λ{j} m=>by have:=q2 (base+j);rw [if_pos ⟨by omega,by omega⟩,Gm] at this;rw [C,this];simp [jM]
 have F:∀ {i:Nat},¬ (base<=i/\i<base+new.length)->(L.take base++jM base new++L.drop (base+(jM base new).length))[i]? =L[i]?:=λ{i} I=>by have:=q2 i;rw [if_neg I] at this;rw [C];exact this
 have N:∀ {j g:Nat} {v:Value},at' d j g=some v->at' (ob.take base++d++ob.drop (base+d.length)) (dZ [] base j) (jF [] [] j g)=some v:=by
  intro j g v K;rw [jX (Bx _),O0];show at' _ (base+j) g=some v;unfold at' at K⊢;cases hq:d[j]? with
  | none=>rw [hq] at K;cases K
  | some hs=>
   have m:j<new.length:=by rw [<-r];exact (Ab.1 hq).1
   rw [inO m];exact K
 have D:∀ n v a,Rep M' d v a->Rep M' (ob.take base++d++ob.drop (base+d.length)) v (AW.embV [] base [] n a):=OY N λ K _=>N K;have P:dJ ob (ob.take base++d++ob.drop (base+d.length)):=by
  intro i hs I;by_cases l:base<=i/\i<base+new.length
  .have e:=H (i-base) o_;rw [show base+(i-base)=i from by omega,I] at e;cases e;have m:i-base<d.length:=o_;refine ⟨d[i-base],?_,List.nil_prefix⟩;have:=inO (j:=i-base) o_;rw [show base+(i-base)=i from by omega] at this;rw [this];simp
  .exact ⟨hs,(u l).trans I,Cn _⟩
 have G:∀ o:ab,(pP [] base [] 0 o).owns=o.owns:=λ o=>by cases o<;>rfl
 have A:∀ {i b:Nat},aG (ob.take base++d++ob.drop (base+d.length)) (L.take base++jM base new++L.drop (base+(jM base new).length)) i b->(∃ j,j<new.length/\i=base+j/\aG d new j b)\/(¬ (base<=i/\i<base+new.length)/\aG ob L i b):=by
  rintro i b ⟨c,hs,z,X,S,e4⟩;by_cases l:base<=i/\i<base+new.length
  .obtain ⟨j,rfl⟩:∃ j,i=base+j:=⟨i-base,by omega⟩
   have m:j<new.length:=o_;rw [inL m] at z;rw [inO m] at S;obtain ⟨o,ho,rfl⟩:=Cf.1 z;rw [G] at X;exact .inl ⟨j,m,rfl,o,hs,ho,X,S,e4⟩
  .rw [F l] at z;rw [u l] at S;exact .inr ⟨l,c,hs,z,X,S,e4⟩
 have Q:∀ {i b:Nat},aG ob L i b->(∀ j,¬ aG d new j b):=λ{i b} t j m=>by
  rcases p.fresh j b m with ⟨k',c,hs,e,_⟩ | q
  .simp at e
  .have:=h.lt i b t;omega
 have x:∀ b k,¬ aG ([]:Hs) [] k b:=λ b k ⟨c,hs,e,_⟩=>by simp at e
 refine ⟨⟨O.imm,by rw [r] at p1⊢;rw [C] at q1⊢;rw [p1,q1];exact h.len,λ i c J=>?_,λ i b t=>?_,λ i i' b t W=>?_⟩,⟨p.imm,λ b o y hy=>?_,P,p.os,p.tape,p.output,p.size,λ b W hn=>p.keep b W (x b),λ i b t=>?_⟩,D⟩
 .by_cases l:base<=i/\i<base+new.length
  .obtain ⟨j,rfl⟩:∃ j,i=base+j:=⟨i-base,by omega⟩
   have m:j<new.length:=o_;rw [inL m] at J;obtain ⟨o,ho,rfl⟩:=Cf.1 J;obtain ⟨hs,z,B⟩:=O.obj j o ho;refine ⟨hs,(inO m).trans z,?_⟩;cases o with
   | cells T cs=>
    obtain ⟨b,t1,t2,cv,t3,t4,t5,t6⟩:=B;obtain ⟨m1,m2⟩:=bX (D 4) t4 t6;exact ⟨b,t1,t2,cv,t3,m1,t5,m2⟩
   | _=>exact B
  .rw [F l] at J;obtain ⟨hs,z,B⟩:=h.obj i c J;refine ⟨hs,(u l).trans z,B.mono p.imm P (λ b h1 V o U y hy=>?_) (λ b c' h1 V Z=>?_)⟩
   .have t:aG ob L i b:=(cO J z).2 ⟨h1,V⟩;rcases p.new b o y hy with q | q | ⟨k,q⟩
    .exact U y q
    .have:=h.lt i b t;omega
    .exact x b k q
   .have t:aG ob L i b:=(cO J z).2 ⟨h1,V⟩;rw [p.keep b (h.lt i b t) (x b)];exact Z
 .rcases A t with ⟨j,m,rfl,f⟩ | ⟨_,f⟩
  .exact O.lt j b f
  .exact Ew (h.lt i b f) p.size
 .rcases A t with ⟨j,m,rfl,f⟩ | ⟨_,f⟩<;>rcases A W with ⟨j',hj',rfl,s⟩ | ⟨_,s⟩
  .rw [O.inj j j' b f s]
  .exact absurd f (Q s j)
  .exact absurd s (Q f j')
  .exact h.inj i i' b f s
 .rcases p.new b o y hy with q | q | ⟨k,q⟩
  .exact .inl q
  .omega
  .exact (x b k q).elim
 .rcases A t with ⟨j,m,rfl,f⟩ | ⟨_,f⟩
  .rcases p.fresh j b f with ⟨k,q⟩ | q
   .exact (x b k q).elim
   omega
  .exact .inl ⟨i,f⟩
end
section
variable {M:Imm} {ob:Hs} {n:Nat}
def jY{k n:Nat}(h:Ff k n=true):k<n:=by simp_all
def jZ{k g:Nat}{v:Value}(a:k<n)(h:at' ob k g=some v):at' (ob.take n) k g=some v:=by
 unfold at' at *
 grind
def mE{f:aa->Bool}:∀ {l:ay},EV f l=true->∀ (i:Nat) a,l[i]? =some a->f a=true
 | [],_,i,a,h=>by simp at h
 | c::r,hb,i,a,h=>by
  simp only [EV,Ad] at hb;cases i with
  | zero=>grind
  | succ i=>exact mE hb.2 i a (by simp_all)
def EU{v:Value}{t:Tk}(h:tK ob v t)(a:aND n t=true):tK (ob.take n) v t:=by
 cases t with
 | own k g=>exact jZ (jY a) h
 | _=>exact h
def BS:∀ (m:Nat) {v:Value} {a:aa},Rep M ob v a->bel n m a=true->Rep M (ob.take n) v a:=by
 intro m;induction m with
 | zero=>intro v a _ h;cases h
 | succ m q=>
  intro v a h d;cases h with
  | undef v=>exact .undef v
  | bool b=>exact .bool b
  | int k n y=>exact .int k n y
  | str l hl=>exact .str l hl
  | agg vs as hl h=>exact .agg vs as hl λ i v a p f=>q (h i v a p f) (mE d i a f)
  | tup vs as hl h=>exact .tup vs as hl λ i v a p f=>q (h i v a p f) (mE d i a f)
  | ptr b o cs h=>exact .ptr b o cs h
  | ref k off b h=>exact .ref k off b (jZ (jY d) h)
  | eref k g i e off b n c h=>exact .eref k g i e off b n c (jZ (jY d) h)
  | csl k off len e b h hm=>exact .csl k off len e b (jZ (jY d) h) hm
  | row k g a n c h=>exact .row k g a n c (jZ (jY d) h)
  | sub k g lo len e b n c h hl r j hm=>exact .sub k g lo len e b n c (jZ (jY d) h) hl r j hm
  | sub0 k g lo e a D n c h hl j=>exact .sub0 k g lo e a D n c (jZ (jY d) h) hl j
  | rowc k g c a n h hm=>exact .rowc k g c a n (jZ (jY d) h) hm
  | pre k g n c e b len h j r hl hm=>exact .pre k g n c e b len (jZ (jY d) h) j r hl hm
  | mref k b h=>exact .mref k b (jZ (jY d) h)
  | nilptr=>exact .nilptr
  | nilslice=>exact .nilslice
  | nilmap=>exact .nilmap
  | nilfunc=>exact .nilfunc
  | nilif=>exact .nilif
  | hsl a n c=>exact .hsl a n c
  | slnil e t s=>exact .slnil e t (EU s d)
  | slemp e t a cap s=>exact .slemp e t a cap (EU s d)
  | sl e b o n cap xs t r j hm hz h s=>exact .sl e b o n cap xs t r j hm hz h (EU s d)
  | func fn C cs A z B j h1 x=>
   obtain ⟨w,u⟩:=aV d;exact .func fn C cs A z B j (λ i v a p f=>q (h1 i v a p f) (mE w i a f)) (λ i v a p f=>q (x i v a p f) (mE u i a f))
  | iface t v a h=>exact .iface t v a (q h d)
def C1:∀ (n:Nat) (l:au),nZ n l=l.take n
 | 0,_=>by simp [nZ]
 | n+1,[]=>by simp [nZ]
 | n+1,x::r=>by simp [nZ,C1 n r]
def PW{n:Nat}:∀ {l:au},FR n l=true->∀ (i:Nat) T cs,l[i]? =some (.cells T cs)->EV (bel n 5) cs=true
 | [],_,i,T,cs,h=>by simp at h
 | x::r,hb,i,T,cs,h=>by
  cases i with
  | zero=>
   simp at h;subst h;simp only [FR,Ad] at hb;exact hb.1
  | succ i=>
   refine PW (l:=r) ?_ i T cs (by simp_all);cases x<;>first | exact hb | (simp only [FR,Ad] at hb;exact hb.2)
def PX{n:Nat}:∀ {l:ar},aEx n l=true->∀ t,bel n 5 (aW l t)=true\/aW l t= .undef
 | [],_,t=>.inr rfl
 | (i,v)::r,hb,t=>by
  simp only [aEx,Ad] at hb;simp only [aW];cases Ax i t with
  | true=>grind
  | false=>exact PX hb.2 t
def Mem.cutO{ac:au}{w:World}(h:Mem M ob ac w)(o:FR n (ac.take n)=true):Mem M (ob.take n) (ac.take n) w/\∀ {k b:Nat},aG (ob.take n) (ac.take n) k b->aG ob ac k b:=by
 have left:∀ {i:Nat} {c:ab},(ac.take n)[i]? =some c->i<n/\ac[i]? =some c:=λ{i c} g=>by
  rw [Gg] at g
  grind
 have alive:∀ {k b:Nat},aG (ob.take n) (ac.take n) k b->aG ob ac k b:=λ{k b} ⟨c,hs,e,e2,e3,e4⟩=>by obtain ⟨l,e⟩:=left e;rw [Bj l] at e3;exact ⟨c,hs,e,e2,e3,e4⟩
 refine ⟨⟨h.imm,by simp [h.len],λ k c g=>?_,λ k b d=>h.lt k b (alive d),λ i j b d o=>h.inj i j b (alive d) (alive o)⟩,alive⟩;obtain ⟨l,m⟩:=left g;obtain ⟨hs,e,f⟩:=h.obj k c m;refine ⟨hs,by rw [Bj l];exact e,?_⟩;cases c with
 | cells T cs=>
  obtain ⟨b,x,u,cv,t,r,s,q⟩:=f;exact ⟨b,x,u,cv,t,r,s,λ i v a p d=>BS 5 (q i v a p d) (mE (PW o k _ cs g) i a d)⟩
 | _=>exact f
end
def fen(r:Option Nat):Fence:={Fence.wide with round:=r}
def nO(P:Program)(o:Oper)(ρ:Operand->Value)(w:World)(R:Ending->World->Prop):Prop:=
 (∃ v w',(execOp ρ o).run P w= .ok (.value v) w'/\R (.returned v) w')\/
 (∃ w',(execOp ρ o).run P w= .ok .skip w'/\R (.returned undef) w')\/
 (∃ v w',(execOp ρ o).run P w= .halt (.panic v) w'/\R (.panicked [{v,recovered:=false}]) w')\/
 (∃ f args w',(execOp ρ o).run P w= .ok (.enter f args) w'/\Calls P f args w' λ e a=>R e a/\e≠ .outgrown)\/
 (∃ l f tmps as b w',(execOp ρ o).run P w= .ok (.round l f tmps as b) w'/\RoundIn Fence.wide 0 P l f tmps as b w' λ e a=>R e a/\e≠ .outgrown)
def nO.wpIn{rd:Option Nat}{P:Program}{o:Oper}{a:Act}{w:World}{R:Ending->World->Prop}(h:nO P o a.eval w R){next:Act->World->Prop}{Q:Exit->Act->World->Prop}
  (j:∀ c,o.op≠ .defer c) (h1:∀ v w',R (.returned v) w'->next (a.put o.dst v) w') (p:∀ m w',R (.panicked m) w'->Q (.panic m) a w'):o.wpIn (fen rd) 0 P a w next Q:=by
 refine ⟨λ_ _=>trivial,?_⟩;rw [Oper.semAt_eq _ _ _ j];rcases h with ⟨v,w',b,d⟩ | ⟨w',b,d⟩ | ⟨v,w',b,d⟩ | ⟨f,args,w',b,i⟩ | ⟨l,f,tmps,as,q,w',b,i⟩
 .rw [b];exact h1 v w' d
 .rw [b];exact h1 undef w' d
 .rw [b];exact p _ w' d
 .rw [b];refine ⟨λ h=>(by cases h),(callsIn_wide (n:=0)).2 (i.mono λ e k ⟨d,g⟩=>?_)⟩
  grind
 .rw [b];refine ⟨λ h=>(by cases h),RoundIn.mono (F:=Fence.wide) i λ e k ⟨d,g⟩=>?_⟩
  grind
def E8(M:Imm)(ob:Hs)(L:au)(w:World)(K:aa->au->Prop)(Kp:aa->au->Prop)(e:Ending)(w':World):Prop:=
 ∃ M' ob' L',Ext M ob L w M' ob' L' w'/\Mem M' ob' L' w'/\((∃ u v,e= .returned u/\Rep M' ob' u v/\K v L')\/∃ a v,e= .panicked a/\sE M' ob' e (.pan v)/\Kp v L')
section
variable {P:Program} {E:Env} {M M':Imm} {ob ob':Hs} {ac L:au} {w w':World} {K Kp:aa->au->Prop}
def jB.mono{f:FuncId}{b:Array Value}{R d:Ending->World->Prop}(c:∀ e w,R e w->d e w)(h:jB P f b w R):jB P f b w d:=by
 rcases h with ⟨h1,a⟩ | ⟨u,w',h1,a⟩
 .exact .inl ⟨h1,a.mono λ e w h=>c e w h⟩
 .exact .inr ⟨u,w',h1,c _ _ a⟩
def E8.ne{e:Ending}(h:E8 M ob L w K Kp e w'):e≠ .outgrown:=by obtain ⟨_,_,_,_,_,⟨u,v,rfl,_⟩ | ⟨a,v,rfl,_⟩⟩:=h<;>(simp)
def cG.mono{f:Fn}{a:Array Value}{R c:Ending->World->Prop}(b:∀ e w,R e w->c e w)(h:cG P f a w R):cG P f a w c:=by
 cases f with
 | func f=>exact jB.mono b h
 | yield l=>
  obtain ⟨f,tmps,as,d,h1,g⟩:=h;exact ⟨f,tmps,as,d,h1,RoundIn.mono g b⟩
 | _=>exact h.elim
def jB.op{f:Fn}{c:Array Value}{o:Oper}{ρ:Operand->Value}{R:Ending->World->Prop}(b:∀ e w,R e w->e≠ .outgrown)(d:(execOp ρ o).run P w=(ES f c).run P w)(h:cG P f c w R):nO P o ρ w R:=by
 cases f with
 | func f=>
  rcases h with ⟨h1,a⟩ | ⟨u,w',h1,a⟩
  .exact .inr (.inr (.inr (.inl ⟨f,c,w,d.trans h1,a.mono λ e w h=>⟨h,b e w h⟩⟩)))
  .exact .inl ⟨u,w',d.trans h1,a⟩
 | yield l=>
  obtain ⟨f,tmps,as,g,h1,a⟩:=h;exact .inr (.inr (.inr (.inr ⟨l,f,tmps,as,g,w,d.trans h1,RoundIn.mono a λ e w h=>⟨h,b e w h⟩⟩)))
 | _=>exact h.elim
def sS{b:Hs}{g:aa->aa}(c:∀ v a,Rep M ob v a->Rep M' b v (g a)){vs:ba}{as:ay}(h:cA M ob vs as):cA M' b vs (dO g as):=bX c h.1 h.2
def nA(hm:Mem M ob L w){f:Fn}{args:ay}{i:ba}{ks:az}{r:Res}{ao:au}(g:jD ks L=true)(l:cA M ob i args)
  (h:bH P f (dO (cvtV 0 ks (aB L) 5) args) (gG 0 ks L) r ao):
  cG P f i.toArray w λ e w'=>∃ M' b,Ext M ob L w M' (jN ks ob b) (gJ ks L.length L 0 ao L) w'/\Mem M' (jN ks ob b) (gJ ks L.length L 0 ao L) w'/\sE M' b e r/\b.length=ao.length/\
   ∀ n v a,Rep M' b v a->Rep M' (jN ks ob b) v (embV ks L.length L n a):=by
 obtain ⟨m,_,_⟩:=hm.cvt (n0:=0) g;refine cG.mono (λ e w' ⟨M',b,j,c,d⟩=>?_) (h M _ w i m (sS (λ v a=>hm.cvtV (n0:=0) g 5 v a) l));obtain ⟨k,o,_⟩:=hm.emb g j c;exact ⟨M',b,o,k,d,c.len,hm.embV g j.hs oP⟩
def PO(hm:Mem M ob ac w){f:Fn}{args:ay}{A:ba}(C:cA M ob A args)(h:CallG P f args ac K Kp):cG P f A.toArray w (E8 M ob ac w K Kp):=by
 have mono:∀ {n:Imm},(∀ b o x,M b o x->n b o x)->cA n ob A args:=λ D=>⟨C.1,λ i v a F G=>(C.2 i v a F G).monoM D⟩
 cases h with
 | pure r new h k=>
  obtain ⟨n,j,d,_,s⟩:=hm.frzL args;refine cG.mono (λ e w' ⟨M',g,l,m,c,_,p⟩=>?_) (nA (ks:=[]) j rfl (mono d.imm) h);refine ⟨M',_,_,d.trans l,m,.inl ?_⟩;rw [bJ,<-s] at k;cases e with
  | returned u=>exact ⟨u,_,rfl,p 5 u r c,k⟩
  | panicked q=>exact c.elim
  | outgrown=>exact c.elim
 | eff z ks r ao y h k=>
  obtain ⟨n,j,d,_,s⟩:=Mem.frzs z M ac hm;refine cG.mono (λ e w' ⟨M',g,l,m,c,_,p⟩=>?_) (nA j y (mono d.imm) h);refine ⟨M',_,_,d.trans l,m,.inl ?_⟩;rw [bJ] at k;cases e with
  | returned u=>exact ⟨u,_,rfl,p 5 u r c,k⟩
  | panicked q=>exact c.elim
  | outgrown=>exact c.elim
 | effp z ks r ao y h k=>
  obtain ⟨n,j,d,_,s⟩:=Mem.frzs z M ac hm;refine cG.mono (λ e w' ⟨M',g,l,m,c,_,p⟩=>?_) (nA j y (mono d.imm) h);refine ⟨M',_,_,d.trans l,m,.inr ?_⟩;rw [bJ] at k;cases e with
  | returned u=>exact c.elim
  | panicked q=>
   obtain ⟨v,t,B⟩:=c;exact ⟨q,_,rfl,⟨v,t,p 5 v r B⟩,k⟩
  | outgrown=>exact c.elim
 | pan r h k=>
  obtain ⟨n,j,d,_,s⟩:=hm.frzL args;refine cG.mono (λ e w' ⟨M',g,l,m,c,I,p⟩=>?_) (nA (ks:=[]) j rfl (mono d.imm) h);have H:g=[]:=Az o_;subst H;refine ⟨M',_,_,d.trans l,m,.inr ?_⟩;cases e with
  | returned u=>exact c.elim
  | panicked q=>
   obtain ⟨v,t,B⟩:=c;exact ⟨q,r,rfl,⟨v,t,B.pure⟩,k⟩
  | outgrown=>exact c.elim
def CJ{VS:aa->au->Prop}{CS:Fn->ay->Prop}{PS:aa->Prop}{a:au}{base:Nat}(d:base=aM ac):∀ {r:OR},Sd VS CS PS a base r->orF P ac K Kp r->
  (∃ v,VS v a/\K v ac)\/(∃ k x v,VS v (bM a k x)/\K v (bM ac k x))\/(∃ f args,CS f args/\CallG P f args ac K Kp)\/∃ v,PS v/\Kp v ac
 | .no,_,k=>k.elim
 | .val v,h,k=>.inl ⟨v,h,k⟩
 | .mkf fn fs cs,h,k=>.inl ⟨_,h,k⟩
 | .need p r,h,k=>CJ d (h k.1) k.2
 | .alt p v w,h,k=>by
  rcases k with ⟨hp,k⟩ | k
  .exact .inl ⟨v,h.1 hp,k⟩
  .exact .inl ⟨w,h.2,k⟩
 | .idx n f,h,⟨i,hi,k⟩=>CJ d (h i hi) k
 | .elem xs i f,h,⟨x,hx,k⟩=>CJ d (h x hx) k
 | .byte l i,h,⟨c,hc,k⟩=>.inl ⟨_,h c hc,k⟩
 | .text xs,h,⟨l,hl,hm,k⟩=>.inl ⟨_,h l hl hm,k⟩
 | .find es key f,h,⟨o,ho,k⟩=>by subst ho;exact CJ d (r:=f (bR es key)) h k
 | .born x v,h,k=>.inr (.inl ⟨base,x,v,h,by rw [d];exact k⟩)
 | .upd i x v,h,k=>.inr (.inl ⟨i,x,v,h,k⟩)
 | .nilq xs neg,⟨b,h1,h2⟩,k=>.inl ⟨_,h2,k b h1⟩
 | .call f args,h,k=>.inr (.inr (.inl ⟨f,args,h,k⟩))
 | .pan v,h,k=>.inr (.inr (.inr ⟨v,h,k⟩))
def C9(l:au)(n:Nat):aB (l++Aj n .dead)=aB l:=by
 funext i;induction l generalizing i with
 | nil=>
  induction n generalizing i with
  | zero=>rfl
  | succ n a=>
   cases i with
   | zero=>rfl
   | succ i=>have:=a i;simpa [aB,Kx] using this
 | cons x r a=>
  cases i with
  | zero=>rfl
  | succ i=>exact a i
def M9(l:au)(x:ab):∀ k,(k<l.length->bM (l++[.dead]) k x=bM l k x++[.dead])/\(l.length<=k->bM (l++[.dead]) k x=bM l k x):=by
 induction l with
 | nil=>
  intro k;refine ⟨λ h=>by simp at h,λ_=>?_⟩;cases k with
  | zero=>rfl
  | succ k=>rfl
 | cons y r a=>
  intro k;cases k with
  | zero=>exact ⟨λ_=>rfl,λ h=>by simp at h⟩
  | succ k=>
   obtain ⟨h1,b⟩:=a k;exact ⟨λ h=>by show y::bM (r++[.dead]) k x=y::(bM r k x++[.dead]);grind,λ h=>by show y::bM (r++[.dead]) k x=y::bM r k x;grind⟩
def aLS{k g:Nat}{v:Value}(h:at' (ob++[[]]) k g=some v):at' ob k g=some v:=by
 unfold at' at *
 by_cases b:k<ob.length
 .rwa [Ag b] at h
 .rw [Ak o_] at h;cases a:([[]]:Hs)[k-ob.length]? with
  | none=>grind
  | some hs=>
   rw [a] at h;have:hs=[]:=by have:=Av a;simp_all
   simp_all
def sK(hE:ae E)(hm:Mem M ob ac w){ρv:Operand->Value}{ρ:Operand->aa}(O:∀ x,Rep M ob (ρv x) (ρ x)){hint:Nat}{p:Oper}(h:orF E.P ac K Kp (eop E hint (aM ac) (aB ac) ρ p.op p.type)):
  nO E.P p ρv w (E8 M ob ac w K Kp):=by
 obtain ⟨dst,op,ty,pos,b,s⟩:=p;obtain ⟨D,A,Q⟩:=hm.extend 1;have m:ob.length=ac.length:=hm.len;have r:(ac++Aj 1 ab.dead)[aM ac]? =some .dead:=by rw [bJ];simp
 have o:(ob++Aj 1 ([]:ba))[aM ac]? =some []:=by rw [bJ,<-m];simp
 have hs:=yL hE D r o (λ x=>(O x).mono (λ_ _ _ h=>h) A.hs) hint op ty;rw [C9] at hs;have L:Aj 1 ab.dead=[.dead]:=rfl
 -- a value,where no number was taken
 have fin:∀ {v:aa} {ao:au},ao.length=ac.length->K v ao->VS E.P ρv op ty M (ob++Aj 1 []) (ac++Aj 1 .dead) w v (ao++Aj 1 .dead)->nO E.P ⟨dst,op,ty,pos,b,s⟩ ρv w (E8 M ob ac w K Kp):=by
  intro v ao hl j ⟨u,w',M',ob',vs⟩;have l:∀ (i:Nat) hs,ao.length<=i->ob'[i]? =some hs->hs=[]:=by
   intro i hs R N;have n:=(Ab.1 N).1;rw [vs.mem.len] at n;simp at n;obtain rfl:i=aM ac:=by rw [bJ];omega
   have:=(vs.still (aM ac) [] r o).2 rfl (by rw [bJ,<-hl];simp)
   grind
  obtain ⟨B,J,C⟩:=vs.mem.shrink l
  have c:E8 M ob ac w K Kp (.returned u) w':=⟨M',_,_,C (A.trans vs.ext) o_,B,.inl ⟨u,v,rfl,vs.rep.monoA J,j⟩⟩
  rcases vs.run dst pos b s with d | ⟨d,rfl⟩
  .exact .inl ⟨u,w',d,c⟩
  .exact .inr (.inl ⟨w',d,c⟩)
 rcases CJ (P:=E.P) (K:=K) (Kp:=Kp) rfl hs h with ⟨v,h1,z⟩ | ⟨k,x,v,h1,z⟩ | ⟨f,args,⟨I,y,H⟩,j⟩ | ⟨v,⟨u,d,t⟩,j⟩
 .exact fin rfl z h1
 .rw [L] at h1;by_cases j:k<ac.length
  .rw [(M9 ac x k).1 j] at h1;exact fin (by rw [fY _ j];simp) z h1
  .rw [(M9 ac x k).2 o_] at h1;obtain ⟨u,w',M',ob',vs⟩:=h1
   have c:E8 M ob ac w K Kp (.returned u) w':=⟨M',_,_,A.trans vs.ext,vs.mem,.inl ⟨u,v,rfl,vs.rep,z⟩⟩
   rcases vs.run dst pos b s with d | ⟨d,rfl⟩
   .exact .inl ⟨u,w',d,c⟩
   .exact .inr (.inl ⟨w',d,c⟩)
 .have q:cA M ob I args:=⟨y.1,λ i v a F G=>(y.2 i v a F G).monoA λ k g v=>aLS⟩
  exact jB.op (λ e w h=>h.ne) (H dst pos b s) (PO hm q j)
 .exact .inr (.inr (.inl ⟨u,w,d dst pos b s,M,ob,ac,Ext.refl _ _ _ _,hm,.inr ⟨_,v,rfl,⟨u,rfl,t.pure⟩,j⟩⟩))
end
open Classical
structure AS where
 g:Nat->aa
 o:Nat->ab
 br:Nat->Nat->Prop
def jC(g:Nat->aa)(d:Option Nat)(z:aa):Nat->aa:=λ t=>if d=some t then z else g t
def inB(base n k:Nat):Prop:=base<=k/\k<base+n
noncomputable def nD(o:Nat->ab)(base:Nat)(bs:au):Nat->ab:=λ k=>if inB base bs.length k then bs.getD (k-base) .dead else o k
noncomputable def AS.upd(s:AS)(i:Nat)(d:Option Nat)(z:aa)(base:Nat)(bs:au):AS:=⟨jC s.g d z,nD s.o base bs,λ a k=>s.br a k\/(a=i/\inB base bs.length k)⟩
def RY(tab:az)(j:Nat)(br:Nat->Nat->Prop)(k:Nat):Prop:=∃ i,br i k/\cL (cR tab j) i=false
noncomputable def nW(tab:az)(j:Nat)(s:AS):Nat->ab:=λ k=>if RY tab j s.br k then .dead else s.o k
def evG(tab:az)(all:bb)(j:Nat)(g:Nat->aa):Operand->aa
 | .tmp t=>bif OA tab j t 0 all then .undef else g t
 | x=>ev [] x
def aLg(tab:az)(all:bb)(j:Nat)(fr:ar):evH tab all j fr=evG tab all j (aW fr):=by funext x;cases x<;>rfl
def aJr(P:Program)(og:Nat->ab)(f:Fn)(args:ay)(z:aa):Prop:=
 ∃ ks ao l,aB l=og/\jD ks l=true/\ao.length=ks.length/\bH P f (dO (cvtV 0 ks og 5) args) (gG 0 ks l) (.ret z) ao/\(∀ b,gJ ks b l 0 ao l=l)/\∀ b,embV ks b l 5 z=z
def gL(P:Program)(og:Nat->ab)(base:Nat)(z:aa)(bs:au):OR->Prop
 | .val v=>z=v/\bs=[]
 | .mkf fn a cs=>z= .func fn a cs/\bs=[]
 | .need p r=>p/\gL P og base z bs r
 | .alt p v w=>((p/\z=v)\/z=w)/\bs=[]
 | .idx n f=>∃ i:Nat,n=(i:Int)/\gL P og base z bs (f i)
 | .elem xs i f=>∃ x,xs[i]? =some x/\gL P og base z bs (f x)
 | .byte l i=>∃ c,l[i]? =some c/\z= .int .u8 (c.toNat:Int)/\bs=[]
 | .text xs=>∃ l:ax,xs=l.map ub/\(l.length:Int)<=9223372036854775807/\z= .str l/\bs=[]
 | .find es key f=>gL P og base z bs (f (bR es key))
 | .born x v=>z=v/\bs=[x]
 | .call f args=>(∃ r new,bH P f (dO (cvtV 0 [] og 5) args) [] (.ret r) new/\z=embV [] base [] 5 r/\bs=jM base new)\/(aJr P og f args z/\bs=[])
 | _=>False
def CI{P:Program}{og:Nat->ab}{VS:aa->au->Prop}{CS:Fn->ay->Prop}{PS:aa->Prop}{b:au}{a base:Nat}{z:aa}{bs:au}:∀ {r:OR},Sd VS CS PS b a r->gL P og base z bs r->
  (VS z b/\bs=[])\/(∃ x,VS z (bM b a x)/\bs=[x])\/(∃ f args d new,CS f args/\bH P f (dO (cvtV 0 [] og 5) args) [] (.ret d) new/\z=embV [] base [] 5 d/\bs=jM base new)\/∃ f args,CS f args/\aJr P og f args z/\bs=[]
 | .no,_,k=>k.elim
 | .val v,h,⟨k1,k2⟩=>.inl ⟨k1▸h,k2⟩
 | .mkf fn fs cs,h,⟨k1,k2⟩=>.inl ⟨k1▸h,k2⟩
 | .need p r,h,k=>CI (h k.1) k.2
 | .alt p v w,h,⟨k1,k2⟩=>by
  rcases k1 with ⟨hp,k⟩ | k
  .exact .inl ⟨k▸h.1 hp,k2⟩
  .exact .inl ⟨k▸h.2,k2⟩
 | .idx n f,h,⟨i,hi,k⟩=>CI (h i hi) k
 | .elem xs i f,h,⟨x,hx,k⟩=>CI (h x hx) k
 | .byte l i,h,⟨c,hc,k1,k2⟩=>.inl ⟨k1▸h c hc,k2⟩
 | .text xs,h,⟨l,hl,hm,k1,k2⟩=>.inl ⟨k1▸h l hl hm,k2⟩
 | .find es key f,h,k=>CI (r:=f (bR es key)) h k
 | .born x v,h,⟨k1,k2⟩=>.inr (.inl ⟨x,k1▸h,k2⟩)
 | .upd i x v,h,k=>k.elim
 | .nilq xs neg,h,k=>k.elim
 | .call f args,h,.inl ⟨r,new,k1,k2,k3⟩=>.inr (.inr (.inl ⟨f,args,r,new,h,k1,k2,k3⟩))
 | .call f args,h,.inr ⟨k1,k2⟩=>.inr (.inr (.inr ⟨f,args,h,k1,k2⟩))
 | .pan v,h,k=>k.elim
def I6(z:aa)(k:Nat)(x:ab):OR->Prop
 | .need p r=>p/\I6 z k x r
 | .idx n f=>∃ i:Nat,n=(i:Int)/\I6 z k x (f i)
 | .elem xs i f=>∃ y,xs[i]? =some y/\I6 z k x (f y)
 | .find es key f=>I6 z k x (f (bR es key))
 | .upd k' x' v=>k'=k/\x'=x/\z=v
 | _=>False
def vX{VS:aa->au->Prop}{CS:Fn->ay->Prop}{PS:aa->Prop}{a:au}{base:Nat}{z:aa}{k:Nat}{x:ab}:∀ {r:OR},Sd VS CS PS a base r->I6 z k x r->VS z (bM a k x)
 | .no,_,h=>h.elim
 | .val v,_,h=>h.elim
 | .mkf fn fs cs,_,h=>h.elim
 | .need p r,h,u=>vX (h u.1) u.2
 | .alt p v w,_,h=>h.elim
 | .idx n f,h,⟨i,hi,u⟩=>vX (h i hi) u
 | .elem xs i f,h,⟨y,hy,u⟩=>vX (h y hy) u
 | .byte l i,_,h=>h.elim
 | .text xs,_,h=>h.elim
 | .find es key f,h,u=>vX (r:=f (bR es key)) h u
 | .born x v,_,h=>h.elim
 | .upd i y v,h,⟨e1,e2,e3⟩=>by subst e1 e2 e3;exact h
 | .nilq xs neg,_,h=>h.elim
 | .call f args,_,h=>h.elim
 | .pan v,_,h=>h.elim
def mG{P:Program}{og:Nat->ab}{b base hint a:Nat}{e:TypeId}{xs:ay}{z:aa}:¬ gL P og b z [] (pS hint base a e xs):=by unfold pS;split<;>(intro h;have:=h.2;cases this)
def PB{P:Program}{og:Nat->ab}{b:Nat}{c:Bool}{r:OR}{z:aa}{bs:au}(h:gL P og b z bs (bif c then r else .no)):gL P og b z bs r:=by
 cases c with
 | true=>exact h
 | false=>exact h.elim
def ZP{P:Program}{E:Env}{og:Nat->ab}{b base d hint:Nat}{ρ:Operand->aa}{op:Op}{ty:TypeId}{z:aa}:gL P og b z [] (lY E hint base og ρ op ty)->gL P og b z [] (lY E hint d og ρ op ty):=by
 have p:∀ (t j:Nat) (x y:aa),gL P og b z [] (sZ E hint base og t j x y)->gL P og b z [] (sZ E hint d og t j x y):=by
  intro t j x y;unfold sZ;split
  .rename_i e a u _ _ _ _;cases Fv 1 a with
   | false=>exact id
   | true=>
    simp only [cond_true];split
    .exact id
    .split
     .split
      .exact id
      .rename_i k _ _;cases Ax k a with
       | false=>exact id
       | true=>exact λ h=>(mG h.2).elim
      .rename_i k _ _;cases Ax k a with
       | false=>exact id
       | true=>
             intro h;refine ⟨h.1,?_⟩;have g:=h.2;clear h;split at g
             .exact g
             .exact g
             .exact (mG g.2).elim
      .exact id
     .exact λ h=>(mG h.2).elim
     .exact id
     .exact id
     .exact id
  .exact id
 cases op
 case assign x=>
  simp only [lY];split
  .exact id
  .split
   .split
    .split
     .split
      .exact λ h=>(mG (PB h)).elim
      .exact id
     .exact id
    .exact id
   .exact id
 case alloc t=>
  simp only [lY];split
  .rename_i m _;cases pF m.zero.cells with
   | false=>exact id
   | true=>intro h;have:=h.2;cases this
  .exact id
 case box t x=>
  simp only [lY];cases pF (ρ x).cells with
  | false=>exact id
  | true=>intro h;have:=h.2;cases this
 case buildSlice t n ps=>
  simp only [lY];unfold mX;split
  .rename_i e a _ _ _ _ _;cases (Ax (aB1 (evL ρ ps.toList)) n&&Fv (n*a) 1000&&Fv 1 a) with
   | false=>exact id
   | true=>
    simp only [cond_true];split
    .split
     .exact id
     .exact λ h=>(mG h).elim
    .exact id
  .exact id
 case makeSlice t x y=>
  simp only [lY];unfold WY;split
  .split
   .rename_i q _;intro h;cases o:(Fv 1 _&&DC (ah (λ_=>.dead) 4 q.zero)) with
    | false=>simp_all
    | true=>
     rw [o] at h;obtain ⟨i,_,_,h⟩:=h;have:=h.2;cases this
   .exact id
  .exact id
 case makeMap t x=>
  cases x with
  | some x=>exact id
  | none=>
   simp only [lY];split
   .split
    .intro h;have:=h.2;cases this
    .exact id
   .exact id
 case call c=>
  obtain ⟨callee,args,l⟩:=c;cases callee with
  | value f=>exact id
  | invoke r n=>exact id
  | builtin s=>
   simp only [lY];split
   .exact id
   .exact id
   .exact id
   .grind
   .exact id
   .exact id
   .exact id
   .exact id
 all_goals exact id
def aHP{P:Program}{og:Nat->ab}{b:Nat}{z:aa}{n:Int}{p:Nat->Prop}{x:Nat->ab}{v:aa}:¬ gL P og b z [] (.idx n λ y=>.need (p y) (.born (x y) v)):=by rintro ⟨i,_,_,h⟩;have:=h.2;cases this
def aDI{P:Program}{E:Env}{og:Nat->ab}{b base a hint:Nat}{ρ:Operand->aa}{op:Op}{ty:TypeId}{z:aa}:gL P og b z [] (eop E hint base og ρ op ty)->gL P og b z [] (eop E hint a og ρ op ty):=by
 unfold eop;have d:(∃ r,kY E hint base og ρ op=some r/\kY E hint a og ρ op=some r)\/(kY E hint base og ρ op=none/\kY E hint a og ρ op=none)\/∃ r,kY E hint base og ρ op=some r/\¬ gL P og b z [] r:=by
  have same:∀ {o:Option OR},kY E hint base og ρ op=o->kY E hint a og ρ op=o->(∃ r,kY E hint base og ρ op=some r/\kY E hint a og ρ op=some r)\/(kY E hint base og ρ op=none/\kY E hint a og ρ op=none)\/∃ r,kY E hint base og ρ op=some r/\¬ gL P og b z [] r:=λ{o} h1 e=>by
   cases o with
   | none=>grind
   | some r=>grind
  cases op with
  | call c=>
   obtain ⟨callee,args,g⟩:=c;cases callee with
   | value f=>exact same rfl rfl
   | invoke r n=>exact same rfl rfl
   | builtin j=>
    cases j with
    | append=>
     simp only [kY];split
     .split
      .refine .inr (.inr ⟨_,rfl,?_⟩);unfold WV;split
       .split
        .intro h;exact aHP (PB h)
        .exact λ h=>h.elim
       .exact λ h=>h.elim
      simp
     simp
    | _=>exact same rfl rfl
  | slice t x lo k i=>cases lo<;>cases k<;>cases i<;>exact same rfl rfl
  | _=>exact same rfl rfl
 rcases d with ⟨r,h1,e⟩ | ⟨h1,e⟩ | ⟨r,h1,e⟩
 .grind
 .rw [h1,e];exact ZP
 grind
def A7:au->Nat->au->au
 | ac,_,[]=>ac
 | ac,base,x::r=>A7 (bM ac base x) (base+1) r
def HT(base:Nat)(a:au):∀ (new:au) (j:Nat) (ac:au),gJ [] base a j new ac=A7 ac (base+j) (jM base new)
 | [],j,ac=>rfl
 | x::r,j,ac=>by
  have e:dZ [] base j=base+j:=by rfl
  have b:pP [] base a j x=pP [] base [] 0 x:=by rfl
  simp only [gJ,jM,Bl,A7];rw [HT base a r (j+1),e,b];rfl
def rK{P:Program}{j bl:Bool}{b ac:au}{base:Nat}{K Kp:aa->au->Prop}:∀ {r:OR},orD P false j bl b ac base K Kp r->
  (∃ z bs,(bl=true->bs=[])/\gL P (aB b) base z bs r/\K z (A7 ac base bs))\/∃ z k x,j=true/\aB b k≠ .dead/\I6 z k x r/\K z (bM ac k x)
 | .no,k=>k.elim
 | .val v,k=>.inl ⟨v,[],λ_=>rfl,⟨rfl,rfl⟩,k⟩
 | .mkf fn fs cs,k=>.inl ⟨_,[],λ_=>rfl,⟨rfl,rfl⟩,k⟩
 | .need p r,⟨hp,k⟩=>by
  rcases rK k with ⟨z,bs,d,h1,a⟩ | ⟨z,k',x,d,h1,a,h3⟩
  .exact .inl ⟨z,bs,d,⟨hp,h1⟩,a⟩
  .exact .inr ⟨z,k',x,d,h1,⟨hp,a⟩,h3⟩
 | .alt p v w,k=>by
  rcases k with ⟨hp,k⟩ | k
  .exact .inl ⟨v,[],λ_=>rfl,⟨.inl ⟨hp,rfl⟩,rfl⟩,k⟩
  .exact .inl ⟨w,[],λ_=>rfl,⟨.inr rfl,rfl⟩,k⟩
 | .idx n f,⟨i,g,k⟩=>by
  rcases rK k with ⟨z,bs,d,h1,a⟩ | ⟨z,k',x,d,h1,a,h3⟩
  .exact .inl ⟨z,bs,d,⟨i,g,h1⟩,a⟩
  .exact .inr ⟨z,k',x,d,h1,⟨i,g,a⟩,h3⟩
 | .elem xs i f,⟨y,hy,k⟩=>by
  rcases rK k with ⟨z,bs,d,h1,a⟩ | ⟨z,k',x,d,h1,a,h3⟩
  .exact .inl ⟨z,bs,d,⟨y,hy,h1⟩,a⟩
  .exact .inr ⟨z,k',x,d,h1,⟨y,hy,a⟩,h3⟩
 | .byte l i,⟨c,hc,k⟩=>.inl ⟨_,[],λ_=>rfl,⟨c,hc,rfl,rfl⟩,k⟩
 | .text xs,⟨l,hl,hm,k⟩=>.inl ⟨_,[],λ_=>rfl,⟨l,hl,hm,rfl,rfl⟩,k⟩
 | .find es key f,⟨o,ho,k⟩=>by
  subst ho;rcases rK k with ⟨z,bs,d,h1,a⟩ | ⟨z,k',x,d,h1,a,h3⟩
  .exact .inl ⟨z,bs,d,h1,a⟩
  .exact .inr ⟨z,k',x,d,h1,a,h3⟩
 | .born x v,k=>by
  cases bl with
  | true=>exact k.elim
  | false=>exact .inl ⟨v,[x],(λ h=>nomatch h),⟨rfl,rfl⟩,k⟩
 | .upd i x v,k=>by
  simp only [orD,Nf] at k;split at k
  .rename_i h;obtain ⟨h1,a⟩:=aV h;exact .inr ⟨v,i,x,h1,(λ e=>by rw [e] at a;cases a),⟨rfl,rfl,rfl⟩,k⟩
  grind
 | .nilq xs neg,k=>k.elim
 | .call f args,k=>by
  cases bl with
  | true=>exact k.elim
  | false=>
   have k:CallD P f args false b base ac K Kp:=k;cases k with
   | pure r new h k=>exact .inl ⟨_,_,(λ h=>nomatch h),.inl ⟨r,new,h,rfl,rfl⟩,by rw [HT,Fm] at k;rw [aDM] at k;exact k⟩
   | sole h=>cases h
   | look ks r o m hl h g hz k=>exact .inl ⟨r,[],λ_=>rfl,.inr ⟨⟨ks,o,b,rfl,m,hl,h,g,hz⟩,rfl⟩,k⟩
 | .pan v,k=>k.elim
def sQ(l:au)(n k:Nat)(x:ab):aB (bM l n x) k=if k=n then x else aB l k:=by
 induction l generalizing n k with
 | nil=>
  induction n generalizing k with
  | zero=>cases k<;>rfl
  | succ n a=>
   cases k with
   | zero=>rfl
   | succ k=>show aB (bM [] n x) k=_;rw [a];simp [aB]
 | cons y r a=>
  cases n with
  | zero=>cases k<;>simp [bM,aB]
  | succ n=>
   cases k with
   | zero=>simp [bM,aB]
   | succ k=>simp only [bM,aB,a];simp
def VI{l m:au}(h:aB l=aB m):∀ ks,jD ks l=jD ks m
 | []=>rfl
 | k::r=>by unfold jD;rw [h,VI h r]
def aFn{l m:au}(h:aB l=aB m){ks:az}:gG 0 ks l=gG 0 ks m:=by
 have e:∀ j x,FP 0 ks l j x=FP 0 ks m j x:=λ j x=>by cases x<;>simp only [FP,h]
 have:∀ (r:az) (j:Nat),qU 0 ks l j r=qU 0 ks m j r:=λ r=>by
  induction r with
  | nil=>intro j;rfl
  | cons k r a=>intro j;simp only [qU,e,h,a]
 exact this ks 0
def WX{l m:au}(h:aB l=aB m){ks:az}(j g:Nat):jF ks l j g=jF ks m j g:=by unfold jF;rw [h]
def KE{l m:au}(h:aB l=aB m){ks:az}{b:Nat}:∀ n v,embV ks b l n v=embV ks b m n v
 | 0,_=>rfl
 | n+1,v=>by have a:embV ks b l n=embV ks b m n:=funext (KE h n);cases v<;>simp only [embV,WX h,a]
def WW{l m:au}(h:aB l=aB m){ks:az}{b:Nat}:∀ (o:au) (j:Nat) (x y:au),aB x=aB y->aB (gJ ks b l j o x)=aB (gJ ks b m j o y)
 | [],_,_,_,e=>e
 | c::r,j,x,y,e=>by
  have a:pP ks b l j c=pP ks b m j c:=by have d:embV ks b l 4=embV ks b m 4:=funext (KE h 4);cases c<;>simp only [pP,WX h,d]
  unfold gJ;refine WW h r (j+1) _ _ ?_;rw [a];funext k;rw [sQ,sQ,e]
def OZ{l:au}{ks:az}{b:Nat}(a:∀ (j k:Nat),ks[j]? =some k->k<l.length):∀ (o:au) (j:Nat) (x:au),j+o.length<=ks.length->x.length=l.length->(gJ ks b l j o x).length=l.length
 | [],_,_,_,e=>e
 | c::r,j,x,h,e=>by rw [Al] at h;have d:ks[j]? =some ks[j]:=Aa o_;unfold gJ;refine OZ a r (j+1) _ o_ ?_;rw [iC d,fY _ (by rw [e];exact a j _ d),Dh,e]
section
variable {P:Program} {E:Env} {M:Imm} {ob:Hs} {L:au} {w:World}
def fC(l:au)(k:Nat):(k<l.length/\l[k]? =some (aB l k))\/(l.length<=k/\l[k]? =none/\aB l k= .dead):=by
 by_cases h:k<l.length
 .exact .inl ⟨h,oB h⟩
 .refine .inr ⟨by omega,Bi o_,?_⟩;cases a:aB l k with
  | dead=>rfl
  | _=>exact absurd (Ab.1 (bF a s_)).1 h
noncomputable def cE(hid:Nat->Prop)(L:au):au:=(Di L.length).map λ k=>if hid k then .dead else aB L k
def F9{hid:Nat->Prop}{k:Nat}(h:k<L.length):(cE hid L)[k]? =some (if hid k then .dead else aB L k):=by simp [cE,Dm h]
def dP{hid:Nat->Prop}:(cE hid L).length=L.length:=by simp [cE]
def fU{hid:Nat->Prop}:TL (cE hid L) L:=⟨dP,λ k=>by
 rcases fC L k with ⟨h,e⟩ | ⟨h,e,_⟩
 .rw [F9 h,e]
  grind
 .left;rw [e,Bi (by rw [dP];omega)]⟩
def fV{hid:Nat->Prop}:aB (cE hid L)=λ k=>if hid k then .dead else aB L k:=by
 funext k;rcases fC L k with ⟨h,e⟩ | ⟨h,e,b⟩
 .exact gH (F9 h)
 .rcases fC (cE hid L) k with ⟨a,_⟩ | ⟨_,_,c⟩
  .rw [dP] at a;omega
  grind
def TP(M:Imm)(ob:Hs)(L:au)(w:World)(z:aa)(base:Nat)(bs:au)(e:Ending)(w':World):Prop:=
 ∃ M' ob' L' u,e= .returned u/\Ext M ob L w M' ob' L' w'/\Mem M' ob' L' w'/\aB L'=nD (aB L) base bs/\L.length<=L'.length/\Rep M' ob' u z/\∀ (k:Nat),¬ inB base bs.length k->(∀ hs,ob[k]? =some hs->hs=[])->∀ hs,ob'[k]? =some hs->hs=[]
def aLw(hE:ae E)(hm:Mem M ob L w){hid:Nat->Prop}{ρv:Operand->Value}{ρ:Operand->aa}(hρ:∀ x,Rep M ob (ρv x) (ρ x)){hint base:Nat}{p:Oper}{z:aa}{bs:au}
  (J:∀ (k:Nat),inB base bs.length k->∀ hs,ob[k]? =some hs->hs=[])
  (h:gL E.P (aB (cE hid L)) base z bs (eop E hint base (aB (cE hid L)) ρ p.op p.type)):nO E.P p ρv w (TP M ob L w z base bs):=by
 obtain ⟨dst,op,ty,pos,i,gd⟩:=p
 -- room
 obtain ⟨n,hn⟩:∃ n,base+bs.length+1<=L.length+n/\0<n:=⟨base+bs.length+1,by omega,by omega⟩
 obtain ⟨hn,hn0⟩:=hn;obtain ⟨F,Y,m3⟩:=hm.extend n;have U:(L++Aj n ab.dead).length=L.length+n:=by simp
 have hob1:(ob++Aj n ([]:ba)).length=L.length+n:=by simp [hm.len]
 generalize hL1:L++Aj n ab.dead=L1 at F Y m3 U;generalize hO1:ob++Aj n ([]:ba)=ob1 at F Y m3 hob1;have N:aB L1=aB L:=by rw [<-hL1];exact C9 L n
 have d:∀ k,(∀ hs,ob[k]? =some hs->hs=[])->k<L1.length->ob1[k]? =some []:=λ k r s=>by
  rw [<-hO1];by_cases R:k<ob.length
  .rw [Ag R,Aa R,r _ (Aa R)]
  .rw [Ak o_,Em,if_pos (by rw [hm.len] at R⊢;omega)]
 have t:aB (cE hid L1)=aB (cE hid L):=by rw [fV,fV,N]
 -- where it would be born
 obtain ⟨m,I,hbb,A,h⟩:∃ m,ob1[m]? =some []/\(bs≠[]->m=base)/\m<L1.length/\gL E.P (aB (cE hid L)) base z bs (eop E hint m (aB (cE hid L)) ρ op ty):=by
  by_cases hbs:bs=[]
  .subst hbs;exact ⟨L.length,d _ (λ hs y=>by have:=(Ab.1 y).1;rw [hm.len] at this;omega) o_,λ h=>absurd rfl h,by omega,aDI h⟩
  .have hpos:0<bs.length:=by cases bs<;>simp at hbs⊢
   exact ⟨base,d base (J base ⟨Bd _,by omega⟩) o_,λ_=>rfl,by omega,h⟩
 have W:=F.weak (fU (hid:=hid));have hb1:(cE hid L1)[m]? =some .dead:=W.idle I;have hs:=yL hE W hb1 I (λ x=>(hρ x).mono (λ_ _ _ h=>h) Y.hs) hint op ty;rw [t] at hs;have live:∀ {k:Nat} {c:ab},L1[k]? =some c->(cE hid L1)[k]? =some c\/((cE hid L1)[k]? =some .dead/\(∃ hs,ob1[k]? =some hs/\hs≠[])/\L1[k]? =some c):=λ{k c} G=>by
  rcases (fU (hid:=hid) (L:=L1)).2 k with q | q
  .left;rw [q];exact G
  .by_cases H:c= .dead
   .left;rw [q,H]
   .right;exact ⟨q,F.live G H,G⟩
 have fin:∀ {u:Value} {w':World},TP M ob L w z base bs (.returned u) w'->((execOp ρv ⟨dst,op,ty,pos,i,gd⟩).run E.P w= .ok (.value u) w'\/((execOp ρv ⟨dst,op,ty,pos,i,gd⟩).run E.P w= .ok .skip w'/\u=undef))->nO E.P ⟨dst,op,ty,pos,i,gd⟩ ρv w (TP M ob L w z base bs):=by
  intro u w' ha hr;rcases hr with hr | ⟨hr,rfl⟩
  .exact .inl ⟨u,w',hr,ha⟩
  .exact .inr (.inl ⟨w',hr,ha⟩)
 rcases CI (P:=E.P) hs h with ⟨⟨u,w',M',ob',vs⟩,rfl⟩ | ⟨x,⟨u,w',M',ob',vs⟩,rfl⟩ | ⟨f,args,r0,new,⟨va,Z,hx⟩,K,rfl,rfl⟩ | ⟨f,args,⟨va,Z,hx⟩,⟨ks,o,l,hl,r,hol,K,hi,hz⟩,rfl⟩
 .obtain ⟨T,v2,v3⟩:=F.revive (ao:=L1) (fU (hid:=hid)) vs.ext vs.still vs.mem (by rw [dP]) λ k c G=>live G;refine fin ⟨M',ob',L1,u,rfl,Y.trans v2,T,?_,by omega,vs.rep,λ k r V hs y=>?_⟩ (vs.run dst pos i gd)
  .rw [N];funext k;unfold nD;rw [if_neg λ h=>by have:=h.2;have:=h.1;simp at *;omega]
  .have s:k<L1.length:=by rw [<-T.len];exact (Ab.1 y).1
   have e:=d k V s;have H:=F.idle e;have:=(v3 k [] H e).2 rfl H;rw [y] at this;cases this;rfl
 .obtain rfl:base=m:=(hbb s_).symm;have g:bM L1 base x=L1.set base x:=fY x A;have B:bM (cE hid L1) base x=(cE hid L1).set base x:=fY x (by rw [dP];exact A);obtain ⟨T,v2,v3⟩:=F.revive (ao:=bM L1 base x) (fU (hid:=hid)) vs.ext vs.still vs.mem (by rw [g,B];simp [dP]) λ k c G=>by
   by_cases r:k=base
   .subst r;left;rw [g,Au A] at G;rw [B,Au (by rw [dP];exact A)];exact G
   .rw [g,Bb (Ej r)] at G;rw [B,Bb (Ej r)];exact live G
  refine fin ⟨M',ob',bM L1 base x,u,rfl,Y.trans v2,T,?_,by rw [g];simp;omega,vs.rep,λ k r V hs y=>?_⟩ (vs.run dst pos i gd)
  .funext k;unfold nD;by_cases r:k=base
   .subst r;rw [if_pos ⟨Bd _,by simp⟩,g];rw [gH (Au A)];simp
   .rw [if_neg λ h=>r (by have h1:=h.1;have h2:=h.2;simp at h2;omega),<-N,g];rcases fC L1 k with ⟨h1,O⟩ | ⟨h1,O,S⟩
    .exact gH (by rw [Bb (Ej r)];exact O)
    .rcases fC (L1.set base x) k with ⟨h3,_⟩ | ⟨_,_,Q⟩
     .simp at h3;omega
     .rw [Q,S]
  .have hkb:k≠base:=λ e=>r ⟨by omega,by simp;omega⟩;have s:k<L1.length:=by have:=(Ab.1 y).1;rw [T.len,g] at this;simpa using this
   have e:=d k V s;have H:=F.idle e;have:=(v3 k [] H e).2 rfl (by rw [g,Bb (Ej hkb)];exact H);rw [y] at this;cases this;rfl
 .rw [<-t] at K;have C:=sS (λ v a=>W.cvtV (n0:=0) (ks:=[]) rfl 5 v a) Z;have hnl:(jM base new).length=new.length:=by simp [jM]
  refine jB.op (λ e w ⟨_,_,_,u,y,_⟩=>by rw [y];simp) (hx dst pos i gd) (cG.mono (λ e w' ⟨M',obK,x1,x2,X⟩=>?_) (K M [] w va F.bare C));have hin:∀ j,j<new.length->ob1[base+j]? =some []:=λ j hj=>d _ (J _ ⟨by omega,by omega⟩) o_;obtain ⟨O,S,Q⟩:=F.emb0 o_ hin x1 x2;obtain ⟨q1,q2⟩:=fJ L1 (jM base new) base o_;obtain ⟨p1,p2⟩:=fJ ob1 obK base (by rw [x2.len];omega);cases e with
  | panicked ch=>exact X.elim
  | outgrown=>exact X.elim
  | returned u=>
   refine ⟨M',_,_,u,rfl,Y.trans S,O,?_,by omega,Q 5 u r0 X,λ k r V hs y=>?_⟩
   .funext k;unfold nD;by_cases r:inB base (jM base new).length k
    .rw [if_pos r];have s:k-base<(jM base new).length:=by have:=r.1;have:=r.2;omega
     refine gH ?_;rw [q2,if_pos (show base<=k/\k<base+(jM base new).length from r),Fa,Aa s];rfl
    .rw [if_neg r,<-N];rcases fC L1 k with ⟨h1,O⟩ | ⟨h1,O,S⟩
     .exact gH (by rw [q2,if_neg (show ¬ (base<=k/\k<base+(jM base new).length) from r)];exact O)
     .rcases fC (L1.take base++jM base new++L1.drop (base+(jM base new).length)) k with ⟨h3,_⟩ | ⟨_,_,Q⟩
      .omega
      .rw [Q,S]
   .rw [p2,if_neg (show ¬ (base<=k/\k<base+obK.length) from by rw [x2.len,<-hnl];exact r)] at y;have s:k<L1.length:=by rw [<-F.len];exact (Ab.1 y).1
    rw [d k V s] at y;cases y;rfl
 .have D:aB l=aB (cE hid L1):=hl.trans t.symm;rw [<-t,aFn D] at K;rw [VI D] at r;obtain ⟨c1,_,_⟩:=W.cvt (n0:=0) r;have C:=sS (λ v a=>W.cvtV (n0:=0) r 5 v a) Z;refine jB.op (λ e w ⟨_,_,_,u,y,_⟩=>by rw [y];intro h;cases h) (hx dst pos i gd) (cG.mono (λ e w' ⟨M',obK,x1,x2,X⟩=>?_) (K M _ w va c1 C));obtain ⟨O,S,Q⟩:=W.emb r x1 x2;have hL2:gJ ks (cE hid L1).length (cE hid L1) 0 o (cE hid L1)=cE hid L1:=by
   have h1:=WW D (ks:=ks) (b:=(cE hid L1).length) o 0 l (cE hid L1) D;rw [hi] at h1;have h2:=OZ (l:=cE hid L1) (ks:=ks) (b:=(cE hid L1).length) (λ j k hj=>(Ab.1 (eT ((lR r).1 j k hj))).1) o 0 (cE hid L1) o_ rfl;refine Eb λ n=>?_;by_cases hn:n<(cE hid L1).length
   .rw [oB hn,oB (by rw [h2];exact hn),<-h1,D]
   .rw [Bi o_,Bi o_]
  rw [hL2] at O S Q;cases e with
  | panicked ch=>exact X.elim
  | outgrown=>exact X.elim
  | returned u=>
   have hu:=W.embV r x1.hs oP 5 u z X;rw [<-KE D,hz] at hu;obtain ⟨T,v2,v3⟩:=F.revive (ao:=L1) (fU (hid:=hid)) S (λ k hs h1 h2=>⟨λ_=>Q k hs h1 h2,λ e _=>e▸(Q k hs h1 h2).2⟩) O (by rw [dP]) λ k c G=>live G;refine ⟨M',_,L1,u,rfl,Y.trans v2,T,?_,by omega,hu,λ k r V hs y=>?_⟩
   .rw [N];funext k;unfold nD;rw [if_neg λ h=>by have:=h.2;have:=h.1;simp at *;omega]
   .have s:k<L1.length:=by rw [<-T.len];exact (Ab.1 y).1
    have e:=d k V s;have H:=F.idle e;have:=(v3 k [] H e).2 rfl H;rw [y] at this;cases this;rfl
def aES(M:Imm)(ob:Hs)(L:au)(w:World)(z:aa)(k:Nat)(x:ab)(e:Ending)(w':World):Prop:=
 ∃ M' ob' L' u,e= .returned u/\Ext M ob L w M' ob' L' w'/\Mem M' ob' L' w'/\(aB L'=λ k'=>if k'=k then x else aB L k')/\L.length<=L'.length/\Rep M' ob' u z/\∀ (k':Nat),(∀ hs,ob[k']? =some hs->hs=[])->∀ hs,ob'[k']? =some hs->hs=[]
def aIe(hE:ae E)(hm:Mem M ob L w){hid:Nat->Prop}{ρv:Operand->Value}{ρ:Operand->aa}(Z:∀ x,Rep M ob (ρv x) (ρ x)){hint base:Nat}{p:Oper}{z:aa}{k:Nat}{x:ab}
  (o:∀ hs,ob[base]? =some hs->hs=[]) (D:aB (cE hid L) k≠ .dead) (h:I6 z k x (eop E hint base (aB (cE hid L)) ρ p.op p.type)):nO E.P p ρv w (aES M ob L w z k x):=by
 obtain ⟨dst,op,ty,pos,m,V⟩:=p
 obtain ⟨n,hn,X⟩:∃ n,base+1<=L.length+n/\0<n:=⟨base+1,by omega,by omega⟩
 obtain ⟨t,F,O⟩:=hm.extend n;have r:(L++Aj n ab.dead).length=L.length+n:=by simp
 have C:(ob++Aj n ([]:ba)).length=L.length+n:=by simp [hm.len]
 generalize G:L++Aj n ab.dead=L1 at t F O r;generalize J:ob++Aj n ([]:ba)=ob1 at t F O C;have A:aB L1=aB L:=by rw [<-G];exact C9 L n
 have g:∀ k,(∀ hs,ob[k]? =some hs->hs=[])->k<L1.length->ob1[k]? =some []:=λ k D y=>by
  rw [<-J];by_cases a:k<ob.length
  .rw [Ag a,Aa a,D _ (Aa a)]
  .rw [Ak o_,Em,if_pos (by rw [hm.len] at a⊢;omega)]
 have d:aB (cE hid L1)=aB (cE hid L):=by rw [fV,fV,A]
 have i:=g base o o_;have S:=t.weak (fU (hid:=hid));have I:(cE hid L1)[base]? =some .dead:=S.idle i;have hs:=yL hE S I i (λ x=>(Z x).mono (λ_ _ _ h=>h) F.hs) hint op ty;rw [d] at hs;have live:∀ {k:Nat} {c:ab},L1[k]? =some c->(cE hid L1)[k]? =some c\/((cE hid L1)[k]? =some .dead/\(∃ hs,ob1[k]? =some hs/\hs≠[])/\L1[k]? =some c):=λ{k c} j=>by
  rcases (fU (hid:=hid) (L:=L1)).2 k with q | q
  .left;rw [q];exact j
  .by_cases s:c= .dead
   .left;rw [q,s]
   .right;exact ⟨q,t.live j s,j⟩
 have a:k<L1.length:=by have:=bF (l:=cE hid L1) (n:=k) rfl (by rw [d];exact D);have:=(Ab.1 this).1;rwa [dP] at this
 obtain ⟨u,w',M',ob',vs⟩:=vX hs h;have f:bM (cE hid L1) k x=(cE hid L1).set k x:=fY x (by rw [dP];exact a);obtain ⟨Q,T,W⟩:=t.revive (ao:=L1.set k x) (fU (hid:=hid)) vs.ext vs.still vs.mem (by rw [f];simp [dP]) λ k' c j=>by
  by_cases b:k'=k
  .subst b;left;rw [Au a] at j;rw [f,Au (by rw [dP];exact a)];exact j
  .rw [Bb (Ej b)] at j;rw [f,Bb (Ej b)];exact live j
 have B:aES M ob L w z k x (.returned u) w':=by
  refine ⟨M',ob',L1.set k x,u,rfl,F.trans T,Q,?_,by simp;omega,vs.rep,λ k' U hs R=>?_⟩
  .funext k';by_cases b:k'=k
   .subst b;rw [if_pos rfl];exact gH (Au a)
   .rw [if_neg b,<-A];rcases fC L1 k' with ⟨h1,N⟩ | ⟨h1,N,K⟩
    .exact gH (by rw [Bb (Ej b)];exact N)
    .rcases fC (L1.set k x) k' with ⟨h3,_⟩ | ⟨_,_,Y⟩
     .simp at h3;omega
     .rw [Y,K]
  .have y:k'<L1.length:=by have:=(Ab.1 R).1;rw [Q.len] at this;simpa using this
   have e:=g k' U y;have s:=t.idle e;have b:k'≠k:=λ K=>by
    subst K;refine D ?_;rw [<-d,fV];dsimp only;split
    .rfl
    .exact gH s
   have:=(W k' [] s e).2 rfl (by rw [Bb (Ej b)];exact s);rw [R] at this;cases this;rfl
 rcases vs.run dst pos m V with H | ⟨H,rfl⟩
 .exact .inl ⟨u,w',H,B⟩
 .exact .inr (.inl ⟨w',H,B⟩)
end
noncomputable def lI(E:Env)(tab:az)(i:Nat)(d:Option Nat)(s:AS):Nat->ab:=if blD E d=true then λ_=>.dead else nW tab i s
def Y(E:Env)(all:bb)(tab:az)(L0 i:Nat)(p:Oper)(s:AS)(z:aa)(base:Nat)(bs:au):Prop:=
 L0<=base/\(blD E p.dst=true->bs=[])/\((cH all (evG tab all i s.g) p.guard=some false/\z= .tup []/\bs=[])\/
  (cH all (evG tab all i s.g) p.guard=some true/\gL E.P (lI E tab i p.dst s) base z bs (eop E (dG E p.dst) base (lI E tab i p.dst s) (evG tab all i s.g) p.op p.type)))
def fresh(s:AS)(base:Nat)(bs:au):Prop:=∀ k,inB base bs.length k->∀ i,¬ s.br i k
def WF(L0:Nat)(s:AS):Prop:=∀ k,L0<=k->(∀ i,¬ s.br i k)->s.o k= .dead
def nOp(E:Env)(all:bb)(tab:az)(L0 i:Nat)(p:Oper)(K:AS->Prop)(s:AS):Prop:=
 ∃ z base bs,Y E all tab L0 i p s z base bs/\fresh s base bs/\K (s.upd i p.dst z base bs)
section
variable {E:Env} {all:bb} {tab:az} {L0:Nat}
def G6{j i t:Nat}{q:Oper}:∀ {l:bb} {n:Nat},l[i]? =some q->q.dst=some t->loose tab (n+i) j=true->OA tab j t n l=true
 | [],n,h,_,_=>by simp at h
 | x::r,n,h,hd,hl=>by
  cases i with
  | zero=>
   simp at h;subst h;rw [Fm] at hl;simp [OA,hd,hl]
  | succ i=>
   have:=G6 (l:=r) (n:=n+1) (i:=i) (q:=q) (by simp_all) hd (by rw [show n+1+i=n+(i+1) from by omega];exact hl);simp [OA,this]
def oE{i j:Nat}:loose tab i j=true↔i≠j/\cL (cR tab j) i=false/\cL (cR tab i) j=false:=by
 simp only [loose,Ad,Cw];constructor
 .rintro ⟨⟨h1,a⟩,h3⟩;exact ⟨λ e=>by simp_all,a,h3⟩
 .rintro ⟨h1,a,h3⟩;exact ⟨⟨ET h1,a⟩,h3⟩
def pK{i j:Nat}(h:loose tab i j=true):loose tab j i=true:=by obtain ⟨h1,a,h3⟩:=oE.1 h;exact oE.2 ⟨Ej h1,h3,a⟩
def KA{i j:Nat}{q:Oper}(a:all[j]? =some q)(hl:loose tab j i=true)(g:Nat->aa)(z:aa):evG tab all i (jC g q.dst z)=evG tab all i g:=by
 funext x;cases x with
 | tmp t=>
  simp only [evG];cases b:OA tab i t 0 all with
  | true=>rfl
  | false=>
   simp only [cond_false,jC];rw [if_neg];intro e;have:=G6 (l:=all) (n:=0) a e q_
   grind
 | _=>rfl
def YD{i j:Nat}(hl:loose tab j i=true){s:AS}(l:WF L0 s){d:Option Nat}{z:aa}{base:Nat}{bs:au}(g:L0<=base)(f:fresh s base bs):nW tab i (s.upd j d z base bs)=nW tab i s:=by
 obtain ⟨_,e,_⟩:=oE.1 hl;funext k;unfold nW;by_cases a:inB base bs.length k
 .have h1:RY tab i (s.upd j d z base bs).br k:=⟨j,.inr ⟨rfl,a⟩,e⟩
  rw [if_pos h1];have n:=l k (Cx g a.1) (f k a)
  grind
 .have m:(s.upd j d z base bs).o k=s.o k:=by
   show nD s.o base bs k=s.o k;unfold nD
   grind
  have p:RY tab i (s.upd j d z base bs).br k↔RY tab i s.br k:=by
   constructor
   .rintro ⟨c,h | ⟨_,h⟩,b⟩
    .exact ⟨c,h,b⟩
    grind
   .rintro ⟨c,h,b⟩;exact ⟨c,.inl h,b⟩
  grind
def aJp{i j:Nat}{p q:Oper}(l:all[j]? =some q)(hl:loose tab j i=true){s:AS}(h:WF L0 s){c:aa}{a:Nat}{b:au}(d:L0<=a)(f:fresh s a b){z:aa}{base:Nat}{bs:au}:
  Y E all tab L0 i p (s.upd j q.dst c a b) z base bs↔Y E all tab L0 i p s z base bs:=by
 have e:evG tab all i (s.upd j q.dst c a b).g=evG tab all i s.g:=KA l hl s.g c;have k:lI E tab i p.dst (s.upd j q.dst c a b)=lI E tab i p.dst s:=by unfold lI;rw [YD hl h d f]
 unfold Y;rw [e,k]
def WF.upd{i:Nat}{s:AS}(c:WF L0 s){d:Option Nat}{z:aa}{base:Nat}{bs:au}:WF L0 (s.upd i d z base bs):=λ k b a=>by have h1:¬ inB base bs.length k:=λ h=>a i (.inr ⟨rfl,h⟩);show nD s.o base bs k= .dead;unfold nD;rw [if_neg h1];exact c k b λ e h=>a e (.inl h)
def aAC{s:AS}{i j:Nat}{d e:Option Nat}{z f:aa}{base a:Nat}{bs b:au}(p:∀ t,d=some t->e≠some t)(h:∀ k,inB base bs.length k->¬ inB a b.length k):
  (s.upd i d z base bs).upd j e f a b=(s.upd j e f a b).upd i d z base bs:=by
 have l:jC (jC s.g d z) e f=jC (jC s.g e f) d z:=by
  funext t;simp only [jC]
  grind
 have m:nD (nD s.o base bs) a b=nD (nD s.o a b) base bs:=by
  funext k;unfold nD
  grind
 have n:(λ c k=>(s.br c k\/(c=i/\inB base bs.length k))\/(c=j/\inB a b.length k))=λ c k=>(s.br c k\/(c=j/\inB a b.length k))\/(c=i/\inB base bs.length k):=by
  funext c k
  grind
 show AS.mk (jC (jC s.g d z) e f) (nD (nD s.o base bs) a b) (λ c k=>(s.br c k\/(c=i/\inB base bs.length k))\/(c=j/\inB a b.length k))=_;rw [l,m,n];rfl
def aGN{i j:Nat}{p q:Oper}(hp:all[i]? =some p)(x:all[j]? =some q)(hl:loose tab i j=true)(v:∀ t,p.dst=some t->q.dst≠some t){s:AS}(m:WF L0 s){z:aa}{base:Nat}{bs:au}
  (u:Y E all tab L0 i p s z base bs) (r:fresh s base bs) {K:AS->Prop} (h:nOp E all tab L0 j q K (s.upd i p.dst z base bs)):
  nOp E all tab L0 j q (λ s'=>WF L0 s'/\Y E all tab L0 i p s' z base bs/\fresh s' base bs/\K (s'.upd i p.dst z base bs)) s:=by
 obtain ⟨w,a,b,h1,o,h3⟩:=h;have d:=(aJp (p:=q) hp hl m u.1 r).1 h1;have g:fresh s a b:=λ k f n c=>o k f n (.inl c);have e:∀ k,inB base bs.length k->¬ inB a b.length k:=λ k f l=>o k l i (.inr ⟨rfl,f⟩);refine ⟨w,a,b,d,g,m.upd,(aJp (p:=p) x (pK hl) m d.1 g).2 u,λ k f n c=>?_,?_⟩
 .rcases c with c | ⟨_,c⟩
  .exact r k f n c
  simp_all
 .rw [<-aAC v e];exact h3
noncomputable def AS.turn(s:AS)(d:Option Nat)(z:aa)(k:Nat)(x:ab):AS:=⟨jC s.g d z,λ k'=>if k'=k then x else s.o k',s.br⟩
def Yu(E:Env)(all:bb)(tab:az)(L0 i:Nat)(p:Oper)(s:AS)(z:aa)(base k:Nat)(x:ab):Prop:=
 (L0<=base/\∀ i,¬ s.br i base)/\cH all (evG tab all i s.g) p.guard=some true/\nW tab i s k≠ .dead/\I6 z k x (eop E (dG E p.dst) base (nW tab i s) (evG tab all i s.g) p.op p.type)
def uOp(E:Env)(all:bb)(tab:az)(L0 i:Nat)(p:Oper)(K:AS->Prop)(s:AS):Prop:=
 ∃ z base k x,Yu E all tab L0 i p s z base k x/\K (s.turn p.dst z k x)
def BA{s:AS}{i base:Nat}{d:Option Nat}{z:aa}:s.upd i d z base []=⟨jC s.g d z,s.o,s.br⟩:=by
 unfold AS.upd;congr 1
 .funext k;unfold nD;rw [if_neg λ h=>by have h1:=h.1;have a:=h.2;grind]
 .funext i' k;refine propext ⟨λ h=>?_,.inl⟩;rcases h with h | ⟨_,h⟩
  .exact h
  .have h1:=h.1;have a:=h.2;grind
def XS{g:Nat->aa}{d a:Option Nat}{z b:aa}(c:∀ t,d=some t->a≠some t):jC (jC g d z) a b=jC (jC g a b) d z:=by
 funext t;simp only [jC]
 grind
def F2{s:AS}{i base:Nat}{d a:Option Nat}{z b:aa}{k:Nat}{x:ab}(c:∀ t,d=some t->a≠some t):(s.upd i d z base []).turn a b k x=(s.turn a b k x).upd i d z base []:=by rw [BA,BA];unfold AS.turn;rw [XS c]
def WF.turn{i:Nat}{s:AS}(c:WF L0 s){d:Option Nat}{z:aa}{k:Nat}{x:ab}(f:nW tab i s k≠ .dead):WF L0 (s.turn d z k x):=λ k' h1 b=>by
 have a:k'≠k:=λ e=>by
  subst e;refine f ?_;unfold nW;split
  .rfl
  .exact c k' h1 b
 show (if k'=k then x else s.o k')= .dead;rw [if_neg a];exact c k' h1 b
def aEM{i j:Nat}{p q:Oper}(d:all[j]? =some q)(hl:loose tab j i=true)(e:blD E p.dst=true){s:AS}{a:aa}{k:Nat}{x:ab}{z:aa}{base:Nat}{bs:au}:
  Y E all tab L0 i p (s.turn q.dst a k x) z base bs↔Y E all tab L0 i p s z base bs:=by
 have b:evG tab all i (s.turn q.dst a k x).g=evG tab all i s.g:=KA d hl s.g a;have c:lI E tab i p.dst (s.turn q.dst a k x)=lI E tab i p.dst s:=by
  unfold lI
  grind
 unfold Y;rw [b,c]
def aEL{i j:Nat}{p q:Oper}(d:all[j]? =some q)(hl:loose tab j i=true){s:AS}{b:aa}{a:Nat}{z:aa}{base k:Nat}{x:ab}:
  Yu E all tab L0 i p (s.upd j q.dst b a []) z base k x↔Yu E all tab L0 i p s z base k x:=by
 rw [BA];have c:evG tab all i (jC s.g q.dst b)=evG tab all i s.g:=KA d hl s.g b;unfold Yu;rw [c];rfl
def aE6{i j:Nat}{p q:Oper}(hp:all[i]? =some p)(o:all[j]? =some q)(hl:loose tab i j=true)(f:blD E p.dst=true)(m:∀ t,p.dst=some t->q.dst≠some t){s:AS}(r:WF L0 s){z:aa}{base:Nat}{bs:au}
  (g:Y E all tab L0 i p s z base bs) (u:fresh s base bs) {K:AS->Prop} (h:uOp E all tab L0 j q K (s.upd i p.dst z base bs)):
  uOp E all tab L0 j q (λ s'=>WF L0 s'/\Y E all tab L0 i p s' z base bs/\fresh s' base bs/\K (s'.upd i p.dst z base bs)) s:=by
 obtain rfl:=g.2.1 f;obtain ⟨n,c,k,x,h1,l⟩:=h;have d:=(aEL hp hl).1 h1;refine ⟨n,c,k,x,d,r.turn d.2.2.1,(aEM o (pK hl) f).2 g,λ k e=>by have a:=e.1;have b:=e.2;simp at b;omega,?_⟩;rw [<-F2 m];exact l
def aCp{i j:Nat}{p q:Oper}(hp:all[i]? =some p)(r:all[j]? =some q)(hl:loose tab i j=true)(g:blD E q.dst=true)(l:∀ t,p.dst=some t->q.dst≠some t){s:AS}(u:WF L0 s){z:aa}{base k:Nat}{x:ab}
  (o:Yu E all tab L0 i p s z base k x) {K:AS->Prop} (h:nOp E all tab L0 j q K (s.turn p.dst z k x)):
  nOp E all tab L0 j q (λ s'=>WF L0 s'/\Yu E all tab L0 i p s' z base k x/\K (s'.turn p.dst z k x)) s:=by
 obtain ⟨n,c,v,h1,w,h3⟩:=h;obtain rfl:=h1.2.1 g;have d:=(aEM hp hl g).1 h1;refine ⟨n,c,[],d,λ k f=>by have a:=f.1;have b:=f.2;simp at b;omega,u.upd,(aEL r (pK hl)).2 o,?_⟩;rw [F2 λ t m e=>l t e m];exact h3
def sOp(E:Env)(all:bb)(tab:az)(L0 i:Nat)(p:Oper)(Kp:(Nat->aa)->aa->au->Prop)(K:AS->Prop)(s:AS):Prop:=
 ∃ ac:au,aB ac=s.o/\L0<=aM ac/\(∀ k,L0<=k->k<aM ac->∃ i,s.br i k)/\(∀ i k,s.br i k->k<aM ac)/\
  ((cH all (evG tab all i s.g) p.guard=some false/\K (s.upd i p.dst (.tup []) L0 []))\/
    (cH all (evG tab all i s.g) p.guard=some true/\orD E.P true true false ac ac (aM ac) (λ v ao=>aM ac<=aM ao->K ⟨jC s.g p.dst v,aB ao,λ a k=>s.br a k\/(a=i/\aM ac<=k/\k<aM ao)⟩) (Kp s.g)
     (eop E (dG E p.dst) (aM ac) (aB ac) (evG tab all i s.g) p.op p.type)))
def aOp(E:Env)(ops:Array Oper)(tab:az)(L0:Nat)(Kp:(Nat->aa)->aa->au->Prop)(i:Nat)(K:AS->Prop)(s:AS):Prop:=
 ∃ p,ops[i]? =some p/\(((sole tab i 0 ops.toList=true->blD E p.dst=true)/\nOp E ops.toList tab L0 i p K s)\/((F8 E tab i 0 ops.toList=true/\blD E p.dst=false)/\uOp E ops.toList tab L0 i p K s)\/
  ((sole tab i 0 ops.toList=true/\blD E p.dst=false)/\sOp E ops.toList tab L0 i p Kp K s))
def wpA(E:Env)(ops:Array Oper)(tab:az)(L0:Nat)(Kp:(Nat->aa)->aa->au->Prop)(Q:AS->Prop):Nat->Array Bool->AS->Prop
 | 0,listed,s=>Dy .any ops listed=[]/\Q s
 | fuel+1,listed,s=>(Dy .any ops listed=[]->Q s)/\∀ i∈Dy .any ops listed,aOp E ops tab L0 Kp i (wpA E ops tab L0 Kp Q fuel (listed.setIfInBounds i true)) s
end
section
variable {E:Env} {ops:Array Oper} {tab:az} {L0:Nat} {Kp:(Nat->aa)->aa->au->Prop} {Q:AS->Prop}
def E3{i:Nat}{K d:AS->Prop}{s:AS}(c:∀ s,K s->d s)(h:aOp E ops tab L0 Kp i K s)(f:sole tab i 0 ops.toList=false):aOp E ops tab L0 Kp i d s:=by
 obtain ⟨p,h1,⟨a,z,base,bs,h3,b,e⟩ | ⟨a,z,base,k,x,h3,b⟩ | ⟨a,_⟩⟩:=h
 .exact ⟨p,h1,.inl ⟨a,z,base,bs,h3,b,c _ e⟩⟩
 .exact ⟨p,h1,.inr (.inl ⟨a,z,base,k,x,h3,c _ b⟩)⟩
 grind
def mJ(tab:az)(a:Array Bool):Prop:=∀ j i,a.getD j false=true->cL (cR tab j) i=true->a.getD i false=true
def uI{E:Env}{tab:az}{j:Nat}:∀ {l:bb} {n:Nat},F8 E tab j n l=true->∀ (i:Nat) q,l[i]? =some q->loose tab (n+i) j=true->blD E q.dst=true
 | [],_,_,i,q,hi,_=>by simp at hi
 | x::r,n,h,i,q,hi,hl=>by
  simp only [F8,Ad,Fb,Cw] at h;cases i with
  | zero=>
   grind
  | succ i=>exact uI h.2 i q (by simp_all) (by grind)
def TM(E:Env)(ops:Array Oper)(tab:az)(i:Nat)(d:Option Nat):Prop:=∀ (a:Array Bool) (j:Nat),mJ tab a->i∈Dy .any ops a->j∈Dy .any ops a->j≠i->
   mJ tab (a.setIfInBounds j true)/\sole tab j 0 ops.toList=false/\loose tab i j=true/\∀ q,ops[j]? =some q->∀ t,d=some t->q.dst≠some t
def aDp{i:Nat}{p:Oper}{z:aa}{base:Nat}{bs:au}(M:ops[i]? =some p)(r:sole tab i 0 ops.toList=true->blD E p.dst=true)(d:TM E ops tab i p.dst):
  ∀ (c:Nat) (a:Array Bool) (s:AS),mJ tab a->WF L0 s->i∈Dy .any ops a->Y E ops.toList tab L0 i p s z base bs->fresh s base bs->
   wpA E ops tab L0 Kp Q c (a.setIfInBounds i true) (s.upd i p.dst z base bs)->wpA E ops tab L0 Kp Q (c+1) a s:=by
 have l:∀ {K:AS->Prop} {s:AS},Y E ops.toList tab L0 i p s z base bs->fresh s base bs->K (s.upd i p.dst z base bs)->aOp E ops tab L0 Kp i K s:=λ g f G=>⟨p,M,.inl ⟨r,z,base,bs,g,f,G⟩⟩
 intro c;induction c with
 | zero=>
  intro a s C y e g f H;refine ⟨λ h=>(by simp_all),λ j m=>?_⟩;by_cases b:j=i
  .simp_all
  .have:=ready_mono m b;rw [H.1] at this;cases this
 | succ c B=>
  intro a s C y e g f H;refine ⟨λ h=>(by rw [h] at e;cases e),λ j m=>?_⟩;by_cases b:j=i
  .subst b;exact l g f H
  .have h1:=H.2 j (ready_mono m b);obtain ⟨A,t,F,D⟩:=d a j C e m b;obtain ⟨q,n,⟨v,I⟩ | ⟨k,J⟩ | ⟨hs,_⟩⟩:=h1
   .have:=aGN q_ q_ F (D q n) y g f I;refine E3 (λ s' ⟨o,w,x,u⟩=>B (a.setIfInBounds j true) s' A o (ready_mono e (Ej b)) w x ?_) ⟨q,n,.inl ⟨v,this⟩⟩ t;rw [Iz _ _ b];exact u
   .have L:blD E p.dst=true:=uI k.1 i p q_ q_;have:=aE6 q_ q_ F L (D q n) y g f J;refine E3 (λ s' ⟨o,w,x,u⟩=>B (a.setIfInBounds j true) s' A o (ready_mono e (Ej b)) w x ?_) ⟨q,n,.inr (.inl ⟨k,this⟩)⟩ t;rw [Iz _ _ b];exact u
   .rw [t] at hs;cases hs.1
def aLa{i:Nat}{p:Oper}{z:aa}{base k:Nat}{x:ab}(G:ops[i]? =some p)(e:F8 E tab i 0 ops.toList=true/\blD E p.dst=false)(d:TM E ops tab i p.dst):
  ∀ (b:Nat) (a:Array Bool) (s:AS),mJ tab a->WF L0 s->i∈Dy .any ops a->Yu E ops.toList tab L0 i p s z base k x->
   wpA E ops tab L0 Kp Q b (a.setIfInBounds i true) (s.turn p.dst z k x)->wpA E ops tab L0 Kp Q (b+1) a s:=by
 have v:∀ {K:AS->Prop} {s:AS},Yu E ops.toList tab L0 i p s z base k x->K (s.turn p.dst z k x)->aOp E ops tab L0 Kp i K s:=λ n D=>⟨p,G,.inr (.inl ⟨e,z,base,k,x,n,D⟩)⟩
 intro b;induction b with
 | zero=>
  intro a s u w o n H;refine ⟨λ h=>(by simp_all),λ j m=>?_⟩;by_cases c:j=i
  .simp_all
  .have:=ready_mono m c;rw [H.1] at this;cases this
 | succ b C=>
  intro a s u w o n H;refine ⟨λ h=>(by simp_all),λ j m=>?_⟩;by_cases c:j=i
  .subst c;simp_all
  .have h1:=H.2 j (ready_mono m c);obtain ⟨B,t,y,L⟩:=d a j u o m c;have g:∀ q,ops[j]? =some q->blD E q.dst=true:=λ q l=>uI e.1 j q q_ (by rw [Bp];exact pK y);obtain ⟨q,l,⟨r,F⟩ | ⟨f,M⟩ | ⟨hs,_⟩⟩:=h1
   .have:=aCp q_ q_ y (g q l) (L q l) w n F;refine E3 (λ s' ⟨A,I,J⟩=>C (a.setIfInBounds j true) s' B A (ready_mono o (Ej c)) I ?_) ⟨q,l,.inl ⟨r,this⟩⟩ t;rw [Iz _ _ c];exact J
   .rw [g q l] at f;cases f.2
   .rw [t] at hs;cases hs.1
end
def jS(fr:ar)(ac:au)(br:List (Nat×Nat)):AS:=⟨aW fr,aB ac,λ i k=>(i,k)∈br⟩
def dR(fr:ar)(d:Option Nat)(v:aa):aW (kV fr d v)=jC (aW fr) d v:=by
 funext t;cases d with
 | none=>rfl
 | some d=>
  simp only [kV,jC,oI,Dq]
  grind
def YW(ks:az)(ac:au)(k:Nat):aB (qI ks ac) k=if k∈ks then .dead else aB ac k:=by
 induction ks generalizing ac with
 | nil=>simp [qI]
 | cons x r a=>
  simp only [qI,a,sQ,Aw]
  grind
def wS{tab:az}{j k:Nat}:∀ {br:List (Nat×Nat)},k∈FL tab j br↔ ∃ i,(i,k)∈br/\cL (cR tab j) i=false
 | []=>by simp [FL]
 | (i,k')::r=>by
  simp only [FL];cases h:cL (cR tab j) i with
  | true=>
   simp only [cond_true,wS (br:=r),Aw,Lp]
   grind
  | false=>
   simp only [cond_false,Aw,wS (br:=r),Lp]
   grind
def aFQ(tab:az)(j:Nat)(fr:ar)(ac:au)(br:List (Nat×Nat)):aB (qI (FL tab j br) ac)=nW tab j (jS fr ac br):=by
 funext k;rw [YW];unfold nW;have:k∈FL tab j br↔RY tab j (jS fr ac br).br k:=wS;by_cases h:k∈FL tab j br
 .grind
 .rw [if_neg h,if_neg λ e=>h (this.2 e)];rfl
def PR(bs:au):∀ (ac:au),A7 ac ac.length bs=ac++bs:=by
 induction bs with
 | nil=>intro ac;simp [A7]
 | cons x r a=>
  intro ac;simp only [A7,NA];have:=a (ac++[x])
  grind
def rM(n:Nat):∀ (l:au),iH n l=l.drop n:=by
 induction n with
 | zero=>intro l;rfl
 | succ n a=>intro l;cases l with
  | nil=>rfl
  | cons x r=>simp [iH,a]
def oQ{j i k:Nat}:∀ {l:au} {base:Nat} {br:List (Nat×Nat)},(i,k)∈born j base l br↔(i,k)∈br\/(i=j/\inB base l.length k)
 | [],base,br=>by simp [born,inB];omega
 | x::r,base,br=>by
  have a:=oQ (j:=j) (i:=i) (k:=k) (l:=r) (base:=base+1) (br:=br);have e:born j base (x::r) br=(j,base)::born j (base+1) r br:=rfl;have hm:(i,k)∈(j,base)::born j (base+1) r br↔((i=j/\k=base)\/(i,k)∈br)\/(i=j/\inB (base+1) r.length k):=by grind
  rw [e,hm];unfold inB;rw [Al];constructor
  .grind
  grind
def vE{rest:bb}{n:Nat}{d:Option Nat}{fr:ar}{v:aa}{k:ar->Prop}(h:wrP rest n d fr v k):k (kV fr d v):=by
 unfold wrP at h;cases d with
 | none=>exact h
 | some d=>
  dsimp only at h;cases a:wQ n rest with
  | false=>rw [a] at h;exact h
  | true=>
   rw [a] at h;simp only [cond_true] at h;split at h
   .rename_i b;cases b with
    | true=>exact h.1 rfl
    | false=>exact h.2 rfl
   grind
def aEK(fr:ar)(ac:au)(br:List (Nat×Nat))(n:Nat)(d:Option Nat)(z:aa)(bs:au):
  jS (kV fr d z) (A7 ac (aM ac) bs) (born n (aM ac) (iH (aM ac) (A7 ac (aM ac) bs)) br)=(jS fr ac br).upd n d z (aM ac) bs:=by
 rw [bJ,PR,rM,Ji];unfold jS AS.upd;rw [dR];congr 1
 .funext k;show _=nD (aB ac) ac.length bs k;unfold nD;by_cases h:inB ac.length bs.length k
  .rw [if_pos h];have a:k-ac.length<bs.length:=by have:=h.1;have:=h.2;omega
   refine gH ?_;rw [Ak h.1,Fa,Aa a];rfl
  .rw [if_neg h];by_cases c:k<ac.length
   .rcases fC ac k with ⟨h1,e⟩ | ⟨h1,_⟩
    .exact gH (by rw [Ag c];exact e)
    .omega
   .have f:ac.length+bs.length<=k:=by refine Nat.le_of_not_lt λ b=>h ⟨by omega,b⟩
    rcases fC (ac++bs) k with ⟨h1,_⟩ | ⟨_,_,e⟩
    .grind
    .rcases fC ac k with ⟨h1,_⟩ | ⟨_,_,g⟩
     .omega
     grind
 .funext i k;exact propext oQ
structure LI(L0 n:Nat)(ac:au)(br:List (Nat×Nat)):Prop where
 low:L0<=aM ac
 all:∀ k,L0<=k->k<aM ac->∃ i,(i,k)∈br
 lt:∀ i k,(i,k)∈br->k<aM ac/\i<n
def LI.wf{L0 n:Nat}{ac:au}{br:List (Nat×Nat)}(h:LI L0 n ac br)(fr:ar):WF L0 (jS fr ac br):=λ k b c=>by
 rcases fC ac k with ⟨h1,_⟩ | ⟨_,_,e⟩
 .obtain ⟨i,a⟩:=h.all k b (by rw [bJ];exact h1);exact absurd a (c i)
 .exact e
def LI.put{L0 n:Nat}{ac:au}{br:List (Nat×Nat)}(h:LI L0 n ac br){ao:au}(hl:aM ac<=aM ao):LI L0 (n+1) ao (born n (aM ac) (iH (aM ac) ao) br):=by
 have f:(iH (aM ac) ao).length=aM ao-aM ac:=by rw [rM,Eh,bJ ao]
 refine ⟨Cx h.low hl,λ k h1 e=>?_,λ i k c=>?_⟩
 .by_cases c:k<aM ac
  .obtain ⟨i,d⟩:=h.all k h1 c;exact ⟨i,oQ.2 (.inl d)⟩
  .exact ⟨n,oQ.2 (.inr ⟨rfl,by omega,by omega⟩)⟩
 .rcases oQ.1 c with c | ⟨rfl,h1,e⟩
  .obtain ⟨a,b⟩:=h.lt i k c;omega
  omega
def CallG.mono{P:Program}{f:Fn}{args:ay}{ac:au}{K d Kp:aa->au->Prop}(c:∀ v o,K v o->d v o)(h:CallG P f args ac K Kp):CallG P f args ac d Kp:=by
 cases h with
 | pure r new h k=>exact .pure r new h (c _ _ k)
 | eff b ks r ao a h k=>exact .eff b ks r ao a h (c _ _ k)
 | effp b ks r ao a h k=>exact .effp b ks r ao a h k
 | pan r h k=>exact .pan r h k
def rL{P:Program}{j q bl:Bool}{g ac:au}{base:Nat}{K m Kp:aa->au->Prop}(e:∀ v o,K v o->m v o):∀ {r:OR},orD P j q bl g ac base K Kp r->orD P j q bl g ac base m Kp r
 | .no,k=>k.elim
 | .val v,k=>e _ _ k
 | .mkf fn fs cs,k=>e _ _ k
 | .need p r,k=>⟨k.1,rL e k.2⟩
 | .alt p v w,k=>k.imp (λ h=>⟨h.1,e _ _ h.2⟩) (e _ _)
 | .idx n f,⟨i,hi,k⟩=>⟨i,hi,rL e k⟩
 | .elem xs i f,⟨x,hx,k⟩=>⟨x,hx,rL e k⟩
 | .byte l i,⟨c,hc,k⟩=>⟨c,hc,e _ _ k⟩
 | .text xs,⟨l,hl,hm,k⟩=>⟨l,hl,hm,e _ _ k⟩
 | .find es key f,⟨o,ho,k⟩=>⟨o,ho,rL e k⟩
 | .born x v,k=>by cases bl with
  | true=>exact k.elim
  | false=>exact e _ _ k
 | .upd i x v,k=>by
  simp only [orD] at k⊢
  grind
 | .nilq xs neg,k=>by cases j with
  | true=>exact λ b t=>e _ _ (k b t)
  | false=>exact k.elim
 | .call f args,k=>by
  cases bl with
  | true=>exact k.elim
  | false=>
   have k:CallD P f args j g base ac K Kp:=k;show CallD P f args j g base ac m Kp;cases k with
   | pure r new h k=>exact .pure r new h (e _ _ k)
   | sole h1 s=>exact .sole h1 (s.mono e)
   | look ks r o a l b c d k=>exact .look ks r o a l b c d (e _ _ k)
 | .pan v,k=>by cases j with
  | true=>exact k
  | false=>exact k.elim
def C5{P:Program}{b bl:Bool}{a ac:au}{base:Nat}{K Kp:aa->au->Prop}:∀ {r:OR},orD P true b bl a ac base K Kp r->orD P true true bl a ac base K Kp r
 | .no,k=>k
 | .val v,k=>k
 | .mkf fn fs cs,k=>k
 | .need p r,k=>⟨k.1,C5 k.2⟩
 | .alt p v w,k=>k
 | .idx n f,⟨i,hi,k⟩=>⟨i,hi,C5 k⟩
 | .elem xs i f,⟨x,hx,k⟩=>⟨x,hx,C5 k⟩
 | .byte l i,k=>k
 | .text xs,k=>k
 | .find es key f,⟨o,ho,k⟩=>⟨o,ho,C5 k⟩
 | .born x v,k=>k
 | .upd i x v,k=>k
 | .nilq xs neg,k=>k
 | .call f args,k=>k
 | .pan v,k=>k
def aAo(fr:ar)(ac:au)(br:List (Nat×Nat))(n:Nat)(d:Option Nat)(z:aa)(k:Nat)(x:ab)(a:k<aM ac):
  jS (kV fr d z) (bM ac k x) (born n (aM ac) (iH (aM ac) (bM ac k x)) br)=(jS fr ac br).turn d z k x:=by
 have hl:(bM ac k x).length=ac.length:=by rw [fY _ (by rwa [bJ] at a)];simp
 have e:iH (aM ac) (bM ac k x)=[]:=by rw [rM,bJ,<-hl];simp
 rw [e];unfold jS AS.turn;rw [dR];congr 1;funext k';exact sQ ac k k' x
structure TabSp(ops:Array Oper)(tab:az):Prop where
 back:∀ (j:Nat) p,ops[j]? =some p->∀ e∈p.after,Jo .any e=true->e.on<j
 less:∀ i j,cL (cR tab i) j=true->j<i
 step:∀ (j:Nat) p,ops[j]? =some p->∀ i,cL (cR tab j) i=true->∃ e∈p.after,Jo .any e=true/\(e.on=i\/cL (cR tab e.on) i=true)
 out:∀ j i,cL (cR tab j) i=true->j<ops.size
 dst:∀ (i j:Nat) p q,ops[i]? =some p->ops[j]? =some q->loose tab i j=true->∀ t,p.dst=some t->q.dst≠some t
def sJ{tab:az}{j:Nat}:∀ {l:bb} {n:Nat},sole tab j n l=true->∀ i,i<l.length->loose tab (n+i) j=false
 | [],_,_,i,hi=>by simp at hi
 | x::r,n,h,i,hi=>by
  simp only [sole,Ad,Cw] at h;cases i with
  | zero=>exact h.1
  | succ i=>
   have:=sJ h.2 i (by grind)
   grind
section
variable {E:Env} {ops:Array Oper} {tab:az} {L0:Nat} {Kp:(Nat->aa)->aa->au->Prop} {Kq:ar->au->Prop}
def mJ.step(n:TabSp ops tab){a:Array Bool}(g:mJ tab a){j:Nat}(m:j∈Dy .any ops a):mJ tab (a.setIfInBounds j true)/\∀ i,cL (cR tab j) i=true->a.getD i false=true:=by
 obtain ⟨_,p,hp,b⟩:=mem_ready.1 m;have key:∀ i,cL (cR tab j) i=true->a.getD i false=true:=λ i o=>by
  obtain ⟨e,l,k,h | h⟩:=n.step j p hp i o
  .subst h;exact b e l k
  .exact g e.on i (b e l k) h
 refine ⟨λ f i h1 d=>getD_set_true ?_,key⟩;by_cases c:j=f
 .subst c;exact key i d
 .rw [getD_set_ne false c] at h1;exact g f i h1 d
def rD(g:TabSp ops tab){a:Array Bool}(l:mJ tab a){i j:Nat}(f:i∈Dy .any ops a)(m:j∈Dy .any ops a)(d:i≠j):loose tab i j=true:=by
 have e:∀ {k:Nat},k∈Dy .any ops a->a.getD k false=true->False:=λ{k} hk h=>by
  obtain ⟨n,p,hp,_⟩:=mem_ready.1 hk;rw [Bk] at n h;cases c:a[k]? with
  | none=>simp_all
  | some b=>simp_all
 refine oE.2 ⟨d,?_,?_⟩
 .cases c:cL (cR tab j) i with
  | false=>rfl
  | true=>exact (e f ((l.step g m).2 i c)).elim
 .cases c:cL (cR tab i) j with
  | false=>rfl
  | true=>exact (e m ((l.step g f).2 j c)).elim
def Qf(L0:Nat)(Kq:ar->au->Prop)(s:AS):Prop:=∃ fr ac br n,s=jS fr ac br/\LI L0 n ac br/\Kq fr ac
def aG0(C:TabSp ops tab):∀ (l:bb) (n:Nat) (a:Array Bool) (br:List (Nat×Nat)) (fr:ar) (ac:au),
  l=ops.toList.drop n->(∀ j,j<ops.size->a[j]? =some (decide (j<n)))->a.size=ops.size->LI L0 n ac br->iV E ops.toList tab Kq Kp n l br fr ac->
  wpA E ops tab L0 Kp (Qf L0 Kq) l.length a (jS fr ac br)
 | [],n,a,br,fr,ac,hl,hlist,hsz,hI,h=>by
  refine ⟨?_,fr,ac,br,n,rfl,hI,h⟩;have J:ops.size<=n:=by simp_all
  refine Ht.2 λ j I=>?_;obtain ⟨h0,q,G,_⟩:=mem_ready.1 I;have B:=(Ey.1 G).1;rw [Bk,hlist j B] at h0;simp at h0;omega
 | p::l,n,a,br,fr,ac,hl,hlist,hsz,hI,h=>by
  have t:ops[n]? =some p:=by
   have:(ops.toList.drop n)[0]? =some p:=by grind
   simpa using this
  have T:n<ops.size:=(Ey.1 t).1;have N:l=ops.toList.drop (n+1):=by rw [<-Hl,<-hl];rfl
  have B:∀ j,a.getD j false=true↔j<n:=by
   intro j;rw [Bk];by_cases I:j<ops.size
   .simp_all
   .rw [Mj o_];simp;omega
  have f:mJ tab a:=λ j i h1 y=>(B i).2 (Nj (C.less j i y) ((B j).1 h1));have c:n∈Dy .any ops a:=by refine mem_ready.2 ⟨?_,p,t,λ e he M=>(B _).2 (C.back n p t e he M)⟩;rw [Bk,hlist n T];simp
  have s:∀ j,j<ops.size->(a.setIfInBounds n true)[j]? =some (decide (j<n+1)):=by
   intro j I;by_cases Y:n=j
   .subst Y;rw [Ek o_];simp
   .rw [Ep Y,hlist j I];simp;omega
  have D:(a.setIfInBounds n true).size=ops.size:=by simp;omega
  have hw:=hI.wf fr;have L:∀ {bs:au},fresh (jS fr ac br) (aM ac) bs:=λ{bs} k J i M=>by have:=(hI.lt i k M).1;have:=J.1;omega
  have ahead:∀ {i:Nat},i<ops.size->i∈Dy .any ops a->i≠n->loose tab n i=true:=λ_ hi F=>rD C f c hi (Ej F);simp only [iV] at h;rw [aLg] at h
  -- on,where the operation bears bs at the end
  have on:∀ {z:aa} {bs:au},iV E ops.toList tab Kq Kp (n+1) l (born n (aM ac) (iH (aM ac) (A7 ac (aM ac) bs)) br) (kV fr p.dst z) (A7 ac (aM ac) bs)->
    wpA E ops tab L0 Kp (Qf L0 Kq) l.length (a.setIfInBounds n true) ((jS fr ac br).upd n p.dst z (aM ac) bs):=λ{z bs} X=>by
   rw [<-aEK];refine aG0 C l (n+1) _ _ _ _ N s D (hI.put ?_) X;rw [bJ,bJ,PR];simp
  have S:A7 ac (aM ac) []=ac:=rfl;have brn:born n (aM ac) (iH (aM ac) ac) br=br:=by
   have:iH (aM ac) ac=[]:=by rw [rM,bJ];simp
   rw [this];rfl
  have skip:iV E ops.toList tab Kq Kp (n+1) l br (kV fr p.dst (.tup [])) ac->wpA E ops tab L0 Kp (Qf L0 Kq) l.length (a.setIfInBounds n true) ((jS fr ac br).upd n p.dst (.tup []) (aM ac) []):=λ X=>on (by rw [S,brn];exact X);have oth:(∀ j,ops[j]?≠none->loose tab n j=true->sole tab j 0 ops.toList=false)->TM E ops tab n p.dst:=λ h listed' j hc' hi' O F=>by have d:=rD C hc' hi' O (Ej F);obtain ⟨_,q,G,_⟩:=mem_ready.1 O;exact ⟨(hc'.step C O).1,h j (by rw [G];simp) d,d,λ q G=>C.dst n j p q t G d⟩
  have K:∀ j,ops[j]?≠none->loose tab n j=true->sole tab j 0 ops.toList=false:=λ j I d=>by
   cases G:sole tab j 0 ops.toList with
   | false=>rfl
   | true=>
    have:=sJ G n o_;rw [Bp,d] at this;cases this
  have r:=oth K
  -- where an object is turned
  have onU:∀ {z:aa} {k:Nat} {x:ab},k<aM ac->iV E ops.toList tab Kq Kp (n+1) l (born n (aM ac) (iH (aM ac) (bM ac k x)) br) (kV fr p.dst z) (bM ac k x)->
    wpA E ops tab L0 Kp (Qf L0 Kq) l.length (a.setIfInBounds n true) ((jS fr ac br).turn p.dst z k x):=λ{z k x} J X=>by
   rw [<-aAo fr ac br n p.dst z k x J];refine aG0 C l (n+1) _ _ _ _ N s D (hI.put ?_) X;rw [bJ,bJ,fY _ (by rwa [bJ] at J)];simp
  have H:(sole tab n 0 ops.toList=true->blD E p.dst=true)->(cH ops.toList (evG tab ops.toList n (aW fr)) p.guard=some true->
    orD E.P false (uoN E tab ops.toList n p.dst) (blD E p.dst) (pY E tab n br ac p.dst) ac (aM ac) (λ v ao=>wrP l n p.dst fr v λ fr=>iV E ops.toList tab Kq Kp (n+1) l (born n (aM ac) (iH (aM ac) ao) br) fr ao) (Kp (aW fr))
     (eop E (dG E p.dst) (aM ac) (aB (pY E tab n br ac p.dst)) (evG tab ops.toList n (aW fr)) p.op p.type))->
    (cH ops.toList (evG tab ops.toList n (aW fr)) p.guard=some false->iV E ops.toList tab Kq Kp (n+1) l br (kV fr p.dst (.tup [])) ac)->
    cH ops.toList (evG tab ops.toList n (aW fr)) p.guard≠none->wpA E ops tab L0 Kp (Qf L0 Kq) (l.length+1) a (jS fr ac br):=λ U h1 y h3=>by
   have u:aB (pY E tab n br ac p.dst)=lI E tab n p.dst (jS fr ac br):=by
    unfold pY lI;cases o:blD E p.dst with
    | true=>rfl
    | false=>simp only [cond_false];rw [if_neg s_];exact aFQ tab n fr ac br
   cases m:cH ops.toList (evG tab ops.toList n (aW fr)) p.guard with
   | none=>simp_all
   | some b=>
    cases b with
    | false=>exact aDp t U r l.length a _ f hw c (z:=.tup []) (base:=aM ac) (bs:=[]) ⟨hI.low,λ_=>rfl,.inl ⟨m,rfl,rfl⟩⟩ L (skip (y m))
    | true=>
     have h:=h1 m;rcases rK h with ⟨z,bs,q0,R,q2⟩ | ⟨z,k,x,q0,R,q2,q3⟩
     .rw [u] at R;exact aDp t U r l.length a _ f hw c ⟨hI.low,q0,.inr ⟨m,R⟩⟩ L (on (vE q2))
     .obtain ⟨u1,u2⟩:=aV q0;have o:blD E p.dst=false:=by simpa using u2
      have e:lI E tab n p.dst (jS fr ac br)=nW tab n (jS fr ac br):=by unfold lI;rw [o,if_neg s_]
      rw [u,e] at R q2;have hkl:k<aM ac:=by
              refine Nat.lt_of_not_le λ hge=>R ?_;unfold nW;split
              .rfl
              .rcases fC ac k with ⟨h1,_⟩ | ⟨_,_,e⟩
               .rw [bJ] at hge;omega
               .exact e
      exact aLa t ⟨u1,o⟩ r l.length a _ f hw c ⟨⟨hI.low,λ i M=>by have:=(hI.lt i _ M).1;omega⟩,m,R,q2⟩ (onU hkl (vE q3))
  have V:cH ops.toList (evG tab ops.toList n (aW fr)) p.guard≠none:=λ e=>by simp_all
  have w:cH ops.toList (evG tab ops.toList n (aW fr)) p.guard=some false->iV E ops.toList tab Kq Kp (n+1) l br (kV fr p.dst (.tup [])) ac:=λ e=>by rw [e] at h;exact h
  cases o:blD E p.dst with
  | true=>
   refine H (λ_=>o) (λ e=>?_) w V;rw [e] at h;have:soN E tab ops.toList n p.dst=false:=by simp [soN,o]
   rw [this] at h;exact h
  | false=>
  cases A:sole tab n 0 ops.toList with
  | false=>
   refine H (λ e=>by rw [A] at e;cases e) (λ e=>?_) w V;rw [e] at h;have:soN E tab ops.toList n p.dst=false:=by simp [soN,A]
   rw [this] at h;exact h
  | true=>
   have hone:∀ j,j∈Dy .any ops a->j=n:=λ j I=>by refine Li λ F=>?_;have d:=rD C f I c F;obtain ⟨_,q,G,_⟩:=mem_ready.1 I;have hjlt:=(Ey.1 G).1;have:=sJ A j o_;rw [Bp,d] at this;cases this
   have W:FL tab n br=[]:=by
    refine Ht.2 λ k J=>?_;obtain ⟨i,h1,y⟩:=wS.1 J;have hin:=(hI.lt i k h1).2;have:=sJ A i q_;rw [Bp] at this
    have hl2:loose tab i n=true:=oE.2 ⟨by omega,y,by
     cases G:cL (cR tab i) n with
     | false=>rfl
     | true=>have:=C.less i n G;omega⟩
    rw [hl2] at this;cases this
   have Q:pY E tab n br ac p.dst=ac:=by unfold pY;rw [o,W];rfl
   have Z:soN E tab ops.toList n p.dst=true:=by simp [soN,A,o]
   rw [Q,Z,o] at h;refine ⟨λ h=>(by rw [h] at c;cases c),λ j I=>?_⟩;obtain rfl:=hone j I;refine ⟨p,t,.inr (.inr ⟨⟨A,o⟩,ac,rfl,hI.low,λ k h1 y=>hI.all k h1 y,λ i k M=>(hI.lt i k M).1,?_⟩)⟩;cases m:cH ops.toList (evG tab ops.toList j (aW fr)) p.guard with
   | none=>rw [m] at h;exact h.elim
   | some b=>
    rw [m] at h;cases b with
    | false=>
     refine .inl ⟨m,?_⟩;have e:(jS fr ac br).upd j p.dst (.tup []) L0 []=(jS fr ac br).upd j p.dst (.tup []) (aM ac) []:=by
      unfold AS.upd;congr 1
      .funext k;unfold nD;rw [if_neg λ h=>by have h1:=h.1;have y:=h.2;simp at y;omega,if_neg λ h=>by have h1:=h.1;have y:=h.2;simp at y;omega]
      .funext i k;refine propext (or_congr Np ⟨λ h=>?_,λ h=>?_⟩)<;>(have h1:=h.2.1;have y:=h.2.2;simp at y;omega)
     rw [e];exact skip h
    | true=>
     dsimp only at h;refine .inr ⟨m,rL (λ v ao J hle=>?_) (C5 h)⟩;have hk2:=vE J;have:=aG0 C l (j+1) _ _ _ _ N s D (hI.put hle) hk2;have e:jS (kV fr p.dst v) ao (born j (aM ac) (iH (aM ac) ao) br)=⟨jC (jS fr ac br).g p.dst v,aB ao,λ i' k=>(jS fr ac br).br i' k\/(i'=j/\aM ac<=k/\k<aM ao)⟩:=by unfold jS;rw [dR];congr 1;funext i k;refine propext (oQ.trans (or_congr Np (and_congr Np ?_)));unfold inB;rw [rM,Eh,bJ ao];omega
     rw [<-e];exact this
end
end Go.AW
