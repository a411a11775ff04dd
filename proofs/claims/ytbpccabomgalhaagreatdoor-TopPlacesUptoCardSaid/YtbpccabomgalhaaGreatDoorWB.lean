/- Part 2 of what the statement rests on. -/
import Derived.Lib.ConvBytes
import Derived.MapKept
import Derived.WalkSmall
import Derived.Carry
import Derived.Orders
import Derived.Test.YtbpccabomgalhaaGreatDoorWA
set_option linter.all false
open Array renaming ext'->Ds,getD_eq_getD_getElem?->Cj,getElem?_append_left->Gs,getElem?_eq_some_iff->Ep,getElem?_setIfInBounds_ne->Ha,getElem?_setIfInBounds_self_of_lt->Hz,length_toList->Im,range->Kk,setIfInBounds_comm->Iu,toList_map->Jr
open Bool renaming and_eq_true->Ad,and_true->Jz,false_eq_true->Cn,false_or->Mv,not_eq_true'->Cw,or_eq_true->Ew,true_and->Dc
open Decidable renaming byContradiction->Lf
open Go.Builtin renaming append_->Cm,clear_->Jl,copy_->Kc,delete_->Ks,firstCells->Ch,len_->Fh,zeroCells->Ce
open Go.Instr renaming alloc->Ng,buildSlice->Ju,checkKey->Hk,field->Ms,fieldAt->Lm,findAsking->Jv,findKey->Lo,findNow->Ln,index->Lj,indexAt->Ht,loadAt->Ma,lookup->Mb,mapUpdate->Kr,sameBits->Jm,slice->Lk,sliceAt->Gp,sliceBound->Jt,sliceBounds->Gf,storeAt->Kb,sureAddr->Ii,typeAssert->Jw
open Go.Region renaming binds->Jk,ready->Dx
open Go.Result renaming andThen->Eb,andThen_ok->Ap
open Go.Sem renaming run_bind->Bi,run_pure->Bu
open Go.Value renaming iface->Mt,int->Dz,ownBlock->Gd,slice->Gn
open Go.World renaming block_lt_of_cell?->Cp,cell?_of_block->Co,ownsRow_nil->Gy
open Iff renaming rfl->Nh
open Int renaming le_refl->Dd,toNat_natCast->Bn
open List renaming all_cons->Jy,all_eq_true->Ct,append_nil->Au,drop_drop->Hf,drop_left->Jd,drop_zero->Cg,eq_nil_iff_forall_not_mem->Jx,eq_nil_of_length_eq_zero->Ay,ext_getElem?->Ea,foldl_cons->Ba,getD_eq_getElem?_getD->Eu,getElem?_append_left->Af,getElem?_append_right->Ak,getElem?_cons_succ->Fo,getElem?_cons_zero->Lw,getElem?_drop->Bo,getElem?_eq_getElem->Aa,getElem?_eq_none->Bg,getElem?_eq_some_iff->Ac,getElem?_map->Bh,getElem?_of_mem->Cq,getElem?_range->Dj,getElem?_replicate->Ei,getElem?_set->Gx,getElem?_set_ne->Ax,getElem?_set_self->Aq,getElem?_take->Fz,getElem?_take_of_lt->Bj,getElem?_toArray->Jo,length_append->Ah,length_cons->Al,length_drop->Eg,length_eraseIdx_of_lt->Lc,length_map->Cf,length_nil->Br,length_replicate->Gu,length_set->Df,length_take->Dl,map_cons->Bl,mem_append->Az,mem_cons->Bc,mem_of_getElem?->Av,mem_of_mem_drop->Es,mem_of_mem_take->Cu,mem_or_eq_of_mem_set->Db,mem_replicate->Fy,nil_append->Bm,prefix_refl->Cl,range->Dr,replicate->Aj,replicate_succ->Ku,size_toArray->Ge,take_left->Hg,take_length->Fx,take_of_length_le->Cd,take_zero->Ih
open Nat renaming add_assoc->Ka,add_comm->Ly,add_mul->Bv,add_sub_cancel_left->Hi,add_zero->Ff,beq->Aw,ble->Fp,blt->Ey,blt_eq->Jq,div_add_mod->Ft,eq_zero_or_pos->Fi,le_of_ble_eq_true->Ci,le_refl->Bf,le_trans->Cx,lt_of_lt_of_le->Em,lt_or_ge->Mz,lt_trans->Na,min_eq_left->Gh,mod_lt->Ez,mul_comm->Da,mul_le_mul_right->Bs,one_mul->Gm,sub_zero->Jj,zero_add->Bw,zero_le->Bt,zero_mul->Lx
open Ne renaming symm->Ej
open Option renaming getD_some->Js,isSome_iff_exists->Cy,isSome_none->Iw,map_eq_some_iff->Cb,map_some->Mj,none->Nf
open Option.some renaming injEq->Dp
open Prod.mk renaming injEq->Ll
open UInt8 renaming ofNat->Dt
namespace Go.AW
open Go.RowKit
section
variable {P:Program} {E:Env} {M:Imm} {ob:Hs} {ac:au} {w:World} {base:Nat}
def aP{s:Sem Value}{v:aa}{u:Value}(h:s.run P w= .ok u w)(a:Rep M ob u v):PS0 P M ob w s ac base (.val v):=⟨rfl,u,h,a⟩
def aIA{b o:Nat}(l:ax)(h:∀ (i:Nat) c,l[i]? =some c->∃ u,w.cell? ⟨b,o+i,none⟩=some u/\Rep M ob u c):
  ∃ vs:ba,vs.length=l.length/\(∀ (j:Nat) u,vs[j]? =some u->w.cell? ⟨b,o+j,none⟩=some u)/\∀ (i:Nat) v a,vs[i]? =some v->l[i]? =some a->Rep M ob v a:=by
 refine ⟨(Dr l.length).map λ q=>(w.cell? ⟨b,o+q,none⟩).getD undef,by simp,λ j u g=>?_,λ i v a m e=>?_⟩
 .simp only [Bh] at g;by_cases f:j<l.length
  .obtain ⟨k,d,_⟩:=h j _ (Aa f);simp_all
  grind
 .have f:i<l.length:=(Ac.1 e).1;obtain ⟨k,d,n⟩:=h i a e;simp_all
def zI{t:Nat}{a:TI}(k:uT P t a.agg a.size a.kind)(hs:(P.info? t).map (·.size)=some a.size){b o:Nat}{vs:ba}(hl:vs.length=a.size)
  (f:∀ (j:Nat) u,vs[j]? =some u->w.cell? ⟨b,o+j,none⟩=some u) (u:Value) (i:a.agg=true->u= .agg vs.toArray) (e:a.agg=false->vs=[u]):
  (loadVar t ⟨b,o,none⟩).run P w= .ok u w:=by
 obtain ⟨h1,h⟩:=k.isAgg;unfold loadVar;simp only [Bi,xL h1,Ap,h];cases g:a.agg with
 | true=>
  have c:=run_loadCells_list (P:=P) w ⟨b,o,none⟩ vs (λ j v d=>by rw [aZ];exact f j v d);rw [hl] at c;simp only [if_true,Bi,af hs,Ap,c,Bu,i g]
 | false=>
  have d:=e g;have:=f 0 u (by rw [d];rfl);rw [Ff] at this;simp only [Cn,if_false,run_load,this]
def aGM{b:TI}{l:ax}{a:aa}(h:mk b l=some a):(b.agg=true/\a= .agg l)\/(b.agg=false/\l=[a]):=by
 unfold mk at h
 grind
def NG{t:Nat}{j:TI}(d:TIOK P t j){b o:Nat}{l:ax}{a:aa}(k:mk j l=some a)(hl:l.length=j.size)
  (h:∀ (i:Nat) c,l[i]? =some c->∃ u,w.cell? ⟨b,o+i,none⟩=some u/\Rep M ob u c):∃ u,(loadVar t ⟨b,o,none⟩).run P w= .ok u w/\Rep M ob u a:=by
 obtain ⟨vs,e,f,g⟩:=aIA l h;rcases aGM k with ⟨m,rfl⟩ | ⟨m,rfl⟩
 .exact ⟨.agg vs.toArray,zI d.kind d.size? (e.trans hl) f _ (λ_=>rfl) (λ h=>by grind),.agg vs l e g⟩
 .match vs,e with
  | [u],_=>exact ⟨u,zI d.kind d.size? o_ f u (λ h=>by grind) (λ_=>rfl),g 0 u a rfl rfl⟩
def VP{t:Nat}{d:TI}(e:TIOK P t d){b o off:Nat}{cs:ax}
  (h:∀ (i:Nat) c,cs[off+i]? =some c->∃ u,w.cell? ⟨b,o+i,none⟩=some u/\Rep M ob u c):PS0 P M ob w (Ma t (.pointer (some ⟨b,o,none⟩))) ac base (fin d (lW d.size (kP off cs))):=by
 unfold fin;split
 .exact trivial
 .rename_i l hl;split
  .exact trivial
  .rename_i a f;obtain ⟨h1,k⟩:=jE hl;obtain ⟨u,m,j⟩:=NG e f h1 (b:=b) (o:=o) (M:=M) (ob:=ob) (w:=w) λ i c g=>by have:=k i c g;rw [lY,Bo] at this;exact h i c this
   refine aP (u:=u) ?_ j;unfold Ma Ii
   grind
def dM.cell{v:Value}{f:Nat}{e:TypeId}{xs:ax}(h:dM M w v f e xs){b:Nat}{n c:Nat}(g:v= .slice (some ⟨b,0,none⟩) n c){i j:Nat}{x a:aa}(d:xs[i]? =some x)(o:x.cells[j]? =some a):
  ∃ u,w.cell? ⟨b,i*f+j,none⟩=some u/\Rep M [] u a:=by
 obtain ⟨cv,h1,_,h3,l,_⟩:=h;obtain ⟨u,m,k⟩:=l _ a (HW d o (h3 x (Av d)));exact ⟨u,fH h1 (by rw [g];rfl) m,k⟩
def bZ{k:Nat}{x:ab}(h:aB ac k=x)(a:x≠ .dead):ac[k]? =some x:=bD h a
def WH(hE:ae E)(hm:Mem M ob ac w){t:Nat}{v:Value}{a:aa}(y:Rep M ob v a):PS0 E.P M ob w (Ma t v) ac base (WI E (aB ac) t a):=by
 unfold WI;split
 .exact trivial
 .rename_i B I;have h:=hE.tab t B I;split
  .rename_i cs;obtain ⟨b,o,rfl,J⟩:=y.ptr_inv;refine VP (off:=0) (cs:=cs) h λ i c l=>?_;rw [Bw] at l;obtain ⟨u,s,_,p⟩:=hm.imm b _ c (J i c l);exact ⟨u,s,p.pure⟩
  .rename_i k off;obtain ⟨b,rfl,m⟩:=y.ref_inv;split
   .rename_i cs d;obtain ⟨hs,h1,F,rfl,_,cv,G,r,_,f⟩:=hm.obj k _ (bZ d s_);rw [bT h1] at m;cases m;refine VP h λ i c l=>?_;have q:off+i<cv.length:=by rw [r];exact (Ac.1 l).1
    exact ⟨cv[off+i],by rw [cell_of_row w b _ _ _ (0,0) G];simp [q],f _ _ c (Aa q) l⟩
   .rename_i cs d;obtain ⟨hs,h1,F,rfl,f⟩:=hm.obj k _ (bZ d s_);rw [bT h1] at m;cases m;refine VP h λ i c l=>?_;obtain ⟨u,s,_,p⟩:=hm.imm b _ c (f _ c l);exact ⟨u,s,p.pure⟩
   .exact trivial
  .rename_i k g i K off;cases y with
   | eref k g i K off b n c m=>
   split
   .rename_i R L e xs d;refine sdc λ D=>?_;obtain ⟨A,z⟩:=aS D;obtain rfl:=aC A;obtain rfl:=aC z;intro x C;obtain ⟨hs,v,h1,Q,h3,H,N,_⟩:=hm.rowOf (bZ d s_);rw [H] at m;cases m;refine VP h λ j c O=>?_;obtain ⟨u,s,p⟩:=N.cell rfl C O;exact ⟨u,by grind,p.pure⟩
   .exact trivial
  .exact trivial
def LS{t:Nat}{a off:Nat}(h1:(P.info? t).map (·.size)=some a)(e:(P.underlying t).isSome=true)(vs:ba)(u:Value)
  (c:aO P t=true->u= .agg ((vs.drop off).take a).toArray) (d:aO P t=false->vs[off]? =some u):(part t vs.toArray off).run P w= .ok u w:=by
 unfold part;simp only [Bi,xL e,Ap];cases b:aO P t with
 | true=>
  simp only [if_true,Bi,af h1,Ap,Bu,c b];simp
 | false=>simp [d b]
def aBW{vs:ba}{cs:ax}(h:bX M ob vs cs){b off:Nat}{l:ax}(m:lW b (kP off cs)=some l):bX M ob ((vs.drop off).take b) l:=by
 obtain ⟨h1,d⟩:=jE m;rw [lY] at d;have hl:=h.1;have c:((vs.drop off).take b).length=l.length:=by
  have:b<=(cs.drop off).length:=by
   rcases Fi b with j | j
   .omega
   .have:=d (b-1) _ (Aa o_);have:=(Ac.1 this).1;omega
  simp at this;simp;omega
 refine ⟨c,λ i v a e k=>?_⟩;have f:=d i a k;rw [Bo] at f;have g:i<b:=by rw [<-h1];grind
 rw [Bj g,Bo] at e;exact h.2 _ v a e f
def CL{t:Nat}{g off:Nat}(h1:(P.info? t).map (·.size)=some g)(j:(P.underlying t).isSome=true){vs:ba}{cs:ax}(h:bX M ob vs cs)
  {l:ax} (m:lW g (kP off cs)=some l) {a:aa} (c:aO P t=true->a= .agg l) (b:aO P t=false->l=[a]):∃ u,(part t vs.toArray off).run P w= .ok u w/\Rep M ob u a:=by
 have hp:=aBW h m;cases k:aO P t with
 | true=>
  rw [c k];exact ⟨_,LS h1 j vs _ (λ_=>rfl) (λ e=>by grind),.agg _ l hp.1 hp.2⟩
 | false=>
  have d:=b k;subst d;obtain ⟨o,n⟩:=hp;have i:g=1:=by have:=(jE m).1;simpa using this.symm
  subst i;have p:((vs.drop off).take 1)[0]? =vs[off]?:=by rw [Bj o_,Bo,Ff]
  have f:0<((vs.drop off).take 1).length:=by rw [o];simp
  refine ⟨((vs.drop off).take 1)[0],LS h1 j vs _ (λ e=>by grind) (λ_=>?_),n 0 _ a (Aa f) rfl⟩;simp
def aDN(hE:ae E){s f:Nat}{v:Value}{a:aa}(m:Rep M ob v a):PS0 E.P M ob w (Ms s v f) ac base (RX E s a f):=by
 unfold RX;split
 .rename_i F _ _ _ y;have j:=hE.tab s _ y;obtain ⟨⟨b,B,C⟩,_⟩:=j.kind;split
  .exact trivial
  .rename_i off H z q;obtain ⟨g,h,n,D,A,G⟩:=C.get q;split
   .rename_i cs;split
    .exact trivial
    .rename_i l hl;obtain ⟨vs,rfl,c,o⟩:=m.agg_inv;have key:∀ x,(aO E.P g.type=true->x= .agg l)->(aO E.P g.type=false->l=[x])->PS0 E.P M ob w (Ms s (.agg vs.toArray) f) ac base (.val x):=by
      intro x h1 r;obtain ⟨u,k,i⟩:=CL (P:=E.P) (w:=w) (t:=g.type) D A ⟨c,o⟩ hl h1 r;refine aP (u:=u) ?_ i;have d:b[f]? =some g:=by simpa using h
      unfold Ms;simp only [Bi,run_underlying B,Ap,d,asAgg,Bu,n,k]
     cases p:z with
     | true=>exact key _ (λ_=>rfl) (λ e=>by grind)
     | false=>
      simp only [cond_false];split
      .exact key _ (λ e=>by grind) (λ_=>rfl)
      .exact trivial
   .exact trivial
 .exact trivial
def J5(hE:ae E){s f:Nat}{v:Value}{a:aa}(h:Rep M ob v a):PS0 E.P M ob w (Lm s v f) ac base (uO E s a f):=by
 unfold uO;split
 .rename_i D _ _ _ y;have l:=hE.tab s _ y;obtain ⟨⟨d,A,B⟩,_⟩:=l.kind;split
  .exact trivial
  .rename_i off q G x;obtain ⟨u,t,r,C,H,F⟩:=B.get x;have g:d[f]? =some u:=by simp_all
   cases hz:Aw q 0 with
   | true=>exact trivial
   | false=>
    simp only [cond_false];have k:¬ q=0:=λ e=>by simp_all
    have key:∀ i,(Lm s (.pointer (some i)) f).run E.P w= .ok (.pointer (some (i.add off))) w:=λ i=>by unfold Lm Ii fieldPlace;simp only [Bi,run_underlying A,Ap,g,Bu,af C,if_neg k,r]
    split
    .obtain ⟨b,o,rfl,z⟩:=h.ptr_inv;refine aP (key _) ?_;rw [aZ];exact .ptr b (o+off) _ λ j c p=>by rw [lY,Bo] at p;have:=z _ c p;grind
    .obtain ⟨b,rfl,m⟩:=h.ref_inv;refine aP (key _) ?_;rw [aZ];exact .ref _ _ b m
    .cases h with
     | eref _ _ _ _ _ b n c m=>
      refine aP (key _) ?_;rw [aZ,Ka];exact .eref _ _ _ _ _ b n c m
    .exact trivial
 .exact trivial
def dM.len{v:Value}{c:Nat}{e:TypeId}{xs:ax}(h:dM M w v c e xs):(v= .slice none 0 0/\xs=[])\/∃ b cap,v= .slice (some ⟨b,0,none⟩) xs.length cap/\v.ownBlock=some b/\xs.length<=cap/\cap<=maxLen:=by
 obtain ⟨cv,h1,_⟩:=h;rcases dJ h1 with ⟨a,h3⟩ | a
 .exact .inl ⟨a,Ay h3⟩
 .exact .inr a
def gG:(maxLen:Int)<=9223372036854775807:=by decide
def J4(hE:ae E)(hm:Mem M ob ac w){t:Nat}{v X:Value}{a i:aa}(y:Rep M ob v a)(J:Rep M ob X i):PS0 E.P M ob w (Ht t v X) ac base (uN E (aB ac) t a i):=by
 unfold uN;split
 .rename_i ti _ n hT;have A:=hE.tab t ti hT;obtain ⟨rfl,hri⟩:=J.int_inv;split
  .rename_i e l eb R;have d:=A.kind;rw [R] at d;obtain ⟨⟨H,i',z,s,hs,_⟩,_⟩:=d;have r:(E.P.info? e).map (·.size)=some l:=by grind
   have key:∀ (q:Addr) (len cap:Nat) (k:IntKind) (i:Nat),i<len->(Ht t (.slice (some q) len cap) (.int k (i:Int))).run E.P w= .ok (.pointer (some (q.add (i*l)))) w:=λ q len cap k i h1=>by unfold Ht;simp only [Bi,asIntOf,Bu,Ap,run_underlying H];rw [if_pos ⟨by omega,by omega⟩];simp only [Bi,af r,Ap,Bu,Bn]
   have slc:∀ {L:Value} {xs:ax} {tk:Tk},Rep M ob L (.slice l xs tk)->∀ (k:IntKind) (i:Nat) x,xs[i]? =some x->PS0 E.P M ob w (Ht t L (.int k (i:Int))) ac base (.val (.ptr x.cells)):=λ{L xs tk} hr k i x u=>by
    have B:i<xs.length:=(Ac.1 u).1;cases hr.untok.1 with
    | slnil=>simp at B
    | slemp=>simp at B
    | sl _ b o n1 cap _ _ hn Y O hz G _=>
     refine aP (key _ n1 cap _ i o_) ?_;rw [aZ];exact .ptr b _ _ λ j c hj=>G i j x c u hj
   split
   .rename_i F xs tt;refine sdc λ S=>?_;obtain rfl:=aC S;rintro i rfl x u;exact slc y _ i x u
   .rename_i k g;obtain ⟨a,n',c,rfl,f⟩:=y.row_inv;split
    .rename_i T F e' xs p;refine sdc λ D=>?_;obtain ⟨h,m⟩:=aS D;obtain rfl:=aC h;obtain rfl:=aC m;rintro i rfl s;obtain ⟨hs',v,h1,V,h3,W,h5,_⟩:=hm.rowOf (bZ p s_);rw [W] at f;cases f;rcases h5.len with ⟨U,rfl⟩ | ⟨b,cap,U,e2,_⟩
     .simp at s
     .cases U;refine aP (key _ _ _ _ i s) ?_;rw [aZ,Ly 0];exact .eref k _ i F 0 b _ _ W
    .rename_i T F xs p;refine sdc λ D=>?_;obtain ⟨h,m⟩:=aS D;obtain rfl:=aC h;obtain rfl:=aC m;rintro i rfl x u;obtain ⟨hs',h1,v,V,h3⟩:=hm.obj k _ (bZ p s_);rw [bT h1,V] at f;cases f;exact slc h3.pure _ i x u
    .exact trivial
   .rename_i k g lo len F;split
    .rename_i T sz' e' xs p;refine sdc λ D=>?_;obtain ⟨C,K⟩:=aS D;obtain ⟨h,m⟩:=aS C;obtain rfl:=aC h;obtain rfl:=aC m;obtain rfl:=aC K;rintro i rfl s;cases y with
     | sub _ _ _ _ _ b n' c f hl hn Q O=>
      refine aP (key _ _ _ _ i s) ?_;rw [aZ,<-Bv];exact .eref k _ (lo+i) F 0 b _ _ f
     | sub0=>simp at s
    .exact trivial
   .exact trivial
  .rename_i len l ea R;have d:=A.kind;rw [R] at d;obtain ⟨⟨e,H,r,_⟩,_⟩:=d;have key:∀ (q:Addr) k,0<=n->n.toNat<len->(Ht t (.pointer (some q)) (.int k n)).run E.P w= .ok (.pointer (some (q.add (n.toNat*l)))) w:=λ q k h0 h1=>by unfold Ht Ii;simp only [Bi,asIntOf,Bu,Ap,run_underlying H];rw [if_pos ⟨h0,by omega⟩];simp only [Bi,af r,Ap,Bu]
   split
   .rintro ⟨I,N⟩;obtain ⟨b,rfl,Z⟩:=y.ref_inv;refine aP (key _ _ I N) ?_;rw [aZ];exact .ref _ _ b Z
   .rintro ⟨I,N⟩;obtain ⟨b,o,rfl,G⟩:=y.ptr_inv;refine aP (key _ _ I N) ?_;rw [aZ];exact .ptr b _ _ λ j c Q=>by rw [lY,Bo] at Q;have:=G _ c Q;rw [Ka];exact this
   .exact trivial
  .exact trivial
 .exact trivial
def aDM(hE:ae E){t:Nat}{v s:Value}{a i:aa}(y:Rep M ob v a)(g:Rep M ob s i):PS0 E.P M ob w (Lj t v s) ac base (RW E t a i):=by
 unfold RW;split
 .rename_i l k n;obtain ⟨rfl,_⟩:=g.int_inv;obtain ⟨rfl,_⟩:=y.str_inv;split
  .rename_i _ _ _ m;obtain ⟨p,_⟩:=(hE.tab t _ m).kind;rintro i rfl c z;refine ⟨rfl,.int .u8 c.toNat,?_,vU c⟩;have j:i<l.length:=(Ac.1 z).1;unfold Lj;simp only [Bi,asIntOf,Bu,Ap,run_underlying p];rw [if_pos o_];have I:(⟨l.toArray⟩:ByteArray)[i]? =some c:=by
    have:i<(⟨l.toArray⟩:ByteArray).size:=by simpa [ByteArray.size] using j
    rw [getElem?_pos (⟨l.toArray⟩:ByteArray) i this];have h:=(Ac.1 z).2;rw [<-h];rfl
   simp_all
  .exact trivial
 .rename_i cs k n;obtain ⟨rfl,_⟩:=g.int_inv;split
  .rename_i len H G _ _ _ m;obtain ⟨⟨e,p,f,r,C⟩,_⟩:=(hE.tab t _ m).kind;split
   .rename_i l hl;obtain ⟨vs,rfl,b,B⟩:=y.agg_inv;have key:∀ x,0<=n->n<len->(aO E.P e=true->x= .agg l)->(aO E.P e=false->l=[x])->PS0 E.P M ob w (Lj t (.agg vs.toArray) (.int k n)) ac base (.val x):=by intro x D h1 F h3;obtain ⟨u,q,o⟩:=CL (P:=E.P) (w:=w) (t:=e) f r ⟨b,B⟩ hl F h3;refine aP (u:=u) ?_ o;unfold Lj;simp only [Bi,asIntOf,Bu,Ap,run_underlying p];rw [if_pos ⟨D,h1⟩];simp only [Bi,af f,Ap,q]
    cases A:G with
    | true=>exact λ d=>key _ d.1 d.2 (λ_=>rfl) (λ e=>by simp_all)
    | false=>
     simp only [cond_false];split
     .exact λ d=>key _ d.1 d.2 (λ e=>by simp_all) (λ_=>rfl)
     .exact trivial
   .exact trivial
  .exact trivial
 .exact trivial
def aLi(hE:ae E)(hm:Mem M ob ac w){t ty:TypeId}{v:Value}{a:aa}(k:Rep M ob v a):PS0 E.P M ob w (Fh #[t] ty #[v]) ac base (aLj E (aB ac) t a):=by
 unfold aLj;split
 .exact trivial
 .rename_i B C;have d:=(hE.tab t B C).kind
  have f:∀ n:Nat,(n:Int)<=9223372036854775807->inR .i64 (n:Int):=λ n h=>⟨by simp only [bW];omega,by simp only [aW];omega⟩
  have s:Rep M ob (.int .i64 (0:Nat)) (.int .i64 (0:Nat)):=.int _ _ (f 0 d_);have slc:∀ {y:Value} {o:Nat} {xs:ax} {tk:Tk} {e:TypeId},E.P.underlying t=some (.slice e)->Rep M ob y (.slice o xs tk)->PS0 E.P M ob w (Fh #[t] ty #[y]) ac base (.val (.int .i64 xs.length)):=λ{y o xs tk e} x hr=>by obtain ⟨a,c,rfl,_,_,r⟩:=hr.slice_inv;exact aP (u:=.int .i64 xs.length) (by simp [Fh,run_underlying x,goInt]) (.int _ _ (f _ r))
  split
  .rename_i l g;rw [g] at d;obtain ⟨rfl,h⟩:=k.str_inv;exact aP (u:=.int .i64 l.length) (by simp [Fh,run_underlying d.1,goInt,pJ]) (.int _ _ (f _ h))
  .rename_i g;rw [g] at d;exact slc d.1.1 k
  .rename_i g;rw [g] at d;cases k;exact aP (u:=.int .i64 (0:Nat)) (by simp [Fh,run_underlying d.1.1,goInt]) s
  .rename_i g;rw [g] at d;cases k with
   | csl _ _ _ _ b h j=>exact aP (u:=.int .i64 (Nat.cast _)) (by simp [Fh,run_underlying d.1.1,goInt]) (.int _ _ (f _ j))
  .rename_i g;rw [g] at d;cases k;exact λ j=>aP (u:=.int .i64 (Nat.cast _)) (by simp [Fh,run_underlying d.1.1,goInt]) (.int _ _ (f _ j))
  .rename_i g;rw [g] at d;obtain ⟨a,n,c,rfl,i⟩:=k.row_inv;split
   .rename_i F o e xs m;refine sdc λ q=>?_;obtain rfl:=aC q;obtain ⟨hs',v,h1,A,h3,r,D,_⟩:=hm.rowOf (bZ m s_);rw [r] at i;cases i;rcases D.len with ⟨p,rfl⟩ | ⟨b,cap,p,K,I,G⟩
    .cases p;exact aP (u:=.int .i64 (0:Nat)) (by simp [Fh,run_underlying d.1.1,goInt]) s
    .cases p;exact aP (u:=.int .i64 xs.length) (by simp [Fh,run_underlying d.1.1,goInt]) (.int _ _ (f _ (by have:=gG;omega)))
   .rename_i F o xs m;refine sdc λ q=>?_;obtain rfl:=aC q;obtain ⟨hs',h1,v,A,h3⟩:=hm.obj _ _ (bZ m s_);rw [bT h1,A] at i;cases i;exact slc d.1.1 (h3.pure (M:=M) (ob:=ob))
   .exact trivial
  .rename_i g;rw [g] at d;cases k with
   | sub _ _ _ _ _ b n c i hl z H j=>exact aP (u:=.int .i64 (Nat.cast _)) (by simp [Fh,run_underlying d.1.1,goInt]) (.int _ _ (f _ o_))
   | sub0 _ _ _ _ a J n c=>exact aP (u:=.int .i64 (0:Nat)) (by simp [Fh,run_underlying d.1.1,goInt]) s
  .rename_i _ g;rw [g] at d;obtain ⟨⟨e,x,_⟩,_⟩:=d;intro z;exact aP (u:=.int .i64 (Nat.cast _)) (by simp [Fh,run_underlying x,goInt]) (.int _ _ (f _ z))
  .exact trivial
end
def VM(P:Program)(M:Imm)(ob:Hs)(ac:au)(w:World)(s:Sem Value)(v:aa)(ao:au):Prop:=
 ∃ u w' M' ob',s.run P w= .ok u w'/\Ext M ob ac w M' ob' ao w'/\Mem M' ob' ao w'/\cI ob ac ob' ao/\Rep M' ob' u v
abbrev PM(P:Program)(M:Imm)(ob:Hs)(w:World)(s:Sem Value)(ac:au)(base:Nat)(r:OR):Prop:=Sd (VM P M ob ac w s) (λ_ _=>False) (λ_=>False) ac base r
section
variable {P:Program} {E:Env} {M:Imm} {ob:Hs} {ac:au} {w:World} {base:Nat}
def PM.of(hm:Mem M ob ac w){s:Sem Value}{r:OR}(h:PS0 P M ob w s ac base r):PM P M ob w s ac base r:=
 Sd.mono (λ v o ⟨h1,u,a,h3⟩=>⟨u,w,M,ob,a,h1▸Ext.refl _ _ _ _,h1▸hm,h1▸cI.refl _ _,h3⟩) (λ_ _ h=>h) (λ_ h=>h) h
def cA.pm{ρv:Operand->Value}{op:Op}{ty:TypeId}{r:OR}{s:Sem Value}
  (f:∀ d pos a g,execOp ρv ⟨d,op,ty,pos,a,g⟩=(s >>= λ v=>Pure.pure (.value v))) (h:PM P M ob w s ac base r):cA P ρv op ty M ob ac w base r:=
 Sd.mono (λ v o ⟨u,w',M',ob',i,h3,b,e,c⟩=>⟨u,w',M',ob',λ d pos a g=>.inl (by simp_all),h3,b,e,c⟩) (λ_ _ h=>h.elim) (λ_ h=>h.elim) h
def ES(M:Imm)(ob:Hs)(v:Option Value)(a:Option aa):Prop:=(v=none/\a=none)\/∃ u x,v=some u/\a=some x/\Rep M ob u x
def aEQ(v:Option Value)(q:Option Nat):Prop:=(v=none/\q=none)\/∃ (k:IntKind) (n:Nat),v=some (.int k n)/\q=some n
def rX{s:Sem Value}{a:Option Value}{l:Option aa}(h:ES M ob a l){f:Option Nat->OR}(k:∀ q,aEQ a q->PS0 P M ob w s ac base (f q)):PS0 P M ob w s ac base (bnd l f):=by
 rcases h with ⟨rfl,rfl⟩ | ⟨u,x,rfl,rfl,b⟩
 .exact k none (.inl ⟨rfl,rfl⟩)
 .cases x with
  | int c n=>
   obtain ⟨rfl,_⟩:=b.int_inv;rintro i rfl;exact k (some i) (.inr ⟨c,i,rfl,rfl⟩)
  | _=>exact trivial
def aEQ.none{v:Option Value}(h:aEQ v none):v=none:=by rcases h with ⟨h,_⟩ | ⟨_,_,_,h⟩;exact h;cases h
def aEQ.some{v:Option Value}{n:Nat}(h:aEQ v (some n)):∃ k,v=some (.int k n):=by rcases h with ⟨_,h⟩ | ⟨k,n,h1,h⟩;cases h;grind
def D1{t e:TypeId}(h:P.underlying t=some (.slice e)):P.underlying t=some (.slice (P.elem t))/\P.elem t=e:=by
 have:P.elem t=e:=by simp [Program.elem,h]
 grind
def P5{v:Value}{f:Nat}{xs:ax}(h:Rep M ob v (.slice f xs .no)):∃ a n c,v= .slice a n c/\xs.length=n/\n<=c/\∀ l d,l<=d->d<=n->
  Rep M ob (sliced a l d c f) (.slice f ((xs.take d).drop l) .no)/\(Rep M ob (sliced a l d d f) (.slice f ((xs.take d).drop l) .no)):=by
 cases h with
 | slnil f=>
  refine ⟨none,0,0,rfl,rfl,Bf _,λ l d h1 u=>?_⟩;have:d=0:=o_;subst this;have:l=0:=o_;subst this;exact ⟨.slnil f .no trivial,.slnil f .no trivial⟩
 | slemp f _ a cap=>
  refine ⟨some a,0,cap,rfl,rfl,Bt _,λ l d h1 u=>?_⟩;have:d=0:=o_;subst this;have:l=0:=o_;subst this;have hs:∀ m,∃ b c,sliced (some a) 0 0 m f= .slice (some b) 0 c:=λ m=>by
   unfold sliced
   grind
  obtain ⟨F,G,y⟩:=hs cap;obtain ⟨D,C,B⟩:=hs 0;rw [y,B];exact ⟨.slemp _ _ _ _ trivial,.slemp _ _ _ _ trivial⟩
 | sl f b o n c xs _ z t w hz A=>
  refine ⟨_,n,c,rfl,z,t,λ l d h1 u=>?_⟩;have r:∀ m,d<=m->Rep M ob (sliced (some ⟨b,o,none⟩) l d m f) (.slice f ((xs.take d).drop l) .no):=by
   intro m hm;have g:((xs.take d).drop l).length=d-l:=by simp;omega
   have p:∀ x∈(xs.take d).drop l,x.cells.length=f:=λ x k=>hz x (Cu (Es k));have s:∀ (i:Nat) x,((xs.take d).drop l)[i]? =some x->xs[l+i]? =some x:=λ i x k=>by
    rw [Bo,Fz] at k;split at k
    .exact k
    .cases k
   by_cases q:m=l
   .have e:sliced (some ⟨b,o,none⟩) l d m f= .slice (some ⟨b,o,none⟩) (d-l) (m-l):=by simp [sliced,q]
    rw [e];refine .sl f b o _ _ _ _ g o_ o_ p (λ i j x c k t=>?_) trivial;have:i<d-l:=by rw [<-g];exact (Ac.1 k).1
    omega
   .have e:sliced (some ⟨b,o,none⟩) l d m f= .slice (some ⟨b,o+l*f,none⟩) (d-l) (m-l):=by simp [sliced,q,aZ]
    rw [e];refine .sl f b _ _ _ _ _ g o_ o_ p (λ i j x c k t=>?_) trivial;have:=A _ j x c (s i x k) t;rwa [Bv,<-Ka] at this
  exact ⟨r c o_,r d (Bf _)⟩
def tT{k g x y d:Nat}{a:Option Addr}{n c:Nat}(j:a=none/\n=0/\c=0\/∃ b,a=some ⟨b,0,none⟩)(h:at' ob k g=some (.slice a n c))(l:n<=c)(m:x<=y)(o:y<=n)(i:(n:Int)<=9223372036854775807):
  Rep M ob (sliced a x y c d) (.sub k g x (y-x) d):=by
 by_cases f:c=x
 .have e:sliced a x y c d= .slice a 0 0:=by have:y-x=0:=o_;simp [sliced,f,this]
  rw [e];have:y-x=0:=o_;rw [this];exact .sub0 k g x d a a n c h o_ o_
 .rcases j with ⟨rfl,rfl,rfl⟩ | ⟨b,rfl⟩
  .omega
  .have e:sliced (some ⟨b,0,none⟩) x y c d= .slice (some ⟨b,x*d,none⟩) (y-x) (c-x):=by simp [sliced,f,aZ]
   rw [e];exact .sub k g x (y-x) d b n c h o_ o_ l i
def oY{k g lo x y a b n c:Nat}(f:at' ob k g=some (.slice (some ⟨b,0,none⟩) n c))(hl:lo<c)(j:n<=c)(l:x<=y)(m:lo+y<=n)(h:(n:Int)<=9223372036854775807):
  Rep M ob (sliced (some ⟨b,lo*a,none⟩) x y (c-lo) a) (.sub k g (lo+x) (y-x) a):=by
 by_cases d:c-lo=x
 .have i:y-x=0:=o_;have e:sliced (some ⟨b,lo*a,none⟩) x y (c-lo) a= .slice (some ⟨b,lo*a,none⟩) 0 0:=by simp [sliced,d,i]
  rw [e,i];exact .sub0 k g (lo+x) a _ _ n c f o_ o_
 .have e:sliced (some ⟨b,lo*a,none⟩) x y (c-lo) a= .slice (some ⟨b,(lo+x)*a,none⟩) (y-x) (c-(lo+x)):=by simp [sliced,d,aZ,Bv];omega
  rw [e];exact .sub k g (lo+x) (y-x) a b n c f o_ o_ j h
def aDD(hE:ae E)(hm:Mem M ob ac w){t:TypeId}{v:Value}{a:aa}(Z:Rep M ob v a){vlo vhi vmx:Option Value}{lo hi mx:Option aa}
  (N:ES M ob vlo lo) (L:ES M ob vhi hi) (hmx:ES M ob vmx mx):PS0 E.P M ob w (Gp t v vlo vhi vmx) ac base (RM E (aB ac) t a lo hi mx):=by
 have H:mx=none->vmx=none:=λ e=>by
  rcases hmx with ⟨h,_⟩ | ⟨_,_,_,h,_⟩
  .exact h
  grind
 have U:lo=none->vlo=none:=λ e=>by
  rcases N with ⟨h,_⟩ | ⟨_,_,_,h,_⟩
  .exact h
  grind
 have W:hi=none->vhi=none:=λ e=>by
  rcases L with ⟨h,_⟩ | ⟨_,_,_,h,_⟩
  .exact h
  grind
 unfold RM;split
 .exact trivial
 .rename_i ti hT;have hti:=hE.tab t ti hT;have o:=hti.kind;split
  .rename_i l;obtain ⟨rfl,hlm⟩:=Z.str_inv;split
   .have R:=‹ti.kind=TK.str›;rw [R] at o;obtain rfl:=H rfl;have G:=o.1;have hb:∀ i j,(⟨l.toArray⟩:ByteArray).extract i j=⟨((l.take j).drop i).toArray⟩:=QX l;have hs:(⟨l.toArray⟩:ByteArray).size=l.length:=pJ l;refine rX N λ D r=>rX L λ q f=>?_;cases D with
    | none=>
     obtain rfl:=r.none;cases q with
     | none=>
      obtain rfl:=f.none;refine aP (u:=.string ⟨l.toArray⟩) ?_ (.str _ hlm);rw [run_sliceAt_string w t _ _ _ _ G];unfold Lk Gf;simp only [Bi,run_underlying G,Ap,Iw,Cn,if_false,Bu,hb,hs];simp
     | some y=>
      obtain ⟨k,rfl⟩:=f.some;intro I;refine aP (u:=.string ⟨(l.take y).toArray⟩) ?_ (.str _ q_);rw [run_sliceAt_string w t _ _ _ _ G];unfold Lk Gf Jt;simp only [Bi,run_underlying G,Ap,Iw,Cn,if_false,Bu,hb,hs,asIntOf];simp_all
    | some x=>
     obtain ⟨k,rfl⟩:=r.some;cases q with
     | none=>
      obtain rfl:=f.none;intro I;refine aP (u:=.string ⟨(l.drop x).toArray⟩) ?_ (.str _ q_);rw [run_sliceAt_string w t _ _ _ _ G];unfold Lk Gf Jt;simp only [Bi,run_underlying G,Ap,Iw,Cn,if_false,Bu,hb,hs,asIntOf];simp_all
     | some y=>
      obtain ⟨K,rfl⟩:=f.some;rintro ⟨I,c2⟩;refine aP (u:=.string ⟨((l.take y).drop x).toArray⟩) ?_ (.str _ q_);rw [run_sliceAt_string w t _ _ _ _ G];unfold Lk Gf Jt;simp only [Bi,run_underlying G,Ap,Iw,Cn,if_false,Bu,hb,hs,asIntOf];rw [if_pos ⟨by omega,by omega⟩];simp;omega
   .exact trivial
  .rename_i A xs tt;split
   .rename_i e esz eb R;rw [R] at o;obtain ⟨⟨G,ie,z,hi',hs,_⟩,_⟩:=o;refine sdc λ hg=>?_;obtain rfl:=aC hg;obtain ⟨d,hel⟩:=D1 G;have F:(E.P.info? (E.P.elem t)).map (·.size)=some A:=by grind
    obtain ⟨B,n,cap,rfl,O,J,key⟩:=P5 Z.untok.1;have p:=λ u:World=>af (P:=E.P) F u;refine rX N λ D r=>rX L λ q f=>rX hmx λ qmx bmx=>?_;cases qmx with
    | none=>
     obtain rfl:=bmx.none;cases D with
     | none=>
      obtain rfl:=r.none;cases q with
      | none=>
       obtain rfl:=f.none;refine aP (u:=sliced B 0 n cap A) ?_ ?_
       .rw [run_sliceAt_slice w t _ _ _ _ d,run_slice_all w t B n cap d,p];rfl
       .have:=(key 0 n o_ (Bf _)).1;rw [<-O,Fx,Cg] at this;rw [<-O];exact this
      | some y=>
       obtain ⟨k,rfl⟩:=f.some;intro I;refine aP (u:=sliced B 0 y cap A) ?_ ?_
       .rw [run_sliceAt_slice w t _ _ _ _ d,run_slice_h w t B n cap d k y o_ o_,p];rfl
       .have:=(key 0 y o_ o_).1;rw [Cg] at this;exact this
     | some x=>
      obtain ⟨k,rfl⟩:=r.some;cases q with
      | none=>
       obtain rfl:=f.none;intro I;refine aP (u:=sliced B x n cap A) ?_ ?_
       .rw [run_sliceAt_slice w t _ _ _ _ d,run_slice_l w t B n cap d k x o_ o_,p];rfl
       .have:=(key x n o_ (Bf _)).1;rw [<-O,Fx] at this;rw [<-O];exact this
      | some y=>
       obtain ⟨K,rfl⟩:=f.some;rintro ⟨I,c2⟩;refine aP (u:=sliced B x y cap A) ?_ ?_
       .rw [run_sliceAt_slice w t _ _ _ _ d,run_slice_lh w t B n cap d k K x y o_ o_ o_,p];rfl
       .exact (key x y o_ o_).1
    | some m=>
     obtain ⟨km,rfl⟩:=bmx.some;cases D with
     | some x=>cases q<;>exact trivial
     | none=>
      obtain rfl:=r.none;cases q with
      | none=>exact trivial
      | some y=>
       obtain ⟨k,rfl⟩:=f.some;rintro ⟨I,rfl⟩;have hk2:=(key 0 m o_ o_).2;rw [Cg] at hk2;refine aP (u:=sliced B 0 m m A) ?_ ?_
       .rw [run_sliceAt_slice w t _ _ _ _ d,run_slice_hm w t B n cap d k km m m o_ (Dd _) o_,p];rfl
       .exact hk2.tok ⟨_,m,rfl⟩
   .exact trivial
  .rename_i k g;split
   .rename_i g' A e' xs _ hog;have R:=‹ti.kind=TK.slc _ _ _›;rw [R] at o;refine sdc λ hg=>?_;obtain ⟨hg1,hg2⟩:=aS hg;obtain rfl:=aC hg1;obtain rfl:=aC hg2;obtain ⟨⟨G,ie,z,hi',hs,_⟩,_⟩:=o;obtain ⟨d,hel⟩:=D1 G;have F:(E.P.info? (E.P.elem t)).map (·.size)=some A:=by simp_all
    have p:=λ u:World=>af (P:=E.P) F u;obtain rfl:=H rfl;obtain ⟨B,n,cap,rfl,s⟩:=Z.row_inv;obtain ⟨hs',v,h1,h2,h3,h4,h5,_⟩:=hm.rowOf (bZ hog s_);rw [s] at h4;cases h4;have O:n=xs.length/\n<=cap/\(n:Int)<=9223372036854775807/\(B=none/\n=0/\cap=0\/∃ b,B=some ⟨b,0,none⟩):=by
     rcases h5.len with ⟨e1,rfl⟩ | ⟨b,c,e1,e2,e3,e4⟩
     .cases e1;simp
     .cases e1;exact ⟨rfl,e3,by have:=gG;omega,.inr ⟨b,rfl⟩⟩
    obtain ⟨O,J,C,T⟩:=O;refine rX N λ D r=>rX L λ q f=>?_;cases D with
    | none=>
     obtain rfl:=r.none;cases q with
     | none=>
      obtain rfl:=f.none;refine aP (u:=.slice B n cap) ?_ Z;rw [run_sliceAt_slice w t _ _ _ _ d,run_slice_all w t B n cap d,p];show Result.ok (sliced B 0 n cap A) w=_;congr 1;rcases T with ⟨rfl,rfl,rfl⟩ | ⟨b,rfl⟩
      .rfl
      .simp [sliced,aZ]
     | some y=>
      obtain ⟨K,rfl⟩:=f.some;intro I;refine aP (u:=sliced B 0 y cap A) ?_ (tT T s J (Bt _) o_ C);rw [run_sliceAt_slice w t _ _ _ _ d,run_slice_h w t B n cap d K y o_ o_,p];rfl
    | some x=>
     obtain ⟨V,rfl⟩:=r.some;cases q with
     | none=>
      obtain rfl:=f.none;intro I;refine aP (u:=sliced B x n cap A) ?_ ?_
      .rw [run_sliceAt_slice w t _ _ _ _ d,run_slice_l w t B n cap d V x o_ o_,p];rfl
      .rw [<-O];exact tT T s J o_ o_ C
     | some y=>
      obtain ⟨K,rfl⟩:=f.some;rintro ⟨I,c2⟩;refine aP (u:=sliced B x y cap A) ?_ (tT T s J o_ o_ C);rw [run_sliceAt_slice w t _ _ _ _ d,run_slice_lh w t B n cap d V K x y o_ o_ o_,p];rfl
   .exact trivial
  .rename_i k g S len A;split
   .rename_i g' sz' e' xs _ hog;have R:=‹ti.kind=TK.slc _ _ _›;rw [R] at o;refine sdc λ hg=>?_;obtain ⟨hg12,hg3⟩:=aS hg;obtain ⟨hg1,hg2⟩:=aS hg12;obtain rfl:=aC hg1;obtain rfl:=aC hg2;obtain rfl:=aC hg3;obtain ⟨⟨G,ie,z,hi',hs,_⟩,_⟩:=o;obtain ⟨d,hel⟩:=D1 G;have F:(E.P.info? (E.P.elem t)).map (·.size)=some A:=by rw [hel];simp [hi',hs]
    have p:=λ u:World=>af (P:=E.P) F u;obtain rfl:=H rfl;obtain ⟨hs',v,h1,h2,h3,h4,h5,_⟩:=hm.rowOf (bZ hog s_);have nl:∀ {n:Nat} {B:Option Addr} {cap:Nat},at' ob k g=some (.slice B n cap)->n=xs.length/\n<=cap:=λ{n B cap} s=>by
     rw [s] at h4;cases h4;rcases h5.len with ⟨e1,rfl⟩ | ⟨b,c,e1,e2,e3,e4⟩
     .cases e1;simp
     .cases e1;omega
    cases Z with
    | sub _ _ _ _ _ b n c s hl O Q C=>
     obtain ⟨hnx,_⟩:=nl s;refine rX N λ D r=>rX L λ q f=>?_;cases D with
     | none=>
      obtain rfl:=r.none;cases q with
      | none=>
       obtain rfl:=f.none;refine aP (u:=sliced (some ⟨b,S*A,none⟩) 0 len (c-S) A) ?_ (oY s hl Q (Bt _) O C);rw [run_sliceAt_slice w t _ _ _ _ d,run_slice_all w t _ len _ d,p];rfl
      | some y=>
       obtain ⟨K,rfl⟩:=f.some;intro I;refine aP (u:=sliced (some ⟨b,S*A,none⟩) 0 y (c-S) A) ?_ (oY s hl Q (Bt _) o_ C);rw [run_sliceAt_slice w t _ _ _ _ d,run_slice_h w t _ len _ d K y o_ o_,p];rfl
     | some x=>
      obtain ⟨V,rfl⟩:=r.some;cases q with
      | none=>
       obtain rfl:=f.none;intro I;refine aP (u:=sliced (some ⟨b,S*A,none⟩) x len (c-S) A) ?_ (oY s hl Q I O C);rw [run_sliceAt_slice w t _ _ _ _ d,run_slice_l w t _ len _ d V x o_ o_,p];rfl
      | some y=>
       obtain ⟨K,rfl⟩:=f.some;rintro ⟨I,c2⟩;refine aP (u:=sliced (some ⟨b,S*A,none⟩) x y (c-S) A) ?_ (oY s hl Q I o_ C);rw [run_sliceAt_slice w t _ _ _ _ d,run_slice_lh w t _ len _ d V K x y o_ o_ o_,p];rfl
    | sub0 _ _ _ _ a Y n c s hl Q=>
     obtain ⟨hnx,_⟩:=nl s;have e0:sliced Y 0 0 0 A= .slice Y 0 0:=by rfl
     have r0:Rep M ob (sliced Y 0 0 0 A) (.sub k g S 0 A):=by rw [e0];exact .sub0 _ _ _ _ a Y n c s hl Q
     refine rX N λ D r=>rX L λ q f=>?_;cases D with
     | none=>
      obtain rfl:=r.none;cases q with
      | none=>
       obtain rfl:=f.none;refine aP (u:=sliced Y 0 0 0 A) ?_ r0;rw [run_sliceAt_slice w t _ _ _ _ d,run_slice_all w t _ 0 _ d,p];rfl
      | some y=>
       obtain ⟨K,rfl⟩:=f.some;intro I;obtain rfl:y=0:=o_;refine aP (u:=sliced Y 0 0 0 A) ?_ r0;rw [run_sliceAt_slice w t _ _ _ _ d,run_slice_h w t _ 0 _ d K ((0:Nat):Int) o_ o_,p];rfl
     | some x=>
      obtain ⟨V,rfl⟩:=r.some;cases q with
      | none=>
       obtain rfl:=f.none;intro I;obtain rfl:x=0:=o_;refine aP (u:=sliced Y 0 0 0 A) ?_ r0;rw [run_sliceAt_slice w t _ _ _ _ d,run_slice_l w t _ 0 _ d V ((0:Nat):Int) o_ o_,p];rfl
      | some y=>
       obtain ⟨K,rfl⟩:=f.some;rintro ⟨I,c2⟩;obtain rfl:y=0:=o_;obtain rfl:x=0:=o_;refine aP (u:=sliced Y 0 0 0 A) ?_ r0;rw [run_sliceAt_slice w t _ _ _ _ d,run_slice_lh w t _ 0 _ d V K ((0:Nat):Int) ((0:Nat):Int) o_ o_ o_,p];rfl
   .exact trivial
  .rename_i k off;split
   .rename_i len esz ea R;rw [R] at o;obtain ⟨⟨e,G,F,_⟩,_⟩:=o;obtain rfl:=H rfl;obtain rfl:=U rfl;obtain rfl:=W rfl;intro C;obtain ⟨b,rfl,hb⟩:=Z.ref_inv;refine aP (u:=.slice (some ⟨b,off,none⟩) len len) ?_ (.csl _ _ _ _ b hb C);unfold Gp Ii Gf;simp only [Bi,run_underlying G,Ap,Bu,af F];simp [aZ]
   .exact trivial
  .rename_i cs;split
   .rename_i len R;rw [R] at o;obtain ⟨⟨e,G,F,_⟩,_⟩:=o;obtain rfl:=H rfl;obtain rfl:=U rfl;obtain rfl:=W rfl;split
    .rename_i l hl;refine sdc λ X=>?_;intro C;obtain ⟨t1,t2⟩:=jE hl;obtain ⟨b,o',rfl,hM⟩:=Z.ptr_inv;refine aP (u:=.slice (some ⟨b,o',none⟩) len len) ?_ (.sl 1 b o' len len l _ t1 (Bf _) C (λ x hx=>?_) (λ i j x c hx Q=>?_) ⟨_,len,rfl⟩)
     .unfold Gp Ii Gf;simp only [Bi,run_underlying G,Ap,Bu,af F];simp [aZ]
     .obtain ⟨i,hi⟩:=Cq hx;rw [oA (lL X i x hi)];rfl
     .rw [oA (lL X i x hx)] at Q;cases j with
      | succ j=>simp at Q
      | zero=>
       simp at Q;subst Q;have:=hM i x (t2 i x hx)
       grind
    .exact trivial
   .exact trivial
  .exact trivial
end
section
variable {P:Program} {E:Env} {M:Imm} {ob:Hs} {ac:au} {w:World} {base:Nat}
def aAL{α:Type}(l:List α):(l.drop 0).take l.length=l:=by simp
def aAY(hm:Mem M ob ac w){x:Value}{a:aa}(t:Rep M ob x a){u:Nat}{xs:ax}(h:aFx (aB ac) a=some (u,xs))(hs:0<u){J R:TypeId}(r:P.underlying J=some (.slice R)):
  SrcA P M w u J x xs/\∃ i c,x= .slice i xs.length c/\(i=none->xs=[]/\c=0):=by
 unfold aFx at h;split at h
 .cases h;obtain ⟨i,c,e,B,_⟩:=t.slice_inv;exact ⟨SrcA.ofSlice hm hs r t,i,c,e,B⟩
 .rename_i k g;obtain ⟨i,n,c,rfl,d⟩:=t.row_inv;split at h
  .rename_i K p e xs' f;obtain ⟨o,h⟩:=eT h;cases h;obtain rfl:=aC o;have m:=bZ f s_;obtain ⟨hs',v,h1,D,h3,j,z,_⟩:=hm.rowOf m;rw [d] at j;cases j;have hl:n=xs.length/\(i=none->xs=[]/\c=0):=by
    rcases z.len with ⟨l,rfl⟩ | ⟨b,c,l,V,U,T⟩
    .simp_all
    grind
   obtain ⟨rfl,F⟩:=hl;have:=SrcA.ofRow hm hs m r d (lo:=0) (len:=xs.length) o_ (x:=.slice i xs.length c) (λ b I y e _=>by cases e;simp) (λ h=>⟨i,c,by rw [h]⟩);rw [aAL] at this;exact ⟨this,i,c,rfl,F⟩
  .rename_i K p xs' f;obtain ⟨o,h⟩:=eT h;cases h;obtain rfl:=aC o;obtain ⟨hs',h1,v,D,h3⟩:=hm.obj _ _ (bZ f s_);rw [bT h1,D] at d;cases d;have q:=h3.pure (M:=M) (ob:=ob);obtain ⟨H,y,e,B,_⟩:=q.slice_inv;exact ⟨SrcA.ofSlice hm hs r q,H,y,e,B⟩
  .cases h
 .rename_i k g lo len u;split at h
  .rename_i K p e xs' f;obtain ⟨o,h⟩:=eT h;cases h;obtain ⟨G,A⟩:=aS o;obtain rfl:=aC G;obtain rfl:=aC A;have m:=bZ f s_;obtain ⟨hs',v,h1,D,h3,j,z,_⟩:=hm.rowOf m;cases t with
   | sub _ _ _ _ _ b n c d hl S O L=>
    rw [d] at j;cases j;have C:n=xs'.length:=by
     rcases z.len with ⟨l,_⟩ | ⟨b,c,l,_⟩
     .cases l
     grind
    have s:((xs'.drop lo).take len).length=len:=by simp;omega
    refine ⟨SrcA.ofRow hm hs m r d (lo:=lo) (len:=len) o_ (λ N I y e _=>by cases e;simp) (λ h=>⟨_,_,by rw [h]⟩),_,_,by rw [s],λ e=>by cases e⟩
   | sub0 _ _ _ _ i Q n c d hl O=>
    rw [d] at j;cases j;have C:n=xs'.length:=by
     rcases z.len with ⟨l,rfl⟩ | ⟨b,c,l,_⟩
     .simp_all
     grind
    refine ⟨SrcA.ofRow hm hs m r d (lo:=lo) (len:=0) o_ (λ N I y e h=>absurd rfl h) (λ_=>⟨_,_,rfl⟩),Q,0,by simp,λ_=>⟨by simp,rfl⟩⟩
  .cases h
 .cases h
def P4(hE:ae E)(hm:Mem M ob ac w){x:Value}{a:aa}(f:Rep M ob x a){b e:Nat}{ys:ax}(h:aAZ E (aB ac) b e a=some ys)(hs:0<b):SrcA E.P M w b e x ys:=by
 unfold aAZ at h;split at h
 .rename_i l;split at h
  .rename_i _ _ _ d;obtain ⟨g,h⟩:=eT h;cases h;obtain rfl:=aC g;obtain ⟨rfl,_⟩:=f.str_inv;exact SrcA.ofStr (hE.tab e _ d).kind.1 l
  .cases h
 .split at h
  .rename_i _ _ _ _ _ _ d;cases h;cases f;exact ⟨⟨[],Src.ofNil w (hE.tab e _ d).kind.1.1 0,λ q c j=>by simp [cellAt] at j⟩,λ y i=>by simp at i,λ m hm=>CG hm⟩
  .cases h
 .split at h
  .rename_i _ _ _ _ _ _ n xs d k;obtain ⟨g,h⟩:=eT h;cases h;obtain rfl:=aC g;exact (aAY hm f k hs (hE.tab e _ d).kind.1.1).1
  .cases h
def aBb{s d e:TypeId}{a:Option Addr}{l:ay}{c:Nat}(x:P.underlying s=some (.slice e))(v:P.underlying e=some (.int .u8))(hd:P.underlying d=some .string)
  (q:a=none->l=[]/\c=0) (hs:SrcA P M w 1 s (.slice a l.length c) (l.map ub)):(convert s d (.slice a l.length c)).run P w= .ok (.string ⟨l.toArray⟩) w:=by
 rw [run_convert_bytes_string w s d e a l.length c x v hd];cases a with
 | none=>
  obtain ⟨rfl,rfl⟩:=q rfl;rfl
 | some a=>
  obtain ⟨⟨news,b,p⟩,_⟩:=hs;have o:news.length=l.length:=by rw [b.newsLen];simp
  have f:news=(l.map λ c=>(c.toNat:Int)).map (Dz .u8):=by
   refine Ea λ j=>?_;by_cases m:j<l.length
   .obtain ⟨u,i,k⟩:=p j (ub l[j]) (by rw [yS,Aa m];rfl);rw [i,k.int_inv.1];simp [Aa m]
   .rw [Bg o_,Bg q_]
  have h:(loadCells a l.length).run P w= .ok news.toArray w:=by have:=b.cells;rw [Cf] at this;have e:Ch 1 l.length (.slice (some a) l.length c)=loadCells a (l.length*1):=rfl;rw [e,Nat.mul_one] at this;exact this
  rw [f] at h;rw [run_bytesToString w a l.length c _ h];congr 2;have g:∀ (l:ay) (r:ByteArray),(l.map λ c=>(c.toNat:Int)).foldl (λ r n=>r.push (Dt n.toNat)) r=⟨r.data++l.toArray⟩:=by
   intro l;induction l with
   | nil=>simp
   | cons c l t=>
    intro r;simp only [Bl,Ba,t];simp
  rw [g];simp
def AT(w:World)(e:TypeId)(s:ByteArray):(Lib.bytesWorld w e s).os=w.os/\(Lib.bytesWorld w e s).tape=w.tape/\(Lib.bytesWorld w e s).output=w.output:=⟨rfl,rfl,rfl⟩
def aH1(hE:ae E)(hm:Mem M ob ac w){s d:TypeId}{v:Value}{a:aa}(C:Rep M ob v a):PM E.P M ob w (convert s d v) ac base (aDQ E (aB ac) s d a):=by
 unfold aDQ;split
 .rename_i ts L hs hd;have f:=(hE.tab s ts hs).kind;have g:=(hE.tab d L hd).kind;obtain ⟨t,_⟩:=f.isAgg;obtain ⟨ds,K⟩:=Cy.1 t;split
  .rename_i k Y n A;rw [A] at g;obtain ⟨rfl,_⟩:=C.int_inv;have key:(convert s d (.int Y n)).run E.P w= .ok (.int k (k.wrap n)) w:=by simp [convert,run_underlying K,run_underlying g.1,Conv.intToInt]
   refine PM.of hm ⟨λ hp=>⟨rfl,_,by rw [key,jQ hp],.int _ _ hp⟩,rfl,_,key,.int _ _ (jY _ _)⟩
  .rename_i l A;rw [A] at g;obtain ⟨rfl,hl⟩:=C.str_inv;split
   .rename_i m;rw [m] at f;refine PM.of hm (aP (u:=.string ⟨l.toArray⟩) ?_ (.str _ hl));simp [convert,run_underlying f.1,run_underlying g.1]
   .exact trivial
  .rename_i e Q l A;rw [A] at g;obtain ⟨⟨J,_⟩,_⟩:=g;obtain ⟨rfl,hl⟩:=C.str_inv;split
   .rename_i _ _ _ m I;rw [m] at f;have z:=(hE.tab e _ I).kind.1;have p:=Lib.run_convert_string_bytes (P:=E.P) w s d e ⟨l.toArray⟩ f.1 J z;rw [pJ] at p;obtain ⟨R,q2,O⟩:=AT w e ⟨l.toArray⟩;have key:∀ (j:Nat) c,l[j]? =some c->(Lib.bytesWorld w e ⟨l.toArray⟩).cell? ⟨w.heap.size,j,none⟩=some (.int .u8 c.toNat):=λ j c N=>by have H:j<l.length:=(Ac.1 N).1;rw [Lib.bytesWorld_cell w e ⟨l.toArray⟩ j (by rw [pJ];exact H)];simp [List.getD,N]
    obtain ⟨T,X⟩:=hm.more (M':=λ b o y=>M b o y\/(b=w.heap.size/\∃ c,l[o]? =some c/\y=ub c)) (w':=Lib.bytesWorld w e ⟨l.toArray⟩) (λ_ _ _ h=>.inl h) (λ b o y r=>by
      rcases r with r | ⟨rfl,_⟩
      .exact .inl r
      omega) (λ b o y r=>by
      rcases r with r | ⟨rfl,c,B,rfl⟩
      .obtain ⟨v,h1,S,h3⟩:=hm.imm b o y r;exact ⟨v,(Lib.bytesWorld_old w e _ _ (Cp w _ h1)).trans h1,S,h3.monoM λ_ _ _ h=>.inl h⟩
      .exact ⟨_,key o c B,rfl,vU c⟩) (λ b W=>Lib.bytesWorld_at_old w e _ b W) R q2 O (by rw [Lib.bytesWorld_size];omega)
    refine ⟨_,_,_,ob,p,X,T,cI.refl _ _,.sl 1 w.heap.size 0 _ _ _ _ s_ (grownCap_ge w _ 0 e) hl (λ x D=>TN l x D) (λ i j x c D B=>?_) trivial⟩;rw [Bh] at D;obtain ⟨Z,V,rfl⟩:=Cb.1 D;cases j with
    | succ j=>simp [ub,aa.cells] at B
    | zero=>
     simp [ub,aa.cells] at B;subst B;exact .inr ⟨rfl,Z,by simp;omega,rfl⟩
   .exact trivial
  .have A:=‹L.kind=TK.str›;rw [A] at g;split
   .rename_i e Q xs m U;rw [m] at f;split
    .rename_i _ _ _ I;have z:=(hE.tab e _ I).kind.1;intro l G F;subst G;obtain ⟨q,ad,c,rfl,h0⟩:=aAY (P:=E.P) hm C U d_ f.1.1;refine ⟨_,w,M,ob,?_,Ext.refl _ _ _ _,hm,cI.refl _ _,.str l F⟩;rw [Cf] at q⊢;exact aBb f.1.1 z g.1 (λ e=>by grind) q
    .exact trivial
   .exact trivial
  .exact trivial
 .exact trivial
def G4(off:Nat):∀ (l:ba) (k:Nat) (cells:Array Value),((l.zipIdx k).foldl (λ(cs:Array Value) (p:Value×Nat)=>cs.setIfInBounds (off+p.2) p.1) cells).size=cells.size/\
  ∀ (i:Nat),((l.zipIdx k).foldl (λ(cs:Array Value) (p:Value×Nat)=>cs.setIfInBounds (off+p.2) p.1) cells)[i]? =if off+k<=i/\i<off+k+l.length/\i<cells.size then l[i-(off+k)]? else cells[i]?
 | [],k,cells=>by
  refine ⟨rfl,λ i=>?_⟩;simp;omega
 | c::l,k,cells=>by
  obtain ⟨h1,d⟩:=G4 off l (k+1) (cells.setIfInBounds (off+k) c);simp only [List.zipIdx_cons,Ba];refine ⟨by rw [h1];simp,λ i=>?_⟩;rw [d];simp only [Array.size_setIfInBounds,Al];by_cases b:i=off+k
  .subst b;rw [if_neg o_];by_cases hs:off+k<cells.size
   .rw [if_pos ⟨by omega,by omega,hs⟩];simp [hs]
   .rw [if_neg o_];rw [Array.getElem?_setIfInBounds_self];simp [hs]
  .rw [Ha o_];by_cases a:off+(k+1)<=i/\i<off+(k+1)+l.length/\i<cells.size
   .rw [if_pos a,if_pos ⟨by omega,by omega,a.2.2⟩];have:i-(off+k)=(i-(off+(k+1)))+1:=o_;rw [this,Fo]
   .rw [if_neg a,if_neg o_]
def ER(M:Imm)(ob:Hs)(vs:List (Nat×Value))(as:ar):Prop:=
 vs.length=as.length/\∀ (i:Nat) (p:Nat×Value) (q:Nat×aa),vs[i]? =some p->as[i]? =some q->p.1=q.1/\Rep M ob p.2 q.2
def uK{place d:Nat->Option (Nat×Nat)}(hp:∀ i p,d i=some p->place i=some p):
  ∀ {b:ar} {vparts:List (Nat×Value)} {cs cs':ax} {cells:Array Value},D2 d cs b=some cs'->bX M ob cells.toList cs->ER M ob vparts b->
   ∃ a,Instr.fill place cells vparts=some a/\bX M ob a.toList cs':=by
 intro b;induction b with
 | nil=>
  intro vparts cs cs' cells h s hl;have:vparts=[]:=Ay hl.1;subst this;cases h;exact ⟨cells,rfl,s⟩
 | cons q b J=>
  intro vparts cs cs' cells h s hl;obtain ⟨hl,D⟩:=hl;obtain ⟨i,x⟩:=q
  match vparts,hl with
  | (i',v)::vparts,hl=>
   obtain ⟨F,f⟩:=D 0 _ _ rfl rfl;dsimp only at F f;subst F;simp only [D2] at h;split at h
   .cases h
   .rename_i off T B;obtain ⟨H,y⟩:=eT h;obtain ⟨w,C⟩:=aS H;have z:x≠ .undef:=λ e=>by subst e;cases w
    have m:=aC C;rw [xB] at m;split at y
    .rename_i A l;obtain ⟨R,Q,K⟩:=kC l;obtain ⟨I,t⟩:=f.cells z;have N:v.cells.size=x.cells.length:=o_;obtain ⟨U,O⟩:=G4 off v.cells.toList 0 cells;have P:cells.size=cs.length:=by have:=s.1;omega
     have k:v.cells.zipIdx.foldl (λ(cs:Array Value) (x:Value×Nat)=>match x with | (c,j)=>cs.setIfInBounds (off+j) c) cells=(v.cells.toList.zipIdx 0).foldl (λ(cs:Array Value) (p:Value×Nat)=>cs.setIfInBounds (off+p.2) p.1) cells:=by rw [<-Array.foldl_toList];simp
     have g:bX M ob ((v.cells.toList.zipIdx 0).foldl (λ(cs:Array Value) (p:Value×Nat)=>cs.setIfInBounds (off+p.2) p.1) cells).toList A:=by
      refine ⟨by simp;omega,λ j u c o n=>?_⟩;rw [Array.getElem?_toList,O j] at o;rw [K j] at n;simp only [Ff] at o;by_cases r:off<=j/\j<off+x.cells.length
      .rw [if_pos r] at n;rw [if_pos ⟨by omega,by omega,by omega⟩] at o;exact t _ u c o n
      .rw [if_neg r] at n;rw [if_neg o_] at o;exact s.2 j u c q_ n
     obtain ⟨a,L,G⟩:=J (vparts:=vparts) y g ⟨by simpa using hl,λ i p q hp S=>D (i+1) p q q_ q_⟩;refine ⟨a,?_,G⟩;simp only [Instr.fill,hp _ _ B];rw [if_neg]
     .rw [k];exact L
     simp;omega
    .cases y
def zR{P:Program}:∀ {a:List Field} {b:List (Nat×Nat×Bool)},oT P a b->a.mapM (λ f=>(P.info? f.type).map λ i=>(f.offset,i.size))=some (b.map λ f=>(f.1,f.2.1))
 | [],[],_=>rfl
 | [],_::_,h=>h.elim
 | _::_,[],h=>h.elim
 | f::a,(off,sz,ag)::b,h=>by obtain ⟨h1,d,h3,g,e⟩:=h;obtain ⟨i,c,rfl⟩:=Cb.1 d;simp [List.mapM_cons,c,zR e,h1]
def UQ{α β:Type}(f:α->β):∀ (l:List α) (n:Nat),(nth l n).map f=(l.map f)[n]?
 | [],_=>by simp [nth]
 | x::_,0=>rfl
 | _::r,n+1=>by simpa [nth] using UQ f r n
def aDS(hE:ae E){t:TypeId}{g:ar}{vparts:Array (Nat×Value)}(hl:ER M ob vparts.toList g):PS0 E.P M ob w (Instr.build t vparts) ac base (RZ E t g):=by
 unfold RZ;split
 .rename_i J L;have o:=hE.tab t J L;obtain ⟨info,z,D,Q,hz,H,h,_,_⟩:=o.info;have c:=o.kind;split
  .rename_i K B C j;rw [C] at c;obtain ⟨⟨G,x,N⟩,_⟩:=c;split
   .rename_i cs d;rw [j] at h;cases h with
    | agg vs as r k=>
     have l:bX M ob vs.toArray.toList B:=⟨by omega,λ i v a I y=>jP (k i v a o_ y)⟩
     obtain ⟨b,u,m⟩:=uK (place:=((K.map λ f=>(f.1,f.2.1)).toArray[·]?)) (λ i p hp=>by rw [UQ] at hp;simpa using hp) d l hl;have q:E.P.built t vparts.toList=some b:=by simp only [Program.built,D,x,hz,zR N];exact u
     have:b=b.toList.toArray:=by simp
     rw [this] at q;exact aP (run_build w t vparts _ q) (.agg _ _ m.1 m.2)
   .exact trivial
  .rename_i n O R B C j;rw [C] at c;obtain ⟨⟨e,x,A,_⟩,_⟩:=c;obtain ⟨F,s,rfl⟩:=Cb.1 A;split
   .rename_i cs d;rw [j] at h;cases h with
    | agg vs as r k=>
     have l:bX M ob vs.toArray.toList B:=⟨by omega,λ i v a I y=>jP (k i v a o_ y)⟩
     obtain ⟨b,u,m⟩:=uK (place:=λ i=>some (i*F.size,F.size)) (λ i p hp=>hp) d l hl;have q:E.P.built t vparts.toList=some b:=by simp only [Program.built,D,x,hz,s];exact u
     have:b=b.toList.toArray:=by simp
     rw [this] at q;exact aP (run_build w t vparts _ q) (.agg _ _ m.1 m.2)
   .exact trivial
  .exact trivial
 .exact trivial
end
section
variable {P:Program} {E:Env} {M:Imm} {ob:Hs} {ac:au} {w:World} {base:Nat}
def Mem.bare(h:Mem M ob ac w):Mem M [] [] w:=
 ⟨h.imm,rfl,λ k c a=>by simp at a,λ k b ⟨c,hs,h1,_⟩=>by simp at h1,λ k d b ⟨c,hs,h1,_⟩=>by simp at h1⟩
def aB6:aB []=λ_=>ab.dead:=by rfl
def Mem.pure0(h:Mem M ob ac w){v:Value}{a:aa}(b:Rep (λ_ _ _=>False) [] v a):Rep M [] v (AW.ah (λ_=>.dead) 4 a):=by have:=h.bare.pureV 4 v a (jP b);rwa [aB6] at this
def zH{t:Nat}{a:Addr}{v:Value}{w':World}(hs:(P.info? t).map (·.size)=some v.cells.size)(h:(storeCells a v.cells.toList).run P w= .ok () w'):
  (Kb t (.pointer (some a)) v).run P w= .ok () w':=by
 unfold Kb Ii storeVar;simp only [Bi,Bu,Ap,af hs,ne_eq,not_true_eq_false,if_false];exact h
def QE{y:aa}{new cs':ax}{off:Nat}(f:nM off new y.cells=some cs')(a:pG new=true):(aKa y cs').cells=cs':=by
 obtain ⟨j,h,g⟩:=kC f;by_cases i:∃ as,y= .agg as
 .obtain ⟨as,rfl⟩:=i;rfl
 .have d:y.cells=[y]:=by cases y<;>first | rfl | grind
  have e:aKa y cs'=aI2 cs':=by cases y<;>first | rfl | grind
  rw [e];rw [d] at h g
  match cs',h,g with
  | [c],_,g=>
   show c.cells=[c]
   have b:=g 0;simp only [Lw] at b;split at b
   .exact oA (lL a _ c b.symm)
   .simp at b;rw [b];exact d
def XO{a:Nat}{xs:ax}{i off:Nat}{y l:aa}{new:ax}(hs:0<a)(k:xs[i]? =some y)(hz:y.cells.length=a)
  (h1:off+new.length<=a) (n:∀ (j:Nat),l.cells[j]? =if off<=j/\j<off+new.length then new[j-off]? else y.cells[j]?) {q:Nat} {c:aa} (h:cellAt a (xs.set i l) q=some c):
  (i*a+off<=q/\q<i*a+off+new.length/\new[q-(i*a+off)]? =some c)\/((q<i*a+off\/i*a+off+new.length<=q)/\cellAt a xs q=some c):=by
 have d:i<xs.length:=(Ac.1 k).1;obtain ⟨z,hz1,hz2⟩:=fZ h;have e:a*(q / a)+q % a=q:=Ft q a;have m:=Ez q hs;by_cases b:q / a=i
 .rw [b,Aq d] at hz1;cases hz1;rw [n] at hz2;rw [b,Da] at e;split at hz2
  .rename_i g;left;refine ⟨by omega,by omega,?_⟩;rw [show q-(i*a+off)=q % a-off from by omega];exact hz2
  .rename_i g;right;refine ⟨by omega,?_⟩;unfold cellAt;rw [b,k];exact hz2
 .rw [Ax (Ej b)] at hz1;right;refine ⟨?_,?_⟩
  .rcases Mz (q / a) i with f | o
   .left;have:(q / a+1)*a<=i*a:=Bs _ f;rw [Bv,Da] at this;omega
   .right;have:(i+1)*a<=q / a*a:=Bs _ o_;rw [Bv,Da (q / a)] at this;omega
  .unfold cellAt;rw [hz1];exact hz2
def VU(P:Program)(M:Imm)(ob:Hs)(ac:au)(w:World)(s:Sem Unit)(v:aa)(ao:au):Prop:=
 v= .undef/\∃ w' M' ob',s.run P w= .ok () w'/\Ext M ob ac w M' ob' ao w'/\Mem M' ob' ao w'/\cI ob ac ob' ao
def aDC(hE:ae E)(hm:Mem M ob ac w){t:Nat}{v u:Value}{a x:aa}(l:Rep M ob v a)(hu:Rep M ob u x):
  Sd (VU E.P M ob ac w (Kb t v u)) (λ_ _=>False) (λ_=>False) ac base (RL E (aB ac) t a x):=by
 unfold RL;split
 .exact trivial
 .rename_i ti hT;have hti:=hE.tab t ti hT;refine sdc λ hg=>?_;obtain ⟨T,X⟩:=aS hg;obtain ⟨Z,F,hcr⟩:=hu.cells_one T;have hsz:u.cells.size=ti.size:=by
   have:=aC X;rw [xB] at this
   grind
  have hs:(E.P.info? t).map (·.size)=some u.cells.size:=by rw [hsz];exact hti.size?
  split
  .rename_i k off;obtain ⟨b,rfl,hb⟩:=l.ref_inv;split
   .rename_i T' cs H;have I:=bZ H s_;split
    .rename_i cs' f;obtain ⟨p1,p2,p3⟩:=kC f;obtain ⟨hs0,e1,b',rfl,hM,cv,hh,hlen',U,L⟩:=hm.obj k _ I;have hbb:b'=b:=by rw [bT e1] at hb;simpa using hb
     subst hbb;have J:off+u.cells.toList.length<=cv.length:=o_;obtain ⟨q1,q2⟩:=fG cv u.cells.toList off J;have hst:=run_storeCells_at E.P b' off T' u.cells.toList 0 cv.toArray w hh o_ F;simp only [Ff] at hst
     have:=hm.cellsTurn (cs':=cs') (cv':=cv.take off++u.cells.toList++cv.drop (off+u.cells.toList.length)) I hb o_ (λ v l=>by
       simp only [Az] at l;rcases l with (l | l) | l
       .exact U v (Cu l)
       .exact F v l
       .exact U v (Es l)) (λ i v c s o=>by
       rw [q2 i] at s;rw [p3 i,<-Z] at o;split at s
       .rename_i D;rw [if_pos D] at o;exact hcr _ v c s o
       .rename_i D;rw [if_neg D] at o
        exact L i v c s o)
     refine ⟨rfl,_,M,ob,zH hs hst,?_⟩;rw [aL I];exact ⟨this.2.1,this.1,this.2.2⟩
    .exact trivial
   .exact trivial
  .rename_i k g i h off;cases l with
   | eref _ _ _ _ _ b n c K=>
   split
   .rename_i g' sz' e xs H;have I:=bZ H s_;refine sdc λ hg2=>?_;obtain ⟨S,m⟩:=aS hg2;obtain ⟨hg3,G⟩:=aS S;obtain ⟨hg4,hg5⟩:=aS hg3;obtain rfl:=aC hg4;obtain rfl:=aC hg5;have d:0<h:=Ci G;have hpu:=hm.pureV 4 u x hu;obtain ⟨hcl',_,N⟩:=hpu.cells_one m;obtain ⟨hs0,v0,e1,e2,e3,e4,A,_⟩:=hm.rowOf I;have hrl:=A.len;rw [K] at e4;cases e4;obtain ⟨cv,_,_,hz,_⟩:=A
    have Q:∀ {y W:aa},0<h->xs[i]? =some y->off+(ah (aB ac) 4 x).cells.length<=h->(∀ (j:Nat),W.cells[j]? =if off<=j/\j<off+(ah (aB ac) 4 x).cells.length then (ah (aB ac) 4 x).cells[j-off]? else y.cells[j]?)->
      W.cells.length=h->VU E.P M ob ac w (Kb t (.pointer (some ⟨b,i*h+off,none⟩)) u) .undef (bJ ac k (.row g h e (xs.set i W))):=by
     intro y W d r h1 h2 h3;have C:i<xs.length:=(Ac.1 r).1;have V:(i+1)*h<=xs.length*h:=Bs _ C;rw [Bv,Gm] at V
     obtain ⟨w',r1,r2,r3,r4⟩:=hm.rowWrite (P:=E.P) (xs':=xs.set i W) I K d (p:=i*h+off) (news:=u.cells.toList) o_ F s_ (λ z B=>by
       rcases Db B with B | rfl
       .exact hz z B
       .exact h3) (λ q c hq=>by
       rcases XO d r (hz y (Av r)) h1 h2 hq with ⟨a1,a2,a3⟩ | ⟨a1,a2⟩
       .left;refine ⟨a1,by omega,?_⟩;have O:q-(i*h+off)<u.cells.toList.length:=o_;exact ⟨_,Aa O,N _ _ c (Aa O) a3⟩
       .right
        exact ⟨by omega,a2⟩)
     refine ⟨rfl,w',M,ob,zH hs r1,?_⟩;rw [aL I];exact ⟨r3,r2,r4⟩
    cases hq:(Aw off 0&&Aw ti.size h) with
    | true=>
     obtain ⟨ho1,ho2⟩:=aS hq;obtain rfl:=aC ho1;have hts:=aC ho2;intro C;have Y:(ah (aB ac) 4 x).cells.length=h:=by
      have:u.cells.toList.length=u.cells.size:=by simp
      omega
     have r:=Aa C;have hyz:=hz _ (Av r)
     exact Q d r o_ (λ j=>by
       split
       .rfl
       .rw [Bg o_,Bg o_]) Y
    | false=>
     intro y r;dsimp only;split
     .rename_i cs' f;obtain ⟨p1,p2,p3⟩:=kC f;have hyz:=hz y (Av r);have R:=QE f m;exact Q d r o_ (λ j=>by rw [R];exact p3 j) (by rw [R];omega)
     .exact trivial
   .exact trivial
  .exact trivial
end
section
variable {P:Program} {E:Env} {M:Imm} {ob:Hs} {ac:au} {w:World} {base:Nat}
def Mem.rowSplice(hm:Mem M ob ac w){k g a:Nat}{e:TypeId}{xs ys:ax}(r:ac[k]? =some (.row g a e xs)){b n cap:Nat}(s:at' ob k g=some (.slice (some ⟨b,0,none⟩) n cap))(hs:0<a){i:Nat}(o:i+ys.length<=xs.length)
  (hz:∀ y∈ys,y.cells.length=a) {news:ba} (hl:news.length=ys.length*a) (h1:∀ u∈news,u.oneCell'=true) (t:∀ (q:Nat) c,cellAt a ys q=some c->∃ u,news[q]? =some u/\Rep M [] u c):
  ∃ w',(storeCells ⟨b,i*a,none⟩ news).run P w= .ok () w'/\Mem M ob (ac.set k (.row g a e (xs.take i++ys++xs.drop (i+ys.length)))) w'/\
   Ext M ob ac w M ob (ac.set k (.row g a e (xs.take i++ys++xs.drop (i+ys.length)))) w'/\cI ob ac ob (ac.set k (.row g a e (xs.take i++ys++xs.drop (i+ys.length)))):=by
 obtain ⟨v,B,A,F,D,C,f,_⟩:=hm.rowOf r;obtain ⟨cv,_,_,j,_⟩:=f;have h:(i+ys.length)*a<=xs.length*a:=Bs _ o;rw [Bv] at h;refine hm.rowWrite (P:=P) r s hs (p:=i*a) (news:=news) o_ h1 q_ (λ y d=>?_) (λ q c x=>?_)
 .simp only [Az] at d;rcases d with (d | d) | d
  .exact j y (Cu d)
  .exact hz y d
  .exact j y (Es d)
 .rcases FB hs o x with ⟨m,l,z⟩ | ⟨m,l⟩
  .left;exact ⟨m,by omega,t _ c z⟩
  .right;exact ⟨by omega,l⟩
def qX{xs:ax}{i:Nat}:xs.take i++[]++xs.drop (i+0)=xs:=by simp
def pW(hm:Mem M ob ac w)(a:ac[base]? =some .dead)(d:ob[base]? =some []){s:Sem Value}{f:Nat}{e:TypeId}{v:Value}{w':World}{xs:ax}(h:s.run P w= .ok v w')(g:Grown M w w' f e v xs){hint:Nat}:
  PM P M ob w s ac base (pX hint base f e xs):=by
 have k:base<ob.length:=(Ac.1 d).1;unfold pX;split
 .obtain ⟨h1,i,h3⟩:=g.row hm a d;refine ⟨v,w',M,ob.set base [v],h,?_⟩;rw [aL a];refine ⟨i,h1,h3,?_⟩;obtain ⟨cv,j,_⟩:=g.own;have c:at' (ob.set base [v]) base 0=some v:=by rw [bT (Aq k)];rfl
  rcases dJ j with ⟨q,_⟩ | ⟨b,cap,q,_⟩
  .rw [q] at c⊢;exact .row _ _ _ _ _ c
  .rw [q] at c⊢;exact .row _ _ _ _ _ c
 .obtain ⟨h1,i,h3,l⟩:=g.tail hm a d;refine ⟨v,w',gY M v f xs,ob.set base [v],h,?_⟩;rw [aL a]
  grind
def GY(hm:Mem M ob ac w){s:Sem Value}{a:Nat}{e:TypeId}{v:Value}{w':World}{xs:ax}(f:s.run P w= .ok v w')(g:Grown M w w' a e v xs){t:Tk}(c:tG ob v t):PM P M ob w s ac base (.val (.slice a xs t)):=by obtain ⟨h1,b⟩:=g.more hm;obtain ⟨cv,d,_⟩:=g.own;exact ⟨v,w',_,ob,f,b,h1,cI.refl _ _,jT d g.hz c⟩
def ZE(hE:ae E)(hm:Mem M ob ac w)(K:ac[base]? =some .dead)(L:ob[base]? =some []){hint:Nat}{t t2 ty:TypeId}{v x:Value}{s a:aa}(I:Rep M ob v s)(hx:Rep M ob x a):
  PM E.P M ob w (Cm #[t,t2] ty #[v,x]) ac base (sW E hint base (aB ac) t t2 s a):=by
 unfold sW;split
 .rename_i e esz eb _ _ _ hT;obtain ⟨⟨N,i,z,R,hsz,heb,hz,r,hz1⟩,_⟩:=(hE.tab t _ hT).kind;subst hsz heb;refine sdc λ hp=>?_;have d:0<i.size:=Ci hp;split
  .exact trivial
  .rename_i ys hys;have h:=P4 hE hm hx hys d;split
   .rename_i sz xs tk;split
    .rename_i k g;split
     .rename_i g' sz' e' B;refine sdc λ F=>?_;obtain ⟨m,O⟩:=aS F;obtain ⟨j,u⟩:=aS m;obtain ⟨p,y⟩:=aS j;obtain rfl:=aC p;have U:=aC u;have q2:=aC y;subst q2;subst U;have q4:=aC O;subst q4;rintro ⟨H,G⟩;have C:=bZ B s_;obtain ⟨J,w',M',ob',o,l,W,Y,r5⟩:=hm.appendTail (P:=E.P) (ty:=ty) N R hz hz1 r d C I h H G;refine ⟨J,w',M',ob',o,?_⟩;rw [aL C];exact ⟨W,l,Y,r5⟩
     .exact trivial
    .refine sdc λ F=>?_;have q:=aC F;subst q;rintro ⟨H,G⟩;obtain ⟨_,T⟩:=I.untok;obtain rfl:v= .slice none 0 0:=T;obtain ⟨J,w',o,l⟩:=append_nil (P:=E.P) (ty:=ty) hm N R hz hz1 r d h H G;exact pW hm K L o l
    .refine sdc λ F=>?_;have q:=aC F;subst q;rintro ⟨H,G⟩;obtain ⟨J,w',o,l⟩:=PH (P:=E.P) (ty:=ty) hm N R hz hz1 r d I h H G;split
     .rcases l with ⟨rfl,rfl,rfl⟩ | ⟨_,l⟩
      .refine ⟨J,w',M,ob,o,Ext.refl _ _ _ _,hm,cI.refl _ _,?_⟩;rw [Au];exact I.untok.1
      .exact GY hm o l trivial
     .intro X;rcases l with ⟨_,rfl,rfl⟩ | ⟨q,_⟩
      .exact ⟨J,w',M,ob,o,Ext.refl _ _ _ _,hm,cI.refl _ _,I⟩
      .exact absurd X q
     .intro X;rcases l with ⟨q,_⟩ | ⟨_,l⟩
      .grind
      .exact pW hm K L o l
    .exact trivial
   .rintro ⟨H,G⟩;cases I;obtain ⟨J,w',o,l⟩:=append_nil (P:=E.P) (ty:=ty) hm N R hz hz1 r d h H G;exact pW hm K L o l
   .rename_i k g;split
    .rename_i g' sz e' xs B;refine sdc λ F=>?_;obtain ⟨j,u⟩:=aS F;obtain ⟨p,y⟩:=aS j;obtain rfl:=aC p;have q2:=aC y;subst q2;have U:=aC u;subst U;rintro ⟨H,G⟩;have C:=bZ B s_;obtain ⟨V,n,c,rfl,f⟩:=I.row_inv;obtain ⟨J,w',ob',o,l,W,Y,r5⟩:=hm.appendRow (P:=E.P) (ty:=ty) N R hz hz1 r d C f h H G;refine ⟨J,w',M,ob',o,?_⟩;rw [aL C];exact ⟨W,l,Y,r5⟩
    .exact trivial
   .rename_i k g lo len sz;split
    .rename_i g' sz' e' xs B;refine sdc λ F=>?_;obtain ⟨m,O⟩:=aS F;obtain ⟨j,u⟩:=aS m;obtain ⟨p,y⟩:=aS j;obtain rfl:=aC p;have U:=aC u;have q2:=aC y;subst q2;subst U;have q4:=aC O;subst q4;intro hfit;have C:=bZ B s_;obtain ⟨hs0,v0,e1,e2,e3,e4,Z,_⟩:=hm.rowOf C;have S:∀ {V n c},at' ob k g=some (.slice V n c)->n=xs.length:=λ{V n c} f=>by rw [f] at e4;cases e4;rcases Z.len with ⟨q,rfl⟩ | ⟨b,cap,q,_⟩<;>cases q<;>rfl
     obtain ⟨⟨news,D,s2⟩,hz',_⟩:=h;cases I with
     | sub _ _ _ _ _ b n c f hl hn hc hmm=>
      have:=S f;obtain ⟨w',o,l,W,Y⟩:=hm.rowSplice (P:=E.P) (ys:=ys) (i:=lo+len) (news:=news) C f d o_ hz' D.newsLen D.one s2;refine ⟨.slice (some ⟨b,lo*i.size,none⟩) (len+ys.length) (c-lo),w',M,ob,?_,?_⟩
      .have hst:(storeCells ((⟨b,lo*i.size,none⟩:Addr).add (len*i.size)) news).run E.P w= .ok () w':=by rw [aZ,<-Bv];exact o
       have Q:len+ys.length<=c-lo:=o_;rcases D.kind with ⟨e',A⟩ | A<;>simp [Cm,run_underlying N,run_underlying A,sizeOf,typeInfo,R,D.len,Q,D.cells,hst]
      .rw [aL C];exact ⟨W,l,Y,.sub _ _ _ _ _ b n c f hl o_ hc hmm⟩
     | sub0 _ _ _ _ V a' n c f hl hc=>
      have:=S f;have hy0:ys=[]:=Ay o_;subst hy0;have hn0:news=[]:=Ay (by rw [D.newsLen];simp);subst hn0;refine ⟨.slice a' 0 0,w,M,ob,?_,?_⟩
      .have hc0:(Ch i.size 0 x).run E.P w= .ok #[] w:=D.cells;have hl0:∀ w,(Builtin.lenOf x).run E.P w= .ok 0 w:=D.len;rcases D.kind with ⟨e',A⟩ | A<;>cases a'<;>simp [Cm,run_underlying N,run_underlying A,sizeOf,typeInfo,R,hl0,hc0,storeCells]
      .rw [aL C];have:ac.set k (.row g i.size e (xs.take (lo+0)++[]++xs.drop (lo+0+([]:ax).length)))=ac:=by rw [Br,qX];exact fS C
       rw [this];exact ⟨Ext.refl _ _ _ _,hm,cI.refl _ _,.sub0 _ _ _ _ V a' n c f hl hc⟩
    .exact trivial
   .exact trivial
 .exact trivial
end
section
variable {P:Program} {E:Env} {M:Imm} {ob:Hs} {ac:au} {w:World} {base:Nat}
def aCo{α:Type}(l:List α)(n:Nat):l.drop (min n l.length)=l.drop n:=by simp
def aH0(hE:ae E)(hm:Mem M ob ac w){t Z ty:TypeId}{v x:Value}{d a:aa}(hv:Rep M ob v d)(hx:Rep M ob x a):
  PM E.P M ob w (Kc #[t,Z] ty #[v,x]) ac base (aDP E (aB ac) t Z d a):=by
 unfold aDP;split
 .rename_i e esz eb _ _ _ hT;obtain ⟨⟨hu,i,z,hi,hsz,Y,hz,hzs,hz1⟩,_⟩:=(hE.tab t _ hT).kind;subst hsz Y;refine sdc λ hp=>?_;have j:0<i.size:=Ci hp
  have B:∀ n:Nat,(n:Int)<=9223372036854775807->inR .i64 (n:Int):=λ n h=>⟨by simp only [bW];omega,by simp only [aW];omega⟩
  split
  .exact trivial
  .rename_i ys S;obtain ⟨⟨T,s1,_⟩,W,r⟩:=P4 hE hm hx S j
   have run:∀ {A:Option Addr} {n c m:Nat} {news:ba} {w':World},m=min ys.length n->(Ch i.size m x).run E.P w= .ok news.toArray w->(∀ a,A=some a->(storeCells a news).run E.P w= .ok () w')->(A=none->w'=w)->
     (Kc #[t,Z] ty #[.slice A n c,x]).run E.P w= .ok (.int .i64 (m:Nat)) w':=by
    intro A n c m news w' h1 h2 h3 h4;subst h1;have C:Nat.min ys.length n=min ys.length n:=rfl;cases A with
    | none=>
     rw [h4 rfl];simp [Kc,run_underlying hu,s1.len,C,sizeOf,typeInfo,hi,h2,goInt]
    | some a=>
     simp [Kc,run_underlying hu,s1.len,C,sizeOf,typeInfo,hi,h2,h3 a rfl,goInt]
   have put:∀ {k g:Nat} {xs:ax} {b n cap p m:Nat},ac[k]? =some (.row g i.size e xs)\/(∃ o,ac[k]? =some (.row g i.size o xs))->True:=λ_=>trivial;clear put
   -- the elements that are written
   have key:∀ {k g:Nat} {o:TypeId} {xs:ax} {b n cap p m:Nat},ac[k]? =some (.row g i.size o xs)->at' ob k g=some (.slice (some ⟨b,0,none⟩) n cap)->m<=ys.length->p+m<=xs.length->
     ∃ (news:ba) (w':World),(Ch i.size m x).run E.P w= .ok news.toArray w/\(storeCells ⟨b,p*i.size,none⟩ news).run E.P w= .ok () w'/\
      Mem M ob (ac.set k (.row g i.size o (xs.take p++ys.take m++xs.drop (p+m)))) w'/\Ext M ob ac w M ob (ac.set k (.row g i.size o (xs.take p++ys.take m++xs.drop (p+m)))) w'/\cI ob ac ob (ac.set k (.row g i.size o (xs.take p++ys.take m++xs.drop (p+m)))):=by
    intro k g o xs b n cap p m l f U hpm;obtain ⟨news,n1,n2,I,F⟩:=r m U;have u:(ys.take m).length=m:=by simp;omega
    obtain ⟨w',r1,r2,r3,r4⟩:=hm.rowSplice (P:=E.P) (ys:=ys.take m) (i:=p) (news:=news) l f j o_ (λ y hy=>W y (Cu hy)) (by rw [u];exact n2) I (λ q c R=>by
     have H:=fI j R;rw [u] at H;rw [nA j H] at R
     exact F q c H R)
    rw [u] at r2 r3 r4;exact ⟨news,w',n1,r1,r2,r3,r4⟩
   split
   .rename_i k g;split
    .rename_i g' sz o xs J;refine sdc λ hg=>?_;obtain ⟨D,G⟩:=aS hg;obtain rfl:=aC D;have Q:=aC G;subst Q;have l:=bZ J s_;obtain ⟨A,n,c,rfl,f⟩:=hv.row_inv;obtain ⟨hs0,v0,e1,e2,e3,N,s,_⟩:=hm.rowOf l;rw [f] at N;cases N;rcases s.len with ⟨q,rfl⟩ | ⟨b,cap,q,Q,q3,q4⟩
     .cases q;obtain ⟨news,n1,n2,_⟩:=r 0 (Bt _);refine ⟨.int .i64 ((0:Nat):Int),w,M,ob,run (m:=0) s_ n1 (λ a h=>by cases h) (λ_=>rfl),?_⟩;rw [aL l];have:ac.set k (.row g i.size o (ys.take ([]:ax).length++([]:ax).drop ys.length))=ac:=by simp only [Br,Ih,List.drop_nil,Au];exact fS l
      rw [this];exact ⟨Ext.refl _ _ _ _,hm,cI.refl _ _,by simpa using Rep.int .i64 0 (B 0 d_)⟩
     .cases q;obtain ⟨news,w',n1,n2,I,F,L⟩:=key (p:=0) (m:=min ys.length xs.length) l f (Nat.min_le_left _ _) o_;rw [Lx] at n2;refine ⟨.int .i64 ((min ys.length xs.length:Nat):Int),w',M,ob,run rfl n1 (λ a h=>by cases h;exact n2) (λ h=>by cases h),?_⟩;rw [aL l];have e0:xs.take 0++ys.take (min ys.length xs.length)++xs.drop (0+min ys.length xs.length)=ys.take xs.length++xs.drop ys.length:=by
       rw [Ih,Bm,Bw,aCo];congr 1;by_cases h:ys.length<=xs.length
       .rw [Gh h,Fx,Cd h]
       .rw [Nat.min_eq_right o_]
      rw [e0] at I F L;have hmx:=gG;have:min ys.length xs.length<=xs.length:=Nat.min_le_right _ _;exact ⟨F,I,L,.int _ _ (B _ o_)⟩
    .exact trivial
   .rename_i k g lo len sz;split
    .rename_i g' sz' o xs J;refine sdc λ hg=>?_;obtain ⟨O,X⟩:=aS hg;obtain ⟨D,G⟩:=aS O;obtain rfl:=aC D;have q3:=aC X;have Q:=aC G;subst Q;subst q3;have l:=bZ J s_;obtain ⟨hs0,v0,e1,e2,e3,N,s,_⟩:=hm.rowOf l;have K:∀ {A n c},at' ob k g=some (.slice A n c)->n=xs.length:=λ{A n c} f=>by rw [f] at N;cases N;rcases s.len with ⟨q,rfl⟩ | ⟨b,cap,q,_⟩<;>cases q<;>rfl
     cases hv with
     | sub _ _ _ _ _ b n c f hl hn hc hmm=>
      have:=K f;obtain ⟨news,w',n1,n2,I,F,L⟩:=key (p:=lo) (m:=min ys.length len) l f (Nat.min_le_left _ _) o_;refine ⟨.int .i64 ((min ys.length len:Nat):Int),w',M,ob,run rfl n1 (λ a h=>by cases h;exact n2) (λ h=>by cases h),?_⟩;rw [aL l];have e0:ys.take (min ys.length len)=ys.take len:=by
       by_cases h:ys.length<=len
       .rw [Gh h,Fx,Cd h]
       .rw [Nat.min_eq_right o_]
      rw [e0] at I F L;have:min ys.length len<=len:=Nat.min_le_right _ _;exact ⟨F,I,L,.int _ _ (B _ o_)⟩
     | sub0 _ _ _ _ A a' n c f hl hc=>
      have:=K f;obtain ⟨news,n1,n2,_⟩:=r 0 (Bt _);have V:news=[]:=Ay o_;subst V;refine ⟨.int .i64 ((0:Nat):Int),w,M,ob,run (m:=0) s_ n1 (λ a h=>rfl) (λ_=>rfl),?_⟩;rw [aL l];have:ac.set k (.row g i.size o (xs.take lo++ys.take 0++xs.drop (lo+min ys.length 0)))=ac:=by rw [Ih,Nat.min_zero,qX];exact fS l
      rw [this];exact ⟨Ext.refl _ _ _ _,hm,cI.refl _ _,by simpa using Rep.int .i64 0 (B 0 d_)⟩
    .exact trivial
   .exact trivial
 .exact trivial
def xO{z:Value}{a:aa}(j:Rep M [] z a)(o:a≠ .undef){b:Nat}(hz:z.cells.size=b)(hs:0<b){n:Nat}{cv:ba}(hl:cv.length=n*b)(m:∀ q,q<n*b->cv[q]? =z.cells.toList[q % b]?):
  (∀ y∈Aj n a,y.cells.length=b)/\∀ (q:Nat) c,cellAt b (Aj n a) q=some c->∃ u,cv[q]? =some u/\Rep M [] u c:=by
 obtain ⟨h1,k⟩:=j.cells o;have l:z.cells.toList.length=b:=o_;refine ⟨λ y g=>by rw [(Fy.1 g).2];omega,λ q c h=>?_⟩;have e:=fI hs h;rw [Gu] at e;obtain ⟨y,g,f⟩:=fZ h;have:=Av g;rw [(Fy.1 this).2] at f;have i:=Ez q hs;rw [m q e];have d:q % b<z.cells.toList.length:=o_;exact ⟨_,Aa d,k _ _ c (Aa d) f⟩
def tH{z:Array Value}{n:Nat}:(Ce z n).toList.length=n*z.size/\∀ q,q<n*z.size->(Ce z n).toList[q]? =z.toList[q % z.size]?:=by
 refine ⟨by simp [Ce],λ q b=>?_⟩;have hs:0<z.size:=by grind
 have a:=Ez q hs;simp only [Ce,Jr,Bh,Array.toList_range];simp_all
def E3{z:Array Value}{n:Nat}(hs:0<z.size):(madeCells z n).toList.length=n/\∀ q,q<n->(madeCells z n).toList[q]? =z.toList[q % z.size]?:=by refine ⟨by simp [madeCells],λ q b=>?_⟩;have a:=Ez q hs;simp only [madeCells,Jr,Bh,Array.toList_range];simp_all
def WY{z:Array Value}{cv:ba}{n:Nat}(h:z.toList.all (·.oneCell')=true)(hl:cv.length=n)(d:∀ q,q<n->∃ j:Nat,cv[q]? =z.toList[j]?):∀ u∈cv,u.oneCell'=true:=λ u c=>by obtain ⟨q,b⟩:=Cq c;obtain ⟨j,a⟩:=d q (by grind);rw [b] at a;exact Ct.1 h u (Av a.symm)
def A7{a:aa}(h:CY a=true):a≠ .undef:=λ e=>by subst e;cases h
def aDR(hE:ae E)(hm:Mem M ob ac w){t ty:TypeId}{v:Value}{d:aa}(l:Rep M ob v d):PM E.P M ob w (Jl #[t] ty #[v]) ac base (RY E (aB ac) t d):=by
 unfold RY;split
 .rename_i e esz eb _ _ _ hT;obtain ⟨⟨H,i,z,hi,U,N,hz,p,hz1⟩,_⟩:=(hE.tab t _ hT).kind;subst U N;split
  .rename_i A D;refine sdc λ hp=>?_;obtain ⟨O,R⟩:=aS hp;have j:0<i.size:=Ci O;obtain ⟨i',z',o,V,r,Y,C,y,hne⟩:=(hE.tab e A D).info;rw [hi] at o;cases o;rw [hz] at r;cases r;split
   .rename_i k g lo len sz;split
    .rename_i g' sz' e' xs S;refine sdc λ hg=>?_;obtain ⟨x,J⟩:=aS hg;obtain ⟨F,K⟩:=aS x;obtain rfl:=aC F;have q3:=aC J;have q2:=aC K;subst q2;subst q3;have m:=bZ S s_;obtain ⟨hs0,v0,e1,e2,e3,X,u,_⟩:=hm.rowOf m;have B:∀ {I n c},at' ob k g=some (.slice I n c)->n=xs.length:=λ{I n c} f=>by rw [f] at X;cases X;rcases u.len with ⟨q,rfl⟩ | ⟨b,cap,q,_⟩<;>cases q<;>rfl
     have same:len=0->ac.set k (.row g i.size e' (xs.take lo++Aj len (ah (λ_=>.dead) 4 A.zero)++xs.drop (lo+len)))=ac:=λ h=>by subst h;rw [List.replicate_zero,qX];exact fS m
     cases l with
     | sub _ _ _ _ _ b n c f hl hn hc hmm=>
      have:=B f;by_cases h0:len=0
      .refine ⟨.tuple #[],w,M,ob,?_,?_⟩
       .subst h0;simp [Jl,run_underlying H]
       .rw [aL m,same h0];exact ⟨Ext.refl _ _ _ _,hm,cI.refl _ _,.tup [] [] rfl λ i v a l=>by simp at l⟩
      .have T:=hm.pure0 C;obtain ⟨Q,L⟩:=tH (z:=z.cells) (n:=len);rw [p] at Q L;have s:ah (λ_=>.dead) 4 A.zero≠ .undef:=A7 R;obtain ⟨r1,r2⟩:=xO (M:=M) T s p j Q L;obtain ⟨w',s1,Z,s3,W⟩:=hm.rowSplice (P:=E.P) (ys:=Aj len (ah (λ_=>.dead) 4 A.zero)) (i:=lo) (news:=(Ce z.cells len).toList) m f j q_ r1 q_ (WY y Q λ q hq=>⟨_,L q hq⟩) r2;rw [Gu] at Z s3 W;refine ⟨.tuple #[],w',M,ob,?_,?_⟩
       .have G:(zeroValue e).run E.P w= .ok z w:=by simp [zeroValue,typeInfo,hi,hz]
        cases len with
        | zero=>omega
        | succ len=>simp [Jl,run_underlying H,G,s1]
       .rw [aL m];exact ⟨s3,Z,W,.tup [] [] rfl λ i v a l=>by simp at l⟩
     | sub0 _ _ _ _ I a' n c f hl hc=>
      refine ⟨.tuple #[],w,M,ob,?_,?_⟩
      .cases a'<;>simp [Jl,run_underlying H]
      .rw [aL m,same rfl];exact ⟨Ext.refl _ _ _ _,hm,cI.refl _ _,.tup [] [] rfl λ i v a l=>by simp at l⟩
    .exact trivial
   .exact trivial
  .exact trivial
 .exact trivial
def aHY(hE:ae E)(hm:Mem M ob ac w)(s:ac[base]? =some .dead)(u:ob[base]? =some []){t:TypeId}{K H:Value}{n c:aa}(O:Rep M ob K n)(U:Rep M ob H c){hint:Nat}:
  PM E.P M ob w (Instr.makeSlice t K H) ac base (WG E hint base t n c):=by
 unfold WG;split
 .rename_i e Z eb _ _ _ k a T b R;obtain ⟨⟨X,i,z,G,D,y,hz,h,hz1⟩,_⟩:=(hE.tab t _ R).kind;subst D y;split
  .rename_i F x;refine sdc λ hp=>?_;obtain ⟨A,r⟩:=aS hp;have f:0<i.size:=Ci A;obtain ⟨i',z',o,J,j,L,v,l,V⟩:=(hE.tab e F x).info;rw [G] at o;cases o;rw [hz] at j;cases j;obtain ⟨rfl,_⟩:=O.int_inv;obtain ⟨rfl,_⟩:=U.int_inv;rintro m rfl ⟨rfl,Q,c3⟩;have N:=gG;have d:=run_make (P:=E.P) w t e i z X G hz k T (m:Int) (m:Int) o_ (Dd _) Q o_;rw [Bn] at d;have C:=hm.pure0 v;obtain ⟨I,p⟩:=E3 (z:=z.cells) (n:=m*i.size) o_;rw [h] at p;obtain ⟨W,Y⟩:=xO (M:=M) C (A7 r) h f I p;have g:=Grown.ofAlloc (M:=M) (w:=w) (e:=e) (xs:=Aj m (ah (λ_=>.dead) 4 F.zero)) (cv:=(madeCells z.cells (m*i.size)).toList) f q_ (WY l I λ q S=>⟨_,p q S⟩) W q_ Y;have B:(madeCells z.cells (m*i.size)).toList.toArray=madeCells z.cells (m*i.size):=by simp
   rw [B,Gu] at g;exact pW (hint:=2) hm s u d g
  .exact trivial
 .exact trivial
def WM:∀ (new l:ax),new.length<=l.length->∃ r,SH new l=some r
 | [],l,_=>⟨l,rfl⟩
 | _::_,[],h=>by simp at h
 | c::new,d::l,h=>by obtain ⟨r,a⟩:=WM new l (by grind);exact ⟨c::r,by simp [SH,a]⟩
def HR:∀ (off:Nat) (new l:ax),off+new.length<=l.length->∃ r,nM off new l=some r
 | 0,new,l,h=>by obtain ⟨r,a⟩:=WM new l o_;exact ⟨r,by simpa [nM] using a⟩
 | n+1,new,[],h=>by simp at h
 | n+1,new,c::l,h=>by obtain ⟨r,a⟩:=HR n new l (by grind);exact ⟨c::r,by simp [nM,a]⟩
def MD(og:Nat->ab)(l:ar):ar:=l.map λ p=>(p.1,ah og 4 p.2)
def J6(og:Nat->ab)(d:Nat):∀ {b:ar} {n:Nat} {xs:ax} {base:ax},D3 og d n b=some xs->(n+b.length)*d<=base.length->
  ∃ cs',D2 (λ i=>some (i*d,d)) base (MD og b)=some cs'/\cs'.length=base.length/\(∀ o,o<n*d->cs'[o]? =base[o]?)/\xs.length=b.length/\
   (∀ x∈xs,x.cells.length=d/\pG x.cells=true)/\∀ (i j:Nat) x c,xs[i]? =some x->x.cells[j]? =some c->cs'[(n+i)*d+j]? =some c:=by
 intro b;induction b with
 | nil=>intro n xs base h hl;cases h;exact ⟨base,rfl,rfl,λ_ _=>rfl,rfl,λ x e=>by simp at e,λ i j x c e=>by simp at e⟩
 | cons p b H=>
  intro n xs base h hl;obtain ⟨i,F⟩:=p;simp only [D3] at h
  obtain ⟨v,t⟩:∃ v,ah og 4 F=v:=⟨_,rfl⟩
  rw [t] at h;obtain ⟨z,m⟩:=eT h;simp only [Ad] at z;obtain ⟨⟨K,w⟩,s⟩:=z;have D:=aC K;subst D;have hz:=aC w;rw [xB] at hz;cases q:D3 og d (i+1) b with
  | none=>simp [q] at m
  | some l=>
   simp only [q,Dp] at m;subst m;have g:(i+1)*d<=base.length:=by refine Cx (Bs _ ?_) hl;simp
   rw [Bv,Gm] at g;obtain ⟨J,f⟩:=HR (i*d) v.cells base o_;obtain ⟨M,y,A⟩:=kC f;obtain ⟨cs',u,L,B,I,C,G⟩:=H (base:=J) q (by rw [y];refine Cx (Nat.le_of_eq ?_) hl;simp;congr 1;omega);have k:CY v=true:=by cases v<;>first | rfl | (simp [aa.cells,pG,AW.one] at s)
   refine ⟨cs',by
    unfold MD at u⊢
    simp only [Bl,D2,t,k,w,Bool.and_self,cond_true,f,u],L.trans y,λ o N=>?_,by simp [I],λ x e=>?_,λ a j x c e r=>?_⟩
   .rw [B o (by rw [Bv];omega),A o,if_neg o_]
   .rcases Bc.1 e with rfl | e
    .exact ⟨hz,s⟩
    .exact C x e
   .cases a with
    | zero=>
     simp at e;subst e;have O:j<d:=by rw [<-hz];exact (Ac.1 r).1
     rw [Ff,B _ (by rw [Bv];omega),A,if_pos o_,Hi];exact r
    | succ a=>
     have:=G a j x c (by simpa using e) r;rw [show i+(a+1)=i+1+a from by omega];exact this
def aGl(l:ar):aBT l=l.length:=by induction l with
 | nil=>rfl
 | cons a r b=>simp [aBT,b]
def E8(hE:ae E)(hm:Mem M ob ac w)(H:ac[base]? =some .dead)(J:ob[base]? =some []){hint:Nat}{t:TypeId}{len:Nat}{h:ar}{vparts:Array (Nat×Value)}(hl:ER M ob vparts.toList h):
  PM E.P M ob w (Ju t len vparts) ac base (mY E hint base (aB ac) t len h):=by
 unfold mY;split
 .rename_i e b eb _ _ _ hT;obtain ⟨⟨hu,ie,z,hi,hs,hb,hz,hzs,_⟩,_⟩:=(hE.tab t _ hT).kind;refine sdc λ hg=>?_;simp only [Ad] at hg;obtain ⟨⟨g1,g2⟩,g3⟩:=hg;have A:=aC g1;rw [aGl] at A;have K:len*b<=1000:=Ci g2;have k:1<=b:=Ci g3;split
  .rename_i xs Q
   let f:Array Value:=if len*b=0 then #[] else (Kk (len*b)).map (z.cells[· % z.cells.size]!)
   have s:f.size=len*b:=by show (if len*b=0 then (#[]:Array Value) else (Kk (len*b)).map (z.cells[· % z.cells.size]!)).size=_;split<;>simp [*]
   obtain ⟨cs',e1,e2,_,e4,I,e6⟩:=J6 (aB ac) b (base:=Aj (len*b) .undef) Q (by simp [A])
   have T:bX M [] f.toList (Aj (len*b) aa.undef):=⟨by simp [s],λ i v a _ ha=>by
    have:a= .undef:=(Fy.1 (Av ha)).2;subst this
    exact .undef _⟩
   have O:ER M [] vparts.toList (MD (aB ac) h):=⟨by unfold MD;rw [Cf];exact hl.1,λ i p q hp N=>by
    unfold MD at N;rw [Bh] at N;obtain ⟨q',R,rfl⟩:=Cb.1 N;obtain ⟨a1,a2⟩:=hl.2 i p q' hp R
    exact ⟨a1,hm.pureV 4 _ _ a2⟩⟩
   obtain ⟨d,f1,W⟩:=uK (place:=λ i=>some (i*b,b)) (λ i p hp=>hp) e1 T O;have o:(Ju t len vparts).run E.P w= .ok (.slice (some ⟨w.heap.size,0,Nf⟩) len len) (w.alloc (.cells d e)):=by
    have X:(E.P.info? e).map (·.size)=some b:=by simp [hi,hs]
    unfold Ju;simp only [Bi,run_underlying hu,Ap,af X];rw [if_neg o_];have L:(zeroValue e).run E.P w= .ok z w:=by simp [zeroValue,typeInfo,hi,hz]
    by_cases G:len*b=0
    .have B:(Kk (len*b)).map ((#[]:Array Value)[· % (#[]:Array Value).size]!)=f:=by
      show _=(if len*b=0 then (#[]:Array Value) else (Kk (len*b)).map (z.cells[· % z.cells.size]!))
      rw [if_pos G,G];simp
     rw [if_pos G];simp only [Bi,Bu,Ap];rw [B,f1];rfl
    .have B:(Kk (len*b)).map (z.cells[· % z.cells.size]!)=f:=by
      show _=(if len*b=0 then (#[]:Array Value) else (Kk (len*b)).map (z.cells[· % z.cells.size]!))
      simp
     rw [if_neg G];simp only [Bi,Bu,Ap,L];rw [B,f1];rfl
   have m:xs.length=len:=by rw [e4,A]
   have r:d.toList.length=xs.length*b:=by rw [W.1,e2];simp;rw [m]
   have l:∀ (j:Nat) c,cellAt b xs j=some c->cs'[j]? =some c/\AW.one c=true:=by intro j c C;obtain ⟨y,Y,D⟩:=fZ C;have:=e6 _ _ y c Y D;rw [Bw,Da,Ft] at this;obtain ⟨_,h1⟩:=I y (Av Y);exact ⟨this,lL h1 _ c D⟩
   have F:∀ u∈d.toList,u.oneCell'=true:=λ u S=>by
    obtain ⟨j,Z⟩:=Cq S;have n:j<xs.length*b:=by rw [<-r];exact (Ac.1 Z).1
    obtain ⟨c,C⟩:=yT k (λ x U=>(I x U).1) n;obtain ⟨h1,h2⟩:=l j c C;exact (W.2 j u c Z h1).one h2
   have g:=Grown.ofAlloc (M:=M) (w:=w) (e:=e) (xs:=xs) (cv:=d.toList) k r F (λ x U=>(I x U).1) (by rw [m];unfold maxLen;have:len*1<=len*b:=Nat.mul_le_mul_left _ k;omega) (λ q c C=>by
    obtain ⟨h1,_⟩:=l q c C;have n:q<d.toList.length:=by rw [r];exact fI k C
    exact ⟨_,Aa n,W.2 q _ c (Aa n) h1⟩)
   have V:d.toList.toArray=d:=by simp
   rw [V,m] at g;split
   .exact GY hm o g ⟨_,len,rfl⟩
   .exact pW hm H J o g
  .exact trivial
 .exact trivial
def M5(hm:Mem M ob ac w)(c:ac[base]? =some .dead)(d:ob[base]? =some []){t:TypeId}{v:Value}{a:aa}(h:Rep M ob v a)(h1:pG a.cells=true):
  PM P M ob w (do Pure.pure (.pointer (some (<-newVar t v))):Sem Value) ac base (.born (.cells t a.cells) (.ref base 0)):=by
 obtain ⟨hl,b,g⟩:=h.cells_one h1;obtain ⟨i,f,j,k⟩:=hm.bornCells c d t hl b g;have e:v.cells.toList.toArray=v.cells:=by simp
 rw [e] at i f;refine ⟨.pointer (some ⟨w.heap.size,0,Nf⟩),w.alloc (.cells v.cells t),M,ob.set base [.pointer (some ⟨w.heap.size,0,Nf⟩)],?_,?_⟩
 .rfl
 .rw [aL c]
  grind
end
section
variable {P:Program} {E:Env} {M:Imm} {ob:Hs} {ac:au} {w:World} {base:Nat}
def aIY(P:Program)(k:Nat)(a:Bool)(n:Nat):Prop:=(a=false/\n=1/\P.underlying k=some (.int .i64))\/(a=true/\(P.underlying k).isSome=true/\KT P k n)
def GQ:∀ {cs:ax} {l:aw},NQ cs=some l->cs=l.map (aa.int .i64)
 | [],l,h=>by cases h;rfl
 | c::r,l,h=>by
  cases c<;>first | (simp [NQ] at h;done) | skip
  rename_i k n;cases k<;>first | (simp [NQ] at h;done) | skip
  cases a:NQ r with
  | none=>simp [NQ,a] at h
  | some q=>
   simp only [NQ,a,Dp] at h;subst h;simp [GQ a]
def xY(hE:ae E){k:Nat}{e:Bool}{a:aa}{l:aw}{v:Value}(h:GM E k e a=some l)(m:Rep M ob v a):v=fQ e l/\aIY E.P k e l.length:=by
 cases e with
 | false=>
  simp only [GM] at h;split at h
  .rename_i f;split at h
   .cases h;have r:=(hE.tab _ _ f).kind.1;exact ⟨m.int_inv.1,.inl ⟨rfl,rfl,r⟩⟩
   .cases h
  .cases h
 | true=>
  simp only [GM] at h;split at h
  .rename_i s f;have g:=(hE.tab _ _ f).kind.isAgg.1;split at h
   .rename_i cs;split at h
    .rename_i t b;obtain ⟨h1,p⟩:=eT h;cases p;obtain ⟨h3,q⟩:=aS h1;have j:=GQ b;subst j;obtain ⟨vs,rfl,hl,o⟩:=m.agg_inv;have d:l.length=AP E.fl k:=by
      have:=aC q;rw [xB] at this
      grind
     refine ⟨?_,.inr ⟨rfl,g,?_⟩⟩
     .simp only [fQ,if_true];congr 2;refine Ea λ i=>?_;rw [Bh];cases b:l[i]? with
      | none=>
       have:=List.getElem?_eq_none_iff.1 b;rw [Bg (by grind)];rfl
      | some n=>
       have c:i<vs.length:=by have:=(Ac.1 b).1;rw [hl];simp;omega
       have:=o i _ (.int .i64 n) (Aa c) (by simp [b]);rw [Aa c,this.int_inv.1];rfl
     .rw [d];exact (hE.fl k (by simpa [Jq] using h3)).2
    .cases h
   .cases h
  .cases h
def pK:∀ {es:List (aw×aa)} {key:aw},(∀ y∈es,y.1≠key)->bB es key=none/\(∀ v,kF es key v=es++[(key,v)])/\E2 es key=es
 | [],key,_=>⟨rfl,λ_=>rfl,rfl⟩
 | (k,x)::r,key,h=>by obtain ⟨h1,c,h3⟩:=pK (es:=r) (key:=key) λ y b=>h y (by simp [b]);have a:¬ k=key:=h (k,x) s_;exact ⟨by simp [bB,a,h1],λ v=>by simp [kF,a,c],by simp [E2,a,h3]⟩
def wB:∀ {es:List (aw×aa)} {key:aw} {j:Nat} {y:aw×aa},es[j]? =some y->y.1=key->(∀ (i:Nat) b,i<j->es[i]? =some b->b.1≠key)->
  bB es key=some y.2/\(∀ v,kF es key v=es.set j (key,v))/\E2 es key=es.eraseIdx j
 | [],key,j,y,h,_,_=>by simp at h
 | (k,x)::r,key,0,y,h,a,_=>by
  simp only [Lw,Dp] at h;subst h;have a:k=key:=a;exact ⟨by simp [bB,a],λ v=>by simp [kF,a],by simp [E2,a]⟩
 | (k,x)::r,key,j+1,y,h,a,hb=>by obtain ⟨h1,e,h3⟩:=wB (es:=r) (key:=key) (j:=j) (y:=y) (by simpa using h) a λ i b f d=>hb (i+1) b o_ q_;have c:¬ k=key:=hb 0 (k,x) o_ rfl;exact ⟨by simp [bB,c,h1],λ v=>by simp [kF,c,e],by simp [E2,c,h3]⟩
def FG(b:Bool)(n:Nat)(a:List MapEntry)(es:List (aw×aa)):Prop:=a.length=es.length/\∀ (i:Nat) x y,a[i]? =some x->es[i]? =some y->x.key=fQ b y.1/\y.1.length=n
def FG.tail{d:Bool}{n:Nat}{x:MapEntry}{y:aw×aa}{c:List MapEntry}{es:List (aw×aa)}(h:FG d n (x::c) (y::es)):FG d n c es:=
 ⟨by simpa using h.1,λ i a b e f=>h.2 (i+1) a b (by grind) (by grind)⟩
def FG.cons{a:Bool}{n:Nat}{x:MapEntry}{b:List MapEntry}{es:List (aw×aa)}(h:FG a n (x::b) es):∃ y r,es=y::r/\x.key=fQ a y.1/\y.1.length=n/\FG a n b r:=by
 cases es with
 | nil=>have:=h.1;simp at this
 | cons y r=>exact ⟨y,r,rfl,(h.2 0 x y rfl rfl).1,(h.2 0 x y rfl rfl).2,h.tail⟩
def AF(key:aw)(a:List MapEntry)(es:List (aw×aa))(o:Nat)(r:Option (Nat×Value)):Prop:=
 (r=none/\∀ y∈es,y.1≠key)\/∃ j x y,r=some (o+j,x.val)/\a[j]? =some x/\es[j]? =some y/\y.1=key/\∀ (i:Nat) y',i<j->es[i]? =some y'->y'.1≠key
def AF.there{key:aw}{x:MapEntry}{y:aw×aa}{a:List MapEntry}{es:List (aw×aa)}{o:Nat}(h:y.1=key):AF key (x::a) (y::es) o (some (o,x.val)):=
 .inr ⟨0,x,y,rfl,rfl,rfl,h,λ i _ b=>by omega⟩
def AF.on{key:aw}{x:MapEntry}{y:aw×aa}{a:List MapEntry}{es:List (aw×aa)}{o:Nat}{r:Option (Nat×Value)}(d:y.1≠key)(h:AF key a es (o+1) r):AF key (x::a) (y::es) o r:=by
 rcases h with ⟨h1,b⟩ | ⟨j,x',e,h1,b,h3,c,f⟩
 .exact .inl ⟨h1,λ z hz=>by grind⟩
 .refine .inr ⟨j+1,x',e,by grind,by simp;omega,by simp;omega,c,λ i z g hz=>?_⟩;cases i with
  | zero=>simp at hz;grind
  | succ i=>exact f i z o_ (by simpa using hz)
def zV(a:Int):∀ (c:List MapEntry) (es:List (aw×aa)) (o:Nat),FG false 1 c es->∃ r,Ln (.int .i64) (.int .i64 a) c o=some r/\AF [a] c es o r
 | [],es,o,h=>⟨none,rfl,.inl ⟨rfl,λ y m=>by
   have:es=[]:=Ay (by have:=h.1;grind)
   grind⟩⟩
 | x::c,es,o,h=>by
  obtain ⟨y,r,rfl,h1,f,h3⟩:=h.cons;obtain ⟨k,v⟩:=y;have f:k.length=1:=f
  match k,f with
  | [b],_=>
   have j:x.key= .int .i64 b:=h1;simp only [Ln,j,Instr.sameNow,if_true];by_cases d:a=b
   .subst d;simp only [beq_self_eq_true];exact ⟨_,rfl,.there rfl⟩
   .have:(a==b)=false:=by grind
    rw [this];obtain ⟨l,g,i⟩:=zV a c r (o+1) h3;exact ⟨l,g,.on (λ e=>d (by cases e;rfl)) i⟩
def qF{k:Nat}{n:Nat}(f:KT P k n){key:aw}(d:key.length=n):∀ (a:List MapEntry) (es:List (aw×aa)) (o:Nat),FG true n a es->∃ r,(Jv k (fQ true key) a o).run P w= .ok r w/\AF key a es o r
 | [],es,o,h=>⟨none,by rfl,.inl ⟨rfl,λ y m=>by
   have:es=[]:=Ay (by have:=h.1;grind)
   grind⟩⟩
 | x::a,es,o,h=>by
  obtain ⟨y,r,rfl,h1,i,h3⟩:=h.cons;have b:=(f w key y.1 d i).1;rw [<-h1] at b;by_cases c:key=y.1
  .rw [decide_eq_true c] at b;exact ⟨_,by simp [Jv,b],.there c.symm⟩
  .rw [decide_eq_false c] at b;obtain ⟨l,g,j⟩:=qF f d a r (o+1) h3;exact ⟨l,by simp [Jv,b,g],.on (λ e=>c e.symm) j⟩
def rC{k:Nat}{g:Bool}{n:Nat}(m:aIY P k g n){key:aw}(i:key.length=n){b:List MapEntry}{es:List (aw×aa)}(h:FG g n b es):
  ∃ r,(Lo k (fQ g key) b).run P w= .ok r w/\AF key b es 0 r:=by
 rcases m with ⟨rfl,rfl,e⟩ | ⟨rfl,l,j⟩
 .match key,i with
  | [a],_=>
   obtain ⟨r,c,f⟩:=zV a b es 0 h;exact ⟨r,by simp [Lo,run_underlying e,fQ,c],f⟩
 .obtain ⟨r,c,f⟩:=qF (w:=w) j i b es 0 h;cases e:P.underlying k with
  | none=>grind
  | some d=>
   cases b with
   | nil=>simp [Jv] at c;subst c;exact ⟨none,by simp [Lo,run_underlying e,Ln],f⟩
   | cons x b=>
    obtain ⟨y,p,rfl,h1,o,h3⟩:=h.cons;refine ⟨r,?_,f⟩;have hs:Instr.sameNow d (fQ true key) x.key=none:=by rw [h1];simp only [fQ,if_true];cases d<;>rfl
    simp only [Lo,Bi,run_underlying e,Ap,Ln,hs];exact c
def IR{k:Nat}{c:Bool}{n:Nat}(g:aIY P k c n){key:aw}(a:key.length=n)(b:Bool):(Hk b 10000 k (fQ c key)).run P w= .ok () w:=by
 rcases g with ⟨rfl,rfl,e⟩ | ⟨rfl,f,d⟩
 .rw [show (10000:Nat)=9999+1 from rfl,Hk];simp only [Bi,run_underlying e,Ap,fQ,Cn,if_false,Bu]
 .exact (d w key key a a).2 b
def Mem.mpOf(hm:Mem M ob ac w){j:Nat}{c:Bool}{es:List (aw×aa)}(g:aB ac j= .mp c es){v:Value}(e:Rep M ob v (.mref j)):
  ∃ b,v= .map (some b)/\ob[j]? =some [.map (some b)]/\ac[j]? =some (.mp c es)/\(∀ o,NoM M b o)/\aAc M w b c es:=by
 cases e with
 | mref _ b a=>
  have i:=bZ g s_;obtain ⟨hs,h,f,d,l,k⟩:=hm.obj j _ i;have:f=b:=by rw [bT h,d] at a;simp_all
  subst this;simp_all
def aAc.enOK{b:Nat}{a:Bool}{es:List (aw×aa)}{n:Nat}{c:List MapEntry}(hl:c.length=es.length)(h:∀ (i:Nat) x y,c[i]? =some x->es[i]? =some y->x.key=fQ a y.1/\(a=false->y.1.length=1)/\Rep M [] x.val y.2)
  (g:(a=false/\n=1)\/(a=true/\∀ p∈es,p.1.length=n)):FG a n c es:=
 ⟨hl,λ i x y f d=>⟨(h i x y f d).1,by
  rcases g with ⟨h1,e⟩ | ⟨_,e⟩
  .rw [e];exact (h i x y f d).2.1 h1
  .exact e y (Av d)⟩⟩
def IO{VS:aa->au->Prop}{CS:Fn->ax->Prop}{PS:aa->Prop}{a:Bool}{es:List (aw×aa)}{key:aw}{r:OR}{k:Nat}(c:aIY P k a key.length)
  (h:(a=false/\key.length=1)\/(a=true/\∀ p∈es,p.1.length=key.length)->Sd VS CS PS ac base r):Sd VS CS PS ac base (A8 a es key r):=by
 rcases c with ⟨rfl,b,_⟩ | ⟨rfl,_⟩
 .exact h (.inl ⟨rfl,b⟩)
 .exact λ hp=>h (.inr ⟨rfl,hp⟩)
def Rep.pairB{v:Value}{a:aa}(h:Rep M ob v a)(b:Bool):Rep M ob (.tuple #[v,.bool b]) (.tup [a,.bool b]):=by
 refine .tup [v,.bool b] _ rfl λ i q c d e=>?_;rcases i with _ | _ | i
 .grind
 .simp at d e;subst d e;exact .bool b
 simp_all
def ZD(hE:ae E)(hm:Mem M ob ac w){t:Nat}{G kv:Value}{m k:aa}(B:Rep M ob G m)(C:Rep M ob kv k)(ok:Bool):
  PS0 E.P M ob w (Mb t G kv ok) ac base (J3 E (aB ac) t m k ok):=by
 unfold J3;split
 .rename_i S e _ _ _ j N;have l:=(hE.tab _ _ N).kind.1;split
  .rename_i Q R es p u;split
   .rename_i key g;obtain ⟨rfl,d⟩:=xY hE g C;refine IO d λ K=>?_;obtain ⟨b,rfl,_,_,_,O,A,H,hl,n,_⟩:=hm.mpOf u B;obtain ⟨r,D,v⟩:=rC (w:=w) d rfl (aAc.enOK (b:=b) hl n K);have a:=λ I=>IR (w:=w) d rfl I;obtain ⟨i,z,J,_,hz,_,h,_⟩:=(hE.tab _ _ p).info;have s:(zeroValue e).run E.P w= .ok z w:=by simp [zeroValue,typeInfo,J,hz]
    rcases v with ⟨rfl,v⟩ | ⟨q,x,y,rfl,L,F,o,f⟩
    .rw [Sd.eq_def];simp only;rw [(pK v).1];refine ⟨rfl,if ok then .tuple #[z,.bool false] else z,?_,?_⟩
     .simp only [Mb,Bi,run_underlying l,Ap,MapKept.run_getObj_map H,a,D,s,Bu]
     .cases ok with
      | true=>exact (jP h).pairB false
      | false=>exact jP h
    .rw [Sd.eq_def];simp only;rw [(wB F o f).1];have c:=(n q x y L F).2.2.pure (ob:=ob);refine ⟨rfl,if ok then .tuple #[x.val,.bool true] else x.val,?_,?_⟩
     .simp only [Mb,Bi,run_underlying l,Ap,MapKept.run_getObj_map H,a,D,Bu]
     .cases ok with
      | true=>exact c.pairB true
      | false=>exact c
   .exact trivial
  .exact trivial
 .exact trivial
abbrev IN(w:World)(b:Nat)(o:Obj):World:={w with heap:=w.heap.setIfInBounds b o}
def XP{b:Nat}{o a:Obj}(h:w.heap[b]? =some a):(IN w b o).heap[b]? =some o:=by have:=fA h;simp_all
def B2{b c:Nat}{o:Obj}(h:c≠b):(IN w b o).heap[c]? =w.heap[c]?:=by grind
def Mem.mpTurn(h:Mem M ob ac w){j b f clock':Nat}{d:Bool}{es es':List (aw×aa)}{s:Array MapEntry}{en':List MapEntry}(z:ac[j]? =some (.mp d es))(q:ob[j]? =some [.map (some b)])(m:∀ o,NoM M b o)(r:w.heap[b]? =some (.map s f))
  (hl:en'.length=es'.length) (C:∀ (i:Nat) x y,en'[i]? =some x->es'[i]? =some y->x.key=fQ d y.1/\(d=false->y.1.length=1)/\Rep M [] x.val y.2)
  (h1:∀ (i:Nat) x,en'[i]? =some x->x.born<clock') (A:∀ (i j:Nat) x y,en'[i]? =some x->en'[j]? =some y->x.born=y.born->i=j):
  Mem M ob (ac.set j (.mp d es')) (IN w b (.map en'.toArray clock'))/\Ext M ob ac w M ob (ac.set j (.mp d es')) (IN w b (.map en'.toArray clock'))/\cI ob ac ob (ac.set j (.mp d es')):=by
 have k:=fS (l:=ob) q
 have:=h.turn (M':=M) (w':=IN w b (.map en'.toArray clock')) (x':=.mp d es') (hs':=[.map (some b)]) z q (Cl _) (λ e=>by cases e) (λ_ _ _ h=>h) (λ_ _ _ h=>.inl h) (λ c o y p=>by
   obtain ⟨u,D,B,F⟩:=h.imm c o y p;have n:c≠b:=λ e=>by subst e;exact m o y p
   exact ⟨u,(Co (w:=w) (a:=⟨c,o,none⟩) (B2 n)).trans D,B,F⟩)
  (λ c _ v=>B2 λ e=>v ⟨rfl,by subst e;exact dS.2 rfl⟩) rfl rfl rfl s_ (λ t=>⟨b,rfl,m,en',clock',XP r,hl,C,h1,A⟩)
  (λ_ c g=>⟨.inl ⟨rfl,g⟩,by
   have:b=c:=dS.1 g;subst this;have:=fA r
   simp;omega⟩)
 rw [k] at this;exact this
def tJ:∀ (n:Nat) (l:aw),(((l.map (Dz .i64)).zip (l.map (Dz .i64))).all λ(x,y)=>Jm n x y)=true
 | n,[]=>rfl
 | n,a::r=>by simp only [Bl,List.zip_cons_cons,Jy,tJ n r,Jz];cases n<;>simp [Jm]
def IQ(n:Nat)(a:Bool)(l:aw):Jm (n+1) (fQ a l) (fQ a l)=true:=by
 cases a with
 | false=>simp [fQ,Jm]
 | true=>
  simp only [fQ,if_true,Jm,beq_self_eq_true,Dc];exact tJ n l
def aGL{a:List MapEntry}{q:Nat}{x:MapEntry}(b:a[q]? =some x)(f:MapEntry->MapEntry):a.toArray.modify q f=(a.set q (f x)).toArray:=by
 apply Ds;simp only [Array.toList_modify];refine Ea λ i=>?_;rw [List.getElem?_modify,Gx];have c:=(Ac.1 b).1;by_cases d:q=i
 .grind
 .simp [d]
def nX:Rep M ob (.tuple #[]) (.tup []):=.tup [] [] rfl λ i v a h=>by simp at h
def aDL(hE:ae E)(hm:Mem M ob ac w){t:Nat}{mv kv F:Value}{m k v:aa}(hmv:Rep M ob mv m)(Z:Rep M ob kv k)(hvv:Rep M ob F v):
  Sd (VU E.P M ob ac w (Kr t mv kv F)) (λ_ _=>False) (λ_=>False) ac base (RV E (aB ac) t m k v):=by
 unfold RV;split
 .rename_i kt _ _ _ _ j hT;have Q:=(hE.tab _ _ hT).kind.1;split
  .rename_i s es hog;split
   .rename_i key W;obtain ⟨rfl,I⟩:=xY hE W Z;have z:=hm.pureV 4 F v hvv;generalize ah (aB ac) 4 v=v' at z;refine sdc λ_=>IO I λ hn=>?_;have U:s=false->key.length=1:=λ e=>by grind
    obtain ⟨b,rfl,T,o,R,l,f,J,hl,D,hst,H⟩:=hm.mpOf hog hmv;obtain ⟨r,hr,Y⟩:=rC (w:=w) I rfl (aAc.enOK (b:=b) hl D hn);have G:=λ em=>IR (w:=w) I rfl em;rcases Y with ⟨rfl,Y⟩ | ⟨q,x,y,rfl,K,hy,L,V⟩
    .have B:=(pK Y).2.1 v'
     have:=hm.mpTurn (es':=es++[(key,v')]) (en':=l++[⟨fQ s key,F,f⟩]) (clock':=f+1) o T R J (by simp [hl]) (λ i a c d u=>by
       by_cases g:i<l.length
       .rw [Af g] at d;rw [Af o_] at u;exact D i a c d u
       .rw [Ak o_] at d;rw [Ak o_] at u;have p:i-l.length=0:=by have:=(Ac.1 d).1;simp at this;omega
        rw [p] at d;rw [<-hl,p] at u;simp at d u;subst d u
        exact ⟨rfl,U,z⟩) (λ i a d=>by
       by_cases g:i<l.length
       .rw [Af g] at d;have:=hst i a d;omega
       .rw [Ak o_] at d;have p:i-l.length=0:=by have:=(Ac.1 d).1;simp at this;omega
        rw [p] at d;simp at d;subst d
        simp) (λ i N a a' d h A=>by
       have n:∀ {i:Nat} {a:MapEntry},¬ i<l.length->(l++[⟨fQ s key,F,f⟩])[i]? =some a->i=l.length/\a.born=f:=λ{i a} g d=>by
        rw [Ak o_] at d;have p:i-l.length=0:=by have:=(Ac.1 d).1;simp at this;omega
        rw [p] at d;simp at d;subst d;simp;omega
       by_cases g:i<l.length<;>by_cases C:N<l.length
       .rw [Af g] at d;rw [Af C] at h;exact H i N a a' d h A
       .rw [Af g] at d;have:=hst i a d;have:=(n C h).2;omega
       .rw [Af C] at h;have:=hst N a' h;have:=(n g d).2;omega
       .have:=(n g d).1;have:=(n C h).1
        omega)
     refine ⟨rfl,IN w b (.map (l++[(⟨fQ s key,F,f⟩:MapEntry)]).toArray (f+1)),M,ob,?_,?_⟩
     .simp only [Kr,Bi,run_underlying Q,Ap,MapKept.run_getObj_map J,G,hr,MapKept.run_setObj_map _ J];simp
     .rw [B,aL o];exact ⟨this.2.1,this.1,this.2.2⟩
    .have B:=(wB hy L V).2.1 v';have hxk:=(D q x y K hy).1;have hql:=(Ac.1 K).1
     have:=hm.mpTurn (es':=es.set q (key,v')) (en':=l.set q ⟨fQ s key,F,x.born⟩) (clock':=f) o T R J (by simp [hl]) (λ i a c d u=>by
       rw [Gx] at d u;by_cases g:q=i
       .rw [if_pos g] at d u;subst g;rw [if_pos hql] at d;rw [if_pos o_] at u;cases d;cases u;exact ⟨rfl,U,z⟩
       .rw [if_neg g] at d u
        exact D i a c d u) (λ i a d=>by
       rw [Gx] at d;by_cases g:q=i
       .rw [if_pos g,if_pos o_] at d;cases d;exact hst q x K
       .rw [if_neg g] at d
        exact hst i a d) (λ i N a a' d h A=>by
       have S:∀ {i:Nat} {a:MapEntry},(l.set q ⟨fQ s key,F,x.born⟩)[i]? =some a->∃ X,l[i]? =some X/\X.born=a.born:=λ{i a} d=>by
        rw [Gx] at d;by_cases g:q=i
        .rw [if_pos g,if_pos o_] at d;cases d;exact ⟨x,g▸K,rfl⟩
        .rw [if_neg g] at d;exact ⟨a,d,rfl⟩
       obtain ⟨X,g1,g2⟩:=S d;obtain ⟨a0',g1',g2'⟩:=S h
       exact H i N X a0' g1 g1' o_)
     refine ⟨rfl,IN w b (.map (l.set q ⟨fQ s key,F,x.born⟩).toArray f),M,ob,?_,?_⟩
     .have O:(((l.toArray[0+q]?).map (·.key)).getD (fQ s key))=fQ s key:=by simp only [Bw,Jo,K,Mj,Js];rw [hxk,L]
      have hst:(Instr.keyThatStays (fQ s key) (fQ s key)).run E.P w= .ok (fQ s key) w:=by unfold Instr.keyThatStays;rw [show (10000:Nat)=9999+1 from rfl,IQ 9999 s key];simp
      simp only [Kr,Bi,run_underlying Q,Ap,MapKept.run_getObj_map J,G,hr,O,hst,MapKept.run_setObj_map _ J];rw [Bw,aGL K]
     .rw [B,aL o];exact ⟨this.2.1,this.1,this.2.2⟩
   .exact trivial
  .exact trivial
 .exact trivial
def ZC(hE:ae E)(hm:Mem M ob ac w){t Y ty:Nat}{Q kv:Value}{m k:aa}(K:Rep M ob Q m)(L:Rep M ob kv k):
  PM E.P M ob w (Ks #[t,Y] ty #[Q,kv]) ac base (J2 E (aB ac) t m k):=by
 unfold J2;split
 .rename_i kt _ _ _ _ j W;have D:=(hE.tab _ _ W).kind.1;split
  .rename_i ag es I;split
   .rename_i key B;obtain ⟨rfl,o⟩:=xY hE B L;refine IO o λ T=>?_;obtain ⟨b,rfl,C,e,F,u,d,v,hl,p,hst,f⟩:=hm.mpOf I K;obtain ⟨r,O,J⟩:=rC (w:=w) o rfl (aAc.enOK (b:=b) hl p T);have g:=λ S=>IR (w:=w) o rfl S;rcases J with ⟨rfl,J⟩ | ⟨q,x,y,rfl,U,V,N,z⟩
    .have:=hm.mpTurn (es':=es) (en':=u) (clock':=d) e C F v hl p hst f;refine ⟨.tuple #[],IN w b (.map u.toArray d),M,ob,?_,?_⟩
     .simp [Ks,run_underlying D,MapKept.run_getObj_map v,g,O,MapKept.run_setObj_map _ v,Eb]
     .rw [(pK J).2.2,aL e];exact ⟨this.2.1,this.1,this.2.2,nX⟩
    .have H:=(Ac.1 U).1;have G:(u.toArray.eraseIdxIfInBounds q)=(u.eraseIdx q).toArray:=by simp
     have n:∀ {α:Type} (l:List α) (i:Nat),(l.eraseIdx q)[i]? =l[if i<q then i else i+1]?:=λ l i=>by rw [List.getElem?_eraseIdx];split<;>rfl
     have:=hm.mpTurn (es':=es.eraseIdx q) (en':=u.eraseIdx q) (clock':=d) e C F v (by
       rw [Lc H,Lc o_];omega) (λ i a c h R=>by
       rw [n] at h R
       exact p _ a c h R) (λ i a h=>by
       rw [n] at h
       exact hst _ a h) (λ i Z a X h A s=>by
       rw [n] at h A;have:=f _ _ a X h A s
       split at this<;>split at this<;>omega)
     refine ⟨.tuple #[],IN w b (.map (u.eraseIdx q).toArray d),M,ob,?_,?_⟩
     .simp [Ks,run_underlying D,MapKept.run_getObj_map v,g,O,MapKept.run_setObj_map _ v,Eb,G]
     .rw [(wB V N z).2.2,aL e];exact ⟨this.2.1,this.1,this.2.2,nX⟩
   .exact trivial
  .exact trivial
 .exact trivial
end
section
variable {P:Program} {E:Env} {M:Imm} {ob:Hs} {ac:au} {w:World} {base:Nat}
def Rep.nilif_inv{v:Value}(h:Rep M ob v .nilif):v= .nilIface:=by cases h;rfl
def BE{ρv:Operand->Value}{ρ:Operand->aa}(h:∀ x,Rep M ob (ρv x) (ρ x)):∀ (l:List Operand),bX M ob (l.map ρv) (evO ρ l)
 | []=>⟨rfl,λ i v a h=>by simp at h⟩
 | x::l=>by
  obtain ⟨h1,e⟩:=BE h l;refine ⟨by simp [AW.evO,h1],λ i v b d c=>?_⟩;cases i with
  | zero=>simp [AW.evO] at d c;grind
  | succ i=>exact e i v b (by simpa using d) (by simpa [AW.evO] using c)
def JV{ρv:Operand->Value}{ρ:Operand->aa}(h:∀ x,Rep M ob (ρv x) (ρ x)):∀ (l:List (Nat×Operand)),ER M ob (l.map λ(p:Nat×Operand)=>(p.1,ρv p.2)) (evL ρ l)
 | []=>⟨rfl,λ i p q h=>by simp at h⟩
 | (n,x)::l=>by
  obtain ⟨h1,b⟩:=JV h l;refine ⟨by simpa [AW.evL] using h1,λ i p q hp a=>?_⟩;cases i with
  | zero=>simp [AW.evL] at hp a;subst hp a;exact ⟨rfl,h x⟩
  | succ i=>exact b i p q (by simpa using hp) (by simpa [AW.evL] using a)
def bX.append{vs us:ba}{as bs:ax}(h:bX M ob vs as)(k:bX M ob us bs):bX M ob (vs++us) (as++bs):=by
 refine ⟨by simp [h.1,k.1],λ i v a c b=>?_⟩;by_cases d:i<vs.length
 .rw [Af d] at c;rw [Af (by rw [<-h.1];exact d)] at b;exact h.2 i v a c b
 .rw [Ak o_] at c;rw [Ak (by rw [<-h.1];omega),<-h.1] at b;exact k.2 _ v a c b
def bX.cons{v:Value}{a:aa}{vs:ba}{as:ax}(h:Rep M ob v a)(k:bX M ob vs as):bX M ob (v::vs) (a::as):=
 bX.append (vs:=[v]) (as:=[a]) ⟨rfl,λ i u b c d=>by cases i with | zero=>grind | succ i=>simp at c⟩ k
def sF(hE:ae E){t:Nat}{v:Value}{a:aa}(h:Rep M ob v a):Rep M ob v (BU E t a):=by
 unfold BU;split
 .split
  .cases h;exact .slnil _ _ rfl
  .exact h
 .exact h
def cA.now{ρv:Operand->Value}{op:Op}{ty:TypeId}{u:Value}{v:aa}(hm:Mem M ob ac w)(b:∀ d pos a g,execOp ρv ⟨d,op,ty,pos,a,g⟩=Pure.pure (.value u))(h:Rep M ob u v):VS P ρv op ty M ob ac w v ac:=
 ⟨u,w,M,ob,λ d pos a g=>.inl (by rw [b];rfl),Ext.refl _ _ _ _,hm,cI.refl _ _,h⟩
def aBd(b:Array TypeId)(t:TypeId)(k a:IntKind)(x y:Int):(Builtin.max_ b t #[.int k x,.int a y]).run P w= .ok (.int k (max x y)) w:=by
 rw [run_max_int2]
 grind
def aBc(b:Array TypeId)(t:TypeId)(k a:IntKind)(x y:Int):(Builtin.min_ b t #[.int k x,.int a y]).run P w= .ok (.int k (min x y)) w:=by
 rw [run_min_int2]
 grind
def I8{ρv:Operand->Value}{ρ:Operand->aa}(h:∀ x,Rep M ob (ρv x) (ρ x))(l:Option Operand):ES M ob (l.map ρv) (l.map ρ):=by
 cases l with
 | none=>exact .inl ⟨rfl,rfl⟩
 | some y=>exact .inr ⟨_,_,rfl,rfl,h y⟩
def uT.notIface{P:Program}{t:Nat}{l:Bool}{size:Nat}{k:TK}(h:uT P t l size k)(j:k≠ .iface):∃ c,P.underlying t=some c/\∀ f,c≠ .interface f:=by
 obtain ⟨a,_⟩:=h.isAgg;obtain ⟨c,d⟩:=Cy.1 a;refine ⟨c,d,λ f e=>?_⟩;subst e;cases k with
 | int k=>have:=h.1;grind
 | bool=>have:=h.1;grind
 | str=>have:=h.1;grind
 | strct o=>obtain ⟨⟨fl,g,_⟩,_⟩:=h;grind
 | arr n s p=>obtain ⟨⟨fl,g,_⟩,_⟩:=h;grind
 | slc e s b=>have:=h.1.1;grind
 | ptr e=>have:=h.1;grind
 | iface=>grind
 | mp k e=>have:=h.1;grind
 | other=>obtain ⟨⟨m,g,i⟩,_⟩:=h;grind
def DJ{k:IntKind}{x y:Int}(b:inR k x)(a:inR k y):inR k (min x y)/\inR k (max x y):=by grind
def RP(hE:ae E)(hm:Mem M ob ac w)(D:ac[base]? =some .dead)(F:ob[base]? =some []){ρv:Operand->Value}{ρ:Operand->aa}(j:∀ x,Rep M ob (ρv x) (ρ x))(hint:Nat)(op:Op)(ty:TypeId):
  cA E.P ρv op ty M ob ac w base (lV E hint base (aB ac) ρ op ty):=by
 cases op with
 | move x=>exact cA.now hm (λ_ _ _ _=>rfl) (j x)
 | assign x=>
  have A:=sF hE (t:=ty) (j x);have hs:∀ d pos a g,execOp ρv ⟨d,.assign x,ty,pos,a,g⟩=((Pure.pure (ρv x):Sem Value) >>= λ v=>Pure.pure (.value v)):=λ_ _ _ _=>rfl;simp only [lV];split
  .exact cA.now hm (λ_ _ _ _=>rfl) A
  .split
   .rename_i esz xs t heq;rw [heq] at A;split
    .split
     .obtain ⟨_,Y⟩:=A.untok;have Y:ρv x= .slice none 0 0:=Y;split
      .refine sdc λ hg=>?_;obtain ⟨hg1,hg2⟩:=aS hg;have hpos:0<esz:=Ci hg2;refine cA.pm hs (pW hm D F (v:=.slice none 0 0) (w':=w) q_ ⟨⟨[],Gy w 0 _ _,by simp,λ q c hq=>by simp [cellAt] at hq⟩,hpos,by simp,λ b hb=>by simp [Gd] at hb,λ_ _=>rfl,rfl,rfl,rfl,Bf _,CT w⟩)
      .exact trivial
     .exact trivial
    .exact cA.now hm (λ_ _ _ _=>rfl) A
   .exact cA.now hm (λ_ _ _ _=>rfl) A
 | pick c x y=>
  have T:=j c;simp only [lV];split
  .rename_i l;rw [l] at T;exact cA.now hm (λ_ _ _ _=>by simp [execOp,T.bool_inv,asBool]) (j x)
  .rename_i l;rw [l] at T;exact cA.now hm (λ_ _ _ _=>by simp [execOp,T.bool_inv,asBool]) (j y)
  .exact trivial
 | alloc t=>
  simp only [lV];split
  .rename_i W C;refine sdc λ h1=>?_;obtain ⟨i,z,hi,hs,hz,hzs,L,_,_⟩:=(hE.tab t W C).info;have hzv:(zeroValue t).run E.P w= .ok z w:=by simp [zeroValue,typeInfo,hi,hz]
   obtain ⟨u,w',M',ob',J,hrest⟩:=M5 (P:=E.P) (t:=t) hm D F (jP L) h1;have hal:(Ng t true (.tuple #[])).run E.P w= .ok u w':=by unfold Ng;rw [Bi,hzv];exact J
   exact cA.pm (r:=.born _ _) (s:=Ng t true (.tuple #[])) (λ_ _ _ _=>rfl) ⟨u,w',M',ob',hal,hrest⟩
  .exact trivial
 | box t x=>
  simp only [lV];refine sdc λ h1=>?_;exact cA.pm (r:=.born _ _) (s:=Instr.box t (ρv x)) (λ_ _ _ _=>rfl) (M5 (P:=E.P) (t:=t) hm D F (j x) h1)
 | build t ps=>
  exact cA.pv (s:=Instr.build t (ps.map λ(p:Nat×Operand)=>(p.1,ρv p.2))) hm (λ_ _ _ _=>rfl) (aDS hE (by simpa using JV j ps.toList))
 | buildSlice t n ps=>
  exact cA.pm (s:=Ju t n (ps.map λ(p:Nat×Operand)=>(p.1,ρv p.2))) (λ_ _ _ _=>rfl) (E8 hE hm D F (by simpa using JV j ps.toList))
 | load t x=>exact cA.pv (s:=Ma t (ρv x)) hm (λ_ _ _ _=>rfl) ((WH hE hm (j x)).bind λ v u h=>sF hE h)
 | store t x y=>
  refine Sd.mono (λ v o ⟨h1,w',M',ob',Z,h3,h4,h5⟩=>?_) (λ_ _ h=>h.elim) (λ_ h=>h.elim) (aDC (t:=t) hE hm (j x) (sF hE (t:=t) (j y)));refine ⟨undef,w',M',ob',λ d pos a g=>.inr ⟨?_,rfl⟩,h3,h4,h5,by rw [h1];exact .undef _⟩;have:execOp ρv ⟨d,.store t x y,ty,pos,a,g⟩=(Kb t (ρv x) (ρv y) >>= λ_=>Pure.pure .skip):=rfl;simp_all
 | nilCheck x=>
  have A:=j x;simp only [lV];split<;>first | exact trivial | skip
  all_goals
   rename_i l;rw [l] at A;refine cA.now hm (u:=ρv x) (λ d pos a g=>?_) A;generalize hu:ρv x=u at A;simp only [execOp,hu];cases A<;>rfl
 | binOp bop t x y yt=>exact cA.pv (s:=J9 bop t x y (ρv x) (ρv y)) hm (λ_ _ _ _=>rfl) (aLn (og:=aB ac) hE (j x) (j y))
 | unOp uop t x=>
  have A:=j x;simp only [lV];refine cA.pv (s:=Op.unary uop (ρv x)) hm (λ_ _ _ _=>rfl) ?_;split
  .rename_i b l;rw [l] at A;rw [A.bool_inv];exact aP (u:=.bool (!b)) rfl (.bool _)
  .rename_i k n l;rw [l] at A;rw [A.int_inv.1];have e:(Op.unary .neg (.int k n)).run E.P w= .ok (.int k (k.wrap (0-n))) w:=rfl;exact ⟨λ hp=>⟨rfl,_,by rw [e,jQ hp],.int _ _ hp⟩,rfl,_,e,.int _ _ (jY _ _)⟩
  .rename_i k n l;rw [l] at A;rw [A.int_inv.1];exact aP (u:=.int k (dK .xor k (if k.signed then -1 else k.max) n)) rfl (.int _ _ (by unfold dK;exact jY _ _))
  .exact trivial
 | convert s t x=>exact cA.pm (s:=convert s t (ρv x)) (λ_ _ _ _=>rfl) (aH1 hE hm (j x))
 | makeInterface t x=>
  simp only [lV];refine cA.pv (s:=Instr.makeInterface t (ρv x)) hm (λ_ _ _ _=>rfl) ?_;split
  .rename_i W C;have hk:=(hE.tab t W C).kind;split
   .exact trivial
   .rename_i O;obtain ⟨dd,Q,U⟩:=hk.notIface O;refine aP (run_makeInterface w t _ ?_) (.iface _ _ _ (j x));unfold Program.concrete;simp_all
  .exact trivial
 | makeFunc fn fs cs=>
  obtain ⟨p1,p2⟩:=BE j fs.toList;obtain ⟨q1,q2⟩:=BE j cs.toList;refine cA.now hm (u:=.func fn (fs.toList.map ρv).toArray (cs.toList.map ρv).toArray) (λ d pos a g=>?_) (.func fn _ _ _ _ p1 q1 p2 q2);have V:(fs.toList.map ρv).toArray=fs.map ρv:=by apply Ds;simp
  have e2:(cs.toList.map ρv).toArray=cs.map ρv:=by apply Ds;simp
  rw [V,e2];rfl
 | makeMap t x=>
  cases x with
  | some x=>exact trivial
  | none=>
   simp only [lV];split
   .split
    .rename_i tk _;obtain ⟨m1,m2,m3,m4⟩:=hm.bornMap D F tk.agg;refine cA.pm (r:=.born _ _) (s:=Instr.makeMap t none) (λ_ _ _ _=>rfl) ⟨_,_,M,ob.set base [.map (some w.heap.size)],run_makeMap t w,?_⟩;rw [aL D]
     grind
    .exact trivial
   .exact trivial
 | makeSlice t x y=>exact cA.pm (s:=Instr.makeSlice t (ρv x) (ρv y)) (λ_ _ _ _=>rfl) (aHY (hint:=hint) hE hm D F (j x) (j y))
 | slice t x lo hi mx=>exact cA.pv (s:=Gp t (ρv x) (lo.map ρv) (hi.map ρv) (mx.map ρv)) hm (λ_ _ _ _=>rfl) (aDD hE hm (j x) (I8 j lo) (I8 j hi) (I8 j mx))
 | fieldAddr t x f=>exact cA.pv (s:=Lm t (ρv x) f) hm (λ_ _ _ _=>rfl) (J5 hE (j x))
 | field t x f=>exact cA.pv (s:=Ms t (ρv x) f) hm (λ_ _ _ _=>rfl) ((aDN hE (j x)).bind λ v u h=>sF hE h)
 | indexAddr t x i=>exact cA.pv (s:=Ht t (ρv x) (ρv i)) hm (λ_ _ _ _=>rfl) (J4 hE hm (j x) (j i))
 | index t x i=>exact cA.pv (s:=Lj t (ρv x) (ρv i)) hm (λ_ _ _ _=>rfl) (aDM hE (j x) (j i))
 | typeAssert x xt t ok=>
  have A:=j x;simp only [lV];refine cA.pv (s:=Jw (ρv x) xt t ok) hm (λ_ _ _ _=>rfl) ?_;split
  .rename_i W u v C l;rw [l] at A;obtain ⟨i,z,hi,hs,hz,hzs,L,_,_⟩:=(hE.tab t W C).info;split
   .exact trivial
   .rename_i O;obtain ⟨dd,Q,U⟩:=(hE.tab t W C).kind.notIface O;obtain ⟨I,S,hv⟩:=A.iface_inv;rw [S];cases hq:Aw u t with
    | true=>
     have:=aC hq;subst this;refine aP (u:=if ok then .tuple #[I,.bool true] else I) ?_ ?_
     .unfold Jw;simp only [Bi,run_underlying Q,Ap];rfl
     .cases ok with
      | true=>exact hv.pairB true
      | false=>exact hv
    | false=>
     have hne2:¬ u=t:=λ e=>by subst e;simp at hq
     simp only [cond_false];refine sdc λ hok=>?_;subst hok;refine aP (u:=.tuple #[z,.bool false]) ?_ ((jP L).pairB false);unfold Jw;simp only [Bi,run_underlying Q,Ap];cases dd<;>first | exact absurd rfl (U _) | (simp [hne2,zeroValue,typeInfo,hi,hz])
  .rename_i W C l;rw [l] at A;obtain ⟨i,z,hi,hs,hz,hzs,L,_,_⟩:=(hE.tab t W C).info;split
   .exact trivial
   .rename_i O;obtain ⟨dd,Q,U⟩:=(hE.tab t W C).kind.notIface O;refine sdc λ hok=>?_;subst hok;rw [A.nilif_inv];refine aP (u:=.tuple #[z,.bool false]) ?_ ((jP L).pairB false);unfold Jw;simp only [Bi,run_underlying Q,Ap];cases dd<;>first | exact absurd rfl (U _) | (simp [zeroValue,typeInfo,hi,hz])
  .exact trivial
 | extract x i=>
  have A:=j x;simp only [lV];refine cA.pv (s:=Instr.extract (ρv x) i) hm (λ_ _ _ _=>rfl) ?_;split
  .rename_i vs l;rw [l] at A;split
   .rename_i v hn;have hnv:=jX hn;obtain ⟨us,S,hl,J⟩:=A.tup_inv;have hlt:i<us.length:=by grind
    rw [S];refine aP (u:=us[i]) ?_ (J i _ v (Aa hlt) hnv);simp [Instr.extract,hlt]
   .exact trivial
  .exact trivial
 | panic x=>
  have A:=j x;simp only [lV];split
  .rename_i t v l;rw [l] at A;obtain ⟨u,S,hu⟩:=A.iface_inv;have:∀ I,I=ah (aB ac) 3 v->cA E.P ρv (.panic x) ty M ob ac w base ((λ v=>bif CY v then OR.pan (.iface t v) else .no) I):=λ I e=>by
    subst e
    refine sdc λ_=>⟨.iface t u,λ d pos a g=>?_,.iface _ _ _ (hm.pureV 3 _ _ hu)⟩
    simp [execOp,Instr.panic,S]
   grind
  .exact trivial
 | lookup t m k ok=>exact cA.pv (s:=Mb t (ρv m) (ρv k) ok) hm (λ_ _ _ _=>rfl) (ZD hE hm (j m) (j k) ok)
 | mapUpdate t m k v0=>
  refine Sd.mono (λ v o ⟨h1,w',M',ob',Z,h3,h4,h5⟩=>?_) (λ_ _ h=>h.elim) (λ_ h=>h.elim) (aDL (t:=t) hE hm (j m) (j k) (j v0));refine ⟨undef,w',M',ob',λ d pos a g=>.inr ⟨?_,rfl⟩,h3,h4,h5,by rw [h1];exact .undef _⟩;have:execOp ρv ⟨d,.mapUpdate t m k v0,ty,pos,a,g⟩=(Kr t (ρv m) (ρv k) (ρv v0) >>= λ_=>Pure.pure .skip):=rfl;simp_all
 | call c=>
  obtain ⟨callee,args,argTypes⟩:=c;have H:=BE j args.toList;simp only [lV];cases callee with
  | value f=>
   have B:=j f;dsimp only;split
   .rename_i gid fs cs l;rw [l] at B;cases G:ρv f with
    | func fn first caps=>
     rw [G] at B;cases B with
     | func _ vfs vcs _ _ hl1 hl2 hr1 hr2=>
      rw [KL,KL];refine ⟨_,bX.append (bX.append ⟨hl1,hr1⟩ H) ⟨hl2,hr2⟩,λ d pos a g=>?_⟩;have V:(args.map ρv)=(args.toList.map ρv).toArray:=by apply Ds;simp
      simp [execOp,resolve,G,Deferred.ofValue,invoke,V,EE]
    | _=>rw [G] at B;cases B
   .rename_i lid fs cs l;rw [l] at B;cases G:ρv f with
    | func fn first caps=>
     rw [G] at B;cases B with
     | func _ vfs vcs _ _ hl1 hl2 hr1 hr2=>
      rw [KL];refine ⟨_,bX.append ⟨hl1,hr1⟩ H,λ d pos a g=>?_⟩;have V:(args.map ρv)=(args.toList.map ρv).toArray:=by apply Ds;simp
      simp [execOp,resolve,G,Deferred.ofValue,invoke,V,EE]
    | _=>rw [G] at B;cases B
   .exact trivial
  | invoke rc name=>
   have R:=j rc;dsimp only;split
   .rename_i t v l;rw [l] at R;split
    .rename_i gid hmg;cases hre:ρv rc with
     | iface t' I=>
      rw [hre] at R;cases R with
      | iface _ _ _ hv=>
       have hmm:=hE.mth t name gid hmg I w;refine ⟨_,bX.cons hv H,λ d pos a g=>?_⟩;have hva: #[I]++args.map ρv=(I::args.toList.map ρv).toArray:=by simp
       rw [<-hva];have hex:(#[Mt t I]++args.map ρv).extract 1 (#[Mt t I]++args.map ρv).size=args.map ρv:=by apply Ds;simp [Array.toList_extract];exact Cd s_
       simp only [execOp,resolve,Bi,Bu,Ap,invoke,hre];simp only [Gs (show 0<(#[Mt t I]).size by simp)];simp only [show (#[Mt t I]:Array Value)[0]? =some (.iface t I) from rfl,hex,callMethod,Bi,run_program,Ap,hmm,EE]
     | _=>rw [hre] at R;cases R
    .exact trivial
   .exact trivial
  | builtin b=>
   dsimp only
   have N:∀ {s:Sem Value} {r:OR},(∀ {u:Value} {w':World},s.run E.P w= .ok u w'->∀ d pos a g,(execOp ρv ⟨d,.call ⟨.builtin b,args,argTypes⟩,ty,pos,a,g⟩).run E.P w= .ok (.value u) w')->PM E.P M ob w s ac base r->cA E.P ρv (.call ⟨.builtin b,args,argTypes⟩) ty M ob ac w base r:=λ{s r} A h=>
    Sd.mono (λ v o ⟨u,w',M',ob',Z,h3,h4,h5,h6⟩=>⟨u,w',M',ob',λ d pos a g=>.inl (A Z d pos a g),h3,h4,h5,h6⟩) (λ_ _ h=>h.elim) (λ_ h=>h.elim) h
   split
   .rename_i x t h1 Z;have K:args= #[x]:=by apply Ds;omega
    have X:argTypes= #[t]:=by apply Ds;omega
    subst K X;exact N (s:=Fh #[t] ty #[ρv x]) (λ J d pos a g=>by simp [execOp,resolve,invoke,builtin,J]) (PM.of hm (aLi hE hm (j x)))
   .rename_i x y h1;have K:args= #[x,y]:=by apply Ds;omega
    subst K;split
    .rename_i k p k' q V e2;have A:=j x;have hy:=j y;rw [V] at A;rw [e2] at hy;refine sdc λ hk=>?_;have:=wG hk;subst this;obtain ⟨hx1,hx2⟩:=A.int_inv;obtain ⟨hy1,hy2⟩:=hy.int_inv;refine ⟨_,w,M,ob,λ d pos a g=>.inl ?_,Ext.refl _ _ _ _,hm,cI.refl _ _,.int _ _ (DJ hx2 hy2).1⟩;simp [execOp,resolve,invoke,builtin,hx1,hy1,aBc]
    .exact trivial
   .rename_i x y h1;have K:args= #[x,y]:=by apply Ds;omega
    subst K;split
    .rename_i k p k' q V e2;have A:=j x;have hy:=j y;rw [V] at A;rw [e2] at hy;refine sdc λ hk=>?_;have:=wG hk;subst this;obtain ⟨hx1,hx2⟩:=A.int_inv;obtain ⟨hy1,hy2⟩:=hy.int_inv;refine ⟨_,w,M,ob,λ d pos a g=>.inl ?_,Ext.refl _ _ _ _,hm,cI.refl _ _,.int _ _ (DJ hx2 hy2).2⟩;simp [execOp,resolve,invoke,builtin,hx1,hy1,aBd]
    .exact trivial
   .rename_i x y t t2 h1 Z;have K:args= #[x,y]:=by apply Ds;omega
    have X:argTypes= #[t,t2]:=by apply Ds;omega
    subst K X;exact N (s:=Cm #[t,t2] ty #[ρv x,ρv y]) (λ J d pos a g=>by simp [execOp,resolve,invoke,builtin,J]) (ZE hE hm D F (j x) (j y))
   .rename_i x y t t2 h1 Z;have K:args= #[x,y]:=by apply Ds;omega
    have X:argTypes= #[t,t2]:=by apply Ds;omega
    subst K X;exact N (s:=Kc #[t,t2] ty #[ρv x,ρv y]) (λ J d pos a g=>by simp [execOp,resolve,invoke,builtin,J]) (aH0 hE hm (j x) (j y))
   .rename_i x t h1 Z;have K:args= #[x]:=by apply Ds;omega
    have X:argTypes= #[t]:=by apply Ds;omega
    subst K X;exact N (s:=Jl #[t] ty #[ρv x]) (λ J d pos a g=>by simp [execOp,resolve,invoke,builtin,J]) (aDR hE hm (j x))
   .rename_i m k t t2 h1 Z;have K:args= #[m,k]:=by apply Ds;omega
    have X:argTypes= #[t,t2]:=by apply Ds;omega
    subst K X;exact N (s:=Ks #[t,t2] ty #[ρv m,ρv k]) (λ J d pos a g=>by simp [execOp,resolve,invoke,builtin,J]) (ZC hE hm (j m) (j k))
   .exact trivial
 | _=>exact trivial
def aGy{v:Value}{a:aa}(h:Rep M ob v a):Rep M ob v (nrm a):=by
 cases h with
 | rowc k g c a n h hm=>exact .row k g a n c h
 | pre k g n c d b len h e j hl hm=>
  have:=Rep.sub (M:=M) k g 0 n d b len c h e o_ hl o_;rw [Lx,Jj] at this;exact this
 | undef v=>exact .undef v
 | bool b=>exact .bool b
 | int k n p=>exact .int k n p
 | str l hl=>exact .str l hl
 | agg vs as hl h=>exact .agg vs as hl h
 | tup vs as hl h=>exact .tup vs as hl h
 | ptr b o cs h=>exact .ptr b o cs h
 | ref k off b h=>exact .ref k off b h
 | eref k g i d off b n c h=>exact .eref k g i d off b n c h
 | csl k off len d b h hm=>exact .csl k off len d b h hm
 | row k g a n c h=>exact .row k g a n c h
 | sub k g lo len d b n c h hl j e hm=>exact .sub k g lo len d b n c h hl j e hm
 | sub0 k g lo d a u n c h hl e=>exact .sub0 k g lo d a u n c h hl e
 | mref k b h=>exact .mref k b h
 | nilptr=>exact .nilptr
 | nilslice=>exact .nilslice
 | nilmap=>exact .nilmap
 | nilfunc=>exact .nilfunc
 | nilif=>exact .nilif
 | hsl a n c=>exact .hsl a n c
 | slnil d t f=>exact .slnil d t f
 | slemp d t a cap f=>exact .slemp d t a cap f
 | sl d b o n cap xs t j e hm hz h f=>exact .sl d b o n cap xs t j e hm hz h f
 | func fn q cs m s w e h1 r=>exact .func fn q cs m s w e h1 r
 | iface t v a h=>exact .iface t v a h
def Rep.rowc_inv{v:Value}{k g c:Nat}(h:Rep M ob v (.rowc k g c)):∃ a n,v= .slice a n c/\at' ob k g=some (.slice a n c)/\(c:Int)<=9223372036854775807:=by cases h with | rowc _ _ _ a n h hm=>grind
def Rep.pre_inv{v:Value}{k g n c a:Nat}(h:Rep M ob v (.pre k g n c a)):∃ b len,v= .slice (some ⟨b,0,none⟩) n c/\at' ob k g=some (.slice (some ⟨b,0,none⟩) len c)/\0<c/\n<=len/\len<=c/\(c:Int)<=9223372036854775807:=by cases h with | pre _ _ _ _ _ b len h hc hn hl hm=>exact ⟨b,len,rfl,h,hc,hn,hl,hm⟩
def Mem.rowIs(hm:Mem M ob ac w){k g l:Nat}{e:TypeId}{xs:ax}(i:ac[k]? =some (.row g l e xs)){a:Option Addr}{n c:Nat}(d:at' ob k g=some (.slice a n c)):
  n=xs.length/\n<=c/\(n:Int)<=9223372036854775807/\(a=none/\n=0/\c=0\/∃ b,a=some ⟨b,0,none⟩):=by
 obtain ⟨hs',v,h1,o,h3,h,m,_⟩:=hm.rowOf i;rw [d] at h;cases h;rcases m.len with ⟨f,rfl⟩ | ⟨b,r,f,q,j,p⟩
 .simp_all
 .cases f;exact ⟨rfl,j,by have:=gG;omega,.inr ⟨b,rfl⟩⟩
def dM.on{v:Value}{j:Nat}{e:TypeId}{xs:ax}(h:dM M w v j e xs)(f:0<j){b n c y:Nat}(B:v= .slice (some ⟨b,0,none⟩) n c)(h1:xs.length<=y)(H:y<=c):
  dM M w (.slice (some ⟨b,0,none⟩) y c) j e (xs++Aj (y-xs.length) (.agg (Aj j .undef))):=by
 subst B;obtain ⟨cv,⟨O,D⟩,h3,I,L,J,s⟩:=h;rcases D with ⟨q,_⟩ | ⟨g,cap,i,G,_,t,P,A,z,F⟩
 .cases q
 cases G;have N:y*j<=i.size:=by rw [z];exact Bs _ H
 have a:(xs++Aj (y-xs.length) (aa.agg (Aj j .undef))).length=y:=by simp;omega
 refine ⟨i.toList.take (y*j),⟨by rw [a];simp;omega,.inr ⟨b,c,i,by rw [a],Bt _,t,by omega,A,z,by rw [a]⟩⟩,λ u r=>s b rfl _ _ _ t u (Cu r),λ x k=>?_,λ q d o=>?_,J,s⟩
 .rcases Az.1 k with k | k
  .exact I x k
  .rw [(Fy.1 k).2];simp [aa.cells]
 .have m:=fI f o;rw [a] at m;rw [Bj m];by_cases l:q<xs.length*j
  .rw [cK f l] at o;obtain ⟨u,r,C⟩:=L q d o;refine ⟨u,?_,C⟩;rw [<-F,Bj l] at r;exact r
  .rw [cD f o_] at o;obtain ⟨x,k,K⟩:=fZ o;have:=(Fy.1 (Av k)).2;subst this;have:d= .undef:=(Fy.1 (Av (show (Aj j aa.undef)[_]? =some d from K))).2;subst this;have p:q<i.toList.length:=by simp;omega
   exact ⟨_,Aa p,.undef _⟩
def aLl(hE:ae E)(hm:Mem M ob ac w){t k g c hint:Nat}{v u:Value}{h:aa}(hv:Rep M ob v (.rowc k g c))(hu:Rep M ob u h):
  PM E.P M ob w (Gp t v none (some u) none) ac base (aLm E hint (aB ac) t k g c h):=by
 unfold aLm;split
 .rename_i e0 esz eb _ _ _ g' j e xs Y n hT U;have s:=bZ U s_;obtain ⟨⟨O,ie,z,hi',hs,_,_,_,_⟩,_⟩:=(hE.tab t _ hT).kind;refine sdc λ hg=>?_;obtain ⟨x,N⟩:=aS hg;obtain ⟨G,R⟩:=aS x;obtain rfl:=aC G;obtain rfl:=aC R;have C:0<j:=Ci N;obtain ⟨A,hel⟩:=D1 O;have V:(E.P.info? (E.P.elem t)).map (·.size)=some j:=by simp_all
  have Q:=λ u:World=>af (P:=E.P) V u;obtain ⟨K,len,rfl,l,W⟩:=hv.rowc_inv;obtain ⟨rfl,S,hnm,B⟩:=hm.rowIs s l;obtain ⟨rfl,_⟩:=hu.int_inv;rintro y rfl;have run:y<=c->(Gp t (.slice K xs.length c) none (some (.int Y (y:Int))) none).run E.P w= .ok (sliced K 0 y c j) w:=λ hy=>by rw [run_sliceAt_slice w t _ _ _ _ A,run_slice_h w t K _ c A Y y o_ o_,Q];rfl
  cases hint with
  | zero=>
   rintro ⟨T,F⟩;refine ⟨_,w,M,ob,run o_,Ext.refl _ _ _ _,hm,cI.refl _ _,?_⟩;rcases B with ⟨rfl,_,q⟩ | ⟨b,rfl⟩
   .omega
   .have r:sliced (some ⟨b,0,none⟩) 0 y c j= .slice (some ⟨b,0,none⟩) y c:=by simp [sliced,aZ]
    rw [r];exact .pre k g y c j b _ l F T S W
  | succ m=>
   rintro ⟨T,F⟩;obtain ⟨a,v0,r,D,X,e4,i,Z⟩:=hm.rowOf s;rw [l] at e4;cases e4;rcases B with ⟨rfl,q1,q2⟩ | ⟨b,rfl⟩
   .-- nil:nothing cJ on
    subst q2;obtain rfl:y=0:=o_;have H:xs=[]:=Ay q1;subst H;have o:(a++[Gn none 0 0]).length=g+1+1:=by simp [D]
    have d:(a++[Gn none 0 0])[g+1]? =some (.slice none 0 0):=by rw [<-D];simp
    have:=hm.rowTurn (hs':=a++[Gn none 0 0]) s r X ⟨_,rfl⟩ o d i (λ b _ _=>rfl) rfl rfl rfl (Bf _) (λ b I=>by cases I);refine ⟨_,w,M,ob.set k (a++[Gn none 0 0]),run (Bf _),?_⟩;rw [aL s];have J:([]:ax)++Aj (0-([]:ax).length) (aa.agg (Aj j .undef))=[]:=rfl;rw [J];refine ⟨this.2.1,this.1,this.2.2,?_⟩;have f:at' (ob.set k (a++[Gn none 0 0])) k (g+1)=some (.slice none 0 0):=by rw [bT (Aq (Ac.1 r).1)];exact d
    have L:sliced none 0 0 0 j= .slice none 0 0:=by rfl
    rw [L];exact .row _ _ _ _ _ f
   .have L:sliced (some ⟨b,0,none⟩) 0 y c j= .slice (some ⟨b,0,none⟩) y c:=by simp [sliced,aZ]
    have p:=i.on C rfl T F;have o:(a++[Gn (some ⟨b,0,none⟩) y c]).length=g+1+1:=by simp [D]
    have d:(a++[Gn (some ⟨b,0,none⟩) y c])[g+1]? =some (.slice (some ⟨b,0,none⟩) y c):=by rw [<-D];simp
    have:=hm.rowTurn (hs':=a++[Gn (some ⟨b,0,none⟩) y c]) s r X ⟨_,rfl⟩ o d p (λ b _ _=>rfl) rfl rfl rfl (Bf _) (λ b' I=>.inl I);refine ⟨_,w,M,ob.set k (a++[Gn (some ⟨b,0,none⟩) y c]),run F,?_⟩;rw [aL s];refine ⟨this.2.1,this.1,this.2.2,?_⟩;have f:at' (ob.set k (a++[Gn (some ⟨b,0,none⟩) y c])) k (g+1)=some (.slice (some ⟨b,0,none⟩) y c):=by rw [bT (Aq (Ac.1 r).1)];exact d
    rw [L];exact .row _ _ _ _ _ f
 .exact trivial
def aHZ(hE:ae E)(hm:Mem M ob ac w){t k g:Nat}{v C D A:Value}{l h m:aa}(F:Rep M ob v (.row k g))(hl:Rep M ob C l)(I:Rep M ob D h)(f:Rep M ob A m):
  PM E.P M ob w (Gp t v (some C) (some D) (some A)) ac base (aDO E (aB ac) t k g l h m):=by
 unfold aDO;split
 .rename_i e0 O W _ _ _ g' B e xs T a U b X c K p;have S:=bZ p s_;obtain ⟨⟨o,Z,z,L,hs,_,_,_,_⟩,_⟩:=(hE.tab t _ K).kind;refine sdc λ H=>?_;obtain ⟨j,i⟩:=aS H;obtain rfl:=aC j;obtain rfl:=aC i;obtain ⟨d,Q⟩:=D1 o;have r:(E.P.info? (E.P.elem t)).map (·.size)=some B:=by simp_all
  have s:=λ u:World=>af (P:=E.P) r u;obtain ⟨G,len,cap,rfl,n⟩:=F.row_inv;obtain ⟨rfl,J,R,N⟩:=hm.rowIs S n;obtain ⟨rfl,_⟩:=hl.int_inv;obtain ⟨rfl,_⟩:=I.int_inv;obtain ⟨rfl,_⟩:=f.int_inv;rintro x rfl y rfl q rfl ⟨⟨c1,Y⟩,V⟩;refine ⟨sliced G x y q B,w,M,ob,?_,Ext.refl _ _ _ _,hm,cI.refl _ _,.undef _⟩;rw [run_sliceAt_slice w t _ _ _ _ d];unfold Lk Gf Jt;simp only [Bi,run_underlying d,Ap,Option.isSome_some,if_true,Bu,asIntOf];rw [if_pos ⟨by omega,by omega⟩];simp only [Bu,Ap];rw [if_pos ⟨by omega,by omega⟩];simp only [Bu,Ap];rw [if_pos ⟨by omega,by omega⟩];simp only [Bu,Ap,s,Bn];rfl
 .exact trivial
def AM{P:Program}(w:World)(t q ty e:TypeId)(A:IntKind)(i:TypeInfo)(z:Value)(B:P.underlying t=some (.slice e))(x:P.underlying q=some (.int A))(s:P.info? e=some i)(hz:i.zero=some z)
  (b n c m:Nat) (l:0<m) (h:0<i.size) (d:ba) (f:(Ch i.size n (.slice (some ⟨b,0,none⟩) n c)).run P w.drew= .ok d.toArray w.drew) (y:c<n+m) (r:((n+m:Nat):Int)<=9223372036854775807)
  (a:(n+m)*i.bytes<=140737488355328):
  (Cm #[t,q] ty #[.slice (some ⟨b,0,none⟩) n c,.int .i64 (m:Int)]).run P w=
   .ok (.slice (some ⟨w.heap.size,0,none⟩) (n+m) (grownCap w (n+m) c e))
    (w.drew.alloc (.cells (d++(Ce z.cells m).toList++(Ce z.cells (grownCap w (n+m) c e-(n+m))).toList).toArray e)):=by
 have u:¬ (n+m<=c):=o_;have g:¬ (9223372036854775807<((n:Int)+(m:Int))):=o_;have p:=growslice_fits (bytes:=i.bytes) y a;have j:¬ (281474976710656<Builtin.nextslicecap (n+m) c*i.bytes):=o_;have C:IntKind.i64.wrap (m:Int)=(m:Int):=jQ ⟨by simp only [bW];omega,by simp only [aW];omega⟩;have k:¬ (281474976710656<(m:Int)*(i.bytes:Int)):=by grind
 have v:¬ ((m:Int)<0):=o_;have o:¬ (m*i.size=0):=by have:=Nat.mul_pos l h;omega
 simp [Cm,run_underlying B,run_underlying x,sizeOf,typeInfo,zeroValue,s,hz,asInt,asIntOf,C,v,k,u,g,j,o,Question.forced,f,newRow,grownCap];congr 2;simp
def aHX(hE:ae E)(hm:Mem M ob ac w)(O:ac[base]? =some .dead)(R:ob[base]? =some []){t Z ty k g n c sz:Nat}{kt:IntKind}(hx2:E.P.underlying Z=some (.int kt)){v u:Value}{m:aa}
  (hv:Rep M ob v (.pre k g n c sz)) (h:Rep M ob u m):PM E.P M ob w (Cm #[t,Z] ty #[v,u]) ac base (V7 E base (aB ac) t k g n c sz m):=by
 unfold V7;split
 .rename_i e esz eb _ _ _ g' sz' e' xs a hT hog;split
  .rename_i W U;obtain ⟨⟨V,i,z,hi,hsz,Y,hz,p,hz1⟩,_⟩:=(hE.tab t _ hT).kind;subst hsz Y;refine sdc λ hg=>?_;simp only [Ad] at hg;obtain ⟨⟨⟨g1,g2⟩,g3,g4⟩,g5,g6⟩:=hg;obtain rfl:=aC g1;have q2:=aC g2;subst q2;have q3:=aC g3;subst q3;have q4:=aC g4;subst q4;have f:0<i.size:=Ci g5;obtain ⟨i',z',F,hsz',H,hzs',S,hone,hne⟩:=(hE.tab e W U).info;rw [hi] at F;cases F;rw [hz] at H;cases H;have hk:=bZ hog s_;obtain ⟨b,len,rfl,G,hc0,Q,hlc,hcm⟩:=hv.pre_inv;obtain ⟨rfl,_,hnm,_⟩:=hm.rowIs hk G;obtain ⟨rfl,_⟩:=h.int_inv;rintro y rfl ⟨c1,f1,f2⟩;obtain ⟨hs0,v0,e1,e2,e3,e4,I,hblk⟩:=hm.rowOf hk;rw [G] at e4;cases e4;obtain ⟨cv,o1,o2,o3,o4,o5,o6⟩:=I;have hml:=gG;have hle:n*i.size<=xs.length*i.size:=Bs _ Q;have l:(cv.take (n*i.size)).length=n*i.size:=by rw [Dl,o1.1];omega
   have T:(Ch i.size n (.slice (some ⟨b,0,none⟩) n c)).run E.P w.drew= .ok (cv.take (n*i.size)).toArray w.drew:=by
    refine run_firstCells_some w.drew i.size n ⟨b,0,none⟩ n c _ l λ j u N=>?_;rw [Fz] at N;split at N
    .rw [aZ,Bw];exact fH o1 (b:=b) rfl N
    .cases N
   have D:=AM (P:=E.P) w t Z ty e kt i z V hx2 hi hz b n c y o_ f _ T c1 o_ f2;have hp0:=hm.pure0 S;obtain ⟨X,d2⟩:=tH (z:=z.cells) (n:=y);rw [p] at X d2;obtain ⟨r1,r2⟩:=xO (M:=M) hp0 (A7 g6) p f X d2;have hge:=grownCap_ge w (n+y) c e;have J:grownCap w (n+y) c e<=maxLen:=grownCap_le_maxLen w (n+y) c e f1;have r:(xs.take n).length=n:=by simp;omega
   have s:(xs.take n++Aj y (ah (λ_=>.dead) 4 W.zero)).length=n+y:=by simp;omega
   have o:∀ u∈cv.take (n*i.size)++(Ce z.cells y).toList,u.oneCell'=true:=λ u h=>by
    rcases Az.1 h with h | h
    .exact o2 u (Cu h)
    .exact jI hz1 u h
   have C:(cv.take (n*i.size)++(Ce z.cells y).toList).length=(n+y)*i.size:=by rw [Ah,l,X,Bv]
   have gr:Grown M w (w.drew.alloc (.cells (cv.take (n*i.size)++(Ce z.cells y).toList++(Ce z.cells (grownCap w (n+y) c e-(n+y))).toList).toArray e)) i.size e
     (.slice (some ⟨w.heap.size,0,none⟩) (n+y) (grownCap w (n+y) c e)) (xs.take n++Aj y (ah (λ_=>.dead) 4 W.zero)):=by
    refine ⟨⟨cv.take (n*i.size)++(Ce z.cells y).toList,⟨by rw [C,s],.inr ⟨w.heap.size,_,_,by rw [s],Bt _,heap_alloc_new w.drew _,by omega,J,?_,?_⟩⟩,o,λ q d L=>?_⟩,f,λ x K=>?_,λ b' A=>?_,λ b' A=>heap_alloc_old w.drew _ A,rfl,rfl,rfl,by simp,?_⟩
    .rw [Ge,Ah,C,Im,size_zeroCells,p,<-Bv];congr 1;omega
    .rw [s,<-C];exact Hg
    .by_cases B:q<n*i.size
     .rw [cK f (by rw [r];exact B),nA f B] at L;obtain ⟨u,h,hr⟩:=o4 q d L;exact ⟨u,by rw [Af o_,Bj B];exact h,hr⟩
     .rw [cD f (by rw [r];omega),r] at L;rw [Ak o_,l];exact r2 _ d L
    .rcases Az.1 K with K | K
     .exact o3 x (Cu K)
     .exact r1 x K
    .simp only [Gd,Dp] at A;omega
    .refine pH (w:=w.drew) λ u h=>?_;rcases Az.1 h with h | h
     .exact o u h
     .exact jI hz1 u h
   exact pW (hint:=2) hm O R D gr
  .exact trivial
 .exact trivial
def RO(hE:ae E)(hm:Mem M ob ac w)(j:ac[base]? =some .dead)(p:ob[base]? =some []){ρv:Operand->Value}{ρ:Operand->aa}(a:∀ x,Rep M ob (ρv x) (ρ x)){hint:Nat}{op:Op}(ty:TypeId){r:OR}
  (h:kT E hint base (aB ac) ρ op=some r):cA E.P ρv op ty M ob ac w base r:=by
 cases op with
 | move x=>cases h;exact cA.now hm (λ_ _ _ _=>rfl) (a x)
 | assign x=>
  simp only [kT] at h;split at h
  .rename_i k g c b;cases h;have:=a x;rw [b] at this;exact cA.now hm (u:=ρv x) (λ_ _ _ _=>rfl) this
  .cases h
 | slice t x lo F G=>
  cases lo with
  | none=>
   cases F with
   | none=>simp [kT] at h
   | some i=>
    cases G with
    | some _=>simp [kT] at h
    | none=>
     simp only [kT] at h;split at h
     .rename_i k g c b;cases h;have:=a x;rw [b] at this;exact cA.pm (s:=Gp t (ρv x) none (some (ρv i)) none) (λ_ _ _ _=>rfl) (aLl hE hm this (a i))
     .cases h
  | some l=>
   cases F with
   | none=>simp [kT] at h
   | some i=>
    cases G with
    | none=>simp [kT] at h
    | some m=>
     simp only [kT] at h;split at h
     .rename_i k g b;cases h;have:=a x;rw [b] at this;exact cA.pm (s:=Gp t (ρv x) (some (ρv l)) (some (ρv i)) (some (ρv m))) (λ_ _ _ _=>rfl) (aHZ hE hm this (a l) (a i) (a m))
     .cases h
 | call c=>
  obtain ⟨callee,args,argTypes⟩:=c;simp only [kT] at h;split at h
  .split at h
   .rename_i x t h1 z;split at h
    .rename_i k g n _ _ _ _ _ _ b K;cases h;have B:args= #[x]:=by apply Ds;omega
     have D:argTypes= #[t]:=by apply Ds;omega
     subst B D;have f:=a x;rw [b] at f;obtain ⟨R,len,I,N,O⟩:=f.rowc_inv;obtain ⟨⟨A,_⟩,_⟩:=(hE.tab t _ K).kind;refine ⟨.int .i64 n,w,M,ob,λ d pos e g=>.inl ?_,Ext.refl _ _ _ _,hm,cI.refl _ _,.int _ _ ⟨by simp only [bW];omega,by simp only [aW];omega⟩⟩;simp [execOp,resolve,invoke,builtin,Builtin.cap_,I,run_underlying A,goInt]
    .cases h
   .cases h
  .split at h
   .rename_i x y t H h1 z;split at h
    .rename_i k g n c T S _ _ _ b C;cases h;have B:args= #[x,y]:=by apply Ds;omega
     have D:argTypes= #[t,H]:=by apply Ds;omega
     subst B D;have f:=a x;rw [b] at f;have q:=(hE.tab H _ C).kind.1;exact Sd.mono (λ v o ⟨u,w',M',ob',z,h3,J,Q,L⟩=>⟨u,w',M',ob',λ d pos e g=>.inl (by simp [execOp,resolve,invoke,builtin,z]),h3,J,Q,L⟩) (λ_ _ h=>h.elim) (λ_ h=>h.elim) (aHX hE hm j p (ty:=ty) q f (a y))
    .cases h
   .cases h
  .cases h
 | _=>simp [kT] at h
def yH(hE:ae E)(hm:Mem M ob ac w)(a:ac[base]? =some .dead)(b:ob[base]? =some []){ρv:Operand->Value}{ρ:Operand->aa}(c:∀ x,Rep M ob (ρv x) (ρ x))(hint:Nat)(op:Op)(ty:TypeId):
  cA E.P ρv op ty M ob ac w base (eop E hint base (aB ac) ρ op ty):=by
 unfold eop;split
 .rename_i r d;exact RO hE hm a b c ty d
 .exact RP hE hm a b (λ x=>aGy (c x)) hint op ty
end
section
variable {P:Program} {M M':Imm} {ob ob':Hs} {ac L:au} {w w':World}
def tG.monoA(a:∀ (k g:Nat) v,at' ob k g=some v->at' ob' k g=some v){v:Value}{t:Tk}(h:tG ob v t):tG ob' v t:=by
 cases t with
 | own k g=>exact a _ _ _ h
 | _=>exact h
def Rep.monoA(e:∀ (k g:Nat) v,at' ob k g=some v->at' ob' k g=some v){v:Value}{a:aa}(h:Rep M ob v a):Rep M ob' v a:=by
 induction h with
 | undef v=>exact .undef v
 | bool b=>exact .bool b
 | int k n h=>exact .int k n h
 | str l h=>exact .str l h
 | agg vs as hl _ m=>exact .agg vs as hl m
 | tup vs as hl _ m=>exact .tup vs as hl m
 | ptr b o cs h=>exact .ptr b o cs h
 | ref k off b h=>exact .ref k off b (e _ _ _ h)
 | eref k g i d off b n c h=>exact .eref k g i d off b n c (e _ _ _ h)
 | csl k off len d b h hm=>exact .csl k off len d b (e _ _ _ h) hm
 | row k g a n c h=>exact .row k g a n c (e _ _ _ h)
 | sub k g lo len d b n c h hl j f hm=>exact .sub k g lo len d b n c (e _ _ _ h) hl j f hm
 | sub0 k g lo d a x n c h hl f=>exact .sub0 k g lo d a x n c (e _ _ _ h) hl f
 | rowc k g c a n h hm=>exact .rowc k g c a n (e _ _ _ h) hm
 | pre k g n c d b len h f j hl hm=>exact .pre k g n c d b len (e _ _ _ h) f j hl hm
 | mref k b h=>exact .mref k b (e _ _ _ h)
 | nilptr=>exact .nilptr
 | nilslice=>exact .nilslice
 | nilmap=>exact .nilmap
 | nilfunc=>exact .nilfunc
 | nilif=>exact .nilif
 | hsl a n c=>exact .hsl a n c
 | slnil d t p=>exact .slnil d t (p.monoA e)
 | slemp d t a cap p=>exact .slemp d t a cap (p.monoA e)
 | sl d b o n cap xs t j f hm hz h p=>exact .sl d b o n cap xs t j f hm hz h (p.monoA e)
 | func fn u cs s w y f _ _ r q=>exact .func fn u cs s w y f r q
 | iface t v a _ m=>exact .iface t v a m
def Mem.idle(h:Mem M ob L w){k:Nat}(j:ob[k]? =some []):L[k]? =some .dead:=by
 have d:k<L.length:=by rw [<-h.len];grind
 have e:=Aa d;obtain ⟨hs,f,a⟩:=h.obj k _ e;rw [j] at f;cases f;cases c:L[k] with
 | dead=>rw [e,c]
 | cells T cs=>rw [c] at a;obtain ⟨b,q,_⟩:=a;cases q
 | fcells cs=>rw [c] at a;obtain ⟨b,q,_⟩:=a;cases q
 | row g i e xs=>rw [c] at a;have:=a.1;simp at this
 | frow g i xs=>rw [c] at a;obtain ⟨v,q,_⟩:=a;simp at q
 | tail g i e=>rw [c] at a;have:=a.1;simp at this
 | mp l es=>rw [c] at a;obtain ⟨b,q,_⟩:=a;cases q
 | bun g I=>rw [c] at a;have:=a.1;simp at this
def Mem.live(h:Mem M ob L w){k:Nat}{c:ab}(a:L[k]? =some c)(d:c≠ .dead):∃ hs,ob[k]? =some hs/\hs≠[]:=by
 obtain ⟨hs,b,_⟩:=h.obj k c a;refine ⟨hs,b,λ e=>?_⟩;subst e;rw [h.idle b] at a
 grind
def Mem.shrink{n:Nat}(h:Mem M ob (ac++Aj n .dead) w)(A:∀ (i:Nat) hs,ac.length<=i->ob[i]? =some hs->hs=[]):
  Mem M (ob.take ac.length) ac w/\(∀ (k g:Nat) v,at' ob k g=some v->at' (ob.take ac.length) k g=some v)/\
   ∀ {M0:Imm} {ob0:Hs} {d:au} {w0:World},Ext M0 ob0 d w0 M ob (ac++Aj n .dead) w->ob0.length<=ac.length->Ext M0 ob0 d w0 M (ob.take ac.length) ac w:=by
 have hl:=h.len;simp at hl
 have left:∀ {i:Nat},i<ac.length->(ob.take ac.length)[i]? =ob[i]?/\(ac++Aj n ab.dead)[i]? =ac[i]?:=λ{i} hi=>⟨Bj hi,Af hi⟩
 have o:∀ (k g:Nat) v,at' ob k g=some v->at' (ob.take ac.length) k g=some v:=by
  intro k g v f;by_cases e:k<ac.length
  .unfold at' at f⊢;rw [(left e).1];exact f
  .unfold at' at f;cases q:ob[k]? with
   | none=>rw [q] at f;cases f
   | some hs=>
    have:=A k hs o_ q;subst this;rw [q] at f;simp at f
 have alive:∀ {k b:Nat},aG (ob.take ac.length) ac k b->aG ob (ac++Aj n .dead) k b:=λ{k b} ⟨c,hs,m,r,e3,e4⟩=>by have e:=(Ac.1 m).1;exact ⟨c,hs,(left e).2.trans m,r,(left e).1▸e3,e4⟩
 refine ⟨⟨h.imm,by simp;omega,λ k c s=>?_,λ k b l=>h.lt k b (alive l),λ i j b l B=>h.inj i j b (alive l) (alive B)⟩,o,λ{M0 ob0 d w0} hx h0=>⟨hx.imm,hx.new,λ k hs e=>?_,hx.os,hx.tape,hx.output,hx.size,hx.keep,λ k b l=>hx.fresh k b (alive l)⟩⟩
 .have e:=(Ac.1 s).1;obtain ⟨hs,m,p⟩:=h.obj k c ((left e).2.trans s);refine ⟨hs,(left e).1.trans m,?_⟩;cases c with
  | cells T cs=>
   obtain ⟨b,x,D,cv,u,C,t,z⟩:=p;exact ⟨b,x,D,cv,u,C,t,λ i v a f l=>(z i v a f l).monoA o⟩
  | _=>exact p
 .obtain ⟨hs',m,r⟩:=hx.hs k hs e;have y:=(Ac.1 e).1;exact ⟨hs',(left o_).1.trans m,r⟩
def OL(ac:au)(j g:Nat):iS [] ac j g=g:=rfl
def aDJ(base:Nat)(ac:au):∀ n,embV [] base ac n=embV [] base [] n:=by
 intro n;induction n with
 | zero=>rfl
 | succ n b=>
  funext a;cases a<;>simp only [embV,OL,b]
def jC(base:Nat)(new:au):au:=new.map (pR [] base [] 0)
def Mem.emb0(h:Mem M ob L w){base:Nat}{new:au}{d:Hs}(N:base+new.length<=L.length)(G:∀ j,j<new.length->ob[base+j]? =some [])
  (r:Ext M [] [] w M' d new w') (R:Mem M' d new w'):
  Mem M' (ob.take base++d++ob.drop (base+d.length)) (L.take base++jC base new++L.drop (base+(jC base new).length)) w'/\
   Ext M ob L w M' (ob.take base++d++ob.drop (base+d.length)) (L.take base++jC base new++L.drop (base+(jC base new).length)) w'/\
   (∀ n v a,Rep M' d v a->Rep M' (ob.take base++d++ob.drop (base+d.length)) v (AW.embV [] base [] n a)):=by
 have p:d.length=new.length:=R.len;have A:(jC base new).length=new.length:=by simp [jC]
 obtain ⟨p1,Z⟩:=fG ob d base (by rw [h.len,p];exact N);obtain ⟨q1,q2⟩:=fG L (jC base new) base o_;rw [p] at Z;rw [A] at q2;have inO:∀ {j:Nat},j<new.length->(ob.take base++d++ob.drop (base+d.length))[base+j]? =d[j]?:=λ{j} m=>by have:=Z (base+j);rw [if_pos ⟨by omega,by omega⟩,Hi] at this;rw [p];exact this
 have u:∀ {i:Nat},¬ (base<=i/\i<base+new.length)->(ob.take base++d++ob.drop (base+d.length))[i]? =ob[i]?:=λ{i} J=>by have:=Z i;rw [if_neg J] at this;rw [p];exact this
 have inL:∀ {j:Nat},j<new.length->(L.take base++jC base new++L.drop (base+(jC base new).length))[base+j]? =(new[j]?).map (pR [] base [] 0):=λ{j} m=>by have:=q2 (base+j);rw [if_pos ⟨by omega,by omega⟩,Hi] at this;rw [A,this];simp [jC]
 have D:∀ {i:Nat},¬ (base<=i/\i<base+new.length)->(L.take base++jC base new++L.drop (base+(jC base new).length))[i]? =L[i]?:=λ{i} J=>by have:=q2 i;rw [if_neg J] at this;rw [A];exact this
 have P:∀ {j g:Nat} {v:Value},at' d j g=some v->at' (ob.take base++d++ob.drop (base+d.length)) (dU [] base j) (iS [] [] j g)=some v:=by
  intro j g v I;rw [jM (Bt _),OL];show at' _ (base+j) g=some v;unfold at' at I⊢;cases hq:d[j]? with
  | none=>rw [hq] at I;cases I
  | some hs=>
   have m:j<new.length:=by rw [<-p];exact (Ac.1 hq).1
   rw [inO m];exact I
 have F:∀ n v a,Rep M' d v a->Rep M' (ob.take base++d++ob.drop (base+d.length)) v (AW.embV [] base [] n a):=OJ P λ I _=>P I;have O:cV ob (ob.take base++d++ob.drop (base+d.length)):=by
  intro i hs J;by_cases l:base<=i/\i<base+new.length
  .have e:=G (i-base) o_;rw [show base+(i-base)=i from by omega,J] at e;cases e;have m:i-base<d.length:=o_;refine ⟨d[i-base],?_,List.nil_prefix⟩;have:=inO (j:=i-base) o_;rw [show base+(i-base)=i from by omega] at this;rw [this];simp
  .exact ⟨hs,(u l).trans J,Cl _⟩
 have H:∀ o:ab,(pR [] base [] 0 o).owns=o.owns:=λ o=>by cases o<;>rfl
 have C:∀ {i b:Nat},aG (ob.take base++d++ob.drop (base+d.length)) (L.take base++jC base new++L.drop (base+(jC base new).length)) i b->(∃ j,j<new.length/\i=base+j/\aG d new j b)\/(¬ (base<=i/\i<base+new.length)/\aG ob L i b):=by
  rintro i b ⟨c,hs,z,Y,S,e4⟩;by_cases l:base<=i/\i<base+new.length
  .obtain ⟨j,rfl⟩:∃ j,i=base+j:=⟨i-base,by omega⟩
   have m:j<new.length:=o_;rw [inL m] at z;rw [inO m] at S;obtain ⟨o,V,rfl⟩:=Cb.1 z;rw [H] at Y;exact .inl ⟨j,m,rfl,o,hs,V,Y,S,e4⟩
  .rw [D l] at z;rw [u l] at S;exact .inr ⟨l,c,hs,z,Y,S,e4⟩
 have Q:∀ {i b:Nat},aG ob L i b->(∀ j,¬ aG d new j b):=λ{i b} x j m=>by
  rcases r.fresh j b m with ⟨k',c,hs,e,_⟩ | q
  .simp at e
  .have:=h.lt i b x;omega
 have t:∀ b k,¬ aG ([]:Hs) [] k b:=λ b k ⟨c,hs,e,_⟩=>by simp at e
 refine ⟨⟨R.imm,by rw [p] at p1⊢;rw [A] at q1⊢;rw [p1,q1];exact h.len,λ i c K=>?_,λ i b x=>?_,λ i i' b x X=>?_⟩,⟨r.imm,λ b o y U=>?_,O,r.os,r.tape,r.output,r.size,λ b X hn=>r.keep b X (t b),λ i b x=>?_⟩,F⟩
 .by_cases l:base<=i/\i<base+new.length
  .obtain ⟨j,rfl⟩:∃ j,i=base+j:=⟨i-base,by omega⟩
   have m:j<new.length:=o_;rw [inL m] at K;obtain ⟨o,V,rfl⟩:=Cb.1 K;obtain ⟨hs,z,B⟩:=R.obj j o V;refine ⟨hs,(inO m).trans z,?_⟩;cases o with
   | cells T cs=>
    obtain ⟨b,t1,t2,cv,t3,t4,t5,t6⟩:=B;obtain ⟨m1,m2⟩:=bV (F 4) t4 t6;exact ⟨b,t1,t2,cv,t3,m1,t5,m2⟩
   | _=>exact B
  .rw [D l] at K;obtain ⟨hs,z,B⟩:=h.obj i c K;refine ⟨hs,(u l).trans z,B.mono r.imm O (λ b h1 h2 o hno y U=>?_) (λ b c' h1 h2 W=>?_)⟩
   .have x:aG ob L i b:=(cL K z).2 ⟨h1,h2⟩;rcases r.new b o y U with q | q | ⟨k,q⟩
    .exact hno y q
    .have:=h.lt i b x;omega
    .exact t b k q
   .have x:aG ob L i b:=(cL K z).2 ⟨h1,h2⟩;rw [r.keep b (h.lt i b x) (t b)];exact W
 .rcases C x with ⟨j,m,rfl,f⟩ | ⟨_,f⟩
  .exact R.lt j b f
  .exact Em (h.lt i b f) r.size
 .rcases C x with ⟨j,m,rfl,f⟩ | ⟨_,f⟩<;>rcases C X with ⟨j',hj',rfl,s⟩ | ⟨_,s⟩
  .rw [R.inj j j' b f s]
  .exact absurd f (Q s j)
  .exact absurd s (Q f j')
  .exact h.inj i i' b f s
 .rcases r.new b o y U with q | q | ⟨k,q⟩
  .exact .inl q
  .omega
  .exact (t b k q).elim
 .rcases C x with ⟨j,m,rfl,f⟩ | ⟨_,f⟩
  .rcases r.fresh j b f with ⟨k,q⟩ | q
   .exact (t b k q).elim
   omega
  .exact .inl ⟨i,f⟩
end
section
variable {M:Imm} {ob:Hs} {n:Nat}
def jN{k n:Nat}(h:Ey k n=true):k<n:=by simp_all
def jO{k g:Nat}{v:Value}(a:k<n)(h:at' ob k g=some v):at' (ob.take n) k g=some v:=by
 unfold at' at *
 grind
def mA{f:aa->Bool}:∀ {l:ax},EI f l=true->∀ (i:Nat) a,l[i]? =some a->f a=true
 | [],_,i,a,h=>by simp at h
 | c::r,hb,i,a,h=>by
  simp only [EI,Ad] at hb;cases i with
  | zero=>grind
  | succ i=>exact mA hb.2 i a (by simp_all)
def EH{v:Value}{t:Tk}(h:tG ob v t)(a:aNF n t=true):tG (ob.take n) v t:=by
 cases t with
 | own k g=>exact jO (jN a) h
 | _=>exact h
def BG:∀ (m:Nat) {v:Value} {a:aa},Rep M ob v a->bel n m a=true->Rep M (ob.take n) v a:=by
 intro m;induction m with
 | zero=>intro v a _ h;cases h
 | succ m r=>
  intro v a h d;cases h with
  | undef v=>exact .undef v
  | bool b=>exact .bool b
  | int k n y=>exact .int k n y
  | str l hl=>exact .str l hl
  | agg vs as hl h=>exact .agg vs as hl λ i v a p f=>r (h i v a p f) (mA d i a f)
  | tup vs as hl h=>exact .tup vs as hl λ i v a p f=>r (h i v a p f) (mA d i a f)
  | ptr b o cs h=>exact .ptr b o cs h
  | ref k off b h=>exact .ref k off b (jO (jN d) h)
  | eref k g i e off b n c h=>exact .eref k g i e off b n c (jO (jN d) h)
  | csl k off len e b h hm=>exact .csl k off len e b (jO (jN d) h) hm
  | row k g a n c h=>exact .row k g a n c (jO (jN d) h)
  | sub k g lo len e b n c h hl q j hm=>exact .sub k g lo len e b n c (jO (jN d) h) hl q j hm
  | sub0 k g lo e a C n c h hl j=>exact .sub0 k g lo e a C n c (jO (jN d) h) hl j
  | rowc k g c a n h hm=>exact .rowc k g c a n (jO (jN d) h) hm
  | pre k g n c e b len h j q hl hm=>exact .pre k g n c e b len (jO (jN d) h) j q hl hm
  | mref k b h=>exact .mref k b (jO (jN d) h)
  | nilptr=>exact .nilptr
  | nilslice=>exact .nilslice
  | nilmap=>exact .nilmap
  | nilfunc=>exact .nilfunc
  | nilif=>exact .nilif
  | hsl a n c=>exact .hsl a n c
  | slnil e t s=>exact .slnil e t (EH s d)
  | slemp e t a cap s=>exact .slemp e t a cap (EH s d)
  | sl e b o n cap xs t q j hm hz h s=>exact .sl e b o n cap xs t q j hm hz h (EH s d)
  | func fn z cs x B D j h1 A=>
   obtain ⟨u,w⟩:=aS d;exact .func fn z cs x B D j (λ i v a p f=>r (h1 i v a p f) (mA u i a f)) (λ i v a p f=>r (A i v a p f) (mA w i a f))
  | iface t v a h=>exact .iface t v a (r h d)
def CM:∀ (n:Nat) (l:au),nZ n l=l.take n
 | 0,_=>by simp [nZ]
 | n+1,[]=>by simp [nZ]
 | n+1,x::r=>by simp [nZ,CM n r]
def PA{n:Nat}:∀ {l:au},FC n l=true->∀ (i:Nat) T cs,l[i]? =some (.cells T cs)->EI (bel n 5) cs=true
 | [],_,i,T,cs,h=>by simp at h
 | x::r,hb,i,T,cs,h=>by
  cases i with
  | zero=>
   simp at h;subst h;simp only [FC,Ad] at hb;exact hb.1
  | succ i=>
   refine PA (l:=r) ?_ i T cs (by simp_all);cases x<;>first | exact hb | (simp only [FC,Ad] at hb;exact hb.2)
def PB{n:Nat}:∀ {l:ar},aEw n l=true->∀ t,bel n 5 (aU l t)=true\/aU l t= .undef
 | [],_,t=>.inr rfl
 | (i,v)::r,hb,t=>by
  simp only [aEw,Ad] at hb;simp only [aU];cases Aw i t with
  | true=>grind
  | false=>exact PB hb.2 t
def Mem.cutO{ac:au}{w:World}(h:Mem M ob ac w)(m:FC n (ac.take n)=true):Mem M (ob.take n) (ac.take n) w/\∀ {k b:Nat},aG (ob.take n) (ac.take n) k b->aG ob ac k b:=by
 have left:∀ {i:Nat} {c:ab},(ac.take n)[i]? =some c->i<n/\ac[i]? =some c:=λ{i c} g=>by
  rw [Fz] at g
  grind
 have alive:∀ {k b:Nat},aG (ob.take n) (ac.take n) k b->aG ob ac k b:=λ{k b} ⟨c,hs,e,e2,e3,e4⟩=>by obtain ⟨o,e⟩:=left e;rw [Bj o] at e3;exact ⟨c,hs,e,e2,e3,e4⟩
 refine ⟨⟨h.imm,by simp [h.len],λ k c g=>?_,λ k b d=>h.lt k b (alive d),λ i j b d m=>h.inj i j b (alive d) (alive m)⟩,alive⟩;obtain ⟨o,l⟩:=left g;obtain ⟨hs,e,f⟩:=h.obj k c l;refine ⟨hs,by rw [Bj o];exact e,?_⟩;cases c with
 | cells T cs=>
  obtain ⟨b,s,x,cv,r,u,p,t⟩:=f;exact ⟨b,s,x,cv,r,u,p,λ i v a q d=>BG 5 (t i v a q d) (mA (PA m k _ cs g) i a d)⟩
 | _=>exact f
end
def fen(r:Option Nat):Fence:={Fence.wide with round:=r}
def nO(P:Program)(o:Oper)(ρ:Operand->Value)(w:World)(R:Ending->World->Prop):Prop:=
 (∃ v w',(execOp ρ o).run P w= .ok (.value v) w'/\R (.returned v) w')\/
 (∃ w',(execOp ρ o).run P w= .ok .skip w'/\R (.returned undef) w')\/
 (∃ v w',(execOp ρ o).run P w= .halt (.panic v) w'/\R (.panicked [{v,recovered:=false}]) w')\/
 (∃ f args w',(execOp ρ o).run P w= .ok (.enter f args) w'/\Calls P f args w' λ e a=>R e a/\e≠ .outgrown)\/
 (∃ l f tmps as b w',(execOp ρ o).run P w= .ok (.round l f tmps as b) w'/\RoundIn Fence.wide 0 P l f tmps as b w' λ e a=>R e a/\e≠ .outgrown)
def nO.wpIn{rd:Option Nat}{P:Program}{o:Oper}{a:Act}{w:World}{R:Ending->World->Prop}(h:nO P o a.eval w R){next:Act->World->Prop}{Q:Exit->Act->World->Prop}
  (k:∀ c,o.op≠ .defer c) (h1:∀ v w',R (.returned v) w'->next (a.put o.dst v) w') (p:∀ m w',R (.panicked m) w'->Q (.panic m) a w'):o.wpIn (fen rd) 0 P a w next Q:=by
 refine ⟨λ_ _=>trivial,?_⟩;rw [Oper.semAt_eq _ _ _ k];rcases h with ⟨v,w',b,d⟩ | ⟨w',b,d⟩ | ⟨v,w',b,d⟩ | ⟨f,args,w',b,i⟩ | ⟨l,f,tmps,as,q,w',b,i⟩
 .rw [b];exact h1 v w' d
 .rw [b];exact h1 undef w' d
 .rw [b];exact p _ w' d
 .rw [b];refine ⟨λ h=>(by cases h),(callsIn_wide (n:=0)).2 (i.mono λ e g ⟨d,j⟩=>?_)⟩
  grind
 .rw [b];refine ⟨λ h=>(by cases h),RoundIn.mono (F:=Fence.wide) i λ e g ⟨d,j⟩=>?_⟩
  grind
def EU(M:Imm)(ob:Hs)(L:au)(w:World)(K:aa->au->Prop)(Kp:aa->au->Prop)(e:Ending)(w':World):Prop:=
 ∃ M' ob' L',Ext M ob L w M' ob' L' w'/\Mem M' ob' L' w'/\((∃ u v,e= .returned u/\Rep M' ob' u v/\K v L')\/∃ a v,e= .panicked a/\sC M' ob' e (.pan v)/\Kp v L')
section
variable {P:Program} {E:Env} {M M':Imm} {ob ob':Hs} {ac L:au} {w w':World} {K Kp:aa->au->Prop}
def iQ.mono{f:FuncId}{c:Array Value}{R b:Ending->World->Prop}(d:∀ e w,R e w->b e w)(h:iQ P f c w R):iQ P f c w b:=by
 rcases h with ⟨h1,a⟩ | ⟨u,w',h1,a⟩
 .exact .inl ⟨h1,a.mono λ e w h=>d e w h⟩
 .exact .inr ⟨u,w',h1,d _ _ a⟩
def EU.ne{e:Ending}(h:EU M ob L w K Kp e w'):e≠ .outgrown:=by obtain ⟨_,_,_,_,_,⟨u,v,rfl,_⟩ | ⟨a,v,rfl,_⟩⟩:=h<;>(simp)
def cE.mono{f:Fn}{b:Array Value}{R a:Ending->World->Prop}(c:∀ e w,R e w->a e w)(h:cE P f b w R):cE P f b w a:=by
 cases f with
 | func f=>exact iQ.mono c h
 | yield l=>
  obtain ⟨f,tmps,as,d,h1,g⟩:=h;exact ⟨f,tmps,as,d,h1,RoundIn.mono g c⟩
 | _=>exact h.elim
def iQ.op{f:Fn}{d:Array Value}{o:Oper}{ρ:Operand->Value}{R:Ending->World->Prop}(a:∀ e w,R e w->e≠ .outgrown)(c:(execOp ρ o).run P w=(EE f d).run P w)(h:cE P f d w R):nO P o ρ w R:=by
 cases f with
 | func f=>
  rcases h with ⟨h1,b⟩ | ⟨u,w',h1,b⟩
  .exact .inr (.inr (.inr (.inl ⟨f,d,w,c.trans h1,b.mono λ e w h=>⟨h,a e w h⟩⟩)))
  .exact .inl ⟨u,w',c.trans h1,b⟩
 | yield l=>
  obtain ⟨f,tmps,as,g,h1,b⟩:=h;exact .inr (.inr (.inr (.inr ⟨l,f,tmps,as,g,w,c.trans h1,RoundIn.mono b λ e w h=>⟨h,a e w h⟩⟩)))
 | _=>exact h.elim
def sP{b:Hs}{g:aa->aa}(c:∀ v a,Rep M ob v a->Rep M' b v (g a)){vs:ba}{as:ax}(h:bX M ob vs as):bX M' b vs (dO g as):=bV c h.1 h.2
def nB(hm:Mem M ob L w){f:Fn}{args:ax}{i:ba}{ks:az}{r:Res}{ao:au}(g:iR ks L=true)(l:bX M ob i args)
  (h:bF P f (dO (cvtV 0 ks (aB L) 5) args) (gF 0 ks L) r ao):
  cE P f i.toArray w λ e w'=>∃ M' b,Ext M ob L w M' (jD ks ob b) (gH ks L.length L 0 ao L) w'/\Mem M' (jD ks ob b) (gH ks L.length L 0 ao L) w'/\sC M' b e r/\b.length=ao.length/\
   ∀ n v a,Rep M' b v a->Rep M' (jD ks ob b) v (embV ks L.length L n a):=by
 obtain ⟨o,_,_⟩:=hm.cvt (n0:=0) g;refine cE.mono (λ e w' ⟨M',b,j,c,d⟩=>?_) (h M _ w i o (sP (λ v a=>hm.cvtV (n0:=0) g 5 v a) l));obtain ⟨k,m,_⟩:=hm.emb g j c;exact ⟨M',b,m,k,d,c.len,hm.embV g j.hs oM⟩
def O5(hm:Mem M ob ac w){f:Fn}{args:ax}{y:ba}(C:bX M ob y args)(h:CallG P f args ac K Kp):cE P f y.toArray w (EU M ob ac w K Kp):=by
 have mono:∀ {p:Imm},(∀ b o x,M b o x->p b o x)->bX p ob y args:=λ G=>⟨C.1,λ i v a D H=>(C.2 i v a D H).monoM G⟩
 cases h with
 | pure r new h k=>
  obtain ⟨p,l,d,_,s⟩:=hm.frzL args;refine cE.mono (λ e w' ⟨M',g,m,j,c,_,n⟩=>?_) (nB (ks:=[]) l rfl (mono d.imm) h);refine ⟨M',_,_,d.trans m,j,.inl ?_⟩;rw [bG,<-s] at k;cases e with
  | returned u=>exact ⟨u,_,rfl,n 5 u r c,k⟩
  | panicked q=>exact c.elim
  | outgrown=>exact c.elim
 | eff z ks r ao B h k=>
  obtain ⟨p,l,d,_,s⟩:=Mem.frzs z M ac hm;refine cE.mono (λ e w' ⟨M',g,m,j,c,_,n⟩=>?_) (nB l B (mono d.imm) h);refine ⟨M',_,_,d.trans m,j,.inl ?_⟩;rw [bG] at k;cases e with
  | returned u=>exact ⟨u,_,rfl,n 5 u r c,k⟩
  | panicked q=>exact c.elim
  | outgrown=>exact c.elim
 | effp z ks r ao B h k=>
  obtain ⟨p,l,d,_,s⟩:=Mem.frzs z M ac hm;refine cE.mono (λ e w' ⟨M',g,m,j,c,_,n⟩=>?_) (nB l B (mono d.imm) h);refine ⟨M',_,_,d.trans m,j,.inr ?_⟩;rw [bG] at k;cases e with
  | returned u=>exact c.elim
  | panicked q=>
   obtain ⟨v,t,A⟩:=c;exact ⟨q,_,rfl,⟨v,t,n 5 v r A⟩,k⟩
  | outgrown=>exact c.elim
 | pan r h k=>
  obtain ⟨p,l,d,_,s⟩:=hm.frzL args;refine cE.mono (λ e w' ⟨M',g,m,j,c,I,n⟩=>?_) (nB (ks:=[]) l rfl (mono d.imm) h);have F:g=[]:=Ay o_;subst F;refine ⟨M',_,_,d.trans m,j,.inr ?_⟩;cases e with
  | returned u=>exact c.elim
  | panicked q=>
   obtain ⟨v,t,A⟩:=c;exact ⟨q,r,rfl,⟨v,t,A.pure⟩,k⟩
  | outgrown=>exact c.elim
def B4{VS:aa->au->Prop}{CS:Fn->ax->Prop}{PS:aa->Prop}{a:au}{base:Nat}(d:base=aM ac):∀ {r:OR},Sd VS CS PS a base r->orF P ac K Kp r->
  (∃ v,VS v a/\K v ac)\/(∃ k x v,VS v (bJ a k x)/\K v (bJ ac k x))\/(∃ f args,CS f args/\CallG P f args ac K Kp)\/∃ v,PS v/\Kp v ac
 | .no,_,k=>k.elim
 | .val v,h,k=>.inl ⟨v,h,k⟩
 | .mkf fn fs cs,h,k=>.inl ⟨_,h,k⟩
 | .need p r,h,k=>B4 d (h k.1) k.2
 | .alt p v w,h,k=>by
  rcases k with ⟨hp,k⟩ | k
  .exact .inl ⟨v,h.1 hp,k⟩
  .exact .inl ⟨w,h.2,k⟩
 | .idx n f,h,⟨i,hi,k⟩=>B4 d (h i hi) k
 | .elem xs i f,h,⟨x,hx,k⟩=>B4 d (h x hx) k
 | .byte l i,h,⟨c,hc,k⟩=>.inl ⟨_,h c hc,k⟩
 | .text xs,h,⟨l,hl,hm,k⟩=>.inl ⟨_,h l hl hm,k⟩
 | .find es key f,h,⟨o,ho,k⟩=>by subst ho;exact B4 d (r:=f (bB es key)) h k
 | .born x v,h,k=>.inr (.inl ⟨base,x,v,h,by rw [d];exact k⟩)
 | .upd i x v,h,k=>.inr (.inl ⟨i,x,v,h,k⟩)
 | .nilq xs neg,⟨b,h1,h2⟩,k=>.inl ⟨_,h2,k b h1⟩
 | .call f args,h,k=>.inr (.inr (.inl ⟨f,args,h,k⟩))
 | .pan v,h,k=>.inr (.inr (.inr ⟨v,h,k⟩))
def CV(l:au)(n:Nat):aB (l++Aj n .dead)=aB l:=by
 funext i;induction l generalizing i with
 | nil=>
  induction n generalizing i with
  | zero=>rfl
  | succ n a=>
   cases i with
   | zero=>rfl
   | succ i=>have:=a i;simpa [aB,Ku] using this
 | cons x r a=>
  cases i with
  | zero=>rfl
  | succ i=>exact a i
def MM(l:au)(x:ab):∀ k,(k<l.length->bJ (l++[.dead]) k x=bJ l k x++[.dead])/\(l.length<=k->bJ (l++[.dead]) k x=bJ l k x):=by
 induction l with
 | nil=>
  intro k;refine ⟨λ h=>by simp at h,λ_=>?_⟩;cases k with
  | zero=>rfl
  | succ k=>rfl
 | cons y r a=>
  intro k;cases k with
  | zero=>exact ⟨λ_=>rfl,λ h=>by simp at h⟩
  | succ k=>
   obtain ⟨h1,b⟩:=a k;exact ⟨λ h=>by show y::bJ (r++[.dead]) k x=y::(bJ r k x++[.dead]);grind,λ h=>by show y::bJ (r++[.dead]) k x=y::bJ r k x;grind⟩
def aLR{k g:Nat}{v:Value}(h:at' (ob++[[]]) k g=some v):at' ob k g=some v:=by
 unfold at' at *
 by_cases b:k<ob.length
 .rwa [Af b] at h
 .rw [Ak o_] at h;cases a:([[]]:Hs)[k-ob.length]? with
  | none=>grind
  | some hs=>
   rw [a] at h;have:hs=[]:=by have:=Av a;simp_all
   simp_all
def A1(hE:ae E)(hm:Mem M ob ac w){ρv:Operand->Value}{ρ:Operand->aa}(B:∀ x,Rep M ob (ρv x) (ρ x)){hint:Nat}{p:Oper}(h:orF E.P ac K Kp (eop E hint (aM ac) (aB ac) ρ p.op p.type)):
  nO E.P p ρv w (EU M ob ac w K Kp):=by
 obtain ⟨dst,op,ty,pos,b,q⟩:=p;obtain ⟨J,A,R⟩:=hm.extend 1;have y:ob.length=ac.length:=hm.len;have m:(ac++Aj 1 ab.dead)[aM ac]? =some .dead:=by rw [bG];simp
 have o:(ob++Aj 1 ([]:ba))[aM ac]? =some []:=by rw [bG,<-y];simp
 have hs:=yH hE J m o (λ x=>(B x).mono (λ_ _ _ h=>h) A.hs) hint op ty;rw [CV] at hs;have L:Aj 1 ab.dead=[.dead]:=rfl
 -- a value,where no number was taken
 have fin:∀ {v:aa} {ao:au},ao.length=ac.length->K v ao->VS E.P ρv op ty M (ob++Aj 1 []) (ac++Aj 1 .dead) w v (ao++Aj 1 .dead)->nO E.P ⟨dst,op,ty,pos,b,q⟩ ρv w (EU M ob ac w K Kp):=by
  intro v ao hl j ⟨u,w',M',ob',vs⟩;have l:∀ (i:Nat) hs,ao.length<=i->ob'[i]? =some hs->hs=[]:=by
   intro i hs Q N;have r:=(Ac.1 N).1;rw [vs.mem.len] at r;simp at r;obtain rfl:i=aM ac:=by rw [bG];omega
   have:=(vs.still (aM ac) [] m o).2 rfl (by rw [bG,<-hl];simp)
   grind
  obtain ⟨D,H,F⟩:=vs.mem.shrink l
  have c:EU M ob ac w K Kp (.returned u) w':=⟨M',_,_,F (A.trans vs.ext) o_,D,.inl ⟨u,v,rfl,vs.rep.monoA H,j⟩⟩
  rcases vs.run dst pos b q with d | ⟨d,rfl⟩
  .exact .inl ⟨u,w',d,c⟩
  .exact .inr (.inl ⟨w',d,c⟩)
 rcases B4 (P:=E.P) (K:=K) (Kp:=Kp) rfl hs h with ⟨v,h1,z⟩ | ⟨k,x,v,h1,z⟩ | ⟨f,args,⟨I,t,G⟩,j⟩ | ⟨v,⟨u,d,s⟩,j⟩
 .exact fin rfl z h1
 .rw [L] at h1;by_cases j:k<ac.length
  .rw [(MM ac x k).1 j] at h1;exact fin (by rw [fW _ j];simp) z h1
  .rw [(MM ac x k).2 o_] at h1;obtain ⟨u,w',M',ob',vs⟩:=h1
   have c:EU M ob ac w K Kp (.returned u) w':=⟨M',_,_,A.trans vs.ext,vs.mem,.inl ⟨u,v,rfl,vs.rep,z⟩⟩
   rcases vs.run dst pos b q with d | ⟨d,rfl⟩
   .exact .inl ⟨u,w',d,c⟩
   .exact .inr (.inl ⟨w',d,c⟩)
 .have n:bX M ob I args:=⟨t.1,λ i v a C O=>(t.2 i v a C O).monoA λ k g v=>aLR⟩
  exact iQ.op (λ e w h=>h.ne) (G dst pos b q) (O5 hm n j)
 .exact .inr (.inr (.inl ⟨u,w,d dst pos b q,M,ob,ac,Ext.refl _ _ _ _,hm,.inr ⟨_,v,rfl,⟨u,rfl,s.pure⟩,j⟩⟩))
end
open Classical
structure AS where
 g:Nat->aa
 o:Nat->ab
 br:Nat->Nat->Prop
def iY(g:Nat->aa)(d:Option Nat)(z:aa):Nat->aa:=λ t=>if d=some t then z else g t
def inB(base n k:Nat):Prop:=base<=k/\k<base+n
noncomputable def nF(o:Nat->ab)(base:Nat)(bs:au):Nat->ab:=λ k=>if inB base bs.length k then bs.getD (k-base) .dead else o k
noncomputable def AS.upd(s:AS)(i:Nat)(d:Option Nat)(z:aa)(base:Nat)(bs:au):AS:=⟨iY s.g d z,nF s.o base bs,λ a k=>s.br a k\/(a=i/\inB base bs.length k)⟩
def RD(tab:az)(j:Nat)(br:Nat->Nat->Prop)(k:Nat):Prop:=∃ i,br i k/\cR (cY tab j) i=false
noncomputable def nV(tab:az)(j:Nat)(s:AS):Nat->ab:=λ k=>if RD tab j s.br k then .dead else s.o k
def evG(tab:az)(all:bc)(j:Nat)(g:Nat->aa):Operand->aa
 | .tmp t=>bif NV tab j t 0 all then .undef else g t
 | x=>ev [] x
def aLe(tab:az)(all:bc)(j:Nat)(fr:ar):evH tab all j fr=evG tab all j (aU fr):=by funext x;cases x<;>rfl
def aJl(P:Program)(og:Nat->ab)(f:Fn)(args:ax)(z:aa):Prop:=
 ∃ ks ao l,aB l=og/\iR ks l=true/\ao.length=ks.length/\bF P f (dO (cvtV 0 ks og 5) args) (gF 0 ks l) (.ret z) ao/\(∀ b,gH ks b l 0 ao l=l)/\∀ b,embV ks b l 5 z=z
def gJ(P:Program)(og:Nat->ab)(base:Nat)(z:aa)(bs:au):OR->Prop
 | .val v=>z=v/\bs=[]
 | .mkf fn a cs=>z= .func fn a cs/\bs=[]
 | .need p r=>p/\gJ P og base z bs r
 | .alt p v w=>((p/\z=v)\/z=w)/\bs=[]
 | .idx n f=>∃ i:Nat,n=(i:Int)/\gJ P og base z bs (f i)
 | .elem xs i f=>∃ x,xs[i]? =some x/\gJ P og base z bs (f x)
 | .byte l i=>∃ c,l[i]? =some c/\z= .int .u8 (c.toNat:Int)/\bs=[]
 | .text xs=>∃ l:ay,xs=l.map ub/\(l.length:Int)<=9223372036854775807/\z= .str l/\bs=[]
 | .find es key f=>gJ P og base z bs (f (bB es key))
 | .born x v=>z=v/\bs=[x]
 | .call f args=>(∃ r new,bF P f (dO (cvtV 0 [] og 5) args) [] (.ret r) new/\z=embV [] base [] 5 r/\bs=jC base new)\/(aJl P og f args z/\bs=[])
 | _=>False
def B3{P:Program}{og:Nat->ab}{VS:aa->au->Prop}{CS:Fn->ax->Prop}{PS:aa->Prop}{b:au}{a base:Nat}{z:aa}{bs:au}:∀ {r:OR},Sd VS CS PS b a r->gJ P og base z bs r->
  (VS z b/\bs=[])\/(∃ x,VS z (bJ b a x)/\bs=[x])\/(∃ f args d new,CS f args/\bF P f (dO (cvtV 0 [] og 5) args) [] (.ret d) new/\z=embV [] base [] 5 d/\bs=jC base new)\/∃ f args,CS f args/\aJl P og f args z/\bs=[]
 | .no,_,k=>k.elim
 | .val v,h,⟨k1,k2⟩=>.inl ⟨k1▸h,k2⟩
 | .mkf fn fs cs,h,⟨k1,k2⟩=>.inl ⟨k1▸h,k2⟩
 | .need p r,h,k=>B3 (h k.1) k.2
 | .alt p v w,h,⟨k1,k2⟩=>by
  rcases k1 with ⟨hp,k⟩ | k
  .exact .inl ⟨k▸h.1 hp,k2⟩
  .exact .inl ⟨k▸h.2,k2⟩
 | .idx n f,h,⟨i,hi,k⟩=>B3 (h i hi) k
 | .elem xs i f,h,⟨x,hx,k⟩=>B3 (h x hx) k
 | .byte l i,h,⟨c,hc,k1,k2⟩=>.inl ⟨k1▸h c hc,k2⟩
 | .text xs,h,⟨l,hl,hm,k1,k2⟩=>.inl ⟨k1▸h l hl hm,k2⟩
 | .find es key f,h,k=>B3 (r:=f (bB es key)) h k
 | .born x v,h,⟨k1,k2⟩=>.inr (.inl ⟨x,k1▸h,k2⟩)
 | .upd i x v,h,k=>k.elim
 | .nilq xs neg,h,k=>k.elim
 | .call f args,h,.inl ⟨r,new,k1,k2,k3⟩=>.inr (.inr (.inl ⟨f,args,r,new,h,k1,k2,k3⟩))
 | .call f args,h,.inr ⟨k1,k2⟩=>.inr (.inr (.inr ⟨f,args,h,k1,k2⟩))
 | .pan v,h,k=>k.elim
def IU(z:aa)(k:Nat)(x:ab):OR->Prop
 | .need p r=>p/\IU z k x r
 | .idx n f=>∃ i:Nat,n=(i:Int)/\IU z k x (f i)
 | .elem xs i f=>∃ y,xs[i]? =some y/\IU z k x (f y)
 | .find es key f=>IU z k x (f (bB es key))
 | .upd a x' v=>a=k/\x'=x/\z=v
 | _=>False
def vQ{VS:aa->au->Prop}{CS:Fn->ax->Prop}{PS:aa->Prop}{a:au}{base:Nat}{z:aa}{k:Nat}{x:ab}:∀ {r:OR},Sd VS CS PS a base r->IU z k x r->VS z (bJ a k x)
 | .no,_,h=>h.elim
 | .val v,_,h=>h.elim
 | .mkf fn fs cs,_,h=>h.elim
 | .need p r,h,u=>vQ (h u.1) u.2
 | .alt p v w,_,h=>h.elim
 | .idx n f,h,⟨i,hi,u⟩=>vQ (h i hi) u
 | .elem xs i f,h,⟨y,hy,u⟩=>vQ (h y hy) u
 | .byte l i,_,h=>h.elim
 | .text xs,_,h=>h.elim
 | .find es key f,h,u=>vQ (r:=f (bB es key)) h u
 | .born x v,_,h=>h.elim
 | .upd i y v,h,⟨e1,e2,e3⟩=>by subst e1 e2 e3;exact h
 | .nilq xs neg,_,h=>h.elim
 | .call f args,_,h=>h.elim
 | .pan v,_,h=>h.elim
def mD{P:Program}{og:Nat->ab}{b base hint a:Nat}{e:TypeId}{xs:ax}{z:aa}:¬ gJ P og b z [] (pX hint base a e xs):=by unfold pX;split<;>(intro h;have:=h.2;cases this)
def OU{P:Program}{og:Nat->ab}{b:Nat}{c:Bool}{r:OR}{z:aa}{bs:au}(h:gJ P og b z bs (bif c then r else .no)):gJ P og b z bs r:=by
 cases c with
 | true=>exact h
 | false=>exact h.elim
def Y6{P:Program}{E:Env}{og:Nat->ab}{b base d hint:Nat}{ρ:Operand->aa}{op:Op}{ty:TypeId}{z:aa}:gJ P og b z [] (lV E hint base og ρ op ty)->gJ P og b z [] (lV E hint d og ρ op ty):=by
 have p:∀ (t k:Nat) (x y:aa),gJ P og b z [] (sW E hint base og t k x y)->gJ P og b z [] (sW E hint d og t k x y):=by
  intro t k x y;unfold sW;split
  .rename_i e a s _ _ _ _;cases Fp 1 a with
   | false=>exact id
   | true=>
    simp only [cond_true];split
    .exact id
    .split
     .split
      .exact id
      .rename_i j _ _;cases Aw j a with
       | false=>exact id
       | true=>exact λ h=>(mD h.2).elim
      .rename_i j _ _;cases Aw j a with
       | false=>exact id
       | true=>
             intro h;refine ⟨h.1,?_⟩;have g:=h.2;clear h;split at g
             .exact g
             .exact g
             .exact (mD g.2).elim
      .exact id
     .exact λ h=>(mD h.2).elim
     .exact id
     .exact id
     .exact id
  .exact id
 cases op
 case assign x=>
  simp only [lV];split
  .exact id
  .split
   .split
    .split
     .split
      .exact λ h=>(mD (OU h)).elim
      .exact id
     .exact id
    .exact id
   .exact id
 case alloc t=>
  simp only [lV];split
  .rename_i m _;cases pG m.zero.cells with
   | false=>exact id
   | true=>intro h;have:=h.2;cases this
  .exact id
 case box t x=>
  simp only [lV];cases pG (ρ x).cells with
  | false=>exact id
  | true=>intro h;have:=h.2;cases this
 case buildSlice t n ps=>
  simp only [lV];unfold mY;split
  .rename_i e a _ _ _ _ _;cases (Aw (aBT (evL ρ ps.toList)) n&&Fp (n*a) 1000&&Fp 1 a) with
   | false=>exact id
   | true=>
    simp only [cond_true];split
    .split
     .exact id
     .exact λ h=>(mD h).elim
    .exact id
  .exact id
 case makeSlice t x y=>
  simp only [lV];unfold WG;split
  .split
   .rename_i l _;intro h;cases o:(Fp 1 _&&CY (ah (λ_=>.dead) 4 l.zero)) with
    | false=>simp_all
    | true=>
     rw [o] at h;obtain ⟨i,_,_,h⟩:=h;have:=h.2;cases this
   .exact id
  .exact id
 case makeMap t x=>
  cases x with
  | some x=>exact id
  | none=>
   simp only [lV];split
   .split
    .intro h;have:=h.2;cases this
    .exact id
   .exact id
 case call c=>
  obtain ⟨callee,args,q⟩:=c;cases callee with
  | value f=>exact id
  | invoke r n=>exact id
  | builtin u=>
   simp only [lV];split
   .exact id
   .exact id
   .exact id
   .grind
   .exact id
   .exact id
   .exact id
   .exact id
 all_goals exact id
def aHM{P:Program}{og:Nat->ab}{b:Nat}{z:aa}{n:Int}{p:Nat->Prop}{x:Nat->ab}{v:aa}:¬ gJ P og b z [] (.idx n λ y=>.need (p y) (.born (x y) v)):=by rintro ⟨i,_,_,h⟩;have:=h.2;cases this
def aDG{P:Program}{E:Env}{og:Nat->ab}{b base a hint:Nat}{ρ:Operand->aa}{op:Op}{ty:TypeId}{z:aa}:gJ P og b z [] (eop E hint base og ρ op ty)->gJ P og b z [] (eop E hint a og ρ op ty):=by
 unfold eop;have d:(∃ r,kT E hint base og ρ op=some r/\kT E hint a og ρ op=some r)\/(kT E hint base og ρ op=none/\kT E hint a og ρ op=none)\/∃ r,kT E hint base og ρ op=some r/\¬ gJ P og b z [] r:=by
  have same:∀ {o:Option OR},kT E hint base og ρ op=o->kT E hint a og ρ op=o->(∃ r,kT E hint base og ρ op=some r/\kT E hint a og ρ op=some r)\/(kT E hint base og ρ op=none/\kT E hint a og ρ op=none)\/∃ r,kT E hint base og ρ op=some r/\¬ gJ P og b z [] r:=λ{o} h1 e=>by
   cases o with
   | none=>grind
   | some r=>grind
  cases op with
  | call c=>
   obtain ⟨callee,args,k⟩:=c;cases callee with
   | value f=>exact same rfl rfl
   | invoke r n=>exact same rfl rfl
   | builtin j=>
    cases j with
    | append=>
     simp only [kT];split
     .split
      .refine .inr (.inr ⟨_,rfl,?_⟩);unfold V7;split
       .split
        .intro h;exact aHM (OU h)
        .exact λ h=>h.elim
       .exact λ h=>h.elim
      simp
     simp
    | _=>exact same rfl rfl
  | slice t x lo g i=>cases lo<;>cases g<;>cases i<;>exact same rfl rfl
  | _=>exact same rfl rfl
 rcases d with ⟨r,h1,e⟩ | ⟨h1,e⟩ | ⟨r,h1,e⟩
 .grind
 .rw [h1,e];exact Y6
 grind
def AU:au->Nat->au->au
 | ac,_,[]=>ac
 | ac,base,x::r=>AU (bJ ac base x) (base+1) r
def HH(base:Nat)(a:au):∀ (new:au) (j:Nat) (ac:au),gH [] base a j new ac=AU ac (base+j) (jC base new)
 | [],j,ac=>rfl
 | x::r,j,ac=>by
  have e:dU [] base j=base+j:=by rfl
  have b:pR [] base a j x=pR [] base [] 0 x:=by rfl
  simp only [gH,jC,Bl,AU];rw [HH base a r (j+1),e,b];rfl
def rK{P:Program}{m bl:Bool}{b ac:au}{base:Nat}{K Kp:aa->au->Prop}:∀ {r:OR},orD P false m bl b ac base K Kp r->
  (∃ z bs,(bl=true->bs=[])/\gJ P (aB b) base z bs r/\K z (AU ac base bs))\/∃ z k x,m=true/\aB b k≠ .dead/\IU z k x r/\K z (bJ ac k x)
 | .no,k=>k.elim
 | .val v,k=>.inl ⟨v,[],λ_=>rfl,⟨rfl,rfl⟩,k⟩
 | .mkf fn fs cs,k=>.inl ⟨_,[],λ_=>rfl,⟨rfl,rfl⟩,k⟩
 | .need p r,⟨hp,k⟩=>by
  rcases rK k with ⟨z,bs,d,h1,a⟩ | ⟨z,g,x,d,h1,a,h3⟩
  .exact .inl ⟨z,bs,d,⟨hp,h1⟩,a⟩
  .exact .inr ⟨z,g,x,d,h1,⟨hp,a⟩,h3⟩
 | .alt p v w,k=>by
  rcases k with ⟨hp,k⟩ | k
  .exact .inl ⟨v,[],λ_=>rfl,⟨.inl ⟨hp,rfl⟩,rfl⟩,k⟩
  .exact .inl ⟨w,[],λ_=>rfl,⟨.inr rfl,rfl⟩,k⟩
 | .idx n f,⟨i,j,k⟩=>by
  rcases rK k with ⟨z,bs,d,h1,a⟩ | ⟨z,g,x,d,h1,a,h3⟩
  .exact .inl ⟨z,bs,d,⟨i,j,h1⟩,a⟩
  .exact .inr ⟨z,g,x,d,h1,⟨i,j,a⟩,h3⟩
 | .elem xs i f,⟨y,hy,k⟩=>by
  rcases rK k with ⟨z,bs,d,h1,a⟩ | ⟨z,g,x,d,h1,a,h3⟩
  .exact .inl ⟨z,bs,d,⟨y,hy,h1⟩,a⟩
  .exact .inr ⟨z,g,x,d,h1,⟨y,hy,a⟩,h3⟩
 | .byte l i,⟨c,hc,k⟩=>.inl ⟨_,[],λ_=>rfl,⟨c,hc,rfl,rfl⟩,k⟩
 | .text xs,⟨l,hl,hm,k⟩=>.inl ⟨_,[],λ_=>rfl,⟨l,hl,hm,rfl,rfl⟩,k⟩
 | .find es key f,⟨o,ho,k⟩=>by
  subst ho;rcases rK k with ⟨z,bs,d,h1,a⟩ | ⟨z,g,x,d,h1,a,h3⟩
  .exact .inl ⟨z,bs,d,h1,a⟩
  .exact .inr ⟨z,g,x,d,h1,a,h3⟩
 | .born x v,k=>by
  cases bl with
  | true=>exact k.elim
  | false=>exact .inl ⟨v,[x],(λ h=>nomatch h),⟨rfl,rfl⟩,k⟩
 | .upd i x v,k=>by
  simp only [orD,Mv] at k;split at k
  .rename_i h;obtain ⟨h1,a⟩:=aS h;exact .inr ⟨v,i,x,h1,(λ e=>by rw [e] at a;cases a),⟨rfl,rfl,rfl⟩,k⟩
  grind
 | .nilq xs neg,k=>k.elim
 | .call f args,k=>by
  cases bl with
  | true=>exact k.elim
  | false=>
   have k:CallD P f args false b base ac K Kp:=k;cases k with
   | pure r new h k=>exact .inl ⟨_,_,(λ h=>nomatch h),.inl ⟨r,new,h,rfl,rfl⟩,by rw [HH,Ff] at k;rw [aDJ] at k;exact k⟩
   | sole h=>cases h
   | look ks r o q hl h j hz k=>exact .inl ⟨r,[],λ_=>rfl,.inr ⟨⟨ks,o,b,rfl,q,hl,h,j,hz⟩,rfl⟩,k⟩
 | .pan v,k=>k.elim
def sN(l:au)(n k:Nat)(x:ab):aB (bJ l n x) k=if k=n then x else aB l k:=by
 induction l generalizing n k with
 | nil=>
  induction n generalizing k with
  | zero=>cases k<;>rfl
  | succ n a=>
   cases k with
   | zero=>rfl
   | succ k=>show aB (bJ [] n x) k=_;rw [a];simp [aB]
 | cons y r a=>
  cases n with
  | zero=>cases k<;>simp [bJ,aB]
  | succ n=>
   cases k with
   | zero=>simp [bJ,aB]
   | succ k=>simp only [bJ,aB,a];simp
def U0{l m:au}(h:aB l=aB m):∀ ks,iR ks l=iR ks m
 | []=>rfl
 | k::r=>by unfold iR;rw [h,U0 h r]
def aFp{l m:au}(h:aB l=aB m){ks:az}:gF 0 ks l=gF 0 ks m:=by
 have e:∀ j x,FA 0 ks l j x=FA 0 ks m j x:=λ j x=>by cases x<;>simp only [FA,h]
 have:∀ (r:az) (j:Nat),qU 0 ks l j r=qU 0 ks m j r:=λ r=>by
  induction r with
  | nil=>intro j;rfl
  | cons k r a=>intro j;simp only [qU,e,h,a]
 exact this ks 0
def V9{l m:au}(h:aB l=aB m){ks:az}(j g:Nat):iS ks l j g=iS ks m j g:=by unfold iS;rw [h]
def JZ{l m:au}(h:aB l=aB m){ks:az}{b:Nat}:∀ n v,embV ks b l n v=embV ks b m n v
 | 0,_=>rfl
 | n+1,v=>by have a:embV ks b l n=embV ks b m n:=funext (JZ h n);cases v<;>simp only [embV,V9 h,a]
def V8{l m:au}(h:aB l=aB m){ks:az}{b:Nat}:∀ (o:au) (j:Nat) (x y:au),aB x=aB y->aB (gH ks b l j o x)=aB (gH ks b m j o y)
 | [],_,_,_,e=>e
 | c::r,j,x,y,e=>by
  have a:pR ks b l j c=pR ks b m j c:=by have d:embV ks b l 4=embV ks b m 4:=funext (JZ h 4);cases c<;>simp only [pR,V9 h,d]
  unfold gH;refine V8 h r (j+1) _ _ ?_;rw [a];funext k;rw [sN,sN,e]
def OK{l:au}{ks:az}{b:Nat}(d:∀ (j k:Nat),ks[j]? =some k->k<l.length):∀ (o:au) (j:Nat) (x:au),j+o.length<=ks.length->x.length=l.length->(gH ks b l j o x).length=l.length
 | [],_,_,_,e=>e
 | c::r,j,x,h,e=>by rw [Al] at h;have a:ks[j]? =some ks[j]:=Aa o_;unfold gH;refine OK d r (j+1) _ o_ ?_;rw [hC a,fW _ (by rw [e];exact d j _ a),Df,e]
section
variable {P:Program} {E:Env} {M:Imm} {ob:Hs} {L:au} {w:World}
def eZ(l:au)(k:Nat):(k<l.length/\l[k]? =some (aB l k))\/(l.length<=k/\l[k]? =none/\aB l k= .dead):=by
 by_cases h:k<l.length
 .exact .inl ⟨h,oB h⟩
 .refine .inr ⟨by omega,Bg o_,?_⟩;cases a:aB l k with
  | dead=>rfl
  | _=>exact absurd (Ac.1 (bD a s_)).1 h
noncomputable def cC(hid:Nat->Prop)(L:au):au:=(Dr L.length).map λ k=>if hid k then .dead else aB L k
def FW{hid:Nat->Prop}{k:Nat}(h:k<L.length):(cC hid L)[k]? =some (if hid k then .dead else aB L k):=by simp [cC,Dj h]
def dP{hid:Nat->Prop}:(cC hid L).length=L.length:=by simp [cC]
def fT{hid:Nat->Prop}:S1 (cC hid L) L:=⟨dP,λ k=>by
 rcases eZ L k with ⟨h,e⟩ | ⟨h,e,_⟩
 .rw [FW h,e]
  grind
 .left;rw [e,Bg (by rw [dP];omega)]⟩
def fU{hid:Nat->Prop}:aB (cC hid L)=λ k=>if hid k then .dead else aB L k:=by
 funext k;rcases eZ L k with ⟨h,e⟩ | ⟨h,e,b⟩
 .exact fN (FW h)
 .rcases eZ (cC hid L) k with ⟨a,_⟩ | ⟨_,_,c⟩
  .rw [dP] at a;omega
  grind
def S5(M:Imm)(ob:Hs)(L:au)(w:World)(z:aa)(base:Nat)(bs:au)(e:Ending)(w':World):Prop:=
 ∃ M' ob' L' u,e= .returned u/\Ext M ob L w M' ob' L' w'/\Mem M' ob' L' w'/\aB L'=nF (aB L) base bs/\L.length<=L'.length/\Rep M' ob' u z/\∀ (k:Nat),¬ inB base bs.length k->(∀ hs,ob[k]? =some hs->hs=[])->∀ hs,ob'[k]? =some hs->hs=[]
def aLq(hE:ae E)(hm:Mem M ob L w){hid:Nat->Prop}{ρv:Operand->Value}{ρ:Operand->aa}(hρ:∀ x,Rep M ob (ρv x) (ρ x)){hint base:Nat}{p:Oper}{z:aa}{bs:au}
  (J:∀ (k:Nat),inB base bs.length k->∀ hs,ob[k]? =some hs->hs=[])
  (h:gJ E.P (aB (cC hid L)) base z bs (eop E hint base (aB (cC hid L)) ρ p.op p.type)):nO E.P p ρv w (S5 M ob L w z base bs):=by
 obtain ⟨dst,op,ty,pos,m,Y⟩:=p
 -- room
 obtain ⟨n,hn⟩:∃ n,base+bs.length+1<=L.length+n/\0<n:=⟨base+bs.length+1,by omega,by omega⟩
 obtain ⟨hn,hn0⟩:=hn;obtain ⟨F,Z,m3⟩:=hm.extend n;have X:(L++Aj n ab.dead).length=L.length+n:=by simp
 have hob1:(ob++Aj n ([]:ba)).length=L.length+n:=by simp [hm.len]
 generalize hL1:L++Aj n ab.dead=L1 at F Z m3 X;generalize hO1:ob++Aj n ([]:ba)=ob1 at F Z m3 hob1;have H:aB L1=aB L:=by rw [<-hL1];exact CV L n
 have d:∀ k,(∀ hs,ob[k]? =some hs->hs=[])->k<L1.length->ob1[k]? =some []:=λ k r s=>by
  rw [<-hO1];by_cases Q:k<ob.length
  .rw [Af Q,Aa Q,r _ (Aa Q)]
  .rw [Ak o_,Ei,if_pos (by rw [hm.len] at Q⊢;omega)]
 have y:aB (cC hid L1)=aB (cC hid L):=by rw [fU,fU,H]
 -- where it would be born
 obtain ⟨i,K,hbb,A,h⟩:∃ i,ob1[i]? =some []/\(bs≠[]->i=base)/\i<L1.length/\gJ E.P (aB (cC hid L)) base z bs (eop E hint i (aB (cC hid L)) ρ op ty):=by
  by_cases hbs:bs=[]
  .subst hbs;exact ⟨L.length,d _ (λ hs t=>by have:=(Ac.1 t).1;rw [hm.len] at this;omega) o_,λ h=>absurd rfl h,by omega,aDG h⟩
  .have hpos:0<bs.length:=by cases bs<;>simp at hbs⊢
   exact ⟨base,d base (J base ⟨Bf _,by omega⟩) o_,λ_=>rfl,by omega,h⟩
 have W:=F.weak (fT (hid:=hid));have hb1:(cC hid L1)[i]? =some .dead:=W.idle K;have hs:=yH hE W hb1 K (λ x=>(hρ x).mono (λ_ _ _ h=>h) Z.hs) hint op ty;rw [y] at hs;have live:∀ {k:Nat} {c:ab},L1[k]? =some c->(cC hid L1)[k]? =some c\/((cC hid L1)[k]? =some .dead/\(∃ hs,ob1[k]? =some hs/\hs≠[])/\L1[k]? =some c):=λ{k c} G=>by
  rcases (fT (hid:=hid) (L:=L1)).2 k with q | q
  .left;rw [q];exact G
  .by_cases hd:c= .dead
   .left;rw [q,hd]
   .right;exact ⟨q,F.live G hd,G⟩
 have fin:∀ {u:Value} {w':World},S5 M ob L w z base bs (.returned u) w'->((execOp ρv ⟨dst,op,ty,pos,m,Y⟩).run E.P w= .ok (.value u) w'\/((execOp ρv ⟨dst,op,ty,pos,m,Y⟩).run E.P w= .ok .skip w'/\u=undef))->nO E.P ⟨dst,op,ty,pos,m,Y⟩ ρv w (S5 M ob L w z base bs):=by
  intro u w' ha hr;rcases hr with hr | ⟨hr,rfl⟩
  .exact .inl ⟨u,w',hr,ha⟩
  .exact .inr (.inl ⟨w',hr,ha⟩)
 rcases B3 (P:=E.P) hs h with ⟨⟨u,w',M',ob',vs⟩,rfl⟩ | ⟨x,⟨u,w',M',ob',vs⟩,rfl⟩ | ⟨f,args,r0,new,⟨va,hva,hx⟩,I,rfl,rfl⟩ | ⟨f,args,⟨va,hva,hx⟩,⟨ks,o,l,hl,r,hol,I,hi,hz⟩,rfl⟩
 .obtain ⟨S,v2,v3⟩:=F.revive (ao:=L1) (fT (hid:=hid)) vs.ext vs.still vs.mem (by rw [dP]) λ k c G=>live G;refine fin ⟨M',ob',L1,u,rfl,Z.trans v2,S,?_,by omega,vs.rep,λ k r T hs t=>?_⟩ (vs.run dst pos m Y)
  .rw [H];funext k;unfold nF;rw [if_neg λ h=>by have:=h.2;have:=h.1;simp at *;omega]
  .have s:k<L1.length:=by rw [<-S.len];exact (Ac.1 t).1
   have e:=d k T s;have hd:=F.idle e;have:=(v3 k [] hd e).2 rfl hd;rw [t] at this;cases this;rfl
 .obtain rfl:base=i:=(hbb s_).symm;have g:bJ L1 base x=L1.set base x:=fW x A;have C:bJ (cC hid L1) base x=(cC hid L1).set base x:=fW x (by rw [dP];exact A);obtain ⟨S,v2,v3⟩:=F.revive (ao:=bJ L1 base x) (fT (hid:=hid)) vs.ext vs.still vs.mem (by rw [g,C];simp [dP]) λ k c G=>by
   by_cases r:k=base
   .subst r;left;rw [g,Aq A] at G;rw [C,Aq (by rw [dP];exact A)];exact G
   .rw [g,Ax (Ej r)] at G;rw [C,Ax (Ej r)];exact live G
  refine fin ⟨M',ob',bJ L1 base x,u,rfl,Z.trans v2,S,?_,by rw [g];simp;omega,vs.rep,λ k r T hs t=>?_⟩ (vs.run dst pos m Y)
  .funext k;unfold nF;by_cases r:k=base
   .subst r;rw [if_pos ⟨Bf _,by simp⟩,g];rw [fN (Aq A)];simp
   .rw [if_neg λ h=>r (by have h1:=h.1;have h2:=h.2;simp at h2;omega),<-H,g];rcases eZ L1 k with ⟨h1,N⟩ | ⟨h1,N,R⟩
    .exact fN (by rw [Ax (Ej r)];exact N)
    .rcases eZ (L1.set base x) k with ⟨h3,_⟩ | ⟨_,_,O⟩
     .simp at h3;omega
     .rw [O,R]
  .have hkb:k≠base:=λ e=>r ⟨by omega,by simp;omega⟩;have s:k<L1.length:=by have:=(Ac.1 t).1;rw [S.len,g] at this;simpa using this
   have e:=d k T s;have hd:=F.idle e;have:=(v3 k [] hd e).2 rfl (by rw [g,Ax (Ej hkb)];exact hd);rw [t] at this;cases this;rfl
 .rw [<-y] at I;have B:=sP (λ v a=>W.cvtV (n0:=0) (ks:=[]) rfl 5 v a) hva;have hnl:(jC base new).length=new.length:=by simp [jC]
  refine iQ.op (λ e w ⟨_,_,_,u,t,_⟩=>by rw [t];simp) (hx dst pos m Y) (cE.mono (λ e w' ⟨M',U,x1,x2,V⟩=>?_) (I M [] w va F.bare B));have hin:∀ j,j<new.length->ob1[base+j]? =some []:=λ j hj=>d _ (J _ ⟨by omega,by omega⟩) o_;obtain ⟨N,R,O⟩:=F.emb0 o_ hin x1 x2;obtain ⟨q1,q2⟩:=fG L1 (jC base new) base o_;obtain ⟨p1,p2⟩:=fG ob1 U base (by rw [x2.len];omega);cases e with
  | panicked ch=>exact V.elim
  | outgrown=>exact V.elim
  | returned u=>
   refine ⟨M',_,_,u,rfl,Z.trans R,N,?_,by omega,O 5 u r0 V,λ k r T hs t=>?_⟩
   .funext k;unfold nF;by_cases r:inB base (jC base new).length k
    .rw [if_pos r];have s:k-base<(jC base new).length:=by have:=r.1;have:=r.2;omega
     refine fN ?_;rw [q2,if_pos (show base<=k/\k<base+(jC base new).length from r),Eu,Aa s];rfl
    .rw [if_neg r,<-H];rcases eZ L1 k with ⟨h1,N⟩ | ⟨h1,N,R⟩
     .exact fN (by rw [q2,if_neg (show ¬ (base<=k/\k<base+(jC base new).length) from r)];exact N)
     .rcases eZ (L1.take base++jC base new++L1.drop (base+(jC base new).length)) k with ⟨h3,_⟩ | ⟨_,_,O⟩
      .omega
      .rw [O,R]
   .rw [p2,if_neg (show ¬ (base<=k/\k<base+U.length) from by rw [x2.len,<-hnl];exact r)] at t;have s:k<L1.length:=by rw [<-F.len];exact (Ac.1 t).1
    rw [d k T s] at t;cases t;rfl
 .have D:aB l=aB (cC hid L1):=hl.trans y.symm;rw [<-y,aFp D] at I;rw [U0 D] at r;obtain ⟨c1,_,_⟩:=W.cvt (n0:=0) r;have B:=sP (λ v a=>W.cvtV (n0:=0) r 5 v a) hva;refine iQ.op (λ e w ⟨_,_,_,u,t,_⟩=>by rw [t];intro h;cases h) (hx dst pos m Y) (cE.mono (λ e w' ⟨M',U,x1,x2,V⟩=>?_) (I M _ w va c1 B));obtain ⟨N,R,O⟩:=W.emb r x1 x2;have hL2:gH ks (cC hid L1).length (cC hid L1) 0 o (cC hid L1)=cC hid L1:=by
   have h1:=V8 D (ks:=ks) (b:=(cC hid L1).length) o 0 l (cC hid L1) D;rw [hi] at h1;have h2:=OK (l:=cC hid L1) (ks:=ks) (b:=(cC hid L1).length) (λ j k hj=>(Ac.1 (eP ((lP r).1 j k hj))).1) o 0 (cC hid L1) o_ rfl;refine Ea λ n=>?_;by_cases hn:n<(cC hid L1).length
   .rw [oB hn,oB (by rw [h2];exact hn),<-h1,D]
   .rw [Bg o_,Bg o_]
  rw [hL2] at N R O;cases e with
  | panicked ch=>exact V.elim
  | outgrown=>exact V.elim
  | returned u=>
   have hu:=W.embV r x1.hs oM 5 u z V;rw [<-JZ D,hz] at hu;obtain ⟨S,v2,v3⟩:=F.revive (ao:=L1) (fT (hid:=hid)) R (λ k hs h1 h2=>⟨λ_=>O k hs h1 h2,λ e _=>e▸(O k hs h1 h2).2⟩) N (by rw [dP]) λ k c G=>live G;refine ⟨M',_,L1,u,rfl,Z.trans v2,S,?_,by omega,hu,λ k r T hs t=>?_⟩
   .rw [H];funext k;unfold nF;rw [if_neg λ h=>by have:=h.2;have:=h.1;simp at *;omega]
   .have s:k<L1.length:=by rw [<-S.len];exact (Ac.1 t).1
    have e:=d k T s;have hd:=F.idle e;have:=(v3 k [] hd e).2 rfl hd;rw [t] at this;cases this;rfl
def aER(M:Imm)(ob:Hs)(L:au)(w:World)(z:aa)(k:Nat)(x:ab)(e:Ending)(w':World):Prop:=
 ∃ M' ob' L' u,e= .returned u/\Ext M ob L w M' ob' L' w'/\Mem M' ob' L' w'/\(aB L'=λ a=>if a=k then x else aB L a)/\L.length<=L'.length/\Rep M' ob' u z/\∀ (a:Nat),(∀ hs,ob[a]? =some hs->hs=[])->∀ hs,ob'[a]? =some hs->hs=[]
def aH9(hE:ae E)(hm:Mem M ob L w){hid:Nat->Prop}{ρv:Operand->Value}{ρ:Operand->aa}(T:∀ x,Rep M ob (ρv x) (ρ x)){hint base:Nat}{p:Oper}{z:aa}{k:Nat}{x:ab}
  (r:∀ hs,ob[base]? =some hs->hs=[]) (F:aB (cC hid L) k≠ .dead) (h:IU z k x (eop E hint base (aB (cC hid L)) ρ p.op p.type)):nO E.P p ρv w (aER M ob L w z k x):=by
 obtain ⟨dst,op,ty,pos,o,V⟩:=p
 obtain ⟨n,hn,W⟩:∃ n,base+1<=L.length+n/\0<n:=⟨base+1,by omega,by omega⟩
 obtain ⟨t,D,Q⟩:=hm.extend n;have s:(L++Aj n ab.dead).length=L.length+n:=by simp
 have B:(ob++Aj n ([]:ba)).length=L.length+n:=by simp [hm.len]
 generalize J:L++Aj n ab.dead=L1 at t D Q s;generalize K:ob++Aj n ([]:ba)=ob1 at t D Q B;have A:aB L1=aB L:=by rw [<-J];exact CV L n
 have g:∀ k,(∀ hs,ob[k]? =some hs->hs=[])->k<L1.length->ob1[k]? =some []:=λ k F y=>by
  rw [<-K];by_cases a:k<ob.length
  .rw [Af a,Aa a,F _ (Aa a)]
  .rw [Ak o_,Ei,if_pos (by rw [hm.len] at a⊢;omega)]
 have f:aB (cC hid L1)=aB (cC hid L):=by rw [fU,fU,A]
 have i:=g base r o_;have S:=t.weak (fT (hid:=hid));have G:(cC hid L1)[base]? =some .dead:=S.idle i;have hs:=yH hE S G i (λ x=>(T x).mono (λ_ _ _ h=>h) D.hs) hint op ty;rw [f] at hs;have live:∀ {k:Nat} {c:ab},L1[k]? =some c->(cC hid L1)[k]? =some c\/((cC hid L1)[k]? =some .dead/\(∃ hs,ob1[k]? =some hs/\hs≠[])/\L1[k]? =some c):=λ{k c} m=>by
  rcases (fT (hid:=hid) (L:=L1)).2 k with q | q
  .left;rw [q];exact m
  .by_cases hd:c= .dead
   .left;rw [q,hd]
   .right;exact ⟨q,t.live m hd,m⟩
 have a:k<L1.length:=by have:=bD (l:=cC hid L1) (n:=k) rfl (by rw [f];exact F);have:=(Ac.1 this).1;rwa [dP] at this
 obtain ⟨u,w',M',ob',vs⟩:=vQ hs h;have d:bJ (cC hid L1) k x=(cC hid L1).set k x:=fW x (by rw [dP];exact a);obtain ⟨N,X,U⟩:=t.revive (ao:=L1.set k x) (fT (hid:=hid)) vs.ext vs.still vs.mem (by rw [d];simp [dP]) λ j c m=>by
  by_cases b:j=k
  .subst b;left;rw [Aq a] at m;rw [d,Aq (by rw [dP];exact a)];exact m
  .rw [Ax (Ej b)] at m;rw [d,Ax (Ej b)];exact live m
 have C:aER M ob L w z k x (.returned u) w':=by
  refine ⟨M',ob',L1.set k x,u,rfl,D.trans X,N,?_,by simp;omega,vs.rep,λ j Z hs R=>?_⟩
  .funext j;by_cases b:j=k
   .subst b;rw [if_pos rfl];exact fN (Aq a)
   .rw [if_neg b,<-A];rcases eZ L1 j with ⟨h1,O⟩ | ⟨h1,O,I⟩
    .exact fN (by rw [Ax (Ej b)];exact O)
    .rcases eZ (L1.set k x) j with ⟨h3,_⟩ | ⟨_,_,Y⟩
     .simp at h3;omega
     .rw [Y,I]
  .have y:j<L1.length:=by have:=(Ac.1 R).1;rw [N.len] at this;simpa using this
   have e:=g j Z y;have hd:=t.idle e;have b:j≠k:=λ I=>by
    subst I;refine F ?_;rw [<-f,fU];dsimp only;split
    .rfl
    .exact fN hd
   have:=(U j [] hd e).2 rfl (by rw [Ax (Ej b)];exact hd);rw [R] at this;cases this;rfl
 rcases vs.run dst pos o V with H | ⟨H,rfl⟩
 .exact .inl ⟨u,w',H,C⟩
 .exact .inr (.inl ⟨w',H,C⟩)
end
noncomputable def lH(E:Env)(tab:az)(i:Nat)(d:Option Nat)(s:AS):Nat->ab:=if blD E d=true then λ_=>.dead else nV tab i s
def Y(E:Env)(all:bc)(tab:az)(L0 i:Nat)(p:Oper)(s:AS)(z:aa)(base:Nat)(bs:au):Prop:=
 L0<=base/\(blD E p.dst=true->bs=[])/\((bQ all (evG tab all i s.g) p.guard=some false/\z= .tup []/\bs=[])\/
  (bQ all (evG tab all i s.g) p.guard=some true/\gJ E.P (lH E tab i p.dst s) base z bs (eop E (fX E p.dst) base (lH E tab i p.dst s) (evG tab all i s.g) p.op p.type)))
def fresh(s:AS)(base:Nat)(bs:au):Prop:=∀ k,inB base bs.length k->∀ i,¬ s.br i k
def WF(L0:Nat)(s:AS):Prop:=∀ k,L0<=k->(∀ i,¬ s.br i k)->s.o k= .dead
def nOp(E:Env)(all:bc)(tab:az)(L0 i:Nat)(p:Oper)(K:AS->Prop)(s:AS):Prop:=
 ∃ z base bs,Y E all tab L0 i p s z base bs/\fresh s base bs/\K (s.upd i p.dst z base bs)
section
variable {E:Env} {all:bc} {tab:az} {L0:Nat}
def GV{j i t:Nat}{q:Oper}:∀ {l:bc} {n:Nat},l[i]? =some q->q.dst=some t->loose tab (n+i) j=true->NV tab j t n l=true
 | [],n,h,_,_=>by simp at h
 | x::r,n,h,hd,hl=>by
  cases i with
  | zero=>
   simp at h;subst h;rw [Ff] at hl;simp [NV,hd,hl]
  | succ i=>
   have:=GV (l:=r) (n:=n+1) (i:=i) (q:=q) (by simp_all) hd (by rw [show n+1+i=n+(i+1) from by omega];exact hl);simp [NV,this]
def oE{i j:Nat}:loose tab i j=true↔i≠j/\cR (cY tab j) i=false/\cR (cY tab i) j=false:=by
 simp only [loose,Ad,Cw];constructor
 .rintro ⟨⟨h1,a⟩,h3⟩;exact ⟨λ e=>by simp_all,a,h3⟩
 .rintro ⟨h1,a,h3⟩;exact ⟨⟨EG h1,a⟩,h3⟩
def pL{i j:Nat}(h:loose tab i j=true):loose tab j i=true:=by obtain ⟨h1,a,h3⟩:=oE.1 h;exact oE.2 ⟨Ej h1,h3,a⟩
def JW{i j:Nat}{q:Oper}(a:all[j]? =some q)(hl:loose tab j i=true)(g:Nat->aa)(z:aa):evG tab all i (iY g q.dst z)=evG tab all i g:=by
 funext x;cases x with
 | tmp t=>
  simp only [evG];cases b:NV tab i t 0 all with
  | true=>rfl
  | false=>
   simp only [cond_false,iY];rw [if_neg];intro e;have:=GV (l:=all) (n:=0) a e q_
   grind
 | _=>rfl
def XQ{i j:Nat}(hl:loose tab j i=true){s:AS}(l:WF L0 s){d:Option Nat}{z:aa}{base:Nat}{bs:au}(g:L0<=base)(f:fresh s base bs):nV tab i (s.upd j d z base bs)=nV tab i s:=by
 obtain ⟨_,e,_⟩:=oE.1 hl;funext k;unfold nV;by_cases c:inB base bs.length k
 .have h1:RD tab i (s.upd j d z base bs).br k:=⟨j,.inr ⟨rfl,c⟩,e⟩
  rw [if_pos h1];have n:=l k (Cx g c.1) (f k c)
  grind
 .have m:(s.upd j d z base bs).o k=s.o k:=by
   show nF s.o base bs k=s.o k;unfold nF
   grind
  have p:RD tab i (s.upd j d z base bs).br k↔RD tab i s.br k:=by
   constructor
   .rintro ⟨a,h | ⟨_,h⟩,b⟩
    .exact ⟨a,h,b⟩
    grind
   .rintro ⟨a,h,b⟩;exact ⟨a,.inl h,b⟩
  grind
def aJj{i j:Nat}{p q:Oper}(d:all[j]? =some q)(hl:loose tab j i=true){s:AS}(l:WF L0 s){c:aa}{a:Nat}{b:au}(f:L0<=a)(e:fresh s a b){z:aa}{base:Nat}{bs:au}:
  Y E all tab L0 i p (s.upd j q.dst c a b) z base bs↔Y E all tab L0 i p s z base bs:=by
 have k:evG tab all i (s.upd j q.dst c a b).g=evG tab all i s.g:=JW d hl s.g c;have h:lH E tab i p.dst (s.upd j q.dst c a b)=lH E tab i p.dst s:=by unfold lH;rw [XQ hl l f e]
 unfold Y;rw [k,h]
def WF.upd{i:Nat}{s:AS}(e:WF L0 s){d:Option Nat}{z:aa}{base:Nat}{bs:au}:WF L0 (s.upd i d z base bs):=λ k b a=>by have h1:¬ inB base bs.length k:=λ h=>a i (.inr ⟨rfl,h⟩);show nF s.o base bs k= .dead;unfold nF;rw [if_neg h1];exact e k b λ c h=>a c (.inl h)
def aAr{s:AS}{i j:Nat}{d e:Option Nat}{z f:aa}{base a:Nat}{bs b:au}(hd:∀ t,d=some t->e≠some t)(h:∀ k,inB base bs.length k->¬ inB a b.length k):
  (s.upd i d z base bs).upd j e f a b=(s.upd j e f a b).upd i d z base bs:=by
 have l:iY (iY s.g d z) e f=iY (iY s.g e f) d z:=by
  funext t;simp only [iY]
  grind
 have n:nF (nF s.o base bs) a b=nF (nF s.o a b) base bs:=by
  funext k;unfold nF
  grind
 have m:(λ c k=>(s.br c k\/(c=i/\inB base bs.length k))\/(c=j/\inB a b.length k))=λ c k=>(s.br c k\/(c=j/\inB a b.length k))\/(c=i/\inB base bs.length k):=by
  funext c k
  grind
 show AS.mk (iY (iY s.g d z) e f) (nF (nF s.o base bs) a b) (λ c k=>(s.br c k\/(c=i/\inB base bs.length k))\/(c=j/\inB a b.length k))=_;rw [l,n,m];rfl
def aGF{i j:Nat}{p q:Oper}(hp:all[i]? =some p)(w:all[j]? =some q)(hl:loose tab i j=true)(hd:∀ t,p.dst=some t->q.dst≠some t){s:AS}(n:WF L0 s){z:aa}{base:Nat}{bs:au}
  (o:Y E all tab L0 i p s z base bs) (u:fresh s base bs) {K:AS->Prop} (h:nOp E all tab L0 j q K (s.upd i p.dst z base bs)):
  nOp E all tab L0 j q (λ s'=>WF L0 s'/\Y E all tab L0 i p s' z base bs/\fresh s' base bs/\K (s'.upd i p.dst z base bs)) s:=by
 obtain ⟨v,a,b,h1,r,h3⟩:=h;have e:=(aJj (p:=q) hp hl n o.1 u).1 h1;have f:fresh s a b:=λ k g l c=>r k g l (.inl c);have d:∀ k,inB base bs.length k->¬ inB a b.length k:=λ k g m=>r k m i (.inr ⟨rfl,g⟩);refine ⟨v,a,b,e,f,n.upd,(aJj (p:=p) w (pL hl) n e.1 f).2 o,λ k g l c=>?_,?_⟩
 .rcases c with c | ⟨_,c⟩
  .exact u k g l c
  simp_all
 .rw [<-aAr hd d];exact h3
noncomputable def AS.turn(s:AS)(d:Option Nat)(z:aa)(k:Nat)(x:ab):AS:=⟨iY s.g d z,λ a=>if a=k then x else s.o a,s.br⟩
def Yu(E:Env)(all:bc)(tab:az)(L0 i:Nat)(p:Oper)(s:AS)(z:aa)(base k:Nat)(x:ab):Prop:=
 (L0<=base/\∀ i,¬ s.br i base)/\bQ all (evG tab all i s.g) p.guard=some true/\nV tab i s k≠ .dead/\IU z k x (eop E (fX E p.dst) base (nV tab i s) (evG tab all i s.g) p.op p.type)
def uOp(E:Env)(all:bc)(tab:az)(L0 i:Nat)(p:Oper)(K:AS->Prop)(s:AS):Prop:=
 ∃ z base k x,Yu E all tab L0 i p s z base k x/\K (s.turn p.dst z k x)
def AY{s:AS}{i base:Nat}{d:Option Nat}{z:aa}:s.upd i d z base []=⟨iY s.g d z,s.o,s.br⟩:=by
 unfold AS.upd;congr 1
 .funext k;unfold nF;rw [if_neg λ h=>by have h1:=h.1;have a:=h.2;grind]
 .funext i' k;refine propext ⟨λ h=>?_,.inl⟩;rcases h with h | ⟨_,h⟩
  .exact h
  .have h1:=h.1;have a:=h.2;grind
def W9{g:Nat->aa}{d a:Option Nat}{z b:aa}(hd:∀ t,d=some t->a≠some t):iY (iY g d z) a b=iY (iY g a b) d z:=by
 funext t;simp only [iY]
 grind
def FO{s:AS}{i base:Nat}{d a:Option Nat}{z b:aa}{k:Nat}{x:ab}(hd:∀ t,d=some t->a≠some t):(s.upd i d z base []).turn a b k x=(s.turn a b k x).upd i d z base []:=by rw [AY,AY];unfold AS.turn;rw [W9 hd]
def WF.turn{i:Nat}{s:AS}(f:WF L0 s){d:Option Nat}{z:aa}{k:Nat}{x:ab}(g:nV tab i s k≠ .dead):WF L0 (s.turn d z k x):=λ a h1 c=>by
 have b:a≠k:=λ e=>by
  subst e;refine g ?_;unfold nV;split
  .rfl
  .exact f a h1 c
 show (if a=k then x else s.o a)= .dead;rw [if_neg b];exact f a h1 c
def aEL{i j:Nat}{p q:Oper}(b:all[j]? =some q)(hl:loose tab j i=true)(e:blD E p.dst=true){s:AS}{a:aa}{k:Nat}{x:ab}{z:aa}{base:Nat}{bs:au}:
  Y E all tab L0 i p (s.turn q.dst a k x) z base bs↔Y E all tab L0 i p s z base bs:=by
 have d:evG tab all i (s.turn q.dst a k x).g=evG tab all i s.g:=JW b hl s.g a;have c:lH E tab i p.dst (s.turn q.dst a k x)=lH E tab i p.dst s:=by
  unfold lH
  grind
 unfold Y;rw [d,c]
def aEK{i j:Nat}{p q:Oper}(c:all[j]? =some q)(hl:loose tab j i=true){s:AS}{b:aa}{a:Nat}{z:aa}{base k:Nat}{x:ab}:
  Yu E all tab L0 i p (s.upd j q.dst b a []) z base k x↔Yu E all tab L0 i p s z base k x:=by
 rw [AY];have d:evG tab all i (iY s.g q.dst b)=evG tab all i s.g:=JW c hl s.g b;unfold Yu;rw [d];rfl
def aE8{i j:Nat}{p q:Oper}(hp:all[i]? =some p)(n:all[j]? =some q)(hl:loose tab i j=true)(f:blD E p.dst=true)(hd:∀ t,p.dst=some t->q.dst≠some t){s:AS}(o:WF L0 s){z:aa}{base:Nat}{bs:au}
  (e:Y E all tab L0 i p s z base bs) (r:fresh s base bs) {K:AS->Prop} (h:uOp E all tab L0 j q K (s.upd i p.dst z base bs)):
  uOp E all tab L0 j q (λ s'=>WF L0 s'/\Y E all tab L0 i p s' z base bs/\fresh s' base bs/\K (s'.upd i p.dst z base bs)) s:=by
 obtain rfl:=e.2.1 f;obtain ⟨l,c,k,x,h1,m⟩:=h;have d:=(aEK hp hl).1 h1;refine ⟨l,c,k,x,d,o.turn d.2.2.1,(aEL n (pL hl) f).2 e,λ k g=>by have a:=g.1;have b:=g.2;simp at b;omega,?_⟩;rw [<-FO hd];exact m
def aCi{i j:Nat}{p q:Oper}(hp:all[i]? =some p)(n:all[j]? =some q)(hl:loose tab i j=true)(f:blD E q.dst=true)(hd:∀ t,p.dst=some t->q.dst≠some t){s:AS}(r:WF L0 s){z:aa}{base k:Nat}{x:ab}
  (m:Yu E all tab L0 i p s z base k x) {K:AS->Prop} (h:nOp E all tab L0 j q K (s.turn p.dst z k x)):
  nOp E all tab L0 j q (λ s'=>WF L0 s'/\Yu E all tab L0 i p s' z base k x/\K (s'.turn p.dst z k x)) s:=by
 obtain ⟨l,c,u,h1,v,h3⟩:=h;obtain rfl:=h1.2.1 f;have d:=(aEL hp hl f).1 h1;refine ⟨l,c,[],d,λ k g=>by have a:=g.1;have b:=g.2;simp at b;omega,r.upd,(aEK n (pL hl)).2 m,?_⟩;rw [FO λ t o e=>hd t e o];exact h3
def sOp(E:Env)(all:bc)(tab:az)(L0 i:Nat)(p:Oper)(Kp:(Nat->aa)->aa->au->Prop)(K:AS->Prop)(s:AS):Prop:=
 ∃ ac:au,aB ac=s.o/\L0<=aM ac/\(∀ k,L0<=k->k<aM ac->∃ i,s.br i k)/\(∀ i k,s.br i k->k<aM ac)/\
  ((bQ all (evG tab all i s.g) p.guard=some false/\K (s.upd i p.dst (.tup []) L0 []))\/
    (bQ all (evG tab all i s.g) p.guard=some true/\orD E.P true true false ac ac (aM ac) (λ v ao=>aM ac<=aM ao->K ⟨iY s.g p.dst v,aB ao,λ a k=>s.br a k\/(a=i/\aM ac<=k/\k<aM ao)⟩) (Kp s.g)
     (eop E (fX E p.dst) (aM ac) (aB ac) (evG tab all i s.g) p.op p.type)))
def aOp(E:Env)(ops:Array Oper)(tab:az)(L0:Nat)(Kp:(Nat->aa)->aa->au->Prop)(i:Nat)(K:AS->Prop)(s:AS):Prop:=
 ∃ p,ops[i]? =some p/\(((sole tab i 0 ops.toList=true->blD E p.dst=true)/\nOp E ops.toList tab L0 i p K s)\/((FV E tab i 0 ops.toList=true/\blD E p.dst=false)/\uOp E ops.toList tab L0 i p K s)\/
  ((sole tab i 0 ops.toList=true/\blD E p.dst=false)/\sOp E ops.toList tab L0 i p Kp K s))
def wpA(E:Env)(ops:Array Oper)(tab:az)(L0:Nat)(Kp:(Nat->aa)->aa->au->Prop)(Q:AS->Prop):Nat->Array Bool->AS->Prop
 | 0,listed,s=>Dx .any ops listed=[]/\Q s
 | fuel+1,listed,s=>(Dx .any ops listed=[]->Q s)/\∀ i∈Dx .any ops listed,aOp E ops tab L0 Kp i (wpA E ops tab L0 Kp Q fuel (listed.setIfInBounds i true)) s
end
section
variable {E:Env} {ops:Array Oper} {tab:az} {L0:Nat} {Kp:(Nat->aa)->aa->au->Prop} {Q:AS->Prop}
def EQ{i:Nat}{K c:AS->Prop}{s:AS}(d:∀ s,K s->c s)(h:aOp E ops tab L0 Kp i K s)(f:sole tab i 0 ops.toList=false):aOp E ops tab L0 Kp i c s:=by
 obtain ⟨p,h1,⟨a,z,base,bs,h3,b,e⟩ | ⟨a,z,base,k,x,h3,b⟩ | ⟨a,_⟩⟩:=h
 .exact ⟨p,h1,.inl ⟨a,z,base,bs,h3,b,d _ e⟩⟩
 .exact ⟨p,h1,.inr (.inl ⟨a,z,base,k,x,h3,d _ b⟩)⟩
 grind
def kJ(tab:az)(a:Array Bool):Prop:=∀ j i,a.getD j false=true->cR (cY tab j) i=true->a.getD i false=true
def tX{E:Env}{tab:az}{j:Nat}:∀ {l:bc} {n:Nat},FV E tab j n l=true->∀ (i:Nat) q,l[i]? =some q->loose tab (n+i) j=true->blD E q.dst=true
 | [],_,_,i,q,hi,_=>by simp at hi
 | x::r,n,h,i,q,hi,hl=>by
  simp only [FV,Ad,Ew,Cw] at h;cases i with
  | zero=>
   grind
  | succ i=>exact tX h.2 i q (by simp_all) (by grind)
def S2(E:Env)(ops:Array Oper)(tab:az)(i:Nat)(d:Option Nat):Prop:=∀ (a:Array Bool) (j:Nat),kJ tab a->i∈Dx .any ops a->j∈Dx .any ops a->j≠i->
   kJ tab (a.setIfInBounds j true)/\sole tab j 0 ops.toList=false/\loose tab i j=true/\∀ q,ops[j]? =some q->∀ t,d=some t->q.dst≠some t
def aDr{i:Nat}{p:Oper}{z:aa}{base:Nat}{bs:au}(G:ops[i]? =some p)(u:sole tab i 0 ops.toList=true->blD E p.dst=true)(d:S2 E ops tab i p.dst):
  ∀ (c:Nat) (a:Array Bool) (s:AS),kJ tab a->WF L0 s->i∈Dx .any ops a->Y E ops.toList tab L0 i p s z base bs->fresh s base bs->
   wpA E ops tab L0 Kp Q c (a.setIfInBounds i true) (s.upd i p.dst z base bs)->wpA E ops tab L0 Kp Q (c+1) a s:=by
 have l:∀ {K:AS->Prop} {s:AS},Y E ops.toList tab L0 i p s z base bs->fresh s base bs->K (s.upd i p.dst z base bs)->aOp E ops tab L0 Kp i K s:=λ f g M=>⟨p,G,.inl ⟨u,z,base,bs,f,g,M⟩⟩
 intro c;induction c with
 | zero=>
  intro a s C x e f g H;refine ⟨λ h=>(by simp_all),λ j n=>?_⟩;by_cases b:j=i
  .simp_all
  .have:=ready_mono n b;rw [H.1] at this;cases this
 | succ c B=>
  intro a s C x e f g H;refine ⟨λ h=>(by rw [h] at e;cases e),λ j n=>?_⟩;by_cases b:j=i
  .subst b;exact l f g H
  .have h1:=H.2 j (ready_mono n b);obtain ⟨D,o,A,F⟩:=d a j C e n b;obtain ⟨q,m,⟨r,I⟩ | ⟨k,L⟩ | ⟨hs,_⟩⟩:=h1
   .have:=aGF q_ q_ A (F q m) x f g I;refine EQ (λ s' ⟨v,t,w,y⟩=>B (a.setIfInBounds j true) s' D v (ready_mono e (Ej b)) t w ?_) ⟨q,m,.inl ⟨r,this⟩⟩ o;rw [Iu _ _ b];exact y
   .have J:blD E p.dst=true:=tX k.1 i p q_ q_;have:=aE8 q_ q_ A J (F q m) x f g L;refine EQ (λ s' ⟨v,t,w,y⟩=>B (a.setIfInBounds j true) s' D v (ready_mono e (Ej b)) t w ?_) ⟨q,m,.inr (.inl ⟨k,this⟩)⟩ o;rw [Iu _ _ b];exact y
   .rw [o] at hs;cases hs.1
def aK8{i:Nat}{p:Oper}{z:aa}{base k:Nat}{x:ab}(A:ops[i]? =some p)(f:FV E tab i 0 ops.toList=true/\blD E p.dst=false)(d:S2 E ops tab i p.dst):
  ∀ (b:Nat) (a:Array Bool) (s:AS),kJ tab a->WF L0 s->i∈Dx .any ops a->Yu E ops.toList tab L0 i p s z base k x->
   wpA E ops tab L0 Kp Q b (a.setIfInBounds i true) (s.turn p.dst z k x)->wpA E ops tab L0 Kp Q (b+1) a s:=by
 have w:∀ {K:AS->Prop} {s:AS},Yu E ops.toList tab L0 i p s z base k x->K (s.turn p.dst z k x)->aOp E ops tab L0 Kp i K s:=λ m L=>⟨p,A,.inr (.inl ⟨f,z,base,k,x,m,L⟩)⟩
 intro b;induction b with
 | zero=>
  intro a s v y o m H;refine ⟨λ h=>(by simp_all),λ j n=>?_⟩;by_cases c:j=i
  .simp_all
  .have:=ready_mono n c;rw [H.1] at this;cases this
 | succ b D=>
  intro a s v y o m H;refine ⟨λ h=>(by simp_all),λ j n=>?_⟩;by_cases c:j=i
  .subst c;simp_all
  .have h1:=H.2 j (ready_mono n c);obtain ⟨F,u,t,G⟩:=d a j v o n c;have l:∀ q,ops[j]? =some q->blD E q.dst=true:=λ q g=>tX f.1 j q q_ (by rw [Bw];exact pL t);obtain ⟨q,g,⟨r,B⟩ | ⟨e,M⟩ | ⟨hs,_⟩⟩:=h1
   .have:=aCi q_ q_ t (l q g) (G q g) y m B;refine EQ (λ s' ⟨I,C,J⟩=>D (a.setIfInBounds j true) s' F I (ready_mono o (Ej c)) C ?_) ⟨q,g,.inl ⟨r,this⟩⟩ u;rw [Iu _ _ c];exact J
   .rw [l q g] at e;cases e.2
   .rw [u] at hs;cases hs.1
end
def jH(fr:ar)(ac:au)(br:List (Nat×Nat)):AS:=⟨aU fr,aB ac,λ i k=>(i,k)∈br⟩
def dR(fr:ar)(d:Option Nat)(v:aa):aU (jW fr d v)=iY (aU fr) d v:=by
 funext t;cases d with
 | none=>rfl
 | some d=>
  simp only [jW,iY,sS,Dp]
  grind
def YB(ks:az)(ac:au)(k:Nat):aB (qJ ks ac) k=if k∈ks then .dead else aB ac k:=by
 induction ks generalizing ac with
 | nil=>simp [qJ]
 | cons x r a=>
  simp only [qJ,a,sN,Bc]
  grind
def wI{tab:az}{j k:Nat}:∀ {br:List (Nat×Nat)},k∈E5 tab j br↔ ∃ i,(i,k)∈br/\cR (cY tab j) i=false
 | []=>by simp [E5]
 | (i,k')::r=>by
  simp only [E5];cases h:cR (cY tab j) i with
  | true=>
   simp only [cond_true,wI (br:=r),Bc,Ll]
   grind
  | false=>
   simp only [cond_false,Bc,wI (br:=r),Ll]
   grind
def aFI(tab:az)(j:Nat)(fr:ar)(ac:au)(br:List (Nat×Nat)):aB (qJ (E5 tab j br) ac)=nV tab j (jH fr ac br):=by
 funext k;rw [YB];unfold nV;have:k∈E5 tab j br↔RD tab j (jH fr ac br).br k:=wI;by_cases h:k∈E5 tab j br
 .grind
 .rw [if_neg h,if_neg λ e=>h (this.2 e)];rfl
def O7(bs:au):∀ (ac:au),AU ac ac.length bs=ac++bs:=by
 induction bs with
 | nil=>intro ac;simp [AU]
 | cons x r a=>
  intro ac;simp only [AU,MN];have:=a (ac++[x])
  grind
def rM(n:Nat):∀ (l:au),iA n l=l.drop n:=by
 induction n with
 | zero=>intro l;rfl
 | succ n a=>intro l;cases l with
  | nil=>rfl
  | cons x r=>simp [iA,a]
def oN{j i k:Nat}:∀ {l:au} {base:Nat} {br:List (Nat×Nat)},(i,k)∈born j base l br↔(i,k)∈br\/(i=j/\inB base l.length k)
 | [],base,br=>by simp [born,inB];omega
 | x::r,base,br=>by
  have a:=oN (j:=j) (i:=i) (k:=k) (l:=r) (base:=base+1) (br:=br);have e:born j base (x::r) br=(j,base)::born j (base+1) r br:=rfl;have hm:(i,k)∈(j,base)::born j (base+1) r br↔((i=j/\k=base)\/(i,k)∈br)\/(i=j/\inB (base+1) r.length k):=by grind
  rw [e,hm];unfold inB;rw [Al];constructor
  .grind
  grind
def uX{rest:bc}{n:Nat}{d:Option Nat}{fr:ar}{v:aa}{k:ar->Prop}(h:wrP rest n d fr v k):k (jW fr d v):=by
 unfold wrP at h;cases d with
 | none=>exact h
 | some d=>
  dsimp only at h;cases a:pN n rest with
  | false=>rw [a] at h;exact h
  | true=>
   rw [a] at h;simp only [cond_true] at h;split at h
   .rename_i b;cases b with
    | true=>exact h.1 rfl
    | false=>exact h.2 rfl
   grind
def aEJ(fr:ar)(ac:au)(br:List (Nat×Nat))(n:Nat)(d:Option Nat)(z:aa)(bs:au):
  jH (jW fr d z) (AU ac (aM ac) bs) (born n (aM ac) (iA (aM ac) (AU ac (aM ac) bs)) br)=(jH fr ac br).upd n d z (aM ac) bs:=by
 rw [bG,O7,rM,Jd];unfold jH AS.upd;rw [dR];congr 1
 .funext k;show _=nF (aB ac) ac.length bs k;unfold nF;by_cases h:inB ac.length bs.length k
  .rw [if_pos h];have a:k-ac.length<bs.length:=by have:=h.1;have:=h.2;omega
   refine fN ?_;rw [Ak h.1,Eu,Aa a];rfl
  .rw [if_neg h];by_cases f:k<ac.length
   .rcases eZ ac k with ⟨h1,e⟩ | ⟨h1,_⟩
    .exact fN (by rw [Af f];exact e)
    .omega
   .have b:ac.length+bs.length<=k:=by refine Nat.le_of_not_lt λ c=>h ⟨by omega,c⟩
    rcases eZ (ac++bs) k with ⟨h1,_⟩ | ⟨_,_,e⟩
    .grind
    .rcases eZ ac k with ⟨h1,_⟩ | ⟨_,_,g⟩
     .omega
     grind
 .funext i k;exact propext oN
structure LI(L0 n:Nat)(ac:au)(br:List (Nat×Nat)):Prop where
 low:L0<=aM ac
 all:∀ k,L0<=k->k<aM ac->∃ i,(i,k)∈br
 lt:∀ i k,(i,k)∈br->k<aM ac/\i<n
def LI.wf{L0 n:Nat}{ac:au}{br:List (Nat×Nat)}(h:LI L0 n ac br)(fr:ar):WF L0 (jH fr ac br):=λ k b a=>by
 rcases eZ ac k with ⟨h1,_⟩ | ⟨_,_,e⟩
 .obtain ⟨i,c⟩:=h.all k b (by rw [bG];exact h1);exact absurd c (a i)
 .exact e
def LI.put{L0 n:Nat}{ac:au}{br:List (Nat×Nat)}(h:LI L0 n ac br){ao:au}(hl:aM ac<=aM ao):LI L0 (n+1) ao (born n (aM ac) (iA (aM ac) ao) br):=by
 have hd:(iA (aM ac) ao).length=aM ao-aM ac:=by rw [rM,Eg,bG ao]
 refine ⟨Cx h.low hl,λ k h1 d=>?_,λ i k c=>?_⟩
 .by_cases c:k<aM ac
  .obtain ⟨i,e⟩:=h.all k h1 c;exact ⟨i,oN.2 (.inl e)⟩
  .exact ⟨n,oN.2 (.inr ⟨rfl,by omega,by omega⟩)⟩
 .rcases oN.1 c with c | ⟨rfl,h1,d⟩
  .obtain ⟨a,b⟩:=h.lt i k c;omega
  omega
def CallG.mono{P:Program}{f:Fn}{args:ax}{ac:au}{K c Kp:aa->au->Prop}(d:∀ v o,K v o->c v o)(h:CallG P f args ac K Kp):CallG P f args ac c Kp:=by
 cases h with
 | pure r new h k=>exact .pure r new h (d _ _ k)
 | eff b ks r ao a h k=>exact .eff b ks r ao a h (d _ _ k)
 | effp b ks r ao a h k=>exact .effp b ks r ao a h k
 | pan r h k=>exact .pan r h k
def rL{P:Program}{j q bl:Bool}{g ac:au}{base:Nat}{K m Kp:aa->au->Prop}(e:∀ v o,K v o->m v o):∀ {r:OR},orD P j q bl g ac base K Kp r->orD P j q bl g ac base m Kp r
 | .no,k=>k.elim
 | .val v,k=>e _ _ k
 | .mkf fn fs cs,k=>e _ _ k
 | .need p r,k=>⟨k.1,rL e k.2⟩
 | .alt p v w,k=>k.imp (λ h=>⟨h.1,e _ _ h.2⟩) (e _ _)
 | .idx n f,⟨i,hi,k⟩=>⟨i,hi,rL e k⟩
 | .elem xs i f,⟨x,hx,k⟩=>⟨x,hx,rL e k⟩
 | .byte l i,⟨c,hc,k⟩=>⟨c,hc,e _ _ k⟩
 | .text xs,⟨l,hl,hm,k⟩=>⟨l,hl,hm,e _ _ k⟩
 | .find es key f,⟨o,ho,k⟩=>⟨o,ho,rL e k⟩
 | .born x v,k=>by cases bl with
  | true=>exact k.elim
  | false=>exact e _ _ k
 | .upd i x v,k=>by
  simp only [orD] at k⊢
  grind
 | .nilq xs neg,k=>by cases j with
  | true=>exact λ b t=>e _ _ (k b t)
  | false=>exact k.elim
 | .call f args,k=>by
  cases bl with
  | true=>exact k.elim
  | false=>
   have k:CallD P f args j g base ac K Kp:=k;show CallD P f args j g base ac m Kp;cases k with
   | pure r new h k=>exact .pure r new h (e _ _ k)
   | sole h1 s=>exact .sole h1 (s.mono e)
   | look ks r o a l b c d k=>exact .look ks r o a l b c d (e _ _ k)
 | .pan v,k=>by cases j with
  | true=>exact k
  | false=>exact k.elim
def CR{P:Program}{b bl:Bool}{a ac:au}{base:Nat}{K Kp:aa->au->Prop}:∀ {r:OR},orD P true b bl a ac base K Kp r->orD P true true bl a ac base K Kp r
 | .no,k=>k
 | .val v,k=>k
 | .mkf fn fs cs,k=>k
 | .need p r,k=>⟨k.1,CR k.2⟩
 | .alt p v w,k=>k
 | .idx n f,⟨i,hi,k⟩=>⟨i,hi,CR k⟩
 | .elem xs i f,⟨x,hx,k⟩=>⟨x,hx,CR k⟩
 | .byte l i,k=>k
 | .text xs,k=>k
 | .find es key f,⟨o,ho,k⟩=>⟨o,ho,CR k⟩
 | .born x v,k=>k
 | .upd i x v,k=>k
 | .nilq xs neg,k=>k
 | .call f args,k=>k
 | .pan v,k=>k
def aAa(fr:ar)(ac:au)(br:List (Nat×Nat))(n:Nat)(d:Option Nat)(z:aa)(k:Nat)(x:ab)(a:k<aM ac):
  jH (jW fr d z) (bJ ac k x) (born n (aM ac) (iA (aM ac) (bJ ac k x)) br)=(jH fr ac br).turn d z k x:=by
 have hl:(bJ ac k x).length=ac.length:=by rw [fW _ (by rwa [bG] at a)];simp
 have e:iA (aM ac) (bJ ac k x)=[]:=by rw [rM,bG,<-hl];simp
 rw [e];unfold jH AS.turn;rw [dR];congr 1;funext k';exact sN ac k k' x
structure TabSp(ops:Array Oper)(tab:az):Prop where
 back:∀ (j:Nat) p,ops[j]? =some p->∀ e∈p.after,Jk .any e=true->e.on<j
 less:∀ i j,cR (cY tab i) j=true->j<i
 step:∀ (j:Nat) p,ops[j]? =some p->∀ i,cR (cY tab j) i=true->∃ e∈p.after,Jk .any e=true/\(e.on=i\/cR (cY tab e.on) i=true)
 out:∀ j i,cR (cY tab j) i=true->j<ops.size
 dst:∀ (i j:Nat) p q,ops[i]? =some p->ops[j]? =some q->loose tab i j=true->∀ t,p.dst=some t->q.dst≠some t
def sH{tab:az}{j:Nat}:∀ {l:bc} {n:Nat},sole tab j n l=true->∀ i,i<l.length->loose tab (n+i) j=false
 | [],_,_,i,hi=>by simp at hi
 | x::r,n,h,i,hi=>by
  simp only [sole,Ad,Cw] at h;cases i with
  | zero=>exact h.1
  | succ i=>
   have:=sH h.2 i (by grind)
   grind
section
variable {E:Env} {ops:Array Oper} {tab:az} {L0:Nat} {Kp:(Nat->aa)->aa->au->Prop} {Kq:ar->au->Prop}
def kJ.step(n:TabSp ops tab){a:Array Bool}(f:kJ tab a){j:Nat}(o:j∈Dx .any ops a):kJ tab (a.setIfInBounds j true)/\∀ i,cR (cY tab j) i=true->a.getD i false=true:=by
 obtain ⟨_,p,hp,b⟩:=mem_ready.1 o;have key:∀ i,cR (cY tab j) i=true->a.getD i false=true:=λ i m=>by
  obtain ⟨e,g,l,h | h⟩:=n.step j p hp i m
  .subst h;exact b e g l
  .exact f e.on i (b e g l) h
 refine ⟨λ k i h1 d=>getD_set_true ?_,key⟩;by_cases c:j=k
 .subst c;exact key i d
 .rw [getD_set_ne false c] at h1;exact f k i h1 d
def rE(g:TabSp ops tab){a:Array Bool}(e:kJ tab a){i j:Nat}(m:i∈Dx .any ops a)(l:j∈Dx .any ops a)(d:i≠j):loose tab i j=true:=by
 have f:∀ {k:Nat},k∈Dx .any ops a->a.getD k false=true->False:=λ{k} hk h=>by
  obtain ⟨n,p,hp,_⟩:=mem_ready.1 hk;rw [Cj] at n h;cases c:a[k]? with
  | none=>simp_all
  | some b=>simp_all
 refine oE.2 ⟨d,?_,?_⟩
 .cases c:cR (cY tab j) i with
  | false=>rfl
  | true=>exact (f m ((e.step g l).2 i c)).elim
 .cases c:cR (cY tab i) j with
  | false=>rfl
  | true=>exact (f l ((e.step g m).2 j c)).elim
def Qf(L0:Nat)(Kq:ar->au->Prop)(s:AS):Prop:=∃ fr ac br n,s=jH fr ac br/\LI L0 n ac br/\Kq fr ac
def aGT(H:TabSp ops tab):∀ (l:bc) (n:Nat) (a:Array Bool) (br:List (Nat×Nat)) (fr:ar) (ac:au),
  l=ops.toList.drop n->(∀ j,j<ops.size->a[j]? =some (decide (j<n)))->a.size=ops.size->LI L0 n ac br->iM E ops.toList tab Kq Kp n l br fr ac->
  wpA E ops tab L0 Kp (Qf L0 Kq) l.length a (jH fr ac br)
 | [],n,a,br,fr,ac,hl,hlist,hsz,hI,h=>by
  refine ⟨?_,fr,ac,br,n,rfl,hI,h⟩;have K:ops.size<=n:=by simp_all
  refine Jx.2 λ j I=>?_;obtain ⟨h0,q,C,_⟩:=mem_ready.1 I;have G:=(Ep.1 C).1;rw [Cj,hlist j G] at h0;simp at h0;omega
 | p::l,n,a,br,fr,ac,hl,hlist,hsz,hI,h=>by
  have t:ops[n]? =some p:=by
   have:(ops.toList.drop n)[0]? =some p:=by grind
   simpa using this
  have Y:n<ops.size:=(Ep.1 t).1;have O:l=ops.toList.drop (n+1):=by rw [<-Hf,<-hl];rfl
  have G:∀ j,a.getD j false=true↔j<n:=by
   intro j;rw [Cj];by_cases I:j<ops.size
   .simp_all
   .rw [Array.getElem?_eq_none o_];simp;omega
  have f:kJ tab a:=λ j i h1 y=>(G i).2 (Na (H.less j i y) ((G j).1 h1));have d:n∈Dx .any ops a:=by refine mem_ready.2 ⟨?_,p,t,λ e he N=>(G _).2 (H.back n p t e he N)⟩;rw [Cj,hlist n Y];simp
  have s:∀ j,j<ops.size->(a.setIfInBounds n true)[j]? =some (decide (j<n+1)):=by
   intro j I;by_cases V:n=j
   .subst V;rw [Hz o_];simp
   .rw [Ha V,hlist j I];simp;omega
  have B:(a.setIfInBounds n true).size=ops.size:=by simp;omega
  have hw:=hI.wf fr;have L:∀ {bs:au},fresh (jH fr ac br) (aM ac) bs:=λ{bs} k K i N=>by have:=(hI.lt i k N).1;have:=K.1;omega
  have ahead:∀ {i:Nat},i<ops.size->i∈Dx .any ops a->i≠n->loose tab n i=true:=λ_ hi F=>rE H f d hi (Ej F);simp only [iM] at h;rw [aLe] at h
  -- on,where the operation bears bs at the end
  have on:∀ {z:aa} {bs:au},iM E ops.toList tab Kq Kp (n+1) l (born n (aM ac) (iA (aM ac) (AU ac (aM ac) bs)) br) (jW fr p.dst z) (AU ac (aM ac) bs)->
    wpA E ops tab L0 Kp (Qf L0 Kq) l.length (a.setIfInBounds n true) ((jH fr ac br).upd n p.dst z (aM ac) bs):=λ{z bs} hc=>by
   rw [<-aEJ];refine aGT H l (n+1) _ _ _ _ O s B (hI.put ?_) hc;rw [bG,bG,O7];simp
  have W:AU ac (aM ac) []=ac:=rfl;have brn:born n (aM ac) (iA (aM ac) ac) br=br:=by
   have:iA (aM ac) ac=[]:=by rw [rM,bG];simp
   rw [this];rfl
  have skip:iM E ops.toList tab Kq Kp (n+1) l br (jW fr p.dst (.tup [])) ac->wpA E ops tab L0 Kp (Qf L0 Kq) l.length (a.setIfInBounds n true) ((jH fr ac br).upd n p.dst (.tup []) (aM ac) []):=λ hc=>on (by rw [W,brn];exact hc);have oth:(∀ j,ops[j]?≠none->loose tab n j=true->sole tab j 0 ops.toList=false)->S2 E ops tab n p.dst:=λ h listed' j S hi' M F=>by have c:=rE H S hi' M (Ej F);obtain ⟨_,q,C,_⟩:=mem_ready.1 M;exact ⟨(S.step H M).1,h j (by rw [C];simp) c,c,λ q C=>H.dst n j p q t C c⟩
  have J:∀ j,ops[j]?≠none->loose tab n j=true->sole tab j 0 ops.toList=false:=λ j I c=>by
   cases C:sole tab j 0 ops.toList with
   | false=>rfl
   | true=>
    have:=sH C n o_;rw [Bw,c] at this;cases this
  have r:=oth J
  -- where an object is turned
  have onU:∀ {z:aa} {k:Nat} {x:ab},k<aM ac->iM E ops.toList tab Kq Kp (n+1) l (born n (aM ac) (iA (aM ac) (bJ ac k x)) br) (jW fr p.dst z) (bJ ac k x)->
    wpA E ops tab L0 Kp (Qf L0 Kq) l.length (a.setIfInBounds n true) ((jH fr ac br).turn p.dst z k x):=λ{z k x} K hc=>by
   rw [<-aAa fr ac br n p.dst z k x K];refine aGT H l (n+1) _ _ _ _ O s B (hI.put ?_) hc;rw [bG,bG,fW _ (by rwa [bG] at K)];simp
  have D:(sole tab n 0 ops.toList=true->blD E p.dst=true)->(bQ ops.toList (evG tab ops.toList n (aU fr)) p.guard=some true->
    orD E.P false (uoN E tab ops.toList n p.dst) (blD E p.dst) (qB E tab n br ac p.dst) ac (aM ac) (λ v ao=>wrP l n p.dst fr v λ fr=>iM E ops.toList tab Kq Kp (n+1) l (born n (aM ac) (iA (aM ac) ao) br) fr ao) (Kp (aU fr))
     (eop E (fX E p.dst) (aM ac) (aB (qB E tab n br ac p.dst)) (evG tab ops.toList n (aU fr)) p.op p.type))->
    (bQ ops.toList (evG tab ops.toList n (aU fr)) p.guard=some false->iM E ops.toList tab Kq Kp (n+1) l br (jW fr p.dst (.tup [])) ac)->
    bQ ops.toList (evG tab ops.toList n (aU fr)) p.guard≠none->wpA E ops tab L0 Kp (Qf L0 Kq) (l.length+1) a (jH fr ac br):=λ T h1 y h3=>by
   have w:aB (qB E tab n br ac p.dst)=lH E tab n p.dst (jH fr ac br):=by
    unfold qB lH;cases m:blD E p.dst with
    | true=>rfl
    | false=>simp only [cond_false];rw [if_neg s_];exact aFI tab n fr ac br
   cases o:bQ ops.toList (evG tab ops.toList n (aU fr)) p.guard with
   | none=>simp_all
   | some b=>
    cases b with
    | false=>exact aDr t T r l.length a _ f hw d (z:=.tup []) (base:=aM ac) (bs:=[]) ⟨hI.low,λ_=>rfl,.inl ⟨o,rfl,rfl⟩⟩ L (skip (y o))
    | true=>
     have h:=h1 o;rcases rK h with ⟨z,bs,q0,R,q2⟩ | ⟨z,k,x,q0,R,q2,q3⟩
     .rw [w] at R;exact aDr t T r l.length a _ f hw d ⟨hI.low,q0,.inr ⟨o,R⟩⟩ L (on (uX q2))
     .obtain ⟨u1,u2⟩:=aS q0;have m:blD E p.dst=false:=by simpa using u2
      have e:lH E tab n p.dst (jH fr ac br)=nV tab n (jH fr ac br):=by unfold lH;rw [m,if_neg s_]
      rw [w,e] at R q2;have hkl:k<aM ac:=by
              refine Nat.lt_of_not_le λ hge=>R ?_;unfold nV;split
              .rfl
              .rcases eZ ac k with ⟨h1,_⟩ | ⟨_,_,e⟩
               .rw [bG] at hge;omega
               .exact e
      exact aK8 t ⟨u1,m⟩ r l.length a _ f hw d ⟨⟨hI.low,λ i N=>by have:=(hI.lt i _ N).1;omega⟩,o,R,q2⟩ (onU hkl (uX q3))
  have U:bQ ops.toList (evG tab ops.toList n (aU fr)) p.guard≠none:=λ e=>by simp_all
  have u:bQ ops.toList (evG tab ops.toList n (aU fr)) p.guard=some false->iM E ops.toList tab Kq Kp (n+1) l br (jW fr p.dst (.tup [])) ac:=λ e=>by rw [e] at h;exact h
  cases m:blD E p.dst with
  | true=>
   refine D (λ_=>m) (λ e=>?_) u U;rw [e] at h;have:soN E tab ops.toList n p.dst=false:=by simp [soN,m]
   rw [this] at h;exact h
  | false=>
  cases A:sole tab n 0 ops.toList with
  | false=>
   refine D (λ e=>by rw [A] at e;cases e) (λ e=>?_) u U;rw [e] at h;have:soN E tab ops.toList n p.dst=false:=by simp [soN,A]
   rw [this] at h;exact h
  | true=>
   have Z:∀ j,j∈Dx .any ops a->j=n:=λ j I=>by refine Lf λ F=>?_;have c:=rE H f I d F;obtain ⟨_,q,C,_⟩:=mem_ready.1 I;have hjlt:=(Ep.1 C).1;have:=sH A j o_;rw [Bw,c] at this;cases this
   have hid0:E5 tab n br=[]:=by
    refine Jx.2 λ k K=>?_;obtain ⟨i,h1,y⟩:=wI.1 K;have hin:=(hI.lt i k h1).2;have:=sH A i q_;rw [Bw] at this
    have hl2:loose tab i n=true:=oE.2 ⟨by omega,y,by
     cases C:cR (cY tab i) n with
     | false=>rfl
     | true=>have:=H.less i n C;omega⟩
    rw [hl2] at this;cases this
   have Q:qB E tab n br ac p.dst=ac:=by unfold qB;rw [m,hid0];rfl
   have X:soN E tab ops.toList n p.dst=true:=by simp [soN,A,m]
   rw [Q,X,m] at h;refine ⟨λ h=>(by rw [h] at d;cases d),λ j I=>?_⟩;obtain rfl:=Z j I;refine ⟨p,t,.inr (.inr ⟨⟨A,m⟩,ac,rfl,hI.low,λ k h1 y=>hI.all k h1 y,λ i k N=>(hI.lt i k N).1,?_⟩)⟩;cases o:bQ ops.toList (evG tab ops.toList j (aU fr)) p.guard with
   | none=>rw [o] at h;exact h.elim
   | some b=>
    rw [o] at h;cases b with
    | false=>
     refine .inl ⟨o,?_⟩;have e:(jH fr ac br).upd j p.dst (.tup []) L0 []=(jH fr ac br).upd j p.dst (.tup []) (aM ac) []:=by
      unfold AS.upd;congr 1
      .funext k;unfold nF;rw [if_neg λ h=>by have h1:=h.1;have y:=h.2;simp at y;omega,if_neg λ h=>by have h1:=h.1;have y:=h.2;simp at y;omega]
      .funext i k;refine propext (or_congr Nh ⟨λ h=>?_,λ h=>?_⟩)<;>(have h1:=h.2.1;have y:=h.2.2;simp at y;omega)
     rw [e];exact skip h
    | true=>
     dsimp only at h;refine .inr ⟨o,rL (λ v ao K hle=>?_) (CR h)⟩;have hk2:=uX K;have:=aGT H l (j+1) _ _ _ _ O s B (hI.put hle) hk2;have e:jH (jW fr p.dst v) ao (born j (aM ac) (iA (aM ac) ao) br)=⟨iY (jH fr ac br).g p.dst v,aB ao,λ i' k=>(jH fr ac br).br i' k\/(i'=j/\aM ac<=k/\k<aM ao)⟩:=by unfold jH;rw [dR];congr 1;funext i k;refine propext (oN.trans (or_congr Nh (and_congr Nh ?_)));unfold inB;rw [rM,Eg,bG ao];omega
     rw [<-e];exact this
end
end Go.AW
