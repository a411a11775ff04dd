/- Part 2 of what the statement rests on. -/
import Derived.Lib.ConvBytes
import Derived.MapKept
import Derived.WalkSmall
import Derived.Carry
import Derived.Orders
import Derived.Test.YtidhfoefaomodaaGreatDoorMWA
set_option linter.all false
open Array renaming ext'->Ea,getD_eq_getD_getElem?->Bo,getElem?_append_left->Hi,getElem?_eq_none->Mm,getElem?_eq_some_iff->Fi,getElem?_setIfInBounds_ne->Ff,getElem?_setIfInBounds_self_of_lt->Fb,length_toList->Jc,range->Kw,setIfInBounds_comm->Jf,toList_map->Kc
open Bool renaming and_eq_true->Af,and_true->Em,false_eq_true->Cr,false_or->Nh,not_eq_true'->Df,or_eq_true->Fl,true_and->Bw
open Decidable renaming byContradiction->Lo
open Go.Builtin renaming append_->Cx,clear_->Jw,copy_->Km,delete_->Lc,firstCells->Cs,len_->Fy,zeroCells->Cp
open Go.Instr renaming alloc->Np,buildSlice->Kf,checkKey->Ia,field->Nd,fieldAt->Lu,findAsking->Kh,findKey->Lw,findNow->Lv,index->Lr,indexAt->Ik,loadAt->Mk,lookup->Ml,mapUpdate->Lb,sameBits->Jx,slice->Lt,sliceAt->Hd,sliceBound->Ke,sliceBounds->Gw,storeAt->Kl,sureAddr->Iy,typeAssert->Ki
open Go.Region renaming binds->Jv,ready->Eh
open Go.Result renaming andThen->Ep,andThen_ok->Au
open Go.Sem renaming run_bind->Bk,run_pure->Ci
open Go.Value renaming iface->Nf,int->Ej,ownBlock->Gt,slice->Hc
open Go.World renaming block_lt_of_cell?->Cz,cell?_of_block->Cy,ownsRow_nil->Hp
open Iff renaming rfl->Nq
open Int renaming le_refl->Dc,toNat_natCast->Br
open List renaming all_cons->Kj,all_eq_true->Cb,append_nil->Ar,drop_drop->Hv,drop_left->Jp,drop_zero->Ap,eq_nil_iff_forall_not_mem->Ib,eq_nil_of_length_eq_zero->Bc,ext_getElem?->Ek,foldl_cons->Bb,getD_eq_getElem?_getD->Fk,getElem?_append_left->Ah,getElem?_append_right->Al,getElem?_cons_succ->Gc,getElem?_cons_zero->Md,getElem?_drop->Ca,getElem?_eq_getElem->Ac,getElem?_eq_none->Bm,getElem?_eq_some_iff->Ad,getElem?_map->Bi,getElem?_of_mem->Da,getElem?_range->Dr,getElem?_replicate->Fe,getElem?_set->Ho,getElem?_set_ne->Bf,getElem?_set_self->Ay,getElem?_take->Gp,getElem?_take_of_lt->Bn,getElem?_toArray->Jz,length_append->Ai,length_cons->Ak,length_drop->Ew,length_eraseIdx_of_lt->Ll,length_map->Cm,length_nil->Bz,length_replicate->Fu,length_set->Dt,length_take->Dw,map_cons->Bj,mem_append->Bd,mem_cons->Aw,mem_of_getElem?->Az,mem_of_mem_drop->Fj,mem_of_mem_take->Di,mem_or_eq_of_mem_set->Dq,mem_replicate->Gn,nil_append->Bp,prefix_refl->Cw,range->Du,replicate->Aj,replicate_succ->Le,size_toArray->Gv,take_left->Hw,take_length->Gm,take_of_length_le->Cn,take_zero->Ix
open Nat renaming add_assoc->Kk,add_comm->Mh,add_mul->Cg,add_sub_cancel_left->Gu,add_zero->Fx,beq->Ba,ble->Gd,blt->Fp,blt_eq->Kb,div_add_mod->Gg,eq_zero_or_pos->Fz,le_of_ble_eq_true->Cu,le_refl->Bh,le_trans->Dh,lt_of_lt_of_le->Fh,lt_or_ge->Nj,lt_trans->Nk,min_eq_left->Gy,mod_lt->Fq,mul_comm->Dn,mul_le_mul_right->Cc,one_mul->Hb,sub_zero->Iz,zero_add->Bx,zero_le->Ch,zero_mul->Mf
open Ne renaming symm->Fa
open Option renaming getD_some->Kd,isSome_iff_exists->Dl,isSome_none->Jh,map_eq_some_iff->Co,map_some->Ms,none->Nn
open Option.some renaming injEq->Dy
open Prod.mk renaming injEq->Ha
open UInt8 renaming ofNat->Dj
namespace Go.AW
open Go.RowKit
section
variable {P:Program} {E:Env} {M:Imm} {ob:Hs} {ac:au} {w:World} {base:Nat}
def aX{s:Sem Value}{v:aa}{u:Value}(h:s.run P w= .ok u w)(a:Rep M ob u v):PS0 P M ob w s ac base (.val v):=⟨rfl,u,h,a⟩
def aLp{b o:Nat}(l:ay)(h:∀ (i:Nat) c,l[i]? =some c->∃ u,w.cell? ⟨b,o+i,none⟩=some u/\Rep M ob u c):
  ∃ vs:ba,vs.length=l.length/\(∀ (j:Nat) u,vs[j]? =some u->w.cell? ⟨b,o+j,none⟩=some u)/\∀ (i:Nat) v a,vs[i]? =some v->l[i]? =some a->Rep M ob v a:=by
 refine ⟨(Du l.length).map λ q=>(w.cell? ⟨b,o+q,none⟩).getD undef,by simp,λ j u k=>?_,λ i v a m f=>?_⟩
 .simp only [Bi] at k;by_cases e:j<l.length
  .obtain ⟨g,d,_⟩:=h j _ (Ac e);simp_all
  grind
 .have e:i<l.length:=(Ad.1 f).1;obtain ⟨g,d,n⟩:=h i a f;simp_all
def D2{t:Nat}{a:TI}(h:zR P t a.agg a.size a.kind)(hs:(P.info? t).map (·.size)=some a.size){b o:Nat}{vs:ba}(hl:vs.length=a.size)
  (f:∀ (j:Nat) u,vs[j]? =some u->w.cell? ⟨b,o+j,none⟩=some u) (u:Value) (k:a.agg=true->u= .agg vs.toArray) (d:a.agg=false->vs=[u]):
  (loadVar t ⟨b,o,none⟩).run P w= .ok u w:=by
 obtain ⟨h1,i⟩:=h.isAgg;unfold loadVar;simp only [Bk,CP h1,Au,i];cases g:a.agg with
 | true=>
  have c:=run_loadCells_list (P:=P) w ⟨b,o,none⟩ vs (λ j v e=>by rw [bK];exact f j v e);rw [hl] at c;simp only [if_true,Bk,af hs,Au,c,Ci,k g]
 | false=>
  have e:=d g;have:=f 0 u (by rw [e];rfl);rw [Fx] at this;simp only [Cr,if_false,run_load,this]
def aJA{b:TI}{l:ay}{a:aa}(h:mk b l=some a):(b.agg=true/\a= .agg l)\/(b.agg=false/\l=[a]):=by
 unfold mk at h
 grind
def S1{t:Nat}{j:TI}(d:TIOK P t j){b o:Nat}{l:ay}{a:aa}(k:mk j l=some a)(hl:l.length=j.size)
  (h:∀ (i:Nat) c,l[i]? =some c->∃ u,w.cell? ⟨b,o+i,none⟩=some u/\Rep M ob u c):∃ u,(loadVar t ⟨b,o,none⟩).run P w= .ok u w/\Rep M ob u a:=by
 obtain ⟨vs,e,g,f⟩:=aLp l h;rcases aJA k with ⟨m,rfl⟩ | ⟨m,rfl⟩
 .exact ⟨.agg vs.toArray,D2 d.kind d.size? (e.trans hl) g _ (λ_=>rfl) (λ h=>by grind),.agg vs l e f⟩
 .match vs,e with
  | [u],_=>exact ⟨u,D2 d.kind d.size? o_ g u (λ h=>by grind) (λ_=>rfl),f 0 u a rfl rfl⟩
def aAL{t:Nat}{e:TI}(d:TIOK P t e){b o off:Nat}{cs:ay}
  (h:∀ (i:Nat) c,cs[off+i]? =some c->∃ u,w.cell? ⟨b,o+i,none⟩=some u/\Rep M ob u c):PS0 P M ob w (Mk t (.pointer (some ⟨b,o,none⟩))) ac base (fin e (oV e.size (nS off cs))):=by
 unfold fin;split
 .exact trivial
 .rename_i l hl;split
  .exact trivial
  .rename_i a f;obtain ⟨h1,k⟩:=mJ hl;obtain ⟨u,m,j⟩:=S1 d f h1 (b:=b) (o:=o) (M:=M) (ob:=ob) (w:=w) λ i c g=>by have:=k i c g;rw [oX,Ca] at this;exact h i c this
   refine aX (u:=u) ?_ j;unfold Mk Iy
   grind
def eP.cell{v:Value}{f:Nat}{e:TypeId}{xs:ay}(h:eP M w v f e xs){b:Nat}{n c:Nat}(k:v= .slice (some ⟨b,0,none⟩) n c){i j:Nat}{x a:aa}(d:xs[i]? =some x)(m:x.cells[j]? =some a):
  ∃ u,w.cell? ⟨b,i*f+j,none⟩=some u/\Rep M [] u a:=by
 obtain ⟨cv,h1,_,h3,g,_⟩:=h;obtain ⟨u,o,l⟩:=g _ a (NB d m (h3 x (Az d)));exact ⟨u,gX h1 (by rw [k];rfl) o,l⟩
def cR{k:Nat}{x:ab}(h:aB ac k=x)(a:x≠ .dead):ac[k]? =some x:=bP h a
def aA2(hE:ae E)(hm:Mem M ob ac w){t:Nat}{v:Value}{a:aa}(y:Rep M ob v a):PS0 E.P M ob w (Mk t v) ac base (aA3 E (aB ac) t a):=by
 unfold aA3;split
 .exact trivial
 .rename_i K F;have h:=hE.tab t K F;split
  .rename_i cs;obtain ⟨b,o,rfl,N⟩:=y.ptr_inv;refine aAL (off:=0) (cs:=cs) h λ i c l=>?_;rw [Bx] at l;obtain ⟨u,s,_,q⟩:=hm.imm b _ c (N i c l);exact ⟨u,s,q.pure⟩
  .rename_i k off;obtain ⟨b,rfl,m⟩:=y.ref_inv;split
   .rename_i cs f;obtain ⟨hs,h1,H,rfl,_,cv,L,r,_,d⟩:=hm.obj k _ (cR f s_);rw [cL h1] at m;cases m;refine aAL h λ i c l=>?_;have p:off+i<cv.length:=by rw [r];exact (Ad.1 l).1
    exact ⟨cv[off+i],by rw [cell_of_row w b _ _ _ (0,0) L];simp [p],d _ _ c (Ac p) l⟩
   .rename_i cs f;obtain ⟨hs,h1,H,rfl,d⟩:=hm.obj k _ (cR f s_);rw [cL h1] at m;cases m;refine aAL h λ i c l=>?_;obtain ⟨u,s,_,q⟩:=hm.imm b _ c (d _ c l);exact ⟨u,s,q.pure⟩
   .exact trivial
  .rename_i k g i O off;cases y with
   | eref k g i O off b n c m=>
   split
   .rename_i g' J e xs f;refine sdc λ B=>?_;obtain ⟨z,A⟩:=bD B;obtain rfl:=aE z;obtain rfl:=aE A;intro x G;obtain ⟨hs,v,h1,Q,h3,I,C,_⟩:=hm.rowOf (cR f s_);rw [I] at m;cases m;refine aAL h λ j c D=>?_;obtain ⟨u,s,q⟩:=C.cell rfl G D;exact ⟨u,by grind,q.pure⟩
   .exact trivial
  .exact trivial
def RB{t:Nat}{b off:Nat}(h1:(P.info? t).map (·.size)=some b)(d:(P.underlying t).isSome=true)(vs:ba)(u:Value)
  (e:aK P t=true->u= .agg ((vs.drop off).take b).toArray) (c:aK P t=false->vs[off]? =some u):(part t vs.toArray off).run P w= .ok u w:=by
 unfold part;simp only [Bk,CP d,Au];cases a:aK P t with
 | true=>
  simp only [if_true,Bk,af h1,Au,Ci,e a];simp
 | false=>simp [c a]
def aEU{vs:ba}{cs:ay}(h:cM M ob vs cs){b off:Nat}{l:ay}(j:oV b (nS off cs)=some l):cM M ob ((vs.drop off).take b) l:=by
 obtain ⟨h1,d⟩:=mJ j;rw [oX] at d;have hl:=h.1;have c:((vs.drop off).take b).length=l.length:=by
  have:b<=(cs.drop off).length:=by
   rcases Fz b with g | g
   .omega
   .have:=d (b-1) _ (Ac o_);have:=(Ad.1 this).1;omega
  simp at this;simp;omega
 refine ⟨c,λ i v a f m=>?_⟩;have e:=d i a m;rw [Ca] at e;have k:i<b:=by rw [<-h1];grind
 rw [Bn k,Ca] at f;exact h.2 _ v a f e
def HK{t:Nat}{i off:Nat}(h1:(P.info? t).map (·.size)=some i)(k:(P.underlying t).isSome=true){vs:ba}{cs:ay}(h:cM M ob vs cs)
  {l:ay} (j:oV i (nS off cs)=some l) {a:aa} (c:aK P t=true->a= .agg l) (b:aK P t=false->l=[a]):∃ u,(part t vs.toArray off).run P w= .ok u w/\Rep M ob u a:=by
 have hp:=aEU h j;cases m:aK P t with
 | true=>
  rw [c m];exact ⟨_,RB h1 k vs _ (λ_=>rfl) (λ e=>by grind),.agg _ l hp.1 hp.2⟩
 | false=>
  have g:=b m;subst g;obtain ⟨n,o⟩:=hp;have d:i=1:=by have:=(mJ j).1;simpa using this.symm
  subst d;have p:((vs.drop off).take 1)[0]? =vs[off]?:=by rw [Bn o_,Ca,Fx]
  have f:0<((vs.drop off).take 1).length:=by rw [n];simp
  refine ⟨((vs.drop off).take 1)[0],RB h1 k vs _ (λ e=>by grind) (λ_=>?_),o 0 _ a (Ac f) rfl⟩;simp
def aGL(hE:ae E){s f:Nat}{v:Value}{a:aa}(r:Rep M ob v a):PS0 E.P M ob w (Nd s v f) ac base (XT E s a f):=by
 unfold XT;split
 .rename_i F _ _ _ o;have i:=hE.tab s _ o;obtain ⟨⟨c,D,A⟩,_⟩:=i.kind;split
  .exact trivial
  .rename_i off H n q;obtain ⟨g,k,m,B,C,G⟩:=A.get q;split
   .rename_i cs;split
    .exact trivial
    .rename_i l hl;obtain ⟨vs,rfl,d,y⟩:=r.agg_inv;have key:∀ x,(aK E.P g.type=true->x= .agg l)->(aK E.P g.type=false->l=[x])->PS0 E.P M ob w (Nd s (.agg vs.toArray) f) ac base (.val x):=by
      intro x h1 z;obtain ⟨u,h,j⟩:=HK (P:=E.P) (w:=w) (t:=g.type) B C ⟨d,y⟩ hl h1 z;refine aX (u:=u) ?_ j;have b:c[f]? =some g:=by simpa using k
      unfold Nd;simp only [Bk,run_underlying D,Au,b,asAgg,Ci,m,h]
     cases p:n with
     | true=>exact key _ (λ_=>rfl) (λ e=>by grind)
     | false=>
      simp only [cond_false];split
      .exact key _ (λ e=>by grind) (λ_=>rfl)
      .exact trivial
   .exact trivial
 .exact trivial
def PR(hE:ae E){s f:Nat}{v:Value}{a:aa}(i:Rep M ob v a):PS0 E.P M ob w (Lu s v f) ac base (zH E s a f):=by
 unfold zH;split
 .rename_i F _ _ _ t;have h:=hE.tab s _ t;obtain ⟨⟨g,C,y⟩,_⟩:=h.kind;split
  .exact trivial
  .rename_i off q D x;obtain ⟨u,B,r,z,H,G⟩:=y.get x;have d:g[f]? =some u:=by simp_all
   cases hz:Ba q 0 with
   | true=>exact trivial
   | false=>
    simp only [cond_false];have m:¬ q=0:=λ e=>by simp_all
    have key:∀ k,(Lu s (.pointer (some k)) f).run E.P w= .ok (.pointer (some (k.add off))) w:=λ k=>by unfold Lu Iy fieldPlace;simp only [Bk,run_underlying C,Au,d,Ci,af z,if_neg m,r]
    split
    .obtain ⟨b,o,rfl,A⟩:=i.ptr_inv;refine aX (key _) ?_;rw [bK];exact .ptr b (o+off) _ λ j c p=>by rw [oX,Ca] at p;have:=A _ c p;grind
    .obtain ⟨b,rfl,l⟩:=i.ref_inv;refine aX (key _) ?_;rw [bK];exact .ref _ _ b l
    .cases i with
     | eref _ _ _ _ _ b n c l=>
      refine aX (key _) ?_;rw [bK,Kk];exact .eref _ _ _ _ _ b n c l
    .exact trivial
 .exact trivial
def eP.len{v:Value}{c:Nat}{e:TypeId}{xs:ay}(h:eP M w v c e xs):(v= .slice none 0 0/\xs=[])\/∃ b cap,v= .slice (some ⟨b,0,none⟩) xs.length cap/\v.ownBlock=some b/\xs.length<=cap/\cap<=maxLen:=by
 obtain ⟨cv,h1,_⟩:=h;rcases dX h1 with ⟨a,h3⟩ | a
 .exact .inl ⟨a,Bc h3⟩
 .exact .inr a
def jG:(maxLen:Int)<=9223372036854775807:=by decide
def PQ(hE:ae E)(hm:Mem M ob ac w){t:Nat}{v U:Value}{a i:aa}(D:Rep M ob v a)(Q:Rep M ob U i):PS0 E.P M ob w (Ik t v U) ac base (zG E (aB ac) t a i):=by
 unfold zG;split
 .rename_i ti _ n hT;have y:=hE.tab t ti hT;obtain ⟨rfl,hri⟩:=Q.int_inv;split
  .rename_i e h eb R;have d:=y.kind;rw [R] at d;obtain ⟨⟨J,i',z,s,hs,_⟩,_⟩:=d;have q:(E.P.info? e).map (·.size)=some h:=by grind
   have key:∀ (r:Addr) (len cap:Nat) (k:IntKind) (i:Nat),i<len->(Ik t (.slice (some r) len cap) (.int k (i:Int))).run E.P w= .ok (.pointer (some (r.add (i*h)))) w:=λ r len cap k i h1=>by unfold Ik;simp only [Bk,asIntOf,Ci,Au,run_underlying J];rw [if_pos ⟨by omega,by omega⟩];simp only [Bk,af q,Au,Ci,Br]
   have slc:∀ {G:Value} {xs:ay} {tk:Tk},Rep M ob G (.slice h xs tk)->∀ (k:IntKind) (i:Nat) x,xs[i]? =some x->PS0 E.P M ob w (Ik t G (.int k (i:Int))) ac base (.val (.ptr x.cells)):=λ{G xs tk} hr k i x u=>by
    have C:i<xs.length:=(Ad.1 u).1;cases hr.untok.1 with
    | slnil=>simp at C
    | slemp=>simp at C
    | sl _ b o n1 cap _ _ hn W K hz I _=>
     refine aX (key _ n1 cap _ i o_) ?_;rw [bK];exact .ptr b _ _ λ j c hj=>I i j x c u hj
   split
   .rename_i A xs tt;refine sdc λ H=>?_;obtain rfl:=aE H;rintro i rfl x u;exact slc D _ i x u
   .rename_i k g;obtain ⟨a,Y,c,rfl,f⟩:=D.row_inv;split
    .rename_i g' A e' xs p;refine sdc λ B=>?_;obtain ⟨m,l⟩:=bD B;obtain rfl:=aE m;obtain rfl:=aE l;rintro i rfl s;obtain ⟨hs',v,h1,T,h3,X,h5,_⟩:=hm.rowOf (cR p s_);rw [X] at f;cases f;rcases h5.len with ⟨V,rfl⟩ | ⟨b,cap,V,e2,_⟩
     .simp at s
     .cases V;refine aX (key _ _ _ _ i s) ?_;rw [bK,Mh 0];exact .eref k _ i A 0 b _ _ X
    .rename_i g' A xs p;refine sdc λ B=>?_;obtain ⟨m,l⟩:=bD B;obtain rfl:=aE m;obtain rfl:=aE l;rintro i rfl x u;obtain ⟨hs',h1,v,T,h3⟩:=hm.obj k _ (cR p s_);rw [cL h1,T] at f;cases f;exact slc h3.pure _ i x u
    .exact trivial
   .rename_i k g lo len A;split
    .rename_i g' Z e' xs p;refine sdc λ B=>?_;obtain ⟨F,O⟩:=bD B;obtain ⟨m,l⟩:=bD F;obtain rfl:=aE m;obtain rfl:=aE l;obtain rfl:=aE O;rintro i rfl s;cases D with
     | sub _ _ _ _ _ b Y c f hl hn L K=>
      refine aX (key _ _ _ _ i s) ?_;rw [bK,<-Cg];exact .eref k _ (lo+i) A 0 b _ _ f
     | sub0=>simp at s
    .exact trivial
   .exact trivial
  .rename_i len h ea R;have d:=y.kind;rw [R] at d;obtain ⟨⟨e,J,q,_⟩,_⟩:=d;have key:∀ (r:Addr) k,0<=n->n.toNat<len->(Ik t (.pointer (some r)) (.int k n)).run E.P w= .ok (.pointer (some (r.add (n.toNat*h)))) w:=λ r k h0 h1=>by unfold Ik Iy;simp only [Bk,asIntOf,Ci,Au,run_underlying J];rw [if_pos ⟨h0,by omega⟩];simp only [Bk,af q,Au,Ci]
   split
   .rintro ⟨N,S⟩;obtain ⟨b,rfl,hb⟩:=D.ref_inv;refine aX (key _ _ N S) ?_;rw [bK];exact .ref _ _ b hb
   .rintro ⟨N,S⟩;obtain ⟨b,o,rfl,I⟩:=D.ptr_inv;refine aX (key _ _ N S) ?_;rw [bK];exact .ptr b _ _ λ j c L=>by rw [oX,Ca] at L;have:=I _ c L;rw [Kk];exact this
   .exact trivial
  .exact trivial
 .exact trivial
def aGK(hE:ae E){t:Nat}{v z:Value}{a i:aa}(y:Rep M ob v a)(d:Rep M ob z i):PS0 E.P M ob w (Lr t v z) ac base (XS E t a i):=by
 unfold XS;split
 .rename_i l k n;obtain ⟨rfl,_⟩:=d.int_inv;obtain ⟨rfl,_⟩:=y.str_inv;split
  .rename_i _ _ _ j;obtain ⟨r,_⟩:=(hE.tab t _ j).kind;rintro i rfl c s;refine ⟨rfl,.int .u8 c.toNat,?_,AV c⟩;have o:i<l.length:=(Ad.1 s).1;unfold Lr;simp only [Bk,asIntOf,Ci,Au,run_underlying r];rw [if_pos o_];have I:(⟨l.toArray⟩:ByteArray)[i]? =some c:=by
    have:i<(⟨l.toArray⟩:ByteArray).size:=by simpa [ByteArray.size] using o
    rw [getElem?_pos (⟨l.toArray⟩:ByteArray) i this];have p:=(Ad.1 s).2;rw [<-p];rfl
   simp_all
  .exact trivial
 .rename_i cs k n;obtain ⟨rfl,_⟩:=d.int_inv;split
  .rename_i len H B _ _ _ j;obtain ⟨⟨e,r,b,m,D⟩,_⟩:=(hE.tab t _ j).kind;split
   .rename_i l hl;obtain ⟨vs,rfl,g,F⟩:=y.agg_inv;have key:∀ x,0<=n->n<len->(aK E.P e=true->x= .agg l)->(aK E.P e=false->l=[x])->PS0 E.P M ob w (Lr t (.agg vs.toArray) (.int k n)) ac base (.val x):=by intro x C h1 G h3;obtain ⟨u,h,q⟩:=HK (P:=E.P) (w:=w) (t:=e) b m ⟨g,F⟩ hl G h3;refine aX (u:=u) ?_ q;unfold Lr;simp only [Bk,asIntOf,Ci,Au,run_underlying r];rw [if_pos ⟨C,h1⟩];simp only [Bk,af b,Au,h]
    cases A:B with
    | true=>exact λ f=>key _ f.1 f.2 (λ_=>rfl) (λ e=>by simp_all)
    | false=>
     simp only [cond_false];split
     .exact λ f=>key _ f.1 f.2 (λ e=>by simp_all) (λ_=>rfl)
     .exact trivial
   .exact trivial
  .exact trivial
 .exact trivial
def aN6(hE:ae E)(hm:Mem M ob ac w){t ty:TypeId}{v:Value}{a:aa}(k:Rep M ob v a):PS0 E.P M ob w (Fy #[t] ty #[v]) ac base (aN7 E (aB ac) t a):=by
 unfold aN7;split
 .exact trivial
 .rename_i D C;have d:=(hE.tab t D C).kind
  have f:∀ n:Nat,(n:Int)<=9223372036854775807->inR .i64 (n:Int):=λ n h=>⟨by simp only [dA];omega,by simp only [bN];omega⟩
  have x:Rep M ob (.int .i64 (0:Nat)) (.int .i64 (0:Nat)):=.int _ _ (f 0 d_);have slc:∀ {r:Value} {o:Nat} {xs:ay} {tk:Tk} {e:TypeId},E.P.underlying t=some (.slice e)->Rep M ob r (.slice o xs tk)->PS0 E.P M ob w (Fy #[t] ty #[r]) ac base (.val (.int .i64 xs.length)):=λ{r o xs tk e} y hr=>by obtain ⟨a,c,rfl,_,_,s⟩:=hr.slice_inv;exact aX (u:=.int .i64 xs.length) (by simp [Fy,run_underlying y,goInt]) (.int _ _ (f _ s))
  split
  .rename_i l g;rw [g] at d;obtain ⟨rfl,h⟩:=k.str_inv;exact aX (u:=.int .i64 l.length) (by simp [Fy,run_underlying d.1,goInt,tD]) (.int _ _ (f _ h))
  .rename_i g;rw [g] at d;exact slc d.1.1 k
  .rename_i g;rw [g] at d;cases k;exact aX (u:=.int .i64 (0:Nat)) (by simp [Fy,run_underlying d.1.1,goInt]) x
  .rename_i g;rw [g] at d;cases k with
   | csl _ _ _ _ b h j=>exact aX (u:=.int .i64 (Nat.cast _)) (by simp [Fy,run_underlying d.1.1,goInt]) (.int _ _ (f _ j))
  .rename_i g;rw [g] at d;cases k;exact λ j=>aX (u:=.int .i64 (Nat.cast _)) (by simp [Fy,run_underlying d.1.1,goInt]) (.int _ _ (f _ j))
  .rename_i g;rw [g] at d;obtain ⟨a,n,c,rfl,i⟩:=k.row_inv;split
   .rename_i g' o e xs m;refine sdc λ q=>?_;obtain rfl:=aE q;obtain ⟨hs',v,h1,A,h3,s,B,_⟩:=hm.rowOf (cR m s_);rw [s] at i;cases i;rcases B.len with ⟨p,rfl⟩ | ⟨b,cap,p,I,J,H⟩
    .cases p;exact aX (u:=.int .i64 (0:Nat)) (by simp [Fy,run_underlying d.1.1,goInt]) x
    .cases p;exact aX (u:=.int .i64 xs.length) (by simp [Fy,run_underlying d.1.1,goInt]) (.int _ _ (f _ (by have:=jG;omega)))
   .rename_i g' o xs m;refine sdc λ q=>?_;obtain rfl:=aE q;obtain ⟨hs',h1,v,A,h3⟩:=hm.obj _ _ (cR m s_);rw [cL h1,A] at i;cases i;exact slc d.1.1 (h3.pure (M:=M) (ob:=ob))
   .exact trivial
  .rename_i g;rw [g] at d;cases k with
   | sub _ _ _ _ _ b n c i hl z F j=>exact aX (u:=.int .i64 (Nat.cast _)) (by simp [Fy,run_underlying d.1.1,goInt]) (.int _ _ (f _ o_))
   | sub0 _ _ _ _ a G n c=>exact aX (u:=.int .i64 (0:Nat)) (by simp [Fy,run_underlying d.1.1,goInt]) x
  .rename_i _ g;rw [g] at d;obtain ⟨⟨e,y,_⟩,_⟩:=d;intro z;exact aX (u:=.int .i64 (Nat.cast _)) (by simp [Fy,run_underlying y,goInt]) (.int _ _ (f _ z))
  .exact trivial
end
def VM(P:Program)(M:Imm)(ob:Hs)(ac:au)(w:World)(s:Sem Value)(v:aa)(ao:au):Prop:=
 ∃ u w' M' ob',s.run P w= .ok u w'/\Ext M ob ac w M' ob' ao w'/\Mem M' ob' ao w'/\dB ob ac ob' ao/\Rep M' ob' u v
abbrev PM(P:Program)(M:Imm)(ob:Hs)(w:World)(s:Sem Value)(ac:au)(base:Nat)(r:OR):Prop:=Sd (VM P M ob ac w s) (λ_ _=>False) (λ_=>False) ac base r
section
variable {P:Program} {E:Env} {M:Imm} {ob:Hs} {ac:au} {w:World} {base:Nat}
def PM.of(hm:Mem M ob ac w){s:Sem Value}{r:OR}(h:PS0 P M ob w s ac base r):PM P M ob w s ac base r:=
 Sd.mono (λ v o ⟨h1,u,a,h3⟩=>⟨u,w,M,ob,a,h1▸Ext.refl _ _ _ _,h1▸hm,h1▸dB.refl _ _,h3⟩) (λ_ _ h=>h) (λ_ h=>h) h
def cS.pm{ρv:Operand->Value}{op:Op}{ty:TypeId}{r:OR}{s:Sem Value}
  (f:∀ d pos a g,execOp ρv ⟨d,op,ty,pos,a,g⟩=(s >>= λ v=>Pure.pure (.value v))) (h:PM P M ob w s ac base r):cS P ρv op ty M ob ac w base r:=
 Sd.mono (λ v o ⟨u,w',M',ob',i,h3,e,c,b⟩=>⟨u,w',M',ob',λ d pos a g=>.inl (by simp_all),h3,e,c,b⟩) (λ_ _ h=>h.elim) (λ_ h=>h.elim) h
def JY(M:Imm)(ob:Hs)(v:Option Value)(a:Option aa):Prop:=(v=none/\a=none)\/∃ u x,v=some u/\a=some x/\Rep M ob u x
def aHO(v:Option Value)(q:Option Nat):Prop:=(v=none/\q=none)\/∃ (k:IntKind) (n:Nat),v=some (.int k n)/\q=some n
def wL{s:Sem Value}{a:Option Value}{l:Option aa}(h:JY M ob a l){f:Option Nat->OR}(k:∀ q,aHO a q->PS0 P M ob w s ac base (f q)):PS0 P M ob w s ac base (bnd l f):=by
 rcases h with ⟨rfl,rfl⟩ | ⟨u,x,rfl,rfl,c⟩
 .exact k none (.inl ⟨rfl,rfl⟩)
 .cases x with
  | int b n=>
   obtain ⟨rfl,_⟩:=c.int_inv;rintro i rfl;exact k (some i) (.inr ⟨b,i,rfl,rfl⟩)
  | _=>exact trivial
def aHO.none{v:Option Value}(h:aHO v none):v=none:=by rcases h with ⟨h,_⟩ | ⟨_,_,_,h⟩;exact h;cases h
def aHO.some{v:Option Value}{n:Nat}(h:aHO v (some n)):∃ k,v=some (.int k n):=by rcases h with ⟨_,h⟩ | ⟨k,n,h1,h⟩;cases h;grind
def I3{t e:TypeId}(h:P.underlying t=some (.slice e)):P.underlying t=some (.slice (P.elem t))/\P.elem t=e:=by
 have:P.elem t=e:=by simp [Program.elem,h]
 grind
def VQ{v:Value}{f:Nat}{xs:ay}(h:Rep M ob v (.slice f xs .no)):∃ a n c,v= .slice a n c/\xs.length=n/\n<=c/\∀ l d,l<=d->d<=n->
  Rep M ob (sliced a l d c f) (.slice f ((xs.take d).drop l) .no)/\(Rep M ob (sliced a l d d f) (.slice f ((xs.take d).drop l) .no)):=by
 cases h with
 | slnil f=>
  refine ⟨none,0,0,rfl,rfl,Bh _,λ l d h1 u=>?_⟩;have:d=0:=o_;subst this;have:l=0:=o_;subst this;exact ⟨.slnil f .no trivial,.slnil f .no trivial⟩
 | slemp f _ a cap=>
  refine ⟨some a,0,cap,rfl,rfl,Ch _,λ l d h1 u=>?_⟩;have:d=0:=o_;subst this;have:l=0:=o_;subst this;have hs:∀ m,∃ b c,sliced (some a) 0 0 m f= .slice (some b) 0 c:=λ m=>by
   unfold sliced
   grind
  obtain ⟨D,F,w⟩:=hs cap;obtain ⟨G,C,A⟩:=hs 0;rw [w,A];exact ⟨.slemp _ _ _ _ trivial,.slemp _ _ _ _ trivial⟩
 | sl f b o n c xs _ z t y hz B=>
  refine ⟨_,n,c,rfl,z,t,λ l d h1 u=>?_⟩;have s:∀ m,d<=m->Rep M ob (sliced (some ⟨b,o,none⟩) l d m f) (.slice f ((xs.take d).drop l) .no):=by
   intro m hm;have g:((xs.take d).drop l).length=d-l:=by simp;omega
   have r:∀ x∈(xs.take d).drop l,x.cells.length=f:=λ x k=>hz x (Di (Fj k));have p:∀ (i:Nat) x,((xs.take d).drop l)[i]? =some x->xs[l+i]? =some x:=λ i x k=>by
    rw [Ca,Gp] at k;split at k
    .exact k
    .cases k
   by_cases q:m=l
   .have e:sliced (some ⟨b,o,none⟩) l d m f= .slice (some ⟨b,o,none⟩) (d-l) (m-l):=by simp [sliced,q]
    rw [e];refine .sl f b o _ _ _ _ g o_ o_ r (λ i j x c k t=>?_) trivial;have:i<d-l:=by rw [<-g];exact (Ad.1 k).1
    omega
   .have e:sliced (some ⟨b,o,none⟩) l d m f= .slice (some ⟨b,o+l*f,none⟩) (d-l) (m-l):=by simp [sliced,q,bK]
    rw [e];refine .sl f b _ _ _ _ _ g o_ o_ r (λ i j x c k t=>?_) trivial;have:=B _ j x c (p i x k) t;rwa [Cg,<-Kk] at this
  exact ⟨s c o_,s d (Bh _)⟩
def yM{k g x y d:Nat}{a:Option Addr}{n c:Nat}(m:a=none/\n=0/\c=0\/∃ b,a=some ⟨b,0,none⟩)(h:at' ob k g=some (.slice a n c))(l:n<=c)(j:x<=y)(o:y<=n)(i:(n:Int)<=9223372036854775807):
  Rep M ob (sliced a x y c d) (.sub k g x (y-x) d):=by
 by_cases f:c=x
 .have e:sliced a x y c d= .slice a 0 0:=by have:y-x=0:=o_;simp [sliced,f,this]
  rw [e];have:y-x=0:=o_;rw [this];exact .sub0 k g x d a a n c h o_ o_
 .rcases m with ⟨rfl,rfl,rfl⟩ | ⟨b,rfl⟩
  .omega
  .have e:sliced (some ⟨b,0,none⟩) x y c d= .slice (some ⟨b,x*d,none⟩) (y-x) (c-x):=by simp [sliced,f,bK]
   rw [e];exact .sub k g x (y-x) d b n c h o_ o_ l i
def sS{k g lo x y a b n c:Nat}(f:at' ob k g=some (.slice (some ⟨b,0,none⟩) n c))(hl:lo<c)(l:n<=c)(j:x<=y)(m:lo+y<=n)(h:(n:Int)<=9223372036854775807):
  Rep M ob (sliced (some ⟨b,lo*a,none⟩) x y (c-lo) a) (.sub k g (lo+x) (y-x) a):=by
 by_cases d:c-lo=x
 .have i:y-x=0:=o_;have e:sliced (some ⟨b,lo*a,none⟩) x y (c-lo) a= .slice (some ⟨b,lo*a,none⟩) 0 0:=by simp [sliced,d,i]
  rw [e,i];exact .sub0 k g (lo+x) a _ _ n c f o_ o_
 .have e:sliced (some ⟨b,lo*a,none⟩) x y (c-lo) a= .slice (some ⟨b,(lo+x)*a,none⟩) (y-x) (c-(lo+x)):=by simp [sliced,d,bK,Cg];omega
  rw [e];exact .sub k g (lo+x) (y-x) a b n c f o_ o_ l h
def aGz(hE:ae E)(hm:Mem M ob ac w){t:TypeId}{v:Value}{a:aa}(hv:Rep M ob v a){Z vhi vmx:Option Value}{lo hi mx:Option aa}
  (L:JY M ob Z lo) (N:JY M ob vhi hi) (hmx:JY M ob vmx mx):PS0 E.P M ob w (Hd t v Z vhi vmx) ac base (XG E (aB ac) t a lo hi mx):=by
 have H:mx=none->vmx=none:=λ e=>by
  rcases hmx with ⟨h,_⟩ | ⟨_,_,_,h,_⟩
  .exact h
  grind
 have V:lo=none->Z=none:=λ e=>by
  rcases L with ⟨h,_⟩ | ⟨_,_,_,h,_⟩
  .exact h
  grind
 have W:hi=none->vhi=none:=λ e=>by
  rcases N with ⟨h,_⟩ | ⟨_,_,_,h,_⟩
  .exact h
  grind
 unfold XG;split
 .exact trivial
 .rename_i ti hT;have hti:=hE.tab t ti hT;have f:=hti.kind;split
  .rename_i l;obtain ⟨rfl,hlm⟩:=hv.str_inv;split
   .have R:=‹ti.kind=TK.str›;rw [R] at f;obtain rfl:=H rfl;have G:=f.1;have hb:∀ i j,(⟨l.toArray⟩:ByteArray).extract i j=⟨((l.take j).drop i).toArray⟩:=WQ l;have hs:(⟨l.toArray⟩:ByteArray).size=l.length:=tD l;refine wL L λ D s=>wL N λ q o=>?_;cases D with
    | none=>
     obtain rfl:=s.none;cases q with
     | none=>
      obtain rfl:=o.none;refine aX (u:=.string ⟨l.toArray⟩) ?_ (.str _ hlm);rw [run_sliceAt_string w t _ _ _ _ G];unfold Lt Gw;simp only [Bk,run_underlying G,Au,Jh,Cr,if_false,Ci,hb,hs];simp
     | some y=>
      obtain ⟨k,rfl⟩:=o.some;intro I;refine aX (u:=.string ⟨(l.take y).toArray⟩) ?_ (.str _ q_);rw [run_sliceAt_string w t _ _ _ _ G];unfold Lt Gw Ke;simp only [Bk,run_underlying G,Au,Jh,Cr,if_false,Ci,hb,hs,asIntOf];simp_all
    | some x=>
     obtain ⟨k,rfl⟩:=s.some;cases q with
     | none=>
      obtain rfl:=o.none;intro I;refine aX (u:=.string ⟨(l.drop x).toArray⟩) ?_ (.str _ q_);rw [run_sliceAt_string w t _ _ _ _ G];unfold Lt Gw Ke;simp only [Bk,run_underlying G,Au,Jh,Cr,if_false,Ci,hb,hs,asIntOf];simp_all
     | some y=>
      obtain ⟨J,rfl⟩:=o.some;rintro ⟨I,c2⟩;refine aX (u:=.string ⟨((l.take y).drop x).toArray⟩) ?_ (.str _ q_);rw [run_sliceAt_string w t _ _ _ _ G];unfold Lt Gw Ke;simp only [Bk,run_underlying G,Au,Jh,Cr,if_false,Ci,hb,hs,asIntOf];rw [if_pos ⟨by omega,by omega⟩];simp;omega
   .exact trivial
  .rename_i A xs tt;split
   .rename_i e esz eb R;rw [R] at f;obtain ⟨⟨G,ie,z,hi',hs,_⟩,_⟩:=f;refine sdc λ hg=>?_;obtain rfl:=aE hg;obtain ⟨d,hel⟩:=I3 G;have F:(E.P.info? (E.P.elem t)).map (·.size)=some A:=by grind
    obtain ⟨C,n,cap,rfl,Q,K,key⟩:=VQ hv.untok.1;have p:=λ u:World=>af (P:=E.P) F u;refine wL L λ D s=>wL N λ q o=>wL hmx λ qmx bmx=>?_;cases qmx with
    | none=>
     obtain rfl:=bmx.none;cases D with
     | none=>
      obtain rfl:=s.none;cases q with
      | none=>
       obtain rfl:=o.none;refine aX (u:=sliced C 0 n cap A) ?_ ?_
       .rw [run_sliceAt_slice w t _ _ _ _ d,run_slice_all w t C n cap d,p];rfl
       .have:=(key 0 n o_ (Bh _)).1;rw [<-Q,Gm,Ap] at this;rw [<-Q];exact this
      | some y=>
       obtain ⟨k,rfl⟩:=o.some;intro I;refine aX (u:=sliced C 0 y cap A) ?_ ?_
       .rw [run_sliceAt_slice w t _ _ _ _ d,run_slice_h w t C n cap d k y o_ o_,p];rfl
       .have:=(key 0 y o_ o_).1;rw [Ap] at this;exact this
     | some x=>
      obtain ⟨k,rfl⟩:=s.some;cases q with
      | none=>
       obtain rfl:=o.none;intro I;refine aX (u:=sliced C x n cap A) ?_ ?_
       .rw [run_sliceAt_slice w t _ _ _ _ d,run_slice_l w t C n cap d k x o_ o_,p];rfl
       .have:=(key x n o_ (Bh _)).1;rw [<-Q,Gm] at this;rw [<-Q];exact this
      | some y=>
       obtain ⟨J,rfl⟩:=o.some;rintro ⟨I,c2⟩;refine aX (u:=sliced C x y cap A) ?_ ?_
       .rw [run_sliceAt_slice w t _ _ _ _ d,run_slice_lh w t C n cap d k J x y o_ o_ o_,p];rfl
       .exact (key x y o_ o_).1
    | some m=>
     obtain ⟨km,rfl⟩:=bmx.some;cases D with
     | some x=>cases q<;>exact trivial
     | none=>
      obtain rfl:=s.none;cases q with
      | none=>exact trivial
      | some y=>
       obtain ⟨k,rfl⟩:=o.some;rintro ⟨I,rfl⟩;have hk2:=(key 0 m o_ o_).2;rw [Ap] at hk2;refine aX (u:=sliced C 0 m m A) ?_ ?_
       .rw [run_sliceAt_slice w t _ _ _ _ d,run_slice_hm w t C n cap d k km m m o_ (Dc _) o_,p];rfl
       .exact hk2.tok ⟨_,m,rfl⟩
   .exact trivial
  .rename_i k g;split
   .rename_i g' A e' xs _ hog;have R:=‹ti.kind=TK.slc _ _ _›;rw [R] at f;refine sdc λ hg=>?_;obtain ⟨hg1,hg2⟩:=bD hg;obtain rfl:=aE hg1;obtain rfl:=aE hg2;obtain ⟨⟨G,ie,z,hi',hs,_⟩,_⟩:=f;obtain ⟨d,hel⟩:=I3 G;have F:(E.P.info? (E.P.elem t)).map (·.size)=some A:=by simp_all
    have p:=λ u:World=>af (P:=E.P) F u;obtain rfl:=H rfl;obtain ⟨C,n,cap,rfl,r⟩:=hv.row_inv;obtain ⟨hs',v,h1,h2,h3,h4,h5,_⟩:=hm.rowOf (cR hog s_);rw [r] at h4;cases h4;have Q:n=xs.length/\n<=cap/\(n:Int)<=9223372036854775807/\(C=none/\n=0/\cap=0\/∃ b,C=some ⟨b,0,none⟩):=by
     rcases h5.len with ⟨e1,rfl⟩ | ⟨b,c,e1,e2,e3,e4⟩
     .cases e1;simp
     .cases e1;exact ⟨rfl,e3,by have:=jG;omega,.inr ⟨b,rfl⟩⟩
    obtain ⟨Q,K,B,T⟩:=Q;refine wL L λ D s=>wL N λ q o=>?_;cases D with
    | none=>
     obtain rfl:=s.none;cases q with
     | none=>
      obtain rfl:=o.none;refine aX (u:=.slice C n cap) ?_ hv;rw [run_sliceAt_slice w t _ _ _ _ d,run_slice_all w t C n cap d,p];show Result.ok (sliced C 0 n cap A) w=_;congr 1;rcases T with ⟨rfl,rfl,rfl⟩ | ⟨b,rfl⟩
      .rfl
      .simp [sliced,bK]
     | some y=>
      obtain ⟨J,rfl⟩:=o.some;intro I;refine aX (u:=sliced C 0 y cap A) ?_ (yM T r K (Ch _) o_ B);rw [run_sliceAt_slice w t _ _ _ _ d,run_slice_h w t C n cap d J y o_ o_,p];rfl
    | some x=>
     obtain ⟨U,rfl⟩:=s.some;cases q with
     | none=>
      obtain rfl:=o.none;intro I;refine aX (u:=sliced C x n cap A) ?_ ?_
      .rw [run_sliceAt_slice w t _ _ _ _ d,run_slice_l w t C n cap d U x o_ o_,p];rfl
      .rw [<-Q];exact yM T r K o_ o_ B
     | some y=>
      obtain ⟨J,rfl⟩:=o.some;rintro ⟨I,c2⟩;refine aX (u:=sliced C x y cap A) ?_ (yM T r K o_ o_ B);rw [run_sliceAt_slice w t _ _ _ _ d,run_slice_lh w t C n cap d U J x y o_ o_ o_,p];rfl
   .exact trivial
  .rename_i k g S len A;split
   .rename_i g' sz' e' xs _ hog;have R:=‹ti.kind=TK.slc _ _ _›;rw [R] at f;refine sdc λ hg=>?_;obtain ⟨hg12,hg3⟩:=bD hg;obtain ⟨hg1,hg2⟩:=bD hg12;obtain rfl:=aE hg1;obtain rfl:=aE hg2;obtain rfl:=aE hg3;obtain ⟨⟨G,ie,z,hi',hs,_⟩,_⟩:=f;obtain ⟨d,hel⟩:=I3 G;have F:(E.P.info? (E.P.elem t)).map (·.size)=some A:=by rw [hel];simp [hi',hs]
    have p:=λ u:World=>af (P:=E.P) F u;obtain rfl:=H rfl;obtain ⟨hs',v,h1,h2,h3,h4,h5,_⟩:=hm.rowOf (cR hog s_);have nl:∀ {n:Nat} {C:Option Addr} {cap:Nat},at' ob k g=some (.slice C n cap)->n=xs.length/\n<=cap:=λ{n C cap} r=>by
     rw [r] at h4;cases h4;rcases h5.len with ⟨e1,rfl⟩ | ⟨b,c,e1,e2,e3,e4⟩
     .cases e1;simp
     .cases e1;omega
    cases hv with
    | sub _ _ _ _ _ b n c r hl Q O B=>
     obtain ⟨hnx,_⟩:=nl r;refine wL L λ D s=>wL N λ q o=>?_;cases D with
     | none=>
      obtain rfl:=s.none;cases q with
      | none=>
       obtain rfl:=o.none;refine aX (u:=sliced (some ⟨b,S*A,none⟩) 0 len (c-S) A) ?_ (sS r hl O (Ch _) Q B);rw [run_sliceAt_slice w t _ _ _ _ d,run_slice_all w t _ len _ d,p];rfl
      | some y=>
       obtain ⟨J,rfl⟩:=o.some;intro I;refine aX (u:=sliced (some ⟨b,S*A,none⟩) 0 y (c-S) A) ?_ (sS r hl O (Ch _) o_ B);rw [run_sliceAt_slice w t _ _ _ _ d,run_slice_h w t _ len _ d J y o_ o_,p];rfl
     | some x=>
      obtain ⟨U,rfl⟩:=s.some;cases q with
      | none=>
       obtain rfl:=o.none;intro I;refine aX (u:=sliced (some ⟨b,S*A,none⟩) x len (c-S) A) ?_ (sS r hl O I Q B);rw [run_sliceAt_slice w t _ _ _ _ d,run_slice_l w t _ len _ d U x o_ o_,p];rfl
      | some y=>
       obtain ⟨J,rfl⟩:=o.some;rintro ⟨I,c2⟩;refine aX (u:=sliced (some ⟨b,S*A,none⟩) x y (c-S) A) ?_ (sS r hl O I o_ B);rw [run_sliceAt_slice w t _ _ _ _ d,run_slice_lh w t _ len _ d U J x y o_ o_ o_,p];rfl
    | sub0 _ _ _ _ a Y n c r hl O=>
     obtain ⟨hnx,_⟩:=nl r;have e0:sliced Y 0 0 0 A= .slice Y 0 0:=by rfl
     have r0:Rep M ob (sliced Y 0 0 0 A) (.sub k g S 0 A):=by rw [e0];exact .sub0 _ _ _ _ a Y n c r hl O
     refine wL L λ D s=>wL N λ q o=>?_;cases D with
     | none=>
      obtain rfl:=s.none;cases q with
      | none=>
       obtain rfl:=o.none;refine aX (u:=sliced Y 0 0 0 A) ?_ r0;rw [run_sliceAt_slice w t _ _ _ _ d,run_slice_all w t _ 0 _ d,p];rfl
      | some y=>
       obtain ⟨J,rfl⟩:=o.some;intro I;obtain rfl:y=0:=o_;refine aX (u:=sliced Y 0 0 0 A) ?_ r0;rw [run_sliceAt_slice w t _ _ _ _ d,run_slice_h w t _ 0 _ d J ((0:Nat):Int) o_ o_,p];rfl
     | some x=>
      obtain ⟨U,rfl⟩:=s.some;cases q with
      | none=>
       obtain rfl:=o.none;intro I;obtain rfl:x=0:=o_;refine aX (u:=sliced Y 0 0 0 A) ?_ r0;rw [run_sliceAt_slice w t _ _ _ _ d,run_slice_l w t _ 0 _ d U ((0:Nat):Int) o_ o_,p];rfl
      | some y=>
       obtain ⟨J,rfl⟩:=o.some;rintro ⟨I,c2⟩;obtain rfl:y=0:=o_;obtain rfl:x=0:=o_;refine aX (u:=sliced Y 0 0 0 A) ?_ r0;rw [run_sliceAt_slice w t _ _ _ _ d,run_slice_lh w t _ 0 _ d U J ((0:Nat):Int) ((0:Nat):Int) o_ o_ o_,p];rfl
   .exact trivial
  .rename_i k off;split
   .rename_i len esz ea R;rw [R] at f;obtain ⟨⟨e,G,F,_⟩,_⟩:=f;obtain rfl:=H rfl;obtain rfl:=V rfl;obtain rfl:=W rfl;intro B;obtain ⟨b,rfl,hb⟩:=hv.ref_inv;refine aX (u:=.slice (some ⟨b,off,none⟩) len len) ?_ (.csl _ _ _ _ b hb B);unfold Hd Iy Gw;simp only [Bk,run_underlying G,Au,Ci,af F];simp [bK]
   .exact trivial
  .rename_i cs;split
   .rename_i len R;rw [R] at f;obtain ⟨⟨e,G,F,_⟩,_⟩:=f;obtain rfl:=H rfl;obtain rfl:=V rfl;obtain rfl:=W rfl;split
    .rename_i l hl;refine sdc λ X=>?_;intro B;obtain ⟨t1,t2⟩:=mJ hl;obtain ⟨b,o',rfl,hM⟩:=hv.ptr_inv;refine aX (u:=.slice (some ⟨b,o',none⟩) len len) ?_ (.sl 1 b o' len len l _ t1 (Bh _) B (λ x hx=>?_) (λ i j x c hx O=>?_) ⟨_,len,rfl⟩)
     .unfold Hd Iy Gw;simp only [Bk,run_underlying G,Au,Ci,af F];simp [bK]
     .obtain ⟨i,hi⟩:=Da hx;rw [rQ (oG X i x hi)];rfl
     .rw [rQ (oG X i x hx)] at O;cases j with
      | succ j=>simp at O
      | zero=>
       simp at O;subst O;have:=hM i x (t2 i x hx)
       grind
    .exact trivial
   .exact trivial
  .exact trivial
end
section
variable {P:Program} {E:Env} {M:Imm} {ob:Hs} {ac:au} {w:World} {base:Nat}
def aDH{α:Type}(l:List α):(l.drop 0).take l.length=l:=by simp
def aDX(hm:Mem M ob ac w){x:Value}{a:aa}(y:Rep M ob x a){z:Nat}{xs:ay}(h:aIu (aB ac) a=some (z,xs))(hs:0<z){J Q:TypeId}(p:P.underlying J=some (.slice Q)):
  SrcA P M w z J x xs/\∃ i c,x= .slice i xs.length c/\(i=none->xs=[]/\c=0):=by
 unfold aIu at h;split at h
 .cases h;obtain ⟨i,c,e,A,_⟩:=y.slice_inv;exact ⟨SrcA.ofSlice hm hs p y,i,c,e,A⟩
 .rename_i k g;obtain ⟨i,n,c,rfl,d⟩:=y.row_inv;split at h
  .rename_i g' q e xs' f;obtain ⟨o,h⟩:=fW h;cases h;obtain rfl:=aE o;have m:=cR f s_;obtain ⟨hs',v,h1,C,h3,j,u,_⟩:=hm.rowOf m;rw [d] at j;cases j;have hl:n=xs.length/\(i=none->xs=[]/\c=0):=by
    rcases u.len with ⟨l,rfl⟩ | ⟨b,c,l,T,U,S⟩
    .simp_all
    grind
   obtain ⟨rfl,B⟩:=hl;have:=SrcA.ofRow hm hs m p d (lo:=0) (len:=xs.length) o_ (x:=.slice i xs.length c) (λ b I t e _=>by cases e;simp) (λ h=>⟨i,c,by rw [h]⟩);rw [aDH] at this;exact ⟨this,i,c,rfl,B⟩
  .rename_i g' q xs' f;obtain ⟨o,h⟩:=fW h;cases h;obtain rfl:=aE o;obtain ⟨hs',h1,v,C,h3⟩:=hm.obj _ _ (cR f s_);rw [cL h1,C] at d;cases d;have s:=h3.pure (M:=M) (ob:=ob);obtain ⟨F,t,e,A,_⟩:=s.slice_inv;exact ⟨SrcA.ofSlice hm hs p s,F,t,e,A⟩
  .cases h
 .rename_i k g lo len z;split at h
  .rename_i g' q e xs' f;obtain ⟨o,h⟩:=fW h;cases h;obtain ⟨D,H⟩:=bD o;obtain rfl:=aE D;obtain rfl:=aE H;have m:=cR f s_;obtain ⟨hs',v,h1,C,h3,j,u,_⟩:=hm.rowOf m;cases y with
   | sub _ _ _ _ _ b n c d hl R K L=>
    rw [d] at j;cases j;have G:n=xs'.length:=by
     rcases u.len with ⟨l,_⟩ | ⟨b,c,l,_⟩
     .cases l
     grind
    have r:((xs'.drop lo).take len).length=len:=by simp;omega
    refine ⟨SrcA.ofRow hm hs m p d (lo:=lo) (len:=len) o_ (λ N I t e _=>by cases e;simp) (λ h=>⟨_,_,by rw [h]⟩),_,_,by rw [r],λ e=>by cases e⟩
   | sub0 _ _ _ _ i O n c d hl K=>
    rw [d] at j;cases j;have G:n=xs'.length:=by
     rcases u.len with ⟨l,rfl⟩ | ⟨b,c,l,_⟩
     .simp_all
     grind
    refine ⟨SrcA.ofRow hm hs m p d (lo:=lo) (len:=0) o_ (λ N I t e h=>absurd rfl h) (λ_=>⟨_,_,rfl⟩),O,0,by simp,λ_=>⟨by simp,rfl⟩⟩
  .cases h
 .cases h
def VO(hE:ae E)(hm:Mem M ob ac w){x:Value}{a:aa}(g:Rep M ob x a){b e:Nat}{ys:ay}(h:aDY E (aB ac) b e a=some ys)(hs:0<b):SrcA E.P M w b e x ys:=by
 unfold aDY at h;split at h
 .rename_i l;split at h
  .rename_i _ _ _ d;obtain ⟨f,h⟩:=fW h;cases h;obtain rfl:=aE f;obtain ⟨rfl,_⟩:=g.str_inv;exact SrcA.ofStr (hE.tab e _ d).kind.1 l
  .cases h
 .split at h
  .rename_i _ _ _ _ _ _ d;cases h;cases g;exact ⟨⟨[],Src.ofNil w (hE.tab e _ d).kind.1.1 0,λ q c k=>by simp [aP] at k⟩,λ y j=>by simp at j,λ m hm=>HF hm⟩
  .cases h
 .split at h
  .rename_i _ _ _ _ _ _ n xs d i;obtain ⟨f,h⟩:=fW h;cases h;obtain rfl:=aE f;exact (aDX hm g i hs (hE.tab e _ d).kind.1.1).1
  .cases h
def aD9{s d e:TypeId}{a:Option Addr}{l:aw}{c:Nat}(x:P.underlying s=some (.slice e))(v:P.underlying e=some (.int .u8))(hd:P.underlying d=some .string)
  (o:a=none->l=[]/\c=0) (hs:SrcA P M w 1 s (.slice a l.length c) (l.map ub)):(convert s d (.slice a l.length c)).run P w= .ok (.string ⟨l.toArray⟩) w:=by
 rw [run_convert_bytes_string w s d e a l.length c x v hd];cases a with
 | none=>
  obtain ⟨rfl,rfl⟩:=o rfl;rfl
 | some a=>
  obtain ⟨⟨news,b,q⟩,_⟩:=hs;have p:news.length=l.length:=by rw [b.newsLen];simp
  have f:news=(l.map λ c=>(c.toNat:Int)).map (Ej .u8):=by
   refine Ek λ j=>?_;by_cases m:j<l.length
   .obtain ⟨u,i,k⟩:=q j (ub l[j]) (by rw [DP,Ac m];rfl);rw [i,k.int_inv.1];simp [Ac m]
   .rw [Bm o_,Bm q_]
  have h:(loadCells a l.length).run P w= .ok news.toArray w:=by have:=b.cells;rw [Cm] at this;have e:Cs 1 l.length (.slice (some a) l.length c)=loadCells a (l.length*1):=rfl;rw [e,Nat.mul_one] at this;exact this
  rw [f] at h;rw [run_bytesToString w a l.length c _ h];congr 2;have g:∀ (l:aw) (r:ByteArray),(l.map λ c=>(c.toNat:Int)).foldl (λ r n=>r.push (Dj n.toNat)) r=⟨r.data++l.toArray⟩:=by
   intro l;induction l with
   | nil=>simp
   | cons c l t=>
    intro r;simp only [Bj,Bb,t];simp
  rw [g];simp
def E5(w:World)(e:TypeId)(s:ByteArray):(Lib.bytesWorld w e s).os=w.os/\(Lib.bytesWorld w e s).tape=w.tape/\(Lib.bytesWorld w e s).output=w.output:=⟨rfl,rfl,rfl⟩
def aKO(hE:ae E)(hm:Mem M ob ac w){s d:TypeId}{v:Value}{a:aa}(D:Rep M ob v a):PM E.P M ob w (convert s d v) ac base (aGO E (aB ac) s d a):=by
 unfold aGO;split
 .rename_i T L hs hd;have g:=(hE.tab s T hs).kind;have f:=(hE.tab d L hd).kind;obtain ⟨A,_⟩:=g.isAgg;obtain ⟨ds,J⟩:=Dl.1 A;split
  .rename_i k R n t;rw [t] at f;obtain ⟨rfl,_⟩:=D.int_inv;have key:(convert s d (.int R n)).run E.P w= .ok (.int k (k.wrap n)) w:=by simp [convert,run_underlying J,run_underlying f.1,Conv.intToInt]
   refine PM.of hm ⟨λ hp=>⟨rfl,_,by rw [key,mV hp],.int _ _ hp⟩,rfl,_,key,.int _ _ (nD _ _)⟩
  .rename_i l t;rw [t] at f;obtain ⟨rfl,hl⟩:=D.str_inv;split
   .rename_i m;rw [m] at g;refine PM.of hm (aX (u:=.string ⟨l.toArray⟩) ?_ (.str _ hl));simp [convert,run_underlying g.1,run_underlying f.1]
   .exact trivial
  .rename_i e S l t;rw [t] at f;obtain ⟨⟨K,_⟩,_⟩:=f;obtain ⟨rfl,hl⟩:=D.str_inv;split
   .rename_i _ _ _ m I;rw [m] at g;have z:=(hE.tab e _ I).kind.1;have q:=Lib.run_convert_string_bytes (P:=E.P) w s d e ⟨l.toArray⟩ g.1 K z;rw [tD] at q;obtain ⟨V,q2,U⟩:=E5 w e ⟨l.toArray⟩;have key:∀ (j:Nat) c,l[j]? =some c->(Lib.bytesWorld w e ⟨l.toArray⟩).cell? ⟨w.heap.size,j,none⟩=some (.int .u8 c.toNat):=λ j c N=>by have G:j<l.length:=(Ad.1 N).1;rw [Lib.bytesWorld_cell w e ⟨l.toArray⟩ j (by rw [tD];exact G)];simp [List.getD,N]
    obtain ⟨Z,W⟩:=hm.more (M':=λ b o y=>M b o y\/(b=w.heap.size/\∃ c,l[o]? =some c/\y=ub c)) (w':=Lib.bytesWorld w e ⟨l.toArray⟩) (λ_ _ _ h=>.inl h) (λ b o y r=>by
      rcases r with r | ⟨rfl,_⟩
      .exact .inl r
      omega) (λ b o y r=>by
      rcases r with r | ⟨rfl,c,B,rfl⟩
      .obtain ⟨v,h1,Y,h3⟩:=hm.imm b o y r;exact ⟨v,(Lib.bytesWorld_old w e _ _ (Cz w _ h1)).trans h1,Y,h3.monoM λ_ _ _ h=>.inl h⟩
      .exact ⟨_,key o c B,rfl,AV c⟩) (λ b X=>Lib.bytesWorld_at_old w e _ b X) V q2 U (by rw [Lib.bytesWorld_size];omega)
    refine ⟨_,_,_,ob,q,W,Z,dB.refl _ _,.sl 1 w.heap.size 0 _ _ _ _ s_ (grownCap_ge w _ 0 e) hl (λ x C=>Y8 l x C) (λ i j x c C B=>?_) trivial⟩;rw [Bi] at C;obtain ⟨Q,hc',rfl⟩:=Co.1 C;cases j with
    | succ j=>simp [ub,aa.cells] at B
    | zero=>
     simp [ub,aa.cells] at B;subst B;exact .inr ⟨rfl,Q,by simp;omega,rfl⟩
   .exact trivial
  .have t:=‹L.kind=TK.str›;rw [t] at f;split
   .rename_i e S xs m O;rw [m] at g;split
    .rename_i _ _ _ I;have z:=(hE.tab e _ I).kind.1;intro l H F;subst H;obtain ⟨p,ad,c,rfl,h0⟩:=aDX (P:=E.P) hm D O d_ g.1.1;refine ⟨_,w,M,ob,?_,Ext.refl _ _ _ _,hm,dB.refl _ _,.str l F⟩;rw [Cm] at p⊢;exact aD9 g.1.1 z f.1 (λ e=>by grind) p
    .exact trivial
   .exact trivial
  .exact trivial
 .exact trivial
def MH(off:Nat):∀ (l:ba) (k:Nat) (cells:Array Value),((l.zipIdx k).foldl (λ(cs:Array Value) (p:Value×Nat)=>cs.setIfInBounds (off+p.2) p.1) cells).size=cells.size/\
  ∀ (i:Nat),((l.zipIdx k).foldl (λ(cs:Array Value) (p:Value×Nat)=>cs.setIfInBounds (off+p.2) p.1) cells)[i]? =if off+k<=i/\i<off+k+l.length/\i<cells.size then l[i-(off+k)]? else cells[i]?
 | [],k,cells=>by
  refine ⟨rfl,λ i=>?_⟩;simp;omega
 | c::l,k,cells=>by
  obtain ⟨h1,d⟩:=MH off l (k+1) (cells.setIfInBounds (off+k) c);simp only [List.zipIdx_cons,Bb];refine ⟨by rw [h1];simp,λ i=>?_⟩;rw [d];simp only [Array.size_setIfInBounds,Ak];by_cases b:i=off+k
  .subst b;rw [if_neg o_];by_cases hs:off+k<cells.size
   .rw [if_pos ⟨by omega,by omega,hs⟩];simp [hs]
   .rw [if_neg o_];rw [Array.getElem?_setIfInBounds_self];simp [hs]
  .rw [Ff o_];by_cases a:off+(k+1)<=i/\i<off+(k+1)+l.length/\i<cells.size
   .rw [if_pos a,if_pos ⟨by omega,by omega,a.2.2⟩];have:i-(off+k)=(i-(off+(k+1)))+1:=o_;rw [this,Gc]
   .rw [if_neg a,if_neg o_]
def JX(M:Imm)(ob:Hs)(vs:List (Nat×Value))(as:ar):Prop:=
 vs.length=as.length/\∀ (i:Nat) (p:Nat×Value) (q:Nat×aa),vs[i]? =some p->as[i]? =some q->p.1=q.1/\Rep M ob p.2 q.2
def zA{place d:Nat->Option (Nat×Nat)}(hp:∀ i p,d i=some p->place i=some p):
  ∀ {b:ar} {vparts:List (Nat×Value)} {cs cs':ay} {cells:Array Value},I4 d cs b=some cs'->cM M ob cells.toList cs->JX M ob vparts b->
   ∃ a,Instr.fill place cells vparts=some a/\cM M ob a.toList cs':=by
 intro b;induction b with
 | nil=>
  intro vparts cs cs' cells h s hl;have:vparts=[]:=Bc hl.1;subst this;cases h;exact ⟨cells,rfl,s⟩
 | cons q b L=>
  intro vparts cs cs' cells h s hl;obtain ⟨hl,F⟩:=hl;obtain ⟨i,x⟩:=q
  match vparts,hl with
  | (i',v)::vparts,hl=>
   obtain ⟨D,f⟩:=F 0 _ _ rfl rfl;dsimp only at D f;subst D;simp only [I4] at h;split at h
   .cases h
   .rename_i off T B;obtain ⟨G,z⟩:=fW h;obtain ⟨w,t⟩:=bD G;have y:x≠ .undef:=λ e=>by subst e;cases w
    have n:=aE t;rw [B5] at n;split at z
    .rename_i A m;obtain ⟨R,S,H⟩:=nI m;obtain ⟨P,C⟩:=f.cells y;have O:v.cells.size=x.cells.length:=o_;obtain ⟨U,N⟩:=MH off v.cells.toList 0 cells;have J:cells.size=cs.length:=by have:=s.1;omega
     have k:v.cells.zipIdx.foldl (λ(cs:Array Value) (x:Value×Nat)=>match x with | (c,j)=>cs.setIfInBounds (off+j) c) cells=(v.cells.toList.zipIdx 0).foldl (λ(cs:Array Value) (p:Value×Nat)=>cs.setIfInBounds (off+p.2) p.1) cells:=by rw [<-Array.foldl_toList];simp
     have g:cM M ob ((v.cells.toList.zipIdx 0).foldl (λ(cs:Array Value) (p:Value×Nat)=>cs.setIfInBounds (off+p.2) p.1) cells).toList A:=by
      refine ⟨by simp;omega,λ j u c r l=>?_⟩;rw [Array.getElem?_toList,N j] at r;rw [H j] at l;simp only [Fx] at r;by_cases o:off<=j/\j<off+x.cells.length
      .rw [if_pos o] at l;rw [if_pos ⟨by omega,by omega,by omega⟩] at r;exact C _ u c r l
      .rw [if_neg o] at l;rw [if_neg o_] at r;exact s.2 j u c q_ l
     obtain ⟨a,K,I⟩:=L (vparts:=vparts) z g ⟨by simpa using hl,λ i p q hp Q=>F (i+1) p q q_ q_⟩;refine ⟨a,?_,I⟩;simp only [Instr.fill,hp _ _ B];rw [if_neg]
     .rw [k];exact K
     simp;omega
    .cases z
def D9{P:Program}:∀ {a:List Field} {b:List (Nat×Nat×Bool)},sM P a b->a.mapM (λ f=>(P.info? f.type).map λ i=>(f.offset,i.size))=some (b.map λ f=>(f.1,f.2.1))
 | [],[],_=>rfl
 | [],_::_,h=>h.elim
 | _::_,[],h=>h.elim
 | f::a,(off,sz,ag)::b,h=>by obtain ⟨h1,e,h3,g,c⟩:=h;obtain ⟨i,d,rfl⟩:=Co.1 e;simp [List.mapM_cons,d,D9 c,h1]
def aAe{α β:Type}(f:α->β):∀ (l:List α) (n:Nat),(nth l n).map f=(l.map f)[n]?
 | [],_=>by simp [nth]
 | x::_,0=>rfl
 | _::r,n+1=>by simpa [nth] using aAe f r n
def aGQ(hE:ae E){t:TypeId}{g:ar}{vparts:Array (Nat×Value)}(hl:JX M ob vparts.toList g):PS0 E.P M ob w (Instr.build t vparts) ac base (XV E t g):=by
 unfold XV;split
 .rename_i N I;have o:=hE.tab t N I;obtain ⟨info,z,F,H,hz,L,h,_,_⟩:=o.info;have c:=o.kind;split
  .rename_i J y x l;rw [x] at c;obtain ⟨⟨D,C,O⟩,_⟩:=c;split
   .rename_i cs d;rw [l] at h;cases h with
    | agg vs as r k=>
     have j:cM M ob vs.toArray.toList y:=⟨by omega,λ i v a K B=>mU (k i v a o_ B)⟩
     obtain ⟨b,A,m⟩:=zA (place:=((J.map λ f=>(f.1,f.2.1)).toArray[·]?)) (λ i p hp=>by rw [aAe] at hp;simpa using hp) d j hl;have q:E.P.built t vparts.toList=some b:=by simp only [Program.built,F,C,hz,D9 O];exact A
     have:b=b.toList.toArray:=by simp
     rw [this] at q;exact aX (run_build w t vparts _ q) (.agg _ _ m.1 m.2)
   .exact trivial
  .rename_i n Q R y x l;rw [x] at c;obtain ⟨⟨e,C,u,_⟩,_⟩:=c;obtain ⟨G,s,rfl⟩:=Co.1 u;split
   .rename_i cs d;rw [l] at h;cases h with
    | agg vs as r k=>
     have j:cM M ob vs.toArray.toList y:=⟨by omega,λ i v a K B=>mU (k i v a o_ B)⟩
     obtain ⟨b,A,m⟩:=zA (place:=λ i=>some (i*G.size,G.size)) (λ i p hp=>hp) d j hl;have q:E.P.built t vparts.toList=some b:=by simp only [Program.built,F,C,hz,s];exact A
     have:b=b.toList.toArray:=by simp
     rw [this] at q;exact aX (run_build w t vparts _ q) (.agg _ _ m.1 m.2)
   .exact trivial
  .exact trivial
 .exact trivial
end
section
variable {P:Program} {E:Env} {M:Imm} {ob:Hs} {ac:au} {w:World} {base:Nat}
def Mem.bare(h:Mem M ob ac w):Mem M [] [] w:=
 ⟨h.imm,rfl,λ k c a=>by simp at a,λ k b ⟨c,hs,h1,_⟩=>by simp at h1,λ k d b ⟨c,hs,h1,_⟩=>by simp at h1⟩
def aE6:aB []=λ_=>ab.dead:=by rfl
def Mem.pure0(h:Mem M ob ac w){v:Value}{a:aa}(b:Rep (λ_ _ _=>False) [] v a):Rep M [] v (AW.ah (λ_=>.dead) 4 a):=by have:=h.bare.pureV 4 v a (mU b);rwa [aE6] at this
def D1{t:Nat}{a:Addr}{v:Value}{w':World}(hs:(P.info? t).map (·.size)=some v.cells.size)(h:(storeCells a v.cells.toList).run P w= .ok () w'):
  (Kl t (.pointer (some a)) v).run P w= .ok () w':=by
 unfold Kl Iy storeVar;simp only [Bk,Ci,Au,af hs,ne_eq,not_true_eq_false,if_false];exact h
def V5{y:aa}{new cs':ay}{off:Nat}(a:qO off new y.cells=some cs')(f:sW new=true):(aMZ y cs').cells=cs':=by
 obtain ⟨j,h,g⟩:=nI a;by_cases i:∃ as,y= .agg as
 .obtain ⟨as,rfl⟩:=i;rfl
 .have b:y.cells=[y]:=by cases y<;>first | rfl | grind
  have e:aMZ y cs'=aLS cs':=by cases y<;>first | rfl | grind
  rw [e];rw [b] at h g
  match cs',h,g with
  | [c],_,g=>
   show c.cells=[c]
   have d:=g 0;simp only [Md] at d;split at d
   .exact rQ (oG f _ c d.symm)
   .simp at d;rw [d];exact b
def aBF{a:Nat}{xs:ay}{i off:Nat}{y l:aa}{new:ay}(hs:0<a)(k:xs[i]? =some y)(hz:y.cells.length=a)
  (h1:off+new.length<=a) (o:∀ (j:Nat),l.cells[j]? =if off<=j/\j<off+new.length then new[j-off]? else y.cells[j]?) {q:Nat} {c:aa} (h:aP a (xs.set i l) q=some c):
  (i*a+off<=q/\q<i*a+off+new.length/\new[q-(i*a+off)]? =some c)\/((q<i*a+off\/i*a+off+new.length<=q)/\aP a xs q=some c):=by
 have d:i<xs.length:=(Ad.1 k).1;obtain ⟨z,hz1,hz2⟩:=iW h;have e:a*(q / a)+q % a=q:=Gg q a;have m:=Fq q hs;by_cases b:q / a=i
 .rw [b,Ay d] at hz1;cases hz1;rw [o] at hz2;rw [b,Dn] at e;split at hz2
  .rename_i g;left;refine ⟨by omega,by omega,?_⟩;rw [show q-(i*a+off)=q % a-off from by omega];exact hz2
  .rename_i g;right;refine ⟨by omega,?_⟩;unfold aP;rw [b,k];exact hz2
 .rw [Bf (Fa b)] at hz1;right;refine ⟨?_,?_⟩
  .rcases Nj (q / a) i with f | n
   .left;have:(q / a+1)*a<=i*a:=Cc _ f;rw [Cg,Dn] at this;omega
   .right;have:(i+1)*a<=q / a*a:=Cc _ o_;rw [Cg,Dn (q / a)] at this;omega
  .unfold aP;rw [hz1];exact hz2
def VU(P:Program)(M:Imm)(ob:Hs)(ac:au)(w:World)(s:Sem Unit)(v:aa)(ao:au):Prop:=
 v= .undef/\∃ w' M' ob',s.run P w= .ok () w'/\Ext M ob ac w M' ob' ao w'/\Mem M' ob' ao w'/\dB ob ac ob' ao
def aGy(hE:ae E)(hm:Mem M ob ac w){t:Nat}{v u:Value}{a x:aa}(o:Rep M ob v a)(hu:Rep M ob u x):
  Sd (VU E.P M ob ac w (Kl t v u)) (λ_ _=>False) (λ_=>False) ac base (XF E (aB ac) t a x):=by
 unfold XF;split
 .exact trivial
 .rename_i ti hT;have hti:=hE.tab t ti hT;refine sdc λ hg=>?_;obtain ⟨R,O⟩:=bD hg;obtain ⟨hcl,H,hcr⟩:=hu.cells_one R;have Z:u.cells.size=ti.size:=by
   have:=aE O;rw [B5] at this
   grind
  have hs:(E.P.info? t).map (·.size)=some u.cells.size:=by rw [Z];exact hti.size?
  split
  .rename_i k off;obtain ⟨b,rfl,hb⟩:=o.ref_inv;split
   .rename_i T' cs C;have G:=cR C s_;split
    .rename_i cs' f;obtain ⟨p1,p2,Y⟩:=nI f;obtain ⟨hs0,e1,b',rfl,hM,cv,hh,hlen',S,W⟩:=hm.obj k _ G;have hbb:b'=b:=by rw [cL e1] at hb;simpa using hb
     subst hbb;have T:off+u.cells.toList.length<=cv.length:=o_;obtain ⟨q1,q2⟩:=gU cv u.cells.toList off T;have hst:=run_storeCells_at E.P b' off T' u.cells.toList 0 cv.toArray w hh o_ H;simp only [Fx] at hst
     have:=hm.cellsTurn (cs':=cs') (cv':=cv.take off++u.cells.toList++cv.drop (off+u.cells.toList.length)) G hb o_ (λ v o=>by
       simp only [Bd] at o;rcases o with (o | o) | o
       .exact S v (Di o)
       .exact H v o
       .exact S v (Fj o)) (λ i v c s m=>by
       rw [q2 i] at s;rw [Y i,<-hcl] at m;split at s
       .rename_i I;rw [if_pos I] at m;exact hcr _ v c s m
       .rename_i I;rw [if_neg I] at m
        exact W i v c s m)
     refine ⟨rfl,_,M,ob,D1 hs hst,?_⟩;rw [aU G];exact ⟨this.2.1,this.1,this.2.2⟩
    .exact trivial
   .exact trivial
  .rename_i k g i h off;cases o with
   | eref _ _ _ _ _ b n c J=>
   split
   .rename_i g' sz' e xs C;have G:=cR C s_;refine sdc λ hg2=>?_;obtain ⟨U,l⟩:=bD hg2;obtain ⟨hg3,D⟩:=bD U;obtain ⟨hg4,hg5⟩:=bD hg3;obtain rfl:=aE hg4;obtain rfl:=aE hg5;have d:0<h:=Cu D;have hpu:=hm.pureV 4 u x hu;obtain ⟨hcl',_,Q⟩:=hpu.cells_one l;obtain ⟨hs0,v0,e1,e2,e3,e4,A,_⟩:=hm.rowOf G;have hrl:=A.len;rw [J] at e4;cases e4;obtain ⟨cv,_,_,hz,_⟩:=A
    have X:∀ {y L:aa},0<h->xs[i]? =some y->off+(ah (aB ac) 4 x).cells.length<=h->(∀ (j:Nat),L.cells[j]? =if off<=j/\j<off+(ah (aB ac) 4 x).cells.length then (ah (aB ac) 4 x).cells[j-off]? else y.cells[j]?)->
      L.cells.length=h->VU E.P M ob ac w (Kl t (.pointer (some ⟨b,i*h+off,none⟩)) u) .undef (bX ac k (.row g h e (xs.set i L))):=by
     intro y L d r h1 h2 h3;have F:i<xs.length:=(Ad.1 r).1;have N:(i+1)*h<=xs.length*h:=Cc _ F;rw [Cg,Hb] at N
     obtain ⟨w',r1,r2,r3,r4⟩:=hm.rowWrite (P:=E.P) (xs':=xs.set i L) G J d (p:=i*h+off) (news:=u.cells.toList) o_ H s_ (λ z B=>by
       rcases Dq B with B | rfl
       .exact hz z B
       .exact h3) (λ q c hq=>by
       rcases aBF d r (hz y (Az r)) h1 h2 hq with ⟨a1,a2,a3⟩ | ⟨a1,a2⟩
       .left;refine ⟨a1,by omega,?_⟩;have V:q-(i*h+off)<u.cells.toList.length:=o_;exact ⟨_,Ac V,Q _ _ c (Ac V) a3⟩
       .right
        exact ⟨by omega,a2⟩)
     refine ⟨rfl,w',M,ob,D1 hs r1,?_⟩;rw [aU G];exact ⟨r3,r2,r4⟩
    cases hq:(Ba off 0&&Ba ti.size h) with
    | true=>
     obtain ⟨ho1,ho2⟩:=bD hq;obtain rfl:=aE ho1;have hts:=aE ho2;intro F;have hnl:(ah (aB ac) 4 x).cells.length=h:=by
      have:u.cells.toList.length=u.cells.size:=by simp
      omega
     have r:=Ac F;have hyz:=hz _ (Az r)
     exact X d r o_ (λ j=>by
       split
       .rfl
       .rw [Bm o_,Bm o_]) hnl
    | false=>
     intro y r;dsimp only;split
     .rename_i cs' f;obtain ⟨p1,p2,Y⟩:=nI f;have hyz:=hz y (Az r);have K:=V5 f l;exact X d r o_ (λ j=>by rw [K];exact Y j) (by rw [K];omega)
     .exact trivial
   .exact trivial
  .exact trivial
end
section
variable {P:Program} {E:Env} {M:Imm} {ob:Hs} {ac:au} {w:World} {base:Nat}
def Mem.rowSplice(hm:Mem M ob ac w){k g a:Nat}{e:TypeId}{xs ys:ay}(m:ac[k]? =some (.row g a e xs)){b n cap:Nat}(v:at' ob k g=some (.slice (some ⟨b,0,none⟩) n cap))(hs:0<a){i:Nat}(r:i+ys.length<=xs.length)
  (hz:∀ y∈ys,y.cells.length=a) {news:ba} (hl:news.length=ys.length*a) (h1:∀ u∈news,u.oneCell'=true) (x:∀ (q:Nat) c,aP a ys q=some c->∃ u,news[q]? =some u/\Rep M [] u c):
  ∃ w',(storeCells ⟨b,i*a,none⟩ news).run P w= .ok () w'/\Mem M ob (ac.set k (.row g a e (xs.take i++ys++xs.drop (i+ys.length)))) w'/\
   Ext M ob ac w M ob (ac.set k (.row g a e (xs.take i++ys++xs.drop (i+ys.length)))) w'/\dB ob ac ob (ac.set k (.row g a e (xs.take i++ys++xs.drop (i+ys.length)))):=by
 obtain ⟨t,B,A,D,F,C,f,_⟩:=hm.rowOf m;obtain ⟨cv,_,_,h,_⟩:=f;have j:(i+ys.length)*a<=xs.length*a:=Cc _ r;rw [Cg] at j;refine hm.rowWrite (P:=P) m v hs (p:=i*a) (news:=news) o_ h1 q_ (λ y d=>?_) (λ q c z=>?_)
 .simp only [Bd] at d;rcases d with (d | d) | d
  .exact h y (Di d)
  .exact hz y d
  .exact h y (Fj d)
 .rcases KQ hs r z with ⟨l,o,s⟩ | ⟨l,o⟩
  .left;exact ⟨l,by omega,x _ c s⟩
  .right;exact ⟨by omega,o⟩
def vK{xs:ay}{i:Nat}:xs.take i++[]++xs.drop (i+0)=xs:=by simp
def tM(hm:Mem M ob ac w)(c:ac[base]? =some .dead)(d:ob[base]? =some []){s:Sem Value}{f:Nat}{e:TypeId}{v:Value}{w':World}{xs:ay}(h:s.run P w= .ok v w')(g:Grown M w w' f e v xs){hint:Nat}:
  PM P M ob w s ac base (tN hint base f e xs):=by
 have k:base<ob.length:=(Ad.1 d).1;unfold tN;split
 .obtain ⟨h1,i,h3⟩:=g.row hm c d;refine ⟨v,w',M,ob.set base [v],h,?_⟩;rw [aU c];refine ⟨i,h1,h3,?_⟩;obtain ⟨cv,j,_⟩:=g.own;have a:at' (ob.set base [v]) base 0=some v:=by rw [cL (Ay k)];rfl
  rcases dX j with ⟨q,_⟩ | ⟨b,cap,q,_⟩
  .rw [q] at a⊢;exact .row _ _ _ _ _ a
  .rw [q] at a⊢;exact .row _ _ _ _ _ a
 .obtain ⟨h1,i,h3,l⟩:=g.tail hm c d;refine ⟨v,w',jU M v f xs,ob.set base [v],h,?_⟩;rw [aU c]
  grind
def MB(hm:Mem M ob ac w){s:Sem Value}{a:Nat}{e:TypeId}{v:Value}{w':World}{xs:ay}(b:s.run P w= .ok v w')(g:Grown M w w' a e v xs){t:Tk}(d:xY ob v t):PM P M ob w s ac base (.val (.slice a xs t)):=by obtain ⟨h1,f⟩:=g.more hm;obtain ⟨cv,c,_⟩:=g.own;exact ⟨v,w',_,ob,b,f,h1,dB.refl _ _,mY c g.hz d⟩
def aCC(hE:ae E)(hm:Mem M ob ac w)(K:ac[base]? =some .dead)(Q:ob[base]? =some []){hint:Nat}{t t2 ty:TypeId}{v x:Value}{s a:aa}(J:Rep M ob v s)(hx:Rep M ob x a):
  PM E.P M ob w (Cx #[t,t2] ty #[v,x]) ac base (xL E hint base (aB ac) t t2 s a):=by
 unfold xL;split
 .rename_i e esz eb _ _ _ hT;obtain ⟨⟨N,i,z,O,hsz,heb,hz,u,hz1⟩,_⟩:=(hE.tab t _ hT).kind;subst hsz heb;refine sdc λ hp=>?_;have d:0<i.size:=Cu hp;split
  .exact trivial
  .rename_i ys hys;have h:=VO hE hm hx hys d;split
   .rename_i sz xs tk;split
    .rename_i k g;split
     .rename_i g' sz' e' r;refine sdc λ F=>?_;obtain ⟨m,L⟩:=bD F;obtain ⟨l,B⟩:=bD m;obtain ⟨A,y⟩:=bD l;obtain rfl:=aE A;have q3:=aE B;have W:=aE y;subst W;subst q3;have q4:=aE L;subst q4;rintro ⟨D,G⟩;have C:=cR r s_;obtain ⟨I,w',M',ob',o,j,V,T,r5⟩:=hm.appendTail (P:=E.P) (ty:=ty) N O hz hz1 u d C J h D G;refine ⟨I,w',M',ob',o,?_⟩;rw [aU C];exact ⟨V,j,T,r5⟩
     .exact trivial
    .refine sdc λ F=>?_;have q:=aE F;subst q;rintro ⟨D,G⟩;obtain ⟨_,X⟩:=J.untok;obtain rfl:v= .slice none 0 0:=X;obtain ⟨I,w',o,j⟩:=append_nil (P:=E.P) (ty:=ty) hm N O hz hz1 u d h D G;exact tM hm K Q o j
    .refine sdc λ F=>?_;have q:=aE F;subst q;rintro ⟨D,G⟩;obtain ⟨I,w',o,j⟩:=U4 (P:=E.P) (ty:=ty) hm N O hz hz1 u d J h D G;split
     .rcases j with ⟨rfl,rfl,rfl⟩ | ⟨_,j⟩
      .refine ⟨I,w',M,ob,o,Ext.refl _ _ _ _,hm,dB.refl _ _,?_⟩;rw [Ar];exact J.untok.1
      .exact MB hm o j trivial
     .intro U;rcases j with ⟨_,rfl,rfl⟩ | ⟨q,_⟩
      .exact ⟨I,w',M,ob,o,Ext.refl _ _ _ _,hm,dB.refl _ _,J⟩
      .exact absurd U q
     .intro U;rcases j with ⟨q,_⟩ | ⟨_,j⟩
      .grind
      .exact tM hm K Q o j
    .exact trivial
   .rintro ⟨D,G⟩;cases J;obtain ⟨I,w',o,j⟩:=append_nil (P:=E.P) (ty:=ty) hm N O hz hz1 u d h D G;exact tM hm K Q o j
   .rename_i k g;split
    .rename_i g' sz e' xs r;refine sdc λ F=>?_;obtain ⟨l,B⟩:=bD F;obtain ⟨A,y⟩:=bD l;obtain rfl:=aE A;have W:=aE y;subst W;have q3:=aE B;subst q3;rintro ⟨D,G⟩;have C:=cR r s_;obtain ⟨Z,n,c,rfl,f⟩:=J.row_inv;obtain ⟨I,w',ob',o,j,V,T,r5⟩:=hm.appendRow (P:=E.P) (ty:=ty) N O hz hz1 u d C f h D G;refine ⟨I,w',M,ob',o,?_⟩;rw [aU C];exact ⟨V,j,T,r5⟩
    .exact trivial
   .rename_i k g lo len sz;split
    .rename_i g' sz' e' xs r;refine sdc λ F=>?_;obtain ⟨m,L⟩:=bD F;obtain ⟨l,B⟩:=bD m;obtain ⟨A,y⟩:=bD l;obtain rfl:=aE A;have q3:=aE B;have W:=aE y;subst W;subst q3;have q4:=aE L;subst q4;intro hfit;have C:=cR r s_;obtain ⟨hs0,v0,e1,e2,e3,e4,S,_⟩:=hm.rowOf C;have Y:∀ {Z n c},at' ob k g=some (.slice Z n c)->n=xs.length:=λ{Z n c} f=>by rw [f] at e4;cases e4;rcases S.len with ⟨q,rfl⟩ | ⟨b,cap,q,_⟩<;>cases q<;>rfl
     obtain ⟨⟨news,H,s2⟩,hz',_⟩:=h;cases J with
     | sub _ _ _ _ _ b n c f hl hn hc hmm=>
      have:=Y f;obtain ⟨w',o,j,V,T⟩:=hm.rowSplice (P:=E.P) (ys:=ys) (i:=lo+len) (news:=news) C f d o_ hz' H.newsLen H.one s2;refine ⟨.slice (some ⟨b,lo*i.size,none⟩) (len+ys.length) (c-lo),w',M,ob,?_,?_⟩
      .have hst:(storeCells ((⟨b,lo*i.size,none⟩:Addr).add (len*i.size)) news).run E.P w= .ok () w':=by rw [bK,<-Cg];exact o
       have R:len+ys.length<=c-lo:=o_;rcases H.kind with ⟨e',p⟩ | p<;>simp [Cx,run_underlying N,run_underlying p,sizeOf,typeInfo,O,H.len,R,H.cells,hst]
      .rw [aU C];exact ⟨V,j,T,.sub _ _ _ _ _ b n c f hl o_ hc hmm⟩
     | sub0 _ _ _ _ Z a' n c f hl hc=>
      have:=Y f;have hy0:ys=[]:=Bc o_;subst hy0;have hn0:news=[]:=Bc (by rw [H.newsLen];simp);subst hn0;refine ⟨.slice a' 0 0,w,M,ob,?_,?_⟩
      .have hc0:(Cs i.size 0 x).run E.P w= .ok #[] w:=H.cells;have hl0:∀ w,(Builtin.lenOf x).run E.P w= .ok 0 w:=H.len;rcases H.kind with ⟨e',p⟩ | p<;>cases a'<;>simp [Cx,run_underlying N,run_underlying p,sizeOf,typeInfo,O,hl0,hc0,storeCells]
      .rw [aU C];have:ac.set k (.row g i.size e (xs.take (lo+0)++[]++xs.drop (lo+0+([]:ay).length)))=ac:=by rw [Bz,vK];exact iM C
       rw [this];exact ⟨Ext.refl _ _ _ _,hm,dB.refl _ _,.sub0 _ _ _ _ Z a' n c f hl hc⟩
    .exact trivial
   .exact trivial
 .exact trivial
end
section
variable {P:Program} {E:Env} {M:Imm} {ob:Hs} {ac:au} {w:World} {base:Nat}
def aFn{α:Type}(l:List α)(n:Nat):l.drop (min n l.length)=l.drop n:=by simp
def aKN(hE:ae E)(hm:Mem M ob ac w){t t2 ty:TypeId}{v x:Value}{d a:aa}(hv:Rep M ob v d)(hx:Rep M ob x a):
  PM E.P M ob w (Km #[t,t2] ty #[v,x]) ac base (aGN E (aB ac) t t2 d a):=by
 unfold aGN;split
 .rename_i e esz eb _ _ _ hT;obtain ⟨⟨hu,i,z,hi,R,W,hz,hzs,hz1⟩,_⟩:=(hE.tab t _ hT).kind;subst R W;refine sdc λ hp=>?_;have j:0<i.size:=Cu hp
  have B:∀ n:Nat,(n:Int)<=9223372036854775807->inR .i64 (n:Int):=λ n h=>⟨by simp only [dA];omega,by simp only [bN];omega⟩
  split
  .exact trivial
  .rename_i ys V;obtain ⟨⟨news0,s1,_⟩,T,s⟩:=VO hE hm hx V j
   have run:∀ {A:Option Addr} {n c m:Nat} {news:ba} {w':World},m=min ys.length n->(Cs i.size m x).run E.P w= .ok news.toArray w->(∀ a,A=some a->(storeCells a news).run E.P w= .ok () w')->(A=none->w'=w)->
     (Km #[t,t2] ty #[.slice A n c,x]).run E.P w= .ok (.int .i64 (m:Nat)) w':=by
    intro A n c m news w' h1 h2 h3 h4;subst h1;have C:Nat.min ys.length n=min ys.length n:=rfl;cases A with
    | none=>
     rw [h4 rfl];simp [Km,run_underlying hu,s1.len,C,sizeOf,typeInfo,hi,h2,goInt]
    | some a=>
     simp [Km,run_underlying hu,s1.len,C,sizeOf,typeInfo,hi,h2,h3 a rfl,goInt]
   have put:∀ {k g:Nat} {xs:ay} {b n cap p m:Nat},ac[k]? =some (.row g i.size e xs)\/(∃ u,ac[k]? =some (.row g i.size u xs))->True:=λ_=>trivial;clear put
   -- the elements that are written
   have key:∀ {k g:Nat} {u:TypeId} {xs:ay} {b n cap p m:Nat},ac[k]? =some (.row g i.size u xs)->at' ob k g=some (.slice (some ⟨b,0,none⟩) n cap)->m<=ys.length->p+m<=xs.length->
     ∃ (news:ba) (w':World),(Cs i.size m x).run E.P w= .ok news.toArray w/\(storeCells ⟨b,p*i.size,none⟩ news).run E.P w= .ok () w'/\
      Mem M ob (ac.set k (.row g i.size u (xs.take p++ys.take m++xs.drop (p+m)))) w'/\Ext M ob ac w M ob (ac.set k (.row g i.size u (xs.take p++ys.take m++xs.drop (p+m)))) w'/\dB ob ac ob (ac.set k (.row g i.size u (xs.take p++ys.take m++xs.drop (p+m)))):=by
    intro k g u xs b n cap p m l f X hpm;obtain ⟨news,n1,n2,I,H⟩:=s m X;have r:(ys.take m).length=m:=by simp;omega
    obtain ⟨w',r1,r2,r3,r4⟩:=hm.rowSplice (P:=E.P) (ys:=ys.take m) (i:=p) (news:=news) l f j o_ (λ y hy=>T y (Di hy)) (by rw [r];exact n2) I (λ q c hq=>by
     have J:=hC j hq;rw [r] at J;rw [pZ j J] at hq
     exact H q c J hq)
    rw [r] at r2 r3 r4;exact ⟨news,w',n1,r1,r2,r3,r4⟩
   split
   .rename_i k g;split
    .rename_i g' sz u xs D;refine sdc λ Y=>?_;obtain ⟨G,F⟩:=bD Y;obtain rfl:=aE G;have Q:=aE F;subst Q;have l:=cR D s_;obtain ⟨A,n,c,rfl,f⟩:=hv.row_inv;obtain ⟨S,v0,e1,e2,e3,N,o,_⟩:=hm.rowOf l;rw [f] at N;cases N;rcases o.len with ⟨q,rfl⟩ | ⟨b,cap,q,Q,q3,q4⟩
     .cases q;obtain ⟨news,n1,n2,_⟩:=s 0 (Ch _);refine ⟨.int .i64 ((0:Nat):Int),w,M,ob,run (m:=0) s_ n1 (λ a h=>by cases h) (λ_=>rfl),?_⟩;rw [aU l];have:ac.set k (.row g i.size u (ys.take ([]:ay).length++([]:ay).drop ys.length))=ac:=by simp only [Bz,Ix,List.drop_nil,Ar];exact iM l
      rw [this];exact ⟨Ext.refl _ _ _ _,hm,dB.refl _ _,by simpa using Rep.int .i64 0 (B 0 d_)⟩
     .cases q;obtain ⟨news,w',n1,n2,I,H,K⟩:=key (p:=0) (m:=min ys.length xs.length) l f (Nat.min_le_left _ _) o_;rw [Mf] at n2;refine ⟨.int .i64 ((min ys.length xs.length:Nat):Int),w',M,ob,run rfl n1 (λ a h=>by cases h;exact n2) (λ h=>by cases h),?_⟩;rw [aU l];have U:xs.take 0++ys.take (min ys.length xs.length)++xs.drop (0+min ys.length xs.length)=ys.take xs.length++xs.drop ys.length:=by
       rw [Ix,Bp,Bx,aFn];congr 1;by_cases h:ys.length<=xs.length
       .rw [Gy h,Gm,Cn h]
       .rw [Nat.min_eq_right o_]
      rw [U] at I H K;have hmx:=jG;have:min ys.length xs.length<=xs.length:=Nat.min_le_right _ _;exact ⟨H,I,K,.int _ _ (B _ o_)⟩
    .exact trivial
   .rename_i k g lo len sz;split
    .rename_i g' sz' u xs D;refine sdc λ Y=>?_;obtain ⟨O,hg3⟩:=bD Y;obtain ⟨G,F⟩:=bD O;obtain rfl:=aE G;have q3:=aE hg3;have Q:=aE F;subst Q;subst q3;have l:=cR D s_;obtain ⟨S,v0,e1,e2,e3,N,o,_⟩:=hm.rowOf l;have L:∀ {A n c},at' ob k g=some (.slice A n c)->n=xs.length:=λ{A n c} f=>by rw [f] at N;cases N;rcases o.len with ⟨q,rfl⟩ | ⟨b,cap,q,_⟩<;>cases q<;>rfl
     cases hv with
     | sub _ _ _ _ _ b n c f hl hn hc hmm=>
      have:=L f;obtain ⟨news,w',n1,n2,I,H,K⟩:=key (p:=lo) (m:=min ys.length len) l f (Nat.min_le_left _ _) o_;refine ⟨.int .i64 ((min ys.length len:Nat):Int),w',M,ob,run rfl n1 (λ a h=>by cases h;exact n2) (λ h=>by cases h),?_⟩;rw [aU l];have U:ys.take (min ys.length len)=ys.take len:=by
       by_cases h:ys.length<=len
       .rw [Gy h,Gm,Cn h]
       .rw [Nat.min_eq_right o_]
      rw [U] at I H K;have:min ys.length len<=len:=Nat.min_le_right _ _;exact ⟨H,I,K,.int _ _ (B _ o_)⟩
     | sub0 _ _ _ _ A a' n c f hl hc=>
      have:=L f;obtain ⟨news,n1,n2,_⟩:=s 0 (Ch _);have Z:news=[]:=Bc o_;subst Z;refine ⟨.int .i64 ((0:Nat):Int),w,M,ob,run (m:=0) s_ n1 (λ a h=>rfl) (λ_=>rfl),?_⟩;rw [aU l];have:ac.set k (.row g i.size u (xs.take lo++ys.take 0++xs.drop (lo+min ys.length 0)))=ac:=by rw [Ix,Nat.min_zero,vK];exact iM l
      rw [this];exact ⟨Ext.refl _ _ _ _,hm,dB.refl _ _,by simpa using Rep.int .i64 0 (B 0 d_)⟩
    .exact trivial
   .exact trivial
 .exact trivial
def CT{z:Value}{a:aa}(k:Rep M [] z a)(o:a≠ .undef){b:Nat}(hz:z.cells.size=b)(hs:0<b){n:Nat}{cv:ba}(hl:cv.length=n*b)(j:∀ q,q<n*b->cv[q]? =z.cells.toList[q % b]?):
  (∀ y∈Aj n a,y.cells.length=b)/\∀ (q:Nat) c,aP b (Aj n a) q=some c->∃ u,cv[q]? =some u/\Rep M [] u c:=by
 obtain ⟨h1,l⟩:=k.cells o;have m:z.cells.toList.length=b:=o_;refine ⟨λ y g=>by rw [(Gn.1 g).2];omega,λ q c i=>?_⟩;have e:=hC hs i;rw [Fu] at e;obtain ⟨y,g,f⟩:=iW i;have:=Az g;rw [(Gn.1 this).2] at f;have h:=Fq q hs;rw [j q e];have d:q % b<z.cells.toList.length:=o_;exact ⟨_,Ac d,l _ _ c (Ac d) f⟩
def xZ{z:Array Value}{n:Nat}:(Cp z n).toList.length=n*z.size/\∀ q,q<n*z.size->(Cp z n).toList[q]? =z.toList[q % z.size]?:=by
 refine ⟨by simp [Cp],λ q b=>?_⟩;have hs:0<z.size:=by grind
 have a:=Fq q hs;simp only [Cp,Kc,Bi,Array.toList_range];simp_all
def KJ{z:Array Value}{n:Nat}(hs:0<z.size):(madeCells z n).toList.length=n/\∀ q,q<n->(madeCells z n).toList[q]? =z.toList[q % z.size]?:=by refine ⟨by simp [madeCells],λ q b=>?_⟩;have a:=Fq q hs;simp only [madeCells,Kc,Bi,Array.toList_range];simp_all
def aBk{z:Array Value}{cv:ba}{n:Nat}(h:z.toList.all (·.oneCell')=true)(hl:cv.length=n)(c:∀ q,q<n->∃ j:Nat,cv[q]? =z.toList[j]?):∀ u∈cv,u.oneCell'=true:=λ u d=>by obtain ⟨q,b⟩:=Da d;obtain ⟨j,a⟩:=c q (by grind);rw [b] at a;exact Cb.1 h u (Az a.symm)
def FM{a:aa}(h:HT a=true):a≠ .undef:=λ e=>by subst e;cases h
def aGP(hE:ae E)(hm:Mem M ob ac w){t ty:TypeId}{v:Value}{d:aa}(l:Rep M ob v d):PM E.P M ob w (Jw #[t] ty #[v]) ac base (XU E (aB ac) t d):=by
 unfold XU;split
 .rename_i e esz eb _ _ _ hT;obtain ⟨⟨F,i,z,Y,B,J,hz,r,hz1⟩,_⟩:=(hE.tab t _ hT).kind;subst B J;split
  .rename_i A R;refine sdc λ hp=>?_;obtain ⟨U,H⟩:=bD hp;have j:0<i.size:=Cu U;obtain ⟨i',z',x,hsz',p,W,G,s,hne⟩:=(hE.tab e A R).info;rw [Y] at x;cases x;rw [hz] at p;cases p;split
   .rename_i k g lo len sz;split
    .rename_i g' sz' e' xs D;refine sdc λ hg=>?_;obtain ⟨y,O⟩:=bD hg;obtain ⟨N,K⟩:=bD y;obtain rfl:=aE N;have q3:=aE O;have q2:=aE K;subst q2;subst q3;have m:=cR D s_;obtain ⟨hs0,v0,e1,e2,e3,e4,o,_⟩:=hm.rowOf m;have Q:∀ {S n c},at' ob k g=some (.slice S n c)->n=xs.length:=λ{S n c} f=>by rw [f] at e4;cases e4;rcases o.len with ⟨q,rfl⟩ | ⟨b,cap,q,_⟩<;>cases q<;>rfl
     have same:len=0->ac.set k (.row g i.size e' (xs.take lo++Aj len (ah (λ_=>.dead) 4 A.zero)++xs.drop (lo+len)))=ac:=λ h=>by subst h;rw [List.replicate_zero,vK];exact iM m
     cases l with
     | sub _ _ _ _ _ b n c f hl hn hc hmm=>
      have:=Q f;by_cases h0:len=0
      .refine ⟨.tuple #[],w,M,ob,?_,?_⟩
       .subst h0;simp [Jw,run_underlying F]
       .rw [aU m,same h0];exact ⟨Ext.refl _ _ _ _,hm,dB.refl _ _,.tup [] [] rfl λ i v a l=>by simp at l⟩
      .have I:=hm.pure0 G;obtain ⟨T,C⟩:=xZ (z:=z.cells) (n:=len);rw [r] at T C;have u:ah (λ_=>.dead) 4 A.zero≠ .undef:=FM H;obtain ⟨r1,r2⟩:=CT (M:=M) I u r j T C;obtain ⟨w',s1,X,V,Z⟩:=hm.rowSplice (P:=E.P) (ys:=Aj len (ah (λ_=>.dead) 4 A.zero)) (i:=lo) (news:=(Cp z.cells len).toList) m f j q_ r1 q_ (aBk s T λ q hq=>⟨_,C q hq⟩) r2;rw [Fu] at X V Z;refine ⟨.tuple #[],w',M,ob,?_,?_⟩
       .have L:(zeroValue e).run E.P w= .ok z w:=by simp [zeroValue,typeInfo,Y,hz]
        cases len with
        | zero=>omega
        | succ len=>simp [Jw,run_underlying F,L,s1]
       .rw [aU m];exact ⟨V,X,Z,.tup [] [] rfl λ i v a l=>by simp at l⟩
     | sub0 _ _ _ _ S a' n c f hl hc=>
      refine ⟨.tuple #[],w,M,ob,?_,?_⟩
      .cases a'<;>simp [Jw,run_underlying F]
      .rw [aU m,same rfl];exact ⟨Ext.refl _ _ _ _,hm,dB.refl _ _,.tup [] [] rfl λ i v a l=>by simp at l⟩
    .exact trivial
   .exact trivial
  .exact trivial
 .exact trivial
def aKL(hE:ae E)(hm:Mem M ob ac w)(x:ac[base]? =some .dead)(y:ob[base]? =some []){t:TypeId}{I G:Value}{n c:aa}(U:Rep M ob I n)(O:Rep M ob G c){hint:Nat}:
  PM E.P M ob w (Instr.makeSlice t I G) ac base (aA1 E hint base t n c):=by
 unfold aA1;split
 .rename_i e X eb _ _ _ k a Q b R;obtain ⟨⟨Z,i,z,F,p,A,hz,j,hz1⟩,_⟩:=(hE.tab t _ R).kind;subst p A;split
  .rename_i L s;refine sdc λ hp=>?_;obtain ⟨D,u⟩:=bD hp;have d:0<i.size:=Cu D;obtain ⟨i',z',o,H,l,J,r,h,T⟩:=(hE.tab e L s).info;rw [F] at o;cases o;rw [hz] at l;cases l;obtain ⟨rfl,_⟩:=U.int_inv;obtain ⟨rfl,_⟩:=O.int_inv;rintro m rfl ⟨rfl,S,c3⟩;have V:=jG;have f:=run_make (P:=E.P) w t e i z Z F hz k Q (m:Int) (m:Int) o_ (Dc _) S o_;rw [Br] at f;have v:=hm.pure0 r;obtain ⟨K,C⟩:=KJ (z:=z.cells) (n:=m*i.size) o_;rw [j] at C;obtain ⟨Y,N⟩:=CT (M:=M) v (FM u) j d K C;have g:=Grown.ofAlloc (M:=M) (w:=w) (e:=e) (xs:=Aj m (ah (λ_=>.dead) 4 L.zero)) (cv:=(madeCells z.cells (m*i.size)).toList) d q_ (aBk h K λ q W=>⟨_,C q W⟩) Y q_ N;have B:(madeCells z.cells (m*i.size)).toList.toArray=madeCells z.cells (m*i.size):=by simp
   rw [B,Fu] at g;exact tM (hint:=2) hm x y f g
  .exact trivial
 .exact trivial
def aA7:∀ (new l:ay),new.length<=l.length->∃ r,YB new l=some r
 | [],l,_=>⟨l,rfl⟩
 | _::_,[],h=>by simp at h
 | c::new,d::l,h=>by obtain ⟨r,a⟩:=aA7 new l (by grind);exact ⟨c::r,by simp [YB,a]⟩
def M7:∀ (off:Nat) (new l:ay),off+new.length<=l.length->∃ r,qO off new l=some r
 | 0,new,l,h=>by obtain ⟨r,a⟩:=aA7 new l o_;exact ⟨r,by simpa [qO] using a⟩
 | n+1,new,[],h=>by simp at h
 | n+1,new,c::l,h=>by obtain ⟨r,a⟩:=M7 n new l (by grind);exact ⟨c::r,by simp [qO,a]⟩
def RZ(og:Nat->ab)(l:ar):ar:=l.map λ p=>(p.1,ah og 4 p.2)
def PT(og:Nat->ab)(d:Nat):∀ {b:ar} {n:Nat} {xs:ay} {base:ay},I5 og d n b=some xs->(n+b.length)*d<=base.length->
  ∃ cs',I4 (λ i=>some (i*d,d)) base (RZ og b)=some cs'/\cs'.length=base.length/\(∀ o,o<n*d->cs'[o]? =base[o]?)/\xs.length=b.length/\
   (∀ x∈xs,x.cells.length=d/\sW x.cells=true)/\∀ (i j:Nat) x c,xs[i]? =some x->x.cells[j]? =some c->cs'[(n+i)*d+j]? =some c:=by
 intro b;induction b with
 | nil=>intro n xs base h hl;cases h;exact ⟨base,rfl,rfl,λ_ _=>rfl,rfl,λ x e=>by simp at e,λ i j x c e=>by simp at e⟩
 | cons p b K=>
  intro n xs base h hl;obtain ⟨i,F⟩:=p;simp only [I5] at h
  obtain ⟨v,y⟩:∃ v,ah og 4 F=v:=⟨_,rfl⟩
  rw [y] at h;obtain ⟨t,q⟩:=fW h;simp only [Af] at t;obtain ⟨⟨H,w⟩,A⟩:=t;have D:=aE H;subst D;have hz:=aE w;rw [B5] at hz;cases r:I5 og d (i+1) b with
  | none=>simp [r] at q
  | some l=>
   simp only [r,Dy] at q;subst q;have g:(i+1)*d<=base.length:=by refine Dh (Cc _ ?_) hl;simp
   rw [Cg,Hb] at g;obtain ⟨G,f⟩:=M7 (i*d) v.cells base o_;obtain ⟨O,B,u⟩:=nI f;obtain ⟨cs',s,L,z,J,I,C⟩:=K (base:=G) r (by rw [B];refine Dh (Nat.le_of_eq ?_) hl;simp;congr 1;omega);have m:HT v=true:=by cases v<;>first | rfl | (simp [aa.cells,sW,AW.one] at A)
   refine ⟨cs',by
    unfold RZ at s⊢
    simp only [Bj,I4,y,m,w,Bool.and_self,cond_true,f,s],L.trans B,λ o N=>?_,by simp [J],λ x e=>?_,λ a j x c e k=>?_⟩
   .rw [z o (by rw [Cg];omega),u o,if_neg o_]
   .rcases Aw.1 e with rfl | e
    .exact ⟨hz,A⟩
    .exact I x e
   .cases a with
    | zero=>
     simp at e;subst e;have M:j<d:=by rw [<-hz];exact (Ad.1 k).1
     rw [Fx,z _ (by rw [Cg];omega),u,if_pos o_,Gu];exact k
    | succ a=>
     have:=C a j x c (by simpa using e) k;rw [show i+(a+1)=i+1+a from by omega];exact this
def aJb(l:ar):aES l=l.length:=by induction l with
 | nil=>rfl
 | cons a r b=>simp [aES,b]
def KO(hE:ae E)(hm:Mem M ob ac w)(K:ac[base]? =some .dead)(T:ob[base]? =some []){hint:Nat}{t:TypeId}{len:Nat}{h:ar}{vparts:Array (Nat×Value)}(hl:JX M ob vparts.toList h):
  PM E.P M ob w (Kf t len vparts) ac base (pW E hint base (aB ac) t len h):=by
 unfold pW;split
 .rename_i e b eb _ _ _ hT;obtain ⟨⟨hu,ie,z,Y,hs,hb,hz,hzs,_⟩,_⟩:=(hE.tab t _ hT).kind;refine sdc λ hg=>?_;simp only [Af] at hg;obtain ⟨⟨g1,g2⟩,g3⟩:=hg;have B:=aE g1;rw [aJb] at B;have J:len*b<=1000:=Cu g2;have k:1<=b:=Cu g3;split
  .rename_i xs L
   let f:Array Value:=if len*b=0 then #[] else (Kw (len*b)).map (z.cells[· % z.cells.size]!)
   have A:f.size=len*b:=by show (if len*b=0 then (#[]:Array Value) else (Kw (len*b)).map (z.cells[· % z.cells.size]!)).size=_;split<;>simp [*]
   obtain ⟨cs',e1,e2,_,e4,R,e6⟩:=PT (aB ac) b (base:=Aj (len*b) .undef) L (by simp [B])
   have H:cM M [] f.toList (Aj (len*b) aa.undef):=⟨by simp [A],λ i v a _ ha=>by
    have:a= .undef:=(Gn.1 (Az ha)).2;subst this
    exact .undef _⟩
   have I:JX M [] vparts.toList (RZ (aB ac) h):=⟨by unfold RZ;rw [Cm];exact hl.1,λ i p q hp S=>by
    unfold RZ at S;rw [Bi] at S;obtain ⟨q',N,rfl⟩:=Co.1 S;obtain ⟨a1,a2⟩:=hl.2 i p q' hp N
    exact ⟨a1,hm.pureV 4 _ _ a2⟩⟩
   obtain ⟨d,Z,V⟩:=zA (place:=λ i=>some (i*b,b)) (λ i p hp=>hp) e1 H I;have o:(Kf t len vparts).run E.P w= .ok (.slice (some ⟨w.heap.size,0,Nn⟩) len len) (w.alloc (.cells d e)):=by
    have O:(E.P.info? e).map (·.size)=some b:=by simp [Y,hs]
    unfold Kf;simp only [Bk,run_underlying hu,Au,af O];rw [if_neg o_];have U:(zeroValue e).run E.P w= .ok z w:=by simp [zeroValue,typeInfo,Y,hz]
    by_cases G:len*b=0
    .have r:(Kw (len*b)).map ((#[]:Array Value)[· % (#[]:Array Value).size]!)=f:=by
      show _=(if len*b=0 then (#[]:Array Value) else (Kw (len*b)).map (z.cells[· % z.cells.size]!))
      rw [if_pos G,G];simp
     rw [if_pos G];simp only [Bk,Ci,Au];rw [r,Z];rfl
    .have r:(Kw (len*b)).map (z.cells[· % z.cells.size]!)=f:=by
      show _=(if len*b=0 then (#[]:Array Value) else (Kw (len*b)).map (z.cells[· % z.cells.size]!))
      simp
     rw [if_neg G];simp only [Bk,Ci,Au,U];rw [r,Z];rfl
   have m:xs.length=len:=by rw [e4,B]
   have s:d.toList.length=xs.length*b:=by rw [V.1,e2];simp;rw [m]
   have l:∀ (j:Nat) c,aP b xs j=some c->cs'[j]? =some c/\AW.one c=true:=by intro j c C;obtain ⟨y,hy,F⟩:=iW C;have:=e6 _ _ y c hy F;rw [Bx,Dn,Gg] at this;obtain ⟨_,h1⟩:=R y (Az hy);exact ⟨this,oG h1 _ c F⟩
   have D:∀ u∈d.toList,u.oneCell'=true:=λ u W=>by
    obtain ⟨j,hj⟩:=Da W;have n:j<xs.length*b:=by rw [<-s];exact (Ad.1 hj).1
    obtain ⟨c,C⟩:=DQ k (λ x Q=>(R x Q).1) n;obtain ⟨h1,h2⟩:=l j c C;exact (V.2 j u c hj h1).one h2
   have g:=Grown.ofAlloc (M:=M) (w:=w) (e:=e) (xs:=xs) (cv:=d.toList) k s D (λ x Q=>(R x Q).1) (by rw [m];unfold maxLen;have:len*1<=len*b:=Nat.mul_le_mul_left _ k;omega) (λ q c C=>by
    obtain ⟨h1,_⟩:=l q c C;have n:q<d.toList.length:=by rw [s];exact hC k C
    exact ⟨_,Ac n,V.2 q _ c (Ac n) h1⟩)
   have X:d.toList.toArray=d:=by simp
   rw [X,m] at g;split
   .exact MB hm o g ⟨_,len,rfl⟩
   .exact tM hm K T o g
  .exact trivial
 .exact trivial
def SP(hm:Mem M ob ac w)(b:ac[base]? =some .dead)(e:ob[base]? =some []){t:TypeId}{v:Value}{a:aa}(h:Rep M ob v a)(h1:sW a.cells=true):
  PM P M ob w (do Pure.pure (.pointer (some (<-newVar t v))):Sem Value) ac base (.born (.cells t a.cells) (.ref base 0)):=by
 obtain ⟨hl,c,f⟩:=h.cells_one h1;obtain ⟨i,g,k,j⟩:=hm.bornCells b e t hl c f;have d:v.cells.toList.toArray=v.cells:=by simp
 rw [d] at i g;refine ⟨.pointer (some ⟨w.heap.size,0,Nn⟩),w.alloc (.cells v.cells t),M,ob.set base [.pointer (some ⟨w.heap.size,0,Nn⟩)],?_,?_⟩
 .rfl
 .rw [aU b]
  grind
end
section
variable {P:Program} {E:Env} {M:Imm} {ob:Hs} {ac:au} {w:World} {base:Nat}
def aLK(P:Program)(k:Nat)(a:Bool)(n:Nat):Prop:=(a=false/\n=1/\P.underlying k=some (.int .i64))\/(a=true/\(P.underlying k).isSome=true/\QE P k n)
def L5:∀ {cs:ay} {l:ax},S9 cs=some l->cs=l.map (aa.int .i64)
 | [],l,h=>by cases h;rfl
 | c::r,l,h=>by
  cases c<;>first | (simp [S9] at h;done) | skip
  rename_i k n;cases k<;>first | (simp [S9] at h;done) | skip
  cases a:S9 r with
  | none=>simp [S9,a] at h
  | some q=>
   simp only [S9,a,Dy] at h;subst h;simp [L5 a]
def C1(hE:ae E){k:Nat}{e:Bool}{a:aa}{l:ax}{v:Value}(h:LZ E k e a=some l)(m:Rep M ob v a):v=iJ e l/\aLK E.P k e l.length:=by
 cases e with
 | false=>
  simp only [LZ] at h;split at h
  .rename_i f;split at h
   .cases h;have p:=(hE.tab _ _ f).kind.1;exact ⟨m.int_inv.1,.inl ⟨rfl,rfl,p⟩⟩
   .cases h
  .cases h
 | true=>
  simp only [LZ] at h;split at h
  .rename_i t f;have j:=(hE.tab _ _ f).kind.isAgg.1;split at h
   .rename_i cs;split at h
    .rename_i s b;obtain ⟨h1,r⟩:=fW h;cases r;obtain ⟨h3,o⟩:=bD h1;have g:=L5 b;subst g;obtain ⟨vs,rfl,hl,q⟩:=m.agg_inv;have d:l.length=EZ E.fl k:=by
      have:=aE o;rw [B5] at this
      grind
     refine ⟨?_,.inr ⟨rfl,j,?_⟩⟩
     .simp only [iJ,if_true];congr 2;refine Ek λ i=>?_;rw [Bi];cases b:l[i]? with
      | none=>
       have:=List.getElem?_eq_none_iff.1 b;rw [Bm (by grind)];rfl
      | some n=>
       have c:i<vs.length:=by have:=(Ad.1 b).1;rw [hl];simp;omega
       have:=q i _ (.int .i64 n) (Ac c) (by simp [b]);rw [Ac c,this.int_inv.1];rfl
     .rw [d];exact (hE.fl k (by simpa [Kb] using h3)).2
    .cases h
   .cases h
  .cases h
def tE:∀ {es:List (ax×aa)} {key:ax},(∀ y∈es,y.1≠key)->cG es key=none/\(∀ v,oJ es key v=es++[(key,v)])/\KH es key=es
 | [],key,_=>⟨rfl,λ_=>rfl,rfl⟩
 | (k,x)::r,key,h=>by obtain ⟨h1,c,h3⟩:=tE (es:=r) (key:=key) λ y b=>h y (by simp [b]);have a:¬ k=key:=h (k,x) s_;exact ⟨by simp [cG,a,h1],λ v=>by simp [oJ,a,c],by simp [KH,a,h3]⟩
def A4:∀ {es:List (ax×aa)} {key:ax} {j:Nat} {y:ax×aa},es[j]? =some y->y.1=key->(∀ (i:Nat) b,i<j->es[i]? =some b->b.1≠key)->
  cG es key=some y.2/\(∀ v,oJ es key v=es.set j (key,v))/\KH es key=es.eraseIdx j
 | [],key,j,y,h,_,_=>by simp at h
 | (k,x)::r,key,0,y,h,a,_=>by
  simp only [Md,Dy] at h;subst h;have a:k=key:=a;exact ⟨by simp [cG,a],λ v=>by simp [oJ,a],by simp [KH,a]⟩
 | (k,x)::r,key,j+1,y,h,a,hb=>by obtain ⟨h1,d,h3⟩:=A4 (es:=r) (key:=key) (j:=j) (y:=y) (by simpa using h) a λ i b f e=>hb (i+1) b o_ q_;have c:¬ k=key:=hb 0 (k,x) o_ rfl;exact ⟨by simp [cG,c,h1],λ v=>by simp [oJ,c,d],by simp [KH,c,h3]⟩
def KV(b:Bool)(n:Nat)(a:List MapEntry)(es:List (ax×aa)):Prop:=a.length=es.length/\∀ (i:Nat) x y,a[i]? =some x->es[i]? =some y->x.key=iJ b y.1/\y.1.length=n
def KV.tail{c:Bool}{n:Nat}{x:MapEntry}{y:ax×aa}{d:List MapEntry}{es:List (ax×aa)}(h:KV c n (x::d) (y::es)):KV c n d es:=
 ⟨by simpa using h.1,λ i a b f e=>h.2 (i+1) a b (by grind) (by grind)⟩
def KV.cons{a:Bool}{n:Nat}{x:MapEntry}{b:List MapEntry}{es:List (ax×aa)}(h:KV a n (x::b) es):∃ y r,es=y::r/\x.key=iJ a y.1/\y.1.length=n/\KV a n b r:=by
 cases es with
 | nil=>have:=h.1;simp at this
 | cons y r=>exact ⟨y,r,rfl,(h.2 0 x y rfl rfl).1,(h.2 0 x y rfl rfl).2,h.tail⟩
def EJ(key:ax)(a:List MapEntry)(es:List (ax×aa))(o:Nat)(r:Option (Nat×Value)):Prop:=
 (r=none/\∀ y∈es,y.1≠key)\/∃ j x y,r=some (o+j,x.val)/\a[j]? =some x/\es[j]? =some y/\y.1=key/\∀ (i:Nat) y',i<j->es[i]? =some y'->y'.1≠key
def EJ.there{key:ax}{x:MapEntry}{y:ax×aa}{a:List MapEntry}{es:List (ax×aa)}{o:Nat}(h:y.1=key):EJ key (x::a) (y::es) o (some (o,x.val)):=
 .inr ⟨0,x,y,rfl,rfl,rfl,h,λ i _ b=>by omega⟩
def EJ.on{key:ax}{x:MapEntry}{y:ax×aa}{a:List MapEntry}{es:List (ax×aa)}{o:Nat}{r:Option (Nat×Value)}(c:y.1≠key)(h:EJ key a es (o+1) r):EJ key (x::a) (y::es) o r:=by
 rcases h with ⟨h1,f⟩ | ⟨j,x',d,h1,f,h3,e,b⟩
 .exact .inl ⟨h1,λ z hz=>by grind⟩
 .refine .inr ⟨j+1,x',d,by grind,by simp;omega,by simp;omega,e,λ i z g hz=>?_⟩;cases i with
  | zero=>simp at hz;grind
  | succ i=>exact b i z o_ (by simpa using hz)
def EB(a:Int):∀ (d:List MapEntry) (es:List (ax×aa)) (o:Nat),KV false 1 d es->∃ r,Lv (.int .i64) (.int .i64 a) d o=some r/\EJ [a] d es o r
 | [],es,o,h=>⟨none,rfl,.inl ⟨rfl,λ y m=>by
   have:es=[]:=Bc (by have:=h.1;grind)
   grind⟩⟩
 | x::d,es,o,h=>by
  obtain ⟨y,r,rfl,h1,f,h3⟩:=h.cons;obtain ⟨k,v⟩:=y;have f:k.length=1:=f
  match k,f with
  | [b],_=>
   have i:x.key= .int .i64 b:=h1;simp only [Lv,i,Instr.sameNow,if_true];by_cases c:a=b
   .subst c;simp only [beq_self_eq_true];exact ⟨_,rfl,.there rfl⟩
   .have:(a==b)=false:=by grind
    rw [this];obtain ⟨l,g,j⟩:=EB a d r (o+1) h3;exact ⟨l,g,.on (λ e=>c (by cases e;rfl)) j⟩
def uF{k:Nat}{n:Nat}(f:QE P k n){key:ax}(d:key.length=n):∀ (b:List MapEntry) (es:List (ax×aa)) (o:Nat),KV true n b es->∃ r,(Kh k (iJ true key) b o).run P w= .ok r w/\EJ key b es o r
 | [],es,o,h=>⟨none,by rfl,.inl ⟨rfl,λ y m=>by
   have:es=[]:=Bc (by have:=h.1;grind)
   grind⟩⟩
 | x::b,es,o,h=>by
  obtain ⟨y,r,rfl,h1,i,h3⟩:=h.cons;have a:=(f w key y.1 d i).1;rw [<-h1] at a;by_cases c:key=y.1
  .rw [decide_eq_true c] at a;exact ⟨_,by simp [Kh,a],.there c.symm⟩
  .rw [decide_eq_false c] at a;obtain ⟨l,g,j⟩:=uF f d b r (o+1) h3;exact ⟨l,by simp [Kh,a,g],.on (λ e=>c e.symm) j⟩
def vN{k:Nat}{g:Bool}{n:Nat}(j:aLK P k g n){key:ax}(i:key.length=n){b:List MapEntry}{es:List (ax×aa)}(h:KV g n b es):
  ∃ r,(Lw k (iJ g key) b).run P w= .ok r w/\EJ key b es 0 r:=by
 rcases j with ⟨rfl,rfl,f⟩ | ⟨rfl,l,m⟩
 .match key,i with
  | [a],_=>
   obtain ⟨r,c,e⟩:=EB a b es 0 h;exact ⟨r,by simp [Lw,run_underlying f,iJ,c],e⟩
 .obtain ⟨r,c,e⟩:=uF (w:=w) m i b es 0 h;cases f:P.underlying k with
  | none=>grind
  | some d=>
   cases b with
   | nil=>simp [Kh] at c;subst c;exact ⟨none,by simp [Lw,run_underlying f,Lv],e⟩
   | cons x b=>
    obtain ⟨y,p,rfl,h1,o,h3⟩:=h.cons;refine ⟨r,?_,e⟩;have hs:Instr.sameNow d (iJ true key) x.key=none:=by rw [h1];simp only [iJ,if_true];cases d<;>rfl
    simp only [Lw,Bk,run_underlying f,Au,Lv,hs];exact c
def N7{k:Nat}{a:Bool}{n:Nat}(e:aLK P k a n){key:ax}(c:key.length=n)(b:Bool):(Ia b 10000 k (iJ a key)).run P w= .ok () w:=by
 rcases e with ⟨rfl,rfl,g⟩ | ⟨rfl,d,f⟩
 .rw [show (10000:Nat)=9999+1 from rfl,Ia];simp only [Bk,run_underlying g,Au,iJ,Cr,if_false,Ci]
 .exact (f w key key c c).2 b
def Mem.mpOf(hm:Mem M ob ac w){j:Nat}{a:Bool}{es:List (ax×aa)}(f:aB ac j= .mp a es){v:Value}(h:Rep M ob v (.mref j)):
  ∃ b,v= .map (some b)/\ob[j]? =some [.map (some b)]/\ac[j]? =some (.mp a es)/\(∀ o,NoM M b o)/\aC4 M w b a es:=by
 cases h with
 | mref _ b c=>
  have g:=cR f s_;obtain ⟨hs,d,e,i,l,k⟩:=hm.obj j _ g;have:e=b:=by rw [cL d,i] at c;simp_all
  subst this;simp_all
def aC4.enOK{b:Nat}{a:Bool}{es:List (ax×aa)}{n:Nat}{e:List MapEntry}(hl:e.length=es.length)(h:∀ (i:Nat) x y,e[i]? =some x->es[i]? =some y->x.key=iJ a y.1/\(a=false->y.1.length=1)/\Rep M [] x.val y.2)
  (g:(a=false/\n=1)\/(a=true/\∀ p∈es,p.1.length=n)):KV a n e es:=
 ⟨hl,λ i x y f c=>⟨(h i x y f c).1,by
  rcases g with ⟨h1,d⟩ | ⟨_,d⟩
  .rw [d];exact (h i x y f c).2.1 h1
  .exact d y (Az c)⟩⟩
def N2{VS:aa->au->Prop}{CS:Fn->ay->Prop}{PS:aa->Prop}{a:Bool}{es:List (ax×aa)}{key:ax}{r:OR}{k:Nat}(b:aLK P k a key.length)
  (h:(a=false/\key.length=1)\/(a=true/\∀ p∈es,p.1.length=key.length)->Sd VS CS PS ac base r):Sd VS CS PS ac base (FN a es key r):=by
 rcases b with ⟨rfl,c,_⟩ | ⟨rfl,_⟩
 .exact h (.inl ⟨rfl,c⟩)
 .exact λ hp=>h (.inr ⟨rfl,hp⟩)
def Rep.pairB{v:Value}{a:aa}(h:Rep M ob v a)(b:Bool):Rep M ob (.tuple #[v,.bool b]) (.tup [a,.bool b]):=by
 refine .tup [v,.bool b] _ rfl λ i q c d e=>?_;rcases i with _ | _ | i
 .grind
 .simp at d e;subst d e;exact .bool b
 simp_all
def aCB(hE:ae E)(hm:Mem M ob ac w){t:Nat}{D kv:Value}{m k:aa}(A:Rep M ob D m)(s:Rep M ob kv k)(ok:Bool):
  PS0 E.P M ob w (Ml t D kv ok) ac base (PO E (aB ac) t m k ok):=by
 unfold PO;split
 .rename_i Q e _ _ _ j I;have h:=(hE.tab _ _ I).kind.1;split
  .rename_i R O es p C;split
   .rename_i key f;obtain ⟨rfl,d⟩:=C1 hE f s;refine N2 d λ L=>?_;obtain ⟨b,rfl,_,_,_,S,u,G,hl,l,_⟩:=hm.mpOf C A;obtain ⟨r,H,v⟩:=vN (w:=w) d rfl (aC4.enOK (b:=b) hl l L);have a:=λ N=>N7 (w:=w) d rfl N;obtain ⟨i,z,K,_,hz,_,g,_⟩:=(hE.tab _ _ p).info;have B:(zeroValue e).run E.P w= .ok z w:=by simp [zeroValue,typeInfo,K,hz]
    rcases v with ⟨rfl,v⟩ | ⟨q,x,y,rfl,J,F,o,n⟩
    .rw [Sd.eq_def];simp only;rw [(tE v).1];refine ⟨rfl,if ok then .tuple #[z,.bool false] else z,?_,?_⟩
     .simp only [Ml,Bk,run_underlying h,Au,MapKept.run_getObj_map G,a,H,B,Ci]
     .cases ok with
      | true=>exact (mU g).pairB false
      | false=>exact mU g
    .rw [Sd.eq_def];simp only;rw [(A4 F o n).1];have c:=(l q x y J F).2.2.pure (ob:=ob);refine ⟨rfl,if ok then .tuple #[x.val,.bool true] else x.val,?_,?_⟩
     .simp only [Ml,Bk,run_underlying h,Au,MapKept.run_getObj_map G,a,H,Ci]
     .cases ok with
      | true=>exact c.pairB true
      | false=>exact c
   .exact trivial
  .exact trivial
 .exact trivial
abbrev N1(w:World)(b:Nat)(o:Obj):World:={w with heap:=w.heap.setIfInBounds b o}
def aBG{b:Nat}{o a:Obj}(h:w.heap[b]? =some a):(N1 w b o).heap[b]? =some o:=by have:=gL h;simp_all
def GW{b c:Nat}{o:Obj}(h:c≠b):(N1 w b o).heap[c]? =w.heap[c]?:=by grind
def Mem.mpTurn(h:Mem M ob ac w){j b f clock':Nat}{d:Bool}{es es':List (ax×aa)}{F:Array MapEntry}{en':List MapEntry}(v:ac[j]? =some (.mp d es))(r:ob[j]? =some [.map (some b)])(k:∀ o,NoM M b o)(q:w.heap[b]? =some (.map F f))
  (hl:en'.length=es'.length) (C:∀ (i:Nat) x y,en'[i]? =some x->es'[i]? =some y->x.key=iJ d y.1/\(d=false->y.1.length=1)/\Rep M [] x.val y.2)
  (h1:∀ (i:Nat) x,en'[i]? =some x->x.born<clock') (B:∀ (i j:Nat) x y,en'[i]? =some x->en'[j]? =some y->x.born=y.born->i=j):
  Mem M ob (ac.set j (.mp d es')) (N1 w b (.map en'.toArray clock'))/\Ext M ob ac w M ob (ac.set j (.mp d es')) (N1 w b (.map en'.toArray clock'))/\dB ob ac ob (ac.set j (.mp d es')):=by
 have m:=iM (l:=ob) r
 have:=h.turn (M':=M) (w':=N1 w b (.map en'.toArray clock')) (x':=.mp d es') (hs':=[.map (some b)]) v r (Cw _) (λ e=>by cases e) (λ_ _ _ h=>h) (λ_ _ _ h=>.inl h) (λ c o y p=>by
   obtain ⟨u,D,z,s⟩:=h.imm c o y p;have n:c≠b:=λ e=>by subst e;exact k o y p
   exact ⟨u,(Cy (w:=w) (a:=⟨c,o,none⟩) (GW n)).trans D,z,s⟩)
  (λ c _ A=>GW λ e=>A ⟨rfl,by subst e;exact eX.2 rfl⟩) rfl rfl rfl s_ (λ t=>⟨b,rfl,k,en',clock',aBG q,hl,C,h1,B⟩)
  (λ_ c g=>⟨.inl ⟨rfl,g⟩,by
   have:b=c:=eX.1 g;subst this;have:=gL q
   simp;omega⟩)
 rw [m] at this;exact this
def yC:∀ (n:Nat) (l:ax),(((l.map (Ej .i64)).zip (l.map (Ej .i64))).all λ(x,y)=>Jx n x y)=true
 | n,[]=>rfl
 | n,a::r=>by simp only [Bj,List.zip_cons_cons,Kj,yC n r,Em];cases n<;>simp [Jx]
def N4(n:Nat)(a:Bool)(l:ax):Jx (n+1) (iJ a l) (iJ a l)=true:=by
 cases a with
 | false=>simp [iJ,Jx]
 | true=>
  simp only [iJ,if_true,Jx,beq_self_eq_true,Bw];exact yC n l
def aJz{a:List MapEntry}{q:Nat}{x:MapEntry}(d:a[q]? =some x)(f:MapEntry->MapEntry):a.toArray.modify q f=(a.set q (f x)).toArray:=by
 apply Ea;simp only [Array.toList_modify];refine Ek λ i=>?_;rw [List.getElem?_modify,Ho];have b:=(Ad.1 d).1;by_cases c:q=i
 .grind
 .simp [c]
def RG:Rep M ob (.tuple #[]) (.tup []):=.tup [] [] rfl λ i v a h=>by simp at h
def aGJ(hE:ae E)(hm:Mem M ob ac w){t:Nat}{mv kv C:Value}{m k v:aa}(Y:Rep M ob mv m)(hkv:Rep M ob kv k)(hvv:Rep M ob C v):
  Sd (VU E.P M ob ac w (Lb t mv kv C)) (λ_ _=>False) (λ_=>False) ac base (XR E (aB ac) t m k v):=by
 unfold XR;split
 .rename_i kt _ _ _ _ j hT;have U:=(hE.tab _ _ hT).kind.1;split
  .rename_i p es Z;split
   .rename_i key T;obtain ⟨rfl,I⟩:=C1 hE T hkv;have z:=hm.pureV 4 C v hvv;generalize ah (aB ac) 4 v=v' at z;refine sdc λ_=>N2 I λ hn=>?_;have N:p=false->key.length=1:=λ e=>by grind
    obtain ⟨b,rfl,O,n,S,l,f,K,hl,D,hst,H⟩:=hm.mpOf Z Y;obtain ⟨r,hr,hf⟩:=vN (w:=w) I rfl (aC4.enOK (b:=b) hl D hn);have G:=λ em=>N7 (w:=w) I rfl em;rcases hf with ⟨rfl,hf⟩ | ⟨q,x,y,rfl,J,hy,V,L⟩
    .have A:=(tE hf).2.1 v'
     have:=hm.mpTurn (es':=es++[(key,v')]) (en':=l++[⟨iJ p key,C,f⟩]) (clock':=f+1) n O S K (by simp [hl]) (λ i a c d u=>by
       by_cases g:i<l.length
       .rw [Ah g] at d;rw [Ah o_] at u;exact D i a c d u
       .rw [Al o_] at d;rw [Al o_] at u;have s:i-l.length=0:=by have:=(Ad.1 d).1;simp at this;omega
        rw [s] at d;rw [<-hl,s] at u;simp at d u;subst d u
        exact ⟨rfl,N,z⟩) (λ i a d=>by
       by_cases g:i<l.length
       .rw [Ah g] at d;have:=hst i a d;omega
       .rw [Al o_] at d;have s:i-l.length=0:=by have:=(Ad.1 d).1;simp at this;omega
        rw [s] at d;simp at d;subst d
        simp) (λ i Q a a' d h B=>by
       have o:∀ {i:Nat} {a:MapEntry},¬ i<l.length->(l++[⟨iJ p key,C,f⟩])[i]? =some a->i=l.length/\a.born=f:=λ{i a} g d=>by
        rw [Al o_] at d;have s:i-l.length=0:=by have:=(Ad.1 d).1;simp at this;omega
        rw [s] at d;simp at d;subst d;simp;omega
       by_cases g:i<l.length<;>by_cases F:Q<l.length
       .rw [Ah g] at d;rw [Ah F] at h;exact H i Q a a' d h B
       .rw [Ah g] at d;have:=hst i a d;have:=(o F h).2;omega
       .rw [Ah F] at h;have:=hst Q a' h;have:=(o g d).2;omega
       .have:=(o g d).1;have:=(o F h).1
        omega)
     refine ⟨rfl,N1 w b (.map (l++[(⟨iJ p key,C,f⟩:MapEntry)]).toArray (f+1)),M,ob,?_,?_⟩
     .simp only [Lb,Bk,run_underlying U,Au,MapKept.run_getObj_map K,G,hr,MapKept.run_setObj_map _ K];simp
     .rw [A,aU n];exact ⟨this.2.1,this.1,this.2.2⟩
    .have A:=(A4 hy V L).2.1 v';have hxk:=(D q x y J hy).1;have hql:=(Ad.1 J).1
     have:=hm.mpTurn (es':=es.set q (key,v')) (en':=l.set q ⟨iJ p key,C,x.born⟩) (clock':=f) n O S K (by simp [hl]) (λ i a c d u=>by
       rw [Ho] at d u;by_cases g:q=i
       .rw [if_pos g] at d u;subst g;rw [if_pos hql] at d;rw [if_pos o_] at u;cases d;cases u;exact ⟨rfl,N,z⟩
       .rw [if_neg g] at d u
        exact D i a c d u) (λ i a d=>by
       rw [Ho] at d;by_cases g:q=i
       .rw [if_pos g,if_pos o_] at d;cases d;exact hst q x J
       .rw [if_neg g] at d
        exact hst i a d) (λ i Q a a' d h B=>by
       have W:∀ {i:Nat} {a:MapEntry},(l.set q ⟨iJ p key,C,x.born⟩)[i]? =some a->∃ X,l[i]? =some X/\X.born=a.born:=λ{i a} d=>by
        rw [Ho] at d;by_cases g:q=i
        .rw [if_pos g,if_pos o_] at d;cases d;exact ⟨x,g▸J,rfl⟩
        .rw [if_neg g] at d;exact ⟨a,d,rfl⟩
       obtain ⟨X,g1,g2⟩:=W d;obtain ⟨a0',g1',g2'⟩:=W h
       exact H i Q X a0' g1 g1' o_)
     refine ⟨rfl,N1 w b (.map (l.set q ⟨iJ p key,C,x.born⟩).toArray f),M,ob,?_,?_⟩
     .have R:(((l.toArray[0+q]?).map (·.key)).getD (iJ p key))=iJ p key:=by simp only [Bx,Jz,J,Ms,Kd];rw [hxk,V]
      have hst:(Instr.keyThatStays (iJ p key) (iJ p key)).run E.P w= .ok (iJ p key) w:=by unfold Instr.keyThatStays;rw [show (10000:Nat)=9999+1 from rfl,N4 9999 p key];simp
      simp only [Lb,Bk,run_underlying U,Au,MapKept.run_getObj_map K,G,hr,R,hst,MapKept.run_setObj_map _ K];rw [Bx,aJz J]
     .rw [A,aU n];exact ⟨this.2.1,this.1,this.2.2⟩
   .exact trivial
  .exact trivial
 .exact trivial
def aCA(hE:ae E)(hm:Mem M ob ac w){t Y ty:Nat}{O kv:Value}{m k:aa}(L:Rep M ob O m)(I:Rep M ob kv k):
  PM E.P M ob w (Lc #[t,Y] ty #[O,kv]) ac base (PN E (aB ac) t m k):=by
 unfold PN;split
 .rename_i kt _ _ _ _ j S;have A:=(hE.tab _ _ S).kind.1;split
  .rename_i Z es N;split
   .rename_i key z;obtain ⟨rfl,s⟩:=C1 hE z I;refine N2 s λ V=>?_;obtain ⟨b,rfl,G,e,D,v,d,u,hl,o,hst,g⟩:=hm.mpOf N L;obtain ⟨r,R,K⟩:=vN (w:=w) s rfl (aC4.enOK (b:=b) hl o V);have f:=λ X=>N7 (w:=w) s rfl X;rcases K with ⟨rfl,K⟩ | ⟨q,x,y,rfl,T,U,H,C⟩
    .have:=hm.mpTurn (es':=es) (en':=v) (clock':=d) e G D u hl o hst g;refine ⟨.tuple #[],N1 w b (.map v.toArray d),M,ob,?_,?_⟩
     .simp [Lc,run_underlying A,MapKept.run_getObj_map u,f,R,MapKept.run_setObj_map _ u,Ep]
     .rw [(tE K).2.2,aU e];exact ⟨this.2.1,this.1,this.2.2,RG⟩
    .have J:=(Ad.1 T).1;have F:(v.toArray.eraseIdxIfInBounds q)=(v.eraseIdx q).toArray:=by simp
     have n:∀ {α:Type} (l:List α) (i:Nat),(l.eraseIdx q)[i]? =l[if i<q then i else i+1]?:=λ l i=>by rw [List.getElem?_eraseIdx];split<;>rfl
     have:=hm.mpTurn (es':=es.eraseIdx q) (en':=v.eraseIdx q) (clock':=d) e G D u (by
       rw [Ll J,Ll o_];omega) (λ i a c h Q=>by
       rw [n] at h Q
       exact o _ a c h Q) (λ i a h=>by
       rw [n] at h
       exact hst _ a h) (λ i i' a W h B p=>by
       rw [n] at h B;have:=g _ _ a W h B p
       split at this<;>split at this<;>omega)
     refine ⟨.tuple #[],N1 w b (.map (v.eraseIdx q).toArray d),M,ob,?_,?_⟩
     .simp [Lc,run_underlying A,MapKept.run_getObj_map u,f,R,MapKept.run_setObj_map _ u,Ep,F]
     .rw [(A4 U H C).2.2,aU e];exact ⟨this.2.1,this.1,this.2.2,RG⟩
   .exact trivial
  .exact trivial
 .exact trivial
end
section
variable {P:Program} {E:Env} {M:Imm} {ob:Hs} {ac:au} {w:World} {base:Nat}
def Rep.nilif_inv{v:Value}(h:Rep M ob v .nilif):v= .nilIface:=by cases h;rfl
def FV{ρv:Operand->Value}{ρ:Operand->aa}(h:∀ x,Rep M ob (ρv x) (ρ x)):∀ (l:List Operand),cM M ob (l.map ρv) (evO ρ l)
 | []=>⟨rfl,λ i v a h=>by simp at h⟩
 | x::l=>by
  obtain ⟨h1,e⟩:=FV h l;refine ⟨by simp [AW.evO,h1],λ i v b d c=>?_⟩;cases i with
  | zero=>simp [AW.evO] at d c;grind
  | succ i=>exact e i v b (by simpa using d) (by simpa [AW.evO] using c)
def PF{ρv:Operand->Value}{ρ:Operand->aa}(h:∀ x,Rep M ob (ρv x) (ρ x)):∀ (l:List (Nat×Operand)),JX M ob (l.map λ(p:Nat×Operand)=>(p.1,ρv p.2)) (evL ρ l)
 | []=>⟨rfl,λ i p q h=>by simp at h⟩
 | (n,x)::l=>by
  obtain ⟨h1,b⟩:=PF h l;refine ⟨by simpa [AW.evL] using h1,λ i p q hp a=>?_⟩;cases i with
  | zero=>simp [AW.evL] at hp a;subst hp a;exact ⟨rfl,h x⟩
  | succ i=>exact b i p q (by simpa using hp) (by simpa [AW.evL] using a)
def cM.append{vs us:ba}{as bs:ay}(h:cM M ob vs as)(k:cM M ob us bs):cM M ob (vs++us) (as++bs):=by
 refine ⟨by simp [h.1,k.1],λ i v a b c=>?_⟩;by_cases d:i<vs.length
 .rw [Ah d] at b;rw [Ah (by rw [<-h.1];exact d)] at c;exact h.2 i v a b c
 .rw [Al o_] at b;rw [Al (by rw [<-h.1];omega),<-h.1] at c;exact k.2 _ v a b c
def cM.cons{v:Value}{a:aa}{vs:ba}{as:ay}(h:Rep M ob v a)(k:cM M ob vs as):cM M ob (v::vs) (a::as):=
 cM.append (vs:=[v]) (as:=[a]) ⟨rfl,λ i u b c d=>by cases i with | zero=>grind | succ i=>simp at c⟩ k
def wT(hE:ae E){t:Nat}{v:Value}{a:aa}(h:Rep M ob v a):Rep M ob v (GC E t a):=by
 unfold GC;split
 .split
  .cases h;exact .slnil _ _ rfl
  .exact h
 .exact h
def cS.now{ρv:Operand->Value}{op:Op}{ty:TypeId}{u:Value}{v:aa}(hm:Mem M ob ac w)(b:∀ d pos a g,execOp ρv ⟨d,op,ty,pos,a,g⟩=Pure.pure (.value u))(h:Rep M ob u v):VS P ρv op ty M ob ac w v ac:=
 ⟨u,w,M,ob,λ d pos a g=>.inl (by rw [b];rfl),Ext.refl _ _ _ _,hm,dB.refl _ _,h⟩
def aEb(a:Array TypeId)(t:TypeId)(k b:IntKind)(x y:Int):(Builtin.max_ a t #[.int k x,.int b y]).run P w= .ok (.int k (max x y)) w:=by
 rw [run_max_int2]
 grind
def aEa(a:Array TypeId)(t:TypeId)(k b:IntKind)(x y:Int):(Builtin.min_ a t #[.int k x,.int b y]).run P w= .ok (.int k (min x y)) w:=by
 rw [run_min_int2]
 grind
def OO{ρv:Operand->Value}{ρ:Operand->aa}(h:∀ x,Rep M ob (ρv x) (ρ x))(l:Option Operand):JY M ob (l.map ρv) (l.map ρ):=by
 cases l with
 | none=>exact .inl ⟨rfl,rfl⟩
 | some y=>exact .inr ⟨_,_,rfl,rfl,h y⟩
def zR.notIface{P:Program}{t:Nat}{i:Bool}{size:Nat}{k:TK}(h:zR P t i size k)(j:k≠ .iface):∃ c,P.underlying t=some c/\∀ f,c≠ .interface f:=by
 obtain ⟨a,_⟩:=h.isAgg;obtain ⟨c,d⟩:=Dl.1 a;refine ⟨c,d,λ f e=>?_⟩;subst e;cases k with
 | int k=>have:=h.1;grind
 | bool=>have:=h.1;grind
 | str=>have:=h.1;grind
 | strct m=>obtain ⟨⟨fl,g,_⟩,_⟩:=h;grind
 | arr n s o=>obtain ⟨⟨fl,g,_⟩,_⟩:=h;grind
 | slc e s b=>have:=h.1.1;grind
 | ptr e=>have:=h.1;grind
 | iface=>grind
 | mp k e=>have:=h.1;grind
 | other=>obtain ⟨⟨p,g,l⟩,_⟩:=h;grind
def IA{k:IntKind}{x y:Int}(b:inR k x)(a:inR k y):inR k (min x y)/\inR k (max x y):=by grind
def XN(hE:ae E)(hm:Mem M ob ac w)(D:ac[base]? =some .dead)(H:ob[base]? =some []){ρv:Operand->Value}{ρ:Operand->aa}(j:∀ x,Rep M ob (ρv x) (ρ x))(hint:Nat)(op:Op)(ty:TypeId):
  cS E.P ρv op ty M ob ac w base (oS E hint base (aB ac) ρ op ty):=by
 cases op with
 | move x=>exact cS.now hm (λ_ _ _ _=>rfl) (j x)
 | assign x=>
  have A:=wT hE (t:=ty) (j x);have hs:∀ d pos a g,execOp ρv ⟨d,.assign x,ty,pos,a,g⟩=((Pure.pure (ρv x):Sem Value) >>= λ v=>Pure.pure (.value v)):=λ_ _ _ _=>rfl;simp only [oS];split
  .exact cS.now hm (λ_ _ _ _=>rfl) A
  .split
   .rename_i esz xs t heq;rw [heq] at A;split
    .split
     .obtain ⟨_,hnil⟩:=A.untok;have hnil:ρv x= .slice none 0 0:=hnil;split
      .refine sdc λ hg=>?_;obtain ⟨hg1,hg2⟩:=bD hg;have hpos:0<esz:=Cu hg2;refine cS.pm hs (tM hm D H (v:=.slice none 0 0) (w':=w) q_ ⟨⟨[],Hp w 0 _ _,by simp,λ q c hq=>by simp [aP] at hq⟩,hpos,by simp,λ b hb=>by simp [Gt] at hb,λ_ _=>rfl,rfl,rfl,rfl,Bh _,HP w⟩)
      .exact trivial
     .exact trivial
    .exact cS.now hm (λ_ _ _ _=>rfl) A
   .exact cS.now hm (λ_ _ _ _=>rfl) A
 | pick c x y=>
  have W:=j c;simp only [oS];split
  .rename_i l;rw [l] at W;exact cS.now hm (λ_ _ _ _=>by simp [execOp,W.bool_inv,asBool]) (j x)
  .rename_i l;rw [l] at W;exact cS.now hm (λ_ _ _ _=>by simp [execOp,W.bool_inv,asBool]) (j y)
  .exact trivial
 | alloc t=>
  simp only [oS];split
  .rename_i U C;refine sdc λ h1=>?_;obtain ⟨i,z,Z,hs,hz,hzs,N,_,_⟩:=(hE.tab t U C).info;have hzv:(zeroValue t).run E.P w= .ok z w:=by simp [zeroValue,typeInfo,Z,hz]
   obtain ⟨u,w',M',ob',J,hrest⟩:=SP (P:=E.P) (t:=t) hm D H (mU N) h1;have hal:(Np t true (.tuple #[])).run E.P w= .ok u w':=by unfold Np;rw [Bk,hzv];exact J
   exact cS.pm (r:=.born _ _) (s:=Np t true (.tuple #[])) (λ_ _ _ _=>rfl) ⟨u,w',M',ob',hal,hrest⟩
  .exact trivial
 | box t x=>
  simp only [oS];refine sdc λ h1=>?_;exact cS.pm (r:=.born _ _) (s:=Instr.box t (ρv x)) (λ_ _ _ _=>rfl) (SP (P:=E.P) (t:=t) hm D H (j x) h1)
 | build t ps=>
  exact cS.pv (s:=Instr.build t (ps.map λ(p:Nat×Operand)=>(p.1,ρv p.2))) hm (λ_ _ _ _=>rfl) (aGQ hE (by simpa using PF j ps.toList))
 | buildSlice t n ps=>
  exact cS.pm (s:=Kf t n (ps.map λ(p:Nat×Operand)=>(p.1,ρv p.2))) (λ_ _ _ _=>rfl) (KO hE hm D H (by simpa using PF j ps.toList))
 | load t x=>exact cS.pv (s:=Mk t (ρv x)) hm (λ_ _ _ _=>rfl) ((aA2 hE hm (j x)).bind λ v u h=>wT hE h)
 | store t x y=>
  refine Sd.mono (λ v o ⟨h1,w',M',ob',Y,h3,h4,h5⟩=>?_) (λ_ _ h=>h.elim) (λ_ h=>h.elim) (aGy (t:=t) hE hm (j x) (wT hE (t:=t) (j y)));refine ⟨undef,w',M',ob',λ d pos a g=>.inr ⟨?_,rfl⟩,h3,h4,h5,by rw [h1];exact .undef _⟩;have:execOp ρv ⟨d,.store t x y,ty,pos,a,g⟩=(Kl t (ρv x) (ρv y) >>= λ_=>Pure.pure .skip):=rfl;simp_all
 | nilCheck x=>
  have A:=j x;simp only [oS];split<;>first | exact trivial | skip
  all_goals
   rename_i l;rw [l] at A;refine cS.now hm (u:=ρv x) (λ d pos a g=>?_) A;generalize hu:ρv x=u at A;simp only [execOp,hu];cases A<;>rfl
 | binOp bop t x y yt=>exact cS.pv (s:=PZ bop t x y (ρv x) (ρv y)) hm (λ_ _ _ _=>rfl) (aOb (og:=aB ac) hE (j x) (j y))
 | unOp uop t x=>
  have A:=j x;simp only [oS];refine cS.pv (s:=Op.unary uop (ρv x)) hm (λ_ _ _ _=>rfl) ?_;split
  .rename_i b l;rw [l] at A;rw [A.bool_inv];exact aX (u:=.bool (!b)) rfl (.bool _)
  .rename_i k n l;rw [l] at A;rw [A.int_inv.1];have e:(Op.unary .neg (.int k n)).run E.P w= .ok (.int k (k.wrap (0-n))) w:=rfl;exact ⟨λ hp=>⟨rfl,_,by rw [e,mV hp],.int _ _ hp⟩,rfl,_,e,.int _ _ (nD _ _)⟩
  .rename_i k n l;rw [l] at A;rw [A.int_inv.1];exact aX (u:=.int k (eG .xor k (if k.signed then -1 else k.max) n)) rfl (.int _ _ (by unfold eG;exact nD _ _))
  .exact trivial
 | convert s t x=>exact cS.pm (s:=convert s t (ρv x)) (λ_ _ _ _=>rfl) (aKO hE hm (j x))
 | makeInterface t x=>
  simp only [oS];refine cS.pv (s:=Instr.makeInterface t (ρv x)) hm (λ_ _ _ _=>rfl) ?_;split
  .rename_i U C;have hk:=(hE.tab t U C).kind;split
   .exact trivial
   .rename_i O;obtain ⟨dd,R,X⟩:=hk.notIface O;refine aX (run_makeInterface w t _ ?_) (.iface _ _ _ (j x));unfold Program.concrete;simp_all
  .exact trivial
 | makeFunc fn fs cs=>
  obtain ⟨p1,p2⟩:=FV j fs.toList;obtain ⟨q1,q2⟩:=FV j cs.toList;refine cS.now hm (u:=.func fn (fs.toList.map ρv).toArray (cs.toList.map ρv).toArray) (λ d pos a g=>?_) (.func fn _ _ _ _ p1 q1 p2 q2);have V:(fs.toList.map ρv).toArray=fs.map ρv:=by apply Ea;simp
  have e2:(cs.toList.map ρv).toArray=cs.map ρv:=by apply Ea;simp
  rw [V,e2];rfl
 | makeMap t x=>
  cases x with
  | some x=>exact trivial
  | none=>
   simp only [oS];split
   .split
    .rename_i tk _;obtain ⟨m1,m2,m3,m4⟩:=hm.bornMap D H tk.agg;refine cS.pm (r:=.born _ _) (s:=Instr.makeMap t none) (λ_ _ _ _=>rfl) ⟨_,_,M,ob.set base [.map (some w.heap.size)],run_makeMap t w,?_⟩;rw [aU D]
     grind
    .exact trivial
   .exact trivial
 | makeSlice t x y=>exact cS.pm (s:=Instr.makeSlice t (ρv x) (ρv y)) (λ_ _ _ _=>rfl) (aKL (hint:=hint) hE hm D H (j x) (j y))
 | slice t x lo Z mx=>exact cS.pv (s:=Hd t (ρv x) (lo.map ρv) (Z.map ρv) (mx.map ρv)) hm (λ_ _ _ _=>rfl) (aGz hE hm (j x) (OO j lo) (OO j Z) (OO j mx))
 | fieldAddr t x f=>exact cS.pv (s:=Lu t (ρv x) f) hm (λ_ _ _ _=>rfl) (PR hE (j x))
 | field t x f=>exact cS.pv (s:=Nd t (ρv x) f) hm (λ_ _ _ _=>rfl) ((aGL hE (j x)).bind λ v u h=>wT hE h)
 | indexAddr t x i=>exact cS.pv (s:=Ik t (ρv x) (ρv i)) hm (λ_ _ _ _=>rfl) (PQ hE hm (j x) (j i))
 | index t x i=>exact cS.pv (s:=Lr t (ρv x) (ρv i)) hm (λ_ _ _ _=>rfl) (aGK hE (j x) (j i))
 | typeAssert x xt t ok=>
  have A:=j x;simp only [oS];refine cS.pv (s:=Ki (ρv x) xt t ok) hm (λ_ _ _ _=>rfl) ?_;split
  .rename_i U u v C l;rw [l] at A;obtain ⟨i,z,Z,hs,hz,hzs,N,_,_⟩:=(hE.tab t U C).info;split
   .exact trivial
   .rename_i O;obtain ⟨dd,R,X⟩:=(hE.tab t U C).kind.notIface O;obtain ⟨F,Q,hv⟩:=A.iface_inv;rw [Q];cases hq:Ba u t with
    | true=>
     have:=aE hq;subst this;refine aX (u:=if ok then .tuple #[F,.bool true] else F) ?_ ?_
     .unfold Ki;simp only [Bk,run_underlying R,Au];rfl
     .cases ok with
      | true=>exact hv.pairB true
      | false=>exact hv
    | false=>
     have hne2:¬ u=t:=λ e=>by subst e;simp at hq
     simp only [cond_false];refine sdc λ hok=>?_;subst hok;refine aX (u:=.tuple #[z,.bool false]) ?_ ((mU N).pairB false);unfold Ki;simp only [Bk,run_underlying R,Au];cases dd<;>first | exact absurd rfl (X _) | (simp [hne2,zeroValue,typeInfo,Z,hz])
  .rename_i U C l;rw [l] at A;obtain ⟨i,z,Z,hs,hz,hzs,N,_,_⟩:=(hE.tab t U C).info;split
   .exact trivial
   .rename_i O;obtain ⟨dd,R,X⟩:=(hE.tab t U C).kind.notIface O;refine sdc λ hok=>?_;subst hok;rw [A.nilif_inv];refine aX (u:=.tuple #[z,.bool false]) ?_ ((mU N).pairB false);unfold Ki;simp only [Bk,run_underlying R,Au];cases dd<;>first | exact absurd rfl (X _) | (simp [zeroValue,typeInfo,Z,hz])
  .exact trivial
 | extract x i=>
  have A:=j x;simp only [oS];refine cS.pv (s:=Instr.extract (ρv x) i) hm (λ_ _ _ _=>rfl) ?_;split
  .rename_i vs l;rw [l] at A;split
   .rename_i v hn;have hnv:=oH hn;obtain ⟨us,Q,hl,J⟩:=A.tup_inv;have hlt:i<us.length:=by grind
    rw [Q];refine aX (u:=us[i]) ?_ (J i _ v (Ac hlt) hnv);simp [Instr.extract,hlt]
   .exact trivial
  .exact trivial
 | panic x=>
  have A:=j x;simp only [oS];split
  .rename_i t v l;rw [l] at A;obtain ⟨u,Q,hu⟩:=A.iface_inv;have:∀ F,F=ah (aB ac) 3 v->cS E.P ρv (.panic x) ty M ob ac w base ((λ v=>bif HT v then OR.pan (.iface t v) else .no) F):=λ F e=>by
    subst e
    refine sdc λ_=>⟨.iface t u,λ d pos a g=>?_,.iface _ _ _ (hm.pureV 3 _ _ hu)⟩
    simp [execOp,Instr.panic,Q]
   grind
  .exact trivial
 | lookup t m k ok=>exact cS.pv (s:=Ml t (ρv m) (ρv k) ok) hm (λ_ _ _ _=>rfl) (aCB hE hm (j m) (j k) ok)
 | mapUpdate t m k v0=>
  refine Sd.mono (λ v o ⟨h1,w',M',ob',Y,h3,h4,h5⟩=>?_) (λ_ _ h=>h.elim) (λ_ h=>h.elim) (aGJ (t:=t) hE hm (j m) (j k) (j v0));refine ⟨undef,w',M',ob',λ d pos a g=>.inr ⟨?_,rfl⟩,h3,h4,h5,by rw [h1];exact .undef _⟩;have:execOp ρv ⟨d,.mapUpdate t m k v0,ty,pos,a,g⟩=(Lb t (ρv m) (ρv k) (ρv v0) >>= λ_=>Pure.pure .skip):=rfl;simp_all
 | call c=>
  obtain ⟨callee,args,argTypes⟩:=c;have I:=FV j args.toList;simp only [oS];cases callee with
  | value f=>
   have B:=j f;dsimp only;split
   .rename_i gid fs cs l;rw [l] at B;cases G:ρv f with
    | func fn first caps=>
     rw [G] at B;cases B with
     | func _ vfs vcs _ _ hl1 hl2 hr1 hr2=>
      rw [P7,P7];refine ⟨_,cM.append (cM.append ⟨hl1,hr1⟩ I) ⟨hl2,hr2⟩,λ d pos a g=>?_⟩;have V:(args.map ρv)=(args.toList.map ρv).toArray:=by apply Ea;simp
      simp [execOp,resolve,G,Deferred.ofValue,invoke,V,JJ]
    | _=>rw [G] at B;cases B
   .rename_i lid fs cs l;rw [l] at B;cases G:ρv f with
    | func fn first caps=>
     rw [G] at B;cases B with
     | func _ vfs vcs _ _ hl1 hl2 hr1 hr2=>
      rw [P7];refine ⟨_,cM.append ⟨hl1,hr1⟩ I,λ d pos a g=>?_⟩;have V:(args.map ρv)=(args.toList.map ρv).toArray:=by apply Ea;simp
      simp [execOp,resolve,G,Deferred.ofValue,invoke,V,JJ]
    | _=>rw [G] at B;cases B
   .exact trivial
  | invoke rc name=>
   have L:=j rc;dsimp only;split
   .rename_i t v l;rw [l] at L;split
    .rename_i gid hmg;cases hre:ρv rc with
     | iface t' F=>
      rw [hre] at L;cases L with
      | iface _ _ _ hv=>
       have hmm:=hE.mth t name gid hmg F w;refine ⟨_,cM.cons hv I,λ d pos a g=>?_⟩;have hva: #[F]++args.map ρv=(F::args.toList.map ρv).toArray:=by simp
       rw [<-hva];have hex:(#[Nf t F]++args.map ρv).extract 1 (#[Nf t F]++args.map ρv).size=args.map ρv:=by apply Ea;simp [Array.toList_extract];exact Cn s_
       simp only [execOp,resolve,Bk,Ci,Au,invoke,hre];simp only [Hi (show 0<(#[Nf t F]).size by simp)];simp only [show (#[Nf t F]:Array Value)[0]? =some (.iface t F) from rfl,hex,callMethod,Bk,run_program,Au,hmm,JJ]
     | _=>rw [hre] at L;cases L
    .exact trivial
   .exact trivial
  | builtin b=>
   dsimp only
   have S:∀ {s:Sem Value} {r:OR},(∀ {u:Value} {w':World},s.run E.P w= .ok u w'->∀ d pos a g,(execOp ρv ⟨d,.call ⟨.builtin b,args,argTypes⟩,ty,pos,a,g⟩).run E.P w= .ok (.value u) w')->PM E.P M ob w s ac base r->cS E.P ρv (.call ⟨.builtin b,args,argTypes⟩) ty M ob ac w base r:=λ{s r} A h=>
    Sd.mono (λ v o ⟨u,w',M',ob',Y,h3,h4,h5,h6⟩=>⟨u,w',M',ob',λ d pos a g=>.inl (A Y d pos a g),h3,h4,h5,h6⟩) (λ_ _ h=>h.elim) (λ_ h=>h.elim) h
   split
   .rename_i x t h1 Y;have K:args= #[x]:=by apply Ea;omega
    have T:argTypes= #[t]:=by apply Ea;omega
    subst K T;exact S (s:=Fy #[t] ty #[ρv x]) (λ J d pos a g=>by simp [execOp,resolve,invoke,builtin,J]) (PM.of hm (aN6 hE hm (j x)))
   .rename_i x y h1;have K:args= #[x,y]:=by apply Ea;omega
    subst K;split
    .rename_i k p k' q V e2;have A:=j x;have hy:=j y;rw [V] at A;rw [e2] at hy;refine sdc λ hk=>?_;have:=BB hk;subst this;obtain ⟨hx1,hx2⟩:=A.int_inv;obtain ⟨hy1,hy2⟩:=hy.int_inv;refine ⟨_,w,M,ob,λ d pos a g=>.inl ?_,Ext.refl _ _ _ _,hm,dB.refl _ _,.int _ _ (IA hx2 hy2).1⟩;simp [execOp,resolve,invoke,builtin,hx1,hy1,aEa]
    .exact trivial
   .rename_i x y h1;have K:args= #[x,y]:=by apply Ea;omega
    subst K;split
    .rename_i k p k' q V e2;have A:=j x;have hy:=j y;rw [V] at A;rw [e2] at hy;refine sdc λ hk=>?_;have:=BB hk;subst this;obtain ⟨hx1,hx2⟩:=A.int_inv;obtain ⟨hy1,hy2⟩:=hy.int_inv;refine ⟨_,w,M,ob,λ d pos a g=>.inl ?_,Ext.refl _ _ _ _,hm,dB.refl _ _,.int _ _ (IA hx2 hy2).2⟩;simp [execOp,resolve,invoke,builtin,hx1,hy1,aEb]
    .exact trivial
   .rename_i x y t t2 h1 Y;have K:args= #[x,y]:=by apply Ea;omega
    have T:argTypes= #[t,t2]:=by apply Ea;omega
    subst K T;exact S (s:=Cx #[t,t2] ty #[ρv x,ρv y]) (λ J d pos a g=>by simp [execOp,resolve,invoke,builtin,J]) (aCC hE hm D H (j x) (j y))
   .rename_i x y t t2 h1 Y;have K:args= #[x,y]:=by apply Ea;omega
    have T:argTypes= #[t,t2]:=by apply Ea;omega
    subst K T;exact S (s:=Km #[t,t2] ty #[ρv x,ρv y]) (λ J d pos a g=>by simp [execOp,resolve,invoke,builtin,J]) (aKN hE hm (j x) (j y))
   .rename_i x t h1 Y;have K:args= #[x]:=by apply Ea;omega
    have T:argTypes= #[t]:=by apply Ea;omega
    subst K T;exact S (s:=Jw #[t] ty #[ρv x]) (λ J d pos a g=>by simp [execOp,resolve,invoke,builtin,J]) (aGP hE hm (j x))
   .rename_i m k t t2 h1 Y;have K:args= #[m,k]:=by apply Ea;omega
    have T:argTypes= #[t,t2]:=by apply Ea;omega
    subst K T;exact S (s:=Lc #[t,t2] ty #[ρv m,ρv k]) (λ J d pos a g=>by simp [execOp,resolve,invoke,builtin,J]) (aCA hE hm (j m) (j k))
   .exact trivial
 | _=>exact trivial
def aJl{v:Value}{a:aa}(h:Rep M ob v a):Rep M ob v (nrm a):=by
 cases h with
 | rowc k g c a n h hm=>exact .row k g a n c h
 | pre k g n c d b len h e j hl hm=>
  have:=Rep.sub (M:=M) k g 0 n d b len c h e o_ hl o_;rw [Mf,Iz] at this;exact this
 | undef v=>exact .undef v
 | bool b=>exact .bool b
 | int k n r=>exact .int k n r
 | str l hl=>exact .str l hl
 | agg vs as hl h=>exact .agg vs as hl h
 | tup vs as hl h=>exact .tup vs as hl h
 | ptr b o cs h=>exact .ptr b o cs h
 | ref k off b h=>exact .ref k off b h
 | eref k g i d off b n c h=>exact .eref k g i d off b n c h
 | csl k off len d b h hm=>exact .csl k off len d b h hm
 | row k g a n c h=>exact .row k g a n c h
 | sub k g lo len d b n c h hl j e hm=>exact .sub k g lo len d b n c h hl j e hm
 | sub0 k g lo d a q n c h hl e=>exact .sub0 k g lo d a q n c h hl e
 | mref k b h=>exact .mref k b h
 | nilptr=>exact .nilptr
 | nilslice=>exact .nilslice
 | nilmap=>exact .nilmap
 | nilfunc=>exact .nilfunc
 | nilif=>exact .nilif
 | hsl a n c=>exact .hsl a n c
 | slnil d t f=>exact .slnil d t f
 | slemp d t a cap f=>exact .slemp d t a cap f
 | sl d b o n cap xs t j e hm hz h f=>exact .sl d b o n cap xs t j e hm hz h f
 | func fn p cs m w u e h1 s=>exact .func fn p cs m w u e h1 s
 | iface t v a h=>exact .iface t v a h
def Rep.rowc_inv{v:Value}{k g c:Nat}(h:Rep M ob v (.rowc k g c)):∃ a n,v= .slice a n c/\at' ob k g=some (.slice a n c)/\(c:Int)<=9223372036854775807:=by cases h with | rowc _ _ _ a n h hm=>grind
def Rep.pre_inv{v:Value}{k g n c a:Nat}(h:Rep M ob v (.pre k g n c a)):∃ b len,v= .slice (some ⟨b,0,none⟩) n c/\at' ob k g=some (.slice (some ⟨b,0,none⟩) len c)/\0<c/\n<=len/\len<=c/\(c:Int)<=9223372036854775807:=by cases h with | pre _ _ _ _ _ b len h hc hn hl hm=>exact ⟨b,len,rfl,h,hc,hn,hl,hm⟩
def Mem.rowIs(hm:Mem M ob ac w){k g m:Nat}{e:TypeId}{xs:ay}(j:ac[k]? =some (.row g m e xs)){d:Option Addr}{n c:Nat}(a:at' ob k g=some (.slice d n c)):
  n=xs.length/\n<=c/\(n:Int)<=9223372036854775807/\(d=none/\n=0/\c=0\/∃ b,d=some ⟨b,0,none⟩):=by
 obtain ⟨hs',v,h1,p,h3,h,i,_⟩:=hm.rowOf j;rw [a] at h;cases h;rcases i.len with ⟨f,rfl⟩ | ⟨b,o,f,r,l,q⟩
 .simp_all
 .cases f;exact ⟨rfl,l,by have:=jG;omega,.inr ⟨b,rfl⟩⟩
def eP.on{v:Value}{j:Nat}{e:TypeId}{xs:ay}(h:eP M w v j e xs)(f:0<j){b n c y:Nat}(G:v= .slice (some ⟨b,0,none⟩) n c)(h1:xs.length<=y)(L:y<=c):
  eP M w (.slice (some ⟨b,0,none⟩) y c) j e (xs++Aj (y-xs.length) (.agg (Aj j .undef))):=by
 subst G;obtain ⟨cv,⟨O,J⟩,h3,D,B,A,z⟩:=h;rcases J with ⟨q,_⟩ | ⟨g,cap,i,F,_,s,N,H,t,K⟩
 .cases q
 cases F;have P:y*j<=i.size:=by rw [t];exact Cc _ L
 have a:(xs++Aj (y-xs.length) (aa.agg (Aj j .undef))).length=y:=by simp;omega
 refine ⟨i.toList.take (y*j),⟨by rw [a];simp;omega,.inr ⟨b,c,i,by rw [a],Ch _,s,by omega,H,t,by rw [a]⟩⟩,λ u r=>z b rfl _ _ _ s u (Di r),λ x k=>?_,λ q d o=>?_,A,z⟩
 .rcases Bd.1 k with k | k
  .exact D x k
  .rw [(Gn.1 k).2];simp [aa.cells]
 .have m:=hC f o;rw [a] at m;rw [Bn m];by_cases p:q<xs.length*j
  .rw [dD f p] at o;obtain ⟨u,r,I⟩:=B q d o;refine ⟨u,?_,I⟩;rw [<-K,Bn p] at r;exact r
  .rw [cW f o_] at o;obtain ⟨x,k,C⟩:=iW o;have:=(Gn.1 (Az k)).2;subst this;have:d= .undef:=(Gn.1 (Az (show (Aj j aa.undef)[_]? =some d from C))).2;subst this;have l:q<i.toList.length:=by simp;omega
   exact ⟨_,Ac l,.undef _⟩
def aN9(hE:ae E)(hm:Mem M ob ac w){t k g c hint:Nat}{v u:Value}{h:aa}(hv:Rep M ob v (.rowc k g c))(hu:Rep M ob u h):
  PM E.P M ob w (Hd t v none (some u) none) ac base (aOa E hint (aB ac) t k g c h):=by
 unfold aOa;split
 .rename_i e0 esz eb _ _ _ g' j e xs Z n hT H;have s:=cR H s_;obtain ⟨⟨R,ie,z,hi',hs,_,_,_,_⟩,_⟩:=(hE.tab t _ hT).kind;refine sdc λ hg=>?_;obtain ⟨C,Q⟩:=bD hg;obtain ⟨O,J⟩:=bD C;obtain rfl:=aE O;obtain rfl:=aE J;have A:0<j:=Cu Q;obtain ⟨x,hel⟩:=I3 R;have K:(E.P.info? (E.P.elem t)).map (·.size)=some j:=by simp_all
  have I:=λ u:World=>af (P:=E.P) K u;obtain ⟨T,len,rfl,l,L⟩:=hv.rowc_inv;obtain ⟨rfl,W,hnm,B⟩:=hm.rowIs s l;obtain ⟨rfl,_⟩:=hu.int_inv;rintro y rfl;have run:y<=c->(Hd t (.slice T xs.length c) none (some (.int Z (y:Int))) none).run E.P w= .ok (sliced T 0 y c j) w:=λ hy=>by rw [run_sliceAt_slice w t _ _ _ _ x,run_slice_h w t T _ c x Z y o_ o_,I];rfl
  cases hint with
  | zero=>
   rintro ⟨V,D⟩;refine ⟨_,w,M,ob,run o_,Ext.refl _ _ _ _,hm,dB.refl _ _,?_⟩;rcases B with ⟨rfl,_,q⟩ | ⟨b,rfl⟩
   .omega
   .have r:sliced (some ⟨b,0,none⟩) 0 y c j= .slice (some ⟨b,0,none⟩) y c:=by simp [sliced,bK]
    rw [r];exact .pre k g y c j b _ l D V W L
  | succ m=>
   rintro ⟨V,D⟩;obtain ⟨a,v0,r,F,X,e4,i,Y⟩:=hm.rowOf s;rw [l] at e4;cases e4;rcases B with ⟨rfl,q1,q2⟩ | ⟨b,rfl⟩
   .-- nil:nothing dF on
    subst q2;obtain rfl:y=0:=o_;have N:xs=[]:=Bc q1;subst N;have o:(a++[Hc none 0 0]).length=g+1+1:=by simp [F]
    have d:(a++[Hc none 0 0])[g+1]? =some (.slice none 0 0):=by rw [<-F];simp
    have:=hm.rowTurn (hs':=a++[Hc none 0 0]) s r X ⟨_,rfl⟩ o d i (λ b _ _=>rfl) rfl rfl rfl (Bh _) (λ b U=>by cases U);refine ⟨_,w,M,ob.set k (a++[Hc none 0 0]),run (Bh _),?_⟩;rw [aU s];have G:([]:ay)++Aj (0-([]:ay).length) (aa.agg (Aj j .undef))=[]:=rfl;rw [G];refine ⟨this.2.1,this.1,this.2.2,?_⟩;have f:at' (ob.set k (a++[Hc none 0 0])) k (g+1)=some (.slice none 0 0):=by rw [cL (Ay (Ad.1 r).1)];exact d
    have S:sliced none 0 0 0 j= .slice none 0 0:=by rfl
    rw [S];exact .row _ _ _ _ _ f
   .have S:sliced (some ⟨b,0,none⟩) 0 y c j= .slice (some ⟨b,0,none⟩) y c:=by simp [sliced,bK]
    have p:=i.on A rfl V D;have o:(a++[Hc (some ⟨b,0,none⟩) y c]).length=g+1+1:=by simp [F]
    have d:(a++[Hc (some ⟨b,0,none⟩) y c])[g+1]? =some (.slice (some ⟨b,0,none⟩) y c):=by rw [<-F];simp
    have:=hm.rowTurn (hs':=a++[Hc (some ⟨b,0,none⟩) y c]) s r X ⟨_,rfl⟩ o d p (λ b _ _=>rfl) rfl rfl rfl (Bh _) (λ b' U=>.inl U);refine ⟨_,w,M,ob.set k (a++[Hc (some ⟨b,0,none⟩) y c]),run D,?_⟩;rw [aU s];refine ⟨this.2.1,this.1,this.2.2,?_⟩;have f:at' (ob.set k (a++[Hc (some ⟨b,0,none⟩) y c])) k (g+1)=some (.slice (some ⟨b,0,none⟩) y c):=by rw [cL (Ay (Ad.1 r).1)];exact d
    rw [S];exact .row _ _ _ _ _ f
 .exact trivial
def aKM(hE:ae E)(hm:Mem M ob ac w){t k g:Nat}{v A B C:Value}{l h m:aa}(J:Rep M ob v (.row k g))(hl:Rep M ob A l)(Q:Rep M ob B h)(n:Rep M ob C m):
  PM E.P M ob w (Hd t v (some A) (some B) (some C)) ac base (aGM E (aB ac) t k g l h m):=by
 unfold aGM;split
 .rename_i e0 O V _ _ _ g' D e xs X a W b Y c G p;have I:=cR p s_;obtain ⟨⟨j,ie,z,N,hs,_,_,_,_⟩,_⟩:=(hE.tab t _ G).kind;refine sdc λ F=>?_;obtain ⟨o,s⟩:=bD F;obtain rfl:=aE o;obtain rfl:=aE s;obtain ⟨d,H⟩:=I3 j;have f:(E.P.info? (E.P.elem t)).map (·.size)=some D:=by simp_all
  have r:=λ u:World=>af (P:=E.P) f u;obtain ⟨K,len,cap,rfl,i⟩:=J.row_inv;obtain ⟨rfl,R,S,L⟩:=hm.rowIs I i;obtain ⟨rfl,_⟩:=hl.int_inv;obtain ⟨rfl,_⟩:=Q.int_inv;obtain ⟨rfl,_⟩:=n.int_inv;rintro x rfl y rfl q rfl ⟨⟨Z,U⟩,T⟩;refine ⟨sliced K x y q D,w,M,ob,?_,Ext.refl _ _ _ _,hm,dB.refl _ _,.undef _⟩;rw [run_sliceAt_slice w t _ _ _ _ d];unfold Lt Gw Ke;simp only [Bk,run_underlying d,Au,Option.isSome_some,if_true,Ci,asIntOf];rw [if_pos ⟨by omega,by omega⟩];simp only [Ci,Au];rw [if_pos ⟨by omega,by omega⟩];simp only [Ci,Au];rw [if_pos ⟨by omega,by omega⟩];simp only [Ci,Au,r,Br];rfl
 .exact trivial
def EV{P:Program}(w:World)(t q ty e:TypeId)(B:IntKind)(i:TypeInfo)(z:Value)(v:P.underlying t=some (.slice e))(u:P.underlying q=some (.int B))(x:P.info? e=some i)(hz:i.zero=some z)
  (b n c m:Nat) (l:0<m) (g:0<i.size) (d:ba) (f:(Cs i.size n (.slice (some ⟨b,0,none⟩) n c)).run P w.drew= .ok d.toArray w.drew) (r:c<n+m) (A:((n+m:Nat):Int)<=9223372036854775807)
  (a:(n+m)*i.bytes<=140737488355328):
  (Cx #[t,q] ty #[.slice (some ⟨b,0,none⟩) n c,.int .i64 (m:Int)]).run P w=
   .ok (.slice (some ⟨w.heap.size,0,none⟩) (n+m) (grownCap w (n+m) c e))
    (w.drew.alloc (.cells (d++(Cp z.cells m).toList++(Cp z.cells (grownCap w (n+m) c e-(n+m))).toList).toArray e)):=by
 have y:¬ (n+m<=c):=o_;have j:¬ (9223372036854775807<((n:Int)+(m:Int))):=o_;have p:=growslice_fits (bytes:=i.bytes) r a;have h:¬ (281474976710656<Builtin.nextslicecap (n+m) c*i.bytes):=o_;have C:IntKind.i64.wrap (m:Int)=(m:Int):=mV ⟨by simp only [dA];omega,by simp only [bN];omega⟩;have o:¬ (281474976710656<(m:Int)*(i.bytes:Int)):=by grind
 have s:¬ ((m:Int)<0):=o_;have k:¬ (m*i.size=0):=by have:=Nat.mul_pos l g;omega
 simp [Cx,run_underlying v,run_underlying u,sizeOf,typeInfo,zeroValue,x,hz,asInt,asIntOf,C,s,o,y,j,h,k,Question.forced,f,newRow,grownCap];congr 2;simp
def aKK(hE:ae E)(hm:Mem M ob ac w)(Q:ac[base]? =some .dead)(W:ob[base]? =some []){t t2 ty k g n c sz:Nat}{kt:IntKind}(X:E.P.underlying t2=some (.int kt)){v u:Value}{m:aa}
  (hv:Rep M ob v (.pre k g n c sz)) (h:Rep M ob u m):PM E.P M ob w (Cx #[t,t2] ty #[v,u]) ac base (aAY E base (aB ac) t k g n c sz m):=by
 unfold aAY;split
 .rename_i e esz eb _ _ _ g' sz' e' xs a hT R;split
  .rename_i te hTe;obtain ⟨⟨Z,i,z,hi,O,V,hz,s,hz1⟩,_⟩:=(hE.tab t _ hT).kind;subst O V;refine sdc λ hg=>?_;simp only [Af] at hg;obtain ⟨⟨⟨g1,g2⟩,g3,g4⟩,g5,g6⟩:=hg;obtain rfl:=aE g1;have q2:=aE g2;subst q2;have q3:=aE g3;subst q3;have q4:=aE g4;subst q4;have f:0<i.size:=Cu g5;obtain ⟨i',z',K,hsz',G,hzs',T,hone,hne⟩:=(hE.tab e te hTe).info;rw [hi] at K;cases K;rw [hz] at G;cases G;have hk:=cR R s_;obtain ⟨b,len,rfl,F,hc0,Y,hlc,hcm⟩:=hv.pre_inv;obtain ⟨rfl,_,hnm,_⟩:=hm.rowIs hk F;obtain ⟨rfl,_⟩:=h.int_inv;rintro y rfl ⟨c1,f1,f2⟩;obtain ⟨hs0,v0,e1,e2,e3,e4,D,hblk⟩:=hm.rowOf hk;rw [F] at e4;cases e4;obtain ⟨cv,o1,o2,o3,o4,o5,o6⟩:=D;have hml:=jG;have hle:n*i.size<=xs.length*i.size:=Cc _ Y;have l:(cv.take (n*i.size)).length=n*i.size:=by rw [Dw,o1.1];omega
   have S:(Cs i.size n (.slice (some ⟨b,0,none⟩) n c)).run E.P w.drew= .ok (cv.take (n*i.size)).toArray w.drew:=by
    refine run_firstCells_some w.drew i.size n ⟨b,0,none⟩ n c _ l λ j u N=>?_;rw [Gp] at N;split at N
    .rw [bK,Bx];exact gX o1 (b:=b) rfl N
    .cases N
   have J:=EV (P:=E.P) w t t2 ty e kt i z Z X hi hz b n c y o_ f _ S c1 o_ f2;have U:=hm.pure0 T;obtain ⟨d1,d2⟩:=xZ (z:=z.cells) (n:=y);rw [s] at d1 d2;obtain ⟨r1,r2⟩:=CT (M:=M) U (FM g6) s f d1 d2;have hge:=grownCap_ge w (n+y) c e;have I:grownCap w (n+y) c e<=maxLen:=grownCap_le_maxLen w (n+y) c e f1;have p:(xs.take n).length=n:=by simp;omega
   have A:(xs.take n++Aj y (ah (λ_=>.dead) 4 te.zero)).length=n+y:=by simp;omega
   have o:∀ u∈cv.take (n*i.size)++(Cp z.cells y).toList,u.oneCell'=true:=λ u h=>by
    rcases Bd.1 h with h | h
    .exact o2 u (Di h)
    .exact mN hz1 u h
   have r:(cv.take (n*i.size)++(Cp z.cells y).toList).length=(n+y)*i.size:=by rw [Ai,l,d1,Cg]
   have gr:Grown M w (w.drew.alloc (.cells (cv.take (n*i.size)++(Cp z.cells y).toList++(Cp z.cells (grownCap w (n+y) c e-(n+y))).toList).toArray e)) i.size e
     (.slice (some ⟨w.heap.size,0,none⟩) (n+y) (grownCap w (n+y) c e)) (xs.take n++Aj y (ah (λ_=>.dead) 4 te.zero)):=by
    refine ⟨⟨cv.take (n*i.size)++(Cp z.cells y).toList,⟨by rw [r,A],.inr ⟨w.heap.size,_,_,by rw [A],Ch _,heap_alloc_new w.drew _,by omega,I,?_,?_⟩⟩,o,λ q d L=>?_⟩,f,λ x H=>?_,λ b' B=>?_,λ b' B=>heap_alloc_old w.drew _ B,rfl,rfl,rfl,by simp,?_⟩
    .rw [Gv,Ai,r,Jc,size_zeroCells,s,<-Cg];congr 1;omega
    .rw [A,<-r];exact Hw
    .by_cases C:q<n*i.size
     .rw [dD f (by rw [p];exact C),pZ f C] at L;obtain ⟨u,h,hr⟩:=o4 q d L;exact ⟨u,by rw [Ah o_,Bn C];exact h,hr⟩
     .rw [cW f (by rw [p];omega),p] at L;rw [Al o_,l];exact r2 _ d L
    .rcases Bd.1 H with H | H
     .exact o3 x (Di H)
     .exact r1 x H
    .simp only [Gt,Dy] at B;omega
    .refine sX (w:=w.drew) λ u h=>?_;rcases Bd.1 h with h | h
     .exact o u h
     .exact mN hz1 u h
   exact tM (hint:=2) hm Q W J gr
  .exact trivial
 .exact trivial
def XM(hE:ae E)(hm:Mem M ob ac w)(z:ac[base]? =some .dead)(A:ob[base]? =some []){ρv:Operand->Value}{ρ:Operand->aa}(a:∀ x,Rep M ob (ρv x) (ρ x)){hint:Nat}{op:Op}(ty:TypeId){r:OR}
  (h:nW E hint base (aB ac) ρ op=some r):cS E.P ρv op ty M ob ac w base r:=by
 cases op with
 | move x=>cases h;exact cS.now hm (λ_ _ _ _=>rfl) (a x)
 | assign x=>
  simp only [nW] at h;split at h
  .rename_i k g c b;cases h;have:=a x;rw [b] at this;exact cS.now hm (u:=ρv x) (λ_ _ _ _=>rfl) this
  .cases h
 | slice t x lo F G=>
  cases lo with
  | none=>
   cases F with
   | none=>simp [nW] at h
   | some i=>
    cases G with
    | some _=>simp [nW] at h
    | none=>
     simp only [nW] at h;split at h
     .rename_i k g c b;cases h;have:=a x;rw [b] at this;exact cS.pm (s:=Hd t (ρv x) none (some (ρv i)) none) (λ_ _ _ _=>rfl) (aN9 hE hm this (a i))
     .cases h
  | some l=>
   cases F with
   | none=>simp [nW] at h
   | some i=>
    cases G with
    | none=>simp [nW] at h
    | some m=>
     simp only [nW] at h;split at h
     .rename_i k g b;cases h;have:=a x;rw [b] at this;exact cS.pm (s:=Hd t (ρv x) (some (ρv l)) (some (ρv i)) (some (ρv m))) (λ_ _ _ _=>rfl) (aKM hE hm this (a l) (a i) (a m))
     .cases h
 | call c=>
  obtain ⟨callee,args,argTypes⟩:=c;simp only [nW] at h;split at h
  .split at h
   .rename_i x t h1 q;split at h
    .rename_i k g n _ _ _ _ _ _ b L;cases h;have B:args= #[x]:=by apply Ea;omega
     have p:argTypes= #[t]:=by apply Ea;omega
     subst B p;have f:=a x;rw [b] at f;obtain ⟨R,len,Q,K,N⟩:=f.rowc_inv;obtain ⟨⟨j,_⟩,_⟩:=(hE.tab t _ L).kind;refine ⟨.int .i64 n,w,M,ob,λ d pos e g=>.inl ?_,Ext.refl _ _ _ _,hm,dB.refl _ _,.int _ _ ⟨by simp only [dA];omega,by simp only [bN];omega⟩⟩;simp [execOp,resolve,invoke,builtin,Builtin.cap_,Q,run_underlying j,goInt]
    .cases h
   .cases h
  .split at h
   .rename_i x y t H h1 q;split at h
    .rename_i k g n c T S _ _ _ b C;cases h;have B:args= #[x,y]:=by apply Ea;omega
     have p:argTypes= #[t,H]:=by apply Ea;omega
     subst B p;have f:=a x;rw [b] at f;have D:=(hE.tab H _ C).kind.1;exact Sd.mono (λ v o ⟨u,w',M',ob',q,h3,O,J,I⟩=>⟨u,w',M',ob',λ d pos e g=>.inl (by simp [execOp,resolve,invoke,builtin,q]),h3,O,J,I⟩) (λ_ _ h=>h.elim) (λ_ h=>h.elim) (aKK hE hm z A (ty:=ty) D f (a y))
    .cases h
   .cases h
  .cases h
 | _=>simp [nW] at h
def DC(hE:ae E)(hm:Mem M ob ac w)(a:ac[base]? =some .dead)(b:ob[base]? =some []){ρv:Operand->Value}{ρ:Operand->aa}(c:∀ x,Rep M ob (ρv x) (ρ x))(hint:Nat)(op:Op)(ty:TypeId):
  cS E.P ρv op ty M ob ac w base (eop E hint base (aB ac) ρ op ty):=by
 unfold eop;split
 .rename_i r d;exact XM hE hm a b c ty d
 .exact XN hE hm a b (λ x=>aJl (c x)) hint op ty
end
section
variable {P:Program} {M M':Imm} {ob ob':Hs} {ac L:au} {w w':World}
def xY.monoA(a:∀ (k g:Nat) v,at' ob k g=some v->at' ob' k g=some v){v:Value}{t:Tk}(h:xY ob v t):xY ob' v t:=by
 cases t with
 | own k g=>exact a _ _ _ h
 | _=>exact h
def Rep.monoA(e:∀ (k g:Nat) v,at' ob k g=some v->at' ob' k g=some v){v:Value}{a:aa}(h:Rep M ob v a):Rep M ob' v a:=by
 induction h with
 | undef v=>exact .undef v
 | bool b=>exact .bool b
 | int k n h=>exact .int k n h
 | str l h=>exact .str l h
 | agg vs as hl _ p=>exact .agg vs as hl p
 | tup vs as hl _ p=>exact .tup vs as hl p
 | ptr b o cs h=>exact .ptr b o cs h
 | ref k off b h=>exact .ref k off b (e _ _ _ h)
 | eref k g i d off b n c h=>exact .eref k g i d off b n c (e _ _ _ h)
 | csl k off len d b h hm=>exact .csl k off len d b (e _ _ _ h) hm
 | row k g a n c h=>exact .row k g a n c (e _ _ _ h)
 | sub k g lo len d b n c h hl m f hm=>exact .sub k g lo len d b n c (e _ _ _ h) hl m f hm
 | sub0 k g lo d a w n c h hl f=>exact .sub0 k g lo d a w n c (e _ _ _ h) hl f
 | rowc k g c a n h hm=>exact .rowc k g c a n (e _ _ _ h) hm
 | pre k g n c d b len h f m hl hm=>exact .pre k g n c d b len (e _ _ _ h) f m hl hm
 | mref k b h=>exact .mref k b (e _ _ _ h)
 | nilptr=>exact .nilptr
 | nilslice=>exact .nilslice
 | nilmap=>exact .nilmap
 | nilfunc=>exact .nilfunc
 | nilif=>exact .nilif
 | hsl a n c=>exact .hsl a n c
 | slnil d t j=>exact .slnil d t (j.monoA e)
 | slemp d t a cap j=>exact .slemp d t a cap (j.monoA e)
 | sl d b o n cap xs t m f hm hz h j=>exact .sl d b o n cap xs t m f hm hz h (j.monoA e)
 | func fn u cs s y x f _ _ r q=>exact .func fn u cs s y x f r q
 | iface t v a _ p=>exact .iface t v a p
def Mem.idle(h:Mem M ob L w){k:Nat}(j:ob[k]? =some []):L[k]? =some .dead:=by
 have d:k<L.length:=by rw [<-h.len];grind
 have e:=Ac d;obtain ⟨hs,f,a⟩:=h.obj k _ e;rw [j] at f;cases f;cases c:L[k] with
 | dead=>rw [e,c]
 | cells T cs=>rw [c] at a;obtain ⟨b,q,_⟩:=a;cases q
 | fcells cs=>rw [c] at a;obtain ⟨b,q,_⟩:=a;cases q
 | row g i e xs=>rw [c] at a;have:=a.1;simp at this
 | frow g i xs=>rw [c] at a;obtain ⟨v,q,_⟩:=a;simp at q
 | tail g i e=>rw [c] at a;have:=a.1;simp at this
 | mp l es=>rw [c] at a;obtain ⟨b,q,_⟩:=a;cases q
 | bun g I=>rw [c] at a;have:=a.1;simp at this
def Mem.live(h:Mem M ob L w){k:Nat}{c:ab}(b:L[k]? =some c)(d:c≠ .dead):∃ hs,ob[k]? =some hs/\hs≠[]:=by
 obtain ⟨hs,a,_⟩:=h.obj k c b;refine ⟨hs,a,λ e=>?_⟩;subst e;rw [h.idle a] at b
 grind
def Mem.shrink{n:Nat}(h:Mem M ob (ac++Aj n .dead) w)(B:∀ (i:Nat) hs,ac.length<=i->ob[i]? =some hs->hs=[]):
  Mem M (ob.take ac.length) ac w/\(∀ (k g:Nat) v,at' ob k g=some v->at' (ob.take ac.length) k g=some v)/\
   ∀ {M0:Imm} {ob0:Hs} {d:au} {w0:World},Ext M0 ob0 d w0 M ob (ac++Aj n .dead) w->ob0.length<=ac.length->Ext M0 ob0 d w0 M (ob.take ac.length) ac w:=by
 have hl:=h.len;simp at hl
 have left:∀ {i:Nat},i<ac.length->(ob.take ac.length)[i]? =ob[i]?/\(ac++Aj n ab.dead)[i]? =ac[i]?:=λ{i} hi=>⟨Bn hi,Ah hi⟩
 have o:∀ (k g:Nat) v,at' ob k g=some v->at' (ob.take ac.length) k g=some v:=by
  intro k g v f;by_cases e:k<ac.length
  .unfold at' at f⊢;rw [(left e).1];exact f
  .unfold at' at f;cases q:ob[k]? with
   | none=>rw [q] at f;cases f
   | some hs=>
    have:=B k hs o_ q;subst this;rw [q] at f;simp at f
 have alive:∀ {k b:Nat},aM (ob.take ac.length) ac k b->aM ob (ac++Aj n .dead) k b:=λ{k b} ⟨c,hs,m,r,e3,e4⟩=>by have e:=(Ad.1 m).1;exact ⟨c,hs,(left e).2.trans m,r,(left e).1▸e3,e4⟩
 refine ⟨⟨h.imm,by simp;omega,λ k c s=>?_,λ k b l=>h.lt k b (alive l),λ i j b l y=>h.inj i j b (alive l) (alive y)⟩,o,λ{M0 ob0 d w0} hx h0=>⟨hx.imm,hx.new,λ k hs e=>?_,hx.os,hx.tape,hx.output,hx.size,hx.keep,λ k b l=>hx.fresh k b (alive l)⟩⟩
 .have e:=(Ad.1 s).1;obtain ⟨hs,m,p⟩:=h.obj k c ((left e).2.trans s);refine ⟨hs,(left e).1.trans m,?_⟩;cases c with
  | cells T cs=>
   obtain ⟨b,u,C,cv,D,t,x,A⟩:=p;exact ⟨b,u,C,cv,D,t,x,λ i v a f l=>(A i v a f l).monoA o⟩
  | _=>exact p
 .obtain ⟨hs',m,r⟩:=hx.hs k hs e;have z:=(Ad.1 e).1;exact ⟨hs',(left o_).1.trans m,r⟩
def T8(ac:au)(j g:Nat):lP [] ac j g=g:=rfl
def aGH(base:Nat)(ac:au):∀ n,embV [] base ac n=embV [] base [] n:=by
 intro n;induction n with
 | zero=>rfl
 | succ n b=>
  funext a;cases a<;>simp only [embV,T8,b]
def mE(base:Nat)(new:au):au:=new.map (tK [] base [] 0)
def Mem.emb0(h:Mem M ob L w){base:Nat}{new:au}{d:Hs}(R:base+new.length<=L.length)(G:∀ j,j<new.length->ob[base+j]? =some [])
  (p:Ext M [] [] w M' d new w') (Q:Mem M' d new w'):
  Mem M' (ob.take base++d++ob.drop (base+d.length)) (L.take base++mE base new++L.drop (base+(mE base new).length)) w'/\
   Ext M ob L w M' (ob.take base++d++ob.drop (base+d.length)) (L.take base++mE base new++L.drop (base+(mE base new).length)) w'/\
   (∀ n v a,Rep M' d v a->Rep M' (ob.take base++d++ob.drop (base+d.length)) v (AW.embV [] base [] n a)):=by
 have r:d.length=new.length:=Q.len;have A:(mE base new).length=new.length:=by simp [mE]
 obtain ⟨p1,W⟩:=gU ob d base (by rw [h.len,r];exact R);obtain ⟨q1,Z⟩:=gU L (mE base new) base o_;rw [r] at W;rw [A] at Z;have inO:∀ {j:Nat},j<new.length->(ob.take base++d++ob.drop (base+d.length))[base+j]? =d[j]?:=λ{j} m=>by have:=W (base+j);rw [if_pos ⟨by omega,by omega⟩,Gu] at this;rw [r];exact this
 have s:∀ {i:Nat},¬ (base<=i/\i<base+new.length)->(ob.take base++d++ob.drop (base+d.length))[i]? =ob[i]?:=λ{i} I=>by have:=W i;rw [if_neg I] at this;rw [r];exact this
 have inL:∀ {j:Nat},j<new.length->(L.take base++mE base new++L.drop (base+(mE base new).length))[base+j]? =(new[j]?).map (tK [] base [] 0):=λ{j} m=>by have:=Z (base+j);rw [if_pos ⟨by omega,by omega⟩,Gu] at this;rw [A,this];simp [mE]
 have D:∀ {i:Nat},¬ (base<=i/\i<base+new.length)->(L.take base++mE base new++L.drop (base+(mE base new).length))[i]? =L[i]?:=λ{i} I=>by have:=Z i;rw [if_neg I] at this;rw [A];exact this
 have O:∀ {j g:Nat} {v:Value},at' d j g=some v->at' (ob.take base++d++ob.drop (base+d.length)) (fA [] base j) (lP [] [] j g)=some v:=by
  intro j g v K;rw [mR (Ch _),T8];show at' _ (base+j) g=some v;unfold at' at K⊢;cases hq:d[j]? with
  | none=>rw [hq] at K;cases K
  | some hs=>
   have m:j<new.length:=by rw [<-r];exact (Ad.1 hq).1
   rw [inO m];exact K
 have F:∀ n v a,Rep M' d v a->Rep M' (ob.take base++d++ob.drop (base+d.length)) v (AW.embV [] base [] n a):=T6 O λ K _=>O K;have P:dY ob (ob.take base++d++ob.drop (base+d.length)):=by
  intro i hs I;by_cases l:base<=i/\i<base+new.length
  .have e:=G (i-base) o_;rw [show base+(i-base)=i from by omega,I] at e;cases e;have m:i-base<d.length:=o_;refine ⟨d[i-base],?_,List.nil_prefix⟩;have:=inO (j:=i-base) o_;rw [show base+(i-base)=i from by omega] at this;rw [this];simp
  .exact ⟨hs,(s l).trans I,Cw _⟩
 have H:∀ o:ab,(tK [] base [] 0 o).owns=o.owns:=λ o=>by cases o<;>rfl
 have B:∀ {i b:Nat},aM (ob.take base++d++ob.drop (base+d.length)) (L.take base++mE base new++L.drop (base+(mE base new).length)) i b->(∃ j,j<new.length/\i=base+j/\aM d new j b)\/(¬ (base<=i/\i<base+new.length)/\aM ob L i b):=by
  rintro i b ⟨c,hs,z,V,S,e4⟩;by_cases l:base<=i/\i<base+new.length
  .obtain ⟨j,rfl⟩:∃ j,i=base+j:=⟨i-base,by omega⟩
   have m:j<new.length:=o_;rw [inL m] at z;rw [inO m] at S;obtain ⟨o,ho,rfl⟩:=Co.1 z;rw [H] at V;exact .inl ⟨j,m,rfl,o,hs,ho,V,S,e4⟩
  .rw [D l] at z;rw [s l] at S;exact .inr ⟨l,c,hs,z,V,S,e4⟩
 have N:∀ {i b:Nat},aM ob L i b->(∀ j,¬ aM d new j b):=λ{i b} x j m=>by
  rcases p.fresh j b m with ⟨k',c,hs,e,_⟩ | q
  .simp at e
  .have:=h.lt i b x;omega
 have t:∀ b k,¬ aM ([]:Hs) [] k b:=λ b k ⟨c,hs,e,_⟩=>by simp at e
 refine ⟨⟨Q.imm,by rw [r] at p1⊢;rw [A] at q1⊢;rw [p1,q1];exact h.len,λ i c J=>?_,λ i b x=>?_,λ i i' b x hb=>?_⟩,⟨p.imm,λ b o y X=>?_,P,p.os,p.tape,p.output,p.size,λ b hb hn=>p.keep b hb (t b),λ i b x=>?_⟩,F⟩
 .by_cases l:base<=i/\i<base+new.length
  .obtain ⟨j,rfl⟩:∃ j,i=base+j:=⟨i-base,by omega⟩
   have m:j<new.length:=o_;rw [inL m] at J;obtain ⟨o,ho,rfl⟩:=Co.1 J;obtain ⟨hs,z,C⟩:=Q.obj j o ho;refine ⟨hs,(inO m).trans z,?_⟩;cases o with
   | cells T cs=>
    obtain ⟨b,t1,t2,cv,t3,t4,t5,t6⟩:=C;obtain ⟨m1,m2⟩:=cP (F 4) t4 t6;exact ⟨b,t1,t2,cv,t3,m1,t5,m2⟩
   | _=>exact C
  .rw [D l] at J;obtain ⟨hs,z,C⟩:=h.obj i c J;refine ⟨hs,(s l).trans z,C.mono p.imm P (λ b h1 U o Y y X=>?_) (λ b c' h1 U hc'=>?_)⟩
   .have x:aM ob L i b:=(dG J z).2 ⟨h1,U⟩;rcases p.new b o y X with q | q | ⟨k,q⟩
    .exact Y y q
    .have:=h.lt i b x;omega
    .exact t b k q
   .have x:aM ob L i b:=(dG J z).2 ⟨h1,U⟩;rw [p.keep b (h.lt i b x) (t b)];exact hc'
 .rcases B x with ⟨j,m,rfl,f⟩ | ⟨_,f⟩
  .exact Q.lt j b f
  .exact Fh (h.lt i b f) p.size
 .rcases B x with ⟨j,m,rfl,f⟩ | ⟨_,f⟩<;>rcases B hb with ⟨j',hj',rfl,u⟩ | ⟨_,u⟩
  .rw [Q.inj j j' b f u]
  .exact absurd f (N u j)
  .exact absurd u (N f j')
  .exact h.inj i i' b f u
 .rcases p.new b o y X with q | q | ⟨k,q⟩
  .exact .inl q
  .omega
  .exact (t b k q).elim
 .rcases B x with ⟨j,m,rfl,f⟩ | ⟨_,f⟩
  .rcases p.fresh j b f with ⟨k,q⟩ | q
   .exact (t b k q).elim
   omega
  .exact .inl ⟨i,f⟩
end
section
variable {M:Imm} {ob:Hs} {n:Nat}
def mS{k n:Nat}(h:Fp k n=true):k<n:=by simp_all
def mT{k g:Nat}{v:Value}(a:k<n)(h:at' ob k g=some v):at' (ob.take n) k g=some v:=by
 unfold at' at *
 grind
def oZ{f:aa->Bool}:∀ {l:ay},JM f l=true->∀ (i:Nat) a,l[i]? =some a->f a=true
 | [],_,i,a,h=>by simp at h
 | c::r,hb,i,a,h=>by
  simp only [JM,Af] at hb;cases i with
  | zero=>grind
  | succ i=>exact oZ hb.2 i a (by simp_all)
def JL{v:Value}{t:Tk}(h:xY ob v t)(a:aP9 n t=true):xY (ob.take n) v t:=by
 cases t with
 | own k g=>exact mT (mS a) h
 | _=>exact h
def FY:∀ (m:Nat) {v:Value} {a:aa},Rep M ob v a->bel n m a=true->Rep M (ob.take n) v a:=by
 intro m;induction m with
 | zero=>intro v a _ h;cases h
 | succ m s=>
  intro v a h d;cases h with
  | undef v=>exact .undef v
  | bool b=>exact .bool b
  | int k n A=>exact .int k n A
  | str l hl=>exact .str l hl
  | agg vs as hl h=>exact .agg vs as hl λ i v a p f=>s (h i v a p f) (oZ d i a f)
  | tup vs as hl h=>exact .tup vs as hl λ i v a p f=>s (h i v a p f) (oZ d i a f)
  | ptr b o cs h=>exact .ptr b o cs h
  | ref k off b h=>exact .ref k off b (mT (mS d) h)
  | eref k g i e off b n c h=>exact .eref k g i e off b n c (mT (mS d) h)
  | csl k off len e b h hm=>exact .csl k off len e b (mT (mS d) h) hm
  | row k g a n c h=>exact .row k g a n c (mT (mS d) h)
  | sub k g lo len e b n c h hl r j hm=>exact .sub k g lo len e b n c (mT (mS d) h) hl r j hm
  | sub0 k g lo e a z n c h hl j=>exact .sub0 k g lo e a z n c (mT (mS d) h) hl j
  | rowc k g c a n h hm=>exact .rowc k g c a n (mT (mS d) h) hm
  | pre k g n c e b len h j r hl hm=>exact .pre k g n c e b len (mT (mS d) h) j r hl hm
  | mref k b h=>exact .mref k b (mT (mS d) h)
  | nilptr=>exact .nilptr
  | nilslice=>exact .nilslice
  | nilmap=>exact .nilmap
  | nilfunc=>exact .nilfunc
  | nilif=>exact .nilif
  | hsl a n c=>exact .hsl a n c
  | slnil e t q=>exact .slnil e t (JL q d)
  | slemp e t a cap q=>exact .slemp e t a cap (JL q d)
  | sl e b o n cap xs t r j hm hz h q=>exact .sl e b o n cap xs t r j hm hz h (JL q d)
  | func fn y cs x D C j h1 B=>
   obtain ⟨u,w⟩:=bD d;exact .func fn y cs x D C j (λ i v a p f=>s (h1 i v a p f) (oZ u i a f)) (λ i v a p f=>s (B i v a p f) (oZ w i a f))
  | iface t v a h=>exact .iface t v a (s h d)
def HL:∀ (n:Nat) (l:au),rO n l=l.take n
 | 0,_=>by simp [rO]
 | n+1,[]=>by simp [rO]
 | n+1,x::r=>by simp [rO,HL n r]
def UW{n:Nat}:∀ {l:au},KR n l=true->∀ (i:Nat) T cs,l[i]? =some (.cells T cs)->JM (bel n 5) cs=true
 | [],_,i,T,cs,h=>by simp at h
 | x::r,hb,i,T,cs,h=>by
  cases i with
  | zero=>
   simp at h;subst h;simp only [KR,Af] at hb;exact hb.1
  | succ i=>
   refine UW (l:=r) ?_ i T cs (by simp_all);cases x<;>first | exact hb | (simp only [KR,Af] at hb;exact hb.2)
def UX{n:Nat}:∀ {l:ar},aHs n l=true->∀ t,bel n 5 (bG l t)=true\/bG l t= .undef
 | [],_,t=>.inr rfl
 | (i,v)::r,hb,t=>by
  simp only [aHs,Af] at hb;simp only [bG];cases Ba i t with
  | true=>grind
  | false=>exact UX hb.2 t
def Mem.cutO{ac:au}{w:World}(h:Mem M ob ac w)(m:KR n (ac.take n)=true):Mem M (ob.take n) (ac.take n) w/\∀ {k b:Nat},aM (ob.take n) (ac.take n) k b->aM ob ac k b:=by
 have left:∀ {i:Nat} {c:ab},(ac.take n)[i]? =some c->i<n/\ac[i]? =some c:=λ{i c} g=>by
  rw [Gp] at g
  grind
 have alive:∀ {k b:Nat},aM (ob.take n) (ac.take n) k b->aM ob ac k b:=λ{k b} ⟨c,hs,e,e2,e3,e4⟩=>by obtain ⟨l,e⟩:=left e;rw [Bn l] at e3;exact ⟨c,hs,e,e2,e3,e4⟩
 refine ⟨⟨h.imm,by simp [h.len],λ k c g=>?_,λ k b d=>h.lt k b (alive d),λ i j b d m=>h.inj i j b (alive d) (alive m)⟩,alive⟩;obtain ⟨l,o⟩:=left g;obtain ⟨hs,e,f⟩:=h.obj k c o;refine ⟨hs,by rw [Bn l];exact e,?_⟩;cases c with
 | cells T cs=>
  obtain ⟨b,q,u,cv,x,p,s,t⟩:=f;exact ⟨b,q,u,cv,x,p,s,λ i v a r d=>FY 5 (t i v a r d) (oZ (UW m k _ cs g) i a d)⟩
 | _=>exact f
end
def fen(r:Option Nat):Fence:={Fence.wide with round:=r}
def qQ(P:Program)(o:Oper)(ρ:Operand->Value)(w:World)(R:Ending->World->Prop):Prop:=
 (∃ v w',(execOp ρ o).run P w= .ok (.value v) w'/\R (.returned v) w')\/
 (∃ w',(execOp ρ o).run P w= .ok .skip w'/\R (.returned undef) w')\/
 (∃ v w',(execOp ρ o).run P w= .halt (.panic v) w'/\R (.panicked [{v,recovered:=false}]) w')\/
 (∃ f args w',(execOp ρ o).run P w= .ok (.enter f args) w'/\Calls P f args w' λ e a=>R e a/\e≠ .outgrown)\/
 (∃ l f tmps as b w',(execOp ρ o).run P w= .ok (.round l f tmps as b) w'/\RoundIn Fence.wide 0 P l f tmps as b w' λ e a=>R e a/\e≠ .outgrown)
def qQ.wpIn{rd:Option Nat}{P:Program}{o:Oper}{a:Act}{w:World}{R:Ending->World->Prop}(h:qQ P o a.eval w R){next:Act->World->Prop}{Q:Exit->Act->World->Prop}
  (k:∀ c,o.op≠ .defer c) (h1:∀ v w',R (.returned v) w'->next (a.put o.dst v) w') (p:∀ m w',R (.panicked m) w'->Q (.panic m) a w'):o.wpIn (fen rd) 0 P a w next Q:=by
 refine ⟨λ_ _=>trivial,?_⟩;rw [Oper.semAt_eq _ _ _ k];rcases h with ⟨v,w',b,d⟩ | ⟨w',b,d⟩ | ⟨v,w',b,d⟩ | ⟨f,args,w',b,g⟩ | ⟨l,f,tmps,as,q,w',b,g⟩
 .rw [b];exact h1 v w' d
 .rw [b];exact h1 undef w' d
 .rw [b];exact p _ w' d
 .rw [b];refine ⟨λ h=>(by cases h),(callsIn_wide (n:=0)).2 (g.mono λ e j ⟨d,i⟩=>?_)⟩
  grind
 .rw [b];refine ⟨λ h=>(by cases h),RoundIn.mono (F:=Fence.wide) g λ e j ⟨d,i⟩=>?_⟩
  grind
def J3(M:Imm)(ob:Hs)(L:au)(w:World)(K:aa->au->Prop)(Kp:aa->au->Prop)(e:Ending)(w':World):Prop:=
 ∃ M' ob' L',Ext M ob L w M' ob' L' w'/\Mem M' ob' L' w'/\((∃ u v,e= .returned u/\Rep M' ob' u v/\K v L')\/∃ a v,e= .panicked a/\wP M' ob' e (.pan v)/\Kp v L')
section
variable {P:Program} {E:Env} {M M':Imm} {ob ob':Hs} {ac L:au} {w w':World} {K Kp:aa->au->Prop}
def lO.mono{f:FuncId}{d:Array Value}{R c:Ending->World->Prop}(b:∀ e w,R e w->c e w)(h:lO P f d w R):lO P f d w c:=by
 rcases h with ⟨h1,a⟩ | ⟨u,w',h1,a⟩
 .exact .inl ⟨h1,a.mono λ e w h=>b e w h⟩
 .exact .inr ⟨u,w',h1,b _ _ a⟩
def J3.ne{e:Ending}(h:J3 M ob L w K Kp e w'):e≠ .outgrown:=by obtain ⟨_,_,_,_,_,⟨u,v,rfl,_⟩ | ⟨a,v,rfl,_⟩⟩:=h<;>(simp)
def cX.mono{f:Fn}{c:Array Value}{R b:Ending->World->Prop}(a:∀ e w,R e w->b e w)(h:cX P f c w R):cX P f c w b:=by
 cases f with
 | func f=>exact lO.mono a h
 | yield l=>
  obtain ⟨f,tmps,as,d,h1,g⟩:=h;exact ⟨f,tmps,as,d,h1,RoundIn.mono g a⟩
 | _=>exact h.elim
def lO.op{f:Fn}{d:Array Value}{o:Oper}{ρ:Operand->Value}{R:Ending->World->Prop}(a:∀ e w,R e w->e≠ .outgrown)(c:(execOp ρ o).run P w=(JJ f d).run P w)(h:cX P f d w R):qQ P o ρ w R:=by
 cases f with
 | func f=>
  rcases h with ⟨h1,b⟩ | ⟨u,w',h1,b⟩
  .exact .inr (.inr (.inr (.inl ⟨f,d,w,c.trans h1,b.mono λ e w h=>⟨h,a e w h⟩⟩)))
  .exact .inl ⟨u,w',c.trans h1,b⟩
 | yield l=>
  obtain ⟨f,tmps,as,g,h1,b⟩:=h;exact .inr (.inr (.inr (.inr ⟨l,f,tmps,as,g,w,c.trans h1,RoundIn.mono b λ e w h=>⟨h,a e w h⟩⟩)))
 | _=>exact h.elim
def xD{b:Hs}{g:aa->aa}(c:∀ v a,Rep M ob v a->Rep M' b v (g a)){vs:ba}{as:ay}(h:cM M ob vs as):cM M' b vs (eQ g as):=cP c h.1 h.2
def qA(hm:Mem M ob L w){f:Fn}{args:ay}{i:ba}{ks:az}{r:Res}{ao:au}(g:jQ ks L=true)(l:cM M ob i args)
  (h:bT P f (eQ (cvtV 0 ks (aB L) 5) args) (gQ 0 ks L) r ao):
  cX P f i.toArray w λ e w'=>∃ M' b,Ext M ob L w M' (mF ks ob b) (jH ks L.length L 0 ao L) w'/\Mem M' (mF ks ob b) (jH ks L.length L 0 ao L) w'/\wP M' b e r/\b.length=ao.length/\
   ∀ n v a,Rep M' b v a->Rep M' (mF ks ob b) v (embV ks L.length L n a):=by
 obtain ⟨o,_,_⟩:=hm.cvt (n0:=0) g;refine cX.mono (λ e w' ⟨M',b,j,d,c⟩=>?_) (h M _ w i o (xD (λ v a=>hm.cvtV (n0:=0) g 5 v a) l));obtain ⟨k,m,_⟩:=hm.emb g j d;exact ⟨M',b,m,k,c,d.len,hm.embV g j.hs sG⟩
def UR(hm:Mem M ob ac w){f:Fn}{args:ay}{z:ba}(C:cM M ob z args)(h:CallG P f args ac K Kp):cX P f z.toArray w (J3 M ob ac w K Kp):=by
 have mono:∀ {p:Imm},(∀ b o x,M b o x->p b o x)->cM p ob z args:=λ H=>⟨C.1,λ i v a F G=>(C.2 i v a F G).monoM H⟩
 cases h with
 | pure r new h k=>
  obtain ⟨p,l,d,_,s⟩:=hm.frzL args;refine cX.mono (λ e w' ⟨M',g,m,j,c,_,n⟩=>?_) (qA (ks:=[]) l rfl (mono d.imm) h);refine ⟨M',_,_,d.trans m,j,.inl ?_⟩;rw [bW,<-s] at k;cases e with
  | returned u=>exact ⟨u,_,rfl,n 5 u r c,k⟩
  | panicked q=>exact c.elim
  | outgrown=>exact c.elim
 | eff A ks r ao y h k=>
  obtain ⟨p,l,d,_,s⟩:=Mem.frzs A M ac hm;refine cX.mono (λ e w' ⟨M',g,m,j,c,_,n⟩=>?_) (qA l y (mono d.imm) h);refine ⟨M',_,_,d.trans m,j,.inl ?_⟩;rw [bW] at k;cases e with
  | returned u=>exact ⟨u,_,rfl,n 5 u r c,k⟩
  | panicked q=>exact c.elim
  | outgrown=>exact c.elim
 | effp A ks r ao y h k=>
  obtain ⟨p,l,d,_,s⟩:=Mem.frzs A M ac hm;refine cX.mono (λ e w' ⟨M',g,m,j,c,_,n⟩=>?_) (qA l y (mono d.imm) h);refine ⟨M',_,_,d.trans m,j,.inr ?_⟩;rw [bW] at k;cases e with
  | returned u=>exact c.elim
  | panicked q=>
   obtain ⟨v,t,B⟩:=c;exact ⟨q,_,rfl,⟨v,t,n 5 v r B⟩,k⟩
  | outgrown=>exact c.elim
 | pan r h k=>
  obtain ⟨p,l,d,_,s⟩:=hm.frzL args;refine cX.mono (λ e w' ⟨M',g,m,j,c,I,n⟩=>?_) (qA (ks:=[]) l rfl (mono d.imm) h);have D:g=[]:=Bc o_;subst D;refine ⟨M',_,_,d.trans m,j,.inr ?_⟩;cases e with
  | returned u=>exact c.elim
  | panicked q=>
   obtain ⟨v,t,B⟩:=c;exact ⟨q,r,rfl,⟨v,t,B.pure⟩,k⟩
  | outgrown=>exact c.elim
def GY{VS:aa->au->Prop}{CS:Fn->ay->Prop}{PS:aa->Prop}{a:au}{base:Nat}(d:base=aR ac):∀ {r:OR},Sd VS CS PS a base r->orF P ac K Kp r->
  (∃ v,VS v a/\K v ac)\/(∃ k x v,VS v (bX a k x)/\K v (bX ac k x))\/(∃ f args,CS f args/\CallG P f args ac K Kp)\/∃ v,PS v/\Kp v ac
 | .no,_,k=>k.elim
 | .val v,h,k=>.inl ⟨v,h,k⟩
 | .mkf fn fs cs,h,k=>.inl ⟨_,h,k⟩
 | .need p r,h,k=>GY d (h k.1) k.2
 | .alt p v w,h,k=>by
  rcases k with ⟨hp,k⟩ | k
  .exact .inl ⟨v,h.1 hp,k⟩
  .exact .inl ⟨w,h.2,k⟩
 | .idx n f,h,⟨i,hi,k⟩=>GY d (h i hi) k
 | .elem xs i f,h,⟨x,hx,k⟩=>GY d (h x hx) k
 | .byte l i,h,⟨c,hc,k⟩=>.inl ⟨_,h c hc,k⟩
 | .text xs,h,⟨l,hl,hm,k⟩=>.inl ⟨_,h l hl hm,k⟩
 | .find es key f,h,⟨o,ho,k⟩=>by subst ho;exact GY d (r:=f (cG es key)) h k
 | .born x v,h,k=>.inr (.inl ⟨base,x,v,h,by rw [d];exact k⟩)
 | .upd i x v,h,k=>.inr (.inl ⟨i,x,v,h,k⟩)
 | .nilq xs neg,⟨b,h1,h2⟩,k=>.inl ⟨_,h2,k b h1⟩
 | .call f args,h,k=>.inr (.inr (.inl ⟨f,args,h,k⟩))
 | .pan v,h,k=>.inr (.inr (.inr ⟨v,h,k⟩))
def HR(l:au)(n:Nat):aB (l++Aj n .dead)=aB l:=by
 funext i;induction l generalizing i with
 | nil=>
  induction n generalizing i with
  | zero=>rfl
  | succ n a=>
   cases i with
   | zero=>rfl
   | succ i=>have:=a i;simpa [aB,Le] using this
 | cons x r a=>
  cases i with
  | zero=>rfl
  | succ i=>exact a i
def R9(l:au)(x:ab):∀ k,(k<l.length->bX (l++[.dead]) k x=bX l k x++[.dead])/\(l.length<=k->bX (l++[.dead]) k x=bX l k x):=by
 induction l with
 | nil=>
  intro k;refine ⟨λ h=>by simp at h,λ_=>?_⟩;cases k with
  | zero=>rfl
  | succ k=>rfl
 | cons y r a=>
  intro k;cases k with
  | zero=>exact ⟨λ_=>rfl,λ h=>by simp at h⟩
  | succ k=>
   obtain ⟨h1,b⟩:=a k;exact ⟨λ h=>by show y::bX (r++[.dead]) k x=y::(bX r k x++[.dead]);grind,λ h=>by show y::bX (r++[.dead]) k x=y::bX r k x;grind⟩
def aOB{k g:Nat}{v:Value}(h:at' (ob++[[]]) k g=some v):at' ob k g=some v:=by
 unfold at' at *
 by_cases b:k<ob.length
 .rwa [Ah b] at h
 .rw [Al o_] at h;cases a:([[]]:Hs)[k-ob.length]? with
  | none=>grind
  | some hs=>
   rw [a] at h;have:hs=[]:=by have:=Az a;simp_all
   simp_all
def FF(hE:ae E)(hm:Mem M ob ac w){ρv:Operand->Value}{ρ:Operand->aa}(B:∀ x,Rep M ob (ρv x) (ρ x)){hint:Nat}{p:Oper}(h:orF E.P ac K Kp (eop E hint (aR ac) (aB ac) ρ p.op p.type)):
  qQ E.P p ρv w (J3 M ob ac w K Kp):=by
 obtain ⟨dst,op,ty,pos,b,n⟩:=p;obtain ⟨I,A,R⟩:=hm.extend 1;have m:ob.length=ac.length:=hm.len;have s:(ac++Aj 1 ab.dead)[aR ac]? =some .dead:=by rw [bW];simp
 have t:(ob++Aj 1 ([]:ba))[aR ac]? =some []:=by rw [bW,<-m];simp
 have hs:=DC hE I s t (λ x=>(B x).mono (λ_ _ _ h=>h) A.hs) hint op ty;rw [HR] at hs;have L:Aj 1 ab.dead=[.dead]:=rfl
 -- a value,where no number was taken
 have fin:∀ {v:aa} {ao:au},ao.length=ac.length->K v ao->VS E.P ρv op ty M (ob++Aj 1 []) (ac++Aj 1 .dead) w v (ao++Aj 1 .dead)->qQ E.P ⟨dst,op,ty,pos,b,n⟩ ρv w (J3 M ob ac w K Kp):=by
  intro v ao hl j ⟨u,w',M',ob',vs⟩;have l:∀ (i:Nat) hs,ao.length<=i->ob'[i]? =some hs->hs=[]:=by
   intro i hs Q N;have q:=(Ad.1 N).1;rw [vs.mem.len] at q;simp at q;obtain rfl:i=aR ac:=by rw [bW];omega
   have:=(vs.still (aR ac) [] s t).2 rfl (by rw [bW,<-hl];simp)
   grind
  obtain ⟨O,C,F⟩:=vs.mem.shrink l
  have c:J3 M ob ac w K Kp (.returned u) w':=⟨M',_,_,F (A.trans vs.ext) o_,O,.inl ⟨u,v,rfl,vs.rep.monoA C,j⟩⟩
  rcases vs.run dst pos b n with d | ⟨d,rfl⟩
  .exact .inl ⟨u,w',d,c⟩
  .exact .inr (.inl ⟨w',d,c⟩)
 rcases GY (P:=E.P) (K:=K) (Kp:=Kp) rfl hs h with ⟨v,h1,z⟩ | ⟨k,x,v,h1,z⟩ | ⟨f,args,⟨H,y,D⟩,j⟩ | ⟨v,⟨u,d,r⟩,j⟩
 .exact fin rfl z h1
 .rw [L] at h1;by_cases j:k<ac.length
  .rw [(R9 ac x k).1 j] at h1;exact fin (by rw [iR _ j];simp) z h1
  .rw [(R9 ac x k).2 o_] at h1;obtain ⟨u,w',M',ob',vs⟩:=h1
   have c:J3 M ob ac w K Kp (.returned u) w':=⟨M',_,_,A.trans vs.ext,vs.mem,.inl ⟨u,v,rfl,vs.rep,z⟩⟩
   rcases vs.run dst pos b n with d | ⟨d,rfl⟩
   .exact .inl ⟨u,w',d,c⟩
   .exact .inr (.inl ⟨w',d,c⟩)
 .have o:cM M ob H args:=⟨y.1,λ i v a G J=>(y.2 i v a G J).monoA λ k g v=>aOB⟩
  exact lO.op (λ e w h=>h.ne) (D dst pos b n) (UR hm o j)
 .exact .inr (.inr (.inl ⟨u,w,d dst pos b n,M,ob,ac,Ext.refl _ _ _ _,hm,.inr ⟨_,v,rfl,⟨u,rfl,r.pure⟩,j⟩⟩))
end
open Classical
structure AS where
 g:Nat->aa
 o:Nat->ab
 br:Nat->Nat->Prop
def lW(g:Nat->aa)(d:Option Nat)(z:aa):Nat->aa:=λ t=>if d=some t then z else g t
def inB(base n k:Nat):Prop:=base<=k/\k<base+n
noncomputable def qE(o:Nat->ab)(base:Nat)(bs:au):Nat->ab:=λ k=>if inB base bs.length k then bs.getD (k-base) .dead else o k
noncomputable def AS.upd(s:AS)(i:Nat)(d:Option Nat)(z:aa)(base:Nat)(bs:au):AS:=⟨lW s.g d z,qE s.o base bs,λ a k=>s.br a k\/(a=i/\inB base bs.length k)⟩
def W6(tab:az)(j:Nat)(br:Nat->Nat->Prop)(k:Nat):Prop:=∃ i,br i k/\dH (dM tab j) i=false
noncomputable def rI(tab:az)(j:Nat)(s:AS):Nat->ab:=λ k=>if W6 tab j s.br k then .dead else s.o k
def evG(tab:az)(all:bg)(j:Nat)(g:Nat->aa):Operand->aa
 | .tmp t=>bif TG tab j t 0 all then .undef else g t
 | x=>ev [] x
def aN1(tab:az)(all:bg)(j:Nat)(fr:ar):evH tab all j fr=evG tab all j (bG fr):=by funext x;cases x<;>rfl
def aMa(P:Program)(og:Nat->ab)(f:Fn)(args:ay)(z:aa):Prop:=
 ∃ ks ao l,aB l=og/\jQ ks l=true/\ao.length=ks.length/\bT P f (eQ (cvtV 0 ks og 5) args) (gQ 0 ks l) (.ret z) ao/\(∀ b,jH ks b l 0 ao l=l)/\∀ b,embV ks b l 5 z=z
def jJ(P:Program)(og:Nat->ab)(base:Nat)(z:aa)(bs:au):OR->Prop
 | .val v=>z=v/\bs=[]
 | .mkf fn a cs=>z= .func fn a cs/\bs=[]
 | .need p r=>p/\jJ P og base z bs r
 | .alt p v w=>((p/\z=v)\/z=w)/\bs=[]
 | .idx n f=>∃ i:Nat,n=(i:Int)/\jJ P og base z bs (f i)
 | .elem xs i f=>∃ x,xs[i]? =some x/\jJ P og base z bs (f x)
 | .byte l i=>∃ c,l[i]? =some c/\z= .int .u8 (c.toNat:Int)/\bs=[]
 | .text xs=>∃ l:aw,xs=l.map ub/\(l.length:Int)<=9223372036854775807/\z= .str l/\bs=[]
 | .find es key f=>jJ P og base z bs (f (cG es key))
 | .born x v=>z=v/\bs=[x]
 | .call f args=>(∃ r new,bT P f (eQ (cvtV 0 [] og 5) args) [] (.ret r) new/\z=embV [] base [] 5 r/\bs=mE base new)\/(aMa P og f args z/\bs=[])
 | _=>False
def GX{P:Program}{og:Nat->ab}{VS:aa->au->Prop}{CS:Fn->ay->Prop}{PS:aa->Prop}{b:au}{a base:Nat}{z:aa}{bs:au}:∀ {r:OR},Sd VS CS PS b a r->jJ P og base z bs r->
  (VS z b/\bs=[])\/(∃ x,VS z (bX b a x)/\bs=[x])\/(∃ f args d new,CS f args/\bT P f (eQ (cvtV 0 [] og 5) args) [] (.ret d) new/\z=embV [] base [] 5 d/\bs=mE base new)\/∃ f args,CS f args/\aMa P og f args z/\bs=[]
 | .no,_,k=>k.elim
 | .val v,h,⟨k1,k2⟩=>.inl ⟨k1▸h,k2⟩
 | .mkf fn fs cs,h,⟨k1,k2⟩=>.inl ⟨k1▸h,k2⟩
 | .need p r,h,k=>GX (h k.1) k.2
 | .alt p v w,h,⟨k1,k2⟩=>by
  rcases k1 with ⟨hp,k⟩ | k
  .exact .inl ⟨k▸h.1 hp,k2⟩
  .exact .inl ⟨k▸h.2,k2⟩
 | .idx n f,h,⟨i,hi,k⟩=>GX (h i hi) k
 | .elem xs i f,h,⟨x,hx,k⟩=>GX (h x hx) k
 | .byte l i,h,⟨c,hc,k1,k2⟩=>.inl ⟨k1▸h c hc,k2⟩
 | .text xs,h,⟨l,hl,hm,k1,k2⟩=>.inl ⟨k1▸h l hl hm,k2⟩
 | .find es key f,h,k=>GX (r:=f (cG es key)) h k
 | .born x v,h,⟨k1,k2⟩=>.inr (.inl ⟨x,k1▸h,k2⟩)
 | .upd i x v,h,k=>k.elim
 | .nilq xs neg,h,k=>k.elim
 | .call f args,h,.inl ⟨r,new,k1,k2,k3⟩=>.inr (.inr (.inl ⟨f,args,r,new,h,k1,k2,k3⟩))
 | .call f args,h,.inr ⟨k1,k2⟩=>.inr (.inr (.inr ⟨f,args,h,k1,k2⟩))
 | .pan v,h,k=>k.elim
def OB(z:aa)(k:Nat)(x:ab):OR->Prop
 | .need p r=>p/\OB z k x r
 | .idx n f=>∃ i:Nat,n=(i:Int)/\OB z k x (f i)
 | .elem xs i f=>∃ y,xs[i]? =some y/\OB z k x (f y)
 | .find es key f=>OB z k x (f (cG es key))
 | .upd a x' v=>a=k/\x'=x/\z=v
 | _=>False
def AQ{VS:aa->au->Prop}{CS:Fn->ay->Prop}{PS:aa->Prop}{a:au}{base:Nat}{z:aa}{k:Nat}{x:ab}:∀ {r:OR},Sd VS CS PS a base r->OB z k x r->VS z (bX a k x)
 | .no,_,h=>h.elim
 | .val v,_,h=>h.elim
 | .mkf fn fs cs,_,h=>h.elim
 | .need p r,h,u=>AQ (h u.1) u.2
 | .alt p v w,_,h=>h.elim
 | .idx n f,h,⟨i,hi,u⟩=>AQ (h i hi) u
 | .elem xs i f,h,⟨y,hy,u⟩=>AQ (h y hy) u
 | .byte l i,_,h=>h.elim
 | .text xs,_,h=>h.elim
 | .find es key f,h,u=>AQ (r:=f (cG es key)) h u
 | .born x v,_,h=>h.elim
 | .upd i y v,h,⟨e1,e2,e3⟩=>by subst e1 e2 e3;exact h
 | .nilq xs neg,_,h=>h.elim
 | .call f args,_,h=>h.elim
 | .pan v,_,h=>h.elim
def pD{P:Program}{og:Nat->ab}{b base hint a:Nat}{e:TypeId}{xs:ay}{z:aa}:¬ jJ P og b z [] (tN hint base a e xs):=by unfold tN;split<;>(intro h;have:=h.2;cases this)
def UG{P:Program}{og:Nat->ab}{b:Nat}{c:Bool}{r:OR}{z:aa}{bs:au}(h:jJ P og b z bs (bif c then r else .no)):jJ P og b z bs r:=by
 cases c with
 | true=>exact h
 | false=>exact h.elim
def aCu{P:Program}{E:Env}{og:Nat->ab}{b base d hint:Nat}{ρ:Operand->aa}{op:Op}{ty:TypeId}{z:aa}:jJ P og b z [] (oS E hint base og ρ op ty)->jJ P og b z [] (oS E hint d og ρ op ty):=by
 have l:∀ (t j:Nat) (x y:aa),jJ P og b z [] (xL E hint base og t j x y)->jJ P og b z [] (xL E hint d og t j x y):=by
  intro t j x y;unfold xL;split
  .rename_i e a u _ _ _ _;cases Gd 1 a with
   | false=>exact id
   | true=>
    simp only [cond_true];split
    .exact id
    .split
     .split
      .exact id
      .rename_i k _ _;cases Ba k a with
       | false=>exact id
       | true=>exact λ h=>(pD h.2).elim
      .rename_i k _ _;cases Ba k a with
       | false=>exact id
       | true=>
             intro h;refine ⟨h.1,?_⟩;have g:=h.2;clear h;split at g
             .exact g
             .exact g
             .exact (pD g.2).elim
      .exact id
     .exact λ h=>(pD h.2).elim
     .exact id
     .exact id
     .exact id
  .exact id
 cases op
 case assign x=>
  simp only [oS];split
  .exact id
  .split
   .split
    .split
     .split
      .exact λ h=>(pD (UG h)).elim
      .exact id
     .exact id
    .exact id
   .exact id
 case alloc t=>
  simp only [oS];split
  .rename_i m _;cases sW m.zero.cells with
   | false=>exact id
   | true=>intro h;have:=h.2;cases this
  .exact id
 case box t x=>
  simp only [oS];cases sW (ρ x).cells with
  | false=>exact id
  | true=>intro h;have:=h.2;cases this
 case buildSlice t n ps=>
  simp only [oS];unfold pW;split
  .rename_i e a _ _ _ _ _;cases (Ba (aES (evL ρ ps.toList)) n&&Gd (n*a) 1000&&Gd 1 a) with
   | false=>exact id
   | true=>
    simp only [cond_true];split
    .split
     .exact id
     .exact λ h=>(pD h).elim
    .exact id
  .exact id
 case makeSlice t x y=>
  simp only [oS];unfold aA1;split
  .split
   .rename_i p _;intro h;cases o:(Gd 1 _&&HT (ah (λ_=>.dead) 4 p.zero)) with
    | false=>simp_all
    | true=>
     rw [o] at h;obtain ⟨i,_,_,h⟩:=h;have:=h.2;cases this
   .exact id
  .exact id
 case makeMap t x=>
  cases x with
  | some x=>exact id
  | none=>
   simp only [oS];split
   .split
    .intro h;have:=h.2;cases this
    .exact id
   .exact id
 case call c=>
  obtain ⟨callee,args,q⟩:=c;cases callee with
  | value f=>exact id
  | invoke r n=>exact id
  | builtin s=>
   simp only [oS];split
   .exact id
   .exact id
   .exact id
   .grind
   .exact id
   .exact id
   .exact id
   .exact id
 all_goals exact id
def aKA{P:Program}{og:Nat->ab}{b:Nat}{z:aa}{n:Int}{p:Nat->Prop}{x:Nat->ab}{v:aa}:¬ jJ P og b z [] (.idx n λ y=>.need (p y) (.born (x y) v)):=by rintro ⟨i,_,_,h⟩;have:=h.2;cases this
def aGC{P:Program}{E:Env}{og:Nat->ab}{b base a hint:Nat}{ρ:Operand->aa}{op:Op}{ty:TypeId}{z:aa}:jJ P og b z [] (eop E hint base og ρ op ty)->jJ P og b z [] (eop E hint a og ρ op ty):=by
 unfold eop;have d:(∃ r,nW E hint base og ρ op=some r/\nW E hint a og ρ op=some r)\/(nW E hint base og ρ op=none/\nW E hint a og ρ op=none)\/∃ r,nW E hint base og ρ op=some r/\¬ jJ P og b z [] r:=by
  have same:∀ {o:Option OR},nW E hint base og ρ op=o->nW E hint a og ρ op=o->(∃ r,nW E hint base og ρ op=some r/\nW E hint a og ρ op=some r)\/(nW E hint base og ρ op=none/\nW E hint a og ρ op=none)\/∃ r,nW E hint base og ρ op=some r/\¬ jJ P og b z [] r:=λ{o} h1 e=>by
   cases o with
   | none=>grind
   | some r=>grind
  cases op with
  | call c=>
   obtain ⟨callee,args,k⟩:=c;cases callee with
   | value f=>exact same rfl rfl
   | invoke r n=>exact same rfl rfl
   | builtin g=>
    cases g with
    | append=>
     simp only [nW];split
     .split
      .refine .inr (.inr ⟨_,rfl,?_⟩);unfold aAY;split
       .split
        .intro h;exact aKA (UG h)
        .exact λ h=>h.elim
       .exact λ h=>h.elim
      simp
     simp
    | _=>exact same rfl rfl
  | slice t x lo i j=>cases lo<;>cases i<;>cases j<;>exact same rfl rfl
  | _=>exact same rfl rfl
 rcases d with ⟨r,h1,e⟩ | ⟨h1,e⟩ | ⟨r,h1,e⟩
 .grind
 .rw [h1,e];exact aCu
 grind
def E6:au->Nat->au->au
 | ac,_,[]=>ac
 | ac,base,x::r=>E6 (bX ac base x) (base+1) r
def MU(base:Nat)(a:au):∀ (new:au) (j:Nat) (ac:au),jH [] base a j new ac=E6 ac (base+j) (mE base new)
 | [],j,ac=>rfl
 | x::r,j,ac=>by
  have e:fA [] base j=base+j:=by rfl
  have b:tK [] base a j x=tK [] base [] 0 x:=by rfl
  simp only [jH,mE,Bj,E6];rw [MU base a r (j+1),e,b];rfl
def vV{P:Program}{m bl:Bool}{b ac:au}{base:Nat}{K Kp:aa->au->Prop}:∀ {r:OR},orD P false m bl b ac base K Kp r->
  (∃ z bs,(bl=true->bs=[])/\jJ P (aB b) base z bs r/\K z (E6 ac base bs))\/∃ z k x,m=true/\aB b k≠ .dead/\OB z k x r/\K z (bX ac k x)
 | .no,k=>k.elim
 | .val v,k=>.inl ⟨v,[],λ_=>rfl,⟨rfl,rfl⟩,k⟩
 | .mkf fn fs cs,k=>.inl ⟨_,[],λ_=>rfl,⟨rfl,rfl⟩,k⟩
 | .need p r,⟨hp,k⟩=>by
  rcases vV k with ⟨z,bs,d,h1,a⟩ | ⟨z,g,x,d,h1,a,h3⟩
  .exact .inl ⟨z,bs,d,⟨hp,h1⟩,a⟩
  .exact .inr ⟨z,g,x,d,h1,⟨hp,a⟩,h3⟩
 | .alt p v w,k=>by
  rcases k with ⟨hp,k⟩ | k
  .exact .inl ⟨v,[],λ_=>rfl,⟨.inl ⟨hp,rfl⟩,rfl⟩,k⟩
  .exact .inl ⟨w,[],λ_=>rfl,⟨.inr rfl,rfl⟩,k⟩
 | .idx n f,⟨i,j,k⟩=>by
  rcases vV k with ⟨z,bs,d,h1,a⟩ | ⟨z,g,x,d,h1,a,h3⟩
  .exact .inl ⟨z,bs,d,⟨i,j,h1⟩,a⟩
  .exact .inr ⟨z,g,x,d,h1,⟨i,j,a⟩,h3⟩
 | .elem xs i f,⟨y,hy,k⟩=>by
  rcases vV k with ⟨z,bs,d,h1,a⟩ | ⟨z,g,x,d,h1,a,h3⟩
  .exact .inl ⟨z,bs,d,⟨y,hy,h1⟩,a⟩
  .exact .inr ⟨z,g,x,d,h1,⟨y,hy,a⟩,h3⟩
 | .byte l i,⟨c,hc,k⟩=>.inl ⟨_,[],λ_=>rfl,⟨c,hc,rfl,rfl⟩,k⟩
 | .text xs,⟨l,hl,hm,k⟩=>.inl ⟨_,[],λ_=>rfl,⟨l,hl,hm,rfl,rfl⟩,k⟩
 | .find es key f,⟨o,ho,k⟩=>by
  subst ho;rcases vV k with ⟨z,bs,d,h1,a⟩ | ⟨z,g,x,d,h1,a,h3⟩
  .exact .inl ⟨z,bs,d,h1,a⟩
  .exact .inr ⟨z,g,x,d,h1,a,h3⟩
 | .born x v,k=>by
  cases bl with
  | true=>exact k.elim
  | false=>exact .inl ⟨v,[x],(λ h=>nomatch h),⟨rfl,rfl⟩,k⟩
 | .upd i x v,k=>by
  simp only [orD,Nh] at k;split at k
  .rename_i h;obtain ⟨h1,a⟩:=bD h;exact .inr ⟨v,i,x,h1,(λ e=>by rw [e] at a;cases a),⟨rfl,rfl,rfl⟩,k⟩
  grind
 | .nilq xs neg,k=>k.elim
 | .call f args,k=>by
  cases bl with
  | true=>exact k.elim
  | false=>
   have k:CallD P f args false b base ac K Kp:=k;cases k with
   | pure r new h k=>exact .inl ⟨_,_,(λ h=>nomatch h),.inl ⟨r,new,h,rfl,rfl⟩,by rw [MU,Fx] at k;rw [aGH] at k;exact k⟩
   | sole h=>cases h
   | look ks r o q hl h j hz k=>exact .inl ⟨r,[],λ_=>rfl,.inr ⟨⟨ks,o,b,rfl,q,hl,h,j,hz⟩,rfl⟩,k⟩
 | .pan v,k=>k.elim
def xB(l:au)(n k:Nat)(x:ab):aB (bX l n x) k=if k=n then x else aB l k:=by
 induction l generalizing n k with
 | nil=>
  induction n generalizing k with
  | zero=>cases k<;>rfl
  | succ n a=>
   cases k with
   | zero=>rfl
   | succ k=>show aB (bX [] n x) k=_;rw [a];simp [aB]
 | cons y r a=>
  cases n with
  | zero=>cases k<;>simp [bX,aB]
  | succ n=>
   cases k with
   | zero=>simp [bX,aB]
   | succ k=>simp only [bX,aB,a];simp
def aAn{l m:au}(h:aB l=aB m):∀ ks,jQ ks l=jQ ks m
 | []=>rfl
 | k::r=>by unfold jQ;rw [h,aAn h r]
def aIm{l m:au}(h:aB l=aB m){ks:az}:gQ 0 ks l=gQ 0 ks m:=by
 have e:∀ j x,KP 0 ks l j x=KP 0 ks m j x:=λ j x=>by cases x<;>simp only [KP,h]
 have:∀ (r:az) (j:Nat),vG 0 ks l j r=vG 0 ks m j r:=λ r=>by
  induction r with
  | nil=>intro j;rfl
  | cons k r a=>intro j;simp only [vG,e,h,a]
 exact this ks 0
def aA0{l m:au}(h:aB l=aB m){ks:az}(j g:Nat):lP ks l j g=lP ks m j g:=by unfold lP;rw [h]
def PL{l m:au}(h:aB l=aB m){ks:az}{b:Nat}:∀ n v,embV ks b l n v=embV ks b m n v
 | 0,_=>rfl
 | n+1,v=>by have a:embV ks b l n=embV ks b m n:=funext (PL h n);cases v<;>simp only [embV,aA0 h,a]
def aAZ{l m:au}(h:aB l=aB m){ks:az}{b:Nat}:∀ (o:au) (j:Nat) (x y:au),aB x=aB y->aB (jH ks b l j o x)=aB (jH ks b m j o y)
 | [],_,_,_,e=>e
 | c::r,j,x,y,e=>by
  have d:tK ks b l j c=tK ks b m j c:=by have a:embV ks b l 4=embV ks b m 4:=funext (PL h 4);cases c<;>simp only [tK,aA0 h,a]
  unfold jH;refine aAZ h r (j+1) _ _ ?_;rw [d];funext k;rw [xB,xB,e]
def T7{l:au}{ks:az}{b:Nat}(d:∀ (j k:Nat),ks[j]? =some k->k<l.length):∀ (o:au) (j:Nat) (x:au),j+o.length<=ks.length->x.length=l.length->(jH ks b l j o x).length=l.length
 | [],_,_,_,e=>e
 | c::r,j,x,h,e=>by rw [Ak] at h;have a:ks[j]? =some ks[j]:=Ac o_;unfold jH;refine T7 d r (j+1) _ o_ ?_;rw [jY a,iR _ (by rw [e];exact d j _ a),Dt,e]
section
variable {P:Program} {E:Env} {M:Imm} {ob:Hs} {L:au} {w:World}
def gJ(l:au)(k:Nat):(k<l.length/\l[k]? =some (aB l k))\/(l.length<=k/\l[k]? =none/\aB l k= .dead):=by
 by_cases h:k<l.length
 .exact .inl ⟨h,rS h⟩
 .refine .inr ⟨by omega,Bm o_,?_⟩;cases a:aB l k with
  | dead=>rfl
  | _=>exact absurd (Ad.1 (bP a s_)).1 h
noncomputable def cU(hid:Nat->Prop)(L:au):au:=(Du L.length).map λ k=>if hid k then .dead else aB L k
def LD{hid:Nat->Prop}{k:Nat}(h:k<L.length):(cU hid L)[k]? =some (if hid k then .dead else aB L k):=by simp [cU,Dr h]
def eS{hid:Nat->Prop}:(cU hid L).length=L.length:=by simp [cU]
def iN{hid:Nat->Prop}:YR (cU hid L) L:=⟨eS,λ k=>by
 rcases gJ L k with ⟨h,e⟩ | ⟨h,e,_⟩
 .rw [LD h,e]
  grind
 .left;rw [e,Bm (by rw [eS];omega)]⟩
def iO{hid:Nat->Prop}:aB (cU hid L)=λ k=>if hid k then .dead else aB L k:=by
 funext k;rcases gJ L k with ⟨h,e⟩ | ⟨h,e,b⟩
 .exact jF (LD h)
 .rcases gJ (cU hid L) k with ⟨a,_⟩ | ⟨_,_,c⟩
  .rw [eS] at a;omega
  grind
def YV(M:Imm)(ob:Hs)(L:au)(w:World)(z:aa)(base:Nat)(bs:au)(e:Ending)(w':World):Prop:=
 ∃ M' ob' L' u,e= .returned u/\Ext M ob L w M' ob' L' w'/\Mem M' ob' L' w'/\aB L'=qE (aB L) base bs/\L.length<=L'.length/\Rep M' ob' u z/\∀ (k:Nat),¬ inB base bs.length k->(∀ hs,ob[k]? =some hs->hs=[])->∀ hs,ob'[k]? =some hs->hs=[]
def aOe(hE:ae E)(hm:Mem M ob L w){hid:Nat->Prop}{ρv:Operand->Value}{ρ:Operand->aa}(hρ:∀ x,Rep M ob (ρv x) (ρ x)){hint base:Nat}{p:Oper}{z:aa}{bs:au}
  (H:∀ (k:Nat),inB base bs.length k->∀ hs,ob[k]? =some hs->hs=[])
  (h:jJ E.P (aB (cU hid L)) base z bs (eop E hint base (aB (cU hid L)) ρ p.op p.type)):qQ E.P p ρv w (YV M ob L w z base bs):=by
 obtain ⟨dst,op,ty,pos,i,T⟩:=p
 -- room
 obtain ⟨n,hn⟩:∃ n,base+bs.length+1<=L.length+n/\0<n:=⟨base+bs.length+1,by omega,by omega⟩
 obtain ⟨hn,hn0⟩:=hn;obtain ⟨F,V,m3⟩:=hm.extend n;have U:(L++Aj n ab.dead).length=L.length+n:=by simp
 have hob1:(ob++Aj n ([]:ba)).length=L.length+n:=by simp [hm.len]
 generalize hL1:L++Aj n ab.dead=L1 at F V m3 U;generalize hO1:ob++Aj n ([]:ba)=ob1 at F V m3 hob1;have J:aB L1=aB L:=by rw [<-hL1];exact HR L n
 have d:∀ k,(∀ hs,ob[k]? =some hs->hs=[])->k<L1.length->ob1[k]? =some []:=λ k r s=>by
  rw [<-hO1];by_cases Q:k<ob.length
  .rw [Ah Q,Ac Q,r _ (Ac Q)]
  .rw [Al o_,Fe,if_pos (by rw [hm.len] at Q⊢;omega)]
 have y:aB (cU hid L1)=aB (cU hid L):=by rw [iO,iO,J]
 -- where it would be born
 obtain ⟨m,I,hbb,A,h⟩:∃ m,ob1[m]? =some []/\(bs≠[]->m=base)/\m<L1.length/\jJ E.P (aB (cU hid L)) base z bs (eop E hint m (aB (cU hid L)) ρ op ty):=by
  by_cases hbs:bs=[]
  .subst hbs;exact ⟨L.length,d _ (λ hs t=>by have:=(Ad.1 t).1;rw [hm.len] at this;omega) o_,λ h=>absurd rfl h,by omega,aGC h⟩
  .have hpos:0<bs.length:=by cases bs<;>simp at hbs⊢
   exact ⟨base,d base (H base ⟨Bh _,by omega⟩) o_,λ_=>rfl,by omega,h⟩
 have X:=F.weak (iN (hid:=hid));have hb1:(cU hid L1)[m]? =some .dead:=X.idle I;have hs:=DC hE X hb1 I (λ x=>(hρ x).mono (λ_ _ _ h=>h) V.hs) hint op ty;rw [y] at hs;have live:∀ {k:Nat} {c:ab},L1[k]? =some c->(cU hid L1)[k]? =some c\/((cU hid L1)[k]? =some .dead/\(∃ hs,ob1[k]? =some hs/\hs≠[])/\L1[k]? =some c):=λ{k c} G=>by
  rcases (iN (hid:=hid) (L:=L1)).2 k with q | q
  .left;rw [q];exact G
  .by_cases hd:c= .dead
   .left;rw [q,hd]
   .right;exact ⟨q,F.live G hd,G⟩
 have fin:∀ {u:Value} {w':World},YV M ob L w z base bs (.returned u) w'->((execOp ρv ⟨dst,op,ty,pos,i,T⟩).run E.P w= .ok (.value u) w'\/((execOp ρv ⟨dst,op,ty,pos,i,T⟩).run E.P w= .ok .skip w'/\u=undef))->qQ E.P ⟨dst,op,ty,pos,i,T⟩ ρv w (YV M ob L w z base bs):=by
  intro u w' ha hr;rcases hr with hr | ⟨hr,rfl⟩
  .exact .inl ⟨u,w',hr,ha⟩
  .exact .inr (.inl ⟨w',hr,ha⟩)
 rcases GX (P:=E.P) hs h with ⟨⟨u,w',M',ob',vs⟩,rfl⟩ | ⟨x,⟨u,w',M',ob',vs⟩,rfl⟩ | ⟨f,args,r0,new,⟨va,Z,hx⟩,K,rfl,rfl⟩ | ⟨f,args,⟨va,Z,hx⟩,⟨ks,o,l,hl,r,hol,K,hi,hz⟩,rfl⟩
 .obtain ⟨S,v2,v3⟩:=F.revive (ao:=L1) (iN (hid:=hid)) vs.ext vs.still vs.mem (by rw [eS]) λ k c G=>live G;refine fin ⟨M',ob',L1,u,rfl,V.trans v2,S,?_,by omega,vs.rep,λ k r W hs t=>?_⟩ (vs.run dst pos i T)
  .rw [J];funext k;unfold qE;rw [if_neg λ h=>by have:=h.2;have:=h.1;simp at *;omega]
  .have s:k<L1.length:=by rw [<-S.len];exact (Ad.1 t).1
   have e:=d k W s;have hd:=F.idle e;have:=(v3 k [] hd e).2 rfl hd;rw [t] at this;cases this;rfl
 .obtain rfl:base=m:=(hbb s_).symm;have g:bX L1 base x=L1.set base x:=iR x A;have B:bX (cU hid L1) base x=(cU hid L1).set base x:=iR x (by rw [eS];exact A);obtain ⟨S,v2,v3⟩:=F.revive (ao:=bX L1 base x) (iN (hid:=hid)) vs.ext vs.still vs.mem (by rw [g,B];simp [eS]) λ k c G=>by
   by_cases r:k=base
   .subst r;left;rw [g,Ay A] at G;rw [B,Ay (by rw [eS];exact A)];exact G
   .rw [g,Bf (Fa r)] at G;rw [B,Bf (Fa r)];exact live G
  refine fin ⟨M',ob',bX L1 base x,u,rfl,V.trans v2,S,?_,by rw [g];simp;omega,vs.rep,λ k r W hs t=>?_⟩ (vs.run dst pos i T)
  .funext k;unfold qE;by_cases r:k=base
   .subst r;rw [if_pos ⟨Bh _,by simp⟩,g];rw [jF (Ay A)];simp
   .rw [if_neg λ h=>r (by have h1:=h.1;have h2:=h.2;simp at h2;omega),<-J,g];rcases gJ L1 k with ⟨h1,N⟩ | ⟨h1,N,R⟩
    .exact jF (by rw [Bf (Fa r)];exact N)
    .rcases gJ (L1.set base x) k with ⟨h3,_⟩ | ⟨_,_,O⟩
     .simp at h3;omega
     .rw [O,R]
  .have hkb:k≠base:=λ e=>r ⟨by omega,by simp;omega⟩;have s:k<L1.length:=by have:=(Ad.1 t).1;rw [S.len,g] at this;simpa using this
   have e:=d k W s;have hd:=F.idle e;have:=(v3 k [] hd e).2 rfl (by rw [g,Bf (Fa hkb)];exact hd);rw [t] at this;cases this;rfl
 .rw [<-y] at K;have C:=xD (λ v a=>X.cvtV (n0:=0) (ks:=[]) rfl 5 v a) Z;have hnl:(mE base new).length=new.length:=by simp [mE]
  refine lO.op (λ e w ⟨_,_,_,u,t,_⟩=>by rw [t];simp) (hx dst pos i T) (cX.mono (λ e w' ⟨M',obK,x1,x2,Y⟩=>?_) (K M [] w va F.bare C));have hin:∀ j,j<new.length->ob1[base+j]? =some []:=λ j hj=>d _ (H _ ⟨by omega,by omega⟩) o_;obtain ⟨N,R,O⟩:=F.emb0 o_ hin x1 x2;obtain ⟨q1,q2⟩:=gU L1 (mE base new) base o_;obtain ⟨p1,p2⟩:=gU ob1 obK base (by rw [x2.len];omega);cases e with
  | panicked ch=>exact Y.elim
  | outgrown=>exact Y.elim
  | returned u=>
   refine ⟨M',_,_,u,rfl,V.trans R,N,?_,by omega,O 5 u r0 Y,λ k r W hs t=>?_⟩
   .funext k;unfold qE;by_cases r:inB base (mE base new).length k
    .rw [if_pos r];have s:k-base<(mE base new).length:=by have:=r.1;have:=r.2;omega
     refine jF ?_;rw [q2,if_pos (show base<=k/\k<base+(mE base new).length from r),Fk,Ac s];rfl
    .rw [if_neg r,<-J];rcases gJ L1 k with ⟨h1,N⟩ | ⟨h1,N,R⟩
     .exact jF (by rw [q2,if_neg (show ¬ (base<=k/\k<base+(mE base new).length) from r)];exact N)
     .rcases gJ (L1.take base++mE base new++L1.drop (base+(mE base new).length)) k with ⟨h3,_⟩ | ⟨_,_,O⟩
      .omega
      .rw [O,R]
   .rw [p2,if_neg (show ¬ (base<=k/\k<base+obK.length) from by rw [x2.len,<-hnl];exact r)] at t;have s:k<L1.length:=by rw [<-F.len];exact (Ad.1 t).1
    rw [d k W s] at t;cases t;rfl
 .have D:aB l=aB (cU hid L1):=hl.trans y.symm;rw [<-y,aIm D] at K;rw [aAn D] at r;obtain ⟨c1,_,_⟩:=X.cvt (n0:=0) r;have C:=xD (λ v a=>X.cvtV (n0:=0) r 5 v a) Z;refine lO.op (λ e w ⟨_,_,_,u,t,_⟩=>by rw [t];intro h;cases h) (hx dst pos i T) (cX.mono (λ e w' ⟨M',obK,x1,x2,Y⟩=>?_) (K M _ w va c1 C));obtain ⟨N,R,O⟩:=X.emb r x1 x2;have hL2:jH ks (cU hid L1).length (cU hid L1) 0 o (cU hid L1)=cU hid L1:=by
   have h1:=aAZ D (ks:=ks) (b:=(cU hid L1).length) o 0 l (cU hid L1) D;rw [hi] at h1;have h2:=T7 (l:=cU hid L1) (ks:=ks) (b:=(cU hid L1).length) (λ j k hj=>(Ad.1 (fS ((oL r).1 j k hj))).1) o 0 (cU hid L1) o_ rfl;refine Ek λ n=>?_;by_cases hn:n<(cU hid L1).length
   .rw [rS hn,rS (by rw [h2];exact hn),<-h1,D]
   .rw [Bm o_,Bm o_]
  rw [hL2] at N R O;cases e with
  | panicked ch=>exact Y.elim
  | outgrown=>exact Y.elim
  | returned u=>
   have hu:=X.embV r x1.hs sG 5 u z Y;rw [<-PL D,hz] at hu;obtain ⟨S,v2,v3⟩:=F.revive (ao:=L1) (iN (hid:=hid)) R (λ k hs h1 h2=>⟨λ_=>O k hs h1 h2,λ e _=>e▸(O k hs h1 h2).2⟩) N (by rw [eS]) λ k c G=>live G;refine ⟨M',_,L1,u,rfl,V.trans v2,S,?_,by omega,hu,λ k r W hs t=>?_⟩
   .rw [J];funext k;unfold qE;rw [if_neg λ h=>by have:=h.2;have:=h.1;simp at *;omega]
   .have s:k<L1.length:=by rw [<-S.len];exact (Ad.1 t).1
    have e:=d k W s;have hd:=F.idle e;have:=(v3 k [] hd e).2 rfl hd;rw [t] at this;cases this;rfl
def aHP(M:Imm)(ob:Hs)(L:au)(w:World)(z:aa)(k:Nat)(x:ab)(e:Ending)(w':World):Prop:=
 ∃ M' ob' L' u,e= .returned u/\Ext M ob L w M' ob' L' w'/\Mem M' ob' L' w'/\(aB L'=λ a=>if a=k then x else aB L a)/\L.length<=L'.length/\Rep M' ob' u z/\∀ (a:Nat),(∀ hs,ob[a]? =some hs->hs=[])->∀ hs,ob'[a]? =some hs->hs=[]
def aKW(hE:ae E)(hm:Mem M ob L w){hid:Nat->Prop}{ρv:Operand->Value}{ρ:Operand->aa}(T:∀ x,Rep M ob (ρv x) (ρ x)){hint base:Nat}{p:Oper}{z:aa}{k:Nat}{x:ab}
  (o:∀ hs,ob[base]? =some hs->hs=[]) (D:aB (cU hid L) k≠ .dead) (h:OB z k x (eop E hint base (aB (cU hid L)) ρ p.op p.type)):qQ E.P p ρv w (aHP M ob L w z k x):=by
 obtain ⟨dst,op,ty,pos,r,U⟩:=p
 obtain ⟨n,hn,V⟩:∃ n,base+1<=L.length+n/\0<n:=⟨base+1,by omega,by omega⟩
 obtain ⟨t,F,Q⟩:=hm.extend n;have s:(L++Aj n ab.dead).length=L.length+n:=by simp
 have y:(ob++Aj n ([]:ba)).length=L.length+n:=by simp [hm.len]
 generalize I:L++Aj n ab.dead=L1 at t F Q s;generalize G:ob++Aj n ([]:ba)=ob1 at t F Q y;have C:aB L1=aB L:=by rw [<-I];exact HR L n
 have g:∀ k,(∀ hs,ob[k]? =some hs->hs=[])->k<L1.length->ob1[k]? =some []:=λ k D B=>by
  rw [<-G];by_cases b:k<ob.length
  .rw [Ah b,Ac b,D _ (Ac b)]
  .rw [Al o_,Fe,if_pos (by rw [hm.len] at b⊢;omega)]
 have d:aB (cU hid L1)=aB (cU hid L):=by rw [iO,iO,C]
 have i:=g base o o_;have R:=t.weak (iN (hid:=hid));have J:(cU hid L1)[base]? =some .dead:=R.idle i;have hs:=DC hE R J i (λ x=>(T x).mono (λ_ _ _ h=>h) F.hs) hint op ty;rw [d] at hs;have live:∀ {k:Nat} {c:ab},L1[k]? =some c->(cU hid L1)[k]? =some c\/((cU hid L1)[k]? =some .dead/\(∃ hs,ob1[k]? =some hs/\hs≠[])/\L1[k]? =some c):=λ{k c} m=>by
  rcases (iN (hid:=hid) (L:=L1)).2 k with q | q
  .left;rw [q];exact m
  .by_cases hd:c= .dead
   .left;rw [q,hd]
   .right;exact ⟨q,t.live m hd,m⟩
 have b:k<L1.length:=by have:=bP (l:=cU hid L1) (n:=k) rfl (by rw [d];exact D);have:=(Ad.1 this).1;rwa [eS] at this
 obtain ⟨u,w',M',ob',vs⟩:=AQ hs h;have f:bX (cU hid L1) k x=(cU hid L1).set k x:=iR x (by rw [eS];exact b);obtain ⟨O,X,Z⟩:=t.revive (ao:=L1.set k x) (iN (hid:=hid)) vs.ext vs.still vs.mem (by rw [f];simp [eS]) λ j c m=>by
  by_cases a:j=k
  .subst a;left;rw [Ay b] at m;rw [f,Ay (by rw [eS];exact b)];exact m
  .rw [Bf (Fa a)] at m;rw [f,Bf (Fa a)];exact live m
 have A:aHP M ob L w z k x (.returned u) w':=by
  refine ⟨M',ob',L1.set k x,u,rfl,F.trans X,O,?_,by simp;omega,vs.rep,λ j W hs S=>?_⟩
  .funext j;by_cases a:j=k
   .subst a;rw [if_pos rfl];exact jF (Ay b)
   .rw [if_neg a,<-C];rcases gJ L1 j with ⟨h1,N⟩ | ⟨h1,N,K⟩
    .exact jF (by rw [Bf (Fa a)];exact N)
    .rcases gJ (L1.set k x) j with ⟨h3,_⟩ | ⟨_,_,Y⟩
     .simp at h3;omega
     .rw [Y,K]
  .have B:j<L1.length:=by have:=(Ad.1 S).1;rw [O.len] at this;simpa using this
   have e:=g j W B;have hd:=t.idle e;have a:j≠k:=λ K=>by
    subst K;refine D ?_;rw [<-d,iO];dsimp only;split
    .rfl
    .exact jF hd
   have:=(Z j [] hd e).2 rfl (by rw [Bf (Fa a)];exact hd);rw [S] at this;cases this;rfl
 rcases vs.run dst pos r U with H | ⟨H,rfl⟩
 .exact .inl ⟨u,w',H,A⟩
 .exact .inr (.inl ⟨w',H,A⟩)
end
noncomputable def oC(E:Env)(tab:az)(i:Nat)(d:Option Nat)(s:AS):Nat->ab:=if blD E d=true then λ_=>.dead else rI tab i s
def Y(E:Env)(all:bg)(tab:az)(L0 i:Nat)(p:Oper)(s:AS)(z:aa)(base:Nat)(bs:au):Prop:=
 L0<=base/\(blD E p.dst=true->bs=[])/\((cY all (evG tab all i s.g) p.guard=some false/\z= .tup []/\bs=[])\/
  (cY all (evG tab all i s.g) p.guard=some true/\jJ E.P (oC E tab i p.dst s) base z bs (eop E (gK E p.dst) base (oC E tab i p.dst s) (evG tab all i s.g) p.op p.type)))
def fresh(s:AS)(base:Nat)(bs:au):Prop:=∀ k,inB base bs.length k->∀ i,¬ s.br i k
def WF(L0:Nat)(s:AS):Prop:=∀ k,L0<=k->(∀ i,¬ s.br i k)->s.o k= .dead
def nOp(E:Env)(all:bg)(tab:az)(L0 i:Nat)(p:Oper)(K:AS->Prop)(s:AS):Prop:=
 ∃ z base bs,Y E all tab L0 i p s z base bs/\fresh s base bs/\K (s.upd i p.dst z base bs)
section
variable {E:Env} {all:bg} {tab:az} {L0:Nat}
def L8{j i t:Nat}{q:Oper}:∀ {l:bg} {n:Nat},l[i]? =some q->q.dst=some t->loose tab (n+i) j=true->TG tab j t n l=true
 | [],n,h,_,_=>by simp at h
 | x::r,n,h,hd,hl=>by
  cases i with
  | zero=>
   simp at h;subst h;rw [Fx] at hl;simp [TG,hd,hl]
  | succ i=>
   have:=L8 (l:=r) (n:=n+1) (i:=i) (q:=q) (by simp_all) hd (by rw [show n+1+i=n+(i+1) from by omega];exact hl);simp [TG,this]
def rV{i j:Nat}:loose tab i j=true↔i≠j/\dH (dM tab j) i=false/\dH (dM tab i) j=false:=by
 simp only [loose,Af,Df];constructor
 .rintro ⟨⟨h1,a⟩,h3⟩;exact ⟨λ e=>by simp_all,a,h3⟩
 .rintro ⟨h1,a,h3⟩;exact ⟨⟨JK h1,a⟩,h3⟩
def tF{i j:Nat}(h:loose tab i j=true):loose tab j i=true:=by obtain ⟨h1,a,h3⟩:=rV.1 h;exact rV.2 ⟨Fa h1,h3,a⟩
def PG{i j:Nat}{q:Oper}(a:all[j]? =some q)(hl:loose tab j i=true)(g:Nat->aa)(z:aa):evG tab all i (lW g q.dst z)=evG tab all i g:=by
 funext x;cases x with
 | tmp t=>
  simp only [evG];cases b:TG tab i t 0 all with
  | true=>rfl
  | false=>
   simp only [cond_false,lW];rw [if_neg];intro e;have:=L8 (l:=all) (n:=0) a e q_
   grind
 | _=>rfl
def aBH{i j:Nat}(hl:loose tab j i=true){s:AS}(l:WF L0 s){d:Option Nat}{z:aa}{base:Nat}{bs:au}(e:L0<=base)(g:fresh s base bs):rI tab i (s.upd j d z base bs)=rI tab i s:=by
 obtain ⟨_,f,_⟩:=rV.1 hl;funext k;unfold rI;by_cases b:inB base bs.length k
 .have h1:W6 tab i (s.upd j d z base bs).br k:=⟨j,.inr ⟨rfl,b⟩,f⟩
  rw [if_pos h1];have n:=l k (Dh e b.1) (g k b)
  grind
 .have m:(s.upd j d z base bs).o k=s.o k:=by
   show qE s.o base bs k=s.o k;unfold qE
   grind
  have p:W6 tab i (s.upd j d z base bs).br k↔W6 tab i s.br k:=by
   constructor
   .rintro ⟨c,h | ⟨_,h⟩,a⟩
    .exact ⟨c,h,a⟩
    grind
   .rintro ⟨c,h,a⟩;exact ⟨c,.inl h,a⟩
  grind
def aL8{i j:Nat}{p q:Oper}(h:all[j]? =some q)(hl:loose tab j i=true){s:AS}(f:WF L0 s){c:aa}{a:Nat}{b:au}(d:L0<=a)(k:fresh s a b){z:aa}{base:Nat}{bs:au}:
  Y E all tab L0 i p (s.upd j q.dst c a b) z base bs↔Y E all tab L0 i p s z base bs:=by
 have e:evG tab all i (s.upd j q.dst c a b).g=evG tab all i s.g:=PG h hl s.g c;have l:oC E tab i p.dst (s.upd j q.dst c a b)=oC E tab i p.dst s:=by unfold oC;rw [aBH hl f d k]
 unfold Y;rw [e,l]
def WF.upd{i:Nat}{s:AS}(b:WF L0 s){d:Option Nat}{z:aa}{base:Nat}{bs:au}:WF L0 (s.upd i d z base bs):=λ k e a=>by have h1:¬ inB base bs.length k:=λ h=>a i (.inr ⟨rfl,h⟩);show qE s.o base bs k= .dead;unfold qE;rw [if_neg h1];exact b k e λ c h=>a c (.inl h)
def aDl{s:AS}{i j:Nat}{d e:Option Nat}{z f:aa}{base a:Nat}{bs b:au}(hd:∀ t,d=some t->e≠some t)(h:∀ k,inB base bs.length k->¬ inB a b.length k):
  (s.upd i d z base bs).upd j e f a b=(s.upd j e f a b).upd i d z base bs:=by
 have l:lW (lW s.g d z) e f=lW (lW s.g e f) d z:=by
  funext t;simp only [lW]
  grind
 have m:qE (qE s.o base bs) a b=qE (qE s.o a b) base bs:=by
  funext k;unfold qE
  grind
 have n:(λ c k=>(s.br c k\/(c=i/\inB base bs.length k))\/(c=j/\inB a b.length k))=λ c k=>(s.br c k\/(c=j/\inB a b.length k))\/(c=i/\inB base bs.length k):=by
  funext c k
  grind
 show AS.mk (lW (lW s.g d z) e f) (qE (qE s.o base bs) a b) (λ c k=>(s.br c k\/(c=i/\inB base bs.length k))\/(c=j/\inB a b.length k))=_;rw [l,m,n];rfl
def aJt{i j:Nat}{p q:Oper}(hp:all[i]? =some p)(w:all[j]? =some q)(hl:loose tab i j=true)(hd:∀ t,p.dst=some t->q.dst≠some t){s:AS}(m:WF L0 s){z:aa}{base:Nat}{bs:au}
  (o:Y E all tab L0 i p s z base bs) (u:fresh s base bs) {K:AS->Prop} (h:nOp E all tab L0 j q K (s.upd i p.dst z base bs)):
  nOp E all tab L0 j q (λ s'=>WF L0 s'/\Y E all tab L0 i p s' z base bs/\fresh s' base bs/\K (s'.upd i p.dst z base bs)) s:=by
 obtain ⟨v,a,b,h1,r,h3⟩:=h;have d:=(aL8 (p:=q) hp hl m o.1 u).1 h1;have g:fresh s a b:=λ k e n c=>r k e n (.inl c);have f:∀ k,inB base bs.length k->¬ inB a b.length k:=λ k e l=>r k l i (.inr ⟨rfl,e⟩);refine ⟨v,a,b,d,g,m.upd,(aL8 (p:=p) w (tF hl) m d.1 g).2 o,λ k e n c=>?_,?_⟩
 .rcases c with c | ⟨_,c⟩
  .exact u k e n c
  simp_all
 .rw [<-aDl hd f];exact h3
noncomputable def AS.turn(s:AS)(d:Option Nat)(z:aa)(k:Nat)(x:ab):AS:=⟨lW s.g d z,λ a=>if a=k then x else s.o a,s.br⟩
def Yu(E:Env)(all:bg)(tab:az)(L0 i:Nat)(p:Oper)(s:AS)(z:aa)(base k:Nat)(x:ab):Prop:=
 (L0<=base/\∀ i,¬ s.br i base)/\cY all (evG tab all i s.g) p.guard=some true/\rI tab i s k≠ .dead/\OB z k x (eop E (gK E p.dst) base (rI tab i s) (evG tab all i s.g) p.op p.type)
def uOp(E:Env)(all:bg)(tab:az)(L0 i:Nat)(p:Oper)(K:AS->Prop)(s:AS):Prop:=
 ∃ z base k x,Yu E all tab L0 i p s z base k x/\K (s.turn p.dst z k x)
def FA{s:AS}{i base:Nat}{d:Option Nat}{z:aa}:s.upd i d z base []=⟨lW s.g d z,s.o,s.br⟩:=by
 unfold AS.upd;congr 1
 .funext k;unfold qE;rw [if_neg λ h=>by have h1:=h.1;have a:=h.2;grind]
 .funext i' k;refine propext ⟨λ h=>?_,.inl⟩;rcases h with h | ⟨_,h⟩
  .exact h
  .have h1:=h.1;have a:=h.2;grind
def aBs{g:Nat->aa}{d a:Option Nat}{z b:aa}(hd:∀ t,d=some t->a≠some t):lW (lW g d z) a b=lW (lW g a b) d z:=by
 funext t;simp only [lW]
 grind
def K6{s:AS}{i base:Nat}{d a:Option Nat}{z b:aa}{k:Nat}{x:ab}(hd:∀ t,d=some t->a≠some t):(s.upd i d z base []).turn a b k x=(s.turn a b k x).upd i d z base []:=by rw [FA,FA];unfold AS.turn;rw [aBs hd]
def WF.turn{i:Nat}{s:AS}(c:WF L0 s){d:Option Nat}{z:aa}{k:Nat}{x:ab}(g:rI tab i s k≠ .dead):WF L0 (s.turn d z k x):=λ a h1 f=>by
 have b:a≠k:=λ e=>by
  subst e;refine g ?_;unfold rI;split
  .rfl
  .exact c a h1 f
 show (if a=k then x else s.o a)= .dead;rw [if_neg b];exact c a h1 f
def aHJ{i j:Nat}{p q:Oper}(c:all[j]? =some q)(hl:loose tab j i=true)(e:blD E p.dst=true){s:AS}{a:aa}{k:Nat}{x:ab}{z:aa}{base:Nat}{bs:au}:
  Y E all tab L0 i p (s.turn q.dst a k x) z base bs↔Y E all tab L0 i p s z base bs:=by
 have b:evG tab all i (s.turn q.dst a k x).g=evG tab all i s.g:=PG c hl s.g a;have d:oC E tab i p.dst (s.turn q.dst a k x)=oC E tab i p.dst s:=by
  unfold oC
  grind
 unfold Y;rw [b,d]
def aHI{i j:Nat}{p q:Oper}(d:all[j]? =some q)(hl:loose tab j i=true){s:AS}{b:aa}{a:Nat}{z:aa}{base k:Nat}{x:ab}:
  Yu E all tab L0 i p (s.upd j q.dst b a []) z base k x↔Yu E all tab L0 i p s z base k x:=by
 rw [FA];have c:evG tab all i (lW s.g q.dst b)=evG tab all i s.g:=PG d hl s.g b;unfold Yu;rw [c];rfl
def aH4{i j:Nat}{p q:Oper}(hp:all[i]? =some p)(m:all[j]? =some q)(hl:loose tab i j=true)(g:blD E p.dst=true)(hd:∀ t,p.dst=some t->q.dst≠some t){s:AS}(o:WF L0 s){z:aa}{base:Nat}{bs:au}
  (e:Y E all tab L0 i p s z base bs) (r:fresh s base bs) {K:AS->Prop} (h:uOp E all tab L0 j q K (s.upd i p.dst z base bs)):
  uOp E all tab L0 j q (λ s'=>WF L0 s'/\Y E all tab L0 i p s' z base bs/\fresh s' base bs/\K (s'.upd i p.dst z base bs)) s:=by
 obtain rfl:=e.2.1 g;obtain ⟨l,c,k,x,h1,n⟩:=h;have d:=(aHI hp hl).1 h1;refine ⟨l,c,k,x,d,o.turn d.2.2.1,(aHJ m (tF hl) g).2 e,λ k f=>by have a:=f.1;have b:=f.2;simp at b;omega,?_⟩;rw [<-K6 hd];exact n
def aFi{i j:Nat}{p q:Oper}(hp:all[i]? =some p)(r:all[j]? =some q)(hl:loose tab i j=true)(g:blD E q.dst=true)(hd:∀ t,p.dst=some t->q.dst≠some t){s:AS}(u:WF L0 s){z:aa}{base k:Nat}{x:ab}
  (o:Yu E all tab L0 i p s z base k x) {K:AS->Prop} (h:nOp E all tab L0 j q K (s.turn p.dst z k x)):
  nOp E all tab L0 j q (λ s'=>WF L0 s'/\Yu E all tab L0 i p s' z base k x/\K (s'.turn p.dst z k x)) s:=by
 obtain ⟨l,c,m,h1,v,h3⟩:=h;obtain rfl:=h1.2.1 g;have d:=(aHJ hp hl g).1 h1;refine ⟨l,c,[],d,λ k f=>by have a:=f.1;have b:=f.2;simp at b;omega,u.upd,(aHI r (tF hl)).2 o,?_⟩;rw [K6 λ t n e=>hd t e n];exact h3
def sOp(E:Env)(all:bg)(tab:az)(L0 i:Nat)(p:Oper)(Kp:(Nat->aa)->aa->au->Prop)(K:AS->Prop)(s:AS):Prop:=
 ∃ ac:au,aB ac=s.o/\L0<=aR ac/\(∀ k,L0<=k->k<aR ac->∃ i,s.br i k)/\(∀ i k,s.br i k->k<aR ac)/\
  ((cY all (evG tab all i s.g) p.guard=some false/\K (s.upd i p.dst (.tup []) L0 []))\/
    (cY all (evG tab all i s.g) p.guard=some true/\orD E.P true true false ac ac (aR ac) (λ v ao=>aR ac<=aR ao->K ⟨lW s.g p.dst v,aB ao,λ a k=>s.br a k\/(a=i/\aR ac<=k/\k<aR ao)⟩) (Kp s.g)
     (eop E (gK E p.dst) (aR ac) (aB ac) (evG tab all i s.g) p.op p.type)))
def aOp(E:Env)(ops:Array Oper)(tab:az)(L0:Nat)(Kp:(Nat->aa)->aa->au->Prop)(i:Nat)(K:AS->Prop)(s:AS):Prop:=
 ∃ p,ops[i]? =some p/\(((sole tab i 0 ops.toList=true->blD E p.dst=true)/\nOp E ops.toList tab L0 i p K s)\/((LC E tab i 0 ops.toList=true/\blD E p.dst=false)/\uOp E ops.toList tab L0 i p K s)\/
  ((sole tab i 0 ops.toList=true/\blD E p.dst=false)/\sOp E ops.toList tab L0 i p Kp K s))
def wpA(E:Env)(ops:Array Oper)(tab:az)(L0:Nat)(Kp:(Nat->aa)->aa->au->Prop)(Q:AS->Prop):Nat->Array Bool->AS->Prop
 | 0,listed,s=>Eh .any ops listed=[]/\Q s
 | fuel+1,listed,s=>(Eh .any ops listed=[]->Q s)/\∀ i∈Eh .any ops listed,aOp E ops tab L0 Kp i (wpA E ops tab L0 Kp Q fuel (listed.setIfInBounds i true)) s
end
section
variable {E:Env} {ops:Array Oper} {tab:az} {L0:Nat} {Kp:(Nat->aa)->aa->au->Prop} {Q:AS->Prop}
def JW{i:Nat}{K c:AS->Prop}{s:AS}(d:∀ s,K s->c s)(h:aOp E ops tab L0 Kp i K s)(f:sole tab i 0 ops.toList=false):aOp E ops tab L0 Kp i c s:=by
 obtain ⟨p,h1,⟨a,z,base,bs,h3,b,e⟩ | ⟨a,z,base,k,x,h3,b⟩ | ⟨a,_⟩⟩:=h
 .exact ⟨p,h1,.inl ⟨a,z,base,bs,h3,b,d _ e⟩⟩
 .exact ⟨p,h1,.inr (.inl ⟨a,z,base,k,x,h3,d _ b⟩)⟩
 grind
def qR(tab:az)(a:Array Bool):Prop:=∀ j i,a.getD j false=true->dH (dM tab j) i=true->a.getD i false=true
def yP{E:Env}{tab:az}{j:Nat}:∀ {l:bg} {n:Nat},LC E tab j n l=true->∀ (i:Nat) q,l[i]? =some q->loose tab (n+i) j=true->blD E q.dst=true
 | [],_,_,i,q,hi,_=>by simp at hi
 | x::r,n,h,i,q,hi,hl=>by
  simp only [LC,Af,Fl,Df] at h;cases i with
  | zero=>
   grind
  | succ i=>exact yP h.2 i q (by simp_all) (by grind)
def YS(E:Env)(ops:Array Oper)(tab:az)(i:Nat)(d:Option Nat):Prop:=∀ (a:Array Bool) (j:Nat),qR tab a->i∈Eh .any ops a->j∈Eh .any ops a->j≠i->
   qR tab (a.setIfInBounds j true)/\sole tab j 0 ops.toList=false/\loose tab i j=true/\∀ q,ops[j]? =some q->∀ t,d=some t->q.dst≠some t
def aGk{i:Nat}{p:Oper}{z:aa}{base:Nat}{bs:au}(G:ops[i]? =some p)(w:sole tab i 0 ops.toList=true->blD E p.dst=true)(d:YS E ops tab i p.dst):
  ∀ (c:Nat) (a:Array Bool) (s:AS),qR tab a->WF L0 s->i∈Eh .any ops a->Y E ops.toList tab L0 i p s z base bs->fresh s base bs->
   wpA E ops tab L0 Kp Q c (a.setIfInBounds i true) (s.upd i p.dst z base bs)->wpA E ops tab L0 Kp Q (c+1) a s:=by
 have k:∀ {K:AS->Prop} {s:AS},Y E ops.toList tab L0 i p s z base bs->fresh s base bs->K (s.upd i p.dst z base bs)->aOp E ops tab L0 Kp i K s:=λ e g I=>⟨p,G,.inl ⟨w,z,base,bs,e,g,I⟩⟩
 intro c;induction c with
 | zero=>
  intro a s A x f e g H;refine ⟨λ h=>(by simp_all),λ j m=>?_⟩;by_cases b:j=i
  .simp_all
  .have:=ready_mono m b;rw [H.1] at this;cases this
 | succ c D=>
  intro a s A x f e g H;refine ⟨λ h=>(by rw [h] at f;cases f),λ j m=>?_⟩;by_cases b:j=i
  .subst b;exact k e g H
  .have h1:=H.2 j (ready_mono m b);obtain ⟨C,r,F,B⟩:=d a j A f m b;obtain ⟨q,n,⟨u,J⟩ | ⟨l,M⟩ | ⟨hs,_⟩⟩:=h1
   .have:=aJt q_ q_ F (B q n) x e g J;refine JW (λ s' ⟨t,v,o,y⟩=>D (a.setIfInBounds j true) s' C t (ready_mono f (Fa b)) v o ?_) ⟨q,n,.inl ⟨u,this⟩⟩ r;rw [Jf _ _ b];exact y
   .have L:blD E p.dst=true:=yP l.1 i p q_ q_;have:=aH4 q_ q_ F L (B q n) x e g M;refine JW (λ s' ⟨t,v,o,y⟩=>D (a.setIfInBounds j true) s' C t (ready_mono f (Fa b)) v o ?_) ⟨q,n,.inr (.inl ⟨l,this⟩)⟩ r;rw [Jf _ _ b];exact y
   .rw [r] at hs;cases hs.1
def aNV{i:Nat}{p:Oper}{z:aa}{base k:Nat}{x:ab}(C:ops[i]? =some p)(l:LC E tab i 0 ops.toList=true/\blD E p.dst=false)(d:YS E ops tab i p.dst):
  ∀ (b:Nat) (a:Array Bool) (s:AS),qR tab a->WF L0 s->i∈Eh .any ops a->Yu E ops.toList tab L0 i p s z base k x->
   wpA E ops tab L0 Kp Q b (a.setIfInBounds i true) (s.turn p.dst z k x)->wpA E ops tab L0 Kp Q (b+1) a s:=by
 have v:∀ {K:AS->Prop} {s:AS},Yu E ops.toList tab L0 i p s z base k x->K (s.turn p.dst z k x)->aOp E ops tab L0 Kp i K s:=λ n F=>⟨p,C,.inr (.inl ⟨l,z,base,k,x,n,F⟩)⟩
 intro b;induction b with
 | zero=>
  intro a s t y r n H;refine ⟨λ h=>(by simp_all),λ j m=>?_⟩;by_cases c:j=i
  .simp_all
  .have:=ready_mono m c;rw [H.1] at this;cases this
 | succ b J=>
  intro a s t y r n H;refine ⟨λ h=>(by simp_all),λ j m=>?_⟩;by_cases c:j=i
  .subst c;simp_all
  .have h1:=H.2 j (ready_mono m c);obtain ⟨I,u,w,D⟩:=d a j t r m c;have e:∀ q,ops[j]? =some q->blD E q.dst=true:=λ q g=>yP l.1 j q q_ (by rw [Bx];exact tF w);obtain ⟨q,g,⟨o,G⟩ | ⟨f,M⟩ | ⟨hs,_⟩⟩:=h1
   .have:=aFi q_ q_ w (e q g) (D q g) y n G;refine JW (λ s' ⟨B,L,A⟩=>J (a.setIfInBounds j true) s' I B (ready_mono r (Fa c)) L ?_) ⟨q,g,.inl ⟨o,this⟩⟩ u;rw [Jf _ _ c];exact A
   .rw [e q g] at f;cases f.2
   .rw [u] at hs;cases hs.1
end
def mM(fr:ar)(ac:au)(br:List (Nat×Nat)):AS:=⟨bG fr,aB ac,λ i k=>(i,k)∈br⟩
def fT(fr:ar)(d:Option Nat)(v:aa):bG (oE fr d v)=lW (bG fr) d v:=by
 funext t;cases d with
 | none=>rfl
 | some d=>
  simp only [oE,lW,xH,Dy]
  grind
def aBZ(ks:az)(ac:au)(k:Nat):aB (uK ks ac) k=if k∈ks then .dead else aB ac k:=by
 induction ks generalizing ac with
 | nil=>simp [uK]
 | cons x r a=>
  simp only [uK,a,xB,Aw]
  grind
def BE{tab:az}{j k:Nat}:∀ {br:List (Nat×Nat)},k∈KL tab j br↔ ∃ i,(i,k)∈br/\dH (dM tab j) i=false
 | []=>by simp [KL]
 | (i,k')::r=>by
  simp only [KL];cases h:dH (dM tab j) i with
  | true=>
   simp only [cond_true,BE (br:=r),Aw,Ha]
   grind
  | false=>
   simp only [cond_false,Aw,BE (br:=r),Ha]
   grind
def aIE(tab:az)(j:Nat)(fr:ar)(ac:au)(br:List (Nat×Nat)):aB (uK (KL tab j br) ac)=rI tab j (mM fr ac br):=by
 funext k;rw [aBZ];unfold rI;have:k∈KL tab j br↔W6 tab j (mM fr ac br).br k:=BE;by_cases h:k∈KL tab j br
 .grind
 .rw [if_neg h,if_neg λ e=>h (this.2 e)];rfl
def UT(bs:au):∀ (ac:au),E6 ac ac.length bs=ac++bs:=by
 induction bs with
 | nil=>intro ac;simp [E6]
 | cons x r a=>
  intro ac;simp only [E6,SA];have:=a (ac++[x])
  grind
def vX(n:Nat):∀ (l:au),kL n l=l.drop n:=by
 induction n with
 | zero=>intro l;rfl
 | succ n a=>intro l;cases l with
  | nil=>rfl
  | cons x r=>simp [kL,a]
def sH{j i k:Nat}:∀ {l:au} {base:Nat} {br:List (Nat×Nat)},(i,k)∈born j base l br↔(i,k)∈br\/(i=j/\inB base l.length k)
 | [],base,br=>by simp [born,inB];omega
 | x::r,base,br=>by
  have a:=sH (j:=j) (i:=i) (k:=k) (l:=r) (base:=base+1) (br:=br);have e:born j base (x::r) br=(j,base)::born j (base+1) r br:=rfl;have hm:(i,k)∈(j,base)::born j (base+1) r br↔((i=j/\k=base)\/(i,k)∈br)\/(i=j/\inB (base+1) r.length k):=by grind
  rw [e,hm];unfold inB;rw [Ak];constructor
  .grind
  grind
def zU{rest:bg}{n:Nat}{d:Option Nat}{fr:ar}{v:aa}{k:ar->Prop}(h:wrP rest n d fr v k):k (oE fr d v):=by
 unfold wrP at h;cases d with
 | none=>exact h
 | some d=>
  dsimp only at h;cases a:BC n rest with
  | false=>rw [a] at h;exact h
  | true=>
   rw [a] at h;simp only [cond_true] at h;split at h
   .rename_i b;cases b with
    | true=>exact h.1 rfl
    | false=>exact h.2 rfl
   grind
def aHH(fr:ar)(ac:au)(br:List (Nat×Nat))(n:Nat)(d:Option Nat)(z:aa)(bs:au):
  mM (oE fr d z) (E6 ac (aR ac) bs) (born n (aR ac) (kL (aR ac) (E6 ac (aR ac) bs)) br)=(mM fr ac br).upd n d z (aR ac) bs:=by
 rw [bW,UT,vX,Jp];unfold mM AS.upd;rw [fT];congr 1
 .funext k;show _=qE (aB ac) ac.length bs k;unfold qE;by_cases h:inB ac.length bs.length k
  .rw [if_pos h];have a:k-ac.length<bs.length:=by have:=h.1;have:=h.2;omega
   refine jF ?_;rw [Al h.1,Fk,Ac a];rfl
  .rw [if_neg h];by_cases f:k<ac.length
   .rcases gJ ac k with ⟨h1,e⟩ | ⟨h1,_⟩
    .exact jF (by rw [Ah f];exact e)
    .omega
   .have c:ac.length+bs.length<=k:=by refine Nat.le_of_not_lt λ b=>h ⟨by omega,b⟩
    rcases gJ (ac++bs) k with ⟨h1,_⟩ | ⟨_,_,e⟩
    .grind
    .rcases gJ ac k with ⟨h1,_⟩ | ⟨_,_,g⟩
     .omega
     grind
 .funext i k;exact propext sH
structure LI(L0 n:Nat)(ac:au)(br:List (Nat×Nat)):Prop where
 low:L0<=aR ac
 all:∀ k,L0<=k->k<aR ac->∃ i,(i,k)∈br
 lt:∀ i k,(i,k)∈br->k<aR ac/\i<n
def LI.wf{L0 n:Nat}{ac:au}{br:List (Nat×Nat)}(h:LI L0 n ac br)(fr:ar):WF L0 (mM fr ac br):=λ k b c=>by
 rcases gJ ac k with ⟨h1,_⟩ | ⟨_,_,e⟩
 .obtain ⟨i,a⟩:=h.all k b (by rw [bW];exact h1);exact absurd a (c i)
 .exact e
def LI.put{L0 n:Nat}{ac:au}{br:List (Nat×Nat)}(h:LI L0 n ac br){ao:au}(hl:aR ac<=aR ao):LI L0 (n+1) ao (born n (aR ac) (kL (aR ac) ao) br):=by
 have hd:(kL (aR ac) ao).length=aR ao-aR ac:=by rw [vX,Ew,bW ao]
 refine ⟨Dh h.low hl,λ k h1 e=>?_,λ i k c=>?_⟩
 .by_cases c:k<aR ac
  .obtain ⟨i,d⟩:=h.all k h1 c;exact ⟨i,sH.2 (.inl d)⟩
  .exact ⟨n,sH.2 (.inr ⟨rfl,by omega,by omega⟩)⟩
 .rcases sH.1 c with c | ⟨rfl,h1,e⟩
  .obtain ⟨a,b⟩:=h.lt i k c;omega
  omega
def CallG.mono{P:Program}{f:Fn}{args:ay}{ac:au}{K c Kp:aa->au->Prop}(d:∀ v o,K v o->c v o)(h:CallG P f args ac K Kp):CallG P f args ac c Kp:=by
 cases h with
 | pure r new h k=>exact .pure r new h (d _ _ k)
 | eff b ks r ao a h k=>exact .eff b ks r ao a h (d _ _ k)
 | effp b ks r ao a h k=>exact .effp b ks r ao a h k
 | pan r h k=>exact .pan r h k
def vW{P:Program}{j q bl:Bool}{g ac:au}{base:Nat}{K m Kp:aa->au->Prop}(e:∀ v o,K v o->m v o):∀ {r:OR},orD P j q bl g ac base K Kp r->orD P j q bl g ac base m Kp r
 | .no,k=>k.elim
 | .val v,k=>e _ _ k
 | .mkf fn fs cs,k=>e _ _ k
 | .need p r,k=>⟨k.1,vW e k.2⟩
 | .alt p v w,k=>k.imp (λ h=>⟨h.1,e _ _ h.2⟩) (e _ _)
 | .idx n f,⟨i,hi,k⟩=>⟨i,hi,vW e k⟩
 | .elem xs i f,⟨x,hx,k⟩=>⟨x,hx,vW e k⟩
 | .byte l i,⟨c,hc,k⟩=>⟨c,hc,e _ _ k⟩
 | .text xs,⟨l,hl,hm,k⟩=>⟨l,hl,hm,e _ _ k⟩
 | .find es key f,⟨o,ho,k⟩=>⟨o,ho,vW e k⟩
 | .born x v,k=>by cases bl with
  | true=>exact k.elim
  | false=>exact e _ _ k
 | .upd i x v,k=>by
  simp only [orD] at k⊢
  grind
 | .nilq xs neg,k=>by cases j with
  | true=>exact λ b s=>e _ _ (k b s)
  | false=>exact k.elim
 | .call f args,k=>by
  cases bl with
  | true=>exact k.elim
  | false=>
   have k:CallD P f args j g base ac K Kp:=k;show CallD P f args j g base ac m Kp;cases k with
   | pure r new h k=>exact .pure r new h (e _ _ k)
   | sole h1 t=>exact .sole h1 (t.mono e)
   | look ks r o a l b c d k=>exact .look ks r o a l b c d (e _ _ k)
 | .pan v,k=>by cases j with
  | true=>exact k
  | false=>exact k.elim
def HO{P:Program}{b bl:Bool}{a ac:au}{base:Nat}{K Kp:aa->au->Prop}:∀ {r:OR},orD P true b bl a ac base K Kp r->orD P true true bl a ac base K Kp r
 | .no,k=>k
 | .val v,k=>k
 | .mkf fn fs cs,k=>k
 | .need p r,k=>⟨k.1,HO k.2⟩
 | .alt p v w,k=>k
 | .idx n f,⟨i,hi,k⟩=>⟨i,hi,HO k⟩
 | .elem xs i f,⟨x,hx,k⟩=>⟨x,hx,HO k⟩
 | .byte l i,k=>k
 | .text xs,k=>k
 | .find es key f,⟨o,ho,k⟩=>⟨o,ho,HO k⟩
 | .born x v,k=>k
 | .upd i x v,k=>k
 | .nilq xs neg,k=>k
 | .call f args,k=>k
 | .pan v,k=>k
def aC2(fr:ar)(ac:au)(br:List (Nat×Nat))(n:Nat)(d:Option Nat)(z:aa)(k:Nat)(x:ab)(a:k<aR ac):
  mM (oE fr d z) (bX ac k x) (born n (aR ac) (kL (aR ac) (bX ac k x)) br)=(mM fr ac br).turn d z k x:=by
 have hl:(bX ac k x).length=ac.length:=by rw [iR _ (by rwa [bW] at a)];simp
 have e:kL (aR ac) (bX ac k x)=[]:=by rw [vX,bW,<-hl];simp
 rw [e];unfold mM AS.turn;rw [fT];congr 1;funext k';exact xB ac k k' x
structure TabSp(ops:Array Oper)(tab:az):Prop where
 back:∀ (j:Nat) p,ops[j]? =some p->∀ e∈p.after,Jv .any e=true->e.on<j
 less:∀ i j,dH (dM tab i) j=true->j<i
 step:∀ (j:Nat) p,ops[j]? =some p->∀ i,dH (dM tab j) i=true->∃ e∈p.after,Jv .any e=true/\(e.on=i\/dH (dM tab e.on) i=true)
 out:∀ j i,dH (dM tab j) i=true->j<ops.size
 dst:∀ (i j:Nat) p q,ops[i]? =some p->ops[j]? =some q->loose tab i j=true->∀ t,p.dst=some t->q.dst≠some t
def wV{tab:az}{j:Nat}:∀ {l:bg} {n:Nat},sole tab j n l=true->∀ i,i<l.length->loose tab (n+i) j=false
 | [],_,_,i,hi=>by simp at hi
 | x::r,n,h,i,hi=>by
  simp only [sole,Af,Df] at h;cases i with
  | zero=>exact h.1
  | succ i=>
   have:=wV h.2 i (by grind)
   grind
section
variable {E:Env} {ops:Array Oper} {tab:az} {L0:Nat} {Kp:(Nat->aa)->aa->au->Prop} {Kq:ar->au->Prop}
def qR.step(n:TabSp ops tab){a:Array Bool}(d:qR tab a){j:Nat}(m:j∈Eh .any ops a):qR tab (a.setIfInBounds j true)/\∀ i,dH (dM tab j) i=true->a.getD i false=true:=by
 obtain ⟨_,p,hp,b⟩:=mem_ready.1 m;have key:∀ i,dH (dM tab j) i=true->a.getD i false=true:=λ i o=>by
  obtain ⟨e,l,f,h | h⟩:=n.step j p hp i o
  .subst h;exact b e l f
  .exact d e.on i (b e l f) h
 refine ⟨λ k i h1 g=>getD_set_true ?_,key⟩;by_cases c:j=k
 .subst c;exact key i g
 .rw [getD_set_ne false c] at h1;exact d k i h1 g
def vQ(f:TabSp ops tab){a:Array Bool}(m:qR tab a){i j:Nat}(g:i∈Eh .any ops a)(l:j∈Eh .any ops a)(d:i≠j):loose tab i j=true:=by
 have e:∀ {k:Nat},k∈Eh .any ops a->a.getD k false=true->False:=λ{k} hk h=>by
  obtain ⟨n,p,hp,_⟩:=mem_ready.1 hk;rw [Bo] at n h;cases c:a[k]? with
  | none=>simp_all
  | some b=>simp_all
 refine rV.2 ⟨d,?_,?_⟩
 .cases c:dH (dM tab j) i with
  | false=>rfl
  | true=>exact (e g ((m.step f l).2 i c)).elim
 .cases c:dH (dM tab i) j with
  | false=>rfl
  | true=>exact (e l ((m.step f g).2 j c)).elim
def Qf(L0:Nat)(Kq:ar->au->Prop)(s:AS):Prop:=∃ fr ac br n,s=mM fr ac br/\LI L0 n ac br/\Kq fr ac
def aJH(B:TabSp ops tab):∀ (l:bg) (n:Nat) (a:Array Bool) (br:List (Nat×Nat)) (fr:ar) (ac:au),
  l=ops.toList.drop n->(∀ j,j<ops.size->a[j]? =some (decide (j<n)))->a.size=ops.size->LI L0 n ac br->lK E ops.toList tab Kq Kp n l br fr ac->
  wpA E ops tab L0 Kp (Qf L0 Kq) l.length a (mM fr ac br)
 | [],n,a,br,fr,ac,hl,hlist,hsz,hI,h=>by
  refine ⟨?_,fr,ac,br,n,rfl,hI,h⟩;have J:ops.size<=n:=by simp_all
  refine Ib.2 λ j I=>?_;obtain ⟨h0,q,F,_⟩:=mem_ready.1 I;have H:=(Fi.1 F).1;rw [Bo,hlist j H] at h0;simp at h0;omega
 | p::l,n,a,br,fr,ac,hl,hlist,hsz,hI,h=>by
  have t:ops[n]? =some p:=by
   have:(ops.toList.drop n)[0]? =some p:=by grind
   simpa using this
  have S:n<ops.size:=(Fi.1 t).1;have O:l=ops.toList.drop (n+1):=by rw [<-Hv,<-hl];rfl
  have H:∀ j,a.getD j false=true↔j<n:=by
   intro j;rw [Bo];by_cases I:j<ops.size
   .simp_all
   .rw [Mm o_];simp;omega
  have f:qR tab a:=λ j i h1 y=>(H i).2 (Nk (B.less j i y) ((H j).1 h1));have c:n∈Eh .any ops a:=by refine mem_ready.2 ⟨?_,p,t,λ e he Q=>(H _).2 (B.back n p t e he Q)⟩;rw [Bo,hlist n S];simp
  have s:∀ j,j<ops.size->(a.setIfInBounds n true)[j]? =some (decide (j<n+1)):=by
   intro j I;by_cases U:n=j
   .subst U;rw [Fb o_];simp
   .rw [Ff U,hlist j I];simp;omega
  have C:(a.setIfInBounds n true).size=ops.size:=by simp;omega
  have hw:=hI.wf fr;have L:∀ {bs:au},fresh (mM fr ac br) (aR ac) bs:=λ{bs} k J i Q=>by have:=(hI.lt i k Q).1;have:=J.1;omega
  have ahead:∀ {i:Nat},i<ops.size->i∈Eh .any ops a->i≠n->loose tab n i=true:=λ_ hi D=>vQ B f c hi (Fa D);simp only [lK] at h;rw [aN1] at h
  -- on,where the operation bears bs at the end
  have on:∀ {z:aa} {bs:au},lK E ops.toList tab Kq Kp (n+1) l (born n (aR ac) (kL (aR ac) (E6 ac (aR ac) bs)) br) (oE fr p.dst z) (E6 ac (aR ac) bs)->
    wpA E ops tab L0 Kp (Qf L0 Kq) l.length (a.setIfInBounds n true) ((mM fr ac br).upd n p.dst z (aR ac) bs):=λ{z bs} Y=>by
   rw [<-aHH];refine aJH B l (n+1) _ _ _ _ O s C (hI.put ?_) Y;rw [bW,bW,UT];simp
  have nil0:E6 ac (aR ac) []=ac:=rfl;have brn:born n (aR ac) (kL (aR ac) ac) br=br:=by
   have:kL (aR ac) ac=[]:=by rw [vX,bW];simp
   rw [this];rfl
  have skip:lK E ops.toList tab Kq Kp (n+1) l br (oE fr p.dst (.tup [])) ac->wpA E ops tab L0 Kp (Qf L0 Kq) l.length (a.setIfInBounds n true) ((mM fr ac br).upd n p.dst (.tup []) (aR ac) []):=λ Y=>on (by rw [nil0,brn];exact Y);have oth:(∀ j,ops[j]?≠none->loose tab n j=true->sole tab j 0 ops.toList=false)->YS E ops tab n p.dst:=λ h T j hc' hi' M D=>by have d:=vQ B hc' hi' M (Fa D);obtain ⟨_,q,F,_⟩:=mem_ready.1 M;exact ⟨(hc'.step B M).1,h j (by rw [F];simp) d,d,λ q F=>B.dst n j p q t F d⟩
  have K:∀ j,ops[j]?≠none->loose tab n j=true->sole tab j 0 ops.toList=false:=λ j I d=>by
   cases F:sole tab j 0 ops.toList with
   | false=>rfl
   | true=>
    have:=wV F n o_;rw [Bx,d] at this;cases this
  have r:=oth K
  -- where an object is turned
  have onU:∀ {z:aa} {k:Nat} {x:ab},k<aR ac->lK E ops.toList tab Kq Kp (n+1) l (born n (aR ac) (kL (aR ac) (bX ac k x)) br) (oE fr p.dst z) (bX ac k x)->
    wpA E ops tab L0 Kp (Qf L0 Kq) l.length (a.setIfInBounds n true) ((mM fr ac br).turn p.dst z k x):=λ{z k x} J Y=>by
   rw [<-aC2 fr ac br n p.dst z k x J];refine aJH B l (n+1) _ _ _ _ O s C (hI.put ?_) Y;rw [bW,bW,iR _ (by rwa [bW] at J)];simp
  have G:(sole tab n 0 ops.toList=true->blD E p.dst=true)->(cY ops.toList (evG tab ops.toList n (bG fr)) p.guard=some true->
    orD E.P false (uoN E tab ops.toList n p.dst) (blD E p.dst) (tX E tab n br ac p.dst) ac (aR ac) (λ v ao=>wrP l n p.dst fr v λ fr=>lK E ops.toList tab Kq Kp (n+1) l (born n (aR ac) (kL (aR ac) ao) br) fr ao) (Kp (bG fr))
     (eop E (gK E p.dst) (aR ac) (aB (tX E tab n br ac p.dst)) (evG tab ops.toList n (bG fr)) p.op p.type))->
    (cY ops.toList (evG tab ops.toList n (bG fr)) p.guard=some false->lK E ops.toList tab Kq Kp (n+1) l br (oE fr p.dst (.tup [])) ac)->
    cY ops.toList (evG tab ops.toList n (bG fr)) p.guard≠none->wpA E ops tab L0 Kp (Qf L0 Kq) (l.length+1) a (mM fr ac br):=λ Z h1 y h3=>by
   have w:aB (tX E tab n br ac p.dst)=oC E tab n p.dst (mM fr ac br):=by
    unfold tX oC;cases o:blD E p.dst with
    | true=>rfl
    | false=>simp only [cond_false];rw [if_neg s_];exact aIE tab n fr ac br
   cases m:cY ops.toList (evG tab ops.toList n (bG fr)) p.guard with
   | none=>simp_all
   | some b=>
    cases b with
    | false=>exact aGk t Z r l.length a _ f hw c (z:=.tup []) (base:=aR ac) (bs:=[]) ⟨hI.low,λ_=>rfl,.inl ⟨m,rfl,rfl⟩⟩ L (skip (y m))
    | true=>
     have h:=h1 m;rcases vV h with ⟨z,bs,q0,R,q2⟩ | ⟨z,k,x,q0,R,q2,q3⟩
     .rw [w] at R;exact aGk t Z r l.length a _ f hw c ⟨hI.low,q0,.inr ⟨m,R⟩⟩ L (on (zU q2))
     .obtain ⟨u1,u2⟩:=bD q0;have o:blD E p.dst=false:=by simpa using u2
      have e:oC E tab n p.dst (mM fr ac br)=rI tab n (mM fr ac br):=by unfold oC;rw [o,if_neg s_]
      rw [w,e] at R q2;have hkl:k<aR ac:=by
              refine Nat.lt_of_not_le λ hge=>R ?_;unfold rI;split
              .rfl
              .rcases gJ ac k with ⟨h1,_⟩ | ⟨_,_,e⟩
               .rw [bW] at hge;omega
               .exact e
      exact aNV t ⟨u1,o⟩ r l.length a _ f hw c ⟨⟨hI.low,λ i Q=>by have:=(hI.lt i _ Q).1;omega⟩,m,R,q2⟩ (onU hkl (zU q3))
  have V:cY ops.toList (evG tab ops.toList n (bG fr)) p.guard≠none:=λ e=>by simp_all
  have u:cY ops.toList (evG tab ops.toList n (bG fr)) p.guard=some false->lK E ops.toList tab Kq Kp (n+1) l br (oE fr p.dst (.tup [])) ac:=λ e=>by rw [e] at h;exact h
  cases o:blD E p.dst with
  | true=>
   refine G (λ_=>o) (λ e=>?_) u V;rw [e] at h;have:soN E tab ops.toList n p.dst=false:=by simp [soN,o]
   rw [this] at h;exact h
  | false=>
  cases A:sole tab n 0 ops.toList with
  | false=>
   refine G (λ e=>by rw [A] at e;cases e) (λ e=>?_) u V;rw [e] at h;have:soN E tab ops.toList n p.dst=false:=by simp [soN,A]
   rw [this] at h;exact h
  | true=>
   have hone:∀ j,j∈Eh .any ops a->j=n:=λ j I=>by refine Lo λ D=>?_;have d:=vQ B f I c D;obtain ⟨_,q,F,_⟩:=mem_ready.1 I;have hjlt:=(Fi.1 F).1;have:=wV A j o_;rw [Bx,d] at this;cases this
   have W:KL tab n br=[]:=by
    refine Ib.2 λ k J=>?_;obtain ⟨i,h1,y⟩:=BE.1 J;have hin:=(hI.lt i k h1).2;have:=wV A i q_;rw [Bx] at this
    have hl2:loose tab i n=true:=rV.2 ⟨by omega,y,by
     cases F:dH (dM tab i) n with
     | false=>rfl
     | true=>have:=B.less i n F;omega⟩
    rw [hl2] at this;cases this
   have N:tX E tab n br ac p.dst=ac:=by unfold tX;rw [o,W];rfl
   have X:soN E tab ops.toList n p.dst=true:=by simp [soN,A,o]
   rw [N,X,o] at h;refine ⟨λ h=>(by rw [h] at c;cases c),λ j I=>?_⟩;obtain rfl:=hone j I;refine ⟨p,t,.inr (.inr ⟨⟨A,o⟩,ac,rfl,hI.low,λ k h1 y=>hI.all k h1 y,λ i k Q=>(hI.lt i k Q).1,?_⟩)⟩;cases m:cY ops.toList (evG tab ops.toList j (bG fr)) p.guard with
   | none=>rw [m] at h;exact h.elim
   | some b=>
    rw [m] at h;cases b with
    | false=>
     refine .inl ⟨m,?_⟩;have e:(mM fr ac br).upd j p.dst (.tup []) L0 []=(mM fr ac br).upd j p.dst (.tup []) (aR ac) []:=by
      unfold AS.upd;congr 1
      .funext k;unfold qE;rw [if_neg λ h=>by have h1:=h.1;have y:=h.2;simp at y;omega,if_neg λ h=>by have h1:=h.1;have y:=h.2;simp at y;omega]
      .funext i k;refine propext (or_congr Nq ⟨λ h=>?_,λ h=>?_⟩)<;>(have h1:=h.2.1;have y:=h.2.2;simp at y;omega)
     rw [e];exact skip h
    | true=>
     dsimp only at h;refine .inr ⟨m,vW (λ v ao J hle=>?_) (HO h)⟩;have hk2:=zU J;have:=aJH B l (j+1) _ _ _ _ O s C (hI.put hle) hk2;have e:mM (oE fr p.dst v) ao (born j (aR ac) (kL (aR ac) ao) br)=⟨lW (mM fr ac br).g p.dst v,aB ao,λ i' k=>(mM fr ac br).br i' k\/(i'=j/\aR ac<=k/\k<aR ao)⟩:=by unfold mM;rw [fT];congr 1;funext i k;refine propext (sH.trans (or_congr Nq (and_congr Nq ?_)));unfold inB;rw [vX,Ew,bW ao];omega
     rw [<-e];exact this
end
end Go.AW
