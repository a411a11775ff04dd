/- Part 2 of what the statement rests on. -/
import Derived.Lib.ConvBytes
import Derived.MapKept
import Derived.WalkSmall
import Derived.Carry
import Derived.Orders
import Derived.Test.YtidhfoefaomodaaGreatDoorWA
set_option linter.all false
open Array renaming ext'->Du,getD_eq_getD_getElem?->Bj,getElem?_append_left->Gx,getElem?_eq_none->Mk,getElem?_eq_some_iff->Ez,getElem?_setIfInBounds_ne->Eu,getElem?_setIfInBounds_self_of_lt->Ep,length_toList->Iw,range->Kr,setIfInBounds_comm->Ja,toList_map->Jx
open Bool renaming and_eq_true->Ad,and_true->Hz,false_eq_true->Cp,false_or->Nf,not_eq_true'->Cx,or_eq_true->Fc,true_and->Cy
open Decidable renaming byContradiction->Lk
open Go.Builtin renaming append_->Co,clear_->Jq,copy_->Ki,delete_->Kx,firstCells->Cj,len_->Fo,zeroCells->Cg
open Go.Instr renaming alloc->Nm,buildSlice->Ka,checkKey->Ht,field->Nb,fieldAt->Lr,findAsking->Kb,findKey->Lu,findNow->Lt,index->Lp,indexAt->Ib,loadAt->Mi,lookup->Mj,mapUpdate->Kw,sameBits->Jr,slice->Lq,sliceAt->Gv,sliceBound->Jz,sliceBounds->Gm,storeAt->Kh,sureAddr->Ir,typeAssert->Kc
open Go.Region renaming binds->Jp,ready->Dz
open Go.Result renaming andThen->Ef,andThen_ok->Aq
open Go.Sem renaming run_bind->Bg,run_pure->Bw
open Go.Value renaming iface->Nc,int->Eb,ownBlock->Gk,slice->Gu
open Go.World renaming block_lt_of_cell?->Cs,cell?_of_block->Cr,ownsRow_nil->Hf
open Iff renaming rfl->Np
open Int renaming le_refl->Dh,toNat_natCast->Bt
open List renaming all_cons->Kd,all_eq_true->Cq,append_nil->Av,drop_drop->Hk,drop_left->Jj,drop_zero->Ci,eq_nil_iff_forall_not_mem->Hu,eq_nil_of_length_eq_zero->Ax,ext_getElem?->Ek,foldl_cons->Ba,getD_eq_getElem?_getD->Fb,getElem?_append_left->Ag,getElem?_append_right->Ak,getElem?_cons_succ->Fv,getElem?_cons_zero->Mb,getElem?_drop->Bp,getElem?_eq_getElem->Aa,getElem?_eq_none->Bk,getElem?_eq_some_iff->Ab,getElem?_map->Bf,getElem?_of_mem->Ct,getElem?_range->Dn,getElem?_replicate->Es,getElem?_set->Hd,getElem?_set_ne->Ay,getElem?_set_self->Ar,getElem?_take->Gg,getElem?_take_of_lt->Bi,getElem?_toArray->Jt,length_append->Ai,length_cons->Al,length_drop->Ei,length_eraseIdx_of_lt->Lh,length_map->Ch,length_nil->Br,length_replicate->Gz,length_take->Dp,map_cons->Bl,mem_append->Az,mem_cons->Bb,mem_of_getElem?->Au,mem_of_mem_drop->Fa,mem_of_mem_take->Cw,mem_or_eq_of_mem_set->Df,mem_replicate->Gf,nil_append->Bn,prefix_refl->Cn,range->Di,replicate->Aj,replicate_succ->Kz,size_toArray->Gl,take_left->Hl,take_length->Ge,take_of_length_le->Cf,take_zero->Iq
open Nat renaming add_assoc->Kf,add_comm->Md,add_mul->Bx,add_sub_cancel_left->Hq,add_zero->Fl,beq->Aw,ble->Fw,blt->Ff,blt_eq->Jw,div_add_mod->Fy,eq_zero_or_pos->Fp,le_of_ble_eq_true->Ck,le_refl->Bc,le_trans->Cz,lt_of_lt_of_le->Ey,lt_or_ge->Nh,lt_trans->Ni,min_eq_left->Gp,mod_lt->Fg,mul_comm->De,mul_le_mul_right->Bu,one_mul->Gt,sub_zero->Jo,zero_add->Bo,zero_le->Bv,zero_mul->Mc
open Ne renaming symm->Em
open Option renaming getD_some->Jy,isSome_iff_exists->Da,isSome_none->Jc,map_eq_some_iff->Cd,map_some->Mq,none->Nl
open Option.some renaming injEq->Ds
open Prod.mk renaming injEq->Ke
open UInt8 renaming ofNat->Dm
namespace Go.AW
open Go.RowKit
section
variable {P:Program} {E:Env} {M:Imm} {ob:Hs} {ac:List ab} {w:World} {base:Nat}
def aQ {s:Sem Value} {v:aa} {u:Value} (h:s.run P w= .ok u w) (a:Rep M ob u v):PS0 P M ob w s ac base (.val v):=⟨rfl,u,h,a⟩
def aHE {b o:Nat} (l:List aa) (h:∀ (i:Nat) c,l[i]? =some c->∃ u,w.cell? ⟨b,o+i,none⟩=some u/\Rep M ob u c):
  ∃ vs:List Value,vs.length=l.length/\(∀ (j:Nat) u,vs[j]? =some u->w.cell? ⟨b,o+j,none⟩=some u)/\∀ (i:Nat) v a,vs[i]? =some v->l[i]? =some a->Rep M ob v a:=by
 refine ⟨(Di l.length).map λ q=>(w.cell? ⟨b,o+q,none⟩).getD undef,by simp,λ j u k=>?_,λ i v a m f=>?_⟩
 .simp only [Bf] at k;by_cases e:j<l.length
  .obtain ⟨g,d,_⟩:=h j _ (Aa e);simp_all
  grind
 .have e:i<l.length:=(Ab.1 f).1;obtain ⟨g,d,n⟩:=h i a f;simp_all
def yQ {t:Nat} {a:TI} (i:tY P t a.agg a.size a.kind) (hs:(P.info? t).map (·.size)=some a.size) {b o:Nat} {vs:List Value} (hl:vs.length=a.size)
  (f:∀ (j:Nat) u,vs[j]? =some u->w.cell? ⟨b,o+j,none⟩=some u) (u:Value) (k:a.agg=true->u= .agg vs.toArray) (d:a.agg=false->vs=[u]):
  (loadVar t ⟨b,o,none⟩).run P w= .ok u w:=by
 obtain ⟨h1,h⟩:=i.isAgg;unfold loadVar;simp only [Bg,wW h1,Aq,h];cases g:a.agg with
 | true=>
  have c:=run_loadCells_list (P:=P) w ⟨b,o,none⟩ vs (λ j v e=>by rw [bA];exact f j v e);rw [hl] at c;simp only [if_true,Bg,af hs,Aq,c,Bw,k g]
 | false=>
  have e:=d g;have:=f 0 u (by rw [e];rfl);rw [Fl] at this;simp only [Cp,if_false,run_load,this]
def aFU {b:TI} {l:List aa} {a:aa} (h:mk b l=some a):(b.agg=true/\a= .agg l)\/(b.agg=false/\l=[a]):=by
 unfold mk at h
 grind
def MV {t:Nat} {k:TI} (d:TIOK P t k) {b o:Nat} {l:List aa} {a:aa} (j:mk k l=some a) (hl:l.length=k.size)
  (h:∀ (i:Nat) c,l[i]? =some c->∃ u,w.cell? ⟨b,o+i,none⟩=some u/\Rep M ob u c):∃ u,(loadVar t ⟨b,o,none⟩).run P w= .ok u w/\Rep M ob u a:=by
 obtain ⟨vs,e,g,f⟩:=aHE l h;rcases aFU j with ⟨m,rfl⟩ | ⟨m,rfl⟩
 .exact ⟨.agg vs.toArray,yQ d.kind d.size? (e.trans hl) g _ (λ_=>rfl) (λ h=>by grind),.agg vs l e f⟩
 .match vs,e with
  | [u],_=>exact ⟨u,yQ d.kind d.size? o_ g u (λ h=>by grind) (λ_=>rfl),f 0 u a rfl rfl⟩
def UY {t:Nat} {f:TI} (d:TIOK P t f) {b o off:Nat} {cs:List aa}
  (h:∀ (i:Nat) c,cs[off+i]? =some c->∃ u,w.cell? ⟨b,o+i,none⟩=some u/\Rep M ob u c):PS0 P M ob w (Mi t (.pointer (some ⟨b,o,none⟩))) ac base (fin f (lL f.size (kI off cs))):=by
 unfold fin;split
 .exact trivial
 .rename_i l hl;split
  .exact trivial
  .rename_i a e;obtain ⟨h1,g⟩:=iX hl;obtain ⟨u,m,j⟩:=MV d e h1 (b:=b) (o:=o) (M:=M) (ob:=ob) (w:=w) λ i c k=>by have:=g i c k;rw [lN,Bp] at this;exact h i c this
   refine aQ (u:=u) ?_ j;unfold Mi Ir
   grind
def dH.cell {v:Value} {d:Nat} {e:TypeId} {xs:List aa} (h:dH M w v d e xs) {b:Nat} {n c:Nat} (k:v= .slice (some ⟨b,0,none⟩) n c) {i j:Nat} {x a:aa} (f:xs[i]? =some x) (o:x.cells[j]? =some a):
  ∃ u,w.cell? ⟨b,i*d+j,none⟩=some u/\Rep M [] u a:=by
 obtain ⟨cv,h1,_,h3,g,_⟩:=h;obtain ⟨u,m,l⟩:=g _ a (HE f o (h3 x (Au f)));exact ⟨u,fF h1 (by rw [k];rfl) m,l⟩
def bZ {k:Nat} {x:ab} (h:aC ac k=x) (a:x≠ .dead):ac[k]? =some x:=bD h a
def VH (hE:ae E) (hm:Mem M ob ac w) {t:Nat} {v:Value} {a:aa} (z:Rep M ob v a):PS0 E.P M ob w (Mi t v) ac base (VI E (aC ac) t a):=by
 unfold VI;split
 .exact trivial
 .rename_i G I;have h:=hE.tab t G I;split
  .rename_i cs;obtain ⟨b,o,rfl,J⟩:=z.ptr_inv;refine UY (off:=0) (cs:=cs) h λ i c m=>?_;rw [Bo] at m;obtain ⟨u,s,_,p⟩:=hm.imm b _ c (J i c m);exact ⟨u,s,p.pure⟩
  .rename_i k off;obtain ⟨b,rfl,l⟩:=z.ref_inv;split
   .rename_i cs f;obtain ⟨hs,h1,N,rfl,_,cv,H,r,_,d⟩:=hm.obj k _ (bZ f s_);rw [bV h1] at l;cases l;refine UY h λ i c m=>?_;have q:off+i<cv.length:=by rw [r];exact (Ab.1 m).1
    exact ⟨cv[off+i],by rw [cell_of_row w b _ _ _ (0,0) H];simp [q],d _ _ c (Aa q) m⟩
   .rename_i cs f;obtain ⟨hs,h1,N,rfl,d⟩:=hm.obj k _ (bZ f s_);rw [bV h1] at l;cases l;refine UY h λ i c m=>?_;obtain ⟨u,s,_,p⟩:=hm.imm b _ c (d _ c m);exact ⟨u,s,p.pure⟩
   .exact trivial
  .rename_i k g i F off;cases z with
   | eref k g i F off b n c l=>
   split
   .rename_i R C e xs f;refine sdc λ K=>?_;obtain ⟨y,A⟩:=aU K;obtain rfl:=aB y;obtain rfl:=aB A;intro x O;obtain ⟨hs,v,h1,Q,h3,D,L,_⟩:=hm.rowOf (bZ f s_);rw [D] at l;cases l;refine UY h λ j c B=>?_;obtain ⟨u,s,p⟩:=L.cell rfl O B;exact ⟨u,by grind,p.pure⟩
   .exact trivial
  .exact trivial
def LB {t:Nat} {b off:Nat} (h1:(P.info? t).map (·.size)=some b) (d:(P.underlying t).isSome=true) (vs:List Value) (u:Value)
  (c:aP P t=true->u= .agg ((vs.drop off).take b).toArray) (e:aP P t=false->vs[off]? =some u):(part t vs.toArray off).run P w= .ok u w:=by
 unfold part;simp only [Bg,wW d,Aq];cases a:aP P t with
 | true=>
  simp only [if_true,Bg,af h1,Aq,Bw,c a];simp
 | false=>simp [e a]
def aBj {vs:List Value} {cs:List aa} (h:cA M ob vs cs) {b off:Nat} {l:List aa} (g:lL b (kI off cs)=some l):cA M ob ((vs.drop off).take b) l:=by
 obtain ⟨h1,d⟩:=iX g;rw [lN] at d;have hl:=h.1;have c:((vs.drop off).take b).length=l.length:=by
  have:b<=(cs.drop off).length:=by
   rcases Fp b with j | j
   .omega
   .have:=d (b-1) _ (Aa o_);have:=(Ab.1 this).1;omega
  simp at this;simp;omega
 refine ⟨c,λ i v a f m=>?_⟩;have e:=d i a m;rw [Bp] at e;have k:i<b:=by rw [<-h1];grind
 rw [Bi k,Bp] at f;exact h.2 _ v a f e
def B6 {t:Nat} {d off:Nat} (h1:(P.info? t).map (·.size)=some d) (j:(P.underlying t).isSome=true) {vs:List Value} {cs:List aa} (h:cA M ob vs cs)
  {l:List aa} (k:lL d (kI off cs)=some l) {a:aa} (b:aP P t=true->a= .agg l) (c:aP P t=false->l=[a]):∃ u,(part t vs.toArray off).run P w= .ok u w/\Rep M ob u a:=by
 have hp:=aBj h k;cases m:aP P t with
 | true=>
  rw [b m];exact ⟨_,LB h1 j vs _ (λ_=>rfl) (λ e=>by grind),.agg _ l hp.1 hp.2⟩
 | false=>
  have f:=c m;subst f;obtain ⟨o,n⟩:=hp;have i:d=1:=by have:=(iX k).1;simpa using this.symm
  subst i;have p:((vs.drop off).take 1)[0]? =vs[off]?:=by rw [Bi o_,Bp,Fl]
  have g:0<((vs.drop off).take 1).length:=by rw [o];simp
  refine ⟨((vs.drop off).take 1)[0],LB h1 j vs _ (λ e=>by grind) (λ_=>?_),n 0 _ a (Aa g) rfl⟩;simp
def aC3 (hE:ae E) {s f:Nat} {v:Value} {a:aa} (z:Rep M ob v a):PS0 E.P M ob w (Nb s v f) ac base (Q1 E s a f):=by
 unfold Q1;split
 .rename_i H _ _ _ r;have h:=hE.tab s _ r;obtain ⟨⟨c,B,y⟩,_⟩:=h.kind;split
  .exact trivial
  .rename_i off F q n;obtain ⟨g,k,D,C,m,G⟩:=y.get n;split
   .rename_i cs;split
    .exact trivial
    .rename_i l hl;obtain ⟨vs,rfl,d,A⟩:=z.agg_inv;have key:∀ x,(aP E.P g.type=true->x= .agg l)->(aP E.P g.type=false->l=[x])->PS0 E.P M ob w (Nb s (.agg vs.toArray) f) ac base (.val x):=by
      intro x h1 p;obtain ⟨u,i,j⟩:=B6 (P:=E.P) (w:=w) (t:=g.type) C m ⟨d,A⟩ hl h1 p;refine aQ (u:=u) ?_ j;have b:c[f]? =some g:=by simpa using k
      unfold Nb;simp only [Bg,run_underlying B,Aq,b,asAgg,Bw,D,i]
     cases o:q with
     | true=>exact key _ (λ_=>rfl) (λ e=>by grind)
     | false=>
      simp only [cond_false];split
      .exact key _ (λ e=>by grind) (λ_=>rfl)
      .exact trivial
   .exact trivial
 .exact trivial
def JJ (hE:ae E) {s f:Nat} {v:Value} {a:aa} (k:Rep M ob v a):PS0 E.P M ob w (Lr s v f) ac base (tP E s a f):=by
 unfold tP;split
 .rename_i H _ _ _ t;have h:=hE.tab s _ t;obtain ⟨⟨g,z,x⟩,_⟩:=h.kind;split
  .exact trivial
  .rename_i off q F r;obtain ⟨u,A,C,B,D,G⟩:=x.get r;have d:g[f]? =some u:=by simp_all
   cases hz:Aw q 0 with
   | true=>exact trivial
   | false=>
    simp only [cond_false];have m:¬ q=0:=λ e=>by simp_all
    have key:∀ l,(Lr s (.pointer (some l)) f).run E.P w= .ok (.pointer (some (l.add off))) w:=λ l=>by unfold Lr Ir fieldPlace;simp only [Bg,run_underlying z,Aq,d,Bw,af B,if_neg m,C]
    split
    .obtain ⟨b,o,rfl,y⟩:=k.ptr_inv;refine aQ (key _) ?_;rw [bA];exact .ptr b (o+off) _ λ j c p=>by rw [lN,Bp] at p;have:=y _ c p;grind
    .obtain ⟨b,rfl,i⟩:=k.ref_inv;refine aQ (key _) ?_;rw [bA];exact .ref _ _ b i
    .cases k with
     | eref _ _ _ _ _ b n c i=>
      refine aQ (key _) ?_;rw [bA,Kf];exact .eref _ _ _ _ _ b n c i
    .exact trivial
 .exact trivial
def dH.len {v:Value} {c:Nat} {e:TypeId} {xs:List aa} (h:dH M w v c e xs):(v= .slice none 0 0/\xs=[])\/∃ b cap,v= .slice (some ⟨b,0,none⟩) xs.length cap/\v.ownBlock=some b/\xs.length<=cap/\cap<=maxLen:=by
 obtain ⟨cv,h1,_⟩:=h;rcases dD h1 with ⟨a,h3⟩ | a
 .exact .inl ⟨a,Ax h3⟩
 .exact .inr a
def gC:(maxLen:Int)<=9223372036854775807:=by decide
def JI (hE:ae E) (hm:Mem M ob ac w) {t:Nat} {v V:Value} {a i:aa} (F:Rep M ob v a) (R:Rep M ob V i):PS0 E.P M ob w (Ib t v V) ac base (tO E (aC ac) t a i):=by
 unfold tO;split
 .rename_i ti _ n hT;have D:=hE.tab t ti hT;obtain ⟨rfl,hri⟩:=R.int_inv;split
  .rename_i e h eb G;have d:=D.kind;rw [G] at d;obtain ⟨⟨K,i',z,s,hs,_⟩,_⟩:=d;have q:(E.P.info? e).map (·.size)=some h:=by grind
   have key:∀ (r:Addr) (len cap:Nat) (k:IntKind) (i:Nat),i<len->(Ib t (.slice (some r) len cap) (.int k (i:Int))).run E.P w= .ok (.pointer (some (r.add (i*h)))) w:=λ r len cap k i h1=>by unfold Ib;simp only [Bg,asIntOf,Bw,Aq,run_underlying K];rw [if_pos ⟨by omega,by omega⟩];simp only [Bg,af q,Aq,Bw,Bt]
   have slc:∀ {H:Value} {xs:List aa} {tk:Tk},Rep M ob H (.slice h xs tk)->∀ (k:IntKind) (i:Nat) x,xs[i]? =some x->PS0 E.P M ob w (Ib t H (.int k (i:Int))) ac base (.val (.ptr x.cells)):=λ{H xs tk} hr k i x u=>by
    have A:i<xs.length:=(Ab.1 u).1;cases hr.untok.1 with
    | slnil=>simp at A
    | slemp=>simp at A
    | sl _ b o n1 cap _ _ hn X Q hz O _=>
     refine aQ (key _ n1 cap _ i o_) ?_;rw [bA];exact .ptr b _ _ λ j c hj=>O i j x c u hj
   split
   .rename_i B xs tt;refine sdc λ S=>?_;obtain rfl:=aB S;rintro i rfl x u;exact slc F _ i x u
   .rename_i k g;obtain ⟨a,n',c,rfl,f⟩:=F.row_inv;split
    .rename_i W B e' xs p;refine sdc λ y=>?_;obtain ⟨l,m⟩:=aU y;obtain rfl:=aB l;obtain rfl:=aB m;rintro i rfl s;obtain ⟨hs',v,h1,T,h3,U,h5,_⟩:=hm.rowOf (bZ p s_);rw [U] at f;cases f;rcases h5.len with ⟨Y,rfl⟩ | ⟨b,cap,Y,e2,_⟩
     .simp at s
     .cases Y;refine aQ (key _ _ _ _ i s) ?_;rw [bA,Md 0];exact .eref k _ i B 0 b _ _ U
    .rename_i W B xs p;refine sdc λ y=>?_;obtain ⟨l,m⟩:=aU y;obtain rfl:=aB l;obtain rfl:=aB m;rintro i rfl x u;obtain ⟨hs',h1,v,T,h3⟩:=hm.obj k _ (bZ p s_);rw [bV h1,T] at f;cases f;exact slc h3.pure _ i x u
    .exact trivial
   .rename_i k g lo len B;split
    .rename_i W sz' e' xs p;refine sdc λ y=>?_;obtain ⟨C,L⟩:=aU y;obtain ⟨l,m⟩:=aU C;obtain rfl:=aB l;obtain rfl:=aB m;obtain rfl:=aB L;rintro i rfl s;cases F with
     | sub _ _ _ _ _ b n' c f hl hn J Q=>
      refine aQ (key _ _ _ _ i s) ?_;rw [bA,<-Bx];exact .eref k _ (lo+i) B 0 b _ _ f
     | sub0=>simp at s
    .exact trivial
   .exact trivial
  .rename_i len h ea G;have d:=D.kind;rw [G] at d;obtain ⟨⟨e,K,q,_⟩,_⟩:=d;have key:∀ (r:Addr) k,0<=n->n.toNat<len->(Ib t (.pointer (some r)) (.int k n)).run E.P w= .ok (.pointer (some (r.add (n.toNat*h)))) w:=λ r k Z h1=>by unfold Ib Ir;simp only [Bg,asIntOf,Bw,Aq,run_underlying K];rw [if_pos ⟨Z,by omega⟩];simp only [Bg,af q,Aq,Bw]
   split
   .rintro ⟨I,N⟩;obtain ⟨b,rfl,hb⟩:=F.ref_inv;refine aQ (key _ _ I N) ?_;rw [bA];exact .ref _ _ b hb
   .rintro ⟨I,N⟩;obtain ⟨b,o,rfl,O⟩:=F.ptr_inv;refine aQ (key _ _ I N) ?_;rw [bA];exact .ptr b _ _ λ j c J=>by rw [lN,Bp] at J;have:=O _ c J;rw [Kf];exact this
   .exact trivial
  .exact trivial
 .exact trivial
def aC2 (hE:ae E) {t:Nat} {v s:Value} {a i:aa} (y:Rep M ob v a) (f:Rep M ob s i):PS0 E.P M ob w (Lp t v s) ac base (Q0 E t a i):=by
 unfold Q0;split
 .rename_i l k n;obtain ⟨rfl,_⟩:=f.int_inv;obtain ⟨rfl,_⟩:=y.str_inv;split
  .rename_i _ _ _ o;obtain ⟨q,_⟩:=(hE.tab t _ o).kind;rintro i rfl c A;refine ⟨rfl,.int .u8 c.toNat,?_,uY c⟩;have r:i<l.length:=(Ab.1 A).1;unfold Lp;simp only [Bg,asIntOf,Bw,Aq,run_underlying q];rw [if_pos o_];have I:(⟨l.toArray⟩:ByteArray)[i]? =some c:=by
    have:i<(⟨l.toArray⟩:ByteArray).size:=by simpa [ByteArray.size] using r
    rw [getElem?_pos (⟨l.toArray⟩:ByteArray) i this];have j:=(Ab.1 A).2;rw [<-j];rfl
   simp_all
  .exact trivial
 .rename_i cs k n;obtain ⟨rfl,_⟩:=f.int_inv;split
  .rename_i len F D _ _ _ o;obtain ⟨⟨e,q,d,p,B⟩,_⟩:=(hE.tab t _ o).kind;split
   .rename_i l hl;obtain ⟨vs,rfl,g,G⟩:=y.agg_inv;have key:∀ x,0<=n->n<len->(aP E.P e=true->x= .agg l)->(aP E.P e=false->l=[x])->PS0 E.P M ob w (Lp t (.agg vs.toArray) (.int k n)) ac base (.val x):=by intro x H h1 C h3;obtain ⟨u,h,m⟩:=B6 (P:=E.P) (w:=w) (t:=e) d p ⟨g,G⟩ hl C h3;refine aQ (u:=u) ?_ m;unfold Lp;simp only [Bg,asIntOf,Bw,Aq,run_underlying q];rw [if_pos ⟨H,h1⟩];simp only [Bg,af d,Aq,h]
    cases z:D with
    | true=>exact λ b=>key _ b.1 b.2 (λ_=>rfl) (λ e=>by simp_all)
    | false=>
     simp only [cond_false];split
     .exact λ b=>key _ b.1 b.2 (λ e=>by simp_all) (λ_=>rfl)
     .exact trivial
   .exact trivial
  .exact trivial
 .exact trivial
def aKk (hE:ae E) (hm:Mem M ob ac w) {t ty:TypeId} {v:Value} {a:aa} (m:Rep M ob v a):PS0 E.P M ob w (Fo #[t] ty #[v]) ac base (aKl E (aC ac) t a):=by
 unfold aKl;split
 .exact trivial
 .rename_i B C;have d:=(hE.tab t B C).kind
  have f:∀ n:Nat,(n:Int)<=9223372036854775807->inR .i64 (n:Int):=λ n h=>⟨by simp only [cJ];omega,by simp only [bE];omega⟩
  have p:Rep M ob (.int .i64 (0:Nat)) (.int .i64 (0:Nat)):=.int _ _ (f 0 d_);have slc:∀ {r:Value} {o:Nat} {xs:List aa} {tk:Tk} {e:TypeId},E.P.underlying t=some (.slice e)->Rep M ob r (.slice o xs tk)->PS0 E.P M ob w (Fo #[t] ty #[r]) ac base (.val (.int .i64 xs.length)):=λ{r o xs tk e} x hr=>by obtain ⟨a,c,rfl,_,_,q⟩:=hr.slice_inv;exact aQ (u:=.int .i64 xs.length) (by simp [Fo,run_underlying x,goInt]) (.int _ _ (f _ q))
  split
  .rename_i l g;rw [g] at d;obtain ⟨rfl,h⟩:=m.str_inv;exact aQ (u:=.int .i64 l.length) (by simp [Fo,run_underlying d.1,goInt,oW]) (.int _ _ (f _ h))
  .rename_i g;rw [g] at d;exact slc d.1.1 m
  .rename_i g;rw [g] at d;cases m;exact aQ (u:=.int .i64 (0:Nat)) (by simp [Fo,run_underlying d.1.1,goInt]) p
  .rename_i g;rw [g] at d;cases m with
   | csl _ _ _ _ b h j=>exact aQ (u:=.int .i64 (Nat.cast _)) (by simp [Fo,run_underlying d.1.1,goInt]) (.int _ _ (f _ j))
  .rename_i g;rw [g] at d;cases m;exact λ j=>aQ (u:=.int .i64 (Nat.cast _)) (by simp [Fo,run_underlying d.1.1,goInt]) (.int _ _ (f _ j))
  .rename_i g;rw [g] at d;obtain ⟨a,n,c,rfl,i⟩:=m.row_inv;split
   .rename_i D o e xs k;refine sdc λ s=>?_;obtain rfl:=aB s;obtain ⟨hs',v,h1,A,h3,q,F,_⟩:=hm.rowOf (bZ k s_);rw [q] at i;cases i;rcases F.len with ⟨y,rfl⟩ | ⟨b,cap,y,K,G,H⟩
    .cases y;exact aQ (u:=.int .i64 (0:Nat)) (by simp [Fo,run_underlying d.1.1,goInt]) p
    .cases y;exact aQ (u:=.int .i64 xs.length) (by simp [Fo,run_underlying d.1.1,goInt]) (.int _ _ (f _ (by have:=gC;omega)))
   .rename_i D o xs k;refine sdc λ s=>?_;obtain rfl:=aB s;obtain ⟨hs',h1,v,A,h3⟩:=hm.obj _ _ (bZ k s_);rw [bV h1,A] at i;cases i;exact slc d.1.1 (h3.pure (M:=M) (ob:=ob))
   .exact trivial
  .rename_i g;rw [g] at d;cases m with
   | sub _ _ _ _ _ b n c i hl z I j=>exact aQ (u:=.int .i64 (Nat.cast _)) (by simp [Fo,run_underlying d.1.1,goInt]) (.int _ _ (f _ o_))
   | sub0 _ _ _ _ a J n c=>exact aQ (u:=.int .i64 (0:Nat)) (by simp [Fo,run_underlying d.1.1,goInt]) p
  .rename_i _ g;rw [g] at d;obtain ⟨⟨e,x,_⟩,_⟩:=d;intro z;exact aQ (u:=.int .i64 (Nat.cast _)) (by simp [Fo,run_underlying x,goInt]) (.int _ _ (f _ z))
  .exact trivial
end
def VM (P:Program) (M:Imm) (ob:Hs) (ac:List ab) (w:World) (s:Sem Value) (v:aa) (ap:List ab):Prop:=
 ∃ u w' M' ob',s.run P w= .ok u w'/\Ext M ob ac w M' ob' ap w'/\Mem M' ob' ap w'/\cH ob ac ob' ap/\Rep M' ob' u v
abbrev PM (P:Program) (M:Imm) (ob:Hs) (w:World) (s:Sem Value) (ac:List ab) (base:Nat) (r:OR):Prop:=Sd (VM P M ob ac w s) (λ_ _=>False) (λ_=>False) ac base r
section
variable {P:Program} {E:Env} {M:Imm} {ob:Hs} {ac:List ab} {w:World} {base:Nat}
def PM.of (hm:Mem M ob ac w) {s:Sem Value} {r:OR} (h:PS0 P M ob w s ac base r):PM P M ob w s ac base r:=
 Sd.mono (λ v o ⟨h1,u,a,h3⟩=>⟨u,w,M,ob,a,h1▸Ext.refl _ _ _ _,h1▸hm,h1▸cH.refl _ _,h3⟩) (λ_ _ h=>h) (λ_ h=>h) h
def cB.pm {ρv:Operand->Value} {op:Op} {ty:TypeId} {r:OR} {s:Sem Value}
  (i:∀ d pos a g,execOp ρv ⟨d,op,ty,pos,a,g⟩=(s >>= λ v=>Pure.pure (.value v))) (h:PM P M ob w s ac base r):cB P ρv op ty M ob ac w base r:=
 Sd.mono (λ v o ⟨u,w',M',ob',f,h3,b,e,c⟩=>⟨u,w',M',ob',λ d pos a g=>.inl (by simp_all),h3,b,e,c⟩) (λ_ _ h=>h.elim) (λ_ h=>h.elim) h
def EE (M:Imm) (ob:Hs) (v:Option Value) (a:Option aa):Prop:=(v=none/\a=none)\/∃ u x,v=some u/\a=some x/\Rep M ob u x
def aD7 (v:Option Value) (q:Option Nat):Prop:=(v=none/\q=none)\/∃ (k:IntKind) (n:Nat),v=some (.int k n)/\q=some n
def rE {s:Sem Value} {a:Option Value} {l:Option aa} (h:EE M ob a l) {f:Option Nat->OR} (k:∀ q,aD7 a q->PS0 P M ob w s ac base (f q)):PS0 P M ob w s ac base (bnd l f):=by
 rcases h with ⟨rfl,rfl⟩ | ⟨u,x,rfl,rfl,b⟩
 .exact k none (.inl ⟨rfl,rfl⟩)
 .cases x with
  | int c n=>
   obtain ⟨rfl,_⟩:=b.int_inv;rintro i rfl;exact k (some i) (.inr ⟨c,i,rfl,rfl⟩)
  | _=>exact trivial
def aD7.none {v:Option Value} (h:aD7 v none):v=none:=by rcases h with ⟨h,_⟩ | ⟨_,_,_,h⟩;exact h;cases h
def aD7.some {v:Option Value} {n:Nat} (h:aD7 v (some n)):∃ k,v=some (.int k n):=by rcases h with ⟨_,h⟩ | ⟨k,n,h1,h⟩;cases h;grind
def DN {t e:TypeId} (h:P.underlying t=some (.slice e)):P.underlying t=some (.slice (P.elem t))/\P.elem t=e:=by
 have:P.elem t=e:=by simp [Program.elem,h]
 grind
def PB {v:Value} {f:Nat} {xs:List aa} (h:Rep M ob v (.slice f xs .no)):∃ a n c,v= .slice a n c/\xs.length=n/\n<=c/\∀ l d,l<=d->d<=n->
  Rep M ob (sliced a l d c f) (.slice f ((xs.take d).drop l) .no)/\(Rep M ob (sliced a l d d f) (.slice f ((xs.take d).drop l) .no)):=by
 cases h with
 | slnil f=>
  refine ⟨none,0,0,rfl,rfl,Bc _,λ l d h1 u=>?_⟩;have:d=0:=o_;subst this;have:l=0:=o_;subst this;exact ⟨.slnil f .no trivial,.slnil f .no trivial⟩
 | slemp f _ a cap=>
  refine ⟨some a,0,cap,rfl,rfl,Bv _,λ l d h1 u=>?_⟩;have:d=0:=o_;subst this;have:l=0:=o_;subst this;have hs:∀ m,∃ b c,sliced (some a) 0 0 m f= .slice (some b) 0 c:=λ m=>by
   unfold sliced
   grind
  obtain ⟨C,D,B⟩:=hs cap;obtain ⟨F,G,A⟩:=hs 0;rw [B,A];exact ⟨.slemp _ _ _ _ trivial,.slemp _ _ _ _ trivial⟩
 | sl f b o n c xs _ w t z hz y=>
  refine ⟨_,n,c,rfl,w,t,λ l d h1 u=>?_⟩;have r:∀ m,d<=m->Rep M ob (sliced (some ⟨b,o,none⟩) l d m f) (.slice f ((xs.take d).drop l) .no):=by
   intro m hm;have g:((xs.take d).drop l).length=d-l:=by simp;omega
   have s:∀ x∈(xs.take d).drop l,x.cells.length=f:=λ x k=>hz x (Cw (Fa k));have p:∀ (i:Nat) x,((xs.take d).drop l)[i]? =some x->xs[l+i]? =some x:=λ i x k=>by
    rw [Bp,Gg] at k;split at k
    .exact k
    .cases k
   by_cases q:m=l
   .have e:sliced (some ⟨b,o,none⟩) l d m f= .slice (some ⟨b,o,none⟩) (d-l) (m-l):=by simp [sliced,q]
    rw [e];refine .sl f b o _ _ _ _ g o_ o_ s (λ i j x c k t=>?_) trivial;have:i<d-l:=by rw [<-g];exact (Ab.1 k).1
    omega
   .have e:sliced (some ⟨b,o,none⟩) l d m f= .slice (some ⟨b,o+l*f,none⟩) (d-l) (m-l):=by simp [sliced,q,bA]
    rw [e];refine .sl f b _ _ _ _ _ g o_ o_ s (λ i j x c k t=>?_) trivial;have:=y _ j x c (p i x k) t;rwa [Bx,<-Kf] at this
  exact ⟨r c o_,r d (Bc _)⟩
def sX {k g x y d:Nat} {a:Option Addr} {n c:Nat} (j:a=none/\n=0/\c=0\/∃ b,a=some ⟨b,0,none⟩) (h:at' ob k g=some (.slice a n c)) (l:n<=c) (m:x<=y) (o:y<=n) (i:(n:Int)<=9223372036854775807):
  Rep M ob (sliced a x y c d) (.sub k g x (y-x) d):=by
 by_cases f:c=x
 .have e:sliced a x y c d= .slice a 0 0:=by have:y-x=0:=o_;simp [sliced,f,this]
  rw [e];have:y-x=0:=o_;rw [this];exact .sub0 k g x d a a n c h o_ o_
 .rcases j with ⟨rfl,rfl,rfl⟩ | ⟨b,rfl⟩
  .omega
  .have e:sliced (some ⟨b,0,none⟩) x y c d= .slice (some ⟨b,x*d,none⟩) (y-x) (c-x):=by simp [sliced,f,bA]
   rw [e];exact .sub k g x (y-x) d b n c h o_ o_ l i
def oM {k g lo x y a b n c:Nat} (f:at' ob k g=some (.slice (some ⟨b,0,none⟩) n c)) (hl:lo<c) (l:n<=c) (j:x<=y) (m:lo+y<=n) (h:(n:Int)<=9223372036854775807):
  Rep M ob (sliced (some ⟨b,lo*a,none⟩) x y (c-lo) a) (.sub k g (lo+x) (y-x) a):=by
 by_cases d:c-lo=x
 .have i:y-x=0:=o_;have e:sliced (some ⟨b,lo*a,none⟩) x y (c-lo) a= .slice (some ⟨b,lo*a,none⟩) 0 0:=by simp [sliced,d,i]
  rw [e,i];exact .sub0 k g (lo+x) a _ _ n c f o_ o_
 .have e:sliced (some ⟨b,lo*a,none⟩) x y (c-lo) a= .slice (some ⟨b,(lo+x)*a,none⟩) (y-x) (c-(lo+x)):=by simp [sliced,d,bA,Bx];omega
  rw [e];exact .sub k g (lo+x) (y-x) a b n c f o_ o_ l h
def aCT (hE:ae E) (hm:Mem M ob ac w) {t:TypeId} {v:Value} {a:aa} (hv:Rep M ob v a) {vlo vhi vmx:Option Value} {lo hi mx:Option aa}
  (L:EE M ob vlo lo) (N:EE M ob vhi hi) (hmx:EE M ob vmx mx):PS0 E.P M ob w (Gv t v vlo vhi vmx) ac base (QS E (aC ac) t a lo hi mx):=by
 have H:mx=none->vmx=none:=λ e=>by
  rcases hmx with ⟨h,_⟩ | ⟨_,_,_,h,_⟩
  .exact h
  grind
 have U:lo=none->vlo=none:=λ e=>by
  rcases L with ⟨h,_⟩ | ⟨_,_,_,h,_⟩
  .exact h
  grind
 have X:hi=none->vhi=none:=λ e=>by
  rcases N with ⟨h,_⟩ | ⟨_,_,_,h,_⟩
  .exact h
  grind
 unfold QS;split
 .exact trivial
 .rename_i ti hT;have hti:=hE.tab t ti hT;have f:=hti.kind;split
  .rename_i l;obtain ⟨rfl,hlm⟩:=hv.str_inv;split
   .have O:=‹ti.kind=TK.str›;rw [O] at f;obtain rfl:=H rfl;have G:=f.1;have hb:∀ i j,(⟨l.toArray⟩:ByteArray).extract i j=⟨((l.take j).drop i).toArray⟩:=P5 l;have hs:(⟨l.toArray⟩:ByteArray).size=l.length:=oW l;refine rE L λ D s=>rE N λ q o=>?_;cases D with
    | none=>
     obtain rfl:=s.none;cases q with
     | none=>
      obtain rfl:=o.none;refine aQ (u:=.string ⟨l.toArray⟩) ?_ (.str _ hlm);rw [run_sliceAt_string w t _ _ _ _ G];unfold Lq Gm;simp only [Bg,run_underlying G,Aq,Jc,Cp,if_false,Bw,hb,hs];simp
     | some y=>
      obtain ⟨k,rfl⟩:=o.some;intro I;refine aQ (u:=.string ⟨(l.take y).toArray⟩) ?_ (.str _ q_);rw [run_sliceAt_string w t _ _ _ _ G];unfold Lq Gm Jz;simp only [Bg,run_underlying G,Aq,Jc,Cp,if_false,Bw,hb,hs,asIntOf];simp_all
    | some x=>
     obtain ⟨k,rfl⟩:=s.some;cases q with
     | none=>
      obtain rfl:=o.none;intro I;refine aQ (u:=.string ⟨(l.drop x).toArray⟩) ?_ (.str _ q_);rw [run_sliceAt_string w t _ _ _ _ G];unfold Lq Gm Jz;simp only [Bg,run_underlying G,Aq,Jc,Cp,if_false,Bw,hb,hs,asIntOf];simp_all
     | some y=>
      obtain ⟨J,rfl⟩:=o.some;rintro ⟨I,c2⟩;refine aQ (u:=.string ⟨((l.take y).drop x).toArray⟩) ?_ (.str _ q_);rw [run_sliceAt_string w t _ _ _ _ G];unfold Lq Gm Jz;simp only [Bg,run_underlying G,Aq,Jc,Cp,if_false,Bw,hb,hs,asIntOf];rw [if_pos ⟨by omega,by omega⟩];simp;omega
   .exact trivial
  .rename_i A xs tt;split
   .rename_i e esz eb O;rw [O] at f;obtain ⟨⟨G,ie,z,hi',hs,_⟩,_⟩:=f;refine sdc λ hg=>?_;obtain rfl:=aB hg;obtain ⟨d,hel⟩:=DN G;have F:(E.P.info? (E.P.elem t)).map (·.size)=some A:=by grind
    obtain ⟨C,n,cap,rfl,Q,K,key⟩:=PB hv.untok.1;have p:=λ u:World=>af (P:=E.P) F u;refine rE L λ D s=>rE N λ q o=>rE hmx λ qmx bmx=>?_;cases qmx with
    | none=>
     obtain rfl:=bmx.none;cases D with
     | none=>
      obtain rfl:=s.none;cases q with
      | none=>
       obtain rfl:=o.none;refine aQ (u:=sliced C 0 n cap A) ?_ ?_
       .rw [run_sliceAt_slice w t _ _ _ _ d,run_slice_all w t C n cap d,p];rfl
       .have:=(key 0 n o_ (Bc _)).1;rw [<-Q,Ge,Ci] at this;rw [<-Q];exact this
      | some y=>
       obtain ⟨k,rfl⟩:=o.some;intro I;refine aQ (u:=sliced C 0 y cap A) ?_ ?_
       .rw [run_sliceAt_slice w t _ _ _ _ d,run_slice_h w t C n cap d k y o_ o_,p];rfl
       .have:=(key 0 y o_ o_).1;rw [Ci] at this;exact this
     | some x=>
      obtain ⟨k,rfl⟩:=s.some;cases q with
      | none=>
       obtain rfl:=o.none;intro I;refine aQ (u:=sliced C x n cap A) ?_ ?_
       .rw [run_sliceAt_slice w t _ _ _ _ d,run_slice_l w t C n cap d k x o_ o_,p];rfl
       .have:=(key x n o_ (Bc _)).1;rw [<-Q,Ge] at this;rw [<-Q];exact this
      | some y=>
       obtain ⟨J,rfl⟩:=o.some;rintro ⟨I,c2⟩;refine aQ (u:=sliced C x y cap A) ?_ ?_
       .rw [run_sliceAt_slice w t _ _ _ _ d,run_slice_lh w t C n cap d k J x y o_ o_ o_,p];rfl
       .exact (key x y o_ o_).1
    | some m=>
     obtain ⟨km,rfl⟩:=bmx.some;cases D with
     | some x=>cases q<;>exact trivial
     | none=>
      obtain rfl:=s.none;cases q with
      | none=>exact trivial
      | some y=>
       obtain ⟨k,rfl⟩:=o.some;rintro ⟨I,rfl⟩;have hk2:=(key 0 m o_ o_).2;rw [Ci] at hk2;refine aQ (u:=sliced C 0 m m A) ?_ ?_
       .rw [run_sliceAt_slice w t _ _ _ _ d,run_slice_hm w t C n cap d k km m m o_ (Dh _) o_,p];rfl
       .exact hk2.tok ⟨_,m,rfl⟩
   .exact trivial
  .rename_i k g;split
   .rename_i g' A e' xs _ Z;have O:=‹ti.kind=TK.slc _ _ _›;rw [O] at f;refine sdc λ hg=>?_;obtain ⟨hg1,hg2⟩:=aU hg;obtain rfl:=aB hg1;obtain rfl:=aB hg2;obtain ⟨⟨G,ie,z,hi',hs,_⟩,_⟩:=f;obtain ⟨d,hel⟩:=DN G;have F:(E.P.info? (E.P.elem t)).map (·.size)=some A:=by simp_all
    have p:=λ u:World=>af (P:=E.P) F u;obtain rfl:=H rfl;obtain ⟨C,n,cap,rfl,r⟩:=hv.row_inv;obtain ⟨hs',v,h1,h2,h3,h4,h5,_⟩:=hm.rowOf (bZ Z s_);rw [r] at h4;cases h4;have Q:n=xs.length/\n<=cap/\(n:Int)<=9223372036854775807/\(C=none/\n=0/\cap=0\/∃ b,C=some ⟨b,0,none⟩):=by
     rcases h5.len with ⟨e1,rfl⟩ | ⟨b,c,e1,e2,e3,e4⟩
     .cases e1;simp
     .cases e1;exact ⟨rfl,e3,by have:=gC;omega,.inr ⟨b,rfl⟩⟩
    obtain ⟨Q,K,B,T⟩:=Q;refine rE L λ D s=>rE N λ q o=>?_;cases D with
    | none=>
     obtain rfl:=s.none;cases q with
     | none=>
      obtain rfl:=o.none;refine aQ (u:=.slice C n cap) ?_ hv;rw [run_sliceAt_slice w t _ _ _ _ d,run_slice_all w t C n cap d,p];show Result.ok (sliced C 0 n cap A) w=_;congr 1;rcases T with ⟨rfl,rfl,rfl⟩ | ⟨b,rfl⟩
      .rfl
      .simp [sliced,bA]
     | some y=>
      obtain ⟨J,rfl⟩:=o.some;intro I;refine aQ (u:=sliced C 0 y cap A) ?_ (sX T r K (Bv _) o_ B);rw [run_sliceAt_slice w t _ _ _ _ d,run_slice_h w t C n cap d J y o_ o_,p];rfl
    | some x=>
     obtain ⟨W,rfl⟩:=s.some;cases q with
     | none=>
      obtain rfl:=o.none;intro I;refine aQ (u:=sliced C x n cap A) ?_ ?_
      .rw [run_sliceAt_slice w t _ _ _ _ d,run_slice_l w t C n cap d W x o_ o_,p];rfl
      .rw [<-Q];exact sX T r K o_ o_ B
     | some y=>
      obtain ⟨J,rfl⟩:=o.some;rintro ⟨I,c2⟩;refine aQ (u:=sliced C x y cap A) ?_ (sX T r K o_ o_ B);rw [run_sliceAt_slice w t _ _ _ _ d,run_slice_lh w t C n cap d W J x y o_ o_ o_,p];rfl
   .exact trivial
  .rename_i k g S len A;split
   .rename_i g' sz' e' xs _ Z;have O:=‹ti.kind=TK.slc _ _ _›;rw [O] at f;refine sdc λ hg=>?_;obtain ⟨hg12,hg3⟩:=aU hg;obtain ⟨hg1,hg2⟩:=aU hg12;obtain rfl:=aB hg1;obtain rfl:=aB hg2;obtain rfl:=aB hg3;obtain ⟨⟨G,ie,z,hi',hs,_⟩,_⟩:=f;obtain ⟨d,hel⟩:=DN G;have F:(E.P.info? (E.P.elem t)).map (·.size)=some A:=by rw [hel];simp [hi',hs]
    have p:=λ u:World=>af (P:=E.P) F u;obtain rfl:=H rfl;obtain ⟨hs',v,h1,h2,h3,h4,h5,_⟩:=hm.rowOf (bZ Z s_);have nl:∀ {n:Nat} {C:Option Addr} {cap:Nat},at' ob k g=some (.slice C n cap)->n=xs.length/\n<=cap:=λ{n C cap} r=>by
     rw [r] at h4;cases h4;rcases h5.len with ⟨e1,rfl⟩ | ⟨b,c,e1,e2,e3,e4⟩
     .cases e1;simp
     .cases e1;omega
    cases hv with
    | sub _ _ _ _ _ b n c r hl Q R B=>
     obtain ⟨hnx,_⟩:=nl r;refine rE L λ D s=>rE N λ q o=>?_;cases D with
     | none=>
      obtain rfl:=s.none;cases q with
      | none=>
       obtain rfl:=o.none;refine aQ (u:=sliced (some ⟨b,S*A,none⟩) 0 len (c-S) A) ?_ (oM r hl R (Bv _) Q B);rw [run_sliceAt_slice w t _ _ _ _ d,run_slice_all w t _ len _ d,p];rfl
      | some y=>
       obtain ⟨J,rfl⟩:=o.some;intro I;refine aQ (u:=sliced (some ⟨b,S*A,none⟩) 0 y (c-S) A) ?_ (oM r hl R (Bv _) o_ B);rw [run_sliceAt_slice w t _ _ _ _ d,run_slice_h w t _ len _ d J y o_ o_,p];rfl
     | some x=>
      obtain ⟨W,rfl⟩:=s.some;cases q with
      | none=>
       obtain rfl:=o.none;intro I;refine aQ (u:=sliced (some ⟨b,S*A,none⟩) x len (c-S) A) ?_ (oM r hl R I Q B);rw [run_sliceAt_slice w t _ _ _ _ d,run_slice_l w t _ len _ d W x o_ o_,p];rfl
      | some y=>
       obtain ⟨J,rfl⟩:=o.some;rintro ⟨I,c2⟩;refine aQ (u:=sliced (some ⟨b,S*A,none⟩) x y (c-S) A) ?_ (oM r hl R I o_ B);rw [run_sliceAt_slice w t _ _ _ _ d,run_slice_lh w t _ len _ d W J x y o_ o_ o_,p];rfl
    | sub0 _ _ _ _ a Y n c r hl R=>
     obtain ⟨hnx,_⟩:=nl r;have e0:sliced Y 0 0 0 A= .slice Y 0 0:=by rfl
     have r0:Rep M ob (sliced Y 0 0 0 A) (.sub k g S 0 A):=by rw [e0];exact .sub0 _ _ _ _ a Y n c r hl R
     refine rE L λ D s=>rE N λ q o=>?_;cases D with
     | none=>
      obtain rfl:=s.none;cases q with
      | none=>
       obtain rfl:=o.none;refine aQ (u:=sliced Y 0 0 0 A) ?_ r0;rw [run_sliceAt_slice w t _ _ _ _ d,run_slice_all w t _ 0 _ d,p];rfl
      | some y=>
       obtain ⟨J,rfl⟩:=o.some;intro I;obtain rfl:y=0:=o_;refine aQ (u:=sliced Y 0 0 0 A) ?_ r0;rw [run_sliceAt_slice w t _ _ _ _ d,run_slice_h w t _ 0 _ d J ((0:Nat):Int) o_ o_,p];rfl
     | some x=>
      obtain ⟨W,rfl⟩:=s.some;cases q with
      | none=>
       obtain rfl:=o.none;intro I;obtain rfl:x=0:=o_;refine aQ (u:=sliced Y 0 0 0 A) ?_ r0;rw [run_sliceAt_slice w t _ _ _ _ d,run_slice_l w t _ 0 _ d W ((0:Nat):Int) o_ o_,p];rfl
      | some y=>
       obtain ⟨J,rfl⟩:=o.some;rintro ⟨I,c2⟩;obtain rfl:y=0:=o_;obtain rfl:x=0:=o_;refine aQ (u:=sliced Y 0 0 0 A) ?_ r0;rw [run_sliceAt_slice w t _ _ _ _ d,run_slice_lh w t _ 0 _ d W J ((0:Nat):Int) ((0:Nat):Int) o_ o_ o_,p];rfl
   .exact trivial
  .rename_i k off;split
   .rename_i len esz ea O;rw [O] at f;obtain ⟨⟨e,G,F,_⟩,_⟩:=f;obtain rfl:=H rfl;obtain rfl:=U rfl;obtain rfl:=X rfl;intro B;obtain ⟨b,rfl,hb⟩:=hv.ref_inv;refine aQ (u:=.slice (some ⟨b,off,none⟩) len len) ?_ (.csl _ _ _ _ b hb B);unfold Gv Ir Gm;simp only [Bg,run_underlying G,Aq,Bw,af F];simp [bA]
   .exact trivial
  .rename_i cs;split
   .rename_i len O;rw [O] at f;obtain ⟨⟨e,G,F,_⟩,_⟩:=f;obtain rfl:=H rfl;obtain rfl:=U rfl;obtain rfl:=X rfl;split
    .rename_i l hl;refine sdc λ V=>?_;intro B;obtain ⟨t1,t2⟩:=iX hl;obtain ⟨b,o',rfl,hM⟩:=hv.ptr_inv;refine aQ (u:=.slice (some ⟨b,o',none⟩) len len) ?_ (.sl 1 b o' len len l _ t1 (Bc _) B (λ x hx=>?_) (λ i j x c hx R=>?_) ⟨_,len,rfl⟩)
     .unfold Gv Ir Gm;simp only [Bg,run_underlying G,Aq,Bw,af F];simp [bA]
     .obtain ⟨i,hi⟩:=Ct hx;rw [nO (kX V i x hi)];rfl
     .rw [nO (kX V i x hx)] at R;cases j with
      | succ j=>simp at R
      | zero=>
       simp at R;subst R;have:=hM i x (t2 i x hx)
       grind
    .exact trivial
   .exact trivial
  .exact trivial
end
section
variable {P:Program} {E:Env} {M:Imm} {ob:Hs} {ac:List ab} {w:World} {base:Nat}
def Z9 {α:Type} (l:List α):(l.drop 0).take l.length=l:=by simp
def aAm (hm:Mem M ob ac w) {x:Value} {a:aa} (z:Rep M ob x a) {t:Nat} {xs:List aa} (h:aEJ (aC ac) a=some (t,xs)) (hs:0<t) {I R:TypeId} (q:P.underlying I=some (.slice R)):
  SrcA P M w t I x xs/\∃ i c,x= .slice i xs.length c/\(i=none->xs=[]/\c=0):=by
 unfold aEJ at h;split at h
 .cases h;obtain ⟨i,c,e,G,_⟩:=z.slice_inv;exact ⟨SrcA.ofSlice hm hs q z,i,c,e,G⟩
 .rename_i k g;obtain ⟨i,n,c,rfl,d⟩:=z.row_inv;split at h
  .rename_i J p e xs' f;obtain ⟨r,h⟩:=eP h;cases h;obtain rfl:=aB r;have l:=bZ f s_;obtain ⟨hs',v,h1,B,h3,j,y,_⟩:=hm.rowOf l;rw [d] at j;cases j;have hl:n=xs.length/\(i=none->xs=[]/\c=0):=by
    rcases y.len with ⟨m,rfl⟩ | ⟨b,c,m,V,S,U⟩
    .simp_all
    grind
   obtain ⟨rfl,D⟩:=hl;have:=SrcA.ofRow hm hs l q d (lo:=0) (len:=xs.length) o_ (x:=.slice i xs.length c) (λ b K u e _=>by cases e;simp) (λ h=>⟨i,c,by rw [h]⟩);rw [Z9] at this;exact ⟨this,i,c,rfl,D⟩
  .rename_i J p xs' f;obtain ⟨r,h⟩:=eP h;cases h;obtain rfl:=aB r;obtain ⟨hs',h1,v,B,h3⟩:=hm.obj _ _ (bZ f s_);rw [bV h1,B] at d;cases d;have o:=h3.pure (M:=M) (ob:=ob);obtain ⟨C,u,e,G,_⟩:=o.slice_inv;exact ⟨SrcA.ofSlice hm hs q o,C,u,e,G⟩
  .cases h
 .rename_i k g lo len t;split at h
  .rename_i J p e xs' f;obtain ⟨r,h⟩:=eP h;cases h;obtain ⟨A,F⟩:=aU r;obtain rfl:=aB A;obtain rfl:=aB F;have l:=bZ f s_;obtain ⟨hs',v,h1,B,h3,j,y,_⟩:=hm.rowOf l;cases z with
   | sub _ _ _ _ _ b n c d hl T L Q=>
    rw [d] at j;cases j;have H:n=xs'.length:=by
     rcases y.len with ⟨m,_⟩ | ⟨b,c,m,_⟩
     .cases m
     grind
    have s:((xs'.drop lo).take len).length=len:=by simp;omega
    refine ⟨SrcA.ofRow hm hs l q d (lo:=lo) (len:=len) o_ (λ N K u e _=>by cases e;simp) (λ h=>⟨_,_,by rw [h]⟩),_,_,by rw [s],λ e=>by cases e⟩
   | sub0 _ _ _ _ i O n c d hl L=>
    rw [d] at j;cases j;have H:n=xs'.length:=by
     rcases y.len with ⟨m,rfl⟩ | ⟨b,c,m,_⟩
     .simp_all
     grind
    refine ⟨SrcA.ofRow hm hs l q d (lo:=lo) (len:=0) o_ (λ N K u e h=>absurd rfl h) (λ_=>⟨_,_,rfl⟩),O,0,by simp,λ_=>⟨by simp,rfl⟩⟩
  .cases h
 .cases h
def PA (hE:ae E) (hm:Mem M ob ac w) {x:Value} {a:aa} (g:Rep M ob x a) {b e:Nat} {ys:List aa} (h:aAn E (aC ac) b e a=some ys) (hs:0<b):SrcA E.P M w b e x ys:=by
 unfold aAn at h;split at h
 .rename_i l;split at h
  .rename_i _ _ _ d;obtain ⟨f,h⟩:=eP h;cases h;obtain rfl:=aB f;obtain ⟨rfl,_⟩:=g.str_inv;exact SrcA.ofStr (hE.tab e _ d).kind.1 l
  .cases h
 .split at h
  .rename_i _ _ _ _ _ _ d;cases h;cases g;exact ⟨⟨[],Src.ofNil w (hE.tab e _ d).kind.1.1 0,λ q c k=>by simp [aH] at k⟩,λ y j=>by simp at j,λ m hm=>B0 hm⟩
  .cases h
 .split at h
  .rename_i _ _ _ _ _ _ n xs d i;obtain ⟨f,h⟩:=eP h;cases h;obtain rfl:=aB f;exact (aAm hm g i hs (hE.tab e _ d).kind.1.1).1
  .cases h
def aAy {s d e:TypeId} {a:Option Addr} {l:List UInt8} {c:Nat} (v:P.underlying s=some (.slice e)) (o:P.underlying e=some (.int .u8)) (t:P.underlying d=some .string)
  (q:a=none->l=[]/\c=0) (hs:SrcA P M w 1 s (.slice a l.length c) (l.map ub)):(convert s d (.slice a l.length c)).run P w= .ok (.string ⟨l.toArray⟩) w:=by
 rw [run_convert_bytes_string w s d e a l.length c v o t];cases a with
 | none=>
  obtain ⟨rfl,rfl⟩:=q rfl;rfl
 | some a=>
  obtain ⟨⟨news,b,p⟩,_⟩:=hs;have y:news.length=l.length:=by rw [b.newsLen];simp
  have f:news=(l.map λ c=>(c.toNat:Int)).map (Eb .u8):=by
   refine Ek λ j=>?_;by_cases m:j<l.length
   .obtain ⟨u,i,k⟩:=p j (ub l[j]) (by rw [yD,Aa m];rfl);rw [i,k.int_inv.1];simp [Aa m]
   .rw [Bk o_,Bk q_]
  have h:(loadCells a l.length).run P w= .ok news.toArray w:=by have:=b.cells;rw [Ch] at this;have e:Cj 1 l.length (.slice (some a) l.length c)=loadCells a (l.length*1):=rfl;rw [e,Nat.mul_one] at this;exact this
  rw [f] at h;rw [run_bytesToString w a l.length c _ h];congr 2;have g:∀ (l:List UInt8) (r:ByteArray),(l.map λ c=>(c.toNat:Int)).foldl (λ r n=>r.push (Dm n.toNat)) r=⟨r.data++l.toArray⟩:=by
   intro l;induction l with
   | nil=>simp
   | cons c l x=>
    intro r;simp only [Bl,Ba,x];simp
  rw [g];simp
def AC (w:World) (e:TypeId) (s:ByteArray):(Lib.bytesWorld w e s).os=w.os/\(Lib.bytesWorld w e s).tape=w.tape/\(Lib.bytesWorld w e s).output=w.output:=⟨rfl,rfl,rfl⟩
def aG4 (hE:ae E) (hm:Mem M ob ac w) {s d:TypeId} {v:Value} {a:aa} (C:Rep M ob v a):PM E.P M ob w (convert s d v) ac base (aC6 E (aC ac) s d a):=by
 unfold aC6;split
 .rename_i W N hs Y;have g:=(hE.tab s W hs).kind;have f:=(hE.tab d N Y).kind;obtain ⟨t,_⟩:=g.isAgg;obtain ⟨ds,G⟩:=Da.1 t;split
  .rename_i k U n r;rw [r] at f;obtain ⟨rfl,_⟩:=C.int_inv;have key:(convert s d (.int U n)).run E.P w= .ok (.int k (k.wrap n)) w:=by simp [convert,run_underlying G,run_underlying f.1,Conv.intToInt]
   refine PM.of hm ⟨λ hp=>⟨rfl,_,by rw [key,jK hp],.int _ _ hp⟩,rfl,_,key,.int _ _ (jQ _ _)⟩
  .rename_i l r;rw [r] at f;obtain ⟨rfl,hl⟩:=C.str_inv;split
   .rename_i m;rw [m] at g;refine PM.of hm (aQ (u:=.string ⟨l.toArray⟩) ?_ (.str _ hl));simp [convert,run_underlying g.1,run_underlying f.1]
   .exact trivial
  .rename_i e Z l r;rw [r] at f;obtain ⟨⟨H,_⟩,_⟩:=f;obtain ⟨rfl,hl⟩:=C.str_inv;split
   .rename_i _ _ _ m F;rw [m] at g;have z:=(hE.tab e _ F).kind.1;have q:=Lib.run_convert_string_bytes (P:=E.P) w s d e ⟨l.toArray⟩ g.1 H z;rw [oW] at q;obtain ⟨O,q2,q3⟩:=AC w e ⟨l.toArray⟩;have key:∀ (j:Nat) c,l[j]? =some c->(Lib.bytesWorld w e ⟨l.toArray⟩).cell? ⟨w.heap.size,j,none⟩=some (.int .u8 c.toNat):=λ j c L=>by have J:j<l.length:=(Ab.1 L).1;rw [Lib.bytesWorld_cell w e ⟨l.toArray⟩ j (by rw [oW];exact J)];simp [List.getD,L]
    obtain ⟨Q,X⟩:=hm.more (M':=λ b o y=>M b o y\/(b=w.heap.size/\∃ c,l[o]? =some c/\y=ub c)) (w':=Lib.bytesWorld w e ⟨l.toArray⟩) (λ_ _ _ h=>.inl h) (λ b o y A=>by
      rcases A with A | ⟨rfl,_⟩
      .exact .inl A
      omega) (λ b o y A=>by
      rcases A with A | ⟨rfl,c,B,rfl⟩
      .obtain ⟨v,h1,T,h3⟩:=hm.imm b o y A;exact ⟨v,(Lib.bytesWorld_old w e _ _ (Cs w _ h1)).trans h1,T,h3.monoM λ_ _ _ h=>.inl h⟩
      .exact ⟨_,key o c B,rfl,uY c⟩) (λ b S=>Lib.bytesWorld_at_old w e _ b S) O q2 q3 (by rw [Lib.bytesWorld_size];omega)
    refine ⟨_,_,_,ob,q,X,Q,cH.refl _ _,.sl 1 w.heap.size 0 _ _ _ _ s_ (grownCap_ge w _ 0 e) hl (λ x D=>SP l x D) (λ i j x c D B=>?_) trivial⟩;rw [Bf] at D;obtain ⟨V,hc',rfl⟩:=Cd.1 D;cases j with
    | succ j=>simp [ub,aa.cells] at B
    | zero=>
     simp [ub,aa.cells] at B;subst B;exact .inr ⟨rfl,V,by simp;omega,rfl⟩
   .exact trivial
  .have r:=‹N.kind=TK.str›;rw [r] at f;split
   .rename_i e Z xs m R;rw [m] at g;split
    .rename_i _ _ _ F;have z:=(hE.tab e _ F).kind.1;intro l K I;subst K;obtain ⟨p,ad,c,rfl,h0⟩:=aAm (P:=E.P) hm C R d_ g.1.1;refine ⟨_,w,M,ob,?_,Ext.refl _ _ _ _,hm,cH.refl _ _,.str l I⟩;rw [Ch] at p⊢;exact aAy g.1.1 z f.1 (λ e=>by grind) p
    .exact trivial
   .exact trivial
  .exact trivial
 .exact trivial
def GJ (off:Nat):∀ (l:List Value) (k:Nat) (cells:Array Value),((l.zipIdx k).foldl (λ(cs:Array Value) (p:Value×Nat)=>cs.setIfInBounds (off+p.2) p.1) cells).size=cells.size/\
  ∀ (i:Nat),((l.zipIdx k).foldl (λ(cs:Array Value) (p:Value×Nat)=>cs.setIfInBounds (off+p.2) p.1) cells)[i]? =if off+k<=i/\i<off+k+l.length/\i<cells.size then l[i-(off+k)]? else cells[i]?
 | [],k,cells=>by
  refine ⟨rfl,λ i=>?_⟩;simp;omega
 | c::l,k,cells=>by
  obtain ⟨h1,b⟩:=GJ off l (k+1) (cells.setIfInBounds (off+k) c);simp only [List.zipIdx_cons,Ba];refine ⟨by rw [h1];simp,λ i=>?_⟩;rw [b];simp only [Array.size_setIfInBounds,Al];by_cases d:i=off+k
  .subst d;rw [if_neg o_];by_cases hs:off+k<cells.size
   .rw [if_pos ⟨by omega,by omega,hs⟩];simp [hs]
   .rw [if_neg o_];rw [Array.getElem?_setIfInBounds_self];simp [hs]
  .rw [Eu o_];by_cases a:off+(k+1)<=i/\i<off+(k+1)+l.length/\i<cells.size
   .rw [if_pos a,if_pos ⟨by omega,by omega,a.2.2⟩];have:i-(off+k)=(i-(off+(k+1)))+1:=o_;rw [this,Fv]
   .rw [if_neg a,if_neg o_]
def ED (M:Imm) (ob:Hs) (vs:List (Nat×Value)) (as:List (Nat×aa)):Prop:=
 vs.length=as.length/\∀ (i:Nat) (p:Nat×Value) (q:Nat×aa),vs[i]? =some p->as[i]? =some q->p.1=q.1/\Rep M ob p.2 q.2
def tL {place d:Nat->Option (Nat×Nat)} (hp:∀ i p,d i=some p->place i=some p):
  ∀ {b:List (Nat×aa)} {vparts:List (Nat×Value)} {cs cs':List aa} {cells:Array Value},DO d cs b=some cs'->cA M ob cells.toList cs->ED M ob vparts b->
   ∃ a,Instr.fill place cells vparts=some a/\cA M ob a.toList cs':=by
 intro b;induction b with
 | nil=>
  intro vparts cs cs' cells h s hl;have:vparts=[]:=Ax hl.1;subst this;cases h;exact ⟨cells,rfl,s⟩
 | cons q b G=>
  intro vparts cs cs' cells h s hl;obtain ⟨hl,D⟩:=hl;obtain ⟨i,x⟩:=q
  match vparts,hl with
  | (i',v)::vparts,hl=>
   obtain ⟨F,f⟩:=D 0 _ _ rfl rfl;dsimp only at F f;subst F;simp only [DO] at h;split at h
   .cases h
   .rename_i off Q t;obtain ⟨O,z⟩:=eP h;obtain ⟨C,B⟩:=aU O;have A:x≠ .undef:=λ e=>by subst e;cases C
    have o:=aB B;rw [wQ] at o;split at z
    .rename_i w m;obtain ⟨U,R,I⟩:=jV m;obtain ⟨J,y⟩:=f.cells A;have H:v.cells.size=x.cells.length:=o_;obtain ⟨S,K⟩:=GJ off v.cells.toList 0 cells;have N:cells.size=cs.length:=by have:=s.1;omega
     have g:v.cells.zipIdx.foldl (λ(cs:Array Value) (x:Value×Nat)=>match x with | (c,j)=>cs.setIfInBounds (off+j) c) cells=(v.cells.toList.zipIdx 0).foldl (λ(cs:Array Value) (p:Value×Nat)=>cs.setIfInBounds (off+p.2) p.1) cells:=by rw [<-Array.foldl_toList];simp
     have k:cA M ob ((v.cells.toList.zipIdx 0).foldl (λ(cs:Array Value) (p:Value×Nat)=>cs.setIfInBounds (off+p.2) p.1) cells).toList w:=by
      refine ⟨by simp;omega,λ j u c n l=>?_⟩;rw [Array.getElem?_toList,K j] at n;rw [I j] at l;simp only [Fl] at n;by_cases r:off<=j/\j<off+x.cells.length
      .rw [if_pos r] at l;rw [if_pos ⟨by omega,by omega,by omega⟩] at n;exact y _ u c n l
      .rw [if_neg r] at l;rw [if_neg o_] at n;exact s.2 j u c q_ l
     obtain ⟨a,P,L⟩:=G (vparts:=vparts) z k ⟨by simpa using hl,λ i p q hp T=>D (i+1) p q q_ q_⟩;refine ⟨a,?_,L⟩;simp only [Instr.fill,hp _ _ t];rw [if_neg]
     .rw [g];exact P
     simp;omega
    .cases z
def yX {P:Program}:∀ {a:List Field} {b:List (Nat×Nat×Bool)},oH P a b->a.mapM (λ f=>(P.info? f.type).map λ i=>(f.offset,i.size))=some (b.map λ f=>(f.1,f.2.1))
 | [],[],_=>rfl
 | [],_::_,h=>h.elim
 | _::_,[],h=>h.elim
 | f::a,(off,sz,ag)::b,h=>by obtain ⟨h1,d,h3,g,c⟩:=h;obtain ⟨i,e,rfl⟩:=Cd.1 d;simp [List.mapM_cons,e,yX c,h1]
def T2 {α β:Type} (f:α->β):∀ (l:List α) (n:Nat),(nth l n).map f=(l.map f)[n]?
 | [],_=>by simp [nth]
 | x::_,0=>rfl
 | _::r,n+1=>by simpa [nth] using T2 f r n
def aC8 (hE:ae E) {t:TypeId} {g:List (Nat×aa)} {vparts:Array (Nat×Value)} (hl:ED M ob vparts.toList g):PS0 E.P M ob w (Instr.build t vparts) ac base (Q4 E t g):=by
 unfold Q4;split
 .rename_i I J;have m:=hE.tab t I J;obtain ⟨info,z,D,Q,hz,O,h,_,_⟩:=m.info;have c:=m.kind;split
  .rename_i K s x l;rw [x] at c;obtain ⟨⟨F,A,L⟩,_⟩:=c;split
   .rename_i cs d;rw [l] at h;cases h with
    | agg vs as r j=>
     have k:cA M ob vs.toArray.toList s:=⟨by omega,λ i v a N B=>jJ (j i v a o_ B)⟩
     obtain ⟨b,C,q⟩:=tL (place:=((K.map λ f=>(f.1,f.2.1)).toArray[·]?)) (λ i p hp=>by rw [T2] at hp;simpa using hp) d k hl;have o:E.P.built t vparts.toList=some b:=by simp only [Program.built,D,A,hz,yX L];exact C
     have:b=b.toList.toArray:=by simp
     rw [this] at o;exact aQ (run_build w t vparts _ o) (.agg _ _ q.1 q.2)
   .exact trivial
  .rename_i n H R s x l;rw [x] at c;obtain ⟨⟨e,A,y,_⟩,_⟩:=c;obtain ⟨G,u,rfl⟩:=Cd.1 y;split
   .rename_i cs d;rw [l] at h;cases h with
    | agg vs as r j=>
     have k:cA M ob vs.toArray.toList s:=⟨by omega,λ i v a N B=>jJ (j i v a o_ B)⟩
     obtain ⟨b,C,q⟩:=tL (place:=λ i=>some (i*G.size,G.size)) (λ i p hp=>hp) d k hl;have o:E.P.built t vparts.toList=some b:=by simp only [Program.built,D,A,hz,u];exact C
     have:b=b.toList.toArray:=by simp
     rw [this] at o;exact aQ (run_build w t vparts _ o) (.agg _ _ q.1 q.2)
   .exact trivial
  .exact trivial
 .exact trivial
end
section
variable {P:Program} {E:Env} {M:Imm} {ob:Hs} {ac:List ab} {w:World} {base:Nat}
def Mem.bare (h:Mem M ob ac w):Mem M [] [] w:=
 ⟨h.imm,rfl,λ k c a=>by simp at a,λ k b ⟨c,hs,h1,_⟩=>by simp at h1,λ k d b ⟨c,hs,h1,_⟩=>by simp at h1⟩
def aBt:aC []=λ_=>ab.dead:=by rfl
def Mem.pure0 (h:Mem M ob ac w) {v:Value} {a:aa} (b:Rep (λ_ _ _=>False) [] v a):Rep M [] v (AW.ah (λ_=>.dead) 4 a):=by have:=h.bare.pureV 4 v a (jJ b);rwa [aBt] at this
def yP {t:Nat} {a:Addr} {v:Value} {w':World} (hs:(P.info? t).map (·.size)=some v.cells.size) (h:(storeCells a v.cells.toList).run P w= .ok () w'):
  (Kh t (.pointer (some a)) v).run P w= .ok () w':=by
 unfold Kh Ir storeVar;simp only [Bg,Bw,Aq,af hs,ne_eq,not_true_eq_false,if_false];exact h
def PL {y:aa} {new cs':List aa} {off:Nat} (a:mY off new y.cells=some cs') (b:oT new=true):(aJe y cs').cells=cs':=by
 obtain ⟨j,h,g⟩:=jV a;by_cases i:∃ as,y= .agg as
 .obtain ⟨as,rfl⟩:=i;rfl
 .have f:y.cells=[y]:=by cases y<;>first | rfl | grind
  have e:aJe y cs'=aH9 cs':=by cases y<;>first | rfl | grind
  rw [e];rw [f] at h g
  match cs',h,g with
  | [c],_,g=>
   show c.cells=[c]
   have d:=g 0;simp only [Mb] at d;split at d
   .exact nO (kX b _ c d.symm)
   .simp at d;rw [d];exact f
def WV {a:Nat} {xs:List aa} {i off:Nat} {y l:aa} {new:List aa} (hs:0<a) (m:xs[i]? =some y) (hz:y.cells.length=a)
  (h1:off+new.length<=a) (n:∀ (j:Nat),l.cells[j]? =if off<=j/\j<off+new.length then new[j-off]? else y.cells[j]?) {q:Nat} {c:aa} (h:aH a (xs.set i l) q=some c):
  (i*a+off<=q/\q<i*a+off+new.length/\new[q-(i*a+off)]? =some c)\/((q<i*a+off\/i*a+off+new.length<=q)/\aH a xs q=some c):=by
 have d:i<xs.length:=(Ab.1 m).1;obtain ⟨z,hz1,hz2⟩:=fV h;have e:a*(q / a)+q % a=q:=Fy q a;have k:=Fg q hs;by_cases b:q / a=i
 .rw [b,Ar d] at hz1;cases hz1;rw [n] at hz2;rw [b,De] at e;split at hz2
  .rename_i g;left;refine ⟨by omega,by omega,?_⟩;rw [show q-(i*a+off)=q % a-off from by omega];exact hz2
  .rename_i g;right;refine ⟨by omega,?_⟩;unfold aH;rw [b,m];exact hz2
 .rw [Ay (Em b)] at hz1;right;refine ⟨?_,?_⟩
  .rcases Nh (q / a) i with f | o
   .left;have:(q / a+1)*a<=i*a:=Bu _ f;rw [Bx,De] at this;omega
   .right;have:(i+1)*a<=q / a*a:=Bu _ o_;rw [Bx,De (q / a)] at this;omega
  .unfold aH;rw [hz1];exact hz2
def VU (P:Program) (M:Imm) (ob:Hs) (ac:List ab) (w:World) (s:Sem Unit) (v:aa) (ap:List ab):Prop:=
 v= .undef/\∃ w' M' ob',s.run P w= .ok () w'/\Ext M ob ac w M' ob' ap w'/\Mem M' ob' ap w'/\cH ob ac ob' ap
def aCS (hE:ae E) (hm:Mem M ob ac w) {t:Nat} {v u:Value} {a x:aa} (m:Rep M ob v a) (hu:Rep M ob u x):
  Sd (VU E.P M ob ac w (Kh t v u)) (λ_ _=>False) (λ_=>False) ac base (QQ E (aC ac) t a x):=by
 unfold QQ;split
 .exact trivial
 .rename_i ti hT;have hti:=hE.tab t ti hT;refine sdc λ hg=>?_;obtain ⟨N,T⟩:=aU hg;obtain ⟨Z,B,Y⟩:=hu.cells_one N;have hsz:u.cells.size=ti.size:=by
   have:=aB T;rw [wQ] at this
   grind
  have hs:(E.P.info? t).map (·.size)=some u.cells.size:=by rw [hsz];exact hti.size?
  split
  .rename_i k off;obtain ⟨b,rfl,hb⟩:=m.ref_inv;split
   .rename_i T' cs C;have D:=bZ C s_;split
    .rename_i cs' f;obtain ⟨p1,p2,p3⟩:=jV f;obtain ⟨hs0,e1,b',rfl,hM,cv,hh,hlen',J,L⟩:=hm.obj k _ D;have hbb:b'=b:=by rw [bV e1] at hb;simpa using hb
     subst hbb;have U:off+u.cells.toList.length<=cv.length:=o_;obtain ⟨q1,q2⟩:=fE cv u.cells.toList off U;have hst:=run_storeCells_at E.P b' off T' u.cells.toList 0 cv.toArray w hh o_ B;simp only [Fl] at hst
     have:=hm.cellsTurn (cs':=cs') (cv':=cv.take off++u.cells.toList++cv.drop (off+u.cells.toList.length)) D hb o_ (λ v m=>by
       simp only [Az] at m;rcases m with (m | m) | m
       .exact J v (Cw m)
       .exact B v m
       .exact J v (Fa m)) (λ i v c s o=>by
       rw [q2 i] at s;rw [p3 i,<-Z] at o;split at s
       .rename_i H;rw [if_pos H] at o;exact Y _ v c s o
       .rename_i H;rw [if_neg H] at o
        exact L i v c s o)
     refine ⟨rfl,_,M,ob,yP hs hst,?_⟩;rw [aO D];exact ⟨this.2.1,this.1,this.2.2⟩
    .exact trivial
   .exact trivial
  .rename_i k g i h off;cases m with
   | eref _ _ _ _ _ b n c K=>
   split
   .rename_i g' sz' e xs C;have D:=bZ C s_;refine sdc λ hg2=>?_;obtain ⟨O,l⟩:=aU hg2;obtain ⟨hg3,I⟩:=aU O;obtain ⟨hg4,hg5⟩:=aU hg3;obtain rfl:=aB hg4;obtain rfl:=aB hg5;have d:0<h:=Ck I;have hpu:=hm.pureV 4 u x hu;obtain ⟨hcl',_,W⟩:=hpu.cells_one l;obtain ⟨hs0,v0,e1,e2,e3,e4,A,_⟩:=hm.rowOf D;have hrl:=A.len;rw [K] at e4;cases e4;obtain ⟨cv,_,_,hz,_⟩:=A
    have R:∀ {y V:aa},0<h->xs[i]? =some y->off+(ah (aC ac) 4 x).cells.length<=h->(∀ (j:Nat),V.cells[j]? =if off<=j/\j<off+(ah (aC ac) 4 x).cells.length then (ah (aC ac) 4 x).cells[j-off]? else y.cells[j]?)->
      V.cells.length=h->VU E.P M ob ac w (Kh t (.pointer (some ⟨b,i*h+off,none⟩)) u) .undef (bJ ac k (.row g h e (xs.set i V))):=by
     intro y V d r h1 h2 h3;have G:i<xs.length:=(Ab.1 r).1;have Q:(i+1)*h<=xs.length*h:=Bu _ G;rw [Bx,Gt] at Q
     obtain ⟨w',r1,r2,r3,r4⟩:=hm.rowWrite (P:=E.P) (xs':=xs.set i V) D K d (p:=i*h+off) (news:=u.cells.toList) o_ B s_ (λ z F=>by
       rcases Df F with F | rfl
       .exact hz z F
       .exact h3) (λ q c hq=>by
       rcases WV d r (hz y (Au r)) h1 h2 hq with ⟨a1,a2,a3⟩ | ⟨a1,a2⟩
       .left;refine ⟨a1,by omega,?_⟩;have S:q-(i*h+off)<u.cells.toList.length:=o_;exact ⟨_,Aa S,W _ _ c (Aa S) a3⟩
       .right
        exact ⟨by omega,a2⟩)
     refine ⟨rfl,w',M,ob,yP hs r1,?_⟩;rw [aO D];exact ⟨r3,r2,r4⟩
    cases hq:(Aw off 0&&Aw ti.size h) with
    | true=>
     obtain ⟨ho1,ho2⟩:=aU hq;obtain rfl:=aB ho1;have hts:=aB ho2;intro G;have hnl:(ah (aC ac) 4 x).cells.length=h:=by
      have:u.cells.toList.length=u.cells.size:=by simp
      omega
     have r:=Aa G;have hyz:=hz _ (Au r)
     exact R d r o_ (λ j=>by
       split
       .rfl
       .rw [Bk o_,Bk o_]) hnl
    | false=>
     intro y r;dsimp only;split
     .rename_i cs' f;obtain ⟨p1,p2,p3⟩:=jV f;have hyz:=hz y (Au r);have X:=PL f l;exact R d r o_ (λ j=>by rw [X];exact p3 j) (by rw [X];omega)
     .exact trivial
   .exact trivial
  .exact trivial
end
section
variable {P:Program} {E:Env} {M:Imm} {ob:Hs} {ac:List ab} {w:World} {base:Nat}
def Mem.rowSplice (hm:Mem M ob ac w) {k g a:Nat} {e:TypeId} {xs ys:List aa} (r:ac[k]? =some (.row g a e xs)) {b n cap:Nat} (t:at' ob k g=some (.slice (some ⟨b,0,none⟩) n cap)) (hs:0<a) {i:Nat} (m:i+ys.length<=xs.length)
  (hz:∀ y∈ys,y.cells.length=a) {news:List Value} (hl:news.length=ys.length*a) (h1:∀ u∈news,u.oneCell'=true) (v:∀ (q:Nat) c,aH a ys q=some c->∃ u,news[q]? =some u/\Rep M [] u c):
  ∃ w',(storeCells ⟨b,i*a,none⟩ news).run P w= .ok () w'/\Mem M ob (ac.set k (.row g a e (xs.take i++ys++xs.drop (i+ys.length)))) w'/\
   Ext M ob ac w M ob (ac.set k (.row g a e (xs.take i++ys++xs.drop (i+ys.length)))) w'/\cH ob ac ob (ac.set k (.row g a e (xs.take i++ys++xs.drop (i+ys.length)))):=by
 obtain ⟨z,B,F,D,A,C,f,_⟩:=hm.rowOf r;obtain ⟨cv,_,_,h,_⟩:=f;have j:(i+ys.length)*a<=xs.length*a:=Bu _ m;rw [Bx] at j;refine hm.rowWrite (P:=P) r t hs (p:=i*a) (news:=news) o_ h1 q_ (λ y d=>?_) (λ q c x=>?_)
 .simp only [Az] at d;rcases d with (d | d) | d
  .exact h y (Cw d)
  .exact hz y d
  .exact h y (Fa d)
 .rcases EW hs m x with ⟨o,l,s⟩ | ⟨o,l⟩
  .left;exact ⟨o,by omega,v _ c s⟩
  .right;exact ⟨by omega,l⟩
def qH {xs:List aa} {i:Nat}:xs.take i++[]++xs.drop (i+0)=xs:=by simp
def pF (hm:Mem M ob ac w) (c:ac[base]? =some .dead) (d:ob[base]? =some []) {s:Sem Value} {f:Nat} {e:TypeId} {v:Value} {w':World} {xs:List aa} (i:s.run P w= .ok v w') (g:Grown M w w' f e v xs) {hint:Nat}:
  PM P M ob w s ac base (pG hint base f e xs):=by
 have j:base<ob.length:=(Ab.1 d).1;unfold pG;split
 .obtain ⟨h1,h,h3⟩:=g.row hm c d;refine ⟨v,w',M,ob.set base [v],i,?_⟩;rw [aO c];refine ⟨h,h1,h3,?_⟩;obtain ⟨cv,k,_⟩:=g.own;have a:at' (ob.set base [v]) base 0=some v:=by rw [bV (Ar j)];rfl
  rcases dD k with ⟨q,_⟩ | ⟨b,cap,q,_⟩
  .rw [q] at a⊢;exact .row _ _ _ _ _ a
  .rw [q] at a⊢;exact .row _ _ _ _ _ a
 .obtain ⟨h1,h,h3,l⟩:=g.tail hm c d;refine ⟨v,w',gR M v f xs,ob.set base [v],i,?_⟩;rw [aO c]
  grind
def GC (hm:Mem M ob ac w) {s:Sem Value} {a:Nat} {e:TypeId} {v:Value} {w':World} {xs:List aa} (d:s.run P w= .ok v w') (g:Grown M w w' a e v xs) {t:Tk} (b:sO ob v t):PM P M ob w s ac base (.val (.slice a xs t)):=by obtain ⟨h1,f⟩:=g.more hm;obtain ⟨cv,c,_⟩:=g.own;exact ⟨v,w',_,ob,d,f,h1,cH.refl _ _,jM c g.hz b⟩
def YM (hE:ae E) (hm:Mem M ob ac w) (R:ac[base]? =some .dead) (K:ob[base]? =some []) {hint:Nat} {t t2 ty:TypeId} {v x:Value} {s a:aa} (J:Rep M ob v s) (hx:Rep M ob x a):
  PM E.P M ob w (Co #[t,t2] ty #[v,x]) ac base (sE E hint base (aC ac) t t2 s a):=by
 unfold sE;split
 .rename_i e esz eb _ _ _ hT;obtain ⟨⟨O,i,z,N,hsz,heb,hz,C,hz1⟩,_⟩:=(hE.tab t _ hT).kind;subst hsz heb;refine sdc λ hp=>?_;have d:0<i.size:=Ck hp;split
  .exact trivial
  .rename_i ys hys;have h:=PA hE hm hx hys d;split
   .rename_i sz xs tk;split
    .rename_i k g;split
     .rename_i g' sz' e' p;refine sdc λ D=>?_;obtain ⟨m,Q⟩:=aU D;obtain ⟨l,u⟩:=aU m;obtain ⟨A,B⟩:=aU l;obtain rfl:=aB A;have U:=aB u;have W:=aB B;subst W;subst U;have q4:=aB Q;subst q4;rintro ⟨F,H⟩;have r:=bZ p s_;obtain ⟨I,w',M',ob',o,j,T,Y,r5⟩:=hm.appendTail (P:=E.P) (ty:=ty) O N hz hz1 C d r J h F H;refine ⟨I,w',M',ob',o,?_⟩;rw [aO r];exact ⟨T,j,Y,r5⟩
     .exact trivial
    .refine sdc λ D=>?_;have q:=aB D;subst q;rintro ⟨F,H⟩;obtain ⟨_,S⟩:=J.untok;obtain rfl:v= .slice none 0 0:=S;obtain ⟨I,w',o,j⟩:=append_nil (P:=E.P) (ty:=ty) hm O N hz hz1 C d h F H;exact pF hm R K o j
    .refine sdc λ D=>?_;have q:=aB D;subst q;rintro ⟨F,H⟩;obtain ⟨I,w',o,j⟩:=OU (P:=E.P) (ty:=ty) hm O N hz hz1 C d J h F H;split
     .rcases j with ⟨rfl,rfl,rfl⟩ | ⟨_,j⟩
      .refine ⟨I,w',M,ob,o,Ext.refl _ _ _ _,hm,cH.refl _ _,?_⟩;rw [Av];exact J.untok.1
      .exact GC hm o j trivial
     .intro Z;rcases j with ⟨_,rfl,rfl⟩ | ⟨q,_⟩
      .exact ⟨I,w',M,ob,o,Ext.refl _ _ _ _,hm,cH.refl _ _,J⟩
      .exact absurd Z q
     .intro Z;rcases j with ⟨q,_⟩ | ⟨_,j⟩
      .grind
      .exact pF hm R K o j
    .exact trivial
   .rintro ⟨F,H⟩;cases J;obtain ⟨I,w',o,j⟩:=append_nil (P:=E.P) (ty:=ty) hm O N hz hz1 C d h F H;exact pF hm R K o j
   .rename_i k g;split
    .rename_i g' sz e' xs p;refine sdc λ D=>?_;obtain ⟨l,u⟩:=aU D;obtain ⟨A,B⟩:=aU l;obtain rfl:=aB A;have W:=aB B;subst W;have U:=aB u;subst U;rintro ⟨F,H⟩;have r:=bZ p s_;obtain ⟨ad,n,c,rfl,f⟩:=J.row_inv;obtain ⟨I,w',ob',o,j,T,Y,r5⟩:=hm.appendRow (P:=E.P) (ty:=ty) O N hz hz1 C d r f h F H;refine ⟨I,w',M,ob',o,?_⟩;rw [aO r];exact ⟨T,j,Y,r5⟩
    .exact trivial
   .rename_i k g lo len sz;split
    .rename_i g' sz' e' xs p;refine sdc λ D=>?_;obtain ⟨m,Q⟩:=aU D;obtain ⟨l,u⟩:=aU m;obtain ⟨A,B⟩:=aU l;obtain rfl:=aB A;have U:=aB u;have W:=aB B;subst W;subst U;have q4:=aB Q;subst q4;intro hfit;have r:=bZ p s_;obtain ⟨hs0,v0,e1,e2,e3,e4,V,_⟩:=hm.rowOf r;have X:∀ {ad n c},at' ob k g=some (.slice ad n c)->n=xs.length:=λ{ad n c} f=>by rw [f] at e4;cases e4;rcases V.len with ⟨q,rfl⟩ | ⟨b,cap,q,_⟩<;>cases q<;>rfl
     obtain ⟨⟨news,G,s2⟩,hz',_⟩:=h;cases J with
     | sub _ _ _ _ _ b n c f hl hn hc hmm=>
      have:=X f;obtain ⟨w',o,j,T,Y⟩:=hm.rowSplice (P:=E.P) (ys:=ys) (i:=lo+len) (news:=news) r f d o_ hz' G.newsLen G.one s2;refine ⟨.slice (some ⟨b,lo*i.size,none⟩) (len+ys.length) (c-lo),w',M,ob,?_,?_⟩
      .have hst:(storeCells ((⟨b,lo*i.size,none⟩:Addr).add (len*i.size)) news).run E.P w= .ok () w':=by rw [bA,<-Bx];exact o
       have L:len+ys.length<=c-lo:=o_;rcases G.kind with ⟨e',y⟩ | y<;>simp [Co,run_underlying O,run_underlying y,sizeOf,typeInfo,N,G.len,L,G.cells,hst]
      .rw [aO r];exact ⟨T,j,Y,.sub _ _ _ _ _ b n c f hl o_ hc hmm⟩
     | sub0 _ _ _ _ ad a' n c f hl hc=>
      have:=X f;have hy0:ys=[]:=Ax o_;subst hy0;have hn0:news=[]:=Ax (by rw [G.newsLen];simp);subst hn0;refine ⟨.slice a' 0 0,w,M,ob,?_,?_⟩
      .have hc0:(Cj i.size 0 x).run E.P w= .ok #[] w:=G.cells;have hl0:∀ w,(Builtin.lenOf x).run E.P w= .ok 0 w:=G.len;rcases G.kind with ⟨e',y⟩ | y<;>cases a'<;>simp [Co,run_underlying O,run_underlying y,sizeOf,typeInfo,N,hl0,hc0,storeCells]
      .rw [aO r];have:ac.set k (.row g i.size e (xs.take (lo+0)++[]++xs.drop (lo+0+([]:List aa).length)))=ac:=by rw [Br,qH];exact fR r
       rw [this];exact ⟨Ext.refl _ _ _ _,hm,cH.refl _ _,.sub0 _ _ _ _ ad a' n c f hl hc⟩
    .exact trivial
   .exact trivial
 .exact trivial
end
section
variable {P:Program} {E:Env} {M:Imm} {ob:Hs} {ac:List ab} {w:World} {base:Nat}
def aBL {α:Type} (l:List α) (n:Nat):l.drop (min n l.length)=l.drop n:=by simp
def aG3 (hE:ae E) (hm:Mem M ob ac w) {t T ty:TypeId} {v x:Value} {d a:aa} (hv:Rep M ob v d) (hx:Rep M ob x a):
  PM E.P M ob w (Ki #[t,T] ty #[v,x]) ac base (aC5 E (aC ac) t T d a):=by
 unfold aC5;split
 .rename_i e esz eb _ _ _ hT;obtain ⟨⟨hu,i,z,hi,hsz,R,hz,hzs,hz1⟩,_⟩:=(hE.tab t _ hT).kind;subst hsz R;refine sdc λ hp=>?_;have j:0<i.size:=Ck hp
  have B:∀ n:Nat,(n:Int)<=9223372036854775807->inR .i64 (n:Int):=λ n h=>⟨by simp only [cJ];omega,by simp only [bE];omega⟩
  split
  .exact trivial
  .rename_i ys V;obtain ⟨⟨Y,s1,_⟩,U,o⟩:=PA hE hm hx V j
   have run:∀ {A:Option Addr} {n c m:Nat} {news:List Value} {w':World},m=min ys.length n->(Cj i.size m x).run E.P w= .ok news.toArray w->(∀ a,A=some a->(storeCells a news).run E.P w= .ok () w')->(A=none->w'=w)->
     (Ki #[t,T] ty #[.slice A n c,x]).run E.P w= .ok (.int .i64 (m:Nat)) w':=by
    intro A n c m news w' h1 h2 h3 h4;subst h1;have C:Nat.min ys.length n=min ys.length n:=rfl;cases A with
    | none=>
     rw [h4 rfl];simp [Ki,run_underlying hu,s1.len,C,sizeOf,typeInfo,hi,h2,goInt]
    | some a=>
     simp [Ki,run_underlying hu,s1.len,C,sizeOf,typeInfo,hi,h2,h3 a rfl,goInt]
   have put:∀ {k g:Nat} {xs:List aa} {b n cap p m:Nat},ac[k]? =some (.row g i.size e xs)\/(∃ u,ac[k]? =some (.row g i.size u xs))->True:=λ_=>trivial;clear put
   -- the elements that are written
   have key:∀ {k g:Nat} {u:TypeId} {xs:List aa} {b n cap p m:Nat},ac[k]? =some (.row g i.size u xs)->at' ob k g=some (.slice (some ⟨b,0,none⟩) n cap)->m<=ys.length->p+m<=xs.length->
     ∃ (news:List Value) (w':World),(Cj i.size m x).run E.P w= .ok news.toArray w/\(storeCells ⟨b,p*i.size,none⟩ news).run E.P w= .ok () w'/\
      Mem M ob (ac.set k (.row g i.size u (xs.take p++ys.take m++xs.drop (p+m)))) w'/\Ext M ob ac w M ob (ac.set k (.row g i.size u (xs.take p++ys.take m++xs.drop (p+m)))) w'/\cH ob ac ob (ac.set k (.row g i.size u (xs.take p++ys.take m++xs.drop (p+m)))):=by
    intro k g u xs b n cap p m l f hmy hpm;obtain ⟨news,n1,n2,J,D⟩:=o m hmy;have s:(ys.take m).length=m:=by simp;omega
    obtain ⟨w',r1,r2,r3,r4⟩:=hm.rowSplice (P:=E.P) (ys:=ys.take m) (i:=p) (news:=news) l f j o_ (λ y hy=>U y (Cw hy)) (by rw [s];exact n2) J (λ q c hq=>by
     have G:=fI j hq;rw [s] at G;rw [mN j G] at hq
     exact D q c G hq)
    rw [s] at r2 r3 r4;exact ⟨news,w',n1,r1,r2,r3,r4⟩
   split
   .rename_i k g;split
    .rename_i g' sz u xs F;refine sdc λ S=>?_;obtain ⟨H,I⟩:=aU S;obtain rfl:=aB H;have Q:=aB I;subst Q;have l:=bZ F s_;obtain ⟨A,n,c,rfl,f⟩:=hv.row_inv;obtain ⟨W,v0,e1,e2,e3,K,r,_⟩:=hm.rowOf l;rw [f] at K;cases K;rcases r.len with ⟨q,rfl⟩ | ⟨b,cap,q,Q,q3,q4⟩
     .cases q;obtain ⟨news,n1,n2,_⟩:=o 0 (Bv _);refine ⟨.int .i64 ((0:Nat):Int),w,M,ob,run (m:=0) s_ n1 (λ a h=>by cases h) (λ_=>rfl),?_⟩;rw [aO l];have:ac.set k (.row g i.size u (ys.take ([]:List aa).length++([]:List aa).drop ys.length))=ac:=by simp only [Br,Iq,List.drop_nil,Av];exact fR l
      rw [this];exact ⟨Ext.refl _ _ _ _,hm,cH.refl _ _,by simpa using Rep.int .i64 0 (B 0 d_)⟩
     .cases q;obtain ⟨news,w',n1,n2,J,D,O⟩:=key (p:=0) (m:=min ys.length xs.length) l f (Nat.min_le_left _ _) o_;rw [Mc] at n2;refine ⟨.int .i64 ((min ys.length xs.length:Nat):Int),w',M,ob,run rfl n1 (λ a h=>by cases h;exact n2) (λ h=>by cases h),?_⟩;rw [aO l];have X:xs.take 0++ys.take (min ys.length xs.length)++xs.drop (0+min ys.length xs.length)=ys.take xs.length++xs.drop ys.length:=by
       rw [Iq,Bn,Bo,aBL];congr 1;by_cases h:ys.length<=xs.length
       .rw [Gp h,Ge,Cf h]
       .rw [Nat.min_eq_right o_]
      rw [X] at J D O;have hmx:=gC;have:min ys.length xs.length<=xs.length:=Nat.min_le_right _ _;exact ⟨D,J,O,.int _ _ (B _ o_)⟩
    .exact trivial
   .rename_i k g lo len sz;split
    .rename_i g' sz' u xs F;refine sdc λ S=>?_;obtain ⟨L,hg3⟩:=aU S;obtain ⟨H,I⟩:=aU L;obtain rfl:=aB H;have q3:=aB hg3;have Q:=aB I;subst Q;subst q3;have l:=bZ F s_;obtain ⟨W,v0,e1,e2,e3,K,r,_⟩:=hm.rowOf l;have N:∀ {A n c},at' ob k g=some (.slice A n c)->n=xs.length:=λ{A n c} f=>by rw [f] at K;cases K;rcases r.len with ⟨q,rfl⟩ | ⟨b,cap,q,_⟩<;>cases q<;>rfl
     cases hv with
     | sub _ _ _ _ _ b n c f hl hn hc hmm=>
      have:=N f;obtain ⟨news,w',n1,n2,J,D,O⟩:=key (p:=lo) (m:=min ys.length len) l f (Nat.min_le_left _ _) o_;refine ⟨.int .i64 ((min ys.length len:Nat):Int),w',M,ob,run rfl n1 (λ a h=>by cases h;exact n2) (λ h=>by cases h),?_⟩;rw [aO l];have X:ys.take (min ys.length len)=ys.take len:=by
       by_cases h:ys.length<=len
       .rw [Gp h,Ge,Cf h]
       .rw [Nat.min_eq_right o_]
      rw [X] at J D O;have:min ys.length len<=len:=Nat.min_le_right _ _;exact ⟨D,J,O,.int _ _ (B _ o_)⟩
     | sub0 _ _ _ _ A a' n c f hl hc=>
      have:=N f;obtain ⟨news,n1,n2,_⟩:=o 0 (Bv _);have Z:news=[]:=Ax o_;subst Z;refine ⟨.int .i64 ((0:Nat):Int),w,M,ob,run (m:=0) s_ n1 (λ a h=>rfl) (λ_=>rfl),?_⟩;rw [aO l];have:ac.set k (.row g i.size u (xs.take lo++ys.take 0++xs.drop (lo+min ys.length 0)))=ac:=by rw [Iq,Nat.min_zero,qH];exact fR l
      rw [this];exact ⟨Ext.refl _ _ _ _,hm,cH.refl _ _,by simpa using Rep.int .i64 0 (B 0 d_)⟩
    .exact trivial
   .exact trivial
 .exact trivial
def xA {z:Value} {a:aa} (m:Rep M [] z a) (o:a≠ .undef) {b:Nat} (hz:z.cells.size=b) (hs:0<b) {n:Nat} {cv:List Value} (hl:cv.length=n*b) (j:∀ q,q<n*b->cv[q]? =z.cells.toList[q % b]?):
  (∀ y∈Aj n a,y.cells.length=b)/\∀ (q:Nat) c,aH b (Aj n a) q=some c->∃ u,cv[q]? =some u/\Rep M [] u c:=by
 obtain ⟨h1,k⟩:=m.cells o;have l:z.cells.toList.length=b:=o_;refine ⟨λ y g=>by rw [(Gf.1 g).2];omega,λ q c i=>?_⟩;have f:=fI hs i;rw [Gz] at f;obtain ⟨y,g,e⟩:=fV i;have:=Au g;rw [(Gf.1 this).2] at e;have h:=Fg q hs;rw [j q f];have d:q % b<z.cells.toList.length:=o_;exact ⟨_,Aa d,k _ _ c (Aa d) e⟩
def sP {z:Array Value} {n:Nat}:(Cg z n).toList.length=n*z.size/\∀ q,q<n*z.size->(Cg z n).toList[q]? =z.toList[q % z.size]?:=by
 refine ⟨by simp [Cg],λ q b=>?_⟩;have hs:0<z.size:=by grind
 have a:=Fg q hs;simp only [Cg,Jx,Bf,Array.toList_range];simp_all
def EQ {z:Array Value} {n:Nat} (hs:0<z.size):(madeCells z n).toList.length=n/\∀ q,q<n->(madeCells z n).toList[q]? =z.toList[q % z.size]?:=by refine ⟨by simp [madeCells],λ q b=>?_⟩;have a:=Fg q hs;simp only [madeCells,Jx,Bf,Array.toList_range];simp_all
def V0 {z:Array Value} {cv:List Value} {n:Nat} (h:z.toList.all (·.oneCell')=true) (hl:cv.length=n) (c:∀ q,q<n->∃ j:Nat,cv[q]? =z.toList[j]?):∀ u∈cv,u.oneCell'=true:=λ u d=>by obtain ⟨q,b⟩:=Ct d;obtain ⟨j,a⟩:=c q (by grind);rw [b] at a;exact Cq.1 h u (Au a.symm)
def AP {a:aa} (h:CI a=true):a≠ .undef:=λ e=>by subst e;cases h
def aC7 (hE:ae E) (hm:Mem M ob ac w) {t ty:TypeId} {v:Value} {d:aa} (l:Rep M ob v d):PM E.P M ob w (Jq #[t] ty #[v]) ac base (Q3 E (aC ac) t d):=by
 unfold Q3;split
 .rename_i e esz eb _ _ _ hT;obtain ⟨⟨J,i,z,Y,T,C,hz,y,hz1⟩,_⟩:=(hE.tab t _ hT).kind;subst T C;split
  .rename_i A B;refine sdc λ hp=>?_;obtain ⟨H,I⟩:=aU hp;have j:0<i.size:=Ck H;obtain ⟨i',z',x,hsz',o,Z,K,p,hne⟩:=(hE.tab e A B).info;rw [Y] at x;cases x;rw [hz] at o;cases o;split
   .rename_i k g lo len sz;split
    .rename_i g' sz' e' xs D;refine sdc λ hg=>?_;obtain ⟨r,L⟩:=aU hg;obtain ⟨O,S⟩:=aU r;obtain rfl:=aB O;have q3:=aB L;have q2:=aB S;subst q2;subst q3;have m:=bZ D s_;obtain ⟨hs0,v0,e1,e2,e3,V,u,_⟩:=hm.rowOf m;have N:∀ {U n c},at' ob k g=some (.slice U n c)->n=xs.length:=λ{U n c} f=>by rw [f] at V;cases V;rcases u.len with ⟨q,rfl⟩ | ⟨b,cap,q,_⟩<;>cases q<;>rfl
     have same:len=0->ac.set k (.row g i.size e' (xs.take lo++Aj len (ah (λ_=>.dead) 4 A.zero)++xs.drop (lo+len)))=ac:=λ h=>by subst h;rw [List.replicate_zero,qH];exact fR m
     cases l with
     | sub _ _ _ _ _ b n c f hl hn hc hmm=>
      have:=N f;by_cases W:len=0
      .refine ⟨.tuple #[],w,M,ob,?_,?_⟩
       .subst W;simp [Jq,run_underlying J]
       .rw [aO m,same W];exact ⟨Ext.refl _ _ _ _,hm,cH.refl _ _,.tup [] [] rfl λ i v a l=>by simp at l⟩
      .have F:=hm.pure0 K;obtain ⟨Q,G⟩:=sP (z:=z.cells) (n:=len);rw [y] at Q G;have s:ah (λ_=>.dead) 4 A.zero≠ .undef:=AP I;obtain ⟨r1,r2⟩:=xA (M:=M) F s y j Q G;obtain ⟨w',s1,X,s3,s4⟩:=hm.rowSplice (P:=E.P) (ys:=Aj len (ah (λ_=>.dead) 4 A.zero)) (i:=lo) (news:=(Cg z.cells len).toList) m f j q_ r1 q_ (V0 p Q λ q hq=>⟨_,G q hq⟩) r2;rw [Gz] at X s3 s4;refine ⟨.tuple #[],w',M,ob,?_,?_⟩
       .have R:(zeroValue e).run E.P w= .ok z w:=by simp [zeroValue,typeInfo,Y,hz]
        cases len with
        | zero=>omega
        | succ len=>simp [Jq,run_underlying J,R,s1]
       .rw [aO m];exact ⟨s3,X,s4,.tup [] [] rfl λ i v a l=>by simp at l⟩
     | sub0 _ _ _ _ U a' n c f hl hc=>
      refine ⟨.tuple #[],w,M,ob,?_,?_⟩
      .cases a'<;>simp [Jq,run_underlying J]
      .rw [aO m,same rfl];exact ⟨Ext.refl _ _ _ _,hm,cH.refl _ _,.tup [] [] rfl λ i v a l=>by simp at l⟩
    .exact trivial
   .exact trivial
  .exact trivial
 .exact trivial
def aG1 (hE:ae E) (hm:Mem M ob ac w) (y:ac[base]? =some .dead) (u:ob[base]? =some []) {t:TypeId} {L F:Value} {n c:aa} (N:Rep M ob L n) (O:Rep M ob F c) {hint:Nat}:
  PM E.P M ob w (Instr.makeSlice t L F) ac base (VG E hint base t n c):=by
 unfold VG;split
 .rename_i e Q eb _ _ _ k a R b T;obtain ⟨⟨W,i,z,I,B,r,hz,j,hz1⟩,_⟩:=(hE.tab t _ T).kind;subst B r;split
  .rename_i H p;refine sdc λ hp=>?_;obtain ⟨C,s⟩:=aU hp;have d:0<i.size:=Ck C;obtain ⟨i',z',l,J,o,K,A,h,V⟩:=(hE.tab e H p).info;rw [I] at l;cases l;rw [hz] at o;cases o;obtain ⟨rfl,_⟩:=N.int_inv;obtain ⟨rfl,_⟩:=O.int_inv;rintro m rfl ⟨rfl,U,c3⟩;have S:=gC;have f:=run_make (P:=E.P) w t e i z W I hz k R (m:Int) (m:Int) o_ (Dh _) U o_;rw [Bt] at f;have v:=hm.pure0 A;obtain ⟨G,x⟩:=EQ (z:=z.cells) (n:=m*i.size) o_;rw [j] at x;obtain ⟨Z,Y⟩:=xA (M:=M) v (AP s) j d G x;have g:=Grown.ofAlloc (M:=M) (w:=w) (e:=e) (xs:=Aj m (ah (λ_=>.dead) 4 H.zero)) (cv:=(madeCells z.cells (m*i.size)).toList) d q_ (V0 h G λ q X=>⟨_,x q X⟩) Z q_ Y;have D:(madeCells z.cells (m*i.size)).toList.toArray=madeCells z.cells (m*i.size):=by simp
   rw [D,Gz] at g;exact pF (hint:=2) hm y u f g
  .exact trivial
 .exact trivial
def VN:∀ (new l:List aa),new.length<=l.length->∃ r,RO new l=some r
 | [],l,_=>⟨l,rfl⟩
 | _::_,[],h=>by simp at h
 | c::new,d::l,h=>by obtain ⟨r,a⟩:=VN new l (by grind);exact ⟨c::r,by simp [RO,a]⟩
def G9:∀ (off:Nat) (new l:List aa),off+new.length<=l.length->∃ r,mY off new l=some r
 | 0,new,l,h=>by obtain ⟨r,a⟩:=VN new l o_;exact ⟨r,by simpa [mY] using a⟩
 | n+1,new,[],h=>by simp at h
 | n+1,new,c::l,h=>by obtain ⟨r,a⟩:=G9 n new l (by grind);exact ⟨c::r,by simp [mY,a]⟩
def LV (og:Nat->ab) (l:List (Nat×aa)):List (Nat×aa):=l.map λ p=>(p.1,ah og 4 p.2)
def JK (og:Nat->ab) (d:Nat):∀ {b:List (Nat×aa)} {n:Nat} {xs:List aa} {base:List aa},DP og d n b=some xs->(n+b.length)*d<=base.length->
  ∃ cs',DO (λ i=>some (i*d,d)) base (LV og b)=some cs'/\cs'.length=base.length/\(∀ o,o<n*d->cs'[o]? =base[o]?)/\xs.length=b.length/\
   (∀ x∈xs,x.cells.length=d/\oT x.cells=true)/\∀ (i j:Nat) x c,xs[i]? =some x->x.cells[j]? =some c->cs'[(n+i)*d+j]? =some c:=by
 intro b;induction b with
 | nil=>intro n xs base h hl;cases h;exact ⟨base,rfl,rfl,λ_ _=>rfl,rfl,λ x e=>by simp at e,λ i j x c e=>by simp at e⟩
 | cons p b L=>
  intro n xs base h hl;obtain ⟨i,F⟩:=p;simp only [DP] at h
  obtain ⟨v,z⟩:∃ v,ah og 4 F=v:=⟨_,rfl⟩
  rw [z] at h;obtain ⟨A,m⟩:=eP h;simp only [Ad] at A;obtain ⟨⟨J,y⟩,w⟩:=A;have I:=aB J;subst I;have hz:=aB y;rw [wQ] at hz;cases q:DP og d (i+1) b with
  | none=>simp [q] at m
  | some l=>
   simp only [q,Ds] at m;subst m;have g:(i+1)*d<=base.length:=by refine Cz (Bu _ ?_) hl;simp
   rw [Bx,Gt] at g;obtain ⟨C,f⟩:=G9 (i*d) v.cells base o_;obtain ⟨O,u,t⟩:=jV f;obtain ⟨cs',B,K,s,G,H,D⟩:=L (base:=C) q (by rw [u];refine Cz (Nat.le_of_eq ?_) hl;simp;congr 1;omega);have r:CI v=true:=by cases v<;>first | rfl | (simp [aa.cells,oT,AW.one] at w)
   refine ⟨cs',by
    unfold LV at B⊢
    simp only [Bl,DO,z,r,y,Bool.and_self,cond_true,f,B],K.trans u,λ o N=>?_,by simp [G],λ x e=>?_,λ a j x c e k=>?_⟩
   .rw [s o (by rw [Bx];omega),t o,if_neg o_]
   .rcases Bb.1 e with rfl | e
    .exact ⟨hz,w⟩
    .exact H x e
   .cases a with
    | zero=>
     simp at e;subst e;have M:j<d:=by rw [<-hz];exact (Ab.1 k).1
     rw [Fl,s _ (by rw [Bx];omega),t,if_pos o_,Hq];exact k
    | succ a=>
     have:=D a j x c (by simpa using e) k;rw [show i+(a+1)=i+1+a from by omega];exact this
def aFt (l:List (Nat×aa)):aBh l=l.length:=by induction l with
 | nil=>rfl
 | cons a r b=>simp [aBh,b]
def EV (hE:ae E) (hm:Mem M ob ac w) (V:ac[base]? =some .dead) (I:ob[base]? =some []) {hint:Nat} {t:TypeId} {len:Nat} {h:List (Nat×aa)} {vparts:Array (Nat×Value)} (hl:ED M ob vparts.toList h):
  PM E.P M ob w (Ka t len vparts) ac base (mL E hint base (aC ac) t len h):=by
 unfold mL;split
 .rename_i e b eb _ _ _ hT;obtain ⟨⟨hu,ie,z,hi,hs,hb,hz,hzs,_⟩,_⟩:=(hE.tab t _ hT).kind;refine sdc λ Y=>?_;simp only [Ad] at Y;obtain ⟨⟨g1,g2⟩,g3⟩:=Y;have s:=aB g1;rw [aFt] at s;have N:len*b<=1000:=Ck g2;have k:1<=b:=Ck g3;split
  .rename_i xs R
   let f:Array Value:=if len*b=0 then #[] else (Kr (len*b)).map (z.cells[· % z.cells.size]!)
   have B:f.size=len*b:=by show (if len*b=0 then (#[]:Array Value) else (Kr (len*b)).map (z.cells[· % z.cells.size]!)).size=_;split<;>simp [*]
   obtain ⟨cs',e1,e2,_,e4,U,e6⟩:=JK (aC ac) b (base:=Aj (len*b) .undef) R (by simp [s])
   have O:cA M [] f.toList (Aj (len*b) aa.undef):=⟨by simp [B],λ i v a _ ha=>by
    have:a= .undef:=(Gf.1 (Au ha)).2;subst this
    exact .undef _⟩
   have K:ED M [] vparts.toList (LV (aC ac) h):=⟨by unfold LV;rw [Ch];exact hl.1,λ i p q hp W=>by
    unfold LV at W;rw [Bf] at W;obtain ⟨q',J,rfl⟩:=Cd.1 W;obtain ⟨a1,a2⟩:=hl.2 i p q' hp J
    exact ⟨a1,hm.pureV 4 _ _ a2⟩⟩
   obtain ⟨d,f1,S⟩:=tL (place:=λ i=>some (i*b,b)) (λ i p hp=>hp) e1 O K;have o:(Ka t len vparts).run E.P w= .ok (.slice (some ⟨w.heap.size,0,Nl⟩) len len) (w.alloc (.cells d e)):=by
    have L:(E.P.info? e).map (·.size)=some b:=by simp [hi,hs]
    unfold Ka;simp only [Bg,run_underlying hu,Aq,af L];rw [if_neg o_];have T:(zeroValue e).run E.P w= .ok z w:=by simp [zeroValue,typeInfo,hi,hz]
    by_cases G:len*b=0
    .have A:(Kr (len*b)).map ((#[]:Array Value)[· % (#[]:Array Value).size]!)=f:=by
      show _=(if len*b=0 then (#[]:Array Value) else (Kr (len*b)).map (z.cells[· % z.cells.size]!))
      rw [if_pos G,G];simp
     rw [if_pos G];simp only [Bg,Bw,Aq];rw [A,f1];rfl
    .have A:(Kr (len*b)).map (z.cells[· % z.cells.size]!)=f:=by
      show _=(if len*b=0 then (#[]:Array Value) else (Kr (len*b)).map (z.cells[· % z.cells.size]!))
      simp
     rw [if_neg G];simp only [Bg,Bw,Aq,T];rw [A,f1];rfl
   have m:xs.length=len:=by rw [e4,s]
   have r:d.toList.length=xs.length*b:=by rw [S.1,e2];simp;rw [m]
   have l:∀ (j:Nat) c,aH b xs j=some c->cs'[j]? =some c/\AW.one c=true:=by intro j c C;obtain ⟨y,hy,D⟩:=fV C;have:=e6 _ _ y c hy D;rw [Bo,De,Fy] at this;obtain ⟨_,h1⟩:=U y (Au hy);exact ⟨this,kX h1 _ c D⟩
   have F:∀ u∈d.toList,u.oneCell'=true:=λ u H=>by
    obtain ⟨j,Z⟩:=Ct H;have n:j<xs.length*b:=by rw [<-r];exact (Ab.1 Z).1
    obtain ⟨c,C⟩:=yE k (λ x Q=>(U x Q).1) n;obtain ⟨h1,h2⟩:=l j c C;exact (S.2 j u c Z h1).one h2
   have g:=Grown.ofAlloc (M:=M) (w:=w) (e:=e) (xs:=xs) (cv:=d.toList) k r F (λ x Q=>(U x Q).1) (by rw [m];unfold maxLen;have:len*1<=len*b:=Nat.mul_le_mul_left _ k;omega) (λ q c C=>by
    obtain ⟨h1,_⟩:=l q c C;have n:q<d.toList.length:=by rw [r];exact fI k C
    exact ⟨_,Aa n,S.2 q _ c (Aa n) h1⟩)
   have X:d.toList.toArray=d:=by simp
   rw [X,m] at g;split
   .exact GC hm o g ⟨_,len,rfl⟩
   .exact pF hm V I o g
  .exact trivial
 .exact trivial
def ML (hm:Mem M ob ac w) (b:ac[base]? =some .dead) (d:ob[base]? =some []) {t:TypeId} {v:Value} {a:aa} (h:Rep M ob v a) (h1:oT a.cells=true):
  PM P M ob w (do Pure.pure (.pointer (some (<-newVar t v))):Sem Value) ac base (.born (.cells t a.cells) (.ref base 0)):=by
 obtain ⟨hl,c,g⟩:=h.cells_one h1;obtain ⟨f,i,j,k⟩:=hm.bornCells b d t hl c g;have e:v.cells.toList.toArray=v.cells:=by simp
 rw [e] at f i;refine ⟨.pointer (some ⟨w.heap.size,0,Nl⟩),w.alloc (.cells v.cells t),M,ob.set base [.pointer (some ⟨w.heap.size,0,Nl⟩)],?_,?_⟩
 .rfl
 .rw [aO b]
  grind
end
section
variable {P:Program} {E:Env} {M:Imm} {ob:Hs} {ac:List ab} {w:World} {base:Nat}
def aH2 (P:Program) (k:Nat) (a:Bool) (n:Nat):Prop:=(a=false/\n=1/\P.underlying k=some (.int .i64))\/(a=true/\(P.underlying k).isSome=true/\J9 P k n)
def F6:∀ {cs:List aa} {l:List Int},M6 cs=some l->cs=l.map (aa.int .i64)
 | [],l,h=>by cases h;rfl
 | c::r,l,h=>by
  cases c<;>first | (simp [M6] at h;done) | skip
  rename_i k n;cases k<;>first | (simp [M6] at h;done) | skip
  cases a:M6 r with
  | none=>simp [M6,a] at h
  | some q=>
   simp only [M6,a,Ds] at h;subst h;simp [F6 a]
def xJ (hE:ae E) {k:Nat} {e:Bool} {a:aa} {l:List Int} {v:Value} (h:F3 E k e a=some l) (m:Rep M ob v a):v=fP e l/\aH2 E.P k e l.length:=by
 cases e with
 | false=>
  simp only [F3] at h;split at h
  .rename_i g;split at h
   .cases h;have q:=(hE.tab _ _ g).kind.1;exact ⟨m.int_inv.1,.inl ⟨rfl,rfl,q⟩⟩
   .cases h
  .cases h
 | true=>
  simp only [F3] at h;split at h
  .rename_i s g;have f:=(hE.tab _ _ g).kind.isAgg.1;split at h
   .rename_i cs;split at h
    .rename_i t b;obtain ⟨h1,o⟩:=eP h;cases o;obtain ⟨h3,p⟩:=aU h1;have j:=F6 b;subst j;obtain ⟨vs,rfl,hl,r⟩:=m.agg_inv;have d:l.length=zY E.fl k:=by
      have:=aB p;rw [wQ] at this
      grind
     refine ⟨?_,.inr ⟨rfl,f,?_⟩⟩
     .simp only [fP,if_true];congr 2;refine Ek λ i=>?_;rw [Bf];cases b:l[i]? with
      | none=>
       have:=List.getElem?_eq_none_iff.1 b;rw [Bk (by grind)];rfl
      | some n=>
       have c:i<vs.length:=by have:=(Ab.1 b).1;rw [hl];simp;omega
       have:=r i _ (.int .i64 n) (Aa c) (by simp [b]);rw [Aa c,this.int_inv.1];rfl
     .rw [d];exact (hE.fl k (by simpa [Jw] using h3)).2
    .cases h
   .cases h
  .cases h
def oX:∀ {es:List (List Int×aa)} {key:List Int},(∀ y∈es,y.1≠key)->bR es key=none/\(∀ v,lC es key v=es++[(key,v)])/\EP es key=es
 | [],key,_=>⟨rfl,λ_=>rfl,rfl⟩
 | (k,x)::r,key,h=>by obtain ⟨h1,c,h3⟩:=oX (es:=r) (key:=key) λ y b=>h y (by simp [b]);have a:¬ k=key:=h (k,x) s_;exact ⟨by simp [bR,a,h1],λ v=>by simp [lC,a,c],by simp [EP,a,h3]⟩
def vM:∀ {es:List (List Int×aa)} {key:List Int} {j:Nat} {y:List Int×aa},es[j]? =some y->y.1=key->(∀ (i:Nat) b,i<j->es[i]? =some b->b.1≠key)->
  bR es key=some y.2/\(∀ v,lC es key v=es.set j (key,v))/\EP es key=es.eraseIdx j
 | [],key,j,y,h,_,_=>by simp at h
 | (k,x)::r,key,0,y,h,a,_=>by
  simp only [Mb,Ds] at h;subst h;have a:k=key:=a;exact ⟨by simp [bR,a],λ v=>by simp [lC,a],by simp [EP,a]⟩
 | (k,x)::r,key,j+1,y,h,a,hb=>by obtain ⟨h1,d,h3⟩:=vM (es:=r) (key:=key) (j:=j) (y:=y) (by simpa using h) a λ i b f e=>hb (i+1) b o_ q_;have c:¬ k=key:=hb 0 (k,x) o_ rfl;exact ⟨by simp [bR,c,h1],λ v=>by simp [lC,c,d],by simp [EP,c,h3]⟩
def E1 (b:Bool) (n:Nat) (a:List MapEntry) (es:List (List Int×aa)):Prop:=a.length=es.length/\∀ (i:Nat) x y,a[i]? =some x->es[i]? =some y->x.key=fP b y.1/\y.1.length=n
def E1.tail {c:Bool} {n:Nat} {x:MapEntry} {y:List Int×aa} {d:List MapEntry} {es:List (List Int×aa)} (h:E1 c n (x::d) (y::es)):E1 c n d es:=
 ⟨by simpa using h.1,λ i a b e f=>h.2 (i+1) a b (by grind) (by grind)⟩
def E1.cons {a:Bool} {n:Nat} {x:MapEntry} {b:List MapEntry} {es:List (List Int×aa)} (h:E1 a n (x::b) es):∃ y r,es=y::r/\x.key=fP a y.1/\y.1.length=n/\E1 a n b r:=by
 cases es with
 | nil=>have:=h.1;simp at this
 | cons y r=>exact ⟨y,r,rfl,(h.2 0 x y rfl rfl).1,(h.2 0 x y rfl rfl).2,h.tail⟩
def zN (key:List Int) (a:List MapEntry) (es:List (List Int×aa)) (o:Nat) (r:Option (Nat×Value)):Prop:=
 (r=none/\∀ y∈es,y.1≠key)\/∃ j x y,r=some (o+j,x.val)/\a[j]? =some x/\es[j]? =some y/\y.1=key/\∀ (i:Nat) y',i<j->es[i]? =some y'->y'.1≠key
def zN.there {key:List Int} {x:MapEntry} {y:List Int×aa} {a:List MapEntry} {es:List (List Int×aa)} {o:Nat} (h:y.1=key):zN key (x::a) (y::es) o (some (o,x.val)):=
 .inr ⟨0,x,y,rfl,rfl,rfl,h,λ i _ b=>by omega⟩
def zN.on {key:List Int} {x:MapEntry} {y:List Int×aa} {a:List MapEntry} {es:List (List Int×aa)} {o:Nat} {r:Option (Nat×Value)} (f:y.1≠key) (h:zN key a es (o+1) r):zN key (x::a) (y::es) o r:=by
 rcases h with ⟨h1,b⟩ | ⟨j,x',d,h1,b,h3,c,e⟩
 .exact .inl ⟨h1,λ z hz=>by grind⟩
 .refine .inr ⟨j+1,x',d,by grind,by simp;omega,by simp;omega,c,λ i z g hz=>?_⟩;cases i with
  | zero=>simp at hz;grind
  | succ i=>exact e i z o_ (by simpa using hz)
def zA (a:Int):∀ (c:List MapEntry) (es:List (List Int×aa)) (o:Nat),E1 false 1 c es->∃ r,Lt (.int .i64) (.int .i64 a) c o=some r/\zN [a] c es o r
 | [],es,o,h=>⟨none,rfl,.inl ⟨rfl,λ y m=>by
   have:es=[]:=Ax (by have:=h.1;grind)
   grind⟩⟩
 | x::c,es,o,h=>by
  obtain ⟨y,r,rfl,h1,f,h3⟩:=h.cons;obtain ⟨k,v⟩:=y;have f:k.length=1:=f
  match k,f with
  | [b],_=>
   have i:x.key= .int .i64 b:=h1;simp only [Lt,i,Instr.sameNow,if_true];by_cases d:a=b
   .subst d;simp only [beq_self_eq_true];exact ⟨_,rfl,.there rfl⟩
   .have:(a==b)=false:=by grind
    rw [this];obtain ⟨g,l,j⟩:=zA a c r (o+1) h3;exact ⟨g,l,.on (λ e=>d (by cases e;rfl)) j⟩
def pP {k:Nat} {n:Nat} (f:J9 P k n) {key:List Int} (d:key.length=n):∀ (b:List MapEntry) (es:List (List Int×aa)) (o:Nat),E1 true n b es->∃ r,(Kb k (fP true key) b o).run P w= .ok r w/\zN key b es o r
 | [],es,o,h=>⟨none,by rfl,.inl ⟨rfl,λ y m=>by
   have:es=[]:=Ax (by have:=h.1;grind)
   grind⟩⟩
 | x::b,es,o,h=>by
  obtain ⟨y,r,rfl,h1,g,h3⟩:=h.cons;have a:=(f w key y.1 d g).1;rw [<-h1] at a;by_cases c:key=y.1
  .rw [decide_eq_true c] at a;exact ⟨_,by simp [Kb,a],.there c.symm⟩
  .rw [decide_eq_false c] at a;obtain ⟨i,l,j⟩:=pP f d b r (o+1) h3;exact ⟨i,by simp [Kb,a,l],.on (λ e=>c e.symm) j⟩
def qJ {k:Nat} {g:Bool} {n:Nat} (l:aH2 P k g n) {key:List Int} (i:key.length=n) {b:List MapEntry} {es:List (List Int×aa)} (h:E1 g n b es):
  ∃ r,(Lu k (fP g key) b).run P w= .ok r w/\zN key b es 0 r:=by
 rcases l with ⟨rfl,rfl,e⟩ | ⟨rfl,j,m⟩
 .match key,i with
  | [a],_=>
   obtain ⟨r,c,f⟩:=zA a b es 0 h;exact ⟨r,by simp [Lu,run_underlying e,fP,c],f⟩
 .obtain ⟨r,c,f⟩:=pP (w:=w) m i b es 0 h;cases e:P.underlying k with
  | none=>grind
  | some d=>
   cases b with
   | nil=>simp [Kb] at c;subst c;exact ⟨none,by simp [Lu,run_underlying e,Lt],f⟩
   | cons x b=>
    obtain ⟨y,p,rfl,h1,o,h3⟩:=h.cons;refine ⟨r,?_,f⟩;have hs:Instr.sameNow d (fP true key) x.key=none:=by rw [h1];simp only [fP,if_true];cases d<;>rfl
    simp only [Lu,Bg,run_underlying e,Aq,Lt,hs];exact c
def H8 {k:Nat} {a:Bool} {n:Nat} (e:aH2 P k a n) {key:List Int} (b:key.length=n) (c:Bool):(Ht c 10000 k (fP a key)).run P w= .ok () w:=by
 rcases e with ⟨rfl,rfl,g⟩ | ⟨rfl,f,d⟩
 .rw [show (10000:Nat)=9999+1 from rfl,Ht];simp only [Bg,run_underlying g,Aq,fP,Cp,if_false,Bw]
 .exact (d w key key b b).2 c
def Mem.mpOf (hm:Mem M ob ac w) {j:Nat} {a:Bool} {es:List (List Int×aa)} (f:aC ac j= .mp a es) {v:Value} (e:Rep M ob v (.mref j)):
  ∃ b,v= .map (some b)/\ob[j]? =some [.map (some b)]/\ac[j]? =some (.mp a es)/\(∀ o,NoM M b o)/\ZH M w b a es:=by
 cases e with
 | mref _ b c=>
  have g:=bZ f s_;obtain ⟨hs,i,h,d,k,l⟩:=hm.obj j _ g;have:h=b:=by rw [bV i,d] at c;simp_all
  subst this;simp_all
def ZH.enOK {b:Nat} {a:Bool} {es:List (List Int×aa)} {n:Nat} {c:List MapEntry} (hl:c.length=es.length) (h:∀ (i:Nat) x y,c[i]? =some x->es[i]? =some y->x.key=fP a y.1/\(a=false->y.1.length=1)/\Rep M [] x.val y.2)
  (g:(a=false/\n=1)\/(a=true/\∀ p∈es,p.1.length=n)):E1 a n c es:=
 ⟨hl,λ i x y f e=>⟨(h i x y f e).1,by
  rcases g with ⟨h1,d⟩ | ⟨_,d⟩
  .rw [d];exact (h i x y f e).2.1 h1
  .exact d y (Au e)⟩⟩
def H5 {VS:aa->List ab->Prop} {CS:Fn->List aa->Prop} {PS:aa->Prop} {a:Bool} {es:List (List Int×aa)} {key:List Int} {r:OR} {k:Nat} (c:aH2 P k a key.length)
  (h:(a=false/\key.length=1)\/(a=true/\∀ p∈es,p.1.length=key.length)->Sd VS CS PS ac base r):Sd VS CS PS ac base (AQ a es key r):=by
 rcases c with ⟨rfl,b,_⟩ | ⟨rfl,_⟩
 .exact h (.inl ⟨rfl,b⟩)
 .exact λ hp=>h (.inr ⟨rfl,hp⟩)
def Rep.pairB {v:Value} {a:aa} (h:Rep M ob v a) (b:Bool):Rep M ob (.tuple #[v,.bool b]) (.tup [a,.bool b]):=by
 refine .tup [v,.bool b] _ rfl λ i q c d e=>?_;rcases i with _ | _ | i
 .grind
 .simp at d e;subst d e;exact .bool b
 simp_all
def YL (hE:ae E) (hm:Mem M ob ac w) {t:Nat} {D kv:Value} {m k:aa} (p:Rep M ob D m) (C:Rep M ob kv k) (ok:Bool):
  PS0 E.P M ob w (Mj t D kv ok) ac base (JH E (aC ac) t m k ok):=by
 unfold JH;split
 .rename_i R e _ _ _ j K;have h:=(hE.tab _ _ K).kind.1;split
  .rename_i S Q es o u;split
   .rename_i key g;obtain ⟨rfl,d⟩:=xJ hE g C;refine H5 d λ I=>?_;obtain ⟨b,rfl,_,_,_,O,s,F,hl,l,_⟩:=hm.mpOf u p;obtain ⟨r,G,v⟩:=qJ (w:=w) d rfl (ZH.enOK (b:=b) hl l I);have a:=λ J=>H8 (w:=w) d rfl J;obtain ⟨i,z,L,_,hz,_,n,_⟩:=(hE.tab _ _ o).info;have A:(zeroValue e).run E.P w= .ok z w:=by simp [zeroValue,typeInfo,L,hz]
    rcases v with ⟨rfl,v⟩ | ⟨q,x,y,rfl,N,H,B,f⟩
    .rw [Sd.eq_def];simp only;rw [(oX v).1];refine ⟨rfl,if ok then .tuple #[z,.bool false] else z,?_,?_⟩
     .simp only [Mj,Bg,run_underlying h,Aq,MapKept.run_getObj_map F,a,G,A,Bw]
     .cases ok with
      | true=>exact (jJ n).pairB false
      | false=>exact jJ n
    .rw [Sd.eq_def];simp only;rw [(vM H B f).1];have c:=(l q x y N H).2.2.pure (ob:=ob);refine ⟨rfl,if ok then .tuple #[x.val,.bool true] else x.val,?_,?_⟩
     .simp only [Mj,Bg,run_underlying h,Aq,MapKept.run_getObj_map F,a,G,Bw]
     .cases ok with
      | true=>exact c.pairB true
      | false=>exact c
   .exact trivial
  .exact trivial
 .exact trivial
abbrev H4 (w:World) (b:Nat) (o:Obj):World:={w with heap:=w.heap.setIfInBounds b o}
def WW {b:Nat} {o a:Obj} (h:w.heap[b]? =some a):(H4 w b o).heap[b]? =some o:=by have:=eX h;simp_all
def BM {b c:Nat} {o:Obj} (h:c≠b):(H4 w b o).heap[c]? =w.heap[c]?:=by grind
def Mem.mpTurn (h:Mem M ob ac w) {j b f clock':Nat} {d:Bool} {es es':List (List Int×aa)} {v:Array MapEntry} {en':List MapEntry} (F:ac[j]? =some (.mp d es)) (q:ob[j]? =some [.map (some b)]) (k:∀ o,NoM M b o) (p:w.heap[b]? =some (.map v f))
  (hl:en'.length=es'.length) (s:∀ (i:Nat) x y,en'[i]? =some x->es'[i]? =some y->x.key=fP d y.1/\(d=false->y.1.length=1)/\Rep M [] x.val y.2)
  (h1:∀ (i:Nat) x,en'[i]? =some x->x.born<clock') (z:∀ (i j:Nat) x y,en'[i]? =some x->en'[j]? =some y->x.born=y.born->i=j):
  Mem M ob (ac.set j (.mp d es')) (H4 w b (.map en'.toArray clock'))/\Ext M ob ac w M ob (ac.set j (.mp d es')) (H4 w b (.map en'.toArray clock'))/\cH ob ac ob (ac.set j (.mp d es')):=by
 have g:=fR (l:=ob) q
 have:=h.turn (M':=M) (w':=H4 w b (.map en'.toArray clock')) (x':=.mp d es') (hs':=[.map (some b)]) F q (Cn _) (λ e=>by cases e) (λ_ _ _ h=>h) (λ_ _ _ h=>.inl h) (λ c o y r=>by
   obtain ⟨u,D,A,C⟩:=h.imm c o y r;have n:c≠b:=λ e=>by subst e;exact k o y r
   exact ⟨u,(Cr (w:=w) (a:=⟨c,o,none⟩) (BM n)).trans D,A,C⟩)
  (λ c _ t=>BM λ e=>t ⟨rfl,by subst e;exact dM.2 rfl⟩) rfl rfl rfl s_ (λ B=>⟨b,rfl,k,en',clock',WW p,hl,s,h1,z⟩)
  (λ_ c m=>⟨.inl ⟨rfl,m⟩,by
   have:b=c:=dM.1 m;subst this;have:=eX p
   simp;omega⟩)
 rw [g] at this;exact this
def sQ:∀ (n:Nat) (l:List Int),(((l.map (Eb .i64)).zip (l.map (Eb .i64))).all λ(x,y)=>Jr n x y)=true
 | n,[]=>rfl
 | n,a::r=>by simp only [Bl,List.zip_cons_cons,Kd,sQ n r,Hz];cases n<;>simp [Jr]
def H7 (n:Nat) (a:Bool) (l:List Int):Jr (n+1) (fP a l) (fP a l)=true:=by
 cases a with
 | false=>simp [fP,Jr]
 | true=>
  simp only [fP,if_true,Jr,beq_self_eq_true,Cy];exact sQ n l
def aFT {a:List MapEntry} {q:Nat} {x:MapEntry} (c:a[q]? =some x) (f:MapEntry->MapEntry):a.toArray.modify q f=(a.set q (f x)).toArray:=by
 apply Du;simp only [Array.toList_modify];refine Ek λ i=>?_;rw [List.getElem?_modify,Hd];have b:=(Ab.1 c).1;by_cases d:q=i
 .grind
 .simp [d]
def LG:Rep M ob (.tuple #[]) (.tup []):=.tup [] [] rfl λ i v a h=>by simp at h
def aC1 (hE:ae E) (hm:Mem M ob ac w) {t:Nat} {mv kv C:Value} {m k v:aa} (hmv:Rep M ob mv m) (hkv:Rep M ob kv k) (hvv:Rep M ob C v):
  Sd (VU E.P M ob ac w (Kw t mv kv C)) (λ_ _=>False) (λ_=>False) ac base (QZ E (aC ac) t m k v):=by
 unfold QZ;split
 .rename_i kt _ _ _ _ j hT;have N:=(hE.tab _ _ hT).kind.1;split
  .rename_i p es Y;split
   .rename_i key V;obtain ⟨rfl,I⟩:=xJ hE V hkv;have A:=hm.pureV 4 C v hvv;generalize ah (aC ac) 4 v=v' at A;refine sdc λ_=>H5 I λ hn=>?_;have W:p=false->key.length=1:=λ e=>by grind
    obtain ⟨b,rfl,L,o,R,h,f,J,hl,D,hst,G⟩:=hm.mpOf Y hmv;obtain ⟨r,hr,hf⟩:=qJ (w:=w) I rfl (ZH.enOK (b:=b) hl D hn);have H:=λ em=>H8 (w:=w) I rfl em;rcases hf with ⟨rfl,hf⟩ | ⟨q,x,y,rfl,K,hy,O,S⟩
    .have z:=(oX hf).2.1 v'
     have:=hm.mpTurn (es':=es++[(key,v')]) (en':=h++[⟨fP p key,C,f⟩]) (clock':=f+1) o L R J (by simp [hl]) (λ i a c d s=>by
       by_cases g:i<h.length
       .rw [Ag g] at d;rw [Ag o_] at s;exact D i a c d s
       .rw [Ak o_] at d;rw [Ak o_] at s;have u:i-h.length=0:=by have:=(Ab.1 d).1;simp at this;omega
        rw [u] at d;rw [<-hl,u] at s;simp at d s;subst d s
        exact ⟨rfl,W,A⟩) (λ i a d=>by
       by_cases g:i<h.length
       .rw [Ag g] at d;have:=hst i a d;omega
       .rw [Ak o_] at d;have u:i-h.length=0:=by have:=(Ab.1 d).1;simp at this;omega
        rw [u] at d;simp at d;subst d
        simp) (λ i Q a a' d l B=>by
       have n:∀ {i:Nat} {a:MapEntry},¬ i<h.length->(h++[⟨fP p key,C,f⟩])[i]? =some a->i=h.length/\a.born=f:=λ{i a} g d=>by
        rw [Ak o_] at d;have u:i-h.length=0:=by have:=(Ab.1 d).1;simp at this;omega
        rw [u] at d;simp at d;subst d;simp;omega
       by_cases g:i<h.length<;>by_cases F:Q<h.length
       .rw [Ag g] at d;rw [Ag F] at l;exact G i Q a a' d l B
       .rw [Ag g] at d;have:=hst i a d;have:=(n F l).2;omega
       .rw [Ag F] at l;have:=hst Q a' l;have:=(n g d).2;omega
       .have:=(n g d).1;have:=(n F l).1
        omega)
     refine ⟨rfl,H4 w b (.map (h++[(⟨fP p key,C,f⟩:MapEntry)]).toArray (f+1)),M,ob,?_,?_⟩
     .simp only [Kw,Bg,run_underlying N,Aq,MapKept.run_getObj_map J,H,hr,MapKept.run_setObj_map _ J];simp
     .rw [z,aO o];exact ⟨this.2.1,this.1,this.2.2⟩
    .have z:=(vM hy O S).2.1 v';have hxk:=(D q x y K hy).1;have hql:=(Ab.1 K).1
     have:=hm.mpTurn (es':=es.set q (key,v')) (en':=h.set q ⟨fP p key,C,x.born⟩) (clock':=f) o L R J (by simp [hl]) (λ i a c d s=>by
       rw [Hd] at d s;by_cases g:q=i
       .rw [if_pos g] at d s;subst g;rw [if_pos hql] at d;rw [if_pos o_] at s;cases d;cases s;exact ⟨rfl,W,A⟩
       .rw [if_neg g] at d s
        exact D i a c d s) (λ i a d=>by
       rw [Hd] at d;by_cases g:q=i
       .rw [if_pos g,if_pos o_] at d;cases d;exact hst q x K
       .rw [if_neg g] at d
        exact hst i a d) (λ i Q a a' d l B=>by
       have T:∀ {i:Nat} {a:MapEntry},(h.set q ⟨fP p key,C,x.born⟩)[i]? =some a->∃ X,h[i]? =some X/\X.born=a.born:=λ{i a} d=>by
        rw [Hd] at d;by_cases g:q=i
        .rw [if_pos g,if_pos o_] at d;cases d;exact ⟨x,g▸K,rfl⟩
        .rw [if_neg g] at d;exact ⟨a,d,rfl⟩
       obtain ⟨X,g1,g2⟩:=T d;obtain ⟨a0',Z,g2'⟩:=T l
       exact G i Q X a0' g1 Z o_)
     refine ⟨rfl,H4 w b (.map (h.set q ⟨fP p key,C,x.born⟩).toArray f),M,ob,?_,?_⟩
     .have U:(((h.toArray[0+q]?).map (·.key)).getD (fP p key))=fP p key:=by simp only [Bo,Jt,K,Mq,Jy];rw [hxk,O]
      have hst:(Instr.keyThatStays (fP p key) (fP p key)).run E.P w= .ok (fP p key) w:=by unfold Instr.keyThatStays;rw [show (10000:Nat)=9999+1 from rfl,H7 9999 p key];simp
      simp only [Kw,Bg,run_underlying N,Aq,MapKept.run_getObj_map J,H,hr,U,hst,MapKept.run_setObj_map _ J];rw [Bo,aFT K]
     .rw [z,aO o];exact ⟨this.2.1,this.1,this.2.2⟩
   .exact trivial
  .exact trivial
 .exact trivial
def YK (hE:ae E) (hm:Mem M ob ac w) {t X ty:Nat} {O kv:Value} {m k:aa} (I:Rep M ob O m) (N:Rep M ob kv k):
  PM E.P M ob w (Kx #[t,X] ty #[O,kv]) ac base (JG E (aC ac) t m k):=by
 unfold JG;split
 .rename_i kt _ _ _ _ j U;have D:=(hE.tab _ _ U).kind.1;split
  .rename_i Z es J;split
   .rename_i key B;obtain ⟨rfl,n⟩:=xJ hE B N;refine H5 n λ S=>?_;obtain ⟨b,rfl,z,e,G,u,d,v,hl,o,hst,g⟩:=hm.mpOf J I;obtain ⟨r,R,K⟩:=qJ (w:=w) n rfl (ZH.enOK (b:=b) hl o S);have f:=λ T=>H8 (w:=w) n rfl T;rcases K with ⟨rfl,K⟩ | ⟨q,x,y,rfl,Y,W,L,A⟩
    .have:=hm.mpTurn (es':=es) (en':=u) (clock':=d) e z G v hl o hst g;refine ⟨.tuple #[],H4 w b (.map u.toArray d),M,ob,?_,?_⟩
     .simp [Kx,run_underlying D,MapKept.run_getObj_map v,f,R,MapKept.run_setObj_map _ v,Ef]
     .rw [(oX K).2.2,aO e];exact ⟨this.2.1,this.1,this.2.2,LG⟩
    .have H:=(Ab.1 Y).1;have F:(u.toArray.eraseIdxIfInBounds q)=(u.eraseIdx q).toArray:=by simp
     have s:∀ {α:Type} (l:List α) (i:Nat),(l.eraseIdx q)[i]? =l[if i<q then i else i+1]?:=λ l i=>by rw [List.getElem?_eraseIdx];split<;>rfl
     have:=hm.mpTurn (es':=es.eraseIdx q) (en':=u.eraseIdx q) (clock':=d) e z G v (by
       rw [Lh H,Lh o_];omega) (λ i a c h Q=>by
       rw [s] at h Q
       exact o _ a c h Q) (λ i a h=>by
       rw [s] at h
       exact hst _ a h) (λ i i' a V h C p=>by
       rw [s] at h C;have:=g _ _ a V h C p
       split at this<;>split at this<;>omega)
     refine ⟨.tuple #[],H4 w b (.map (u.eraseIdx q).toArray d),M,ob,?_,?_⟩
     .simp [Kx,run_underlying D,MapKept.run_getObj_map v,f,R,MapKept.run_setObj_map _ v,Ef,F]
     .rw [(vM W L A).2.2,aO e];exact ⟨this.2.1,this.1,this.2.2,LG⟩
   .exact trivial
  .exact trivial
 .exact trivial
end
section
variable {P:Program} {E:Env} {M:Imm} {ob:Hs} {ac:List ab} {w:World} {base:Nat}
def Rep.nilif_inv {v:Value} (h:Rep M ob v .nilif):v= .nilIface:=by cases h;rfl
def AZ {ρv:Operand->Value} {ρ:Operand->aa} (h:∀ x,Rep M ob (ρv x) (ρ x)):∀ (l:List Operand),cA M ob (l.map ρv) (evO ρ l)
 | []=>⟨rfl,λ i v a h=>by simp at h⟩
 | x::l=>by
  obtain ⟨h1,e⟩:=AZ h l;refine ⟨by simp [AW.evO,h1],λ i v b c d=>?_⟩;cases i with
  | zero=>simp [AW.evO] at c d;grind
  | succ i=>exact e i v b (by simpa using c) (by simpa [AW.evO] using d)
def JC {ρv:Operand->Value} {ρ:Operand->aa} (h:∀ x,Rep M ob (ρv x) (ρ x)):∀ (l:List (Nat×Operand)),ED M ob (l.map λ(p:Nat×Operand)=>(p.1,ρv p.2)) (evL ρ l)
 | []=>⟨rfl,λ i p q h=>by simp at h⟩
 | (n,x)::l=>by
  obtain ⟨h1,b⟩:=JC h l;refine ⟨by simpa [AW.evL] using h1,λ i p q hp a=>?_⟩;cases i with
  | zero=>simp [AW.evL] at hp a;subst hp a;exact ⟨rfl,h x⟩
  | succ i=>exact b i p q (by simpa using hp) (by simpa [AW.evL] using a)
def cA.append {vs us:List Value} {as bs:List aa} (h:cA M ob vs as) (k:cA M ob us bs):cA M ob (vs++us) (as++bs):=by
 refine ⟨by simp [h.1,k.1],λ i v a b c=>?_⟩;by_cases d:i<vs.length
 .rw [Ag d] at b;rw [Ag (by rw [<-h.1];exact d)] at c;exact h.2 i v a b c
 .rw [Ak o_] at b;rw [Ak (by rw [<-h.1];omega),<-h.1] at c;exact k.2 _ v a b c
def cA.cons {v:Value} {a:aa} {vs:List Value} {as:List aa} (h:Rep M ob v a) (k:cA M ob vs as):cA M ob (v::vs) (a::as):=
 cA.append (vs:=[v]) (as:=[a]) ⟨rfl,λ i u b c d=>by cases i with | zero=>grind | succ i=>simp at c⟩ k
def rO (hE:ae E) {t:Nat} {v:Value} {a:aa} (h:Rep M ob v a):Rep M ob v (BE E t a):=by
 unfold BE;split
 .split
  .cases h;exact .slnil _ _ rfl
  .exact h
 .exact h
def cB.now {ρv:Operand->Value} {op:Op} {ty:TypeId} {u:Value} {v:aa} (hm:Mem M ob ac w) (b:∀ d pos a g,execOp ρv ⟨d,op,ty,pos,a,g⟩=Pure.pure (.value u)) (h:Rep M ob u v):VS P ρv op ty M ob ac w v ac:=
 ⟨u,w,M,ob,λ d pos a g=>.inl (by rw [b];rfl),Ext.refl _ _ _ _,hm,cH.refl _ _,h⟩
def aAA (b:Array TypeId) (t:TypeId) (k a:IntKind) (x y:Int):(Builtin.max_ b t #[.int k x,.int a y]).run P w= .ok (.int k (max x y)) w:=by
 rw [run_max_int2]
 grind
def aAz (b:Array TypeId) (t:TypeId) (k a:IntKind) (x y:Int):(Builtin.min_ b t #[.int k x,.int a y]).run P w= .ok (.int k (min x y)) w:=by
 rw [run_min_int2]
 grind
def IN {ρv:Operand->Value} {ρ:Operand->aa} (h:∀ x,Rep M ob (ρv x) (ρ x)) (l:Option Operand):EE M ob (l.map ρv) (l.map ρ):=by
 cases l with
 | none=>exact .inl ⟨rfl,rfl⟩
 | some y=>exact .inr ⟨_,_,rfl,rfl,h y⟩
def tY.notIface {P:Program} {t:Nat} {j:Bool} {size:Nat} {k:TK} (h:tY P t j size k) (l:k≠ .iface):∃ c,P.underlying t=some c/\∀ f,c≠ .interface f:=by
 obtain ⟨a,_⟩:=h.isAgg;obtain ⟨c,d⟩:=Da.1 a;refine ⟨c,d,λ f e=>?_⟩;subst e;cases k with
 | int k=>have:=h.1;grind
 | bool=>have:=h.1;grind
 | str=>have:=h.1;grind
 | strct p=>obtain ⟨⟨fl,g,_⟩,_⟩:=h;grind
 | arr n s m=>obtain ⟨⟨fl,g,_⟩,_⟩:=h;grind
 | slc e s b=>have:=h.1.1;grind
 | ptr e=>have:=h.1;grind
 | iface=>grind
 | mp k e=>have:=h.1;grind
 | other=>obtain ⟨⟨o,g,i⟩,_⟩:=h;grind
def C0 {k:IntKind} {x y:Int} (a:inR k x) (b:inR k y):inR k (min x y)/\inR k (max x y):=by grind
def QV (hE:ae E) (hm:Mem M ob ac w) (D:ac[base]? =some .dead) (G:ob[base]? =some []) {ρv:Operand->Value} {ρ:Operand->aa} (j:∀ x,Rep M ob (ρv x) (ρ x)) (hint:Nat) (op:Op) (ty:TypeId):
  cB E.P ρv op ty M ob ac w base (lK E hint base (aC ac) ρ op ty):=by
 cases op with
 | move x=>exact cB.now hm (λ_ _ _ _=>rfl) (j x)
 | assign x=>
  have A:=rO hE (t:=ty) (j x);have hs:∀ d pos a g,execOp ρv ⟨d,.assign x,ty,pos,a,g⟩=((Pure.pure (ρv x):Sem Value) >>= λ v=>Pure.pure (.value v)):=λ_ _ _ _=>rfl;simp only [lK];split
  .exact cB.now hm (λ_ _ _ _=>rfl) A
  .split
   .rename_i esz xs t heq;rw [heq] at A;split
    .split
     .obtain ⟨_,Z⟩:=A.untok;have Z:ρv x= .slice none 0 0:=Z;split
      .refine sdc λ hg=>?_;obtain ⟨hg1,hg2⟩:=aU hg;have hpos:0<esz:=Ck hg2;refine cB.pm hs (pF hm D G (v:=.slice none 0 0) (w':=w) q_ ⟨⟨[],Hf w 0 _ _,by simp,λ q c hq=>by simp [aH] at hq⟩,hpos,by simp,λ b hb=>by simp [Gk] at hb,λ_ _=>rfl,rfl,rfl,rfl,Bc _,CE w⟩)
      .exact trivial
     .exact trivial
    .exact cB.now hm (λ_ _ _ _=>rfl) A
   .exact cB.now hm (λ_ _ _ _=>rfl) A
 | pick c x y=>
  have U:=j c;simp only [lK];split
  .rename_i l;rw [l] at U;exact cB.now hm (λ_ _ _ _=>by simp [execOp,U.bool_inv,asBool]) (j x)
  .rename_i l;rw [l] at U;exact cB.now hm (λ_ _ _ _=>by simp [execOp,U.bool_inv,asBool]) (j y)
  .exact trivial
 | alloc t=>
  simp only [lK];split
  .rename_i X C;refine sdc λ h1=>?_;obtain ⟨i,z,hi,hs,hz,hzs,Q,_,_⟩:=(hE.tab t X C).info;have hzv:(zeroValue t).run E.P w= .ok z w:=by simp [zeroValue,typeInfo,hi,hz]
   obtain ⟨u,w',M',ob',J,hrest⟩:=ML (P:=E.P) (t:=t) hm D G (jJ Q) h1;have hal:(Nm t true (.tuple #[])).run E.P w= .ok u w':=by unfold Nm;rw [Bg,hzv];exact J
   exact cB.pm (r:=.born _ _) (s:=Nm t true (.tuple #[])) (λ_ _ _ _=>rfl) ⟨u,w',M',ob',hal,hrest⟩
  .exact trivial
 | box t x=>
  simp only [lK];refine sdc λ h1=>?_;exact cB.pm (r:=.born _ _) (s:=Instr.box t (ρv x)) (λ_ _ _ _=>rfl) (ML (P:=E.P) (t:=t) hm D G (j x) h1)
 | build t ps=>
  exact cB.pv (s:=Instr.build t (ps.map λ(p:Nat×Operand)=>(p.1,ρv p.2))) hm (λ_ _ _ _=>rfl) (aC8 hE (by simpa using JC j ps.toList))
 | buildSlice t n ps=>
  exact cB.pm (s:=Ka t n (ps.map λ(p:Nat×Operand)=>(p.1,ρv p.2))) (λ_ _ _ _=>rfl) (EV hE hm D G (by simpa using JC j ps.toList))
 | load t x=>exact cB.pv (s:=Mi t (ρv x)) hm (λ_ _ _ _=>rfl) ((VH hE hm (j x)).bind λ v u h=>rO hE h)
 | store t x y=>
  refine Sd.mono (λ v o ⟨h1,w',M',ob',Y,h3,h4,h5⟩=>?_) (λ_ _ h=>h.elim) (λ_ h=>h.elim) (aCS (t:=t) hE hm (j x) (rO hE (t:=t) (j y)));refine ⟨undef,w',M',ob',λ d pos a g=>.inr ⟨?_,rfl⟩,h3,h4,h5,by rw [h1];exact .undef _⟩;have:execOp ρv ⟨d,.store t x y,ty,pos,a,g⟩=(Kh t (ρv x) (ρv y) >>= λ_=>Pure.pure .skip):=rfl;simp_all
 | nilCheck x=>
  have A:=j x;simp only [lK];split<;>first | exact trivial | skip
  all_goals
   rename_i l;rw [l] at A;refine cB.now hm (u:=ρv x) (λ d pos a g=>?_) A;generalize hu:ρv x=u at A;simp only [execOp,hu];cases A<;>rfl
 | binOp bop t x y yt=>exact cB.pv (s:=JO bop t x y (ρv x) (ρv y)) hm (λ_ _ _ _=>rfl) (aKp (og:=aC ac) hE (j x) (j y))
 | unOp uop t x=>
  have A:=j x;simp only [lK];refine cB.pv (s:=Op.unary uop (ρv x)) hm (λ_ _ _ _=>rfl) ?_;split
  .rename_i b l;rw [l] at A;rw [A.bool_inv];exact aQ (u:=.bool (!b)) rfl (.bool _)
  .rename_i k n l;rw [l] at A;rw [A.int_inv.1];have e:(Op.unary .neg (.int k n)).run E.P w= .ok (.int k (k.wrap (0-n))) w:=rfl;exact ⟨λ hp=>⟨rfl,_,by rw [e,jK hp],.int _ _ hp⟩,rfl,_,e,.int _ _ (jQ _ _)⟩
  .rename_i k n l;rw [l] at A;rw [A.int_inv.1];exact aQ (u:=.int k (dF .xor k (if k.signed then -1 else k.max) n)) rfl (.int _ _ (by unfold dF;exact jQ _ _))
  .exact trivial
 | convert s t x=>exact cB.pm (s:=convert s t (ρv x)) (λ_ _ _ _=>rfl) (aG4 hE hm (j x))
 | makeInterface t x=>
  simp only [lK];refine cB.pv (s:=Instr.makeInterface t (ρv x)) hm (λ_ _ _ _=>rfl) ?_;split
  .rename_i X C;have hk:=(hE.tab t X C).kind;split
   .exact trivial
   .rename_i R;obtain ⟨dd,S,T⟩:=hk.notIface R;refine aQ (run_makeInterface w t _ ?_) (.iface _ _ _ (j x));unfold Program.concrete;simp_all
  .exact trivial
 | makeFunc fn fs cs=>
  obtain ⟨p1,p2⟩:=AZ j fs.toList;obtain ⟨q1,q2⟩:=AZ j cs.toList;refine cB.now hm (u:=.func fn (fs.toList.map ρv).toArray (cs.toList.map ρv).toArray) (λ d pos a g=>?_) (.func fn _ _ _ _ p1 q1 p2 q2);have V:(fs.toList.map ρv).toArray=fs.map ρv:=by apply Du;simp
  have e2:(cs.toList.map ρv).toArray=cs.map ρv:=by apply Du;simp
  rw [V,e2];rfl
 | makeMap t x=>
  cases x with
  | some x=>exact trivial
  | none=>
   simp only [lK];split
   .split
    .rename_i tk _;obtain ⟨m1,m2,m3,m4⟩:=hm.bornMap D G tk.agg;refine cB.pm (r:=.born _ _) (s:=Instr.makeMap t none) (λ_ _ _ _=>rfl) ⟨_,_,M,ob.set base [.map (some w.heap.size)],run_makeMap t w,?_⟩;rw [aO D]
     grind
    .exact trivial
   .exact trivial
 | makeSlice t x y=>exact cB.pm (s:=Instr.makeSlice t (ρv x) (ρv y)) (λ_ _ _ _=>rfl) (aG1 (hint:=hint) hE hm D G (j x) (j y))
 | slice t x lo hi mx=>exact cB.pv (s:=Gv t (ρv x) (lo.map ρv) (hi.map ρv) (mx.map ρv)) hm (λ_ _ _ _=>rfl) (aCT hE hm (j x) (IN j lo) (IN j hi) (IN j mx))
 | fieldAddr t x f=>exact cB.pv (s:=Lr t (ρv x) f) hm (λ_ _ _ _=>rfl) (JJ hE (j x))
 | field t x f=>exact cB.pv (s:=Nb t (ρv x) f) hm (λ_ _ _ _=>rfl) ((aC3 hE (j x)).bind λ v u h=>rO hE h)
 | indexAddr t x i=>exact cB.pv (s:=Ib t (ρv x) (ρv i)) hm (λ_ _ _ _=>rfl) (JI hE hm (j x) (j i))
 | index t x i=>exact cB.pv (s:=Lp t (ρv x) (ρv i)) hm (λ_ _ _ _=>rfl) (aC2 hE (j x) (j i))
 | typeAssert x xt t ok=>
  have A:=j x;simp only [lK];refine cB.pv (s:=Kc (ρv x) xt t ok) hm (λ_ _ _ _=>rfl) ?_;split
  .rename_i X u v C l;rw [l] at A;obtain ⟨i,z,hi,hs,hz,hzs,Q,_,_⟩:=(hE.tab t X C).info;split
   .exact trivial
   .rename_i R;obtain ⟨dd,S,T⟩:=(hE.tab t X C).kind.notIface R;obtain ⟨F,N,hv⟩:=A.iface_inv;rw [N];cases hq:Aw u t with
    | true=>
     have:=aB hq;subst this;refine aQ (u:=if ok then .tuple #[F,.bool true] else F) ?_ ?_
     .unfold Kc;simp only [Bg,run_underlying S,Aq];rfl
     .cases ok with
      | true=>exact hv.pairB true
      | false=>exact hv
    | false=>
     have hne2:¬ u=t:=λ e=>by subst e;simp at hq
     simp only [cond_false];refine sdc λ hok=>?_;subst hok;refine aQ (u:=.tuple #[z,.bool false]) ?_ ((jJ Q).pairB false);unfold Kc;simp only [Bg,run_underlying S,Aq];cases dd<;>first | exact absurd rfl (T _) | (simp [hne2,zeroValue,typeInfo,hi,hz])
  .rename_i X C l;rw [l] at A;obtain ⟨i,z,hi,hs,hz,hzs,Q,_,_⟩:=(hE.tab t X C).info;split
   .exact trivial
   .rename_i R;obtain ⟨dd,S,T⟩:=(hE.tab t X C).kind.notIface R;refine sdc λ hok=>?_;subst hok;rw [A.nilif_inv];refine aQ (u:=.tuple #[z,.bool false]) ?_ ((jJ Q).pairB false);unfold Kc;simp only [Bg,run_underlying S,Aq];cases dd<;>first | exact absurd rfl (T _) | (simp [zeroValue,typeInfo,hi,hz])
  .exact trivial
 | extract x i=>
  have A:=j x;simp only [lK];refine cB.pv (s:=Instr.extract (ρv x) i) hm (λ_ _ _ _=>rfl) ?_;split
  .rename_i vs l;rw [l] at A;split
   .rename_i v hn;have hnv:=kY hn;obtain ⟨us,N,hl,J⟩:=A.tup_inv;have hlt:i<us.length:=by grind
    rw [N];refine aQ (u:=us[i]) ?_ (J i _ v (Aa hlt) hnv);simp [Instr.extract,hlt]
   .exact trivial
  .exact trivial
 | panic x=>
  have A:=j x;simp only [lK];split
  .rename_i t v l;rw [l] at A;obtain ⟨u,N,hu⟩:=A.iface_inv;have:∀ F,F=ah (aC ac) 3 v->cB E.P ρv (.panic x) ty M ob ac w base ((λ v=>bif CI v then OR.pan (.iface t v) else .no) F):=λ F e=>by
    subst e
    refine sdc λ_=>⟨.iface t u,λ d pos a g=>?_,.iface _ _ _ (hm.pureV 3 _ _ hu)⟩
    simp [execOp,Instr.panic,N]
   grind
  .exact trivial
 | lookup t m k ok=>exact cB.pv (s:=Mj t (ρv m) (ρv k) ok) hm (λ_ _ _ _=>rfl) (YL hE hm (j m) (j k) ok)
 | mapUpdate t m k v0=>
  refine Sd.mono (λ v o ⟨h1,w',M',ob',Y,h3,h4,h5⟩=>?_) (λ_ _ h=>h.elim) (λ_ h=>h.elim) (aC1 (t:=t) hE hm (j m) (j k) (j v0));refine ⟨undef,w',M',ob',λ d pos a g=>.inr ⟨?_,rfl⟩,h3,h4,h5,by rw [h1];exact .undef _⟩;have:execOp ρv ⟨d,.mapUpdate t m k v0,ty,pos,a,g⟩=(Kw t (ρv m) (ρv k) (ρv v0) >>= λ_=>Pure.pure .skip):=rfl;simp_all
 | call c=>
  obtain ⟨callee,args,argTypes⟩:=c;have I:=AZ j args.toList;simp only [lK];cases callee with
  | value f=>
   have B:=j f;dsimp only;split
   .rename_i gid fs cs l;rw [l] at B;cases H:ρv f with
    | func fn first caps=>
     rw [H] at B;cases B with
     | func _ vfs vcs _ _ hl1 hl2 hr1 hr2=>
      rw [JY,JY];refine ⟨_,cA.append (cA.append ⟨hl1,hr1⟩ I) ⟨hl2,hr2⟩,λ d pos a g=>?_⟩;have V:(args.map ρv)=(args.toList.map ρv).toArray:=by apply Du;simp
      simp [execOp,resolve,H,Deferred.ofValue,invoke,V,D2]
    | _=>rw [H] at B;cases B
   .rename_i lid fs cs l;rw [l] at B;cases H:ρv f with
    | func fn first caps=>
     rw [H] at B;cases B with
     | func _ vfs vcs _ _ hl1 hl2 hr1 hr2=>
      rw [JY];refine ⟨_,cA.append ⟨hl1,hr1⟩ I,λ d pos a g=>?_⟩;have V:(args.map ρv)=(args.toList.map ρv).toArray:=by apply Du;simp
      simp [execOp,resolve,H,Deferred.ofValue,invoke,V,D2]
    | _=>rw [H] at B;cases B
   .exact trivial
  | invoke rc name=>
   have L:=j rc;dsimp only;split
   .rename_i t v l;rw [l] at L;split
    .rename_i gid hmg;cases hre:ρv rc with
     | iface t' F=>
      rw [hre] at L;cases L with
      | iface _ _ _ hv=>
       have hmm:=hE.mth t name gid hmg F w;refine ⟨_,cA.cons hv I,λ d pos a g=>?_⟩;have hva: #[F]++args.map ρv=(F::args.toList.map ρv).toArray:=by simp
       rw [<-hva];have hex:(#[Nc t F]++args.map ρv).extract 1 (#[Nc t F]++args.map ρv).size=args.map ρv:=by apply Du;simp [Array.toList_extract];exact Cf s_
       simp only [execOp,resolve,Bg,Bw,Aq,invoke,hre];simp only [Gx (show 0<(#[Nc t F]).size by simp)];simp only [show (#[Nc t F]:Array Value)[0]? =some (.iface t F) from rfl,hex,callMethod,Bg,run_program,Aq,hmm,D2]
     | _=>rw [hre] at L;cases L
    .exact trivial
   .exact trivial
  | builtin b=>
   dsimp only
   have O:∀ {s:Sem Value} {r:OR},(∀ {u:Value} {w':World},s.run E.P w= .ok u w'->∀ d pos a g,(execOp ρv ⟨d,.call ⟨.builtin b,args,argTypes⟩,ty,pos,a,g⟩).run E.P w= .ok (.value u) w')->PM E.P M ob w s ac base r->cB E.P ρv (.call ⟨.builtin b,args,argTypes⟩) ty M ob ac w base r:=λ{s r} A h=>
    Sd.mono (λ v o ⟨u,w',M',ob',Y,h3,h4,h5,h6⟩=>⟨u,w',M',ob',λ d pos a g=>.inl (A Y d pos a g),h3,h4,h5,h6⟩) (λ_ _ h=>h.elim) (λ_ h=>h.elim) h
   split
   .rename_i x t h1 Y;have K:args= #[x]:=by apply Du;omega
    have W:argTypes= #[t]:=by apply Du;omega
    subst K W;exact O (s:=Fo #[t] ty #[ρv x]) (λ J d pos a g=>by simp [execOp,resolve,invoke,builtin,J]) (PM.of hm (aKk hE hm (j x)))
   .rename_i x y h1;have K:args= #[x,y]:=by apply Du;omega
    subst K;split
    .rename_i k p k' q V e2;have A:=j x;have hy:=j y;rw [V] at A;rw [e2] at hy;refine sdc λ hk=>?_;have:=vS hk;subst this;obtain ⟨hx1,hx2⟩:=A.int_inv;obtain ⟨hy1,hy2⟩:=hy.int_inv;refine ⟨_,w,M,ob,λ d pos a g=>.inl ?_,Ext.refl _ _ _ _,hm,cH.refl _ _,.int _ _ (C0 hx2 hy2).1⟩;simp [execOp,resolve,invoke,builtin,hx1,hy1,aAz]
    .exact trivial
   .rename_i x y h1;have K:args= #[x,y]:=by apply Du;omega
    subst K;split
    .rename_i k p k' q V e2;have A:=j x;have hy:=j y;rw [V] at A;rw [e2] at hy;refine sdc λ hk=>?_;have:=vS hk;subst this;obtain ⟨hx1,hx2⟩:=A.int_inv;obtain ⟨hy1,hy2⟩:=hy.int_inv;refine ⟨_,w,M,ob,λ d pos a g=>.inl ?_,Ext.refl _ _ _ _,hm,cH.refl _ _,.int _ _ (C0 hx2 hy2).2⟩;simp [execOp,resolve,invoke,builtin,hx1,hy1,aAA]
    .exact trivial
   .rename_i x y t t2 h1 Y;have K:args= #[x,y]:=by apply Du;omega
    have W:argTypes= #[t,t2]:=by apply Du;omega
    subst K W;exact O (s:=Co #[t,t2] ty #[ρv x,ρv y]) (λ J d pos a g=>by simp [execOp,resolve,invoke,builtin,J]) (YM hE hm D G (j x) (j y))
   .rename_i x y t t2 h1 Y;have K:args= #[x,y]:=by apply Du;omega
    have W:argTypes= #[t,t2]:=by apply Du;omega
    subst K W;exact O (s:=Ki #[t,t2] ty #[ρv x,ρv y]) (λ J d pos a g=>by simp [execOp,resolve,invoke,builtin,J]) (aG3 hE hm (j x) (j y))
   .rename_i x t h1 Y;have K:args= #[x]:=by apply Du;omega
    have W:argTypes= #[t]:=by apply Du;omega
    subst K W;exact O (s:=Jq #[t] ty #[ρv x]) (λ J d pos a g=>by simp [execOp,resolve,invoke,builtin,J]) (aC7 hE hm (j x))
   .rename_i m k t t2 h1 Y;have K:args= #[m,k]:=by apply Du;omega
    have W:argTypes= #[t,t2]:=by apply Du;omega
    subst K W;exact O (s:=Kx #[t,t2] ty #[ρv m,ρv k]) (λ J d pos a g=>by simp [execOp,resolve,invoke,builtin,J]) (YK hE hm (j m) (j k))
   .exact trivial
 | _=>exact trivial
def aFF {v:Value} {a:aa} (h:Rep M ob v a):Rep M ob v (nrm a):=by
 cases h with
 | rowc k g c a n h hm=>exact .row k g a n c h
 | pre k g n c d b len h e j hl hm=>
  have:=Rep.sub (M:=M) k g 0 n d b len c h e o_ hl o_;rw [Mc,Jo] at this;exact this
 | undef v=>exact .undef v
 | bool b=>exact .bool b
 | int k n u=>exact .int k n u
 | str l hl=>exact .str l hl
 | agg vs as hl h=>exact .agg vs as hl h
 | tup vs as hl h=>exact .tup vs as hl h
 | ptr b o cs h=>exact .ptr b o cs h
 | ref k off b h=>exact .ref k off b h
 | eref k g i d off b n c h=>exact .eref k g i d off b n c h
 | csl k off len d b h hm=>exact .csl k off len d b h hm
 | row k g a n c h=>exact .row k g a n c h
 | sub k g lo len d b n c h hl j e hm=>exact .sub k g lo len d b n c h hl j e hm
 | sub0 k g lo d a w n c h hl e=>exact .sub0 k g lo d a w n c h hl e
 | mref k b h=>exact .mref k b h
 | nilptr=>exact .nilptr
 | nilslice=>exact .nilslice
 | nilmap=>exact .nilmap
 | nilfunc=>exact .nilfunc
 | nilif=>exact .nilif
 | hsl a n c=>exact .hsl a n c
 | slnil d t f=>exact .slnil d t f
 | slemp d t a cap f=>exact .slemp d t a cap f
 | sl d b o n cap xs t j e hm hz h f=>exact .sl d b o n cap xs t j e hm hz h f
 | func fn q cs p s r e h1 m=>exact .func fn q cs p s r e h1 m
 | iface t v a h=>exact .iface t v a h
def Rep.rowc_inv {v:Value} {k g c:Nat} (h:Rep M ob v (.rowc k g c)):∃ a n,v= .slice a n c/\at' ob k g=some (.slice a n c)/\(c:Int)<=9223372036854775807:=by cases h with | rowc _ _ _ a n h hm=>grind
def Rep.pre_inv {v:Value} {k g n c a:Nat} (h:Rep M ob v (.pre k g n c a)):∃ b len,v= .slice (some ⟨b,0,none⟩) n c/\at' ob k g=some (.slice (some ⟨b,0,none⟩) len c)/\0<c/\n<=len/\len<=c/\(c:Int)<=9223372036854775807:=by cases h with | pre _ _ _ _ _ b len h hc hn hl hm=>exact ⟨b,len,rfl,h,hc,hn,hl,hm⟩
def Mem.rowIs (hm:Mem M ob ac w) {k g j:Nat} {e:TypeId} {xs:List aa} (m:ac[k]? =some (.row g j e xs)) {d:Option Addr} {n c:Nat} (a:at' ob k g=some (.slice d n c)):
  n=xs.length/\n<=c/\(n:Int)<=9223372036854775807/\(d=none/\n=0/\c=0\/∃ b,d=some ⟨b,0,none⟩):=by
 obtain ⟨hs',v,h1,o,h3,f,l,_⟩:=hm.rowOf m;rw [a] at f;cases f;rcases l.len with ⟨h,rfl⟩ | ⟨b,p,h,r,i,q⟩
 .simp_all
 .cases h;exact ⟨rfl,i,by have:=gC;omega,.inr ⟨b,rfl⟩⟩
def dH.on {v:Value} {j:Nat} {e:TypeId} {xs:List aa} (h:dH M w v j e xs) (f:0<j) {b n c y:Nat} (H:v= .slice (some ⟨b,0,none⟩) n c) (h1:xs.length<=y) (C:y<=c):
  dH M w (.slice (some ⟨b,0,none⟩) y c) j e (xs++Aj (y-xs.length) (.agg (Aj j .undef))):=by
 subst H;obtain ⟨cv,⟨O,I⟩,h3,F,J,G,t⟩:=h;rcases I with ⟨q,_⟩ | ⟨g,cap,i,A,_,z,P,B,s,L⟩
 .cases q
 cases A;have N:y*j<=i.size:=by rw [s];exact Bu _ C
 have a:(xs++Aj (y-xs.length) (aa.agg (Aj j .undef))).length=y:=by simp;omega
 refine ⟨i.toList.take (y*j),⟨by rw [a];simp;omega,.inr ⟨b,c,i,by rw [a],Bv _,z,by omega,B,s,by rw [a]⟩⟩,λ u r=>t b rfl _ _ _ z u (Cw r),λ x k=>?_,λ q d p=>?_,G,t⟩
 .rcases Az.1 k with k | k
  .exact F x k
  .rw [(Gf.1 k).2];simp [aa.cells]
 .have o:=fI f p;rw [a] at o;rw [Bi o];by_cases m:q<xs.length*j
  .rw [cL f m] at p;obtain ⟨u,r,K⟩:=J q d p;refine ⟨u,?_,K⟩;rw [<-L,Bi m] at r;exact r
  .rw [cE f o_] at p;obtain ⟨x,k,D⟩:=fV p;have:=(Gf.1 (Au k)).2;subst this;have:d= .undef:=(Gf.1 (Au (show (Aj j aa.undef)[_]? =some d from D))).2;subst this;have l:q<i.toList.length:=by simp;omega
   exact ⟨_,Aa l,.undef _⟩
def aKn (hE:ae E) (hm:Mem M ob ac w) {t k g c hint:Nat} {v u:Value} {h:aa} (hv:Rep M ob v (.rowc k g c)) (hu:Rep M ob u h):
  PM E.P M ob w (Gv t v none (some u) none) ac base (aKo E hint (aC ac) t k g c h):=by
 unfold aKo;split
 .rename_i e0 esz eb _ _ _ g' i e xs Y n hT G;have r:=bZ G s_;obtain ⟨⟨H,ie,z,hi',hs,_,_,_,_⟩,_⟩:=(hE.tab t _ hT).kind;refine sdc λ hg=>?_;obtain ⟨B,O⟩:=aU hg;obtain ⟨Q,V⟩:=aU B;obtain rfl:=aB Q;obtain rfl:=aB V;have A:0<i:=Ck O;obtain ⟨x,hel⟩:=DN H;have K:(E.P.info? (E.P.elem t)).map (·.size)=some i:=by simp_all
  have T:=λ u:World=>af (P:=E.P) K u;obtain ⟨W,len,rfl,l,I⟩:=hv.rowc_inv;obtain ⟨rfl,S,hnm,C⟩:=hm.rowIs r l;obtain ⟨rfl,_⟩:=hu.int_inv;rintro y rfl;have run:y<=c->(Gv t (.slice W xs.length c) none (some (.int Y (y:Int))) none).run E.P w= .ok (sliced W 0 y c i) w:=λ hy=>by rw [run_sliceAt_slice w t _ _ _ _ x,run_slice_h w t W _ c x Y y o_ o_,T];rfl
  cases hint with
  | zero=>
   rintro ⟨U,F⟩;refine ⟨_,w,M,ob,run o_,Ext.refl _ _ _ _,hm,cH.refl _ _,?_⟩;rcases C with ⟨rfl,_,q⟩ | ⟨b,rfl⟩
   .omega
   .have s:sliced (some ⟨b,0,none⟩) 0 y c i= .slice (some ⟨b,0,none⟩) y c:=by simp [sliced,bA]
    rw [s];exact .pre k g y c i b _ l F U S I
  | succ m=>
   rintro ⟨U,F⟩;obtain ⟨a,v0,s,D,e3,X,j,Z⟩:=hm.rowOf r;rw [l] at X;cases X;rcases C with ⟨rfl,q1,q2⟩ | ⟨b,rfl⟩
   .-- nil:nothing cO on
    subst q2;obtain rfl:y=0:=o_;have R:xs=[]:=Ax q1;subst R;have o:(a++[Gu none 0 0]).length=g+1+1:=by simp [D]
    have f:(a++[Gu none 0 0])[g+1]? =some (.slice none 0 0):=by rw [<-D];simp
    have:=hm.rowTurn (hs':=a++[Gu none 0 0]) r s e3 ⟨_,rfl⟩ o f j (λ b _ _=>rfl) rfl rfl rfl (Bc _) (λ b J=>by cases J);refine ⟨_,w,M,ob.set k (a++[Gu none 0 0]),run (Bc _),?_⟩;rw [aO r];have L:([]:List aa)++Aj (0-([]:List aa).length) (aa.agg (Aj i .undef))=[]:=rfl;rw [L];refine ⟨this.2.1,this.1,this.2.2,?_⟩;have d:at' (ob.set k (a++[Gu none 0 0])) k (g+1)=some (.slice none 0 0):=by rw [bV (Ar (Ab.1 s).1)];exact f
    have N:sliced none 0 0 0 i= .slice none 0 0:=by rfl
    rw [N];exact .row _ _ _ _ _ d
   .have N:sliced (some ⟨b,0,none⟩) 0 y c i= .slice (some ⟨b,0,none⟩) y c:=by simp [sliced,bA]
    have p:=j.on A rfl U F;have o:(a++[Gu (some ⟨b,0,none⟩) y c]).length=g+1+1:=by simp [D]
    have f:(a++[Gu (some ⟨b,0,none⟩) y c])[g+1]? =some (.slice (some ⟨b,0,none⟩) y c):=by rw [<-D];simp
    have:=hm.rowTurn (hs':=a++[Gu (some ⟨b,0,none⟩) y c]) r s e3 ⟨_,rfl⟩ o f p (λ b _ _=>rfl) rfl rfl rfl (Bc _) (λ b' J=>.inl J);refine ⟨_,w,M,ob.set k (a++[Gu (some ⟨b,0,none⟩) y c]),run F,?_⟩;rw [aO r];refine ⟨this.2.1,this.1,this.2.2,?_⟩;have d:at' (ob.set k (a++[Gu (some ⟨b,0,none⟩) y c])) k (g+1)=some (.slice (some ⟨b,0,none⟩) y c):=by rw [bV (Ar (Ab.1 s).1)];exact f
    rw [N];exact .row _ _ _ _ _ d
 .exact trivial
def aG2 (hE:ae E) (hm:Mem M ob ac w) {t k g:Nat} {v D C B:Value} {l h m:aa} (L:Rep M ob v (.row k g)) (hl:Rep M ob D l) (J:Rep M ob C h) (i:Rep M ob B m):
  PM E.P M ob w (Gv t v (some D) (some C) (some B)) ac base (aC4 E (aC ac) t k g l h m):=by
 unfold aC4;split
 .rename_i e0 H eb _ _ _ W A e xs T a X b U c K n;have I:=bZ n s_;obtain ⟨⟨o,ie,z,Q,hs,_,_,_,_⟩,_⟩:=(hE.tab t _ K).kind;refine sdc λ N=>?_;obtain ⟨f,r⟩:=aU N;obtain rfl:=aB f;obtain rfl:=aB r;obtain ⟨d,F⟩:=DN o;have p:(E.P.info? (E.P.elem t)).map (·.size)=some A:=by simp_all
  have j:=λ u:World=>af (P:=E.P) p u;obtain ⟨S,len,cap,rfl,s⟩:=L.row_inv;obtain ⟨rfl,G,O,R⟩:=hm.rowIs I s;obtain ⟨rfl,_⟩:=hl.int_inv;obtain ⟨rfl,_⟩:=J.int_inv;obtain ⟨rfl,_⟩:=i.int_inv;rintro x rfl y rfl q rfl ⟨⟨V,Z⟩,Y⟩;refine ⟨sliced S x y q A,w,M,ob,?_,Ext.refl _ _ _ _,hm,cH.refl _ _,.undef _⟩;rw [run_sliceAt_slice w t _ _ _ _ d];unfold Lq Gm Jz;simp only [Bg,run_underlying d,Aq,Option.isSome_some,if_true,Bw,asIntOf];rw [if_pos ⟨by omega,by omega⟩];simp only [Bw,Aq];rw [if_pos ⟨by omega,by omega⟩];simp only [Bw,Aq];rw [if_pos ⟨by omega,by omega⟩];simp only [Bw,Aq,j,Bt];rfl
 .exact trivial
def zU {P:Program} (w:World) (t p ty e:TypeId) (x:IntKind) (i:TypeInfo) (z:Value) (u:P.underlying t=some (.slice e)) (C:P.underlying p=some (.int x)) (A:P.info? e=some i) (hz:i.zero=some z)
  (b n c m:Nat) (k:0<m) (g:0<i.size) (d:List Value) (f:(Cj i.size n (.slice (some ⟨b,0,none⟩) n c)).run P w.drew= .ok d.toArray w.drew) (v:c<n+m) (s:((n+m:Nat):Int)<=9223372036854775807)
  (a:(n+m)*i.bytes<=140737488355328):
  (Co #[t,p] ty #[.slice (some ⟨b,0,none⟩) n c,.int .i64 (m:Int)]).run P w=
   .ok (.slice (some ⟨w.heap.size,0,none⟩) (n+m) (grownCap w (n+m) c e))
    (w.drew.alloc (.cells (d++(Cg z.cells m).toList++(Cg z.cells (grownCap w (n+m) c e-(n+m))).toList).toArray e)):=by
 have r:¬ (n+m<=c):=o_;have j:¬ (9223372036854775807<((n:Int)+(m:Int))):=o_;have q:=growslice_fits (bytes:=i.bytes) v a;have h:¬ (281474976710656<Builtin.nextslicecap (n+m) c*i.bytes):=o_;have B:IntKind.i64.wrap (m:Int)=(m:Int):=jK ⟨by simp only [cJ];omega,by simp only [bE];omega⟩;have l:¬ (281474976710656<(m:Int)*(i.bytes:Int)):=by grind
 have y:¬ ((m:Int)<0):=o_;have o:¬ (m*i.size=0):=by have:=Nat.mul_pos k g;omega
 simp [Co,run_underlying u,run_underlying C,sizeOf,typeInfo,zeroValue,A,hz,asInt,asIntOf,B,y,l,r,j,h,o,Question.forced,f,newRow,grownCap];congr 2;simp
def aG0 (hE:ae E) (hm:Mem M ob ac w) (hb1:ac[base]? =some .dead) (R:ob[base]? =some []) {t V ty k g n c sz:Nat} {kt:IntKind} (Z:E.P.underlying V=some (.int kt)) {v u:Value} {m:aa}
  (hv:Rep M ob v (.pre k g n c sz)) (l:Rep M ob u m):PM E.P M ob w (Co #[t,V] ty #[v,u]) ac base (VF E base (aC ac) t k g n c sz m):=by
 unfold VF;split
 .rename_i e esz eb _ _ _ g' sz' e' xs a hT S;split
  .rename_i X O;obtain ⟨⟨U,i,z,hi,hsz,Q,hz,A,hz1⟩,_⟩:=(hE.tab t _ hT).kind;subst hsz Q;refine sdc λ hg=>?_;simp only [Ad] at hg;obtain ⟨⟨⟨g1,g2⟩,g3,g4⟩,g5,g6⟩:=hg;obtain rfl:=aB g1;have q2:=aB g2;subst q2;have q3:=aB g3;subst q3;have q4:=aB g4;subst q4;have f:0<i.size:=Ck g5;obtain ⟨i',z',J,hsz',F,hzs',Y,hone,hne⟩:=(hE.tab e X O).info;rw [hi] at J;cases J;rw [hz] at F;cases F;have hk:=bZ S s_;obtain ⟨b,len,rfl,D,hc0,hnl,hlc,hcm⟩:=hv.pre_inv;obtain ⟨rfl,_,hnm,_⟩:=hm.rowIs hk D;obtain ⟨rfl,_⟩:=l.int_inv;rintro y rfl ⟨c1,f1,f2⟩;obtain ⟨hs0,v0,e1,e2,e3,e4,I,hblk⟩:=hm.rowOf hk;rw [D] at e4;cases e4;obtain ⟨cv,o1,o2,o3,o4,o5,o6⟩:=I;have hml:=gC;have hle:n*i.size<=xs.length*i.size:=Bu _ hnl;have h:(cv.take (n*i.size)).length=n*i.size:=by rw [Dp,o1.1];omega
   have hfc:(Cj i.size n (.slice (some ⟨b,0,none⟩) n c)).run E.P w.drew= .ok (cv.take (n*i.size)).toArray w.drew:=by
    refine run_firstCells_some w.drew i.size n ⟨b,0,none⟩ n c _ h λ j u L=>?_;rw [Gg] at L;split at L
    .rw [bA,Bo];exact fF o1 (b:=b) rfl L
    .cases L
   have K:=zU (P:=E.P) w t V ty e kt i z U Z hi hz b n c y o_ f _ hfc c1 o_ f2;have T:=hm.pure0 Y;obtain ⟨W,d2⟩:=sP (z:=z.cells) (n:=y);rw [A] at W d2;obtain ⟨r1,r2⟩:=xA (M:=M) T (AP g6) A f W d2;have hge:=grownCap_ge w (n+y) c e;have G:grownCap w (n+y) c e<=maxLen:=grownCap_le_maxLen w (n+y) c e f1;have B:(xs.take n).length=n:=by simp;omega
   have s:(xs.take n++Aj y (ah (λ_=>.dead) 4 X.zero)).length=n+y:=by simp;omega
   have o:∀ u∈cv.take (n*i.size)++(Cg z.cells y).toList,u.oneCell'=true:=λ u l=>by
    rcases Az.1 l with l | l
    .exact o2 u (Cw l)
    .exact jC hz1 u l
   have p:(cv.take (n*i.size)++(Cg z.cells y).toList).length=(n+y)*i.size:=by rw [Ai,h,W,Bx]
   have gr:Grown M w (w.drew.alloc (.cells (cv.take (n*i.size)++(Cg z.cells y).toList++(Cg z.cells (grownCap w (n+y) c e-(n+y))).toList).toArray e)) i.size e
     (.slice (some ⟨w.heap.size,0,none⟩) (n+y) (grownCap w (n+y) c e)) (xs.take n++Aj y (ah (λ_=>.dead) 4 X.zero)):=by
    refine ⟨⟨cv.take (n*i.size)++(Cg z.cells y).toList,⟨by rw [p,s],.inr ⟨w.heap.size,_,_,by rw [s],Bv _,heap_alloc_new w.drew _,by omega,G,?_,?_⟩⟩,o,λ q d N=>?_⟩,f,λ x H=>?_,λ b' C=>?_,λ b' C=>heap_alloc_old w.drew _ C,rfl,rfl,rfl,by simp,?_⟩
    .rw [Gl,Ai,p,Iw,size_zeroCells,A,<-Bx];congr 1;omega
    .rw [s,<-p];exact Hl
    .by_cases r:q<n*i.size
     .rw [cL f (by rw [B];exact r),mN f r] at N;obtain ⟨u,l,hr⟩:=o4 q d N;exact ⟨u,by rw [Ag o_,Bi r];exact l,hr⟩
     .rw [cE f (by rw [B];omega),B] at N;rw [Ak o_,h];exact r2 _ d N
    .rcases Az.1 H with H | H
     .exact o3 x (Cw H)
     .exact r1 x H
    .simp only [Gk,Ds] at C;omega
    .refine oU (w:=w.drew) λ u l=>?_;rcases Az.1 l with l | l
     .exact o u l
     .exact jC hz1 u l
   exact pF (hint:=2) hm hb1 R K gr
  .exact trivial
 .exact trivial
def QU (hE:ae E) (hm:Mem M ob ac w) (B:ac[base]? =some .dead) (q:ob[base]? =some []) {ρv:Operand->Value} {ρ:Operand->aa} (a:∀ x,Rep M ob (ρv x) (ρ x)) {hint:Nat} {op:Op} (ty:TypeId) {r:OR}
  (h:kM E hint base (aC ac) ρ op=some r):cB E.P ρv op ty M ob ac w base r:=by
 cases op with
 | move x=>cases h;exact cB.now hm (λ_ _ _ _=>rfl) (a x)
 | assign x=>
  simp only [kM] at h;split at h
  .rename_i k g c b;cases h;have:=a x;rw [b] at this;exact cB.now hm (u:=ρv x) (λ_ _ _ _=>rfl) this
  .cases h
 | slice t x lo F H=>
  cases lo with
  | none=>
   cases F with
   | none=>simp [kM] at h
   | some i=>
    cases H with
    | some _=>simp [kM] at h
    | none=>
     simp only [kM] at h;split at h
     .rename_i k g c b;cases h;have:=a x;rw [b] at this;exact cB.pm (s:=Gv t (ρv x) none (some (ρv i)) none) (λ_ _ _ _=>rfl) (aKn hE hm this (a i))
     .cases h
  | some l=>
   cases F with
   | none=>simp [kM] at h
   | some i=>
    cases H with
    | none=>simp [kM] at h
    | some m=>
     simp only [kM] at h;split at h
     .rename_i k g b;cases h;have:=a x;rw [b] at this;exact cB.pm (s:=Gv t (ρv x) (some (ρv l)) (some (ρv i)) (some (ρv m))) (λ_ _ _ _=>rfl) (aG2 hE hm this (a l) (a i) (a m))
     .cases h
 | call c=>
  obtain ⟨callee,args,argTypes⟩:=c;simp only [kM] at h;split at h
  .split at h
   .rename_i x t h1 j;split at h
    .rename_i k g n _ _ _ _ _ _ b K;cases h;have C:args= #[x]:=by apply Du;omega
     have p:argTypes= #[t]:=by apply Du;omega
     subst C p;have f:=a x;rw [b] at f;obtain ⟨T,len,L,O,Q⟩:=f.rowc_inv;obtain ⟨⟨z,_⟩,_⟩:=(hE.tab t _ K).kind;refine ⟨.int .i64 n,w,M,ob,λ d pos e g=>.inl ?_,Ext.refl _ _ _ _,hm,cH.refl _ _,.int _ _ ⟨by simp only [cJ];omega,by simp only [bE];omega⟩⟩;simp [execOp,resolve,invoke,builtin,Builtin.cap_,L,run_underlying z,goInt]
    .cases h
   .cases h
  .split at h
   .rename_i x y t G h1 j;split at h
    .rename_i k g n c R S _ _ _ b A;cases h;have C:args= #[x,y]:=by apply Du;omega
     have p:argTypes= #[t,G]:=by apply Du;omega
     subst C p;have f:=a x;rw [b] at f;have D:=(hE.tab G _ A).kind.1;exact Sd.mono (λ v o ⟨u,w',M',ob',j,h3,I,N,J⟩=>⟨u,w',M',ob',λ d pos e g=>.inl (by simp [execOp,resolve,invoke,builtin,j]),h3,I,N,J⟩) (λ_ _ h=>h.elim) (λ_ h=>h.elim) (aG0 hE hm B q (ty:=ty) D f (a y))
    .cases h
   .cases h
  .cases h
 | _=>simp [kM] at h
def xR (hE:ae E) (hm:Mem M ob ac w) (a:ac[base]? =some .dead) (b:ob[base]? =some []) {ρv:Operand->Value} {ρ:Operand->aa} (c:∀ x,Rep M ob (ρv x) (ρ x)) (hint:Nat) (op:Op) (ty:TypeId):
  cB E.P ρv op ty M ob ac w base (eop E hint base (aC ac) ρ op ty):=by
 unfold eop;split
 .rename_i r d;exact QU hE hm a b c ty d
 .exact QV hE hm a b (λ x=>aFF (c x)) hint op ty
end
section
variable {P:Program} {M M':Imm} {ob ob':Hs} {ac L:List ab} {w w':World}
def sO.monoA (a:∀ (k g:Nat) v,at' ob k g=some v->at' ob' k g=some v) {v:Value} {t:Tk} (h:sO ob v t):sO ob' v t:=by
 cases t with
 | own k g=>exact a _ _ _ h
 | _=>exact h
def Rep.monoA (e:∀ (k g:Nat) v,at' ob k g=some v->at' ob' k g=some v) {v:Value} {a:aa} (h:Rep M ob v a):Rep M ob' v a:=by
 induction h with
 | undef v=>exact .undef v
 | bool b=>exact .bool b
 | int k n h=>exact .int k n h
 | str l h=>exact .str l h
 | agg vs as hl _ p=>exact .agg vs as hl p
 | tup vs as hl _ p=>exact .tup vs as hl p
 | ptr b o cs h=>exact .ptr b o cs h
 | ref k off b h=>exact .ref k off b (e _ _ _ h)
 | eref k g i d off b n c h=>exact .eref k g i d off b n c (e _ _ _ h)
 | csl k off len d b h hm=>exact .csl k off len d b (e _ _ _ h) hm
 | row k g a n c h=>exact .row k g a n c (e _ _ _ h)
 | sub k g lo len d b n c h hl j f hm=>exact .sub k g lo len d b n c (e _ _ _ h) hl j f hm
 | sub0 k g lo d a y n c h hl f=>exact .sub0 k g lo d a y n c (e _ _ _ h) hl f
 | rowc k g c a n h hm=>exact .rowc k g c a n (e _ _ _ h) hm
 | pre k g n c d b len h f j hl hm=>exact .pre k g n c d b len (e _ _ _ h) f j hl hm
 | mref k b h=>exact .mref k b (e _ _ _ h)
 | nilptr=>exact .nilptr
 | nilslice=>exact .nilslice
 | nilmap=>exact .nilmap
 | nilfunc=>exact .nilfunc
 | nilif=>exact .nilif
 | hsl a n c=>exact .hsl a n c
 | slnil d t m=>exact .slnil d t (m.monoA e)
 | slemp d t a cap m=>exact .slemp d t a cap (m.monoA e)
 | sl d b o n cap xs t j f hm hz h m=>exact .sl d b o n cap xs t j f hm hz h (m.monoA e)
 | func fn u cs s x w f _ _ r q=>exact .func fn u cs s x w f r q
 | iface t v a _ p=>exact .iface t v a p
def Mem.idle (h:Mem M ob L w) {k:Nat} (j:ob[k]? =some []):L[k]? =some .dead:=by
 have d:k<L.length:=by rw [<-h.len];grind
 have e:=Aa d;obtain ⟨hs,i,a⟩:=h.obj k _ e;rw [j] at i;cases i;cases c:L[k] with
 | dead=>rw [e,c]
 | cells T cs=>rw [c] at a;obtain ⟨b,q,_⟩:=a;cases q
 | fcells cs=>rw [c] at a;obtain ⟨b,q,_⟩:=a;cases q
 | row g f e xs=>rw [c] at a;have:=a.1;simp at this
 | frow g f xs=>rw [c] at a;obtain ⟨v,q,_⟩:=a;simp at q
 | tail g f e=>rw [c] at a;have:=a.1;simp at this
 | mp l es=>rw [c] at a;obtain ⟨b,q,_⟩:=a;cases q
 | bun g I=>rw [c] at a;have:=a.1;simp at this
def Mem.live (h:Mem M ob L w) {k:Nat} {c:ab} (a:L[k]? =some c) (d:c≠ .dead):∃ hs,ob[k]? =some hs/\hs≠[]:=by
 obtain ⟨hs,b,_⟩:=h.obj k c a;refine ⟨hs,b,λ e=>?_⟩;subst e;rw [h.idle b] at a
 grind
def Mem.shrink {n:Nat} (h:Mem M ob (ac++Aj n .dead) w) (y:∀ (i:Nat) hs,ac.length<=i->ob[i]? =some hs->hs=[]):
  Mem M (ob.take ac.length) ac w/\(∀ (k g:Nat) v,at' ob k g=some v->at' (ob.take ac.length) k g=some v)/\
   ∀ {M0:Imm} {ob0:Hs} {d:List ab} {w0:World},Ext M0 ob0 d w0 M ob (ac++Aj n .dead) w->ob0.length<=ac.length->Ext M0 ob0 d w0 M (ob.take ac.length) ac w:=by
 have hl:=h.len;simp at hl
 have left:∀ {i:Nat},i<ac.length->(ob.take ac.length)[i]? =ob[i]?/\(ac++Aj n ab.dead)[i]? =ac[i]?:=λ{i} hi=>⟨Bi hi,Ag hi⟩
 have o:∀ (k g:Nat) v,at' ob k g=some v->at' (ob.take ac.length) k g=some v:=by
  intro k g v f;by_cases e:k<ac.length
  .unfold at' at f⊢;rw [(left e).1];exact f
  .unfold at' at f;cases r:ob[k]? with
   | none=>rw [r] at f;cases f
   | some hs=>
    have:=y k hs o_ r;subst this;rw [r] at f;simp at f
 have alive:∀ {k b:Nat},aG (ob.take ac.length) ac k b->aG ob (ac++Aj n .dead) k b:=λ{k b} ⟨c,hs,m,q,e3,e4⟩=>by have e:=(Ab.1 m).1;exact ⟨c,hs,(left e).2.trans m,q,(left e).1▸e3,e4⟩
 refine ⟨⟨h.imm,by simp;omega,λ k c s=>?_,λ k b l=>h.lt k b (alive l),λ i j b l x=>h.inj i j b (alive l) (alive x)⟩,o,λ{M0 ob0 d w0} hx h0=>⟨hx.imm,hx.new,λ k hs e=>?_,hx.os,hx.tape,hx.output,hx.size,hx.keep,λ k b l=>hx.fresh k b (alive l)⟩⟩
 .have e:=(Ab.1 s).1;obtain ⟨hs,m,p⟩:=h.obj k c ((left e).2.trans s);refine ⟨hs,(left e).1.trans m,?_⟩;cases c with
  | cells T cs=>
   obtain ⟨b,t,B,cv,D,C,u,z⟩:=p;exact ⟨b,t,B,cv,D,C,u,λ i v a f l=>(z i v a f l).monoA o⟩
  | _=>exact p
 .obtain ⟨hs',m,q⟩:=hx.hs k hs e;have A:=(Ab.1 e).1;exact ⟨hs',(left o_).1.trans m,q⟩
def NY (ac:List ab) (j g:Nat):kC [] ac j g=g:=rfl
def aCZ (base:Nat) (ac:List ab):∀ n,embV [] base ac n=embV [] base [] n:=by
 intro n;induction n with
 | zero=>rfl
 | succ n b=>
  funext a;cases a<;>simp only [embV,NY,b]
def iV (base:Nat) (new:List ab):List ab:=new.map (sN [] base [] 0)
def Mem.emb0 (h:Mem M ob L w) {base:Nat} {new:List ab} {d:Hs} (Q:base+new.length<=L.length) (G:∀ j,j<new.length->ob[base+j]? =some [])
  (p:Ext M [] [] w M' d new w') (R:Mem M' d new w'):
  Mem M' (ob.take base++d++ob.drop (base+d.length)) (L.take base++iV base new++L.drop (base+(iV base new).length)) w'/\
   Ext M ob L w M' (ob.take base++d++ob.drop (base+d.length)) (L.take base++iV base new++L.drop (base+(iV base new).length)) w'/\
   (∀ n v a,Rep M' d v a->Rep M' (ob.take base++d++ob.drop (base+d.length)) v (AW.embV [] base [] n a)):=by
 have r:d.length=new.length:=R.len;have B:(iV base new).length=new.length:=by simp [iV]
 obtain ⟨p1,Z⟩:=fE ob d base (by rw [h.len,r];exact Q);obtain ⟨q1,q2⟩:=fE L (iV base new) base o_;rw [r] at Z;rw [B] at q2;have inO:∀ {j:Nat},j<new.length->(ob.take base++d++ob.drop (base+d.length))[base+j]? =d[j]?:=λ{j} m=>by have:=Z (base+j);rw [if_pos ⟨by omega,by omega⟩,Hq] at this;rw [r];exact this
 have t:∀ {i:Nat},¬ (base<=i/\i<base+new.length)->(ob.take base++d++ob.drop (base+d.length))[i]? =ob[i]?:=λ{i} I=>by have:=Z i;rw [if_neg I] at this;rw [r];exact this
 have inL:∀ {j:Nat},j<new.length->(L.take base++iV base new++L.drop (base+(iV base new).length))[base+j]? =(new[j]?).map (sN [] base [] 0):=λ{j} m=>by have:=q2 (base+j);rw [if_pos ⟨by omega,by omega⟩,Hq] at this;rw [B,this];simp [iV]
 have D:∀ {i:Nat},¬ (base<=i/\i<base+new.length)->(L.take base++iV base new++L.drop (base+(iV base new).length))[i]? =L[i]?:=λ{i} I=>by have:=q2 i;rw [if_neg I] at this;rw [B];exact this
 have O:∀ {j g:Nat} {v:Value},at' d j g=some v->at' (ob.take base++d++ob.drop (base+d.length)) (dP [] base j) (kC [] [] j g)=some v:=by
  intro j g v K;rw [jG (Bv _),NY];show at' _ (base+j) g=some v;unfold at' at K⊢;cases hq:d[j]? with
  | none=>rw [hq] at K;cases K
  | some hs=>
   have m:j<new.length:=by rw [<-r];exact (Ab.1 hq).1
   rw [inO m];exact K
 have F:∀ n v a,Rep M' d v a->Rep M' (ob.take base++d++ob.drop (base+d.length)) v (AW.embV [] base [] n a):=NX O λ K _=>O K;have P:dE ob (ob.take base++d++ob.drop (base+d.length)):=by
  intro i hs I;by_cases l:base<=i/\i<base+new.length
  .have e:=G (i-base) o_;rw [show base+(i-base)=i from by omega,I] at e;cases e;have m:i-base<d.length:=o_;refine ⟨d[i-base],?_,List.nil_prefix⟩;have:=inO (j:=i-base) o_;rw [show base+(i-base)=i from by omega] at this;rw [this];simp
  .exact ⟨hs,(t l).trans I,Cn _⟩
 have H:∀ o:ab,(sN [] base [] 0 o).owns=o.owns:=λ o=>by cases o<;>rfl
 have A:∀ {i b:Nat},aG (ob.take base++d++ob.drop (base+d.length)) (L.take base++iV base new++L.drop (base+(iV base new).length)) i b->(∃ j,j<new.length/\i=base+j/\aG d new j b)\/(¬ (base<=i/\i<base+new.length)/\aG ob L i b):=by
  rintro i b ⟨c,hs,z,V,S,e4⟩;by_cases l:base<=i/\i<base+new.length
  .obtain ⟨j,rfl⟩:∃ j,i=base+j:=⟨i-base,by omega⟩
   have m:j<new.length:=o_;rw [inL m] at z;rw [inO m] at S;obtain ⟨o,Y,rfl⟩:=Cd.1 z;rw [H] at V;exact .inl ⟨j,m,rfl,o,hs,Y,V,S,e4⟩
  .rw [D l] at z;rw [t l] at S;exact .inr ⟨l,c,hs,z,V,S,e4⟩
 have N:∀ {i b:Nat},aG ob L i b->(∀ j,¬ aG d new j b):=λ{i b} x j m=>by
  rcases p.fresh j b m with ⟨k',c,hs,e,_⟩ | q
  .simp at e
  .have:=h.lt i b x;omega
 have u:∀ b k,¬ aG ([]:Hs) [] k b:=λ b k ⟨c,hs,e,_⟩=>by simp at e
 refine ⟨⟨R.imm,by rw [r] at p1⊢;rw [B] at q1⊢;rw [p1,q1];exact h.len,λ i c J=>?_,λ i b x=>?_,λ i i' b x X=>?_⟩,⟨p.imm,λ b o y hy=>?_,P,p.os,p.tape,p.output,p.size,λ b X hn=>p.keep b X (u b),λ i b x=>?_⟩,F⟩
 .by_cases l:base<=i/\i<base+new.length
  .obtain ⟨j,rfl⟩:∃ j,i=base+j:=⟨i-base,by omega⟩
   have m:j<new.length:=o_;rw [inL m] at J;obtain ⟨o,Y,rfl⟩:=Cd.1 J;obtain ⟨hs,z,C⟩:=R.obj j o Y;refine ⟨hs,(inO m).trans z,?_⟩;cases o with
   | cells T cs=>
    obtain ⟨b,t1,t2,cv,t3,t4,t5,t6⟩:=C;obtain ⟨m1,m2⟩:=bX (F 4) t4 t6;exact ⟨b,t1,t2,cv,t3,m1,t5,m2⟩
   | _=>exact C
  .rw [D l] at J;obtain ⟨hs,z,C⟩:=h.obj i c J;refine ⟨hs,(t l).trans z,C.mono p.imm P (λ b h1 U o W y hy=>?_) (λ b c' h1 U hc'=>?_)⟩
   .have x:aG ob L i b:=(cN J z).2 ⟨h1,U⟩;rcases p.new b o y hy with q | q | ⟨k,q⟩
    .exact W y q
    .have:=h.lt i b x;omega
    .exact u b k q
   .have x:aG ob L i b:=(cN J z).2 ⟨h1,U⟩;rw [p.keep b (h.lt i b x) (u b)];exact hc'
 .rcases A x with ⟨j,m,rfl,f⟩ | ⟨_,f⟩
  .exact R.lt j b f
  .exact Ey (h.lt i b f) p.size
 .rcases A x with ⟨j,m,rfl,f⟩ | ⟨_,f⟩<;>rcases A X with ⟨j',hj',rfl,s⟩ | ⟨_,s⟩
  .rw [R.inj j j' b f s]
  .exact absurd f (N s j)
  .exact absurd s (N f j')
  .exact h.inj i i' b f s
 .rcases p.new b o y hy with q | q | ⟨k,q⟩
  .exact .inl q
  .omega
  .exact (u b k q).elim
 .rcases A x with ⟨j,m,rfl,f⟩ | ⟨_,f⟩
  .rcases p.fresh j b f with ⟨k,q⟩ | q
   .exact (u b k q).elim
   omega
  .exact .inl ⟨i,f⟩
end
section
variable {M:Imm} {ob:Hs} {n:Nat}
def jH {k n:Nat} (h:Ff k n=true):k<n:=by simp_all
def jI {k g:Nat} {v:Value} (a:k<n) (h:at' ob k g=some v):at' (ob.take n) k g=some v:=by
 unfold at' at *
 grind
def lP {f:aa->Bool}:∀ {l:List aa},D5 f l=true->∀ (i:Nat) a,l[i]? =some a->f a=true
 | [],_,i,a,h=>by simp at h
 | c::r,hb,i,a,h=>by
  simp only [D5,Ad] at hb;cases i with
  | zero=>grind
  | succ i=>exact lP hb.2 i a (by simp_all)
def D4 {v:Value} {t:Tk} (h:sO ob v t) (a:aMu n t=true):sO (ob.take n) v t:=by
 cases t with
 | own k g=>exact jI (jH a) h
 | _=>exact h
def A1:∀ (m:Nat) {v:Value} {a:aa},Rep M ob v a->bel n m a=true->Rep M (ob.take n) v a:=by
 intro m;induction m with
 | zero=>intro v a _ h;cases h
 | succ m s=>
  intro v a h d;cases h with
  | undef v=>exact .undef v
  | bool b=>exact .bool b
  | int k n C=>exact .int k n C
  | str l hl=>exact .str l hl
  | agg vs as hl h=>exact .agg vs as hl λ i v a p f=>s (h i v a p f) (lP d i a f)
  | tup vs as hl h=>exact .tup vs as hl λ i v a p f=>s (h i v a p f) (lP d i a f)
  | ptr b o cs h=>exact .ptr b o cs h
  | ref k off b h=>exact .ref k off b (jI (jH d) h)
  | eref k g i e off b n c h=>exact .eref k g i e off b n c (jI (jH d) h)
  | csl k off len e b h hm=>exact .csl k off len e b (jI (jH d) h) hm
  | row k g a n c h=>exact .row k g a n c (jI (jH d) h)
  | sub k g lo len e b n c h hl q j hm=>exact .sub k g lo len e b n c (jI (jH d) h) hl q j hm
  | sub0 k g lo e a D n c h hl j=>exact .sub0 k g lo e a D n c (jI (jH d) h) hl j
  | rowc k g c a n h hm=>exact .rowc k g c a n (jI (jH d) h) hm
  | pre k g n c e b len h j q hl hm=>exact .pre k g n c e b len (jI (jH d) h) j q hl hm
  | mref k b h=>exact .mref k b (jI (jH d) h)
  | nilptr=>exact .nilptr
  | nilslice=>exact .nilslice
  | nilmap=>exact .nilmap
  | nilfunc=>exact .nilfunc
  | nilif=>exact .nilif
  | hsl a n c=>exact .hsl a n c
  | slnil e t r=>exact .slnil e t (D4 r d)
  | slemp e t a cap r=>exact .slemp e t a cap (D4 r d)
  | sl e b o n cap xs t q j hm hz h r=>exact .sl e b o n cap xs t q j hm hz h (D4 r d)
  | func fn z cs y B A j h1 x=>
   obtain ⟨w,u⟩:=aU d;exact .func fn z cs y B A j (λ i v a p f=>s (h1 i v a p f) (lP w i a f)) (λ i v a p f=>s (x i v a p f) (lP u i a f))
  | iface t v a h=>exact .iface t v a (s h d)
def B7:∀ (n:Nat) (l:List ab),nN n l=l.take n
 | 0,_=>by simp [nN]
 | n+1,[]=>by simp [nN]
 | n+1,x::r=>by simp [nN,B7 n r]
def ON {n:Nat}:∀ {l:List ab},EX n l=true->∀ (i:Nat) T cs,l[i]? =some (.cells T cs)->D5 (bel n 5) cs=true
 | [],_,i,T,cs,h=>by simp at h
 | x::r,hb,i,T,cs,h=>by
  cases i with
  | zero=>
   simp at h;subst h;simp only [EX,Ad] at hb;exact hb.1
  | succ i=>
   refine ON (l:=r) ?_ i T cs (by simp_all);cases x<;>first | exact hb | (simp only [EX,Ad] at hb;exact hb.2)
def OO {n:Nat}:∀ {l:List (Nat×aa)},aDL n l=true->∀ t,bel n 5 (aX l t)=true\/aX l t= .undef
 | [],_,t=>.inr rfl
 | (i,v)::r,hb,t=>by
  simp only [aDL,Ad] at hb;simp only [aX];cases Aw i t with
  | true=>grind
  | false=>exact OO hb.2 t
def Mem.cutO {ac:List ab} {w:World} (h:Mem M ob ac w) (l:EX n (ac.take n)=true):Mem M (ob.take n) (ac.take n) w/\∀ {k b:Nat},aG (ob.take n) (ac.take n) k b->aG ob ac k b:=by
 have left:∀ {i:Nat} {c:ab},(ac.take n)[i]? =some c->i<n/\ac[i]? =some c:=λ{i c} g=>by
  rw [Gg] at g
  grind
 have alive:∀ {k b:Nat},aG (ob.take n) (ac.take n) k b->aG ob ac k b:=λ{k b} ⟨c,hs,f,e2,e3,e4⟩=>by obtain ⟨m,f⟩:=left f;rw [Bi m] at e3;exact ⟨c,hs,f,e2,e3,e4⟩
 refine ⟨⟨h.imm,by simp [h.len],λ k c g=>?_,λ k b d=>h.lt k b (alive d),λ i j b d l=>h.inj i j b (alive d) (alive l)⟩,alive⟩;obtain ⟨m,o⟩:=left g;obtain ⟨hs,f,e⟩:=h.obj k c o;refine ⟨hs,by rw [Bi m];exact f,?_⟩;cases c with
 | cells T cs=>
  obtain ⟨b,p,t,cv,x,u,q,s⟩:=e;exact ⟨b,p,t,cv,x,u,q,λ i v a r d=>A1 5 (s i v a r d) (lP (ON l k _ cs g) i a d)⟩
 | _=>exact e
end
def fen (r:Option Nat):Fence:={Fence.wide with round:=r}
def nA (P:Program) (o:Oper) (ρ:Operand->Value) (w:World) (R:Ending->World->Prop):Prop:=
 (∃ v w',(execOp ρ o).run P w= .ok (.value v) w'/\R (.returned v) w')\/
 (∃ w',(execOp ρ o).run P w= .ok .skip w'/\R (.returned undef) w')\/
 (∃ v w',(execOp ρ o).run P w= .halt (.panic v) w'/\R (.panicked [{v,recovered:=false}]) w')\/
 (∃ f args w',(execOp ρ o).run P w= .ok (.enter f args) w'/\Calls P f args w' λ e a=>R e a/\e≠ .outgrown)\/
 (∃ l f tmps as b w',(execOp ρ o).run P w= .ok (.round l f tmps as b) w'/\RoundIn Fence.wide 0 P l f tmps as b w' λ e a=>R e a/\e≠ .outgrown)
def nA.wpIn {rd:Option Nat} {P:Program} {o:Oper} {a:Act} {w:World} {R:Ending->World->Prop} (h:nA P o a.eval w R) {ao:Act->World->Prop} {Q:Exit->Act->World->Prop}
  (i:∀ c,o.op≠ .defer c) (h1:∀ v w',R (.returned v) w'->ao (a.put o.dst v) w') (p:∀ m w',R (.panicked m) w'->Q (.panic m) a w'):o.wpIn (fen rd) 0 P a w ao Q:=by
 refine ⟨λ_ _=>trivial,?_⟩;rw [Oper.semAt_eq _ _ _ i];rcases h with ⟨v,w',b,d⟩ | ⟨w',b,d⟩ | ⟨v,w',b,d⟩ | ⟨f,args,w',b,g⟩ | ⟨l,f,tmps,as,q,w',b,g⟩
 .rw [b];exact h1 v w' d
 .rw [b];exact h1 undef w' d
 .rw [b];exact p _ w' d
 .rw [b];refine ⟨λ h=>(by cases h),(callsIn_wide (n:=0)).2 (g.mono λ e k ⟨d,j⟩=>?_)⟩
  grind
 .rw [b];refine ⟨λ h=>(by cases h),RoundIn.mono (F:=Fence.wide) g λ e k ⟨d,j⟩=>?_⟩
  grind
def EH (M:Imm) (ob:Hs) (L:List ab) (w:World) (K:aa->List ab->Prop) (Kp:aa->List ab->Prop) (e:Ending) (w':World):Prop:=
 ∃ M' ob' L',Ext M ob L w M' ob' L' w'/\Mem M' ob' L' w'/\((∃ u v,e= .returned u/\Rep M' ob' u v/\K v L')\/∃ a v,e= .panicked a/\rK M' ob' e (.pan v)/\Kp v L')
section
variable {P:Program} {E:Env} {M M':Imm} {ob ob':Hs} {ac L:List ab} {w w':World} {K Kp:aa->List ab->Prop}
def jX.mono {f:FuncId} {b:Array Value} {R c:Ending->World->Prop} (d:∀ e w,R e w->c e w) (h:jX P f b w R):jX P f b w c:=by
 rcases h with ⟨h1,a⟩ | ⟨u,w',h1,a⟩
 .exact .inl ⟨h1,a.mono λ e w h=>d e w h⟩
 .exact .inr ⟨u,w',h1,d _ _ a⟩
def EH.ne {e:Ending} (h:EH M ob L w K Kp e w'):e≠ .outgrown:=by obtain ⟨_,_,_,_,_,⟨u,v,rfl,_⟩ | ⟨a,v,rfl,_⟩⟩:=h<;>(simp)
def cI.mono {f:Fn} {a:Array Value} {R b:Ending->World->Prop} (c:∀ e w,R e w->b e w) (h:cI P f a w R):cI P f a w b:=by
 cases f with
 | func f=>exact jX.mono c h
 | yield l=>
  obtain ⟨f,tmps,as,d,h1,g⟩:=h;exact ⟨f,tmps,as,d,h1,RoundIn.mono g c⟩
 | _=>exact h.elim
def jX.op {f:Fn} {c:Array Value} {o:Oper} {ρ:Operand->Value} {R:Ending->World->Prop} (a:∀ e w,R e w->e≠ .outgrown) (d:(execOp ρ o).run P w=(D2 f c).run P w) (h:cI P f c w R):nA P o ρ w R:=by
 cases f with
 | func f=>
  rcases h with ⟨h1,b⟩ | ⟨u,w',h1,b⟩
  .exact .inr (.inr (.inr (.inl ⟨f,c,w,d.trans h1,b.mono λ e w h=>⟨h,a e w h⟩⟩)))
  .exact .inl ⟨u,w',d.trans h1,b⟩
 | yield l=>
  obtain ⟨f,tmps,as,g,h1,b⟩:=h;exact .inr (.inr (.inr (.inr ⟨l,f,tmps,as,g,w,d.trans h1,RoundIn.mono b λ e w h=>⟨h,a e w h⟩⟩)))
 | _=>exact h.elim
def xF {b:Hs} {g:aa->aa} (c:∀ v a,Rep M ob v a->Rep M' b v (g a)) {vs:List Value} {as:List aa} (h:cA M ob vs as):cA M' b vs (dX g as):=bX c h.1 h.2
def mO (hm:Mem M ob L w) {f:Fn} {args:List aa} {i:List Value} {ks:List Nat} {r:Res} {ap:List ab} (g:lT ks L=true) (l:cA M ob i args)
  (h:bN P f (dX (cvtV 0 ks (aC L) 5) args) (iD 0 ks L) r ap):
  cI P f i.toArray w λ e w'=>∃ M' b,Ext M ob L w M' (iW ks ob b) (kB ks L.length L 0 ap L) w'/\Mem M' (iW ks ob b) (kB ks L.length L 0 ap L) w'/\rK M' b e r/\b.length=ap.length/\
   ∀ n v a,Rep M' b v a->Rep M' (iW ks ob b) v (embV ks L.length L n a):=by
 obtain ⟨k,_,_⟩:=hm.cvt (n0:=0) g;refine cI.mono (λ e w' ⟨M',b,j,c,d⟩=>?_) (h M _ w i k (xF (λ v a=>hm.cvtV (n0:=0) g 5 v a) l));obtain ⟨o,m,_⟩:=hm.emb g j c;exact ⟨M',b,m,o,d,c.len,hm.embV g j.hs rC⟩
def OI (hm:Mem M ob ac w) {f:Fn} {args:List aa} {t:List Value} (C:cA M ob t args) (h:CallG P f args ac K Kp):cI P f t.toArray w (EH M ob ac w K Kp):=by
 have mono:∀ {p:Imm},(∀ b o x,M b o x->p b o x)->cA p ob t args:=λ F=>⟨C.1,λ i v a D H=>(C.2 i v a D H).monoM F⟩
 cases h with
 | pure r new h k=>
  obtain ⟨p,m,d,_,s⟩:=hm.frzL args;refine cI.mono (λ e w' ⟨M',g,j,l,c,_,n⟩=>?_) (mO (ks:=[]) m rfl (mono d.imm) h);refine ⟨M',_,_,d.trans j,l,.inl ?_⟩;rw [bG,<-s] at k;cases e with
  | returned u=>exact ⟨u,_,rfl,n 5 u r c,k⟩
  | panicked q=>exact c.elim
  | outgrown=>exact c.elim
 | eff z ks r ap y h k=>
  obtain ⟨p,m,d,_,s⟩:=Mem.frzs z M ac hm;refine cI.mono (λ e w' ⟨M',g,j,l,c,_,n⟩=>?_) (mO m y (mono d.imm) h);refine ⟨M',_,_,d.trans j,l,.inl ?_⟩;rw [bG] at k;cases e with
  | returned u=>exact ⟨u,_,rfl,n 5 u r c,k⟩
  | panicked q=>exact c.elim
  | outgrown=>exact c.elim
 | effp z ks r ap y h k=>
  obtain ⟨p,m,d,_,s⟩:=Mem.frzs z M ac hm;refine cI.mono (λ e w' ⟨M',g,j,l,c,_,n⟩=>?_) (mO m y (mono d.imm) h);refine ⟨M',_,_,d.trans j,l,.inr ?_⟩;rw [bG] at k;cases e with
  | returned u=>exact c.elim
  | panicked q=>
   obtain ⟨v,B,A⟩:=c;exact ⟨q,_,rfl,⟨v,B,n 5 v r A⟩,k⟩
  | outgrown=>exact c.elim
 | pan r h k=>
  obtain ⟨p,m,d,_,s⟩:=hm.frzL args;refine cI.mono (λ e w' ⟨M',g,j,l,c,I,n⟩=>?_) (mO (ks:=[]) m rfl (mono d.imm) h);have G:g=[]:=Ax o_;subst G;refine ⟨M',_,_,d.trans j,l,.inr ?_⟩;cases e with
  | returned u=>exact c.elim
  | panicked q=>
   obtain ⟨v,B,A⟩:=c;exact ⟨q,r,rfl,⟨v,B,A.pure⟩,k⟩
  | outgrown=>exact c.elim
def BO {VS:aa->List ab->Prop} {CS:Fn->List aa->Prop} {PS:aa->Prop} {a:List ab} {base:Nat} (d:base=aM ac):∀ {r:OR},Sd VS CS PS a base r->orF P ac K Kp r->
  (∃ v,VS v a/\K v ac)\/(∃ k x v,VS v (bJ a k x)/\K v (bJ ac k x))\/(∃ f args,CS f args/\CallG P f args ac K Kp)\/∃ v,PS v/\Kp v ac
 | .no,_,k=>k.elim
 | .val v,h,k=>.inl ⟨v,h,k⟩
 | .mkf fn fs cs,h,k=>.inl ⟨_,h,k⟩
 | .need p r,h,k=>BO d (h k.1) k.2
 | .alt p v w,h,k=>by
  rcases k with ⟨hp,k⟩ | k
  .exact .inl ⟨v,h.1 hp,k⟩
  .exact .inl ⟨w,h.2,k⟩
 | .idx n f,h,⟨i,hi,k⟩=>BO d (h i hi) k
 | .elem xs i f,h,⟨x,hx,k⟩=>BO d (h x hx) k
 | .byte l i,h,⟨c,hc,k⟩=>.inl ⟨_,h c hc,k⟩
 | .text xs,h,⟨l,hl,hm,k⟩=>.inl ⟨_,h l hl hm,k⟩
 | .find es key f,h,⟨o,ho,k⟩=>by subst ho;exact BO d (r:=f (bR es key)) h k
 | .born x v,h,k=>.inr (.inl ⟨base,x,v,h,by rw [d];exact k⟩)
 | .upd i x v,h,k=>.inr (.inl ⟨i,x,v,h,k⟩)
 | .nilq xs neg,⟨b,h1,h2⟩,k=>.inl ⟨_,h2,k b h1⟩
 | .call f args,h,k=>.inr (.inr (.inl ⟨f,args,h,k⟩))
 | .pan v,h,k=>.inr (.inr (.inr ⟨v,h,k⟩))
def CG (l:List ab) (n:Nat):aC (l++Aj n .dead)=aC l:=by
 funext i;induction l generalizing i with
 | nil=>
  induction n generalizing i with
  | zero=>rfl
  | succ n a=>
   cases i with
   | zero=>rfl
   | succ i=>have:=a i;simpa [aC,Kz] using this
 | cons x r a=>
  cases i with
  | zero=>rfl
  | succ i=>exact a i
def L8 (l:List ab) (x:ab):∀ k,(k<l.length->bJ (l++[.dead]) k x=bJ l k x++[.dead])/\(l.length<=k->bJ (l++[.dead]) k x=bJ l k x):=by
 induction l with
 | nil=>
  intro k;refine ⟨λ h=>by simp at h,λ_=>?_⟩;cases k with
  | zero=>rfl
  | succ k=>rfl
 | cons y r a=>
  intro k;cases k with
  | zero=>exact ⟨λ_=>rfl,λ h=>by simp at h⟩
  | succ k=>
   obtain ⟨h1,b⟩:=a k;exact ⟨λ h=>by show y::bJ (r++[.dead]) k x=y::(bJ r k x++[.dead]);grind,λ h=>by show y::bJ (r++[.dead]) k x=y::bJ r k x;grind⟩
def aKO {k g:Nat} {v:Value} (h:at' (ob++[[]]) k g=some v):at' ob k g=some v:=by
 unfold at' at *
 by_cases b:k<ob.length
 .rwa [Ag b] at h
 .rw [Ak o_] at h;cases a:([[]]:Hs)[k-ob.length]? with
  | none=>grind
  | some hs=>
   rw [a] at h;have:hs=[]:=by have:=Au a;simp_all
   simp_all
def AJ (hE:ae E) (hm:Mem M ob ac w) {ρv:Operand->Value} {ρ:Operand->aa} (J:∀ x,Rep M ob (ρv x) (ρ x)) {hint:Nat} {p:Oper} (h:orF E.P ac K Kp (eop E hint (aM ac) (aC ac) ρ p.op p.type)):
  nA E.P p ρv w (EH M ob ac w K Kp):=by
 obtain ⟨dst,op,ty,pos,b,y⟩:=p;obtain ⟨C,A,R⟩:=hm.extend 1;have m:ob.length=ac.length:=hm.len;have t:(ac++Aj 1 ab.dead)[aM ac]? =some .dead:=by rw [bG];simp
 have q:(ob++Aj 1 ([]:List Value))[aM ac]? =some []:=by rw [bG,<-m];simp
 have hs:=xR hE C t q (λ x=>(J x).mono (λ_ _ _ h=>h) A.hs) hint op ty;rw [CG] at hs;have O:Aj 1 ab.dead=[.dead]:=rfl
 -- a value,where no number was taken
 have fin:∀ {v:aa} {ap:List ab},ap.length=ac.length->K v ap->VS E.P ρv op ty M (ob++Aj 1 []) (ac++Aj 1 .dead) w v (ap++Aj 1 .dead)->nA E.P ⟨dst,op,ty,pos,b,y⟩ ρv w (EH M ob ac w K Kp):=by
  intro v ap hl j ⟨u,w',M',ob',vs⟩;have l:∀ (i:Nat) hs,ap.length<=i->ob'[i]? =some hs->hs=[]:=by
   intro i hs Q B;have s:=(Ab.1 B).1;rw [vs.mem.len] at s;simp at s;obtain rfl:i=aM ac:=by rw [bG];omega
   have:=(vs.still (aM ac) [] t q).2 rfl (by rw [bG,<-hl];simp)
   grind
  obtain ⟨D,F,H⟩:=vs.mem.shrink l
  have c:EH M ob ac w K Kp (.returned u) w':=⟨M',_,_,H (A.trans vs.ext) o_,D,.inl ⟨u,v,rfl,vs.rep.monoA F,j⟩⟩
  rcases vs.run dst pos b y with d | ⟨d,rfl⟩
  .exact .inl ⟨u,w',d,c⟩
  .exact .inr (.inl ⟨w',d,c⟩)
 rcases BO (P:=E.P) (K:=K) (Kp:=Kp) rfl hs h with ⟨v,h1,z⟩ | ⟨k,x,v,h1,z⟩ | ⟨f,args,⟨G,n,N⟩,j⟩ | ⟨v,⟨u,d,o⟩,j⟩
 .exact fin rfl z h1
 .rw [O] at h1;by_cases j:k<ac.length
  .rw [(L8 ac x k).1 j] at h1;exact fin (by rw [gK _ j];simp) z h1
  .rw [(L8 ac x k).2 o_] at h1;obtain ⟨u,w',M',ob',vs⟩:=h1
   have c:EH M ob ac w K Kp (.returned u) w':=⟨M',_,_,A.trans vs.ext,vs.mem,.inl ⟨u,v,rfl,vs.rep,z⟩⟩
   rcases vs.run dst pos b y with d | ⟨d,rfl⟩
   .exact .inl ⟨u,w',d,c⟩
   .exact .inr (.inl ⟨w',d,c⟩)
 .have r:cA M ob G args:=⟨n.1,λ i v a I L=>(n.2 i v a I L).monoA λ k g v=>aKO⟩
  exact jX.op (λ e w h=>h.ne) (N dst pos b y) (OI hm r j)
 .exact .inr (.inr (.inl ⟨u,w,d dst pos b y,M,ob,ac,Ext.refl _ _ _ _,hm,.inr ⟨_,v,rfl,⟨u,rfl,o.pure⟩,j⟩⟩))
end
open Classical
structure AS where
 g:Nat->aa
 o:Nat->ab
 br:Nat->Nat->Prop
def iS (g:Nat->aa) (d:Option Nat) (z:aa):Nat->aa:=λ t=>if d=some t then z else g t
def inB (base n k:Nat):Prop:=base<=k/\k<base+n
noncomputable def nE (o:Nat->ab) (base:Nat) (bs:List ab):Nat->ab:=λ k=>if inB base bs.length k then bs.getD (k-base) .dead else o k
noncomputable def AS.upd (s:AS) (i:Nat) (d:Option Nat) (z:aa) (base:Nat) (bs:List ab):AS:=⟨iS s.g d z,nE s.o base bs,λ a k=>s.br a k\/(a=i/\inB base bs.length k)⟩
def QJ (tab:List Nat) (j:Nat) (br:Nat->Nat->Prop) (k:Nat):Prop:=∃ i,br i k/\cP (cV tab j) i=false
noncomputable def nK (tab:List Nat) (j:Nat) (s:AS):Nat->ab:=λ k=>if QJ tab j s.br k then .dead else s.o k
def evG (tab:List Nat) (all:List Oper) (j:Nat) (g:Nat->aa):Operand->aa
 | .tmp t=>bif NA tab j t 0 all then .undef else g t
 | x=>ev [] x
def aKg (tab:List Nat) (all:List Oper) (j:Nat) (fr:List (Nat×aa)):evH tab all j fr=evG tab all j (aX fr):=by funext x;cases x<;>rfl
def gF (P:Program) (og:Nat->ab) (base:Nat) (z:aa) (bs:List ab):OR->Prop
 | .val v=>z=v/\bs=[]
 | .mkf fn a cs=>z= .func fn a cs/\bs=[]
 | .need p r=>p/\gF P og base z bs r
 | .alt p v w=>((p/\z=v)\/z=w)/\bs=[]
 | .idx n f=>∃ i:Nat,n=(i:Int)/\gF P og base z bs (f i)
 | .elem xs i f=>∃ x,xs[i]? =some x/\gF P og base z bs (f x)
 | .byte l i=>∃ c,l[i]? =some c/\z= .int .u8 (c.toNat:Int)/\bs=[]
 | .text xs=>∃ l:List UInt8,xs=l.map ub/\(l.length:Int)<=9223372036854775807/\z= .str l/\bs=[]
 | .find es key f=>gF P og base z bs (f (bR es key))
 | .born x v=>z=v/\bs=[x]
 | .call f args=>∃ r new,bN P f (dX (cvtV 0 [] og 5) args) [] (.ret r) new/\z=embV [] base [] 5 r/\bs=iV base new
 | _=>False
def BN {P:Program} {og:Nat->ab} {VS:aa->List ab->Prop} {CS:Fn->List aa->Prop} {PS:aa->Prop} {b:List ab} {a base:Nat} {z:aa} {bs:List ab}:∀ {r:OR},Sd VS CS PS b a r->gF P og base z bs r->
  (VS z b/\bs=[])\/(∃ x,VS z (bJ b a x)/\bs=[x])\/∃ f args d new,CS f args/\bN P f (dX (cvtV 0 [] og 5) args) [] (.ret d) new/\z=embV [] base [] 5 d/\bs=iV base new
 | .no,_,k=>k.elim
 | .val v,h,⟨k1,k2⟩=>.inl ⟨k1▸h,k2⟩
 | .mkf fn fs cs,h,⟨k1,k2⟩=>.inl ⟨k1▸h,k2⟩
 | .need p r,h,k=>BN (h k.1) k.2
 | .alt p v w,h,⟨k1,k2⟩=>by
  rcases k1 with ⟨hp,k⟩ | k
  .exact .inl ⟨k▸h.1 hp,k2⟩
  .exact .inl ⟨k▸h.2,k2⟩
 | .idx n f,h,⟨i,hi,k⟩=>BN (h i hi) k
 | .elem xs i f,h,⟨x,hx,k⟩=>BN (h x hx) k
 | .byte l i,h,⟨c,hc,k1,k2⟩=>.inl ⟨k1▸h c hc,k2⟩
 | .text xs,h,⟨l,hl,hm,k1,k2⟩=>.inl ⟨k1▸h l hl hm,k2⟩
 | .find es key f,h,k=>BN (r:=f (bR es key)) h k
 | .born x v,h,⟨k1,k2⟩=>.inr (.inl ⟨x,k1▸h,k2⟩)
 | .upd i x v,h,k=>k.elim
 | .nilq xs neg,h,k=>k.elim
 | .call f args,h,⟨r,new,k1,k2,k3⟩=>.inr (.inr ⟨f,args,r,new,h,k1,k2,k3⟩)
 | .pan v,h,k=>k.elim
def IB (z:aa) (k:Nat) (x:ab):OR->Prop
 | .need p r=>p/\IB z k x r
 | .idx n f=>∃ i:Nat,n=(i:Int)/\IB z k x (f i)
 | .elem xs i f=>∃ y,xs[i]? =some y/\IB z k x (f y)
 | .find es key f=>IB z k x (f (bR es key))
 | .upd a x' v=>a=k/\x'=x/\z=v
 | _=>False
def uS {VS:aa->List ab->Prop} {CS:Fn->List aa->Prop} {PS:aa->Prop} {a:List ab} {base:Nat} {z:aa} {k:Nat} {x:ab}:∀ {r:OR},Sd VS CS PS a base r->IB z k x r->VS z (bJ a k x)
 | .no,_,h=>h.elim
 | .val v,_,h=>h.elim
 | .mkf fn fs cs,_,h=>h.elim
 | .need p r,h,u=>uS (h u.1) u.2
 | .alt p v w,_,h=>h.elim
 | .idx n f,h,⟨i,hi,u⟩=>uS (h i hi) u
 | .elem xs i f,h,⟨y,hy,u⟩=>uS (h y hy) u
 | .byte l i,_,h=>h.elim
 | .text xs,_,h=>h.elim
 | .find es key f,h,u=>uS (r:=f (bR es key)) h u
 | .born x v,_,h=>h.elim
 | .upd i y v,h,⟨e1,e2,e3⟩=>by subst e1 e2 e3;exact h
 | .nilq xs neg,_,h=>h.elim
 | .call f args,_,h=>h.elim
 | .pan v,_,h=>h.elim
def lR {P:Program} {og:Nat->ab} {b base hint a:Nat} {e:TypeId} {xs:List aa} {z:aa}:¬ gF P og b z [] (pG hint base a e xs):=by unfold pG;split<;>(intro h;have:=h.2;cases this)
def N6 {P:Program} {og:Nat->ab} {b:Nat} {c:Bool} {r:OR} {z:aa} {bs:List ab} (h:gF P og b z bs (bif c then r else .no)):gF P og b z bs r:=by
 cases c with
 | true=>exact h
 | false=>exact h.elim
def YE {P:Program} {E:Env} {og:Nat->ab} {b base d hint:Nat} {ρ:Operand->aa} {op:Op} {ty:TypeId} {z:aa}:gF P og b z [] (lK E hint base og ρ op ty)->gF P og b z [] (lK E hint d og ρ op ty):=by
 have q:∀ (t k:Nat) (x y:aa),gF P og b z [] (sE E hint base og t k x y)->gF P og b z [] (sE E hint d og t k x y):=by
  intro t k x y;unfold sE;split
  .rename_i e a u _ _ _ _;cases Fw 1 a with
   | false=>exact id
   | true=>
    simp only [cond_true];split
    .exact id
    .split
     .split
      .exact id
      .rename_i j _ _;cases Aw j a with
       | false=>exact id
       | true=>exact λ h=>(lR h.2).elim
      .rename_i j _ _;cases Aw j a with
       | false=>exact id
       | true=>
             intro h;refine ⟨h.1,?_⟩;have g:=h.2;clear h;split at g
             .exact g
             .exact g
             .exact (lR g.2).elim
      .exact id
     .exact λ h=>(lR h.2).elim
     .exact id
     .exact id
     .exact id
  .exact id
 cases op
 case assign x=>
  simp only [lK];split
  .exact id
  .split
   .split
    .split
     .split
      .exact λ h=>(lR (N6 h)).elim
      .exact id
     .exact id
    .exact id
   .exact id
 case alloc t=>
  simp only [lK];split
  .rename_i m _;cases oT m.zero.cells with
   | false=>exact id
   | true=>intro h;have:=h.2;cases this
  .exact id
 case box t x=>
  simp only [lK];cases oT (ρ x).cells with
  | false=>exact id
  | true=>intro h;have:=h.2;cases this
 case buildSlice t n ps=>
  simp only [lK];unfold mL;split
  .rename_i e a _ _ _ _ _;cases (Aw (aBh (evL ρ ps.toList)) n&&Fw (n*a) 1000&&Fw 1 a) with
   | false=>exact id
   | true=>
    simp only [cond_true];split
    .split
     .exact id
     .exact λ h=>(lR h).elim
    .exact id
  .exact id
 case makeSlice t x y=>
  simp only [lK];unfold VG;split
  .split
   .rename_i o _;intro h;cases p:(Fw 1 _&&CI (ah (λ_=>.dead) 4 o.zero)) with
    | false=>simp_all
    | true=>
     rw [p] at h;obtain ⟨i,_,_,h⟩:=h;have:=h.2;cases this
   .exact id
  .exact id
 case makeMap t x=>
  cases x with
  | some x=>exact id
  | none=>
   simp only [lK];split
   .split
    .intro h;have:=h.2;cases this
    .exact id
   .exact id
 case call c=>
  obtain ⟨callee,args,l⟩:=c;cases callee with
  | value f=>exact id
  | invoke r n=>exact id
  | builtin s=>
   simp only [lK];split
   .exact id
   .exact id
   .exact id
   .grind
   .exact id
   .exact id
   .exact id
   .exact id
 all_goals exact id
def aGP {P:Program} {og:Nat->ab} {b:Nat} {z:aa} {n:Int} {p:Nat->Prop} {x:Nat->ab} {v:aa}:¬ gF P og b z [] (.idx n λ y=>.need (p y) (.born (x y) v)):=by rintro ⟨i,_,_,h⟩;have:=h.2;cases this
def aCW {P:Program} {E:Env} {og:Nat->ab} {b base a hint:Nat} {ρ:Operand->aa} {op:Op} {ty:TypeId} {z:aa}:gF P og b z [] (eop E hint base og ρ op ty)->gF P og b z [] (eop E hint a og ρ op ty):=by
 unfold eop;have d:(∃ r,kM E hint base og ρ op=some r/\kM E hint a og ρ op=some r)\/(kM E hint base og ρ op=none/\kM E hint a og ρ op=none)\/∃ r,kM E hint base og ρ op=some r/\¬ gF P og b z [] r:=by
  have same:∀ {o:Option OR},kM E hint base og ρ op=o->kM E hint a og ρ op=o->(∃ r,kM E hint base og ρ op=some r/\kM E hint a og ρ op=some r)\/(kM E hint base og ρ op=none/\kM E hint a og ρ op=none)\/∃ r,kM E hint base og ρ op=some r/\¬ gF P og b z [] r:=λ{o} h1 e=>by
   cases o with
   | none=>grind
   | some r=>grind
  cases op with
  | call c=>
   obtain ⟨callee,args,i⟩:=c;cases callee with
   | value f=>exact same rfl rfl
   | invoke r n=>exact same rfl rfl
   | builtin g=>
    cases g with
    | append=>
     simp only [kM];split
     .split
      .refine .inr (.inr ⟨_,rfl,?_⟩);unfold VF;split
       .split
        .intro h;exact aGP (N6 h)
        .exact λ h=>h.elim
       .exact λ h=>h.elim
      simp
     simp
    | _=>exact same rfl rfl
  | slice t x lo j k=>cases lo<;>cases j<;>cases k<;>exact same rfl rfl
  | _=>exact same rfl rfl
 rcases d with ⟨r,h1,e⟩ | ⟨h1,e⟩ | ⟨r,h1,e⟩
 .grind
 .rw [h1,e];exact YE
 grind
def AD:List ab->Nat->List ab->List ab
 | ac,_,[]=>ac
 | ac,base,x::r=>AD (bJ ac base x) (base+1) r
def GW (base:Nat) (a:List ab):∀ (new:List ab) (j:Nat) (ac:List ab),kB [] base a j new ac=AD ac (base+j) (iV base new)
 | [],j,ac=>rfl
 | x::r,j,ac=>by
  have e:dP [] base j=base+j:=by rfl
  have b:sN [] base a j x=sN [] base [] 0 x:=by rfl
  simp only [kB,iV,Bl,AD];rw [GW base a r (j+1),e,b];rfl
def qQ {P:Program} {j bl:Bool} {d ac:List ab} {base:Nat} {K Kp:aa->List ab->Prop}:∀ {r:OR},orD P false j bl d ac base K Kp r->
  (∃ z bs,(bl=true->bs=[])/\gF P (aC d) base z bs r/\K z (AD ac base bs))\/∃ z k x,j=true/\aC d k≠ .dead/\IB z k x r/\K z (bJ ac k x)
 | .no,k=>k.elim
 | .val v,k=>.inl ⟨v,[],λ_=>rfl,⟨rfl,rfl⟩,k⟩
 | .mkf fn fs cs,k=>.inl ⟨_,[],λ_=>rfl,⟨rfl,rfl⟩,k⟩
 | .need p r,⟨hp,k⟩=>by
  rcases qQ k with ⟨z,bs,b,h1,a⟩ | ⟨z,g,x,b,h1,a,h3⟩
  .exact .inl ⟨z,bs,b,⟨hp,h1⟩,a⟩
  .exact .inr ⟨z,g,x,b,h1,⟨hp,a⟩,h3⟩
 | .alt p v w,k=>by
  rcases k with ⟨hp,k⟩ | k
  .exact .inl ⟨v,[],λ_=>rfl,⟨.inl ⟨hp,rfl⟩,rfl⟩,k⟩
  .exact .inl ⟨w,[],λ_=>rfl,⟨.inr rfl,rfl⟩,k⟩
 | .idx n f,⟨i,hi,k⟩=>by
  rcases qQ k with ⟨z,bs,b,h1,a⟩ | ⟨z,g,x,b,h1,a,h3⟩
  .exact .inl ⟨z,bs,b,⟨i,hi,h1⟩,a⟩
  .exact .inr ⟨z,g,x,b,h1,⟨i,hi,a⟩,h3⟩
 | .elem xs i f,⟨y,hy,k⟩=>by
  rcases qQ k with ⟨z,bs,b,h1,a⟩ | ⟨z,g,x,b,h1,a,h3⟩
  .exact .inl ⟨z,bs,b,⟨y,hy,h1⟩,a⟩
  .exact .inr ⟨z,g,x,b,h1,⟨y,hy,a⟩,h3⟩
 | .byte l i,⟨c,hc,k⟩=>.inl ⟨_,[],λ_=>rfl,⟨c,hc,rfl,rfl⟩,k⟩
 | .text xs,⟨l,hl,hm,k⟩=>.inl ⟨_,[],λ_=>rfl,⟨l,hl,hm,rfl,rfl⟩,k⟩
 | .find es key f,⟨o,ho,k⟩=>by
  subst ho;rcases qQ k with ⟨z,bs,b,h1,a⟩ | ⟨z,g,x,b,h1,a,h3⟩
  .exact .inl ⟨z,bs,b,h1,a⟩
  .exact .inr ⟨z,g,x,b,h1,a,h3⟩
 | .born x v,k=>by
  cases bl with
  | true=>exact k.elim
  | false=>exact .inl ⟨v,[x],(λ h=>nomatch h),⟨rfl,rfl⟩,k⟩
 | .upd i x v,k=>by
  simp only [orD,Nf] at k;split at k
  .rename_i h;obtain ⟨h1,a⟩:=aU h;exact .inr ⟨v,i,x,h1,(λ e=>by rw [e] at a;cases a),⟨rfl,rfl,rfl⟩,k⟩
  grind
 | .nilq xs neg,k=>k.elim
 | .call f args,k=>by
  cases bl with
  | true=>exact k.elim
  | false=>
   have k:CallD P f args false d base ac K Kp:=k;cases k with
   | pure r new h k=>exact .inl ⟨_,_,(λ h=>nomatch h),⟨r,new,h,rfl,rfl⟩,by rw [GW,Fl] at k;rw [aCZ] at k;exact k⟩
   | sole h=>cases h
 | .pan v,k=>k.elim
section
variable {P:Program} {E:Env} {M:Imm} {ob:Hs} {L:List ab} {w:World}
def eV (l:List ab) (k:Nat):(k<l.length/\l[k]? =some (aC l k))\/(l.length<=k/\l[k]? =none/\aC l k= .dead):=by
 by_cases h:k<l.length
 .exact .inl ⟨h,vI h⟩
 .refine .inr ⟨by omega,Bk o_,?_⟩;cases a:aC l k with
  | dead=>rfl
  | _=>exact absurd (Ab.1 (bD a s_)).1 h
noncomputable def dJ (hid:Nat->Prop) (L:List ab):List ab:=(Di L.length).map λ k=>if hid k then .dead else aC L k
def FH {hid:Nat->Prop} {k:Nat} (h:k<L.length):(dJ hid L)[k]? =some (if hid k then .dead else aC L k):=by simp [dJ,Dn h]
def eB {hid:Nat->Prop}:(dJ hid L).length=L.length:=by simp [dJ]
def gU {hid:Nat->Prop}:R7 (dJ hid L) L:=⟨eB,λ k=>by
 rcases eV L k with ⟨h,e⟩ | ⟨h,e,_⟩
 .rw [FH h,e]
  grind
 .left;rw [e,Bk (by rw [eB];omega)]⟩
def fS {hid:Nat->Prop}:aC (dJ hid L)=λ k=>if hid k then .dead else aC L k:=by
 funext k;rcases eV L k with ⟨h,e⟩ | ⟨h,e,b⟩
 .exact gB (FH h)
 .rcases eV (dJ hid L) k with ⟨a,_⟩ | ⟨_,_,c⟩
  .rw [eB] at a;omega
  grind
def SB (M:Imm) (ob:Hs) (L:List ab) (w:World) (z:aa) (base:Nat) (bs:List ab) (e:Ending) (w':World):Prop:=
 ∃ M' ob' L' u,e= .returned u/\Ext M ob L w M' ob' L' w'/\Mem M' ob' L' w'/\aC L'=nE (aC L) base bs/\L.length<=L'.length/\Rep M' ob' u z/\∀ (k:Nat),¬ inB base bs.length k->(∀ hs,ob[k]? =some hs->hs=[])->∀ hs,ob'[k]? =some hs->hs=[]
def aKs (hE:ae E) (hm:Mem M ob L w) {hid:Nat->Prop} {ρv:Operand->Value} {ρ:Operand->aa} (hρ:∀ x,Rep M ob (ρv x) (ρ x)) {hint base:Nat} {p:Oper} {z:aa} {bs:List ab}
  (t:∀ (k:Nat),inB base bs.length k->∀ hs,ob[k]? =some hs->hs=[])
  (h:gF E.P (aC (dJ hid L)) base z bs (eop E hint base (aC (dJ hid L)) ρ p.op p.type)):nA E.P p ρv w (SB M ob L w z base bs):=by
 obtain ⟨dst,op,ty,pos,i,K⟩:=p
 -- room
 obtain ⟨n,hn⟩:∃ n,base+bs.length+1<=L.length+n/\0<n:=⟨base+bs.length+1,by omega,by omega⟩
 obtain ⟨hn,hn0⟩:=hn;obtain ⟨A,N,m3⟩:=hm.extend n;have J:(L++Aj n ab.dead).length=L.length+n:=by simp
 have U:(ob++Aj n ([]:List Value)).length=L.length+n:=by simp [hm.len]
 generalize Y:L++Aj n ab.dead=L1 at A N m3 J;generalize hO1:ob++Aj n ([]:List Value)=ob1 at A N m3 U;have D:aC L1=aC L:=by rw [<-Y];exact CG L n
 have d:∀ k,(∀ hs,ob[k]? =some hs->hs=[])->k<L1.length->ob1[k]? =some []:=λ k l o=>by
  rw [<-hO1];by_cases F:k<ob.length
  .rw [Ag F,Aa F,l _ (Aa F)]
  .rw [Ak o_,Es,if_pos (by rw [hm.len] at F⊢;omega)]
 have y:aC (dJ hid L1)=aC (dJ hid L):=by rw [fS,fS,D]
 -- where it would be born
 obtain ⟨g,B,hbb,m,h⟩:∃ g,ob1[g]? =some []/\(bs≠[]->g=base)/\g<L1.length/\gF E.P (aC (dJ hid L)) base z bs (eop E hint g (aC (dJ hid L)) ρ op ty):=by
  by_cases O:bs=[]
  .subst O;exact ⟨L.length,d _ (λ hs s=>by have:=(Ab.1 s).1;rw [hm.len] at this;omega) o_,λ h=>absurd rfl h,by omega,aCW h⟩
  .have hpos:0<bs.length:=by cases bs<;>simp at O⊢
   exact ⟨base,d base (t base ⟨Bc _,by omega⟩) o_,λ_=>rfl,by omega,h⟩
 have mw:=A.weak (gU (hid:=hid));have hb1:(dJ hid L1)[g]? =some .dead:=mw.idle B;have hs:=xR hE mw hb1 B (λ x=>(hρ x).mono (λ_ _ _ h=>h) N.hs) hint op ty;rw [y] at hs;have live:∀ {k:Nat} {c:ab},L1[k]? =some c->(dJ hid L1)[k]? =some c\/((dJ hid L1)[k]? =some .dead/\(∃ hs,ob1[k]? =some hs/\hs≠[])/\L1[k]? =some c):=λ{k c} C=>by
  rcases (gU (hid:=hid) (L:=L1)).2 k with q | q
  .left;rw [q];exact C
  .by_cases G:c= .dead
   .left;rw [q,G]
   .right;exact ⟨q,A.live C G,C⟩
 have fin:∀ {u:Value} {w':World},SB M ob L w z base bs (.returned u) w'->((execOp ρv ⟨dst,op,ty,pos,i,K⟩).run E.P w= .ok (.value u) w'\/((execOp ρv ⟨dst,op,ty,pos,i,K⟩).run E.P w= .ok .skip w'/\u=undef))->nA E.P ⟨dst,op,ty,pos,i,K⟩ ρv w (SB M ob L w z base bs):=by
  intro u w' ha Q;rcases Q with Q | ⟨Q,rfl⟩
  .exact .inl ⟨u,w',Q,ha⟩
  .exact .inr (.inl ⟨w',Q,ha⟩)
 rcases BN (P:=E.P) hs h with ⟨⟨u,w',M',ob',vs⟩,rfl⟩ | ⟨x,⟨u,w',M',ob',vs⟩,rfl⟩ | ⟨f,args,r0,new,⟨va,hva,hx⟩,X,rfl,rfl⟩
 .obtain ⟨T,v2,v3⟩:=A.revive (ap:=L1) (gU (hid:=hid)) vs.ext vs.still vs.mem (by rw [eB]) λ k c C=>live C;refine fin ⟨M',ob',L1,u,rfl,N.trans v2,T,?_,by omega,vs.rep,λ k l V hs s=>?_⟩ (vs.run dst pos i K)
  .rw [D];funext k;unfold nE;rw [if_neg λ h=>by have:=h.2;have:=h.1;simp at *;omega]
  .have o:k<L1.length:=by rw [<-T.len];exact (Ab.1 s).1
   have e:=d k V o;have G:=A.idle e;have:=(v3 k [] G e).2 rfl G;rw [s] at this;cases this;rfl
 .obtain rfl:base=g:=(hbb s_).symm;have b:bJ L1 base x=L1.set base x:=gK x m;have r:bJ (dJ hid L1) base x=(dJ hid L1).set base x:=gK x (by rw [eB];exact m);obtain ⟨T,v2,v3⟩:=A.revive (ap:=bJ L1 base x) (gU (hid:=hid)) vs.ext vs.still vs.mem (by rw [b,r];simp [eB]) λ k c C=>by
   by_cases l:k=base
   .subst l;left;rw [b,Ar m] at C;rw [r,Ar (by rw [eB];exact m)];exact C
   .rw [b,Ay (Em l)] at C;rw [r,Ay (Em l)];exact live C
  refine fin ⟨M',ob',bJ L1 base x,u,rfl,N.trans v2,T,?_,by rw [b];simp;omega,vs.rep,λ k l V hs s=>?_⟩ (vs.run dst pos i K)
  .funext k;unfold nE;by_cases l:k=base
   .subst l;rw [if_pos ⟨Bc _,by simp⟩,b];rw [gB (Ar m)];simp
   .rw [if_neg λ h=>l (by have h1:=h.1;have h2:=h.2;simp at h2;omega),<-D,b];rcases eV L1 k with ⟨h1,H⟩ | ⟨h1,H,R⟩
    .exact gB (by rw [Ay (Em l)];exact H)
    .rcases eV (L1.set base x) k with ⟨h3,_⟩ | ⟨_,_,W⟩
     .simp at h3;omega
     .rw [W,R]
  .have Z:k≠base:=λ e=>l ⟨by omega,by simp;omega⟩;have o:k<L1.length:=by have:=(Ab.1 s).1;rw [T.len,b] at this;simpa using this
   have e:=d k V o;have G:=A.idle e;have:=(v3 k [] G e).2 rfl (by rw [b,Ay (Em Z)];exact G);rw [s] at this;cases this;rfl
 .rw [<-y] at X;have I:=xF (λ v a=>mw.cvtV (n0:=0) (ks:=[]) rfl 5 v a) hva;have hnl:(iV base new).length=new.length:=by simp [iV]
  refine jX.op (λ e w ⟨_,_,_,u,s,_⟩=>by rw [s];simp) (hx dst pos i K) (cI.mono (λ e w' ⟨M',S,x1,x2,x3⟩=>?_) (X M [] w va A.bare I));have hin:∀ j,j<new.length->ob1[base+j]? =some []:=λ j hj=>d _ (t _ ⟨by omega,by omega⟩) o_;obtain ⟨H,R,W⟩:=A.emb0 o_ hin x1 x2;obtain ⟨q1,q2⟩:=fE L1 (iV base new) base o_;obtain ⟨p1,p2⟩:=fE ob1 S base (by rw [x2.len];omega);cases e with
  | panicked ch=>exact x3.elim
  | outgrown=>exact x3.elim
  | returned u=>
   refine ⟨M',_,_,u,rfl,N.trans R,H,?_,by omega,W 5 u r0 x3,λ k l V hs s=>?_⟩
   .funext k;unfold nE;by_cases l:inB base (iV base new).length k
    .rw [if_pos l];have o:k-base<(iV base new).length:=by have:=l.1;have:=l.2;omega
     refine gB ?_;rw [q2,if_pos (show base<=k/\k<base+(iV base new).length from l),Fb,Aa o];rfl
    .rw [if_neg l,<-D];rcases eV L1 k with ⟨h1,H⟩ | ⟨h1,H,R⟩
     .exact gB (by rw [q2,if_neg (show ¬ (base<=k/\k<base+(iV base new).length) from l)];exact H)
     .rcases eV (L1.take base++iV base new++L1.drop (base+(iV base new).length)) k with ⟨h3,_⟩ | ⟨_,_,W⟩
      .omega
      .rw [W,R]
   .rw [p2,if_neg (show ¬ (base<=k/\k<base+S.length) from by rw [x2.len,<-hnl];exact l)] at s;have o:k<L1.length:=by rw [<-A.len];exact (Ab.1 s).1
    rw [d k V o] at s;cases s;rfl
def aD8 (M:Imm) (ob:Hs) (L:List ab) (w:World) (z:aa) (k:Nat) (x:ab) (e:Ending) (w':World):Prop:=
 ∃ M' ob' L' u,e= .returned u/\Ext M ob L w M' ob' L' w'/\Mem M' ob' L' w'/\(aC L'=λ a=>if a=k then x else aC L a)/\L.length<=L'.length/\Rep M' ob' u z/\∀ (a:Nat),(∀ hs,ob[a]? =some hs->hs=[])->∀ hs,ob'[a]? =some hs->hs=[]
def aHc (hE:ae E) (hm:Mem M ob L w) {hid:Nat->Prop} {ρv:Operand->Value} {ρ:Operand->aa} (X:∀ x,Rep M ob (ρv x) (ρ x)) {hint base:Nat} {p:Oper} {z:aa} {k:Nat} {x:ab}
  (r:∀ hs,ob[base]? =some hs->hs=[]) (F:aC (dJ hid L) k≠ .dead) (h:IB z k x (eop E hint base (aC (dJ hid L)) ρ p.op p.type)):nA E.P p ρv w (aD8 M ob L w z k x):=by
 obtain ⟨dst,op,ty,pos,o,Y⟩:=p
 obtain ⟨n,hn,W⟩:∃ n,base+1<=L.length+n/\0<n:=⟨base+1,by omega,by omega⟩
 obtain ⟨t,G,S⟩:=hm.extend n;have s:(L++Aj n ab.dead).length=L.length+n:=by simp
 have B:(ob++Aj n ([]:List Value)).length=L.length+n:=by simp [hm.len]
 generalize J:L++Aj n ab.dead=L1 at t G S s;generalize H:ob++Aj n ([]:List Value)=ob1 at t G S B;have A:aC L1=aC L:=by rw [<-J];exact CG L n
 have g:∀ k,(∀ hs,ob[k]? =some hs->hs=[])->k<L1.length->ob1[k]? =some []:=λ k F D=>by
  rw [<-H];by_cases b:k<ob.length
  .rw [Ag b,Aa b,F _ (Aa b)]
  .rw [Ak o_,Es,if_pos (by rw [hm.len] at b⊢;omega)]
 have d:aC (dJ hid L1)=aC (dJ hid L):=by rw [fS,fS,A]
 have i:=g base r o_;have R:=t.weak (gU (hid:=hid));have N:(dJ hid L1)[base]? =some .dead:=R.idle i;have hs:=xR hE R N i (λ x=>(X x).mono (λ_ _ _ h=>h) G.hs) hint op ty;rw [d] at hs;have live:∀ {k:Nat} {c:ab},L1[k]? =some c->(dJ hid L1)[k]? =some c\/((dJ hid L1)[k]? =some .dead/\(∃ hs,ob1[k]? =some hs/\hs≠[])/\L1[k]? =some c):=λ{k c} m=>by
  rcases (gU (hid:=hid) (L:=L1)).2 k with q | q
  .left;rw [q];exact m
  .by_cases y:c= .dead
   .left;rw [q,y]
   .right;exact ⟨q,t.live m y,m⟩
 have b:k<L1.length:=by have:=bD (l:=dJ hid L1) (n:=k) rfl (by rw [d];exact F);have:=(Ab.1 this).1;rwa [eB] at this
 obtain ⟨u,w',M',ob',vs⟩:=uS hs h;have f:bJ (dJ hid L1) k x=(dJ hid L1).set k x:=gK x (by rw [eB];exact b);obtain ⟨Q,Z,v3⟩:=t.revive (ap:=L1.set k x) (gU (hid:=hid)) vs.ext vs.still vs.mem (by rw [f];simp [eB]) λ j c m=>by
  by_cases a:j=k
  .subst a;left;rw [Ar b] at m;rw [f,Ar (by rw [eB];exact b)];exact m
  .rw [Ay (Em a)] at m;rw [f,Ay (Em a)];exact live m
 have C:aD8 M ob L w z k x (.returned u) w':=by
  refine ⟨M',ob',L1.set k x,u,rfl,G.trans Z,Q,?_,by simp;omega,vs.rep,λ j V hs O=>?_⟩
  .funext j;by_cases a:j=k
   .subst a;rw [if_pos rfl];exact gB (Ar b)
   .rw [if_neg a,<-A];rcases eV L1 j with ⟨h1,T⟩ | ⟨h1,T,K⟩
    .exact gB (by rw [Ay (Em a)];exact T)
    .rcases eV (L1.set k x) j with ⟨h3,_⟩ | ⟨_,_,U⟩
     .simp at h3;omega
     .rw [U,K]
  .have D:j<L1.length:=by have:=(Ab.1 O).1;rw [Q.len] at this;simpa using this
   have e:=g j V D;have y:=t.idle e;have a:j≠k:=λ K=>by
    subst K;refine F ?_;rw [<-d,fS];dsimp only;split
    .rfl
    .exact gB y
   have:=(v3 j [] y e).2 rfl (by rw [Ay (Em a)];exact y);rw [O] at this;cases this;rfl
 rcases vs.run dst pos o Y with I | ⟨I,rfl⟩
 .exact .inl ⟨u,w',I,C⟩
 .exact .inr (.inl ⟨w',I,C⟩)
end
noncomputable def kU (E:Env) (tab:List Nat) (i:Nat) (d:Option Nat) (s:AS):Nat->ab:=if blD E d=true then λ_=>.dead else nK tab i s
def Y (E:Env) (all:List Oper) (tab:List Nat) (L0 i:Nat) (p:Oper) (s:AS) (z:aa) (base:Nat) (bs:List ab):Prop:=
 L0<=base/\(blD E p.dst=true->bs=[])/\((cF all (evG tab all i s.g) p.guard=some false/\z= .tup []/\bs=[])\/
  (cF all (evG tab all i s.g) p.guard=some true/\gF E.P (kU E tab i p.dst s) base z bs (eop E (eW E p.dst) base (kU E tab i p.dst s) (evG tab all i s.g) p.op p.type)))
def fresh (s:AS) (base:Nat) (bs:List ab):Prop:=∀ k,inB base bs.length k->∀ i,¬ s.br i k
def WF (L0:Nat) (s:AS):Prop:=∀ k,L0<=k->(∀ i,¬ s.br i k)->s.o k= .dead
def nOp (E:Env) (all:List Oper) (tab:List Nat) (L0 i:Nat) (p:Oper) (K:AS->Prop) (s:AS):Prop:=
 ∃ z base bs,Y E all tab L0 i p s z base bs/\fresh s base bs/\K (s.upd i p.dst z base bs)
section
variable {E:Env} {all:List Oper} {tab:List Nat} {L0:Nat}
def F9 {j i t:Nat} {q:Oper}:∀ {l:List Oper} {n:Nat},l[i]? =some q->q.dst=some t->loose tab (n+i) j=true->NA tab j t n l=true
 | [],n,h,_,_=>by simp at h
 | x::r,n,h,hd,hl=>by
  cases i with
  | zero=>
   simp at h;subst h;rw [Fl] at hl;simp [NA,hd,hl]
  | succ i=>
   have:=F9 (l:=r) (n:=n+1) (i:=i) (q:=q) (by simp_all) hd (by rw [show n+1+i=n+(i+1) from by omega];exact hl);simp [NA,this]
def nR {i j:Nat}:loose tab i j=true↔i≠j/\cP (cV tab j) i=false/\cP (cV tab i) j=false:=by
 simp only [loose,Ad,Cx];constructor
 .rintro ⟨⟨h1,a⟩,h3⟩;exact ⟨λ e=>by simp_all,a,h3⟩
 .rintro ⟨h1,a,h3⟩;exact ⟨⟨D3 h1,a⟩,h3⟩
def oY {i j:Nat} (h:loose tab i j=true):loose tab j i=true:=by obtain ⟨h1,a,h3⟩:=nR.1 h;exact nR.2 ⟨Em h1,h3,a⟩
def JD {i j:Nat} {q:Oper} (a:all[j]? =some q) (hl:loose tab j i=true) (g:Nat->aa) (z:aa):evG tab all i (iS g q.dst z)=evG tab all i g:=by
 funext x;cases x with
 | tmp t=>
  simp only [evG];cases b:NA tab i t 0 all with
  | true=>rfl
  | false=>
   simp only [cond_false,iS];rw [if_neg];intro e;have:=F9 (l:=all) (n:=0) a e q_
   grind
 | _=>rfl
def WX {i j:Nat} (hl:loose tab j i=true) {s:AS} (l:WF L0 s) {d:Option Nat} {z:aa} {base:Nat} {bs:List ab} (f:L0<=base) (g:fresh s base bs):nK tab i (s.upd j d z base bs)=nK tab i s:=by
 obtain ⟨_,e,_⟩:=nR.1 hl;funext k;unfold nK;by_cases b:inB base bs.length k
 .have h1:QJ tab i (s.upd j d z base bs).br k:=⟨j,.inr ⟨rfl,b⟩,e⟩
  rw [if_pos h1];have m:=l k (Cz f b.1) (g k b)
  grind
 .have p:(s.upd j d z base bs).o k=s.o k:=by
   show nE s.o base bs k=s.o k;unfold nE
   grind
  have n:QJ tab i (s.upd j d z base bs).br k↔QJ tab i s.br k:=by
   constructor
   .rintro ⟨c,h | ⟨_,h⟩,a⟩
    .exact ⟨c,h,a⟩
    grind
   .rintro ⟨c,h,a⟩;exact ⟨c,.inl h,a⟩
  grind
def aIo {i j:Nat} {p q:Oper} (f:all[j]? =some q) (hl:loose tab j i=true) {s:AS} (e:WF L0 s) {c:aa} {a:Nat} {b:List ab} (h:L0<=a) (l:fresh s a b) {z:aa} {base:Nat} {bs:List ab}:
  Y E all tab L0 i p (s.upd j q.dst c a b) z base bs↔Y E all tab L0 i p s z base bs:=by
 have k:evG tab all i (s.upd j q.dst c a b).g=evG tab all i s.g:=JD f hl s.g c;have d:kU E tab i p.dst (s.upd j q.dst c a b)=kU E tab i p.dst s:=by unfold kU;rw [WX hl e h l]
 unfold Y;rw [k,d]
def WF.upd {i:Nat} {s:AS} (b:WF L0 s) {d:Option Nat} {z:aa} {base:Nat} {bs:List ab}:WF L0 (s.upd i d z base bs):=λ k e a=>by have h1:¬ inB base bs.length k:=λ h=>a i (.inr ⟨rfl,h⟩);show nE s.o base bs k= .dead;unfold nE;rw [if_neg h1];exact b k e λ c h=>a c (.inl h)
def ZT {s:AS} {i j:Nat} {d e:Option Nat} {z f:aa} {base a:Nat} {bs b:List ab} (p:∀ t,d=some t->e≠some t) (h:∀ k,inB base bs.length k->¬ inB a b.length k):
  (s.upd i d z base bs).upd j e f a b=(s.upd j e f a b).upd i d z base bs:=by
 have n:iS (iS s.g d z) e f=iS (iS s.g e f) d z:=by
  funext t;simp only [iS]
  grind
 have m:nE (nE s.o base bs) a b=nE (nE s.o a b) base bs:=by
  funext k;unfold nE
  grind
 have l:(λ c k=>(s.br c k\/(c=i/\inB base bs.length k))\/(c=j/\inB a b.length k))=λ c k=>(s.br c k\/(c=j/\inB a b.length k))\/(c=i/\inB base bs.length k):=by
  funext c k
  grind
 show AS.mk (iS (iS s.g d z) e f) (nE (nE s.o base bs) a b) (λ c k=>(s.br c k\/(c=i/\inB base bs.length k))\/(c=j/\inB a b.length k))=_;rw [n,m,l];rfl
def aFN {i j:Nat} {p q:Oper} (hp:all[i]? =some p) (x:all[j]? =some q) (hl:loose tab i j=true) (w:∀ t,p.dst=some t->q.dst≠some t) {s:AS} (m:WF L0 s) {z:aa} {base:Nat} {bs:List ab}
  (u:Y E all tab L0 i p s z base bs) (r:fresh s base bs) {K:AS->Prop} (h:nOp E all tab L0 j q K (s.upd i p.dst z base bs)):
  nOp E all tab L0 j q (λ s'=>WF L0 s'/\Y E all tab L0 i p s' z base bs/\fresh s' base bs/\K (s'.upd i p.dst z base bs)) s:=by
 obtain ⟨v,a,b,h1,o,h3⟩:=h;have d:=(aIo (p:=q) hp hl m u.1 r).1 h1;have g:fresh s a b:=λ k e l c=>o k e l (.inl c);have f:∀ k,inB base bs.length k->¬ inB a b.length k:=λ k e n=>o k n i (.inr ⟨rfl,e⟩);refine ⟨v,a,b,d,g,m.upd,(aIo (p:=p) x (oY hl) m d.1 g).2 u,λ k e l c=>?_,?_⟩
 .rcases c with c | ⟨_,c⟩
  .exact r k e l c
  simp_all
 .rw [<-ZT w f];exact h3
noncomputable def AS.turn (s:AS) (d:Option Nat) (z:aa) (k:Nat) (x:ab):AS:=⟨iS s.g d z,λ a=>if a=k then x else s.o a,s.br⟩
def Yu (E:Env) (all:List Oper) (tab:List Nat) (L0 i:Nat) (p:Oper) (s:AS) (z:aa) (base k:Nat) (x:ab):Prop:=
 (L0<=base/\∀ i,¬ s.br i base)/\cF all (evG tab all i s.g) p.guard=some true/\nK tab i s k≠ .dead/\IB z k x (eop E (eW E p.dst) base (nK tab i s) (evG tab all i s.g) p.op p.type)
def uOp (E:Env) (all:List Oper) (tab:List Nat) (L0 i:Nat) (p:Oper) (K:AS->Prop) (s:AS):Prop:=
 ∃ z base k x,Yu E all tab L0 i p s z base k x/\K (s.turn p.dst z k x)
def AG {s:AS} {i base:Nat} {d:Option Nat} {z:aa}:s.upd i d z base []=⟨iS s.g d z,s.o,s.br⟩:=by
 unfold AS.upd;congr 1
 .funext k;unfold nE;rw [if_neg λ h=>by have h1:=h.1;have a:=h.2;grind]
 .funext i' k;refine propext ⟨λ h=>?_,.inl⟩;rcases h with h | ⟨_,h⟩
  .exact h
  .have h1:=h.1;have a:=h.2;grind
def WJ {g:Nat->aa} {d a:Option Nat} {z b:aa} (c:∀ t,d=some t->a≠some t):iS (iS g d z) a b=iS (iS g a b) d z:=by
 funext t;simp only [iS]
 grind
def E8 {s:AS} {i base:Nat} {d a:Option Nat} {z b:aa} {k:Nat} {x:ab} (c:∀ t,d=some t->a≠some t):(s.upd i d z base []).turn a b k x=(s.turn a b k x).upd i d z base []:=by rw [AG,AG];unfold AS.turn;rw [WJ c]
def WF.turn {i:Nat} {s:AS} (c:WF L0 s) {d:Option Nat} {z:aa} {k:Nat} {x:ab} (g:nK tab i s k≠ .dead):WF L0 (s.turn d z k x):=λ a h1 f=>by
 have b:a≠k:=λ e=>by
  subst e;refine g ?_;unfold nK;split
  .rfl
  .exact c a h1 f
 show (if a=k then x else s.o a)= .dead;rw [if_neg b];exact c a h1 f
def aD2 {i j:Nat} {p q:Oper} (c:all[j]? =some q) (hl:loose tab j i=true) (e:blD E p.dst=true) {s:AS} {a:aa} {k:Nat} {x:ab} {z:aa} {base:Nat} {bs:List ab}:
  Y E all tab L0 i p (s.turn q.dst a k x) z base bs↔Y E all tab L0 i p s z base bs:=by
 have d:evG tab all i (s.turn q.dst a k x).g=evG tab all i s.g:=JD c hl s.g a;have b:kU E tab i p.dst (s.turn q.dst a k x)=kU E tab i p.dst s:=by
  unfold kU
  grind
 unfold Y;rw [d,b]
def aD1 {i j:Nat} {p q:Oper} (c:all[j]? =some q) (hl:loose tab j i=true) {s:AS} {b:aa} {a:Nat} {z:aa} {base k:Nat} {x:ab}:
  Yu E all tab L0 i p (s.upd j q.dst b a []) z base k x↔Yu E all tab L0 i p s z base k x:=by
 rw [AG];have d:evG tab all i (iS s.g q.dst b)=evG tab all i s.g:=JD c hl s.g b;unfold Yu;rw [d];rfl
def aEn {i j:Nat} {p q:Oper} (hp:all[i]? =some p) (r:all[j]? =some q) (hl:loose tab i j=true) (e:blD E p.dst=true) (n:∀ t,p.dst=some t->q.dst≠some t) {s:AS} (o:WF L0 s) {z:aa} {base:Nat} {bs:List ab}
  (g:Y E all tab L0 i p s z base bs) (u:fresh s base bs) {K:AS->Prop} (h:uOp E all tab L0 j q K (s.upd i p.dst z base bs)):
  uOp E all tab L0 j q (λ s'=>WF L0 s'/\Y E all tab L0 i p s' z base bs/\fresh s' base bs/\K (s'.upd i p.dst z base bs)) s:=by
 obtain rfl:=g.2.1 e;obtain ⟨l,c,k,x,h1,m⟩:=h;have d:=(aD1 hp hl).1 h1;refine ⟨l,c,k,x,d,o.turn d.2.2.1,(aD2 r (oY hl) e).2 g,λ k f=>by have a:=f.1;have b:=f.2;simp at b;omega,?_⟩;rw [<-E8 n];exact m
def aBG {i j:Nat} {p q:Oper} (hp:all[i]? =some p) (v:all[j]? =some q) (hl:loose tab i j=true) (f:blD E q.dst=true) (r:∀ t,p.dst=some t->q.dst≠some t) {s:AS} (u:WF L0 s) {z:aa} {base k:Nat} {x:ab}
  (n:Yu E all tab L0 i p s z base k x) {K:AS->Prop} (h:nOp E all tab L0 j q K (s.turn p.dst z k x)):
  nOp E all tab L0 j q (λ s'=>WF L0 s'/\Yu E all tab L0 i p s' z base k x/\K (s'.turn p.dst z k x)) s:=by
 obtain ⟨l,c,o,h1,w,h3⟩:=h;obtain rfl:=h1.2.1 f;have d:=(aD2 hp hl f).1 h1;refine ⟨l,c,[],d,λ k g=>by have a:=g.1;have b:=g.2;simp at b;omega,u.upd,(aD1 v (oY hl)).2 n,?_⟩;rw [E8 λ t m e=>r t e m];exact h3
def sOp (E:Env) (all:List Oper) (tab:List Nat) (L0 i:Nat) (p:Oper) (Kp:(Nat->aa)->aa->List ab->Prop) (K:AS->Prop) (s:AS):Prop:=
 ∃ ac:List ab,aC ac=s.o/\L0<=aM ac/\(∀ k,L0<=k->k<aM ac->∃ i,s.br i k)/\(∀ i k,s.br i k->k<aM ac)/\
  ((cF all (evG tab all i s.g) p.guard=some false/\K (s.upd i p.dst (.tup []) L0 []))\/
    (cF all (evG tab all i s.g) p.guard=some true/\orD E.P true true false ac ac (aM ac) (λ v ap=>aM ac<=aM ap->K ⟨iS s.g p.dst v,aC ap,λ a k=>s.br a k\/(a=i/\aM ac<=k/\k<aM ap)⟩) (Kp s.g)
     (eop E (eW E p.dst) (aM ac) (aC ac) (evG tab all i s.g) p.op p.type)))
def aOp (E:Env) (ops:Array Oper) (tab:List Nat) (L0:Nat) (Kp:(Nat->aa)->aa->List ab->Prop) (i:Nat) (K:AS->Prop) (s:AS):Prop:=
 ∃ p,ops[i]? =some p/\(((sole tab i 0 ops.toList=true->blD E p.dst=true)/\nOp E ops.toList tab L0 i p K s)\/((FG E tab i 0 ops.toList=true/\blD E p.dst=false)/\uOp E ops.toList tab L0 i p K s)\/
  ((sole tab i 0 ops.toList=true/\blD E p.dst=false)/\sOp E ops.toList tab L0 i p Kp K s))
def wpA (E:Env) (ops:Array Oper) (tab:List Nat) (L0:Nat) (Kp:(Nat->aa)->aa->List ab->Prop) (Q:AS->Prop):Nat->Array Bool->AS->Prop
 | 0,listed,s=>Dz .any ops listed=[]/\Q s
 | fuel+1,listed,s=>(Dz .any ops listed=[]->Q s)/\∀ i∈Dz .any ops listed,aOp E ops tab L0 Kp i (wpA E ops tab L0 Kp Q fuel (listed.setIfInBounds i true)) s
end
section
variable {E:Env} {ops:Array Oper} {tab:List Nat} {L0:Nat} {Kp:(Nat->aa)->aa->List ab->Prop} {Q:AS->Prop}
def EC {i:Nat} {K d:AS->Prop} {s:AS} (c:∀ s,K s->d s) (h:aOp E ops tab L0 Kp i K s) (f:sole tab i 0 ops.toList=false):aOp E ops tab L0 Kp i d s:=by
 obtain ⟨p,h1,⟨a,z,base,bs,h3,b,e⟩ | ⟨a,z,base,k,x,h3,b⟩ | ⟨a,_⟩⟩:=h
 .exact ⟨p,h1,.inl ⟨a,z,base,bs,h3,b,c _ e⟩⟩
 .exact ⟨p,h1,.inr (.inl ⟨a,z,base,k,x,h3,c _ b⟩)⟩
 grind
def nB (tab:List Nat) (a:Array Bool):Prop:=∀ j i,a.getD j false=true->cP (cV tab j) i=true->a.getD i false=true
def tD {E:Env} {tab:List Nat} {j:Nat}:∀ {l:List Oper} {n:Nat},FG E tab j n l=true->∀ (i:Nat) q,l[i]? =some q->loose tab (n+i) j=true->blD E q.dst=true
 | [],_,_,i,q,hi,_=>by simp at hi
 | x::r,n,h,i,q,hi,hl=>by
  simp only [FG,Ad,Fc,Cx] at h;cases i with
  | zero=>
   grind
  | succ i=>exact tD h.2 i q (by simp_all) (by grind)
def R8 (E:Env) (ops:Array Oper) (tab:List Nat) (i:Nat) (d:Option Nat):Prop:=∀ (a:Array Bool) (j:Nat),nB tab a->i∈Dz .any ops a->j∈Dz .any ops a->j≠i->
   nB tab (a.setIfInBounds j true)/\sole tab j 0 ops.toList=false/\loose tab i j=true/\∀ q,ops[j]? =some q->∀ t,d=some t->q.dst≠some t
def aCH {i:Nat} {p:Oper} {z:aa} {base:Nat} {bs:List ab} (L:ops[i]? =some p) (y:sole tab i 0 ops.toList=true->blD E p.dst=true) (d:R8 E ops tab i p.dst):
  ∀ (c:Nat) (a:Array Bool) (s:AS),nB tab a->WF L0 s->i∈Dz .any ops a->Y E ops.toList tab L0 i p s z base bs->fresh s base bs->
   wpA E ops tab L0 Kp Q c (a.setIfInBounds i true) (s.upd i p.dst z base bs)->wpA E ops tab L0 Kp Q (c+1) a s:=by
 have l:∀ {K:AS->Prop} {s:AS},Y E ops.toList tab L0 i p s z base bs->fresh s base bs->K (s.upd i p.dst z base bs)->aOp E ops tab L0 Kp i K s:=λ g e J=>⟨p,L,.inl ⟨y,z,base,bs,g,e,J⟩⟩
 intro c;induction c with
 | zero=>
  intro a s A x f g e H;refine ⟨λ h=>(by simp_all),λ j m=>?_⟩;by_cases b:j=i
  .simp_all
  .have:=ready_mono m b;rw [H.1] at this;cases this
 | succ c D=>
  intro a s A x f g e H;refine ⟨λ h=>(by rw [h] at f;cases f),λ j m=>?_⟩;by_cases b:j=i
  .subst b;exact l g e H
  .have h1:=H.2 j (ready_mono m b);obtain ⟨F,u,B,C⟩:=d a j A f m b;obtain ⟨q,n,⟨v,G⟩ | ⟨k,M⟩ | ⟨hs,_⟩⟩:=h1
   .have:=aFN q_ q_ B (C q n) x g e G;refine EC (λ s' ⟨o,w,t,r⟩=>D (a.setIfInBounds j true) s' F o (ready_mono f (Em b)) w t ?_) ⟨q,n,.inl ⟨v,this⟩⟩ u;rw [Ja _ _ b];exact r
   .have I:blD E p.dst=true:=tD k.1 i p q_ q_;have:=aEn q_ q_ B I (C q n) x g e M;refine EC (λ s' ⟨o,w,t,r⟩=>D (a.setIfInBounds j true) s' F o (ready_mono f (Em b)) w t ?_) ⟨q,n,.inr (.inl ⟨k,this⟩)⟩ u;rw [Ja _ _ b];exact r
   .rw [u] at hs;cases hs.1
def aKa {i:Nat} {p:Oper} {z:aa} {base k:Nat} {x:ab} (G:ops[i]? =some p) (l:FG E tab i 0 ops.toList=true/\blD E p.dst=false) (d:R8 E ops tab i p.dst):
  ∀ (b:Nat) (a:Array Bool) (s:AS),nB tab a->WF L0 s->i∈Dz .any ops a->Yu E ops.toList tab L0 i p s z base k x->
   wpA E ops tab L0 Kp Q b (a.setIfInBounds i true) (s.turn p.dst z k x)->wpA E ops tab L0 Kp Q (b+1) a s:=by
 have u:∀ {K:AS->Prop} {s:AS},Yu E ops.toList tab L0 i p s z base k x->K (s.turn p.dst z k x)->aOp E ops tab L0 Kp i K s:=λ n D=>⟨p,G,.inr (.inl ⟨l,z,base,k,x,n,D⟩)⟩
 intro b;induction b with
 | zero=>
  intro a s t y o n H;refine ⟨λ h=>(by simp_all),λ j m=>?_⟩;by_cases c:j=i
  .simp_all
  .have:=ready_mono m c;rw [H.1] at this;cases this
 | succ b J=>
  intro a s t y o n H;refine ⟨λ h=>(by simp_all),λ j m=>?_⟩;by_cases c:j=i
  .subst c;simp_all
  .have h1:=H.2 j (ready_mono m c);obtain ⟨L,w,v,F⟩:=d a j t o m c;have f:∀ q,ops[j]? =some q->blD E q.dst=true:=λ q g=>tD l.1 j q q_ (by rw [Bo];exact oY v);obtain ⟨q,g,⟨r,A⟩ | ⟨e,M⟩ | ⟨hs,_⟩⟩:=h1
   .have:=aBG q_ q_ v (f q g) (F q g) y n A;refine EC (λ s' ⟨B,I,C⟩=>J (a.setIfInBounds j true) s' L B (ready_mono o (Em c)) I ?_) ⟨q,g,.inl ⟨r,this⟩⟩ w;rw [Ja _ _ c];exact C
   .rw [f q g] at e;cases e.2
   .rw [w] at hs;cases hs.1
end
def jB (fr:List (Nat×aa)) (ac:List ab) (br:List (Nat×Nat)):AS:=⟨aX fr,aC ac,λ i k=>(i,k)∈br⟩
def eK (fr:List (Nat×aa)) (d:Option Nat) (v:aa):aX (kW fr d v)=iS (aX fr) d v:=by
 funext t;cases d with
 | none=>rfl
 | some d=>
  simp only [kW,iS,sA,Ds]
  grind
def FP (l:List ab) (n k:Nat) (x:ab):aC (bJ l n x) k=if k=n then x else aC l k:=by
 induction l generalizing n k with
 | nil=>
  induction n generalizing k with
  | zero=>cases k<;>rfl
  | succ n a=>
   cases k with
   | zero=>rfl
   | succ k=>show aC (bJ [] n x) k=_;rw [a];simp [aC]
 | cons y r a=>
  cases n with
  | zero=>cases k<;>simp [bJ,aC]
  | succ n=>
   cases k with
   | zero=>rfl
   | succ k=>simp only [bJ,aC,a];simp
def XI (ks:List Nat) (ac:List ab) (k:Nat):aC (pS ks ac) k=if k∈ks then .dead else aC ac k:=by
 induction ks generalizing ac with
 | nil=>simp [pS]
 | cons x r a=>
  simp only [pS,a,FP,Bb]
  grind
def vV {tab:List Nat} {j k:Nat}:∀ {br:List (Nat×Nat)},k∈ES tab j br↔ ∃ i,(i,k)∈br/\cP (cV tab j) i=false
 | []=>by simp [ES]
 | (i,k')::r=>by
  simp only [ES];cases h:cP (cV tab j) i with
  | true=>
   simp only [cond_true,vV (br:=r),Bb,Ke]
   grind
  | false=>
   simp only [cond_false,Bb,vV (br:=r),Ke]
   grind
def aER (tab:List Nat) (j:Nat) (fr:List (Nat×aa)) (ac:List ab) (br:List (Nat×Nat)):aC (pS (ES tab j br) ac)=nK tab j (jB fr ac br):=by
 funext k;rw [XI];unfold nK;have:k∈ES tab j br↔QJ tab j (jB fr ac br).br k:=vV;by_cases h:k∈ES tab j br
 .grind
 .rw [if_neg h,if_neg λ e=>h (this.2 e)];rfl
def OK (bs:List ab):∀ (ac:List ab),AD ac ac.length bs=ac++bs:=by
 induction bs with
 | nil=>intro ac;simp [AD]
 | cons x r a=>
  intro ac;simp only [AD,L9];have:=a (ac++[x])
  grind
def qS (n:Nat):∀ (l:List ab),gZ n l=l.drop n:=by
 induction n with
 | zero=>intro l;rfl
 | succ n a=>intro l;cases l with
  | nil=>rfl
  | cons x r=>simp [gZ,a]
def oD {j i k:Nat}:∀ {l:List ab} {base:Nat} {br:List (Nat×Nat)},(i,k)∈born j base l br↔(i,k)∈br\/(i=j/\inB base l.length k)
 | [],base,br=>by simp [born,inB];omega
 | x::r,base,br=>by
  have a:=oD (j:=j) (i:=i) (k:=k) (l:=r) (base:=base+1) (br:=br);have e:born j base (x::r) br=(j,base)::born j (base+1) r br:=rfl;have hm:(i,k)∈(j,base)::born j (base+1) r br↔((i=j/\k=base)\/(i,k)∈br)\/(i=j/\inB (base+1) r.length k):=by grind
  rw [e,hm];unfold inB;rw [Al];constructor
  .grind
  grind
def uC {rest:List Oper} {n:Nat} {d:Option Nat} {fr:List (Nat×aa)} {v:aa} {k:List (Nat×aa)->Prop} (h:wrP rest n d fr v k):k (kW fr d v):=by
 unfold wrP at h;cases d with
 | none=>exact h
 | some d=>
  dsimp only at h;cases a:vT n rest with
  | false=>rw [a] at h;exact h
  | true=>
   rw [a] at h;simp only [cond_true] at h;split at h
   .rename_i b;cases b with
    | true=>exact h.1 rfl
    | false=>exact h.2 rfl
   grind
def aD0 (fr:List (Nat×aa)) (ac:List ab) (br:List (Nat×Nat)) (n:Nat) (d:Option Nat) (z:aa) (bs:List ab):
  jB (kW fr d z) (AD ac (aM ac) bs) (born n (aM ac) (gZ (aM ac) (AD ac (aM ac) bs)) br)=(jB fr ac br).upd n d z (aM ac) bs:=by
 rw [bG,OK,qS,Jj];unfold jB AS.upd;rw [eK];congr 1
 .funext k;show _=nE (aC ac) ac.length bs k;unfold nE;by_cases h:inB ac.length bs.length k
  .rw [if_pos h];have a:k-ac.length<bs.length:=by have:=h.1;have:=h.2;omega
   refine gB ?_;rw [Ak h.1,Fb,Aa a];rfl
  .rw [if_neg h];by_cases c:k<ac.length
   .rcases eV ac k with ⟨h1,e⟩ | ⟨h1,_⟩
    .exact gB (by rw [Ag c];exact e)
    .omega
   .have b:ac.length+bs.length<=k:=by refine Nat.le_of_not_lt λ f=>h ⟨by omega,f⟩
    rcases eV (ac++bs) k with ⟨h1,_⟩ | ⟨_,_,e⟩
    .grind
    .rcases eV ac k with ⟨h1,_⟩ | ⟨_,_,g⟩
     .omega
     grind
 .funext i k;exact propext oD
structure LI (L0 n:Nat) (ac:List ab) (br:List (Nat×Nat)):Prop where
 low:L0<=aM ac
 all:∀ k,L0<=k->k<aM ac->∃ i,(i,k)∈br
 lt:∀ i k,(i,k)∈br->k<aM ac/\i<n
def LI.wf {L0 n:Nat} {ac:List ab} {br:List (Nat×Nat)} (h:LI L0 n ac br) (fr:List (Nat×aa)):WF L0 (jB fr ac br):=λ k b a=>by
 rcases eV ac k with ⟨h1,_⟩ | ⟨_,_,e⟩
 .obtain ⟨i,c⟩:=h.all k b (by rw [bG];exact h1);exact absurd c (a i)
 .exact e
def LI.put {L0 n:Nat} {ac:List ab} {br:List (Nat×Nat)} (h:LI L0 n ac br) {ap:List ab} (hl:aM ac<=aM ap):LI L0 (n+1) ap (born n (aM ac) (gZ (aM ac) ap) br):=by
 have f:(gZ (aM ac) ap).length=aM ap-aM ac:=by rw [qS,Ei,bG ap]
 refine ⟨Cz h.low hl,λ k h1 d=>?_,λ i k c=>?_⟩
 .by_cases c:k<aM ac
  .obtain ⟨i,e⟩:=h.all k h1 c;exact ⟨i,oD.2 (.inl e)⟩
  .exact ⟨n,oD.2 (.inr ⟨rfl,by omega,by omega⟩)⟩
 .rcases oD.1 c with c | ⟨rfl,h1,d⟩
  .obtain ⟨a,b⟩:=h.lt i k c;omega
  omega
def CallG.mono {P:Program} {f:Fn} {args:List aa} {ac:List ab} {K c Kp:aa->List ab->Prop} (d:∀ v o,K v o->c v o) (h:CallG P f args ac K Kp):CallG P f args ac c Kp:=by
 cases h with
 | pure r new h k=>exact .pure r new h (d _ _ k)
 | eff b ks r ap a h k=>exact .eff b ks r ap a h (d _ _ k)
 | effp b ks r ap a h k=>exact .effp b ks r ap a h k
 | pan r h k=>exact .pan r h k
def qR {P:Program} {e j bl:Bool} {d ac:List ab} {base:Nat} {K g Kp:aa->List ab->Prop} (a:∀ v o,K v o->g v o):∀ {r:OR},orD P e j bl d ac base K Kp r->orD P e j bl d ac base g Kp r
 | .no,k=>k.elim
 | .val v,k=>a _ _ k
 | .mkf fn fs cs,k=>a _ _ k
 | .need p r,k=>⟨k.1,qR a k.2⟩
 | .alt p v w,k=>k.imp (λ h=>⟨h.1,a _ _ h.2⟩) (a _ _)
 | .idx n f,⟨i,hi,k⟩=>⟨i,hi,qR a k⟩
 | .elem xs i f,⟨x,hx,k⟩=>⟨x,hx,qR a k⟩
 | .byte l i,⟨c,hc,k⟩=>⟨c,hc,a _ _ k⟩
 | .text xs,⟨l,hl,hm,k⟩=>⟨l,hl,hm,a _ _ k⟩
 | .find es key f,⟨o,ho,k⟩=>⟨o,ho,qR a k⟩
 | .born x v,k=>by cases bl with
  | true=>exact k.elim
  | false=>exact a _ _ k
 | .upd i x v,k=>by
  simp only [orD] at k⊢
  grind
 | .nilq xs neg,k=>by cases e with
  | true=>exact λ b q=>a _ _ (k b q)
  | false=>exact k.elim
 | .call f args,k=>by
  cases bl with
  | true=>exact k.elim
  | false=>
   have k:CallD P f args e d base ac K Kp:=k;show CallD P f args e d base ac g Kp;cases k with
   | pure r new h k=>exact .pure r new h (a _ _ k)
   | sole h1 m=>exact .sole h1 (m.mono a)
 | .pan v,k=>by cases e with
  | true=>exact k
  | false=>exact k.elim
def CD {P:Program} {b bl:Bool} {a ac:List ab} {base:Nat} {K Kp:aa->List ab->Prop}:∀ {r:OR},orD P true b bl a ac base K Kp r->orD P true true bl a ac base K Kp r
 | .no,k=>k
 | .val v,k=>k
 | .mkf fn fs cs,k=>k
 | .need p r,k=>⟨k.1,CD k.2⟩
 | .alt p v w,k=>k
 | .idx n f,⟨i,hi,k⟩=>⟨i,hi,CD k⟩
 | .elem xs i f,⟨x,hx,k⟩=>⟨x,hx,CD k⟩
 | .byte l i,k=>k
 | .text xs,k=>k
 | .find es key f,⟨o,ho,k⟩=>⟨o,ho,CD k⟩
 | .born x v,k=>k
 | .upd i x v,k=>k
 | .nilq xs neg,k=>k
 | .call f args,k=>k
 | .pan v,k=>k
def ZF (fr:List (Nat×aa)) (ac:List ab) (br:List (Nat×Nat)) (n:Nat) (d:Option Nat) (z:aa) (k:Nat) (x:ab) (a:k<aM ac):
  jB (kW fr d z) (bJ ac k x) (born n (aM ac) (gZ (aM ac) (bJ ac k x)) br)=(jB fr ac br).turn d z k x:=by
 have hl:(bJ ac k x).length=ac.length:=by rw [gK _ (by rwa [bG] at a)];simp
 have e:gZ (aM ac) (bJ ac k x)=[]:=by rw [qS,bG,<-hl];simp
 rw [e];unfold jB AS.turn;rw [eK];congr 1;funext k';exact FP ac k k' x
structure TabSp (ops:Array Oper) (tab:List Nat):Prop where
 back:∀ (j:Nat) p,ops[j]? =some p->∀ e∈p.after,Jp .any e=true->e.on<j
 less:∀ i j,cP (cV tab i) j=true->j<i
 step:∀ (j:Nat) p,ops[j]? =some p->∀ i,cP (cV tab j) i=true->∃ e∈p.after,Jp .any e=true/\(e.on=i\/cP (cV tab e.on) i=true)
 out:∀ j i,cP (cV tab j) i=true->j<ops.size
 dst:∀ (i j:Nat) p q,ops[i]? =some p->ops[j]? =some q->loose tab i j=true->∀ t,p.dst=some t->q.dst≠some t
def rS {tab:List Nat} {j:Nat}:∀ {l:List Oper} {n:Nat},sole tab j n l=true->∀ i,i<l.length->loose tab (n+i) j=false
 | [],_,_,i,hi=>by simp at hi
 | x::r,n,h,i,hi=>by
  simp only [sole,Ad,Cx] at h;cases i with
  | zero=>exact h.1
  | succ i=>
   have:=rS h.2 i (by grind)
   grind
section
variable {E:Env} {ops:Array Oper} {tab:List Nat} {L0:Nat} {Kp:(Nat->aa)->aa->List ab->Prop} {Kq:List (Nat×aa)->List ab->Prop}
def nB.step (n:TabSp ops tab) {a:Array Bool} (f:nB tab a) {j:Nat} (m:j∈Dz .any ops a):nB tab (a.setIfInBounds j true)/\∀ i,cP (cV tab j) i=true->a.getD i false=true:=by
 obtain ⟨_,p,hp,b⟩:=mem_ready.1 m;have key:∀ i,cP (cV tab j) i=true->a.getD i false=true:=λ i o=>by
  obtain ⟨e,d,k,h | h⟩:=n.step j p hp i o
  .subst h;exact b e d k
  .exact f e.on i (b e d k) h
 refine ⟨λ l i h1 g=>getD_set_true ?_,key⟩;by_cases c:j=l
 .subst c;exact key i g
 .rw [getD_set_ne false c] at h1;exact f l i h1 g
def qL (e:TabSp ops tab) {a:Array Bool} (l:nB tab a) {i j:Nat} (m:i∈Dz .any ops a) (f:j∈Dz .any ops a) (d:i≠j):loose tab i j=true:=by
 have g:∀ {k:Nat},k∈Dz .any ops a->a.getD k false=true->False:=λ{k} hk h=>by
  obtain ⟨n,p,hp,_⟩:=mem_ready.1 hk;rw [Bj] at n h;cases c:a[k]? with
  | none=>simp_all
  | some b=>simp_all
 refine nR.2 ⟨d,?_,?_⟩
 .cases c:cP (cV tab j) i with
  | false=>rfl
  | true=>exact (g m ((l.step e f).2 i c)).elim
 .cases c:cP (cV tab i) j with
  | false=>rfl
  | true=>exact (g f ((l.step e m).2 j c)).elim
def Qf (L0:Nat) (Kq:List (Nat×aa)->List ab->Prop) (s:AS):Prop:=∃ fr ac br n,s=jB fr ac br/\LI L0 n ac br/\Kq fr ac
def aF0 (F:TabSp ops tab):∀ (l:List Oper) (n:Nat) (a:Array Bool) (br:List (Nat×Nat)) (fr:List (Nat×aa)) (ac:List ab),
  l=ops.toList.drop n->(∀ j,j<ops.size->a[j]? =some (decide (j<n)))->a.size=ops.size->LI L0 n ac br->iJ E ops.toList tab Kq Kp n l br fr ac->
  wpA E ops tab L0 Kp (Qf L0 Kq) l.length a (jB fr ac br)
 | [],n,a,br,fr,ac,hl,hlist,hsz,hI,h=>by
  refine ⟨?_,fr,ac,br,n,rfl,hI,h⟩;have J:ops.size<=n:=by simp_all
  refine Hu.2 λ j I=>?_;obtain ⟨h0,q,H,_⟩:=mem_ready.1 I;have D:=(Ez.1 H).1;rw [Bj,hlist j D] at h0;simp at h0;omega
 | p::l,n,a,br,fr,ac,hl,hlist,hsz,hI,h=>by
  have t:ops[n]? =some p:=by
   have:(ops.toList.drop n)[0]? =some p:=by grind
   simpa using this
  have hnlt:n<ops.size:=(Ez.1 t).1;have O:l=ops.toList.drop (n+1):=by rw [<-Hk,<-hl];rfl
  have D:∀ j,a.getD j false=true↔j<n:=by
   intro j;rw [Bj];by_cases I:j<ops.size
   .simp_all
   .rw [Mk o_];simp;omega
  have f:nB tab a:=λ j i h1 y=>(D i).2 (Ni (F.less j i y) ((D j).1 h1));have c:n∈Dz .any ops a:=by refine mem_ready.2 ⟨?_,p,t,λ e he M=>(D _).2 (F.back n p t e he M)⟩;rw [Bj,hlist n hnlt];simp
  have r:∀ j,j<ops.size->(a.setIfInBounds n true)[j]? =some (decide (j<n+1)):=by
   intro j I;by_cases Z:n=j
   .subst Z;rw [Ep o_];simp
   .rw [Eu Z,hlist j I];simp;omega
  have C:(a.setIfInBounds n true).size=ops.size:=by simp;omega
  have hw:=hI.wf fr;have L:∀ {bs:List ab},fresh (jB fr ac br) (aM ac) bs:=λ{bs} k J i M=>by have:=(hI.lt i k M).1;have:=J.1;omega
  have ahead:∀ {i:Nat},i<ops.size->i∈Dz .any ops a->i≠n->loose tab n i=true:=λ_ hi G=>qL F f c hi (Em G);simp only [iJ] at h;rw [aKg] at h
  -- on,where the operation bears bs at the end
  have on:∀ {z:aa} {bs:List ab},iJ E ops.toList tab Kq Kp (n+1) l (born n (aM ac) (gZ (aM ac) (AD ac (aM ac) bs)) br) (kW fr p.dst z) (AD ac (aM ac) bs)->
    wpA E ops tab L0 Kp (Qf L0 Kq) l.length (a.setIfInBounds n true) ((jB fr ac br).upd n p.dst z (aM ac) bs):=λ{z bs} X=>by
   rw [<-aD0];refine aF0 F l (n+1) _ _ _ _ O r C (hI.put ?_) X;rw [bG,bG,OK];simp
  have S:AD ac (aM ac) []=ac:=rfl;have brn:born n (aM ac) (gZ (aM ac) ac) br=br:=by
   have:gZ (aM ac) ac=[]:=by rw [qS,bG];simp
   rw [this];rfl
  have skip:iJ E ops.toList tab Kq Kp (n+1) l br (kW fr p.dst (.tup [])) ac->wpA E ops tab L0 Kp (Qf L0 Kq) l.length (a.setIfInBounds n true) ((jB fr ac br).upd n p.dst (.tup []) (aM ac) []):=λ X=>on (by rw [S,brn];exact X);have oth:(∀ j,ops[j]?≠none->loose tab n j=true->sole tab j 0 ops.toList=false)->R8 E ops tab n p.dst:=λ h U j hc' hi' Q G=>by have d:=qL F hc' hi' Q (Em G);obtain ⟨_,q,H,_⟩:=mem_ready.1 Q;exact ⟨(hc'.step F Q).1,h j (by rw [H];simp) d,d,λ q H=>F.dst n j p q t H d⟩
  have K:∀ j,ops[j]?≠none->loose tab n j=true->sole tab j 0 ops.toList=false:=λ j I d=>by
   cases H:sole tab j 0 ops.toList with
   | false=>rfl
   | true=>
    have:=rS H n o_;rw [Bo,d] at this;cases this
  have s:=oth K
  -- where an object is turned
  have onU:∀ {z:aa} {k:Nat} {x:ab},k<aM ac->iJ E ops.toList tab Kq Kp (n+1) l (born n (aM ac) (gZ (aM ac) (bJ ac k x)) br) (kW fr p.dst z) (bJ ac k x)->
    wpA E ops tab L0 Kp (Qf L0 Kq) l.length (a.setIfInBounds n true) ((jB fr ac br).turn p.dst z k x):=λ{z k x} J X=>by
   rw [<-ZF fr ac br n p.dst z k x J];refine aF0 F l (n+1) _ _ _ _ O r C (hI.put ?_) X;rw [bG,bG,gK _ (by rwa [bG] at J)];simp
  have B:(sole tab n 0 ops.toList=true->blD E p.dst=true)->(cF ops.toList (evG tab ops.toList n (aX fr)) p.guard=some true->
    orD E.P false (uoN E tab ops.toList n p.dst) (blD E p.dst) (pL E tab n br ac p.dst) ac (aM ac) (λ v ap=>wrP l n p.dst fr v λ fr=>iJ E ops.toList tab Kq Kp (n+1) l (born n (aM ac) (gZ (aM ac) ap) br) fr ap) (Kp (aX fr))
     (eop E (eW E p.dst) (aM ac) (aC (pL E tab n br ac p.dst)) (evG tab ops.toList n (aX fr)) p.op p.type))->
    (cF ops.toList (evG tab ops.toList n (aX fr)) p.guard=some false->iJ E ops.toList tab Kq Kp (n+1) l br (kW fr p.dst (.tup [])) ac)->
    cF ops.toList (evG tab ops.toList n (aX fr)) p.guard≠none->wpA E ops tab L0 Kp (Qf L0 Kq) (l.length+1) a (jB fr ac br):=λ hs1 h1 y h3=>by
   have w:aC (pL E tab n br ac p.dst)=kU E tab n p.dst (jB fr ac br):=by
    unfold pL kU;cases m:blD E p.dst with
    | true=>rfl
    | false=>simp only [cond_false];rw [if_neg s_];exact aER tab n fr ac br
   cases o:cF ops.toList (evG tab ops.toList n (aX fr)) p.guard with
   | none=>simp_all
   | some b=>
    cases b with
    | false=>exact aCH t hs1 s l.length a _ f hw c (z:=.tup []) (base:=aM ac) (bs:=[]) ⟨hI.low,λ_=>rfl,.inl ⟨o,rfl,rfl⟩⟩ L (skip (y o))
    | true=>
     have h:=h1 o;rcases qQ h with ⟨z,bs,q0,R,q2⟩ | ⟨z,k,x,q0,R,q2,q3⟩
     .rw [w] at R;exact aCH t hs1 s l.length a _ f hw c ⟨hI.low,q0,.inr ⟨o,R⟩⟩ L (on (uC q2))
     .obtain ⟨u1,u2⟩:=aU q0;have m:blD E p.dst=false:=by simpa using u2
      have e:kU E tab n p.dst (jB fr ac br)=nK tab n (jB fr ac br):=by unfold kU;rw [m,if_neg s_]
      rw [w,e] at R q2;have hkl:k<aM ac:=by
              refine Nat.lt_of_not_le λ hge=>R ?_;unfold nK;split
              .rfl
              .rcases eV ac k with ⟨h1,_⟩ | ⟨_,_,e⟩
               .rw [bG] at hge;omega
               .exact e
      exact aKa t ⟨u1,m⟩ s l.length a _ f hw c ⟨⟨hI.low,λ i M=>by have:=(hI.lt i _ M).1;omega⟩,o,R,q2⟩ (onU hkl (uC q3))
  have V:cF ops.toList (evG tab ops.toList n (aX fr)) p.guard≠none:=λ e=>by simp_all
  have u:cF ops.toList (evG tab ops.toList n (aX fr)) p.guard=some false->iJ E ops.toList tab Kq Kp (n+1) l br (kW fr p.dst (.tup [])) ac:=λ e=>by rw [e] at h;exact h
  cases m:blD E p.dst with
  | true=>
   refine B (λ_=>m) (λ e=>?_) u V;rw [e] at h;have:soN E tab ops.toList n p.dst=false:=by simp [soN,m]
   rw [this] at h;exact h
  | false=>
  cases A:sole tab n 0 ops.toList with
  | false=>
   refine B (λ e=>by rw [A] at e;cases e) (λ e=>?_) u V;rw [e] at h;have:soN E tab ops.toList n p.dst=false:=by simp [soN,A]
   rw [this] at h;exact h
  | true=>
   have T:∀ j,j∈Dz .any ops a->j=n:=λ j I=>by refine Lk λ G=>?_;have d:=qL F f I c G;obtain ⟨_,q,H,_⟩:=mem_ready.1 I;have hjlt:=(Ez.1 H).1;have:=rS A j o_;rw [Bo,d] at this;cases this
   have W:ES tab n br=[]:=by
    refine Hu.2 λ k J=>?_;obtain ⟨i,h1,y⟩:=vV.1 J;have hin:=(hI.lt i k h1).2;have:=rS A i q_;rw [Bo] at this
    have hl2:loose tab i n=true:=nR.2 ⟨by omega,y,by
     cases H:cP (cV tab i) n with
     | false=>rfl
     | true=>have:=F.less i n H;omega⟩
    rw [hl2] at this;cases this
   have N:pL E tab n br ac p.dst=ac:=by unfold pL;rw [m,W];rfl
   have Y:soN E tab ops.toList n p.dst=true:=by simp [soN,A,m]
   rw [N,Y,m] at h;refine ⟨λ h=>(by rw [h] at c;cases c),λ j I=>?_⟩;obtain rfl:=T j I;refine ⟨p,t,.inr (.inr ⟨⟨A,m⟩,ac,rfl,hI.low,λ k h1 y=>hI.all k h1 y,λ i k M=>(hI.lt i k M).1,?_⟩)⟩;cases o:cF ops.toList (evG tab ops.toList j (aX fr)) p.guard with
   | none=>rw [o] at h;exact h.elim
   | some b=>
    rw [o] at h;cases b with
    | false=>
     refine .inl ⟨o,?_⟩;have e:(jB fr ac br).upd j p.dst (.tup []) L0 []=(jB fr ac br).upd j p.dst (.tup []) (aM ac) []:=by
      unfold AS.upd;congr 1
      .funext k;unfold nE;rw [if_neg λ h=>by have h1:=h.1;have y:=h.2;simp at y;omega,if_neg λ h=>by have h1:=h.1;have y:=h.2;simp at y;omega]
      .funext i k;refine propext (or_congr Np ⟨λ h=>?_,λ h=>?_⟩)<;>(have h1:=h.2.1;have y:=h.2.2;simp at y;omega)
     rw [e];exact skip h
    | true=>
     dsimp only at h;refine .inr ⟨o,qR (λ v ap J hle=>?_) (CD h)⟩;have hk2:=uC J;have:=aF0 F l (j+1) _ _ _ _ O r C (hI.put hle) hk2;have e:jB (kW fr p.dst v) ap (born j (aM ac) (gZ (aM ac) ap) br)=⟨iS (jB fr ac br).g p.dst v,aC ap,λ i' k=>(jB fr ac br).br i' k\/(i'=j/\aM ac<=k/\k<aM ap)⟩:=by unfold jB;rw [eK];congr 1;funext i k;refine propext (oD.trans (or_congr Np (and_congr Np ?_)));unfold inB;rw [qS,Ei,bG ap];omega
     rw [<-e];exact this
end
end Go.AW
