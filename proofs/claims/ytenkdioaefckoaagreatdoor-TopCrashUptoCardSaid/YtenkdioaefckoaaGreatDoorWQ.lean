/- Part 2 of what the statement rests on. -/
import Derived.Lib.ConvBytes
import Derived.MapKept
import Derived.WalkSmall
import Derived.Carry
import Derived.Orders
import Derived.Test.YtenkdioaefckoaaGreatDoorWP
set_option linter.all false
open List renaming length->Z
open Bool renaming true->O,false->S
open Option renaming some->X,none->U
open Array renaming ext'->Eg,getD_eq_getD_getElem?->Cm,getElem?_eq_some_iff->Fe,range->Nh,setIfInBounds_comm->Iw,toList_map->Kc
open Bool renaming and_eq_true->Af,false_eq_true->Cy,not_eq_true'->Db
open Go.Builtin renaming append_->Cr,clear_->Jt,copy_->Km,delete_->Ky,firstCells->Ci,len_->Fp,zeroCells->Cf
open Go.Instr renaming alloc->Nj,buildSlice->Ke,checkKey->Hv,field->Mu,fieldAt->Lv,findAsking->Kf,findKey->Lx,findNow->Lw,index->Lr,indexAt->Ib,loadAt->Mi,lookup->Mj,mapUpdate->Kx,sameBits->Ju,slice->Lt,sliceAt->Gu,sliceBound->Kd,sliceBounds->Gh,storeAt->Kl,sureAddr->Ij,typeAssert->Kh
open Go.Region renaming binds->Js,ready->Dy
open Go.Result renaming andThen->Es,andThen_ok->Aq
open Go.Sem renaming run_bind->Bd,run_pure->Bu
open Go.Value renaming iface->Mv,int->Em,ownBlock->Ge,slice->Gt
open Go.World renaming block_lt_of_cell?->Ct,cell?_of_block->Cs,ownsRow_nil->Hh
open Int renaming le_refl->Ei,toNat_natCast->Bm
open List renaming append_nil->Ap,eq_nil_iff_forall_not_mem->Ki,eq_nil_of_length_eq_zero->Bb,ext_getElem?->Ez,foldl_cons->Ao,getD_eq_getElem?_getD->Ha,getElem?_append_left->Ai,getElem?_append_right->Ar,getElem?_cons_zero->Mc,getElem?_drop->Dd,getElem?_eq_getElem->Ab,getElem?_eq_none->Bk,getElem?_eq_some_iff->Ad,getElem?_map->Bw,getElem?_of_mem->Cu,getElem?_set_ne->Bf,getElem?_set_self->Ay,getElem?_take->Li,getElem?_take_of_lt->Bj,length_append->Ah,length_cons->Al,length_drop->Dq,length_map->Cb,length_nil->Bs,length_replicate->Ga,map_cons->Bg,mem_cons->Ba,mem_of_getElem?->Ax,mem_of_mem_drop->Ff,mem_of_mem_take->Cw,mem_replicate->Jd,prefix_refl->Cp,range->Df,replicate->Ak,take_length->Hr,take_of_length_le->Bq,take_zero->Jp
open Nat renaming add_assoc->Kk,add_mul->Cg,add_sub_cancel_left->Jh,add_zero->Fj,beq->Au,ble->Fv,div_add_mod->Fy,le_of_ble_eq_true->Cj,le_refl->Bc,le_trans->Cl,min_eq_left->Gl,mod_lt->Ef,mul_comm->Cz,mul_le_mul_right->Br,one_mul->Ii,zero_add->Bv,zero_le->Bn,zero_mul->Mf
open Ne renaming symm->Gs
open Option renaming isSome_iff_exists->Da,isSome_none->Jc,map_eq_some_iff->Cd,none->Ni
open Option.some renaming injEq->Fa
namespace Go.AW
open Go.RowKit
section
variable {P:Program} {E:Env} {M:Imm} {ob:Hs} {ac:aw} {w:World} {base:Nat}
def aV{s:Sem Value}{v:aa}{u:Value}(h:s.run P w= .ok u w)(a:Rep M ob u v):PS0 P M ob w s ac base (.val v):=⟨rfl,u,h,a⟩
def aMY{b o:Nat}(l:az)(h:∀(i:Nat) c,l[i]? =X c->∃u,w.cell? ⟨b,o+i,U⟩=X u/\Rep M ob u c):
  ∃vs:bb,Z vs=Z l/\(∀(j:Nat) u,vs[j]? =X u->w.cell? ⟨b,o+j,U⟩=X u)/\∀(i:Nat) v a,vs[i]? =X v->l[i]? =X a->Rep M ob v a:=by
 refine⟨(Df (Z l)).map λq=>(w.cell? ⟨b,o+q,U⟩).getD undef,by simp,λj u e=>?_,λi v a k g=>?_⟩
 .simp only[Bw]at e;by_cases d:j<Z l
  .obtain ⟨m,f,_⟩:=h j _ (Ab d);simp_all
  grind
 grind[Ad]
def B0{t:Nat}{a:TI}(h:xS P t a.agg a.size a.kind)(hs:(P.info? t).map (·.size)=X a.size){b o:Nat}{vs:bb}(hl:Z vs=a.size)
  (g:∀(j:Nat) u,vs[j]? =X u->w.cell? ⟨b,o+j,U⟩=X u) (u:Value) (i:a.agg=O->u= .agg vs.toArray) (d:a.agg=S->vs=[u]):
  (loadVar t ⟨b,o,U⟩).run P w= .ok u w:=by
 obtain⟨h1,k⟩:=h.isAgg;unfold loadVar;simp only[Bd,AM h1,Aq,k];cases f:a.agg with
 |true=>
  have c:=run_loadCells_list (P:=P) w ⟨b,o,U⟩ vs (λj v e=>by rw[bI];exact g j v e);rw[hl]at c;simp only[if_true,Bd,af hs,Aq,c,Bu,i f]
 |false=>
  have e:=d f;have:=g 0 u (by rw[e];rfl);rw[Fj]at this;simp only[Cy,if_false,run_load,this]
def aLb{b:TI}{l:az}{a:aa}(h:mk b l=X a):(b.agg=O/\a= .agg l)\/(b.agg=S/\l=[a]):=by
 unfold mk at h
 grind
def R0{t:Nat}{j:TI}(d:TIOK P t j){b o:Nat}{l:az}{a:aa}(k:mk j l=X a)(hl:Z l=j.size)
  (h:∀(i:Nat) c,l[i]? =X c->∃u,w.cell? ⟨b,o+i,U⟩=X u/\Rep M ob u c):∃u,(loadVar t ⟨b,o,U⟩).run P w= .ok u w/\Rep M ob u a:=by
 obtain⟨vs,e,g,f⟩:=aMY l h;rcases aLb k with⟨m,rfl⟩|⟨m,rfl⟩
 .exact ⟨.agg vs.toArray,B0 d.kind d.size? (e.trans hl) g _ (λ_=>rfl) (λh=>by grind),.agg vs l e f⟩
 .match vs,e with
  |[u],_=>exact⟨u,B0 d.kind d.size? o_ g u (λh=>by grind) (λ_=>rfl),f 0 u a rfl rfl⟩
def aAW{t:Nat}{d:TI}(f:TIOK P t d){b o off:Nat}{cs:az}
  (h:∀(i:Nat) c,cs[off+i]? =X c->∃u,w.cell? ⟨b,o+i,U⟩=X u/\Rep M ob u c):PS0 P M ob w (Mi t (.pointer (X ⟨b,o,U⟩))) ac base (fin d (nO d.size (lT off cs))):=by
 unfold fin;split
 .exact trivial
 .rename_i l hl;split
  .exact trivial
  .rename_i a e;obtain⟨h1,m⟩:=kH hl;obtain⟨u,k,g⟩:=R0 f e h1 (b:=b) (o:=o) (M:=M) (ob:=ob) (w:=w) λi c j=>by grind[nQ]
   refine aV (u:=u) ?_ g;unfold Mi Ij
   grind
def dY.cell{v:Value}{f:Nat}{e:TypeId}{xs:az}(h:dY M w v f e xs){b:Nat}{n c:Nat}(m:v= .slice (X ⟨b,0,U⟩) n c){i j:Nat}{x a:aa}(d:xs[i]? =X x)(o:x.cells[j]? =X a):
  ∃u,w.cell? ⟨b,i*f+j,U⟩=X u/\Rep M [] u a:=by
 obtain⟨cv,h1,_,h3,l,_⟩:=h;obtain⟨u,k,g⟩:=l _ a (LM d o (h3 x (Ax d)));exact⟨u,fU h1 (by rw[m];rfl) k,g⟩
def cK{k:Nat}{x:ab}(h:aC ac k=x)(a:x≠ .dead):ac[k]? =X x:=bK h a
def aBi(hE:ae E)(hm:Mem M ob ac w){t:Nat}{v:Value}{a:aa}(y:Rep M ob v a):PS0 E.P M ob w (Mi t v) ac base (aBj E (aC ac) t a):=by
 unfold aBj;split
 .exact trivial
 .rename_i C N;have h:=hE.tab t C N;split
  .rename_i cs;obtain⟨b,o,rfl,L⟩:=y.ptr_inv;refine aAW (off:=0) (cs:=cs) h λi c l=>?_;rw[Bv]at l;obtain⟨u,s,_,p⟩:=hm.imm b _ c (L i c l);exact⟨u,s,p.pure⟩
  .rename_i k off;obtain⟨b,rfl,m⟩:=y.ref_inv;split
   .rename_i cs f;obtain⟨hs,h1,H,rfl,_,cv,F,r,_,d⟩:=hm.obj k _ (cK f s_);rw[cG h1]at m;cases m;refine aAW h λi c l=>?_;have q:off+i<Z cv:=by rw[r];exact(Ad.1 l).1
    exact⟨cv[off+i],by rw[cell_of_row w b _ _ _ (0,0) F];simp[q],d _ _ c (Ab q) l⟩
   .rename_i cs f;obtain⟨hs,h1,H,rfl,d⟩:=hm.obj k _ (cK f s_);rw[cG h1]at m;cases m;refine aAW h λi c l=>?_;obtain⟨u,s,_,p⟩:=hm.imm b _ c (d _ c l);exact⟨u,s,p.pure⟩
   .exact trivial
  .rename_i k g i G off;cases y with
   |eref k g i G off b n c m=>
   split
   .rename_i Q As e xs f;refine sdc λJ=>?_;obtain⟨A,z⟩:=aZ J;obtain rfl:=aE A;obtain rfl:=aE z;intro x B;obtain⟨hs,v,h1,R,h3,I,D,_⟩:=hm.rowOf (cK f s_);rw[I]at m;cases m;refine aAW h λj c K=>?_;obtain⟨u,s,p⟩:=D.cell rfl B K;exact⟨u,by grind,p.pure⟩
   .exact trivial
  .exact trivial
def P0{t:Nat}{b off:Nat}(h1:(P.info? t).map (·.size)=X b)(c:(P.underlying t).isSome=O)(vs:bb)(u:Value)
  (d:aR P t=O->u= .agg ((vs.drop off).take b).toArray) (e:aR P t=S->vs[off]? =X u):(part t vs.toArray off).run P w= .ok u w:=by
 unfold part;simp only[Bd,AM c,Aq];cases a:aR P t with
 |true=>
  simp only[if_true,Bd,af h1,Aq,Bu,d a];simp
 |false=>simp[e a]
def aF5{vs:bb}{cs:az}(h:cL M ob vs cs){b off:Nat}{l:az}(j:nO b (lT off cs)=X l):cL M ob ((vs.drop off).take b) l:=by
 obtain⟨h1,d⟩:=kH j;rw[nQ]at d;have hl:=h.1;have c:Z ((vs.drop off).take b)=Z l:=by
  have:b<=Z (cs.drop off):=by
   rcases Nat.eq_zero_or_pos b with m|m
   .omega
   .have:=d (b-1) _ (Ab o_);have:=(Ad.1 this).1;omega
  simp at this;simp;omega
 refine⟨c,λi v a e k=>?_⟩;have f:=d i a k;rw[Dd]at f;have g:i<b:=by rw[<-h1];grind
 rw[Bj g,Dd]at e;exact h.2 _ v a e f
def FF{t:Nat}{f off:Nat}(h1:(P.info? t).map (·.size)=X f)(j:(P.underlying t).isSome=O){vs:bb}{cs:az}(h:cL M ob vs cs)
  {l:az} (k:nO f (lT off cs)=X l) {a:aa} (b:aR P t=O->a= .agg l) (c:aR P t=S->l=[a]):∃u,(part t vs.toArray off).run P w= .ok u w/\Rep M ob u a:=by
 have hp:=aF5 h k;cases m:aR P t with
 |true=>
  rw[b m];exact⟨_,P0 h1 j vs _ (λ_=>rfl) (λe=>by grind),.agg _ l hp.1 hp.2⟩
 |false=>
  have i:=c m;subst i;obtain⟨n,o⟩:=hp;have d:f=1:=by have:=(kH k).1;simpa using this.symm
  subst d;have p:((vs.drop off).take 1)[0]? =vs[off]?:=by grind
  have g:0<Z ((vs.drop off).take 1):=by rw[n];simp
  refine⟨((vs.drop off).take 1)[0],P0 h1 j vs _ (λe=>by grind) (λ_=>?_),o 0 _ a (Ab g) rfl⟩;simp
def aHX(hE:ae E){s f:Nat}{v:Value}{a:aa}(r:Rep M ob v a):PS0 E.P M ob w (Mu s v f) ac base (XR E s a f):=by
 unfold XR;split
 .rename_i G _ _ _ B;have j:=hE.tab s _ B;obtain⟨⟨b,q,p⟩,_⟩:=j.kind;split
  .exact trivial
  .rename_i off H C o;obtain⟨g,k,D,A,y,F⟩:=p.get o;split
   .rename_i cs;split
    .exact trivial
    .rename_i l hl;obtain⟨vs,rfl,d,n⟩:=r.agg_inv;have key:∀x,(aR E.P g.type=O->x= .agg l)->(aR E.P g.type=S->l=[x])->PS0 E.P M ob w (Mu s (.agg vs.toArray) f) ac base (.val x):=by
      intro x h1 z;obtain⟨u,h,i⟩:=FF (P:=E.P) (w:=w) (t:=g.type) A y ⟨d,n⟩ hl h1 z;refine aV (u:=u) ?_ i;have c:b[f]? =X g:=by simpa using k
      unfold Mu;simp only[Bd,run_underlying q,Aq,c,asAgg,Bu,D,h]
     cases m:C with
     |true=>exact key _ (λ_=>rfl) (λe=>by grind)
     |false=>
      simp only[cond_false];split
      .exact key _ (λe=>by grind) (λ_=>rfl)
      .exact trivial
   .exact trivial
 .exact trivial
def N7(hE:ae E){s f:Nat}{v:Value}{a:aa}(k:Rep M ob v a):PS0 E.P M ob w (Lv s v f) ac base (xL E s a f):=by
 unfold xL;split
 .rename_i C _ _ _ y;have m:=hE.tab s _ y;obtain⟨⟨d,t,r⟩,_⟩:=m.kind;split
  .exact trivial
  .rename_i off p G q;obtain⟨u,A,z,x,D,B⟩:=r.get q;have g:d[f]? =X u:=by simp_all
   cases hz:Au p 0 with
   |true=>exact trivial
   |false=>
    simp only[cond_false];have h:¬ p=0:=λe=>by simp_all
    have key:∀i,(Lv s (.pointer (X i)) f).run E.P w= .ok (.pointer (X (i.add off))) w:=λi=>by unfold Lv Ij fieldPlace;simp only[Bd,run_underlying t,Aq,g,Bu,af x,bt h,z]
    split
    .obtain ⟨b,o,rfl,F⟩:=k.ptr_inv;refine aV (key _) ?_;rw[bI];exact .ptr b (o+off) _ λj c H=>by grind[nQ]
    .obtain ⟨b,rfl,l⟩:=k.ref_inv;refine aV (key _) ?_;rw[bI];exact .ref _ _ b l
    .cases k with
     |eref _ _ _ _ _ b n c l=>
      refine aV (key _) ?_;rw[bI,Kk];exact .eref _ _ _ _ _ b n c l
    .exact trivial
 .exact trivial
def dY.len{v:Value}{a:Nat}{e:TypeId}{xs:az}(h:dY M w v a e xs):(v= .slice U 0 0/\xs=[])\/∃b cap,v= .slice (X ⟨b,0,U⟩) (Z xs) cap/\v.ownBlock=X b/\Z xs<=cap/\cap<=maxLen:=by
 obtain⟨cv,h1,_⟩:=h
 grind[dW,Bb]
theorem gZ:(maxLen:Int)<=9223372036854775807:=by decide
def N6(hE:ae E)(hm:Mem M ob ac w){t:Nat}{v An:Value}{a i:aa}(F:Rep M ob v a)(As:Rep M ob An i):PS0 E.P M ob w (Ib t v An) ac base (xK E (aC ac) t a i):=by
 unfold xK;split
 .rename_i ti _ n hT;have D:=hE.tab t ti hT;obtain⟨rfl,Y⟩:=As.int_inv;split
  .rename_i e m eb H;have d:=D.kind;rw[H]at d;obtain⟨⟨N,i',z,u,hs,_⟩,_⟩:=d;have q:(E.P.info? e).map (·.size)=X m:=by grind
   have key:∀(r:Addr) (len cap:Nat) (k:IntKind) (i:Nat),i<len->(Ib t (.slice (X r) len cap) (.int k (i:Int))).run E.P w= .ok (.pointer (X (r.add (i*m)))) w:=λr len cap k i h1=>by unfold Ib;simp only[Bd,asIntOf,Bu,Aq,run_underlying N];rw[bu ⟨by omega,by omega⟩];simp only[Bd,af q,Aq,Bu,Bm]
   have slc:∀{J:Value} {xs:az} {tk:Tk},Rep M ob J (.slice m xs tk)->∀(k:IntKind) (i:Nat) x,xs[i]? =X x->PS0 E.P M ob w (Ib t J (.int k (i:Int))) ac base (.val (.ptr x.cells)):=λ{J xs tk} hr k i x s=>by
    have B:i<Z xs:=(Ad.1 s).1;cases hr.untok.1 with
    |slnil=>simp at B
    |slemp=>simp at B
    |sl _ b o n1 cap _ _ hn Be L hz W _=>
     refine aV (key _ n1 cap _ i o_) ?_;rw[bI];exact .ptr b _ _ λj c Am=>W i j x c s Am
   split
   .rename_i y xs tt;refine sdc λG=>?_;obtain rfl:=aE G;rintro i rfl x s;exact slc F _ i x s
   .rename_i k g;obtain⟨a,n',c,rfl,f⟩:=F.row_inv;split
    .rename_i R y e' xs p;refine sdc λA=>?_;obtain⟨l,h⟩:=aZ A;obtain rfl:=aE l;obtain rfl:=aE h;rintro i rfl u;obtain⟨hs',v,h1,T,h3,V,h5,_⟩:=hm.rowOf (cK p s_);rw[V]at f;cases f;rcases h5.len with⟨At,rfl⟩|⟨b,cap,At,e2,_⟩
     .simp at u
     .cases At;refine aV (key _ _ _ _ i u) ?_;rw[bI,Nat.add_comm 0];exact .eref k _ i y 0 b _ _ V
    .rename_i R y xs p;refine sdc λA=>?_;obtain⟨l,h⟩:=aZ A;obtain rfl:=aE l;obtain rfl:=aE h;rintro i rfl x s;obtain⟨hs',h1,v,T,h3⟩:=hm.obj k _ (cK p s_);rw[cG h1,T]at f;cases f;exact slc h3.pure _ i x s
    .exact trivial
   .rename_i k g lo len y;split
    .rename_i R sz' e' xs p;refine sdc λA=>?_;obtain⟨C,K⟩:=aZ A;obtain⟨l,h⟩:=aZ C;obtain rfl:=aE l;obtain rfl:=aE h;obtain rfl:=aE K;rintro i rfl u;cases F with
     |sub _ _ _ _ _ b n' c f hl hn hc L=>
      refine aV (key _ _ _ _ i u) ?_;rw[bI,<-Cg];exact .eref k _ (lo+i) y 0 b _ _ f
     |sub0=>simp at u
    .exact trivial
   .exact trivial
  .rename_i len m ea H;have d:=D.kind;rw[H]at d;obtain⟨⟨e,N,q,_⟩,_⟩:=d;have key:∀(r:Addr) k,0<=n->n.toNat<len->(Ib t (.pointer (X r)) (.int k n)).run E.P w= .ok (.pointer (X (r.add (n.toNat*m)))) w:=λr k h0 h1=>by unfold Ib Ij;simp only[Bd,asIntOf,Bu,Aq,run_underlying N];rw[bu ⟨h0,by omega⟩];simp only[Bd,af q,Aq,Bu]
   split
   .rintro ⟨I,Q⟩;obtain⟨b,rfl,hb⟩:=F.ref_inv;refine aV (key _ _ I Q) ?_;rw[bI];exact .ref _ _ b hb
   .rintro ⟨I,Q⟩;obtain⟨b,o,rfl,W⟩:=F.ptr_inv;refine aV (key _ _ I Q) ?_;rw[bI];exact .ptr b _ _ λj c hc=>by grind[nQ,Kk]
   .exact trivial
  .exact trivial
 .exact trivial
def aHW(hE:ae E){t:Nat}{v z:Value}{a i:aa}(y:Rep M ob v a)(d:Rep M ob z i):PS0 E.P M ob w (Lr t v z) ac base (XQ E t a i):=by
 unfold XQ;split
 .rename_i l k n;obtain⟨rfl,_⟩:=d.int_inv;obtain⟨rfl,_⟩:=y.str_inv;split
  .rename_i _ _ _ q;obtain⟨o,_⟩:=(hE.tab t _ q).kind;rintro i rfl c s;refine⟨rfl,.int .u8 c.toNat,?_,yS c⟩;have p:i<Z l:=(Ad.1 s).1;unfold Lr;simp only[Bd,asIntOf,Bu,Aq,run_underlying o];rw[bu o_];have I:(⟨l.toArray⟩:ByteArray)[i]? =X c:=by
    have:i<(⟨l.toArray⟩:ByteArray).size:=by simpa[ByteArray.size]using p
    rw[getElem?_pos (⟨l.toArray⟩:ByteArray) i this];have h:=(Ad.1 s).2;rw[<-h];rfl
   simp_all
  .exact trivial
 .rename_i cs k n;obtain⟨rfl,_⟩:=d.int_inv;split
  .rename_i len D G _ _ _ q;obtain⟨⟨e,o,b,m,B⟩,_⟩:=(hE.tab t _ q).kind;split
   .rename_i l hl;obtain⟨vs,rfl,f,C⟩:=y.agg_inv;have key:∀x,0<=n->n<len->(aR E.P e=O->x= .agg l)->(aR E.P e=S->l=[x])->PS0 E.P M ob w (Lr t (.agg vs.toArray) (.int k n)) ac base (.val x):=by intro x H h1 F h3;obtain⟨u,j,r⟩:=FF (P:=E.P) (w:=w) (t:=e) b m ⟨f,C⟩ hl F h3;refine aV (u:=u) ?_ r;unfold Lr;simp only[Bd,asIntOf,Bu,Aq,run_underlying o];rw[bu ⟨H,h1⟩];simp only[Bd,af b,Aq,j]
    cases A:G with
    |true=>exact λg=>key _ g.1 g.2 (λ_=>rfl) (λe=>by simp_all)
    |false=>
     simp only[cond_false];split
     .exact λg=>key _ g.1 g.2 (λe=>by simp_all) (λ_=>rfl)
     .exact trivial
   .exact trivial
  .exact trivial
 .exact trivial
def aQd(hE:ae E)(hm:Mem M ob ac w){t ty:TypeId}{v:Value}{a:aa}(k:Rep M ob v a):PS0 E.P M ob w (Fp #[t] ty #[v]) ac base (aQe E (aC ac) t a):=by
 unfold aQe;split
 .exact trivial
 .rename_i C F;have d:=(hE.tab t C F).kind
  have f:∀n:Nat,(n:Int)<=9223372036854775807->inR .i64 (n:Int):=λn h=>⟨by simp only[bV];omega,by simp only[aW];omega⟩
  have p:Rep M ob (.int .i64 (0:Nat)) (.int .i64 (0:Nat)):=.int _ _ (f 0 d_);have slc:∀{x:Value} {o:Nat} {xs:az} {tk:Tk} {e:TypeId},E.P.underlying t=X (.slice e)->Rep M ob x (.slice o xs tk)->PS0 E.P M ob w (Fp #[t] ty #[x]) ac base (.val (.int .i64 (Z xs))):=λ{x o xs tk e} q hr=>by obtain⟨a,c,rfl,_,_,r⟩:=hr.slice_inv;exact aV (u:=.int .i64 (Z xs)) (by simp[Fp,run_underlying q,goInt]) (.int _ _ (f _ r))
  split
  .rename_i l g;rw[g]at d;obtain⟨rfl,h⟩:=k.str_inv;exact aV (u:=.int .i64 (Z l)) (by simp[Fp,run_underlying d.1,goInt,vG]) (.int _ _ (f _ h))
  .rename_i g;rw[g]at d;exact slc d.1.1 k
  .rename_i g;rw[g]at d;cases k;exact aV (u:=.int .i64 (0:Nat)) (by simp[Fp,run_underlying d.1.1,goInt]) p
  .rename_i g;rw[g]at d;cases k with
   |csl _ _ _ _ b h j=>exact aV (u:=.int .i64 (Nat.cast _)) (by simp[Fp,run_underlying d.1.1,goInt]) (.int _ _ (f _ j))
  .rename_i g;rw[g]at d;cases k;exact λj=>aV (u:=.int .i64 (Nat.cast _)) (by simp[Fp,run_underlying d.1.1,goInt]) (.int _ _ (f _ j))
  .rename_i g;rw[g]at d;obtain⟨a,n,c,rfl,i⟩:=k.row_inv;split
   .rename_i B o e xs m;refine sdc λs=>?_;obtain rfl:=aE s;obtain⟨hs',v,h1,A,h3,r,D,_⟩:=hm.rowOf (cK m s_);rw[r]at i;cases i;rcases D.len with⟨y,rfl⟩|⟨b,cap,y,J,I,G⟩
    .cases y;exact aV (u:=.int .i64 (0:Nat)) (by simp[Fp,run_underlying d.1.1,goInt]) p
    .cases y;exact aV (u:=.int .i64 (Z xs)) (by simp[Fp,run_underlying d.1.1,goInt]) (.int _ _ (f _ (by have:=gZ;omega)))
   .rename_i B o xs m;refine sdc λs=>?_;obtain rfl:=aE s;obtain⟨hs',h1,v,A,h3⟩:=hm.obj _ _ (cK m s_);rw[cG h1,A]at i;cases i;exact slc d.1.1 (h3.pure (M:=M) (ob:=ob))
   .exact trivial
  .rename_i g;rw[g]at d;cases k with
   |sub _ _ _ _ _ b n c i hl z K j=>exact aV (u:=.int .i64 (Nat.cast _)) (by simp[Fp,run_underlying d.1.1,goInt]) (.int _ _ (f _ o_))
   |sub0 _ _ _ _ a H n c=>exact aV (u:=.int .i64 (0:Nat)) (by simp[Fp,run_underlying d.1.1,goInt]) p
  .rename_i _ g;rw[g]at d;obtain⟨⟨e,q,_⟩,_⟩:=d;intro z;exact aV (u:=.int .i64 (Nat.cast _)) (by simp[Fp,run_underlying q,goInt]) (.int _ _ (f _ z))
  .exact trivial
end
def VM(P:Program)(M:Imm)(ob:Hs)(ac:aw)(w:World)(s:Sem Value)(v:aa)(ap:aw):Prop:=
 ∃u w' M' ob',s.run P w= .ok u w'/\Ext M ob ac w M' ob' ap w'/\Mem M' ob' ap w'/\cS ob ac ob' ap/\Rep M' ob' u v
abbrev PM(P:Program)(M:Imm)(ob:Hs)(w:World)(s:Sem Value)(ac:aw)(base:Nat)(r:OR):Prop:=Sd (VM P M ob ac w s) (λ_ _=>False) (λ_=>False) ac base r
section
variable {P:Program} {E:Env} {M:Imm} {ob:Hs} {ac:aw} {w:World} {base:Nat}
def PM.of(hm:Mem M ob ac w){s:Sem Value}{r:OR}(h:PS0 P M ob w s ac base r):PM P M ob w s ac base r:=
 Sd.mono (λv o ⟨h1,u,a,h3⟩=>⟨u,w,M,ob,a,h1▸Ext.refl _ _ _ _,h1▸hm,h1▸cS.refl _ _,h3⟩) (λ_ _ h=>h) (λ_ h=>h) h
def cM.pm{ρv:Operand->Value}{op:Op}{ty:TypeId}{r:OR}{s:Sem Value}
  (f:∀d pos a g,execOp ρv ⟨d,op,ty,pos,a,g⟩=(s >>= λv=>Pure.pure (.value v))) (h:PM P M ob w s ac base r):cM P ρv op ty M ob ac w base r:=
 Sd.mono (λv o ⟨u,w',M',ob',i,h3,e,b,c⟩=>⟨u,w',M',ob',λd pos a g=>.inl (by simp_all),h3,e,b,c⟩) (λ_ _ h=>h.elim) (λ_ h=>h.elim) h
def HT(M:Imm)(ob:Hs)(v:Option Value)(a:Option aa):Prop:=(v=U/\a=U)\/∃u x,v=X u/\a=X x/\Rep M ob u x
def aI4(v:Option Value)(q:Option Nat):Prop:=(v=U/\q=U)\/∃(k:IntKind) (n:Nat),v=X (.int k n)/\q=X n
def uI{s:Sem Value}{a:Option Value}{l:Option aa}(h:HT M ob a l){f:Option Nat->OR}(k:∀q,aI4 a q->PS0 P M ob w s ac base (f q)):PS0 P M ob w s ac base (bnd l f):=by
 rcases h with⟨rfl,rfl⟩|⟨u,x,rfl,rfl,b⟩
 .exact k U (.inl ⟨rfl,rfl⟩)
 .cases x with
  |int c n=>
   obtain⟨rfl,_⟩:=b.int_inv;rintro i rfl;exact k (X i) (.inr ⟨c,i,rfl,rfl⟩)
  |_=>exact trivial
def aI4.none{v:Option Value}(h:aI4 v U):v=none:=by rcases h with⟨h,_⟩|⟨_,_,_,h⟩;exact h;cases h
def aI4.some{v:Option Value}{n:Nat}(h:aI4 v (X n)):∃k,v=X (.int k n):=by rcases h with⟨_,h⟩|⟨k,n,h1,h⟩;cases h;grind
def GX{t e:TypeId}(h:P.underlying t=X (.slice e)):P.underlying t=X (.slice (P.elem t))/\P.elem t=e:=by
 have:P.elem t=e:=by simp[Program.elem,h]
 grind
def U6{v:Value}{f:Nat}{xs:az}(h:Rep M ob v (.slice f xs .no)):∃a n c,v= .slice a n c/\Z xs=n/\n<=c/\∀l d,l<=d->d<=n->
  Rep M ob (sliced a l d c f) (.slice f ((xs.take d).drop l) .no)/\(Rep M ob (sliced a l d d f) (.slice f ((xs.take d).drop l) .no)):=by
 cases h with
 |slnil f=>
  refine⟨U,0,0,rfl,rfl,Bc _,λl d h1 t=>?_⟩;have:d=0:=o_;subst this;have:l=0:=o_;subst this;exact⟨.slnil f .no trivial,.slnil f .no trivial⟩
 |slemp f _ a cap=>
  refine⟨X a,0,cap,rfl,rfl,Bn _,λl d h1 t=>?_⟩;have:d=0:=o_;subst this;have:l=0:=o_;subst this;have hs:∀m,∃b c,sliced (X a) 0 0 m f= .slice (X b) 0 c:=λm=>by
   unfold sliced
   grind
  obtain⟨B,D,A⟩:=hs cap;obtain⟨G,F,z⟩:=hs 0;rw[A,z];exact⟨.slemp _ _ _ _ trivial,.slemp _ _ _ _ trivial⟩
 |sl f b o n c xs _ w s y hz C=>
  refine⟨_,n,c,rfl,w,s,λl d h1 t=>?_⟩;have q:∀m,d<=m->Rep M ob (sliced (X ⟨b,o,U⟩) l d m f) (.slice f ((xs.take d).drop l) .no):=by
   intro m hm;have g:Z ((xs.take d).drop l)=d-l:=by simp;omega
   have k:∀x∈(xs.take d).drop l,Z x.cells=f:=λx r=>hz x (Cw (Ff r));have u:∀(i:Nat) x,((xs.take d).drop l)[i]? =X x->xs[l+i]? =X x:=λi x r=>by grind
   by_cases p:m=l
   .have e:sliced (X ⟨b,o,U⟩) l d m f= .slice (X ⟨b,o,U⟩) (d-l) (m-l):=by simp[sliced,p]
    rw[e];refine .sl f b o _ _ _ _ g o_ o_ k (λi j x c r s=>?_) trivial
    grind[Ad]
   .have e:sliced (X ⟨b,o,U⟩) l d m f= .slice (X ⟨b,o+l*f,U⟩) (d-l) (m-l):=by simp[sliced,p,bI]
    rw[e];refine .sl f b _ _ _ _ _ g o_ o_ k (λi j x c r s=>?_) trivial
    grind[Cg,Kk]
  exact⟨q c o_,q d (Bc _)⟩
theorem wV{k g x y d:Nat}{a:Option Addr}{n c:Nat}(j:a=U/\n=0/\c=0\/∃b,a=X ⟨b,0,U⟩)(f:at' ob k g=X (.slice a n c))(l:n<=c)(m:x<=y)(o:y<=n)(i:(n:Int)<=9223372036854775807):
  Rep M ob (sliced a x y c d) (.sub k g x (y-x) d):=by
 by_cases h:c=x
 .have e:sliced a x y c d= .slice a 0 0:=by have:y-x=0:=o_;simp[sliced,h,this]
  rw[e];have:y-x=0:=o_;rw[this];exact .sub0 k g x d a a n c f o_ o_
 .rcases j with⟨rfl,rfl,rfl⟩|⟨b,rfl⟩
  .omega
  .have e:sliced (X ⟨b,0,U⟩) x y c d= .slice (X ⟨b,x*d,U⟩) (y-x) (c-x):=by simp[sliced,h,bI]
   rw[e];exact .sub k g x (y-x) d b n c f o_ o_ l i
def qS{k g lo x y a b n c:Nat}(d:at' ob k g=X (.slice (X ⟨b,0,U⟩) n c))(hl:lo<c)(j:n<=c)(l:x<=y)(m:lo+y<=n)(h:(n:Int)<=9223372036854775807):
  Rep M ob (sliced (X ⟨b,lo*a,U⟩) x y (c-lo) a) (.sub k g (lo+x) (y-x) a):=by
 by_cases f:c-lo=x
 .have i:y-x=0:=o_;have e:sliced (X ⟨b,lo*a,U⟩) x y (c-lo) a= .slice (X ⟨b,lo*a,U⟩) 0 0:=by simp[sliced,f,i]
  rw[e,i];exact .sub0 k g (lo+x) a _ _ n c d o_ o_
 .have e:sliced (X ⟨b,lo*a,U⟩) x y (c-lo) a= .slice (X ⟨b,(lo+x)*a,U⟩) (y-x) (c-(lo+x)):=by simp[sliced,f,bI,Cg];omega
  rw[e];exact .sub k g (lo+x) (y-x) a b n c d o_ o_ j h
def aHK(hE:ae E)(hm:Mem M ob ac w){t:TypeId}{v:Value}{a:aa}(hv:Rep M ob v a){Am vhi vmx:Option Value}{lo hi mx:Option aa}
  (L:HT M ob Am lo) (K:HT M ob vhi hi) (hmx:HT M ob vmx mx):PS0 E.P M ob w (Gu t v Am vhi vmx) ac base (XH E (aC ac) t a lo hi mx):=by
 have I:mx=U->vmx=none:=λe=>by
  rcases hmx with⟨h,_⟩|⟨_,_,_,h,_⟩
  .exact h
  grind
 have R:lo=U->Am=none:=λe=>by
  rcases L with⟨h,_⟩|⟨_,_,_,h,_⟩
  .exact h
  grind
 have T:hi=U->vhi=none:=λe=>by
  rcases K with⟨h,_⟩|⟨_,_,_,h,_⟩
  .exact h
  grind
 unfold XH;split
 .exact trivial
 .rename_i ti hT;have hti:=hE.tab t ti hT;have o:=hti.kind;split
  .rename_i l;obtain⟨rfl,hlm⟩:=hv.str_inv;split
   .have N:=‹ti.kind=TK.str›;rw[N]at o;obtain rfl:=I rfl;have G:=o.1;have hb:∀i j,(⟨l.toArray⟩:ByteArray).extract i j=⟨((l.take j).drop i).toArray⟩:=WR l;have hs:(⟨l.toArray⟩:ByteArray).size=Z l:=vG l;refine uI L λD r=>uI K λq f=>?_;cases D with
    |none=>
     obtain rfl:=r.none;cases q with
     |none=>
      obtain rfl:=f.none;refine aV (u:=.string ⟨l.toArray⟩) ?_ (.str _ hlm);rw[run_sliceAt_string w t _ _ _ _ G];unfold Lt Gh;simp only[Bd,run_underlying G,Aq,Jc,Cy,if_false,Bu,hb,hs];simp
     |some y=>
      obtain⟨k,rfl⟩:=f.some;intro H;refine aV (u:=.string ⟨(l.take y).toArray⟩) ?_ (.str _ q_);rw[run_sliceAt_string w t _ _ _ _ G];unfold Lt Gh Kd;simp only[Bd,run_underlying G,Aq,Jc,Cy,if_false,Bu,hb,hs,asIntOf];simp_all
    |some x=>
     obtain⟨k,rfl⟩:=r.some;cases q with
     |none=>
      obtain rfl:=f.none;intro H;refine aV (u:=.string ⟨(l.drop x).toArray⟩) ?_ (.str _ q_);rw[run_sliceAt_string w t _ _ _ _ G];unfold Lt Gh Kd;simp only[Bd,run_underlying G,Aq,Jc,Cy,if_false,Bu,hb,hs,asIntOf];simp_all
     |some y=>
      obtain⟨J,rfl⟩:=f.some;rintro⟨H,c2⟩;refine aV (u:=.string ⟨((l.take y).drop x).toArray⟩) ?_ (.str _ q_);rw[run_sliceAt_string w t _ _ _ _ G];unfold Lt Gh Kd;simp only[Bd,run_underlying G,Aq,Jc,Cy,if_false,Bu,hb,hs,asIntOf];rw[bu ⟨by omega,by omega⟩];simp;omega
   .exact trivial
  .rename_i s xs tt;split
   .rename_i e esz eb N;rw[N]at o;obtain⟨⟨G,ie,z,hi',hs,_⟩,_⟩:=o;refine sdc λhg=>?_;obtain rfl:=aE hg;obtain⟨d,An⟩:=GX G;have F:(E.P.info? (E.P.elem t)).map (·.size)=X s:=by grind
    obtain⟨B,n,cap,rfl,hn,As,key⟩:=U6 hv.untok.1;have p:=λu:World=>af (P:=E.P) F u;refine uI L λD r=>uI K λq f=>uI hmx λqmx bmx=>?_;cases qmx with
    |none=>
     obtain rfl:=bmx.none;cases D with
     |none=>
      obtain rfl:=r.none;cases q with
      |none=>
       obtain rfl:=f.none;refine aV (u:=sliced B 0 n cap s) ?_ ?_
       .rw [run_sliceAt_slice w t _ _ _ _ d,run_slice_all w t B n cap d,p];rfl
       grind
      |some y=>
       obtain⟨k,rfl⟩:=f.some;intro H;refine aV (u:=sliced B 0 y cap s) ?_ ?_
       .rw [run_sliceAt_slice w t _ _ _ _ d,run_slice_h w t B n cap d k y o_ o_,p];rfl
       grind
     |some x=>
      obtain⟨k,rfl⟩:=r.some;cases q with
      |none=>
       obtain rfl:=f.none;intro H;refine aV (u:=sliced B x n cap s) ?_ ?_
       .rw [run_sliceAt_slice w t _ _ _ _ d,run_slice_l w t B n cap d k x o_ o_,p];rfl
       grind
      |some y=>
       obtain⟨J,rfl⟩:=f.some;rintro⟨H,c2⟩;refine aV (u:=sliced B x y cap s) ?_ ?_
       .rw [run_sliceAt_slice w t _ _ _ _ d,run_slice_lh w t B n cap d k J x y o_ o_ o_,p];rfl
       .exact (key x y o_ o_).1
    |some m=>
     obtain⟨km,rfl⟩:=bmx.some;cases D with
     |some x=>cases q<;>exact trivial
     |none=>
      obtain rfl:=r.none;cases q with
      |none=>exact trivial
      |some y=>
       obtain⟨k,rfl⟩:=f.some;rintro⟨H,rfl⟩;have hk2:=(key 0 m o_ o_).2;rw[List.drop_zero]at hk2;refine aV (u:=sliced B 0 m m s) ?_ ?_
       .rw [run_sliceAt_slice w t _ _ _ _ d,run_slice_hm w t B n cap d k km m m o_ (Ei _) o_,p];rfl
       .exact hk2.tok ⟨_,m,rfl⟩
   .exact trivial
  .rename_i k g;split
   .rename_i g' s e' xs _ hog;have N:=‹ti.kind=TK.slc _ _ _›;rw[N]at o;refine sdc λhg=>?_;obtain⟨Y,V⟩:=aZ hg;obtain rfl:=aE Y;obtain rfl:=aE V;obtain⟨⟨G,ie,z,hi',hs,_⟩,_⟩:=o;obtain⟨d,An⟩:=GX G;have F:(E.P.info? (E.P.elem t)).map (·.size)=X s:=by simp_all
    have p:=λu:World=>af (P:=E.P) F u;obtain rfl:=I rfl;obtain⟨B,n,cap,rfl,A⟩:=hv.row_inv;obtain⟨hs',v,h1,h2,h3,h4,h5,_⟩:=hm.rowOf (cK hog s_);rw[A]at h4;cases h4;have hn:n=Z xs/\n<=cap/\(n:Int)<=9223372036854775807/\(B=U/\n=0/\cap=0\/∃b,B=X ⟨b,0,U⟩):=by
     rcases h5.len with⟨e1,rfl⟩|⟨b,c,e1,e2,e3,e4⟩
     .cases e1;simp
     grind[gZ]
    obtain⟨hn,As,C,had⟩:=hn;refine uI L λD r=>uI K λq f=>?_;cases D with
    |none=>
     obtain rfl:=r.none;cases q with
     |none=>
      obtain rfl:=f.none;refine aV (u:=.slice B n cap) ?_ hv;rw[run_sliceAt_slice w t _ _ _ _ d,run_slice_all w t B n cap d,p];show Result.ok (sliced B 0 n cap s) w=_;congr 1;rcases had with⟨rfl,rfl,rfl⟩|⟨b,rfl⟩
      .rfl
      .simp [sliced,bI]
     |some y=>
      obtain⟨J,rfl⟩:=f.some;intro H;refine aV (u:=sliced B 0 y cap s) ?_ (wV had A As (Bn _) o_ C);rw[run_sliceAt_slice w t _ _ _ _ d,run_slice_h w t B n cap d J y o_ o_,p];rfl
    |some x=>
     obtain⟨Be,rfl⟩:=r.some;cases q with
     |none=>
      obtain rfl:=f.none;intro H;refine aV (u:=sliced B x n cap s) ?_ ?_
      .rw [run_sliceAt_slice w t _ _ _ _ d,run_slice_l w t B n cap d Be x o_ o_,p];rfl
      grind[wV]
     |some y=>
      obtain⟨J,rfl⟩:=f.some;rintro⟨H,c2⟩;refine aV (u:=sliced B x y cap s) ?_ (wV had A As o_ o_ C);rw[run_sliceAt_slice w t _ _ _ _ d,run_slice_lh w t B n cap d Be J x y o_ o_ o_,p];rfl
   .exact trivial
  .rename_i k g Q len s;split
   .rename_i g' sz' e' xs _ hog;have N:=‹ti.kind=TK.slc _ _ _›;rw[N]at o;refine sdc λhg=>?_;obtain⟨hg12,hg3⟩:=aZ hg;obtain⟨Y,V⟩:=aZ hg12;obtain rfl:=aE Y;obtain rfl:=aE V;obtain rfl:=aE hg3;obtain⟨⟨G,ie,z,hi',hs,_⟩,_⟩:=o;obtain⟨d,An⟩:=GX G;have F:(E.P.info? (E.P.elem t)).map (·.size)=X s:=by rw[An];simp[hi',hs]
    have p:=λu:World=>af (P:=E.P) F u;obtain rfl:=I rfl;obtain⟨hs',v,h1,h2,h3,h4,h5,_⟩:=hm.rowOf (cK hog s_);have nl:∀{n:Nat} {B:Option Addr} {cap:Nat},at' ob k g=X (.slice B n cap)->n=Z xs/\n<=cap:=λ{n B cap} A=>by
     rw[A]at h4;cases h4;rcases h5.len with⟨e1,rfl⟩|⟨b,c,e1,e2,e3,e4⟩
     .cases e1;simp
     .cases e1;omega
    cases hv with
    |sub _ _ _ _ _ b n c A hl hn W C=>
     obtain⟨hnx,_⟩:=nl A;refine uI L λD r=>uI K λq f=>?_;cases D with
     |none=>
      obtain rfl:=r.none;cases q with
      |none=>
       obtain rfl:=f.none;refine aV (u:=sliced (X ⟨b,Q*s,U⟩) 0 len (c-Q) s) ?_ (qS A hl W (Bn _) hn C);rw[run_sliceAt_slice w t _ _ _ _ d,run_slice_all w t _ len _ d,p];rfl
      |some y=>
       obtain⟨J,rfl⟩:=f.some;intro H;refine aV (u:=sliced (X ⟨b,Q*s,U⟩) 0 y (c-Q) s) ?_ (qS A hl W (Bn _) o_ C);rw[run_sliceAt_slice w t _ _ _ _ d,run_slice_h w t _ len _ d J y o_ o_,p];rfl
     |some x=>
      obtain⟨Be,rfl⟩:=r.some;cases q with
      |none=>
       obtain rfl:=f.none;intro H;refine aV (u:=sliced (X ⟨b,Q*s,U⟩) x len (c-Q) s) ?_ (qS A hl W H hn C);rw[run_sliceAt_slice w t _ _ _ _ d,run_slice_l w t _ len _ d Be x o_ o_,p];rfl
      |some y=>
       obtain⟨J,rfl⟩:=f.some;rintro⟨H,c2⟩;refine aV (u:=sliced (X ⟨b,Q*s,U⟩) x y (c-Q) s) ?_ (qS A hl W H o_ C);rw[run_sliceAt_slice w t _ _ _ _ d,run_slice_lh w t _ len _ d Be J x y o_ o_ o_,p];rfl
    |sub0 _ _ _ _ a At n c A hl W=>
     obtain⟨hnx,_⟩:=nl A;have e0:sliced At 0 0 0 s= .slice At 0 0:=by rfl
     have r0:Rep M ob (sliced At 0 0 0 s) (.sub k g Q 0 s):=by rw[e0];exact .sub0 _ _ _ _ a At n c A hl W
     refine uI L λD r=>uI K λq f=>?_;cases D with
     |none=>
      obtain rfl:=r.none;cases q with
      |none=>
       obtain rfl:=f.none;refine aV (u:=sliced At 0 0 0 s) ?_ r0;rw[run_sliceAt_slice w t _ _ _ _ d,run_slice_all w t _ 0 _ d,p];rfl
      |some y=>
       obtain⟨J,rfl⟩:=f.some;intro H;obtain rfl:y=0:=o_;refine aV (u:=sliced At 0 0 0 s) ?_ r0;rw[run_sliceAt_slice w t _ _ _ _ d,run_slice_h w t _ 0 _ d J ((0:Nat):Int) o_ o_,p];rfl
     |some x=>
      obtain⟨Be,rfl⟩:=r.some;cases q with
      |none=>
       obtain rfl:=f.none;intro H;obtain rfl:x=0:=o_;refine aV (u:=sliced At 0 0 0 s) ?_ r0;rw[run_sliceAt_slice w t _ _ _ _ d,run_slice_l w t _ 0 _ d Be ((0:Nat):Int) o_ o_,p];rfl
      |some y=>
       obtain⟨J,rfl⟩:=f.some;rintro⟨H,c2⟩;obtain rfl:y=0:=o_;obtain rfl:x=0:=o_;refine aV (u:=sliced At 0 0 0 s) ?_ r0;rw[run_sliceAt_slice w t _ _ _ _ d,run_slice_lh w t _ 0 _ d Be J ((0:Nat):Int) ((0:Nat):Int) o_ o_ o_,p];rfl
   .exact trivial
  .rename_i k off;split
   .rename_i len esz ea N;rw[N]at o;obtain⟨⟨e,G,F,_⟩,_⟩:=o;obtain rfl:=I rfl;obtain rfl:=R rfl;obtain rfl:=T rfl;intro C;obtain⟨b,rfl,hb⟩:=hv.ref_inv;refine aV (u:=.slice (X ⟨b,off,U⟩) len len) ?_ (.csl _ _ _ _ b hb C);unfold Gu Ij Gh;simp only[Bd,run_underlying G,Aq,Bu,af F];simp[bI]
   .exact trivial
  .rename_i cs;split
   .rename_i len N;rw[N]at o;obtain⟨⟨e,G,F,_⟩,_⟩:=o;obtain rfl:=I rfl;obtain rfl:=R rfl;obtain rfl:=T rfl;split
    .rename_i l hl;refine sdc λhone=>?_;intro C;obtain⟨t1,t2⟩:=kH hl;obtain⟨b,o',rfl,hM⟩:=hv.ptr_inv;refine aV (u:=.slice (X ⟨b,o',U⟩) len len) ?_ (.sl 1 b o' len len l _ t1 (Bc _) C (λx hx=>?_) (λi j x c hx W=>?_) ⟨_,len,rfl⟩)
     .unfold Gu Ij Gh;simp only[Bd,run_underlying G,Aq,Bu,af F];simp[bI]
     .grind [Cu,pX,mY]
     grind[pX,mY]
    .exact trivial
   .exact trivial
  .exact trivial
end
section
variable {P:Program} {E:Env} {M:Imm} {ob:Hs} {ac:aw} {w:World} {base:Nat}
theorem aEm{α:Type}(l:List α):(l.drop 0).take (Z l)=l:=by simp
def aEy(hm:Mem M ob ac w){x:Value}{a:aa}(t:Rep M ob x a){y:Nat}{xs:az}(h:aJH (aC ac) a=X (y,xs))(hs:0<y){I L:TypeId}(o:P.underlying I=X (.slice L)):
  SrcA P M w y I x xs/\∃i c,x= .slice i (Z xs) c/\(i=U->xs=[]/\c=0):=by
 unfold aJH at h;split at h
 .cases h;obtain⟨i,c,e,G,_⟩:=t.slice_inv;exact⟨SrcA.ofSlice hm hs o t,i,c,e,G⟩
 .rename_i k g;obtain⟨i,n,c,rfl,d⟩:=t.row_inv;split at h
  .rename_i H r e xs' f;obtain⟨p,h⟩:=fK h;cases h;obtain rfl:=aE p;have l:=cK f s_;obtain⟨hs',v,h1,C,h3,j,u,_⟩:=hm.rowOf l;rw[d]at j;cases j;have hl:n=Z xs/\(i=U->xs=[]/\c=0):=by
    rcases u.len with⟨m,rfl⟩|⟨b,c,m,V,Be,At⟩
    .simp_all
    grind
   obtain⟨rfl,K⟩:=hl;have:=SrcA.ofRow hm hs l o d (lo:=0) (len:=Z xs) o_ (x:=.slice i (Z xs) c) (λb J z e _=>by cases e;simp) (λh=>⟨i,c,by rw[h]⟩)
   grind[aEm]
  .rename_i H r xs' f;obtain⟨p,h⟩:=fK h;cases h;obtain rfl:=aE p;obtain⟨hs',h1,v,C,h3⟩:=hm.obj _ _ (cK f s_);rw[cG h1,C]at d;cases d;have s:=h3.pure (M:=M) (ob:=ob);obtain⟨D,z,e,G,_⟩:=s.slice_inv;exact⟨SrcA.ofSlice hm hs o s,D,z,e,G⟩
  .cases h
 .rename_i k g lo len y;split at h
  .rename_i H r e xs' f;obtain⟨p,h⟩:=fK h;cases h;obtain⟨F,A⟩:=aZ p;obtain rfl:=aE F;obtain rfl:=aE A;have l:=cK f s_;obtain⟨hs',v,h1,C,h3,j,u,_⟩:=hm.rowOf l;cases t with
   |sub _ _ _ _ _ b n c d hl T R As=>
    rw[d]at j;cases j;have B:n=Z xs':=by
     rcases u.len with⟨m,_⟩|⟨b,c,m,_⟩
     .cases m
     grind
    have q:Z ((xs'.drop lo).take len)=len:=by simp;omega
    refine⟨SrcA.ofRow hm hs l o d (lo:=lo) (len:=len) o_ (λN J z e _=>by cases e;simp) (λh=>⟨_,_,by rw[h]⟩),_,_,by rw[q],λe=>by cases e⟩
   |sub0 _ _ _ _ i Q n c d hl R=>
    rw[d]at j;cases j;have B:n=Z xs':=by
     rcases u.len with⟨m,rfl⟩|⟨b,c,m,_⟩
     .simp_all
     grind
    refine⟨SrcA.ofRow hm hs l o d (lo:=lo) (len:=0) o_ (λN J z e h=>bv rfl h) (λ_=>⟨_,_,rfl⟩),Q,0,by simp,λ_=>⟨by simp,rfl⟩⟩
  .cases h
 .cases h
def U4(hE:ae E)(hm:Mem M ob ac w){x:Value}{a:aa}(f:Rep M ob x a){b d:Nat}{ys:az}(h:aEz E (aC ac) b d a=X ys)(hs:0<b):SrcA E.P M w b d x ys:=by
 unfold aEz at h;split at h
 .rename_i l;split at h
  .rename_i _ _ _ e;obtain⟨g,h⟩:=fK h;cases h;obtain rfl:=aE g;obtain⟨rfl,_⟩:=f.str_inv;exact SrcA.ofStr (hE.tab d _ e).kind.1 l
  .cases h
 .split at h
  .rename_i _ _ _ _ _ _ e;cases h;cases f;exact⟨⟨[],Src.ofNil w (hE.tab d _ e).kind.1.1 0,λq c k=>by simp[aM]at k⟩,λy i=>by simp at i,λm hm=>FB hm⟩
  .cases h
 .split at h
  .rename_i _ _ _ _ _ _ n xs e j;obtain⟨g,h⟩:=fK h;cases h;obtain rfl:=aE g;exact(aEy hm f j hs (hE.tab d _ e).kind.1.1).1
  .cases h
def aEP{s d e:TypeId}{a:Option Addr}{l:ay}{c:Nat}(q:P.underlying s=X (.slice e))(v:P.underlying e=X (.int .u8))(p:P.underlying d=X .string)
  (x:a=U->l=[]/\c=0) (hs:SrcA P M w 1 s (.slice a (Z l) c) (l.map ub)):(convert s d (.slice a (Z l) c)).run P w= .ok (.string ⟨l.toArray⟩) w:=by
 rw[run_convert_bytes_string w s d e a (Z l) c q v p];cases a with
 |none=>
  obtain⟨rfl,rfl⟩:=x rfl;rfl
 |some a=>
  obtain⟨⟨news,b,o⟩,_⟩:=hs;have y:Z news=Z l:=by rw[b.newsLen];simp
  have f:news=(l.map λc=>(c.toNat:Int)).map (Em .u8):=by
   refine Ez λj=>?_;by_cases m:j<Z l
   .obtain ⟨u,i,k⟩:=o j (ub l[j]) (by rw[BN,Ab m];rfl);rw[i,k.int_inv.1];simp[Ab m]
   grind[Bk]
  have h:(loadCells a (Z l)).run P w= .ok news.toArray w:=by have:=b.cells;rw[Cb]at this;have e:Ci 1 (Z l) (.slice (X a) (Z l) c)=loadCells a (Z l*1):=rfl;rw[e,Nat.mul_one]at this;exact this
  rw[f]at h;rw[run_bytesToString w a (Z l) c _ h];congr 2;have g:∀(l:ay) (r:ByteArray),(l.map λc=>(c.toNat:Int)).foldl (λr n=>r.push (UInt8.ofNat n.toNat)) r=⟨r.data++l.toArray⟩:=by
   intro l;induction l with
   |nil=>simp
   |cons c l t=>
    intro r;simp only[Bg,Ao,t];simp
  rw[g];simp
def C6(w:World)(e:TypeId)(s:ByteArray):(Lib.bytesWorld w e s).os=w.os/\(Lib.bytesWorld w e s).tape=w.tape/\(Lib.bytesWorld w e s).output=w.output:=⟨rfl,rfl,rfl⟩
def aMo(hE:ae E)(hm:Mem M ob ac w){s d:TypeId}{v:Value}{a:aa}(D:Rep M ob v a):PM E.P M ob w (convert s d v) ac base (aH0 E (aC ac) s d a):=by
 unfold aH0;split
 .rename_i As K hs N;have f:=(hE.tab s As hs).kind;have g:=(hE.tab d K N).kind;obtain⟨z,_⟩:=f.isAgg;obtain⟨ds,I⟩:=Da.1 z;split
  .rename_i k T n t;rw[t]at g;obtain⟨rfl,_⟩:=D.int_inv;have key:(convert s d (.int T n)).run E.P w= .ok (.int k (k.wrap n)) w:=by simp[convert,run_underlying I,run_underlying g.1,Conv.intToInt]
   refine PM.of hm ⟨λhp=>⟨rfl,_,by rw[key,kU hp],.int _ _ hp⟩,rfl,_,key,.int _ _ (lE _ _)⟩
  .rename_i l t;rw[t]at g;obtain⟨rfl,hl⟩:=D.str_inv;split
   .rename_i m;rw[m]at f;refine PM.of hm (aV (u:=.string ⟨l.toArray⟩) ?_ (.str _ hl));simp[convert,run_underlying f.1,run_underlying g.1]
   .exact trivial
  .rename_i e V l t;rw[t]at g;obtain⟨⟨G,_⟩,_⟩:=g;obtain⟨rfl,hl⟩:=D.str_inv;split
   .rename_i _ _ _ m J;rw[m]at f;have r:=(hE.tab e _ J).kind.1;have p:=Lib.run_convert_string_bytes (P:=E.P) w s d e ⟨l.toArray⟩ f.1 G r;rw[vG]at p;obtain⟨L,Y,Be⟩:=C6 w e ⟨l.toArray⟩;have key:∀(j:Nat) c,l[j]? =X c->(Lib.bytesWorld w e ⟨l.toArray⟩).cell? ⟨w.heap.size,j,U⟩=X (.int .u8 c.toNat):=λj c hj=>by grind[Ad,Lib.bytesWorld_cell,vG]
    obtain⟨Q,m2⟩:=hm.more (M':=λb o y=>M b o y\/(b=w.heap.size/\∃c,l[o]? =X c/\y=ub c)) (w':=Lib.bytesWorld w e ⟨l.toArray⟩) (λ_ _ _ h=>.inl h) (λb o y B=>by
      grind) (λb o y B=>by
      rcases B with B|⟨rfl,c,A,rfl⟩
      .obtain ⟨v,h1,W,h3⟩:=hm.imm b o y B;exact⟨v,(Lib.bytesWorld_old w e _ _ (Ct w _ h1)).trans h1,W,h3.monoM λ_ _ _ h=>.inl h⟩
      .exact ⟨_,key o c A,rfl,yS c⟩) (λb An=>Lib.bytesWorld_at_old w e _ b An) L Y Be (by rw[Lib.bytesWorld_size];omega)
    refine⟨_,_,_,ob,p,m2,Q,cS.refl _ _,.sl 1 w.heap.size 0 _ _ _ _ s_ (grownCap_ge w _ 0 e) hl (λx C=>ZD l x C) (λi j x c C A=>?_) trivial⟩;rw[Bw]at C;obtain⟨At,R,rfl⟩:=Cd.1 C;cases j with
    |succ j=>simp[ub,aa.cells]at A
    |zero=>
     simp[ub,aa.cells]at A;subst A;exact .inr ⟨rfl,At,by simp;omega,rfl⟩
   .exact trivial
  .have t:=‹K.kind=TK.str›;rw[t]at g;split
   .rename_i e V xs m Am;rw[m]at f;split
    .rename_i _ _ _ J;have r:=(hE.tab e _ J).kind.1;intro l H F;subst H;obtain⟨q,ad,c,rfl,h0⟩:=aEy (P:=E.P) hm D Am d_ f.1.1;refine⟨_,w,M,ob,?_,Ext.refl _ _ _ _,hm,cS.refl _ _,.str l F⟩;rw[Cb]at q⊢;exact aEP f.1.1 r g.1 (λe=>by grind) q
    .exact trivial
   .exact trivial
  .exact trivial
 .exact trivial
def KL(off:Nat):∀(l:bb) (k:Nat) (cells:Array Value),((l.zipIdx k).foldl (λ(cs:Array Value) (p:Value×Nat)=>cs.setIfInBounds (off+p.2) p.1) cells).size=cells.size/\
  ∀(i:Nat),((l.zipIdx k).foldl (λ(cs:Array Value) (p:Value×Nat)=>cs.setIfInBounds (off+p.2) p.1) cells)[i]? =if off+k<=i/\i<off+k+Z l/\i<cells.size then l[i-(off+k)]? else cells[i]?
 |[],k,cells=>by
  refine⟨rfl,λi=>?_⟩;simp;omega
 |c::l,k,cells=>by
  obtain⟨h1,a⟩:=KL off l (k+1) (cells.setIfInBounds (off+k) c);simp only[List.zipIdx_cons,Ao]
  grind
def HS(M:Imm)(ob:Hs)(vs:List (Nat×Value))(as:au):Prop:=
 Z vs=Z as/\∀(i:Nat) (p:Nat×Value) (q:Nat×aa),vs[i]? =X p->as[i]? =X q->p.1=q.1/\Rep M ob p.2 q.2
def xI{place d:Nat->Option (Nat×Nat)}(hp:∀i p,d i=X p->place i=X p):
  ∀{b:au} {vparts:List (Nat×Value)} {cs cs':az} {cells:Array Value},GY d cs b=X cs'->cL M ob cells.toList cs->HS M ob vparts b->
   ∃a,Instr.fill place cells vparts=X a/\cL M ob a.toList cs':=by
 intro b;induction b with
 |nil=>
  intro vparts cs cs' cells h m hl;have:vparts=[]:=Bb hl.1;subst this;cases h;exact⟨cells,rfl,m⟩
 |cons q b L=>
  intro vparts cs cs' cells h m hl;obtain⟨hl,C⟩:=hl;obtain⟨i,x⟩:=q
  match vparts,hl with
  |(i',v)::vparts,hl=>
   obtain⟨D,f⟩:=C 0 _ _ rfl rfl;dsimp only at D f;subst D;simp only[GY]at h;split at h
   .cases h
   .rename_i off Q A;obtain⟨K,y⟩:=fK h;obtain⟨n,o⟩:=aZ K;have r:x≠ .undef:=λe=>by subst e;cases n
    have k:=aE o;rw[AE]at k;split at y
    .rename_i w l;obtain⟨At,Be,As⟩:=lI l;obtain⟨F,I⟩:=f.cells r;have H:v.cells.size=Z x.cells:=o_;obtain⟨R,N⟩:=KL off v.cells.toList 0 cells;have J:cells.size=Z cs:=by have:=m.1;omega
     have B:v.cells.zipIdx.foldl (λ(cs:Array Value) (x:Value×Nat)=>match x with|(c,j)=>cs.setIfInBounds (off+j) c) cells=(v.cells.toList.zipIdx 0).foldl (λ(cs:Array Value) (p:Value×Nat)=>cs.setIfInBounds (off+p.2) p.1) cells:=by rw[<-Array.foldl_toList];simp
     have g:cL M ob ((v.cells.toList.zipIdx 0).foldl (λ(cs:Array Value) (p:Value×Nat)=>cs.setIfInBounds (off+p.2) p.1) cells).toList w:=by
      refine⟨by simp;omega,λj u c t z=>?_⟩;rw[Array.getElem?_toList,N j]at t;rw[As j]at z;simp only[Fj]at t;by_cases s:off<=j/\j<off+Z x.cells
      .grind
      .rw [bt s]at z;rw[bt o_]at t;exact m.2 j u c q_ z
     obtain⟨a,P,G⟩:=L (vparts:=vparts) y g ⟨by simpa using hl,λi p q hp T=>C (i+1) p q q_ q_⟩;refine⟨a,?_,G⟩;simp only[Instr.fill,hp _ _ A]
     grind
    .cases y
def CC{P:Program}:∀{a:List Field} {b:List (Nat×Nat×Bool)},qO P a b->a.mapM (λf=>(P.info? f.type).map λi=>(f.offset,i.size))=X (b.map λf=>(f.1,f.2.1))
 |[],[],_=>rfl
 |[],_::_,h=>h.elim
 |_::_,[],h=>h.elim
 |f::a,(off,sz,ag)::b,h=>by obtain⟨h1,c,h3,g,e⟩:=h;obtain⟨i,d,rfl⟩:=Cd.1 c;simp[List.mapM_cons,d,CC e,h1]
def aAn{α β:Type}(f:α->β):∀(l:List α) (n:Nat),(nth l n).map f=(l.map f)[n]?
 |[],_=>by simp[nth]
 |x::_,0=>rfl
 |_::r,n+1=>by simpa[nth]using aAn f r n
def aH2(hE:ae E){t:TypeId}{g:au}{vparts:Array (Nat×Value)}(hl:HS M ob vparts.toList g):PS0 E.P M ob w (Instr.build t vparts) ac base (XT E t g):=by
 unfold XT;split
 .rename_i K Q;have r:=hE.tab t K Q;obtain⟨info,z,G,I,hz,J,h,_,_⟩:=r.info;have c:=r.kind;split
  .rename_i H A x j;rw[x]at c;obtain⟨⟨F,y,L⟩,_⟩:=c;split
   .rename_i cs d;rw[j]at h;cases h with
    |agg vs as q k=>
     have l:cL M ob vs.toArray.toList A:=⟨by omega,λi v a As B=>kT (k i v a o_ B)⟩
     obtain⟨b,u,m⟩:=xI (place:=((H.map λf=>(f.1,f.2.1)).toArray[·]?)) (λi p hp=>by rw[aAn]at hp;simpa using hp) d l hl;have o:E.P.built t vparts.toList=X b:=by simp only[Program.built,G,y,hz,CC L];exact u
     have:b=b.toList.toArray:=by simp
     rw[this]at o;exact aV (run_build w t vparts _ o) (.agg _ _ m.1 m.2)
   .exact trivial
  .rename_i n N R A x j;rw[x]at c;obtain⟨⟨e,y,s,_⟩,_⟩:=c;obtain⟨D,C,rfl⟩:=Cd.1 s;split
   .rename_i cs d;rw[j]at h;cases h with
    |agg vs as q k=>
     have l:cL M ob vs.toArray.toList A:=⟨by omega,λi v a As B=>kT (k i v a o_ B)⟩
     obtain⟨b,u,m⟩:=xI (place:=λi=>X (i*D.size,D.size)) (λi p hp=>hp) d l hl;have o:E.P.built t vparts.toList=X b:=by simp only[Program.built,G,y,hz,C];exact u
     have:b=b.toList.toArray:=by simp
     rw[this]at o;exact aV (run_build w t vparts _ o) (.agg _ _ m.1 m.2)
   .exact trivial
  .exact trivial
 .exact trivial
end
section
variable {P:Program} {E:Env} {M:Imm} {ob:Hs} {ac:aw} {w:World} {base:Nat}
def Mem.bare(h:Mem M ob ac w):Mem M [] [] w:=
 ⟨h.imm,rfl,λk c a=>by simp at a,λk b ⟨c,hs,h1,_⟩=>by simp at h1,λk d b ⟨c,hs,h1,_⟩=>by simp at h1⟩
def aGj:aC []=λ_=>ab.dead:=by rfl
def Mem.pure0(h:Mem M ob ac w){v:Value}{a:aa}(b:Rep (λ_ _ _=>False) [] v a):Rep M [] v (AW.ai (λ_=>.dead) 4 a):=by have:=h.bare.pureV 4 v a (kT b);rwa [aGj]at this
def BZ{t:Nat}{a:Addr}{v:Value}{w':World}(hs:(P.info? t).map (·.size)=X v.cells.size)(h:(storeCells a v.cells.toList).run P w= .ok () w'):
  (Kl t (.pointer (X a)) v).run P w= .ok () w':=by
 unfold Kl Ij storeVar;simp only[Bd,Bu,Aq,af hs,ne_eq,not_true_eq_false,if_false];exact h
def VT{y:aa}{new cs':az}{off:Nat}(a:oX off new y.cells=X cs')(f:rC new=O):(aOY y cs').cells=cs':=by
 obtain⟨i,g,b⟩:=lI a;by_cases h:∃as,y= .agg as
 .obtain ⟨as,rfl⟩:=h;rfl
 .have d:y.cells=[y]:=by cases y<;>first|rfl|grind
  have e:aOY y cs'=aNz cs':=by cases y<;>first|rfl|grind
  rw[e];rw[d]at g b
  match cs',g,b with
  |[c],_,b=>
   show c.cells=[c]
   grind[Mc,pX,mY]
theorem aB5{a:Nat}{xs:az}{i off:Nat}{y g:aa}{new:az}(hs:0<a)(k:xs[i]? =X y)(hz:Z y.cells=a)
  (h1:off+Z new<=a) (n:∀(j:Nat),g.cells[j]? =if off<=j/\j<off+Z new then new[j-off]? else y.cells[j]?) {q:Nat} {c:aa} (h:aM a (xs.set i g) q=X c):
  (i*a+off<=q/\q<i*a+off+Z new/\new[q-(i*a+off)]? =X c)\/((q<i*a+off\/i*a+off+Z new<=q)/\aM a xs q=X c):=by
 have f:i<Z xs:=(Ad.1 k).1;obtain⟨z,hz1,hz2⟩:=gM h;have d:a*(q/a)+q%a=q:=Fy q a;have l:=Ef q hs;by_cases b:q/a=i
 .rw [b,Ay f]at hz1;cases hz1;rw[n]at hz2;rw[b,Cz]at d;split at hz2
  .grind
  .rename_i m;right;refine⟨by omega,?_⟩;unfold aM;rw[b,k];exact hz2
 .rw [Bf (Gs b)]at hz1;right;refine⟨?_,?_⟩
  .rcases Nat.lt_or_ge (q/a) i with e|o
   .left;have:(q/a+1)*a<=i*a:=Br _ e;rw[Cg,Cz]at this;omega
   .right;have:(i+1)*a<=q/a*a:=Br _ o_
    grind[Cg,Cz]
  .unfold aM;rw[hz1];exact hz2
def VU(P:Program)(M:Imm)(ob:Hs)(ac:aw)(w:World)(s:Sem Unit)(v:aa)(ap:aw):Prop:=
 v= .undef/\∃w' M' ob',s.run P w= .ok () w'/\Ext M ob ac w M' ob' ap w'/\Mem M' ob' ap w'/\cS ob ac ob' ap
def aHJ(hE:ae E)(hm:Mem M ob ac w){t:Nat}{v u:Value}{a x:aa}(hv:Rep M ob v a)(hu:Rep M ob u x):
  Sd (VU E.P M ob ac w (Kl t v u)) (λ_ _=>False) (λ_=>False) ac base (XG E (aC ac) t a x):=by
 unfold XG;split
 .exact trivial
 .rename_i W hT;have Am:=hE.tab t W hT;refine sdc λhg=>?_;obtain⟨J,D⟩:=aZ hg;obtain⟨hcl,H,hcr⟩:=hu.cells_one J;have As:u.cells.size=W.size:=by
   have:=aE D;rw[AE]at this
   grind
  have hs:(E.P.info? t).map (·.size)=X u.cells.size:=by rw[As];exact Am.size?
  split
  .rename_i k off;obtain⟨b,rfl,At⟩:=hv.ref_inv;split
   .rename_i T' cs A;have B:=cK A s_;split
    .rename_i cs' d;obtain⟨p1,p2,p3⟩:=lI d;obtain⟨hs0,e1,b',rfl,hM,cv,hh,Q,h1',hrep⟩:=hm.obj k _ B;have An:b'=b:=by rw[cG e1]at At;simpa using At
     subst An;have F:off+Z u.cells.toList<=Z cv:=o_;obtain⟨q1,q2⟩:=fS cv u.cells.toList off F;have hst:=run_storeCells_at E.P b' off T' u.cells.toList 0 cv.toArray w hh o_ H;simp only[Fj]at hst
     have:=hm.cellsTurn (cs':=cs') (cv':=cv.take off++u.cells.toList++cv.drop (off+Z u.cells.toList)) B At o_ (λv hv=>by
       grind[Cw,Ff]) (λi v c hvi hci=>by
       grind)
     refine⟨rfl,_,M,ob,BZ hs hst,?_⟩
     grind[aQ]
    .exact trivial
   .exact trivial
  .rename_i k g i l off;cases hv with
   |eref _ _ _ _ _ b n c G=>
   split
   .rename_i g' sz' e xs A;have B:=cK A s_;refine sdc λR=>?_;obtain⟨I,h⟩:=aZ R;obtain⟨T,o⟩:=aZ I;obtain⟨V,hg5⟩:=aZ T;obtain rfl:=aE V;obtain rfl:=aE hg5;have f:0<l:=Cj o;have hpu:=hm.pureV 4 u x hu;obtain⟨hcl',_,hcr'⟩:=hpu.cells_one h;obtain⟨hs0,v0,e1,e2,e3,e4,m,_⟩:=hm.rowOf B;have hrl:=m.len;rw[G]at e4;cases e4;obtain⟨cv,_,_,hz,_⟩:=m
    have K:∀{y C:aa},0<l->xs[i]? =X y->off+Z (ai (aC ac) 4 x).cells<=l->(∀(j:Nat),C.cells[j]? =if off<=j/\j<off+Z (ai (aC ac) 4 x).cells then(ai (aC ac) 4 x).cells[j-off]? else y.cells[j]?)->
      Z C.cells=l->VU E.P M ob ac w (Kl t (.pointer (X ⟨b,i*l+off,U⟩)) u) .undef (bQ ac k (.row g l e (xs.set i C))):=by
     intro y C f s h1 h2 h3;have r:i<Z xs:=(Ad.1 s).1;have L:(i+1)*l<=Z xs*l:=Br _ r;rw[Cg,Ii]at L
     obtain⟨w',r1,r2,r3,r4⟩:=hm.rowWrite (P:=E.P) (xs':=xs.set i C) B G f (p:=i*l+off) (news:=u.cells.toList) o_ H s_ (λz hz'=>by
       grind[List.mem_or_eq_of_mem_set]) (λq c hq=>by
       grind[aB5,Ax,Ab])
     refine⟨rfl,w',M,ob,BZ hs r1,?_⟩;rw[aQ B];exact⟨r3,r2,r4⟩
    cases hq:(Au off 0&&Au W.size l)with
    |true=>
     obtain⟨ho1,Y⟩:=aZ hq;obtain rfl:=aE ho1;have hts:=aE Y;intro r;have Be:Z (ai (aC ac) 4 x).cells=l:=by grind
     have s:=Ab r;have hyz:=hz _ (Ax s)
     exact K f s o_ (λj=>by
       grind[Bk]) Be
    |false=>
     intro y s;dsimp only;split
     .rename_i cs' d;obtain⟨p1,p2,p3⟩:=lI d;have hyz:=hz y (Ax s);have N:=VT d h;exact K f s o_ (λj=>by rw[N];exact p3 j) (by rw[N];omega)
     .exact trivial
   .exact trivial
  .exact trivial
end
section
variable {P:Program} {E:Env} {M:Imm} {ob:Hs} {ac:aw} {w:World} {base:Nat}
def Mem.rowSplice(hm:Mem M ob ac w){k g a:Nat}{e:TypeId}{xs ys:az}(h:ac[k]? =X (.row g a e xs)){b n cap:Nat}(r:at' ob k g=X (.slice (X ⟨b,0,U⟩) n cap))(hs:0<a){i:Nat}(l:i+Z ys<=Z xs)
  (hz:∀y∈ys,Z y.cells=a) {news:bb} (hl:Z news=Z ys*a) (h1:∀u∈news,u.oneCell'=O) (o:∀(q:Nat) c,aM a ys q=X c->∃u,news[q]? =X u/\Rep M [] u c):
  ∃w',(storeCells ⟨b,i*a,U⟩ news).run P w= .ok () w'/\Mem M ob (ac.set k (.row g a e (xs.take i++ys++xs.drop (i+Z ys)))) w'/\
   Ext M ob ac w M ob (ac.set k (.row g a e (xs.take i++ys++xs.drop (i+Z ys)))) w'/\cS ob ac ob (ac.set k (.row g a e (xs.take i++ys++xs.drop (i+Z ys)))):=by
 obtain⟨s,B,F,D,C,z,f,_⟩:=hm.rowOf h;obtain⟨cv,_,_,v,_⟩:=f;have d:(i+Z ys)*a<=Z xs*a:=Br _ l;rw[Cg]at d;refine hm.rowWrite (P:=P) h r hs (p:=i*a) (news:=news) o_ h1 q_ (λy A=>?_) (λq c x=>?_)
 .grind [Cw,Ff]
 .rcases IF hs l x with⟨j,m,t⟩|⟨j,m⟩
  .left;exact⟨j,by omega,o _ c t⟩
  .right;exact⟨by omega,m⟩
theorem sY{xs:az}{i:Nat}:xs.take i++[]++xs.drop (i+0)=xs:=by simp
theorem rS(hm:Mem M ob ac w)(a:ac[base]? =X .dead)(d:ob[base]? =X []){s:Sem Value}{f:Nat}{e:TypeId}{v:Value}{w':World}{xs:az}(h:s.run P w= .ok v w')(g:Grown M w w' f e v xs){hint:Nat}:
  PM P M ob w s ac base (rT hint base f e xs):=by
 have j:base<Z ob:=(Ad.1 d).1;unfold rT;split
 .obtain ⟨h1,i,h3⟩:=g.row hm a d;refine⟨v,w',M,ob.set base [v],h,?_⟩;rw[aQ a];refine⟨i,h1,h3,?_⟩;obtain⟨cv,k,_⟩:=g.own;have c:at' (ob.set base [v]) base 0=X v:=by rw[cG (Ay j)];rfl
  rcases dW k with⟨q,_⟩|⟨b,cap,q,_⟩
  all_goals (rw[q]at c⊢;exact .row _ _ _ _ _ c)
 .obtain ⟨h1,i,h3,l⟩:=g.tail hm a d;refine⟨v,w',iN M v f xs,ob.set base [v],h,?_⟩;rw[aQ a]
  grind
def KC(hm:Mem M ob ac w){s:Sem Value}{a:Nat}{e:TypeId}{v:Value}{w':World}{xs:az}(c:s.run P w= .ok v w')(g:Grown M w w' a e v xs){t:Tk}(d:wI ob v t):PM P M ob w s ac base (.val (.slice a xs t)):=by obtain⟨h1,b⟩:=g.more hm;obtain⟨cv,f,_⟩:=g.own;exact⟨v,w',_,ob,c,b,h1,cS.refl _ _,kY f g.hz d⟩
def aDm(hE:ae E)(hm:Mem M ob ac w)(Q:ac[base]? =X .dead)(Be:ob[base]? =X []){hint:Nat}{t t2 ty:TypeId}{v x:Value}{s a:aa}(I:Rep M ob v s)(hx:Rep M ob x a):
  PM E.P M ob w (Cr #[t,t2] ty #[v,x]) ac base (vU E hint base (aC ac) t t2 s a):=by
 unfold vU;split
 .rename_i e esz eb _ _ _ hT;obtain⟨⟨N,i,z,As,hsz,heb,hz,B,hz1⟩,_⟩:=(hE.tab t _ hT).kind;subst hsz heb;refine sdc λhp=>?_;have d:0<i.size:=Cj hp;split
  .exact trivial
  .rename_i ys hys;have h:=U4 hE hm hx hys d;split
   .rename_i sz xs tk;split
    .rename_i k g;split
     .rename_i g' sz' e' C;refine sdc λD=>?_;obtain⟨l,L⟩:=aZ D;obtain⟨j,u⟩:=aZ l;obtain⟨A,r⟩:=aZ j;obtain rfl:=aE A;have Am:=aE u;have W:=aE r;subst W;subst Am;have q4:=aE L;subst q4;rintro⟨F,G⟩;have p:=cK C s_;obtain⟨J,w',M',ob',o,m,r3,Y,r5⟩:=hm.appendTail (P:=E.P) (ty:=ty) N As hz hz1 B d p I h F G;refine⟨J,w',M',ob',o,?_⟩;rw[aQ p];exact⟨r3,m,Y,r5⟩
     .exact trivial
    .refine sdc λD=>?_;have q:=aE D;subst q;rintro⟨F,G⟩;obtain⟨_,An⟩:=I.untok;obtain rfl:v= .slice U 0 0:=An;obtain⟨J,w',o,m⟩:=append_nil (P:=E.P) (ty:=ty) hm N As hz hz1 B d h F G;exact rS hm Q Be o m
    .refine sdc λD=>?_;have q:=aE D;subst q;rintro⟨F,G⟩;obtain⟨J,w',o,m⟩:=UI (P:=E.P) (ty:=ty) hm N As hz hz1 B d I h F G;split
     .rcases m with⟨rfl,rfl,rfl⟩|⟨_,m⟩
      .refine ⟨J,w',M,ob,o,Ext.refl _ _ _ _,hm,cS.refl _ _,?_⟩;rw[Ap];exact I.untok.1
      .exact KC hm o m trivial
     .intro T;rcases m with⟨_,rfl,rfl⟩|⟨q,_⟩
      .exact ⟨J,w',M,ob,o,Ext.refl _ _ _ _,hm,cS.refl _ _,I⟩
      .exact bv T q
     .intro T
      grind[rS]
    .exact trivial
   .rintro ⟨F,G⟩;cases I;obtain⟨J,w',o,m⟩:=append_nil (P:=E.P) (ty:=ty) hm N As hz hz1 B d h F G;exact rS hm Q Be o m
   .rename_i k g;split
    .rename_i g' sz e' xs C;refine sdc λD=>?_;obtain⟨j,u⟩:=aZ D;obtain⟨A,r⟩:=aZ j;obtain rfl:=aE A;have W:=aE r;subst W;have Am:=aE u;subst Am;rintro⟨F,G⟩;have p:=cK C s_;obtain⟨V,n,c,rfl,f⟩:=I.row_inv;obtain⟨J,w',ob',o,m,r3,Y,r5⟩:=hm.appendRow (P:=E.P) (ty:=ty) N As hz hz1 B d p f h F G;refine⟨J,w',M,ob',o,?_⟩;rw[aQ p];exact⟨r3,m,Y,r5⟩
    .exact trivial
   .rename_i k g lo len sz;split
    .rename_i g' sz' e' xs C;refine sdc λD=>?_;obtain⟨l,L⟩:=aZ D;obtain⟨j,u⟩:=aZ l;obtain⟨A,r⟩:=aZ j;obtain rfl:=aE A;have Am:=aE u;have W:=aE r;subst W;subst Am;have q4:=aE L;subst q4;intro hfit;have p:=cK C s_;obtain⟨hs0,v0,e1,e2,e3,e4,R,_⟩:=hm.rowOf p;have At:∀{V n c},at' ob k g=X (.slice V n c)->n=Z xs:=λ{V n c} f=>by rw[f]at e4;cases e4;rcases R.len with⟨q,rfl⟩|⟨b,cap,q,_⟩<;>cases q<;>rfl
     obtain⟨⟨news,H,s2⟩,hz',_⟩:=h;cases I with
     |sub _ _ _ _ _ b n c f hl hn hc hmm=>
      have:=At f;obtain⟨w',o,m,r3,Y⟩:=hm.rowSplice (P:=E.P) (ys:=ys) (i:=lo+len) (news:=news) p f d o_ hz' H.newsLen H.one s2;refine⟨.slice (X ⟨b,lo*i.size,U⟩) (len+Z ys) (c-lo),w',M,ob,?_,?_⟩
      .have hst:(storeCells ((⟨b,lo*i.size,U⟩:Addr).add (len*i.size)) news).run E.P w= .ok () w':=by rw[bI,<-Cg];exact o
       have K:len+Z ys<=c-lo:=o_;rcases H.kind with⟨e',y⟩|y<;>simp[Cr,run_underlying N,run_underlying y,sizeOf,typeInfo,As,H.len,K,H.cells,hst]
      .rw [aQ p];exact⟨r3,m,Y,.sub _ _ _ _ _ b n c f hl o_ hc hmm⟩
     |sub0 _ _ _ _ V a' n c f hl hc=>
      have:=At f;have hy0:ys=[]:=Bb o_;subst hy0;have hn0:news=[]:=Bb (by rw[H.newsLen];simp);subst hn0;refine⟨.slice a' 0 0,w,M,ob,?_,?_⟩
      .have hc0:(Ci i.size 0 x).run E.P w= .ok #[] w:=H.cells;have hl0:∀w,(Builtin.lenOf x).run E.P w= .ok 0 w:=H.len;rcases H.kind with⟨e',y⟩|y<;>cases a'<;>simp[Cr,run_underlying N,run_underlying y,sizeOf,typeInfo,As,hl0,hc0,storeCells]
      .rw [aQ p];have:ac.set k (.row g i.size e (xs.take (lo+0)++[]++xs.drop (lo+0+Z ([]:az))))=ac:=by rw[Bs,sY];exact gF p
       rw[this];exact⟨Ext.refl _ _ _ _,hm,cS.refl _ _,.sub0 _ _ _ _ V a' n c f hl hc⟩
    .exact trivial
   .exact trivial
 .exact trivial
end
section
variable {P:Program} {E:Env} {M:Imm} {ob:Hs} {ac:aw} {w:World} {base:Nat}
def aGB{α:Type}(l:List α)(n:Nat):l.drop (min n (Z l))=l.drop n:=by simp
def aMn(hE:ae E)(hm:Mem M ob ac w){t T ty:TypeId}{v x:Value}{d a:aa}(hv:Rep M ob v d)(hx:Rep M ob x a):
  PM E.P M ob w (Km #[t,T] ty #[v,x]) ac base (aHZ E (aC ac) t T d a):=by
 unfold aHZ;split
 .rename_i e esz eb _ _ _ hT;obtain⟨⟨hu,i,z,hi,Q,Be,hz,hzs,hz1⟩,_⟩:=(hE.tab t _ hT).kind;subst Q Be;refine sdc λhp=>?_;have B:0<i.size:=Cj hp
  have u:∀n:Nat,(n:Int)<=9223372036854775807->inR .i64 (n:Int):=λn h=>⟨by simp only[bV];omega,by simp only[aW];omega⟩
  split
  .exact trivial
  .rename_i ys W;obtain⟨⟨Y,s1,_⟩,Am,r⟩:=U4 hE hm hx W B
   have run:∀{s:Option Addr} {n c m:Nat} {news:bb} {w':World},m=min (Z ys) n->(Ci i.size m x).run E.P w= .ok news.toArray w->(∀a,s=X a->(storeCells a news).run E.P w= .ok () w')->(s=U->w'=w)->
     (Km #[t,T] ty #[.slice s n c,x]).run E.P w= .ok (.int .i64 (m:Nat)) w':=by
    intro s n c m news w' h1 h2 h3 h4;subst h1;have A:Nat.min (Z ys) n=min (Z ys) n:=rfl;cases s with
    |none=>
     rw[h4 rfl];simp[Km,run_underlying hu,s1.len,A,sizeOf,typeInfo,hi,h2,goInt]
    |some a=>
     simp[Km,run_underlying hu,s1.len,A,sizeOf,typeInfo,hi,h2,h3 a rfl,goInt]
   have put:∀{k g:Nat} {xs:az} {b n cap p m:Nat},ac[k]? =X (.row g i.size e xs)\/(∃o,ac[k]? =X (.row g i.size o xs))->True:=λ_=>trivial;clear put
   have key:∀{k g:Nat} {o:TypeId} {xs:az} {b n cap p m:Nat},ac[k]? =X (.row g i.size o xs)->at' ob k g=X (.slice (X ⟨b,0,U⟩) n cap)->m<=Z ys->p+m<=Z xs->
     ∃(news:bb) (w':World),(Ci i.size m x).run E.P w= .ok news.toArray w/\(storeCells ⟨b,p*i.size,U⟩ news).run E.P w= .ok () w'/\
      Mem M ob (ac.set k (.row g i.size o (xs.take p++ys.take m++xs.drop (p+m)))) w'/\Ext M ob ac w M ob (ac.set k (.row g i.size o (xs.take p++ys.take m++xs.drop (p+m)))) w'/\cS ob ac ob (ac.set k (.row g i.size o (xs.take p++ys.take m++xs.drop (p+m)))):=by
    intro k g o xs b n cap p m j f hmy hpm;obtain⟨news,n1,n2,F,H⟩:=r m hmy;have I:Z (ys.take m)=m:=by simp;omega
    obtain⟨w',r1,r2,r3,r4⟩:=hm.rowSplice (P:=E.P) (ys:=ys.take m) (i:=p) (news:=news) j f B o_ (λy hy=>Am y (Cw hy)) (by rw[I];exact n2) F (λq c hq=>by grind[hZ,oM])
    grind
   split
   .rename_i k g;split
    .rename_i g' sz o xs G;refine sdc λR=>?_;obtain⟨D,C⟩:=aZ R;obtain rfl:=aE D;have As:=aE C;subst As;have j:=cK G s_;obtain⟨s,n,c,rfl,f⟩:=hv.row_inv;obtain⟨V,v0,e1,e2,e3,K,l,_⟩:=hm.rowOf j;rw[f]at K;cases K;rcases l.len with⟨q,rfl⟩|⟨b,cap,q,As,q3,q4⟩
     .cases q;obtain⟨news,n1,n2,_⟩:=r 0 (Bn _);refine⟨.int .i64 ((0:Nat):Int),w,M,ob,run (m:=0) s_ n1 (λa h=>by cases h) (λ_=>rfl),?_⟩;rw[aQ j];have:ac.set k (.row g i.size o (ys.take (Z ([]:az))++([]:az).drop (Z ys)))=ac:=by simp only[Bs,Jp,List.drop_nil,Ap];exact gF j
      rw[this];exact⟨Ext.refl _ _ _ _,hm,cS.refl _ _,by simpa using Rep.int .i64 0 (u 0 d_)⟩
     .cases q;obtain⟨news,w',n1,n2,F,H,N⟩:=key (p:=0) (m:=min (Z ys) (Z xs)) j f (Nat.min_le_left _ _) o_;rw[Mf]at n2;refine⟨.int .i64 ((min (Z ys) (Z xs):Nat):Int),w',M,ob,run rfl n1 (λa h=>by cases h;exact n2) (λh=>by cases h),?_⟩;rw[aQ j];have An:xs.take 0++ys.take (min (Z ys) (Z xs))++xs.drop (0+min (Z ys) (Z xs))=ys.take (Z xs)++xs.drop (Z ys):=by
       rw[Jp,List.nil_append,Bv,aGB]
       grind[Gl,Hr,Bq,Nat.min_eq_right]
      rw[An]at F H N;have hmx:=gZ;have:min (Z ys) (Z xs)<=Z xs:=Nat.min_le_right _ _;exact⟨H,F,N,.int _ _ (u _ o_)⟩
    .exact trivial
   .rename_i k g lo len sz;split
    .rename_i g' sz' o xs G;refine sdc λR=>?_;obtain⟨L,At⟩:=aZ R;obtain⟨D,C⟩:=aZ L;obtain rfl:=aE D;have q3:=aE At;have As:=aE C;subst As;subst q3;have j:=cK G s_;obtain⟨V,v0,e1,e2,e3,K,l,_⟩:=hm.rowOf j;have J:∀{s n c},at' ob k g=X (.slice s n c)->n=Z xs:=λ{s n c} f=>by rw[f]at K;cases K;rcases l.len with⟨q,rfl⟩|⟨b,cap,q,_⟩<;>cases q<;>rfl
     cases hv with
     |sub _ _ _ _ _ b n c f hl hn hc hmm=>
      have:=J f;obtain⟨news,w',n1,n2,F,H,N⟩:=key (p:=lo) (m:=min (Z ys) len) j f (Nat.min_le_left _ _) o_;refine⟨.int .i64 ((min (Z ys) len:Nat):Int),w',M,ob,run rfl n1 (λa h=>by cases h;exact n2) (λh=>by cases h),?_⟩;rw[aQ j];have An:ys.take (min (Z ys) len)=ys.take len:=by grind[Gl,Hr,Bq,Nat.min_eq_right]
      rw[An]at F H N;have:min (Z ys) len<=len:=Nat.min_le_right _ _;exact⟨H,F,N,.int _ _ (u _ o_)⟩
     |sub0 _ _ _ _ s a' n c f hl hc=>
      have:=J f;obtain⟨news,n1,n2,_⟩:=r 0 (Bn _);have hn0:news=[]:=Bb o_;subst hn0;refine⟨.int .i64 ((0:Nat):Int),w,M,ob,run (m:=0) s_ n1 (λa h=>rfl) (λ_=>rfl),?_⟩;rw[aQ j];have:ac.set k (.row g i.size o (xs.take lo++ys.take 0++xs.drop (lo+min (Z ys) 0)))=ac:=by grind[Nat.min_zero,sY,gF]
      rw[this];exact⟨Ext.refl _ _ _ _,hm,cS.refl _ _,by simpa using Rep.int .i64 0 (u 0 d_)⟩
    .exact trivial
   .exact trivial
 .exact trivial
def AQ{z:Value}{a:aa}(e:Rep M [] z a)(d:a≠ .undef){b:Nat}(hz:z.cells.size=b)(hs:0<b){n:Nat}{cv:bb}(hl:Z cv=n*b)(g:∀q,q<n*b->cv[q]? =z.cells.toList[q%b]?):
  (∀y∈Ak n a,Z y.cells=b)/\∀(q:Nat) c,aM b (Ak n a) q=X c->∃u,cv[q]? =X u/\Rep M [] u c:=by
 obtain⟨h1,f⟩:=e.cells d
 grind[hZ,Ga,gM,Ax,Ef,Ab]
def wJ{z:Array Value}{n:Nat}:Z (Cf z n).toList=n*z.size/\∀q,q<n*z.size->(Cf z n).toList[q]? =z.toList[q%z.size]?:=by
 refine⟨by simp[Cf],λq b=>?_⟩;have hs:0<z.size:=by grind
 have a:=Ef q hs;simp only[Cf,Kc,Bw,Array.toList_range];simp_all
def H7{z:Array Value}{n:Nat}(hs:0<z.size):Z (madeCells z n).toList=n/\∀q,q<n->(madeCells z n).toList[q]? =z.toList[q%z.size]?:=by refine⟨by simp[madeCells],λq b=>?_⟩;have a:=Ef q hs;simp only[madeCells,Kc,Bw,Array.toList_range];simp_all
def aBD{z:Array Value}{cv:bb}{n:Nat}(h:z.toList.all (·.oneCell')=O)(hl:Z cv=n)(b:∀q,q<n->∃j:Nat,cv[q]? =z.toList[j]?):∀u∈cv,u.oneCell'=true:=λu a=>by grind[Cu,List.all_eq_true,Ax]
theorem DP{a:aa}(h:FP a=O):a≠ .undef:=λe=>by subst e;cases h
def aH1(hE:ae E)(hm:Mem M ob ac w){t ty:TypeId}{v:Value}{d:aa}(l:Rep M ob v d):PM E.P M ob w (Jt #[t] ty #[v]) ac base (XS E (aC ac) t d):=by
 unfold XS;split
 .rename_i e esz eb _ _ _ hT;obtain⟨⟨J,i,z,Am,B,As,hz,s,hz1⟩,_⟩:=(hE.tab t _ hT).kind;subst B As;split
  .rename_i A I;refine sdc λhp=>?_;obtain⟨At,K⟩:=aZ hp;have j:0<i.size:=Cj At;obtain⟨i',z',u,An,x,Y,H,y,hne⟩:=(hE.tab e A I).info;rw[Am]at u;cases u;rw[hz]at x;cases x;split
   .rename_i k g lo len sz;split
    .rename_i g' sz' e' xs R;refine sdc λhg=>?_;obtain⟨r,F⟩:=aZ hg;obtain⟨N,C⟩:=aZ r;obtain rfl:=aE N;have q3:=aE F;have q2:=aE C;subst q2;subst q3;have m:=cK R s_;obtain⟨hs0,v0,e1,e2,e3,W,o,_⟩:=hm.rowOf m;have G:∀{Q n c},at' ob k g=X (.slice Q n c)->n=Z xs:=λ{Q n c} f=>by rw[f]at W;cases W;rcases o.len with⟨q,rfl⟩|⟨b,cap,q,_⟩<;>cases q<;>rfl
     have same:len=0->ac.set k (.row g i.size e' (xs.take lo++Ak len (ai (λ_=>.dead) 4 A.zero)++xs.drop (lo+len)))=ac:=λh=>by subst h;rw[List.replicate_zero,sY];exact gF m
     cases l with
     |sub _ _ _ _ _ b n c f hl hn hc hmm=>
      have:=G f;by_cases h0:len=0
      .refine ⟨.tuple #[],w,M,ob,?_,?_⟩
       .subst h0;simp[Jt,run_underlying J]
       .rw [aQ m,same h0];exact⟨Ext.refl _ _ _ _,hm,cS.refl _ _,.tup [] [] rfl λi v a l=>by simp at l⟩
      .have D:=hm.pure0 H;obtain⟨L,Be⟩:=wJ (z:=z.cells) (n:=len);rw[s]at L Be;have p:ai (λ_=>.dead) 4 A.zero≠ .undef:=DP K;obtain⟨r1,r2⟩:=AQ (M:=M) D p s j L Be;obtain⟨w',s1,s2,s3,V⟩:=hm.rowSplice (P:=E.P) (ys:=Ak len (ai (λ_=>.dead) 4 A.zero)) (i:=lo) (news:=(Cf z.cells len).toList) m f j q_ r1 q_ (aBD y L λq hq=>⟨_,Be q hq⟩) r2;rw[Ga]at s2 s3 V;refine⟨.tuple #[],w',M,ob,?_,?_⟩
       .have T:(zeroValue e).run E.P w= .ok z w:=by simp[zeroValue,typeInfo,Am,hz]
        cases len with
        |zero=>omega
        |succ len=>simp[Jt,run_underlying J,T,s1]
       .rw [aQ m];exact⟨s3,s2,V,.tup [] [] rfl λi v a l=>by simp at l⟩
     |sub0 _ _ _ _ Q a' n c f hl hc=>
      refine⟨.tuple #[],w,M,ob,?_,?_⟩
      .cases a'<;>simp[Jt,run_underlying J]
      .rw [aQ m,same rfl];exact⟨Ext.refl _ _ _ _,hm,cS.refl _ _,.tup [] [] rfl λi v a l=>by simp at l⟩
    .exact trivial
   .exact trivial
  .exact trivial
 .exact trivial
def aMl(hE:ae E)(hm:Mem M ob ac w)(r:ac[base]? =X .dead)(D:ob[base]? =X []){t:TypeId}{F L:Value}{n c:aa}(As:Rep M ob F n)(An:Rep M ob L c){hint:Nat}:
  PM E.P M ob w (Instr.makeSlice t F L) ac base (aBh E hint base t n c):=by
 unfold aBh;split
 .rename_i e At eb _ _ _ k a Y b V;obtain⟨⟨T,i,z,I,p,C,hz,j,hz1⟩,_⟩:=(hE.tab t _ V).kind;subst p C;split
  .rename_i G u;refine sdc λhp=>?_;obtain⟨y,v⟩:=aZ hp;have f:0<i.size:=Cj y;obtain⟨i',z',o,J,h,K,s,l,N⟩:=(hE.tab e G u).info;rw[I]at o;cases o;rw[hz]at h;cases h;obtain⟨rfl,_⟩:=As.int_inv;obtain⟨rfl,_⟩:=An.int_inv;rintro m rfl ⟨rfl,Am,c3⟩;have R:=gZ;have d:=run_make (P:=E.P) w t e i z T I hz k Y (m:Int) (m:Int) o_ (Ei _) Am o_;rw[Bm]at d;have A:=hm.pure0 s;obtain⟨H,x⟩:=H7 (z:=z.cells) (n:=m*i.size) o_;rw[j]at x;obtain⟨Q,Be⟩:=AQ (M:=M) A (DP v) j f H x;have g:=Grown.ofAlloc (M:=M) (w:=w) (e:=e) (xs:=Ak m (ai (λ_=>.dead) 4 G.zero)) (cv:=(madeCells z.cells (m*i.size)).toList) f q_ (aBD l H λq W=>⟨_,x q W⟩) Q q_ Be;have B:(madeCells z.cells (m*i.size)).toList.toArray=madeCells z.cells (m*i.size):=by simp
   rw[B,Ga]at g;exact rS (hint:=2) hm r D d g
  .exact trivial
 .exact trivial
def aBm:∀(new l:az),Z new<=Z l->∃r,YC new l=X r
 |[],l,_=>⟨l,rfl⟩
 |_::_,[],h=>by simp at h
 |c::new,d::l,h=>by obtain⟨r,a⟩:=aBm new l (by grind);exact⟨c::r,by simp[YC,a]⟩
def LH:∀(off:Nat) (new l:az),off+Z new<=Z l->∃r,oX off new l=X r
 |0,new,l,h=>by obtain⟨r,a⟩:=aBm new l o_;exact⟨r,by simpa[oX]using a⟩
 |n+1,new,[],h=>by simp at h
 |n+1,new,c::l,h=>by obtain⟨r,a⟩:=LH n new l (by grind);exact⟨c::r,by simp[oX,a]⟩
def QW(og:Nat->ab)(l:au):au:=l.map λp=>(p.1,ai og 4 p.2)
def N8(og:Nat->ab)(d:Nat):∀{b:au} {n:Nat} {xs:az} {base:az},GZ og d n b=X xs->(n+Z b)*d<=Z base->
  ∃cs',GY (λi=>X (i*d,d)) base (QW og b)=X cs'/\Z cs'=Z base/\(∀o,o<n*d->cs'[o]? =base[o]?)/\Z xs=Z b/\
   (∀x∈xs,Z x.cells=d/\rC x.cells=O)/\∀(i j:Nat) x c,xs[i]? =X x->x.cells[j]? =X c->cs'[(n+i)*d+j]? =X c:=by
 intro b;induction b with
 |nil=>intro n xs base h hl;cases h;exact⟨base,rfl,rfl,λ_ _=>rfl,rfl,λx e=>by simp at e,λi j x c e=>by simp at e⟩
 |cons p b F=>
  intro n xs base h hl;obtain⟨i,A⟩:=p;simp only[GZ]at h
  obtain⟨v,t⟩:∃v,ai og 4 A=v:=⟨_,rfl⟩
  rw[t]at h;obtain⟨s,m⟩:=fK h;simp only[Af]at s;obtain⟨⟨B,r⟩,G⟩:=s;have C:=aE B;subst C;have hz:=aE r;rw[AE]at hz;cases q:GZ og d (i+1) b with
  |none=>simp[q]at m
  |some l=>
   simp only[q,Fa]at m;subst m;have g:(i+1)*d<=Z base:=by refine Cl (Br _ ?_) hl;simp
   rw[Cg,Ii]at g;obtain⟨z,f⟩:=LH (i*d) v.cells base o_;obtain⟨As,J,I⟩:=lI f;obtain⟨cs',w,H,D,y,K,N⟩:=F (base:=z) q (by grind[Cl,Nat.le_of_eq]);have k:FP v=true:=by cases v<;>first|rfl|(simp[aa.cells,rC,AW.one]at G)
   refine⟨cs',by
    unfold QW at w⊢
    simp only[Bg,GY,t,k,r,Bool.and_self,cond_true,f,w],H.trans J,λo L=>?_,by simp[y],λx e=>?_,λa j x c e u=>?_⟩
   .grind
   .grind
   .cases a with
    |zero=>
     simp at e;subst e;have M:j<d:=by rw[<-hz];exact(Ad.1 u).1
     rw[Fj,D _ (by rw[Cg];omega),I,bu o_,Jh];exact u
    |succ a=>
     grind
def aKH(l:au):aF2 l=Z l:=by induction l with
 |nil=>rfl
 |cons a r b=>simp[aF2,b]
def IB(hE:ae E)(hm:Mem M ob ac w)(H:ac[base]? =X .dead)(N:ob[base]? =X []){hint:Nat}{t:TypeId}{len:Nat}{h:au}{vparts:Array (Nat×Value)}(hl:HS M ob vparts.toList h):
  PM E.P M ob w (Ke t len vparts) ac base (oK E hint base (aC ac) t len h):=by
 unfold oK;split
 .rename_i e d eb _ _ _ hT;obtain⟨⟨hu,ie,z,hi,hs,hb,hz,hzs,_⟩,_⟩:=(hE.tab t _ hT).kind;refine sdc λW=>?_;simp only[Af]at W;obtain⟨⟨g1,g2⟩,g3⟩:=W;have A:=aE g1;rw[aKH]at A;have I:len*d<=1000:=Cj g2;have k:1<=d:=Cj g3;split
  .rename_i xs R
   let f:Array Value:=if len*d=0 then #[]else(Nh (len*d)).map (z.cells[· % z.cells.size]!)
   have r:f.size=len*d:=by grind
   obtain⟨cs',e1,e2,_,e4,Am,e6⟩:=N8 (aC ac) d (base:=Ak (len*d) .undef) R (by simp[A])
   have At:cL M [] f.toList (Ak (len*d) aa.undef):=⟨by simp[r],λi v a _ ha=>by
    have:a= .undef:=(Jd.1 (Ax ha)).2;subst this
    exact .undef _⟩
   have V:HS M [] vparts.toList (QW (aC ac) h):=⟨by unfold QW;rw[Cb];exact hl.1,λi p q hp T=>by
    unfold QW at T;rw[Bw]at T;obtain⟨q',F,rfl⟩:=Cd.1 T;obtain⟨a1,a2⟩:=hl.2 i p q' hp F
    exact⟨a1,hm.pureV 4 _ _ a2⟩⟩
   obtain⟨b,Y,L⟩:=xI (place:=λi=>X (i*d,d)) (λi p hp=>hp) e1 At V;have o:(Ke t len vparts).run E.P w= .ok (.slice (X ⟨w.heap.size,0,Ni⟩) len len) (w.alloc (.cells b e)):=by
    have J:(E.P.info? e).map (·.size)=X d:=by simp[hi,hs]
    unfold Ke;simp only[Bd,run_underlying hu,Aq,af J];rw[bt o_];have Be:(zeroValue e).run E.P w= .ok z w:=by simp[zeroValue,typeInfo,hi,hz]
    by_cases h0:len*d=0
    .have s:(Nh (len*d)).map ((#[]:Array Value)[· % (#[]:Array Value).size]!)=f:=by grind
     rw[bu h0];simp only[Bd,Bu,Aq];rw[s,Y];rfl
    .have s:(Nh (len*d)).map (z.cells[· % z.cells.size]!)=f:=by grind
     rw[bt h0];simp only[Bd,Bu,Aq,Be];rw[s,Y];rfl
   have l:Z xs=len:=by rw[e4,A]
   have B:Z b.toList=Z xs*d:=by rw[L.1,e2];simp;rw[l]
   have m:∀(j:Nat) c,aM d xs j=X c->cs'[j]? =X c/\AW.one c=true:=by
    intro j c C;obtain⟨y,hy,As⟩:=gM C;have:=e6 _ _ y c hy As;rw[Bv,Cz,Fy]at this
    grind[Ax,mY]
   have D:∀u∈b.toList,u.oneCell'=true:=λu K=>by
    obtain⟨j,An⟩:=Cu K;have n:j<Z xs*d:=by rw[<-B];exact(Ad.1 An).1
    obtain⟨c,C⟩:=BO k (λx G=>(Am x G).1) n;obtain⟨h1,h2⟩:=m j c C;exact(L.2 j u c An h1).one h2
   have g:=Grown.ofAlloc (M:=M) (w:=w) (e:=e) (xs:=xs) (cv:=b.toList) k B D (λx G=>(Am x G).1) (by rw[l];unfold maxLen;have:len*1<=len*d:=Nat.mul_le_mul_left _ k;omega) (λq c C=>by
    obtain⟨h1,_⟩:=m q c C;have n:q<Z b.toList:=by rw[B];exact hZ k C
    exact⟨_,Ab n,L.2 q _ c (Ab n) h1⟩)
   have Q:b.toList.toArray=b:=by simp
   rw[Q,l]at g;split
   .exact KC hm o g ⟨_,len,rfl⟩
   .exact rS hm H N o g
  .exact trivial
 .exact trivial
def RQ(hm:Mem M ob ac w)(c:ac[base]? =X .dead)(d:ob[base]? =X []){t:TypeId}{v:Value}{a:aa}(h:Rep M ob v a)(h1:rC a.cells=O):
  PM P M ob w (do Pure.pure (.pointer (X (<-newVar t v))):Sem Value) ac base (.born (.cells t a.cells) (.ref base 0)):=by
 obtain⟨hl,b,g⟩:=h.cells_one h1;obtain⟨f,i,k,j⟩:=hm.bornCells c d t hl b g;have e:v.cells.toList.toArray=v.cells:=by simp
 rw[e]at f i;refine⟨.pointer (X ⟨w.heap.size,0,Ni⟩),w.alloc (.cells v.cells t),M,ob.set base [.pointer (X ⟨w.heap.size,0,Ni⟩)],?_,?_⟩
 .rfl
 .rw [aQ c]
  grind
end
section
variable {P:Program} {E:Env} {M:Imm} {ob:Hs} {ac:aw} {w:World} {base:Nat}
def aNn(P:Program)(k:Nat)(a:Bool)(n:Nat):Prop:=(a=S/\n=1/\P.underlying k=X (.int .i64))\/(a=O/\(P.underlying k).isSome=O/\OU P k n)
def J3:∀{cs:az} {l:ax},SA cs=X l->cs=l.map (aa.int .i64)
 |[],l,h=>by cases h;rfl
 |c::r,l,h=>by
  cases c<;>first|(simp[SA]at h;done)|skip
  rename_i k n;cases k<;>first|(simp[SA]at h;done)|skip
  cases a:SA r with
  |none=>simp[SA,a]at h
  |some q=>
   simp only[SA,a,Fa]at h;subst h;simp[J3 a]
def A4(hE:ae E){k:Nat}{d:Bool}{a:aa}{l:ax}{v:Value}(h:J2 E k d a=X l)(m:Rep M ob v a):v=hC d l/\aNn E.P k d (Z l):=by
 cases d with
 |false=>
  simp only[J2]at h;split at h
  .rename_i g;split at h
   .cases h;have p:=(hE.tab _ _ g).kind.1;exact⟨m.int_inv.1,.inl ⟨rfl,rfl,p⟩⟩
   .cases h
  .cases h
 |true=>
  simp only[J2]at h;split at h
  .rename_i r g;have j:=(hE.tab _ _ g).kind.isAgg.1;split at h
   .rename_i cs;split at h
    .rename_i s e;obtain⟨h1,q⟩:=fK h;cases q;obtain⟨h3,t⟩:=aZ h1;have f:=J3 e;subst f;obtain⟨vs,rfl,hl,o⟩:=m.agg_inv;have c:Z l=C1 E.fl k:=by grind[aE,AE]
     refine⟨?_,.inr ⟨rfl,j,?_⟩⟩
     .simp only[hC,if_true];congr 2;refine Ez λi=>?_;rw[Bw];cases e:l[i]? with
      |none=>
       grind[List.getElem?_eq_none_iff,Bk]
      |some n=>
       have b:i<Z vs:=by grind[Ad]
       have:=o i _ (.int .i64 n) (Ab b) (by simp[e]);rw[Ab b,this.int_inv.1];rfl
     .rw [c];exact(hE.fl k (by simpa[Nat.blt_eq]using h3)).2
    .cases h
   .cases h
  .cases h
def rG:∀{es:List (ax×aa)} {key:ax},(∀y∈es,y.1≠key)->bZ es key=U/\(∀v,mZ es key v=es++[(key,v)])/\H6 es key=es
 |[],key,_=>⟨rfl,λ_=>rfl,rfl⟩
 |(k,x)::r,key,h=>by obtain⟨h1,b,h3⟩:=rG (es:=r) (key:=key) λy c=>h y (by simp[c]);have a:¬ k=key:=h (k,x) s_;exact⟨by simp[bZ,a,h1],λv=>by simp[mZ,a,b],by simp[H6,a,h3]⟩
def yZ:∀{es:List (ax×aa)} {key:ax} {j:Nat} {y:ax×aa},es[j]? =X y->y.1=key->(∀(i:Nat) b,i<j->es[i]? =X b->b.1≠key)->
  bZ es key=X y.2/\(∀v,mZ es key v=es.set j (key,v))/\H6 es key=es.eraseIdx j
 |[],key,j,y,h,_,_=>by simp at h
 |(k,x)::r,key,0,y,h,a,_=>by
  simp only[Mc,Fa]at h;subst h;have a:k=key:=a;exact⟨by simp[bZ,a],λv=>by simp[mZ,a],by simp[H6,a]⟩
 |(k,x)::r,key,j+1,y,h,a,hb=>by obtain⟨h1,e,h3⟩:=yZ (es:=r) (key:=key) (j:=j) (y:=y) (by simpa using h) a λi b f d=>hb (i+1) b o_ q_;have c:¬ k=key:=hb 0 (k,x) o_ rfl;exact⟨by simp[bZ,c,h1],λv=>by simp[mZ,c,e],by simp[H6,c,h3]⟩
def IK(b:Bool)(n:Nat)(a:List MapEntry)(es:List (ax×aa)):Prop:=Z a=Z es/\∀(i:Nat) x y,a[i]? =X x->es[i]? =X y->x.key=hC b y.1/\Z y.1=n
def IK.tail{c:Bool}{n:Nat}{x:MapEntry}{y:ax×aa}{d:List MapEntry}{es:List (ax×aa)}(h:IK c n (x::d) (y::es)):IK c n d es:=
 ⟨by simpa using h.1,λi a b e f=>h.2 (i+1) a b (by grind) (by grind)⟩
def IK.cons{a:Bool}{n:Nat}{x:MapEntry}{b:List MapEntry}{es:List (ax×aa)}(h:IK a n (x::b) es):∃y r,es=y::r/\x.key=hC a y.1/\Z y.1=n/\IK a n b r:=by
 cases es with
 |nil=>have:=h.1;simp at this
 |cons y r=>exact⟨y,r,rfl,(h.2 0 x y rfl rfl).1,(h.2 0 x y rfl rfl).2,h.tail⟩
def CQ(key:ax)(a:List MapEntry)(es:List (ax×aa))(o:Nat)(r:Option (Nat×Value)):Prop:=
 (r=U/\∀y∈es,y.1≠key)\/∃j x y,r=X (o+j,x.val)/\a[j]? =X x/\es[j]? =X y/\y.1=key/\∀(i:Nat) y',i<j->es[i]? =X y'->y'.1≠key
def CQ.there{key:ax}{x:MapEntry}{y:ax×aa}{a:List MapEntry}{es:List (ax×aa)}{o:Nat}(h:y.1=key):CQ key (x::a) (y::es) o (X (o,x.val)):=
 .inr ⟨0,x,y,rfl,rfl,rfl,h,λi _ b=>by omega⟩
def CQ.on{key:ax}{x:MapEntry}{y:ax×aa}{a:List MapEntry}{es:List (ax×aa)}{o:Nat}{r:Option (Nat×Value)}(c:y.1≠key)(h:CQ key a es (o+1) r):CQ key (x::a) (y::es) o r:=by
 rcases h with⟨h1,d⟩|⟨j,x',b,h1,d,h3,e,f⟩
 .exact .inl ⟨h1,λz hz=>by grind⟩
 .refine .inr ⟨j+1,x',b,by grind,by simp;omega,by simp;omega,e,λi z g hz=>?_⟩
  grind
def CF(a:Int):∀(d:List MapEntry) (es:List (ax×aa)) (o:Nat),IK S 1 d es->∃r,Lw (.int .i64) (.int .i64 a) d o=X r/\CQ [a] d es o r
 |[],es,o,h=>⟨U,rfl,.inl ⟨rfl,λy m=>by
   have:es=[]:=Bb (by have:=h.1;grind)
   grind⟩⟩
 |x::d,es,o,h=>by
  obtain⟨y,r,rfl,h1,f,h3⟩:=h.cons;obtain⟨k,v⟩:=y;have f:Z k=1:=f
  match k,f with
  |[b],_=>
   have i:x.key= .int .i64 b:=h1;simp only[Lw,i,Instr.sameNow,if_true];by_cases c:a=b
   .subst c;simp only[beq_self_eq_true];exact⟨_,rfl,.there rfl⟩
   .have:(a==b)=false:=by grind
    rw[this];obtain⟨g,l,j⟩:=CF a d r (o+1) h3;exact⟨g,l,.on (λe=>c (by cases e;rfl)) j⟩
def sC{k:Nat}{n:Nat}(f:OU P k n){key:ax}(d:Z key=n):∀(a:List MapEntry) (es:List (ax×aa)) (o:Nat),IK O n a es->∃r,(Kf k (hC O key) a o).run P w= .ok r w/\CQ key a es o r
 |[],es,o,h=>⟨U,by rfl,.inl ⟨rfl,λy m=>by
   have:es=[]:=Bb (by have:=h.1;grind)
   grind⟩⟩
 |x::a,es,o,h=>by
  obtain⟨y,r,rfl,h1,i,h3⟩:=h.cons;have b:=(f w key y.1 d i).1;rw[<-h1]at b;by_cases c:key=y.1
  .rw [bq c]at b;exact⟨_,by simp[Kf,b],.there c.symm⟩
  .rw [bp c]at b;obtain⟨g,l,j⟩:=sC f d a r (o+1) h3;exact⟨g,by simp[Kf,b,l],.on (λe=>c e.symm) j⟩
def tC{k:Nat}{g:Bool}{n:Nat}(j:aNn P k g n){key:ax}(i:Z key=n){b:List MapEntry}{es:List (ax×aa)}(h:IK g n b es):
  ∃r,(Lx k (hC g key) b).run P w= .ok r w/\CQ key b es 0 r:=by
 rcases j with⟨rfl,rfl,e⟩|⟨rfl,m,l⟩
 .match key,i with
  |[a],_=>
   obtain⟨r,c,f⟩:=CF a b es 0 h;exact⟨r,by simp[Lx,run_underlying e,hC,c],f⟩
 .obtain ⟨r,c,f⟩:=sC (w:=w) l i b es 0 h;cases e:P.underlying k with
  |none=>grind
  |some d=>
   cases b with
   |nil=>simp[Kf]at c;subst c;exact⟨U,by simp[Lx,run_underlying e,Lw],f⟩
   |cons x b=>
    obtain⟨y,o,rfl,h1,p,h3⟩:=h.cons;refine⟨r,?_,f⟩;have hs:Instr.sameNow d (hC O key) x.key=none:=by rw[h1];simp only[hC,if_true];cases d<;>rfl
    simp only[Lx,Bd,run_underlying e,Aq,Lw,hs];exact c
def MO{k:Nat}{b:Bool}{n:Nat}(d:aNn P k b n){key:ax}(a:Z key=n)(c:Bool):(Hv c 10000 k (hC b key)).run P w= .ok () w:=by
 rcases d with⟨rfl,rfl,f⟩|⟨rfl,g,e⟩
 .rw [show(10000:Nat)=9999+1 from rfl,Hv];simp only[Bd,run_underlying f,Aq,hC,Cy,if_false,Bu]
 .exact (e w key key a a).2 c
def Mem.mpOf(hm:Mem M ob ac w){j:Nat}{a:Bool}{es:List (ax×aa)}(d:aC ac j= .mp a es){v:Value}(i:Rep M ob v (.mref j)):
  ∃b,v= .map (X b)/\ob[j]? =X [.map (X b)]/\ac[j]? =X (.mp a es)/\(∀o,NoM M b o)/\aDR M w b a es:=by
 cases i with
 |mref _ b c=>
  have e:=cK d s_;obtain⟨hs,g,f,h,k,l⟩:=hm.obj j _ e;have:f=b:=by rw[cG g,h]at c;simp_all
  subst this;simp_all
def aDR.enOK{b:Nat}{a:Bool}{es:List (ax×aa)}{n:Nat}{c:List MapEntry}(hl:Z c=Z es)(h:∀(i:Nat) x y,c[i]? =X x->es[i]? =X y->x.key=hC a y.1/\(a=S->Z y.1=1)/\Rep M [] x.val y.2)
  (f:(a=S/\n=1)\/(a=O/\∀p∈es,Z p.1=n)):IK a n c es:=
 ⟨hl,λi x y e d=>⟨(h i x y e d).1,by grind[Ax]⟩⟩
def ML{VS:aa->aw->Prop}{CS:Fn->az->Prop}{PS:aa->Prop}{a:Bool}{es:List (ax×aa)}{key:ax}{r:OR}{k:Nat}(c:aNn P k a (Z key))
  (h:(a=S/\Z key=1)\/(a=O/\∀p∈es,Z p.1=Z key)->Sd VS CS PS ac base r):Sd VS CS PS ac base (DR a es key r):=by
 rcases c with⟨rfl,b,_⟩|⟨rfl,_⟩
 .exact h (.inl ⟨rfl,b⟩)
 .exact λhp=>h (.inr ⟨rfl,hp⟩)
def Rep.pairB{v:Value}{a:aa}(h:Rep M ob v a)(b:Bool):Rep M ob (.tuple #[v,.bool b]) (.tup [a,.bool b]):=by
 refine .tup [v,.bool b] _ rfl λi q c d e=>?_;rcases i with _|_|i
 .grind
 .simp at d e;subst d e;exact .bool b
 simp_all
def aDl(hE:ae E)(hm:Mem M ob ac w){t:Nat}{G kv:Value}{m k:aa}(o:Rep M ob G m)(B:Rep M ob kv k)(ok:Bool):
  PS0 E.P M ob w (Mj t G kv ok) ac base (N5 E (aC ac) t m k ok):=by
 unfold N5;split
 .rename_i Q e _ _ _ j L;have g:=(hE.tab _ _ L).kind.1;split
  .rename_i As At es p A;split
   .rename_i key l;obtain⟨rfl,d⟩:=A4 hE l B;refine ML d λJ=>?_;obtain⟨b,rfl,_,_,_,R,u,H,hl,h,_⟩:=hm.mpOf A o;obtain⟨r,D,s⟩:=tC (w:=w) d rfl (aDR.enOK (b:=b) hl h J);have a:=λN=>MO (w:=w) d rfl N;obtain⟨i,z,K,_,hz,_,f,_⟩:=(hE.tab _ _ p).info;have C:(zeroValue e).run E.P w= .ok z w:=by simp[zeroValue,typeInfo,K,hz]
    rcases s with⟨rfl,s⟩|⟨q,x,y,rfl,I,F,v,n⟩
    .rw [Sd.eq_def];simp only;rw[(rG s).1];refine⟨rfl,if ok then .tuple #[z,.bool S]else z,?_,?_⟩
     .simp only[Mj,Bd,run_underlying g,Aq,MapKept.run_getObj_map H,a,D,C,Bu]
     .cases ok with
      |true=>exact(kT f).pairB S
      |false=>exact kT f
    .rw [Sd.eq_def];simp only;rw[(yZ F v n).1];have c:=(h q x y I F).2.2.pure (ob:=ob);refine⟨rfl,if ok then .tuple #[x.val,.bool O]else x.val,?_,?_⟩
     .simp only[Mj,Bd,run_underlying g,Aq,MapKept.run_getObj_map H,a,D,Bu]
     .cases ok with
      |true=>exact c.pairB O
      |false=>exact c
   .exact trivial
  .exact trivial
 .exact trivial
abbrev MK(w:World)(b:Nat)(o:Obj):World:={w with heap:=w.heap.setIfInBounds b o}
def aB6{b:Nat}{o a:Obj}(h:w.heap[b]? =X a):(MK w b o).heap[b]? =X o:=by have:=gD h;simp_all
theorem EV{b c:Nat}{o:Obj}(h:c≠b):(MK w b o).heap[c]? =w.heap[c]?:=by grind
def Mem.mpTurn(h:Mem M ob ac w){j b a clock':Nat}{d:Bool}{es es':List (ax×aa)}{v:Array MapEntry}{en':List MapEntry}(q:ac[j]? =X (.mp d es))(n:ob[j]? =X [.map (X b)])(f:∀o,NoM M b o)(p:w.heap[b]? =X (.map v a))
  (hl:Z en'=Z es') (z:∀(i:Nat) x y,en'[i]? =X x->es'[i]? =X y->x.key=hC d y.1/\(d=S->Z y.1=1)/\Rep M [] x.val y.2)
  (h1:∀(i:Nat) x,en'[i]? =X x->x.born<clock') (t:∀(i j:Nat) x y,en'[i]? =X x->en'[j]? =X y->x.born=y.born->i=j):
  Mem M ob (ac.set j (.mp d es')) (MK w b (.map en'.toArray clock'))/\Ext M ob ac w M ob (ac.set j (.mp d es')) (MK w b (.map en'.toArray clock'))/\cS ob ac ob (ac.set j (.mp d es')):=by
 have k:=gF (l:=ob) n
 have:=h.turn (M':=M) (w':=MK w b (.map en'.toArray clock')) (x':=.mp d es') (hs':=[.map (X b)]) q n (Cp _) (λe=>by cases e) (λ_ _ _ h=>h) (λ_ _ _ h=>.inl h) (λc o y m=>by
   obtain⟨u,C,D,B⟩:=h.imm c o y m;have r:c≠b:=λe=>by subst e;exact f o y m
   grind[Cs,EV])
  (λc _ s=>EV λe=>s ⟨rfl,by subst e;exact eM.2 rfl⟩) rfl rfl rfl s_ (λA=>⟨b,rfl,f,en',clock',aB6 p,hl,z,h1,t⟩)
  (λ_ c g=>⟨.inl ⟨rfl,g⟩,by
   have:b=c:=eM.1 g;subst this;have:=gD p
   simp;omega⟩)
 rw[k]at this;exact this
def wL:∀(n:Nat) (l:ax),(((l.map (Em .i64)).zip (l.map (Em .i64))).all λ(x,y)=>Ju n x y)=O
 |n,[]=>rfl
 |n,a::r=>by simp only[Bg,List.zip_cons_cons,List.all_cons,wL n r,Bool.and_true];cases n<;>simp[Ju]
def MN(n:Nat)(a:Bool)(l:ax):Ju (n+1) (hC a l) (hC a l)=true:=by
 cases a with
 |false=>simp[hC,Ju]
 |true=>
  simp only[hC,if_true,Ju,beq_self_eq_true,Bool.true_and];exact wL n l
def aLa{a:List MapEntry}{q:Nat}{x:MapEntry}(b:a[q]? =X x)(f:MapEntry->MapEntry):a.toArray.modify q f=(a.set q (f x)).toArray:=by grind
def P9:Rep M ob (.tuple #[]) (.tup []):=.tup [] [] rfl λi v a h=>by simp at h
def aHV(hE:ae E)(hm:Mem M ob ac w){t:Nat}{V kv o:Value}{m k v:aa}(J:Rep M ob V m)(R:Rep M ob kv k)(At:Rep M ob o v):
  Sd (VU E.P M ob ac w (Kx t V kv o)) (λ_ _=>False) (λ_=>False) ac base (XP E (aC ac) t m k v):=by
 unfold XP;split
 .rename_i kt _ _ _ _ j hT;have z:=(hE.tab _ _ hT).kind.1;split
  .rename_i f es Q;split
   .rename_i key C;obtain⟨rfl,l⟩:=A4 hE C R;have s:=hm.pureV 4 o v At;generalize ai (aC ac) 4 v=v' at s;refine sdc λ_=>ML l λAn=>?_;have Am:f=S->Z key=1:=λe=>by grind
    obtain⟨b,rfl,A,g,u,G,d,p,hl,B,hst,W⟩:=hm.mpOf Q J;obtain⟨r,T,L⟩:=tC (w:=w) l rfl (aDR.enOK (b:=b) hl B An);have h:=λem=>MO (w:=w) l rfl em;rcases L with⟨rfl,L⟩|⟨q,x,y,rfl,K,Be,As,F⟩
    .have H:=(rG L).2.1 v'
     have:=hm.mpTurn (es':=es++[(key,v')]) (en':=G++[⟨hC f key,o,d⟩]) (clock':=d+1) g A u p (by simp[hl]) (λi a c I hc=>by
       grind[Ai,Ar,Ad]) (λi a I=>by
       grind[Ai,Ar,Ad]) (λi i' a Y I N n=>by
       grind[Ar,Ad,Ai])
     refine⟨rfl,MK w b (.map (G++[(⟨hC f key,o,d⟩:MapEntry)]).toArray (d+1)),M,ob,?_,?_⟩
     .simp only[Kx,Bd,run_underlying z,Aq,MapKept.run_getObj_map p,h,T,MapKept.run_setObj_map _ p];simp
     grind[aQ]
    .have H:=(yZ Be As F).2.1 v';have hxk:=(B q x y K Be).1;have hql:=(Ad.1 K).1
     have:=hm.mpTurn (es':=es.set q (key,v')) (en':=G.set q ⟨hC f key,o,x.born⟩) (clock':=d) g A u p (by simp[hl]) (λi a c I hc=>by
       grind) (λi a I=>by
       grind) (λi i' a Y I N n=>by
       grind)
     refine⟨rfl,MK w b (.map (G.set q ⟨hC f key,o,x.born⟩).toArray d),M,ob,?_,?_⟩
     .have D:(((G.toArray[0+q]?).map (·.key)).getD (hC f key))=hC f key:=by grind
      have hst:(Instr.keyThatStays (hC f key) (hC f key)).run E.P w= .ok (hC f key) w:=by unfold Instr.keyThatStays;rw[show(10000:Nat)=9999+1 from rfl,MN 9999 f key];simp
      simp only[Kx,Bd,run_underlying z,Aq,MapKept.run_getObj_map p,h,T,D,hst,MapKept.run_setObj_map _ p];rw[Bv,aLa K]
     grind[aQ]
   .exact trivial
  .exact trivial
 .exact trivial
def aDk(hE:ae E)(hm:Mem M ob ac w){t At ty:Nat}{N kv:Value}{m k:aa}(F:Rep M ob N m)(K:Rep M ob kv k):
  PM E.P M ob w (Ky #[t,At] ty #[N,kv]) ac base (N4 E (aC ac) t m k):=by
 unfold N4;split
 .rename_i Am _ _ _ _ j W;have u:=(hE.tab _ _ W).kind.1;split
  .rename_i ag es J;split
   .rename_i key C;obtain⟨rfl,h⟩:=A4 hE C K;refine ML h λT=>?_;obtain⟨b,rfl,z,e,v,o,d,n,hl,g,hst,A⟩:=hm.mpOf J F;obtain⟨r,L,G⟩:=tC (w:=w) h rfl (aDR.enOK (b:=b) hl g T);have f:=λAn=>MO (w:=w) h rfl An;rcases G with⟨rfl,G⟩|⟨q,x,y,rfl,R,Q,I,D⟩
    .have:=hm.mpTurn (es':=es) (en':=o) (clock':=d) e z v n hl g hst A;refine⟨.tuple #[],MK w b (.map o.toArray d),M,ob,?_,?_⟩
     .simp [Ky,run_underlying u,MapKept.run_getObj_map n,f,L,MapKept.run_setObj_map _ n,Es]
     .rw [(rG G).2.2,aQ e];exact⟨this.2.1,this.1,this.2.2,P9⟩
    .have V:=(Ad.1 R).1;have s:(o.toArray.eraseIdxIfInBounds q)=(o.eraseIdx q).toArray:=by simp
     have B:∀{α:Type} (l:List α) (i:Nat),(l.eraseIdx q)[i]? =l[if i<q then i else i+1]?:=λl i=>by rw[List.getElem?_eraseIdx];split<;>rfl
     have:=hm.mpTurn (es':=es.eraseIdx q) (en':=o.eraseIdx q) (clock':=d) e z v n (by
       grind[List.length_eraseIdx_of_lt]) (λi a c p As=>by
       rw[B]at p As
       exact g _ a c p As) (λi a p=>by
       rw[B]at p
       exact hst _ a p) (λi i' a Y p Be H=>by
       grind)
     refine⟨.tuple #[],MK w b (.map (o.eraseIdx q).toArray d),M,ob,?_,?_⟩
     .simp [Ky,run_underlying u,MapKept.run_getObj_map n,f,L,MapKept.run_setObj_map _ n,Es,s]
     .rw [(yZ Q I D).2.2,aQ e];exact⟨this.2.1,this.1,this.2.2,P9⟩
   .exact trivial
  .exact trivial
 .exact trivial
end
section
variable {P:Program} {E:Env} {M:Imm} {ob:Hs} {ac:aw} {w:World} {base:Nat}
def Rep.nilif_inv{v:Value}(h:Rep M ob v .nilif):v= .nilIface:=by cases h;rfl
def DZ{ρv:Operand->Value}{ρ:Operand->aa}(h:∀x,Rep M ob (ρv x) (ρ x)):∀(l:List Operand),cL M ob (l.map ρv) (evO ρ l)
 |[]=>⟨rfl,λi v a h=>by simp at h⟩
 |x::l=>by
  obtain⟨h1,e⟩:=DZ h l;refine⟨by simp[AW.evO,h1],λi v b d c=>?_⟩;cases i with
  |zero=>simp[AW.evO]at d c;grind
  |succ i=>exact e i v b (by simpa using d) (by simpa[AW.evO]using c)
def N0{ρv:Operand->Value}{ρ:Operand->aa}(h:∀x,Rep M ob (ρv x) (ρ x)):∀(l:List (Nat×Operand)),HS M ob (l.map λ(p:Nat×Operand)=>(p.1,ρv p.2)) (evL ρ l)
 |[]=>⟨rfl,λi p q h=>by simp at h⟩
 |(n,x)::l=>by
  obtain⟨h1,b⟩:=N0 h l;refine⟨by simpa[AW.evL]using h1,λi p q hp a=>?_⟩;cases i with
  |zero=>simp[AW.evL]at hp a;subst hp a;exact⟨rfl,h x⟩
  |succ i=>exact b i p q (by simpa using hp) (by simpa[AW.evL]using a)
def cL.append{vs us:bb}{as bs:az}(h:cL M ob vs as)(k:cL M ob us bs):cL M ob (vs++us) (as++bs):=by
 refine⟨by simp[h.1,k.1],λi v a c b=>?_⟩;by_cases d:i<Z vs
 .rw [Ai d]at c;rw[Ai (by rw[<-h.1];exact d)]at b;exact h.2 i v a c b
 .rw [Ar o_]at c;rw[Ar (by rw[<-h.1];omega),<-h.1]at b;exact k.2 _ v a c b
def cL.cons{v:Value}{a:aa}{vs:bb}{as:az}(h:Rep M ob v a)(k:cL M ob vs as):cL M ob (v::vs) (a::as):=
 cL.append (vs:=[v]) (as:=[a]) ⟨rfl,λi u b c d=>by cases i with|zero=>grind|succ i=>simp at c⟩ k
def uQ(hE:ae E){t:Nat}{v:Value}{a:aa}(h:Rep M ob v a):Rep M ob v (EJ E t a):=by
 unfold EJ;split
 .split
  .cases h;exact .slnil _ _ rfl
  .exact h
 .exact h
def cM.now{ρv:Operand->Value}{op:Op}{ty:TypeId}{u:Value}{v:aa}(hm:Mem M ob ac w)(b:∀d pos a g,execOp ρv ⟨d,op,ty,pos,a,g⟩=Pure.pure (.value u))(h:Rep M ob u v):VS P ρv op ty M ob ac w v ac:=
 ⟨u,w,M,ob,λd pos a g=>.inl (by rw[b];rfl),Ext.refl _ _ _ _,hm,cS.refl _ _,h⟩
def aER(b:Array TypeId)(t:TypeId)(k a:IntKind)(x y:Int):(Builtin.max_ b t #[.int k x,.int a y]).run P w= .ok (.int k (max x y)) w:=by
 rw[run_max_int2]
 grind
def aEQ(b:Array TypeId)(t:TypeId)(k a:IntKind)(x y:Int):(Builtin.min_ b t #[.int k x,.int a y]).run P w= .ok (.int k (min x y)) w:=by
 rw[run_min_int2]
 grind
def NB{ρv:Operand->Value}{ρ:Operand->aa}(h:∀x,Rep M ob (ρv x) (ρ x))(l:Option Operand):HT M ob (l.map ρv) (l.map ρ):=by
 cases l with
 |none=>exact .inl ⟨rfl,rfl⟩
 |some y=>exact .inr ⟨_,_,rfl,rfl,h y⟩
def xS.notIface{P:Program}{t:Nat}{l:Bool}{size:Nat}{k:TK}(h:xS P t l size k)(i:k≠ .iface):∃c,P.underlying t=X c/\∀g,c≠ .interface g:=by
 obtain⟨a,_⟩:=h.isAgg;obtain⟨c,d⟩:=Da.1 a;refine⟨c,d,λg e=>?_⟩;subst e;cases k with
 |int k=>have:=h.1;grind
 |bool=>have:=h.1;grind
 |str=>have:=h.1;grind
 |strct m=>obtain⟨⟨fl,f,_⟩,_⟩:=h;grind
 |arr n s p=>obtain⟨⟨fl,f,_⟩,_⟩:=h;grind
 |slc e s b=>have:=h.1.1;grind
 |ptr e=>have:=h.1;grind
 |iface=>grind
 |mp k e=>have:=h.1;grind
 |other=>obtain⟨⟨o,f,j⟩,_⟩:=h;grind
def F8{k:IntKind}{x y:Int}(b:inR k x)(a:inR k y):inR k (min x y)/\inR k (max x y):=by grind
theorem XK(hE:ae E)(hm:Mem M ob ac w)(D:ac[base]? =X .dead)(F:ob[base]? =X []){ρv:Operand->Value}{ρ:Operand->aa}(j:∀x,Rep M ob (ρv x) (ρ x))(hint:Nat)(op:Op)(ty:TypeId):
  cM E.P ρv op ty M ob ac w base (nM E hint base (aC ac) ρ op ty):=by
 cases op with
 |move x=>exact cM.now hm (λ_ _ _ _=>rfl) (j x)
 |assign x=>
  have A:=uQ hE (t:=ty) (j x);have hs:∀d pos a g,execOp ρv ⟨d,.assign x,ty,pos,a,g⟩=((Pure.pure (ρv x):Sem Value) >>= λv=>Pure.pure (.value v)):=λ_ _ _ _=>rfl;simp only[nM];split
  .exact cM.now hm (λ_ _ _ _=>rfl) A
  .split
   .rename_i esz xs t heq;rw[heq]at A;split
    .split
     .obtain ⟨_,hnil⟩:=A.untok;have hnil:ρv x= .slice U 0 0:=hnil;split
      .refine sdc λhg=>?_;obtain⟨hg1,hg2⟩:=aZ hg;have hpos:0<esz:=Cj hg2;refine cM.pm hs (rS hm D F (v:=.slice U 0 0) (w':=w) q_ ⟨⟨[],Hh w 0 _ _,by simp,λq c hq=>by simp[aM]at hq⟩,hpos,by simp,λb hb=>by simp[Ge]at hb,λ_ _=>rfl,rfl,rfl,rfl,Bc _,FL w⟩)
      .exact trivial
     .exact trivial
    .exact cM.now hm (λ_ _ _ _=>rfl) A
   .exact cM.now hm (λ_ _ _ _=>rfl) A
 |pick c x y=>
  have Be:=j c;simp only[nM];split
  .rename_i l;rw[l]at Be;exact cM.now hm (λ_ _ _ _=>by simp[execOp,Be.bool_inv,asBool]) (j x)
  .rename_i l;rw[l]at Be;exact cM.now hm (λ_ _ _ _=>by simp[execOp,Be.bool_inv,asBool]) (j y)
  .exact trivial
 |alloc t=>
  simp only[nM];split
  .rename_i V C;refine sdc λh1=>?_;obtain⟨i,z,Am,hs,hz,hzs,L,_,_⟩:=(hE.tab t V C).info;have hzv:(zeroValue t).run E.P w= .ok z w:=by simp[zeroValue,typeInfo,Am,hz]
   obtain⟨u,w',M',ob',J,hrest⟩:=RQ (P:=E.P) (t:=t) hm D F (kT L) h1;have hal:(Nj t O (.tuple #[])).run E.P w= .ok u w':=by unfold Nj;rw[Bd,hzv];exact J
   exact cM.pm (r:=.born _ _) (s:=Nj t O (.tuple #[])) (λ_ _ _ _=>rfl) ⟨u,w',M',ob',hal,hrest⟩
  .exact trivial
 |box t x=>
  simp only[nM];refine sdc λh1=>?_;exact cM.pm (r:=.born _ _) (s:=Instr.box t (ρv x)) (λ_ _ _ _=>rfl) (RQ (P:=E.P) (t:=t) hm D F (j x) h1)
 |build t ps=>
  exact cM.pv (s:=Instr.build t (ps.map λ(p:Nat×Operand)=>(p.1,ρv p.2))) hm (λ_ _ _ _=>rfl) (aH2 hE (by simpa using N0 j ps.toList))
 |buildSlice t n ps=>
  exact cM.pm (s:=Ke t n (ps.map λ(p:Nat×Operand)=>(p.1,ρv p.2))) (λ_ _ _ _=>rfl) (IB hE hm D F (by simpa using N0 j ps.toList))
 |load t x=>exact cM.pv (s:=Mi t (ρv x)) hm (λ_ _ _ _=>rfl) ((aBi hE hm (j x)).bind λv u h=>uQ hE h)
 |store t x y=>
  refine Sd.mono (λv o ⟨h1,w',M',ob',h2,h3,h4,h5⟩=>?_) (λ_ _ h=>h.elim) (λ_ h=>h.elim) (aHJ (t:=t) hE hm (j x) (uQ hE (t:=t) (j y)));refine⟨undef,w',M',ob',λd pos a g=>.inr ⟨?_,rfl⟩,h3,h4,h5,by rw[h1];exact .undef _⟩;have:execOp ρv ⟨d,.store t x y,ty,pos,a,g⟩=(Kl t (ρv x) (ρv y) >>= λ_=>Pure.pure .skip):=rfl;simp_all
 |nilCheck x=>
  have A:=j x;simp only[nM];split<;>first|exact trivial|skip
  all_goals
   rename_i l;rw[l]at A;refine cM.now hm (u:=ρv x) (λd pos a g=>?_) A;generalize hu:ρv x=u at A;simp only[execOp,hu];cases A<;>rfl
 |binOp bop t x y yt=>exact cM.pv (s:=OE bop t x y (ρv x) (ρv y)) hm (λ_ _ _ _=>rfl) (aQi (og:=aC ac) hE (j x) (j y))
 |unOp uop t x=>
  have A:=j x;simp only[nM];refine cM.pv (s:=Op.unary uop (ρv x)) hm (λ_ _ _ _=>rfl) ?_;split
  .rename_i b l;rw[l]at A;rw[A.bool_inv];exact aV (u:=.bool (!b)) rfl (.bool _)
  .rename_i k n l;rw[l]at A;rw[A.int_inv.1];have e:(Op.unary .neg (.int k n)).run E.P w= .ok (.int k (k.wrap (0-n))) w:=rfl;exact⟨λhp=>⟨rfl,_,by rw[e,kU hp],.int _ _ hp⟩,rfl,_,e,.int _ _ (lE _ _)⟩
  .rename_i k n l;rw[l]at A;rw[A.int_inv.1];exact aV (u:=.int k (dB .xor k (if k.signed then -1 else k.max) n)) rfl (.int _ _ (by unfold dB;exact lE _ _))
  .exact trivial
 |convert s t x=>exact cM.pm (s:=convert s t (ρv x)) (λ_ _ _ _=>rfl) (aMo hE hm (j x))
 |makeInterface t x=>
  simp only[nM];refine cM.pv (s:=Instr.makeInterface t (ρv x)) hm (λ_ _ _ _=>rfl) ?_;split
  .rename_i V C;have hk:=(hE.tab t V C).kind;split
   .exact trivial
   .rename_i N;obtain⟨dd,R,An⟩:=hk.notIface N;refine aV (run_makeInterface w t _ ?_) (.iface _ _ _ (j x));unfold Program.concrete;simp_all
  .exact trivial
 |makeFunc fn fs cs=>
  obtain⟨p1,p2⟩:=DZ j fs.toList;obtain⟨q1,q2⟩:=DZ j cs.toList;refine cM.now hm (u:=.func fn (fs.toList.map ρv).toArray (cs.toList.map ρv).toArray) (λd pos a g=>?_) (.func fn _ _ _ _ p1 q1 p2 q2);have T:(fs.toList.map ρv).toArray=fs.map ρv:=by apply Eg;simp
  have e2:(cs.toList.map ρv).toArray=cs.map ρv:=by apply Eg;simp
  rw[T,e2];rfl
 |makeMap t x=>
  cases x with
  |some x=>exact trivial
  |none=>
   simp only[nM];split
   .split
    .rename_i tk _;obtain⟨m1,m2,m3,m4⟩:=hm.bornMap D F tk.agg;refine cM.pm (r:=.born _ _) (s:=Instr.makeMap t U) (λ_ _ _ _=>rfl) ⟨_,_,M,ob.set base [.map (X w.heap.size)],run_makeMap t w,?_⟩;rw[aQ D]
     grind
    .exact trivial
   .exact trivial
 |makeSlice t x y=>exact cM.pm (s:=Instr.makeSlice t (ρv x) (ρv y)) (λ_ _ _ _=>rfl) (aMl (hint:=hint) hE hm D F (j x) (j y))
 |slice t x lo Am mx=>exact cM.pv (s:=Gu t (ρv x) (lo.map ρv) (Am.map ρv) (mx.map ρv)) hm (λ_ _ _ _=>rfl) (aHK hE hm (j x) (NB j lo) (NB j Am) (NB j mx))
 |fieldAddr t x f=>exact cM.pv (s:=Lv t (ρv x) f) hm (λ_ _ _ _=>rfl) (N7 hE (j x))
 |field t x f=>exact cM.pv (s:=Mu t (ρv x) f) hm (λ_ _ _ _=>rfl) ((aHX hE (j x)).bind λv u h=>uQ hE h)
 |indexAddr t x i=>exact cM.pv (s:=Ib t (ρv x) (ρv i)) hm (λ_ _ _ _=>rfl) (N6 hE hm (j x) (j i))
 |index t x i=>exact cM.pv (s:=Lr t (ρv x) (ρv i)) hm (λ_ _ _ _=>rfl) (aHW hE (j x) (j i))
 |typeAssert x xt t ok=>
  have A:=j x;simp only[nM];refine cM.pv (s:=Kh (ρv x) xt t ok) hm (λ_ _ _ _=>rfl) ?_;split
  .rename_i V u v C l;rw[l]at A;obtain⟨i,z,Am,hs,hz,hzs,L,_,_⟩:=(hE.tab t V C).info;split
   .exact trivial
   .rename_i N;obtain⟨dd,R,An⟩:=(hE.tab t V C).kind.notIface N;obtain⟨I,Q,hv⟩:=A.iface_inv;rw[Q];cases hq:Au u t with
    |true=>
     have:=aE hq;subst this;refine aV (u:=if ok then .tuple #[I,.bool O]else I) ?_ ?_
     .unfold Kh;simp only[Bd,run_underlying R,Aq];rfl
     .cases ok with
      |true=>exact hv.pairB O
      |false=>exact hv
    |false=>
     have hne2:¬ u=t:=λe=>by subst e;simp at hq
     simp only[cond_false];refine sdc λhok=>?_;subst hok;refine aV (u:=.tuple #[z,.bool S]) ?_ ((kT L).pairB S);unfold Kh;simp only[Bd,run_underlying R,Aq];cases dd<;>first|exact bv rfl (An _)|(simp[hne2,zeroValue,typeInfo,Am,hz])
  .rename_i V C l;rw[l]at A;obtain⟨i,z,Am,hs,hz,hzs,L,_,_⟩:=(hE.tab t V C).info;split
   .exact trivial
   .rename_i N;obtain⟨dd,R,An⟩:=(hE.tab t V C).kind.notIface N;refine sdc λhok=>?_;subst hok;rw[A.nilif_inv];refine aV (u:=.tuple #[z,.bool S]) ?_ ((kT L).pairB S);unfold Kh;simp only[Bd,run_underlying R,Aq];cases dd<;>first|exact bv rfl (An _)|(simp[zeroValue,typeInfo,Am,hz])
  .exact trivial
 |extract x i=>
  have A:=j x;simp only[nM];refine cM.pv (s:=Instr.extract (ρv x) i) hm (λ_ _ _ _=>rfl) ?_;split
  .rename_i vs l;rw[l]at A;split
   .rename_i v hn;have hnv:=lD hn;obtain⟨us,Q,hl,J⟩:=A.tup_inv;have hlt:i<Z us:=by grind
    rw[Q];refine aV (u:=us[i]) ?_ (J i _ v (Ab hlt) hnv);simp[Instr.extract,hlt]
   .exact trivial
  .exact trivial
 |panic x=>
  have A:=j x;simp only[nM];split
  .rename_i t v l;rw[l]at A;obtain⟨u,Q,hu⟩:=A.iface_inv;have:∀I,I=ai (aC ac) 3 v->cM E.P ρv (.panic x) ty M ob ac w base ((λv=>bif FP v then OR.pan (.iface t v)else .no) I):=λI e=>by
    subst e
    refine sdc λ_=>⟨.iface t u,λd pos a g=>?_,.iface _ _ _ (hm.pureV 3 _ _ hu)⟩
    simp[execOp,Instr.panic,Q]
   grind
  .exact trivial
 |lookup t m k ok=>exact cM.pv (s:=Mj t (ρv m) (ρv k) ok) hm (λ_ _ _ _=>rfl) (aDl hE hm (j m) (j k) ok)
 |mapUpdate t m k v0=>
  refine Sd.mono (λv o ⟨h1,w',M',ob',h2,h3,h4,h5⟩=>?_) (λ_ _ h=>h.elim) (λ_ h=>h.elim) (aHV (t:=t) hE hm (j m) (j k) (j v0));refine⟨undef,w',M',ob',λd pos a g=>.inr ⟨?_,rfl⟩,h3,h4,h5,by rw[h1];exact .undef _⟩;have:execOp ρv ⟨d,.mapUpdate t m k v0,ty,pos,a,g⟩=(Kx t (ρv m) (ρv k) (ρv v0) >>= λ_=>Pure.pure .skip):=rfl;simp_all
 |call c=>
  obtain⟨callee,args,argTypes⟩:=c;have G:=DZ j args.toList;simp only[nM];cases callee with
  |value f=>
   have B:=j f;dsimp only;split
   .rename_i gid fs cs l;rw[l]at B;cases H:ρv f with
    |func fn first caps=>
     rw[H]at B;cases B with
     |func _ vfs vcs _ _ hl1 hl2 hr1 hr2=>
      rw[OM,OM];refine⟨_,cL.append (cL.append ⟨hl1,hr1⟩ G) ⟨hl2,hr2⟩,λd pos a g=>?_⟩;have T:(args.map ρv)=(args.toList.map ρv).toArray:=by apply Eg;simp
      simp[execOp,resolve,H,Deferred.ofValue,invoke,T,HG]
    |_=>rw[H]at B;cases B
   .rename_i lid fs cs l;rw[l]at B;cases H:ρv f with
    |func fn first caps=>
     rw[H]at B;cases B with
     |func _ vfs vcs _ _ hl1 hl2 hr1 hr2=>
      rw[OM];refine⟨_,cL.append ⟨hl1,hr1⟩ G,λd pos a g=>?_⟩;have T:(args.map ρv)=(args.toList.map ρv).toArray:=by apply Eg;simp
      simp[execOp,resolve,H,Deferred.ofValue,invoke,T,HG]
    |_=>rw[H]at B;cases B
   .exact trivial
  |invoke rc name=>
   have At:=j rc;dsimp only;split
   .rename_i t v l;rw[l]at At;split
    .rename_i gid hmg;cases hre:ρv rc with
     |iface t' I=>
      rw[hre]at At;cases At with
      |iface _ _ _ hv=>
       have hmm:=hE.mth t name gid hmg I w;refine⟨_,cL.cons hv G,λd pos a g=>?_⟩;have hva: #[I]++args.map ρv=(I::args.toList.map ρv).toArray:=by simp
       rw[<-hva];have hex:(#[Mv t I]++args.map ρv).extract 1 (#[Mv t I]++args.map ρv).size=args.map ρv:=by grind[Eg,Array.toList_extract,Bq]
       simp only[execOp,resolve,Bd,Bu,Aq,invoke,hre];simp only[Array.getElem?_append_left (show 0<(#[Mv t I]).size by simp)];simp only[show(#[Mv t I]:Array Value)[0]? =X (.iface t I)from rfl,hex,callMethod,Bd,run_program,Aq,hmm,HG]
     |_=>rw[hre]at At;cases At
    .exact trivial
   .exact trivial
  |builtin b=>
   dsimp only
   have As:∀{s:Sem Value} {r:OR},(∀{u:Value} {w':World},s.run E.P w= .ok u w'->∀d pos a g,(execOp ρv ⟨d,.call ⟨.builtin b,args,argTypes⟩,ty,pos,a,g⟩).run E.P w= .ok (.value u) w')->PM E.P M ob w s ac base r->cM E.P ρv (.call ⟨.builtin b,args,argTypes⟩) ty M ob ac w base r:=λ{s r} A h=>
    Sd.mono (λv o ⟨u,w',M',ob',h2,h3,h4,h5,h6⟩=>⟨u,w',M',ob',λd pos a g=>.inl (A h2 d pos a g),h3,h4,h5,h6⟩) (λ_ _ h=>h.elim) (λ_ h=>h.elim) h
   split
   .rename_i x t h1 h2;have K:args= #[x]:=by apply Eg;omega
    have W:argTypes= #[t]:=by apply Eg;omega
    subst K W;exact As (s:=Fp #[t] ty #[ρv x]) (λJ d pos a g=>by simp[execOp,resolve,invoke,builtin,J]) (PM.of hm (aQd hE hm (j x)))
   .rename_i x y h1;have K:args= #[x,y]:=by apply Eg;omega
    subst K;split
    .rename_i k p k' q T e2;have A:=j x;have hy:=j y;rw[T]at A;rw[e2]at hy;refine sdc λhk=>?_;have:=zH hk;subst this;obtain⟨hx1,hx2⟩:=A.int_inv;obtain⟨hy1,hy2⟩:=hy.int_inv;refine⟨_,w,M,ob,λd pos a g=>.inl ?_,Ext.refl _ _ _ _,hm,cS.refl _ _,.int _ _ (F8 hx2 hy2).1⟩;simp[execOp,resolve,invoke,builtin,hx1,hy1,aEQ]
    .exact trivial
   .rename_i x y h1;have K:args= #[x,y]:=by apply Eg;omega
    subst K;split
    .rename_i k p k' q T e2;have A:=j x;have hy:=j y;rw[T]at A;rw[e2]at hy;refine sdc λhk=>?_;have:=zH hk;subst this;obtain⟨hx1,hx2⟩:=A.int_inv;obtain⟨hy1,hy2⟩:=hy.int_inv;refine⟨_,w,M,ob,λd pos a g=>.inl ?_,Ext.refl _ _ _ _,hm,cS.refl _ _,.int _ _ (F8 hx2 hy2).2⟩;simp[execOp,resolve,invoke,builtin,hx1,hy1,aER]
    .exact trivial
   .rename_i x y t Y h1 h2;have K:args= #[x,y]:=by apply Eg;omega
    have W:argTypes= #[t,Y]:=by apply Eg;omega
    subst K W;exact As (s:=Cr #[t,Y] ty #[ρv x,ρv y]) (λJ d pos a g=>by simp[execOp,resolve,invoke,builtin,J]) (aDm hE hm D F (j x) (j y))
   .rename_i x y t Y h1 h2;have K:args= #[x,y]:=by apply Eg;omega
    have W:argTypes= #[t,Y]:=by apply Eg;omega
    subst K W;exact As (s:=Km #[t,Y] ty #[ρv x,ρv y]) (λJ d pos a g=>by simp[execOp,resolve,invoke,builtin,J]) (aMn hE hm (j x) (j y))
   .rename_i x t h1 h2;have K:args= #[x]:=by apply Eg;omega
    have W:argTypes= #[t]:=by apply Eg;omega
    subst K W;exact As (s:=Jt #[t] ty #[ρv x]) (λJ d pos a g=>by simp[execOp,resolve,invoke,builtin,J]) (aH1 hE hm (j x))
   .rename_i m k t Y h1 h2;have K:args= #[m,k]:=by apply Eg;omega
    have W:argTypes= #[t,Y]:=by apply Eg;omega
    subst K W;exact As (s:=Ky #[t,Y] ty #[ρv m,ρv k]) (λJ d pos a g=>by simp[execOp,resolve,invoke,builtin,J]) (aDk hE hm (j m) (j k))
   .exact trivial
 |_=>exact trivial
theorem aKU{v:Value}{a:aa}(h:Rep M ob v a):Rep M ob v (nrm a):=by
 cases h with
 |rowc k g c a n h hm=>exact .row k g a n c h
 |pre k g n c d b len h e j hl hm=>
  have:=Rep.sub (M:=M) k g 0 n d b len c h e o_ hl o_;rw[Mf,Nat.sub_zero]at this;exact this
 |undef v=>exact .undef v
 |bool b=>exact .bool b
 |int k n m=>exact .int k n m
 |str l hl=>exact .str l hl
 |agg vs as hl h=>exact .agg vs as hl h
 |tup vs as hl h=>exact .tup vs as hl h
 |ptr b o cs h=>exact .ptr b o cs h
 |ref k off b h=>exact .ref k off b h
 |eref k g i d off b n c h=>exact .eref k g i d off b n c h
 |csl k off len d b h hm=>exact .csl k off len d b h hm
 |row k g a n c h=>exact .row k g a n c h
 |sub k g lo len d b n c h hl j e hm=>exact .sub k g lo len d b n c h hl j e hm
 |sub0 k g lo d a r n c h hl e=>exact .sub0 k g lo d a r n c h hl e
 |mref k b h=>exact .mref k b h
 |nilptr=>exact .nilptr
 |nilslice=>exact .nilslice
 |nilmap=>exact .nilmap
 |nilfunc=>exact .nilfunc
 |nilif=>exact .nilif
 |hsl a n c=>exact .hsl a n c
 |slnil d t f=>exact .slnil d t f
 |slemp d t a cap f=>exact .slemp d t a cap f
 |sl d b o n cap xs t j e hm hz h f=>exact .sl d b o n cap xs t j e hm hz h f
 |func fn p cs u q s e h1 w=>exact .func fn p cs u q s e h1 w
 |iface t v a h=>exact .iface t v a h
def Rep.rowc_inv{v:Value}{k g c:Nat}(h:Rep M ob v (.rowc k g c)):∃a n,v= .slice a n c/\at' ob k g=X (.slice a n c)/\(c:Int)<=9223372036854775807:=by cases h with|rowc _ _ _ a n h hm=>grind
def Rep.pre_inv{v:Value}{k g n c a:Nat}(h:Rep M ob v (.pre k g n c a)):∃b len,v= .slice (X ⟨b,0,U⟩) n c/\at' ob k g=X (.slice (X ⟨b,0,U⟩) len c)/\0<c/\n<=len/\len<=c/\(c:Int)<=9223372036854775807:=by cases h with|pre _ _ _ _ _ b len h hc hn hl hm=>exact⟨b,len,rfl,h,hc,hn,hl,hm⟩
def Mem.rowIs(hm:Mem M ob ac w){k g j:Nat}{e:TypeId}{xs:az}(h:ac[k]? =X (.row g j e xs)){a:Option Addr}{n c:Nat}(d:at' ob k g=X (.slice a n c)):
  n=Z xs/\n<=c/\(n:Int)<=9223372036854775807/\(a=U/\n=0/\c=0\/∃b,a=X ⟨b,0,U⟩):=by
 obtain⟨hs',v,h1,q,h3,f,i,_⟩:=hm.rowOf h;rw[d]at f;cases f;rcases i.len with⟨l,rfl⟩|⟨b,o,l,r,p,m⟩
 .simp_all
 grind[gZ]
def dY.on{v:Value}{f:Nat}{e:TypeId}{xs:az}(h:dY M w v f e xs)(j:0<f){b n c y:Nat}(D:v= .slice (X ⟨b,0,U⟩) n c)(h1:Z xs<=y)(F:y<=c):
  dY M w (.slice (X ⟨b,0,U⟩) y c) f e (xs++Ak (y-Z xs) (.agg (Ak f .undef))):=by
 subst D;obtain⟨cv,⟨N,A⟩,h3,B,K,H,p⟩:=h;rcases A with⟨q,_⟩|⟨g,cap,i,t,_,r,As,G,s,L⟩
 .cases q
 cases t;have J:y*f<=i.size:=by rw[s];exact Br _ F
 have a:Z (xs++Ak (y-Z xs) (aa.agg (Ak f .undef)))=y:=by simp;omega
 refine⟨i.toList.take (y*f),⟨by rw[a];simp;omega,.inr ⟨b,c,i,by rw[a],Bn _,r,by omega,G,s,by rw[a]⟩⟩,λu z=>p b rfl _ _ _ r u (Cw z),λx k=>?_,λq d o=>?_,H,p⟩
 .rcases List.mem_append.1 k with k|k
  .exact B x k
  .rw [(Jd.1 k).2];simp[aa.cells]
 .have m:=hZ j o;rw[a]at m;rw[Bj m];by_cases C:q<Z xs*f
  .grind [cU,Bj]
  .rw [cO j o_]at o;obtain⟨x,k,I⟩:=gM o;have:=(Jd.1 (Ax k)).2;subst this;have:d= .undef:=(Jd.1 (Ax (show(Ak f aa.undef)[_]? =X d from I))).2;subst this;have l:q<Z i.toList:=by simp;omega
   exact⟨_,Ab l,.undef _⟩
def aQg(hE:ae E)(hm:Mem M ob ac w){t k g c hint:Nat}{v u:Value}{h:aa}(hv:Rep M ob v (.rowc k g c))(hu:Rep M ob u h):
  PM E.P M ob w (Gu t v U (X u) U) ac base (aQh E hint (aC ac) t k g c h):=by
 unfold aQh;split
 .rename_i e0 esz eb _ _ _ g' f e xs kk n hT T;have r:=cK T s_;obtain⟨⟨H,ie,z,hi',hs,_,_,_,_⟩,_⟩:=(hE.tab t _ hT).kind;refine sdc λhg=>?_;obtain⟨x,L⟩:=aZ hg;obtain⟨Q,I⟩:=aZ x;obtain rfl:=aE Q;obtain rfl:=aE I;have B:0<f:=Cj L;obtain⟨s,hel⟩:=GX H;have N:(E.P.info? (E.P.elem t)).map (·.size)=X f:=by simp_all
  have K:=λu:World=>af (P:=E.P) N u;obtain⟨R,len,rfl,l,V⟩:=hv.rowc_inv;obtain⟨rfl,Be,hnm,A⟩:=hm.rowIs r l;obtain⟨rfl,_⟩:=hu.int_inv;rintro y rfl;have run:y<=c->(Gu t (.slice R (Z xs) c) U (X (.int kk (y:Int))) U).run E.P w= .ok (sliced R 0 y c f) w:=λhy=>by rw[run_sliceAt_slice w t _ _ _ _ s,run_slice_h w t R _ c s kk y o_ o_,K];rfl
  cases hint with
  |zero=>
   rintro⟨As,F⟩;refine⟨_,w,M,ob,run o_,Ext.refl _ _ _ _,hm,cS.refl _ _,?_⟩;rcases A with⟨rfl,_,q⟩|⟨b,rfl⟩
   .omega
   .have C:sliced (X ⟨b,0,U⟩) 0 y c f= .slice (X ⟨b,0,U⟩) y c:=by simp[sliced,bI]
    rw[C];exact .pre k g y c f b _ l F As Be V
  |succ m=>
   rintro⟨As,F⟩;obtain⟨a,v0,C,D,Y,An,i,Am⟩:=hm.rowOf r;rw[l]at An;cases An;rcases A with⟨rfl,q1,q2⟩|⟨b,rfl⟩
   .
    subst q2;obtain rfl:y=0:=o_;have At:xs=[]:=Bb q1;subst At;have j:Z (a++[Gt U 0 0])=g+1+1:=by simp[D]
    have p:(a++[Gt U 0 0])[g+1]? =X (.slice U 0 0):=by rw[<-D];simp
    have:=hm.rowTurn (hs':=a++[Gt U 0 0]) r C Y ⟨_,rfl⟩ j p i (λb _ _=>rfl) rfl rfl rfl (Bc _) (λb J=>by cases J);refine⟨_,w,M,ob.set k (a++[Gt U 0 0]),run (Bc _),?_⟩;rw[aQ r];have G:([]:az)++Ak (0-Z ([]:az)) (aa.agg (Ak f .undef))=[]:=rfl;rw[G];refine⟨this.2.1,this.1,this.2.2,?_⟩;have d:at' (ob.set k (a++[Gt U 0 0])) k (g+1)=X (.slice U 0 0):=by grind[cG,Ay,Ad]
    have W:sliced U 0 0 0 f= .slice U 0 0:=by rfl
    rw[W];exact .row _ _ _ _ _ d
   .have W:sliced (X ⟨b,0,U⟩) 0 y c f= .slice (X ⟨b,0,U⟩) y c:=by simp[sliced,bI]
    have o:=i.on B rfl As F;have j:Z (a++[Gt (X ⟨b,0,U⟩) y c])=g+1+1:=by simp[D]
    have p:(a++[Gt (X ⟨b,0,U⟩) y c])[g+1]? =X (.slice (X ⟨b,0,U⟩) y c):=by rw[<-D];simp
    have:=hm.rowTurn (hs':=a++[Gt (X ⟨b,0,U⟩) y c]) r C Y ⟨_,rfl⟩ j p o (λb _ _=>rfl) rfl rfl rfl (Bc _) (λb' J=>.inl J);refine⟨_,w,M,ob.set k (a++[Gt (X ⟨b,0,U⟩) y c]),run F,?_⟩;rw[aQ r];refine⟨this.2.1,this.1,this.2.2,?_⟩;have d:at' (ob.set k (a++[Gt (X ⟨b,0,U⟩) y c])) k (g+1)=X (.slice (X ⟨b,0,U⟩) y c):=by grind[cG,Ay,Ad]
    rw[W];exact .row _ _ _ _ _ d
 .exact trivial
def aMm(hE:ae E)(hm:Mem M ob ac w){t k g:Nat}{v D C B:Value}{l h m:aa}(N:Rep M ob v (.row k g))(hl:Rep M ob D l)(G:Rep M ob C h)(i:Rep M ob B m):
  PM E.P M ob w (Gu t v (X D) (X C) (X B)) ac base (aHY E (aC ac) t k g l h m):=by
 unfold aHY;split
 .rename_i Am J W _ _ _ T A e xs ka a V b Y c Q s;have H:=cK s s_;obtain⟨⟨j,Be,z,K,hs,_,_,_,_⟩,_⟩:=(hE.tab t _ Q).kind;refine sdc λL=>?_;obtain⟨r,o⟩:=aZ L;obtain rfl:=aE r;obtain rfl:=aE o;obtain⟨d,F⟩:=GX j;have f:(E.P.info? (E.P.elem t)).map (·.size)=X A:=by simp_all
  have p:=λu:World=>af (P:=E.P) f u;obtain⟨I,len,cap,rfl,n⟩:=N.row_inv;obtain⟨rfl,At,As,R⟩:=hm.rowIs H n;obtain⟨rfl,_⟩:=hl.int_inv;obtain⟨rfl,_⟩:=G.int_inv;obtain⟨rfl,_⟩:=i.int_inv;rintro x rfl y rfl q rfl ⟨⟨An,c2⟩,c3⟩;refine⟨sliced I x y q A,w,M,ob,?_,Ext.refl _ _ _ _,hm,cS.refl _ _,.undef _⟩;rw[run_sliceAt_slice w t _ _ _ _ d];unfold Lt Gh Kd;simp only[Bd,run_underlying d,Aq,Option.isSome_some,if_true,Bu,asIntOf];rw[bu ⟨by omega,by omega⟩];simp only[Bu,Aq];rw[bu ⟨by omega,by omega⟩];simp only[Bu,Aq];rw[bu ⟨by omega,by omega⟩];simp only[Bu,Aq,p,Bm];rfl
 .exact trivial
def CY{P:Program}(w:World)(t q ty e:TypeId)(x:IntKind)(i:TypeInfo)(z:Value)(B:P.underlying t=X (.slice e))(r:P.underlying q=X (.int x))(v:P.info? e=X i)(hz:i.zero=X z)
  (b n c m:Nat) (k:0<m) (j:0<i.size) (d:bb) (h:(Ci i.size n (.slice (X ⟨b,0,U⟩) n c)).run P w.drew= .ok d.toArray w.drew) (A:c<n+m) (y:((n+m:Nat):Int)<=9223372036854775807)
  (a:(n+m)*i.bytes<=140737488355328):
  (Cr #[t,q] ty #[.slice (X ⟨b,0,U⟩) n c,.int .i64 (m:Int)]).run P w=
   .ok (.slice (X ⟨w.heap.size,0,U⟩) (n+m) (grownCap w (n+m) c e))
    (w.drew.alloc (.cells (d++(Cf z.cells m).toList++(Cf z.cells (grownCap w (n+m) c e-(n+m))).toList).toArray e)):=by
 have s:¬ (n+m<=c):=o_;have g:¬ (9223372036854775807<((n:Int)+(m:Int))):=o_;have p:=growslice_fits (bytes:=i.bytes) A a;have f:¬ (281474976710656<Builtin.nextslicecap (n+m) c*i.bytes):=o_;have u:IntKind.i64.wrap (m:Int)=(m:Int):=kU ⟨by simp only[bV];omega,by simp only[aW];omega⟩;have l:¬ (281474976710656<(m:Int)*(i.bytes:Int)):=by grind
 have C:¬ ((m:Int)<0):=o_;have o:¬ (m*i.size=0):=by have:=Nat.mul_pos k j;omega
 simp[Cr,run_underlying B,run_underlying r,sizeOf,typeInfo,zeroValue,v,hz,asInt,asIntOf,u,C,l,s,g,f,o,Question.forced,h,newRow,grownCap];congr 2;simp
def aMk(hE:ae E)(hm:Mem M ob ac w)(J:ac[base]? =X .dead)(W:ob[base]? =X []){t R ty k g n c sz:Nat}{kt:IntKind}(T:E.P.underlying R=X (.int kt)){v u:Value}{m:aa}
  (hv:Rep M ob v (.pre k g n c sz)) (Be:Rep M ob u m):PM E.P M ob w (Cr #[t,R] ty #[v,u]) ac base (aBe E base (aC ac) t k g n c sz m):=by
 unfold aBe;split
 .rename_i e esz eb _ _ _ g' sz' e' xs a hT Y;split
  .rename_i As At;obtain⟨⟨K,i,z,hi,I,V,hz,o,hz1⟩,_⟩:=(hE.tab t _ hT).kind;subst I V;refine sdc λhg=>?_;simp only[Af]at hg;obtain⟨⟨⟨g1,g2⟩,g3,g4⟩,g5,g6⟩:=hg;obtain rfl:=aE g1;have q2:=aE g2;subst q2;have q3:=aE g3;subst q3;have q4:=aE g4;subst q4;have h:0<i.size:=Cj g5;obtain⟨i',z',D,hsz',F,hzs',Q,hone,hne⟩:=(hE.tab e As At).info;rw[hi]at D;cases D;rw[hz]at F;cases F;have hk:=cK Y s_;obtain⟨b,len,rfl,C,hc0,N,hlc,hcm⟩:=hv.pre_inv;obtain⟨rfl,_,hnm,_⟩:=hm.rowIs hk C;obtain⟨rfl,_⟩:=Be.int_inv;rintro y rfl ⟨c1,f1,f2⟩;obtain⟨hs0,v0,e1,e2,e3,e4,A,hblk⟩:=hm.rowOf hk;rw[C]at e4;cases e4;obtain⟨cv,o1,o2,o3,o4,o5,o6⟩:=A;have hml:=gZ;have hle:n*i.size<=Z xs*i.size:=Br _ N;have f:Z (cv.take (n*i.size))=n*i.size:=by rw[List.length_take,o1.1];omega
   have Am:(Ci i.size n (.slice (X ⟨b,0,U⟩) n c)).run E.P w.drew= .ok (cv.take (n*i.size)).toArray w.drew:=by
    refine run_firstCells_some w.drew i.size n ⟨b,0,U⟩ n c _ f λj u H=>?_;rw[Li]at H;split at H
    .rw [bI,Bv];exact fU o1 (b:=b) rfl H
    .cases H
   have B:=CY (P:=E.P) w t R ty e kt i z K T hi hz b n c y o_ h _ Am c1 o_ f2;have L:=hm.pure0 Q;obtain⟨An,d2⟩:=wJ (z:=z.cells) (n:=y);rw[o]at An d2;obtain⟨r1,r2⟩:=AQ (M:=M) L (DP g6) o h An d2;have hge:=grownCap_ge w (n+y) c e;have G:grownCap w (n+y) c e<=maxLen:=grownCap_le_maxLen w (n+y) c e f1;have htl:Z (xs.take n)=n:=by simp;omega
   have r:Z (xs.take n++Ak y (ai (λ_=>.dead) 4 As.zero))=n+y:=by simp;omega
   have l:∀u∈cv.take (n*i.size)++(Cf z.cells y).toList,u.oneCell'=true:=λu Be=>by grind[Cw,kL]
   have p:Z (cv.take (n*i.size)++(Cf z.cells y).toList)=(n+y)*i.size:=by rw[Ah,f,An,Cg]
   have gr:Grown M w (w.drew.alloc (.cells (cv.take (n*i.size)++(Cf z.cells y).toList++(Cf z.cells (grownCap w (n+y) c e-(n+y))).toList).toArray e)) i.size e
     (.slice (X ⟨w.heap.size,0,U⟩) (n+y) (grownCap w (n+y) c e)) (xs.take n++Ak y (ai (λ_=>.dead) 4 As.zero)):=by
    refine⟨⟨cv.take (n*i.size)++(Cf z.cells y).toList,⟨by rw[p,r],.inr ⟨w.heap.size,_,_,by rw[r],Bn _,heap_alloc_new w.drew _,by omega,G,?_,?_⟩⟩,l,λq d hq=>?_⟩,h,λx hx=>?_,λb' s=>?_,λb' s=>heap_alloc_old w.drew _ s,rfl,rfl,rfl,by simp,?_⟩
    .rw [List.size_toArray,Ah,p,Array.length_toList,size_zeroCells,o,<-Cg];congr 1;omega
    .rw [r,<-p];exact List.take_left
    .grind [cU,oM,Ai,Bj,cO,Ar]
    .grind [Cw]
    .simp only[Ge,Fa]at s;omega
    .refine rD (w:=w.drew) λu Be=>?_
     grind[kL]
   exact rS (hint:=2) hm J W B gr
  .exact trivial
 .exact trivial
theorem XJ(hE:ae E)(hm:Mem M ob ac w)(j:ac[base]? =X .dead)(D:ob[base]? =X []){ρv:Operand->Value}{ρ:Operand->aa}(a:∀x,Rep M ob (ρv x) (ρ x)){hint:Nat}{op:Op}(ty:TypeId){r:OR}
  (h:mG E hint base (aC ac) ρ op=X r):cM E.P ρv op ty M ob ac w base r:=by
 cases op with
 |move x=>cases h;exact cM.now hm (λ_ _ _ _=>rfl) (a x)
 |assign x=>
  simp only[mG]at h;split at h
  .rename_i k g c b;cases h;have:=a x;rw[b]at this;exact cM.now hm (u:=ρv x) (λ_ _ _ _=>rfl) this
  .cases h
 |slice t x lo G H=>
  cases lo with
  |none=>
   cases G with
   |none=>simp[mG]at h
   |some i=>
    cases H with
    |some _=>simp[mG]at h
    |none=>
     simp only[mG]at h;split at h
     .rename_i k g c b;cases h;have:=a x;rw[b]at this;exact cM.pm (s:=Gu t (ρv x) U (X (ρv i)) U) (λ_ _ _ _=>rfl) (aQg hE hm this (a i))
     .cases h
  |some l=>
   cases G with
   |none=>simp[mG]at h
   |some i=>
    cases H with
    |none=>simp[mG]at h
    |some m=>
     simp only[mG]at h;split at h
     .rename_i k g b;cases h;have:=a x;rw[b]at this;exact cM.pm (s:=Gu t (ρv x) (X (ρv l)) (X (ρv i)) (X (ρv m))) (λ_ _ _ _=>rfl) (aMm hE hm this (a l) (a i) (a m))
     .cases h
 |call c=>
  obtain⟨callee,args,argTypes⟩:=c;simp only[mG]at h;split at h
  .split at h
   .rename_i x t h1 A;split at h
    .rename_i k g n _ _ _ _ _ _ b N;cases h;have C:args= #[x]:=by apply Eg;omega
     have B:argTypes= #[t]:=by apply Eg;omega
     subst C B;have f:=a x;rw[b]at f;obtain⟨At,len,L,K,I⟩:=f.rowc_inv;obtain⟨⟨z,_⟩,_⟩:=(hE.tab t _ N).kind;refine⟨.int .i64 n,w,M,ob,λd pos e g=>.inl ?_,Ext.refl _ _ _ _,hm,cS.refl _ _,.int _ _ ⟨by simp only[bV];omega,by simp only[aW];omega⟩⟩;simp[execOp,resolve,invoke,builtin,Builtin.cap_,L,run_underlying z,goInt]
    .cases h
   .cases h
  .split at h
   .rename_i x y t F h1 A;split at h
    .rename_i k g n c R T _ _ _ b q;cases h;have C:args= #[x,y]:=by apply Eg;omega
     have B:argTypes= #[t,F]:=by apply Eg;omega
     subst C B;have f:=a x;rw[b]at f;have p:=(hE.tab F _ q).kind.1;exact Sd.mono (λv o ⟨u,w',M',ob',A,h3,Q,J,As⟩=>⟨u,w',M',ob',λd pos e g=>.inl (by simp[execOp,resolve,invoke,builtin,A]),h3,Q,J,As⟩) (λ_ _ h=>h.elim) (λ_ h=>h.elim) (aMk hE hm j D (ty:=ty) p f (a y))
    .cases h
   .cases h
  .cases h
 |_=>simp[mG]at h
def BD(hE:ae E)(hm:Mem M ob ac w)(b:ac[base]? =X .dead)(a:ob[base]? =X []){ρv:Operand->Value}{ρ:Operand->aa}(c:∀x,Rep M ob (ρv x) (ρ x))(hint:Nat)(op:Op)(ty:TypeId):
  cM E.P ρv op ty M ob ac w base (eop E hint base (aC ac) ρ op ty):=by
 unfold eop
 grind[XJ,XK,aKU]
end
section
variable {P:Program} {M M':Imm} {ob ob':Hs} {ac L:aw} {w w':World}
def wI.monoA(a:∀(k g:Nat) v,at' ob k g=X v->at' ob' k g=X v){v:Value}{t:Tk}(h:wI ob v t):wI ob' v t:=by
 cases t with
 |own k g=>exact a _ _ _ h
 |_=>exact h
def Rep.monoA(e:∀(k g:Nat) v,at' ob k g=X v->at' ob' k g=X v){v:Value}{a:aa}(h:Rep M ob v a):Rep M ob' v a:=by
 induction h with
 |undef v=>exact .undef v
 |bool b=>exact .bool b
 |int k n h=>exact .int k n h
 |str l h=>exact .str l h
 |agg vs as hl _ m=>exact .agg vs as hl m
 |tup vs as hl _ m=>exact .tup vs as hl m
 |ptr b o cs h=>exact .ptr b o cs h
 |ref k off b h=>exact .ref k off b (e _ _ _ h)
 |eref k g i d off b n c h=>exact .eref k g i d off b n c (e _ _ _ h)
 |csl k off len d b h hm=>exact .csl k off len d b (e _ _ _ h) hm
 |row k g a n c h=>exact .row k g a n c (e _ _ _ h)
 |sub k g lo len d b n c h hl j f hm=>exact .sub k g lo len d b n c (e _ _ _ h) hl j f hm
 |sub0 k g lo d a w n c h hl f=>exact .sub0 k g lo d a w n c (e _ _ _ h) hl f
 |rowc k g c a n h hm=>exact .rowc k g c a n (e _ _ _ h) hm
 |pre k g n c d b len h f j hl hm=>exact .pre k g n c d b len (e _ _ _ h) f j hl hm
 |mref k b h=>exact .mref k b (e _ _ _ h)
 |nilptr=>exact .nilptr
 |nilslice=>exact .nilslice
 |nilmap=>exact .nilmap
 |nilfunc=>exact .nilfunc
 |nilif=>exact .nilif
 |hsl a n c=>exact .hsl a n c
 |slnil d t p=>exact .slnil d t (p.monoA e)
 |slemp d t a cap p=>exact .slemp d t a cap (p.monoA e)
 |sl d b o n cap xs t j f hm hz h p=>exact .sl d b o n cap xs t j f hm hz h (p.monoA e)
 |func fn s cs y u x f _ _ r q=>exact .func fn s cs y u x f r q
 |iface t v a _ m=>exact .iface t v a m
def Mem.idle(h:Mem M ob L w){k:Nat}(j:ob[k]? =X []):L[k]? =X .dead:=by
 have d:k<Z L:=by rw[<-h.len];grind
 have e:=Ab d;obtain⟨hs,i,a⟩:=h.obj k _ e;rw[j]at i;cases i;cases c:L[k]with
 |dead=>rw[e,c]
 |cells T cs=>rw[c]at a;obtain⟨b,q,_⟩:=a;cases q
 |fcells cs=>rw[c]at a;obtain⟨b,q,_⟩:=a;cases q
 |row g f e xs=>rw[c]at a;have:=a.1;simp at this
 |frow g f xs=>rw[c]at a;obtain⟨v,q,_⟩:=a;simp at q
 |tail g f e=>rw[c]at a;have:=a.1;simp at this
 |mp l es=>rw[c]at a;obtain⟨b,q,_⟩:=a;cases q
 |bun g I=>rw[c]at a;have:=a.1;simp at this
def Mem.live(h:Mem M ob L w){k:Nat}{c:ab}(a:L[k]? =X c)(d:c≠ .dead):∃hs,ob[k]? =X hs/\hs≠[]:=by
 obtain⟨hs,b,_⟩:=h.obj k c a;refine⟨hs,b,λe=>?_⟩;subst e;rw[h.idle b]at a
 grind
def Mem.shrink{n:Nat}(h:Mem M ob (ac++Ak n .dead) w)(B:∀(i:Nat) hs,Z ac<=i->ob[i]? =X hs->hs=[]):
  Mem M (ob.take (Z ac)) ac w/\(∀(k g:Nat) v,at' ob k g=X v->at' (ob.take (Z ac)) k g=X v)/\
   ∀{M0:Imm} {ob0:Hs} {d:aw} {w0:World},Ext M0 ob0 d w0 M ob (ac++Ak n .dead) w->Z ob0<=Z ac->Ext M0 ob0 d w0 M (ob.take (Z ac)) ac w:=by
 have hl:=h.len;simp at hl
 have left:∀{i:Nat},i<Z ac->(ob.take (Z ac))[i]? =ob[i]?/\(ac++Ak n ab.dead)[i]? =ac[i]?:=λ{i} hi=>⟨Bj hi,Ai hi⟩
 have l:∀(k g:Nat) v,at' ob k g=X v->at' (ob.take (Z ac)) k g=X v:=by
  intro k g v m;by_cases e:k<Z ac
  .unfold at' at m⊢;rw[(left e).1];exact m
  .unfold at' at m
   grind
 have alive:∀{k b:Nat},aK (ob.take (Z ac)) ac k b->aK ob (ac++Ak n .dead) k b:=λ{k b} ⟨c,hs,p,q,e3,e4⟩=>by have e:=(Ad.1 p).1;exact⟨c,hs,(left e).2.trans p,q,(left e).1▸e3,e4⟩
 refine⟨⟨h.imm,by simp;omega,λk c r=>?_,λk b f=>h.lt k b (alive f),λi j b f y=>h.inj i j b (alive f) (alive y)⟩,l,λ{M0 ob0 d w0} hx h0=>⟨hx.imm,hx.new,λk hs e=>?_,hx.os,hx.tape,hx.output,hx.size,hx.keep,λk b f=>hx.fresh k b (alive f)⟩⟩
 .have e:=(Ad.1 r).1;obtain⟨hs,p,o⟩:=h.obj k c ((left e).2.trans r);refine⟨hs,(left e).1.trans p,?_⟩;cases c with
  |cells T cs=>
   obtain⟨b,s,x,cv,t,A,z,u⟩:=o;exact⟨b,s,x,cv,t,A,z,λi v a m f=>(u i v a m f).monoA l⟩
  |_=>exact o
 .obtain ⟨hs',p,q⟩:=hx.hs k hs e
  grind[Ad]
def TD(ac:aw)(j g:Nat):jT [] ac j g=g:=rfl
def aHT(base:Nat)(ac:aw):∀n,embV [] base ac n=embV [] base [] n:=by
 intro n;induction n with
 |zero=>rfl
 |succ n b=>
  funext a;cases a<;>simp only[embV,TD,b]
def lL(base:Nat)(new:aw):aw:=new.map (uD [] base [] 0)
def Mem.emb0(h:Mem M ob L w){base:Nat}{new:aw}{d:Hs}(K:base+Z new<=Z L)(D:∀j,j<Z new->ob[base+j]? =X [])
  (m:Ext M [] [] w M' d new w') (As:Mem M' d new w'):
  Mem M' (ob.take base++d++ob.drop (base+Z d)) (L.take base++lL base new++L.drop (base+Z (lL base new))) w'/\
   Ext M ob L w M' (ob.take base++d++ob.drop (base+Z d)) (L.take base++lL base new++L.drop (base+Z (lL base new))) w'/\
   (∀n v a,Rep M' d v a->Rep M' (ob.take base++d++ob.drop (base+Z d)) v (AW.embV [] base [] n a)):=by
 have H:Z d=Z new:=As.len;have G:Z (lL base new)=Z new:=by simp[lL]
 obtain⟨p1,p2⟩:=fS ob d base (by rw[h.len,H];exact K);obtain⟨q1,q2⟩:=fS L (lL base new) base o_;rw[H]at p2;rw[G]at q2;have inO:∀{j:Nat},j<Z new->(ob.take base++d++ob.drop (base+Z d))[base+j]? =d[j]?:=λ{j} p=>by grind
 have r:∀{i:Nat},¬ (base<=i/\i<base+Z new)->(ob.take base++d++ob.drop (base+Z d))[i]? =ob[i]?:=λ{i} R=>by grind
 have inL:∀{j:Nat},j<Z new->(L.take base++lL base new++L.drop (base+Z (lL base new)))[base+j]? =(new[j]?).map (uD [] base [] 0):=λ{j} p=>by have:=q2 (base+j);rw[bu ⟨by omega,by omega⟩,Jh]at this;rw[G,this];simp[lL]
 have C:∀{i:Nat},¬ (base<=i/\i<base+Z new)->(L.take base++lL base new++L.drop (base+Z (lL base new)))[i]? =L[i]?:=λ{i} R=>by grind
 have N:∀{j g:Nat} {v:Value},at' d j g=X v->at' (ob.take base++d++ob.drop (base+Z d)) (fI [] base j) (jT [] [] j g)=X v:=by
  intro j g v An;rw[mH (Bn _),TD];show at' _ (base+j) g=X v;unfold at' at An⊢
  grind[Ad]
 have B:∀n v a,Rep M' d v a->Rep M' (ob.take base++d++ob.drop (base+Z d)) v (AW.embV [] base [] n a):=S9 N λAn _=>N An;have P:dH ob (ob.take base++d++ob.drop (base+Z d)):=by
  intro i hs R;by_cases l:base<=i/\i<base+Z new
  .have e:=D (i-base) o_;rw[show base+(i-base)=i from by omega,R]at e
   grind
  .exact ⟨hs,(r l).trans R,Cp _⟩
 have F:∀o:ab,(uD [] base [] 0 o).owns=o.owns:=λo=>by cases o<;>rfl
 have A:∀{i b:Nat},aK (ob.take base++d++ob.drop (base+Z d)) (L.take base++lL base new++L.drop (base+Z (lL base new))) i b->(∃j,j<Z new/\i=base+j/\aK d new j b)\/(¬ (base<=i/\i<base+Z new)/\aK ob L i b):=by
  rintro i b ⟨c,hs,x,e2,Q,e4⟩;by_cases l:base<=i/\i<base+Z new
  .obtain ⟨j,rfl⟩:∃j,i=base+j:=⟨i-base,by omega⟩
   have p:j<Z new:=o_;rw[inL p]at x;rw[inO p]at Q;obtain⟨o,Am,rfl⟩:=Cd.1 x;rw[F]at e2;exact .inl ⟨j,p,rfl,o,hs,Am,e2,Q,e4⟩
  .rw [C l]at x;rw[r l]at Q;exact .inr ⟨l,c,hs,x,e2,Q,e4⟩
 have J:∀{i b:Nat},aK ob L i b->(∀j,¬ aK d new j b):=λ{i b} s j p=>by
  rcases m.fresh j b p with⟨k',c,hs,e,_⟩|q
  .simp at e
  .have:=h.lt i b s;omega
 have u:∀b k,¬ aK ([]:Hs) [] k b:=λb k ⟨c,hs,e,_⟩=>by simp at e
 refine⟨⟨As.imm,by rw[H]at p1⊢;rw[G]at q1⊢;rw[p1,q1];exact h.len,λi c I=>?_,λi b s=>?_,λi i' b s Be=>?_⟩,⟨m.imm,λb o y V=>?_,P,m.os,m.tape,m.output,m.size,λb Be hn=>m.keep b Be (u b),λi b s=>?_⟩,B⟩
 .by_cases l:base<=i/\i<base+Z new
  .obtain ⟨j,rfl⟩:∃j,i=base+j:=⟨i-base,by omega⟩
   have p:j<Z new:=o_;rw[inL p]at I;obtain⟨o,Am,rfl⟩:=Cd.1 I;obtain⟨hs,x,z⟩:=As.obj j o Am;refine⟨hs,(inO p).trans x,?_⟩;cases o with
   |cells T cs=>
    obtain⟨b,t1,t2,cv,t3,t4,t5,t6⟩:=z;obtain⟨m1,m2⟩:=cI (B 4) t4 t6;exact⟨b,t1,t2,cv,t3,m1,t5,m2⟩
   |_=>exact z
  .rw [C l]at I;obtain⟨hs,x,z⟩:=h.obj i c I;refine⟨hs,(r l).trans x,z.mono m.imm P (λb h1 Y o W y V=>?_) (λb c' h1 Y At=>?_)⟩
   .have s:aK ob L i b:=(cW I x).2 ⟨h1,Y⟩;rcases m.new b o y V with q|q|⟨k,q⟩
    .exact W y q
    .have:=h.lt i b s;omega
    .exact u b k q
   .have s:aK ob L i b:=(cW I x).2 ⟨h1,Y⟩;rw[m.keep b (h.lt i b s) (u b)];exact At
 .rcases A s with⟨j,p,rfl,f⟩|⟨_,f⟩
  .exact As.lt j b f
  .exact Nat.lt_of_lt_of_le (h.lt i b f) m.size
 .rcases A s with⟨j,p,rfl,f⟩|⟨_,f⟩<;>rcases A Be with⟨j',hj',rfl,t⟩|⟨_,t⟩
  .rw [As.inj j j' b f t]
  .exact bv f (J t j)
  .exact bv t (J f j')
  .exact h.inj i i' b f t
 .rcases m.new b o y V with q|q|⟨k,q⟩
  .exact .inl q
  .omega
  .exact (u b k q).elim
 .rcases A s with⟨j,p,rfl,f⟩|⟨_,f⟩
  .rcases m.fresh j b f with⟨k,q⟩|q
   .exact (u b k q).elim
   omega
  .exact .inl ⟨i,f⟩
end
section
variable {M:Imm} {ob:Hs} {n:Nat}
def kR{k n:Nat}(h:Nat.blt k n=O):k<n:=by simp_all
def kS{k g:Nat}{v:Value}(a:k<n)(h:at' ob k g=X v):at' (ob.take n) k g=X v:=by
 unfold at' at*
 grind
def nS{f:aa->Bool}:∀{l:az},HJ f l=O->∀(i:Nat) a,l[i]? =X a->f a=O
 |[],_,i,a,h=>by simp at h
 |c::r,hb,i,a,h=>by
  simp only[HJ,Af]at hb;cases i with
  |zero=>grind
  |succ i=>exact nS hb.2 i a (by simp_all)
def HI{v:Value}{t:Tk}(h:wI ob v t)(a:aSE n t=O):wI (ob.take n) v t:=by
 cases t with
 |own k g=>exact kS (kR a) h
 |_=>exact h
def D1:∀(m:Nat) {v:Value} {a:aa},Rep M ob v a->bel n m a=O->Rep M (ob.take n) v a:=by
 intro m;induction m with
 |zero=>intro v a _ h;cases h
 |succ m r=>
  intro v a h d;cases h with
  |undef v=>exact .undef v
  |bool b=>exact .bool b
  |int k n x=>exact .int k n x
  |str l hl=>exact .str l hl
  |agg vs as hl h=>exact .agg vs as hl λi v a p f=>r (h i v a p f) (nS d i a f)
  |tup vs as hl h=>exact .tup vs as hl λi v a p f=>r (h i v a p f) (nS d i a f)
  |ptr b o cs h=>exact .ptr b o cs h
  |ref k off b h=>exact .ref k off b (kS (kR d) h)
  |eref k g i e off b n c h=>exact .eref k g i e off b n c (kS (kR d) h)
  |csl k off len e b h hm=>exact .csl k off len e b (kS (kR d) h) hm
  |row k g a n c h=>exact .row k g a n c (kS (kR d) h)
  |sub k g lo len e b n c h hl q j hm=>exact .sub k g lo len e b n c (kS (kR d) h) hl q j hm
  |sub0 k g lo e a A n c h hl j=>exact .sub0 k g lo e a A n c (kS (kR d) h) hl j
  |rowc k g c a n h hm=>exact .rowc k g c a n (kS (kR d) h) hm
  |pre k g n c e b len h j q hl hm=>exact .pre k g n c e b len (kS (kR d) h) j q hl hm
  |mref k b h=>exact .mref k b (kS (kR d) h)
  |nilptr=>exact .nilptr
  |nilslice=>exact .nilslice
  |nilmap=>exact .nilmap
  |nilfunc=>exact .nilfunc
  |nilif=>exact .nilif
  |hsl a n c=>exact .hsl a n c
  |slnil e t s=>exact .slnil e t (HI s d)
  |slemp e t a cap s=>exact .slemp e t a cap (HI s d)
  |sl e b o n cap xs t q j hm hz h s=>exact .sl e b o n cap xs t q j hm hz h (HI s d)
  |func fn y cs C z B j h1 D=>
   obtain⟨u,w⟩:=aZ d;exact .func fn y cs C z B j (λi v a p f=>r (h1 i v a p f) (nS u i a f)) (λi v a p f=>r (D i v a p f) (nS w i a f))
  |iface t v a h=>exact .iface t v a (r h d)
def FG:∀(n:Nat) (l:aw),pW n l=l.take n
 |0,_=>by simp[pW]
 |n+1,[]=>by simp[pW]
 |n+1,x::r=>by simp[pW,FG n r]
def UC{n:Nat}:∀{l:aw},II n l=O->∀(i:Nat) T cs,l[i]? =X (.cells T cs)->HJ (bel n 5) cs=O
 |[],_,i,T,cs,h=>by simp at h
 |x::r,hb,i,T,cs,h=>by
  cases i with
  |zero=>
   simp at h;subst h;simp only[II,Af]at hb;exact hb.1
  |succ i=>
   refine UC (l:=r) ?_ i T cs (by simp_all);cases x<;>first|exact hb|(simp only[II,Af]at hb;exact hb.2)
def UD{n:Nat}:∀{l:au},aIH n l=O->∀t,bel n 5 (aX l t)=O\/aX l t= .undef
 |[],_,t=>.inr rfl
 |(i,v)::r,hb,t=>by
  simp only[aIH,Af]at hb;simp only[aX];cases Au i t with
  |true=>grind
  |false=>exact UD hb.2 t
def Mem.cutO{ac:aw}{w:World}(h:Mem M ob ac w)(o:II n (ac.take n)=O):Mem M (ob.take n) (ac.take n) w/\∀{k b:Nat},aK (ob.take n) (ac.take n) k b->aK ob ac k b:=by
 have left:∀{i:Nat} {c:ab},(ac.take n)[i]? =X c->i<n/\ac[i]? =X c:=λ{i c} g=>by
  rw[Li]at g
  grind
 have alive:∀{k b:Nat},aK (ob.take n) (ac.take n) k b->aK ob ac k b:=λ{k b} ⟨c,hs,f,e2,e3,e4⟩=>by obtain⟨l,f⟩:=left f;rw[Bj l]at e3;exact⟨c,hs,f,e2,e3,e4⟩
 refine⟨⟨h.imm,by simp[h.len],λk c g=>?_,λk b d=>h.lt k b (alive d),λi j b d o=>h.inj i j b (alive d) (alive o)⟩,alive⟩;obtain⟨l,m⟩:=left g;obtain⟨hs,f,e⟩:=h.obj k c m;refine⟨hs,by rw[Bj l];exact f,?_⟩;cases c with
 |cells T cs=>
  obtain⟨b,p,t,cv,q,x,u,s⟩:=e;exact⟨b,p,t,cv,q,x,u,λi v a r d=>D1 5 (s i v a r d) (nS (UC o k _ cs g) i a d)⟩
 |_=>exact e
end
def fen(r:Option Nat):Fence:={Fence.wide with round:=r}
def pC(P:Program)(o:Oper)(ρ:Operand->Value)(w:World)(R:Ending->World->Prop):Prop:=
 (∃v w',(execOp ρ o).run P w= .ok (.value v) w'/\R (.returned v) w')\/
 (∃w',(execOp ρ o).run P w= .ok .skip w'/\R (.returned undef) w')\/
 (∃v w',(execOp ρ o).run P w= .halt (.panic v) w'/\R (.panicked [{v,recovered:=S}]) w')\/
 (∃f args w',(execOp ρ o).run P w= .ok (.enter f args) w'/\Calls P f args w' λe a=>R e a/\e≠ .outgrown)\/
 (∃l f tmps as b w',(execOp ρ o).run P w= .ok (.round l f tmps as b) w'/\RoundIn Fence.wide 0 P l f tmps as b w' λe a=>R e a/\e≠ .outgrown)
def pC.wpIn{rd:Option Nat}{P:Program}{o:Oper}{a:Act}{w:World}{R:Ending->World->Prop}(h:pC P o a.eval w R){next:Act->World->Prop}{Q:Exit->Act->World->Prop}
  (i:∀c,o.op≠ .defer c) (h1:∀v w',R (.returned v) w'->next (a.put o.dst v) w') (p:∀m w',R (.panicked m) w'->Q (.panic m) a w'):o.wpIn (fen rd) 0 P a w next Q:=by
 refine⟨λ_ _=>trivial,?_⟩;rw[Oper.semAt_eq _ _ _ i];rcases h with⟨v,w',b,d⟩|⟨w',b,d⟩|⟨v,w',b,d⟩|⟨f,args,w',b,k⟩|⟨l,f,tmps,as,q,w',b,k⟩
 .rw [b];exact h1 v w' d
 .rw [b];exact h1 undef w' d
 .rw [b];exact p _ w' d
 .rw [b];refine⟨λh=>(by cases h),(callsIn_wide (n:=0)).2 (k.mono λe j ⟨d,g⟩=>?_)⟩
  grind
 .rw [b];refine⟨λh=>(by cases h),RoundIn.mono (F:=Fence.wide) k λe j ⟨d,g⟩=>?_⟩
  grind
def HX(M:Imm)(ob:Hs)(L:aw)(w:World)(K:aa->aw->Prop)(Kp:aa->aw->Prop)(e:Ending)(w':World):Prop:=
 ∃M' ob' L',Ext M ob L w M' ob' L' w'/\Mem M' ob' L' w'/\((∃u v,e= .returned u/\Rep M' ob' u v/\K v L')\/∃a v,e= .panicked a/\uN M' ob' e (.pan v)/\Kp v L')
section
variable {P:Program} {E:Env} {M M':Imm} {ob ob':Hs} {ac L:aw} {w w':World} {K Kp:aa->aw->Prop}
def jR.mono{f:FuncId}{c:Array Value}{R b:Ending->World->Prop}(d:∀e w,R e w->b e w)(h:jR P f c w R):jR P f c w b:=by
 rcases h with⟨h1,a⟩|⟨u,w',h1,a⟩
 .exact .inl ⟨h1,a.mono λe w h=>d e w h⟩
 .exact .inr ⟨u,w',h1,d _ _ a⟩
def HX.ne{e:Ending}(h:HX M ob L w K Kp e w'):e≠ .outgrown:=by obtain⟨_,_,_,_,_,⟨u,v,rfl,_⟩|⟨a,v,rfl,_⟩⟩:=h<;>(simp)
def cP.mono{f:Fn}{b:Array Value}{R a:Ending->World->Prop}(c:∀e w,R e w->a e w)(h:cP P f b w R):cP P f b w a:=by
 cases f with
 |func f=>exact jR.mono c h
 |yield l=>
  obtain⟨f,tmps,as,g,h1,d⟩:=h;exact⟨f,tmps,as,g,h1,RoundIn.mono d c⟩
 |_=>exact h.elim
def jR.op{f:Fn}{d:Array Value}{o:Oper}{ρ:Operand->Value}{R:Ending->World->Prop}(b:∀e w,R e w->e≠ .outgrown)(c:(execOp ρ o).run P w=(HG f d).run P w)(h:cP P f d w R):pC P o ρ w R:=by
 cases f with
 |func f=>
  rcases h with⟨h1,a⟩|⟨u,w',h1,a⟩
  .exact .inr (.inr (.inr (.inl ⟨f,d,w,c.trans h1,a.mono λe w h=>⟨h,b e w h⟩⟩)))
  .exact .inl ⟨u,w',c.trans h1,a⟩
 |yield l=>
  obtain⟨f,tmps,as,g,h1,a⟩:=h;exact .inr (.inr (.inr (.inr ⟨l,f,tmps,as,g,w,c.trans h1,RoundIn.mono a λe w h=>⟨h,b e w h⟩⟩)))
 |_=>exact h.elim
def vI{b:Hs}{g:aa->aa}(c:∀v a,Rep M ob v a->Rep M' b v (g a)){vs:bb}{as:az}(h:cL M ob vs as):cL M' b vs (eF g as):=cI c h.1 h.2
def oN(hm:Mem M ob L w){f:Fn}{args:az}{i:bb}{ks:a6}{r:Res}{ap:aw}(g:jS ks L=O)(k:cL M ob i args)
  (h:bN P f (eF (cvtV 0 ks (aC L) 5) args) (gT 0 ks L) r ap):
  cP P f i.toArray w λe w'=>∃M' b,Ext M ob L w M' (kF ks ob b) (iD ks (Z L) L 0 ap L) w'/\Mem M' (kF ks ob b) (iD ks (Z L) L 0 ap L) w'/\uN M' b e r/\Z b=Z ap/\
   ∀n v a,Rep M' b v a->Rep M' (kF ks ob b) v (embV ks (Z L) L n a):=by
 obtain⟨m,_,_⟩:=hm.cvt (n0:=0) g;refine cP.mono (λe w' ⟨M',b,j,c,d⟩=>?_) (h M _ w i m (vI (λv a=>hm.cvtV (n0:=0) g 5 v a) k));obtain⟨o,l,_⟩:=hm.emb g j c;exact⟨M',b,l,o,d,c.len,hm.embV g j.hs qK⟩
def T6(hm:Mem M ob ac w){f:Fn}{args:az}{A:bb}(C:cL M ob A args)(h:CallG P f args ac K Kp):cP P f A.toArray w (HX M ob ac w K Kp):=by
 have mono:∀{n:Imm},(∀b o x,M b o x->n b o x)->cL n ob A args:=λF=>⟨C.1,λi v a D G=>(C.2 i v a D G).monoM F⟩
 cases h with
 |pure r new h k=>
  obtain⟨n,j,d,_,s⟩:=hm.frzL args;refine cP.mono (λe w' ⟨M',g,m,l,c,_,p⟩=>?_) (oN (ks:=[]) j rfl (mono d.imm) h);refine⟨M',_,_,d.trans m,l,.inl ?_⟩;rw[bX,<-s]at k;cases e with
  |returned u=>exact⟨u,_,rfl,p 5 u r c,k⟩
  |panicked q=>exact c.elim
  |outgrown=>exact c.elim
 |eff t ks r ap y h k=>
  obtain⟨n,j,d,_,s⟩:=Mem.frzs t M ac hm;refine cP.mono (λe w' ⟨M',g,m,l,c,_,p⟩=>?_) (oN j y (mono d.imm) h);refine⟨M',_,_,d.trans m,l,.inl ?_⟩;rw[bX]at k;cases e with
  |returned u=>exact⟨u,_,rfl,p 5 u r c,k⟩
  |panicked q=>exact c.elim
  |outgrown=>exact c.elim
 |effp t ks r ap y h k=>
  obtain⟨n,j,d,_,s⟩:=Mem.frzs t M ac hm;refine cP.mono (λe w' ⟨M',g,m,l,c,_,p⟩=>?_) (oN j y (mono d.imm) h);refine⟨M',_,_,d.trans m,l,.inr ?_⟩;rw[bX]at k;cases e with
  |returned u=>exact c.elim
  |panicked q=>
   obtain⟨v,B,z⟩:=c;exact⟨q,_,rfl,⟨v,B,p 5 v r z⟩,k⟩
  |outgrown=>exact c.elim
 |pan r h k=>
  obtain⟨n,j,d,_,s⟩:=hm.frzL args;refine cP.mono (λe w' ⟨M',g,m,l,c,I,p⟩=>?_) (oN (ks:=[]) j rfl (mono d.imm) h);have H:g=[]:=Bb o_;subst H;refine⟨M',_,_,d.trans m,l,.inr ?_⟩;cases e with
  |returned u=>exact c.elim
  |panicked q=>
   obtain⟨v,B,z⟩:=c;exact⟨q,r,rfl,⟨v,B,z.pure⟩,k⟩
  |outgrown=>exact c.elim
def EX{VS:aa->aw->Prop}{CS:Fn->az->Prop}{PS:aa->Prop}{a:aw}{base:Nat}(d:base=aS ac):∀{r:OR},Sd VS CS PS a base r->orF P ac K Kp r->
  (∃v,VS v a/\K v ac)\/(∃k x v,VS v (bQ a k x)/\K v (bQ ac k x))\/(∃f args,CS f args/\CallG P f args ac K Kp)\/∃v,PS v/\Kp v ac
 |.no,_,k=>k.elim
 |.val v,h,k=>.inl ⟨v,h,k⟩
 |.mkf fn fs cs,h,k=>.inl ⟨_,h,k⟩
 |.need p r,h,k=>EX d (h k.1) k.2
 |.alt p v w,h,k=>by
  rcases k with⟨hp,k⟩|k
  .exact .inl ⟨v,h.1 hp,k⟩
  .exact .inl ⟨w,h.2,k⟩
 |.idx n f,h,⟨i,hi,k⟩=>EX d (h i hi) k
 |.elem xs i f,h,⟨x,hx,k⟩=>EX d (h x hx) k
 |.byte l i,h,⟨c,hc,k⟩=>.inl ⟨_,h c hc,k⟩
 |.text xs,h,⟨l,hl,hm,k⟩=>.inl ⟨_,h l hl hm,k⟩
 |.find es key f,h,⟨o,ho,k⟩=>by subst ho;exact EX d (r:=f (bZ es key)) h k
 |.born x v,h,k=>.inr (.inl ⟨base,x,v,h,by rw[d];exact k⟩)
 |.upd i x v,h,k=>.inr (.inl ⟨i,x,v,h,k⟩)
 |.nilq xs neg,⟨b,h1,h2⟩,k=>.inl ⟨_,h2,k b h1⟩
 |.call f args,h,k=>.inr (.inr (.inl ⟨f,args,h,k⟩))
 |.pan v,h,k=>.inr (.inr (.inr ⟨v,h,k⟩))
def FN(l:aw)(n:Nat):aC (l++Ak n .dead)=aC l:=by
 funext i;induction l generalizing i with
 |nil=>
  induction n generalizing i with
  |zero=>rfl
  |succ n a=>
   cases i with
   |zero=>rfl
   |succ i=>have:=a i;simpa[aC,List.replicate_succ]using this
 |cons x r a=>
  cases i with
  |zero=>rfl
  |succ i=>exact a i
theorem Q8(l:aw)(x:ab):∀k,(k<Z l->bQ (l++[.dead]) k x=bQ l k x++[.dead])/\(Z l<=k->bQ (l++[.dead]) k x=bQ l k x):=by
 induction l with
 |nil=>
  intro k;refine⟨λh=>by simp at h,λ_=>?_⟩;cases k with
  |zero=>rfl
  |succ k=>rfl
 |cons y r a=>
  intro k;cases k with
  |zero=>exact⟨λ_=>rfl,λh=>by simp at h⟩
  |succ k=>
   obtain⟨h1,b⟩:=a k;exact⟨λh=>by show y::bQ (r++[.dead]) k x=y::(bQ r k x++[.dead]);grind,λh=>by show y::bQ (r++[.dead]) k x=y::bQ r k x;grind⟩
def aQJ{k g:Nat}{v:Value}(h:at' (ob++[[]]) k g=X v):at' ob k g=X v:=by
 unfold at' at*
 grind[Ai,Ar,Ax]
def DG(hE:ae E)(hm:Mem M ob ac w){ρv:Operand->Value}{ρ:Operand->aa}(C:∀x,Rep M ob (ρv x) (ρ x)){hint:Nat}{p:Oper}(h:orF E.P ac K Kp (eop E hint (aS ac) (aC ac) ρ p.op p.type)):
  pC E.P p ρv w (HX M ob ac w K Kp):=by
 obtain⟨dst,op,ty,pos,b,o⟩:=p;obtain⟨G,A,R⟩:=hm.extend 1;have y:Z ob=Z ac:=hm.len;have m:(ac++Ak 1 ab.dead)[aS ac]? =X .dead:=by rw[bX];simp
 have t:(ob++Ak 1 ([]:bb))[aS ac]? =X []:=by rw[bX,<-y];simp
 have hs:=BD hE G m t (λx=>(C x).mono (λ_ _ _ h=>h) A.hs) hint op ty;rw[FN]at hs;have F:Ak 1 ab.dead=[.dead]:=rfl
 have fin:∀{v:aa} {ap:aw},Z ap=Z ac->K v ap->VS E.P ρv op ty M (ob++Ak 1 []) (ac++Ak 1 .dead) w v (ap++Ak 1 .dead)->pC E.P ⟨dst,op,ty,pos,b,o⟩ ρv w (HX M ob ac w K Kp):=by
  intro v ap hl l ⟨u,w',M',ob',vs⟩;have j:∀(i:Nat) hs,Z ap<=i->ob'[i]? =X hs->hs=[]:=by
   intro i hs Q N;have n:=(Ad.1 N).1;rw[vs.mem.len]at n;simp at n;obtain rfl:i=aS ac:=by rw[bX];omega
   have:=(vs.still (aS ac) [] m t).2 rfl (by rw[bX,<-hl];simp)
   grind
  obtain⟨D,As,I⟩:=vs.mem.shrink j
  have c:HX M ob ac w K Kp (.returned u) w':=⟨M',_,_,I (A.trans vs.ext) o_,D,.inl ⟨u,v,rfl,vs.rep.monoA As,l⟩⟩
  rcases vs.run dst pos b o with d|⟨d,rfl⟩
  .exact .inl ⟨u,w',d,c⟩
  .exact .inr (.inl ⟨w',d,c⟩)
 rcases EX (P:=E.P) (K:=K) (Kp:=Kp) rfl hs h with⟨v,h1,z⟩|⟨k,x,v,h1,z⟩|⟨f,args,⟨J,r,B⟩,l⟩|⟨v,⟨u,d,q⟩,l⟩
 .exact fin rfl z h1
 .rw [F]at h1;by_cases l:k<Z ac
  .grind [Q8,gJ]
  .rw [(Q8 ac x k).2 o_]at h1;obtain⟨u,w',M',ob',vs⟩:=h1
   have c:HX M ob ac w K Kp (.returned u) w':=⟨M',_,_,A.trans vs.ext,vs.mem,.inl ⟨u,v,rfl,vs.rep,z⟩⟩
   rcases vs.run dst pos b o with d|⟨d,rfl⟩
   .exact .inl ⟨u,w',d,c⟩
   .exact .inr (.inl ⟨w',d,c⟩)
 .have s:cL M ob J args:=⟨r.1,λi v a H L=>(r.2 i v a H L).monoA λk g v=>aQJ⟩
  exact jR.op (λe w h=>h.ne) (B dst pos b o) (T6 hm s l)
 .exact .inr (.inr (.inl ⟨u,w,d dst pos b o,M,ob,ac,Ext.refl _ _ _ _,hm,.inr ⟨_,v,rfl,⟨u,rfl,q.pure⟩,l⟩⟩))
end
open Classical
structure AS where
 g:Nat->aa
 o:Nat->ab
 br:Nat->Nat->Prop
def jZ(g:Nat->aa)(d:Option Nat)(z:aa):Nat->aa:=λt=>if d=X t then z else g t
def inB(base n k:Nat):Prop:=base<=k/\k<base+n
noncomputable def oP(o:Nat->ab)(base:Nat)(bs:aw):Nat->ab:=λk=>if inB base (Z bs) k then bs.getD (k-base) .dead else o k
noncomputable def AS.upd(s:AS)(i:Nat)(d:Option Nat)(z:aa)(base:Nat)(bs:aw):AS:=⟨jZ s.g d z,oP s.o base bs,λa k=>s.br a k\/(a=i/\inB base (Z bs) k)⟩
def W7(tab:a6)(j:Nat)(br:Nat->Nat->Prop)(k:Nat):Prop:=∃i,br i k/\cY (dF tab j) i=S
noncomputable def pM(tab:a6)(j:Nat)(s:AS):Nat->ab:=λk=>if W7 tab j s.br k then .dead else s.o k
def evG(tab:a6)(all:bf)(j:Nat)(g:Nat->aa):Operand->aa
 |.tmp t=>bif SF tab j t 0 all then .undef else g t
 |x=>ev [] x
def aP5(tab:a6)(all:bf)(j:Nat)(fr:au):evH tab all j fr=evG tab all j (aX fr):=by funext x;cases x<;>rfl
def aNY(P:Program)(og:Nat->ab)(f:Fn)(args:az)(z:aa):Prop:=
 ∃ks ap l,aC l=og/\jS ks l=O/\Z ap=Z ks/\bN P f (eF (cvtV 0 ks og 5) args) (gT 0 ks l) (.ret z) ap/\(∀b,iD ks b l 0 ap l=l)/\∀b,embV ks b l 5 z=z
def iA(P:Program)(og:Nat->ab)(base:Nat)(z:aa)(bs:aw):OR->Prop
 |.val v=>z=v/\bs=[]
 |.mkf fn a cs=>z= .func fn a cs/\bs=[]
 |.need p r=>p/\iA P og base z bs r
 |.alt p v w=>((p/\z=v)\/z=w)/\bs=[]
 |.idx n f=>∃i:Nat,n=(i:Int)/\iA P og base z bs (f i)
 |.elem xs i f=>∃x,xs[i]? =X x/\iA P og base z bs (f x)
 |.byte l i=>∃c,l[i]? =X c/\z= .int .u8 (c.toNat:Int)/\bs=[]
 |.text xs=>∃l:ay,xs=l.map ub/\(Z l:Int)<=9223372036854775807/\z= .str l/\bs=[]
 |.find es key f=>iA P og base z bs (f (bZ es key))
 |.born x v=>z=v/\bs=[x]
 |.call f args=>(∃r new,bN P f (eF (cvtV 0 [] og 5) args) [] (.ret r) new/\z=embV [] base [] 5 r/\bs=lL base new)\/(aNY P og f args z/\bs=[])
 |_=>False
def EW{P:Program}{og:Nat->ab}{VS:aa->aw->Prop}{CS:Fn->az->Prop}{PS:aa->Prop}{b:aw}{a base:Nat}{z:aa}{bs:aw}:∀{r:OR},Sd VS CS PS b a r->iA P og base z bs r->
  (VS z b/\bs=[])\/(∃x,VS z (bQ b a x)/\bs=[x])\/(∃f args d new,CS f args/\bN P f (eF (cvtV 0 [] og 5) args) [] (.ret d) new/\z=embV [] base [] 5 d/\bs=lL base new)\/∃f args,CS f args/\aNY P og f args z/\bs=[]
 |.no,_,k=>k.elim
 |.val v,h,⟨k1,k2⟩=>.inl ⟨k1▸h,k2⟩
 |.mkf fn fs cs,h,⟨k1,k2⟩=>.inl ⟨k1▸h,k2⟩
 |.need p r,h,k=>EW (h k.1) k.2
 |.alt p v w,h,⟨k1,k2⟩=>by
  rcases k1 with⟨hp,k⟩|k
  .exact .inl ⟨k▸h.1 hp,k2⟩
  .exact .inl ⟨k▸h.2,k2⟩
 |.idx n f,h,⟨i,hi,k⟩=>EW (h i hi) k
 |.elem xs i f,h,⟨x,hx,k⟩=>EW (h x hx) k
 |.byte l i,h,⟨c,hc,k1,k2⟩=>.inl ⟨k1▸h c hc,k2⟩
 |.text xs,h,⟨l,hl,hm,k1,k2⟩=>.inl ⟨k1▸h l hl hm,k2⟩
 |.find es key f,h,k=>EW (r:=f (bZ es key)) h k
 |.born x v,h,⟨k1,k2⟩=>.inr (.inl ⟨x,k1▸h,k2⟩)
 |.upd i x v,h,k=>k.elim
 |.nilq xs neg,h,k=>k.elim
 |.call f args,h,.inl ⟨r,new,k1,k2,k3⟩=>.inr (.inr (.inl ⟨f,args,r,new,h,k1,k2,k3⟩))
 |.call f args,h,.inr ⟨k1,k2⟩=>.inr (.inr (.inr ⟨f,args,h,k1,k2⟩))
 |.pan v,h,k=>k.elim
def MU(z:aa)(k:Nat)(x:ab):OR->Prop
 |.need p r=>p/\MU z k x r
 |.idx n f=>∃i:Nat,n=(i:Int)/\MU z k x (f i)
 |.elem xs i f=>∃y,xs[i]? =X y/\MU z k x (f y)
 |.find es key f=>MU z k x (f (bZ es key))
 |.upd a x' v=>a=k/\x'=x/\z=v
 |_=>False
def yN{VS:aa->aw->Prop}{CS:Fn->az->Prop}{PS:aa->Prop}{a:aw}{base:Nat}{z:aa}{k:Nat}{x:ab}:∀{r:OR},Sd VS CS PS a base r->MU z k x r->VS z (bQ a k x)
 |.no,_,h=>h.elim
 |.val v,_,h=>h.elim
 |.mkf fn fs cs,_,h=>h.elim
 |.need p r,h,u=>yN (h u.1) u.2
 |.alt p v w,_,h=>h.elim
 |.idx n f,h,⟨i,hi,u⟩=>yN (h i hi) u
 |.elem xs i f,h,⟨y,hy,u⟩=>yN (h y hy) u
 |.byte l i,_,h=>h.elim
 |.text xs,_,h=>h.elim
 |.find es key f,h,u=>yN (r:=f (bZ es key)) h u
 |.born x v,_,h=>h.elim
 |.upd i y v,h,⟨e1,e2,e3⟩=>by subst e1 e2 e3;exact h
 |.nilq xs neg,_,h=>h.elim
 |.call f args,_,h=>h.elim
 |.pan v,_,h=>h.elim
theorem nU{P:Program}{og:Nat->ab}{b base hint a:Nat}{e:TypeId}{xs:az}{z:aa}:¬ iA P og b z [] (rT hint base a e xs):=by unfold rT;split<;>(intro h;have:=h.2;cases this)
def TS{P:Program}{og:Nat->ab}{b:Nat}{c:Bool}{r:OR}{z:aa}{bs:aw}(h:iA P og b z bs (bif c then r else .no)):iA P og b z bs r:=by
 cases c with
 |true=>exact h
 |false=>exact h.elim
theorem aDf{P:Program}{E:Env}{og:Nat->ab}{b base d hint:Nat}{ρ:Operand->aa}{op:Op}{ty:TypeId}{z:aa}:iA P og b z [] (nM E hint base og ρ op ty)->iA P og b z [] (nM E hint d og ρ op ty):=by
 have o:∀(t j:Nat) (x y:aa),iA P og b z [] (vU E hint base og t j x y)->iA P og b z [] (vU E hint d og t j x y):=by
  intro t j x y;unfold vU;split
  .rename_i e a u _ _ _ _;cases Fv 1 a with
   |false=>exact id
   |true=>
    simp only[cond_true];split
    .exact id
    .split
     .split
      .exact id
      .rename_i k _ _;cases Au k a with
       |false=>exact id
       |true=>exact λh=>(nU h.2).elim
      .rename_i k _ _;cases Au k a with
       |false=>exact id
       |true=>
             intro h;refine⟨h.1,?_⟩;have g:=h.2;clear h;split at g
             .exact g
             .exact g
             .exact (nU g.2).elim
      .exact id
     .exact λh=>(nU h.2).elim
     .exact id
     .exact id
     .exact id
  .exact id
 cases op
 case assign x=>
  simp only[nM];split
  .exact id
  .split
   .split
    .split
     .split
      .exact λh=>(nU (TS h)).elim
      .exact id
     .exact id
    .exact id
   .exact id
 case alloc t=>
  simp only[nM];split
  .rename_i m _;cases rC m.zero.cells with
   |false=>exact id
   |true=>intro h;have:=h.2;cases this
  .exact id
 case box t x=>
  simp only[nM];cases rC (ρ x).cells with
  |false=>exact id
  |true=>intro h;have:=h.2;cases this
 case buildSlice t n ps=>
  simp only[nM];unfold oK;split
  .rename_i e a _ _ _ _ _;cases (Au (aF2 (evL ρ ps.toList)) n&&Fv (n*a) 1000&&Fv 1 a)with
   |false=>exact id
   |true=>
    simp only[cond_true]
    grind[nU]
  .exact id
 case makeSlice t x y=>
  simp only[nM];unfold aBh;split
  .split
   .rename_i l _;intro h;cases q:(Fv 1 _&&FP (ai (λ_=>.dead) 4 l.zero))with
    |false=>simp_all
    |true=>
     rw[q]at h;obtain⟨i,_,_,h⟩:=h;have:=h.2;cases this
   .exact id
  .exact id
 case makeMap t x=>
  cases x with
  |some x=>exact id
  |none=>
   simp only[nM];split
   .split
    .intro h;have:=h.2;cases this
    .exact id
   .exact id
 case call c=>
  obtain⟨callee,args,p⟩:=c;cases callee with
  |value f=>exact id
  |invoke r n=>exact id
  |builtin s=>
   simp only[nM]
   grind
 all_goals exact id
def aL6{P:Program}{og:Nat->ab}{b:Nat}{z:aa}{n:Int}{p:Nat->Prop}{x:Nat->ab}{v:aa}:¬ iA P og b z [] (.idx n λy=>.need (p y) (.born (x y) v)):=by rintro⟨i,_,_,h⟩;have:=h.2;cases this
def aHR{P:Program}{E:Env}{og:Nat->ab}{b base a hint:Nat}{ρ:Operand->aa}{op:Op}{ty:TypeId}{z:aa}:iA P og b z [] (eop E hint base og ρ op ty)->iA P og b z [] (eop E hint a og ρ op ty):=by
 unfold eop;have d:(∃r,mG E hint base og ρ op=X r/\mG E hint a og ρ op=X r)\/(mG E hint base og ρ op=U/\mG E hint a og ρ op=U)\/∃r,mG E hint base og ρ op=X r/\¬ iA P og b z [] r:=by
  have same:∀{o:Option OR},mG E hint base og ρ op=o->mG E hint a og ρ op=o->(∃r,mG E hint base og ρ op=X r/\mG E hint a og ρ op=X r)\/(mG E hint base og ρ op=U/\mG E hint a og ρ op=U)\/∃r,mG E hint base og ρ op=X r/\¬ iA P og b z [] r:=λ{o} h1 h2=>by
   cases o with
   |none=>grind
   |some r=>grind
  cases op with
  |call c=>
   obtain⟨callee,args,g⟩:=c;cases callee with
   |value f=>exact same rfl rfl
   |invoke r n=>exact same rfl rfl
   |builtin i=>
    cases i with
    |append=>
     simp only[mG];split
     .split
      .refine .inr (.inr ⟨_,rfl,?_⟩);unfold aBe;split
       .split
        .intro h;exact aL6 (TS h)
        .exact λh=>h.elim
       .exact λh=>h.elim
      simp
     simp
    |_=>exact same rfl rfl
  |slice t x lo e j=>cases lo<;>cases e<;>cases j<;>exact same rfl rfl
  |_=>exact same rfl rfl
 grind[aDf]
def C7:aw->Nat->aw->aw
 |ac,_,[]=>ac
 |ac,base,x::r=>C7 (bQ ac base x) (base+1) r
def K6(base:Nat)(a:aw):∀(new:aw) (j:Nat) (ac:aw),iD [] base a j new ac=C7 ac (base+j) (lL base new)
 |[],j,ac=>rfl
 |x::r,j,ac=>by
  have e:fI [] base j=base+j:=by rfl
  have b:uD [] base a j x=uD [] base [] 0 x:=by rfl
  simp only[iD,lL,Bg,C7];rw[K6 base a r (j+1),e,b];rfl
def tM{P:Program}{m bl:Bool}{b ac:aw}{base:Nat}{K Kp:aa->aw->Prop}:∀{r:OR},orD P S m bl b ac base K Kp r->
  (∃z bs,(bl=O->bs=[])/\iA P (aC b) base z bs r/\K z (C7 ac base bs))\/∃z k x,m=O/\aC b k≠ .dead/\MU z k x r/\K z (bQ ac k x)
 |.no,k=>k.elim
 |.val v,k=>.inl ⟨v,[],λ_=>rfl,⟨rfl,rfl⟩,k⟩
 |.mkf fn fs cs,k=>.inl ⟨_,[],λ_=>rfl,⟨rfl,rfl⟩,k⟩
 |.need p r,⟨hp,k⟩=>by
  rcases tM k with⟨z,bs,d,h1,a⟩|⟨z,g,x,d,h1,a,h3⟩
  .exact .inl ⟨z,bs,d,⟨hp,h1⟩,a⟩
  .exact .inr ⟨z,g,x,d,h1,⟨hp,a⟩,h3⟩
 |.alt p v w,k=>by
  rcases k with⟨hp,k⟩|k
  .exact .inl ⟨v,[],λ_=>rfl,⟨.inl ⟨hp,rfl⟩,rfl⟩,k⟩
  .exact .inl ⟨w,[],λ_=>rfl,⟨.inr rfl,rfl⟩,k⟩
 |.idx n f,⟨i,j,k⟩=>by
  rcases tM k with⟨z,bs,d,h1,a⟩|⟨z,g,x,d,h1,a,h3⟩
  .exact .inl ⟨z,bs,d,⟨i,j,h1⟩,a⟩
  .exact .inr ⟨z,g,x,d,h1,⟨i,j,a⟩,h3⟩
 |.elem xs i f,⟨y,hy,k⟩=>by
  rcases tM k with⟨z,bs,d,h1,a⟩|⟨z,g,x,d,h1,a,h3⟩
  .exact .inl ⟨z,bs,d,⟨y,hy,h1⟩,a⟩
  .exact .inr ⟨z,g,x,d,h1,⟨y,hy,a⟩,h3⟩
 |.byte l i,⟨c,hc,k⟩=>.inl ⟨_,[],λ_=>rfl,⟨c,hc,rfl,rfl⟩,k⟩
 |.text xs,⟨l,hl,hm,k⟩=>.inl ⟨_,[],λ_=>rfl,⟨l,hl,hm,rfl,rfl⟩,k⟩
 |.find es key f,⟨o,ho,k⟩=>by
  subst ho;rcases tM k with⟨z,bs,d,h1,a⟩|⟨z,g,x,d,h1,a,h3⟩
  .exact .inl ⟨z,bs,d,h1,a⟩
  .exact .inr ⟨z,g,x,d,h1,a,h3⟩
 |.born x v,k=>by
  cases bl with
  |true=>exact k.elim
  |false=>exact .inl ⟨v,[x],(λh=>nomatch h),⟨rfl,rfl⟩,k⟩
 |.upd i x v,k=>by
  simp only[orD,Bool.false_or]at k;split at k
  .rename_i h;obtain⟨h1,a⟩:=aZ h;exact .inr ⟨v,i,x,h1,(λe=>by rw[e]at a;cases a),⟨rfl,rfl,rfl⟩,k⟩
  grind
 |.nilq xs neg,k=>k.elim
 |.call f args,k=>by
  cases bl with
  |true=>exact k.elim
  |false=>
   have k:CallD P f args S b base ac K Kp:=k;cases k with
   |pure r new h k=>exact .inl ⟨_,_,(λh=>nomatch h),.inl ⟨r,new,h,rfl,rfl⟩,by rw[K6,Fj]at k;rw[aHT]at k;exact k⟩
   |sole h=>cases h
   |look ks r o q hl h j hz k=>exact .inl ⟨r,[],λ_=>rfl,.inr ⟨⟨ks,o,b,rfl,q,hl,h,j,hz⟩,rfl⟩,k⟩
 |.pan v,k=>k.elim
def vD(l:aw)(n k:Nat)(x:ab):aC (bQ l n x) k=if k=n then x else aC l k:=by
 induction l generalizing n k with
 |nil=>
  induction n generalizing k with
  |zero=>cases k<;>rfl
  |succ n a=>
   cases k with
   |zero=>rfl
   |succ k=>show aC (bQ [] n x) k=_;rw[a];simp[aC]
 |cons y r a=>
  cases n with
  |zero=>cases k<;>simp[bQ,aC]
  |succ n=>
   cases k with
   |zero=>simp[bQ,aC]
   |succ k=>simp only[bQ,aC,a];simp
def aAx{l m:aw}(h:aC l=aC m):∀ks,jS ks l=jS ks m
 |[]=>rfl
 |k::r=>by unfold jS;rw[h,aAx h r]
def aJB{l m:aw}(h:aC l=aC m){ks:a6}:gT 0 ks l=gT 0 ks m:=by
 have e:∀j x,IE 0 ks l j x=IE 0 ks m j x:=λj x=>by cases x<;>simp only[IE,h]
 have:∀(r:a6) (j:Nat),sW 0 ks l j r=sW 0 ks m j r:=λr=>by
  induction r with
  |nil=>intro j;rfl
  |cons k r a=>intro j;simp only[sW,e,h,a]
 exact this ks 0
def aBg{l m:aw}(h:aC l=aC m){ks:a6}(j g:Nat):jT ks l j g=jT ks m j g:=by unfold jT;rw[h]
def N3{l m:aw}(h:aC l=aC m){ks:a6}{b:Nat}:∀n v,embV ks b l n v=embV ks b m n v
 |0,_=>rfl
 |n+1,v=>by have a:embV ks b l n=embV ks b m n:=funext (N3 h n);cases v<;>simp only[embV,aBg h,a]
def aBf{l m:aw}(h:aC l=aC m){ks:a6}{b:Nat}:∀(o:aw) (j:Nat) (x y:aw),aC x=aC y->aC (iD ks b l j o x)=aC (iD ks b m j o y)
 |[],_,_,_,e=>e
 |c::r,j,x,y,e=>by
  have d:uD ks b l j c=uD ks b m j c:=by have a:embV ks b l 4=embV ks b m 4:=funext (N3 h 4);cases c<;>simp only[uD,aBg h,a]
  unfold iD;refine aBf h r (j+1) _ _ ?_;rw[d];funext k;rw[vD,vD,e]
def TC{l:aw}{ks:a6}{b:Nat}(d:∀(j k:Nat),ks[j]? =X k->k<Z l):∀(o:aw) (j:Nat) (x:aw),j+Z o<=Z ks->Z x=Z l->Z (iD ks b l j o x)=Z l
 |[],_,_,_,e=>e
 |c::r,j,x,h,e=>by rw[Al]at h;have a:ks[j]? =X ks[j]:=Ab o_;unfold iD;refine TC d r (j+1) _ o_ ?_;rw[jK a,gJ _ (by rw[e];exact d j _ a),List.length_set,e]
section
variable {P:Program} {E:Env} {M:Imm} {ob:Hs} {L:aw} {w:World}
theorem fO(l:aw)(k:Nat):(k<Z l/\l[k]? =X (aC l k))\/(Z l<=k/\l[k]? =U/\aC l k= .dead):=by grind[pY,Bk,Ad,bK]
noncomputable def cQ(hid:Nat->Prop)(L:aw):aw:=(Df (Z L)).map λk=>if hid k then .dead else aC L k
theorem I3{hid:Nat->Prop}{k:Nat}(h:k<Z L):(cQ hid L)[k]? =X (if hid k then .dead else aC L k):=by simp[cQ,List.getElem?_range h]
theorem fT{hid:Nat->Prop}:Z (cQ hid L)=Z L:=by simp[cQ]
def gG{hid:Nat->Prop}:YT (cQ hid L) L:=⟨fT,λk=>by grind[fO,I3,Bk,fT]⟩
theorem gH{hid:Nat->Prop}:aC (cQ hid L)=λk=>if hid k then .dead else aC L k:=by
 funext k;rcases fO L k with⟨h,e⟩|⟨h,e,a⟩
 .exact gX (I3 h)
 grind[fO,fT]
def YY(M:Imm)(ob:Hs)(L:aw)(w:World)(z:aa)(base:Nat)(bs:aw)(e:Ending)(w':World):Prop:=
 ∃M' ob' L' u,e= .returned u/\Ext M ob L w M' ob' L' w'/\Mem M' ob' L' w'/\aC L'=oP (aC L) base bs/\Z L<=Z L'/\Rep M' ob' u z/\∀(k:Nat),¬ inB base (Z bs) k->(∀hs,ob[k]? =X hs->hs=[])->∀hs,ob'[k]? =X hs->hs=[]
def aQl(hE:ae E)(hm:Mem M ob L w){hid:Nat->Prop}{ρv:Operand->Value}{ρ:Operand->aa}(hρ:∀x,Rep M ob (ρv x) (ρ x)){hint base:Nat}{p:Oper}{z:aa}{bs:aw}
  (F:∀(k:Nat),inB base (Z bs) k->∀hs,ob[k]? =X hs->hs=[])
  (h:iA E.P (aC (cQ hid L)) base z bs (eop E hint base (aC (cQ hid L)) ρ p.op p.type)):pC E.P p ρv w (YY M ob L w z base bs):=by
 obtain⟨dst,op,ty,pos,i,Y⟩:=p
 obtain⟨n,hn⟩:∃n,base+Z bs+1<=Z L+n/\0<n:=⟨base+Z bs+1,by omega,by omega⟩
 obtain⟨hn,hn0⟩:=hn;obtain⟨C,An,m3⟩:=hm.extend n;have V:Z (L++Ak n ab.dead)=Z L+n:=by simp
 have hob1:Z (ob++Ak n ([]:bb))=Z L+n:=by simp[hm.len]
 generalize hL1:L++Ak n ab.dead=L1 at C An m3 V;generalize hO1:ob++Ak n ([]:bb)=ob1 at C An m3 hob1;have G:aC L1=aC L:=by rw[<-hL1];exact FN L n
 have d:∀k,(∀hs,ob[k]? =X hs->hs=[])->k<Z L1->ob1[k]? =X []:=λk r t=>by grind
 have s:aC (cQ hid L1)=aC (cQ hid L):=by rw[gH,gH,G]
 obtain⟨g,D,hbb,I,h⟩:∃g,ob1[g]? =X []/\(bs≠[]->g=base)/\g<Z L1/\iA E.P (aC (cQ hid L)) base z bs (eop E hint g (aC (cQ hid L)) ρ op ty):=by
  by_cases hbs:bs=[]
  .subst hbs;exact⟨Z L,d _ (λhs A=>by grind[Ad]) o_,λh=>bv rfl h,by omega,aHR h⟩
  .have hpos:0<Z bs:=by cases bs<;>simp at hbs⊢
   exact⟨base,d base (F base ⟨Bc _,by omega⟩) o_,λ_=>rfl,by omega,h⟩
 have T:=C.weak (gG (hid:=hid));have hb1:(cQ hid L1)[g]? =X .dead:=T.idle D;have hs:=BD hE T hb1 D (λx=>(hρ x).mono (λ_ _ _ h=>h) An.hs) hint op ty;rw[s]at hs;have live:∀{k:Nat} {c:ab},L1[k]? =X c->(cQ hid L1)[k]? =X c\/((cQ hid L1)[k]? =X .dead/\(∃hs,ob1[k]? =X hs/\hs≠[])/\L1[k]? =X c):=λ{k c} As=>by
  rcases(gG (hid:=hid) (L:=L1)).2 k with q|q
  .left;rw[q];exact As
  .by_cases K:c= .dead
   .left;rw[q,K]
   .right;exact⟨q,C.live As K,As⟩
 have fin:∀{u:Value} {w':World},YY M ob L w z base bs (.returned u) w'->((execOp ρv ⟨dst,op,ty,pos,i,Y⟩).run E.P w= .ok (.value u) w'\/((execOp ρv ⟨dst,op,ty,pos,i,Y⟩).run E.P w= .ok .skip w'/\u=undef))->pC E.P ⟨dst,op,ty,pos,i,Y⟩ ρv w (YY M ob L w z base bs):=by
  intro u w' ha hr;rcases hr with hr|⟨hr,rfl⟩
  .exact .inl ⟨u,w',hr,ha⟩
  .exact .inr (.inl ⟨w',hr,ha⟩)
 rcases EW (P:=E.P) hs h with⟨⟨u,w',M',ob',vs⟩,rfl⟩|⟨x,⟨u,w',M',ob',vs⟩,rfl⟩|⟨f,args,r0,new,⟨va,W,hx⟩,H,rfl,rfl⟩|⟨f,args,⟨va,W,hx⟩,⟨ks,o,l,hl,r,hol,H,hi,hz⟩,rfl⟩
 .obtain ⟨N,v2,v3⟩:=C.revive (ap:=L1) (gG (hid:=hid)) vs.ext vs.still vs.mem (by rw[fT]) λk c As=>live As;refine fin ⟨M',ob',L1,u,rfl,An.trans v2,N,?_,by omega,vs.rep,λk r hf hs A=>?_⟩ (vs.run dst pos i Y)
  .rw [G];funext k;unfold oP;rw[bt λh=>by have:=h.2;have:=h.1;simp at*;omega]
  .have t:k<Z L1:=by rw[<-N.len];exact(Ad.1 A).1
   have e:=d k hf t;have K:=C.idle e;have:=(v3 k [] K e).2 rfl K;rw[A]at this;cases this;rfl
 .obtain rfl:base=g:=(hbb s_).symm;have m:bQ L1 base x=L1.set base x:=gJ x I;have Q:bQ (cQ hid L1) base x=(cQ hid L1).set base x:=gJ x (by rw[fT];exact I);obtain⟨N,v2,v3⟩:=C.revive (ap:=bQ L1 base x) (gG (hid:=hid)) vs.ext vs.still vs.mem (by rw[m,Q];simp[fT]) λk c As=>by grind
  refine fin ⟨M',ob',bQ L1 base x,u,rfl,An.trans v2,N,?_,by rw[m];simp;omega,vs.rep,λk r hf hs A=>?_⟩ (vs.run dst pos i Y)
  .funext k;unfold oP;by_cases r:k=base
   .subst r;rw[bu ⟨Bc _,by simp⟩,m];rw[gX (Ay I)];simp
   .rw [bt λh=>r (by have h1:=h.1;have h2:=h.2;simp at h2;omega),<-G,m];rcases fO L1 k with⟨h1,J⟩|⟨h1,J,Am⟩
    .exact gX (by rw[Bf (Gs r)];exact J)
    .rcases fO (L1.set base x) k with⟨h3,_⟩|⟨_,_,Be⟩
     .simp at h3;omega
     .rw [Be,Am]
  .have hkb:k≠base:=λe=>r ⟨by omega,by simp;omega⟩;have t:k<Z L1:=by have:=(Ad.1 A).1;rw[N.len,m]at this;simpa using this
   have e:=d k hf t;have K:=C.idle e;have:=(v3 k [] K e).2 rfl (by rw[m,Bf (Gs hkb)];exact K);rw[A]at this;cases this;rfl
 .rw [<-s]at H;have y:=vI (λv a=>T.cvtV (n0:=0) (ks:=[]) rfl 5 v a) W;have hnl:Z (lL base new)=Z new:=by simp[lL]
  refine jR.op (λe w ⟨_,_,_,u,A,_⟩=>by rw[A];simp) (hx dst pos i Y) (cP.mono (λe w' ⟨M',R,x1,x2,At⟩=>?_) (H M [] w va C.bare y));have hin:∀j,j<Z new->ob1[base+j]? =X []:=λj hj=>d _ (F _ ⟨by omega,by omega⟩) o_;obtain⟨J,Am,Be⟩:=C.emb0 o_ hin x1 x2;obtain⟨q1,q2⟩:=fS L1 (lL base new) base o_;obtain⟨p1,p2⟩:=fS ob1 R base (by rw[x2.len];omega);cases e with
  |panicked ch=>exact At.elim
  |outgrown=>exact At.elim
  |returned u=>
   refine⟨M',_,_,u,rfl,An.trans Am,J,?_,by omega,Be 5 u r0 At,λk r hf hs A=>?_⟩
   .funext k;unfold oP;by_cases r:inB base (Z (lL base new)) k
    .rw [bu r];have t:k-base<Z (lL base new):=by have:=r.1;have:=r.2;omega
     refine gX ?_;rw[q2,bu (show base<=k/\k<base+Z (lL base new)from r),Ha,Ab t];rfl
    .rw [bt r,<-G];rcases fO L1 k with⟨h1,J⟩|⟨h1,J,Am⟩
     .exact gX (by rw[q2,bt (show ¬ (base<=k/\k<base+Z (lL base new))from r)];exact J)
     grind[fO]
   .rw [p2,bt (show ¬ (base<=k/\k<base+Z R)from by rw[x2.len,<-hnl];exact r)]at A
    grind[Ad]
 .have B:aC l=aC (cQ hid L1):=hl.trans s.symm;rw[<-s,aJB B]at H;rw[aAx B]at r;obtain⟨c1,_,_⟩:=T.cvt (n0:=0) r;have y:=vI (λv a=>T.cvtV (n0:=0) r 5 v a) W;refine jR.op (λe w ⟨_,_,_,u,A,_⟩=>by rw[A];intro h;cases h) (hx dst pos i Y) (cP.mono (λe w' ⟨M',R,x1,x2,At⟩=>?_) (H M _ w va c1 y));obtain⟨J,Am,Be⟩:=T.emb r x1 x2;have hL2:iD ks (Z (cQ hid L1)) (cQ hid L1) 0 o (cQ hid L1)=cQ hid L1:=by
   have h1:=aBf B (ks:=ks) (b:=Z (cQ hid L1)) o 0 l (cQ hid L1) B;rw[hi]at h1;have h2:=TC (l:=cQ hid L1) (ks:=ks) (b:=Z (cQ hid L1)) (λj k hj=>(Ad.1 (fG ((nD r).1 j k hj))).1) o 0 (cQ hid L1) o_ rfl;refine Ez λn=>?_;by_cases hn:n<Z (cQ hid L1)
   .rw [pY hn,pY (by rw[h2];exact hn),<-h1,B]
   grind[Bk]
  rw[hL2]at J Am Be;cases e with
  |panicked ch=>exact At.elim
  |outgrown=>exact At.elim
  |returned u=>
   have hu:=T.embV r x1.hs qK 5 u z At;rw[<-N3 B,hz]at hu;obtain⟨N,v2,v3⟩:=C.revive (ap:=L1) (gG (hid:=hid)) Am (λk hs h1 h2=>⟨λ_=>Be k hs h1 h2,λe _=>e▸(Be k hs h1 h2).2⟩) J (by rw[fT]) λk c As=>live As;refine⟨M',_,L1,u,rfl,An.trans v2,N,?_,by omega,hu,λk r hf hs A=>?_⟩
   .rw [G];funext k;unfold oP;rw[bt λh=>by have:=h.2;have:=h.1;simp at*;omega]
   .have t:k<Z L1:=by rw[<-N.len];exact(Ad.1 A).1
    have e:=d k hf t;have K:=C.idle e
    grind
def aI5(M:Imm)(ob:Hs)(L:aw)(w:World)(z:aa)(k:Nat)(x:ab)(e:Ending)(w':World):Prop:=
 ∃M' ob' L' u,e= .returned u/\Ext M ob L w M' ob' L' w'/\Mem M' ob' L' w'/\(aC L'=λa=>if a=k then x else aC L a)/\Z L<=Z L'/\Rep M' ob' u z/\∀(a:Nat),(∀hs,ob[a]? =X hs->hs=[])->∀hs,ob'[a]? =X hs->hs=[]
def aMy(hE:ae E)(hm:Mem M ob L w){hid:Nat->Prop}{ρv:Operand->Value}{ρ:Operand->aa}(T:∀x,Rep M ob (ρv x) (ρ x)){hint base:Nat}{p:Oper}{z:aa}{k:Nat}{x:ab}
  (j:∀hs,ob[base]? =X hs->hs=[]) (J:aC (cQ hid L) k≠ .dead) (h:MU z k x (eop E hint base (aC (cQ hid L)) ρ p.op p.type)):pC E.P p ρv w (aI5 M ob L w z k x):=by
 obtain⟨dst,op,ty,pos,m,gd⟩:=p
 obtain⟨n,hn,An⟩:∃n,base+1<=Z L+n/\0<n:=⟨base+1,by omega,by omega⟩
 obtain⟨r,D,Q⟩:=hm.extend n;have o:Z (L++Ak n ab.dead)=Z L+n:=by simp
 have t:Z (ob++Ak n ([]:bb))=Z L+n:=by simp[hm.len]
 generalize I:L++Ak n ab.dead=L1 at r D Q o;generalize W:ob++Ak n ([]:bb)=ob1 at r D Q t;have B:aC L1=aC L:=by rw[<-I];exact FN L n
 have a:∀k,(∀hs,ob[k]? =X hs->hs=[])->k<Z L1->ob1[k]? =X []:=λk J A=>by grind
 have f:aC (cQ hid L1)=aC (cQ hid L):=by rw[gH,gH,B]
 have b:=a base j o_;have N:=r.weak (gG (hid:=hid));have H:(cQ hid L1)[base]? =X .dead:=N.idle b;have hs:=BD hE N H b (λx=>(T x).mono (λ_ _ _ h=>h) D.hs) hint op ty;rw[f]at hs;have live:∀{k:Nat} {c:ab},L1[k]? =X c->(cQ hid L1)[k]? =X c\/((cQ hid L1)[k]? =X .dead/\(∃hs,ob1[k]? =X hs/\hs≠[])/\L1[k]? =X c):=λ{k c} F=>by
  rcases(gG (hid:=hid) (L:=L1)).2 k with q|q
  .left;rw[q];exact F
  .by_cases s:c= .dead
   .left;rw[q,s]
   .right;exact⟨q,r.live F s,F⟩
 have y:k<Z L1:=by
  have:=bK (l:=cQ hid L1) (n:=k) rfl (by rw[f];exact J)
  grind[Ad,fT]
 obtain⟨u,w',M',ob',vs⟩:=yN hs h;have i:bQ (cQ hid L1) k x=(cQ hid L1).set k x:=gJ x (by rw[fT];exact y);obtain⟨K,Y,Be⟩:=r.revive (ap:=L1.set k x) (gG (hid:=hid)) vs.ext vs.still vs.mem (by rw[i];simp[fT]) λg c F=>by grind
 have C:aI5 M ob L w z k x (.returned u) w':=by
  refine⟨M',ob',L1.set k x,u,rfl,D.trans Y,K,?_,by simp;omega,vs.rep,λg V hs R=>?_⟩
  .funext g;by_cases d:g=k
   .subst d;rw[bu rfl];exact gX (Ay y)
   .rw [bt d,<-B];rcases fO L1 g with⟨h1,At⟩|⟨h1,At,As⟩
    .exact gX (by rw[Bf (Gs d)];exact At)
    .rcases fO (L1.set k x) g with⟨h3,_⟩|⟨_,_,Am⟩
     .simp at h3;omega
     .rw [Am,As]
  .have A:g<Z L1:=by have:=(Ad.1 R).1;rw[K.len]at this;simpa using this
   have e:=a g V A;have s:=r.idle e;have d:g≠k:=λAs=>by grind[gH,gX]
   have:=(Be g [] s e).2 rfl (by rw[Bf (Gs d)];exact s);rw[R]at this;cases this;rfl
 rcases vs.run dst pos m gd with G|⟨G,rfl⟩
 .exact .inl ⟨u,w',G,C⟩
 .exact .inr (.inl ⟨w',G,C⟩)
end
noncomputable def mS(E:Env)(tab:a6)(i:Nat)(d:Option Nat)(s:AS):Nat->ab:=if blD E d=O then λ_=>.dead else pM tab i s
def Y(E:Env)(all:bf)(tab:a6)(L0 i:Nat)(p:Oper)(s:AS)(z:aa)(base:Nat)(bs:aw):Prop:=
 L0<=base/\(blD E p.dst=O->bs=[])/\((cF all (evG tab all i s.g) p.guard=X S/\z= .tup []/\bs=[])\/
  (cF all (evG tab all i s.g) p.guard=X O/\iA E.P (mS E tab i p.dst s) base z bs (eop E (gK E p.dst) base (mS E tab i p.dst s) (evG tab all i s.g) p.op p.type)))
def fresh(s:AS)(base:Nat)(bs:aw):Prop:=∀k,inB base (Z bs) k->∀i,¬ s.br i k
def WF(L0:Nat)(s:AS):Prop:=∀k,L0<=k->(∀i,¬ s.br i k)->s.o k= .dead
def nOp(E:Env)(all:bf)(tab:a6)(L0 i:Nat)(p:Oper)(K:AS->Prop)(s:AS):Prop:=
 ∃z base bs,Y E all tab L0 i p s z base bs/\fresh s base bs/\K (s.upd i p.dst z base bs)
section
variable {E:Env} {all:bf} {tab:a6} {L0:Nat}
theorem J8{j i t:Nat}{q:Oper}:∀{l:bf} {n:Nat},l[i]? =X q->q.dst=X t->loose tab (n+i) j=O->SF tab j t n l=O
 |[],n,h,_,_=>by simp at h
 |x::r,n,h,hd,hl=>by
  cases i with
  |zero=>
   simp at h;subst h;rw[Fj]at hl;simp[SF,hd,hl]
  |succ i=>
   have:=J8 (l:=r) (n:=n+1) (i:=i) (q:=q) (by simp_all) hd (by rw[show n+1+i=n+(i+1)from by omega];exact hl);simp[SF,this]
def pZ{i j:Nat}:loose tab i j=O↔i≠j/\cY (dF tab j) i=S/\cY (dF tab i) j=false:=by
 simp only[loose,Af,Db];constructor
 .rintro ⟨⟨h1,a⟩,h3⟩;exact⟨λe=>by simp_all,a,h3⟩
 grind[HH]
def rI{i j:Nat}(h:loose tab i j=O):loose tab j i=true:=by obtain⟨h1,a,h3⟩:=pZ.1 h;exact pZ.2 ⟨Gs h1,h3,a⟩
def N1{i j:Nat}{q:Oper}(a:all[j]? =X q)(hl:loose tab j i=O)(g:Nat->aa)(z:aa):evG tab all i (jZ g q.dst z)=evG tab all i g:=by
 funext x;cases x with
 |tmp t=>
  simp only[evG];cases b:SF tab i t 0 all with
  |true=>rfl
  |false=>
   simp only[cond_false,jZ];rw[bt]
   grind[J8]
 |_=>rfl
def aB7{i j:Nat}(hl:loose tab j i=O){s:AS}(e:WF L0 s){d:Option Nat}{z:aa}{base:Nat}{bs:aw}(l:L0<=base)(f:fresh s base bs):pM tab i (s.upd j d z base bs)=pM tab i s:=by
 obtain⟨_,g,_⟩:=pZ.1 hl;funext k;unfold pM;by_cases a:inB base (Z bs) k
 .have h1:W7 tab i (s.upd j d z base bs).br k:=⟨j,.inr ⟨rfl,a⟩,g⟩
  rw[bu h1];have p:=e k (Cl l a.1) (f k a)
  grind
 .have n:(s.upd j d z base bs).o k=s.o k:=by
   show oP s.o base bs k=s.o k;unfold oP
   grind
  have m:W7 tab i (s.upd j d z base bs).br k↔W7 tab i s.br k:=by
   constructor
   .rintro ⟨c,h|⟨_,h⟩,b⟩
    .exact ⟨c,h,b⟩
    grind
   .rintro ⟨c,h,b⟩;exact⟨c,.inl h,b⟩
  grind
def aNW{i j:Nat}{p q:Oper}(e:all[j]? =X q)(hl:loose tab j i=O){s:AS}(d:WF L0 s){c:aa}{a:Nat}{b:aw}(h:L0<=a)(f:fresh s a b){z:aa}{base:Nat}{bs:aw}:
  Y E all tab L0 i p (s.upd j q.dst c a b) z base bs↔Y E all tab L0 i p s z base bs:=by
 have k:evG tab all i (s.upd j q.dst c a b).g=evG tab all i s.g:=N1 e hl s.g c;have l:mS E tab i p.dst (s.upd j q.dst c a b)=mS E tab i p.dst s:=by unfold mS;rw[aB7 hl d h f]
 unfold Y;rw[k,l]
def WF.upd{i:Nat}{s:AS}(c:WF L0 s){d:Option Nat}{z:aa}{base:Nat}{bs:aw}:WF L0 (s.upd i d z base bs):=λk b a=>by have h1:¬ inB base (Z bs) k:=λh=>a i (.inr ⟨rfl,h⟩);show oP s.o base bs k= .dead;unfold oP;rw[bt h1];exact c k b λe h=>a e (.inl h)
def aD2{s:AS}{i j:Nat}{d e:Option Nat}{z f:aa}{base a:Nat}{bs b:aw}(p:∀t,d=X t->e≠X t)(h:∀k,inB base (Z bs) k->¬ inB a (Z b) k):
  (s.upd i d z base bs).upd j e f a b=(s.upd j e f a b).upd i d z base bs:=by
 have n:jZ (jZ s.g d z) e f=jZ (jZ s.g e f) d z:=by
  funext t;simp only[jZ]
  grind
 have m:oP (oP s.o base bs) a b=oP (oP s.o a b) base bs:=by
  funext k;unfold oP
  grind
 have l:(λc k=>(s.br c k\/(c=i/\inB base (Z bs) k))\/(c=j/\inB a (Z b) k))=λc k=>(s.br c k\/(c=j/\inB a (Z b) k))\/(c=i/\inB base (Z bs) k):=by
  funext c k
  grind
 show AS.mk (jZ (jZ s.g d z) e f) (oP (oP s.o base bs) a b) (λc k=>(s.br c k\/(c=i/\inB base (Z bs) k))\/(c=j/\inB a (Z b) k))=_;rw[n,m,l];rfl
def aK2{i j:Nat}{p q:Oper}(hp:all[i]? =X p)(x:all[j]? =X q)(hl:loose tab i j=O)(v:∀t,p.dst=X t->q.dst≠X t){s:AS}(m:WF L0 s){z:aa}{base:Nat}{bs:aw}
  (o:Y E all tab L0 i p s z base bs) (r:fresh s base bs) {K:AS->Prop} (h:nOp E all tab L0 j q K (s.upd i p.dst z base bs)):
  nOp E all tab L0 j q (λs'=>WF L0 s'/\Y E all tab L0 i p s' z base bs/\fresh s' base bs/\K (s'.upd i p.dst z base bs)) s:=by
 obtain⟨w,a,b,h1,u,h3⟩:=h;have f:=(aNW (p:=q) hp hl m o.1 r).1 h1;have d:fresh s a b:=λk g n c=>u k g n (.inl c);have e:∀k,inB base (Z bs) k->¬ inB a (Z b) k:=λk g l=>u k l i (.inr ⟨rfl,g⟩);refine⟨w,a,b,f,d,m.upd,(aNW (p:=p) x (rI hl) m f.1 d).2 o,λk g n c=>?_,?_⟩
 .rcases c with c|⟨_,c⟩
  .exact r k g n c
  simp_all
 .rw [<-aD2 v e];exact h3
noncomputable def AS.turn(s:AS)(d:Option Nat)(z:aa)(k:Nat)(x:ab):AS:=⟨jZ s.g d z,λa=>if a=k then x else s.o a,s.br⟩
def Yu(E:Env)(all:bf)(tab:a6)(L0 i:Nat)(p:Oper)(s:AS)(z:aa)(base k:Nat)(x:ab):Prop:=
 (L0<=base/\∀i,¬ s.br i base)/\cF all (evG tab all i s.g) p.guard=X O/\pM tab i s k≠ .dead/\MU z k x (eop E (gK E p.dst) base (pM tab i s) (evG tab all i s.g) p.op p.type)
def uOp(E:Env)(all:bf)(tab:a6)(L0 i:Nat)(p:Oper)(K:AS->Prop)(s:AS):Prop:=
 ∃z base k x,Yu E all tab L0 i p s z base k x/\K (s.turn p.dst z k x)
def DC{s:AS}{i base:Nat}{d:Option Nat}{z:aa}:s.upd i d z base []=⟨jZ s.g d z,s.o,s.br⟩:=by
 unfold AS.upd;congr 1
 .funext k;unfold oP;rw[bt λh=>by have h1:=h.1;have a:=h.2;grind]
 .funext i' k;refine propext ⟨λh=>?_,.inl⟩;rcases h with h|⟨_,h⟩
  .exact h
  .have h1:=h.1;have a:=h.2;grind
def aBO{g:Nat->aa}{d a:Option Nat}{z b:aa}(c:∀t,d=X t->a≠X t):jZ (jZ g d z) a b=jZ (jZ g a b) d z:=by
 funext t;simp only[jZ]
 grind
def IR{s:AS}{i base:Nat}{d a:Option Nat}{z b:aa}{k:Nat}{x:ab}(c:∀t,d=X t->a≠X t):(s.upd i d z base []).turn a b k x=(s.turn a b k x).upd i d z base []:=by rw[DC,DC];unfold AS.turn;rw[aBO c]
def WF.turn{i:Nat}{s:AS}(c:WF L0 s){d:Option Nat}{z:aa}{k:Nat}{x:ab}(g:pM tab i s k≠ .dead):WF L0 (s.turn d z k x):=λa h1 f=>by
 have b:a≠k:=λe=>by
  subst e;refine g ?_;unfold pM;split
  .rfl
  .exact c a h1 f
 show(if a=k then x else s.o a)= .dead;rw[bt b];exact c a h1 f
def aIZ{i j:Nat}{p q:Oper}(b:all[j]? =X q)(hl:loose tab j i=O)(e:blD E p.dst=O){s:AS}{a:aa}{k:Nat}{x:ab}{z:aa}{base:Nat}{bs:aw}:
  Y E all tab L0 i p (s.turn q.dst a k x) z base bs↔Y E all tab L0 i p s z base bs:=by
 have c:evG tab all i (s.turn q.dst a k x).g=evG tab all i s.g:=N1 b hl s.g a;have d:mS E tab i p.dst (s.turn q.dst a k x)=mS E tab i p.dst s:=by
  unfold mS
  grind
 unfold Y;rw[c,d]
def aIY{i j:Nat}{p q:Oper}(c:all[j]? =X q)(hl:loose tab j i=O){s:AS}{b:aa}{a:Nat}{z:aa}{base k:Nat}{x:ab}:
  Yu E all tab L0 i p (s.upd j q.dst b a []) z base k x↔Yu E all tab L0 i p s z base k x:=by
 rw[DC];have d:evG tab all i (jZ s.g q.dst b)=evG tab all i s.g:=N1 c hl s.g b;unfold Yu;rw[d];rfl
def aJi{i j:Nat}{p q:Oper}(hp:all[i]? =X p)(r:all[j]? =X q)(hl:loose tab i j=O)(g:blD E p.dst=O)(l:∀t,p.dst=X t->q.dst≠X t){s:AS}(m:WF L0 s){z:aa}{base:Nat}{bs:aw}
  (e:Y E all tab L0 i p s z base bs) (u:fresh s base bs) {K:AS->Prop} (h:uOp E all tab L0 j q K (s.upd i p.dst z base bs)):
  uOp E all tab L0 j q (λs'=>WF L0 s'/\Y E all tab L0 i p s' z base bs/\fresh s' base bs/\K (s'.upd i p.dst z base bs)) s:=by
 obtain rfl:=e.2.1 g;obtain⟨o,c,k,x,h1,n⟩:=h;have d:=(aIY hp hl).1 h1;refine⟨o,c,k,x,d,m.turn d.2.2.1,(aIZ r (rI hl) g).2 e,λk f=>by have a:=f.1;have b:=f.2;simp at b;omega,?_⟩;rw[<-IR l];exact n
def aGx{i j:Nat}{p q:Oper}(hp:all[i]? =X p)(v:all[j]? =X q)(hl:loose tab i j=O)(g:blD E q.dst=O)(m:∀t,p.dst=X t->q.dst≠X t){s:AS}(n:WF L0 s){z:aa}{base k:Nat}{x:ab}
  (l:Yu E all tab L0 i p s z base k x) {K:AS->Prop} (h:nOp E all tab L0 j q K (s.turn p.dst z k x)):
  nOp E all tab L0 j q (λs'=>WF L0 s'/\Yu E all tab L0 i p s' z base k x/\K (s'.turn p.dst z k x)) s:=by
 obtain⟨u,c,o,h1,w,h3⟩:=h;obtain rfl:=h1.2.1 g;have d:=(aIZ hp hl g).1 h1;refine⟨u,c,[],d,λk f=>by have a:=f.1;have b:=f.2;simp at b;omega,n.upd,(aIY v (rI hl)).2 l,?_⟩;rw[IR λt r e=>m t e r];exact h3
def sOp(E:Env)(all:bf)(tab:a6)(L0 i:Nat)(p:Oper)(Kp:(Nat->aa)->aa->aw->Prop)(K:AS->Prop)(s:AS):Prop:=
 ∃ac:aw,aC ac=s.o/\L0<=aS ac/\(∀k,L0<=k->k<aS ac->∃i,s.br i k)/\(∀i k,s.br i k->k<aS ac)/\
  ((cF all (evG tab all i s.g) p.guard=X S/\K (s.upd i p.dst (.tup []) L0 []))\/
    (cF all (evG tab all i s.g) p.guard=X O/\orD E.P O O S ac ac (aS ac) (λv ap=>aS ac<=aS ap->K ⟨jZ s.g p.dst v,aC ap,λa k=>s.br a k\/(a=i/\aS ac<=k/\k<aS ap)⟩) (Kp s.g)
     (eop E (gK E p.dst) (aS ac) (aC ac) (evG tab all i s.g) p.op p.type)))
def aOp(E:Env)(ops:Array Oper)(tab:a6)(L0:Nat)(Kp:(Nat->aa)->aa->aw->Prop)(i:Nat)(K:AS->Prop)(s:AS):Prop:=
 ∃p,ops[i]? =X p/\(((sole tab i 0 ops.toList=O->blD E p.dst=O)/\nOp E ops.toList tab L0 i p K s)\/((I0 E tab i 0 ops.toList=O/\blD E p.dst=S)/\uOp E ops.toList tab L0 i p K s)\/
  ((sole tab i 0 ops.toList=O/\blD E p.dst=S)/\sOp E ops.toList tab L0 i p Kp K s))
def wpA(E:Env)(ops:Array Oper)(tab:a6)(L0:Nat)(Kp:(Nat->aa)->aa->aw->Prop)(Q:AS->Prop):Nat->Array Bool->AS->Prop
 |0,listed,s=>Dy .any ops listed=[]/\Q s
 |fuel+1,listed,s=>(Dy .any ops listed=[]->Q s)/\∀i∈Dy .any ops listed,aOp E ops tab L0 Kp i (wpA E ops tab L0 Kp Q fuel (listed.setIfInBounds i O)) s
end
section
variable {E:Env} {ops:Array Oper} {tab:a6} {L0:Nat} {Kp:(Nat->aa)->aa->aw->Prop} {Q:AS->Prop}
def HR{i:Nat}{K d:AS->Prop}{s:AS}(c:∀s,K s->d s)(h:aOp E ops tab L0 Kp i K s)(f:sole tab i 0 ops.toList=S):aOp E ops tab L0 Kp i d s:=by
 obtain⟨p,h1,⟨a,z,base,bs,h3,b,e⟩|⟨a,z,base,k,x,h3,b⟩|⟨a,_⟩⟩:=h
 .exact ⟨p,h1,.inl ⟨a,z,base,bs,h3,b,c _ e⟩⟩
 .exact ⟨p,h1,.inr (.inl ⟨a,z,base,k,x,h3,c _ b⟩)⟩
 grind
def lM(tab:a6)(a:Array Bool):Prop:=∀j i,a.getD j S=O->cY (dF tab j) i=O->a.getD i S=O
def wY{E:Env}{tab:a6}{j:Nat}:∀{l:bf} {n:Nat},I0 E tab j n l=O->∀(i:Nat) q,l[i]? =X q->loose tab (n+i) j=O->blD E q.dst=O
 |[],_,_,i,q,hi,_=>by simp at hi
 |x::r,n,h,i,q,hi,hl=>by
  simp only[I0,Af,Bool.or_eq_true,Db]at h;cases i with
  |zero=>
   grind
  |succ i=>exact wY h.2 i q (by simp_all) (by grind)
def YU(E:Env)(ops:Array Oper)(tab:a6)(i:Nat)(d:Option Nat):Prop:=∀(a:Array Bool) (j:Nat),lM tab a->i∈Dy .any ops a->j∈Dy .any ops a->j≠i->
   lM tab (a.setIfInBounds j O)/\sole tab j 0 ops.toList=S/\loose tab i j=O/\∀q,ops[j]? =X q->∀t,d=X t->q.dst≠X t
def aHt{i:Nat}{p:Oper}{z:aa}{base:Nat}{bs:aw}(J:ops[i]? =X p)(y:sole tab i 0 ops.toList=O->blD E p.dst=O)(d:YU E ops tab i p.dst):
  ∀(c:Nat) (a:Array Bool) (s:AS),lM tab a->WF L0 s->i∈Dy .any ops a->Y E ops.toList tab L0 i p s z base bs->fresh s base bs->
   wpA E ops tab L0 Kp Q c (a.setIfInBounds i O) (s.upd i p.dst z base bs)->wpA E ops tab L0 Kp Q (c+1) a s:=by
 have k:∀{K:AS->Prop} {s:AS},Y E ops.toList tab L0 i p s z base bs->fresh s base bs->K (s.upd i p.dst z base bs)->aOp E ops tab L0 Kp i K s:=λe g I=>⟨p,J,.inl ⟨y,z,base,bs,e,g,I⟩⟩
 intro c;induction c with
 |zero=>
  intro a s F t f e g H;refine⟨λh=>(by simp_all),λj m=>?_⟩;by_cases b:j=i
  .simp_all
  .have:=ready_mono m b;rw[H.1]at this;cases this
 |succ c C=>
  intro a s F t f e g H;refine⟨λh=>(by rw[h]at f;cases f),λj m=>?_⟩;by_cases b:j=i
  .subst b;exact k e g H
  .have h1:=H.2 j (ready_mono m b);obtain⟨B,r,D,A⟩:=d a j F f m b;obtain⟨q,n,⟨v,G⟩|⟨l,L⟩|⟨hs,_⟩⟩:=h1
   .have:=aK2 q_ q_ D (A q n) t e g G;refine HR (λs' ⟨w,u,x,o⟩=>C (a.setIfInBounds j O) s' B w (ready_mono f (Gs b)) u x ?_) ⟨q,n,.inl ⟨v,this⟩⟩ r;rw[Iw _ _ b];exact o
   .have M:blD E p.dst=true:=wY l.1 i p q_ q_;have:=aJi q_ q_ D M (A q n) t e g L;refine HR (λs' ⟨w,u,x,o⟩=>C (a.setIfInBounds j O) s' B w (ready_mono f (Gs b)) u x ?_) ⟨q,n,.inr (.inl ⟨l,this⟩)⟩ r;rw[Iw _ _ b];exact o
   .rw [r]at hs;cases hs.1
def aPX{i:Nat}{p:Oper}{z:aa}{base k:Nat}{x:ab}(F:ops[i]? =X p)(l:I0 E tab i 0 ops.toList=O/\blD E p.dst=S)(d:YU E ops tab i p.dst):
  ∀(b:Nat) (a:Array Bool) (s:AS),lM tab a->WF L0 s->i∈Dy .any ops a->Yu E ops.toList tab L0 i p s z base k x->
   wpA E ops tab L0 Kp Q b (a.setIfInBounds i O) (s.turn p.dst z k x)->wpA E ops tab L0 Kp Q (b+1) a s:=by
 have v:∀{K:AS->Prop} {s:AS},Yu E ops.toList tab L0 i p s z base k x->K (s.turn p.dst z k x)->aOp E ops tab L0 Kp i K s:=λm D=>⟨p,F,.inr (.inl ⟨l,z,base,k,x,m,D⟩)⟩
 intro b;induction b with
 |zero=>
  intro a s y u o m H;refine⟨λh=>(by simp_all),λj n=>?_⟩;by_cases c:j=i
  .simp_all
  .have:=ready_mono n c;rw[H.1]at this;cases this
 |succ b I=>
  intro a s y u o m H;refine⟨λh=>(by simp_all),λj n=>?_⟩;by_cases c:j=i
  .subst c;simp_all
  .have h1:=H.2 j (ready_mono n c);obtain⟨B,t,w,A⟩:=d a j y o n c;have e:∀q,ops[j]? =X q->blD E q.dst=true:=λq f=>wY l.1 j q q_ (by rw[Bv];exact rI w);obtain⟨q,f,⟨r,C⟩|⟨g,M⟩|⟨hs,_⟩⟩:=h1
   .have:=aGx q_ q_ w (e q f) (A q f) u m C;refine HR (λs' ⟨J,G,L⟩=>I (a.setIfInBounds j O) s' B J (ready_mono o (Gs c)) G ?_) ⟨q,f,.inl ⟨r,this⟩⟩ t;rw[Iw _ _ c];exact L
   .rw [e q f]at g;cases g.2
   .rw [t]at hs;cases hs.1
end
def kK(fr:au)(ac:aw)(br:List (Nat×Nat)):AS:=⟨aX fr,aC ac,λi k=>(i,k)∈br⟩
def fH(fr:au)(d:Option Nat)(v:aa):aX (lC fr d v)=jZ (aX fr) d v:=by
 funext t;cases d with
 |none=>rfl
 |some d=>
  simp only[lC,jZ,vO,Fa]
  grind
def aCH(ks:a6)(ac:aw)(k:Nat):aC (sK ks ac) k=if k∈ks then .dead else aC ac k:=by
 induction ks generalizing ac with
 |nil=>simp[sK]
 |cons x r a=>
  simp only[sK,a,vD,Ba]
  grind
def zJ{tab:a6}{j k:Nat}:∀{br:List (Nat×Nat)},k∈H9 tab j br↔ ∃i,(i,k)∈br/\cY (dF tab j) i=S
 |[]=>by simp[H9]
 |(i,k')::r=>by
  simp only[H9];cases h:cY (dF tab j) i with
  |true=>
   simp only[cond_true,zJ (br:=r),Ba,Prod.mk.injEq]
   grind
  |false=>
   simp only[cond_false,Ba,zJ (br:=r),Prod.mk.injEq]
   grind
def aJR(tab:a6)(j:Nat)(fr:au)(ac:aw)(br:List (Nat×Nat)):aC (sK (H9 tab j br) ac)=pM tab j (kK fr ac br):=by
 funext k;rw[aCH];unfold pM;have:k∈H9 tab j br↔W7 tab j (kK fr ac br).br k:=zJ;by_cases h:k∈H9 tab j br
 .grind
 .rw [bt h,bt λe=>h (this.2 e)];rfl
def T8(bs:aw):∀(ac:aw),C7 ac (Z ac) bs=ac++bs:=by
 induction bs with
 |nil=>intro ac;simp[C7]
 |cons x r a=>
  intro ac;simp only[C7,Q9];have:=a (ac++[x])
  grind
theorem tO(n:Nat):∀(l:aw),iT n l=l.drop n:=by
 induction n with
 |zero=>intro l;rfl
 |succ n a=>intro l;cases l with
  |nil=>rfl
  |cons x r=>simp[iT,a]
def qL{j i k:Nat}:∀{l:aw} {base:Nat} {br:List (Nat×Nat)},(i,k)∈born j base l br↔(i,k)∈br\/(i=j/\inB base (Z l) k)
 |[],base,br=>by simp[born,inB];omega
 |x::r,base,br=>by
  have a:=qL (j:=j) (i:=i) (k:=k) (l:=r) (base:=base+1) (br:=br);have e:born j base (x::r) br=(j,base)::born j (base+1) r br:=rfl;have hm:(i,k)∈(j,base)::born j (base+1) r br↔((i=j/\k=base)\/(i,k)∈br)\/(i=j/\inB (base+1) (Z r) k):=by grind
  rw[e,hm];unfold inB;rw[Al];constructor
  .grind
  grind
theorem xU{rest:bf}{n:Nat}{d:Option Nat}{fr:au}{v:aa}{k:au->Prop}(h:wrP rest n d fr v k):k (lC fr d v):=by
 unfold wrP at h;cases d with
 |none=>exact h
 |some d=>
  dsimp only at h;cases a:rK n rest with
  |false=>rw[a]at h;exact h
  |true=>
   rw[a]at h;simp only[cond_true]at h;split at h
   .rename_i b;cases b with
    |true=>exact h.1 rfl
    |false=>exact h.2 rfl
   grind
def aIX(fr:au)(ac:aw)(br:List (Nat×Nat))(n:Nat)(d:Option Nat)(z:aa)(bs:aw):
  kK (lC fr d z) (C7 ac (aS ac) bs) (born n (aS ac) (iT (aS ac) (C7 ac (aS ac) bs)) br)=(kK fr ac br).upd n d z (aS ac) bs:=by
 rw[bX,T8,tO,List.drop_left];unfold kK AS.upd;rw[fH];congr 1
 .funext k;show _=oP (aC ac) (Z ac) bs k;unfold oP;by_cases h:inB (Z ac) (Z bs) k
  .rw [bu h];have a:k-Z ac<Z bs:=by have:=h.1;have:=h.2;omega
   refine gX ?_;rw[Ar h.1,Ha,Ab a];rfl
  .rw [bt h];by_cases f:k<Z ac
   .grind [fO,gX,Ai]
   .have c:Z ac+Z bs<=k:=by refine Nat.le_of_not_lt λb=>h ⟨by omega,b⟩
    rcases fO (ac++bs) k with⟨h1,_⟩|⟨_,_,e⟩
    .grind
    grind[fO]
 .funext i k;exact propext qL
structure LI(L0 n:Nat)(ac:aw)(br:List (Nat×Nat)):Prop where
 low:L0<=aS ac
 all:∀k,L0<=k->k<aS ac->∃i,(i,k)∈br
 lt:∀i k,(i,k)∈br->k<aS ac/\i<n
def LI.wf{L0 n:Nat}{ac:aw}{br:List (Nat×Nat)}(h:LI L0 n ac br)(fr:au):WF L0 (kK fr ac br):=λk b a=>by
 rcases fO ac k with⟨h1,_⟩|⟨_,_,e⟩
 .obtain ⟨i,c⟩:=h.all k b (by rw[bX];exact h1);exact bv c (a i)
 .exact e
def LI.put{L0 n:Nat}{ac:aw}{br:List (Nat×Nat)}(h:LI L0 n ac br){ap:aw}(hl:aS ac<=aS ap):LI L0 (n+1) ap (born n (aS ac) (iT (aS ac) ap) br):=by
 have f:Z (iT (aS ac) ap)=aS ap-aS ac:=by rw[tO,Dq,bX ap]
 refine⟨Cl h.low hl,λk h1 d=>?_,λi k c=>?_⟩
 .by_cases c:k<aS ac
  .obtain ⟨i,e⟩:=h.all k h1 c;exact⟨i,qL.2 (.inl e)⟩
  .exact ⟨n,qL.2 (.inr ⟨rfl,by omega,by omega⟩)⟩
 .rcases qL.1 c with c|⟨rfl,h1,d⟩
  .obtain ⟨a,b⟩:=h.lt i k c;omega
  omega
def CallG.mono{P:Program}{f:Fn}{args:az}{ac:aw}{K c Kp:aa->aw->Prop}(d:∀v o,K v o->c v o)(h:CallG P f args ac K Kp):CallG P f args ac c Kp:=by
 cases h with
 |pure r new h k=>exact .pure r new h (d _ _ k)
 |eff b ks r ap a h k=>exact .eff b ks r ap a h (d _ _ k)
 |effp b ks r ap a h k=>exact .effp b ks r ap a h k
 |pan r h k=>exact .pan r h k
def tN{P:Program}{j q bl:Bool}{g ac:aw}{base:Nat}{K m Kp:aa->aw->Prop}(e:∀v o,K v o->m v o):∀{r:OR},orD P j q bl g ac base K Kp r->orD P j q bl g ac base m Kp r
 |.no,k=>k.elim
 |.val v,k=>e _ _ k
 |.mkf fn fs cs,k=>e _ _ k
 |.need p r,k=>⟨k.1,tN e k.2⟩
 |.alt p v w,k=>k.imp (λh=>⟨h.1,e _ _ h.2⟩) (e _ _)
 |.idx n f,⟨i,hi,k⟩=>⟨i,hi,tN e k⟩
 |.elem xs i f,⟨x,hx,k⟩=>⟨x,hx,tN e k⟩
 |.byte l i,⟨c,hc,k⟩=>⟨c,hc,e _ _ k⟩
 |.text xs,⟨l,hl,hm,k⟩=>⟨l,hl,hm,e _ _ k⟩
 |.find es key f,⟨o,ho,k⟩=>⟨o,ho,tN e k⟩
 |.born x v,k=>by cases bl with
  |true=>exact k.elim
  |false=>exact e _ _ k
 |.upd i x v,k=>by
  simp only[orD]at k⊢
  grind
 |.nilq xs neg,k=>by cases j with
  |true=>exact λb t=>e _ _ (k b t)
  |false=>exact k.elim
 |.call f args,k=>by
  cases bl with
  |true=>exact k.elim
  |false=>
   have k:CallD P f args j g base ac K Kp:=k;show CallD P f args j g base ac m Kp;cases k with
   |pure r new h k=>exact .pure r new h (e _ _ k)
   |sole h1 s=>exact .sole h1 (s.mono e)
   |look ks r o a l b c d k=>exact .look ks r o a l b c d (e _ _ k)
 |.pan v,k=>by cases j with
  |true=>exact k
  |false=>exact k.elim
def FJ{P:Program}{b bl:Bool}{a ac:aw}{base:Nat}{K Kp:aa->aw->Prop}:∀{r:OR},orD P O b bl a ac base K Kp r->orD P O O bl a ac base K Kp r
 |.no,k=>k
 |.val v,k=>k
 |.mkf fn fs cs,k=>k
 |.need p r,k=>⟨k.1,FJ k.2⟩
 |.alt p v w,k=>k
 |.idx n f,⟨i,hi,k⟩=>⟨i,hi,FJ k⟩
 |.elem xs i f,⟨x,hx,k⟩=>⟨x,hx,FJ k⟩
 |.byte l i,k=>k
 |.text xs,k=>k
 |.find es key f,⟨o,ho,k⟩=>⟨o,ho,FJ k⟩
 |.born x v,k=>k
 |.upd i x v,k=>k
 |.nilq xs neg,k=>k
 |.call f args,k=>k
 |.pan v,k=>k
def aDP(fr:au)(ac:aw)(br:List (Nat×Nat))(n:Nat)(d:Option Nat)(z:aa)(k:Nat)(x:ab)(a:k<aS ac):
  kK (lC fr d z) (bQ ac k x) (born n (aS ac) (iT (aS ac) (bQ ac k x)) br)=(kK fr ac br).turn d z k x:=by
 have hl:Z (bQ ac k x)=Z ac:=by rw[gJ _ (by rwa [bX]at a)];simp
 have e:iT (aS ac) (bQ ac k x)=[]:=by rw[tO,bX,<-hl];simp
 rw[e];unfold kK AS.turn;rw[fH];congr 1;funext k';exact vD ac k k' x
structure TabSp(ops:Array Oper)(tab:a6):Prop where
 back:∀(j:Nat) p,ops[j]? =X p->∀e∈p.after,Js .any e=O->e.on<j
 less:∀i j,cY (dF tab i) j=O->j<i
 step:∀(j:Nat) p,ops[j]? =X p->∀i,cY (dF tab j) i=O->∃e∈p.after,Js .any e=O/\(e.on=i\/cY (dF tab e.on) i=O)
 out:∀j i,cY (dF tab j) i=O->j<ops.size
 dst:∀(i j:Nat) p q,ops[i]? =X p->ops[j]? =X q->loose tab i j=O->∀t,p.dst=X t->q.dst≠X t
def uR{tab:a6}{j:Nat}:∀{l:bf} {n:Nat},sole tab j n l=O->∀i,i<Z l->loose tab (n+i) j=S
 |[],_,_,i,hi=>by simp at hi
 |x::r,n,h,i,hi=>by
  simp only[sole,Af,Db]at h;cases i with
  |zero=>exact h.1
  |succ i=>
   have:=uR h.2 i (by grind)
   grind
section
variable {E:Env} {ops:Array Oper} {tab:a6} {L0:Nat} {Kp:(Nat->aa)->aa->aw->Prop} {Kq:au->aw->Prop}
def lM.step(o:TabSp ops tab){a:Array Bool}(k:lM tab a){j:Nat}(n:j∈Dy .any ops a):lM tab (a.setIfInBounds j O)/\∀i,cY (dF tab j) i=O->a.getD i S=true:=by
 obtain⟨_,p,hp,b⟩:=mem_ready.1 n;have key:∀i,cY (dF tab j) i=O->a.getD i S=true:=λi m=>by
  obtain⟨e,l,g,h|h⟩:=o.step j p hp i m
  .subst h;exact b e l g
  .exact k e.on i (b e l g) h
 refine⟨λd i h1 f=>getD_set_true ?_,key⟩;by_cases c:j=d
 .subst c;exact key i f
 .rw [getD_set_ne S c]at h1;exact k d i h1 f
def tG(g:TabSp ops tab){a:Array Bool}(l:lM tab a){i j:Nat}(e:i∈Dy .any ops a)(d:j∈Dy .any ops a)(c:i≠j):loose tab i j=true:=by
 have f:∀{k:Nat},k∈Dy .any ops a->a.getD k S=O->False:=λ{k} hk h=>by grind[mem_ready,Cm]
 refine pZ.2 ⟨c,?_,?_⟩
 .cases b:cY (dF tab j) i with
  |false=>rfl
  |true=>exact(f e ((l.step g d).2 i b)).elim
 .cases b:cY (dF tab i) j with
  |false=>rfl
  |true=>exact(f d ((l.step g e).2 j b)).elim
def Qf(L0:Nat)(Kq:au->aw->Prop)(s:AS):Prop:=∃fr ac br n,s=kK fr ac br/\LI L0 n ac br/\Kq fr ac
def aLh(F:TabSp ops tab):∀(l:bf) (n:Nat) (a:Array Bool) (br:List (Nat×Nat)) (fr:au) (ac:aw),
  l=ops.toList.drop n->(∀j,j<ops.size->a[j]? =X (decide (j<n)))->a.size=ops.size->LI L0 n ac br->jM E ops.toList tab Kq Kp n l br fr ac->
  wpA E ops tab L0 Kp (Qf L0 Kq) (Z l) a (kK fr ac br)
 |[],n,a,br,fr,ac,hl,hlist,hsz,hI,h=>by
  refine⟨?_,fr,ac,br,n,rfl,hI,h⟩;have K:ops.size<=n:=by simp_all
  refine Ki.2 λj J=>?_;obtain⟨h0,q,H,_⟩:=mem_ready.1 J;have D:=(Fe.1 H).1;rw[Cm,hlist j D]at h0;simp at h0;omega
 |p::l,n,a,br,fr,ac,hl,hlist,hsz,hI,h=>by
  have t:ops[n]? =X p:=by
   have:(ops.toList.drop n)[0]? =X p:=by grind
   simpa using this
  have Be:n<ops.size:=(Fe.1 t).1;have M:l=ops.toList.drop (n+1):=by rw[<-List.drop_drop,<-hl];rfl
  have D:∀j,a.getD j S=O↔j<n:=by
   intro j;rw[Cm]
   grind[Array.getElem?_eq_none]
  have f:lM tab a:=λj i h1 A=>(D i).2 (Nat.lt_trans (F.less j i A) ((D j).1 h1));have c:n∈Dy .any ops a:=by refine mem_ready.2 ⟨?_,p,t,λe he N=>(D _).2 (F.back n p t e he N)⟩;rw[Cm,hlist n Be];simp
  have r:∀j,j<ops.size->(a.setIfInBounds n O)[j]? =X (decide (j<n+1)):=by
   intro j J;by_cases hjk:n=j
   .grind [Array.getElem?_setIfInBounds_self_of_lt]
   .rw [Array.getElem?_setIfInBounds_ne hjk,hlist j J];simp;omega
  have C:(a.setIfInBounds n O).size=ops.size:=by simp;omega
  have hw:=hI.wf fr;have L:∀{bs:aw},fresh (kK fr ac br) (aS ac) bs:=λ{bs} k K i N=>by have:=(hI.lt i k N).1;have:=K.1;omega
  have ahead:∀{i:Nat},i<ops.size->i∈Dy .any ops a->i≠n->loose tab n i=true:=λ_ hi B=>tG F f c hi (Gs B);simp only[jM]at h;rw[aP5]at h
  have on:∀{z:aa} {bs:aw},jM E ops.toList tab Kq Kp (n+1) l (born n (aS ac) (iT (aS ac) (C7 ac (aS ac) bs)) br) (lC fr p.dst z) (C7 ac (aS ac) bs)->
    wpA E ops tab L0 Kp (Qf L0 Kq) (Z l) (a.setIfInBounds n O) ((kK fr ac br).upd n p.dst z (aS ac) bs):=λ{z bs} V=>by
   rw[<-aIX];refine aLh F l (n+1) _ _ _ _ M r C (hI.put ?_) V;rw[bX,bX,T8];simp
  have W:C7 ac (aS ac) []=ac:=rfl;have brn:born n (aS ac) (iT (aS ac) ac) br=br:=by
   have:iT (aS ac) ac=[]:=by rw[tO,bX];simp
   rw[this];rfl
  have skip:jM E ops.toList tab Kq Kp (n+1) l br (lC fr p.dst (.tup [])) ac->wpA E ops tab L0 Kp (Qf L0 Kq) (Z l) (a.setIfInBounds n O) ((kK fr ac br).upd n p.dst (.tup []) (aS ac) []):=λV=>on (by rw[W,brn];exact V);have oth:(∀j,ops[j]?≠U->loose tab n j=O->sole tab j 0 ops.toList=S)->YU E ops tab n p.dst:=λh Am j T hi' Q B=>by have d:=tG F T hi' Q (Gs B);obtain⟨_,q,H,_⟩:=mem_ready.1 Q;exact⟨(T.step F Q).1,h j (by rw[H];simp) d,d,λq H=>F.dst n j p q t H d⟩
  have I:∀j,ops[j]?≠U->loose tab n j=O->sole tab j 0 ops.toList=false:=λj J d=>by
   cases H:sole tab j 0 ops.toList with
   |false=>rfl
   |true=>
    have:=uR H n o_;rw[Bv,d]at this;cases this
  have s:=oth I
  have onU:∀{z:aa} {k:Nat} {x:ab},k<aS ac->jM E ops.toList tab Kq Kp (n+1) l (born n (aS ac) (iT (aS ac) (bQ ac k x)) br) (lC fr p.dst z) (bQ ac k x)->
    wpA E ops tab L0 Kp (Qf L0 Kq) (Z l) (a.setIfInBounds n O) ((kK fr ac br).turn p.dst z k x):=λ{z k x} K V=>by
   rw[<-aDP fr ac br n p.dst z k x K];refine aLh F l (n+1) _ _ _ _ M r C (hI.put ?_) V
   grind[bX,gJ]
  have G:(sole tab n 0 ops.toList=O->blD E p.dst=O)->(cF ops.toList (evG tab ops.toList n (aX fr)) p.guard=X O->
    orD E.P S (uoN E tab ops.toList n p.dst) (blD E p.dst) (rX E tab n br ac p.dst) ac (aS ac) (λv ap=>wrP l n p.dst fr v λfr=>jM E ops.toList tab Kq Kp (n+1) l (born n (aS ac) (iT (aS ac) ap) br) fr ap) (Kp (aX fr))
     (eop E (gK E p.dst) (aS ac) (aC (rX E tab n br ac p.dst)) (evG tab ops.toList n (aX fr)) p.op p.type))->
    (cF ops.toList (evG tab ops.toList n (aX fr)) p.guard=X S->jM E ops.toList tab Kq Kp (n+1) l br (lC fr p.dst (.tup [])) ac)->
    cF ops.toList (evG tab ops.toList n (aX fr)) p.guard≠U->wpA E ops tab L0 Kp (Qf L0 Kq) (Z l+1) a (kK fr ac br):=λAt h1 A h3=>by
   have w:aC (rX E tab n br ac p.dst)=mS E tab n p.dst (kK fr ac br):=by
    unfold rX mS;cases o:blD E p.dst with
    |true=>rfl
    |false=>simp only[cond_false];rw[bt s_];exact aJR tab n fr ac br
   cases m:cF ops.toList (evG tab ops.toList n (aX fr)) p.guard with
   |none=>simp_all
   |some b=>
    cases b with
    |false=>exact aHt t At s (Z l) a _ f hw c (z:=.tup []) (base:=aS ac) (bs:=[]) ⟨hI.low,λ_=>rfl,.inl ⟨m,rfl,rfl⟩⟩ L (skip (A m))
    |true=>
     have h:=h1 m;rcases tM h with⟨z,bs,q0,R,q2⟩|⟨z,k,x,q0,R,q2,q3⟩
     .rw [w]at R;exact aHt t At s (Z l) a _ f hw c ⟨hI.low,q0,.inr ⟨m,R⟩⟩ L (on (xU q2))
     .obtain ⟨u1,u2⟩:=aZ q0;have o:blD E p.dst=false:=by simpa using u2
      have e:mS E tab n p.dst (kK fr ac br)=pM tab n (kK fr ac br):=by unfold mS;rw[o,bt s_]
      rw[w,e]at R q2;have hkl:k<aS ac:=by
              refine Nat.lt_of_not_le λhge=>R ?_;unfold pM;split
              .rfl
              .rcases fO ac k with⟨h1,_⟩|⟨_,_,e⟩
               .rw [bX]at hge;omega
               .exact e
      exact aPX t ⟨u1,o⟩ s (Z l) a _ f hw c ⟨⟨hI.low,λi N=>by have:=(hI.lt i _ N).1;omega⟩,m,R,q2⟩ (onU hkl (xU q3))
  have An:cF ops.toList (evG tab ops.toList n (aX fr)) p.guard≠none:=λe=>by simp_all
  have u:cF ops.toList (evG tab ops.toList n (aX fr)) p.guard=X S->jM E ops.toList tab Kq Kp (n+1) l br (lC fr p.dst (.tup [])) ac:=λe=>by rw[e]at h;exact h
  cases o:blD E p.dst with
  |true=>
   refine G (λ_=>o) (λe=>?_) u An;rw[e]at h;have:soN E tab ops.toList n p.dst=false:=by simp[soN,o]
   rw[this]at h;exact h
  |false=>
  cases y:sole tab n 0 ops.toList with
  |false=>
   refine G (λe=>by rw[y]at e;cases e) (λe=>?_) u An;rw[e]at h;have:soN E tab ops.toList n p.dst=false:=by simp[soN,y]
   rw[this]at h;exact h
  |true=>
   have hone:∀j,j∈Dy .any ops a->j=n:=λj J=>by refine Decidable.byContradiction λB=>?_;have d:=tG F f J c B;obtain⟨_,q,H,_⟩:=mem_ready.1 J;have hjlt:=(Fe.1 H).1;have:=uR y j o_;rw[Bv,d]at this;cases this
   have Y:H9 tab n br=[]:=by
    refine Ki.2 λk K=>?_;obtain⟨i,h1,A⟩:=zJ.1 K;have hin:=(hI.lt i k h1).2;have:=uR y i q_;rw[Bv]at this
    have hl2:loose tab i n=true:=pZ.2 ⟨by omega,A,by
     cases H:cY (dF tab i) n with
     |false=>rfl
     |true=>have:=F.less i n H;omega⟩
    rw[hl2]at this;cases this
   have As:rX E tab n br ac p.dst=ac:=by unfold rX;rw[o,Y];rfl
   have hson:soN E tab ops.toList n p.dst=true:=by simp[soN,y,o]
   rw[As,hson,o]at h;refine⟨λh=>(by rw[h]at c;cases c),λj J=>?_⟩;obtain rfl:=hone j J;refine⟨p,t,.inr (.inr ⟨⟨y,o⟩,ac,rfl,hI.low,λk h1 A=>hI.all k h1 A,λi k N=>(hI.lt i k N).1,?_⟩)⟩;cases m:cF ops.toList (evG tab ops.toList j (aX fr)) p.guard with
   |none=>rw[m]at h;exact h.elim
   |some b=>
    rw[m]at h;cases b with
    |false=>
     refine .inl ⟨m,?_⟩;have e:(kK fr ac br).upd j p.dst (.tup []) L0 []=(kK fr ac br).upd j p.dst (.tup []) (aS ac) []:=by
      unfold AS.upd;congr 1
      .funext k;unfold oP;rw[bt λh=>by have h1:=h.1;have A:=h.2;simp at A;omega,bt λh=>by have h1:=h.1;have A:=h.2;simp at A;omega]
      .funext i k;refine propext (or_congr Iff.rfl ⟨λh=>?_,λh=>?_⟩)<;>(have h1:=h.2.1;have A:=h.2.2;simp at A;omega)
     rw[e];exact skip h
    |true=>
     dsimp only at h;refine .inr ⟨m,tN (λv ap K hle=>?_) (FJ h)⟩;have hk2:=xU K;have:=aLh F l (j+1) _ _ _ _ M r C (hI.put hle) hk2;have e:kK (lC fr p.dst v) ap (born j (aS ac) (iT (aS ac) ap) br)=⟨jZ (kK fr ac br).g p.dst v,aC ap,λi' k=>(kK fr ac br).br i' k\/(i'=j/\aS ac<=k/\k<aS ap)⟩:=by
      unfold kK;rw[fH];congr 1;funext i k;refine propext (qL.trans (or_congr Iff.rfl (and_congr Iff.rfl ?_)));unfold inB
      grind[tO,Dq,bX]
     rw[<-e];exact this
end
end Go.AW
