/- Part 2 of what the statement rests on. -/
import Derived.Lib.ConvBytes
import Derived.MapKept
import Derived.WalkSmall
import Derived.Carry
import Derived.Orders
import Derived.Test.YtenkdioaefckoaaGreatDoorWA
set_option linter.all false
open List renaming length->Z
open Bool renaming true->O,false->U
open Option renaming some->X,none->D
open Array renaming ext'->Ej,getD_eq_getD_getElem?->Bh,getElem?_eq_some_iff->Ei,range->Nt,setIfInBounds_comm->Jg,toList_map->Kj
open Bool renaming and_eq_true->Af,false_eq_true->Dc,not_eq_true'->Dj
open Go.Builtin renaming append_->Cv,clear_->Kb,copy_->Kt,delete_->Ld,firstCells->Cn,len_->Fx,zeroCells->Cl
open Go.Instr renaming alloc->Nv,buildSlice->Kl,checkKey->Ic,field->Ni,fieldAt->Ma,findAsking->Km,findKey->Mc,findNow->Mb,index->Ly,indexAt->Il,loadAt->Mq,lookup->Mr,mapUpdate->Lc,sameBits->Kc,slice->Lz,sliceAt->Hd,sliceBound->Kk,sliceBounds->Gs,storeAt->Ks,sureAddr->Iw,typeAssert->Kn
open Go.Region renaming binds->Ka,ready->Ea
open Go.Result renaming andThen->Ez,andThen_ok->Ar
open Go.Sem renaming run_bind->Bd,run_pure->Cb
open Go.Value renaming iface->Nj,int->Eu,ownBlock->Gn,slice->Hc
open Go.World renaming block_lt_of_cell?->Cx,cell?_of_block->Cw,ownsRow_nil->Hv
open Int renaming le_refl->Em,toNat_natCast->Bo
open List renaming append_nil->Ao,eq_nil_iff_forall_not_mem->Ie,eq_nil_of_length_eq_zero->Ay,ext_getElem?->Fe,foldl_cons->Ap,getD_eq_getElem?_getD->Fk,getElem?_append_left->Ai,getElem?_append_right->Au,getElem?_cons_zero->Ml,getElem?_drop->Dm,getElem?_eq_getElem->Ab,getElem?_eq_none->Bp,getElem?_eq_some_iff->Ad,getElem?_map->Cd,getElem?_of_mem->Ck,getElem?_set_ne->Bg,getElem?_set_self->Ba,getElem?_take->Lm,getElem?_take_of_lt->Bm,length_append->Ah,length_cons->Al,length_drop->Dt,length_map->Bw,length_nil->Bj,length_replicate->Gj,map_cons->Bf,mem_cons->Az,mem_of_getElem?->Ax,mem_of_mem_drop->Fl,mem_of_mem_take->Db,mem_replicate->Jn,prefix_refl->Ct,range->Dh,replicate->Ak,take_length->Gk,take_of_length_le->Bl,take_zero->Iv
open Nat renaming add_assoc->Kr,add_mul->Ch,add_sub_cancel_left->Jr,add_zero->Ft,beq->Av,ble->Gc,div_add_mod->Ge,le_of_ble_eq_true->Co,le_refl->Bc,le_trans->Cp,min_eq_left->Gw,mod_lt->Eh,mul_comm->De,mul_le_mul_right->Bu,one_mul->Hu,zero_add->Bv,zero_le->Bq,zero_mul->Mn
open Ne renaming symm->Gq
open Option renaming isSome_iff_exists->Df,isSome_none->Jm,map_eq_some_iff->Cg,none->Nu
open Option.some renaming injEq->Ff
namespace Go.AW
open Go.RowKit
section
variable {P:Program} {E:Env} {M:Imm} {ob:Hs} {ac:aw} {w:World} {base:Nat}
def aZ{s:Sem Value}{v:aa}{u:Value}(h:s.run P w= .ok u w)(a:Rep M ob u v):PS0 P M ob w s ac base (.val v):=⟨rfl,u,h,a⟩
def aN2{b o:Nat}(l:az)(h:∀(i:Nat) c,l[i]? =X c->∃u,w.cell? ⟨b,o+i,D⟩=X u/\Rep M ob u c):
  ∃vs:bb,Z vs=Z l/\(∀(j:Nat) u,vs[j]? =X u->w.cell? ⟨b,o+j,D⟩=X u)/\∀(i:Nat) v a,vs[i]? =X v->l[i]? =X a->Rep M ob v a:=by
 refine⟨(Dh (Z l)).map λq=>(w.cell? ⟨b,o+q,D⟩).getD undef,by simp,λj u d=>?_,λi v a k g=>?_⟩
 .simp only[Cd]at d;by_cases f:j<Z l
  .obtain ⟨m,e,_⟩:=h j _ (Ab f);simp_all
  grind
 grind[Ad]
def D3{t:Nat}{a:TI}(h:zZ P t a.agg a.size a.kind)(hs:(P.info? t).map (·.size)=X a.size){b o:Nat}{vs:bb}(hl:Z vs=a.size)
  (g:∀(j:Nat) u,vs[j]? =X u->w.cell? ⟨b,o+j,D⟩=X u) (u:Value) (k:a.agg=O->u= .agg vs.toArray) (e:a.agg=U->vs=[u]):
  (loadVar t ⟨b,o,D⟩).run P w= .ok u w:=by
 obtain⟨h1,i⟩:=h.isAgg;unfold loadVar;simp only[Bd,CL h1,Ar,i];cases f:a.agg with
 | true=>
  have c:=run_loadCells_list (P:=P) w ⟨b,o,D⟩ vs (λj v d=>by rw[bK];exact g j v d);rw[hl]at c;simp only[if_true,Bd,af hs,Ar,c,Cb,k f]
 | false=>
  have d:=e f;have:=g 0 u (by rw[d];rfl);rw[Ft]at this;simp only[Dc,if_false,run_load,this]
def aMh{b:TI}{l:az}{a:aa}(h:mk b l=X a):(b.agg=O/\a= .agg l)\/(b.agg=U/\l=[a]):=by
 unfold mk at h
 grind
def UJ{t:Nat}{j:TI}(d:TIOK P t j){b o:Nat}{l:az}{a:aa}(k:mk j l=X a)(hl:Z l=j.size)
  (h:∀(i:Nat) c,l[i]? =X c->∃u,w.cell? ⟨b,o+i,D⟩=X u/\Rep M ob u c):∃u,(loadVar t ⟨b,o,D⟩).run P w= .ok u w/\Rep M ob u a:=by
 obtain⟨vs,e,g,f⟩:=aN2 l h;rcases aMh k with⟨m,rfl⟩|⟨m,rfl⟩
 .exact ⟨.agg vs.toArray,D3 d.kind d.size? (e.trans hl) g _ (λ_=>rfl) (λh=>by grind),.agg vs l e f⟩
 .match vs,e with
  | [u],_=>exact⟨u,D3 d.kind d.size? o_ g u (λh=>by grind) (λ_=>rfl),f 0 u a rfl rfl⟩
def aB7{t:Nat}{d:TI}(e:TIOK P t d){b o off:Nat}{cs:az}
  (h:∀(i:Nat) c,cs[off+i]? =X c->∃u,w.cell? ⟨b,o+i,D⟩=X u/\Rep M ob u c):PS0 P M ob w (Mq t (.pointer (X ⟨b,o,D⟩))) ac base (fin d (oS d.size (mR off cs))):=by
 unfold fin;split
 .exact trivial
 .rename_i l hl;split
  .exact trivial
  .rename_i a f;obtain⟨h1,k⟩:=lE hl;obtain⟨u,m,g⟩:=UJ e f h1 (b:=b) (o:=o) (M:=M) (ob:=ob) (w:=w) λi c j=>by grind[oX]
   refine aZ (u:=u) ?_ g;unfold Mq Iw
   grind
def eT.cell{v:Value}{d:Nat}{e:TypeId}{xs:az}(h:eT M w v d e xs){b:Nat}{n c:Nat}(m:v= .slice (X ⟨b,0,D⟩) n c){i j:Nat}{x a:aa}(f:xs[i]? =X x)(g:x.cells[j]? =X a):
  ∃u,w.cell? ⟨b,i*d+j,D⟩=X u/\Rep M [] u a:=by
 obtain⟨cv,h1,_,h3,l,_⟩:=h;obtain⟨u,o,k⟩:=l _ a (NZ f g (h3 x (Ax f)));exact⟨u,gG h1 (by rw[m];rfl) o,k⟩
def cS{k:Nat}{x:ab}(h:aE ac k=x)(a:x≠ .dead):ac[k]? =X x:=bO h a
def aCt(hE:ae E)(hm:Mem M ob ac w){t:Nat}{v:Value}{a:aa}(z:Rep M ob v a):PS0 E.P M ob w (Mq t v) ac base (aCu E (aE ac) t a):=by
 unfold aCu;split
 .exact trivial
 .rename_i C N;have h:=hE.tab t C N;split
  .rename_i cs;obtain⟨b,o,rfl,I⟩:=z.ptr_inv;refine aB7 (off:=0) (cs:=cs) h λi c m=>?_;rw[Bv]at m;obtain⟨u,s,_,q⟩:=hm.imm b _ c (I i c m);exact⟨u,s,q.pure⟩
  .rename_i k off;obtain⟨b,rfl,l⟩:=z.ref_inv;split
   .rename_i cs d;obtain⟨hs,h1,B,rfl,_,cv,J,r,_,f⟩:=hm.obj k _ (cS d s_);rw[cN h1]at l;cases l;refine aB7 h λi c m=>?_;have p:off+i<Z cv:=by rw[r];exact(Ad.1 m).1
    exact⟨cv[off+i],by rw[cell_of_row w b _ _ _ (0,0) J];simp[p],f _ _ c (Ab p) m⟩
   .rename_i cs d;obtain⟨hs,h1,B,rfl,f⟩:=hm.obj k _ (cS d s_);rw[cN h1]at l;cases l;refine aB7 h λi c m=>?_;obtain⟨u,s,_,q⟩:=hm.imm b _ c (f _ c m);exact⟨u,s,q.pure⟩
   .exact trivial
  .rename_i k g i G off;cases z with
   | eref k g i G off b n c l=>
   split
   .rename_i R Be e xs d;refine sdc λF=>?_;obtain⟨A,y⟩:=bB F;obtain rfl:=aG A;obtain rfl:=aG y;intro x As;obtain⟨hs,v,h1,Q,h3,H,L,_⟩:=hm.rowOf (cS d s_);rw[H]at l;cases l;refine aB7 h λj c K=>?_;obtain⟨u,s,q⟩:=L.cell rfl As K;exact⟨u,by grind,q.pure⟩
   .exact trivial
  .exact trivial
def SH{t:Nat}{a off:Nat}(h1:(P.info? t).map (·.size)=X a)(e:(P.underlying t).isSome=O)(vs:bb)(u:Value)
  (c:aP P t=O->u= .agg ((vs.drop off).take a).toArray) (d:aP P t=U->vs[off]? =X u):(part t vs.toArray off).run P w= .ok u w:=by
 unfold part;simp only[Bd,CL e,Ar];cases b:aP P t with
 | true=>
  simp only[if_true,Bd,af h1,Ar,Cb,c b];simp
 | false=>simp[d b]
def aHo{vs:bb}{cs:az}(h:cV M ob vs cs){b off:Nat}{l:az}(m:oS b (mR off cs)=X l):cV M ob ((vs.drop off).take b) l:=by
 obtain⟨h1,d⟩:=lE m;rw[oX]at d;have hl:=h.1;have c:Z ((vs.drop off).take b)=Z l:=by
  have:b<=Z (cs.drop off):=by
   rcases Nat.eq_zero_or_pos b with j|j
   .omega
   .have:=d (b-1) _ (Ab o_);have:=(Ad.1 this).1;omega
  simp at this;simp;omega
 refine⟨c,λi v a e g=>?_⟩;have f:=d i a g;rw[Dm]at f;have k:i<b:=by rw[<-h1];grind
 rw[Bm k,Dm]at e;exact h.2 _ v a e f
def HR{t:Nat}{g off:Nat}(h1:(P.info? t).map (·.size)=X g)(m:(P.underlying t).isSome=O){vs:bb}{cs:az}(h:cV M ob vs cs)
  {l:az} (j:oS g (mR off cs)=X l) {a:aa} (b:aP P t=O->a= .agg l) (c:aP P t=U->l=[a]):∃u,(part t vs.toArray off).run P w= .ok u w/\Rep M ob u a:=by
 have hp:=aHo h j;cases k:aP P t with
 | true=>
  rw[b k];exact⟨_,SH h1 m vs _ (λ_=>rfl) (λe=>by grind),.agg _ l hp.1 hp.2⟩
 | false=>
  have i:=c k;subst i;obtain⟨n,o⟩:=hp;have d:g=1:=by have:=(lE j).1;simpa using this.symm
  subst d;have p:((vs.drop off).take 1)[0]? =vs[off]?:=by grind
  have f:0<Z ((vs.drop off).take 1):=by rw[n];simp
  refine⟨((vs.drop off).take 1)[0],SH h1 m vs _ (λe=>by grind) (λ_=>?_),o 0 _ a (Ab f) rfl⟩;simp
def aJe(hE:ae E){s f:Nat}{v:Value}{a:aa}(z:Rep M ob v a):PS0 E.P M ob w (Ni s v f) ac base (ZX E s a f):=by
 unfold ZX;split
 .rename_i G _ _ _ C;have h:=hE.tab s _ C;obtain⟨⟨c,Be,y⟩,_⟩:=h.kind;split
  .exact trivial
  .rename_i off H m n;obtain⟨g,k,q,B,r,F⟩:=y.get n;split
   .rename_i cs;split
    .exact trivial
    .rename_i l hl;obtain⟨vs,rfl,d,p⟩:=z.agg_inv;have key:∀x,(aP E.P g.type=O->x= .agg l)->(aP E.P g.type=U->l=[x])->PS0 E.P M ob w (Ni s (.agg vs.toArray) f) ac base (.val x):=by
      intro x h1 A;obtain⟨u,i,j⟩:=HR (P:=E.P) (w:=w) (t:=g.type) B r ⟨d,p⟩ hl h1 A;refine aZ (u:=u) ?_ j;have b:c[f]? =X g:=by simpa using k
      unfold Ni;simp only[Bd,run_underlying Be,Ar,b,asAgg,Cb,q,i]
     cases o:m with
     | true=>exact key _ (λ_=>rfl) (λe=>by grind)
     | false=>
      simp only[cond_false];split
      .exact key _ (λe=>by grind) (λ_=>rfl)
      .exact trivial
   .exact trivial
 .exact trivial
def QO(hE:ae E){s f:Nat}{v:Value}{a:aa}(m:Rep M ob v a):PS0 E.P M ob w (Ma s v f) ac base (zO E s a f):=by
 unfold zO;split
 .rename_i F _ _ _ y;have h:=hE.tab s _ y;obtain⟨⟨g,z,u⟩,_⟩:=h.kind;split
  .exact trivial
  .rename_i off p B r;obtain⟨q,A,t,x,Be,C⟩:=u.get r;have d:g[f]? =X q:=by simp_all
   cases hz:Av p 0 with
   | true=>exact trivial
   | false=>
    simp only[cond_false];have k:¬ p=0:=λe=>by simp_all
    have key:∀l,(Ma s (.pointer (X l)) f).run E.P w= .ok (.pointer (X (l.add off))) w:=λl=>by unfold Ma Iw fieldPlace;simp only[Bd,run_underlying z,Ar,d,Cb,af x,bt k,t]
    split
    .obtain ⟨b,o,rfl,G⟩:=m.ptr_inv;refine aZ (key _) ?_;rw[bK];exact .ptr b (o+off) _ λj c H=>by grind[oX]
    .obtain ⟨b,rfl,i⟩:=m.ref_inv;refine aZ (key _) ?_;rw[bK];exact .ref _ _ b i
    .cases m with
     | eref _ _ _ _ _ b n c i=>
      refine aZ (key _) ?_;rw[bK,Kr];exact .eref _ _ _ _ _ b n c i
    .exact trivial
 .exact trivial
def eT.len{v:Value}{a:Nat}{e:TypeId}{xs:az}(h:eT M w v a e xs):(v= .slice D 0 0/\xs=[])\/∃b cap,v= .slice (X ⟨b,0,D⟩) (Z xs) cap/\v.ownBlock=X b/\Z xs<=cap/\cap<=maxLen:=by
 obtain⟨cv,h1,_⟩:=h
 grind[eM,Ay]
theorem fR:(maxLen:Int)<=9223372036854775807:=by decide
def QN(hE:ae E)(hm:Mem M ob ac w){t:Nat}{v An:Value}{a i:aa}(F:Rep M ob v a)(L:Rep M ob An i):PS0 E.P M ob w (Il t v An) ac base (zN E (aE ac) t a i):=by
 unfold zN;split
 .rename_i ti _ n hT;have B:=hE.tab t ti hT;obtain⟨rfl,hri⟩:=L.int_inv;split
  .rename_i e l eb J;have d:=B.kind;rw[J]at d;obtain⟨⟨I,i',z,s,hs,_⟩,_⟩:=d;have q:(E.P.info? e).map (·.size)=X l:=by grind
   have key:∀(r:Addr) (len cap:Nat) (k:IntKind) (i:Nat),i<len->(Il t (.slice (X r) len cap) (.int k (i:Int))).run E.P w= .ok (.pointer (X (r.add (i*l)))) w:=λr len cap k i h1=>by unfold Il;simp only[Bd,asIntOf,Cb,Ar,run_underlying I];rw[bu ⟨by omega,by omega⟩];simp only[Bd,af q,Ar,Cb,Bo]
   have slc:∀{H:Value} {xs:az} {tk:Tk},Rep M ob H (.slice l xs tk)->∀(k:IntKind) (i:Nat) x,xs[i]? =X x->PS0 E.P M ob w (Il t H (.int k (i:Int))) ac base (.val (.ptr x.cells)):=λ{H xs tk} hr k i x u=>by
    have A:i<Z xs:=(Ad.1 u).1;cases hr.untok.1 with
    | slnil=>simp at A
    | slemp=>simp at A
    | sl _ b o n1 cap _ _ hn T K hz W _=>
     refine aZ (key _ n1 cap _ i o_) ?_;rw[bK];exact .ptr b _ _ λj c hj=>W i j x c u hj
   split
   .rename_i Be xs tt;refine sdc λN=>?_;obtain rfl:=aG N;rintro i rfl x u;exact slc F _ i x u
   .rename_i k g;obtain⟨a,n',c,rfl,f⟩:=F.row_inv;split
    .rename_i At Be Am xs p;refine sdc λC=>?_;obtain⟨m,h⟩:=bB C;obtain rfl:=aG m;obtain rfl:=aG h;rintro i rfl s;obtain⟨hs',v,h1,S,h3,V,h5,_⟩:=hm.rowOf (cS p s_);rw[V]at f;cases f;rcases h5.len with⟨R,rfl⟩|⟨b,cap,R,e2,_⟩
     .simp at s
     .cases R;refine aZ (key _ _ _ _ i s) ?_;rw[bK,Nat.add_comm 0];exact .eref k _ i Be 0 b _ _ V
    .rename_i At Be xs p;refine sdc λC=>?_;obtain⟨m,h⟩:=bB C;obtain rfl:=aG m;obtain rfl:=aG h;rintro i rfl x u;obtain⟨hs',h1,v,S,h3⟩:=hm.obj k _ (cS p s_);rw[cN h1,S]at f;cases f;exact slc h3.pure _ i x u
    .exact trivial
   .rename_i k g lo len Be;split
    .rename_i At Y Am xs p;refine sdc λC=>?_;obtain⟨y,Q⟩:=bB C;obtain⟨m,h⟩:=bB y;obtain rfl:=aG m;obtain rfl:=aG h;obtain rfl:=aG Q;rintro i rfl s;cases F with
     | sub _ _ _ _ _ b n' c f hl hn hc K=>
      refine aZ (key _ _ _ _ i s) ?_;rw[bK,<-Ch];exact .eref k _ (lo+i) Be 0 b _ _ f
     | sub0=>simp at s
    .exact trivial
   .exact trivial
  .rename_i len l ea J;have d:=B.kind;rw[J]at d;obtain⟨⟨e,I,q,_⟩,_⟩:=d;have key:∀(r:Addr) k,0<=n->n.toNat<len->(Il t (.pointer (X r)) (.int k n)).run E.P w= .ok (.pointer (X (r.add (n.toNat*l)))) w:=λr k h0 h1=>by unfold Il Iw;simp only[Bd,asIntOf,Cb,Ar,run_underlying I];rw[bu ⟨h0,by omega⟩];simp only[Bd,af q,Ar,Cb]
   split
   .rintro ⟨G,As⟩;obtain⟨b,rfl,hb⟩:=F.ref_inv;refine aZ (key _ _ G As) ?_;rw[bK];exact .ref _ _ b hb
   .rintro ⟨G,As⟩;obtain⟨b,o,rfl,W⟩:=F.ptr_inv;refine aZ (key _ _ G As) ?_;rw[bK];exact .ptr b _ _ λj c hc=>by grind[oX,Kr]
   .exact trivial
  .exact trivial
 .exact trivial
def aJd(hE:ae E){t:Nat}{v y:Value}{a i:aa}(z:Rep M ob v a)(d:Rep M ob y i):PS0 E.P M ob w (Ly t v y) ac base (ZW E t a i):=by
 unfold ZW;split
 .rename_i l k n;obtain⟨rfl,_⟩:=d.int_inv;obtain⟨rfl,_⟩:=z.str_inv;split
  .rename_i _ _ _ p;obtain⟨r,_⟩:=(hE.tab t _ p).kind;rintro i rfl c A;refine⟨rfl,.int .u8 c.toNat,?_,A6 c⟩;have h:i<Z l:=(Ad.1 A).1;unfold Ly;simp only[Bd,asIntOf,Cb,Ar,run_underlying r];rw[bu o_];have I:(⟨l.toArray⟩:ByteArray)[i]? =X c:=by
    have:i<(⟨l.toArray⟩:ByteArray).size:=by simpa[ByteArray.size]using h
    rw[getElem?_pos (⟨l.toArray⟩:ByteArray) i this];have j:=(Ad.1 A).2;rw[<-j];rfl
   simp_all
  .exact trivial
 .rename_i cs k n;obtain⟨rfl,_⟩:=d.int_inv;split
  .rename_i len F B _ _ _ p;obtain⟨⟨e,r,f,m,C⟩,_⟩:=(hE.tab t _ p).kind;split
   .rename_i l hl;obtain⟨vs,rfl,b,Be⟩:=z.agg_inv;have key:∀x,0<=n->n<len->(aP E.P e=O->x= .agg l)->(aP E.P e=U->l=[x])->PS0 E.P M ob w (Ly t (.agg vs.toArray) (.int k n)) ac base (.val x):=by intro x G h1 H h3;obtain⟨u,o,q⟩:=HR (P:=E.P) (w:=w) (t:=e) f m ⟨b,Be⟩ hl H h3;refine aZ (u:=u) ?_ q;unfold Ly;simp only[Bd,asIntOf,Cb,Ar,run_underlying r];rw[bu ⟨G,h1⟩];simp only[Bd,af f,Ar,o]
    cases s:B with
    | true=>exact λg=>key _ g.1 g.2 (λ_=>rfl) (λe=>by simp_all)
    | false=>
     simp only[cond_false];split
     .exact λg=>key _ g.1 g.2 (λe=>by simp_all) (λ_=>rfl)
     .exact trivial
   .exact trivial
  .exact trivial
 .exact trivial
def aRa(hE:ae E)(hm:Mem M ob ac w){t ty:TypeId}{v:Value}{a:aa}(m:Rep M ob v a):PS0 E.P M ob w (Fx #[t] ty #[v]) ac base (aRb E (aE ac) t a):=by
 unfold aRb;split
 .exact trivial
 .rename_i B F;have d:=(hE.tab t B F).kind
  have f:∀n:Nat,(n:Int)<=9223372036854775807->inR .i64 (n:Int):=λn h=>⟨by simp only[bS];omega,by simp only[aX];omega⟩
  have p:Rep M ob (.int .i64 (0:Nat)) (.int .i64 (0:Nat)):=.int _ _ (f 0 d_);have slc:∀{x:Value} {o:Nat} {xs:az} {tk:Tk} {e:TypeId},E.P.underlying t=X (.slice e)->Rep M ob x (.slice o xs tk)->PS0 E.P M ob w (Fx #[t] ty #[x]) ac base (.val (.int .i64 (Z xs))):=λ{x o xs tk e} y hr=>by obtain⟨a,c,rfl,_,_,s⟩:=hr.slice_inv;exact aZ (u:=.int .i64 (Z xs)) (by simp[Fx,run_underlying y,goInt]) (.int _ _ (f _ s))
  split
  .rename_i l g;rw[g]at d;obtain⟨rfl,h⟩:=m.str_inv;exact aZ (u:=.int .i64 (Z l)) (by simp[Fx,run_underlying d.1,goInt,xE]) (.int _ _ (f _ h))
  .rename_i g;rw[g]at d;exact slc d.1.1 m
  .rename_i g;rw[g]at d;cases m;exact aZ (u:=.int .i64 (0:Nat)) (by simp[Fx,run_underlying d.1.1,goInt]) p
  .rename_i g;rw[g]at d;cases m with
   | csl _ _ _ _ b h j=>exact aZ (u:=.int .i64 (Nat.cast _)) (by simp[Fx,run_underlying d.1.1,goInt]) (.int _ _ (f _ j))
  .rename_i g;rw[g]at d;cases m;exact λj=>aZ (u:=.int .i64 (Nat.cast _)) (by simp[Fx,run_underlying d.1.1,goInt]) (.int _ _ (f _ j))
  .rename_i g;rw[g]at d;obtain⟨a,n,c,rfl,i⟩:=m.row_inv;split
   .rename_i C o e xs k;refine sdc λr=>?_;obtain rfl:=aG r;obtain⟨hs',v,h1,A,h3,s,Be,_⟩:=hm.rowOf (cS k s_);rw[s]at i;cases i;rcases Be.len with⟨q,rfl⟩|⟨b,cap,q,I,H,G⟩
    .cases q;exact aZ (u:=.int .i64 (0:Nat)) (by simp[Fx,run_underlying d.1.1,goInt]) p
    .cases q;exact aZ (u:=.int .i64 (Z xs)) (by simp[Fx,run_underlying d.1.1,goInt]) (.int _ _ (f _ (by have:=fR;omega)))
   .rename_i C o xs k;refine sdc λr=>?_;obtain rfl:=aG r;obtain⟨hs',h1,v,A,h3⟩:=hm.obj _ _ (cS k s_);rw[cN h1,A]at i;cases i;exact slc d.1.1 (h3.pure (M:=M) (ob:=ob))
   .exact trivial
  .rename_i g;rw[g]at d;cases m with
   | sub _ _ _ _ _ b n c i hl z K j=>exact aZ (u:=.int .i64 (Nat.cast _)) (by simp[Fx,run_underlying d.1.1,goInt]) (.int _ _ (f _ o_))
   | sub0 _ _ _ _ a J n c=>exact aZ (u:=.int .i64 (0:Nat)) (by simp[Fx,run_underlying d.1.1,goInt]) p
  .rename_i _ g;rw[g]at d;obtain⟨⟨e,y,_⟩,_⟩:=d;intro z;exact aZ (u:=.int .i64 (Nat.cast _)) (by simp[Fx,run_underlying y,goInt]) (.int _ _ (f _ z))
  .exact trivial
end
def VM(P:Program)(M:Imm)(ob:Hs)(ac:aw)(w:World)(s:Sem Value)(v:aa)(ap:aw):Prop:=
 ∃u w' M' ob',s.run P w= .ok u w'/\Ext M ob ac w M' ob' ap w'/\Mem M' ob' ap w'/\dB ob ac ob' ap/\Rep M' ob' u v
abbrev PM(P:Program)(M:Imm)(ob:Hs)(w:World)(s:Sem Value)(ac:aw)(base:Nat)(r:OR):Prop:=Sd (VM P M ob ac w s) (λ_ _=>False) (λ_=>False) ac base r
section
variable {P:Program} {E:Env} {M:Imm} {ob:Hs} {ac:aw} {w:World} {base:Nat}
def PM.of(hm:Mem M ob ac w){s:Sem Value}{r:OR}(h:PS0 P M ob w s ac base r):PM P M ob w s ac base r:=
 Sd.mono (λv o ⟨h1,u,a,h3⟩=>⟨u,w,M,ob,a,h1▸Ext.refl _ _ _ _,h1▸hm,h1▸dB.refl _ _,h3⟩) (λ_ _ h=>h) (λ_ h=>h) h
def cW.pm{ρv:Operand->Value}{op:Op}{ty:TypeId}{r:OR}{s:Sem Value}
  (i:∀d pos a g,execOp ρv ⟨d,op,ty,pos,a,g⟩=(s >>= λv=>Pure.pure (.value v))) (h:PM P M ob w s ac base r):cW P ρv op ty M ob ac w base r:=
 Sd.mono (λv o ⟨u,w',M',ob',f,h3,b,c,e⟩=>⟨u,w',M',ob',λd pos a g=>.inl (by simp_all),h3,b,c,e⟩) (λ_ _ h=>h.elim) (λ_ h=>h.elim) h
def KE(M:Imm)(ob:Hs)(v:Option Value)(a:Option aa):Prop:=(v=D/\a=D)\/∃u x,v=X u/\a=X x/\Rep M ob u x
def aKd(v:Option Value)(q:Option Nat):Prop:=(v=D/\q=D)\/∃(k:IntKind) (n:Nat),v=X (.int k n)/\q=X n
def wE{s:Sem Value}{a:Option Value}{l:Option aa}(h:KE M ob a l){f:Option Nat->OR}(k:∀q,aKd a q->PS0 P M ob w s ac base (f q)):PS0 P M ob w s ac base (bnd l f):=by
 rcases h with⟨rfl,rfl⟩|⟨u,x,rfl,rfl,b⟩
 .exact k D (.inl ⟨rfl,rfl⟩)
 .cases x with
  | int c n=>
   obtain⟨rfl,_⟩:=b.int_inv;rintro i rfl;exact k (X i) (.inr ⟨c,i,rfl,rfl⟩)
  | _=>exact trivial
def aKd.none{v:Option Value}(h:aKd v D):v=none:=by rcases h with⟨h,_⟩|⟨_,_,_,h⟩;exact h;cases h
def aKd.some{v:Option Value}{n:Nat}(h:aKd v (X n)):∃k,v=X (.int k n):=by rcases h with⟨_,h⟩|⟨k,n,h1,h⟩;cases h;grind
def JB{t e:TypeId}(h:P.underlying t=X (.slice e)):P.underlying t=X (.slice (P.elem t))/\P.elem t=e:=by
 have:P.elem t=e:=by simp[Program.elem,h]
 grind
def XP{v:Value}{f:Nat}{xs:az}(h:Rep M ob v (.slice f xs .no)):∃a n c,v= .slice a n c/\Z xs=n/\n<=c/\∀l d,l<=d->d<=n->
  Rep M ob (sliced a l d c f) (.slice f ((xs.take d).drop l) .no)/\(Rep M ob (sliced a l d d f) (.slice f ((xs.take d).drop l) .no)):=by
 cases h with
 | slnil f=>
  refine⟨D,0,0,rfl,rfl,Bc _,λl d h1 u=>?_⟩;have:d=0:=o_;subst this;have:l=0:=o_;subst this;exact⟨.slnil f .no trivial,.slnil f .no trivial⟩
 | slemp f _ a cap=>
  refine⟨X a,0,cap,rfl,rfl,Bq _,λl d h1 u=>?_⟩;have:d=0:=o_;subst this;have:l=0:=o_;subst this;have hs:∀m,∃b c,sliced (X a) 0 0 m f= .slice (X b) 0 c:=λm=>by
   unfold sliced
   grind
  obtain⟨Be,B,z⟩:=hs cap;obtain⟨C,G,A⟩:=hs 0;rw[z,A];exact⟨.slemp _ _ _ _ trivial,.slemp _ _ _ _ trivial⟩
 | sl f b o n c xs _ y s w hz F=>
  refine⟨_,n,c,rfl,y,s,λl d h1 u=>?_⟩;have p:∀m,d<=m->Rep M ob (sliced (X ⟨b,o,D⟩) l d m f) (.slice f ((xs.take d).drop l) .no):=by
   intro m hm;have g:Z ((xs.take d).drop l)=d-l:=by simp;omega
   have k:∀x∈(xs.take d).drop l,Z x.cells=f:=λx r=>hz x (Db (Fl r));have t:∀(i:Nat) x,((xs.take d).drop l)[i]? =X x->xs[l+i]? =X x:=λi x r=>by grind
   by_cases q:m=l
   .have e:sliced (X ⟨b,o,D⟩) l d m f= .slice (X ⟨b,o,D⟩) (d-l) (m-l):=by simp[sliced,q]
    rw[e];refine .sl f b o _ _ _ _ g o_ o_ k (λi j x c r s=>?_) trivial
    grind[Ad]
   .have e:sliced (X ⟨b,o,D⟩) l d m f= .slice (X ⟨b,o+l*f,D⟩) (d-l) (m-l):=by simp[sliced,q,bK]
    rw[e];refine .sl f b _ _ _ _ _ g o_ o_ k (λi j x c r s=>?_) trivial
    grind[Ch,Kr]
  exact⟨p c o_,p d (Bc _)⟩
theorem yR{k g x y d:Nat}{a:Option Addr}{n c:Nat}(j:a=D/\n=0/\c=0\/∃b,a=X ⟨b,0,D⟩)(h:at' ob k g=X (.slice a n c))(l:n<=c)(m:x<=y)(o:y<=n)(i:(n:Int)<=9223372036854775807):
  Rep M ob (sliced a x y c d) (.sub k g x (y-x) d):=by
 by_cases f:c=x
 .have e:sliced a x y c d= .slice a 0 0:=by have:y-x=0:=o_;simp[sliced,f,this]
  rw[e];have:y-x=0:=o_;rw[this];exact .sub0 k g x d a a n c h o_ o_
 .rcases j with⟨rfl,rfl,rfl⟩|⟨b,rfl⟩
  .omega
  .have e:sliced (X ⟨b,0,D⟩) x y c d= .slice (X ⟨b,x*d,D⟩) (y-x) (c-x):=by simp[sliced,f,bK]
   rw[e];exact .sub k g x (y-x) d b n c h o_ o_ l i
def sG{k g lo x y a b n c:Nat}(f:at' ob k g=X (.slice (X ⟨b,0,D⟩) n c))(hl:lo<c)(j:n<=c)(l:x<=y)(m:lo+y<=n)(h:(n:Int)<=9223372036854775807):
  Rep M ob (sliced (X ⟨b,lo*a,D⟩) x y (c-lo) a) (.sub k g (lo+x) (y-x) a):=by
 by_cases d:c-lo=x
 .have i:y-x=0:=o_;have e:sliced (X ⟨b,lo*a,D⟩) x y (c-lo) a= .slice (X ⟨b,lo*a,D⟩) 0 0:=by simp[sliced,d,i]
  rw[e,i];exact .sub0 k g (lo+x) a _ _ n c f o_ o_
 .have e:sliced (X ⟨b,lo*a,D⟩) x y (c-lo) a= .slice (X ⟨b,(lo+x)*a,D⟩) (y-x) (c-(lo+x)):=by simp[sliced,d,bK,Ch];omega
  rw[e];exact .sub k g (lo+x) (y-x) a b n c f o_ o_ j h
def aI1(hE:ae E)(hm:Mem M ob ac w){t:TypeId}{v:Value}{a:aa}(hv:Rep M ob v a){vlo vhi Y:Option Value}{lo hi mx:Option aa}
  (K:KE M ob vlo lo) (L:KE M ob vhi hi) (hmx:KE M ob Y mx):PS0 E.P M ob w (Hd t v vlo vhi Y) ac base (ZN E (aE ac) t a lo hi mx):=by
 have H:mx=D->Y=none:=λe=>by
  rcases hmx with⟨h,_⟩|⟨_,_,_,h,_⟩
  .exact h
  grind
 have S:lo=D->vlo=none:=λe=>by
  rcases K with⟨h,_⟩|⟨_,_,_,h,_⟩
  .exact h
  grind
 have R:hi=D->vhi=none:=λe=>by
  rcases L with⟨h,_⟩|⟨_,_,_,h,_⟩
  .exact h
  grind
 unfold ZN;split
 .exact trivial
 .rename_i ti hT;have hti:=hE.tab t ti hT;have f:=hti.kind;split
  .rename_i l;obtain⟨rfl,hlm⟩:=hv.str_inv;split
   .have As:=‹ti.kind=TK.str›;rw[As]at f;obtain rfl:=H rfl;have G:=f.1;have hb:∀i j,(⟨l.toArray⟩:ByteArray).extract i j=⟨((l.take j).drop i).toArray⟩:=Y0 l;have hs:(⟨l.toArray⟩:ByteArray).size=Z l:=xE l;refine wE K λBe r=>wE L λq o=>?_;cases Be with
    | none=>
     obtain rfl:=r.none;cases q with
     | none=>
      obtain rfl:=o.none;refine aZ (u:=.string ⟨l.toArray⟩) ?_ (.str _ hlm);rw[run_sliceAt_string w t _ _ _ _ G];unfold Lz Gs;simp only[Bd,run_underlying G,Ar,Jm,Dc,if_false,Cb,hb,hs];simp
     | some y=>
      obtain⟨k,rfl⟩:=o.some;intro I;refine aZ (u:=.string ⟨(l.take y).toArray⟩) ?_ (.str _ q_);rw[run_sliceAt_string w t _ _ _ _ G];unfold Lz Gs Kk;simp only[Bd,run_underlying G,Ar,Jm,Dc,if_false,Cb,hb,hs,asIntOf];simp_all
    | some x=>
     obtain⟨k,rfl⟩:=r.some;cases q with
     | none=>
      obtain rfl:=o.none;intro I;refine aZ (u:=.string ⟨(l.drop x).toArray⟩) ?_ (.str _ q_);rw[run_sliceAt_string w t _ _ _ _ G];unfold Lz Gs Kk;simp only[Bd,run_underlying G,Ar,Jm,Dc,if_false,Cb,hb,hs,asIntOf];simp_all
     | some y=>
      obtain⟨J,rfl⟩:=o.some;rintro⟨I,c2⟩;refine aZ (u:=.string ⟨((l.take y).drop x).toArray⟩) ?_ (.str _ q_);rw[run_sliceAt_string w t _ _ _ _ G];unfold Lz Gs Kk;simp only[Bd,run_underlying G,Ar,Jm,Dc,if_false,Cb,hb,hs,asIntOf];rw[bu ⟨by omega,by omega⟩];simp;omega
   .exact trivial
  .rename_i s xs tt;split
   .rename_i e esz eb As;rw[As]at f;obtain⟨⟨G,ie,z,An,hs,_⟩,_⟩:=f;refine sdc λhg=>?_;obtain rfl:=aG hg;obtain⟨d,hel⟩:=JB G;have F:(E.P.info? (E.P.elem t)).map (·.size)=X s:=by grind
    obtain⟨B,n,cap,rfl,hn,N,key⟩:=XP hv.untok.1;have p:=λu:World=>af (P:=E.P) F u;refine wE K λBe r=>wE L λq o=>wE hmx λqmx bmx=>?_;cases qmx with
    | none=>
     obtain rfl:=bmx.none;cases Be with
     | none=>
      obtain rfl:=r.none;cases q with
      | none=>
       obtain rfl:=o.none;refine aZ (u:=sliced B 0 n cap s) ?_ ?_
       .rw [run_sliceAt_slice w t _ _ _ _ d,run_slice_all w t B n cap d,p];rfl
       grind
      | some y=>
       obtain⟨k,rfl⟩:=o.some;intro I;refine aZ (u:=sliced B 0 y cap s) ?_ ?_
       .rw [run_sliceAt_slice w t _ _ _ _ d,run_slice_h w t B n cap d k y o_ o_,p];rfl
       grind
     | some x=>
      obtain⟨k,rfl⟩:=r.some;cases q with
      | none=>
       obtain rfl:=o.none;intro I;refine aZ (u:=sliced B x n cap s) ?_ ?_
       .rw [run_sliceAt_slice w t _ _ _ _ d,run_slice_l w t B n cap d k x o_ o_,p];rfl
       grind
      | some y=>
       obtain⟨J,rfl⟩:=o.some;rintro⟨I,c2⟩;refine aZ (u:=sliced B x y cap s) ?_ ?_
       .rw [run_sliceAt_slice w t _ _ _ _ d,run_slice_lh w t B n cap d k J x y o_ o_ o_,p];rfl
       .exact (key x y o_ o_).1
    | some m=>
     obtain⟨km,rfl⟩:=bmx.some;cases Be with
     | some x=>cases q<;>exact trivial
     | none=>
      obtain rfl:=r.none;cases q with
      | none=>exact trivial
      | some y=>
       obtain⟨k,rfl⟩:=o.some;rintro⟨I,rfl⟩;have hk2:=(key 0 m o_ o_).2;rw[List.drop_zero]at hk2;refine aZ (u:=sliced B 0 m m s) ?_ ?_
       .rw [run_sliceAt_slice w t _ _ _ _ d,run_slice_hm w t B n cap d k km m m o_ (Em _) o_,p];rfl
       .exact hk2.tok ⟨_,m,rfl⟩
   .exact trivial
  .rename_i k g;split
   .rename_i g' s e' xs _ hog;have As:=‹ti.kind=TK.slc _ _ _›;rw[As]at f;refine sdc λhg=>?_;obtain⟨hg1,V⟩:=bB hg;obtain rfl:=aG hg1;obtain rfl:=aG V;obtain⟨⟨G,ie,z,An,hs,_⟩,_⟩:=f;obtain⟨d,hel⟩:=JB G;have F:(E.P.info? (E.P.elem t)).map (·.size)=X s:=by simp_all
    have p:=λu:World=>af (P:=E.P) F u;obtain rfl:=H rfl;obtain⟨B,n,cap,rfl,A⟩:=hv.row_inv;obtain⟨hs',v,h1,h2,h3,h4,h5,_⟩:=hm.rowOf (cS hog s_);rw[A]at h4;cases h4;have hn:n=Z xs/\n<=cap/\(n:Int)<=9223372036854775807/\(B=D/\n=0/\cap=0\/∃b,B=X ⟨b,0,D⟩):=by
     rcases h5.len with⟨e1,rfl⟩|⟨b,c,e1,e2,e3,e4⟩
     .cases e1;simp
     grind[fR]
    obtain⟨hn,N,C,Am⟩:=hn;refine wE K λBe r=>wE L λq o=>?_;cases Be with
    | none=>
     obtain rfl:=r.none;cases q with
     | none=>
      obtain rfl:=o.none;refine aZ (u:=.slice B n cap) ?_ hv;rw[run_sliceAt_slice w t _ _ _ _ d,run_slice_all w t B n cap d,p];show Result.ok (sliced B 0 n cap s) w=_;congr 1;rcases Am with⟨rfl,rfl,rfl⟩|⟨b,rfl⟩
      .rfl
      .simp [sliced,bK]
     | some y=>
      obtain⟨J,rfl⟩:=o.some;intro I;refine aZ (u:=sliced B 0 y cap s) ?_ (yR Am A N (Bq _) o_ C);rw[run_sliceAt_slice w t _ _ _ _ d,run_slice_h w t B n cap d J y o_ o_,p];rfl
    | some x=>
     obtain⟨At,rfl⟩:=r.some;cases q with
     | none=>
      obtain rfl:=o.none;intro I;refine aZ (u:=sliced B x n cap s) ?_ ?_
      .rw [run_sliceAt_slice w t _ _ _ _ d,run_slice_l w t B n cap d At x o_ o_,p];rfl
      grind[yR]
     | some y=>
      obtain⟨J,rfl⟩:=o.some;rintro⟨I,c2⟩;refine aZ (u:=sliced B x y cap s) ?_ (yR Am A N o_ o_ C);rw[run_sliceAt_slice w t _ _ _ _ d,run_slice_lh w t B n cap d At J x y o_ o_ o_,p];rfl
   .exact trivial
  .rename_i k g Q len s;split
   .rename_i g' sz' e' xs _ hog;have As:=‹ti.kind=TK.slc _ _ _›;rw[As]at f;refine sdc λhg=>?_;obtain⟨hg12,hg3⟩:=bB hg;obtain⟨hg1,V⟩:=bB hg12;obtain rfl:=aG hg1;obtain rfl:=aG V;obtain rfl:=aG hg3;obtain⟨⟨G,ie,z,An,hs,_⟩,_⟩:=f;obtain⟨d,hel⟩:=JB G;have F:(E.P.info? (E.P.elem t)).map (·.size)=X s:=by rw[hel];simp[An,hs]
    have p:=λu:World=>af (P:=E.P) F u;obtain rfl:=H rfl;obtain⟨hs',v,h1,h2,h3,h4,h5,_⟩:=hm.rowOf (cS hog s_);have nl:∀{n:Nat} {B:Option Addr} {cap:Nat},at' ob k g=X (.slice B n cap)->n=Z xs/\n<=cap:=λ{n B cap} A=>by
     rw[A]at h4;cases h4;rcases h5.len with⟨e1,rfl⟩|⟨b,c,e1,e2,e3,e4⟩
     .cases e1;simp
     .cases e1;omega
    cases hv with
    | sub _ _ _ _ _ b n c A hl hn W C=>
     obtain⟨hnx,_⟩:=nl A;refine wE K λBe r=>wE L λq o=>?_;cases Be with
     | none=>
      obtain rfl:=r.none;cases q with
      | none=>
       obtain rfl:=o.none;refine aZ (u:=sliced (X ⟨b,Q*s,D⟩) 0 len (c-Q) s) ?_ (sG A hl W (Bq _) hn C);rw[run_sliceAt_slice w t _ _ _ _ d,run_slice_all w t _ len _ d,p];rfl
      | some y=>
       obtain⟨J,rfl⟩:=o.some;intro I;refine aZ (u:=sliced (X ⟨b,Q*s,D⟩) 0 y (c-Q) s) ?_ (sG A hl W (Bq _) o_ C);rw[run_sliceAt_slice w t _ _ _ _ d,run_slice_h w t _ len _ d J y o_ o_,p];rfl
     | some x=>
      obtain⟨At,rfl⟩:=r.some;cases q with
      | none=>
       obtain rfl:=o.none;intro I;refine aZ (u:=sliced (X ⟨b,Q*s,D⟩) x len (c-Q) s) ?_ (sG A hl W I hn C);rw[run_sliceAt_slice w t _ _ _ _ d,run_slice_l w t _ len _ d At x o_ o_,p];rfl
      | some y=>
       obtain⟨J,rfl⟩:=o.some;rintro⟨I,c2⟩;refine aZ (u:=sliced (X ⟨b,Q*s,D⟩) x y (c-Q) s) ?_ (sG A hl W I o_ C);rw[run_sliceAt_slice w t _ _ _ _ d,run_slice_lh w t _ len _ d At J x y o_ o_ o_,p];rfl
    | sub0 _ _ _ _ a T n c A hl W=>
     obtain⟨hnx,_⟩:=nl A;have e0:sliced T 0 0 0 s= .slice T 0 0:=by rfl
     have r0:Rep M ob (sliced T 0 0 0 s) (.sub k g Q 0 s):=by rw[e0];exact .sub0 _ _ _ _ a T n c A hl W
     refine wE K λBe r=>wE L λq o=>?_;cases Be with
     | none=>
      obtain rfl:=r.none;cases q with
      | none=>
       obtain rfl:=o.none;refine aZ (u:=sliced T 0 0 0 s) ?_ r0;rw[run_sliceAt_slice w t _ _ _ _ d,run_slice_all w t _ 0 _ d,p];rfl
      | some y=>
       obtain⟨J,rfl⟩:=o.some;intro I;obtain rfl:y=0:=o_;refine aZ (u:=sliced T 0 0 0 s) ?_ r0;rw[run_sliceAt_slice w t _ _ _ _ d,run_slice_h w t _ 0 _ d J ((0:Nat):Int) o_ o_,p];rfl
     | some x=>
      obtain⟨At,rfl⟩:=r.some;cases q with
      | none=>
       obtain rfl:=o.none;intro I;obtain rfl:x=0:=o_;refine aZ (u:=sliced T 0 0 0 s) ?_ r0;rw[run_sliceAt_slice w t _ _ _ _ d,run_slice_l w t _ 0 _ d At ((0:Nat):Int) o_ o_,p];rfl
      | some y=>
       obtain⟨J,rfl⟩:=o.some;rintro⟨I,c2⟩;obtain rfl:y=0:=o_;obtain rfl:x=0:=o_;refine aZ (u:=sliced T 0 0 0 s) ?_ r0;rw[run_sliceAt_slice w t _ _ _ _ d,run_slice_lh w t _ 0 _ d At J ((0:Nat):Int) ((0:Nat):Int) o_ o_ o_,p];rfl
   .exact trivial
  .rename_i k off;split
   .rename_i len esz ea As;rw[As]at f;obtain⟨⟨e,G,F,_⟩,_⟩:=f;obtain rfl:=H rfl;obtain rfl:=S rfl;obtain rfl:=R rfl;intro C;obtain⟨b,rfl,hb⟩:=hv.ref_inv;refine aZ (u:=.slice (X ⟨b,off,D⟩) len len) ?_ (.csl _ _ _ _ b hb C);unfold Hd Iw Gs;simp only[Bd,run_underlying G,Ar,Cb,af F];simp[bK]
   .exact trivial
  .rename_i cs;split
   .rename_i len As;rw[As]at f;obtain⟨⟨e,G,F,_⟩,_⟩:=f;obtain rfl:=H rfl;obtain rfl:=S rfl;obtain rfl:=R rfl;split
    .rename_i l hl;refine sdc λhone=>?_;intro C;obtain⟨t1,t2⟩:=lE hl;obtain⟨b,o',rfl,hM⟩:=hv.ptr_inv;refine aZ (u:=.slice (X ⟨b,o',D⟩) len len) ?_ (.sl 1 b o' len len l _ t1 (Bc _) C (λx hx=>?_) (λi j x c hx W=>?_) ⟨_,len,rfl⟩)
     .unfold Hd Iw Gs;simp only[Bd,run_underlying G,Ar,Cb,af F];simp[bK]
     .grind [Ck,rF,nZ]
     grind[rF,nZ]
    .exact trivial
   .exact trivial
  .exact trivial
end
section
variable {P:Program} {E:Env} {M:Imm} {ob:Hs} {ac:aw} {w:World} {base:Nat}
theorem aFD{α:Type}(l:List α):(l.drop 0).take (Z l)=l:=by simp
def aFR(hm:Mem M ob ac w){x:Value}{a:aa}(z:Rep M ob x a){t:Nat}{xs:az}(h:aKP (aE ac) a=X (t,xs))(hs:0<t){I N:TypeId}(o:P.underlying I=X (.slice N)):
  SrcA P M w t I x xs/\∃i c,x= .slice i (Z xs) c/\(i=D->xs=[]/\c=0):=by
 unfold aKP at h;split at h
 .cases h;obtain⟨i,c,e,Be,_⟩:=z.slice_inv;exact⟨SrcA.ofSlice hm hs o z,i,c,e,Be⟩
 .rename_i k g;obtain⟨i,n,c,rfl,d⟩:=z.row_inv;split at h
  .rename_i H p e xs' f;obtain⟨q,h⟩:=fU h;cases h;obtain rfl:=aG q;have l:=cS f s_;obtain⟨hs',v,h1,F,h3,j,y,_⟩:=hm.rowOf l;rw[d]at j;cases j;have hl:n=Z xs/\(i=D->xs=[]/\c=0):=by
    rcases y.len with⟨m,rfl⟩|⟨b,c,m,V,At,T⟩
    .simp_all
    grind
   obtain⟨rfl,R⟩:=hl;have:=SrcA.ofRow hm hs l o d (lo:=0) (len:=Z xs) o_ (x:=.slice i (Z xs) c) (λb J u e _=>by cases e;simp) (λh=>⟨i,c,by rw[h]⟩)
   grind[aFD]
  .rename_i H p xs' f;obtain⟨q,h⟩:=fU h;cases h;obtain rfl:=aG q;obtain⟨hs',h1,v,F,h3⟩:=hm.obj _ _ (cS f s_);rw[cN h1,F]at d;cases d;have s:=h3.pure (M:=M) (ob:=ob);obtain⟨C,u,e,Be,_⟩:=s.slice_inv;exact⟨SrcA.ofSlice hm hs o s,C,u,e,Be⟩
  .cases h
 .rename_i k g lo len t;split at h
  .rename_i H p e xs' f;obtain⟨q,h⟩:=fU h;cases h;obtain⟨G,A⟩:=bB q;obtain rfl:=aG G;obtain rfl:=aG A;have l:=cS f s_;obtain⟨hs',v,h1,F,h3,j,y,_⟩:=hm.rowOf l;cases z with
   | sub _ _ _ _ _ b n c d hl S As L=>
    rw[d]at j;cases j;have B:n=Z xs':=by
     rcases y.len with⟨m,_⟩|⟨b,c,m,_⟩
     .cases m
     grind
    have r:Z ((xs'.drop lo).take len)=len:=by simp;omega
    refine⟨SrcA.ofRow hm hs l o d (lo:=lo) (len:=len) o_ (λK J u e _=>by cases e;simp) (λh=>⟨_,_,by rw[h]⟩),_,_,by rw[r],λe=>by cases e⟩
   | sub0 _ _ _ _ i Q n c d hl As=>
    rw[d]at j;cases j;have B:n=Z xs':=by
     rcases y.len with⟨m,rfl⟩|⟨b,c,m,_⟩
     .simp_all
     grind
    refine⟨SrcA.ofRow hm hs l o d (lo:=lo) (len:=0) o_ (λK J u e h=>bv rfl h) (λ_=>⟨_,_,rfl⟩),Q,0,by simp,λ_=>⟨by simp,rfl⟩⟩
  .cases h
 .cases h
def XO(hE:ae E)(hm:Mem M ob ac w){x:Value}{a:aa}(g:Rep M ob x a){b d:Nat}{ys:az}(h:aFS E (aE ac) b d a=X ys)(hs:0<b):SrcA E.P M w b d x ys:=by
 unfold aFS at h;split at h
 .rename_i l;split at h
  .rename_i _ _ _ e;obtain⟨f,h⟩:=fU h;cases h;obtain rfl:=aG f;obtain⟨rfl,_⟩:=g.str_inv;exact SrcA.ofStr (hE.tab d _ e).kind.1 l
  .cases h
 .split at h
  .rename_i _ _ _ _ _ _ e;cases h;cases g;exact⟨⟨[],Src.ofNil w (hE.tab d _ e).kind.1.1 0,λq c k=>by simp[aQ]at k⟩,λy j=>by simp at j,λm hm=>HN hm⟩
  .cases h
 .split at h
  .rename_i _ _ _ _ _ _ n xs e i;obtain⟨f,h⟩:=fU h;cases h;obtain rfl:=aG f;exact(aFR hm g i hs (hE.tab d _ e).kind.1.1).1
  .cases h
def aF6{s d e:TypeId}{a:Option Addr}{l:ay}{c:Nat}(y:P.underlying s=X (.slice e))(o:P.underlying e=X (.int .u8))(t:P.underlying d=X .string)
  (v:a=D->l=[]/\c=0) (hs:SrcA P M w 1 s (.slice a (Z l) c) (l.map ub)):(convert s d (.slice a (Z l) c)).run P w= .ok (.string ⟨l.toArray⟩) w:=by
 rw[run_convert_bytes_string w s d e a (Z l) c y o t];cases a with
 | none=>
  obtain⟨rfl,rfl⟩:=v rfl;rfl
 | some a=>
  obtain⟨⟨news,b,q⟩,_⟩:=hs;have x:Z news=Z l:=by rw[b.newsLen];simp
  have f:news=(l.map λc=>(c.toNat:Int)).map (Eu .u8):=by
   refine Fe λj=>?_;by_cases m:j<Z l
   .obtain ⟨u,k,i⟩:=q j (ub l[j]) (by rw[DQ,Ab m];rfl);rw[k,i.int_inv.1];simp[Ab m]
   grind[Bp]
  have h:(loadCells a (Z l)).run P w= .ok news.toArray w:=by have:=b.cells;rw[Bw]at this;have e:Cn 1 (Z l) (.slice (X a) (Z l) c)=loadCells a (Z l*1):=rfl;rw[e,Nat.mul_one]at this;exact this
  rw[f]at h;rw[run_bytesToString w a (Z l) c _ h];congr 2;have g:∀(l:ay) (r:ByteArray),(l.map λc=>(c.toNat:Int)).foldl (λr n=>r.push (UInt8.ofNat n.toNat)) r=⟨r.data++l.toArray⟩:=by
   intro l;induction l with
   | nil=>simp
   | cons c l p=>
    intro r;simp only[Bf,Ap,p];simp
  rw[g];simp
def E7(w:World)(e:TypeId)(s:ByteArray):(Lib.bytesWorld w e s).os=w.os/\(Lib.bytesWorld w e s).tape=w.tape/\(Lib.bytesWorld w e s).output=w.output:=⟨rfl,rfl,rfl⟩
def aNu(hE:ae E)(hm:Mem M ob ac w){s d:TypeId}{v:Value}{a:aa}(C:Rep M ob v a):PM E.P M ob w (convert s d v) ac base (aJh E (aE ac) s d a):=by
 unfold aJh;split
 .rename_i Q K hs W;have f:=(hE.tab s Q hs).kind;have g:=(hE.tab d K W).kind;obtain⟨t,_⟩:=f.isAgg;obtain⟨ds,H⟩:=Df.1 t;split
  .rename_i k An n r;rw[r]at g;obtain⟨rfl,_⟩:=C.int_inv;have key:(convert s d (.int An n)).run E.P w= .ok (.int k (k.wrap n)) w:=by simp[convert,run_underlying H,run_underlying g.1,Conv.intToInt]
   refine PM.of hm ⟨λhp=>⟨rfl,_,by rw[key,lW hp],.int _ _ hp⟩,rfl,_,key,.int _ _ (jY _ _)⟩
  .rename_i l r;rw[r]at g;obtain⟨rfl,hl⟩:=C.str_inv;split
   .rename_i m;rw[m]at f;refine PM.of hm (aZ (u:=.string ⟨l.toArray⟩) ?_ (.str _ hl));simp[convert,run_underlying f.1,run_underlying g.1]
   .exact trivial
  .rename_i e T l r;rw[r]at g;obtain⟨⟨I,_⟩,_⟩:=g;obtain⟨rfl,hl⟩:=C.str_inv;split
   .rename_i _ _ _ m F;rw[m]at f;have z:=(hE.tab e _ F).kind.1;have p:=Lib.run_convert_string_bytes (P:=E.P) w s d e ⟨l.toArray⟩ f.1 I z;rw[xE]at p;obtain⟨At,q2,L⟩:=E7 w e ⟨l.toArray⟩;have key:∀(j:Nat) c,l[j]? =X c->(Lib.bytesWorld w e ⟨l.toArray⟩).cell? ⟨w.heap.size,j,D⟩=X (.int .u8 c.toNat):=λj c hj=>by grind[Ad,Lib.bytesWorld_cell,xE]
    obtain⟨As,S⟩:=hm.more (M':=λb o y=>M b o y\/(b=w.heap.size/\∃c,l[o]? =X c/\y=ub c)) (w':=Lib.bytesWorld w e ⟨l.toArray⟩) (λ_ _ _ h=>.inl h) (λb o y B=>by
      grind) (λb o y B=>by
      rcases B with B|⟨rfl,c,A,rfl⟩
      .obtain ⟨v,h1,Y,h3⟩:=hm.imm b o y B;exact⟨v,(Lib.bytesWorld_old w e _ _ (Cx w _ h1)).trans h1,Y,h3.monoM λ_ _ _ h=>.inl h⟩
      .exact ⟨_,key o c A,rfl,A6 c⟩) (λb V=>Lib.bytesWorld_at_old w e _ b V) At q2 L (by rw[Lib.bytesWorld_size];omega)
    refine⟨_,_,_,ob,p,S,As,dB.refl _ _,.sl 1 w.heap.size 0 _ _ _ _ s_ (grownCap_ge w _ 0 e) hl (λx Be=>aAL l x Be) (λi j x c Be A=>?_) trivial⟩;rw[Cd]at Be;obtain⟨Am,N,rfl⟩:=Cg.1 Be;cases j with
    | succ j=>simp[ub,aa.cells]at A
    | zero=>
     simp[ub,aa.cells]at A;subst A;exact .inr ⟨rfl,Am,by simp;omega,rfl⟩
   .exact trivial
  .have r:=‹K.kind=TK.str›;rw[r]at g;split
   .rename_i e T xs m R;rw[m]at f;split
    .rename_i _ _ _ F;have z:=(hE.tab e _ F).kind.1;intro l J G;subst J;obtain⟨q,ad,c,rfl,h0⟩:=aFR (P:=E.P) hm C R d_ f.1.1;refine⟨_,w,M,ob,?_,Ext.refl _ _ _ _,hm,dB.refl _ _,.str l G⟩;rw[Bw]at q⊢;exact aF6 f.1.1 z g.1 (λe=>by grind) q
    .exact trivial
   .exact trivial
  .exact trivial
 .exact trivial
def M8(off:Nat):∀(l:bb) (k:Nat) (cells:Array Value),((l.zipIdx k).foldl (λ(cs:Array Value) (p:Value×Nat)=>cs.setIfInBounds (off+p.2) p.1) cells).size=cells.size/\
  ∀(i:Nat),((l.zipIdx k).foldl (λ(cs:Array Value) (p:Value×Nat)=>cs.setIfInBounds (off+p.2) p.1) cells)[i]? =if off+k<=i/\i<off+k+Z l/\i<cells.size then l[i-(off+k)]? else cells[i]?
 | [],k,cells=>by
  refine⟨rfl,λi=>?_⟩;simp;omega
 | c::l,k,cells=>by
  obtain⟨h1,a⟩:=M8 off l (k+1) (cells.setIfInBounds (off+k) c);simp only[List.zipIdx_cons,Ap]
  grind
def KC(M:Imm)(ob:Hs)(vs:List (Nat×Value))(as:au):Prop:=
 Z vs=Z as/\∀(i:Nat) (p:Nat×Value) (q:Nat×aa),vs[i]? =X p->as[i]? =X q->p.1=q.1/\Rep M ob p.2 q.2
def zK{place d:Nat->Option (Nat×Nat)}(hp:∀i p,d i=X p->place i=X p):
  ∀{b:au} {vparts:List (Nat×Value)} {cs cs':az} {cells:Array Value},JC d cs b=X cs'->cV M ob cells.toList cs->KC M ob vparts b->
   ∃a,Instr.fill place cells vparts=X a/\cV M ob a.toList cs':=by
 intro b;induction b with
 | nil=>
  intro vparts cs cs' cells h m hl;have:vparts=[]:=Ay hl.1;subst this;cases h;exact⟨cells,rfl,m⟩
 | cons q b F=>
  intro vparts cs cs' cells h m hl;obtain⟨hl,Be⟩:=hl;obtain⟨i,x⟩:=q
  match vparts,hl with
  | (i',v)::vparts,hl=>
   obtain⟨C,f⟩:=Be 0 _ _ rfl rfl;dsimp only at C f;subst C;simp only[JC]at h;split at h
   .cases h
   .rename_i off R s;obtain⟨J,y⟩:=fU h;obtain⟨r,n⟩:=bB J;have o:x≠ .undef:=λe=>by subst e;cases r
    have l:=aG n;rw[B5]at l;split at y
    .rename_i w k;obtain⟨T,At,I⟩:=mJ k;obtain⟨K,L⟩:=f.cells o;have N:v.cells.size=Z x.cells:=o_;obtain⟨Q,As⟩:=M8 off v.cells.toList 0 cells;have G:cells.size=Z cs:=by have:=m.1;omega
     have z:v.cells.zipIdx.foldl (λ(cs:Array Value) (x:Value×Nat)=>match x with|(c,j)=>cs.setIfInBounds (off+j) c) cells=(v.cells.toList.zipIdx 0).foldl (λ(cs:Array Value) (p:Value×Nat)=>cs.setIfInBounds (off+p.2) p.1) cells:=by rw[<-Array.foldl_toList];simp
     have g:cV M ob ((v.cells.toList.zipIdx 0).foldl (λ(cs:Array Value) (p:Value×Nat)=>cs.setIfInBounds (off+p.2) p.1) cells).toList w:=by
      refine⟨by simp;omega,λj u c B A=>?_⟩;rw[Array.getElem?_toList,As j]at B;rw[I j]at A;simp only[Ft]at B;by_cases t:off<=j/\j<off+Z x.cells
      .grind
      .rw [bt t]at A;rw[bt o_]at B;exact m.2 j u c q_ A
     obtain⟨a,P,H⟩:=F (vparts:=vparts) y g ⟨by simpa using hl,λi p q hp S=>Be (i+1) p q q_ q_⟩;refine⟨a,?_,H⟩;simp only[Instr.fill,hp _ _ s]
     grind
    .cases y
def EE{P:Program}:∀{a:List Field} {b:List (Nat×Nat×Bool)},sB P a b->a.mapM (λf=>(P.info? f.type).map λi=>(f.offset,i.size))=X (b.map λf=>(f.1,f.2.1))
 | [],[],_=>rfl
 | [],_::_,h=>h.elim
 | _::_,[],h=>h.elim
 | f::a,(off,sz,ag)::b,h=>by obtain⟨h1,d,h3,g,e⟩:=h;obtain⟨i,c,rfl⟩:=Cg.1 d;simp[List.mapM_cons,c,EE e,h1]
def aBx{α β:Type}(f:α->β):∀(l:List α) (n:Nat),(nth l n).map f=(l.map f)[n]?
 | [],_=>by simp[nth]
 | x::_,0=>rfl
 | _::r,n+1=>by simpa[nth]using aBx f r n
def aJj(hE:ae E){t:TypeId}{g:au}{vparts:Array (Nat×Value)}(hl:KC M ob vparts.toList g):PS0 E.P M ob w (Instr.build t vparts) ac base (ZZ E t g):=by
 unfold ZZ;split
 .rename_i J Q;have o:=hE.tab t J Q;obtain⟨info,z,G,H,hz,I,h,_,_⟩:=o.info;have c:=o.kind;split
  .rename_i L s x j;rw[x]at c;obtain⟨⟨F,C,N⟩,_⟩:=c;split
   .rename_i cs d;rw[j]at h;cases h with
    | agg vs as r k=>
     have l:cV M ob vs.toArray.toList s:=⟨by omega,λi v a As y=>lV (k i v a o_ y)⟩
     obtain⟨b,u,m⟩:=zK (place:=((L.map λf=>(f.1,f.2.1)).toArray[·]?)) (λi p hp=>by rw[aBx]at hp;simpa using hp) d l hl;have q:E.P.built t vparts.toList=X b:=by simp only[Program.built,G,C,hz,EE N];exact u
     have:b=b.toList.toArray:=by simp
     rw[this]at q;exact aZ (run_build w t vparts _ q) (.agg _ _ m.1 m.2)
   .exact trivial
  .rename_i n K R s x j;rw[x]at c;obtain⟨⟨e,C,B,_⟩,_⟩:=c;obtain⟨Be,A,rfl⟩:=Cg.1 B;split
   .rename_i cs d;rw[j]at h;cases h with
    | agg vs as r k=>
     have l:cV M ob vs.toArray.toList s:=⟨by omega,λi v a As y=>lV (k i v a o_ y)⟩
     obtain⟨b,u,m⟩:=zK (place:=λi=>X (i*Be.size,Be.size)) (λi p hp=>hp) d l hl;have q:E.P.built t vparts.toList=X b:=by simp only[Program.built,G,C,hz,A];exact u
     have:b=b.toList.toArray:=by simp
     rw[this]at q;exact aZ (run_build w t vparts _ q) (.agg _ _ m.1 m.2)
   .exact trivial
  .exact trivial
 .exact trivial
end
section
variable {P:Program} {E:Env} {M:Imm} {ob:Hs} {ac:aw} {w:World} {base:Nat}
def Mem.bare(h:Mem M ob ac w):Mem M [] [] w:=
 ⟨h.imm,rfl,λk c a=>by simp at a,λk b ⟨c,hs,h1,_⟩=>by simp at h1,λk d b ⟨c,hs,h1,_⟩=>by simp at h1⟩
def aHC:aE []=λ_=>ab.dead:=by rfl
def Mem.pure0(h:Mem M ob ac w){v:Value}{a:aa}(b:Rep (λ_ _ _=>False) [] v a):Rep M [] v (AW.ai (λ_=>.dead) 4 a):=by have:=h.bare.pureV 4 v a (lV b);rwa [aHC]at this
def D2{t:Nat}{a:Addr}{v:Value}{w':World}(hs:(P.info? t).map (·.size)=X v.cells.size)(h:(storeCells a v.cells.toList).run P w= .ok () w'):
  (Ks t (.pointer (X a)) v).run P w= .ok () w':=by
 unfold Ks Iw storeVar;simp only[Bd,Cb,Ar,af hs,ne_eq,not_true_eq_false,if_false];exact h
def YC{y:aa}{new cs':az}{off:Nat}(a:qK off new y.cells=X cs')(f:sS new=O):(aPV y cs').cells=cs':=by
 obtain⟨i,g,b⟩:=mJ a;by_cases h:∃as,y= .agg as
 .obtain ⟨as,rfl⟩:=h;rfl
 .have d:y.cells=[y]:=by cases y<;>first|rfl|grind
  have e:aPV y cs'=aOA cs':=by cases y<;>first|rfl|grind
  rw[e];rw[d]at g b
  match cs',g,b with
  | [c],_,b=>
   show c.cells=[c]
   grind[Ml,rF,nZ]
theorem aDg{a:Nat}{xs:az}{i off:Nat}{y g:aa}{new:az}(hs:0<a)(l:xs[i]? =X y)(hz:Z y.cells=a)
  (h1:off+Z new<=a) (o:∀(j:Nat),g.cells[j]? =if off<=j/\j<off+Z new then new[j-off]? else y.cells[j]?) {q:Nat} {c:aa} (h:aQ a (xs.set i g) q=X c):
  (i*a+off<=q/\q<i*a+off+Z new/\new[q-(i*a+off)]? =X c)\/((q<i*a+off\/i*a+off+Z new<=q)/\aQ a xs q=X c):=by
 have d:i<Z xs:=(Ad.1 l).1;obtain⟨z,hz1,hz2⟩:=hD h;have f:a*(q / a)+q % a=q:=Ge q a;have k:=Eh q hs;by_cases b:q / a=i
 .rw [b,Ba d]at hz1;cases hz1;rw[o]at hz2;rw[b,De]at f;split at hz2
  .grind
  .rename_i m;right;refine⟨by omega,?_⟩;unfold aQ;rw[b,l];exact hz2
 .rw [Bg (Gq b)]at hz1;right;refine⟨?_,?_⟩
  .rcases Nat.lt_or_ge (q / a) i with e|n
   .left;have:(q / a+1)*a<=i*a:=Bu _ e;rw[Ch,De]at this;omega
   .right;have:(i+1)*a<=q / a*a:=Bu _ o_
    grind[Ch,De]
  .unfold aQ;rw[hz1];exact hz2
def VU(P:Program)(M:Imm)(ob:Hs)(ac:aw)(w:World)(s:Sem Unit)(v:aa)(ap:aw):Prop:=
 v= .undef/\∃w' M' ob',s.run P w= .ok () w'/\Ext M ob ac w M' ob' ap w'/\Mem M' ob' ap w'/\dB ob ac ob' ap
def aI0(hE:ae E)(hm:Mem M ob ac w){t:Nat}{v u:Value}{a x:aa}(hv:Rep M ob v a)(hu:Rep M ob u x):
  Sd (VU E.P M ob ac w (Ks t v u)) (λ_ _=>False) (λ_=>False) ac base (ZM E (aE ac) t a x):=by
 unfold ZM;split
 .exact trivial
 .rename_i Am hT;have T:=hE.tab t Am hT;refine sdc λhg=>?_;obtain⟨H,G⟩:=bB hg;obtain⟨hcl,Be,hcr⟩:=hu.cells_one H;have Y:u.cells.size=Am.size:=by
   have:=aG G;rw[B5]at this
   grind
  have hs:(E.P.info? t).map (·.size)=X u.cells.size:=by rw[Y];exact T.size?
  split
  .rename_i k off;obtain⟨b,rfl,At⟩:=hv.ref_inv;split
   .rename_i T' cs A;have B:=cS A s_;split
    .rename_i cs' f;obtain⟨p1,p2,p3⟩:=mJ f;obtain⟨hs0,e1,b',rfl,hM,cv,hh,hlen',h1',hrep⟩:=hm.obj k _ B;have R:b'=b:=by rw[cN e1]at At;simpa using At
     subst R;have L:off+Z u.cells.toList<=Z cv:=o_;obtain⟨q1,q2⟩:=gE cv u.cells.toList off L;have hst:=run_storeCells_at E.P b' off T' u.cells.toList 0 cv.toArray w hh o_ Be;simp only[Ft]at hst
     have:=hm.cellsTurn (cs':=cs') (cv':=cv.take off++u.cells.toList++cv.drop (off+Z u.cells.toList)) B At o_ (λv hv=>by
       grind[Db,Fl]) (λi v c hvi hci=>by
       grind)
     refine⟨rfl,_,M,ob,D2 hs hst,?_⟩
     grind[aW]
    .exact trivial
   .exact trivial
  .rename_i k g i h off;cases hv with
   | eref _ _ _ _ _ b n c J=>
   split
   .rename_i g' sz' e xs A;have B:=cS A s_;refine sdc λAs=>?_;obtain⟨K,l⟩:=bB As;obtain⟨hg3,r⟩:=bB K;obtain⟨W,hg5⟩:=bB hg3;obtain rfl:=aG W;obtain rfl:=aG hg5;have d:0<h:=Co r;have An:=hm.pureV 4 u x hu;obtain⟨hcl',_,hcr'⟩:=An.cells_one l;obtain⟨hs0,v0,e1,e2,e3,e4,m,_⟩:=hm.rowOf B;have hrl:=m.len;rw[J]at e4;cases e4;obtain⟨cv,_,_,hz,_⟩:=m
    have C:∀{y F:aa},0<h->xs[i]? =X y->off+Z (ai (aE ac) 4 x).cells<=h->(∀(j:Nat),F.cells[j]? =if off<=j/\j<off+Z (ai (aE ac) 4 x).cells then(ai (aE ac) 4 x).cells[j-off]? else y.cells[j]?)->
      Z F.cells=h->VU E.P M ob ac w (Ks t (.pointer (X ⟨b,i*h+off,D⟩)) u) .undef (bU ac k (.row g h e (xs.set i F))):=by
     intro y F d s h1 h2 h3;have o:i<Z xs:=(Ad.1 s).1;have N:(i+1)*h<=Z xs*h:=Bu _ o;rw[Ch,Hu]at N
     obtain⟨w',r1,r2,r3,r4⟩:=hm.rowWrite (P:=E.P) (xs':=xs.set i F) B J d (p:=i*h+off) (news:=u.cells.toList) o_ Be s_ (λz hz'=>by
       grind[List.mem_or_eq_of_mem_set]) (λq c hq=>by
       grind[aDg,Ax,Ab])
     refine⟨rfl,w',M,ob,D2 hs r1,?_⟩;rw[aW B];exact⟨r3,r2,r4⟩
    cases hq:(Av off 0&&Av Am.size h)with
    | true=>
     obtain⟨S,ho2⟩:=bB hq;obtain rfl:=aG S;have hts:=aG ho2;intro o;have Q:Z (ai (aE ac) 4 x).cells=h:=by grind
     have s:=Ab o;have V:=hz _ (Ax s)
     exact C d s o_ (λj=>by
       grind[Bp]) Q
    | false=>
     intro y s;dsimp only;split
     .rename_i cs' f;obtain⟨p1,p2,p3⟩:=mJ f;have V:=hz y (Ax s);have I:=YC f l;exact C d s o_ (λj=>by rw[I];exact p3 j) (by rw[I];omega)
     .exact trivial
   .exact trivial
  .exact trivial
end
section
variable {P:Program} {E:Env} {M:Imm} {ob:Hs} {ac:aw} {w:World} {base:Nat}
def Mem.rowSplice(hm:Mem M ob ac w){k g a:Nat}{e:TypeId}{xs ys:az}(m:ac[k]? =X (.row g a e xs)){b n cap:Nat}(t:at' ob k g=X (.slice (X ⟨b,0,D⟩) n cap))(hs:0<a){i:Nat}(l:i+Z ys<=Z xs)
  (hz:∀y∈ys,Z y.cells=a) {news:bb} (hl:Z news=Z ys*a) (h1:∀u∈news,u.oneCell'=O) (o:∀(q:Nat) c,aQ a ys q=X c->∃u,news[q]? =X u/\Rep M [] u c):
  ∃w',(storeCells ⟨b,i*a,D⟩ news).run P w= .ok () w'/\Mem M ob (ac.set k (.row g a e (xs.take i++ys++xs.drop (i+Z ys)))) w'/\
   Ext M ob ac w M ob (ac.set k (.row g a e (xs.take i++ys++xs.drop (i+Z ys)))) w'/\dB ob ac ob (ac.set k (.row g a e (xs.take i++ys++xs.drop (i+Z ys)))):=by
 obtain⟨r,F,B,Be,C,z,d,_⟩:=hm.rowOf m;obtain⟨cv,_,_,s,_⟩:=d;have f:(i+Z ys)*a<=Z xs*a:=Bu _ l;rw[Ch]at f;refine hm.rowWrite (P:=P) m t hs (p:=i*a) (news:=news) o_ h1 q_ (λy A=>?_) (λq c v=>?_)
 .grind [Db,Fl]
 .rcases K5 hs l v with⟨h,j,x⟩|⟨h,j⟩
  .left;exact⟨h,by omega,o _ c x⟩
  .right;exact⟨by omega,j⟩
theorem uW{xs:az}{i:Nat}:xs.take i++[]++xs.drop (i+0)=xs:=by simp
theorem tH(hm:Mem M ob ac w)(a:ac[base]? =X .dead)(d:ob[base]? =X []){s:Sem Value}{f:Nat}{e:TypeId}{v:Value}{w':World}{xs:az}(h:s.run P w= .ok v w')(g:Grown M w w' f e v xs){hint:Nat}:
  PM P M ob w s ac base (tI hint base f e xs):=by
 have j:base<Z ob:=(Ad.1 d).1;unfold tI;split
 .obtain ⟨h1,i,h3⟩:=g.row hm a d;refine⟨v,w',M,ob.set base [v],h,?_⟩;rw[aW a];refine⟨i,h1,h3,?_⟩;obtain⟨cv,k,_⟩:=g.own;have c:at' (ob.set base [v]) base 0=X v:=by rw[cN (Ba j)];rfl
  rcases eM k with⟨q,_⟩|⟨b,cap,q,_⟩
  all_goals (rw[q]at c⊢;exact .row _ _ _ _ _ c)
 .obtain ⟨h1,i,h3,l⟩:=g.tail hm a d;refine⟨v,w',iZ M v f xs,ob.set base [v],h,?_⟩;rw[aW a]
  grind
def MY(hm:Mem M ob ac w){s:Sem Value}{a:Nat}{e:TypeId}{v:Value}{w':World}{xs:az}(b:s.run P w= .ok v w')(g:Grown M w w' a e v xs){t:Tk}(d:yD ob v t):PM P M ob w s ac base (.val (.slice a xs t)):=by obtain⟨h1,f⟩:=g.more hm;obtain⟨cv,c,_⟩:=g.own;exact⟨v,w',_,ob,b,f,h1,dB.refl _ _,mD c g.hz d⟩
def aEA(hE:ae E)(hm:Mem M ob ac w)(An:ac[base]? =X .dead)(Y:ob[base]? =X []){hint:Nat}{t t2 ty:TypeId}{v x:Value}{s a:aa}(J:Rep M ob v s)(hx:Rep M ob x a):
  PM E.P M ob w (Cv #[t,t2] ty #[v,x]) ac base (xP E hint base (aE ac) t t2 s a):=by
 unfold xP;split
 .rename_i e esz eb _ _ _ hT;obtain⟨⟨L,i,z,K,hsz,heb,hz,B,hz1⟩,_⟩:=(hE.tab t _ hT).kind;subst hsz heb;refine sdc λhp=>?_;have d:0<i.size:=Co hp;split
  .exact trivial
  .rename_i ys hys;have h:=XO hE hm hx hys d;split
   .rename_i sz xs tk;split
    .rename_i k g;split
     .rename_i g' sz' e' y;refine sdc λF=>?_;obtain⟨l,N⟩:=bB F;obtain⟨j,C⟩:=bB l;obtain⟨A,p⟩:=bB j;obtain rfl:=aG A;have Am:=aG C;have T:=aG p;subst T;subst Am;have q4:=aG N;subst q4;rintro⟨H,G⟩;have u:=cS y s_;obtain⟨I,w',M',ob',o,m,At,Q,r5⟩:=hm.appendTail (P:=E.P) (ty:=ty) L K hz hz1 B d u J h H G;refine⟨I,w',M',ob',o,?_⟩;rw[aW u];exact⟨At,m,Q,r5⟩
     .exact trivial
    .refine sdc λF=>?_;have q:=aG F;subst q;rintro⟨H,G⟩;obtain⟨_,W⟩:=J.untok;obtain rfl:v= .slice D 0 0:=W;obtain⟨I,w',o,m⟩:=append_nil (P:=E.P) (ty:=ty) hm L K hz hz1 B d h H G;exact tH hm An Y o m
    .refine sdc λF=>?_;have q:=aG F;subst q;rintro⟨H,G⟩;obtain⟨I,w',o,m⟩:=WX (P:=E.P) (ty:=ty) hm L K hz hz1 B d J h H G;split
     .rcases m with⟨rfl,rfl,rfl⟩|⟨_,m⟩
      .refine ⟨I,w',M,ob,o,Ext.refl _ _ _ _,hm,dB.refl _ _,?_⟩;rw[Ao];exact J.untok.1
      .exact MY hm o m trivial
     .intro R;rcases m with⟨_,rfl,rfl⟩|⟨q,_⟩
      .exact ⟨I,w',M,ob,o,Ext.refl _ _ _ _,hm,dB.refl _ _,J⟩
      .exact bv R q
     .intro R
      grind[tH]
    .exact trivial
   .rintro ⟨H,G⟩;cases J;obtain⟨I,w',o,m⟩:=append_nil (P:=E.P) (ty:=ty) hm L K hz hz1 B d h H G;exact tH hm An Y o m
   .rename_i k g;split
    .rename_i g' sz e' xs y;refine sdc λF=>?_;obtain⟨j,C⟩:=bB F;obtain⟨A,p⟩:=bB j;obtain rfl:=aG A;have T:=aG p;subst T;have Am:=aG C;subst Am;rintro⟨H,G⟩;have u:=cS y s_;obtain⟨ad,n,c,rfl,f⟩:=J.row_inv;obtain⟨I,w',ob',o,m,At,Q,r5⟩:=hm.appendRow (P:=E.P) (ty:=ty) L K hz hz1 B d u f h H G;refine⟨I,w',M,ob',o,?_⟩;rw[aW u];exact⟨At,m,Q,r5⟩
    .exact trivial
   .rename_i k g lo len sz;split
    .rename_i g' sz' e' xs y;refine sdc λF=>?_;obtain⟨l,N⟩:=bB F;obtain⟨j,C⟩:=bB l;obtain⟨A,p⟩:=bB j;obtain rfl:=aG A;have Am:=aG C;have T:=aG p;subst T;subst Am;have q4:=aG N;subst q4;intro hfit;have u:=cS y s_;obtain⟨hs0,v0,e1,e2,e3,e4,V,_⟩:=hm.rowOf u;have S:∀{ad n c},at' ob k g=X (.slice ad n c)->n=Z xs:=λ{ad n c} f=>by rw[f]at e4;cases e4;rcases V.len with⟨q,rfl⟩|⟨b,cap,q,_⟩<;>cases q<;>rfl
     obtain⟨⟨news,Be,s2⟩,hz',_⟩:=h;cases J with
     | sub _ _ _ _ _ b n c f hl hn hc hmm=>
      have:=S f;obtain⟨w',o,m,At,Q⟩:=hm.rowSplice (P:=E.P) (ys:=ys) (i:=lo+len) (news:=news) u f d o_ hz' Be.newsLen Be.one s2;refine⟨.slice (X ⟨b,lo*i.size,D⟩) (len+Z ys) (c-lo),w',M,ob,?_,?_⟩
      .have hst:(storeCells ((⟨b,lo*i.size,D⟩:Addr).add (len*i.size)) news).run E.P w= .ok () w':=by rw[bK,<-Ch];exact o
       have As:len+Z ys<=c-lo:=o_;rcases Be.kind with⟨e',r⟩|r<;>simp[Cv,run_underlying L,run_underlying r,sizeOf,typeInfo,K,Be.len,As,Be.cells,hst]
      .rw [aW u];exact⟨At,m,Q,.sub _ _ _ _ _ b n c f hl o_ hc hmm⟩
     | sub0 _ _ _ _ ad a' n c f hl hc=>
      have:=S f;have hy0:ys=[]:=Ay o_;subst hy0;have hn0:news=[]:=Ay (by rw[Be.newsLen];simp);subst hn0;refine⟨.slice a' 0 0,w,M,ob,?_,?_⟩
      .have hc0:(Cn i.size 0 x).run E.P w= .ok #[] w:=Be.cells;have hl0:∀w,(Builtin.lenOf x).run E.P w= .ok 0 w:=Be.len;rcases Be.kind with⟨e',r⟩|r<;>cases a'<;>simp[Cv,run_underlying L,run_underlying r,sizeOf,typeInfo,K,hl0,hc0,storeCells]
      .rw [aW u];have:ac.set k (.row g i.size e (xs.take (lo+0)++[]++xs.drop (lo+0+Z ([]:az))))=ac:=by rw[Bj,uW];exact gR u
       rw[this];exact⟨Ext.refl _ _ _ _,hm,dB.refl _ _,.sub0 _ _ _ _ ad a' n c f hl hc⟩
    .exact trivial
   .exact trivial
 .exact trivial
end
section
variable {P:Program} {E:Env} {M:Imm} {ob:Hs} {ac:aw} {w:World} {base:Nat}
def aHS{α:Type}(l:List α)(n:Nat):l.drop (min n (Z l))=l.drop n:=by simp
def aNt(hE:ae E)(hm:Mem M ob ac w){t Q ty:TypeId}{v x:Value}{d a:aa}(hv:Rep M ob v d)(hx:Rep M ob x a):
  PM E.P M ob w (Kt #[t,Q] ty #[v,x]) ac base (aJg E (aE ac) t Q d a):=by
 unfold aJg;split
 .rename_i e esz eb _ _ _ hT;obtain⟨⟨hu,i,z,hi,W,At,hz,hzs,hz1⟩,_⟩:=(hE.tab t _ hT).kind;subst W At;refine sdc λhp=>?_;have B:0<i.size:=Co hp
  have u:∀n:Nat,(n:Int)<=9223372036854775807->inR .i64 (n:Int):=λn h=>⟨by simp only[bS];omega,by simp only[aX];omega⟩
  split
  .exact trivial
  .rename_i ys V;obtain⟨⟨Am,s1,_⟩,S,l⟩:=XO hE hm hx V B
   have run:∀{s:Option Addr} {n c m:Nat} {news:bb} {w':World},m=min (Z ys) n->(Cn i.size m x).run E.P w= .ok news.toArray w->(∀a,s=X a->(storeCells a news).run E.P w= .ok () w')->(s=D->w'=w)->
     (Kt #[t,Q] ty #[.slice s n c,x]).run E.P w= .ok (.int .i64 (m:Nat)) w':=by
    intro s n c m news w' h1 h2 h3 h4;subst h1;have A:Nat.min (Z ys) n=min (Z ys) n:=rfl;cases s with
    | none=>
     rw[h4 rfl];simp[Kt,run_underlying hu,s1.len,A,sizeOf,typeInfo,hi,h2,goInt]
    | some a=>
     simp[Kt,run_underlying hu,s1.len,A,sizeOf,typeInfo,hi,h2,h3 a rfl,goInt]
   have put:∀{k g:Nat} {xs:az} {b n cap p m:Nat},ac[k]? =X (.row g i.size e xs)\/(∃o,ac[k]? =X (.row g i.size o xs))->True:=λ_=>trivial;clear put
   have key:∀{k g:Nat} {o:TypeId} {xs:az} {b n cap p m:Nat},ac[k]? =X (.row g i.size o xs)->at' ob k g=X (.slice (X ⟨b,0,D⟩) n cap)->m<=Z ys->p+m<=Z xs->
     ∃(news:bb) (w':World),(Cn i.size m x).run E.P w= .ok news.toArray w/\(storeCells ⟨b,p*i.size,D⟩ news).run E.P w= .ok () w'/\
      Mem M ob (ac.set k (.row g i.size o (xs.take p++ys.take m++xs.drop (p+m)))) w'/\Ext M ob ac w M ob (ac.set k (.row g i.size o (xs.take p++ys.take m++xs.drop (p+m)))) w'/\dB ob ac ob (ac.set k (.row g i.size o (xs.take p++ys.take m++xs.drop (p+m)))):=by
    intro k g o xs b n cap p m j f An hpm;obtain⟨news,n1,n2,G,H⟩:=l m An;have L:Z (ys.take m)=m:=by simp;omega
    obtain⟨w',r1,r2,r3,r4⟩:=hm.rowSplice (P:=E.P) (ys:=ys.take m) (i:=p) (news:=news) j f B o_ (λy hy=>S y (Db hy)) (by rw[L];exact n2) G (λq c hq=>by grind[iJ,pX])
    grind
   split
   .rename_i k g;split
    .rename_i g' sz o xs Be;refine sdc λR=>?_;obtain⟨F,C⟩:=bB R;obtain rfl:=aG F;have As:=aG C;subst As;have j:=cS Be s_;obtain⟨s,n,c,rfl,f⟩:=hv.row_inv;obtain⟨hs0,v0,e1,e2,e3,K,r,_⟩:=hm.rowOf j;rw[f]at K;cases K;rcases r.len with⟨q,rfl⟩|⟨b,cap,q,As,q3,q4⟩
     .cases q;obtain⟨news,n1,n2,_⟩:=l 0 (Bq _);refine⟨.int .i64 ((0:Nat):Int),w,M,ob,run (m:=0) s_ n1 (λa h=>by cases h) (λ_=>rfl),?_⟩;rw[aW j];have:ac.set k (.row g i.size o (ys.take (Z ([]:az))++([]:az).drop (Z ys)))=ac:=by simp only[Bj,Iv,List.drop_nil,Ao];exact gR j
      rw[this];exact⟨Ext.refl _ _ _ _,hm,dB.refl _ _,by simpa using Rep.int .i64 0 (u 0 d_)⟩
     .cases q;obtain⟨news,w',n1,n2,G,H,N⟩:=key (p:=0) (m:=min (Z ys) (Z xs)) j f (Nat.min_le_left _ _) o_;rw[Mn]at n2;refine⟨.int .i64 ((min (Z ys) (Z xs):Nat):Int),w',M,ob,run rfl n1 (λa h=>by cases h;exact n2) (λh=>by cases h),?_⟩;rw[aW j];have Y:xs.take 0++ys.take (min (Z ys) (Z xs))++xs.drop (0+min (Z ys) (Z xs))=ys.take (Z xs)++xs.drop (Z ys):=by
       rw[Iv,List.nil_append,Bv,aHS]
       grind[Gw,Gk,Bl,Nat.min_eq_right]
      rw[Y]at G H N;have hmx:=fR;have:min (Z ys) (Z xs)<=Z xs:=Nat.min_le_right _ _;exact⟨H,G,N,.int _ _ (u _ o_)⟩
    .exact trivial
   .rename_i k g lo len sz;split
    .rename_i g' sz' o xs Be;refine sdc λR=>?_;obtain⟨I,hg3⟩:=bB R;obtain⟨F,C⟩:=bB I;obtain rfl:=aG F;have q3:=aG hg3;have As:=aG C;subst As;subst q3;have j:=cS Be s_;obtain⟨hs0,v0,e1,e2,e3,K,r,_⟩:=hm.rowOf j;have J:∀{s n c},at' ob k g=X (.slice s n c)->n=Z xs:=λ{s n c} f=>by rw[f]at K;cases K;rcases r.len with⟨q,rfl⟩|⟨b,cap,q,_⟩<;>cases q<;>rfl
     cases hv with
     | sub _ _ _ _ _ b n c f hl hn hc hmm=>
      have:=J f;obtain⟨news,w',n1,n2,G,H,N⟩:=key (p:=lo) (m:=min (Z ys) len) j f (Nat.min_le_left _ _) o_;refine⟨.int .i64 ((min (Z ys) len:Nat):Int),w',M,ob,run rfl n1 (λa h=>by cases h;exact n2) (λh=>by cases h),?_⟩;rw[aW j];have Y:ys.take (min (Z ys) len)=ys.take len:=by grind[Gw,Gk,Bl,Nat.min_eq_right]
      rw[Y]at G H N;have:min (Z ys) len<=len:=Nat.min_le_right _ _;exact⟨H,G,N,.int _ _ (u _ o_)⟩
     | sub0 _ _ _ _ s a' n c f hl hc=>
      have:=J f;obtain⟨news,n1,n2,_⟩:=l 0 (Bq _);have T:news=[]:=Ay o_;subst T;refine⟨.int .i64 ((0:Nat):Int),w,M,ob,run (m:=0) s_ n1 (λa h=>rfl) (λ_=>rfl),?_⟩;rw[aW j];have:ac.set k (.row g i.size o (xs.take lo++ys.take 0++xs.drop (lo+min (Z ys) 0)))=ac:=by grind[Nat.min_zero,uW,gR]
      rw[this];exact⟨Ext.refl _ _ _ _,hm,dB.refl _ _,by simpa using Rep.int .i64 0 (u 0 d_)⟩
    .exact trivial
   .exact trivial
 .exact trivial
def CP{z:Value}{a:aa}(e:Rep M [] z a)(d:a≠ .undef){b:Nat}(hz:z.cells.size=b)(hs:0<b){n:Nat}{cv:bb}(hl:Z cv=n*b)(f:∀q,q<n*b->cv[q]? =z.cells.toList[q % b]?):
  (∀y∈Ak n a,Z y.cells=b)/\∀(q:Nat) c,aQ b (Ak n a) q=X c->∃u,cv[q]? =X u/\Rep M [] u c:=by
 obtain⟨h1,g⟩:=e.cells d
 grind[iJ,Gj,hD,Ax,Eh,Ab]
def yF{z:Array Value}{n:Nat}:Z (Cl z n).toList=n*z.size/\∀q,q<n*z.size->(Cl z n).toList[q]? =z.toList[q % z.size]?:=by
 refine⟨by simp[Cl],λq b=>?_⟩;have hs:0<z.size:=by grind
 have a:=Eh q hs;simp only[Cl,Kj,Cd,Array.toList_range];simp_all
def KS{z:Array Value}{n:Nat}(hs:0<z.size):Z (madeCells z n).toList=n/\∀q,q<n->(madeCells z n).toList[q]? =z.toList[q % z.size]?:=by refine⟨by simp[madeCells],λq b=>?_⟩;have a:=Eh q hs;simp only[madeCells,Kj,Cd,Array.toList_range];simp_all
def aCN{z:Array Value}{cv:bb}{n:Nat}(h:z.toList.all (·.oneCell')=O)(hl:Z cv=n)(b:∀q,q<n->∃j:Nat,cv[q]? =z.toList[j]?):∀u∈cv,u.oneCell'=true:=λu a=>by grind[Ck,List.all_eq_true,Ax]
theorem FN{a:aa}(h:H3 a=O):a≠ .undef:=λe=>by subst e;cases h
def aJi(hE:ae E)(hm:Mem M ob ac w){t ty:TypeId}{v:Value}{d:aa}(l:Rep M ob v d):PM E.P M ob w (Kb #[t] ty #[v]) ac base (ZY E (aE ac) t d):=by
 unfold ZY;split
 .rename_i e esz eb _ _ _ hT;obtain⟨⟨F,i,z,W,J,I,hz,y,hz1⟩,_⟩:=(hE.tab t _ hT).kind;subst J I;split
  .rename_i A T;refine sdc λhp=>?_;obtain⟨K,G⟩:=bB hp;have j:0<i.size:=Co K;obtain⟨i',z',r,hsz',s,hzs',H,u,hne⟩:=(hE.tab e A T).info;rw[W]at r;cases r;rw[hz]at s;cases s;split
   .rename_i k g lo len sz;split
    .rename_i g' sz' e' xs L;refine sdc λhg=>?_;obtain⟨o,S⟩:=bB hg;obtain⟨Q,B⟩:=bB o;obtain rfl:=aG Q;have q3:=aG S;have q2:=aG B;subst q2;subst q3;have m:=cS L s_;obtain⟨hs0,v0,e1,e2,e3,Y,p,_⟩:=hm.rowOf m;have C:∀{At n c},at' ob k g=X (.slice At n c)->n=Z xs:=λ{At n c} f=>by rw[f]at Y;cases Y;rcases p.len with⟨q,rfl⟩|⟨b,cap,q,_⟩<;>cases q<;>rfl
     have same:len=0->ac.set k (.row g i.size e' (xs.take lo++Ak len (ai (λ_=>.dead) 4 A.zero)++xs.drop (lo+len)))=ac:=λh=>by subst h;rw[List.replicate_zero,uW];exact gR m
     cases l with
     | sub _ _ _ _ _ b n c f hl hn hc hmm=>
      have:=C f;by_cases V:len=0
      .refine ⟨.tuple #[],w,M,ob,?_,?_⟩
       .subst V;simp[Kb,run_underlying F]
       .rw [aW m,same V];exact⟨Ext.refl _ _ _ _,hm,dB.refl _ _,.tup [] [] rfl λi v a l=>by simp at l⟩
      .have N:=hm.pure0 H;obtain⟨R,As⟩:=yF (z:=z.cells) (n:=len);rw[y]at R As;have x:ai (λ_=>.dead) 4 A.zero≠ .undef:=FN G;obtain⟨r1,r2⟩:=CP (M:=M) N x y j R As;obtain⟨w',s1,Am,An,s4⟩:=hm.rowSplice (P:=E.P) (ys:=Ak len (ai (λ_=>.dead) 4 A.zero)) (i:=lo) (news:=(Cl z.cells len).toList) m f j q_ r1 q_ (aCN u R λq hq=>⟨_,As q hq⟩) r2;rw[Gj]at Am An s4;refine⟨.tuple #[],w',M,ob,?_,?_⟩
       .have Be:(zeroValue e).run E.P w= .ok z w:=by simp[zeroValue,typeInfo,W,hz]
        cases len with
        | zero=>omega
        | succ len=>simp[Kb,run_underlying F,Be,s1]
       .rw [aW m];exact⟨An,Am,s4,.tup [] [] rfl λi v a l=>by simp at l⟩
     | sub0 _ _ _ _ At a' n c f hl hc=>
      refine⟨.tuple #[],w,M,ob,?_,?_⟩
      .cases a'<;>simp[Kb,run_underlying F]
      .rw [aW m,same rfl];exact⟨Ext.refl _ _ _ _,hm,dB.refl _ _,.tup [] [] rfl λi v a l=>by simp at l⟩
    .exact trivial
   .exact trivial
  .exact trivial
 .exact trivial
def aNr(hE:ae E)(hm:Mem M ob ac w)(v:ac[base]? =X .dead)(A:ob[base]? =X []){t:TypeId}{H G:Value}{n c:aa}(Q:Rep M ob H n)(Am:Rep M ob G c){hint:Nat}:
  PM E.P M ob w (Instr.makeSlice t H G) ac base (aCs E hint base t n c):=by
 unfold aCs;split
 .rename_i e R eb _ _ _ k a S b An;obtain⟨⟨N,i,z,J,p,Be,hz,j,hz1⟩,_⟩:=(hE.tab t _ An).kind;subst p Be;split
  .rename_i K s;refine sdc λhp=>?_;obtain⟨u,r⟩:=bB hp;have d:0<i.size:=Co u;obtain⟨i',z',h,I,l,F,x,o,As⟩:=(hE.tab e K s).info;rw[J]at h;cases h;rw[hz]at l;cases l;obtain⟨rfl,_⟩:=Q.int_inv;obtain⟨rfl,_⟩:=Am.int_inv;rintro m rfl ⟨rfl,V,c3⟩;have W:=fR;have f:=run_make (P:=E.P) w t e i z N J hz k S (m:Int) (m:Int) o_ (Em _) V o_;rw[Bo]at f;have y:=hm.pure0 x;obtain⟨L,B⟩:=KS (z:=z.cells) (n:=m*i.size) o_;rw[j]at B;obtain⟨At,Y⟩:=CP (M:=M) y (FN r) j d L B;have g:=Grown.ofAlloc (M:=M) (w:=w) (e:=e) (xs:=Ak m (ai (λ_=>.dead) 4 K.zero)) (cv:=(madeCells z.cells (m*i.size)).toList) d q_ (aCN o L λq T=>⟨_,B q T⟩) At q_ Y;have C:(madeCells z.cells (m*i.size)).toList.toArray=madeCells z.cells (m*i.size):=by simp
   rw[C,Gj]at g;exact tH (hint:=2) hm v A f g
  .exact trivial
 .exact trivial
def aCw:∀(new l:az),Z new<=Z l->∃r,aAb new l=X r
 | [],l,_=>⟨l,rfl⟩
 | _::_,[],h=>by simp at h
 | c::new,d::l,h=>by obtain⟨r,a⟩:=aCw new l (by grind);exact⟨c::r,by simp[aAb,a]⟩
def NW:∀(off:Nat) (new l:az),off+Z new<=Z l->∃r,qK off new l=X r
 | 0,new,l,h=>by obtain⟨r,a⟩:=aCw new l o_;exact⟨r,by simpa[qK]using a⟩
 | n+1,new,[],h=>by simp at h
 | n+1,new,c::l,h=>by obtain⟨r,a⟩:=NW n new l (by grind);exact⟨c::r,by simp[qK,a]⟩
def TJ(og:Nat->ab)(l:au):au:=l.map λp=>(p.1,ai og 4 p.2)
def QP(og:Nat->ab)(d:Nat):∀{b:au} {n:Nat} {xs:az} {base:az},JD og d n b=X xs->(n+Z b)*d<=Z base->
  ∃cs',JC (λi=>X (i*d,d)) base (TJ og b)=X cs'/\Z cs'=Z base/\(∀o,o<n*d->cs'[o]? =base[o]?)/\Z xs=Z b/\
   (∀x∈xs,Z x.cells=d/\sS x.cells=O)/\∀(i j:Nat) x c,xs[i]? =X x->x.cells[j]? =X c->cs'[(n+i)*d+j]? =X c:=by
 intro b;induction b with
 | nil=>intro n xs base h hl;cases h;exact⟨base,rfl,rfl,λ_ _=>rfl,rfl,λx e=>by simp at e,λi j x c e=>by simp at e⟩
 | cons p b y=>
  intro n xs base h hl;obtain⟨i,I⟩:=p;simp only[JD]at h
  obtain⟨v,u⟩:∃v,ai og 4 I=v:=⟨_,rfl⟩
  rw[u]at h;obtain⟨t,m⟩:=fU h;simp only[Af]at t;obtain⟨⟨z,r⟩,F⟩:=t;have Be:=aG z;subst Be;have hz:=aG r;rw[B5]at hz;cases k:JD og d (i+1) b with
  | none=>simp[k]at m
  | some l=>
   simp only[k,Ff]at m;subst m;have g:(i+1)*d<=Z base:=by refine Cp (Bu _ ?_) hl;simp
   rw[Ch,Hu]at g;obtain⟨G,f⟩:=NW (i*d) v.cells base o_;obtain⟨N,J,B⟩:=mJ f;obtain⟨cs',s,H,C,A,L,As⟩:=y (base:=G) k (by grind[Cp,Nat.le_of_eq]);have q:H3 v=true:=by cases v<;>first|rfl|(simp[aa.cells,sS,AW.one]at F)
   refine⟨cs',by
    unfold TJ at s⊢
    simp only[Bf,JC,u,q,r,Bool.and_self,cond_true,f,s],H.trans J,λo K=>?_,by simp[A],λx e=>?_,λa j x c e w=>?_⟩
   .grind
   .grind
   .cases a with
    | zero=>
     simp at e;subst e;have M:j<d:=by rw[<-hz];exact(Ad.1 w).1
     rw[Ft,C _ (by rw[Ch];omega),B,bu o_,Jr];exact w
    | succ a=>
     grind
def aLO(l:au):aHl l=Z l:=by induction l with
 | nil=>rfl
 | cons a r b=>simp[aHl,b]
def KX(hE:ae E)(hm:Mem M ob ac w)(Q:ac[base]? =X .dead)(S:ob[base]? =X []){hint:Nat}{t:TypeId}{len:Nat}{h:au}{vparts:Array (Nat×Value)}(hl:KC M ob vparts.toList h):
  PM E.P M ob w (Kl t len vparts) ac base (pT E hint base (aE ac) t len h):=by
 unfold pT;split
 .rename_i e d eb _ _ _ hT;obtain⟨⟨hu,ie,z,An,hs,hb,hz,hzs,_⟩,_⟩:=(hE.tab t _ hT).kind;refine sdc λAm=>?_;simp only[Af]at Am;obtain⟨⟨g1,g2⟩,g3⟩:=Am;have r:=aG g1;rw[aLO]at r;have R:len*d<=1000:=Co g2;have k:1<=d:=Co g3;split
  .rename_i xs As
   let f:Array Value:=if len*d=0 then #[]else(Nt (len*d)).map (z.cells[· % z.cells.size]!)
   have A:f.size=len*d:=by grind
   obtain⟨cs',e1,e2,_,e4,e5,e6⟩:=QP (aE ac) d (base:=Ak (len*d) .undef) As (by simp[r])
   have J:cV M [] f.toList (Ak (len*d) aa.undef):=⟨by simp[A],λi v a _ ha=>by
    have:a= .undef:=(Jn.1 (Ax ha)).2;subst this
    exact .undef _⟩
   have K:KC M [] vparts.toList (TJ (aE ac) h):=⟨by unfold TJ;rw[Bw];exact hl.1,λi p q hp T=>by
    unfold TJ at T;rw[Cd]at T;obtain⟨q',F,rfl⟩:=Cg.1 T;obtain⟨a1,a2⟩:=hl.2 i p q' hp F
    exact⟨a1,hm.pureV 4 _ _ a2⟩⟩
   obtain⟨b,f1,N⟩:=zK (place:=λi=>X (i*d,d)) (λi p hp=>hp) e1 J K;have o:(Kl t len vparts).run E.P w= .ok (.slice (X ⟨w.heap.size,0,Nu⟩) len len) (w.alloc (.cells b e)):=by
    have L:(E.P.info? e).map (·.size)=X d:=by simp[An,hs]
    unfold Kl;simp only[Bd,run_underlying hu,Ar,af L];rw[bt o_];have I:(zeroValue e).run E.P w= .ok z w:=by simp[zeroValue,typeInfo,An,hz]
    by_cases W:len*d=0
    .have s:(Nt (len*d)).map ((#[]:Array Value)[· % (#[]:Array Value).size]!)=f:=by grind
     rw[bu W];simp only[Bd,Cb,Ar];rw[s,f1];rfl
    .have s:(Nt (len*d)).map (z.cells[· % z.cells.size]!)=f:=by grind
     rw[bt W];simp only[Bd,Cb,Ar,I];rw[s,f1];rfl
   have l:Z xs=len:=by rw[e4,r]
   have B:Z b.toList=Z xs*d:=by rw[N.1,e2];simp;rw[l]
   have m:∀(j:Nat) c,aQ d xs j=X c->cs'[j]? =X c/\AW.one c=true:=by
    intro j c C;obtain⟨y,hy,G⟩:=hD C;have:=e6 _ _ y c hy G;rw[Bv,De,Ge]at this
    grind[Ax,nZ]
   have Be:∀u∈b.toList,u.oneCell'=true:=λu At=>by
    obtain⟨j,Y⟩:=Ck At;have n:j<Z xs*d:=by rw[<-B];exact(Ad.1 Y).1
    obtain⟨c,C⟩:=DR k (λx V=>(e5 x V).1) n;obtain⟨h1,h2⟩:=m j c C;exact(N.2 j u c Y h1).one h2
   have g:=Grown.ofAlloc (M:=M) (w:=w) (e:=e) (xs:=xs) (cv:=b.toList) k B Be (λx V=>(e5 x V).1) (by rw[l];unfold maxLen;have:len*1<=len*d:=Nat.mul_le_mul_left _ k;omega) (λq c C=>by
    obtain⟨h1,_⟩:=m q c C;have n:q<Z b.toList:=by rw[B];exact iJ k C
    exact⟨_,Ab n,N.2 q _ c (Ab n) h1⟩)
   have H:b.toList.toArray=b:=by simp
   rw[H,l]at g;split
   .exact MY hm o g ⟨_,len,rfl⟩
   .exact tH hm Q S o g
  .exact trivial
 .exact trivial
def T8(hm:Mem M ob ac w)(c:ac[base]? =X .dead)(e:ob[base]? =X []){t:TypeId}{v:Value}{a:aa}(h:Rep M ob v a)(h1:sS a.cells=O):
  PM P M ob w (do Pure.pure (.pointer (X (<-newVar t v))):Sem Value) ac base (.born (.cells t a.cells) (.ref base 0)):=by
 obtain⟨hl,b,f⟩:=h.cells_one h1;obtain⟨g,i,j,k⟩:=hm.bornCells c e t hl b f;have d:v.cells.toList.toArray=v.cells:=by simp
 rw[d]at g i;refine⟨.pointer (X ⟨w.heap.size,0,Nu⟩),w.alloc (.cells v.cells t),M,ob.set base [.pointer (X ⟨w.heap.size,0,Nu⟩)],?_,?_⟩
 .rfl
 .rw [aW c]
  grind
end
section
variable {P:Program} {E:Env} {M:Imm} {ob:Hs} {ac:aw} {w:World} {base:Nat}
def aOo(P:Program)(k:Nat)(a:Bool)(n:Nat):Prop:=(a=U/\n=1/\P.underlying k=X (.int .i64))\/(a=O/\(P.underlying k).isSome=O/\RF P k n)
def MR:∀{cs:az} {l:ax},UR cs=X l->cs=l.map (aa.int .i64)
 | [],l,h=>by cases h;rfl
 | c::r,l,h=>by
  cases c<;>first|(simp[UR]at h;done)|skip
  rename_i k n;cases k<;>first|(simp[UR]at h;done)|skip
  cases a:UR r with
  | none=>simp[UR,a]at h
  | some q=>
   simp only[UR,a,Ff]at h;subst h;simp[MR a]
def C5(hE:ae E){k:Nat}{d:Bool}{a:aa}{l:ax}{v:Value}(h:MQ E k d a=X l)(m:Rep M ob v a):v=iH d l/\aOo E.P k d (Z l):=by
 cases d with
 | false=>
  simp only[MQ]at h;split at h
  .rename_i g;split at h
   .cases h;have o:=(hE.tab _ _ g).kind.1;exact⟨m.int_inv.1,.inl ⟨rfl,rfl,o⟩⟩
   .cases h
  .cases h
 | true=>
  simp only[MQ]at h;split at h
  .rename_i s g;have j:=(hE.tab _ _ g).kind.isAgg.1;split at h
   .rename_i cs;split at h
    .rename_i r f;obtain⟨h1,q⟩:=fU h;cases q;obtain⟨h3,t⟩:=bB h1;have e:=MR f;subst e;obtain⟨vs,rfl,hl,p⟩:=m.agg_inv;have c:Z l=E3 E.fl k:=by grind[aG,B5]
     refine⟨?_,.inr ⟨rfl,j,?_⟩⟩
     .simp only[iH,if_true];congr 2;refine Fe λi=>?_;rw[Cd];cases f:l[i]? with
      | none=>
       grind[List.getElem?_eq_none_iff,Bp]
      | some n=>
       have b:i<Z vs:=by grind[Ad]
       have:=p i _ (.int .i64 n) (Ab b) (by simp[f]);rw[Ab b,this.int_inv.1];rfl
     .rw [c];exact(hE.fl k (by simpa[Nat.blt_eq]using h3)).2
    .cases h
   .cases h
  .cases h
def sV:∀{es:List (ax×aa)} {key:ax},(∀y∈es,y.1≠key)->cE es key=D/\(∀v,oA es key v=es++[(key,v)])/\KR es key=es
 | [],key,_=>⟨rfl,λ_=>rfl,rfl⟩
 | (k,x)::r,key,h=>by obtain⟨h1,c,h3⟩:=sV (es:=r) (key:=key) λy b=>h y (by simp[b]);have a:¬ k=key:=h (k,x) s_;exact⟨by simp[cE,a,h1],λv=>by simp[oA,a,c],by simp[KR,a,h3]⟩
def BE:∀{es:List (ax×aa)} {key:ax} {j:Nat} {y:ax×aa},es[j]? =X y->y.1=key->(∀(i:Nat) b,i<j->es[i]? =X b->b.1≠key)->
  cE es key=X y.2/\(∀v,oA es key v=es.set j (key,v))/\KR es key=es.eraseIdx j
 | [],key,j,y,h,_,_=>by simp at h
 | (k,x)::r,key,0,y,h,a,_=>by
  simp only[Ml,Ff]at h;subst h;have a:k=key:=a;exact⟨by simp[cE,a],λv=>by simp[oA,a],by simp[KR,a]⟩
 | (k,x)::r,key,j+1,y,h,a,hb=>by obtain⟨h1,e,h3⟩:=BE (es:=r) (key:=key) (j:=j) (y:=y) (by simpa using h) a λi b f d=>hb (i+1) b o_ q_;have c:¬ k=key:=hb 0 (k,x) o_ rfl;exact⟨by simp[cE,c,h1],λv=>by simp[oA,c,e],by simp[KR,c,h3]⟩
def LA(b:Bool)(n:Nat)(a:List MapEntry)(es:List (ax×aa)):Prop:=Z a=Z es/\∀(i:Nat) x y,a[i]? =X x->es[i]? =X y->x.key=iH b y.1/\Z y.1=n
def LA.tail{c:Bool}{n:Nat}{x:MapEntry}{y:ax×aa}{d:List MapEntry}{es:List (ax×aa)}(h:LA c n (x::d) (y::es)):LA c n d es:=
 ⟨by simpa using h.1,λi a b e f=>h.2 (i+1) a b (by grind) (by grind)⟩
def LA.cons{a:Bool}{n:Nat}{x:MapEntry}{b:List MapEntry}{es:List (ax×aa)}(h:LA a n (x::b) es):∃y r,es=y::r/\x.key=iH a y.1/\Z y.1=n/\LA a n b r:=by
 cases es with
 | nil=>have:=h.1;simp at this
 | cons y r=>exact⟨y,r,rfl,(h.2 0 x y rfl rfl).1,(h.2 0 x y rfl rfl).2,h.tail⟩
def EQ(key:ax)(a:List MapEntry)(es:List (ax×aa))(o:Nat)(r:Option (Nat×Value)):Prop:=
 (r=D/\∀y∈es,y.1≠key)\/∃j x y,r=X (o+j,x.val)/\a[j]? =X x/\es[j]? =X y/\y.1=key/\∀(i:Nat) y',i<j->es[i]? =X y'->y'.1≠key
def EQ.there{key:ax}{x:MapEntry}{y:ax×aa}{a:List MapEntry}{es:List (ax×aa)}{o:Nat}(h:y.1=key):EQ key (x::a) (y::es) o (X (o,x.val)):=
 .inr ⟨0,x,y,rfl,rfl,rfl,h,λi _ b=>by omega⟩
def EQ.on{key:ax}{x:MapEntry}{y:ax×aa}{a:List MapEntry}{es:List (ax×aa)}{o:Nat}{r:Option (Nat×Value)}(c:y.1≠key)(h:EQ key a es (o+1) r):EQ key (x::a) (y::es) o r:=by
 rcases h with⟨h1,e⟩|⟨j,x',b,h1,e,h3,d,g⟩
 .exact .inl ⟨h1,λz hz=>by grind⟩
 .refine .inr ⟨j+1,x',b,by grind,by simp;omega,by simp;omega,d,λi z f hz=>?_⟩
  grind
def EH(a:Int):∀(c:List MapEntry) (es:List (ax×aa)) (o:Nat),LA U 1 c es->∃r,Mb (.int .i64) (.int .i64 a) c o=X r/\EQ [a] c es o r
 | [],es,o,h=>⟨D,rfl,.inl ⟨rfl,λy m=>by
   have:es=[]:=Ay (by have:=h.1;grind)
   grind⟩⟩
 | x::c,es,o,h=>by
  obtain⟨y,r,rfl,h1,f,h3⟩:=h.cons;obtain⟨k,v⟩:=y;have f:Z k=1:=f
  match k,f with
  | [b],_=>
   have g:x.key= .int .i64 b:=h1;simp only[Mb,g,Instr.sameNow,if_true];by_cases d:a=b
   .subst d;simp only[beq_self_eq_true];exact⟨_,rfl,.there rfl⟩
   .have:(a==b)=false:=by grind
    rw[this];obtain⟨j,i,l⟩:=EH a c r (o+1) h3;exact⟨j,i,.on (λe=>d (by cases e;rfl)) l⟩
def tT{k:Nat}{n:Nat}(f:RF P k n){key:ax}(d:Z key=n):∀(b:List MapEntry) (es:List (ax×aa)) (o:Nat),LA O n b es->∃r,(Km k (iH O key) b o).run P w= .ok r w/\EQ key b es o r
 | [],es,o,h=>⟨D,by rfl,.inl ⟨rfl,λy m=>by
   have:es=[]:=Ay (by have:=h.1;grind)
   grind⟩⟩
 | x::b,es,o,h=>by
  obtain⟨y,r,rfl,h1,i,h3⟩:=h.cons;have a:=(f w key y.1 d i).1;rw[<-h1]at a;by_cases c:key=y.1
  .rw [bq c]at a;exact⟨_,by simp[Km,a],.there c.symm⟩
  .rw [bp c]at a;obtain⟨j,g,l⟩:=tT f d b r (o+1) h3;exact⟨j,by simp[Km,a,g],.on (λe=>c e.symm) l⟩
def uY{k:Nat}{g:Bool}{n:Nat}(j:aOo P k g n){key:ax}(i:Z key=n){b:List MapEntry}{es:List (ax×aa)}(h:LA g n b es):
  ∃r,(Mc k (iH g key) b).run P w= .ok r w/\EQ key b es 0 r:=by
 rcases j with⟨rfl,rfl,f⟩|⟨rfl,m,l⟩
 .match key,i with
  | [a],_=>
   obtain⟨r,c,e⟩:=EH a b es 0 h;exact⟨r,by simp[Mc,run_underlying f,iH,c],e⟩
 .obtain ⟨r,c,e⟩:=tT (w:=w) l i b es 0 h;cases f:P.underlying k with
  | none=>grind
  | some d=>
   cases b with
   | nil=>simp[Km]at c;subst c;exact⟨D,by simp[Mc,run_underlying f,Mb],e⟩
   | cons x b=>
    obtain⟨y,o,rfl,h1,p,h3⟩:=h.cons;refine⟨r,?_,e⟩;have hs:Instr.sameNow d (iH O key) x.key=none:=by rw[h1];simp only[iH,if_true];cases d<;>rfl
    simp only[Mc,Bd,run_underlying f,Ar,Mb,hs];exact c
def O2{k:Nat}{a:Bool}{n:Nat}(f:aOo P k a n){key:ax}(c:Z key=n)(b:Bool):(Ic b 10000 k (iH a key)).run P w= .ok () w:=by
 rcases f with⟨rfl,rfl,g⟩|⟨rfl,d,e⟩
 .rw [show(10000:Nat)=9999+1 from rfl,Ic];simp only[Bd,run_underlying g,Ar,iH,Dc,if_false,Cb]
 .exact (e w key key c c).2 b
def Mem.mpOf(hm:Mem M ob ac w){j:Nat}{a:Bool}{es:List (ax×aa)}(i:aE ac j= .mp a es){v:Value}(e:Rep M ob v (.mref j)):
  ∃b,v= .map (X b)/\ob[j]? =X [.map (X b)]/\ac[j]? =X (.mp a es)/\(∀o,NoM M b o)/\aE6 M w b a es:=by
 cases e with
 | mref _ b c=>
  have f:=cS i s_;obtain⟨hs,g,d,h,k,l⟩:=hm.obj j _ f;have:d=b:=by rw[cN g,h]at c;simp_all
  subst this;simp_all
def aE6.enOK{b:Nat}{a:Bool}{es:List (ax×aa)}{n:Nat}{c:List MapEntry}(hl:Z c=Z es)(h:∀(i:Nat) x y,c[i]? =X x->es[i]? =X y->x.key=iH a y.1/\(a=U->Z y.1=1)/\Rep M [] x.val y.2)
  (f:(a=U/\n=1)\/(a=O/\∀p∈es,Z p.1=n)):LA a n c es:=
 ⟨hl,λi x y e d=>⟨(h i x y e d).1,by grind[Ax]⟩⟩
def OY{VS:aa->aw->Prop}{CS:Fn->az->Prop}{PS:aa->Prop}{a:Bool}{es:List (ax×aa)}{key:ax}{r:OR}{k:Nat}(c:aOo P k a (Z key))
  (h:(a=U/\Z key=1)\/(a=O/\∀p∈es,Z p.1=Z key)->Sd VS CS PS ac base r):Sd VS CS PS ac base (FP a es key r):=by
 rcases c with⟨rfl,b,_⟩|⟨rfl,_⟩
 .exact h (.inl ⟨rfl,b⟩)
 .exact λhp=>h (.inr ⟨rfl,hp⟩)
def Rep.pairB{v:Value}{a:aa}(h:Rep M ob v a)(b:Bool):Rep M ob (.tuple #[v,.bool b]) (.tup [a,.bool b]):=by
 refine .tup [v,.bool b] _ rfl λi q c d e=>?_;rcases i with _|_|i
 .grind
 .simp at d e;subst d e;exact .bool b
 simp_all
def aEz(hE:ae E)(hm:Mem M ob ac w){t:Nat}{H kv:Value}{m k:aa}(B:Rep M ob H m)(A:Rep M ob kv k)(ok:Bool):
  PS0 E.P M ob w (Mr t H kv ok) ac base (QM E (aE ac) t m k ok):=by
 unfold QM;split
 .rename_i Q e _ _ _ j L;have g:=(hE.tab _ _ L).kind.1;split
  .rename_i R As es s u;split
   .rename_i key f;obtain⟨rfl,d⟩:=C5 hE f A;refine OY d λI=>?_;obtain⟨b,rfl,_,_,_,S,o,G,hl,l,_⟩:=hm.mpOf u B;obtain⟨r,Be,v⟩:=uY (w:=w) d rfl (aE6.enOK (b:=b) hl l I);have a:=λK=>O2 (w:=w) d rfl K;obtain⟨i,z,J,_,hz,_,n,_⟩:=(hE.tab _ _ s).info;have C:(zeroValue e).run E.P w= .ok z w:=by simp[zeroValue,typeInfo,J,hz]
    rcases v with⟨rfl,v⟩|⟨q,x,y,rfl,N,F,p,h⟩
    .rw [Sd.eq_def];simp only;rw[(sV v).1];refine⟨rfl,if ok then .tuple #[z,.bool U]else z,?_,?_⟩
     .simp only[Mr,Bd,run_underlying g,Ar,MapKept.run_getObj_map G,a,Be,C,Cb]
     .cases ok with
      | true=>exact(lV n).pairB U
      | false=>exact lV n
    .rw [Sd.eq_def];simp only;rw[(BE F p h).1];have c:=(l q x y N F).2.2.pure (ob:=ob);refine⟨rfl,if ok then .tuple #[x.val,.bool O]else x.val,?_,?_⟩
     .simp only[Mr,Bd,run_underlying g,Ar,MapKept.run_getObj_map G,a,Be,Cb]
     .cases ok with
      | true=>exact c.pairB O
      | false=>exact c
   .exact trivial
  .exact trivial
 .exact trivial
abbrev OX(w:World)(b:Nat)(o:Obj):World:={w with heap:=w.heap.setIfInBounds b o}
def aDh{b:Nat}{o a:Obj}(h:w.heap[b]? =X a):(OX w b o).heap[b]? =X o:=by have:=gO h;simp_all
theorem G4{b c:Nat}{o:Obj}(h:c≠b):(OX w b o).heap[c]? =w.heap[c]?:=by grind
def Mem.mpTurn(h:Mem M ob ac w){j b a clock':Nat}{d:Bool}{es es':List (ax×aa)}{v:Array MapEntry}{en':List MapEntry}(z:ac[j]? =X (.mp d es))(p:ob[j]? =X [.map (X b)])(g:∀o,NoM M b o)(n:w.heap[b]? =X (.map v a))
  (hl:Z en'=Z es') (q:∀(i:Nat) x y,en'[i]? =X x->es'[i]? =X y->x.key=iH d y.1/\(d=U->Z y.1=1)/\Rep M [] x.val y.2)
  (h1:∀(i:Nat) x,en'[i]? =X x->x.born<clock') (t:∀(i j:Nat) x y,en'[i]? =X x->en'[j]? =X y->x.born=y.born->i=j):
  Mem M ob (ac.set j (.mp d es')) (OX w b (.map en'.toArray clock'))/\Ext M ob ac w M ob (ac.set j (.mp d es')) (OX w b (.map en'.toArray clock'))/\dB ob ac ob (ac.set j (.mp d es')):=by
 have f:=gR (l:=ob) p
 have:=h.turn (M':=M) (w':=OX w b (.map en'.toArray clock')) (x':=.mp d es') (hs':=[.map (X b)]) z p (Ct _) (λe=>by cases e) (λ_ _ _ h=>h) (λ_ _ _ h=>.inl h) (λc o y m=>by
   obtain⟨u,B,C,Be⟩:=h.imm c o y m;have r:c≠b:=λe=>by subst e;exact g o y m
   grind[Cw,G4])
  (λc _ s=>G4 λe=>s ⟨rfl,by subst e;exact fF.2 rfl⟩) rfl rfl rfl s_ (λA=>⟨b,rfl,g,en',clock',aDh n,hl,q,h1,t⟩)
  (λ_ c k=>⟨.inl ⟨rfl,k⟩,by
   have:b=c:=fF.1 k;subst this;have:=gO n
   simp;omega⟩)
 rw[f]at this;exact this
def yH:∀(n:Nat) (l:ax),(((l.map (Eu .i64)).zip (l.map (Eu .i64))).all λ(x,y)=>Kc n x y)=O
 | n,[]=>rfl
 | n,a::r=>by simp only[Bf,List.zip_cons_cons,List.all_cons,yH n r,Bool.and_true];cases n<;>simp[Kc]
def O0(n:Nat)(a:Bool)(l:ax):Kc (n+1) (iH a l) (iH a l)=true:=by
 cases a with
 | false=>simp[iH,Kc]
 | true=>
  simp only[iH,if_true,Kc,beq_self_eq_true,Bool.true_and];exact yH n l
def aMg{a:List MapEntry}{q:Nat}{x:MapEntry}(b:a[q]? =X x)(f:MapEntry->MapEntry):a.toArray.modify q f=(a.set q (f x)).toArray:=by grind
def SR:Rep M ob (.tuple #[]) (.tup []):=.tup [] [] rfl λi v a h=>by simp at h
def aJc(hE:ae E)(hm:Mem M ob ac w){t:Nat}{W kv o:Value}{m k v:aa}(R:Rep M ob W m)(Q:Rep M ob kv k)(J:Rep M ob o v):
  Sd (VU E.P M ob ac w (Lc t W kv o)) (λ_ _=>False) (λ_=>False) ac base (ZV E (aE ac) t m k v):=by
 unfold ZV;split
 .rename_i kt _ _ _ _ j hT;have A:=(hE.tab _ _ hT).kind.1;split
  .rename_i f es N;split
   .rename_i key u;obtain⟨rfl,n⟩:=C5 hE u Q;have Be:=hm.pureV 4 o v J;generalize ai (aE ac) 4 v=v' at Be;refine sdc λ_=>OY n λY=>?_;have hk1:f=U->Z key=1:=λe=>by grind
    obtain⟨b,rfl,s,h,H,G,d,p,hl,C,hst,V⟩:=hm.mpOf N R;obtain⟨r,T,As⟩:=uY (w:=w) n rfl (aE6.enOK (b:=b) hl C Y);have g:=λem=>O2 (w:=w) n rfl em;rcases As with⟨rfl,As⟩|⟨q,x,y,rfl,S,At,L,B⟩
    .have F:=(sV As).2.1 v'
     have:=hm.mpTurn (es':=es++[(key,v')]) (en':=G++[⟨iH f key,o,d⟩]) (clock':=d+1) h s H p (by simp[hl]) (λi a c z hc=>by
       grind[Ai,Au,Ad]) (λi a z=>by
       grind[Ai,Au,Ad]) (λi Am a a' z K l=>by
       grind[Au,Ad,Ai])
     refine⟨rfl,OX w b (.map (G++[(⟨iH f key,o,d⟩:MapEntry)]).toArray (d+1)),M,ob,?_,?_⟩
     .simp only[Lc,Bd,run_underlying A,Ar,MapKept.run_getObj_map p,g,T,MapKept.run_setObj_map _ p];simp
     grind[aW]
    .have F:=(BE At L B).2.1 v';have An:=(C q x y S At).1;have hql:=(Ad.1 S).1
     have:=hm.mpTurn (es':=es.set q (key,v')) (en':=G.set q ⟨iH f key,o,x.born⟩) (clock':=d) h s H p (by simp[hl]) (λi a c z hc=>by
       grind) (λi a z=>by
       grind) (λi Am a a' z K l=>by
       grind)
     refine⟨rfl,OX w b (.map (G.set q ⟨iH f key,o,x.born⟩).toArray d),M,ob,?_,?_⟩
     .have I:(((G.toArray[0+q]?).map (·.key)).getD (iH f key))=iH f key:=by grind
      have hst:(Instr.keyThatStays (iH f key) (iH f key)).run E.P w= .ok (iH f key) w:=by unfold Instr.keyThatStays;rw[show(10000:Nat)=9999+1 from rfl,O0 9999 f key];simp
      simp only[Lc,Bd,run_underlying A,Ar,MapKept.run_getObj_map p,g,T,I,hst,MapKept.run_setObj_map _ p];rw[Bv,aMg S]
     grind[aW]
   .exact trivial
  .exact trivial
 .exact trivial
def aEy(hE:ae E)(hm:Mem M ob ac w){t T ty:Nat}{N kv:Value}{m k:aa}(K:Rep M ob N m)(J:Rep M ob kv k):
  PM E.P M ob w (Ld #[t,T] ty #[N,kv]) ac base (QL E (aE ac) t m k):=by
 unfold QL;split
 .rename_i kt _ _ _ _ j W;have z:=(hE.tab _ _ W).kind.1;split
  .rename_i Y es H;split
   .rename_i key v;obtain⟨rfl,h⟩:=C5 hE v J;refine OY h λR=>?_;obtain⟨b,rfl,s,e,Be,p,d,o,hl,g,hst,C⟩:=hm.mpOf H K;obtain⟨r,L,I⟩:=uY (w:=w) h rfl (aE6.enOK (b:=b) hl g R);have f:=λV=>O2 (w:=w) h rfl V;rcases I with⟨rfl,I⟩|⟨q,x,y,rfl,An,S,F,A⟩
    .have:=hm.mpTurn (es':=es) (en':=p) (clock':=d) e s Be o hl g hst C;refine⟨.tuple #[],OX w b (.map p.toArray d),M,ob,?_,?_⟩
     .simp [Ld,run_underlying z,MapKept.run_getObj_map o,f,L,MapKept.run_setObj_map _ o,Ez]
     .rw [(sV I).2.2,aW e];exact⟨this.2.1,this.1,this.2.2,SR⟩
    .have At:=(Ad.1 An).1;have u:(p.toArray.eraseIdxIfInBounds q)=(p.eraseIdx q).toArray:=by simp
     have B:∀{α:Type} (l:List α) (i:Nat),(l.eraseIdx q)[i]? =l[if i<q then i else i+1]?:=λl i=>by rw[List.getElem?_eraseIdx];split<;>rfl
     have:=hm.mpTurn (es':=es.eraseIdx q) (en':=p.eraseIdx q) (clock':=d) e s Be o (by
       grind[List.length_eraseIdx_of_lt]) (λi a c n As=>by
       rw[B]at n As
       exact g _ a c n As) (λi a n=>by
       rw[B]at n
       exact hst _ a n) (λi Am a a' n Q G=>by
       grind)
     refine⟨.tuple #[],OX w b (.map (p.eraseIdx q).toArray d),M,ob,?_,?_⟩
     .simp [Ld,run_underlying z,MapKept.run_getObj_map o,f,L,MapKept.run_setObj_map _ o,Ez,u]
     .rw [(BE S F A).2.2,aW e];exact⟨this.2.1,this.1,this.2.2,SR⟩
   .exact trivial
  .exact trivial
 .exact trivial
end
section
variable {P:Program} {E:Env} {M:Imm} {ob:Hs} {ac:aw} {w:World} {base:Nat}
def Rep.nilif_inv{v:Value}(h:Rep M ob v .nilif):v= .nilIface:=by cases h;rfl
def FV{ρv:Operand->Value}{ρ:Operand->aa}(h:∀x,Rep M ob (ρv x) (ρ x)):∀(l:List Operand),cV M ob (l.map ρv) (evO ρ l)
 | []=>⟨rfl,λi v a h=>by simp at h⟩
 | x::l=>by
  obtain⟨h1,e⟩:=FV h l;refine⟨by simp[AW.evO,h1],λi v b c d=>?_⟩;cases i with
  | zero=>simp[AW.evO]at c d;grind
  | succ i=>exact e i v b (by simpa using c) (by simpa[AW.evO]using d)
def QH{ρv:Operand->Value}{ρ:Operand->aa}(h:∀x,Rep M ob (ρv x) (ρ x)):∀(l:List (Nat×Operand)),KC M ob (l.map λ(p:Nat×Operand)=>(p.1,ρv p.2)) (evL ρ l)
 | []=>⟨rfl,λi p q h=>by simp at h⟩
 | (n,x)::l=>by
  obtain⟨h1,b⟩:=QH h l;refine⟨by simpa[AW.evL]using h1,λi p q hp a=>?_⟩;cases i with
  | zero=>simp[AW.evL]at hp a;subst hp a;exact⟨rfl,h x⟩
  | succ i=>exact b i p q (by simpa using hp) (by simpa[AW.evL]using a)
def cV.append{vs us:bb}{as bs:az}(h:cV M ob vs as)(k:cV M ob us bs):cV M ob (vs++us) (as++bs):=by
 refine⟨by simp[h.1,k.1],λi v a c b=>?_⟩;by_cases d:i<Z vs
 .rw [Ai d]at c;rw[Ai (by rw[<-h.1];exact d)]at b;exact h.2 i v a c b
 .rw [Au o_]at c;rw[Au (by rw[<-h.1];omega),<-h.1]at b;exact k.2 _ v a c b
def cV.cons{v:Value}{a:aa}{vs:bb}{as:az}(h:Rep M ob v a)(k:cV M ob vs as):cV M ob (v::vs) (a::as):=
 cV.append (vs:=[v]) (as:=[a]) ⟨rfl,λi u b c d=>by cases i with|zero=>grind|succ i=>simp at c⟩ k
def wM(hE:ae E){t:Nat}{v:Value}{a:aa}(h:Rep M ob v a):Rep M ob v (GG E t a):=by
 unfold GG;split
 .split
  .cases h;exact .slnil _ _ rfl
  .exact h
 .exact h
def cW.now{ρv:Operand->Value}{op:Op}{ty:TypeId}{u:Value}{v:aa}(hm:Mem M ob ac w)(b:∀d pos a g,execOp ρv ⟨d,op,ty,pos,a,g⟩=Pure.pure (.value u))(h:Rep M ob u v):VS P ρv op ty M ob ac w v ac:=
 ⟨u,w,M,ob,λd pos a g=>.inl (by rw[b];rfl),Ext.refl _ _ _ _,hm,dB.refl _ _,h⟩
def aF8(b:Array TypeId)(t:TypeId)(k a:IntKind)(x y:Int):(Builtin.max_ b t #[.int k x,.int a y]).run P w= .ok (.int k (max x y)) w:=by
 rw[run_max_int2]
 grind
def aF7(b:Array TypeId)(t:TypeId)(k a:IntKind)(x y:Int):(Builtin.min_ b t #[.int k x,.int a y]).run P w= .ok (.int k (min x y)) w:=by
 rw[run_min_int2]
 grind
def PO{ρv:Operand->Value}{ρ:Operand->aa}(h:∀x,Rep M ob (ρv x) (ρ x))(l:Option Operand):KE M ob (l.map ρv) (l.map ρ):=by
 cases l with
 | none=>exact .inl ⟨rfl,rfl⟩
 | some y=>exact .inr ⟨_,_,rfl,rfl,h y⟩
def zZ.notIface{P:Program}{t:Nat}{i:Bool}{size:Nat}{k:TK}(h:zZ P t i size k)(j:k≠ .iface):∃c,P.underlying t=X c/\∀f,c≠ .interface f:=by
 obtain⟨a,_⟩:=h.isAgg;obtain⟨c,d⟩:=Df.1 a;refine⟨c,d,λf e=>?_⟩;subst e;cases k with
 | int k=>have:=h.1;grind
 | bool=>have:=h.1;grind
 | str=>have:=h.1;grind
 | strct m=>obtain⟨⟨fl,g,_⟩,_⟩:=h;grind
 | arr n s o=>obtain⟨⟨fl,g,_⟩,_⟩:=h;grind
 | slc e s b=>have:=h.1.1;grind
 | ptr e=>have:=h.1;grind
 | iface=>grind
 | mp k e=>have:=h.1;grind
 | other=>obtain⟨⟨p,g,l⟩,_⟩:=h;grind
def IN{k:IntKind}{x y:Int}(b:inR k x)(a:inR k y):inR k (min x y)/\inR k (max x y):=by grind
theorem ZQ(hE:ae E)(hm:Mem M ob ac w)(Be:ac[base]? =X .dead)(I:ob[base]? =X []){ρv:Operand->Value}{ρ:Operand->aa}(j:∀x,Rep M ob (ρv x) (ρ x))(hint:Nat)(op:Op)(ty:TypeId):
  cW E.P ρv op ty M ob ac w base (oO E hint base (aE ac) ρ op ty):=by
 cases op with
 | move x=>exact cW.now hm (λ_ _ _ _=>rfl) (j x)
 | assign x=>
  have A:=wM hE (t:=ty) (j x);have hs:∀d pos a g,execOp ρv ⟨d,.assign x,ty,pos,a,g⟩=((Pure.pure (ρv x):Sem Value) >>= λv=>Pure.pure (.value v)):=λ_ _ _ _=>rfl;simp only[oO];split
  .exact cW.now hm (λ_ _ _ _=>rfl) A
  .split
   .rename_i esz xs t heq;rw[heq]at A;split
    .split
     .obtain ⟨_,hnil⟩:=A.untok;have hnil:ρv x= .slice D 0 0:=hnil;split
      .refine sdc λhg=>?_;obtain⟨hg1,hg2⟩:=bB hg;have hpos:0<esz:=Co hg2;refine cW.pm hs (tH hm Be I (v:=.slice D 0 0) (w':=w) q_ ⟨⟨[],Hv w 0 _ _,by simp,λq c hq=>by simp[aQ]at hq⟩,hpos,by simp,λb hb=>by simp[Gn]at hb,λ_ _=>rfl,rfl,rfl,rfl,Bc _,HZ w⟩)
      .exact trivial
     .exact trivial
    .exact cW.now hm (λ_ _ _ _=>rfl) A
   .exact cW.now hm (λ_ _ _ _=>rfl) A
 | pick c x y=>
  have T:=j c;simp only[oO];split
  .rename_i l;rw[l]at T;exact cW.now hm (λ_ _ _ _=>by simp[execOp,T.bool_inv,asBool]) (j x)
  .rename_i l;rw[l]at T;exact cW.now hm (λ_ _ _ _=>by simp[execOp,T.bool_inv,asBool]) (j y)
  .exact trivial
 | alloc t=>
  simp only[oO];split
  .rename_i An C;refine sdc λh1=>?_;obtain⟨i,z,Y,hs,hz,hzs,As,_,_⟩:=(hE.tab t An C).info;have hzv:(zeroValue t).run E.P w= .ok z w:=by simp[zeroValue,typeInfo,Y,hz]
   obtain⟨u,w',M',ob',K,hrest⟩:=T8 (P:=E.P) (t:=t) hm Be I (lV As) h1;have hal:(Nv t O (.tuple #[])).run E.P w= .ok u w':=by unfold Nv;rw[Bd,hzv];exact K
   exact cW.pm (r:=.born _ _) (s:=Nv t O (.tuple #[])) (λ_ _ _ _=>rfl) ⟨u,w',M',ob',hal,hrest⟩
  .exact trivial
 | box t x=>
  simp only[oO];refine sdc λh1=>?_;exact cW.pm (r:=.born _ _) (s:=Instr.box t (ρv x)) (λ_ _ _ _=>rfl) (T8 (P:=E.P) (t:=t) hm Be I (j x) h1)
 | build t ps=>
  exact cW.pv (s:=Instr.build t (ps.map λ(p:Nat×Operand)=>(p.1,ρv p.2))) hm (λ_ _ _ _=>rfl) (aJj hE (by simpa using QH j ps.toList))
 | buildSlice t n ps=>
  exact cW.pm (s:=Kl t n (ps.map λ(p:Nat×Operand)=>(p.1,ρv p.2))) (λ_ _ _ _=>rfl) (KX hE hm Be I (by simpa using QH j ps.toList))
 | load t x=>exact cW.pv (s:=Mq t (ρv x)) hm (λ_ _ _ _=>rfl) ((aCt hE hm (j x)).bind λv u h=>wM hE h)
 | store t x y=>
  refine Sd.mono (λv o ⟨h1,w',M',ob',Am,h3,h4,h5⟩=>?_) (λ_ _ h=>h.elim) (λ_ h=>h.elim) (aI0 (t:=t) hE hm (j x) (wM hE (t:=t) (j y)));refine⟨undef,w',M',ob',λd pos a g=>.inr ⟨?_,rfl⟩,h3,h4,h5,by rw[h1];exact .undef _⟩;have:execOp ρv ⟨d,.store t x y,ty,pos,a,g⟩=(Ks t (ρv x) (ρv y) >>= λ_=>Pure.pure .skip):=rfl;simp_all
 | nilCheck x=>
  have A:=j x;simp only[oO];split<;>first|exact trivial|skip
  all_goals
   rename_i l;rw[l]at A;refine cW.now hm (u:=ρv x) (λd pos a g=>?_) A;generalize hu:ρv x=u at A;simp only[execOp,hu];cases A<;>rfl
 | binOp bop t x y yt=>exact cW.pv (s:=QX bop t x y (ρv x) (ρv y)) hm (λ_ _ _ _=>rfl) (aRf (og:=aE ac) hE (j x) (j y))
 | unOp uop t x=>
  have A:=j x;simp only[oO];refine cW.pv (s:=Op.unary uop (ρv x)) hm (λ_ _ _ _=>rfl) ?_;split
  .rename_i b l;rw[l]at A;rw[A.bool_inv];exact aZ (u:=.bool (!b)) rfl (.bool _)
  .rename_i k n l;rw[l]at A;rw[A.int_inv.1];have e:(Op.unary .neg (.int k n)).run E.P w= .ok (.int k (k.wrap (0-n))) w:=rfl;exact⟨λhp=>⟨rfl,_,by rw[e,lW hp],.int _ _ hp⟩,rfl,_,e,.int _ _ (jY _ _)⟩
  .rename_i k n l;rw[l]at A;rw[A.int_inv.1];exact aZ (u:=.int k (dL .xor k (if k.signed then -1 else k.max) n)) rfl (.int _ _ (by unfold dL;exact jY _ _))
  .exact trivial
 | convert s t x=>exact cW.pm (s:=convert s t (ρv x)) (λ_ _ _ _=>rfl) (aNu hE hm (j x))
 | makeInterface t x=>
  simp only[oO];refine cW.pv (s:=Instr.makeInterface t (ρv x)) hm (λ_ _ _ _=>rfl) ?_;split
  .rename_i An C;have hk:=(hE.tab t An C).kind;split
   .exact trivial
   .rename_i L;obtain⟨dd,Q,W⟩:=hk.notIface L;refine aZ (run_makeInterface w t _ ?_) (.iface _ _ _ (j x));unfold Program.concrete;simp_all
  .exact trivial
 | makeFunc fn fs cs=>
  obtain⟨p1,p2⟩:=FV j fs.toList;obtain⟨q1,q2⟩:=FV j cs.toList;refine cW.now hm (u:=.func fn (fs.toList.map ρv).toArray (cs.toList.map ρv).toArray) (λd pos a g=>?_) (.func fn _ _ _ _ p1 q1 p2 q2);have At:(fs.toList.map ρv).toArray=fs.map ρv:=by apply Ej;simp
  have e2:(cs.toList.map ρv).toArray=cs.map ρv:=by apply Ej;simp
  rw[At,e2];rfl
 | makeMap t x=>
  cases x with
  | some x=>exact trivial
  | none=>
   simp only[oO];split
   .split
    .rename_i tk _;obtain⟨m1,m2,m3,m4⟩:=hm.bornMap Be I tk.agg;refine cW.pm (r:=.born _ _) (s:=Instr.makeMap t D) (λ_ _ _ _=>rfl) ⟨_,_,M,ob.set base [.map (X w.heap.size)],run_makeMap t w,?_⟩;rw[aW Be]
     grind
    .exact trivial
   .exact trivial
 | makeSlice t x y=>exact cW.pm (s:=Instr.makeSlice t (ρv x) (ρv y)) (λ_ _ _ _=>rfl) (aNr (hint:=hint) hE hm Be I (j x) (j y))
 | slice t x lo Y mx=>exact cW.pv (s:=Hd t (ρv x) (lo.map ρv) (Y.map ρv) (mx.map ρv)) hm (λ_ _ _ _=>rfl) (aI1 hE hm (j x) (PO j lo) (PO j Y) (PO j mx))
 | fieldAddr t x f=>exact cW.pv (s:=Ma t (ρv x) f) hm (λ_ _ _ _=>rfl) (QO hE (j x))
 | field t x f=>exact cW.pv (s:=Ni t (ρv x) f) hm (λ_ _ _ _=>rfl) ((aJe hE (j x)).bind λv u h=>wM hE h)
 | indexAddr t x i=>exact cW.pv (s:=Il t (ρv x) (ρv i)) hm (λ_ _ _ _=>rfl) (QN hE hm (j x) (j i))
 | index t x i=>exact cW.pv (s:=Ly t (ρv x) (ρv i)) hm (λ_ _ _ _=>rfl) (aJd hE (j x) (j i))
 | typeAssert x xt t ok=>
  have A:=j x;simp only[oO];refine cW.pv (s:=Kn (ρv x) xt t ok) hm (λ_ _ _ _=>rfl) ?_;split
  .rename_i An u v C l;rw[l]at A;obtain⟨i,z,Y,hs,hz,hzs,As,_,_⟩:=(hE.tab t An C).info;split
   .exact trivial
   .rename_i L;obtain⟨dd,Q,W⟩:=(hE.tab t An C).kind.notIface L;obtain⟨F,S,hv⟩:=A.iface_inv;rw[S];cases hq:Av u t with
    | true=>
     have:=aG hq;subst this;refine aZ (u:=if ok then .tuple #[F,.bool O]else F) ?_ ?_
     .unfold Kn;simp only[Bd,run_underlying Q,Ar];rfl
     .cases ok with
      | true=>exact hv.pairB O
      | false=>exact hv
    | false=>
     have hne2:¬ u=t:=λe=>by subst e;simp at hq
     simp only[cond_false];refine sdc λhok=>?_;subst hok;refine aZ (u:=.tuple #[z,.bool U]) ?_ ((lV As).pairB U);unfold Kn;simp only[Bd,run_underlying Q,Ar];cases dd<;>first|exact bv rfl (W _)|(simp[hne2,zeroValue,typeInfo,Y,hz])
  .rename_i An C l;rw[l]at A;obtain⟨i,z,Y,hs,hz,hzs,As,_,_⟩:=(hE.tab t An C).info;split
   .exact trivial
   .rename_i L;obtain⟨dd,Q,W⟩:=(hE.tab t An C).kind.notIface L;refine sdc λhok=>?_;subst hok;rw[A.nilif_inv];refine aZ (u:=.tuple #[z,.bool U]) ?_ ((lV As).pairB U);unfold Kn;simp only[Bd,run_underlying Q,Ar];cases dd<;>first|exact bv rfl (W _)|(simp[zeroValue,typeInfo,Y,hz])
  .exact trivial
 | extract x i=>
  have A:=j x;simp only[oO];refine cW.pv (s:=Instr.extract (ρv x) i) hm (λ_ _ _ _=>rfl) ?_;split
  .rename_i vs l;rw[l]at A;split
   .rename_i v hn;have hnv:=gZ hn;obtain⟨us,S,hl,K⟩:=A.tup_inv;have hlt:i<Z us:=by grind
    rw[S];refine aZ (u:=us[i]) ?_ (K i _ v (Ab hlt) hnv);simp[Instr.extract,hlt]
   .exact trivial
  .exact trivial
 | panic x=>
  have A:=j x;simp only[oO];split
  .rename_i t v l;rw[l]at A;obtain⟨u,S,hu⟩:=A.iface_inv;have:∀F,F=ai (aE ac) 3 v->cW E.P ρv (.panic x) ty M ob ac w base ((λv=>bif H3 v then OR.pan (.iface t v)else .no) F):=λF e=>by
    subst e
    refine sdc λ_=>⟨.iface t u,λd pos a g=>?_,.iface _ _ _ (hm.pureV 3 _ _ hu)⟩
    simp[execOp,Instr.panic,S]
   grind
  .exact trivial
 | lookup t m k ok=>exact cW.pv (s:=Mr t (ρv m) (ρv k) ok) hm (λ_ _ _ _=>rfl) (aEz hE hm (j m) (j k) ok)
 | mapUpdate t m k v0=>
  refine Sd.mono (λv o ⟨h1,w',M',ob',Am,h3,h4,h5⟩=>?_) (λ_ _ h=>h.elim) (λ_ h=>h.elim) (aJc (t:=t) hE hm (j m) (j k) (j v0));refine⟨undef,w',M',ob',λd pos a g=>.inr ⟨?_,rfl⟩,h3,h4,h5,by rw[h1];exact .undef _⟩;have:execOp ρv ⟨d,.mapUpdate t m k v0,ty,pos,a,g⟩=(Lc t (ρv m) (ρv k) (ρv v0) >>= λ_=>Pure.pure .skip):=rfl;simp_all
 | call c=>
  obtain⟨callee,args,argTypes⟩:=c;have G:=FV j args.toList;simp only[oO];cases callee with
  | value f=>
   have B:=j f;dsimp only;split
   .rename_i gid fs cs l;rw[l]at B;cases H:ρv f with
    | func fn first caps=>
     rw[H]at B;cases B with
     | func _ vfs vcs _ _ hl1 hl2 hr1 hr2=>
      rw[Q6,Q6];refine⟨_,cV.append (cV.append ⟨hl1,hr1⟩ G) ⟨hl2,hr2⟩,λd pos a g=>?_⟩;have At:(args.map ρv)=(args.toList.map ρv).toArray:=by apply Ej;simp
      simp[execOp,resolve,H,Deferred.ofValue,invoke,At,JV]
    | _=>rw[H]at B;cases B
   .rename_i lid fs cs l;rw[l]at B;cases H:ρv f with
    | func fn first caps=>
     rw[H]at B;cases B with
     | func _ vfs vcs _ _ hl1 hl2 hr1 hr2=>
      rw[Q6];refine⟨_,cV.append ⟨hl1,hr1⟩ G,λd pos a g=>?_⟩;have At:(args.map ρv)=(args.toList.map ρv).toArray:=by apply Ej;simp
      simp[execOp,resolve,H,Deferred.ofValue,invoke,At,JV]
    | _=>rw[H]at B;cases B
   .exact trivial
  | invoke rc name=>
   have R:=j rc;dsimp only;split
   .rename_i t v l;rw[l]at R;split
    .rename_i gid hmg;cases hre:ρv rc with
     | iface t' F=>
      rw[hre]at R;cases R with
      | iface _ _ _ hv=>
       have hmm:=hE.mth t name gid hmg F w;refine⟨_,cV.cons hv G,λd pos a g=>?_⟩;have hva: #[F]++args.map ρv=(F::args.toList.map ρv).toArray:=by simp
       rw[<-hva];have hex:(#[Nj t F]++args.map ρv).extract 1 (#[Nj t F]++args.map ρv).size=args.map ρv:=by grind[Ej,Array.toList_extract,Bl]
       simp only[execOp,resolve,Bd,Cb,Ar,invoke,hre];simp only[Array.getElem?_append_left (show 0<(#[Nj t F]).size by simp)];simp only[show(#[Nj t F]:Array Value)[0]? =X (.iface t F)from rfl,hex,callMethod,Bd,run_program,Ar,hmm,JV]
     | _=>rw[hre]at R;cases R
    .exact trivial
   .exact trivial
  | builtin b=>
   dsimp only
   have N:∀{s:Sem Value} {r:OR},(∀{u:Value} {w':World},s.run E.P w= .ok u w'->∀d pos a g,(execOp ρv ⟨d,.call ⟨.builtin b,args,argTypes⟩,ty,pos,a,g⟩).run E.P w= .ok (.value u) w')->PM E.P M ob w s ac base r->cW E.P ρv (.call ⟨.builtin b,args,argTypes⟩) ty M ob ac w base r:=λ{s r} A h=>
    Sd.mono (λv o ⟨u,w',M',ob',Am,h3,h4,h5,h6⟩=>⟨u,w',M',ob',λd pos a g=>.inl (A Am d pos a g),h3,h4,h5,h6⟩) (λ_ _ h=>h.elim) (λ_ h=>h.elim) h
   split
   .rename_i x t h1 Am;have J:args= #[x]:=by apply Ej;omega
    have V:argTypes= #[t]:=by apply Ej;omega
    subst J V;exact N (s:=Fx #[t] ty #[ρv x]) (λK d pos a g=>by simp[execOp,resolve,invoke,builtin,K]) (PM.of hm (aRa hE hm (j x)))
   .rename_i x y h1;have J:args= #[x,y]:=by apply Ej;omega
    subst J;split
    .rename_i k p k' q At e2;have A:=j x;have hy:=j y;rw[At]at A;rw[e2]at hy;refine sdc λhk=>?_;have:=BK hk;subst this;obtain⟨hx1,hx2⟩:=A.int_inv;obtain⟨hy1,hy2⟩:=hy.int_inv;refine⟨_,w,M,ob,λd pos a g=>.inl ?_,Ext.refl _ _ _ _,hm,dB.refl _ _,.int _ _ (IN hx2 hy2).1⟩;simp[execOp,resolve,invoke,builtin,hx1,hy1,aF7]
    .exact trivial
   .rename_i x y h1;have J:args= #[x,y]:=by apply Ej;omega
    subst J;split
    .rename_i k p k' q At e2;have A:=j x;have hy:=j y;rw[At]at A;rw[e2]at hy;refine sdc λhk=>?_;have:=BK hk;subst this;obtain⟨hx1,hx2⟩:=A.int_inv;obtain⟨hy1,hy2⟩:=hy.int_inv;refine⟨_,w,M,ob,λd pos a g=>.inl ?_,Ext.refl _ _ _ _,hm,dB.refl _ _,.int _ _ (IN hx2 hy2).2⟩;simp[execOp,resolve,invoke,builtin,hx1,hy1,aF8]
    .exact trivial
   .rename_i x y t t2 h1 Am;have J:args= #[x,y]:=by apply Ej;omega
    have V:argTypes= #[t,t2]:=by apply Ej;omega
    subst J V;exact N (s:=Cv #[t,t2] ty #[ρv x,ρv y]) (λK d pos a g=>by simp[execOp,resolve,invoke,builtin,K]) (aEA hE hm Be I (j x) (j y))
   .rename_i x y t t2 h1 Am;have J:args= #[x,y]:=by apply Ej;omega
    have V:argTypes= #[t,t2]:=by apply Ej;omega
    subst J V;exact N (s:=Kt #[t,t2] ty #[ρv x,ρv y]) (λK d pos a g=>by simp[execOp,resolve,invoke,builtin,K]) (aNt hE hm (j x) (j y))
   .rename_i x t h1 Am;have J:args= #[x]:=by apply Ej;omega
    have V:argTypes= #[t]:=by apply Ej;omega
    subst J V;exact N (s:=Kb #[t] ty #[ρv x]) (λK d pos a g=>by simp[execOp,resolve,invoke,builtin,K]) (aJi hE hm (j x))
   .rename_i m k t t2 h1 Am;have J:args= #[m,k]:=by apply Ej;omega
    have V:argTypes= #[t,t2]:=by apply Ej;omega
    subst J V;exact N (s:=Ld #[t,t2] ty #[ρv m,ρv k]) (λK d pos a g=>by simp[execOp,resolve,invoke,builtin,K]) (aEy hE hm (j m) (j k))
   .exact trivial
 | _=>exact trivial
theorem aL0{v:Value}{a:aa}(h:Rep M ob v a):Rep M ob v (nrm a):=by
 cases h with
 | rowc k g c a n h hm=>exact .row k g a n c h
 | pre k g n c d b len h e j hl hm=>
  have:=Rep.sub (M:=M) k g 0 n d b len c h e o_ hl o_;rw[Mn,Nat.sub_zero]at this;exact this
 | undef v=>exact .undef v
 | bool b=>exact .bool b
 | int k n m=>exact .int k n m
 | str l hl=>exact .str l hl
 | agg vs as hl h=>exact .agg vs as hl h
 | tup vs as hl h=>exact .tup vs as hl h
 | ptr b o cs h=>exact .ptr b o cs h
 | ref k off b h=>exact .ref k off b h
 | eref k g i d off b n c h=>exact .eref k g i d off b n c h
 | csl k off len d b h hm=>exact .csl k off len d b h hm
 | row k g a n c h=>exact .row k g a n c h
 | sub k g lo len d b n c h hl j e hm=>exact .sub k g lo len d b n c h hl j e hm
 | sub0 k g lo d a w n c h hl e=>exact .sub0 k g lo d a w n c h hl e
 | mref k b h=>exact .mref k b h
 | nilptr=>exact .nilptr
 | nilslice=>exact .nilslice
 | nilmap=>exact .nilmap
 | nilfunc=>exact .nilfunc
 | nilif=>exact .nilif
 | hsl a n c=>exact .hsl a n c
 | slnil d t f=>exact .slnil d t f
 | slemp d t a cap f=>exact .slemp d t a cap f
 | sl d b o n cap xs t j e hm hz h f=>exact .sl d b o n cap xs t j e hm hz h f
 | func fn r cs q p s e h1 u=>exact .func fn r cs q p s e h1 u
 | iface t v a h=>exact .iface t v a h
def Rep.rowc_inv{v:Value}{k g c:Nat}(h:Rep M ob v (.rowc k g c)):∃a n,v= .slice a n c/\at' ob k g=X (.slice a n c)/\(c:Int)<=9223372036854775807:=by cases h with|rowc _ _ _ a n h hm=>grind
def Rep.pre_inv{v:Value}{k g n c a:Nat}(h:Rep M ob v (.pre k g n c a)):∃b len,v= .slice (X ⟨b,0,D⟩) n c/\at' ob k g=X (.slice (X ⟨b,0,D⟩) len c)/\0<c/\n<=len/\len<=c/\(c:Int)<=9223372036854775807:=by cases h with|pre _ _ _ _ _ b len h hc hn hl hm=>exact⟨b,len,rfl,h,hc,hn,hl,hm⟩
def Mem.rowIs(hm:Mem M ob ac w){k g i:Nat}{e:TypeId}{xs:az}(l:ac[k]? =X (.row g i e xs)){d:Option Addr}{n c:Nat}(a:at' ob k g=X (.slice d n c)):
  n=Z xs/\n<=c/\(n:Int)<=9223372036854775807/\(d=D/\n=0/\c=0\/∃b,d=X ⟨b,0,D⟩):=by
 obtain⟨hs',v,h1,p,h3,f,j,_⟩:=hm.rowOf l;rw[a]at f;cases f;rcases j.len with⟨h,rfl⟩|⟨b,r,h,q,o,m⟩
 .simp_all
 grind[fR]
def eT.on{v:Value}{i:Nat}{e:TypeId}{xs:az}(h:eT M w v i e xs)(j:0<i){b n c y:Nat}(Be:v= .slice (X ⟨b,0,D⟩) n c)(h1:Z xs<=y)(F:y<=c):
  eT M w (.slice (X ⟨b,0,D⟩) y c) i e (xs++Ak (y-Z xs) (.agg (Ak i .undef))):=by
 subst Be;obtain⟨cv,⟨N,t⟩,h3,C,As,G,s⟩:=h;rcases t with⟨q,_⟩|⟨g,cap,f,z,_,p,J,B,r,L⟩
 .cases q
 cases z;have K:y*i<=f.size:=by rw[r];exact Bu _ F
 have a:Z (xs++Ak (y-Z xs) (aa.agg (Ak i .undef)))=y:=by simp;omega
 refine⟨f.toList.take (y*i),⟨by rw[a];simp;omega,.inr ⟨b,c,f,by rw[a],Bq _,p,by omega,B,r,by rw[a]⟩⟩,λu I=>s b rfl _ _ _ p u (Db I),λx k=>?_,λq d o=>?_,G,s⟩
 .rcases List.mem_append.1 k with k|k
  .exact C x k
  .rw [(Jn.1 k).2];simp[aa.cells]
 .have l:=iJ j o;rw[a]at l;rw[Bm l];by_cases A:q<Z xs*i
  .grind [dC,Bm]
  .rw [cY j o_]at o;obtain⟨x,k,H⟩:=hD o;have:=(Jn.1 (Ax k)).2;subst this;have:d= .undef:=(Jn.1 (Ax (show(Ak i aa.undef)[_]? =X d from H))).2;subst this;have m:q<Z f.toList:=by simp;omega
   exact⟨_,Ab m,.undef _⟩
def aRd(hE:ae E)(hm:Mem M ob ac w){t k g c hint:Nat}{v u:Value}{h:aa}(hv:Rep M ob v (.rowc k g c))(hu:Rep M ob u h):
  PM E.P M ob w (Hd t v D (X u) D) ac base (aRe E hint (aE ac) t k g c h):=by
 unfold aRe;split
 .rename_i e0 esz eb _ _ _ g' i e xs An n hT Q;have r:=cS Q s_;obtain⟨⟨J,ie,z,hi',hs,_,_,_,_⟩,_⟩:=(hE.tab t _ hT).kind;refine sdc λhg=>?_;obtain⟨s,At⟩:=bB hg;obtain⟨R,H⟩:=bB s;obtain rfl:=aG R;obtain rfl:=aG H;have A:0<i:=Co At;obtain⟨B,hel⟩:=JB J;have As:(E.P.info? (E.P.elem t)).map (·.size)=X i:=by simp_all
  have L:=λu:World=>af (P:=E.P) As u;obtain⟨W,len,rfl,o,V⟩:=hv.rowc_inv;obtain⟨rfl,G,hnm,x⟩:=hm.rowIs r o;obtain⟨rfl,_⟩:=hu.int_inv;rintro y rfl;have run:y<=c->(Hd t (.slice W (Z xs) c) D (X (.int An (y:Int))) D).run E.P w= .ok (sliced W 0 y c i) w:=λhy=>by rw[run_sliceAt_slice w t _ _ _ _ B,run_slice_h w t W _ c B An y o_ o_,L];rfl
  cases hint with
  | zero=>
   rintro⟨S,F⟩;refine⟨_,w,M,ob,run o_,Ext.refl _ _ _ _,hm,dB.refl _ _,?_⟩;rcases x with⟨rfl,_,q⟩|⟨b,rfl⟩
   .omega
   .have C:sliced (X ⟨b,0,D⟩) 0 y c i= .slice (X ⟨b,0,D⟩) y c:=by simp[sliced,bK]
    rw[C];exact .pre k g y c i b _ o F S G V
  | succ m=>
   rintro⟨S,F⟩;obtain⟨a,v0,C,Be,Am,Y,f,hblk⟩:=hm.rowOf r;rw[o]at Y;cases Y;rcases x with⟨rfl,q1,q2⟩|⟨b,rfl⟩
   .
    subst q2;obtain rfl:y=0:=o_;have N:xs=[]:=Ay q1;subst N;have l:Z (a++[Hc D 0 0])=g+1+1:=by simp[Be]
    have j:(a++[Hc D 0 0])[g+1]? =X (.slice D 0 0):=by rw[<-Be];simp
    have:=hm.rowTurn (hs':=a++[Hc D 0 0]) r C Am ⟨_,rfl⟩ l j f (λb _ _=>rfl) rfl rfl rfl (Bc _) (λb K=>by cases K);refine⟨_,w,M,ob.set k (a++[Hc D 0 0]),run (Bc _),?_⟩;rw[aW r];have I:([]:az)++Ak (0-Z ([]:az)) (aa.agg (Ak i .undef))=[]:=rfl;rw[I];refine⟨this.2.1,this.1,this.2.2,?_⟩;have d:at' (ob.set k (a++[Hc D 0 0])) k (g+1)=X (.slice D 0 0):=by grind[cN,Ba,Ad]
    have T:sliced D 0 0 0 i= .slice D 0 0:=by rfl
    rw[T];exact .row _ _ _ _ _ d
   .have T:sliced (X ⟨b,0,D⟩) 0 y c i= .slice (X ⟨b,0,D⟩) y c:=by simp[sliced,bK]
    have p:=f.on A rfl S F;have l:Z (a++[Hc (X ⟨b,0,D⟩) y c])=g+1+1:=by simp[Be]
    have j:(a++[Hc (X ⟨b,0,D⟩) y c])[g+1]? =X (.slice (X ⟨b,0,D⟩) y c):=by rw[<-Be];simp
    have:=hm.rowTurn (hs':=a++[Hc (X ⟨b,0,D⟩) y c]) r C Am ⟨_,rfl⟩ l j p (λb _ _=>rfl) rfl rfl rfl (Bc _) (λb' K=>.inl K);refine⟨_,w,M,ob.set k (a++[Hc (X ⟨b,0,D⟩) y c]),run F,?_⟩;rw[aW r];refine⟨this.2.1,this.1,this.2.2,?_⟩;have d:at' (ob.set k (a++[Hc (X ⟨b,0,D⟩) y c])) k (g+1)=X (.slice (X ⟨b,0,D⟩) y c):=by grind[cN,Ba,Ad]
    rw[T];exact .row _ _ _ _ _ d
 .exact trivial
def aNs(hE:ae E)(hm:Mem M ob ac w){t k g:Nat}{v Be C B:Value}{l h m:aa}(L:Rep M ob v (.row k g))(hl:Rep M ob Be l)(N:Rep M ob C h)(j:Rep M ob B m):
  PM E.P M ob w (Hd t v (X Be) (X C) (X B)) ac base (aJf E (aE ac) t k g l h m):=by
 unfold aJf;split
 .rename_i e0 I V _ _ _ Am A e xs An a kb b kc c Q o;have G:=cS o s_;obtain⟨⟨i,W,z,H,hs,_,_,_,_⟩,_⟩:=(hE.tab t _ Q).kind;refine sdc λJ=>?_;obtain⟨r,f⟩:=bB J;obtain rfl:=aG r;obtain rfl:=aG f;obtain⟨d,R⟩:=JB i;have s:(E.P.info? (E.P.elem t)).map (·.size)=X A:=by simp_all
  have n:=λu:World=>af (P:=E.P) s u;obtain⟨As,len,cap,rfl,p⟩:=L.row_inv;obtain⟨rfl,F,S,K⟩:=hm.rowIs G p;obtain⟨rfl,_⟩:=hl.int_inv;obtain⟨rfl,_⟩:=N.int_inv;obtain⟨rfl,_⟩:=j.int_inv;rintro x rfl y rfl q rfl ⟨⟨At,Y⟩,T⟩;refine⟨sliced As x y q A,w,M,ob,?_,Ext.refl _ _ _ _,hm,dB.refl _ _,.undef _⟩;rw[run_sliceAt_slice w t _ _ _ _ d];unfold Lz Gs Kk;simp only[Bd,run_underlying d,Ar,Option.isSome_some,if_true,Cb,asIntOf];rw[bu ⟨by omega,by omega⟩];simp only[Cb,Ar];rw[bu ⟨by omega,by omega⟩];simp only[Cb,Ar];rw[bu ⟨by omega,by omega⟩];simp only[Cb,Ar,n,Bo];rfl
 .exact trivial
def E0{P:Program}(w:World)(t q ty e:TypeId)(v:IntKind)(i:TypeInfo)(z:Value)(B:P.underlying t=X (.slice e))(C:P.underlying q=X (.int v))(A:P.info? e=X i)(hz:i.zero=X z)
  (b n c m:Nat) (l:0<m) (g:0<i.size) (d:bb) (h:(Cn i.size n (.slice (X ⟨b,0,D⟩) n c)).run P w.drew= .ok d.toArray w.drew) (x:c<n+m) (r:((n+m:Nat):Int)<=9223372036854775807)
  (a:(n+m)*i.bytes<=140737488355328):
  (Cv #[t,q] ty #[.slice (X ⟨b,0,D⟩) n c,.int .i64 (m:Int)]).run P w=
   .ok (.slice (X ⟨w.heap.size,0,D⟩) (n+m) (grownCap w (n+m) c e))
    (w.drew.alloc (.cells (d++(Cl z.cells m).toList++(Cl z.cells (grownCap w (n+m) c e-(n+m))).toList).toArray e)):=by
 have s:¬ (n+m<=c):=o_;have f:¬ (9223372036854775807<((n:Int)+(m:Int))):=o_;have p:=growslice_fits (bytes:=i.bytes) x a;have j:¬ (281474976710656<Builtin.nextslicecap (n+m) c*i.bytes):=o_;have u:IntKind.i64.wrap (m:Int)=(m:Int):=lW ⟨by simp only[bS];omega,by simp only[aX];omega⟩;have k:¬ (281474976710656<(m:Int)*(i.bytes:Int)):=by grind
 have y:¬ ((m:Int)<0):=o_;have o:¬ (m*i.size=0):=by have:=Nat.mul_pos l g;omega
 simp[Cv,run_underlying B,run_underlying C,sizeOf,typeInfo,zeroValue,A,hz,asInt,asIntOf,u,y,k,s,f,j,o,Question.forced,h,newRow,grownCap];congr 2;simp
def aNq(hE:ae E)(hm:Mem M ob ac w)(T:ac[base]? =X .dead)(W:ob[base]? =X []){t L ty k g n c sz:Nat}{kt:IntKind}(N:E.P.underlying L=X (.int kt)){v u:Value}{m:aa}
  (hv:Rep M ob v (.pre k g n c sz)) (J:Rep M ob u m):PM E.P M ob w (Cv #[t,L] ty #[v,u]) ac base (aCp E base (aE ac) t k g n c sz m):=by
 unfold aCp;split
 .rename_i e esz eb _ _ _ g' sz' e' xs a hT At;split
  .rename_i Am Y;obtain⟨⟨K,i,z,hi,S,Q,hz,s,hz1⟩,_⟩:=(hE.tab t _ hT).kind;subst S Q;refine sdc λhg=>?_;simp only[Af]at hg;obtain⟨⟨⟨g1,g2⟩,g3,g4⟩,g5,g6⟩:=hg;obtain rfl:=aG g1;have q2:=aG g2;subst q2;have q3:=aG g3;subst q3;have q4:=aG g4;subst q4;have h:0<i.size:=Co g5;obtain⟨i',z',C,hsz',Be,hzs',As,hone,hne⟩:=(hE.tab e Am Y).info;rw[hi]at C;cases C;rw[hz]at Be;cases Be;have hk:=cS At s_;obtain⟨b,len,rfl,G,hc0,I,hlc,hcm⟩:=hv.pre_inv;obtain⟨rfl,_,hnm,_⟩:=hm.rowIs hk G;obtain⟨rfl,_⟩:=J.int_inv;rintro y rfl ⟨c1,f1,f2⟩;obtain⟨hs0,v0,e1,e2,e3,e4,B,hblk⟩:=hm.rowOf hk;rw[G]at e4;cases e4;obtain⟨cv,o1,o2,o3,o4,o5,o6⟩:=B;have hml:=fR;have hle:n*i.size<=Z xs*i.size:=Bu _ I;have f:Z (cv.take (n*i.size))=n*i.size:=by rw[List.length_take,o1.1];omega
   have An:(Cn i.size n (.slice (X ⟨b,0,D⟩) n c)).run E.P w.drew= .ok (cv.take (n*i.size)).toArray w.drew:=by
    refine run_firstCells_some w.drew i.size n ⟨b,0,D⟩ n c _ f λj u H=>?_;rw[Lm]at H;split at H
    .rw [bK,Bv];exact gG o1 (b:=b) rfl H
    .cases H
   have F:=E0 (P:=E.P) w t L ty e kt i z K N hi hz b n c y o_ h _ An c1 o_ f2;have V:=hm.pure0 As;obtain⟨R,d2⟩:=yF (z:=z.cells) (n:=y);rw[s]at R d2;obtain⟨r1,r2⟩:=CP (M:=M) V (FN g6) s h R d2;have hge:=grownCap_ge w (n+y) c e;have A:grownCap w (n+y) c e<=maxLen:=grownCap_le_maxLen w (n+y) c e f1;have htl:Z (xs.take n)=n:=by simp;omega
   have r:Z (xs.take n++Ak y (ai (λ_=>.dead) 4 Am.zero))=n+y:=by simp;omega
   have l:∀u∈cv.take (n*i.size)++(Cl z.cells y).toList,u.oneCell'=true:=λu J=>by grind[Db,lL]
   have o:Z (cv.take (n*i.size)++(Cl z.cells y).toList)=(n+y)*i.size:=by rw[Ah,f,R,Ch]
   have gr:Grown M w (w.drew.alloc (.cells (cv.take (n*i.size)++(Cl z.cells y).toList++(Cl z.cells (grownCap w (n+y) c e-(n+y))).toList).toArray e)) i.size e
     (.slice (X ⟨w.heap.size,0,D⟩) (n+y) (grownCap w (n+y) c e)) (xs.take n++Ak y (ai (λ_=>.dead) 4 Am.zero)):=by
    refine⟨⟨cv.take (n*i.size)++(Cl z.cells y).toList,⟨by rw[o,r],.inr ⟨w.heap.size,_,_,by rw[r],Bq _,heap_alloc_new w.drew _,by omega,A,?_,?_⟩⟩,l,λq d hq=>?_⟩,h,λx hx=>?_,λb' p=>?_,λb' p=>heap_alloc_old w.drew _ p,rfl,rfl,rfl,by simp,?_⟩
    .rw [List.size_toArray,Ah,o,Array.length_toList,size_zeroCells,s,<-Ch];congr 1;omega
    .rw [r,<-o];exact List.take_left
    .grind [dC,pX,Ai,Bm,cY,Au]
    .grind [Db]
    .simp only[Gn,Ff]at p;omega
    .refine sT (w:=w.drew) λu J=>?_
     grind[lL]
   exact tH (hint:=2) hm T W F gr
  .exact trivial
 .exact trivial
theorem ZP(hE:ae E)(hm:Mem M ob ac w)(q:ac[base]? =X .dead)(B:ob[base]? =X []){ρv:Operand->Value}{ρ:Operand->aa}(a:∀x,Rep M ob (ρv x) (ρ x)){hint:Nat}{op:Op}(ty:TypeId){r:OR}
  (h:nD E hint base (aE ac) ρ op=X r):cW E.P ρv op ty M ob ac w base r:=by
 cases op with
 | move x=>cases h;exact cW.now hm (λ_ _ _ _=>rfl) (a x)
 | assign x=>
  simp only[nD]at h;split at h
  .rename_i k g c b;cases h;have:=a x;rw[b]at this;exact cW.now hm (u:=ρv x) (λ_ _ _ _=>rfl) this
  .cases h
 | slice t x lo H F=>
  cases lo with
  | none=>
   cases H with
   | none=>simp[nD]at h
   | some i=>
    cases F with
    | some _=>simp[nD]at h
    | none=>
     simp only[nD]at h;split at h
     .rename_i k g c b;cases h;have:=a x;rw[b]at this;exact cW.pm (s:=Hd t (ρv x) D (X (ρv i)) D) (λ_ _ _ _=>rfl) (aRd hE hm this (a i))
     .cases h
  | some l=>
   cases H with
   | none=>simp[nD]at h
   | some i=>
    cases F with
    | none=>simp[nD]at h
    | some m=>
     simp only[nD]at h;split at h
     .rename_i k g b;cases h;have:=a x;rw[b]at this;exact cW.pm (s:=Hd t (ρv x) (X (ρv l)) (X (ρv i)) (X (ρv m))) (λ_ _ _ _=>rfl) (aNs hE hm this (a l) (a i) (a m))
     .cases h
 | call c=>
  obtain⟨callee,args,argTypes⟩:=c;simp only[nD]at h;split at h
  .split at h
   .rename_i x t h1 C;split at h
    .rename_i k g n _ _ _ _ _ _ b Q;cases h;have p:args= #[x]:=by apply Ej;omega
     have A:argTypes= #[t]:=by apply Ej;omega
     subst p A;have f:=a x;rw[b]at f;obtain⟨T,len,L,J,I⟩:=f.rowc_inv;obtain⟨⟨j,_⟩,_⟩:=(hE.tab t _ Q).kind;refine⟨.int .i64 n,w,M,ob,λd pos e g=>.inl ?_,Ext.refl _ _ _ _,hm,dB.refl _ _,.int _ _ ⟨by simp only[bS];omega,by simp only[aX];omega⟩⟩;simp[execOp,resolve,invoke,builtin,Builtin.cap_,L,run_underlying j,goInt]
    .cases h
   .cases h
  .split at h
   .rename_i x y t G h1 C;split at h
    .rename_i k g n c S R _ _ _ b Be;cases h;have p:args= #[x,y]:=by apply Ej;omega
     have A:argTypes= #[t,G]:=by apply Ej;omega
     subst p A;have f:=a x;rw[b]at f;have z:=(hE.tab G _ Be).kind.1;exact Sd.mono (λv o ⟨u,w',M',ob',C,h3,K,N,As⟩=>⟨u,w',M',ob',λd pos e g=>.inl (by simp[execOp,resolve,invoke,builtin,C]),h3,K,N,As⟩) (λ_ _ h=>h.elim) (λ_ h=>h.elim) (aNq hE hm q B (ty:=ty) z f (a y))
    .cases h
   .cases h
  .cases h
 | _=>simp[nD]at h
def DG(hE:ae E)(hm:Mem M ob ac w)(b:ac[base]? =X .dead)(a:ob[base]? =X []){ρv:Operand->Value}{ρ:Operand->aa}(c:∀x,Rep M ob (ρv x) (ρ x))(hint:Nat)(op:Op)(ty:TypeId):
  cW E.P ρv op ty M ob ac w base (eop E hint base (aE ac) ρ op ty):=by
 unfold eop
 grind[ZP,ZQ,aL0]
end
section
variable {P:Program} {M M':Imm} {ob ob':Hs} {ac L:aw} {w w':World}
def yD.monoA(a:∀(k g:Nat) v,at' ob k g=X v->at' ob' k g=X v){v:Value}{t:Tk}(h:yD ob v t):yD ob' v t:=by
 cases t with
 | own k g=>exact a _ _ _ h
 | _=>exact h
def Rep.monoA(e:∀(k g:Nat) v,at' ob k g=X v->at' ob' k g=X v){v:Value}{a:aa}(h:Rep M ob v a):Rep M ob' v a:=by
 induction h with
 | undef v=>exact .undef v
 | bool b=>exact .bool b
 | int k n h=>exact .int k n h
 | str l h=>exact .str l h
 | agg vs as hl _ j=>exact .agg vs as hl j
 | tup vs as hl _ j=>exact .tup vs as hl j
 | ptr b o cs h=>exact .ptr b o cs h
 | ref k off b h=>exact .ref k off b (e _ _ _ h)
 | eref k g i d off b n c h=>exact .eref k g i d off b n c (e _ _ _ h)
 | csl k off len d b h hm=>exact .csl k off len d b (e _ _ _ h) hm
 | row k g a n c h=>exact .row k g a n c (e _ _ _ h)
 | sub k g lo len d b n c h hl m f hm=>exact .sub k g lo len d b n c (e _ _ _ h) hl m f hm
 | sub0 k g lo d a y n c h hl f=>exact .sub0 k g lo d a y n c (e _ _ _ h) hl f
 | rowc k g c a n h hm=>exact .rowc k g c a n (e _ _ _ h) hm
 | pre k g n c d b len h f m hl hm=>exact .pre k g n c d b len (e _ _ _ h) f m hl hm
 | mref k b h=>exact .mref k b (e _ _ _ h)
 | nilptr=>exact .nilptr
 | nilslice=>exact .nilslice
 | nilmap=>exact .nilmap
 | nilfunc=>exact .nilfunc
 | nilif=>exact .nilif
 | hsl a n c=>exact .hsl a n c
 | slnil d t p=>exact .slnil d t (p.monoA e)
 | slemp d t a cap p=>exact .slemp d t a cap (p.monoA e)
 | sl d b o n cap xs t m f hm hz h p=>exact .sl d b o n cap xs t m f hm hz h (p.monoA e)
 | func fn w cs u s x f _ _ q r=>exact .func fn w cs u s x f q r
 | iface t v a _ j=>exact .iface t v a j
def Mem.idle(h:Mem M ob L w){k:Nat}(j:ob[k]? =X []):L[k]? =X .dead:=by
 have d:k<Z L:=by rw[<-h.len];grind
 have e:=Ab d;obtain⟨hs,f,a⟩:=h.obj k _ e;rw[j]at f;cases f;cases c:L[k]with
 | dead=>rw[e,c]
 | cells T cs=>rw[c]at a;obtain⟨b,q,_⟩:=a;cases q
 | fcells cs=>rw[c]at a;obtain⟨b,q,_⟩:=a;cases q
 | row g i e xs=>rw[c]at a;have:=a.1;simp at this
 | frow g i xs=>rw[c]at a;obtain⟨v,q,_⟩:=a;simp at q
 | tail g i e=>rw[c]at a;have:=a.1;simp at this
 | mp l es=>rw[c]at a;obtain⟨b,q,_⟩:=a;cases q
 | bun g I=>rw[c]at a;have:=a.1;simp at this
def Mem.live(h:Mem M ob L w){k:Nat}{c:ab}(a:L[k]? =X c)(d:c≠ .dead):∃hs,ob[k]? =X hs/\hs≠[]:=by
 obtain⟨hs,b,_⟩:=h.obj k c a;refine⟨hs,b,λe=>?_⟩;subst e;rw[h.idle b]at a
 grind
def Mem.shrink{n:Nat}(h:Mem M ob (ac++Ak n .dead) w)(B:∀(i:Nat) hs,Z ac<=i->ob[i]? =X hs->hs=[]):
  Mem M (ob.take (Z ac)) ac w/\(∀(k g:Nat) v,at' ob k g=X v->at' (ob.take (Z ac)) k g=X v)/\
   ∀{M0:Imm} {ob0:Hs} {d:aw} {w0:World},Ext M0 ob0 d w0 M ob (ac++Ak n .dead) w->Z ob0<=Z ac->Ext M0 ob0 d w0 M (ob.take (Z ac)) ac w:=by
 have hl:=h.len;simp at hl
 have left:∀{i:Nat},i<Z ac->(ob.take (Z ac))[i]? =ob[i]?/\(ac++Ak n ab.dead)[i]? =ac[i]?:=λ{i} hi=>⟨Bm hi,Ai hi⟩
 have m:∀(k g:Nat) v,at' ob k g=X v->at' (ob.take (Z ac)) k g=X v:=by
  intro k g v o;by_cases e:k<Z ac
  .unfold at' at o⊢;rw[(left e).1];exact o
  .unfold at' at o
   grind
 have alive:∀{k b:Nat},aM (ob.take (Z ac)) ac k b->aM ob (ac++Ak n .dead) k b:=λ{k b} ⟨c,hs,l,q,e3,e4⟩=>by have e:=(Ad.1 l).1;exact⟨c,hs,(left e).2.trans l,q,(left e).1▸e3,e4⟩
 refine⟨⟨h.imm,by simp;omega,λk c r=>?_,λk b f=>h.lt k b (alive f),λi j b f x=>h.inj i j b (alive f) (alive x)⟩,m,λ{M0 ob0 d w0} hx h0=>⟨hx.imm,hx.new,λk hs e=>?_,hx.os,hx.tape,hx.output,hx.size,hx.keep,λk b f=>hx.fresh k b (alive f)⟩⟩
 .have e:=(Ad.1 r).1;obtain⟨hs,l,p⟩:=h.obj k c ((left e).2.trans r);refine⟨hs,(left e).1.trans l,?_⟩;cases c with
  | cells T cs=>
   obtain⟨b,u,A,cv,t,s,y,z⟩:=p;exact⟨b,u,A,cv,t,s,y,λi v a o f=>(z i v a o f).monoA m⟩
  | _=>exact p
 .obtain ⟨hs',l,q⟩:=hx.hs k hs e
  grind[Ad]
def VQ(ac:aw)(j g:Nat):kP [] ac j g=g:=rfl
def aJa(base:Nat)(ac:aw):∀n,embV [] base ac n=embV [] base [] n:=by
 intro n;induction n with
 | zero=>rfl
 | succ n b=>
  funext a;cases a<;>simp only[embV,VQ,b]
def mM(base:Nat)(new:aw):aw:=new.map (vZ [] base [] 0)
def Mem.emb0(h:Mem M ob L w){base:Nat}{new:aw}{d:Hs}(As:base+Z new<=Z L)(G:∀j,j<Z new->ob[base+j]? =X [])
  (p:Ext M [] [] w M' d new w') (N:Mem M' d new w'):
  Mem M' (ob.take base++d++ob.drop (base+Z d)) (L.take base++mM base new++L.drop (base+Z (mM base new))) w'/\
   Ext M ob L w M' (ob.take base++d++ob.drop (base+Z d)) (L.take base++mM base new++L.drop (base+Z (mM base new))) w'/\
   (∀n v a,Rep M' d v a->Rep M' (ob.take base++d++ob.drop (base+Z d)) v (AW.embV [] base [] n a)):=by
 have F:Z d=Z new:=N.len;have Be:Z (mM base new)=Z new:=by simp[mM]
 obtain⟨p1,p2⟩:=gE ob d base (by rw[h.len,F];exact As);obtain⟨q1,q2⟩:=gE L (mM base new) base o_;rw[F]at p2;rw[Be]at q2;have inO:∀{j:Nat},j<Z new->(ob.take base++d++ob.drop (base+Z d))[base+j]? =d[j]?:=λ{j} m=>by grind
 have r:∀{i:Nat},¬ (base<=i/\i<base+Z new)->(ob.take base++d++ob.drop (base+Z d))[i]? =ob[i]?:=λ{i} Q=>by grind
 have inL:∀{j:Nat},j<Z new->(L.take base++mM base new++L.drop (base+Z (mM base new)))[base+j]? =(new[j]?).map (vZ [] base [] 0):=λ{j} m=>by have:=q2 (base+j);rw[bu ⟨by omega,by omega⟩,Jr]at this;rw[Be,this];simp[mM]
 have C:∀{i:Nat},¬ (base<=i/\i<base+Z new)->(L.take base++mM base new++L.drop (base+Z (mM base new)))[i]? =L[i]?:=λ{i} Q=>by grind
 have K:∀{j g:Nat} {v:Value},at' d j g=X v->at' (ob.take base++d++ob.drop (base+Z d)) (fS [] base j) (kP [] [] j g)=X v:=by
  intro j g v hv;rw[nE (Bq _),VQ];show at' _ (base+j) g=X v;unfold at' at hv⊢
  grind[Ad]
 have B:∀n v a,Rep M' d v a->Rep M' (ob.take base++d++ob.drop (base+Z d)) v (AW.embV [] base [] n a):=VO K λhv _=>K hv;have P:dR ob (ob.take base++d++ob.drop (base+Z d)):=by
  intro i hs Q;by_cases l:base<=i/\i<base+Z new
  .have e:=G (i-base) o_;rw[show base+(i-base)=i from by omega,Q]at e
   grind
  .exact ⟨hs,(r l).trans Q,Ct _⟩
 have H:∀o:ab,(vZ [] base [] 0 o).owns=o.owns:=λo=>by cases o<;>rfl
 have A:∀{i b:Nat},aM (ob.take base++d++ob.drop (base+Z d)) (L.take base++mM base new++L.drop (base+Z (mM base new))) i b->(∃j,j<Z new/\i=base+j/\aM d new j b)\/(¬ (base<=i/\i<base+Z new)/\aM ob L i b):=by
  rintro i b ⟨c,hs,x,V,R,e4⟩;by_cases l:base<=i/\i<base+Z new
  .obtain ⟨j,rfl⟩:∃j,i=base+j:=⟨i-base,by omega⟩
   have m:j<Z new:=o_;rw[inL m]at x;rw[inO m]at R;obtain⟨o,S,rfl⟩:=Cg.1 x;rw[H]at V;exact .inl ⟨j,m,rfl,o,hs,S,V,R,e4⟩
  .rw [C l]at x;rw[r l]at R;exact .inr ⟨l,c,hs,x,V,R,e4⟩
 have J:∀{i b:Nat},aM ob L i b->(∀j,¬ aM d new j b):=λ{i b} s j m=>by
  rcases p.fresh j b m with⟨k',c,hs,e,_⟩|q
  .simp at e
  .have:=h.lt i b s;omega
 have u:∀b k,¬ aM ([]:Hs) [] k b:=λb k ⟨c,hs,e,_⟩=>by simp at e
 refine⟨⟨N.imm,by rw[F]at p1⊢;rw[Be]at q1⊢;rw[p1,q1];exact h.len,λi c I=>?_,λi b s=>?_,λi i' b s W=>?_⟩,⟨p.imm,λb o y Y=>?_,P,p.os,p.tape,p.output,p.size,λb W hn=>p.keep b W (u b),λi b s=>?_⟩,B⟩
 .by_cases l:base<=i/\i<base+Z new
  .obtain ⟨j,rfl⟩:∃j,i=base+j:=⟨i-base,by omega⟩
   have m:j<Z new:=o_;rw[inL m]at I;obtain⟨o,S,rfl⟩:=Cg.1 I;obtain⟨hs,x,z⟩:=N.obj j o S;refine⟨hs,(inO m).trans x,?_⟩;cases o with
   | cells T cs=>
    obtain⟨b,t1,t2,cv,t3,t4,t5,t6⟩:=z;obtain⟨m1,m2⟩:=cQ (B 4) t4 t6;exact⟨b,t1,t2,cv,t3,m1,t5,m2⟩
   | _=>exact z
  .rw [C l]at I;obtain⟨hs,x,z⟩:=h.obj i c I;refine⟨hs,(r l).trans x,z.mono p.imm P (λb h1 At o Am y Y=>?_) (λb c' h1 At An=>?_)⟩
   .have s:aM ob L i b:=(dE I x).2 ⟨h1,At⟩;rcases p.new b o y Y with q|q|⟨k,q⟩
    .exact Am y q
    .have:=h.lt i b s;omega
    .exact u b k q
   .have s:aM ob L i b:=(dE I x).2 ⟨h1,At⟩;rw[p.keep b (h.lt i b s) (u b)];exact An
 .rcases A s with⟨j,m,rfl,f⟩|⟨_,f⟩
  .exact N.lt j b f
  .exact Nat.lt_of_lt_of_le (h.lt i b f) p.size
 .rcases A s with⟨j,m,rfl,f⟩|⟨_,f⟩<;>rcases A W with⟨j',hj',rfl,t⟩|⟨_,t⟩
  .rw [N.inj j j' b f t]
  .exact bv f (J t j)
  .exact bv t (J f j')
  .exact h.inj i i' b f t
 .rcases p.new b o y Y with q|q|⟨k,q⟩
  .exact .inl q
  .omega
  .exact (u b k q).elim
 .rcases A s with⟨j,m,rfl,f⟩|⟨_,f⟩
  .rcases p.fresh j b f with⟨k,q⟩|q
   .exact (u b k q).elim
   omega
  .exact .inl ⟨i,f⟩
end
section
variable {M:Imm} {ob:Hs} {n:Nat}
def lT{k n:Nat}(h:Nat.blt k n=O):k<n:=by simp_all
def lU{k g:Nat}{v:Value}(a:k<n)(h:at' ob k g=X v):at' (ob.take n) k g=X v:=by
 unfold at' at *
 grind
def oZ{f:aa->Bool}:∀{l:az},JZ f l=O->∀(i:Nat) a,l[i]? =X a->f a=O
 | [],_,i,a,h=>by simp at h
 | c::r,hb,i,a,h=>by
  simp only[JZ,Af]at hb;cases i with
  | zero=>grind
  | succ i=>exact oZ hb.2 i a (by simp_all)
def JY{v:Value}{t:Tk}(h:yD ob v t)(a:aTt n t=O):yD (ob.take n) v t:=by
 cases t with
 | own k g=>exact lU (lT a) h
 | _=>exact h
def FX:∀(m:Nat) {v:Value} {a:aa},Rep M ob v a->bel n m a=O->Rep M (ob.take n) v a:=by
 intro m;induction m with
 | zero=>intro v a _ h;cases h
 | succ m q=>
  intro v a h d;cases h with
  | undef v=>exact .undef v
  | bool b=>exact .bool b
  | int k n x=>exact .int k n x
  | str l hl=>exact .str l hl
  | agg vs as hl h=>exact .agg vs as hl λi v a p f=>q (h i v a p f) (oZ d i a f)
  | tup vs as hl h=>exact .tup vs as hl λi v a p f=>q (h i v a p f) (oZ d i a f)
  | ptr b o cs h=>exact .ptr b o cs h
  | ref k off b h=>exact .ref k off b (lU (lT d) h)
  | eref k g i e off b n c h=>exact .eref k g i e off b n c (lU (lT d) h)
  | csl k off len e b h hm=>exact .csl k off len e b (lU (lT d) h) hm
  | row k g a n c h=>exact .row k g a n c (lU (lT d) h)
  | sub k g lo len e b n c h hl r j hm=>exact .sub k g lo len e b n c (lU (lT d) h) hl r j hm
  | sub0 k g lo e a Be n c h hl j=>exact .sub0 k g lo e a Be n c (lU (lT d) h) hl j
  | rowc k g c a n h hm=>exact .rowc k g c a n (lU (lT d) h) hm
  | pre k g n c e b len h j r hl hm=>exact .pre k g n c e b len (lU (lT d) h) j r hl hm
  | mref k b h=>exact .mref k b (lU (lT d) h)
  | nilptr=>exact .nilptr
  | nilslice=>exact .nilslice
  | nilmap=>exact .nilmap
  | nilfunc=>exact .nilfunc
  | nilif=>exact .nilif
  | hsl a n c=>exact .hsl a n c
  | slnil e t s=>exact .slnil e t (JY s d)
  | slemp e t a cap s=>exact .slemp e t a cap (JY s d)
  | sl e b o n cap xs t r j hm hz h s=>exact .sl e b o n cap xs t r j hm hz h (JY s d)
  | func fn A cs z y B j h1 C=>
   obtain⟨u,w⟩:=bB d;exact .func fn A cs z y B j (λi v a p f=>q (h1 i v a p f) (oZ u i a f)) (λi v a p f=>q (C i v a p f) (oZ w i a f))
  | iface t v a h=>exact .iface t v a (q h d)
def HS:∀(n:Nat) (l:aw),rD n l=l.take n
 | 0,_=>by simp[rD]
 | n+1,[]=>by simp[rD]
 | n+1,x::r=>by simp[rD,HS n r]
def WR{n:Nat}:∀{l:aw},K7 n l=O->∀(i:Nat) T cs,l[i]? =X (.cells T cs)->JZ (bel n 5) cs=O
 | [],_,i,T,cs,h=>by simp at h
 | x::r,hb,i,T,cs,h=>by
  cases i with
  | zero=>
   simp at h;subst h;simp only[K7,Af]at hb;exact hb.1
  | succ i=>
   refine WR (l:=r) ?_ i T cs (by simp_all);cases x<;>first|exact hb|(simp only[K7,Af]at hb;exact hb.2)
def WS{n:Nat}:∀{l:au},aJQ n l=O->∀t,bel n 5 (bA l t)=O\/bA l t= .undef
 | [],_,t=>.inr rfl
 | (i,v)::r,hb,t=>by
  simp only[aJQ,Af]at hb;simp only[bA];cases Av i t with
  | true=>grind
  | false=>exact WS hb.2 t
def Mem.cutO{ac:aw}{w:World}(h:Mem M ob ac w)(o:K7 n (ac.take n)=O):Mem M (ob.take n) (ac.take n) w/\∀{k b:Nat},aM (ob.take n) (ac.take n) k b->aM ob ac k b:=by
 have left:∀{i:Nat} {c:ab},(ac.take n)[i]? =X c->i<n/\ac[i]? =X c:=λ{i c} g=>by
  rw[Lm]at g
  grind
 have alive:∀{k b:Nat},aM (ob.take n) (ac.take n) k b->aM ob ac k b:=λ{k b} ⟨c,hs,e,e2,e3,e4⟩=>by obtain⟨m,e⟩:=left e;rw[Bm m]at e3;exact⟨c,hs,e,e2,e3,e4⟩
 refine⟨⟨h.imm,by simp[h.len],λk c g=>?_,λk b d=>h.lt k b (alive d),λi j b d o=>h.inj i j b (alive d) (alive o)⟩,alive⟩;obtain⟨m,l⟩:=left g;obtain⟨hs,e,f⟩:=h.obj k c l;refine⟨hs,by rw[Bm m];exact e,?_⟩;cases c with
 | cells T cs=>
  obtain⟨b,r,x,cv,q,p,s,t⟩:=f;exact⟨b,r,x,cv,q,p,s,λi v a u d=>FX 5 (t i v a u d) (oZ (WR o k _ cs g) i a d)⟩
 | _=>exact f
end
def fen(r:Option Nat):Fence:={Fence.wide with round:=r}
def qN(P:Program)(o:Oper)(ρ:Operand->Value)(w:World)(R:Ending->World->Prop):Prop:=
 (∃v w',(execOp ρ o).run P w= .ok (.value v) w'/\R (.returned v) w')\/
 (∃w',(execOp ρ o).run P w= .ok .skip w'/\R (.returned undef) w')\/
 (∃v w',(execOp ρ o).run P w= .halt (.panic v) w'/\R (.panicked [{v,recovered:=U}]) w')\/
 (∃f args w',(execOp ρ o).run P w= .ok (.enter f args) w'/\Calls P f args w' λe a=>R e a/\e≠ .outgrown)\/
 (∃l f tmps as b w',(execOp ρ o).run P w= .ok (.round l f tmps as b) w'/\RoundIn Fence.wide 0 P l f tmps as b w' λe a=>R e a/\e≠ .outgrown)
def qN.wpIn{rd:Option Nat}{P:Program}{o:Oper}{a:Act}{w:World}{R:Ending->World->Prop}(h:qN P o a.eval w R){next:Act->World->Prop}{Q:Exit->Act->World->Prop}
  (i:∀c,o.op≠ .defer c) (h1:∀v w',R (.returned v) w'->next (a.put o.dst v) w') (p:∀m w',R (.panicked m) w'->Q (.panic m) a w'):o.wpIn (fen rd) 0 P a w next Q:=by
 refine⟨λ_ _=>trivial,?_⟩;rw[Oper.semAt_eq _ _ _ i];rcases h with⟨v,w',b,d⟩|⟨w',b,d⟩|⟨v,w',b,d⟩|⟨f,args,w',b,k⟩|⟨l,f,tmps,as,q,w',b,k⟩
 .rw [b];exact h1 v w' d
 .rw [b];exact h1 undef w' d
 .rw [b];exact p _ w' d
 .rw [b];refine⟨λh=>(by cases h),(callsIn_wide (n:=0)).2 (k.mono λe j ⟨d,g⟩=>?_)⟩
  grind
 .rw [b];refine⟨λh=>(by cases h),RoundIn.mono (F:=Fence.wide) k λe j ⟨d,g⟩=>?_⟩
  grind
def KH(M:Imm)(ob:Hs)(L:aw)(w:World)(K:aa->aw->Prop)(Kp:aa->aw->Prop)(e:Ending)(w':World):Prop:=
 ∃M' ob' L',Ext M ob L w M' ob' L' w'/\Mem M' ob' L' w'/\((∃u v,e= .returned u/\Rep M' ob' u v/\K v L')\/∃a v,e= .panicked a/\wJ M' ob' e (.pan v)/\Kp v L')
section
variable {P:Program} {E:Env} {M M':Imm} {ob ob':Hs} {ac L:aw} {w w':World} {K Kp:aa->aw->Prop}
def kL.mono{f:FuncId}{b:Array Value}{R d:Ending->World->Prop}(c:∀e w,R e w->d e w)(h:kL P f b w R):kL P f b w d:=by
 rcases h with⟨h1,a⟩|⟨u,w',h1,a⟩
 .exact .inl ⟨h1,a.mono λe w h=>c e w h⟩
 .exact .inr ⟨u,w',h1,c _ _ a⟩
def KH.ne{e:Ending}(h:KH M ob L w K Kp e w'):e≠ .outgrown:=by obtain⟨_,_,_,_,_,⟨u,v,rfl,_⟩|⟨a,v,rfl,_⟩⟩:=h<;>(simp)
def cP.mono{f:Fn}{a:Array Value}{R c:Ending->World->Prop}(b:∀e w,R e w->c e w)(h:cP P f a w R):cP P f a w c:=by
 cases f with
 | func f=>exact kL.mono b h
 | yield l=>
  obtain⟨f,tmps,as,d,h1,g⟩:=h;exact⟨f,tmps,as,d,h1,RoundIn.mono g b⟩
 | _=>exact h.elim
def kL.op{f:Fn}{c:Array Value}{o:Oper}{ρ:Operand->Value}{R:Ending->World->Prop}(a:∀e w,R e w->e≠ .outgrown)(d:(execOp ρ o).run P w=(JV f c).run P w)(h:cP P f c w R):qN P o ρ w R:=by
 cases f with
 | func f=>
  rcases h with⟨h1,b⟩|⟨u,w',h1,b⟩
  .exact .inr (.inr (.inr (.inl ⟨f,c,w,d.trans h1,b.mono λe w h=>⟨h,a e w h⟩⟩)))
  .exact .inl ⟨u,w',d.trans h1,b⟩
 | yield l=>
  obtain⟨f,tmps,as,g,h1,b⟩:=h;exact .inr (.inr (.inr (.inr ⟨l,f,tmps,as,g,w,d.trans h1,RoundIn.mono b λe w h=>⟨h,a e w h⟩⟩)))
 | _=>exact h.elim
def xF{b:Hs}{g:aa->aa}(c:∀v a,Rep M ob v a->Rep M' b v (g a)){vs:bb}{as:az}(h:cV M ob vs as):cV M' b vs (eZ g as):=cQ c h.1 h.2
def pZ(hm:Mem M ob L w){f:Fn}{args:az}{i:bb}{ks:a6}{r:Res}{ap:aw}(g:kO ks L=O)(l:cV M ob i args)
  (h:bQ P f (eZ (cvtV 0 ks (aE L) 5) args) (iC 0 ks L) r ap):
  cP P f i.toArray w λe w'=>∃M' b,Ext M ob L w M' (kY ks ob b) (iN ks (Z L) L 0 ap L) w'/\Mem M' (kY ks ob b) (iN ks (Z L) L 0 ap L) w'/\wJ M' b e r/\Z b=Z ap/\
   ∀n v a,Rep M' b v a->Rep M' (kY ks ob b) v (embV ks (Z L) L n a):=by
 obtain⟨k,_,_⟩:=hm.cvt (n0:=0) g;refine cP.mono (λe w' ⟨M',b,j,d,c⟩=>?_) (h M _ w i k (xF (λv a=>hm.cvtV (n0:=0) g 5 v a) l));obtain⟨m,o,_⟩:=hm.emb g j d;exact⟨M',b,o,m,c,d.len,hm.embV g j.hs rW⟩
def WN(hm:Mem M ob ac w){f:Fn}{args:az}{z:bb}(C:cV M ob z args)(h:CallG P f args ac K Kp):cP P f z.toArray w (KH M ob ac w K Kp):=by
 have mono:∀{p:Imm},(∀b o x,M b o x->p b o x)->cV p ob z args:=λH=>⟨C.1,λi v a G Be=>(C.2 i v a G Be).monoM H⟩
 cases h with
 | pure r new h k=>
  obtain⟨p,l,d,_,s⟩:=hm.frzL args;refine cP.mono (λe w' ⟨M',g,m,j,c,_,n⟩=>?_) (pZ (ks:=[]) l rfl (mono d.imm) h);refine⟨M',_,_,d.trans m,j,.inl ?_⟩;rw[cC,<-s]at k;cases e with
  | returned u=>exact⟨u,_,rfl,n 5 u r c,k⟩
  | panicked q=>exact c.elim
  | outgrown=>exact c.elim
 | eff y ks r ap t h k=>
  obtain⟨p,l,d,_,s⟩:=Mem.frzs y M ac hm;refine cP.mono (λe w' ⟨M',g,m,j,c,_,n⟩=>?_) (pZ l t (mono d.imm) h);refine⟨M',_,_,d.trans m,j,.inl ?_⟩;rw[cC]at k;cases e with
  | returned u=>exact⟨u,_,rfl,n 5 u r c,k⟩
  | panicked q=>exact c.elim
  | outgrown=>exact c.elim
 | effp y ks r ap t h k=>
  obtain⟨p,l,d,_,s⟩:=Mem.frzs y M ac hm;refine cP.mono (λe w' ⟨M',g,m,j,c,_,n⟩=>?_) (pZ l t (mono d.imm) h);refine⟨M',_,_,d.trans m,j,.inr ?_⟩;rw[cC]at k;cases e with
  | returned u=>exact c.elim
  | panicked q=>
   obtain⟨v,A,B⟩:=c;exact⟨q,_,rfl,⟨v,A,n 5 v r B⟩,k⟩
  | outgrown=>exact c.elim
 | pan r h k=>
  obtain⟨p,l,d,_,s⟩:=hm.frzL args;refine cP.mono (λe w' ⟨M',g,m,j,c,I,n⟩=>?_) (pZ (ks:=[]) l rfl (mono d.imm) h);have F:g=[]:=Ay o_;subst F;refine⟨M',_,_,d.trans m,j,.inr ?_⟩;cases e with
  | returned u=>exact c.elim
  | panicked q=>
   obtain⟨v,A,B⟩:=c;exact⟨q,r,rfl,⟨v,A,B.pure⟩,k⟩
  | outgrown=>exact c.elim
def G6{VS:aa->aw->Prop}{CS:Fn->az->Prop}{PS:aa->Prop}{a:aw}{base:Nat}(d:base=aV ac):∀{r:OR},Sd VS CS PS a base r->orF P ac K Kp r->
  (∃v,VS v a/\K v ac)\/(∃k x v,VS v (bU a k x)/\K v (bU ac k x))\/(∃f args,CS f args/\CallG P f args ac K Kp)\/∃v,PS v/\Kp v ac
 | .no,_,k=>k.elim
 | .val v,h,k=>.inl ⟨v,h,k⟩
 | .mkf fn fs cs,h,k=>.inl ⟨_,h,k⟩
 | .need p r,h,k=>G6 d (h k.1) k.2
 | .alt p v w,h,k=>by
  rcases k with⟨hp,k⟩|k
  .exact .inl ⟨v,h.1 hp,k⟩
  .exact .inl ⟨w,h.2,k⟩
 | .idx n f,h,⟨i,hi,k⟩=>G6 d (h i hi) k
 | .elem xs i f,h,⟨x,hx,k⟩=>G6 d (h x hx) k
 | .byte l i,h,⟨c,hc,k⟩=>.inl ⟨_,h c hc,k⟩
 | .text xs,h,⟨l,hl,hm,k⟩=>.inl ⟨_,h l hl hm,k⟩
 | .find es key f,h,⟨o,ho,k⟩=>by subst ho;exact G6 d (r:=f (cE es key)) h k
 | .born x v,h,k=>.inr (.inl ⟨base,x,v,h,by rw[d];exact k⟩)
 | .upd i x v,h,k=>.inr (.inl ⟨i,x,v,h,k⟩)
 | .nilq xs neg,⟨b,h1,h2⟩,k=>.inl ⟨_,h2,k b h1⟩
 | .call f args,h,k=>.inr (.inr (.inl ⟨f,args,h,k⟩))
 | .pan v,h,k=>.inr (.inr (.inr ⟨v,h,k⟩))
def H1(l:aw)(n:Nat):aE (l++Ak n .dead)=aE l:=by
 funext i;induction l generalizing i with
 | nil=>
  induction n generalizing i with
  | zero=>rfl
  | succ n a=>
   cases i with
   | zero=>rfl
   | succ i=>have:=a i;simpa[aE,List.replicate_succ]using this
 | cons x r a=>
  cases i with
  | zero=>rfl
  | succ i=>exact a i
theorem TV(l:aw)(x:ab):∀k,(k<Z l->bU (l++[.dead]) k x=bU l k x++[.dead])/\(Z l<=k->bU (l++[.dead]) k x=bU l k x):=by
 induction l with
 | nil=>
  intro k;refine⟨λh=>by simp at h,λ_=>?_⟩;cases k with
  | zero=>rfl
  | succ k=>rfl
 | cons y r a=>
  intro k;cases k with
  | zero=>exact⟨λ_=>rfl,λh=>by simp at h⟩
  | succ k=>
   obtain⟨h1,b⟩:=a k;exact⟨λh=>by show y::bU (r++[.dead]) k x=y::(bU r k x++[.dead]);grind,λh=>by show y::bU (r++[.dead]) k x=y::bU r k x;grind⟩
def aRG{k g:Nat}{v:Value}(h:at' (ob++[[]]) k g=X v):at' ob k g=X v:=by
 unfold at' at *
 grind[Ai,Au,Ax]
def wQ(hE:ae E)(hm:Mem M ob ac w){ρv:Operand->Value}{ρ:Operand->aa}(I:∀x,Rep M ob (ρv x) (ρ x)){hint:Nat}{p:Oper}(h:orF E.P ac K Kp (eop E hint (aV ac) (aE ac) ρ p.op p.type)):
  qN E.P p ρv w (KH M ob ac w K Kp):=by
 obtain⟨dst,op,ty,pos,b,y⟩:=p;obtain⟨C,z,R⟩:=hm.extend 1;have t:Z ob=Z ac:=hm.len;have n:(ac++Ak 1 ab.dead)[aV ac]? =X .dead:=by rw[cC];simp
 have s:(ob++Ak 1 ([]:bb))[aV ac]? =X []:=by rw[cC,<-t];simp
 have hs:=DG hE C n s (λx=>(I x).mono (λ_ _ _ h=>h) z.hs) hint op ty;rw[H1]at hs;have L:Ak 1 ab.dead=[.dead]:=rfl
 have fin:∀{v:aa} {ap:aw},Z ap=Z ac->K v ap->VS E.P ρv op ty M (ob++Ak 1 []) (ac++Ak 1 .dead) w v (ap++Ak 1 .dead)->qN E.P ⟨dst,op,ty,pos,b,y⟩ ρv w (KH M ob ac w K Kp):=by
  intro v ap hl l ⟨u,w',M',ob',vs⟩;have j:∀(i:Nat) hs,Z ap<=i->ob'[i]? =X hs->hs=[]:=by
   intro i hs Q B;have m:=(Ad.1 B).1;rw[vs.mem.len]at m;simp at m;obtain rfl:i=aV ac:=by rw[cC];omega
   have:=(vs.still (aV ac) [] n s).2 rfl (by rw[cC,<-hl];simp)
   grind
  obtain⟨Be,H,N⟩:=vs.mem.shrink j
  have c:KH M ob ac w K Kp (.returned u) w':=⟨M',_,_,N (z.trans vs.ext) o_,Be,.inl ⟨u,v,rfl,vs.rep.monoA H,l⟩⟩
  rcases vs.run dst pos b y with d|⟨d,rfl⟩
  .exact .inl ⟨u,w',d,c⟩
  .exact .inr (.inl ⟨w',d,c⟩)
 rcases G6 (P:=E.P) (K:=K) (Kp:=Kp) rfl hs h with⟨v,h1,A⟩|⟨k,x,v,h1,A⟩|⟨f,args,⟨G,q,As⟩,l⟩|⟨v,⟨u,d,r⟩,l⟩
 .exact fin rfl A h1
 .rw [L]at h1;by_cases l:k<Z ac
  .grind [TV,gY]
  .rw [(TV ac x k).2 o_]at h1;obtain⟨u,w',M',ob',vs⟩:=h1
   have c:KH M ob ac w K Kp (.returned u) w':=⟨M',_,_,z.trans vs.ext,vs.mem,.inl ⟨u,v,rfl,vs.rep,A⟩⟩
   rcases vs.run dst pos b y with d|⟨d,rfl⟩
   .exact .inl ⟨u,w',d,c⟩
   .exact .inr (.inl ⟨w',d,c⟩)
 .have o:cV M ob G args:=⟨q.1,λi v a J F=>(q.2 i v a J F).monoA λk g v=>aRG⟩
  exact kL.op (λe w h=>h.ne) (As dst pos b y) (WN hm o l)
 .exact .inr (.inr (.inl ⟨u,w,d dst pos b y,M,ob,ac,Ext.refl _ _ _ _,hm,.inr ⟨_,v,rfl,⟨u,rfl,r.pure⟩,l⟩⟩))
end
open Classical
structure AS where
 g:Nat->aa
 o:Nat->ab
 br:Nat->Nat->Prop
def kM(g:Nat->aa)(d:Option Nat)(z:aa):Nat->aa:=λt=>if d=X t then z else g t
def inB(base n k:Nat):Prop:=base<=k/\k<base+n
noncomputable def qC(o:Nat->ab)(base:Nat)(bs:aw):Nat->ab:=λk=>if inB base (Z bs) k then bs.getD (k-base) .dead else o k
noncomputable def AS.upd(s:AS)(i:Nat)(d:Option Nat)(z:aa)(base:Nat)(bs:aw):AS:=⟨kM s.g d z,qC s.o base bs,λa k=>s.br a k\/(a=i/\inB base (Z bs) k)⟩
def ZD(tab:a6)(j:Nat)(br:Nat->Nat->Prop)(k:Nat):Prop:=∃i,br i k/\dG (dP tab j) i=U
noncomputable def qT(tab:a6)(j:Nat)(s:AS):Nat->ab:=λk=>if ZD tab j s.br k then .dead else s.o k
def evG(tab:a6)(all:bc)(j:Nat)(g:Nat->aa):Operand->aa
 | .tmp t=>bif UW tab j t 0 all then .undef else g t
 | x=>ev [] x
def aQ2(tab:a6)(all:bc)(j:Nat)(fr:au):evH tab all j fr=evG tab all j (bA fr):=by funext x;cases x<;>rfl
def aOZ(P:Program)(og:Nat->ab)(f:Fn)(args:az)(z:aa):Prop:=
 ∃ks ap l,aE l=og/\kO ks l=O/\Z ap=Z ks/\bQ P f (eZ (cvtV 0 ks og 5) args) (iC 0 ks l) (.ret z) ap/\(∀b,iN ks b l 0 ap l=l)/\∀b,embV ks b l 5 z=z
def iK(P:Program)(og:Nat->ab)(base:Nat)(z:aa)(bs:aw):OR->Prop
 | .val v=>z=v/\bs=[]
 | .mkf fn a cs=>z= .func fn a cs/\bs=[]
 | .need p r=>p/\iK P og base z bs r
 | .alt p v w=>((p/\z=v)\/z=w)/\bs=[]
 | .idx n f=>∃i:Nat,n=(i:Int)/\iK P og base z bs (f i)
 | .elem xs i f=>∃x,xs[i]? =X x/\iK P og base z bs (f x)
 | .byte l i=>∃c,l[i]? =X c/\z= .int .u8 (c.toNat:Int)/\bs=[]
 | .text xs=>∃l:ay,xs=l.map ub/\(Z l:Int)<=9223372036854775807/\z= .str l/\bs=[]
 | .find es key f=>iK P og base z bs (f (cE es key))
 | .born x v=>z=v/\bs=[x]
 | .call f args=>(∃r new,bQ P f (eZ (cvtV 0 [] og 5) args) [] (.ret r) new/\z=embV [] base [] 5 r/\bs=mM base new)\/(aOZ P og f args z/\bs=[])
 | _=>False
def G5{P:Program}{og:Nat->ab}{VS:aa->aw->Prop}{CS:Fn->az->Prop}{PS:aa->Prop}{a:aw}{b base:Nat}{z:aa}{bs:aw}:∀{r:OR},Sd VS CS PS a b r->iK P og base z bs r->
  (VS z a/\bs=[])\/(∃x,VS z (bU a b x)/\bs=[x])\/(∃f args d new,CS f args/\bQ P f (eZ (cvtV 0 [] og 5) args) [] (.ret d) new/\z=embV [] base [] 5 d/\bs=mM base new)\/∃f args,CS f args/\aOZ P og f args z/\bs=[]
 | .no,_,k=>k.elim
 | .val v,h,⟨k1,k2⟩=>.inl ⟨k1▸h,k2⟩
 | .mkf fn fs cs,h,⟨k1,k2⟩=>.inl ⟨k1▸h,k2⟩
 | .need p r,h,k=>G5 (h k.1) k.2
 | .alt p v w,h,⟨k1,k2⟩=>by
  rcases k1 with⟨hp,k⟩|k
  .exact .inl ⟨k▸h.1 hp,k2⟩
  .exact .inl ⟨k▸h.2,k2⟩
 | .idx n f,h,⟨i,hi,k⟩=>G5 (h i hi) k
 | .elem xs i f,h,⟨x,hx,k⟩=>G5 (h x hx) k
 | .byte l i,h,⟨c,hc,k1,k2⟩=>.inl ⟨k1▸h c hc,k2⟩
 | .text xs,h,⟨l,hl,hm,k1,k2⟩=>.inl ⟨k1▸h l hl hm,k2⟩
 | .find es key f,h,k=>G5 (r:=f (cE es key)) h k
 | .born x v,h,⟨k1,k2⟩=>.inr (.inl ⟨x,k1▸h,k2⟩)
 | .upd i x v,h,k=>k.elim
 | .nilq xs neg,h,k=>k.elim
 | .call f args,h,.inl ⟨r,new,k1,k2,k3⟩=>.inr (.inr (.inl ⟨f,args,r,new,h,k1,k2,k3⟩))
 | .call f args,h,.inr ⟨k1,k2⟩=>.inr (.inr (.inr ⟨f,args,h,k1,k2⟩))
 | .pan v,h,k=>k.elim
def O8(z:aa)(k:Nat)(x:ab):OR->Prop
 | .need p r=>p/\O8 z k x r
 | .idx n f=>∃i:Nat,n=(i:Int)/\O8 z k x (f i)
 | .elem xs i f=>∃y,xs[i]? =X y/\O8 z k x (f y)
 | .find es key f=>O8 z k x (f (cE es key))
 | .upd a x' v=>a=k/\x'=x/\z=v
 | _=>False
def A0{VS:aa->aw->Prop}{CS:Fn->az->Prop}{PS:aa->Prop}{a:aw}{base:Nat}{z:aa}{k:Nat}{x:ab}:∀{r:OR},Sd VS CS PS a base r->O8 z k x r->VS z (bU a k x)
 | .no,_,h=>h.elim
 | .val v,_,h=>h.elim
 | .mkf fn fs cs,_,h=>h.elim
 | .need p r,h,u=>A0 (h u.1) u.2
 | .alt p v w,_,h=>h.elim
 | .idx n f,h,⟨i,hi,u⟩=>A0 (h i hi) u
 | .elem xs i f,h,⟨y,hy,u⟩=>A0 (h y hy) u
 | .byte l i,_,h=>h.elim
 | .text xs,_,h=>h.elim
 | .find es key f,h,u=>A0 (r:=f (cE es key)) h u
 | .born x v,_,h=>h.elim
 | .upd i y v,h,⟨e1,e2,e3⟩=>by subst e1 e2 e3;exact h
 | .nilq xs neg,_,h=>h.elim
 | .call f args,_,h=>h.elim
 | .pan v,_,h=>h.elim
theorem pD{P:Program}{og:Nat->ab}{b base hint a:Nat}{e:TypeId}{xs:az}{z:aa}:¬ iK P og b z [] (tI hint base a e xs):=by unfold tI;split<;>(intro h;have:=h.2;cases this)
def V4{P:Program}{og:Nat->ab}{b:Nat}{c:Bool}{r:OR}{z:aa}{bs:aw}(h:iK P og b z bs (bif c then r else .no)):iK P og b z bs r:=by
 cases c with
 | true=>exact h
 | false=>exact h.elim
theorem aEs{P:Program}{E:Env}{og:Nat->ab}{b base d hint:Nat}{ρ:Operand->aa}{op:Op}{ty:TypeId}{z:aa}:iK P og b z [] (oO E hint base og ρ op ty)->iK P og b z [] (oO E hint d og ρ op ty):=by
 have m:∀(t j:Nat) (x y:aa),iK P og b z [] (xP E hint base og t j x y)->iK P og b z [] (xP E hint d og t j x y):=by
  intro t j x y;unfold xP;split
  .rename_i e a u _ _ _ _;cases Gc 1 a with
   | false=>exact id
   | true=>
    simp only[cond_true];split
    .exact id
    .split
     .split
      .exact id
      .rename_i k _ _;cases Av k a with
       | false=>exact id
       | true=>exact λh=>(pD h.2).elim
      .rename_i k _ _;cases Av k a with
       | false=>exact id
       | true=>
             intro h;refine⟨h.1,?_⟩;have g:=h.2;clear h;split at g
             .exact g
             .exact g
             .exact (pD g.2).elim
      .exact id
     .exact λh=>(pD h.2).elim
     .exact id
     .exact id
     .exact id
  .exact id
 cases op
 case assign x=>
  simp only[oO];split
  .exact id
  .split
   .split
    .split
     .split
      .exact λh=>(pD (V4 h)).elim
      .exact id
     .exact id
    .exact id
   .exact id
 case alloc t=>
  simp only[oO];split
  .rename_i l _;cases sS l.zero.cells with
   | false=>exact id
   | true=>intro h;have:=h.2;cases this
  .exact id
 case box t x=>
  simp only[oO];cases sS (ρ x).cells with
  | false=>exact id
  | true=>intro h;have:=h.2;cases this
 case buildSlice t n ps=>
  simp only[oO];unfold pT;split
  .rename_i e a _ _ _ _ _;cases (Av (aHl (evL ρ ps.toList)) n&&Gc (n*a) 1000&&Gc 1 a)with
   | false=>exact id
   | true=>
    simp only[cond_true]
    grind[pD]
  .exact id
 case makeSlice t x y=>
  simp only[oO];unfold aCs;split
  .split
   .rename_i o _;intro h;cases p:(Gc 1 _&&H3 (ai (λ_=>.dead) 4 o.zero))with
    | false=>simp_all
    | true=>
     rw[p]at h;obtain⟨i,_,_,h⟩:=h;have:=h.2;cases this
   .exact id
  .exact id
 case makeMap t x=>
  cases x with
  | some x=>exact id
  | none=>
   simp only[oO];split
   .split
    .intro h;have:=h.2;cases this
    .exact id
   .exact id
 case call c=>
  obtain⟨callee,args,q⟩:=c;cases callee with
  | value f=>exact id
  | invoke r n=>exact id
  | builtin s=>
   simp only[oO]
   grind
 all_goals exact id
def aNc{P:Program}{og:Nat->ab}{b:Nat}{z:aa}{n:Int}{p:Nat->Prop}{x:Nat->ab}{v:aa}:¬ iK P og b z [] (.idx n λy=>.need (p y) (.born (x y) v)):=by rintro⟨i,_,_,h⟩;have:=h.2;cases this
def aI8{P:Program}{E:Env}{og:Nat->ab}{b base a hint:Nat}{ρ:Operand->aa}{op:Op}{ty:TypeId}{z:aa}:iK P og b z [] (eop E hint base og ρ op ty)->iK P og b z [] (eop E hint a og ρ op ty):=by
 unfold eop;have d:(∃r,nD E hint base og ρ op=X r/\nD E hint a og ρ op=X r)\/(nD E hint base og ρ op=D/\nD E hint a og ρ op=D)\/∃r,nD E hint base og ρ op=X r/\¬ iK P og b z [] r:=by
  have same:∀{o:Option OR},nD E hint base og ρ op=o->nD E hint a og ρ op=o->(∃r,nD E hint base og ρ op=X r/\nD E hint a og ρ op=X r)\/(nD E hint base og ρ op=D/\nD E hint a og ρ op=D)\/∃r,nD E hint base og ρ op=X r/\¬ iK P og b z [] r:=λ{o} h1 h2=>by
   cases o with
   | none=>grind
   | some r=>grind
  cases op with
  | call c=>
   obtain⟨callee,args,j⟩:=c;cases callee with
   | value f=>exact same rfl rfl
   | invoke r n=>exact same rfl rfl
   | builtin e=>
    cases e with
    | append=>
     simp only[nD];split
     .split
      .refine .inr (.inr ⟨_,rfl,?_⟩);unfold aCp;split
       .split
        .intro h;exact aNc (V4 h)
        .exact λh=>h.elim
       .exact λh=>h.elim
      simp
     simp
    | _=>exact same rfl rfl
  | slice t x lo i g=>cases lo<;>cases i<;>cases g<;>exact same rfl rfl
  | _=>exact same rfl rfl
 grind[aEs]
def E8:aw->Nat->aw->aw
 | ac,_,[]=>ac
 | ac,base,x::r=>E8 (bU ac base x) (base+1) r
def NO(base:Nat)(a:aw):∀(new:aw) (j:Nat) (ac:aw),iN [] base a j new ac=E8 ac (base+j) (mM base new)
 | [],j,ac=>rfl
 | x::r,j,ac=>by
  have e:fS [] base j=base+j:=by rfl
  have b:vZ [] base a j x=vZ [] base [] 0 x:=by rfl
  simp only[iN,mM,Bf,E8];rw[NO base a r (j+1),e,b];rfl
def vM{P:Program}{m bl:Bool}{b ac:aw}{base:Nat}{K Kp:aa->aw->Prop}:∀{r:OR},orD P U m bl b ac base K Kp r->
  (∃z bs,(bl=O->bs=[])/\iK P (aE b) base z bs r/\K z (E8 ac base bs))\/∃z k x,m=O/\aE b k≠ .dead/\O8 z k x r/\K z (bU ac k x)
 | .no,k=>k.elim
 | .val v,k=>.inl ⟨v,[],λ_=>rfl,⟨rfl,rfl⟩,k⟩
 | .mkf fn fs cs,k=>.inl ⟨_,[],λ_=>rfl,⟨rfl,rfl⟩,k⟩
 | .need p r,⟨hp,k⟩=>by
  rcases vM k with⟨z,bs,d,h1,a⟩|⟨z,g,x,d,h1,a,h3⟩
  .exact .inl ⟨z,bs,d,⟨hp,h1⟩,a⟩
  .exact .inr ⟨z,g,x,d,h1,⟨hp,a⟩,h3⟩
 | .alt p v w,k=>by
  rcases k with⟨hp,k⟩|k
  .exact .inl ⟨v,[],λ_=>rfl,⟨.inl ⟨hp,rfl⟩,rfl⟩,k⟩
  .exact .inl ⟨w,[],λ_=>rfl,⟨.inr rfl,rfl⟩,k⟩
 | .idx n f,⟨i,j,k⟩=>by
  rcases vM k with⟨z,bs,d,h1,a⟩|⟨z,g,x,d,h1,a,h3⟩
  .exact .inl ⟨z,bs,d,⟨i,j,h1⟩,a⟩
  .exact .inr ⟨z,g,x,d,h1,⟨i,j,a⟩,h3⟩
 | .elem xs i f,⟨y,hy,k⟩=>by
  rcases vM k with⟨z,bs,d,h1,a⟩|⟨z,g,x,d,h1,a,h3⟩
  .exact .inl ⟨z,bs,d,⟨y,hy,h1⟩,a⟩
  .exact .inr ⟨z,g,x,d,h1,⟨y,hy,a⟩,h3⟩
 | .byte l i,⟨c,hc,k⟩=>.inl ⟨_,[],λ_=>rfl,⟨c,hc,rfl,rfl⟩,k⟩
 | .text xs,⟨l,hl,hm,k⟩=>.inl ⟨_,[],λ_=>rfl,⟨l,hl,hm,rfl,rfl⟩,k⟩
 | .find es key f,⟨o,ho,k⟩=>by
  subst ho;rcases vM k with⟨z,bs,d,h1,a⟩|⟨z,g,x,d,h1,a,h3⟩
  .exact .inl ⟨z,bs,d,h1,a⟩
  .exact .inr ⟨z,g,x,d,h1,a,h3⟩
 | .born x v,k=>by
  cases bl with
  | true=>exact k.elim
  | false=>exact .inl ⟨v,[x],(λh=>nomatch h),⟨rfl,rfl⟩,k⟩
 | .upd i x v,k=>by
  simp only[orD,Bool.false_or]at k;split at k
  .rename_i h;obtain⟨h1,a⟩:=bB h;exact .inr ⟨v,i,x,h1,(λe=>by rw[e]at a;cases a),⟨rfl,rfl,rfl⟩,k⟩
  grind
 | .nilq xs neg,k=>k.elim
 | .call f args,k=>by
  cases bl with
  | true=>exact k.elim
  | false=>
   have k:CallD P f args U b base ac K Kp:=k;cases k with
   | pure r new h k=>exact .inl ⟨_,_,(λh=>nomatch h),.inl ⟨r,new,h,rfl,rfl⟩,by rw[NO,Ft]at k;rw[aJa]at k;exact k⟩
   | sole h=>cases h
   | look ks r o q hl h j hz k=>exact .inl ⟨r,[],λ_=>rfl,.inr ⟨⟨ks,o,b,rfl,q,hl,h,j,hz⟩,rfl⟩,k⟩
 | .pan v,k=>k.elim
def xB(l:aw)(n k:Nat)(x:ab):aE (bU l n x) k=if k=n then x else aE l k:=by
 induction l generalizing n k with
 | nil=>
  induction n generalizing k with
  | zero=>cases k<;>rfl
  | succ n a=>
   cases k with
   | zero=>rfl
   | succ k=>show aE (bU [] n x) k=_;rw[a];simp[aE]
 | cons y r a=>
  cases n with
  | zero=>cases k<;>simp[bU,aE]
  | succ n=>
   cases k with
   | zero=>simp[bU,aE]
   | succ k=>simp only[bU,aE,a];simp
def aBI{l m:aw}(h:aE l=aE m):∀ks,kO ks l=kO ks m
 | []=>rfl
 | k::r=>by unfold kO;rw[h,aBI h r]
def aKJ{l m:aw}(h:aE l=aE m){ks:a6}:iC 0 ks l=iC 0 ks m:=by
 have e:∀j x,K4 0 ks l j x=K4 0 ks m j x:=λj x=>by cases x<;>simp only[K4,h]
 have:∀(r:a6) (j:Nat),uS 0 ks l j r=uS 0 ks m j r:=λr=>by
  induction r with
  | nil=>intro j;rfl
  | cons k r a=>intro j;simp only[uS,e,h,a]
 exact this ks 0
def aCr{l m:aw}(h:aE l=aE m){ks:a6}(j g:Nat):kP ks l j g=kP ks m j g:=by unfold kP;rw[h]
def QK{l m:aw}(h:aE l=aE m){ks:a6}{b:Nat}:∀n v,embV ks b l n v=embV ks b m n v
 | 0,_=>rfl
 | n+1,v=>by have a:embV ks b l n=embV ks b m n:=funext (QK h n);cases v<;>simp only[embV,aCr h,a]
def aCq{l m:aw}(h:aE l=aE m){ks:a6}{b:Nat}:∀(o:aw) (j:Nat) (x y:aw),aE x=aE y->aE (iN ks b l j o x)=aE (iN ks b m j o y)
 | [],_,_,_,e=>e
 | c::r,j,x,y,e=>by
  have d:vZ ks b l j c=vZ ks b m j c:=by have a:embV ks b l 4=embV ks b m 4:=funext (QK h 4);cases c<;>simp only[vZ,aCr h,a]
  unfold iN;refine aCq h r (j+1) _ _ ?_;rw[d];funext k;rw[xB,xB,e]
def VP{l:aw}{ks:a6}{b:Nat}(a:∀(j k:Nat),ks[j]? =X k->k<Z l):∀(o:aw) (j:Nat) (x:aw),j+Z o<=Z ks->Z x=Z l->Z (iN ks b l j o x)=Z l
 | [],_,_,_,e=>e
 | c::r,j,x,h,e=>by rw[Al]at h;have d:ks[j]? =X ks[j]:=Ab o_;unfold iN;refine VP a r (j+1) _ o_ ?_;rw[kC d,gY _ (by rw[e];exact a j _ d),List.length_set,e]
section
variable {P:Program} {E:Env} {M:Imm} {ob:Hs} {L:aw} {w:World}
theorem fZ(l:aw)(k:Nat):(k<Z l/\l[k]? =X (aE l k))\/(Z l<=k/\l[k]? =D/\aE l k= .dead):=by grind[rG,Bp,Ad,bO]
noncomputable def cZ(hid:Nat->Prop)(L:aw):aw:=(Dh (Z L)).map λk=>if hid k then .dead else aE L k
theorem LS{hid:Nat->Prop}{k:Nat}(h:k<Z L):(cZ hid L)[k]? =X (if hid k then .dead else aE L k):=by simp[cZ,List.getElem?_range h]
theorem gF{hid:Nat->Prop}:Z (cZ hid L)=Z L:=by simp[cZ]
def gS{hid:Nat->Prop}:aAq (cZ hid L) L:=⟨gF,λk=>by grind[fZ,LS,Bp,gF]⟩
theorem gT{hid:Nat->Prop}:aE (cZ hid L)=λk=>if hid k then .dead else aE L k:=by
 funext k;rcases fZ L k with⟨h,e⟩|⟨h,e,a⟩
 .exact iE (LS h)
 grind[fZ,gF]
def aAv(M:Imm)(ob:Hs)(L:aw)(w:World)(z:aa)(base:Nat)(bs:aw)(e:Ending)(w':World):Prop:=
 ∃M' ob' L' u,e= .returned u/\Ext M ob L w M' ob' L' w'/\Mem M' ob' L' w'/\aE L'=qC (aE L) base bs/\Z L<=Z L'/\Rep M' ob' u z/\∀(k:Nat),¬ inB base (Z bs) k->(∀hs,ob[k]? =X hs->hs=[])->∀hs,ob'[k]? =X hs->hs=[]
def aRi(hE:ae E)(hm:Mem M ob L w){hid:Nat->Prop}{ρv:Operand->Value}{ρ:Operand->aa}(hρ:∀x,Rep M ob (ρv x) (ρ x)){hint base:Nat}{p:Oper}{z:aa}{bs:aw}
  (I:∀(k:Nat),inB base (Z bs) k->∀hs,ob[k]? =X hs->hs=[])
  (h:iK E.P (aE (cZ hid L)) base z bs (eop E hint base (aE (cZ hid L)) ρ p.op p.type)):qN E.P p ρv w (aAv M ob L w z base bs):=by
 obtain⟨dst,op,ty,pos,g,Y⟩:=p
 obtain⟨n,hn⟩:∃n,base+Z bs+1<=Z L+n/\0<n:=⟨base+Z bs+1,by omega,by omega⟩
 obtain⟨hn,hn0⟩:=hn;obtain⟨C,S,m3⟩:=hm.extend n;have Q:Z (L++Ak n ab.dead)=Z L+n:=by simp
 have hob1:Z (ob++Ak n ([]:bb))=Z L+n:=by simp[hm.len]
 generalize hL1:L++Ak n ab.dead=L1 at C S m3 Q;generalize hO1:ob++Ak n ([]:bb)=ob1 at C S m3 hob1;have H:aE L1=aE L:=by rw[<-hL1];exact H1 L n
 have d:∀k,(∀hs,ob[k]? =X hs->hs=[])->k<Z L1->ob1[k]? =X []:=λk r t=>by grind
 have s:aE (cZ hid L1)=aE (cZ hid L):=by rw[gT,gT,H]
 obtain⟨i,F,hbb,G,h⟩:∃i,ob1[i]? =X []/\(bs≠[]->i=base)/\i<Z L1/\iK E.P (aE (cZ hid L)) base z bs (eop E hint i (aE (cZ hid L)) ρ op ty):=by
  by_cases hbs:bs=[]
  .subst hbs;exact⟨Z L,d _ (λhs A=>by grind[Ad]) o_,λh=>bv rfl h,by omega,aI8 h⟩
  .have hpos:0<Z bs:=by cases bs<;>simp at hbs⊢
   exact⟨base,d base (I base ⟨Bc _,by omega⟩) o_,λ_=>rfl,by omega,h⟩
 have T:=C.weak (gS (hid:=hid));have hb1:(cZ hid L1)[i]? =X .dead:=T.idle F;have hs:=DG hE T hb1 F (λx=>(hρ x).mono (λ_ _ _ h=>h) S.hs) hint op ty;rw[s]at hs;have live:∀{k:Nat} {c:ab},L1[k]? =X c->(cZ hid L1)[k]? =X c\/((cZ hid L1)[k]? =X .dead/\(∃hs,ob1[k]? =X hs/\hs≠[])/\L1[k]? =X c):=λ{k c} As=>by
  rcases(gS (hid:=hid) (L:=L1)).2 k with q|q
  .left;rw[q];exact As
  .by_cases K:c= .dead
   .left;rw[q,K]
   .right;exact⟨q,C.live As K,As⟩
 have fin:∀{u:Value} {w':World},aAv M ob L w z base bs (.returned u) w'->((execOp ρv ⟨dst,op,ty,pos,g,Y⟩).run E.P w= .ok (.value u) w'\/((execOp ρv ⟨dst,op,ty,pos,g,Y⟩).run E.P w= .ok .skip w'/\u=undef))->qN E.P ⟨dst,op,ty,pos,g,Y⟩ ρv w (aAv M ob L w z base bs):=by
  intro u w' ha hr;rcases hr with hr|⟨hr,rfl⟩
  .exact .inl ⟨u,w',hr,ha⟩
  .exact .inr (.inl ⟨w',hr,ha⟩)
 rcases G5 (P:=E.P) hs h with⟨⟨u,w',M',ob',vs⟩,rfl⟩|⟨x,⟨u,w',M',ob',vs⟩,rfl⟩|⟨f,args,r0,new,⟨va,At,hx⟩,Be,rfl,rfl⟩|⟨f,args,⟨va,At,hx⟩,⟨ks,o,l,hl,r,hol,Be,hi,hz⟩,rfl⟩
 .obtain ⟨N,v2,v3⟩:=C.revive (ap:=L1) (gS (hid:=hid)) vs.ext vs.still vs.mem (by rw[gF]) λk c As=>live As;refine fin ⟨M',ob',L1,u,rfl,S.trans v2,N,?_,by omega,vs.rep,λk r hf hs A=>?_⟩ (vs.run dst pos g Y)
  .rw [H];funext k;unfold qC;rw[bt λh=>by have:=h.2;have:=h.1;simp at *;omega]
  .have t:k<Z L1:=by rw[<-N.len];exact(Ad.1 A).1
   have e:=d k hf t;have K:=C.idle e;have:=(v3 k [] K e).2 rfl K;rw[A]at this;cases this;rfl
 .obtain rfl:base=i:=(hbb s_).symm;have m:bU L1 base x=L1.set base x:=gY x G;have Am:bU (cZ hid L1) base x=(cZ hid L1).set base x:=gY x (by rw[gF];exact G);obtain⟨N,v2,v3⟩:=C.revive (ap:=bU L1 base x) (gS (hid:=hid)) vs.ext vs.still vs.mem (by rw[m,Am];simp[gF]) λk c As=>by grind
  refine fin ⟨M',ob',bU L1 base x,u,rfl,S.trans v2,N,?_,by rw[m];simp;omega,vs.rep,λk r hf hs A=>?_⟩ (vs.run dst pos g Y)
  .funext k;unfold qC;by_cases r:k=base
   .subst r;rw[bu ⟨Bc _,by simp⟩,m];rw[iE (Ba G)];simp
   .rw [bt λh=>r (by have h1:=h.1;have h2:=h.2;simp at h2;omega),<-H,m];rcases fZ L1 k with⟨h1,J⟩|⟨h1,J,R⟩
    .exact iE (by rw[Bg (Gq r)];exact J)
    .rcases fZ (L1.set base x) k with⟨h3,_⟩|⟨_,_,V⟩
     .simp at h3;omega
     .rw [V,R]
  .have hkb:k≠base:=λe=>r ⟨by omega,by simp;omega⟩;have t:k<Z L1:=by have:=(Ad.1 A).1;rw[N.len,m]at this;simpa using this
   have e:=d k hf t;have K:=C.idle e;have:=(v3 k [] K e).2 rfl (by rw[m,Bg (Gq hkb)];exact K);rw[A]at this;cases this;rfl
 .rw [<-s]at Be;have y:=xF (λv a=>T.cvtV (n0:=0) (ks:=[]) rfl 5 v a) At;have hnl:Z (mM base new)=Z new:=by simp[mM]
  refine kL.op (λe w ⟨_,_,_,u,A,_⟩=>by rw[A];simp) (hx dst pos g Y) (cP.mono (λe w' ⟨M',An,x1,x2,W⟩=>?_) (Be M [] w va C.bare y));have hin:∀j,j<Z new->ob1[base+j]? =X []:=λj hj=>d _ (I _ ⟨by omega,by omega⟩) o_;obtain⟨J,R,V⟩:=C.emb0 o_ hin x1 x2;obtain⟨q1,q2⟩:=gE L1 (mM base new) base o_;obtain⟨p1,p2⟩:=gE ob1 An base (by rw[x2.len];omega);cases e with
  | panicked ch=>exact W.elim
  | outgrown=>exact W.elim
  | returned u=>
   refine⟨M',_,_,u,rfl,S.trans R,J,?_,by omega,V 5 u r0 W,λk r hf hs A=>?_⟩
   .funext k;unfold qC;by_cases r:inB base (Z (mM base new)) k
    .rw [bu r];have t:k-base<Z (mM base new):=by have:=r.1;have:=r.2;omega
     refine iE ?_;rw[q2,bu (show base<=k/\k<base+Z (mM base new)from r),Fk,Ab t];rfl
    .rw [bt r,<-H];rcases fZ L1 k with⟨h1,J⟩|⟨h1,J,R⟩
     .exact iE (by rw[q2,bt (show ¬ (base<=k/\k<base+Z (mM base new))from r)];exact J)
     grind[fZ]
   .rw [p2,bt (show ¬ (base<=k/\k<base+Z An)from by rw[x2.len,<-hnl];exact r)]at A
    grind[Ad]
 .have B:aE l=aE (cZ hid L1):=hl.trans s.symm;rw[<-s,aKJ B]at Be;rw[aBI B]at r;obtain⟨c1,_,_⟩:=T.cvt (n0:=0) r;have y:=xF (λv a=>T.cvtV (n0:=0) r 5 v a) At;refine kL.op (λe w ⟨_,_,_,u,A,_⟩=>by rw[A];intro h;cases h) (hx dst pos g Y) (cP.mono (λe w' ⟨M',An,x1,x2,W⟩=>?_) (Be M _ w va c1 y));obtain⟨J,R,V⟩:=T.emb r x1 x2;have hL2:iN ks (Z (cZ hid L1)) (cZ hid L1) 0 o (cZ hid L1)=cZ hid L1:=by
   have h1:=aCq B (ks:=ks) (b:=Z (cZ hid L1)) o 0 l (cZ hid L1) B;rw[hi]at h1;have h2:=VP (l:=cZ hid L1) (ks:=ks) (b:=Z (cZ hid L1)) (λj k hj=>(Ad.1 (fQ ((oD r).1 j k hj))).1) o 0 (cZ hid L1) o_ rfl;refine Fe λn=>?_;by_cases hn:n<Z (cZ hid L1)
   .rw [rG hn,rG (by rw[h2];exact hn),<-h1,B]
   grind[Bp]
  rw[hL2]at J R V;cases e with
  | panicked ch=>exact W.elim
  | outgrown=>exact W.elim
  | returned u=>
   have hu:=T.embV r x1.hs rW 5 u z W;rw[<-QK B,hz]at hu;obtain⟨N,v2,v3⟩:=C.revive (ap:=L1) (gS (hid:=hid)) R (λk hs h1 h2=>⟨λ_=>V k hs h1 h2,λe _=>e▸(V k hs h1 h2).2⟩) J (by rw[gF]) λk c As=>live As;refine⟨M',_,L1,u,rfl,S.trans v2,N,?_,by omega,hu,λk r hf hs A=>?_⟩
   .rw [H];funext k;unfold qC;rw[bt λh=>by have:=h.2;have:=h.1;simp at *;omega]
   .have t:k<Z L1:=by rw[<-N.len];exact(Ad.1 A).1
    have e:=d k hf t;have K:=C.idle e
    grind
def aKe(M:Imm)(ob:Hs)(L:aw)(w:World)(z:aa)(k:Nat)(x:ab)(e:Ending)(w':World):Prop:=
 ∃M' ob' L' u,e= .returned u/\Ext M ob L w M' ob' L' w'/\Mem M' ob' L' w'/\(aE L'=λa=>if a=k then x else aE L a)/\Z L<=Z L'/\Rep M' ob' u z/\∀(a:Nat),(∀hs,ob[a]? =X hs->hs=[])->∀hs,ob'[a]? =X hs->hs=[]
def aNC(hE:ae E)(hm:Mem M ob L w){hid:Nat->Prop}{ρv:Operand->Value}{ρ:Operand->aa}(V:∀x,Rep M ob (ρv x) (ρ x)){hint base:Nat}{p:Oper}{z:aa}{k:Nat}{x:ab}
  (i:∀hs,ob[base]? =X hs->hs=[]) (K:aE (cZ hid L) k≠ .dead) (h:O8 z k x (eop E hint base (aE (cZ hid L)) ρ p.op p.type)):qN E.P p ρv w (aKe M ob L w z k x):=by
 obtain⟨dst,op,ty,pos,m,gd⟩:=p
 obtain⟨n,hn,An⟩:∃n,base+1<=Z L+n/\0<n:=⟨base+1,by omega,by omega⟩
 obtain⟨r,Be,S⟩:=hm.extend n;have j:Z (L++Ak n ab.dead)=Z L+n:=by simp
 have B:Z (ob++Ak n ([]:bb))=Z L+n:=by simp[hm.len]
 generalize I:L++Ak n ab.dead=L1 at r Be S j;generalize T:ob++Ak n ([]:bb)=ob1 at r Be S B;have C:aE L1=aE L:=by rw[<-I];exact H1 L n
 have a:∀k,(∀hs,ob[k]? =X hs->hs=[])->k<Z L1->ob1[k]? =X []:=λk K t=>by grind
 have d:aE (cZ hid L1)=aE (cZ hid L):=by rw[gT,gT,C]
 have b:=a base i o_;have N:=r.weak (gS (hid:=hid));have H:(cZ hid L1)[base]? =X .dead:=N.idle b;have hs:=DG hE N H b (λx=>(V x).mono (λ_ _ _ h=>h) Be.hs) hint op ty;rw[d]at hs;have live:∀{k:Nat} {c:ab},L1[k]? =X c->(cZ hid L1)[k]? =X c\/((cZ hid L1)[k]? =X .dead/\(∃hs,ob1[k]? =X hs/\hs≠[])/\L1[k]? =X c):=λ{k c} F=>by
  rcases(gS (hid:=hid) (L:=L1)).2 k with q|q
  .left;rw[q];exact F
  .by_cases y:c= .dead
   .left;rw[q,y]
   .right;exact⟨q,r.live F y,F⟩
 have A:k<Z L1:=by
  have:=bO (l:=cZ hid L1) (n:=k) rfl (by rw[d];exact K)
  grind[Ad,gF]
 obtain⟨u,w',M',ob',vs⟩:=A0 hs h;have o:bU (cZ hid L1) k x=(cZ hid L1).set k x:=gY x (by rw[gF];exact A);obtain⟨As,Am,At⟩:=r.revive (ap:=L1.set k x) (gS (hid:=hid)) vs.ext vs.still vs.mem (by rw[o];simp[gF]) λg c F=>by grind
 have s:aKe M ob L w z k x (.returned u) w':=by
  refine⟨M',ob',L1.set k x,u,rfl,Be.trans Am,As,?_,by simp;omega,vs.rep,λg Y hs J=>?_⟩
  .funext g;by_cases f:g=k
   .subst f;rw[bu rfl];exact iE (Ba A)
   .rw [bt f,<-C];rcases fZ L1 g with⟨h1,Q⟩|⟨h1,Q,R⟩
    .exact iE (by rw[Bg (Gq f)];exact Q)
    .rcases fZ (L1.set k x) g with⟨h3,_⟩|⟨_,_,W⟩
     .simp at h3;omega
     .rw [W,R]
  .have t:g<Z L1:=by have:=(Ad.1 J).1;rw[As.len]at this;simpa using this
   have e:=a g Y t;have y:=r.idle e;have f:g≠k:=λR=>by grind[gT,iE]
   have:=(At g [] y e).2 rfl (by rw[Bg (Gq f)];exact y);rw[J]at this;cases this;rfl
 rcases vs.run dst pos m gd with G|⟨G,rfl⟩
 .exact .inl ⟨u,w',G,s⟩
 .exact .inr (.inl ⟨w',G,s⟩)
end
noncomputable def nT(E:Env)(tab:a6)(i:Nat)(d:Option Nat)(s:AS):Nat->ab:=if blD E d=O then λ_=>.dead else qT tab i s
def Y(E:Env)(all:bc)(tab:a6)(L0 i:Nat)(p:Oper)(s:AS)(z:aa)(base:Nat)(bs:aw):Prop:=
 L0<=base/\(blD E p.dst=O->bs=[])/\((cM all (evG tab all i s.g) p.guard=X U/\z= .tup []/\bs=[])\/
  (cM all (evG tab all i s.g) p.guard=X O/\iK E.P (nT E tab i p.dst s) base z bs (eop E (fA E p.dst) base (nT E tab i p.dst s) (evG tab all i s.g) p.op p.type)))
def fresh(s:AS)(base:Nat)(bs:aw):Prop:=∀k,inB base (Z bs) k->∀i,¬ s.br i k
def WF(L0:Nat)(s:AS):Prop:=∀k,L0<=k->(∀i,¬ s.br i k)->s.o k= .dead
def nOp(E:Env)(all:bc)(tab:a6)(L0 i:Nat)(p:Oper)(K:AS->Prop)(s:AS):Prop:=
 ∃z base bs,Y E all tab L0 i p s z base bs/\fresh s base bs/\K (s.upd i p.dst z base bs)
section
variable {E:Env} {all:bc} {tab:a6} {L0:Nat}
theorem MW{j i t:Nat}{q:Oper}:∀{l:bc} {n:Nat},l[i]? =X q->q.dst=X t->loose tab (n+i) j=O->UW tab j t n l=O
 | [],n,h,_,_=>by simp at h
 | x::r,n,h,hd,hl=>by
  cases i with
  | zero=>
   simp at h;subst h;rw[Ft]at hl;simp[UW,hd,hl]
  | succ i=>
   have:=MW (l:=r) (n:=n+1) (i:=i) (q:=q) (by simp_all) hd (by rw[show n+1+i=n+(i+1)from by omega];exact hl);simp[UW,this]
def rI{i j:Nat}:loose tab i j=O↔i≠j/\dG (dP tab j) i=U/\dG (dP tab i) j=false:=by
 simp only[loose,Af,Dj];constructor
 .rintro ⟨⟨h1,a⟩,h3⟩;exact⟨λe=>by simp_all,a,h3⟩
 grind[JX]
def sW{i j:Nat}(h:loose tab i j=O):loose tab j i=true:=by obtain⟨h1,a,h3⟩:=rI.1 h;exact rI.2 ⟨Gq h1,h3,a⟩
def QI{i j:Nat}{q:Oper}(a:all[j]? =X q)(hl:loose tab j i=O)(g:Nat->aa)(z:aa):evG tab all i (kM g q.dst z)=evG tab all i g:=by
 funext x;cases x with
 | tmp t=>
  simp only[evG];cases b:UW tab i t 0 all with
  | true=>rfl
  | false=>
   simp only[cond_false,kM];rw[bt]
   grind[MW]
 | _=>rfl
def aDi{i j:Nat}(hl:loose tab j i=O){s:AS}(e:WF L0 s){d:Option Nat}{z:aa}{base:Nat}{bs:aw}(f:L0<=base)(g:fresh s base bs):qT tab i (s.upd j d z base bs)=qT tab i s:=by
 obtain⟨_,l,_⟩:=rI.1 hl;funext k;unfold qT;by_cases a:inB base (Z bs) k
 .have h1:ZD tab i (s.upd j d z base bs).br k:=⟨j,.inr ⟨rfl,a⟩,l⟩
  rw[bu h1];have n:=e k (Cp f a.1) (g k a)
  grind
 .have m:(s.upd j d z base bs).o k=s.o k:=by
   show qC s.o base bs k=s.o k;unfold qC
   grind
  have p:ZD tab i (s.upd j d z base bs).br k↔ZD tab i s.br k:=by
   constructor
   .rintro ⟨b,h|⟨_,h⟩,c⟩
    .exact ⟨b,h,c⟩
    grind
   .rintro ⟨b,h,c⟩;exact⟨b,.inl h,c⟩
  grind
def aOX{i j:Nat}{p q:Oper}(f:all[j]? =X q)(hl:loose tab j i=O){s:AS}(d:WF L0 s){c:aa}{a:Nat}{b:aw}(h:L0<=a)(e:fresh s a b){z:aa}{base:Nat}{bs:aw}:
  Y E all tab L0 i p (s.upd j q.dst c a b) z base bs↔Y E all tab L0 i p s z base bs:=by
 have k:evG tab all i (s.upd j q.dst c a b).g=evG tab all i s.g:=QI f hl s.g c;have l:nT E tab i p.dst (s.upd j q.dst c a b)=nT E tab i p.dst s:=by unfold nT;rw[aDi hl d h e]
 unfold Y;rw[k,l]
def WF.upd{i:Nat}{s:AS}(b:WF L0 s){d:Option Nat}{z:aa}{base:Nat}{bs:aw}:WF L0 (s.upd i d z base bs):=λk c a=>by have h1:¬ inB base (Z bs) k:=λh=>a i (.inr ⟨rfl,h⟩);show qC s.o base bs k= .dead;unfold qC;rw[bt h1];exact b k c λe h=>a e (.inl h)
def aFg{s:AS}{i j:Nat}{d e:Option Nat}{z f:aa}{base a:Nat}{bs b:aw}(p:∀t,d=X t->e≠X t)(h:∀k,inB base (Z bs) k->¬ inB a (Z b) k):
  (s.upd i d z base bs).upd j e f a b=(s.upd j e f a b).upd i d z base bs:=by
 have l:kM (kM s.g d z) e f=kM (kM s.g e f) d z:=by
  funext t;simp only[kM]
  grind
 have n:qC (qC s.o base bs) a b=qC (qC s.o a b) base bs:=by
  funext k;unfold qC
  grind
 have m:(λc k=>(s.br c k\/(c=i/\inB base (Z bs) k))\/(c=j/\inB a (Z b) k))=λc k=>(s.br c k\/(c=j/\inB a (Z b) k))\/(c=i/\inB base (Z bs) k):=by
  funext c k
  grind
 show AS.mk (kM (kM s.g d z) e f) (qC (qC s.o base bs) a b) (λc k=>(s.br c k\/(c=i/\inB base (Z bs) k))\/(c=j/\inB a (Z b) k))=_;rw[l,n,m];rfl
def aL8{i j:Nat}{p q:Oper}(hp:all[i]? =X p)(x:all[j]? =X q)(hl:loose tab i j=O)(w:∀t,p.dst=X t->q.dst≠X t){s:AS}(l:WF L0 s){z:aa}{base:Nat}{bs:aw}
  (o:Y E all tab L0 i p s z base bs) (r:fresh s base bs) {K:AS->Prop} (h:nOp E all tab L0 j q K (s.upd i p.dst z base bs)):
  nOp E all tab L0 j q (λs'=>WF L0 s'/\Y E all tab L0 i p s' z base bs/\fresh s' base bs/\K (s'.upd i p.dst z base bs)) s:=by
 obtain⟨v,a,b,h1,u,h3⟩:=h;have d:=(aOX (p:=q) hp hl l o.1 r).1 h1;have g:fresh s a b:=λk f m c=>u k f m (.inl c);have e:∀k,inB base (Z bs) k->¬ inB a (Z b) k:=λk f n=>u k n i (.inr ⟨rfl,f⟩);refine⟨v,a,b,d,g,l.upd,(aOX (p:=p) x (sW hl) l d.1 g).2 o,λk f m c=>?_,?_⟩
 .rcases c with c|⟨_,c⟩
  .exact r k f m c
  simp_all
 .rw [<-aFg w e];exact h3
noncomputable def AS.turn(s:AS)(d:Option Nat)(z:aa)(k:Nat)(x:ab):AS:=⟨kM s.g d z,λa=>if a=k then x else s.o a,s.br⟩
def Yu(E:Env)(all:bc)(tab:a6)(L0 i:Nat)(p:Oper)(s:AS)(z:aa)(base k:Nat)(x:ab):Prop:=
 (L0<=base/\∀i,¬ s.br i base)/\cM all (evG tab all i s.g) p.guard=X O/\qT tab i s k≠ .dead/\O8 z k x (eop E (fA E p.dst) base (qT tab i s) (evG tab all i s.g) p.op p.type)
def uOp(E:Env)(all:bc)(tab:a6)(L0 i:Nat)(p:Oper)(K:AS->Prop)(s:AS):Prop:=
 ∃z base k x,Yu E all tab L0 i p s z base k x/\K (s.turn p.dst z k x)
def FC{s:AS}{i base:Nat}{d:Option Nat}{z:aa}:s.upd i d z base []=⟨kM s.g d z,s.o,s.br⟩:=by
 unfold AS.upd;congr 1
 .funext k;unfold qC;rw[bt λh=>by have h1:=h.1;have a:=h.2;grind]
 .funext i' k;refine propext ⟨λh=>?_,.inl⟩;rcases h with h|⟨_,h⟩
  .exact h
  .have h1:=h.1;have a:=h.2;grind
def aC0{g:Nat->aa}{d a:Option Nat}{z b:aa}(c:∀t,d=X t->a≠X t):kM (kM g d z) a b=kM (kM g a b) d z:=by
 funext t;simp only[kM]
 grind
def LJ{s:AS}{i base:Nat}{d a:Option Nat}{z b:aa}{k:Nat}{x:ab}(c:∀t,d=X t->a≠X t):(s.upd i d z base []).turn a b k x=(s.turn a b k x).upd i d z base []:=by rw[FC,FC];unfold AS.turn;rw[aC0 c]
def WF.turn{i:Nat}{s:AS}(c:WF L0 s){d:Option Nat}{z:aa}{k:Nat}{x:ab}(g:qT tab i s k≠ .dead):WF L0 (s.turn d z k x):=λa h1 f=>by
 have b:a≠k:=λe=>by
  subst e;refine g ?_;unfold qT;split
  .rfl
  .exact c a h1 f
 show(if a=k then x else s.o a)= .dead;rw[bt b];exact c a h1 f
def aJ8{i j:Nat}{p q:Oper}(b:all[j]? =X q)(hl:loose tab j i=O)(e:blD E p.dst=O){s:AS}{a:aa}{k:Nat}{x:ab}{z:aa}{base:Nat}{bs:aw}:
  Y E all tab L0 i p (s.turn q.dst a k x) z base bs↔Y E all tab L0 i p s z base bs:=by
 have c:evG tab all i (s.turn q.dst a k x).g=evG tab all i s.g:=QI b hl s.g a;have d:nT E tab i p.dst (s.turn q.dst a k x)=nT E tab i p.dst s:=by
  unfold nT
  grind
 unfold Y;rw[c,d]
def aJ7{i j:Nat}{p q:Oper}(c:all[j]? =X q)(hl:loose tab j i=O){s:AS}{b:aa}{a:Nat}{z:aa}{base k:Nat}{x:ab}:
  Yu E all tab L0 i p (s.upd j q.dst b a []) z base k x↔Yu E all tab L0 i p s z base k x:=by
 rw[FC];have d:evG tab all i (kM s.g q.dst b)=evG tab all i s.g:=QI c hl s.g b;unfold Yu;rw[d];rfl
def aKr{i j:Nat}{p q:Oper}(hp:all[i]? =X p)(o:all[j]? =X q)(hl:loose tab i j=O)(g:blD E p.dst=O)(n:∀t,p.dst=X t->q.dst≠X t){s:AS}(m:WF L0 s){z:aa}{base:Nat}{bs:aw}
  (f:Y E all tab L0 i p s z base bs) (u:fresh s base bs) {K:AS->Prop} (h:uOp E all tab L0 j q K (s.upd i p.dst z base bs)):
  uOp E all tab L0 j q (λs'=>WF L0 s'/\Y E all tab L0 i p s' z base bs/\fresh s' base bs/\K (s'.upd i p.dst z base bs)) s:=by
 obtain rfl:=f.2.1 g;obtain⟨l,c,k,x,h1,r⟩:=h;have d:=(aJ7 hp hl).1 h1;refine⟨l,c,k,x,d,m.turn d.2.2.1,(aJ8 o (sW hl) g).2 f,λk e=>by have a:=e.1;have b:=e.2;simp at b;omega,?_⟩;rw[<-LJ n];exact r
def aHO{i j:Nat}{p q:Oper}(hp:all[i]? =X p)(v:all[j]? =X q)(hl:loose tab i j=O)(g:blD E q.dst=O)(r:∀t,p.dst=X t->q.dst≠X t){s:AS}(n:WF L0 s){z:aa}{base k:Nat}{x:ab}
  (o:Yu E all tab L0 i p s z base k x) {K:AS->Prop} (h:nOp E all tab L0 j q K (s.turn p.dst z k x)):
  nOp E all tab L0 j q (λs'=>WF L0 s'/\Yu E all tab L0 i p s' z base k x/\K (s'.turn p.dst z k x)) s:=by
 obtain⟨l,c,m,h1,w,h3⟩:=h;obtain rfl:=h1.2.1 g;have d:=(aJ8 hp hl g).1 h1;refine⟨l,c,[],d,λk f=>by have a:=f.1;have b:=f.2;simp at b;omega,n.upd,(aJ7 v (sW hl)).2 o,?_⟩;rw[LJ λt u e=>r t e u];exact h3
def sOp(E:Env)(all:bc)(tab:a6)(L0 i:Nat)(p:Oper)(Kp:(Nat->aa)->aa->aw->Prop)(K:AS->Prop)(s:AS):Prop:=
 ∃ac:aw,aE ac=s.o/\L0<=aV ac/\(∀k,L0<=k->k<aV ac->∃i,s.br i k)/\(∀i k,s.br i k->k<aV ac)/\
  ((cM all (evG tab all i s.g) p.guard=X U/\K (s.upd i p.dst (.tup []) L0 []))\/
    (cM all (evG tab all i s.g) p.guard=X O/\orD E.P O O U ac ac (aV ac) (λv ap=>aV ac<=aV ap->K ⟨kM s.g p.dst v,aE ap,λa k=>s.br a k\/(a=i/\aV ac<=k/\k<aV ap)⟩) (Kp s.g)
     (eop E (fA E p.dst) (aV ac) (aE ac) (evG tab all i s.g) p.op p.type)))
def aOp(E:Env)(ops:Array Oper)(tab:a6)(L0:Nat)(Kp:(Nat->aa)->aa->aw->Prop)(i:Nat)(K:AS->Prop)(s:AS):Prop:=
 ∃p,ops[i]? =X p/\(((sole tab i 0 ops.toList=O->blD E p.dst=O)/\nOp E ops.toList tab L0 i p K s)\/((LR E tab i 0 ops.toList=O/\blD E p.dst=U)/\uOp E ops.toList tab L0 i p K s)\/
  ((sole tab i 0 ops.toList=O/\blD E p.dst=U)/\sOp E ops.toList tab L0 i p Kp K s))
def wpA(E:Env)(ops:Array Oper)(tab:a6)(L0:Nat)(Kp:(Nat->aa)->aa->aw->Prop)(Q:AS->Prop):Nat->Array Bool->AS->Prop
 | 0,listed,s=>Ea .any ops listed=[]/\Q s
 | fuel+1,listed,s=>(Ea .any ops listed=[]->Q s)/\∀i∈Ea .any ops listed,aOp E ops tab L0 Kp i (wpA E ops tab L0 Kp Q fuel (listed.setIfInBounds i O)) s
end
section
variable {E:Env} {ops:Array Oper} {tab:a6} {L0:Nat} {Kp:(Nat->aa)->aa->aw->Prop} {Q:AS->Prop}
def KA{i:Nat}{K d:AS->Prop}{s:AS}(c:∀s,K s->d s)(h:aOp E ops tab L0 Kp i K s)(f:sole tab i 0 ops.toList=U):aOp E ops tab L0 Kp i d s:=by
 obtain⟨p,h1,⟨a,z,base,bs,h3,b,e⟩|⟨a,z,base,k,x,h3,b⟩|⟨a,_⟩⟩:=h
 .exact ⟨p,h1,.inl ⟨a,z,base,bs,h3,b,c _ e⟩⟩
 .exact ⟨p,h1,.inr (.inl ⟨a,z,base,k,x,h3,c _ b⟩)⟩
 grind
def lK(tab:a6)(a:Array Bool):Prop:=∀j i,a.getD j U=O->dG (dP tab j) i=O->a.getD i U=O
def yU{E:Env}{tab:a6}{j:Nat}:∀{l:bc} {n:Nat},LR E tab j n l=O->∀(i:Nat) q,l[i]? =X q->loose tab (n+i) j=O->blD E q.dst=O
 | [],_,_,i,q,hi,_=>by simp at hi
 | x::r,n,h,i,q,hi,hl=>by
  simp only[LR,Af,Bool.or_eq_true,Dj]at h;cases i with
  | zero=>
   grind
  | succ i=>exact yU h.2 i q (by simp_all) (by grind)
def aAr(E:Env)(ops:Array Oper)(tab:a6)(i:Nat)(d:Option Nat):Prop:=∀(a:Array Bool) (j:Nat),lK tab a->i∈Ea .any ops a->j∈Ea .any ops a->j≠i->
   lK tab (a.setIfInBounds j O)/\sole tab j 0 ops.toList=U/\loose tab i j=O/\∀q,ops[j]? =X q->∀t,d=X t->q.dst≠X t
def aIJ{i:Nat}{p:Oper}{z:aa}{base:Nat}{bs:aw}(M:ops[i]? =X p)(o:sole tab i 0 ops.toList=O->blD E p.dst=O)(d:aAr E ops tab i p.dst):
  ∀(c:Nat) (a:Array Bool) (s:AS),lK tab a->WF L0 s->i∈Ea .any ops a->Y E ops.toList tab L0 i p s z base bs->fresh s base bs->
   wpA E ops tab L0 Kp Q c (a.setIfInBounds i O) (s.upd i p.dst z base bs)->wpA E ops tab L0 Kp Q (c+1) a s:=by
 have k:∀{K:AS->Prop} {s:AS},Y E ops.toList tab L0 i p s z base bs->fresh s base bs->K (s.upd i p.dst z base bs)->aOp E ops tab L0 Kp i K s:=λf g I=>⟨p,M,.inl ⟨o,z,base,bs,f,g,I⟩⟩
 intro c;induction c with
 | zero=>
  intro a s F u e f g H;refine⟨λh=>(by simp_all),λj n=>?_⟩;by_cases b:j=i
  .simp_all
  .have:=ready_mono n b;rw[H.1]at this;cases this
 | succ c A=>
  intro a s F u e f g H;refine⟨λh=>(by rw[h]at e;cases e),λj n=>?_⟩;by_cases b:j=i
  .subst b;exact k f g H
  .have h1:=H.2 j (ready_mono n b);obtain⟨B,t,Be,C⟩:=d a j F e n b;obtain⟨q,m,⟨x,J⟩|⟨l,G⟩|⟨hs,_⟩⟩:=h1
   .have:=aL8 q_ q_ Be (C q m) u f g J;refine KA (λs' ⟨v,w,r,y⟩=>A (a.setIfInBounds j O) s' B v (ready_mono e (Gq b)) w r ?_) ⟨q,m,.inl ⟨x,this⟩⟩ t;rw[Jg _ _ b];exact y
   .have L:blD E p.dst=true:=yU l.1 i p q_ q_;have:=aKr q_ q_ Be L (C q m) u f g G;refine KA (λs' ⟨v,w,r,y⟩=>A (a.setIfInBounds j O) s' B v (ready_mono e (Gq b)) w r ?_) ⟨q,m,.inr (.inl ⟨l,this⟩)⟩ t;rw[Jg _ _ b];exact y
   .rw [t]at hs;cases hs.1
def aQU{i:Nat}{p:Oper}{z:aa}{base k:Nat}{x:ab}(L:ops[i]? =X p)(e:LR E tab i 0 ops.toList=O/\blD E p.dst=U)(d:aAr E ops tab i p.dst):
  ∀(b:Nat) (a:Array Bool) (s:AS),lK tab a->WF L0 s->i∈Ea .any ops a->Yu E ops.toList tab L0 i p s z base k x->
   wpA E ops tab L0 Kp Q b (a.setIfInBounds i O) (s.turn p.dst z k x)->wpA E ops tab L0 Kp Q (b+1) a s:=by
 have v:∀{K:AS->Prop} {s:AS},Yu E ops.toList tab L0 i p s z base k x->K (s.turn p.dst z k x)->aOp E ops tab L0 Kp i K s:=λm F=>⟨p,L,.inr (.inl ⟨e,z,base,k,x,m,F⟩)⟩
 intro b;induction b with
 | zero=>
  intro a s y u o m H;refine⟨λh=>(by simp_all),λj n=>?_⟩;by_cases c:j=i
  .simp_all
  .have:=ready_mono n c;rw[H.1]at this;cases this
 | succ b A=>
  intro a s y u o m H;refine⟨λh=>(by simp_all),λj n=>?_⟩;by_cases c:j=i
  .subst c;simp_all
  .have h1:=H.2 j (ready_mono n c);obtain⟨B,t,w,C⟩:=d a j y o n c;have f:∀q,ops[j]? =X q->blD E q.dst=true:=λq g=>yU e.1 j q q_ (by rw[Bv];exact sW w);obtain⟨q,g,⟨r,G⟩|⟨l,M⟩|⟨hs,_⟩⟩:=h1
   .have:=aHO q_ q_ w (f q g) (C q g) u m G;refine KA (λs' ⟨I,J,Be⟩=>A (a.setIfInBounds j O) s' B I (ready_mono o (Gq c)) J ?_) ⟨q,g,.inl ⟨r,this⟩⟩ t;rw[Jg _ _ c];exact Be
   .rw [f q g]at l;cases l.2
   .rw [t]at hs;cases hs.1
end
def lJ(fr:au)(ac:aw)(br:List (Nat×Nat)):AS:=⟨bA fr,aE ac,λi k=>(i,k)∈br⟩
def fC(fr:au)(d:Option Nat)(v:aa):bA (kU fr d v)=kM (bA fr) d v:=by
 funext t;cases d with
 | none=>rfl
 | some d=>
  simp only[kU,kM,rK,Ff]
  grind
def aDU(ks:a6)(ac:aw)(k:Nat):aE (uF ks ac) k=if k∈ks then .dead else aE ac k:=by
 induction ks generalizing ac with
 | nil=>simp[uF]
 | cons x r a=>
  simp only[uF,a,xB,Az]
  grind
def BN{tab:a6}{j k:Nat}:∀{br:List (Nat×Nat)},k∈KU tab j br↔ ∃i,(i,k)∈br/\dG (dP tab j) i=U
 | []=>by simp[KU]
 | (i,k')::r=>by
  simp only[KU];cases h:dG (dP tab j) i with
  | true=>
   simp only[cond_true,BN (br:=r),Az,Prod.mk.injEq]
   grind
  | false=>
   simp only[cond_false,Az,BN (br:=r),Prod.mk.injEq]
   grind
def aKY(tab:a6)(j:Nat)(fr:au)(ac:aw)(br:List (Nat×Nat)):aE (uF (KU tab j br) ac)=qT tab j (lJ fr ac br):=by
 funext k;rw[aDU];unfold qT;have:k∈KU tab j br↔ZD tab j (lJ fr ac br).br k:=BN;by_cases h:k∈KU tab j br
 .grind
 .rw [bt h,bt λe=>h (this.2 e)];rfl
def WO(bs:aw):∀(ac:aw),E8 ac (Z ac) bs=ac++bs:=by
 induction bs with
 | nil=>intro ac;simp[E8]
 | cons x r a=>
  intro ac;simp only[E8,TW];have:=a (ac++[x])
  grind
theorem vR(n:Nat):∀(l:aw),jH n l=l.drop n:=by
 induction n with
 | zero=>intro l;rfl
 | succ n a=>intro l;cases l with
  | nil=>rfl
  | cons x r=>simp[jH,a]
def rX{j i k:Nat}:∀{l:aw} {base:Nat} {br:List (Nat×Nat)},(i,k)∈born j base l br↔(i,k)∈br\/(i=j/\inB base (Z l) k)
 | [],base,br=>by simp[born,inB];omega
 | x::r,base,br=>by
  have a:=rX (j:=j) (i:=i) (k:=k) (l:=r) (base:=base+1) (br:=br);have e:born j base (x::r) br=(j,base)::born j (base+1) r br:=rfl;have hm:(i,k)∈(j,base)::born j (base+1) r br↔((i=j/\k=base)\/(i,k)∈br)\/(i=j/\inB (base+1) (Z r) k):=by grind
  rw[e,hm];unfold inB;rw[Al];constructor
  .grind
  grind
theorem AB{rest:bc}{n:Nat}{d:Option Nat}{fr:au}{v:aa}{k:au->Prop}(h:wrP rest n d fr v k):k (kU fr d v):=by
 unfold wrP at h;cases d with
 | none=>exact h
 | some d=>
  dsimp only at h;cases a:sY n rest with
  | false=>rw[a]at h;exact h
  | true=>
   rw[a]at h;simp only[cond_true]at h;split at h
   .rename_i b;cases b with
    | true=>exact h.1 rfl
    | false=>exact h.2 rfl
   grind
def aJ6(fr:au)(ac:aw)(br:List (Nat×Nat))(n:Nat)(d:Option Nat)(z:aa)(bs:aw):
  lJ (kU fr d z) (E8 ac (aV ac) bs) (born n (aV ac) (jH (aV ac) (E8 ac (aV ac) bs)) br)=(lJ fr ac br).upd n d z (aV ac) bs:=by
 rw[cC,WO,vR,List.drop_left];unfold lJ AS.upd;rw[fC];congr 1
 .funext k;show _=qC (aE ac) (Z ac) bs k;unfold qC;by_cases h:inB (Z ac) (Z bs) k
  .rw [bu h];have a:k-Z ac<Z bs:=by have:=h.1;have:=h.2;omega
   refine iE ?_;rw[Au h.1,Fk,Ab a];rfl
  .rw [bt h];by_cases f:k<Z ac
   .grind [fZ,iE,Ai]
   .have c:Z ac+Z bs<=k:=by refine Nat.le_of_not_lt λb=>h ⟨by omega,b⟩
    rcases fZ (ac++bs) k with⟨h1,_⟩|⟨_,_,e⟩
    .grind
    grind[fZ]
 .funext i k;exact propext rX
structure LI(L0 n:Nat)(ac:aw)(br:List (Nat×Nat)):Prop where
 low:L0<=aV ac
 all:∀k,L0<=k->k<aV ac->∃i,(i,k)∈br
 lt:∀i k,(i,k)∈br->k<aV ac/\i<n
def LI.wf{L0 n:Nat}{ac:aw}{br:List (Nat×Nat)}(h:LI L0 n ac br)(fr:au):WF L0 (lJ fr ac br):=λk b c=>by
 rcases fZ ac k with⟨h1,_⟩|⟨_,_,e⟩
 .obtain ⟨i,a⟩:=h.all k b (by rw[cC];exact h1);exact bv a (c i)
 .exact e
def LI.put{L0 n:Nat}{ac:aw}{br:List (Nat×Nat)}(h:LI L0 n ac br){ap:aw}(hl:aV ac<=aV ap):LI L0 (n+1) ap (born n (aV ac) (jH (aV ac) ap) br):=by
 have f:Z (jH (aV ac) ap)=aV ap-aV ac:=by rw[vR,Dt,cC ap]
 refine⟨Cp h.low hl,λk h1 e=>?_,λi k c=>?_⟩
 .by_cases c:k<aV ac
  .obtain ⟨i,d⟩:=h.all k h1 c;exact⟨i,rX.2 (.inl d)⟩
  .exact ⟨n,rX.2 (.inr ⟨rfl,by omega,by omega⟩)⟩
 .rcases rX.1 c with c|⟨rfl,h1,e⟩
  .obtain ⟨a,b⟩:=h.lt i k c;omega
  omega
def CallG.mono{P:Program}{f:Fn}{args:az}{ac:aw}{K d Kp:aa->aw->Prop}(c:∀v o,K v o->d v o)(h:CallG P f args ac K Kp):CallG P f args ac d Kp:=by
 cases h with
 | pure r new h k=>exact .pure r new h (c _ _ k)
 | eff b ks r ap a h k=>exact .eff b ks r ap a h (c _ _ k)
 | effp b ks r ap a h k=>exact .effp b ks r ap a h k
 | pan r h k=>exact .pan r h k
def vN{P:Program}{j q bl:Bool}{g ac:aw}{base:Nat}{K m Kp:aa->aw->Prop}(e:∀v o,K v o->m v o):∀{r:OR},orD P j q bl g ac base K Kp r->orD P j q bl g ac base m Kp r
 | .no,k=>k.elim
 | .val v,k=>e _ _ k
 | .mkf fn fs cs,k=>e _ _ k
 | .need p r,k=>⟨k.1,vN e k.2⟩
 | .alt p v w,k=>k.imp (λh=>⟨h.1,e _ _ h.2⟩) (e _ _)
 | .idx n f,⟨i,hi,k⟩=>⟨i,hi,vN e k⟩
 | .elem xs i f,⟨x,hx,k⟩=>⟨x,hx,vN e k⟩
 | .byte l i,⟨c,hc,k⟩=>⟨c,hc,e _ _ k⟩
 | .text xs,⟨l,hl,hm,k⟩=>⟨l,hl,hm,e _ _ k⟩
 | .find es key f,⟨o,ho,k⟩=>⟨o,ho,vN e k⟩
 | .born x v,k=>by cases bl with
  | true=>exact k.elim
  | false=>exact e _ _ k
 | .upd i x v,k=>by
  simp only[orD]at k⊢
  grind
 | .nilq xs neg,k=>by cases j with
  | true=>exact λb s=>e _ _ (k b s)
  | false=>exact k.elim
 | .call f args,k=>by
  cases bl with
  | true=>exact k.elim
  | false=>
   have k:CallD P f args j g base ac K Kp:=k;show CallD P f args j g base ac m Kp;cases k with
   | pure r new h k=>exact .pure r new h (e _ _ k)
   | sole h1 t=>exact .sole h1 (t.mono e)
   | look ks r o a l b c d k=>exact .look ks r o a l b c d (e _ _ k)
 | .pan v,k=>by cases j with
  | true=>exact k
  | false=>exact k.elim
def HW{P:Program}{b bl:Bool}{a ac:aw}{base:Nat}{K Kp:aa->aw->Prop}:∀{r:OR},orD P O b bl a ac base K Kp r->orD P O O bl a ac base K Kp r
 | .no,k=>k
 | .val v,k=>k
 | .mkf fn fs cs,k=>k
 | .need p r,k=>⟨k.1,HW k.2⟩
 | .alt p v w,k=>k
 | .idx n f,⟨i,hi,k⟩=>⟨i,hi,HW k⟩
 | .elem xs i f,⟨x,hx,k⟩=>⟨x,hx,HW k⟩
 | .byte l i,k=>k
 | .text xs,k=>k
 | .find es key f,⟨o,ho,k⟩=>⟨o,ho,HW k⟩
 | .born x v,k=>k
 | .upd i x v,k=>k
 | .nilq xs neg,k=>k
 | .call f args,k=>k
 | .pan v,k=>k
def aE4(fr:au)(ac:aw)(br:List (Nat×Nat))(n:Nat)(d:Option Nat)(z:aa)(k:Nat)(x:ab)(a:k<aV ac):
  lJ (kU fr d z) (bU ac k x) (born n (aV ac) (jH (aV ac) (bU ac k x)) br)=(lJ fr ac br).turn d z k x:=by
 have hl:Z (bU ac k x)=Z ac:=by rw[gY _ (by rwa [cC]at a)];simp
 have e:jH (aV ac) (bU ac k x)=[]:=by rw[vR,cC,<-hl];simp
 rw[e];unfold lJ AS.turn;rw[fC];congr 1;funext k';exact xB ac k k' x
structure TabSp(ops:Array Oper)(tab:a6):Prop where
 back:∀(j:Nat) p,ops[j]? =X p->∀e∈p.after,Ka .any e=O->e.on<j
 less:∀i j,dG (dP tab i) j=O->j<i
 step:∀(j:Nat) p,ops[j]? =X p->∀i,dG (dP tab j) i=O->∃e∈p.after,Ka .any e=O/\(e.on=i\/dG (dP tab e.on) i=O)
 out:∀j i,dG (dP tab j) i=O->j<ops.size
 dst:∀(i j:Nat) p q,ops[i]? =X p->ops[j]? =X q->loose tab i j=O->∀t,p.dst=X t->q.dst≠X t
def wP{tab:a6}{j:Nat}:∀{l:bc} {n:Nat},sole tab j n l=O->∀i,i<Z l->loose tab (n+i) j=U
 | [],_,_,i,hi=>by simp at hi
 | x::r,n,h,i,hi=>by
  simp only[sole,Af,Dj]at h;cases i with
  | zero=>exact h.1
  | succ i=>
   have:=wP h.2 i (by grind)
   grind
section
variable {E:Env} {ops:Array Oper} {tab:a6} {L0:Nat} {Kp:(Nat->aa)->aa->aw->Prop} {Kq:au->aw->Prop}
def lK.step(n:TabSp ops tab){a:Array Bool}(l:lK tab a){j:Nat}(o:j∈Ea .any ops a):lK tab (a.setIfInBounds j O)/\∀i,dG (dP tab j) i=O->a.getD i U=true:=by
 obtain⟨_,p,hp,b⟩:=mem_ready.1 o;have key:∀i,dG (dP tab j) i=O->a.getD i U=true:=λi m=>by
  obtain⟨e,d,g,h|h⟩:=n.step j p hp i m
  .subst h;exact b e d g
  .exact l e.on i (b e d g) h
 refine⟨λf i h1 k=>getD_set_true ?_,key⟩;by_cases c:j=f
 .subst c;exact key i k
 .rw [getD_set_ne U c]at h1;exact l f i h1 k
def vE(e:TabSp ops tab){a:Array Bool}(f:lK tab a){i j:Nat}(d:i∈Ea .any ops a)(g:j∈Ea .any ops a)(c:i≠j):loose tab i j=true:=by
 have l:∀{k:Nat},k∈Ea .any ops a->a.getD k U=O->False:=λ{k} hk h=>by grind[mem_ready,Bh]
 refine rI.2 ⟨c,?_,?_⟩
 .cases b:dG (dP tab j) i with
  | false=>rfl
  | true=>exact(l d ((f.step e g).2 i b)).elim
 .cases b:dG (dP tab i) j with
  | false=>rfl
  | true=>exact(l g ((f.step e d).2 j b)).elim
def Qf(L0:Nat)(Kq:au->aw->Prop)(s:AS):Prop:=∃fr ac br n,s=lJ fr ac br/\LI L0 n ac br/\Kq fr ac
def aMn(F:TabSp ops tab):∀(l:bc) (n:Nat) (a:Array Bool) (br:List (Nat×Nat)) (fr:au) (ac:aw),
  l=ops.toList.drop n->(∀j,j<ops.size->a[j]? =X (decide (j<n)))->a.size=ops.size->LI L0 n ac br->kH E ops.toList tab Kq Kp n l br fr ac->
  wpA E ops tab L0 Kp (Qf L0 Kq) (Z l) a (lJ fr ac br)
 | [],n,a,br,fr,ac,hl,hlist,hsz,hI,h=>by
  refine⟨?_,fr,ac,br,n,rfl,hI,h⟩;have K:ops.size<=n:=by simp_all
  refine Ie.2 λj I=>?_;obtain⟨h0,q,G,_⟩:=mem_ready.1 I;have C:=(Ei.1 G).1;rw[Bh,hlist j C]at h0;simp at h0;omega
 | p::l,n,a,br,fr,ac,hl,hlist,hsz,hI,h=>by
  have t:ops[n]? =X p:=by
   have:(ops.toList.drop n)[0]? =X p:=by grind
   simpa using this
  have Am:n<ops.size:=(Ei.1 t).1;have As:l=ops.toList.drop (n+1):=by rw[<-List.drop_drop,<-hl];rfl
  have C:∀j,a.getD j U=O↔j<n:=by
   intro j;rw[Bh]
   grind[Array.getElem?_eq_none]
  have f:lK tab a:=λj i h1 y=>(C i).2 (Nat.lt_trans (F.less j i y) ((C j).1 h1));have d:n∈Ea .any ops a:=by refine mem_ready.2 ⟨?_,p,t,λe he M=>(C _).2 (F.back n p t e he M)⟩;rw[Bh,hlist n Am];simp
  have s:∀j,j<ops.size->(a.setIfInBounds n O)[j]? =X (decide (j<n+1)):=by
   intro j I;by_cases hjk:n=j
   .grind [Array.getElem?_setIfInBounds_self_of_lt]
   .rw [Array.getElem?_setIfInBounds_ne hjk,hlist j I];simp;omega
  have H:(a.setIfInBounds n O).size=ops.size:=by simp;omega
  have hw:=hI.wf fr;have L:∀{bs:aw},fresh (lJ fr ac br) (aV ac) bs:=λ{bs} k K i M=>by have:=(hI.lt i k M).1;have:=K.1;omega
  have ahead:∀{i:Nat},i<ops.size->i∈Ea .any ops a->i≠n->loose tab n i=true:=λ_ hi B=>vE F f d hi (Gq B);simp only[kH]at h;rw[aQ2]at h
  have on:∀{z:aa} {bs:aw},kH E ops.toList tab Kq Kp (n+1) l (born n (aV ac) (jH (aV ac) (E8 ac (aV ac) bs)) br) (kU fr p.dst z) (E8 ac (aV ac) bs)->
    wpA E ops tab L0 Kp (Qf L0 Kq) (Z l) (a.setIfInBounds n O) ((lJ fr ac br).upd n p.dst z (aV ac) bs):=λ{z bs} At=>by
   rw[<-aJ6];refine aMn F l (n+1) _ _ _ _ As s H (hI.put ?_) At;rw[cC,cC,WO];simp
  have nil0:E8 ac (aV ac) []=ac:=rfl;have brn:born n (aV ac) (jH (aV ac) ac) br=br:=by
   have:jH (aV ac) ac=[]:=by rw[vR,cC];simp
   rw[this];rfl
  have skip:kH E ops.toList tab Kq Kp (n+1) l br (kU fr p.dst (.tup [])) ac->wpA E ops tab L0 Kp (Qf L0 Kq) (Z l) (a.setIfInBounds n O) ((lJ fr ac br).upd n p.dst (.tup []) (aV ac) []):=λAt=>on (by rw[nil0,brn];exact At);have oth:(∀j,ops[j]?≠D->loose tab n j=O->sole tab j 0 ops.toList=U)->aAr E ops tab n p.dst:=λh T j An hi' Q B=>by have c:=vE F An hi' Q (Gq B);obtain⟨_,q,G,_⟩:=mem_ready.1 Q;exact⟨(An.step F Q).1,h j (by rw[G];simp) c,c,λq G=>F.dst n j p q t G c⟩
  have J:∀j,ops[j]?≠D->loose tab n j=O->sole tab j 0 ops.toList=false:=λj I c=>by
   cases G:sole tab j 0 ops.toList with
   | false=>rfl
   | true=>
    have:=wP G n o_;rw[Bv,c]at this;cases this
  have r:=oth J
  have onU:∀{z:aa} {k:Nat} {x:ab},k<aV ac->kH E ops.toList tab Kq Kp (n+1) l (born n (aV ac) (jH (aV ac) (bU ac k x)) br) (kU fr p.dst z) (bU ac k x)->
    wpA E ops tab L0 Kp (Qf L0 Kq) (Z l) (a.setIfInBounds n O) ((lJ fr ac br).turn p.dst z k x):=λ{z k x} K At=>by
   rw[<-aE4 fr ac br n p.dst z k x K];refine aMn F l (n+1) _ _ _ _ As s H (hI.put ?_) At
   grind[cC,gY]
  have Be:(sole tab n 0 ops.toList=O->blD E p.dst=O)->(cM ops.toList (evG tab ops.toList n (bA fr)) p.guard=X O->
    orD E.P U (uoN E tab ops.toList n p.dst) (blD E p.dst) (tN E tab n br ac p.dst) ac (aV ac) (λv ap=>wrP l n p.dst fr v λfr=>kH E ops.toList tab Kq Kp (n+1) l (born n (aV ac) (jH (aV ac) ap) br) fr ap) (Kp (bA fr))
     (eop E (fA E p.dst) (aV ac) (aE (tN E tab n br ac p.dst)) (evG tab ops.toList n (bA fr)) p.op p.type))->
    (cM ops.toList (evG tab ops.toList n (bA fr)) p.guard=X U->kH E ops.toList tab Kq Kp (n+1) l br (kU fr p.dst (.tup [])) ac)->
    cM ops.toList (evG tab ops.toList n (bA fr)) p.guard≠D->wpA E ops tab L0 Kp (Qf L0 Kq) (Z l+1) a (lJ fr ac br):=λW h1 y h3=>by
   have u:aE (tN E tab n br ac p.dst)=nT E tab n p.dst (lJ fr ac br):=by
    unfold tN nT;cases m:blD E p.dst with
    | true=>rfl
    | false=>simp only[cond_false];rw[bt s_];exact aKY tab n fr ac br
   cases o:cM ops.toList (evG tab ops.toList n (bA fr)) p.guard with
   | none=>simp_all
   | some b=>
    cases b with
    | false=>exact aIJ t W r (Z l) a _ f hw d (z:=.tup []) (base:=aV ac) (bs:=[]) ⟨hI.low,λ_=>rfl,.inl ⟨o,rfl,rfl⟩⟩ L (skip (y o))
    | true=>
     have h:=h1 o;rcases vM h with⟨z,bs,q0,R,q2⟩|⟨z,k,x,q0,R,q2,q3⟩
     .rw [u]at R;exact aIJ t W r (Z l) a _ f hw d ⟨hI.low,q0,.inr ⟨o,R⟩⟩ L (on (AB q2))
     .obtain ⟨u1,u2⟩:=bB q0;have m:blD E p.dst=false:=by simpa using u2
      have e:nT E tab n p.dst (lJ fr ac br)=qT tab n (lJ fr ac br):=by unfold nT;rw[m,bt s_]
      rw[u,e]at R q2;have hkl:k<aV ac:=by
              refine Nat.lt_of_not_le λhge=>R ?_;unfold qT;split
              .rfl
              .rcases fZ ac k with⟨h1,_⟩|⟨_,_,e⟩
               .rw [cC]at hge;omega
               .exact e
      exact aQU t ⟨u1,m⟩ r (Z l) a _ f hw d ⟨⟨hI.low,λi M=>by have:=(hI.lt i _ M).1;omega⟩,o,R,q2⟩ (onU hkl (AB q3))
  have hnn:cM ops.toList (evG tab ops.toList n (bA fr)) p.guard≠none:=λe=>by simp_all
  have w:cM ops.toList (evG tab ops.toList n (bA fr)) p.guard=X U->kH E ops.toList tab Kq Kp (n+1) l br (kU fr p.dst (.tup [])) ac:=λe=>by rw[e]at h;exact h
  cases m:blD E p.dst with
  | true=>
   refine Be (λ_=>m) (λe=>?_) w hnn;rw[e]at h;have:soN E tab ops.toList n p.dst=false:=by simp[soN,m]
   rw[this]at h;exact h
  | false=>
  cases A:sole tab n 0 ops.toList with
  | false=>
   refine Be (λe=>by rw[A]at e;cases e) (λe=>?_) w hnn;rw[e]at h;have:soN E tab ops.toList n p.dst=false:=by simp[soN,A]
   rw[this]at h;exact h
  | true=>
   have V:∀j,j∈Ea .any ops a->j=n:=λj I=>by refine Decidable.byContradiction λB=>?_;have c:=vE F f I d B;obtain⟨_,q,G,_⟩:=mem_ready.1 I;have hjlt:=(Ei.1 G).1;have:=wP A j o_;rw[Bv,c]at this;cases this
   have Y:KU tab n br=[]:=by
    refine Ie.2 λk K=>?_;obtain⟨i,h1,y⟩:=BN.1 K;have hin:=(hI.lt i k h1).2;have:=wP A i q_;rw[Bv]at this
    have hl2:loose tab i n=true:=rI.2 ⟨by omega,y,by
     cases G:dG (dP tab i) n with
     | false=>rfl
     | true=>have:=F.less i n G;omega⟩
    rw[hl2]at this;cases this
   have N:tN E tab n br ac p.dst=ac:=by unfold tN;rw[m,Y];rfl
   have S:soN E tab ops.toList n p.dst=true:=by simp[soN,A,m]
   rw[N,S,m]at h;refine⟨λh=>(by rw[h]at d;cases d),λj I=>?_⟩;obtain rfl:=V j I;refine⟨p,t,.inr (.inr ⟨⟨A,m⟩,ac,rfl,hI.low,λk h1 y=>hI.all k h1 y,λi k M=>(hI.lt i k M).1,?_⟩)⟩;cases o:cM ops.toList (evG tab ops.toList j (bA fr)) p.guard with
   | none=>rw[o]at h;exact h.elim
   | some b=>
    rw[o]at h;cases b with
    | false=>
     refine .inl ⟨o,?_⟩;have e:(lJ fr ac br).upd j p.dst (.tup []) L0 []=(lJ fr ac br).upd j p.dst (.tup []) (aV ac) []:=by
      unfold AS.upd;congr 1
      .funext k;unfold qC;rw[bt λh=>by have h1:=h.1;have y:=h.2;simp at y;omega,bt λh=>by have h1:=h.1;have y:=h.2;simp at y;omega]
      .funext i k;refine propext (or_congr Iff.rfl ⟨λh=>?_,λh=>?_⟩)<;>(have h1:=h.2.1;have y:=h.2.2;simp at y;omega)
     rw[e];exact skip h
    | true=>
     dsimp only at h;refine .inr ⟨o,vN (λv ap K hle=>?_) (HW h)⟩;have hk2:=AB K;have:=aMn F l (j+1) _ _ _ _ As s H (hI.put hle) hk2;have e:lJ (kU fr p.dst v) ap (born j (aV ac) (jH (aV ac) ap) br)=⟨kM (lJ fr ac br).g p.dst v,aE ap,λi' k=>(lJ fr ac br).br i' k\/(i'=j/\aV ac<=k/\k<aV ap)⟩:=by
      unfold lJ;rw[fC];congr 1;funext i k;refine propext (rX.trans (or_congr Iff.rfl (and_congr Iff.rfl ?_)));unfold inB
      grind[vR,Dt,cC]
     rw[<-e];exact this
end
end Go.AW
