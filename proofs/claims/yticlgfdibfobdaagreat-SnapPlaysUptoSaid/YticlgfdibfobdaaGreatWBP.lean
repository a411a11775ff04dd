/-
  The engine, second make, second part: operations, regions. Over any program.
-/
import Derived.Lib.ConvBytes
import Derived.MapKept
import Derived.WalkSmall
import Derived.Carry
import Derived.Orders
import Derived.Test.YticlgfdibfobdaaGreatWAP
set_option linter.all false
open Array renaming ext'->Cy,getD_eq_getD_getElem?->Bd,getElem?_append_left->Hq,getElem?_eq_none->Lo,getElem?_eq_some_iff->Dt,getElem?_setIfInBounds_ne->Di,getElem?_setIfInBounds_self_of_lt->De,getElem?_toList->Ma,length_toList->Fg,range->Jw,setIfInBounds_comm->Ic,toList_map->Hv
open Bool renaming and_eq_true->Af,and_true->Hc,false_eq_true->Cv,false_or->La,not_eq_true'->Cm,or_eq_true->Eg,true_and->Cd
open Go.Builtin renaming append_->Cg,clear_->Iy,copy_->Jr,delete_->Kb,firstCells->Bz,len_->Ei,zeroCells->Cc
open Go.Instr renaming alloc->Mu,buildSlice->Jm,checkKey->Gw,field->Mh,fieldAt->Ld,findAsking->Hx,findKey->Lf,findNow->Le,index->Kw,indexAt->Hg,loadAt->Lm,lookup->Ln,mapUpdate->Ka,sameBits->Iz,slice->Kx,sliceAt->Gd,sliceBound->Jj,sliceBounds->Fw,storeAt->Jq,sureAddr->Ho,typeAssert->Jn
open Go.Region renaming binds->Ix,ready->Dk
open Go.Result renaming andThen->Ey,andThen_ok->Ai
open Go.Sem renaming run_bind->Au,run_pure->Bi
open Go.Value renaming iface->Mi,int->Ji,ownBlock->Gg,slice->Gc
open Go.World renaming block_lt_of_cell?->Cr,cell?_of_block->Co,ownsRow_nil->Hi
open Iff renaming rfl->Mo
open Int renaming le_refl->Dc,toNat_natCast->Cl
open List renaming all_cons->Gm,all_eq_true->Cj,append_assoc->Aj,append_nil->Bo,drop_drop->Ir,drop_eq_nil_of_le->Ae,drop_zero->Cn,eq_nil_iff_forall_not_mem->Gx,eq_nil_of_length_eq_zero->Aq,ext_getElem?->Fa,extract_eq_take_drop->Ku,foldl_cons->Al,getD_eq_getElem?_getD->Dv,getElem?_append_left->Ag,getElem?_append_right->Ak,getElem?_cons_succ->Eu,getElem?_cons_zero->Li,getElem?_drop->Bx,getElem?_eq_getElem->Aa,getElem?_eq_none->Bj,getElem?_eq_some_iff->Ab,getElem?_map->Bc,getElem?_of_mem->Cp,getElem?_range->Ch,getElem?_replicate->Ds,getElem?_set->Ez,getElem?_set_ne->Bh,getElem?_set_self->Ax,getElem?_take->Ft,getElem?_take_of_lt->Bl,getElem?_toArray->Mb,length->Js,length_append->Ar,length_cons->Ba,length_drop->Fo,length_eraseIdx_of_lt->Ko,length_map->Cw,length_nil->Ck,length_replicate->Gh,length_take->Es,map_cons->Bk,mem_append->Ay,mem_cons->Ao,mem_of_getElem?->Av,mem_of_mem_drop->Du,mem_of_mem_take->Cq,mem_or_eq_of_mem_set->Da,mem_replicate->Fs,nil_append->Jz,prefix_refl->Cz,range->Db,replicate->Ah,replicate_succ->Kd,size_toArray->Gl,take_left->Kn,take_length->Jk,take_of_length_le->Cf,take_zero->Hl
open Nat renaming add_assoc->Ib,add_comm->Mq,add_mul->Bv,add_sub_cancel_left->Gv,add_zero->Df,beq->Ap,ble->Ew,blt->Dy,blt_eq->Fe,div_add_mod->Ig,eq_zero_or_pos->Fp,le_of_ble_eq_true->Ca,le_refl->Bg,le_succ->Il,le_trans->Cs,lt_of_lt_of_le->Dp,lt_or_ge->Mn,min_eq_left->Fh,min_eq_right->Lj,min_le_right->Jl,mod_lt->Gp,mul_comm->Dn,mul_le_mul_right->Bq,one_mul->Gb,sub_zero->Hu,zero_add->Bp,zero_le->Bt,zero_mul->Hr
open Ne renaming symm->Eb
open Option renaming getD_some->Hw,isSome_iff_exists->Cx,isSome_none->Ij,map_eq_some_iff->Cb,map_some->Lw,none->Mt
open Option.some renaming injEq->Dr
open Prod.mk renaming injEq->Ml
open UInt8 renaming ofNat->Gk
namespace Go.AW
open Go.RowKit
section
variable {P:Program} {E:Env} {M:Imm} {ob:Hs} {obs:List AObj} {w:World} {base:Nat}
theorem aR {s:Sem Value} {v:AVal} {u:Value} (h:s.run P w= .ok u w) (a:Rep M ob u v):PS0 P M ob w s obs base (.val v):=⟨rfl,u,h,a⟩
theorem aDZ {b o:Nat} (l:List AVal) (h:∀ (i:Nat) c,l[i]? =some c->∃ u,w.cell? ⟨b,o+i,none⟩=some u/\Rep M ob u c):
  ∃ vs:List Value,vs.length=l.length/\(∀ (j:Nat) u,vs[j]? =some u->w.cell? ⟨b,o+j,none⟩=some u)/\∀ (i:Nat) v a,vs[i]? =some v->l[i]? =some a->Rep M ob v a:=by
 refine ⟨(Db l.length).map fun q=>(w.cell? ⟨b,o+q,none⟩).getD undef,by simp,fun j u e=>?_,fun i v a g k=>?_⟩
 .simp only [Bc] at e
  by_cases f:j<l.length
  .obtain ⟨m,d,_⟩:=h j _ (Aa f)
   simp [Ch f,d] at e
   rw [d,e]
  .rw [Bj q_] at e
   simp at e
 .have f:i<l.length:=(Ab.1 k).1
  obtain ⟨m,d,n⟩:=h i a k
  simp only [Bc,Ch f,Lw,d,Hw] at g
  cases g
  exact n
theorem vW {t:Nat} {a:TI} (i:sD P t a.agg a.size a.kind) (hs:(P.info? t).map (·.size)=some a.size) {b o:Nat} {vs:List Value} (hl:vs.length=a.size)
  (f:∀ (j:Nat) u,vs[j]? =some u->w.cell? ⟨b,o+j,none⟩=some u) (u:Value) (h:a.agg=true->u= .agg vs.toArray) (d:a.agg=false->vs=[u]):
  (loadVar t ⟨b,o,none⟩).run P w= .ok u w:=by
 obtain ⟨h1,k⟩:=i.isAgg
 unfold loadVar
 simp only [Au,uB h1,Ai,k]
 cases g:a.agg with
 | true=>
  have c:=run_loadCells_list (P:=P) w ⟨b,o,none⟩ vs (fun j v e=>by rw [bA];exact f j v e)
  rw [hl] at c
  simp only [if_true,Au,run_sizeOf hs,Ai,c,Bi,h g]
 | false=>
  have e:=d g
  have:=f 0 u (by rw [e];rfl)
  rw [Df] at this
  simp only [Cv,if_false,run_load,this]
theorem aCH {b:TI} {l:List AVal} {a:AVal} (h:mk b l=some a):(b.agg=true/\a= .agg l)\/(b.agg=false/\l=[a]):=by
 unfold mk at h
 cases c:b.agg<;>simp only [c,cond_true,cond_false] at h
 .split at h
  .cases h;exact .inr ⟨rfl,rfl⟩
  .cases h
 .cases h;exact .inl ⟨rfl,rfl⟩
theorem J2 {t:Nat} {j:TI} (d:TIOK P t j) {b o:Nat} {l:List AVal} {a:AVal} (k:mk j l=some a) (hl:l.length=j.size)
  (h:∀ (i:Nat) c,l[i]? =some c->∃ u,w.cell? ⟨b,o+i,none⟩=some u/\Rep M ob u c):∃ u,(loadVar t ⟨b,o,none⟩).run P w= .ok u w/\Rep M ob u a:=by
 obtain ⟨vs,e,g,f⟩:=aDZ l h
 rcases aCH k with ⟨m,rfl⟩ | ⟨m,rfl⟩
 .exact ⟨.agg vs.toArray,vW d.kind d.size? (e.trans hl) g _ (fun _=>rfl) (fun h=>by rw [m] at h;cases h),.agg vs l e f⟩
 .match vs,e with
  | [u],_=>exact ⟨u,vW d.kind d.size? (by simpa using hl) g u (fun h=>by rw [m] at h;cases h) (fun _=>rfl),f 0 u a rfl rfl⟩
theorem QX {t:Nat} {d:TI} (f:TIOK P t d) {b o off:Nat} {cs:List AVal}
  (h:∀ (i:Nat) c,cs[off+i]? =some c->∃ u,w.cell? ⟨b,o+i,none⟩=some u/\Rep M ob u c):PS0 P M ob w (Lm t (.pointer (some ⟨b,o,none⟩))) obs base (fin d (kG d.size (jC off cs))):=by
 unfold fin
 split
 .exact trivial
 .rename_i l hl
  split
  .exact trivial
  .rename_i a e
   obtain ⟨h1,m⟩:=iA hl
   obtain ⟨u,g,k⟩:=J2 f e h1 (b:=b) (o:=o) (M:=M) (ob:=ob) (w:=w) fun i c j=>by
    have:=m i c j
    rw [kI,Bx] at this
    exact h i c this
   refine aR (u:=u) ?_ k
   unfold Lm Ho
   simp only [Au,Bi,Ai,g]
theorem dD.cell {v:Value} {d:Nat} {e:TypeId} {xs:List AVal} (h:dD M w v d e xs) {b:Nat} {n c:Nat} (k:v= .slice (some ⟨b,0,none⟩) n c) {i j:Nat} {x a:AVal} (f:xs[i]? =some x) (o:x.cells[j]? =some a):
  ∃ u,w.cell? ⟨b,i*d+j,none⟩=some u/\Rep M [] u a:=by
 obtain ⟨cv,h1,_,h3,m,_⟩:=h
 obtain ⟨u,g,l⟩:=m _ a (E2 f o (h3 x (Av f)))
 exact ⟨u,fI h1 (by rw [k];rfl) g,l⟩
theorem bX {k:Nat} {x:AObj} (h:aE obs k=x) (a:x≠ .dead):obs[k]? =some x:=bS h a
theorem aDz (hE:EnvOK E) (hm:Mem M ob obs w) {t:Nat} {v:Value} {a:AVal} (y:Rep M ob v a):PS0 E.P M ob w (Lm t v) obs base (aAt E (aE obs) t a):=by
 unfold aAt
 split
 .exact trivial
 .rename_i I G
  have h:=hE.tab t I G
  split
  .rename_i cs
   obtain ⟨b,o,rfl,O⟩:=y.ptr_inv
   refine QX (off:=0) (cs:=cs) h fun i c l=>?_
   rw [Bp] at l
   obtain ⟨u,p,_,r⟩:=hm.imm b _ c (O i c l)
   exact ⟨u,p,r.pure⟩
  .rename_i k off
   obtain ⟨b,rfl,m⟩:=y.ref_inv
   split
   .rename_i cs f
    obtain ⟨hs,h1,D,rfl,_,cv,C,s,_,d⟩:=hm.obj k _ (bX f s_)
    rw [bW h1] at m
    cases m
    refine QX h fun i c l=>?_
    have q:off+i<cv.length:=by rw [s];exact (Ab.1 l).1
    exact ⟨cv[off+i],by rw [cell_of_row w b _ _ _ (0,0) C];simp [q],d _ _ c (Aa q) l⟩
   .rename_i cs f
    obtain ⟨hs,h1,D,rfl,d⟩:=hm.obj k _ (bX f s_)
    rw [bW h1] at m
    cases m
    refine QX h fun i c l=>?_
    obtain ⟨u,p,_,r⟩:=hm.imm b _ c (d _ c l)
    exact ⟨u,p,r.pure⟩
   .exact trivial
  .rename_i k g i H off
   cases y with
   | eref k g i H off b n c m=>
   split
   .rename_i Q B e xs f
    refine sdc fun L=>?_
    obtain ⟨A,z⟩:=aS L
    obtain rfl:=aB A
    obtain rfl:=aB z
    intro x J
    obtain ⟨hs,v,h1,R,h3,N,K,_⟩:=hm.rowOf (bX f s_)
    rw [N] at m
    cases m
    refine QX h fun j c F=>?_
    obtain ⟨u,p,r⟩:=K.cell rfl J F
    exact ⟨u,by rw [Ib];exact p,r.pure⟩
   .exact trivial
  .exact trivial
theorem IJ {t:Nat} {b off:Nat} (h1:(P.info? t).map (·.size)=some b) (d:(P.underlying t).isSome=true) (vs:List Value) (u:Value)
  (e:aP P t=true->u= .agg ((vs.drop off).take b).toArray) (c:aP P t=false->vs[off]? =some u):(part t vs.toArray off).run P w= .ok u w:=by
 unfold part
 simp only [Au,uB d,Ai]
 cases a:aP P t with
 | true=>
  simp only [if_true,Au,run_sizeOf h1,Ai,Bi,e a]
  congr 3
  simp [Ku]
 | false=>simp [c a]
theorem X8 {vs:List Value} {cs:List AVal} (h:cD M ob vs cs) {b off:Nat} {l:List AVal} (k:kG b (jC off cs)=some l):cD M ob ((vs.drop off).take b) l:=by
 obtain ⟨h1,d⟩:=iA k
 rw [kI] at d
 have hl:=h.1
 have c:((vs.drop off).take b).length=l.length:=by
  have:b<=(cs.drop off).length:=by
   rcases Fp b with m | m
   .omega
   .have:=d (b-1) _ (Aa o_)
    have:=(Ab.1 this).1
    omega
  simp at this
  simp;omega
 refine ⟨c,fun i v a e g=>?_⟩
 have f:=d i a g
 rw [Bx] at f
 have j:i<b:=by rw [<-h1];exact (Ab.1 g).1
 rw [Bl j,Bx] at e
 exact h.2 _ v a e f
theorem zY {t:Nat} {i off:Nat} (h1:(P.info? t).map (·.size)=some i) (m:(P.underlying t).isSome=true) {vs:List Value} {cs:List AVal} (h:cD M ob vs cs)
  {l:List AVal} (k:kG i (jC off cs)=some l) {a:AVal} (d:aP P t=true->a= .agg l) (b:aP P t=false->l=[a]):∃ u,(part t vs.toArray off).run P w= .ok u w/\Rep M ob u a:=by
 have hp:=X8 h k
 cases f:aP P t with
 | true=>
  rw [d f]
  exact ⟨_,IJ h1 m vs _ (fun _=>rfl) (fun e=>by rw [f] at e;cases e),.agg _ l hp.1 hp.2⟩
 | false=>
  have g:=b f
  subst g
  obtain ⟨n,p⟩:=hp
  have j:i=1:=by have:=(iA k).1;simpa using this.symm
  subst j
  have o:((vs.drop off).take 1)[0]? =vs[off]?:=by rw [Bl o_,Bx,Df]
  have c:0<((vs.drop off).take 1).length:=by rw [n];simp
  refine ⟨((vs.drop off).take 1)[0],IJ h1 m vs _ (fun e=>by rw [f] at e;cases e) (fun _=>?_),p 0 _ a (Aa c) rfl⟩
  rw [<-o]
  exact Aa c
theorem aAv (hE:EnvOK E) {s f:Nat} {v:Value} {a:AVal} (y:Rep M ob v a):PS0 E.P M ob w (Mh s v f) obs base (N1 E s a f):=by
 unfold N1
 split
 .rename_i H _ _ _ r
  have k:=hE.tab s _ r
  obtain ⟨⟨c,o,F⟩,_⟩:=k.kind
  split
  .exact trivial
  .rename_i off G p B
   obtain ⟨h,m,q,z,C,n⟩:=F.get B
   split
   .rename_i cs
    split
    .exact trivial
    .rename_i l hl
     obtain ⟨vs,rfl,d,A⟩:=y.agg_inv
     have key:∀ x,(aP E.P h.type=true->x= .agg l)->(aP E.P h.type=false->l=[x])->PS0 E.P M ob w (Mh s (.agg vs.toArray) f) obs base (.val x):=by
      intro x h1 D
      obtain ⟨u,i,j⟩:=zY (P:=E.P) (w:=w) (t:=h.type) z C ⟨d,A⟩ hl h1 D
      refine aR (u:=u) ?_ j
      have b:c[f]? =some h:=by simpa using m
      unfold Mh
      simp only [Au,run_underlying o,Ai,b,asAgg,Bi,q,i]
     cases g:p with
     | true=>exact key _ (fun _=>rfl) (fun e=>by rw [n,g] at e;cases e)
     | false=>
      simp only [cond_false]
      split
      .exact key _ (fun e=>by rw [n,g] at e;cases e) (fun _=>rfl)
      .exact trivial
   .exact trivial
 .exact trivial
theorem G6 (hE:EnvOK E) {s f:Nat} {v:Value} {a:AVal} (i:Rep M ob v a):PS0 E.P M ob w (Ld s v f) obs base (sB E s a f):=by
 unfold sB
 split
 .rename_i F _ _ _ y
  have k:=hE.tab s _ y
  obtain ⟨⟨g,t,C⟩,_⟩:=k.kind
  split
  .exact trivial
  .rename_i off q D A
   obtain ⟨x,m,u,z,G,H⟩:=C.get A
   have d:g[f]? =some x:=by simpa using m
   cases hz:Ap q 0 with
   | true=>exact trivial
   | false=>
    simp only [cond_false]
    have p:¬ q=0:=fun e=>by subst e;simp at hz
    have key:∀ l,(Ld s (.pointer (some l)) f).run E.P w= .ok (.pointer (some (l.add off))) w:=fun l=>by
     unfold Ld Ho fieldPlace
     simp only [Au,run_underlying t,Ai,d,Bi,run_sizeOf z,if_neg p,u]
    split
    .obtain ⟨b,o,rfl,B⟩:=i.ptr_inv
     refine aR (key _) ?_
     rw [bA]
     exact .ptr b (o+off) _ fun j c r=>by rw [kI,Bx] at r;have:=B _ c r;rw [Ib];exact this
    .obtain ⟨b,rfl,h⟩:=i.ref_inv
     refine aR (key _) ?_
     rw [bA]
     exact .ref _ _ b h
    .cases i with
     | eref _ _ _ _ _ b n c h=>
      refine aR (key _) ?_
      rw [bA,Ib]
      exact .eref _ _ _ _ _ b n c h
    .exact trivial
 .exact trivial
theorem dD.len {v:Value} {d:Nat} {e:TypeId} {xs:List AVal} (h:dD M w v d e xs):(v= .slice none 0 0/\xs=[])\/∃ b a,v= .slice (some ⟨b,0,none⟩) xs.length a/\v.ownBlock=some b/\xs.length<=a/\a<=maxLen:=by
 obtain ⟨cv,h1,_⟩:=h
 rcases dE h1 with ⟨c,h3⟩ | c
 .exact .inl ⟨c,Aq h3⟩
 .exact .inr c
theorem gC:(maxLen:Int)<=9223372036854775807:=by decide
theorem G5 (hE:EnvOK E) (hm:Mem M ob obs w) {t:Nat} {v V:Value} {a i:AVal} (G:Rep M ob v a) (I:Rep M ob V i):PS0 E.P M ob w (Hg t v V) obs base (sA E (aE obs) t a i):=by
 unfold sA
 split
 .rename_i ti _ n hT
  have D:=hE.tab t ti hT
  obtain ⟨rfl,hri⟩:=I.int_inv
  split
  .rename_i e p eb Q
   have d:=D.kind
   rw [Q] at d
   obtain ⟨⟨J,i',z,r,hs,_⟩,_⟩:=d
   have u:(E.P.info? e).map (·.size)=some p:=by simp [r,hs]
   have key:∀ (s:Addr) (len l:Nat) (k:IntKind) (i:Nat),i<len->(Hg t (.slice (some s) len l) (.int k (i:Int))).run E.P w= .ok (.pointer (some (s.add (i*p)))) w:=fun s len l k i h1=>by
    unfold Hg
    simp only [Au,asIntOf,Bi,Ai,run_underlying J]
    rw [if_pos ⟨by omega,by omega⟩]
    simp only [Au,run_sizeOf u,Ai,Bi,Cl]
   have slc:∀ {H:Value} {xs:List AVal} {tk:Tk},Rep M ob H (.slice p xs tk)->∀ (k:IntKind) (i:Nat) x,xs[i]? =some x->PS0 E.P M ob w (Hg t H (.int k (i:Int))) obs base (.val (.ptr x.cells)):=fun {H xs tk} hr k i x y=>by
    have B:i<xs.length:=(Ab.1 y).1
    cases hr.untok.1 with
    | slnil=>simp at B
    | slemp=>simp at B
    | sl _ b o n1 l _ _ hn Y R hz T _=>
     refine aR (key _ n1 l _ i o_) ?_
     rw [bA]
     exact .ptr b _ _ fun j c hj=>T i j x c y hj
   split
   .rename_i A xs tt
    refine sdc fun K=>?_
    obtain rfl:=aB K
    rintro i rfl x y
    exact slc G _ i x y
   .rename_i k g
    obtain ⟨a,n',c,rfl,f⟩:=G.row_inv
    split
    .rename_i U A e' xs q
     refine sdc fun F=>?_
     obtain ⟨m,h⟩:=aS F
     obtain rfl:=aB m
     obtain rfl:=aB h
     rintro i rfl r
     obtain ⟨hs',v,h1,X,h3,W,h5,_⟩:=hm.rowOf (bX q s_)
     rw [W] at f
     cases f
     rcases h5.len with ⟨Z,rfl⟩ | ⟨b,l,Z,e2,_⟩
     .simp at r
     .cases Z
      refine aR (key _ _ _ _ i r) ?_
      rw [bA,Mq 0]
      exact .eref k _ i A 0 b _ _ W
    .rename_i U A xs q
     refine sdc fun F=>?_
     obtain ⟨m,h⟩:=aS F
     obtain rfl:=aB m
     obtain rfl:=aB h
     rintro i rfl x y
     obtain ⟨hs',h1,v,X,h3⟩:=hm.obj k _ (bX q s_)
     rw [bW h1,X] at f
     cases f
     exact slc h3.pure _ i x y
    .exact trivial
   .rename_i k g lo len A
    split
    .rename_i U sz' e' xs q
     refine sdc fun F=>?_
     obtain ⟨C,N⟩:=aS F
     obtain ⟨m,h⟩:=aS C
     obtain rfl:=aB m
     obtain rfl:=aB h
     obtain rfl:=aB N
     rintro i rfl r
     cases G with
     | sub _ _ _ _ _ b n' c f hl hn S R=>
      refine aR (key _ _ _ _ i r) ?_
      rw [bA,<-Bv]
      exact .eref k _ (lo+i) A 0 b _ _ f
     | sub0=>simp at r
    .exact trivial
   .exact trivial
  .rename_i len p ea Q
   have d:=D.kind
   rw [Q] at d
   obtain ⟨⟨e,J,u,_⟩,_⟩:=d
   have key:∀ (s:Addr) k,0<=n->n.toNat<len->(Hg t (.pointer (some s)) (.int k n)).run E.P w= .ok (.pointer (some (s.add (n.toNat*p)))) w:=fun s k h0 h1=>by
    unfold Hg Ho
    simp only [Au,asIntOf,Bi,Ai,run_underlying J]
    rw [if_pos ⟨h0,by omega⟩]
    simp only [Au,run_sizeOf u,Ai,Bi]
   split
   .rintro ⟨O,L⟩
    obtain ⟨b,rfl,hb⟩:=G.ref_inv
    refine aR (key _ _ O L) ?_
    rw [bA]
    exact .ref _ _ b hb
   .rintro ⟨O,L⟩
    obtain ⟨b,o,rfl,T⟩:=G.ptr_inv
    refine aR (key _ _ O L) ?_
    rw [bA]
    exact .ptr b _ _ fun j c S=>by rw [kI,Bx] at S;have:=T _ c S;rw [Ib];exact this
   .exact trivial
  .exact trivial
 .exact trivial
theorem aAu (hE:EnvOK E) {t:Nat} {v B:Value} {a i:AVal} (z:Rep M ob v a) (j:Rep M ob B i):PS0 E.P M ob w (Kw t v B) obs base (N0 E t a i):=by
 unfold N0
 split
 .rename_i l k n
  obtain ⟨rfl,_⟩:=j.int_inv
  obtain ⟨rfl,_⟩:=z.str_inv
  split
  .rename_i _ _ _ r
   obtain ⟨m,_⟩:=(hE.tab t _ r).kind
   rintro i rfl c A
   refine ⟨rfl,.int .u8 c.toNat,?_,sV c⟩
   have p:i<l.length:=(Ab.1 A).1
   unfold Kw
   simp only [Au,asIntOf,Bi,Ai,run_underlying m]
   rw [if_pos o_]
   have F:(⟨l.toArray⟩:ByteArray)[i]? =some c:=by
    have:i<(⟨l.toArray⟩:ByteArray).size:=by simpa [ByteArray.size] using p
    rw [getElem?_pos (⟨l.toArray⟩:ByteArray) i this]
    have o:=(Ab.1 A).2
    rw [<-o]
    rfl
   rw [Cl,F]
   simp
  .exact trivial
 .rename_i cs k n
  obtain ⟨rfl,_⟩:=j.int_inv
  split
  .rename_i len D C _ _ _ r
   obtain ⟨⟨e,m,g,y,h⟩,_⟩:=(hE.tab t _ r).kind
   split
   .rename_i l hl
    obtain ⟨vs,rfl,f,G⟩:=z.agg_inv
    have key:∀ x,0<=n->n<len->(aP E.P e=true->x= .agg l)->(aP E.P e=false->l=[x])->PS0 E.P M ob w (Kw t (.agg vs.toArray) (.int k n)) obs base (.val x):=by
     intro x H h1 I h3
     obtain ⟨u,q,s⟩:=zY (P:=E.P) (w:=w) (t:=e) g y ⟨f,G⟩ hl I h3
     refine aR (u:=u) ?_ s
     unfold Kw
     simp only [Au,asIntOf,Bi,Ai,run_underlying m]
     rw [if_pos ⟨H,h1⟩]
     simp only [Au,run_sizeOf g,Ai,q]
    cases b:C with
    | true=>exact fun d=>key _ d.1 d.2 (fun _=>rfl) (fun e=>by rw [h,b] at e;cases e)
    | false=>
     simp only [cond_false]
     split
     .exact fun d=>key _ d.1 d.2 (fun e=>by rw [h,b] at e;cases e) (fun _=>rfl)
     .exact trivial
   .exact trivial
  .exact trivial
 .exact trivial
theorem aGo (hE:EnvOK E) (hm:Mem M ob obs w) {t ty:TypeId} {v:Value} {a:AVal} (k:Rep M ob v a):PS0 E.P M ob w (Ei #[t] ty #[v]) obs base (aGp E (aE obs) t a):=by
 unfold aGp
 split
 .exact trivial
 .rename_i D C
  have d:=(hE.tab t D C).kind
  have f:∀ n:Nat,(n:Int)<=9223372036854775807->inR .i64 (n:Int):=fun n h=>⟨by simp only [cL];omega,by simp only [bI];omega⟩
  have y:Rep M ob (.int .i64 (0:Nat)) (.int .i64 (0:Nat)):=.int _ _ (f 0 d_)
  have slc:∀ {q:Value} {o:Nat} {xs:List AVal} {z:Tk} {e:TypeId},E.P.underlying t=some (.slice e)->Rep M ob q (.slice o xs z)->PS0 E.P M ob w (Ei #[t] ty #[q]) obs base (.val (.int .i64 xs.length)):=fun {q o xs z e} p hr=>by
   obtain ⟨a,c,rfl,_,_,x⟩:=hr.slice_inv
   exact aR (u:=.int .i64 xs.length) (by simp [Ei,run_underlying p,goInt]) (.int _ _ (f _ x))
  split
  .rename_i l g
   rw [g] at d
   obtain ⟨rfl,h⟩:=k.str_inv
   exact aR (u:=.int .i64 l.length) (by simp [Ei,run_underlying d.1,goInt,nC]) (.int _ _ (f _ h))
  .rename_i g
   rw [g] at d
   exact slc d.1.1 k
  .rename_i g
   rw [g] at d
   cases k
   exact aR (u:=.int .i64 (0:Nat)) (by simp [Ei,run_underlying d.1.1,goInt]) y
  .rename_i g
   rw [g] at d
   cases k with
   | csl _ _ _ _ b h j=>exact aR (u:=.int .i64 (Nat.cast _)) (by simp [Ei,run_underlying d.1.1,goInt]) (.int _ _ (f _ j))
  .rename_i g
   rw [g] at d
   cases k
   exact fun j=>aR (u:=.int .i64 (Nat.cast _)) (by simp [Ei,run_underlying d.1.1,goInt]) (.int _ _ (f _ j))
  .rename_i g
   rw [g] at d
   obtain ⟨a,n,c,rfl,i⟩:=k.row_inv
   split
   .rename_i G o e xs m
    refine sdc fun s=>?_
    obtain rfl:=aB s
    obtain ⟨hs',v,h1,B,h3,x,F,_⟩:=hm.rowOf (bX m s_)
    rw [x] at i
    cases i
    rcases F.len with ⟨r,rfl⟩ | ⟨b,H,r,J,L,N⟩
    .cases r
     exact aR (u:=.int .i64 (0:Nat)) (by simp [Ei,run_underlying d.1.1,goInt]) y
    .cases r
     exact aR (u:=.int .i64 xs.length) (by simp [Ei,run_underlying d.1.1,goInt]) (.int _ _ (f _ (by have:=gC;omega)))
   .rename_i G o xs m
    refine sdc fun s=>?_
    obtain rfl:=aB s
    obtain ⟨hs',h1,v,B,h3⟩:=hm.obj _ _ (bX m s_)
    rw [bW h1,B] at i
    cases i
    exact slc d.1.1 (h3.pure (M:=M) (ob:=ob))
   .exact trivial
  .rename_i g
   rw [g] at d
   cases k with
   | sub _ _ _ _ _ b n c i hl A K j=>exact aR (u:=.int .i64 (Nat.cast _)) (by simp [Ei,run_underlying d.1.1,goInt]) (.int _ _ (f _ o_))
   | sub0 _ _ _ _ a I n c=>exact aR (u:=.int .i64 (0:Nat)) (by simp [Ei,run_underlying d.1.1,goInt]) y
  .rename_i _ g
   rw [g] at d
   obtain ⟨⟨e,p,_⟩,_⟩:=d
   intro A
   exact aR (u:=.int .i64 (Nat.cast _)) (by simp [Ei,run_underlying p,goInt]) (.int _ _ (f _ A))
  .exact trivial
end
def VM (P:Program) (M:Imm) (ob:Hs) (obs:List AObj) (w:World) (s:Sem Value) (v:AVal) (obs':List AObj):Prop:=
 ∃ u w' M' ob',s.run P w= .ok u w'/\Ext M ob obs w M' ob' obs' w'/\Mem M' ob' obs' w'/\cJ ob obs ob' obs'/\Rep M' ob' u v
abbrev PM (P:Program) (M:Imm) (ob:Hs) (w:World) (s:Sem Value) (obs:List AObj) (base:Nat) (r:OR):Prop:=Sd (VM P M ob obs w s) (fun _ _=>False) (fun _=>False) obs base r
section
variable {P:Program} {E:Env} {M:Imm} {ob:Hs} {obs:List AObj} {w:World} {base:Nat}
theorem PM.of (hm:Mem M ob obs w) {s:Sem Value} {r:OR} (h:PS0 P M ob w s obs base r):PM P M ob w s obs base r:=
 Sd.mono (fun v o ⟨h1,u,a,h3⟩=>⟨u,w,M,ob,a,h1▸Ext.refl _ _ _ _,h1▸hm,h1▸cJ.refl _ _,h3⟩) (fun _ _ h=>h) (fun _ h=>h) h
theorem bY.pm {ρv:Operand->Value} {op:Op} {ty:TypeId} {r:OR} {s:Sem Value}
  (b:∀ d pos a g,execOp ρv ⟨d,op,ty,pos,a,g⟩=(s >>= fun v=>Pure.pure (.value v))) (h:PM P M ob w s obs base r):bY P ρv op ty M ob obs w base r:=
 Sd.mono (fun v o ⟨u,w',M',ob',i,h3,e,c,f⟩=>⟨u,w',M',ob',fun d pos a g=>.inl (by rw [b];simp only [Au,i,Ai,Bi]),h3,e,c,f⟩) (fun _ _ h=>h.elim) (fun _ h=>h.elim) h
def CF (M:Imm) (ob:Hs) (v:Option Value) (a:Option AVal):Prop:=(v=none/\a=none)\/∃ u x,v=some u/\a=some x/\Rep M ob u x
def aA8 (v:Option Value) (q:Option Nat):Prop:=(v=none/\q=none)\/∃ (k:IntKind) (n:Nat),v=some (.int k n)/\q=some n
theorem pN {s:Sem Value} {a:Option Value} {l:Option AVal} (h:CF M ob a l) {f:Option Nat->OR} (k:∀ q,aA8 a q->PS0 P M ob w s obs base (f q)):PS0 P M ob w s obs base (bnd l f):=by
 rcases h with ⟨rfl,rfl⟩ | ⟨u,x,rfl,rfl,c⟩
 .exact k none (.inl ⟨rfl,rfl⟩)
 .cases x with
  | int b n=>
   obtain ⟨rfl,_⟩:=c.int_inv
   rintro i rfl
   exact k (some i) (.inr ⟨b,i,rfl,rfl⟩)
  | _=>exact trivial
theorem aA8.none {v:Option Value} (h:aA8 v none):v=none:=by rcases h with ⟨h,_⟩ | ⟨_,_,_,h⟩;exact h;cases h
theorem aA8.some {v:Option Value} {n:Nat} (h:aA8 v (some n)):∃ k,v=some (.int k n):=by rcases h with ⟨_,h⟩ | ⟨k,n,h1,h⟩;cases h;cases h;exact ⟨k,h1⟩
theorem BQ {t e:TypeId} (h:P.underlying t=some (.slice e)):P.underlying t=some (.slice (P.elem t))/\P.elem t=e:=by
 have:P.elem t=e:=by simp [Program.elem,h]
 exact ⟨by rw [this];exact h,this⟩
theorem L6 {v:Value} {f:Nat} {xs:List AVal} (h:Rep M ob v (.slice f xs .no)):∃ a n c,v= .slice a n c/\xs.length=n/\n<=c/\∀ l d,l<=d->d<=n->
  Rep M ob (sliced a l d c f) (.slice f ((xs.take d).drop l) .no)/\(Rep M ob (sliced a l d d f) (.slice f ((xs.take d).drop l) .no)):=by
 cases h with
 | slnil f=>
  refine ⟨none,0,0,rfl,rfl,Bg _,fun l d h1 w=>?_⟩
  have:d=0:=o_
  subst this
  have:l=0:=o_
  subst this
  exact ⟨.slnil f .no trivial,.slnil f .no trivial⟩
 | slemp f _ a s=>
  refine ⟨some a,0,s,rfl,rfl,Bt _,fun l d h1 w=>?_⟩
  have:d=0:=o_
  subst this
  have:l=0:=o_
  subst this
  have hs:∀ m,∃ b c,sliced (some a) 0 0 m f= .slice (some b) 0 c:=fun m=>by
   unfold sliced
   split
   .exact ⟨_,_,rfl⟩
   .exact ⟨_,_,rfl⟩
  obtain ⟨D,H,y⟩:=hs s
  obtain ⟨G,F,A⟩:=hs 0
  rw [y,A]
  exact ⟨.slemp _ _ _ _ trivial,.slemp _ _ _ _ trivial⟩
 | sl f b o n c xs _ B u z hz C=>
  refine ⟨_,n,c,rfl,B,u,fun l d h1 w=>?_⟩
  have p:∀ m,d<=m->Rep M ob (sliced (some ⟨b,o,none⟩) l d m f) (.slice f ((xs.take d).drop l) .no):=by
   intro m hm
   have g:((xs.take d).drop l).length=d-l:=by simp;omega
   have r:∀ x∈(xs.take d).drop l,x.cells.length=f:=fun x k=>hz x (Cq (Du k))
   have t:∀ (i:Nat) x,((xs.take d).drop l)[i]? =some x->xs[l+i]? =some x:=fun i x k=>by
    rw [Bx,Ft] at k
    split at k
    .exact k
    .cases k
   by_cases q:m=l
   .have e:sliced (some ⟨b,o,none⟩) l d m f= .slice (some ⟨b,o,none⟩) (d-l) (m-l):=by simp [sliced,q]
    rw [e]
    refine .sl f b o _ _ _ _ g o_ o_ r (fun i j x c k u=>?_) trivial
    have:i<d-l:=by rw [<-g];exact (Ab.1 k).1
    omega
   .have e:sliced (some ⟨b,o,none⟩) l d m f= .slice (some ⟨b,o+l*f,none⟩) (d-l) (m-l):=by simp [sliced,q,bA]
    rw [e]
    refine .sl f b _ _ _ _ _ g o_ o_ r (fun i j x c k u=>?_) trivial
    have:=C _ j x c (t i x k) u
    rwa [Bv,<-Ib] at this
  exact ⟨p c o_,p d (Bg _)⟩
theorem rO {k g x y d:Nat} {a:Option Addr} {n c:Nat} (l:a=none/\n=0/\c=0\/∃ b,a=some ⟨b,0,none⟩) (h:at' ob k g=some (.slice a n c)) (m:n<=c) (j:x<=y) (o:y<=n) (i:(n:Int)<=9223372036854775807):
  Rep M ob (sliced a x y c d) (.sub k g x (y-x) d):=by
 by_cases f:c=x
 .have e:sliced a x y c d= .slice a 0 0:=by
   have:y-x=0:=o_
   simp [sliced,f,this]
  rw [e]
  have:y-x=0:=o_
  rw [this]
  exact .sub0 k g x d a a n c h o_ o_
 .rcases l with ⟨rfl,rfl,rfl⟩ | ⟨b,rfl⟩
  .omega
  .have e:sliced (some ⟨b,0,none⟩) x y c d= .slice (some ⟨b,x*d,none⟩) (y-x) (c-x):=by simp [sliced,f,bA]
   rw [e]
   exact .sub k g x (y-x) d b n c h o_ o_ m i
theorem mT {k g lo x y a b n c:Nat} (d:at' ob k g=some (.slice (some ⟨b,0,none⟩) n c)) (hl:lo<c) (l:n<=c) (j:x<=y) (m:lo+y<=n) (h:(n:Int)<=9223372036854775807):
  Rep M ob (sliced (some ⟨b,lo*a,none⟩) x y (c-lo) a) (.sub k g (lo+x) (y-x) a):=by
 by_cases f:c-lo=x
 .have i:y-x=0:=o_
  have e:sliced (some ⟨b,lo*a,none⟩) x y (c-lo) a= .slice (some ⟨b,lo*a,none⟩) 0 0:=by simp [sliced,f,i]
  rw [e,i]
  exact .sub0 k g (lo+x) a _ _ n c d o_ o_
 .have e:sliced (some ⟨b,lo*a,none⟩) x y (c-lo) a= .slice (some ⟨b,(lo+x)*a,none⟩) (y-x) (c-(lo+x)):=by
   simp [sliced,f,bA,Bv]
   omega
  rw [e]
  exact .sub k g (lo+x) (y-x) a b n c d o_ o_ l h
theorem aAm (hE:EnvOK E) (hm:Mem M ob obs w) {t:TypeId} {v:Value} {a:AVal} (hv:Rep M ob v a) {vlo vhi vmx:Option Value} {lo hi mx:Option AVal}
  (O:CF M ob vlo lo) (N:CF M ob vhi hi) (hmx:CF M ob vmx mx):PS0 E.P M ob w (Gd t v vlo vhi vmx) obs base (NT E (aE obs) t a lo hi mx):=by
 have I:mx=none->vmx=none:=fun e=>by
  rcases hmx with ⟨h,_⟩ | ⟨_,_,_,h,_⟩
  .exact h
  .rw [e] at h;cases h
 have X:lo=none->vlo=none:=fun e=>by
  rcases O with ⟨h,_⟩ | ⟨_,_,_,h,_⟩
  .exact h
  .rw [e] at h;cases h
 have nohi:hi=none->vhi=none:=fun e=>by
  rcases N with ⟨h,_⟩ | ⟨_,_,_,h,_⟩
  .exact h
  .rw [e] at h;cases h
 unfold NT
 split
 .exact trivial
 .rename_i ti hT
  have hti:=hE.tab t ti hT
  have p:=hti.kind
  split
  .rename_i l
   obtain ⟨rfl,hlm⟩:=hv.str_inv
   split
   .have R:=‹ti.kind=TK.str›
    rw [R] at p
    obtain rfl:=I rfl
    have H:=p.1
    have hb:∀ i j,(⟨l.toArray⟩:ByteArray).extract i j=⟨((l.take j).drop i).toArray⟩:=NG l
    have hs:(⟨l.toArray⟩:ByteArray).size=l.length:=nC l
    refine pN O fun F s=>pN N fun r o=>?_
    cases F with
    | none=>
     obtain rfl:=s.none
     cases r with
     | none=>
      obtain rfl:=o.none
      refine aR (u:=.string ⟨l.toArray⟩) ?_ (.str _ hlm)
      rw [run_sliceAt_string w t _ _ _ _ H]
      unfold Kx Fw
      simp only [Au,run_underlying H,Ai,Ij,Cv,if_false,Bi,hb,hs]
      simp
     | some y=>
      obtain ⟨k,rfl⟩:=o.some
      intro J
      refine aR (u:=.string ⟨(l.take y).toArray⟩) ?_ (.str _ q_)
      rw [run_sliceAt_string w t _ _ _ _ H]
      unfold Kx Fw Jj
      simp only [Au,run_underlying H,Ai,Ij,Cv,if_false,Bi,hb,hs,asIntOf]
      rw [if_pos ⟨by omega,by omega⟩]
      simp only [Bi,Ai]
      simp
    | some x=>
     obtain ⟨k,rfl⟩:=s.some
     cases r with
     | none=>
      obtain rfl:=o.none
      intro J
      refine aR (u:=.string ⟨(l.drop x).toArray⟩) ?_ (.str _ q_)
      rw [run_sliceAt_string w t _ _ _ _ H]
      unfold Kx Fw Jj
      simp only [Au,run_underlying H,Ai,Ij,Cv,if_false,Bi,hb,hs,asIntOf]
      rw [if_pos ⟨by omega,by omega⟩]
      simp only [Bi,Ai]
      simp
     | some y=>
      obtain ⟨K,rfl⟩:=o.some
      rintro ⟨J,c2⟩
      refine aR (u:=.string ⟨((l.take y).drop x).toArray⟩) ?_ (.str _ q_)
      rw [run_sliceAt_string w t _ _ _ _ H]
      unfold Kx Fw Jj
      simp only [Au,run_underlying H,Ai,Ij,Cv,if_false,Bi,hb,hs,asIntOf]
      rw [if_pos ⟨by omega,by omega⟩]
      simp only [Bi,Ai]
      rw [if_pos ⟨by omega,by omega⟩]
      simp only [Bi,Ai,Cl]
   .exact trivial
  .rename_i B xs tt
   split
   .rename_i e esz eb R
    rw [R] at p
    obtain ⟨⟨H,ie,z,S,hs,_⟩,_⟩:=p
    refine sdc fun hg=>?_
    obtain rfl:=aB hg
    obtain ⟨d,Q⟩:=BQ H
    have G:(E.P.info? (E.P.elem t)).map (·.size)=some B:=by rw [Q];simp [S,hs]
    obtain ⟨D,n,f,rfl,U,L,key⟩:=L6 hv.untok.1
    have q:=fun u:World=>run_sizeOf (P:=E.P) G u
    refine pN O fun F s=>pN N fun r o=>pN hmx fun qmx bmx=>?_
    cases qmx with
    | none=>
     obtain rfl:=bmx.none
     cases F with
     | none=>
      obtain rfl:=s.none
      cases r with
      | none=>
       obtain rfl:=o.none
       refine aR (u:=sliced D 0 n f B) ?_ ?_
       .rw [run_sliceAt_slice w t _ _ _ _ d,run_slice_all w t D n f d,q];rfl
       .have:=(key 0 n o_ (Bg _)).1
        rw [<-U,Jk,Cn] at this
        rw [<-U];exact this
      | some y=>
       obtain ⟨k,rfl⟩:=o.some
       intro J
       refine aR (u:=sliced D 0 y f B) ?_ ?_
       .rw [run_sliceAt_slice w t _ _ _ _ d,run_slice_h w t D n f d k y o_ o_,q];rfl
       .have:=(key 0 y o_ o_).1
        rw [Cn] at this
        exact this
     | some x=>
      obtain ⟨k,rfl⟩:=s.some
      cases r with
      | none=>
       obtain rfl:=o.none
       intro J
       refine aR (u:=sliced D x n f B) ?_ ?_
       .rw [run_sliceAt_slice w t _ _ _ _ d,run_slice_l w t D n f d k x o_ o_,q];rfl
       .have:=(key x n o_ (Bg _)).1
        rw [<-U,Jk] at this
        rw [<-U];exact this
      | some y=>
       obtain ⟨K,rfl⟩:=o.some
       rintro ⟨J,c2⟩
       refine aR (u:=sliced D x y f B) ?_ ?_
       .rw [run_sliceAt_slice w t _ _ _ _ d,run_slice_lh w t D n f d k K x y o_ o_ o_,q];rfl
       .exact (key x y o_ o_).1
    | some m=>
     obtain ⟨km,rfl⟩:=bmx.some
     cases F with
     | some x=>cases r<;>exact trivial
     | none=>
      obtain rfl:=s.none
      cases r with
      | none=>exact trivial
      | some y=>
       obtain ⟨k,rfl⟩:=o.some
       rintro ⟨J,rfl⟩
       have hk2:=(key 0 m o_ o_).2
       rw [Cn] at hk2
       refine aR (u:=sliced D 0 m m B) ?_ ?_
       .rw [run_sliceAt_slice w t _ _ _ _ d,run_slice_hm w t D n f d k km m m o_ (Dc _) o_,q];rfl
       .exact hk2.tok ⟨_,m,rfl⟩
   .exact trivial
  .rename_i k g
   split
   .rename_i g' B e' xs _ hog
    have R:=‹ti.kind=TK.slc _ _ _›
    rw [R] at p
    refine sdc fun hg=>?_
    obtain ⟨hg1,hg2⟩:=aS hg
    obtain rfl:=aB hg1
    obtain rfl:=aB hg2
    obtain ⟨⟨H,ie,z,S,hs,_⟩,_⟩:=p
    obtain ⟨d,Q⟩:=BQ H
    have G:(E.P.info? (E.P.elem t)).map (·.size)=some B:=by rw [Q];simp [S,hs]
    have q:=fun u:World=>run_sizeOf (P:=E.P) G u
    obtain rfl:=I rfl
    obtain ⟨D,n,f,rfl,A⟩:=hv.row_inv
    obtain ⟨hs',v,h1,h2,h3,h4,h5,_⟩:=hm.rowOf (bX hog s_)
    rw [A] at h4
    cases h4
    have U:n=xs.length/\n<=f/\(n:Int)<=9223372036854775807/\(D=none/\n=0/\f=0\/∃ b,D=some ⟨b,0,none⟩):=by
     rcases h5.len with ⟨e1,rfl⟩ | ⟨b,c,e1,e2,e3,e4⟩
     .cases e1;exact ⟨rfl,Bg _,by decide,.inl ⟨rfl,rfl,rfl⟩⟩
     .cases e1;exact ⟨rfl,e3,by have:=gC;omega,.inr ⟨b,rfl⟩⟩
    obtain ⟨U,L,C,W⟩:=U
    refine pN O fun F s=>pN N fun r o=>?_
    cases F with
    | none=>
     obtain rfl:=s.none
     cases r with
     | none=>
      obtain rfl:=o.none
      refine aR (u:=.slice D n f) ?_ hv
      rw [run_sliceAt_slice w t _ _ _ _ d,run_slice_all w t D n f d,q]
      show Result.ok (sliced D 0 n f B) w=_
      congr 1
      rcases W with ⟨rfl,rfl,rfl⟩ | ⟨b,rfl⟩
      .rfl
      .simp [sliced,bA]
     | some y=>
      obtain ⟨K,rfl⟩:=o.some
      intro J
      refine aR (u:=sliced D 0 y f B) ?_ (rO W A L (Bt _) o_ C)
      rw [run_sliceAt_slice w t _ _ _ _ d,run_slice_h w t D n f d K y o_ o_,q];rfl
    | some x=>
     obtain ⟨Y,rfl⟩:=s.some
     cases r with
     | none=>
      obtain rfl:=o.none
      intro J
      refine aR (u:=sliced D x n f B) ?_ ?_
      .rw [run_sliceAt_slice w t _ _ _ _ d,run_slice_l w t D n f d Y x o_ o_,q];rfl
      .rw [<-U];exact rO W A L o_ o_ C
     | some y=>
      obtain ⟨K,rfl⟩:=o.some
      rintro ⟨J,c2⟩
      refine aR (u:=sliced D x y f B) ?_ (rO W A L o_ o_ C)
      rw [run_sliceAt_slice w t _ _ _ _ d,run_slice_lh w t D n f d Y K x y o_ o_ o_,q];rfl
   .exact trivial
  .rename_i k g V len B
   split
   .rename_i g' sz' e' xs _ hog
    have R:=‹ti.kind=TK.slc _ _ _›
    rw [R] at p
    refine sdc fun hg=>?_
    obtain ⟨hg12,hg3⟩:=aS hg
    obtain ⟨hg1,hg2⟩:=aS hg12
    obtain rfl:=aB hg1
    obtain rfl:=aB hg2
    obtain rfl:=aB hg3
    obtain ⟨⟨H,ie,z,S,hs,_⟩,_⟩:=p
    obtain ⟨d,Q⟩:=BQ H
    have G:(E.P.info? (E.P.elem t)).map (·.size)=some B:=by rw [Q];simp [S,hs]
    have q:=fun u:World=>run_sizeOf (P:=E.P) G u
    obtain rfl:=I rfl
    obtain ⟨hs',v,h1,h2,h3,h4,h5,_⟩:=hm.rowOf (bX hog s_)
    have nl:∀ {n:Nat} {D:Option Addr} {f:Nat},at' ob k g=some (.slice D n f)->n=xs.length/\n<=f:=fun {n D f} A=>by
     rw [A] at h4
     cases h4
     rcases h5.len with ⟨e1,rfl⟩ | ⟨b,c,e1,e2,e3,e4⟩
     .cases e1;exact ⟨rfl,Bg _⟩
     .cases e1;exact ⟨rfl,e3⟩
    cases hv with
    | sub _ _ _ _ _ b n c A hl U T C=>
     obtain ⟨hnx,_⟩:=nl A
     refine pN O fun F s=>pN N fun r o=>?_
     cases F with
     | none=>
      obtain rfl:=s.none
      cases r with
      | none=>
       obtain rfl:=o.none
       refine aR (u:=sliced (some ⟨b,V*B,none⟩) 0 len (c-V) B) ?_ (mT A hl T (Bt _) U C)
       rw [run_sliceAt_slice w t _ _ _ _ d,run_slice_all w t _ len _ d,q];rfl
      | some y=>
       obtain ⟨K,rfl⟩:=o.some
       intro J
       refine aR (u:=sliced (some ⟨b,V*B,none⟩) 0 y (c-V) B) ?_ (mT A hl T (Bt _) o_ C)
       rw [run_sliceAt_slice w t _ _ _ _ d,run_slice_h w t _ len _ d K y o_ o_,q];rfl
     | some x=>
      obtain ⟨Y,rfl⟩:=s.some
      cases r with
      | none=>
       obtain rfl:=o.none
       intro J
       refine aR (u:=sliced (some ⟨b,V*B,none⟩) x len (c-V) B) ?_ (mT A hl T J U C)
       rw [run_sliceAt_slice w t _ _ _ _ d,run_slice_l w t _ len _ d Y x o_ o_,q];rfl
      | some y=>
       obtain ⟨K,rfl⟩:=o.some
       rintro ⟨J,c2⟩
       refine aR (u:=sliced (some ⟨b,V*B,none⟩) x y (c-V) B) ?_ (mT A hl T J o_ C)
       rw [run_sliceAt_slice w t _ _ _ _ d,run_slice_lh w t _ len _ d Y K x y o_ o_ o_,q];rfl
    | sub0 _ _ _ _ a Z n c A hl T=>
     obtain ⟨hnx,_⟩:=nl A
     have e0:sliced Z 0 0 0 B= .slice Z 0 0:=by simp [sliced]
     have r0:Rep M ob (sliced Z 0 0 0 B) (.sub k g V 0 B):=by rw [e0];exact .sub0 _ _ _ _ a Z n c A hl T
     refine pN O fun F s=>pN N fun r o=>?_
     cases F with
     | none=>
      obtain rfl:=s.none
      cases r with
      | none=>
       obtain rfl:=o.none
       refine aR (u:=sliced Z 0 0 0 B) ?_ r0
       rw [run_sliceAt_slice w t _ _ _ _ d,run_slice_all w t _ 0 _ d,q];rfl
      | some y=>
       obtain ⟨K,rfl⟩:=o.some
       intro J
       obtain rfl:y=0:=o_
       refine aR (u:=sliced Z 0 0 0 B) ?_ r0
       rw [run_sliceAt_slice w t _ _ _ _ d,run_slice_h w t _ 0 _ d K ((0:Nat):Int) o_ o_,q];rfl
     | some x=>
      obtain ⟨Y,rfl⟩:=s.some
      cases r with
      | none=>
       obtain rfl:=o.none
       intro J
       obtain rfl:x=0:=o_
       refine aR (u:=sliced Z 0 0 0 B) ?_ r0
       rw [run_sliceAt_slice w t _ _ _ _ d,run_slice_l w t _ 0 _ d Y ((0:Nat):Int) o_ o_,q];rfl
      | some y=>
       obtain ⟨K,rfl⟩:=o.some
       rintro ⟨J,c2⟩
       obtain rfl:y=0:=o_
       obtain rfl:x=0:=o_
       refine aR (u:=sliced Z 0 0 0 B) ?_ r0
       rw [run_sliceAt_slice w t _ _ _ _ d,run_slice_lh w t _ 0 _ d Y K ((0:Nat):Int) ((0:Nat):Int) o_ o_ o_,q];rfl
   .exact trivial
  .rename_i k off
   split
   .rename_i len esz ea R
    rw [R] at p
    obtain ⟨⟨e,H,G,_⟩,_⟩:=p
    obtain rfl:=I rfl
    obtain rfl:=X rfl
    obtain rfl:=nohi rfl
    intro C
    obtain ⟨b,rfl,hb⟩:=hv.ref_inv
    refine aR (u:=.slice (some ⟨b,off,none⟩) len len) ?_ (.csl _ _ _ _ b hb C)
    unfold Gd Ho Fw
    simp only [Au,run_underlying H,Ai,Bi,run_sizeOf G]
    simp [bA]
   .exact trivial
  .rename_i cs
   split
   .rename_i len R
    rw [R] at p
    obtain ⟨⟨e,H,G,_⟩,_⟩:=p
    obtain rfl:=I rfl
    obtain rfl:=X rfl
    obtain rfl:=nohi rfl
    split
    .rename_i l hl
     refine sdc fun hone=>?_
     intro C
     obtain ⟨t1,t2⟩:=iA hl
     obtain ⟨b,o',rfl,hM⟩:=hv.ptr_inv
     refine aR (u:=.slice (some ⟨b,o',none⟩) len len) ?_ (.sl 1 b o' len len l _ t1 (Bg _) C (fun x hx=>?_) (fun i j x c hx T=>?_) ⟨_,len,rfl⟩)
     .unfold Gd Ho Fw
      simp only [Au,run_underlying H,Ai,Bi,run_sizeOf G]
      simp [bA]
     .obtain ⟨i,hi⟩:=Cp hx
      rw [lW (jV hone i x hi)];rfl
     .rw [lW (jV hone i x hx)] at T
      cases j with
      | succ j=>simp at T
      | zero=>
       simp at T
       subst T
       have:=hM i x (t2 i x hx)
       simpa using this
    .exact trivial
   .exact trivial
  .exact trivial
end
section
variable {P:Program} {E:Env} {M:Imm} {ob:Hs} {obs:List AObj} {w:World} {base:Nat}
theorem VR {α:Type} (l:List α):(l.drop 0).take l.length=l:=by simp
theorem VX (hm:Mem M ob obs w) {x:Value} {a:AVal} (y:Rep M ob x a) {u:Nat} {xs:List AVal} (h:aBz (aE obs) a=some (u,xs)) (hs:0<u) {K R:TypeId} (p:P.underlying K=some (.slice R)):
  SrcA P M w u K x xs/\∃ j c,x= .slice j xs.length c/\(j=none->xs=[]/\c=0):=by
 unfold aBz at h
 split at h
 .cases h
  obtain ⟨j,c,e,F,_⟩:=y.slice_inv
  exact ⟨SrcA.ofSlice hm hs p y,j,c,e,F⟩
 .rename_i k g
  obtain ⟨j,n,c,rfl,d⟩:=y.row_inv
  split at h
  .rename_i J o e xs' i
   obtain ⟨r,h⟩:=dW h
   cases h
   obtain rfl:=aB r
   have m:=bX i s_
   obtain ⟨hs',v,h1,H,h3,l,z,_⟩:=hm.rowOf m
   rw [d] at l
   cases l
   have hl:n=xs.length/\(j=none->xs=[]/\c=0):=by
    rcases z.len with ⟨f,rfl⟩ | ⟨b,c,f,S,U,V⟩
    .cases f;exact ⟨rfl,fun _=>⟨rfl,rfl⟩⟩
    .cases f;exact ⟨rfl,fun h=>by cases h⟩
   obtain ⟨rfl,B⟩:=hl
   have:=SrcA.ofRow hm hs m p d (lo:=0) (len:=xs.length) o_ (x:=.slice j xs.length c) (fun b I t e _=>by cases e;exact ⟨_,by rw [Hr]⟩) (fun h=>⟨j,c,by rw [h]⟩)
   rw [VR] at this
   exact ⟨this,j,c,rfl,B⟩
  .rename_i J o xs' i
   obtain ⟨r,h⟩:=dW h
   cases h
   obtain rfl:=aB r
   obtain ⟨hs',h1,v,H,h3⟩:=hm.obj _ _ (bX i s_)
   rw [bW h1,H] at d
   cases d
   have s:=h3.pure (M:=M) (ob:=ob)
   obtain ⟨C,t,e,F,_⟩:=s.slice_inv
   exact ⟨SrcA.ofSlice hm hs p s,C,t,e,F⟩
  .cases h
 .rename_i k g lo len u
  split at h
  .rename_i J o e xs' i
   obtain ⟨r,h⟩:=dW h
   cases h
   obtain ⟨G,A⟩:=aS r
   obtain rfl:=aB G
   obtain rfl:=aB A
   have m:=bX i s_
   obtain ⟨hs',v,h1,H,h3,l,z,_⟩:=hm.rowOf m
   cases y with
   | sub _ _ _ _ _ b n c d hl T Q O=>
    rw [d] at l
    cases l
    have D:n=xs'.length:=by
     rcases z.len with ⟨f,_⟩ | ⟨b,c,f,_⟩
     .cases f
     .cases f;rfl
    have q:((xs'.drop lo).take len).length=len:=by simp;omega
    refine ⟨SrcA.ofRow hm hs m p d (lo:=lo) (len:=len) o_ (fun L I t e _=>by cases e;exact ⟨_,rfl⟩) (fun h=>⟨_,_,by rw [h]⟩),_,_,by rw [q],fun e=>by cases e⟩
   | sub0 _ _ _ _ j N n c d hl Q=>
    rw [d] at l
    cases l
    have D:n=xs'.length:=by
     rcases z.len with ⟨f,rfl⟩ | ⟨b,c,f,_⟩
     .cases f;rfl
     .cases f;rfl
    refine ⟨SrcA.ofRow hm hs m p d (lo:=lo) (len:=0) o_ (fun L I t e h=>absurd rfl h) (fun _=>⟨_,_,rfl⟩),N,0,by simp,fun _=>⟨by simp,rfl⟩⟩
  .cases h
 .cases h
theorem L5 (hE:EnvOK E) (hm:Mem M ob obs w) {x:Value} {a:AVal} (f:Rep M ob x a) {b e:Nat} {ys:List AVal} (h:VY E (aE obs) b e a=some ys) (hs:0<b):SrcA E.P M w b e x ys:=by
 unfold VY at h
 split at h
 .rename_i l
  split at h
  .rename_i _ _ _ d
   obtain ⟨g,h⟩:=dW h
   cases h
   obtain rfl:=aB g
   obtain ⟨rfl,_⟩:=f.str_inv
   exact SrcA.ofStr (hE.tab e _ d).kind.1 l
  .cases h
 .split at h
  .rename_i _ _ _ _ _ _ d
   cases h
   cases f
   exact ⟨⟨[],Src.ofNil w (hE.tab e _ d).kind.1.1 0,fun q c j=>by simp [aG] at j⟩,fun y k=>by simp at k,fun m hm=>zR hm⟩
  .cases h
 .split at h
  .rename_i _ _ _ _ _ _ n xs d i
   obtain ⟨g,h⟩:=dW h
   cases h
   obtain rfl:=aB g
   exact (VX hm f i hs (hE.tab e _ d).kind.1.1).1
  .cases h
theorem V9 {s d e:TypeId} {a:Option Addr} {l:List UInt8} {c:Nat} (o:P.underlying s=some (.slice e)) (q:P.underlying e=some (.int .u8)) (y:P.underlying d=some .string)
  (x:a=none->l=[]/\c=0) (hs:SrcA P M w 1 s (.slice a l.length c) (l.map ub)):(convert s d (.slice a l.length c)).run P w= .ok (.string ⟨l.toArray⟩) w:=by
 rw [run_convert_bytes_string w s d e a l.length c o q y]
 cases a with
 | none=>
  obtain ⟨rfl,rfl⟩:=x rfl
  simp [Conv.bytesToString]
  rfl
 | some a=>
  obtain ⟨⟨news,b,v⟩,_⟩:=hs
  have p:news.length=l.length:=by rw [b.newsLen];simp
  have f:news=(l.map fun c=>(c.toNat:Int)).map (Ji .u8):=by
   refine Fa fun j=>?_
   by_cases m:j<l.length
   .obtain ⟨u,i,k⟩:=v j (ub l[j]) (by rw [vG,Aa m];rfl)
    rw [i,k.int_inv.1]
    simp [Aa m]
   .rw [Bj o_,Bj q_]
  have h:(loadCells a l.length).run P w= .ok news.toArray w:=by
   have:=b.cells
   rw [Cw] at this
   have e:Bz 1 l.length (.slice (some a) l.length c)=loadCells a (l.length*1):=rfl
   rw [e,Nat.mul_one] at this
   exact this
  rw [f] at h
  rw [run_bytesToString w a l.length c _ h]
  congr 2
  have g:∀ (l:List UInt8) (r:ByteArray),(l.map fun c=>(c.toNat:Int)).foldl (fun r n=>r.push (Gk n.toNat)) r=⟨r.data++l.toArray⟩:=by
   intro l
   induction l with
   | nil=>intro r;cases r;simp
   | cons c l t=>
    intro r
    simp only [Bk,Al,t]
    cases r with
    | mk d=>simp [ByteArray.push]
  rw [g]
  congr 1
  have:(ByteArray.empty).data= #[]:=rfl
  rw [this]
  simp
theorem xH (w:World) (e:TypeId) (s:ByteArray):(Lib.bytesWorld w e s).os=w.os/\(Lib.bytesWorld w e s).tape=w.tape/\(Lib.bytesWorld w e s).output=w.output:=⟨rfl,rfl,rfl⟩
theorem aDC (hE:EnvOK E) (hm:Mem M ob obs w) {s d:TypeId} {v:Value} {a:AVal} (C:Rep M ob v a):PM E.P M ob w (convert s d v) obs base (aAy E (aE obs) s d a):=by
 unfold aAy
 split
 .rename_i Z R hs hd
  have f:=(hE.tab s Z hs).kind
  have g:=(hE.tab d R hd).kind
  obtain ⟨z,_⟩:=f.isAgg
  obtain ⟨ds,N⟩:=Cx.1 z
  split
  .rename_i k X n t
   rw [t] at g
   obtain ⟨rfl,_⟩:=C.int_inv
   have key:(convert s d (.int X n)).run E.P w= .ok (.int k (k.wrap n)) w:=by
    simp [convert,run_underlying N,run_underlying g.1,Conv.intToInt]
   refine PM.of hm ⟨fun hp=>⟨rfl,_,by rw [key,iK hp],.int _ _ hp⟩,rfl,_,key,.int _ _ (kA _ _)⟩
  .rename_i l t
   rw [t] at g
   obtain ⟨rfl,hl⟩:=C.str_inv
   split
   .rename_i m
    rw [m] at f
    refine PM.of hm (aR (u:=.string ⟨l.toArray⟩) ?_ (.str _ hl))
    simp [convert,run_underlying f.1,run_underlying g.1]
   .exact trivial
  .rename_i e Y l t
   rw [t] at g
   obtain ⟨⟨K,_⟩,_⟩:=g
   obtain ⟨rfl,hl⟩:=C.str_inv
   split
   .rename_i _ _ _ m I
    rw [m] at f
    have r:=(hE.tab e _ I).kind.1
    have p:=Lib.run_convert_string_bytes (P:=E.P) w s d e ⟨l.toArray⟩ f.1 K r
    rw [nC] at p
    obtain ⟨O,L,T⟩:=xH w e ⟨l.toArray⟩
    have key:∀ (j:Nat) c,l[j]? =some c->(Lib.bytesWorld w e ⟨l.toArray⟩).cell? ⟨w.heap.size,j,none⟩=some (.int .u8 c.toNat):=fun j c Q=>by
     have F:j<l.length:=(Ab.1 Q).1
     rw [Lib.bytesWorld_cell w e ⟨l.toArray⟩ j (by rw [nC];exact F)]
     simp [List.getD,Q]
    obtain ⟨W,m2⟩:=hm.more (M':=fun b o y=>M b o y\/(b=w.heap.size/\∃ c,l[o]? =some c/\y=ub c)) (w':=Lib.bytesWorld w e ⟨l.toArray⟩) (fun _ _ _ h=>.inl h) (fun b o y A=>by
      rcases A with A | ⟨rfl,_⟩
      .exact .inl A
      .exact .inr (Bg _)) (fun b o y A=>by
      rcases A with A | ⟨rfl,c,B,rfl⟩
      .obtain ⟨v,h1,h2,h3⟩:=hm.imm b o y A
       exact ⟨v,(Lib.bytesWorld_old w e _ _ (Cr w _ h1)).trans h1,h2,h3.monoM fun _ _ _ h=>.inl h⟩
      .exact ⟨_,key o c B,rfl,sV c⟩) (fun b V=>Lib.bytesWorld_at_old w e _ b V) O L T (by rw [Lib.bytesWorld_size];omega)
    refine ⟨_,_,_,ob,p,m2,W,cJ.refl _ _,.sl 1 w.heap.size 0 _ _ _ _ s_ (grownCap_ge w _ 0 e) hl (fun x D=>O4 l x D) (fun i j x c D B=>?_) trivial⟩
    rw [Bc] at D
    obtain ⟨U,G,rfl⟩:=Cb.1 D
    cases j with
    | succ j=>simp [ub,AVal.cells] at B
    | zero=>
     simp [ub,AVal.cells] at B
     subst B
     exact .inr ⟨rfl,U,by simpa using G,rfl⟩
   .exact trivial
  .have t:=‹R.kind=TK.str›
   rw [t] at g
   split
   .rename_i e Y xs m S
    rw [m] at f
    split
    .rename_i _ _ _ I
     have r:=(hE.tab e _ I).kind.1
     intro l J H
     subst J
     obtain ⟨q,ad,c,rfl,h0⟩:=VX (P:=E.P) hm C S d_ f.1.1
     refine ⟨_,w,M,ob,?_,Ext.refl _ _ _ _,hm,cJ.refl _ _,.str l H⟩
     rw [Cw] at q⊢
     exact V9 f.1.1 r g.1 (fun e=>by obtain ⟨O,L⟩:=h0 e;exact ⟨by simpa using O,L⟩) q
    .exact trivial
   .exact trivial
  .exact trivial
 .exact trivial
theorem EK (off:Nat):∀ (l:List Value) (k:Nat) (cells:Array Value),((l.zipIdx k).foldl (fun (cs:Array Value) (p:Value×Nat)=>cs.setIfInBounds (off+p.2) p.1) cells).size=cells.size/\
  ∀ (i:Nat),((l.zipIdx k).foldl (fun (cs:Array Value) (p:Value×Nat)=>cs.setIfInBounds (off+p.2) p.1) cells)[i]? =if off+k<=i/\i<off+k+l.length/\i<cells.size then l[i-(off+k)]? else cells[i]?
 | [],k,cells=>by
  refine ⟨rfl,fun i=>?_⟩
  simp
  intro h1 b
  omega
 | c::l,k,cells=>by
  obtain ⟨h1,b⟩:=EK off l (k+1) (cells.setIfInBounds (off+k) c)
  simp only [List.zipIdx_cons,Al]
  refine ⟨by rw [h1];simp,fun i=>?_⟩
  rw [b]
  simp only [Array.size_setIfInBounds,Ba]
  by_cases d:i=off+k
  .subst d
   rw [if_neg o_]
   by_cases hs:off+k<cells.size
   .rw [if_pos ⟨by omega,by omega,hs⟩]
    simp [hs]
   .rw [if_neg o_]
    rw [Array.getElem?_setIfInBounds_self]
    simp [hs]
  .rw [Di o_]
   by_cases a:off+(k+1)<=i/\i<off+(k+1)+l.length/\i<cells.size
   .rw [if_pos a,if_pos ⟨by omega,by omega,a.2.2⟩]
    have:i-(off+k)=(i-(off+(k+1)))+1:=o_
    rw [this,Eu]
   .rw [if_neg a,if_neg o_]
def CE (M:Imm) (ob:Hs) (vs:List (Nat×Value)) (as:List (Nat×AVal)):Prop:=
 vs.length=as.length/\∀ (i:Nat) (p:Nat×Value) (q:Nat×AVal),vs[i]? =some p->as[i]? =some q->p.1=q.1/\Rep M ob p.2 q.2
theorem rY {place d:Nat->Option (Nat×Nat)} (hp:∀ i p,d i=some p->place i=some p):
  ∀ {b:List (Nat×AVal)} {vparts:List (Nat×Value)} {cs cs':List AVal} {cells:Array Value},BR d cs b=some cs'->cD M ob cells.toList cs->CE M ob vparts b->
   ∃ a,Instr.fill place cells vparts=some a/\cD M ob a.toList cs':=by
 intro b
 induction b with
 | nil=>
  intro vparts cs cs' cells h t hl
  have:vparts=[]:=Aq hl.1
  subst this
  cases h
  exact ⟨cells,rfl,t⟩
 | cons q b K=>
  intro vparts cs cs' cells h t hl
  obtain ⟨hl,I⟩:=hl
  obtain ⟨i,x⟩:=q
  match vparts,hl with
  | (i',v)::vparts,hl=>
   obtain ⟨H,g⟩:=I 0 _ _ rfl rfl
   dsimp only at H g
   subst H
   simp only [BR] at h
   split at h
   .cases h
   .rename_i off T z
    obtain ⟨R,G⟩:=dW h
    obtain ⟨B,C⟩:=aS R
    have F:x≠ .undef:=fun e=>by subst e;cases B
    have f:=aB C
    rw [tQ] at f
    split at G
    .rename_i D o
     obtain ⟨U,S,J⟩:=iQ o
     obtain ⟨l,y⟩:=g.cells F
     have A:v.cells.size=x.cells.length:=by rw [<-l];simp
     obtain ⟨Q,O⟩:=EK off v.cells.toList 0 cells
     have w:cells.size=cs.length:=by have:=t.1;simpa using this
     have m:v.cells.zipIdx.foldl (fun (cs:Array Value) (x:Value×Nat)=>match x with | (c,j)=>cs.setIfInBounds (off+j) c) cells=(v.cells.toList.zipIdx 0).foldl (fun (cs:Array Value) (p:Value×Nat)=>cs.setIfInBounds (off+p.2) p.1) cells:=by
      rw [<-Array.foldl_toList]
      simp
     have k:cD M ob ((v.cells.toList.zipIdx 0).foldl (fun (cs:Array Value) (p:Value×Nat)=>cs.setIfInBounds (off+p.2) p.1) cells).toList D:=by
      refine ⟨by rw [Fg,Q,w,S],fun j u c n s=>?_⟩
      rw [Ma,O j] at n
      rw [J j] at s
      simp only [Df] at n
      by_cases r:off<=j/\j<off+x.cells.length
      .rw [if_pos r] at s
       rw [if_pos ⟨by omega,by rw [l];omega,by omega⟩] at n
       exact y _ u c n s
      .rw [if_neg r] at s
       rw [if_neg (by rw [l];omega)] at n
       exact t.2 j u c (by rw [Ma];exact n) s
     obtain ⟨a,L,P⟩:=K (vparts:=vparts) G k ⟨by simpa using hl,fun i p q hp N=>I (i+1) p q (by simpa using hp) (by simpa using N)⟩
     refine ⟨a,?_,P⟩
     simp only [Instr.fill,hp _ _ z]
     rw [if_neg]
     .rw [m];exact L
     .simp only [Eg,decide_eq_true_eq,not_or]
      constructor
      .simp [A,f]
      .omega
    .cases G
theorem wG {P:Program}:∀ {a:List Field} {b:List (Nat×Nat×Bool)},mP P a b->a.mapM (fun f=>(P.info? f.type).map fun i=>(f.offset,i.size))=some (b.map fun f=>(f.1,f.2.1))
 | [],[],_=>rfl
 | [],_::_,h=>h.elim
 | _::_,[],h=>h.elim
 | f::a,(off,sz,ag)::b,h=>by
  obtain ⟨h1,c,h3,g,e⟩:=h
  obtain ⟨i,d,rfl⟩:=Cb.1 c
  simp [List.mapM_cons,d,wG e,h1]
theorem P5 {α β:Type} (f:α->β):∀ (l:List α) (n:Nat),(nth l n).map f=(l.map f)[n]?
 | [],_=>by simp [nth]
 | x::_,0=>rfl
 | _::r,n+1=>by simpa [nth] using P5 f r n
theorem aAA (hE:EnvOK E) {t:TypeId} {h:List (Nat×AVal)} {vparts:Array (Nat×Value)} (hl:CE M ob vparts.toList h):PS0 E.P M ob w (Instr.build t vparts) obs base (N3 E t h):=by
 unfold N3
 split
 .rename_i L K
  have r:=hE.tab t L K
  obtain ⟨info,z,G,O,hz,I,j,_,_⟩:=r.info
  have c:=r.kind
  split
  .rename_i N u x l
   rw [x] at c
   obtain ⟨⟨H,s,Q⟩,_⟩:=c
   split
   .rename_i cs d
    rw [l] at j
    cases j with
    | agg vs as g m=>
     have k:cD M ob vs.toArray.toList u:=⟨by simpa using g,fun i v a A D=>iJ (m i v a (by simpa using A) D)⟩
     obtain ⟨b,y,q⟩:=rY (place:=((N.map fun f=>(f.1,f.2.1)).toArray[·]?)) (fun i p hp=>by rw [P5] at hp;simpa using hp) d k hl
     have o:E.P.built t vparts.toList=some b:=by
      simp only [Program.built,G,s,hz,wG Q]
      exact y
     have:b=b.toList.toArray:=by simp
     rw [this] at o
     exact aR (run_build w t vparts _ o) (.agg _ _ q.1 q.2)
   .exact trivial
  .rename_i n J R u x l
   rw [x] at c
   obtain ⟨⟨e,s,B,_⟩,_⟩:=c
   obtain ⟨F,C,rfl⟩:=Cb.1 B
   split
   .rename_i cs d
    rw [l] at j
    cases j with
    | agg vs as g m=>
     have k:cD M ob vs.toArray.toList u:=⟨by simpa using g,fun i v a A D=>iJ (m i v a (by simpa using A) D)⟩
     obtain ⟨b,y,q⟩:=rY (place:=fun i=>some (i*F.size,F.size)) (fun i p hp=>hp) d k hl
     have o:E.P.built t vparts.toList=some b:=by
      simp only [Program.built,G,s,hz,C]
      exact y
     have:b=b.toList.toArray:=by simp
     rw [this] at o
     exact aR (run_build w t vparts _ o) (.agg _ _ q.1 q.2)
   .exact trivial
  .exact trivial
 .exact trivial
end
section
variable {P:Program} {E:Env} {M:Imm} {ob:Hs} {obs:List AObj} {w:World} {base:Nat}
theorem Mem.bare (h:Mem M ob obs w):Mem M [] [] w:=
 ⟨h.imm,rfl,fun k c a=>by simp at a,fun k b ⟨c,hs,h1,_⟩=>by simp at h1,fun k d b ⟨c,hs,h1,_⟩=>by simp at h1⟩
theorem JO:aE []=fun _=>AObj.dead:=by funext n;cases n<;>rfl
theorem Mem.pure0 (h:Mem M ob obs w) {v:Value} {a:AVal} (b:Rep (fun _ _ _=>False) [] v a):Rep M [] v (AW.pureV (fun _=>.dead) 4 a):=by
 have:=h.bare.pureV 4 v a (iJ b)
 rwa [JO] at this
theorem vV {t:Nat} {a:Addr} {v:Value} {w':World} (hs:(P.info? t).map (·.size)=some v.cells.size) (h:(storeCells a v.cells.toList).run P w= .ok () w'):
  (Jq t (.pointer (some a)) v).run P w= .ok () w':=by
 unfold Jq Ho storeVar
 simp only [Au,Bi,Ai,run_sizeOf hs,ne_eq,not_true_eq_false,if_false]
 exact h
theorem MS {y:AVal} {new cs':List AVal} {off:Nat} (d:lL off new y.cells=some cs') (a:mY new=true):(aFs y cs').cells=cs':=by
 obtain ⟨j,i,g⟩:=iQ d
 by_cases h:∃ as,y= .agg as
 .obtain ⟨as,rfl⟩:=h;rfl
 .have b:y.cells=[y]:=by cases y<;>first | rfl | exact absurd ⟨_,rfl⟩ h
  have e:aFs y cs'=aEq cs':=by cases y<;>first | rfl | exact absurd ⟨_,rfl⟩ h
  rw [e]
  rw [b] at i g
  match cs',i,g with
  | [c],_,g=>
   show c.cells=[c]
   have f:=g 0
   simp only [Li] at f
   split at f
   .exact lW (jV a _ c f.symm)
   .simp at f
    rw [f]
    exact b
theorem R8 {a:Nat} {xs:List AVal} {i off:Nat} {y m:AVal} {new:List AVal} (hs:0<a) (l:xs[i]? =some y) (hz:y.cells.length=a)
  (h1:off+new.length<=a) (o:∀ (j:Nat),m.cells[j]? =if off<=j/\j<off+new.length then new[j-off]? else y.cells[j]?) {q:Nat} {c:AVal} (h:aG a (xs.set i m) q=some c):
  (i*a+off<=q/\q<i*a+off+new.length/\new[q-(i*a+off)]? =some c)\/((q<i*a+off\/i*a+off+new.length<=q)/\aG a xs q=some c):=by
 have g:i<xs.length:=(Ab.1 l).1
 obtain ⟨z,hz1,hz2⟩:=fX h
 have f:a*(q / a)+q % a=q:=Ig q a
 have k:=Gp q hs
 by_cases b:q / a=i
 .rw [b,Ax g] at hz1
  cases hz1
  rw [o] at hz2
  rw [b,Dn] at f
  split at hz2
  .rename_i e
   left
   refine ⟨by omega,by omega,?_⟩
   rw [show q-(i*a+off)=q % a-off from by omega]
   exact hz2
  .rename_i e
   right
   refine ⟨by omega,?_⟩
   unfold aG
   rw [b,l]
   exact hz2
 .rw [Bh (Eb b)] at hz1
  right
  refine ⟨?_,?_⟩
  .rcases Mn (q / a) i with d | n
   .left
    have:(q / a+1)*a<=i*a:=Bq _ d
    rw [Bv,Dn] at this
    omega
   .right
    have:(i+1)*a<=q / a*a:=Bq _ o_
    rw [Bv,Dn (q / a)] at this
    omega
  .unfold aG
   rw [hz1]
   exact hz2
def VU (P:Program) (M:Imm) (ob:Hs) (obs:List AObj) (w:World) (s:Sem Unit) (v:AVal) (obs':List AObj):Prop:=
 v= .undef/\∃ w' M' ob',s.run P w= .ok () w'/\Ext M ob obs w M' ob' obs' w'/\Mem M' ob' obs' w'/\cJ ob obs ob' obs'
theorem aAl (hE:EnvOK E) (hm:Mem M ob obs w) {t:Nat} {v u:Value} {a x:AVal} (o:Rep M ob v a) (hu:Rep M ob u x):
  Sd (VU E.P M ob obs w (Jq t v u)) (fun _ _=>False) (fun _=>False) obs base (NS E (aE obs) t a x):=by
 unfold NS
 split
 .exact trivial
 .rename_i ti hT
  have hti:=hE.tab t ti hT
  refine sdc fun hg=>?_
  obtain ⟨V,N⟩:=aS hg
  obtain ⟨hcl,I,Z⟩:=hu.cells_one V
  have hsz:u.cells.size=ti.size:=by
   have:=aB N
   rw [tQ] at this
   have h3:u.cells.size=u.cells.toList.length:=by simp
   omega
  have hs:(E.P.info? t).map (·.size)=some u.cells.size:=by rw [hsz];exact hti.size?
  split
  .rename_i k off
   obtain ⟨b,rfl,hb⟩:=o.ref_inv
   split
   .rename_i T' cs H
    have J:=bX H s_
    split
    .rename_i cs' f
     obtain ⟨p1,p2,p3⟩:=iQ f
     obtain ⟨Y,e1,b',rfl,hM,cv,hh,hlen',L,U⟩:=hm.obj k _ J
     have hbb:b'=b:=by rw [bW e1] at hb;simpa using hb
     subst hbb
     have B:off+u.cells.toList.length<=cv.length:=o_
     obtain ⟨q1,q2⟩:=eM cv u.cells.toList off B
     have hst:=run_storeCells_at E.P b' off T' u.cells.toList 0 cv.toArray w hh (by simpa using B) I
     simp only [Df] at hst
     have:=hm.cellsTurn (cs':=cs') (cv':=cv.take off++u.cells.toList++cv.drop (off+u.cells.toList.length)) J hb o_ (fun v o=>by
       simp only [Ay] at o
       rcases o with (o | o) | o
       .exact L v (Cq o)
       .exact I v o
       .exact L v (Du o)) (fun i v c r l=>by
       rw [q2 i] at r
       rw [p3 i,<-hcl] at l
       split at r
       .rename_i D
        rw [if_pos D] at l
        exact Z _ v c r l
       .rename_i D
        rw [if_neg D] at l
        exact U i v c r l)
     refine ⟨rfl,_,M,ob,vV hs hst,?_⟩
     rw [aQ J]
     exact ⟨this.2.1,this.1,this.2.2⟩
    .exact trivial
   .exact trivial
  .rename_i k g i h off
   cases o with
   | eref _ _ _ _ _ b n c W=>
   split
   .rename_i g' sz' e xs H
    have J:=bX H s_
    refine sdc fun hg2=>?_
    obtain ⟨Q,m⟩:=aS hg2
    obtain ⟨hg3,C⟩:=aS Q
    obtain ⟨hg4,hg5⟩:=aS hg3
    obtain rfl:=aB hg4
    obtain rfl:=aB hg5
    have d:0<h:=Ca C
    have hpu:=hm.pureV 4 u x hu
    obtain ⟨hcl',_,R⟩:=hpu.cells_one m
    obtain ⟨Y,v0,e1,e2,e3,e4,A,_⟩:=hm.rowOf J
    have hrl:=A.len
    rw [W] at e4
    cases e4
    obtain ⟨cv,_,_,hz,_⟩:=A
    have T:∀ {y X:AVal},0<h->xs[i]? =some y->off+(pureV (aE obs) 4 x).cells.length<=h->(∀ (j:Nat),X.cells[j]? =if off<=j/\j<off+(pureV (aE obs) 4 x).cells.length then (pureV (aE obs) 4 x).cells[j-off]? else y.cells[j]?)->
      X.cells.length=h->VU E.P M ob obs w (Jq t (.pointer (some ⟨b,i*h+off,none⟩)) u) .undef (bL obs k (.row g h e (xs.set i X))):=by
     intro y X d s h1 h2 h3
     have F:i<xs.length:=(Ab.1 s).1
     have K:(i+1)*h<=xs.length*h:=Bq _ F
     rw [Bv,Gb] at K
     obtain ⟨w',r1,r2,r3,r4⟩:=hm.rowWrite (P:=E.P) (xs':=xs.set i X) J W d (p:=i*h+off) (news:=u.cells.toList) o_ I s_ (fun z G=>by
       rcases Da G with G | rfl
       .exact hz z G
       .exact h3) (fun q c hq=>by
       rcases R8 d s (hz y (Av s)) h1 h2 hq with ⟨a1,a2,a3⟩ | ⟨a1,a2⟩
       .left
        refine ⟨a1,by omega,?_⟩
        have O:q-(i*h+off)<u.cells.toList.length:=o_
        exact ⟨_,Aa O,R _ _ c (Aa O) a3⟩
       .right
        exact ⟨by omega,a2⟩)
     refine ⟨rfl,w',M,ob,vV hs r1,?_⟩
     rw [aQ J]
     exact ⟨r3,r2,r4⟩
    cases hq:(Ap off 0&&Ap ti.size h) with
    | true=>
     obtain ⟨ho1,ho2⟩:=aS hq
     obtain rfl:=aB ho1
     have hts:=aB ho2
     intro F
     have hnl:(pureV (aE obs) 4 x).cells.length=h:=by
      have:u.cells.toList.length=u.cells.size:=by simp
      omega
     have s:=Aa F
     have hyz:=hz _ (Av s)
     exact T d s o_ (fun j=>by
       split
       .rw [Hu]
       .rw [Bj o_,Bj o_]) hnl
    | false=>
     intro y s
     dsimp only
     split
     .rename_i cs' f
      obtain ⟨p1,p2,p3⟩:=iQ f
      have hyz:=hz y (Av s)
      have S:=MS f m
      exact T d s o_ (fun j=>by rw [S];exact p3 j) (by rw [S];omega)
     .exact trivial
   .exact trivial
  .exact trivial
end
section
variable {P:Program} {E:Env} {M:Imm} {ob:Hs} {obs:List AObj} {w:World} {base:Nat}
theorem Mem.rowSplice (hm:Mem M ob obs w) {k g a:Nat} {e:TypeId} {xs ys:List AVal} (s:obs[k]? =some (.row g a e xs)) {b n o:Nat} (x:at' ob k g=some (.slice (some ⟨b,0,none⟩) n o)) (hs:0<a) {i:Nat} (r:i+ys.length<=xs.length)
  (hz:∀ y∈ys,y.cells.length=a) {news:List Value} (hl:news.length=ys.length*a) (h1:∀ u∈news,u.oneCell'=true) (A:∀ (q:Nat) c,aG a ys q=some c->∃ u,news[q]? =some u/\Rep M [] u c):
  ∃ w',(storeCells ⟨b,i*a,none⟩ news).run P w= .ok () w'/\Mem M ob (obs.set k (.row g a e (xs.take i++ys++xs.drop (i+ys.length)))) w'/\
   Ext M ob obs w M ob (obs.set k (.row g a e (xs.take i++ys++xs.drop (i+ys.length)))) w'/\cJ ob obs ob (obs.set k (.row g a e (xs.take i++ys++xs.drop (i+ys.length)))):=by
 obtain ⟨t,D,B,C,F,G,h,_⟩:=hm.rowOf s
 obtain ⟨cv,_,_,j,_⟩:=h
 have d:(i+ys.length)*a<=xs.length*a:=Bq _ r
 rw [Bv] at d
 refine hm.rowWrite (P:=P) s x hs (p:=i*a) (news:=news) (by rw [hl];exact d) h1 q_ (fun y f=>?_) (fun q c v=>?_)
 .simp only [Ay] at f
  rcases f with (f | f) | f
  .exact j y (Cq f)
  .exact hz y f
  .exact j y (Du f)
 .rcases CX hs r v with ⟨l,m,z⟩ | ⟨l,m⟩
  .left
   exact ⟨l,by rw [hl];exact m,A _ c z⟩
  .right
   exact ⟨by rw [hl];exact l,m⟩
theorem oI {xs:List AVal} {i:Nat}:xs.take i++[]++xs.drop (i+0)=xs:=by simp
theorem nM (hm:Mem M ob obs w) (c:obs[base]? =some .dead) (d:ob[base]? =some []) {s:Sem Value} {f:Nat} {e:TypeId} {v:Value} {w':World} {xs:List AVal} (i:s.run P w= .ok v w') (g:Grown M w w' f e v xs) {hint:Nat}:
  PM P M ob w s obs base (nN hint base f e xs):=by
 have k:base<ob.length:=(Ab.1 d).1
 unfold nN
 split
 .obtain ⟨h1,h,h3⟩:=g.row hm c d
  refine ⟨v,w',M,ob.set base [v],i,?_⟩
  rw [aQ c]
  refine ⟨h,h1,h3,?_⟩
  obtain ⟨cv,j,_⟩:=g.own
  have a:at' (ob.set base [v]) base 0=some v:=by rw [bW (Ax k)];rfl
  rcases dE j with ⟨q,_⟩ | ⟨b,m,q,_⟩
  .rw [q] at a⊢;exact .row _ _ _ _ _ a
  .rw [q] at a⊢;exact .row _ _ _ _ _ a
 .obtain ⟨h1,h,h3,l⟩:=g.tail hm c d
  refine ⟨v,w',fS M v f xs,ob.set base [v],i,?_⟩
  rw [aQ c]
  exact ⟨h,h1,h3,l⟩
theorem EC (hm:Mem M ob obs w) {s:Sem Value} {a:Nat} {e:TypeId} {v:Value} {w':World} {xs:List AVal} (f:s.run P w= .ok v w') (g:Grown M w w' a e v xs) {t:Tk} (b:qZ ob v t):PM P M ob w s obs base (.val (.slice a xs t)):=by
 obtain ⟨h1,d⟩:=g.more hm
 obtain ⟨cv,c,_⟩:=g.own
 exact ⟨v,w',_,ob,f,d,h1,cJ.refl _ _,iN c g.hz b⟩
theorem UM (hE:EnvOK E) (hm:Mem M ob obs w) (L:obs[base]? =some .dead) (J:ob[base]? =some []) {hint:Nat} {t t2 ty:TypeId} {v x:Value} {s a:AVal} (O:Rep M ob v s) (hx:Rep M ob x a):
  PM E.P M ob w (Cg #[t,t2] ty #[v,x]) obs base (qP E hint base (aE obs) t t2 s a):=by
 unfold qP
 split
 .rename_i e esz eb _ _ _ hT
  obtain ⟨⟨I,i,z,N,hsz,heb,hz,u,hz1⟩,_⟩:=(hE.tab t _ hT).kind
  subst hsz heb
  refine sdc fun hp=>?_
  have d:0<i.size:=Ca hp
  split
  .exact trivial
  .rename_i ys hys
   have h:=L5 hE hm hx hys d
   split
   .rename_i sz xs tk
    split
    .rename_i k g
     split
     .rename_i g' sz' e' A
      refine sdc fun D=>?_
      obtain ⟨m,R⟩:=aS D
      obtain ⟨j,y⟩:=aS m
      obtain ⟨B,r⟩:=aS j
      obtain rfl:=aB B
      have V:=aB y
      have S:=aB r
      subst S
      subst V
      have q4:=aB R
      subst q4
      rintro ⟨H,G⟩
      have C:=bX A s_
      obtain ⟨K,w',M',ob',o,l,X,W,r5⟩:=hm.appendTail (P:=E.P) (ty:=ty) I N hz hz1 u d C O h H G
      refine ⟨K,w',M',ob',o,?_⟩
      rw [aQ C]
      exact ⟨X,l,W,r5⟩
     .exact trivial
    .refine sdc fun D=>?_
     have q:=aB D
     subst q
     rintro ⟨H,G⟩
     obtain ⟨_,Y⟩:=O.untok
     obtain rfl:v= .slice none 0 0:=Y
     obtain ⟨K,w',o,l⟩:=append_nil (P:=E.P) (ty:=ty) hm I N hz hz1 u d h H G
     exact nM hm L J o l
    .refine sdc fun D=>?_
     have q:=aB D
     subst q
     rintro ⟨H,G⟩
     obtain ⟨K,w',o,l⟩:=LP (P:=E.P) (ty:=ty) hm I N hz hz1 u d O h H G
     split
     .rcases l with ⟨rfl,rfl,rfl⟩ | ⟨_,l⟩
      .refine ⟨K,w',M,ob,o,Ext.refl _ _ _ _,hm,cJ.refl _ _,?_⟩
       rw [Bo]
       exact O.untok.1
      .exact EC hm o l trivial
     .intro hne
      rcases l with ⟨q,_⟩ | ⟨_,l⟩
      .exact absurd q hne
      .exact nM hm L J o l
    .exact trivial
   .rintro ⟨H,G⟩
    cases O
    obtain ⟨K,w',o,l⟩:=append_nil (P:=E.P) (ty:=ty) hm I N hz hz1 u d h H G
    exact nM hm L J o l
   .rename_i k g
    split
    .rename_i g' sz e' xs A
     refine sdc fun D=>?_
     obtain ⟨j,y⟩:=aS D
     obtain ⟨B,r⟩:=aS j
     obtain rfl:=aB B
     have S:=aB r
     subst S
     have V:=aB y
     subst V
     rintro ⟨H,G⟩
     have C:=bX A s_
     obtain ⟨Z,n,c,rfl,f⟩:=O.row_inv
     obtain ⟨K,w',ob',o,l,X,W,r5⟩:=hm.appendRow (P:=E.P) (ty:=ty) I N hz hz1 u d C f h H G
     refine ⟨K,w',M,ob',o,?_⟩
     rw [aQ C]
     exact ⟨X,l,W,r5⟩
    .exact trivial
   .rename_i k g lo len sz
    split
    .rename_i g' sz' e' xs A
     refine sdc fun D=>?_
     obtain ⟨m,R⟩:=aS D
     obtain ⟨j,y⟩:=aS m
     obtain ⟨B,r⟩:=aS j
     obtain rfl:=aB B
     have V:=aB y
     have S:=aB r
     subst S
     subst V
     have q4:=aB R
     subst q4
     intro hfit
     have C:=bX A s_
     obtain ⟨hs0,v0,e1,e2,e3,e4,U,_⟩:=hm.rowOf C
     have T:∀ {Z n c},at' ob k g=some (.slice Z n c)->n=xs.length:=fun {Z n c} f=>by
      rw [f] at e4
      cases e4
      rcases U.len with ⟨q,rfl⟩ | ⟨b,cap,q,_⟩<;>cases q<;>rfl
     obtain ⟨⟨news,F,s2⟩,hz',_⟩:=h
     cases O with
     | sub _ _ _ _ _ b n c f hl hn hc hmm=>
      have:=T f
      obtain ⟨w',o,l,X,W⟩:=hm.rowSplice (P:=E.P) (ys:=ys) (i:=lo+len) (news:=news) C f d o_ hz' F.newsLen F.one s2
      refine ⟨.slice (some ⟨b,lo*i.size,none⟩) (len+ys.length) (c-lo),w',M,ob,?_,?_⟩
      .have hst:(storeCells ((⟨b,lo*i.size,none⟩:Addr).add (len*i.size)) news).run E.P w= .ok () w':=by rw [bA,<-Bv];exact o
       have Q:len+ys.length<=c-lo:=o_
       rcases F.kind with ⟨e',p⟩ | p<;>simp [Cg,run_underlying I,run_underlying p,sizeOf,typeInfo,N,F.len,Q,F.cells,hst]
      .rw [aQ C]
       exact ⟨X,l,W,.sub _ _ _ _ _ b n c f hl o_ hc hmm⟩
     | sub0 _ _ _ _ Z a' n c f hl hc=>
      have:=T f
      have hy0:ys=[]:=Aq o_
      subst hy0
      have hn0:news=[]:=Aq (by rw [F.newsLen];simp)
      subst hn0
      refine ⟨.slice a' 0 0,w,M,ob,?_,?_⟩
      .have hc0:(Bz i.size 0 x).run E.P w= .ok #[] w:=F.cells
       have hl0:∀ w,(Builtin.lenOf x).run E.P w= .ok 0 w:=F.len
       rcases F.kind with ⟨e',p⟩ | p<;>cases a'<;>simp [Cg,run_underlying I,run_underlying p,sizeOf,typeInfo,N,hl0,hc0,storeCells]
      .rw [aQ C]
       have:obs.set k (.row g i.size e (xs.take (lo+0)++[]++xs.drop (lo+0+([]:List AVal).length)))=obs:=by
        rw [Ck,oI];exact fP C
       rw [this]
       exact ⟨Ext.refl _ _ _ _,hm,cJ.refl _ _,.sub0 _ _ _ _ Z a' n c f hl hc⟩
    .exact trivial
   .exact trivial
 .exact trivial
end
section
variable {P:Program} {E:Env} {M:Imm} {ob:Hs} {obs:List AObj} {w:World} {base:Nat}
theorem Y1 {α:Type} (l:List α) (n:Nat):l.drop (min n l.length)=l.drop n:=by
 by_cases h:n<=l.length
 .rw [Fh h]
 .rw [Lj o_,List.drop_length,Ae o_]
theorem aDB (hE:EnvOK E) (hm:Mem M ob obs w) {t t2 ty:TypeId} {v x:Value} {d a:AVal} (hv:Rep M ob v d) (hx:Rep M ob x a):
  PM E.P M ob w (Jr #[t,t2] ty #[v,x]) obs base (aAx E (aE obs) t t2 d a):=by
 unfold aAx
 split
 .rename_i e esz eb _ _ _ hT
  obtain ⟨⟨hu,i,z,hi,hsz,Z,hz,hzs,hz1⟩,_⟩:=(hE.tab t _ hT).kind
  subst hsz Z
  refine sdc fun hp=>?_
  have l:0<i.size:=Ca hp
  have C:∀ n:Nat,(n:Int)<=9223372036854775807->inR .i64 (n:Int):=fun n h=>⟨by simp only [cL];omega,by simp only [bI];omega⟩
  split
  .exact trivial
  .rename_i ys W
   obtain ⟨⟨Y,s1,_⟩,hz',u⟩:=L5 hE hm hx W l
   have run:∀ {B:Option Addr} {n c m:Nat} {news:List Value} {w':World},m=min ys.length n->(Bz i.size m x).run E.P w= .ok news.toArray w->(∀ a,B=some a->(storeCells a news).run E.P w= .ok () w')->(B=none->w'=w)->
     (Jr #[t,t2] ty #[.slice B n c,x]).run E.P w= .ok (.int .i64 (m:Nat)) w':=by
    intro B n c m news w' h1 h2 h3 h4
    subst h1
    have D:Nat.min ys.length n=min ys.length n:=rfl
    cases B with
    | none=>
     rw [h4 rfl]
     simp [Jr,run_underlying hu,s1.len,D,sizeOf,typeInfo,hi,h2,goInt]
    | some a=>
     simp [Jr,run_underlying hu,s1.len,D,sizeOf,typeInfo,hi,h2,h3 a rfl,goInt]
   have put:∀ {k g:Nat} {xs:List AVal} {b n A p m:Nat},obs[k]? =some (.row g i.size e xs)\/(∃ s,obs[k]? =some (.row g i.size s xs))->True:=fun _=>trivial
   clear put
   -- the elements that are written
   have key:∀ {k g:Nat} {s:TypeId} {xs:List AVal} {b n A p m:Nat},obs[k]? =some (.row g i.size s xs)->at' ob k g=some (.slice (some ⟨b,0,none⟩) n A)->m<=ys.length->p+m<=xs.length->
     ∃ (news:List Value) (w':World),(Bz i.size m x).run E.P w= .ok news.toArray w/\(storeCells ⟨b,p*i.size,none⟩ news).run E.P w= .ok () w'/\
      Mem M ob (obs.set k (.row g i.size s (xs.take p++ys.take m++xs.drop (p+m)))) w'/\Ext M ob obs w M ob (obs.set k (.row g i.size s (xs.take p++ys.take m++xs.drop (p+m)))) w'/\cJ ob obs ob (obs.set k (.row g i.size s (xs.take p++ys.take m++xs.drop (p+m)))):=by
    intro k g s xs b n A p m o f X V
    obtain ⟨news,n1,n2,I,G⟩:=u m X
    have j:(ys.take m).length=m:=by simp;omega
    obtain ⟨w',r1,r2,r3,r4⟩:=hm.rowSplice (P:=E.P) (ys:=ys.take m) (i:=p) (news:=news) o f l (by rw [j];exact V) (fun y hy=>hz' y (Cq hy)) (by rw [j];exact n2) I (fun q c hq=>by
     have F:=eS l hq
     rw [j] at F
     rw [lC l F] at hq
     exact G q c F hq)
    rw [j] at r2 r3 r4
    exact ⟨news,w',n1,r1,r2,r3,r4⟩
   split
   .rename_i k g
    split
    .rename_i g' sz s xs J
     refine sdc fun hg=>?_
     obtain ⟨K,H⟩:=aS hg
     obtain rfl:=aB K
     have R:=aB H
     subst R
     have o:=bX J s_
     obtain ⟨B,n,c,rfl,f⟩:=hv.row_inv
     obtain ⟨S,v0,e1,e2,e3,Q,r,_⟩:=hm.rowOf o
     rw [f] at Q
     cases Q
     rcases r.len with ⟨q,rfl⟩ | ⟨b,A,q,R,q3,q4⟩
     .cases q
      obtain ⟨news,n1,n2,_⟩:=u 0 (Bt _)
      refine ⟨.int .i64 ((0:Nat):Int),w,M,ob,run (m:=0) s_ n1 (fun a h=>by cases h) (fun _=>rfl),?_⟩
      rw [aQ o]
      have:obs.set k (.row g i.size s (ys.take ([]:List AVal).length++([]:List AVal).drop ys.length))=obs:=by simp only [Ck,Hl,List.drop_nil,Bo];exact fP o
      rw [this]
      exact ⟨Ext.refl _ _ _ _,hm,cJ.refl _ _,by simpa using Rep.int .i64 0 (C 0 d_)⟩
     .cases q
      obtain ⟨news,w',n1,n2,I,G,O⟩:=key (p:=0) (m:=min ys.length xs.length) o f (Nat.min_le_left _ _) (by rw [Bp];exact Jl _ _)
      rw [Hr] at n2
      refine ⟨.int .i64 ((min ys.length xs.length:Nat):Int),w',M,ob,run rfl n1 (fun a h=>by cases h;exact n2) (fun h=>by cases h),?_⟩
      rw [aQ o]
      have U:xs.take 0++ys.take (min ys.length xs.length)++xs.drop (0+min ys.length xs.length)=ys.take xs.length++xs.drop ys.length:=by
       rw [Hl,Jz,Bp,Y1]
       congr 1
       by_cases h:ys.length<=xs.length
       .rw [Fh h,Jk,Cf h]
       .rw [Lj o_]
      rw [U] at I G O
      have hmx:=gC
      have:min ys.length xs.length<=xs.length:=Jl _ _
      exact ⟨G,I,O,.int _ _ (C _ o_)⟩
    .exact trivial
   .rename_i k g lo len sz
    split
    .rename_i g' sz' s xs J
     refine sdc fun hg=>?_
     obtain ⟨N,hg3⟩:=aS hg
     obtain ⟨K,H⟩:=aS N
     obtain rfl:=aB K
     have q3:=aB hg3
     have R:=aB H
     subst R
     subst q3
     have o:=bX J s_
     obtain ⟨S,v0,e1,e2,e3,Q,r,_⟩:=hm.rowOf o
     have L:∀ {B n c},at' ob k g=some (.slice B n c)->n=xs.length:=fun {B n c} f=>by
      rw [f] at Q
      cases Q
      rcases r.len with ⟨q,rfl⟩ | ⟨b,A,q,_⟩<;>cases q<;>rfl
     cases hv with
     | sub _ _ _ _ _ b n c f hl hn hc hmm=>
      have:=L f
      obtain ⟨news,w',n1,n2,I,G,O⟩:=key (p:=lo) (m:=min ys.length len) o f (Nat.min_le_left _ _) (by have:=Jl ys.length len;omega)
      refine ⟨.int .i64 ((min ys.length len:Nat):Int),w',M,ob,run rfl n1 (fun a h=>by cases h;exact n2) (fun h=>by cases h),?_⟩
      rw [aQ o]
      have U:ys.take (min ys.length len)=ys.take len:=by
       by_cases h:ys.length<=len
       .rw [Fh h,Jk,Cf h]
       .rw [Lj o_]
      rw [U] at I G O
      have:min ys.length len<=len:=Jl _ _
      exact ⟨G,I,O,.int _ _ (C _ o_)⟩
     | sub0 _ _ _ _ B a' n c f hl hc=>
      have:=L f
      obtain ⟨news,n1,n2,_⟩:=u 0 (Bt _)
      have T:news=[]:=Aq (by rw [n2];simp)
      subst T
      refine ⟨.int .i64 ((0:Nat):Int),w,M,ob,run (m:=0) s_ n1 (fun a h=>rfl) (fun _=>rfl),?_⟩
      rw [aQ o]
      have:obs.set k (.row g i.size s (xs.take lo++ys.take 0++xs.drop (lo+min ys.length 0)))=obs:=by
       rw [Hl,Nat.min_zero,oI];exact fP o
      rw [this]
      exact ⟨Ext.refl _ _ _ _,hm,cJ.refl _ _,by simpa using Rep.int .i64 0 (C 0 d_)⟩
    .exact trivial
   .exact trivial
 .exact trivial
theorem uG {z:Value} {a:AVal} (j:Rep M [] z a) (m:a≠ .undef) {b:Nat} (hz:z.cells.size=b) (hs:0<b) {n:Nat} {cv:List Value} (hl:cv.length=n*b) (l:∀ q,q<n*b->cv[q]? =z.cells.toList[q % b]?):
  (∀ y∈Ah n a,y.cells.length=b)/\∀ (q:Nat) c,aG b (Ah n a) q=some c->∃ u,cv[q]? =some u/\Rep M [] u c:=by
 obtain ⟨h1,o⟩:=j.cells m
 have k:z.cells.toList.length=b:=by simpa using hz
 refine ⟨fun y g=>by rw [(Fs.1 g).2];omega,fun q c i=>?_⟩
 have e:=eS hs i
 rw [Gh] at e
 obtain ⟨y,g,f⟩:=fX i
 have:=Av g
 rw [(Fs.1 this).2] at f
 have h:=Gp q hs
 rw [l q e]
 have d:q % b<z.cells.toList.length:=o_
 exact ⟨_,Aa d,o _ _ c (Aa d) f⟩
theorem rA {z:Array Value} {n:Nat}:(Cc z n).toList.length=n*z.size/\∀ q,q<n*z.size->(Cc z n).toList[q]? =z.toList[q % z.size]?:=by
 refine ⟨by simp [Cc],fun q b=>?_⟩
 have hs:0<z.size:=by rcases Fp z.size with h | h;rw [h] at b;simp at b;exact h
 have a:=Gp q hs
 simp only [Cc,Hv,Bc,Array.toList_range]
 rw [Ch b]
 simp [a]
theorem CR {z:Array Value} {n:Nat} (hs:0<z.size):(madeCells z n).toList.length=n/\∀ q,q<n->(madeCells z n).toList[q]? =z.toList[q % z.size]?:=by
 refine ⟨by simp [madeCells],fun q b=>?_⟩
 have a:=Gp q hs
 simp only [madeCells,Hv,Bc,Array.toList_range]
 rw [Ch b]
 simp [a]
theorem RP {z:Array Value} {cv:List Value} {n:Nat} (h:z.toList.all (·.oneCell')=true) (hl:cv.length=n) (d:∀ q,q<n->∃ j:Nat,cv[q]? =z.toList[j]?):∀ u∈cv,u.oneCell'=true:=fun u c=>by
 obtain ⟨q,a⟩:=Cp c
 obtain ⟨j,b⟩:=d q (by rw [<-hl];exact (Ab.1 a).1)
 rw [a] at b
 exact Cj.1 h u (Av b.symm)
theorem xO {a:AVal} (h:AG a=true):a≠ .undef:=fun e=>by subst e;cases h
theorem aAz (hE:EnvOK E) (hm:Mem M ob obs w) {t ty:TypeId} {v:Value} {d:AVal} (l:Rep M ob v d):PM E.P M ob w (Iy #[t] ty #[v]) obs base (N2 E (aE obs) t d):=by
 unfold N2
 split
 .rename_i e esz eb _ _ _ hT
  obtain ⟨⟨D,i,z,hi,N,I,hz,u,hz1⟩,_⟩:=(hE.tab t _ hT).kind
  subst N I
  split
  .rename_i A V
   refine sdc fun hp=>?_
   obtain ⟨J,C⟩:=aS hp
   have j:0<i.size:=Ca J
   obtain ⟨i',z',y,W,s,hzs',G,x,hne⟩:=(hE.tab e A V).info
   rw [hi] at y
   cases y
   rw [hz] at s
   cases s
   split
   .rename_i k g lo len sz
    split
    .rename_i g' sz' e' xs S
     refine sdc fun hg=>?_
     obtain ⟨p,R⟩:=aS hg
     obtain ⟨T,K⟩:=aS p
     obtain rfl:=aB T
     have q3:=aB R
     have q2:=aB K
     subst q2
     subst q3
     have m:=bX S s_
     obtain ⟨hs0,v0,e1,e2,e3,e4,r,_⟩:=hm.rowOf m
     have H:∀ {U n c},at' ob k g=some (.slice U n c)->n=xs.length:=fun {U n c} f=>by
      rw [f] at e4
      cases e4
      rcases r.len with ⟨q,rfl⟩ | ⟨b,cap,q,_⟩<;>cases q<;>rfl
     have same:len=0->obs.set k (.row g i.size e' (xs.take lo++Ah len (pureV (fun _=>.dead) 4 A.zero)++xs.drop (lo+len)))=obs:=fun h=>by
      subst h
      rw [List.replicate_zero,oI];exact fP m
     cases l with
     | sub _ _ _ _ _ b n c f hl hn hc hmm=>
      have:=H f
      by_cases O:len=0
      .refine ⟨.tuple #[],w,M,ob,?_,?_⟩
       .subst O
        simp [Iy,run_underlying D]
       .rw [aQ m,same O]
        exact ⟨Ext.refl _ _ _ _,hm,cJ.refl _ _,.tup [] [] rfl fun i v a l=>by simp at l⟩
      .have F:=hm.pure0 G
       obtain ⟨B,Q⟩:=rA (z:=z.cells) (n:=len)
       rw [u] at B Q
       have o:pureV (fun _=>.dead) 4 A.zero≠ .undef:=xO C
       obtain ⟨r1,r2⟩:=uG (M:=M) F o u j B Q
       obtain ⟨w',s1,X,Y,Z⟩:=hm.rowSplice (P:=E.P) (ys:=Ah len (pureV (fun _=>.dead) 4 A.zero)) (i:=lo) (news:=(Cc z.cells len).toList) m f j q_ r1 (by simpa using B) (RP x B fun q hq=>⟨_,Q q hq⟩) r2
       rw [Gh] at X Y Z
       refine ⟨.tuple #[],w',M,ob,?_,?_⟩
       .have L:(zeroValue e).run E.P w= .ok z w:=by simp [zeroValue,typeInfo,hi,hz]
        cases len with
        | zero=>exact absurd rfl O
        | succ len=>simp [Iy,run_underlying D,L,s1]
       .rw [aQ m]
        exact ⟨Y,X,Z,.tup [] [] rfl fun i v a l=>by simp at l⟩
     | sub0 _ _ _ _ U a' n c f hl hc=>
      refine ⟨.tuple #[],w,M,ob,?_,?_⟩
      .cases a'<;>simp [Iy,run_underlying D]
      .rw [aQ m,same rfl]
       exact ⟨Ext.refl _ _ _ _,hm,cJ.refl _ _,.tup [] [] rfl fun i v a l=>by simp at l⟩
    .exact trivial
   .exact trivial
  .exact trivial
 .exact trivial
theorem aDy (hE:EnvOK E) (hm:Mem M ob obs w) (y:obs[base]? =some .dead) (s:ob[base]? =some []) {t:TypeId} {H G:Value} {n c:AVal} (X:Rep M ob H n) (V:Rep M ob G c) {hint:Nat}:
  PM E.P M ob w (Instr.makeSlice t H G) obs base (RD E hint base t n c):=by
 unfold RD
 split
 .rename_i e O eb _ _ _ k a k' b S
  obtain ⟨⟨N,i,z,I,A,v,hz,h,hz1⟩,_⟩:=(hE.tab t _ S).kind
  subst A v
  split
  .rename_i L F
   refine sdc fun hp=>?_
   obtain ⟨x,B⟩:=aS hp
   have d:0<i.size:=Ca x
   obtain ⟨i',z',l,J,o,K,r,j,Z⟩:=(hE.tab e L F).info
   rw [I] at l
   cases l
   rw [hz] at o
   cases o
   obtain ⟨rfl,_⟩:=X.int_inv
   obtain ⟨rfl,_⟩:=V.int_inv
   rintro m rfl ⟨rfl,T,Y⟩
   have Q:=gC
   have f:=run_make (P:=E.P) w t e i z N I hz k k' (m:Int) (m:Int) o_ (Dc _) T o_
   rw [Cl] at f
   have p:=hm.pure0 r
   obtain ⟨u,C⟩:=CR (z:=z.cells) (n:=m*i.size) (by rw [h];exact d)
   rw [h] at C
   obtain ⟨W,U⟩:=uG (M:=M) p (xO B) h d u C
   have g:=Grown.ofAlloc (M:=M) (w:=w) (e:=e) (xs:=Ah m (pureV (fun _=>.dead) 4 L.zero)) (cv:=(madeCells z.cells (m*i.size)).toList) d (by simpa using u) (RP j u fun q R=>⟨_,C q R⟩) W (by simpa using Y) U
   have D:(madeCells z.cells (m*i.size)).toList.toArray=madeCells z.cells (m*i.size):=by simp
   rw [D,Gh] at g
   exact nM (hint:=2) hm y s f g
  .exact trivial
 .exact trivial
theorem RG:∀ (new l:List AVal),new.length<=l.length->∃ r,N9 new l=some r
 | [],l,_=>⟨l,rfl⟩
 | _::_,[],h=>by simp at h
 | c::new,d::l,h=>by
  obtain ⟨r,a⟩:=RG new l (by simpa using h)
  exact ⟨c::r,by simp [N9,a]⟩
theorem E0:∀ (off:Nat) (new l:List AVal),off+new.length<=l.length->∃ r,lL off new l=some r
 | 0,new,l,h=>by obtain ⟨r,a⟩:=RG new l o_;exact ⟨r,by simpa [lL] using a⟩
 | n+1,new,[],h=>by simp at h
 | n+1,new,c::l,h=>by
  obtain ⟨r,a⟩:=E0 n new l (by simp at h;omega)
  exact ⟨c::r,by simp [lL,a]⟩
def JC (og:Nat->AObj) (l:List (Nat×AVal)):List (Nat×AVal):=l.map fun p=>(p.1,pureV og 4 p.2)
theorem G7 (og:Nat->AObj) (d:Nat):∀ {b:List (Nat×AVal)} {n:Nat} {xs:List AVal} {base:List AVal},BS og d n b=some xs->(n+b.length)*d<=base.length->
  ∃ cs',BR (fun i=>some (i*d,d)) base (JC og b)=some cs'/\cs'.length=base.length/\(∀ o,o<n*d->cs'[o]? =base[o]?)/\xs.length=b.length/\
   (∀ x∈xs,x.cells.length=d/\mY x.cells=true)/\∀ (i j:Nat) x c,xs[i]? =some x->x.cells[j]? =some c->cs'[(n+i)*d+j]? =some c:=by
 intro b
 induction b with
 | nil=>intro n xs base h hl;cases h;exact ⟨base,rfl,rfl,fun _ _=>rfl,rfl,fun x e=>by simp at e,fun i j x c e=>by simp at e⟩
 | cons p b D=>
  intro n xs base h hl
  obtain ⟨i,I⟩:=p
  simp only [BS] at h
  obtain ⟨v,u⟩:∃ v,pureV og 4 I=v:=⟨_,rfl⟩
  rw [u] at h
  obtain ⟨y,r⟩:=dW h
  simp only [Af] at y
  obtain ⟨⟨G,w⟩,A⟩:=y
  have F:=aB G
  subst F
  have hz:=aB w
  rw [tQ] at hz
  cases k:BS og d (i+1) b with
  | none=>simp [k] at r
  | some l=>
   simp only [k,Dr] at r
   subst r
   have g:(i+1)*d<=base.length:=by
    refine Cs (Bq _ ?_) hl
    simp
   rw [Bv,Gb] at g
   obtain ⟨C,f⟩:=E0 (i*d) v.cells base o_
   obtain ⟨N,z,s⟩:=iQ f
   obtain ⟨cs',t,H,B,L,J,K⟩:=D (base:=C) k (by rw [z];refine Cs (Nat.le_of_eq ?_) hl;simp;congr 1;omega)
   have q:AG v=true:=by cases v<;>first | rfl | (simp [AVal.cells,mY,AW.one] at A)
   refine ⟨cs',by
    unfold JC at t⊢
    simp only [Bk,BR,u,q,w,Bool.and_self,cond_true,f,t],H.trans z,fun o O=>?_,by simp [L],fun x e=>?_,fun a j x c e m=>?_⟩
   .rw [B o (by rw [Bv];omega),s o,if_neg o_]
   .rcases Ao.1 e with rfl | e
    .exact ⟨hz,A⟩
    .exact J x e
   .cases a with
    | zero=>
     simp at e
     subst e
     have M:j<d:=by rw [<-hz];exact (Ab.1 m).1
     rw [Df,B _ (by rw [Bv];omega),s,if_pos o_,Gv]
     exact m
    | succ a=>
     have:=K a j x c (by simpa using e) m
     rw [show i+(a+1)=i+1+a from by omega]
     exact this
theorem aCh (l:List (Nat×AVal)):X6 l=l.length:=by induction l with
 | nil=>rfl
 | cons a r b=>simp [X6,b]
theorem CW (hE:EnvOK E) (hm:Mem M ob obs w) (R:obs[base]? =some .dead) (I:ob[base]? =some []) {hint:Nat} {t:TypeId} {len:Nat} {h:List (Nat×AVal)} {vparts:Array (Nat×Value)} (hl:CE M ob vparts.toList h):
  PM E.P M ob w (Jm t len vparts) obs base (kZ E hint base (aE obs) t len h):=by
 unfold kZ
 split
 .rename_i e b eb _ _ _ hT
  obtain ⟨⟨hu,ie,z,Z,hs,hb,hz,hzs,_⟩,_⟩:=(hE.tab t _ hT).kind
  refine sdc fun Y=>?_
  simp only [Af] at Y
  obtain ⟨⟨g1,g2⟩,g3⟩:=Y
  have s:=aB g1
  rw [aCh] at s
  have S:len*b<=1000:=Ca g2
  have k:1<=b:=Ca g3
  split
  .rename_i xs W
   let f:Array Value:=if len*b=0 then #[] else (Jw (len*b)).map (z.cells[· % z.cells.size]!)
   have A:f.size=len*b:=by
    show (if len*b=0 then (#[]:Array Value) else (Jw (len*b)).map (z.cells[· % z.cells.size]!)).size=_
    split<;>simp [*]
   obtain ⟨cs',e1,e2,_,e4,T,e6⟩:=G7 (aE obs) b (base:=Ah (len*b) .undef) W (by simp [s])
   have K:cD M [] f.toList (Ah (len*b) AVal.undef):=⟨by simp [A],fun i v a _ ha=>by
    have:a= .undef:=(Fs.1 (Av ha)).2
    subst this
    exact .undef _⟩
   have N:CE M [] vparts.toList (JC (aE obs) h):=⟨by unfold JC;rw [Cw];exact hl.1,fun i p q hp Q=>by
    unfold JC at Q
    rw [Bc] at Q
    obtain ⟨q',H,rfl⟩:=Cb.1 Q
    obtain ⟨a1,a2⟩:=hl.2 i p q' hp H
    exact ⟨a1,hm.pureV 4 _ _ a2⟩⟩
   obtain ⟨d,f1,U⟩:=rY (place:=fun i=>some (i*b,b)) (fun i p hp=>hp) e1 K N
   have o:(Jm t len vparts).run E.P w= .ok (.slice (some ⟨w.heap.size,0,Mt⟩) len len) (w.alloc (.cells d e)):=by
    have V:(E.P.info? e).map (·.size)=some b:=by simp [Z,hs]
    unfold Jm
    simp only [Au,run_underlying hu,Ai,run_sizeOf V]
    rw [if_neg o_]
    have L:(zeroValue e).run E.P w= .ok z w:=by simp [zeroValue,typeInfo,Z,hz]
    by_cases D:len*b=0
    .have r:(Jw (len*b)).map ((#[]:Array Value)[· % (#[]:Array Value).size]!)=f:=by
      show _=(if len*b=0 then (#[]:Array Value) else (Jw (len*b)).map (z.cells[· % z.cells.size]!))
      rw [if_pos D,D]
      simp
     rw [if_pos D]
     simp only [Au,Bi,Ai]
     rw [r,f1]
     simp only [newRow,Au,run_newObj_alloc,Ai,Bi]
    .have r:(Jw (len*b)).map (z.cells[· % z.cells.size]!)=f:=by
      show _=(if len*b=0 then (#[]:Array Value) else (Jw (len*b)).map (z.cells[· % z.cells.size]!))
      rw [if_neg D]
     rw [if_neg D]
     simp only [Au,Bi,Ai,L]
     rw [r,f1]
     simp only [newRow,Au,run_newObj_alloc,Ai,Bi]
   have l:xs.length=len:=by rw [e4,s]
   have B:d.toList.length=xs.length*b:=by rw [U.1,e2];simp;rw [l]
   have m:∀ (j:Nat) c,aG b xs j=some c->cs'[j]? =some c/\AW.one c=true:=by
    intro j c C
    obtain ⟨y,hy,F⟩:=fX C
    have:=e6 _ _ y c hy F
    rw [Bp,Dn,Ig] at this
    obtain ⟨_,h1⟩:=T y (Av hy)
    exact ⟨this,jV h1 _ c F⟩
   have G:∀ u∈d.toList,u.oneCell'=true:=fun u O=>by
    obtain ⟨j,hj⟩:=Cp O
    have n:j<xs.length*b:=by rw [<-B];exact (Ab.1 hj).1
    obtain ⟨c,C⟩:=vI k (fun x J=>(T x J).1) n
    obtain ⟨h1,h2⟩:=m j c C
    exact (U.2 j u c hj h1).one h2
   have g:=Grown.ofAlloc (M:=M) (w:=w) (e:=e) (xs:=xs) (cv:=d.toList) k B G (fun x J=>(T x J).1) (by rw [l];unfold maxLen;have:len*1<=len*b:=Nat.mul_le_mul_left _ k;omega) (fun q c C=>by
    obtain ⟨h1,_⟩:=m q c C
    have n:q<d.toList.length:=by rw [B];exact eS k C
    exact ⟨_,Aa n,U.2 q _ c (Aa n) h1⟩)
   have X:d.toList.toArray=d:=by simp
   rw [X,l] at g
   split
   .exact EC hm o g ⟨_,len,rfl⟩
   .exact nM hm R I o g
  .exact trivial
 .exact trivial
theorem JT (hm:Mem M ob obs w) (c:obs[base]? =some .dead) (e:ob[base]? =some []) {t:TypeId} {v:Value} {a:AVal} (h:Rep M ob v a) (h1:mY a.cells=true):
  PM P M ob w (do Pure.pure (.pointer (some (<-newVar t v))):Sem Value) obs base (.born (.cells t a.cells) (.ref base 0)):=by
 obtain ⟨hl,b,k⟩:=h.cells_one h1
 obtain ⟨g,f,i,j⟩:=hm.bornCells c e t hl b k
 have d:v.cells.toList.toArray=v.cells:=by simp
 rw [d] at g f
 refine ⟨.pointer (some ⟨w.heap.size,0,Mt⟩),w.alloc (.cells v.cells t),M,ob.set base [.pointer (some ⟨w.heap.size,0,Mt⟩)],?_,?_⟩
 .simp only [newVar,newRow,Au,run_newObj_alloc,Ai,Bi]
 .rw [aQ c]
  exact ⟨f,g,i,j⟩
end
section
variable {P:Program} {E:Env} {M:Imm} {ob:Hs} {obs:List AObj} {w:World} {base:Nat}
def aEf (P:Program) (k:Nat) (a:Bool) (n:Nat):Prop:=(a=false/\n=1/\P.underlying k=some (.int .i64))\/(a=true/\(P.underlying k).isSome=true/\HS P k n)
theorem D4:∀ {cs:List AVal} {l:List Int},J8 cs=some l->cs=l.map (AVal.int .i64)
 | [],l,h=>by cases h;rfl
 | c::r,l,h=>by
  cases c<;>first | (simp [J8] at h;done) | skip
  rename_i k n
  cases k<;>first | (simp [J8] at h;done) | skip
  cases a:J8 r with
  | none=>simp [J8,a] at h
  | some q=>
   simp only [J8,a,Dr] at h
   subst h
   simp [D4 a]
theorem uS (hE:EnvOK E) {k:Nat} {e:Bool} {a:AVal} {l:List Int} {v:Value} (h:D3 E k e a=some l) (m:Rep M ob v a):v=fA e l/\aEf E.P k e l.length:=by
 cases e with
 | false=>
  simp only [D3] at h
  split at h
  .rename_i g
   split at h
   .cases h
    have o:=(hE.tab _ _ g).kind.1
    exact ⟨m.int_inv.1,.inl ⟨rfl,rfl,o⟩⟩
   .cases h
  .cases h
 | true=>
  simp only [D3] at h
  split at h
  .rename_i s g
   have j:=(hE.tab _ _ g).kind.isAgg.1
   split at h
   .rename_i cs
    split at h
    .rename_i t c
     obtain ⟨h1,r⟩:=dW h
     cases r
     obtain ⟨h3,q⟩:=aS h1
     have f:=D4 c
     subst f
     obtain ⟨vs,rfl,hl,p⟩:=m.agg_inv
     have d:l.length=xB E.fl k:=by
      have:=aB q
      rw [tQ] at this
      simpa using this
     refine ⟨?_,.inr ⟨rfl,j,?_⟩⟩
     .simp only [fA,if_true]
      congr 2
      refine Fa fun i=>?_
      rw [Bc]
      cases c:l[i]? with
      | none=>
       have:=List.getElem?_eq_none_iff.1 c
       rw [Bj (by rw [hl];simpa using this)]
       rfl
      | some n=>
       have b:i<vs.length:=by
        have:=(Ab.1 c).1
        rw [hl];simpa using this
       have:=p i _ (.int .i64 n) (Aa b) (by simp [c])
       rw [Aa b,this.int_inv.1]
       rfl
     .rw [d]
      exact (hE.fl k (by simpa [Fe] using h3)).2
    .cases h
   .cases h
  .cases h
theorem nD:∀ {es:List (List Int×AVal)} {key:List Int},(∀ y∈es,y.1≠key)->bO es key=none/\(∀ v,jW es key v=es++[(key,v)])/\CQ es key=es
 | [],key,_=>⟨rfl,fun _=>rfl,rfl⟩
 | (k,x)::r,key,h=>by
  obtain ⟨h1,b,h3⟩:=nD (es:=r) (key:=key) fun y c=>h y (by simp [c])
  have a:¬ k=key:=h (k,x) s_
  exact ⟨by simp [bO,a,h1],fun v=>by simp [jW,a,b],by simp [CQ,a,h3]⟩
theorem tD:∀ {es:List (List Int×AVal)} {key:List Int} {j:Nat} {y:List Int×AVal},es[j]? =some y->y.1=key->(∀ (i:Nat) b,i<j->es[i]? =some b->b.1≠key)->
  bO es key=some y.2/\(∀ v,jW es key v=es.set j (key,v))/\CQ es key=es.eraseIdx j
 | [],key,j,y,h,_,_=>by simp at h
 | (k,x)::r,key,0,y,h,a,_=>by
  simp only [Li,Dr] at h
  subst h
  have a:k=key:=a
  exact ⟨by simp [bO,a],fun v=>by simp [jW,a],by simp [CQ,a]⟩
 | (k,x)::r,key,j+1,y,h,a,hb=>by
  obtain ⟨h1,e,h3⟩:=tD (es:=r) (key:=key) (j:=j) (y:=y) (by simpa using h) a fun i b f c=>hb (i+1) b o_ (by simpa using c)
  have d:¬ k=key:=hb 0 (k,x) o_ rfl
  exact ⟨by simp [bO,d,h1],fun v=>by simp [jW,d,e],by simp [CQ,d,h3]⟩
def C1 (b:Bool) (n:Nat) (a:List MapEntry) (es:List (List Int×AVal)):Prop:=a.length=es.length/\∀ (i:Nat) x y,a[i]? =some x->es[i]? =some y->x.key=fA b y.1/\y.1.length=n
theorem C1.tail {d:Bool} {n:Nat} {x:MapEntry} {y:List Int×AVal} {c:List MapEntry} {es:List (List Int×AVal)} (h:C1 d n (x::c) (y::es)):C1 d n c es:=
 ⟨by simpa using h.1,fun i a b f e=>h.2 (i+1) a b (by simpa using f) (by simpa using e)⟩
theorem C1.cons {a:Bool} {n:Nat} {x:MapEntry} {b:List MapEntry} {es:List (List Int×AVal)} (h:C1 a n (x::b) es):∃ y r,es=y::r/\x.key=fA a y.1/\y.1.length=n/\C1 a n b r:=by
 cases es with
 | nil=>have:=h.1;simp at this
 | cons y r=>exact ⟨y,r,rfl,(h.2 0 x y rfl rfl).1,(h.2 0 x y rfl rfl).2,h.tail⟩
def wR (key:List Int) (a:List MapEntry) (es:List (List Int×AVal)) (o:Nat) (r:Option (Nat×Value)):Prop:=
 (r=none/\∀ y∈es,y.1≠key)\/∃ j x y,r=some (o+j,x.val)/\a[j]? =some x/\es[j]? =some y/\y.1=key/\∀ (i:Nat) y',i<j->es[i]? =some y'->y'.1≠key
theorem wR.there {key:List Int} {x:MapEntry} {y:List Int×AVal} {a:List MapEntry} {es:List (List Int×AVal)} {o:Nat} (h:y.1=key):wR key (x::a) (y::es) o (some (o,x.val)):=
 .inr ⟨0,x,y,rfl,rfl,rfl,h,fun i _ b=>by omega⟩
theorem wR.on {key:List Int} {x:MapEntry} {y:List Int×AVal} {c:List MapEntry} {es:List (List Int×AVal)} {o:Nat} {r:Option (Nat×Value)} (a:y.1≠key) (h:wR key c es (o+1) r):wR key (x::c) (y::es) o r:=by
 rcases h with ⟨h1,b⟩ | ⟨j,x',f,h1,b,h3,e,d⟩
 .exact .inl ⟨h1,fun z hz=>by
   rcases Ao.1 hz with rfl | hz
   .exact a
   .exact b z hz⟩
 .refine .inr ⟨j+1,x',f,by rw [h1];congr 2;omega,by simpa using b,by simpa using h3,e,fun i z g hz=>?_⟩
  cases i with
  | zero=>simp at hz;subst hz;exact a
  | succ i=>exact d i z o_ (by simpa using hz)
theorem wI (a:Int):∀ (d:List MapEntry) (es:List (List Int×AVal)) (o:Nat),C1 false 1 d es->∃ r,Le (.int .i64) (.int .i64 a) d o=some r/\wR [a] d es o r
 | [],es,o,h=>⟨none,rfl,.inl ⟨rfl,fun y g=>by
   have:es=[]:=Aq (by have:=h.1;simpa using this.symm)
   rw [this] at g;cases g⟩⟩
 | x::d,es,o,h=>by
  obtain ⟨y,r,rfl,h1,f,h3⟩:=h.cons
  obtain ⟨k,v⟩:=y
  have f:k.length=1:=f
  match k,f with
  | [b],_=>
   have j:x.key= .int .i64 b:=h1
   simp only [Le,j,Instr.sameNow,if_true]
   by_cases c:a=b
   .subst c
    simp only [beq_self_eq_true]
    exact ⟨_,rfl,.there rfl⟩
   .have:(a==b)=false:=by simpa using c
    rw [this]
    obtain ⟨l,i,m⟩:=wI a d r (o+1) h3
    exact ⟨l,i,.on (fun e=>c (by cases e;rfl)) m⟩
theorem nV {k:Nat} {n:Nat} (g:HS P k n) {key:List Int} (d:key.length=n):∀ (b:List MapEntry) (es:List (List Int×AVal)) (o:Nat),C1 true n b es->∃ r,(Hx k (fA true key) b o).run P w= .ok r w/\wR key b es o r
 | [],es,o,h=>⟨none,by simp [Hx],.inl ⟨rfl,fun y f=>by
   have:es=[]:=Aq (by have:=h.1;simpa using this.symm)
   rw [this] at f;cases f⟩⟩
 | x::b,es,o,h=>by
  obtain ⟨y,r,rfl,h1,m,h3⟩:=h.cons
  have a:=(g w key y.1 d m).1
  rw [<-h1] at a
  by_cases c:key=y.1
  .rw [decide_eq_true c] at a
   exact ⟨_,by simp [Hx,a],.there c.symm⟩
  .rw [decide_eq_false c] at a
   obtain ⟨j,i,l⟩:=nV g d b r (o+1) h3
   exact ⟨j,by simp [Hx,a,i],.on (fun e=>c e.symm) l⟩
theorem oL {k:Nat} {i:Bool} {n:Nat} (l:aEf P k i n) {key:List Int} (j:key.length=n) {b:List MapEntry} {es:List (List Int×AVal)} (h:C1 i n b es):
  ∃ r,(Lf k (fA i key) b).run P w= .ok r w/\wR key b es 0 r:=by
 rcases l with ⟨rfl,rfl,c⟩ | ⟨rfl,f,m⟩
 .match key,j with
  | [a],_=>
   obtain ⟨r,e,g⟩:=wI a b es 0 h
   exact ⟨r,by simp [Lf,run_underlying c,fA,e],g⟩
 .obtain ⟨r,e,g⟩:=nV (w:=w) m j b es 0 h
  cases c:P.underlying k with
  | none=>rw [c] at f;cases f
  | some d=>
   cases b with
   | nil=>simp [Hx] at e;subst e;exact ⟨none,by simp [Lf,run_underlying c,Le],g⟩
   | cons x b=>
    obtain ⟨y,o,rfl,h1,p,h3⟩:=h.cons
    refine ⟨r,?_,g⟩
    have hs:Instr.sameNow d (fA true key) x.key=none:=by rw [h1];simp only [fA,if_true];cases d<;>rfl
    simp only [Lf,Au,run_underlying c,Ai,Le,hs]
    exact e
theorem FO {k:Nat} {a:Bool} {n:Nat} (g:aEf P k a n) {key:List Int} (b:key.length=n) (c:Bool):(Gw c 10000 k (fA a key)).run P w= .ok () w:=by
 rcases g with ⟨rfl,rfl,d⟩ | ⟨rfl,f,e⟩
 .rw [show (10000:Nat)=9999+1 from rfl,Gw]
  simp only [Au,run_underlying d,Ai,fA,Cv,if_false,Bi]
 .exact (e w key key b b).2 c
theorem Mem.mpOf (hm:Mem M ob obs w) {j:Nat} {c:Bool} {es:List (List Int×AVal)} (l:aE obs j= .mp c es) {v:Value} (h:Rep M ob v (.mref j)):
  ∃ b,v= .map (some b)/\ob[j]? =some [.map (some b)]/\obs[j]? =some (.mp c es)/\(∀ o,NoM M b o)/\U6 M w b c es:=by
 cases h with
 | mref _ b a=>
  have g:=bX l s_
  obtain ⟨hs,f,d,e,i,k⟩:=hm.obj j _ g
  have:d=b:=by rw [bW f,e] at a;simpa using a
  subst this
  exact ⟨d,rfl,by rw [f,e],g,i,k⟩
theorem U6.enOK {b:Nat} {a:Bool} {es:List (List Int×AVal)} {n:Nat} {c:List MapEntry} (hl:c.length=es.length) (h:∀ (i:Nat) x y,c[i]? =some x->es[i]? =some y->x.key=fA a y.1/\(a=false->y.1.length=1)/\Rep M [] x.val y.2)
  (g:(a=false/\n=1)\/(a=true/\∀ p∈es,p.1.length=n)):C1 a n c es:=
 ⟨hl,fun i x y f e=>⟨(h i x y f e).1,by
  rcases g with ⟨h1,d⟩ | ⟨_,d⟩
  .rw [d];exact (h i x y f e).2.1 h1
  .exact d y (Av e)⟩⟩
theorem FL {VS:AVal->List AObj->Prop} {CS:Fn->List AVal->Prop} {PS:AVal->Prop} {a:Bool} {es:List (List Int×AVal)} {key:List Int} {r:OR} {k:Nat} (c:aEf P k a key.length)
  (h:(a=false/\key.length=1)\/(a=true/\∀ p∈es,p.1.length=key.length)->Sd VS CS PS obs base r):Sd VS CS PS obs base (xQ a es key r):=by
 rcases c with ⟨rfl,b,_⟩ | ⟨rfl,_⟩
 .exact h (.inl ⟨rfl,b⟩)
 .exact fun hp=>h (.inr ⟨rfl,hp⟩)
theorem Rep.pairB {v:Value} {a:AVal} (h:Rep M ob v a) (b:Bool):Rep M ob (.tuple #[v,.bool b]) (.tup [a,.bool b]):=by
 refine .tup [v,.bool b] _ rfl fun i q c d e=>?_
 rcases i with _ | _ | i
 .simp at d e;subst d e;exact h
 .simp at d e;subst d e;exact .bool b
 .simp at d
theorem UL (hE:EnvOK E) (hm:Mem M ob obs w) {t:Nat} {F kv:Value} {m k:AVal} (s:Rep M ob F m) (v:Rep M ob kv k) (ok:Bool):
  PS0 E.P M ob w (Ln t F kv ok) obs base (G4 E (aE obs) t m k ok):=by
 unfold G4
 split
 .rename_i R e _ _ _ j J
  have l:=(hE.tab _ _ J).kind.1
  split
  .rename_i S O es B A
   split
   .rename_i key n
    obtain ⟨rfl,d⟩:=uS hE n v
    refine FL d fun L=>?_
    obtain ⟨b,rfl,_,_,_,Q,o,D,hl,h,_⟩:=hm.mpOf A s
    obtain ⟨r,G,C⟩:=oL (w:=w) d rfl (U6.enOK (b:=b) hl h L)
    have a:=fun N=>FO (w:=w) d rfl N
    obtain ⟨i,z,I,_,hz,_,f,_⟩:=(hE.tab _ _ B).info
    have u:(zeroValue e).run E.P w= .ok z w:=by simp [zeroValue,typeInfo,I,hz]
    rcases C with ⟨rfl,C⟩ | ⟨q,x,y,rfl,K,H,p,g⟩
    .rw [Sd.eq_def]
     simp only
     rw [(nD C).1]
     refine ⟨rfl,if ok then .tuple #[z,.bool false] else z,?_,?_⟩
     .simp only [Ln,Au,run_underlying l,Ai,MapKept.run_getObj_map D,a,G,u,Bi]
     .cases ok with
      | true=>exact (iJ f).pairB false
      | false=>exact iJ f
    .rw [Sd.eq_def]
     simp only
     rw [(tD H p g).1]
     have c:=(h q x y K H).2.2.pure (ob:=ob)
     refine ⟨rfl,if ok then .tuple #[x.val,.bool true] else x.val,?_,?_⟩
     .simp only [Ln,Au,run_underlying l,Ai,MapKept.run_getObj_map D,a,G,Bi]
     .cases ok with
      | true=>exact c.pairB true
      | false=>exact c
   .exact trivial
  .exact trivial
 .exact trivial
abbrev FK (w:World) (b:Nat) (o:Obj):World:={w with heap:=w.heap.setIfInBounds b o}
theorem SA {b:Nat} {o a:Obj} (h:w.heap[b]? =some a):(FK w b o).heap[b]? =some o:=by
 have:=eY h
 show (w.heap.setIfInBounds b o)[b]? =some o
 simp [this]
theorem yV {b c:Nat} {o:Obj} (h:c≠b):(FK w b o).heap[c]? =w.heap[c]?:=by
 show (w.heap.setIfInBounds b o)[c]? =w.heap[c]?
 rw [Di (fun e=>h e.symm)]
theorem Mem.mpTurn (h:Mem M ob obs w) {j b f clock':Nat} {d:Bool} {es es':List (List Int×AVal)} {z:Array MapEntry} {en':List MapEntry} (A:obs[j]? =some (.mp d es)) (p:ob[j]? =some [.map (some b)]) (m:∀ o,NoM M b o) (q:w.heap[b]? =some (.map z f))
  (hl:en'.length=es'.length) (v:∀ (i:Nat) x y,en'[i]? =some x->es'[i]? =some y->x.key=fA d y.1/\(d=false->y.1.length=1)/\Rep M [] x.val y.2)
  (h1:∀ (i:Nat) x,en'[i]? =some x->x.born<clock') (F:∀ (i j:Nat) x y,en'[i]? =some x->en'[j]? =some y->x.born=y.born->i=j):
  Mem M ob (obs.set j (.mp d es')) (FK w b (.map en'.toArray clock'))/\Ext M ob obs w M ob (obs.set j (.mp d es')) (FK w b (.map en'.toArray clock'))/\cJ ob obs ob (obs.set j (.mp d es')):=by
 have k:=fP (l:=ob) p
 have:=h.turn (M':=M) (w':=FK w b (.map en'.toArray clock')) (x':=.mp d es') (hs':=[.map (some b)]) A p (Cz _) (fun e=>by cases e) (fun _ _ _ h=>h) (fun _ _ _ h=>.inl h) (fun c o y r=>by
   obtain ⟨u,s,D,B⟩:=h.imm c o y r
   have n:c≠b:=fun e=>by subst e;exact m o y r
   exact ⟨u,(Co (w:=w) (a:=⟨c,o,none⟩) (yV n)).trans s,D,B⟩)
  (fun c _ C=>yV fun e=>C ⟨rfl,by subst e;exact dI.2 rfl⟩) rfl rfl rfl s_ (fun t=>⟨b,rfl,m,en',clock',SA q,hl,v,h1,F⟩)
  (fun _ c g=>⟨.inl ⟨rfl,g⟩,by
   have:b=c:=dI.1 g
   subst this
   have:=eY q
   simpa using this⟩)
 rw [k] at this
 exact this
theorem rC:∀ (n:Nat) (l:List Int),(((l.map (Ji .i64)).zip (l.map (Ji .i64))).all fun (x,y)=>Iz n x y)=true
 | n,[]=>rfl
 | n,a::r=>by
  simp only [Bk,List.zip_cons_cons,Gm,rC n r,Hc]
  cases n<;>simp [Iz]
theorem FN (n:Nat) (a:Bool) (l:List Int):Iz (n+1) (fA a l) (fA a l)=true:=by
 cases a with
 | false=>simp [fA,Iz]
 | true=>
  simp only [fA,if_true,Iz,beq_self_eq_true,Cd]
  exact rC n l
theorem aCG {a:List MapEntry} {q:Nat} {x:MapEntry} (d:a[q]? =some x) (f:MapEntry->MapEntry):a.toArray.modify q f=(a.set q (f x)).toArray:=by
 apply Cy
 simp only [Array.toList_modify]
 refine Fa fun i=>?_
 rw [List.getElem?_modify,Ez]
 have b:=(Ab.1 d).1
 by_cases e:q=i
 .subst e
  have c:a[q]=x:=(Ab.1 d).2
  simp [b,c]
 .simp [e]
theorem IQ:Rep M ob (.tuple #[]) (.tup []):=.tup [] [] rfl fun i v a h=>by simp at h
theorem aAs (hE:EnvOK E) (hm:Mem M ob obs w) {t:Nat} {mv kv D:Value} {m k v:AVal} (hmv:Rep M ob mv m) (hkv:Rep M ob kv k) (hvv:Rep M ob D v):
  Sd (VU E.P M ob obs w (Ka t mv kv D)) (fun _ _=>False) (fun _=>False) obs base (NZ E (aE obs) t m k v):=by
 unfold NZ
 split
 .rename_i kt _ _ _ _ j hT
  have T:=(hE.tab _ _ hT).kind.1
  split
  .rename_i s es hog
   split
   .rename_i key W
    obtain ⟨rfl,J⟩:=uS hE W hkv
    have A:=hm.pureV 4 D v hvv
    generalize pureV (aE obs) 4 v=v' at A
    refine sdc fun _=>FL J fun hn=>?_
    have X:s=false->key.length=1:=fun e=>by
     rcases hn with ⟨_,h⟩ | ⟨h,_⟩
     .exact h
     .rw [e] at h;cases h
    obtain ⟨b,rfl,R,p,S,l,f,K,hl,F,hst,I⟩:=hm.mpOf hog hmv
    obtain ⟨r,hr,hf⟩:=oL (w:=w) J rfl (U6.enOK (b:=b) hl F hn)
    have H:=fun em=>FO (w:=w) J rfl em
    rcases hf with ⟨rfl,hf⟩ | ⟨q,x,y,rfl,L,hy,O,N⟩
    .have C:=(nD hf).2.1 v'
     have:=hm.mpTurn (es':=es++[(key,v')]) (en':=l++[⟨fA s key,D,f⟩]) (clock':=f+1) p R S K (by simp [hl]) (fun i a c d u=>by
       by_cases g:i<l.length
       .rw [Ag g] at d
        rw [Ag o_] at u
        exact F i a c d u
       .rw [Ak o_] at d
        rw [Ak o_] at u
        have z:i-l.length=0:=by
                  have:=(Ab.1 d).1
                  simp at this;omega
        rw [z] at d
        rw [<-hl,z] at u
        simp at d u
        subst d u
        exact ⟨rfl,X,A⟩) (fun i a d=>by
       by_cases g:i<l.length
       .rw [Ag g] at d
        have:=hst i a d
        omega
       .rw [Ak o_] at d
        have z:i-l.length=0:=by
                  have:=(Ab.1 d).1
                  simp at this;omega
        rw [z] at d
        simp at d
        subst d
        show f<f+1
        omega) (fun i Q a a' d n B=>by
       have o:∀ {i:Nat} {a:MapEntry},¬ i<l.length->(l++[⟨fA s key,D,f⟩])[i]? =some a->i=l.length/\a.born=f:=fun {i a} g d=>by
        rw [Ak o_] at d
        have z:i-l.length=0:=by
                  have:=(Ab.1 d).1
                  simp at this;omega
        rw [z] at d
        simp at d
        subst d
        exact ⟨by omega,rfl⟩
       by_cases g:i<l.length<;>by_cases G:Q<l.length
       .rw [Ag g] at d
        rw [Ag G] at n
        exact I i Q a a' d n B
       .rw [Ag g] at d
        have:=hst i a d
        have:=(o G n).2
        omega
       .rw [Ag G] at n
        have:=hst Q a' n
        have:=(o g d).2
        omega
       .have:=(o g d).1
        have:=(o G n).1
        omega)
     refine ⟨rfl,FK w b (.map (l++[(⟨fA s key,D,f⟩:MapEntry)]).toArray (f+1)),M,ob,?_,?_⟩
     .simp only [Ka,Au,run_underlying T,Ai,MapKept.run_getObj_map K,H,hr,MapKept.run_setObj_map _ K]
      simp
     .rw [C,aQ p]
      exact ⟨this.2.1,this.1,this.2.2⟩
    .have C:=(tD hy O N).2.1 v'
     have hxk:=(F q x y L hy).1
     have hql:=(Ab.1 L).1
     have:=hm.mpTurn (es':=es.set q (key,v')) (en':=l.set q ⟨fA s key,D,x.born⟩) (clock':=f) p R S K (by simp [hl]) (fun i a c d u=>by
       rw [Ez] at d u
       by_cases g:q=i
       .rw [if_pos g] at d u
        subst g
        rw [if_pos hql] at d
        rw [if_pos o_] at u
        cases d;cases u
        exact ⟨rfl,X,A⟩
       .rw [if_neg g] at d u
        exact F i a c d u) (fun i a d=>by
       rw [Ez] at d
       by_cases g:q=i
       .rw [if_pos g,if_pos o_] at d
        cases d
        exact hst q x L
       .rw [if_neg g] at d
        exact hst i a d) (fun i Q a a' d n B=>by
       have U:∀ {i:Nat} {a:MapEntry},(l.set q ⟨fA s key,D,x.born⟩)[i]? =some a->∃ Y,l[i]? =some Y/\Y.born=a.born:=fun {i a} d=>by
        rw [Ez] at d
        by_cases g:q=i
        .rw [if_pos g,if_pos o_] at d
         cases d
         exact ⟨x,g▸L,rfl⟩
        .rw [if_neg g] at d
         exact ⟨a,d,rfl⟩
       obtain ⟨Y,g1,g2⟩:=U d
       obtain ⟨Z,g1',g2'⟩:=U n
       exact I i Q Y Z g1 g1' o_)
     refine ⟨rfl,FK w b (.map (l.set q ⟨fA s key,D,x.born⟩).toArray f),M,ob,?_,?_⟩
     .have V:(((l.toArray[0+q]?).map (·.key)).getD (fA s key))=fA s key:=by
       simp only [Bp,Mb,L,Lw,Hw]
       rw [hxk,O]
      have hst:(Instr.keyThatStays (fA s key) (fA s key)).run E.P w= .ok (fA s key) w:=by
       unfold Instr.keyThatStays
       rw [show (10000:Nat)=9999+1 from rfl,FN 9999 s key]
       simp
      simp only [Ka,Au,run_underlying T,Ai,MapKept.run_getObj_map K,H,hr,V,hst,MapKept.run_setObj_map _ K]
      rw [Bp,aCG L]
     .rw [C,aQ p]
      exact ⟨this.2.1,this.1,this.2.2⟩
   .exact trivial
  .exact trivial
 .exact trivial
theorem UK (hE:EnvOK E) (hm:Mem M ob obs w) {t V ty:Nat} {O kv:Value} {m k:AVal} (J:Rep M ob O m) (K:Rep M ob kv k):
  PM E.P M ob w (Kb #[t,V] ty #[O,kv]) obs base (G3 E (aE obs) t m k):=by
 unfold G3
 split
 .rename_i kt _ _ _ _ j T
  have G:=(hE.tab _ _ T).kind.1
  split
  .rename_i Z es L
   split
   .rename_i key H
    obtain ⟨rfl,s⟩:=uS hE H K
    refine FL s fun W=>?_
    obtain ⟨b,rfl,C,e,F,u,d,v,hl,o,hst,h⟩:=hm.mpOf L J
    obtain ⟨r,Q,N⟩:=oL (w:=w) s rfl (U6.enOK (b:=b) hl o W)
    have f:=fun Y=>FO (w:=w) s rfl Y
    rcases N with ⟨rfl,N⟩ | ⟨q,x,y,rfl,U,X,I,z⟩
    .have:=hm.mpTurn (es':=es) (en':=u) (clock':=d) e C F v hl o hst h
     refine ⟨.tuple #[],FK w b (.map u.toArray d),M,ob,?_,?_⟩
     .simp [Kb,run_underlying G,MapKept.run_getObj_map v,f,Q,MapKept.run_setObj_map _ v,Ey]
     .rw [(nD N).2.2,aQ e]
      exact ⟨this.2.1,this.1,this.2.2,IQ⟩
    .have D:=(Ab.1 U).1
     have A:(u.toArray.eraseIdxIfInBounds q)=(u.eraseIdx q).toArray:=by
      apply Cy
      unfold Array.eraseIdxIfInBounds
      rw [dif_pos (by simpa using D)]
      simp
     have n:∀ {α:Type} (l:List α) (i:Nat),(l.eraseIdx q)[i]? =l[if i<q then i else i+1]?:=fun l i=>by
      rw [List.getElem?_eraseIdx]
      split<;>rfl
     have:=hm.mpTurn (es':=es.eraseIdx q) (en':=u.eraseIdx q) (clock':=d) e C F v (by
       rw [Ko D,Ko o_];omega) (fun i a c g R=>by
       rw [n] at g R
       exact o _ a c g R) (fun i a g=>by
       rw [n] at g
       exact hst _ a g) (fun i i' a S g B p=>by
       rw [n] at g B
       have:=h _ _ a S g B p
       split at this<;>split at this<;>omega)
     refine ⟨.tuple #[],FK w b (.map (u.eraseIdx q).toArray d),M,ob,?_,?_⟩
     .simp [Kb,run_underlying G,MapKept.run_getObj_map v,f,Q,MapKept.run_setObj_map _ v,Ey,A]
     .rw [(tD X I z).2.2,aQ e]
      exact ⟨this.2.1,this.1,this.2.2,IQ⟩
   .exact trivial
  .exact trivial
 .exact trivial
end
section
variable {P:Program} {E:Env} {M:Imm} {ob:Hs} {obs:List AObj} {w:World} {base:Nat}
theorem Rep.nilif_inv {v:Value} (h:Rep M ob v .nilif):v= .nilIface:=by cases h;rfl
theorem xW {ρv:Operand->Value} {ρ:Operand->AVal} (h:∀ x,Rep M ob (ρv x) (ρ x)):∀ (l:List Operand),cD M ob (l.map ρv) (evO ρ l)
 | []=>⟨rfl,fun i v a h=>by simp at h⟩
 | x::l=>by
  obtain ⟨h1,e⟩:=xW h l
  refine ⟨by simp [AW.evO,h1],fun i v b d c=>?_⟩
  cases i with
  | zero=>simp [AW.evO] at d c;subst d c;exact h x
  | succ i=>exact e i v b (by simpa using d) (by simpa [AW.evO] using c)
theorem GX {ρv:Operand->Value} {ρ:Operand->AVal} (h:∀ x,Rep M ob (ρv x) (ρ x)):∀ (l:List (Nat×Operand)),CE M ob (l.map fun (p:Nat×Operand)=>(p.1,ρv p.2)) (evL ρ l)
 | []=>⟨rfl,fun i p q h=>by simp at h⟩
 | (n,x)::l=>by
  obtain ⟨h1,b⟩:=GX h l
  refine ⟨by simpa [AW.evL] using h1,fun i p q hp a=>?_⟩
  cases i with
  | zero=>simp [AW.evL] at hp a;subst hp a;exact ⟨rfl,h x⟩
  | succ i=>exact b i p q (by simpa using hp) (by simpa [AW.evL] using a)
theorem cD.append {vs us:List Value} {as bs:List AVal} (h:cD M ob vs as) (k:cD M ob us bs):cD M ob (vs++us) (as++bs):=by
 refine ⟨by simp [h.1,k.1],fun i v a b c=>?_⟩
 by_cases d:i<vs.length
 .rw [Ag d] at b
  rw [Ag (by rw [<-h.1];exact d)] at c
  exact h.2 i v a b c
 .rw [Ak o_] at b
  rw [Ak (by rw [<-h.1];omega),<-h.1] at c
  exact k.2 _ v a b c
theorem cD.cons {v:Value} {a:AVal} {vs:List Value} {as:List AVal} (h:Rep M ob v a) (k:cD M ob vs as):cD M ob (v::vs) (a::as):=
 cD.append (vs:=[v]) (as:=[a]) ⟨rfl,fun i u b c d=>by cases i with | zero=>simp at c d;subst c d;exact h | succ i=>simp at c⟩ k
theorem pZ (hE:EnvOK E) {t:Nat} {v:Value} {a:AVal} (h:Rep M ob v a):Rep M ob v (yM E t a):=by
 unfold yM
 split
 .split
  .cases h;exact .slnil _ _ rfl
  .exact h
 .exact h
theorem bY.now {ρv:Operand->Value} {op:Op} {ty:TypeId} {u:Value} {v:AVal} (hm:Mem M ob obs w) (b:∀ d pos a g,execOp ρv ⟨d,op,ty,pos,a,g⟩=Pure.pure (.value u)) (h:Rep M ob u v):VS P ρv op ty M ob obs w v obs:=
 ⟨u,w,M,ob,fun d pos a g=>.inl (by rw [b];rfl),Ext.refl _ _ _ _,hm,cJ.refl _ _,h⟩
theorem WH (b:Array TypeId) (t:TypeId) (k a:IntKind) (x y:Int):(Builtin.max_ b t #[.int k x,.int a y]).run P w= .ok (.int k (max x y)) w:=by
 rw [run_max_int2]
 congr 2
 by_cases h:y > x
 .rw [if_pos h];omega
 .rw [if_neg h];omega
theorem WG (b:Array TypeId) (t:TypeId) (k a:IntKind) (x y:Int):(Builtin.min_ b t #[.int k x,.int a y]).run P w= .ok (.int k (min x y)) w:=by
 rw [run_min_int2]
 congr 2
 by_cases h:y<x
 .rw [if_pos h];omega
 .rw [if_neg h];omega
theorem F5 {ρv:Operand->Value} {ρ:Operand->AVal} (h:∀ x,Rep M ob (ρv x) (ρ x)) (l:Option Operand):CF M ob (l.map ρv) (l.map ρ):=by
 cases l with
 | none=>exact .inl ⟨rfl,rfl⟩
 | some y=>exact .inr ⟨_,_,rfl,rfl,h y⟩
theorem sD.notIface {P:Program} {t:Nat} {l:Bool} {size:Nat} {k:TK} (h:sD P t l size k) (i:k≠ .iface):∃ f,P.underlying t=some f/\∀ j,f≠ .interface j:=by
 obtain ⟨d,_⟩:=h.isAgg
 obtain ⟨f,a⟩:=Cx.1 d
 refine ⟨f,a,fun j e=>?_⟩
 subst e
 cases k with
 | int k=>have:=h.1;rw [a] at this;cases this
 | bool=>have:=h.1;rw [a] at this;cases this
 | str=>have:=h.1;rw [a] at this;cases this
 | strct o=>obtain ⟨⟨fl,c,_⟩,_⟩:=h;rw [a] at c;cases c
 | arr n s m=>obtain ⟨⟨fl,c,_⟩,_⟩:=h;rw [a] at c;cases c
 | slc e s b=>have:=h.1.1;rw [a] at this;cases this
 | ptr e=>have:=h.1;rw [a] at this;cases this
 | iface=>exact i rfl
 | mp k e=>have:=h.1;rw [a] at this;cases this
 | other=>obtain ⟨⟨p,c,g⟩,_⟩:=h;rw [a] at c;cases c;exact g _ rfl
theorem A1 {k:IntKind} {x y:Int} (a:inR k x) (b:inR k y):inR k (min x y)/\inR k (max x y):=by
 unfold inR at *
 omega
theorem NW (hE:EnvOK E) (hm:Mem M ob obs w) (D:obs[base]? =some .dead) (F:ob[base]? =some []) {ρv:Operand->Value} {ρ:Operand->AVal} (j:∀ x,Rep M ob (ρv x) (ρ x)) (hint:Nat) (op:Op) (ty:TypeId):
  bY E.P ρv op ty M ob obs w base (kD E hint base (aE obs) ρ op ty):=by
 cases op with
 | move x=>exact bY.now hm (fun _ _ _ _=>rfl) (j x)
 | assign x=>
  have A:=pZ hE (t:=ty) (j x)
  have hs:∀ d pos a g,execOp ρv ⟨d,.assign x,ty,pos,a,g⟩=((Pure.pure (ρv x):Sem Value) >>= fun v=>Pure.pure (.value v)):=fun _ _ _ _=>rfl
  simp only [kD]
  split
  .exact bY.now hm (fun _ _ _ _=>rfl) A
  .split
   .rename_i esz xs t heq
    rw [heq] at A
    split
    .split
     .obtain ⟨_,T⟩:=A.untok
      have T:ρv x= .slice none 0 0:=T
      split
      .refine sdc fun hg=>?_
       obtain ⟨hg1,hg2⟩:=aS hg
       have hpos:0<esz:=Ca hg2
       refine bY.pm hs (nM hm D F (v:=.slice none 0 0) (w':=w) (by rw [T];rfl) ⟨⟨[],Hi w 0 _ _,by simp,fun q c hq=>by simp [aG] at hq⟩,hpos,by simp,fun b hb=>by simp [Gg] at hb,fun _ _=>rfl,rfl,rfl,rfl,Bg _,AC w⟩)
      .exact trivial
     .exact trivial
    .exact bY.now hm (fun _ _ _ _=>rfl) A
   .exact bY.now hm (fun _ _ _ _=>rfl) A
 | pick c x y=>
  have W:=j c
  simp only [kD]
  split
  .rename_i l
   rw [l] at W
   exact bY.now hm (fun _ _ _ _=>by simp [execOp,W.bool_inv,asBool]) (j x)
  .rename_i l
   rw [l] at W
   exact bY.now hm (fun _ _ _ _=>by simp [execOp,W.bool_inv,asBool]) (j y)
  .exact trivial
 | alloc t=>
  simp only [kD]
  split
  .rename_i X C
   refine sdc fun h1=>?_
   obtain ⟨i,z,hi,hs,hz,hzs,R,_,_⟩:=(hE.tab t X C).info
   have hzv:(zeroValue t).run E.P w= .ok z w:=by simp [zeroValue,typeInfo,hi,hz]
   obtain ⟨u,w',M',ob',K,hrest⟩:=JT (P:=E.P) (t:=t) hm D F (iJ R) h1
   have hal:(Mu t true (.tuple #[])).run E.P w= .ok u w':=by
    unfold Mu
    rw [Au,hzv]
    exact K
   exact bY.pm (r:=.born _ _) (s:=Mu t true (.tuple #[])) (fun _ _ _ _=>rfl) ⟨u,w',M',ob',hal,hrest⟩
  .exact trivial
 | box t x=>
  simp only [kD]
  refine sdc fun h1=>?_
  exact bY.pm (r:=.born _ _) (s:=Instr.box t (ρv x)) (fun _ _ _ _=>rfl) (JT (P:=E.P) (t:=t) hm D F (j x) h1)
 | build t ps=>
  exact bY.pv (s:=Instr.build t (ps.map fun (p:Nat×Operand)=>(p.1,ρv p.2))) hm (fun _ _ _ _=>rfl) (aAA hE (by simpa using GX j ps.toList))
 | buildSlice t n ps=>
  exact bY.pm (s:=Jm t n (ps.map fun (p:Nat×Operand)=>(p.1,ρv p.2))) (fun _ _ _ _=>rfl) (CW hE hm D F (by simpa using GX j ps.toList))
 | load t x=>exact bY.pv (s:=Lm t (ρv x)) hm (fun _ _ _ _=>rfl) ((aDz hE hm (j x)).bind fun v u h=>pZ hE h)
 | store t x y=>
  refine Sd.mono (fun v o ⟨h1,w',M',ob',H,h3,h4,h5⟩=>?_) (fun _ _ h=>h.elim) (fun _ h=>h.elim) (aAl (t:=t) hE hm (j x) (pZ hE (t:=t) (j y)))
  refine ⟨undef,w',M',ob',fun d pos a g=>.inr ⟨?_,rfl⟩,h3,h4,h5,by rw [h1];exact .undef _⟩
  have:execOp ρv ⟨d,.store t x y,ty,pos,a,g⟩=(Jq t (ρv x) (ρv y) >>= fun _=>Pure.pure .skip):=rfl
  rw [this,Au,H]
  rfl
 | nilCheck x=>
  have A:=j x
  simp only [kD]
  split<;>first | exact trivial | skip
  all_goals
   rename_i l
   rw [l] at A
   refine bY.now hm (u:=ρv x) (fun d pos a g=>?_) A
   generalize hu:ρv x=u at A
   simp only [execOp,hu]
   cases A<;>rfl
 | binOp bop t x y yt=>exact bY.pv (s:=B2 bop t x y (ρv x) (ρv y)) hm (fun _ _ _ _=>rfl) (aGt (og:=aE obs) hE (j x) (j y))
 | unOp uop t x=>
  have A:=j x
  simp only [kD]
  refine bY.pv (s:=Op.unary uop (ρv x)) hm (fun _ _ _ _=>rfl) ?_
  split
  .rename_i b l
   rw [l] at A
   rw [A.bool_inv]
   exact aR (u:=.bool (!b)) rfl (.bool _)
  .rename_i k n l
   rw [l] at A
   rw [A.int_inv.1]
   have e:(Op.unary .neg (.int k n)).run E.P w= .ok (.int k (k.wrap (0-n))) w:=rfl
   exact ⟨fun hp=>⟨rfl,_,by rw [e,iK hp],.int _ _ hp⟩,rfl,_,e,.int _ _ (kA _ _)⟩
  .rename_i k n l
   rw [l] at A
   rw [A.int_inv.1]
   exact aR (u:=.int k (fQ .xor k (if k.signed then -1 else k.max) n)) rfl (.int _ _ (by unfold fQ;exact kA _ _))
  .exact trivial
 | convert s t x=>exact bY.pm (s:=convert s t (ρv x)) (fun _ _ _ _=>rfl) (aDC hE hm (j x))
 | makeInterface t x=>
  simp only [kD]
  refine bY.pv (s:=Instr.makeInterface t (ρv x)) hm (fun _ _ _ _=>rfl) ?_
  split
  .rename_i X C
   have hk:=(hE.tab t X C).kind
   split
   .exact trivial
   .rename_i Q
    obtain ⟨dd,L,O⟩:=hk.notIface Q
    refine aR (run_makeInterface w t _ ?_) (.iface _ _ _ (j x))
    unfold Program.concrete
    rw [L]
    cases dd<;>first | rfl | exact absurd rfl (O _)
  .exact trivial
 | makeFunc fn fs cs=>
  obtain ⟨p1,p2⟩:=xW j fs.toList
  obtain ⟨q1,q2⟩:=xW j cs.toList
  refine bY.now hm (u:=.func fn (fs.toList.map ρv).toArray (cs.toList.map ρv).toArray) (fun d pos a g=>?_) (.func fn _ _ _ _ p1 q1 p2 q2)
  have Y:(fs.toList.map ρv).toArray=fs.map ρv:=by apply Cy;simp
  have e2:(cs.toList.map ρv).toArray=cs.map ρv:=by apply Cy;simp
  rw [Y,e2]
  rfl
 | makeMap t x=>
  cases x with
  | some x=>exact trivial
  | none=>
   simp only [kD]
   split
   .split
    .rename_i tk _
     obtain ⟨m1,m2,m3,m4⟩:=hm.bornMap D F tk.agg
     refine bY.pm (r:=.born _ _) (s:=Instr.makeMap t none) (fun _ _ _ _=>rfl) ⟨_,_,M,ob.set base [.map (some w.heap.size)],run_makeMap t w,?_⟩
     rw [aQ D]
     exact ⟨m2,m1,m3,m4⟩
    .exact trivial
   .exact trivial
 | makeSlice t x y=>exact bY.pm (s:=Instr.makeSlice t (ρv x) (ρv y)) (fun _ _ _ _=>rfl) (aDy (hint:=hint) hE hm D F (j x) (j y))
 | slice t x lo hi mx=>exact bY.pv (s:=Gd t (ρv x) (lo.map ρv) (hi.map ρv) (mx.map ρv)) hm (fun _ _ _ _=>rfl) (aAm hE hm (j x) (F5 j lo) (F5 j hi) (F5 j mx))
 | fieldAddr t x f=>exact bY.pv (s:=Ld t (ρv x) f) hm (fun _ _ _ _=>rfl) (G6 hE (j x))
 | field t x f=>exact bY.pv (s:=Mh t (ρv x) f) hm (fun _ _ _ _=>rfl) ((aAv hE (j x)).bind fun v u h=>pZ hE h)
 | indexAddr t x i=>exact bY.pv (s:=Hg t (ρv x) (ρv i)) hm (fun _ _ _ _=>rfl) (G5 hE hm (j x) (j i))
 | index t x i=>exact bY.pv (s:=Kw t (ρv x) (ρv i)) hm (fun _ _ _ _=>rfl) (aAu hE (j x) (j i))
 | typeAssert x xt t ok=>
  have A:=j x
  simp only [kD]
  refine bY.pv (s:=Jn (ρv x) xt t ok) hm (fun _ _ _ _=>rfl) ?_
  split
  .rename_i X u v C l
   rw [l] at A
   obtain ⟨i,z,hi,hs,hz,hzs,R,_,_⟩:=(hE.tab t X C).info
   split
   .exact trivial
   .rename_i Q
    obtain ⟨dd,L,O⟩:=(hE.tab t X C).kind.notIface Q
    obtain ⟨G,U,hv⟩:=A.iface_inv
    rw [U]
    cases hq:Ap u t with
    | true=>
     have:=aB hq
     subst this
     refine aR (u:=if ok then .tuple #[G,.bool true] else G) ?_ ?_
     .unfold Jn
      simp only [Au,run_underlying L,Ai]
      cases dd<;>first | exact absurd rfl (O _) | (simp)
     .cases ok with
      | true=>exact hv.pairB true
      | false=>exact hv
    | false=>
     have hne2:¬ u=t:=fun e=>by subst e;simp at hq
     simp only [cond_false]
     refine sdc fun hok=>?_
     subst hok
     refine aR (u:=.tuple #[z,.bool false]) ?_ ((iJ R).pairB false)
     unfold Jn
     simp only [Au,run_underlying L,Ai]
     cases dd<;>first | exact absurd rfl (O _) | (simp [hne2,zeroValue,typeInfo,hi,hz])
  .rename_i X C l
   rw [l] at A
   obtain ⟨i,z,hi,hs,hz,hzs,R,_,_⟩:=(hE.tab t X C).info
   split
   .exact trivial
   .rename_i Q
    obtain ⟨dd,L,O⟩:=(hE.tab t X C).kind.notIface Q
    refine sdc fun hok=>?_
    subst hok
    rw [A.nilif_inv]
    refine aR (u:=.tuple #[z,.bool false]) ?_ ((iJ R).pairB false)
    unfold Jn
    simp only [Au,run_underlying L,Ai]
    cases dd<;>first | exact absurd rfl (O _) | (simp [zeroValue,typeInfo,hi,hz])
  .exact trivial
 | extract x i=>
  have A:=j x
  simp only [kD]
  refine bY.pv (s:=Instr.extract (ρv x) i) hm (fun _ _ _ _=>rfl) ?_
  split
  .rename_i vs l
   rw [l] at A
   split
   .rename_i v hn
    have hnv:=lX hn
    obtain ⟨us,U,hl,K⟩:=A.tup_inv
    have hlt:i<us.length:=by rw [hl];exact (Ab.1 hnv).1
    rw [U]
    refine aR (u:=us[i]) ?_ (K i _ v (Aa hlt) hnv)
    simp [Instr.extract,hlt]
   .exact trivial
  .exact trivial
 | panic x=>
  have A:=j x
  simp only [kD]
  split
  .rename_i t v l
   rw [l] at A
   obtain ⟨u,U,hu⟩:=A.iface_inv
   have:∀ G,G=pureV (aE obs) 3 v->bY E.P ρv (.panic x) ty M ob obs w base ((fun v=>bif AG v then OR.pan (.iface t v) else .no) G):=fun G e=>by
    subst e
    refine sdc fun _=>⟨.iface t u,fun d pos a g=>?_,.iface _ _ _ (hm.pureV 3 _ _ hu)⟩
    simp [execOp,Instr.panic,U]
   exact this _ rfl
  .exact trivial
 | lookup t m k ok=>exact bY.pv (s:=Ln t (ρv m) (ρv k) ok) hm (fun _ _ _ _=>rfl) (UL hE hm (j m) (j k) ok)
 | mapUpdate t m k v0=>
  refine Sd.mono (fun v o ⟨h1,w',M',ob',H,h3,h4,h5⟩=>?_) (fun _ _ h=>h.elim) (fun _ h=>h.elim) (aAs (t:=t) hE hm (j m) (j k) (j v0))
  refine ⟨undef,w',M',ob',fun d pos a g=>.inr ⟨?_,rfl⟩,h3,h4,h5,by rw [h1];exact .undef _⟩
  have:execOp ρv ⟨d,.mapUpdate t m k v0,ty,pos,a,g⟩=(Ka t (ρv m) (ρv k) (ρv v0) >>= fun _=>Pure.pure .skip):=rfl
  rw [this]
  simp only [Au,H,Ai,Bi]
 | call c=>
  obtain ⟨callee,args,argTypes⟩:=c
  have J:=xW j args.toList
  simp only [kD]
  cases callee with
  | value f=>
   have B:=j f
   dsimp only
   split
   .rename_i gid fs cs l
    rw [l] at B
    cases I:ρv f with
    | func fn first caps=>
     rw [I] at B
     cases B with
     | func _ vfs vcs _ _ hl1 hl2 hr1 hr2=>
      rw [HJ,HJ]
      refine ⟨_,cD.append (cD.append ⟨hl1,hr1⟩ J) ⟨hl2,hr2⟩,fun d pos a g=>?_⟩
      have Y:(args.map ρv)=(args.toList.map ρv).toArray:=by apply Cy;simp
      simp [execOp,resolve,I,Deferred.ofValue,invoke,Y,B6]
    | _=>rw [I] at B;cases B
   .rename_i lid fs cs l
    rw [l] at B
    cases I:ρv f with
    | func fn first caps=>
     rw [I] at B
     cases B with
     | func _ vfs vcs _ _ hl1 hl2 hr1 hr2=>
      rw [HJ]
      refine ⟨_,cD.append ⟨hl1,hr1⟩ J,fun d pos a g=>?_⟩
      have Y:(args.map ρv)=(args.toList.map ρv).toArray:=by apply Cy;simp
      simp [execOp,resolve,I,Deferred.ofValue,invoke,Y,B6]
    | _=>rw [I] at B;cases B
   .exact trivial
  | invoke rc name=>
   have V:=j rc
   dsimp only
   split
   .rename_i t v l
    rw [l] at V
    split
    .rename_i gid hmg
     cases hre:ρv rc with
     | iface t' G=>
      rw [hre] at V
      cases V with
      | iface _ _ _ hv=>
       have hmm:=hE.mth t name gid hmg G w
       refine ⟨_,cD.cons hv J,fun d pos a g=>?_⟩
       have hva: #[G]++args.map ρv=(G::args.toList.map ρv).toArray:=by apply Cy;simp
       rw [<-hva]
       have hex:(#[Mi t G]++args.map ρv).extract 1 (#[Mi t G]++args.map ρv).size=args.map ρv:=by
        apply Cy
        simp [Array.toList_extract]
        exact Cf s_
       simp only [execOp,resolve,Au,Bi,Ai,invoke,hre]
       simp only [Hq (show 0<(#[Mi t G]).size by simp)]
       simp only [show (#[Mi t G]:Array Value)[0]? =some (.iface t G) from rfl,hex,callMethod,Au,run_program,Ai,hmm,B6]
     | _=>rw [hre] at V;cases V
    .exact trivial
   .exact trivial
  | builtin b=>
   dsimp only
   have S:∀ {s:Sem Value} {r:OR},(∀ {u:Value} {w':World},s.run E.P w= .ok u w'->∀ d pos a g,(execOp ρv ⟨d,.call ⟨.builtin b,args,argTypes⟩,ty,pos,a,g⟩).run E.P w= .ok (.value u) w')->PM E.P M ob w s obs base r->bY E.P ρv (.call ⟨.builtin b,args,argTypes⟩) ty M ob obs w base r:=fun {s r} A h=>
    Sd.mono (fun v o ⟨u,w',M',ob',H,h3,h4,h5,h6⟩=>⟨u,w',M',ob',fun d pos a g=>.inl (A H d pos a g),h3,h4,h5,h6⟩) (fun _ _ h=>h.elim) (fun _ h=>h.elim) h
   split
   .rename_i x t h1 H
    have N:args= #[x]:=by apply Cy;simpa using h1
    have Z:argTypes= #[t]:=by apply Cy;simpa using H
    subst N Z
    exact S (s:=Ei #[t] ty #[ρv x]) (fun K d pos a g=>by simp [execOp,resolve,invoke,builtin,K]) (PM.of hm (aGo hE hm (j x)))
   .rename_i x y h1
    have N:args= #[x,y]:=by apply Cy;simpa using h1
    subst N
    split
    .rename_i k p k' q Y e2
     have A:=j x
     have hy:=j y
     rw [Y] at A
     rw [e2] at hy
     refine sdc fun hk=>?_
     have:=tH hk
     subst this
     obtain ⟨hx1,hx2⟩:=A.int_inv
     obtain ⟨hy1,hy2⟩:=hy.int_inv
     refine ⟨_,w,M,ob,fun d pos a g=>.inl ?_,Ext.refl _ _ _ _,hm,cJ.refl _ _,.int _ _ (A1 hx2 hy2).1⟩
     simp [execOp,resolve,invoke,builtin,hx1,hy1,WG]
    .exact trivial
   .rename_i x y h1
    have N:args= #[x,y]:=by apply Cy;simpa using h1
    subst N
    split
    .rename_i k p k' q Y e2
     have A:=j x
     have hy:=j y
     rw [Y] at A
     rw [e2] at hy
     refine sdc fun hk=>?_
     have:=tH hk
     subst this
     obtain ⟨hx1,hx2⟩:=A.int_inv
     obtain ⟨hy1,hy2⟩:=hy.int_inv
     refine ⟨_,w,M,ob,fun d pos a g=>.inl ?_,Ext.refl _ _ _ _,hm,cJ.refl _ _,.int _ _ (A1 hx2 hy2).2⟩
     simp [execOp,resolve,invoke,builtin,hx1,hy1,WH]
    .exact trivial
   .rename_i x y t t2 h1 H
    have N:args= #[x,y]:=by apply Cy;simpa using h1
    have Z:argTypes= #[t,t2]:=by apply Cy;simpa using H
    subst N Z
    exact S (s:=Cg #[t,t2] ty #[ρv x,ρv y]) (fun K d pos a g=>by simp [execOp,resolve,invoke,builtin,K]) (UM hE hm D F (j x) (j y))
   .rename_i x y t t2 h1 H
    have N:args= #[x,y]:=by apply Cy;simpa using h1
    have Z:argTypes= #[t,t2]:=by apply Cy;simpa using H
    subst N Z
    exact S (s:=Jr #[t,t2] ty #[ρv x,ρv y]) (fun K d pos a g=>by simp [execOp,resolve,invoke,builtin,K]) (aDB hE hm (j x) (j y))
   .rename_i x t h1 H
    have N:args= #[x]:=by apply Cy;simpa using h1
    have Z:argTypes= #[t]:=by apply Cy;simpa using H
    subst N Z
    exact S (s:=Iy #[t] ty #[ρv x]) (fun K d pos a g=>by simp [execOp,resolve,invoke,builtin,K]) (aAz hE hm (j x))
   .rename_i m k t t2 h1 H
    have N:args= #[m,k]:=by apply Cy;simpa using h1
    have Z:argTypes= #[t,t2]:=by apply Cy;simpa using H
    subst N Z
    exact S (s:=Kb #[t,t2] ty #[ρv m,ρv k]) (fun K d pos a g=>by simp [execOp,resolve,invoke,builtin,K]) (UK hE hm (j m) (j k))
   .exact trivial
 | _=>exact trivial
theorem aCt {v:Value} {a:AVal} (h:Rep M ob v a):Rep M ob v (nrm a):=by
 cases h with
 | rowc k g c a n h hm=>exact .row k g a n c h
 | pre k g n c d b len h e m hl hm=>
  have:=Rep.sub (M:=M) k g 0 n d b len c h e o_ hl o_
  rw [Hr,Hu] at this
  exact this
 | undef v=>exact .undef v
 | bool b=>exact .bool b
 | int k n r=>exact .int k n r
 | str l hl=>exact .str l hl
 | agg vs as hl h=>exact .agg vs as hl h
 | tup vs as hl h=>exact .tup vs as hl h
 | ptr b o cs h=>exact .ptr b o cs h
 | ref k off b h=>exact .ref k off b h
 | eref k g i d off b n c h=>exact .eref k g i d off b n c h
 | csl k off len d b h hm=>exact .csl k off len d b h hm
 | row k g a n c h=>exact .row k g a n c h
 | sub k g lo len d b n c h hl m e hm=>exact .sub k g lo len d b n c h hl m e hm
 | sub0 k g lo d a q n c h hl e=>exact .sub0 k g lo d a q n c h hl e
 | mref k b h=>exact .mref k b h
 | nilptr=>exact .nilptr
 | nilslice=>exact .nilslice
 | nilmap=>exact .nilmap
 | nilfunc=>exact .nilfunc
 | nilif=>exact .nilif
 | hsl a n c=>exact .hsl a n c
 | slnil d t j=>exact .slnil d t j
 | slemp d t a f j=>exact .slemp d t a f j
 | sl d b o n f xs t m e hm hz h j=>exact .sl d b o n f xs t m e hm hz h j
 | func fn s cs p u x e h1 w=>exact .func fn s cs p u x e h1 w
 | iface t v a h=>exact .iface t v a h
theorem Rep.rowc_inv {v:Value} {k g c:Nat} (h:Rep M ob v (.rowc k g c)):∃ a n,v= .slice a n c/\at' ob k g=some (.slice a n c)/\(c:Int)<=9223372036854775807:=by
 cases h with | rowc _ _ _ a n h hm=>exact ⟨a,n,rfl,h,hm⟩
theorem Rep.pre_inv {v:Value} {k g n c a:Nat} (h:Rep M ob v (.pre k g n c a)):∃ b len,v= .slice (some ⟨b,0,none⟩) n c/\at' ob k g=some (.slice (some ⟨b,0,none⟩) len c)/\0<c/\n<=len/\len<=c/\(c:Int)<=9223372036854775807:=by
 cases h with | pre _ _ _ _ _ b len h hc hn hl hm=>exact ⟨b,len,rfl,h,hc,hn,hl,hm⟩
theorem Mem.rowIs (hm:Mem M ob obs w) {k g i:Nat} {e:TypeId} {xs:List AVal} (j:obs[k]? =some (.row g i e xs)) {f:Option Addr} {n c:Nat} (a:at' ob k g=some (.slice f n c)):
  n=xs.length/\n<=c/\(n:Int)<=9223372036854775807/\(f=none/\n=0/\c=0\/∃ b,f=some ⟨b,0,none⟩):=by
 obtain ⟨hs',v,h1,r,h3,h,l,_⟩:=hm.rowOf j
 rw [a] at h
 cases h
 rcases l.len with ⟨d,rfl⟩ | ⟨b,o,d,p,m,q⟩
 .cases d;exact ⟨rfl,Bg _,by decide,.inl ⟨rfl,rfl,rfl⟩⟩
 .cases d;exact ⟨rfl,m,by have:=gC;omega,.inr ⟨b,rfl⟩⟩
theorem dD.on {v:Value} {i:Nat} {e:TypeId} {xs:List AVal} (h:dD M w v i e xs) (f:0<i) {b n c y:Nat} (C:v= .slice (some ⟨b,0,none⟩) n c) (h1:xs.length<=y) (A:y<=c):
  dD M w (.slice (some ⟨b,0,none⟩) y c) i e (xs++Ah (y-xs.length) (.agg (Ah i .undef))):=by
 subst C
 obtain ⟨cv,⟨O,D⟩,h3,I,G,K,z⟩:=h
 rcases D with ⟨q,_⟩ | ⟨g,J,j,N,_,t,P,L,s,B⟩
 .cases q
 cases N
 have Q:y*i<=j.size:=by rw [s];exact Bq _ A
 have a:(xs++Ah (y-xs.length) (AVal.agg (Ah i .undef))).length=y:=by simp;omega
 refine ⟨j.toList.take (y*i),⟨by rw [a];simp;omega,.inr ⟨b,c,j,by rw [a],Bt _,t,by rw [a];exact A,L,s,by rw [a]⟩⟩,fun u r=>z b rfl _ _ _ t u (Cq r),fun x k=>?_,fun q d o=>?_,K,z⟩
 .rcases Ay.1 k with k | k
  .exact I x k
  .rw [(Fs.1 k).2];simp [AVal.cells]
 .have l:=eS f o
  rw [a] at l
  rw [Bl l]
  by_cases m:q<xs.length*i
  .rw [cI f m] at o
   obtain ⟨u,r,F⟩:=G q d o
   refine ⟨u,?_,F⟩
   rw [<-B,Bl m] at r
   exact r
  .rw [cB f o_] at o
   obtain ⟨x,k,H⟩:=fX o
   have:=(Fs.1 (Av k)).2
   subst this
   have:d= .undef:=(Fs.1 (Av (show (Ah i AVal.undef)[_]? =some d from H))).2
   subst this
   have p:q<j.toList.length:=by simp;omega
   exact ⟨_,Aa p,.undef _⟩
theorem aGr (hE:EnvOK E) (hm:Mem M ob obs w) {t k g c hint:Nat} {v u:Value} {h:AVal} (hv:Rep M ob v (.rowc k g c)) (hu:Rep M ob u h):
  PM E.P M ob w (Gd t v none (some u) none) obs base (aGs E hint (aE obs) t k g c h):=by
 unfold aGs
 split
 .rename_i e0 esz eb _ _ _ g' i e xs kk n hT R
  have s:=bX R s_
  obtain ⟨⟨I,ie,z,V,hs,_,_,_,_⟩,_⟩:=(hE.tab t _ hT).kind
  refine sdc fun hg=>?_
  obtain ⟨x,Q⟩:=aS hg
  obtain ⟨T,K⟩:=aS x
  obtain rfl:=aB T
  obtain rfl:=aB K
  have A:0<i:=Ca Q
  obtain ⟨B,H⟩:=BQ I
  have X:(E.P.info? (E.P.elem t)).map (·.size)=some i:=by rw [H];simp [V,hs]
  have J:=fun u:World=>run_sizeOf (P:=E.P) X u
  obtain ⟨W,len,rfl,o,Y⟩:=hv.rowc_inv
  obtain ⟨rfl,L,hnm,C⟩:=hm.rowIs s o
  obtain ⟨rfl,_⟩:=hu.int_inv
  rintro y rfl
  have run:y<=c->(Gd t (.slice W xs.length c) none (some (.int kk (y:Int))) none).run E.P w= .ok (sliced W 0 y c i) w:=fun hy=>by
   rw [run_sliceAt_slice w t _ _ _ _ B,run_slice_h w t W _ c B kk y o_ o_,J];rfl
  cases hint with
  | zero=>
   rintro ⟨O,F⟩
   refine ⟨_,w,M,ob,run o_,Ext.refl _ _ _ _,hm,cJ.refl _ _,?_⟩
   rcases C with ⟨rfl,_,q⟩ | ⟨b,rfl⟩
   .omega
   .have r:sliced (some ⟨b,0,none⟩) 0 y c i= .slice (some ⟨b,0,none⟩) y c:=by
     simp [sliced,bA]
    rw [r]
    exact .pre k g y c i b _ o F O L Y
  | succ m=>
   rintro ⟨O,F⟩
   obtain ⟨a,v0,r,D,e3,e4,j,Z⟩:=hm.rowOf s
   rw [o] at e4
   cases e4
   rcases C with ⟨rfl,q1,q2⟩ | ⟨b,rfl⟩
   .
    subst q2
    obtain rfl:y=0:=o_
    have S:xs=[]:=Aq q1
    subst S
    have l:(a++[Gc none 0 0]).length=g+1+1:=by simp [D]
    have d:(a++[Gc none 0 0])[g+1]? =some (.slice none 0 0):=by rw [<-D];simp
    have:=hm.rowTurn (hs':=a++[Gc none 0 0]) s r e3 ⟨_,rfl⟩ l d j (fun b _ _=>rfl) rfl rfl rfl (Bg _) (fun b G=>by cases G)
    refine ⟨_,w,M,ob.set k (a++[Gc none 0 0]),run (Bg _),?_⟩
    rw [aQ s]
    have N:([]:List AVal)++Ah (0-([]:List AVal).length) (AVal.agg (Ah i .undef))=[]:=rfl
    rw [N]
    refine ⟨this.2.1,this.1,this.2.2,?_⟩
    have f:at' (ob.set k (a++[Gc none 0 0])) k (g+1)=some (.slice none 0 0):=by rw [bW (Ax (Ab.1 r).1)];exact d
    have U:sliced none 0 0 0 i= .slice none 0 0:=by simp [sliced]
    rw [U]
    exact .row _ _ _ _ _ f
   .have U:sliced (some ⟨b,0,none⟩) 0 y c i= .slice (some ⟨b,0,none⟩) y c:=by simp [sliced,bA]
    have p:=j.on A rfl O F
    have l:(a++[Gc (some ⟨b,0,none⟩) y c]).length=g+1+1:=by simp [D]
    have d:(a++[Gc (some ⟨b,0,none⟩) y c])[g+1]? =some (.slice (some ⟨b,0,none⟩) y c):=by rw [<-D];simp
    have:=hm.rowTurn (hs':=a++[Gc (some ⟨b,0,none⟩) y c]) s r e3 ⟨_,rfl⟩ l d p (fun b _ _=>rfl) rfl rfl rfl (Bg _) (fun b' G=>.inl G)
    refine ⟨_,w,M,ob.set k (a++[Gc (some ⟨b,0,none⟩) y c]),run F,?_⟩
    rw [aQ s]
    refine ⟨this.2.1,this.1,this.2.2,?_⟩
    have f:at' (ob.set k (a++[Gc (some ⟨b,0,none⟩) y c])) k (g+1)=some (.slice (some ⟨b,0,none⟩) y c):=by rw [bW (Ax (Ab.1 r).1)];exact d
    rw [U]
    exact .row _ _ _ _ _ f
 .exact trivial
theorem aDA (hE:EnvOK E) (hm:Mem M ob obs w) {t k g:Nat} {v C G D:Value} {l h m:AVal} (O:Rep M ob v (.row k g)) (hl:Rep M ob C l) (K:Rep M ob G h) (f:Rep M ob D m):
  PM E.P M ob w (Gd t v (some C) (some G) (some D)) obs base (aAw E (aE obs) t k g l h m):=by
 unfold aAw
 split
 .rename_i Y J X _ _ _ g' F e xs ka a kb b V c N s
  have L:=bX s s_
  obtain ⟨⟨A,U,z,o,hs,_,_,_,_⟩,_⟩:=(hE.tab t _ N).kind
  refine sdc fun S=>?_
  obtain ⟨B,p⟩:=aS S
  obtain rfl:=aB B
  obtain rfl:=aB p
  obtain ⟨d,n⟩:=BQ A
  have r:(E.P.info? (E.P.elem t)).map (·.size)=some F:=by rw [n];simp [o,hs]
  have j:=fun u:World=>run_sizeOf (P:=E.P) r u
  obtain ⟨R,len,T,rfl,i⟩:=O.row_inv
  obtain ⟨rfl,H,Q,I⟩:=hm.rowIs L i
  obtain ⟨rfl,_⟩:=hl.int_inv
  obtain ⟨rfl,_⟩:=K.int_inv
  obtain ⟨rfl,_⟩:=f.int_inv
  rintro x rfl y rfl q rfl ⟨⟨Z,W⟩,c3⟩
  refine ⟨sliced R x y q F,w,M,ob,?_,Ext.refl _ _ _ _,hm,cJ.refl _ _,.undef _⟩
  rw [run_sliceAt_slice w t _ _ _ _ d]
  unfold Kx Fw Jj
  simp only [Au,run_underlying d,Ai,Option.isSome_some,if_true,Bi,asIntOf]
  rw [if_pos ⟨by omega,by omega⟩]
  simp only [Bi,Ai]
  rw [if_pos ⟨by omega,by omega⟩]
  simp only [Bi,Ai]
  rw [if_pos ⟨by omega,by omega⟩]
  simp only [Bi,Ai,j,Cl]
  rfl
 .exact trivial
theorem wX {P:Program} (w:World) (t q ty e:TypeId) (x:IntKind) (i:TypeInfo) (z:Value) (y:P.underlying t=some (.slice e)) (v:P.underlying q=some (.int x)) (s:P.info? e=some i) (hz:i.zero=some z)
  (b n c m:Nat) (l:0<m) (j:0<i.size) (d:List Value) (g:(Bz i.size n (.slice (some ⟨b,0,none⟩) n c)).run P w.drew= .ok d.toArray w.drew) (B:c<n+m) (u:((n+m:Nat):Int)<=9223372036854775807)
  (a:(n+m)*i.bytes<=140737488355328):
  (Cg #[t,q] ty #[.slice (some ⟨b,0,none⟩) n c,.int .i64 (m:Int)]).run P w=
   .ok (.slice (some ⟨w.heap.size,0,none⟩) (n+m) (grownCap w (n+m) c e))
    (w.drew.alloc (.cells (d++(Cc z.cells m).toList++(Cc z.cells (grownCap w (n+m) c e-(n+m))).toList).toArray e)):=by
 have A:¬ (n+m<=c):=o_
 have f:¬ (9223372036854775807<((n:Int)+(m:Int))):=o_
 have p:=growslice_fits (bytes:=i.bytes) B a
 have h:¬ (281474976710656<Builtin.nextslicecap (n+m) c*i.bytes):=o_
 have r:IntKind.i64.wrap (m:Int)=(m:Int):=iK ⟨by simp only [cL];omega,by simp only [bI];omega⟩
 have o:¬ (281474976710656<(m:Int)*(i.bytes:Int)):=by
  have h1:m*i.bytes<=(n+m)*i.bytes:=Bq _ o_
  have D:((m*i.bytes:Nat):Int)<=140737488355328:=o_
  push_cast at D
  omega
 have C:¬ ((m:Int)<0):=o_
 have k:¬ (m*i.size=0):=by
  have:=Nat.mul_pos l j
  omega
 simp [Cg,run_underlying y,run_underlying v,sizeOf,typeInfo,zeroValue,s,hz,asInt,asIntOf,r,C,o,A,f,h,k,Question.forced,g,newRow,grownCap]
 congr 2
 apply Cy
 simp [Aj]
theorem aDx (hE:EnvOK E) (hm:Mem M ob obs w) (hb1:obs[base]? =some .dead) (U:ob[base]? =some []) {t Y ty k g n c sz:Nat} {kt:IntKind} (W:E.P.underlying Y=some (.int kt)) {v u:Value} {m:AVal}
  (hv:Rep M ob v (.pre k g n c sz)) (l:Rep M ob u m):PM E.P M ob w (Cg #[t,Y] ty #[v,u]) obs base (RC E base (aE obs) t k g n c sz m):=by
 unfold RC
 split
 .rename_i e esz eb _ _ _ g' sz' e' xs a hT hog
  split
  .rename_i te hTe
   obtain ⟨⟨Q,i,z,hi,Z,X,hz,A,hz1⟩,_⟩:=(hE.tab t _ hT).kind
   subst Z X
   refine sdc fun hg=>?_
   simp only [Af] at hg
   obtain ⟨⟨⟨g1,g2⟩,g3,g4⟩,g5,g6⟩:=hg
   obtain rfl:=aB g1
   have q2:=aB g2
   subst q2
   have q3:=aB g3
   subst q3
   have q4:=aB g4
   subst q4
   have h:0<i.size:=Ca g5
   obtain ⟨i',z',K,hsz',H,hzs',S,hone,hne⟩:=(hE.tab e te hTe).info
   rw [hi] at K
   cases K
   rw [hz] at H
   cases H
   have hk:=bX hog s_
   obtain ⟨b,len,rfl,J,hc0,T,hlc,hcm⟩:=hv.pre_inv
   obtain ⟨rfl,_,hnm,_⟩:=hm.rowIs hk J
   obtain ⟨rfl,_⟩:=l.int_inv
   rintro y rfl ⟨c1,f1,f2⟩
   obtain ⟨hs0,v0,e1,e2,e3,e4,F,hblk⟩:=hm.rowOf hk
   rw [J] at e4
   cases e4
   obtain ⟨cv,o1,o2,o3,o4,o5,o6⟩:=F
   have hml:=gC
   have hle:n*i.size<=xs.length*i.size:=Bq _ T
   have f:(cv.take (n*i.size)).length=n*i.size:=by rw [Es,o1.1];omega
   have hfc:(Bz i.size n (.slice (some ⟨b,0,none⟩) n c)).run E.P w.drew= .ok (cv.take (n*i.size)).toArray w.drew:=by
    refine run_firstCells_some w.drew i.size n ⟨b,0,none⟩ n c _ f fun j u N=>?_
    rw [Ft] at N
    split at N
    .rw [bA,Bp]
     exact fI o1 (b:=b) rfl N
    .cases N
   have D:=wX (P:=E.P) w t Y ty e kt i z Q W hi hz b n c y o_ h _ hfc c1 o_ f2
   have R:=hm.pure0 S
   obtain ⟨V,d2⟩:=rA (z:=z.cells) (n:=y)
   rw [A] at V d2
   obtain ⟨r1,r2⟩:=uG (M:=M) R (xO g6) A h V d2
   have O:=grownCap_ge w (n+y) c e
   have I:grownCap w (n+y) c e<=maxLen:=grownCap_le_maxLen w (n+y) c e f1
   have C:(xs.take n).length=n:=by rw [Es];omega
   have r:(xs.take n++Ah y (pureV (fun _=>.dead) 4 te.zero)).length=n+y:=by simp;omega
   have o:∀ u∈cv.take (n*i.size)++(Cc z.cells y).toList,u.oneCell'=true:=fun u l=>by
    rcases Ay.1 l with l | l
    .exact o2 u (Cq l)
    .exact iE hz1 u l
   have s:(cv.take (n*i.size)++(Cc z.cells y).toList).length=(n+y)*i.size:=by rw [Ar,f,V,Bv]
   have gr:Grown M w (w.drew.alloc (.cells (cv.take (n*i.size)++(Cc z.cells y).toList++(Cc z.cells (grownCap w (n+y) c e-(n+y))).toList).toArray e)) i.size e
     (.slice (some ⟨w.heap.size,0,none⟩) (n+y) (grownCap w (n+y) c e)) (xs.take n++Ah y (pureV (fun _=>.dead) 4 te.zero)):=by
    refine ⟨⟨cv.take (n*i.size)++(Cc z.cells y).toList,⟨by rw [s,r],.inr ⟨w.heap.size,_,_,by rw [r],Bt _,heap_alloc_new w.drew _,by rw [r];exact O,I,?_,?_⟩⟩,o,fun q d L=>?_⟩,h,fun x G=>?_,fun b' B=>?_,fun b' B=>heap_alloc_old w.drew _ B,rfl,rfl,rfl,by rw [cA];exact Il _,?_⟩
    .rw [Gl,Ar,s,Fg,size_zeroCells,A,<-Bv]
     congr 1
     omega
    .rw [r,<-s]
     exact Kn
    .by_cases p:q<n*i.size
     .rw [cI h (by rw [C];exact p),lC h p] at L
      obtain ⟨u,l,hr⟩:=o4 q d L
      exact ⟨u,by rw [Ag (by rw [f];exact p),Bl p];exact l,hr⟩
     .rw [cB h (by rw [C];omega),C] at L
      rw [Ak (by rw [f];omega),f]
      exact r2 _ d L
    .rcases Ay.1 G with G | G
     .exact o3 x (Cq G)
     .exact r1 x G
    .simp only [Gg,Dr] at B
     omega
    .refine mZ (w:=w.drew) fun u l=>?_
     rcases Ay.1 l with l | l
     .exact o u l
     .exact iE hz1 u l
   exact nM (hint:=2) hm hb1 U D gr
  .exact trivial
 .exact trivial
theorem NV (hE:EnvOK E) (hm:Mem M ob obs w) (z:obs[base]? =some .dead) (p:ob[base]? =some []) {ρv:Operand->Value} {ρ:Operand->AVal} (a:∀ x,Rep M ob (ρv x) (ρ x)) {hint:Nat} {op:Op} (ty:TypeId) {r:OR}
  (h:jK E hint base (aE obs) ρ op=some r):bY E.P ρv op ty M ob obs w base r:=by
 cases op with
 | move x=>cases h;exact bY.now hm (fun _ _ _ _=>rfl) (a x)
 | assign x=>
  simp only [jK] at h
  split at h
  .rename_i k g c b
   cases h
   have:=a x
   rw [b] at this
   exact bY.now hm (u:=ρv x) (fun _ _ _ _=>rfl) this
  .cases h
 | slice t x lo F G=>
  cases lo with
  | none=>
   cases F with
   | none=>simp [jK] at h
   | some f=>
    cases G with
    | some _=>simp [jK] at h
    | none=>
     simp only [jK] at h
     split at h
     .rename_i k g c b
      cases h
      have:=a x
      rw [b] at this
      exact bY.pm (s:=Gd t (ρv x) none (some (ρv f)) none) (fun _ _ _ _=>rfl) (aGr hE hm this (a f))
     .cases h
  | some l=>
   cases F with
   | none=>simp [jK] at h
   | some f=>
    cases G with
    | none=>simp [jK] at h
    | some m=>
     simp only [jK] at h
     split at h
     .rename_i k g b
      cases h
      have:=a x
      rw [b] at this
      exact bY.pm (s:=Gd t (ρv x) (some (ρv l)) (some (ρv f)) (some (ρv m))) (fun _ _ _ _=>rfl) (aDA hE hm this (a l) (a f) (a m))
     .cases h
 | call c=>
  obtain ⟨callee,args,argTypes⟩:=c
  simp only [jK] at h
  split at h
  .split at h
   .rename_i x t h1 j
    split at h
    .rename_i k g n _ _ _ _ _ _ b J
     cases h
     have D:args= #[x]:=by apply Cy;simpa using h1
     have B:argTypes= #[t]:=by apply Cy;simpa using j
     subst D B
     have i:=a x
     rw [b] at i
     obtain ⟨T,len,K,I,N⟩:=i.rowc_inv
     obtain ⟨⟨C,_⟩,_⟩:=(hE.tab t _ J).kind
     refine ⟨.int .i64 n,w,M,ob,fun d pos e g=>.inl ?_,Ext.refl _ _ _ _,hm,cJ.refl _ _,.int _ _ ⟨by simp only [cL];omega,by simp only [bI];omega⟩⟩
     simp [execOp,resolve,invoke,builtin,Builtin.cap_,K,run_underlying C,goInt]
    .cases h
   .cases h
  .split at h
   .rename_i x y t H h1 j
    split at h
    .rename_i k g n c R S _ _ _ b A
     cases h
     have D:args= #[x,y]:=by apply Cy;simpa using h1
     have B:argTypes= #[t,H]:=by apply Cy;simpa using j
     subst D B
     have i:=a x
     rw [b] at i
     have q:=(hE.tab H _ A).kind.1
     exact Sd.mono (fun v o ⟨u,w',M',ob',j,h3,O,L,Q⟩=>⟨u,w',M',ob',fun d pos e g=>.inl (by simp [execOp,resolve,invoke,builtin,j]),h3,O,L,Q⟩) (fun _ _ h=>h.elim) (fun _ h=>h.elim) (aDx hE hm z p (ty:=ty) q i (a y))
    .cases h
   .cases h
  .cases h
 | _=>simp [jK] at h
theorem uX (hE:EnvOK E) (hm:Mem M ob obs w) (a:obs[base]? =some .dead) (b:ob[base]? =some []) {ρv:Operand->Value} {ρ:Operand->AVal} (c:∀ x,Rep M ob (ρv x) (ρ x)) (hint:Nat) (op:Op) (ty:TypeId):
  bY E.P ρv op ty M ob obs w base (eop E hint base (aE obs) ρ op ty):=by
 unfold eop
 split
 .rename_i r d
  exact NV hE hm a b c ty d
 .exact NW hE hm a b (fun x=>aCt (c x)) hint op ty
end
section
variable {P:Program} {M M':Imm} {ob ob':Hs} {obs L:List AObj} {w w':World}
theorem qZ.monoA (a:∀ (k g:Nat) v,at' ob k g=some v->at' ob' k g=some v) {v:Value} {t:Tk} (h:qZ ob v t):qZ ob' v t:=by
 cases t with
 | own k g=>exact a _ _ _ h
 | _=>exact h
theorem Rep.monoA (e:∀ (k g:Nat) v,at' ob k g=some v->at' ob' k g=some v) {v:Value} {a:AVal} (h:Rep M ob v a):Rep M ob' v a:=by
 induction h with
 | undef v=>exact .undef v
 | bool b=>exact .bool b
 | int k n h=>exact .int k n h
 | str l h=>exact .str l h
 | agg vs as hl _ m=>exact .agg vs as hl m
 | tup vs as hl _ m=>exact .tup vs as hl m
 | ptr b o cs h=>exact .ptr b o cs h
 | ref k off b h=>exact .ref k off b (e _ _ _ h)
 | eref k g i d off b n c h=>exact .eref k g i d off b n c (e _ _ _ h)
 | csl k off len d b h hm=>exact .csl k off len d b (e _ _ _ h) hm
 | row k g a n c h=>exact .row k g a n c (e _ _ _ h)
 | sub k g lo len d b n c h hl p f hm=>exact .sub k g lo len d b n c (e _ _ _ h) hl p f hm
 | sub0 k g lo d a w n c h hl f=>exact .sub0 k g lo d a w n c (e _ _ _ h) hl f
 | rowc k g c a n h hm=>exact .rowc k g c a n (e _ _ _ h) hm
 | pre k g n c d b len h f p hl hm=>exact .pre k g n c d b len (e _ _ _ h) f p hl hm
 | mref k b h=>exact .mref k b (e _ _ _ h)
 | nilptr=>exact .nilptr
 | nilslice=>exact .nilslice
 | nilmap=>exact .nilmap
 | nilfunc=>exact .nilfunc
 | nilif=>exact .nilif
 | hsl a n c=>exact .hsl a n c
 | slnil d t q=>exact .slnil d t (q.monoA e)
 | slemp d t a j q=>exact .slemp d t a j (q.monoA e)
 | sl d b o n j xs t p f hm hz h q=>exact .sl d b o n j xs t p f hm hz h (q.monoA e)
 | func fn x cs u y z f _ _ r s=>exact .func fn x cs u y z f r s
 | iface t v a _ m=>exact .iface t v a m
theorem Mem.idle (h:Mem M ob L w) {k:Nat} (i:ob[k]? =some []):L[k]? =some .dead:=by
 have d:k<L.length:=by rw [<-h.len];exact (Ab.1 i).1
 have e:=Aa d
 obtain ⟨hs,f,a⟩:=h.obj k _ e
 rw [i] at f
 cases f
 cases c:L[k] with
 | dead=>rw [e,c]
 | cells T cs=>rw [c] at a;obtain ⟨b,q,_⟩:=a;cases q
 | fcells cs=>rw [c] at a;obtain ⟨b,q,_⟩:=a;cases q
 | row g j e xs=>rw [c] at a;have:=a.1;simp at this
 | frow g j xs=>rw [c] at a;obtain ⟨v,q,_⟩:=a;simp at q
 | tail g j e=>rw [c] at a;have:=a.1;simp at this
 | mp l es=>rw [c] at a;obtain ⟨b,q,_⟩:=a;cases q
 | bun g I=>rw [c] at a;have:=a.1;simp at this
theorem Mem.live (h:Mem M ob L w) {k:Nat} {c:AObj} (a:L[k]? =some c) (d:c≠ .dead):∃ hs,ob[k]? =some hs/\hs≠[]:=by
 obtain ⟨hs,b,_⟩:=h.obj k c a
 refine ⟨hs,b,fun e=>?_⟩
 subst e
 rw [h.idle b] at a
 cases a
 exact d rfl
theorem Mem.shrink {n:Nat} (h:Mem M ob (obs++Ah n .dead) w) (D:∀ (i:Nat) hs,obs.length<=i->ob[i]? =some hs->hs=[]):
  Mem M (ob.take obs.length) obs w/\(∀ (k g:Nat) v,at' ob k g=some v->at' (ob.take obs.length) k g=some v)/\
   ∀ {M0:Imm} {ob0:Hs} {d:List AObj} {w0:World},Ext M0 ob0 d w0 M ob (obs++Ah n .dead) w->ob0.length<=obs.length->Ext M0 ob0 d w0 M (ob.take obs.length) obs w:=by
 have hl:=h.len
 simp at hl
 have left:∀ {i:Nat},i<obs.length->(ob.take obs.length)[i]? =ob[i]?/\(obs++Ah n AObj.dead)[i]? =obs[i]?:=fun {i} hi=>⟨Bl hi,Ag hi⟩
 have o:∀ (k g:Nat) v,at' ob k g=some v->at' (ob.take obs.length) k g=some v:=by
  intro k g v f
  by_cases e:k<obs.length
  .unfold at' at f⊢
   rw [(left e).1];exact f
  .unfold at' at f
   cases q:ob[k]? with
   | none=>rw [q] at f;cases f
   | some hs=>
    have:=D k hs o_ q
    subst this
    rw [q] at f
    simp at f
 have alive:∀ {k b:Nat},aH (ob.take obs.length) obs k b->aH ob (obs++Ah n .dead) k b:=fun {k b} ⟨c,hs,m,r,e3,e4⟩=>by
  have e:=(Ab.1 m).1
  exact ⟨c,hs,(left e).2.trans m,r,(left e).1▸e3,e4⟩
 refine ⟨⟨h.imm,by simp;omega,fun k c s=>?_,fun k b l=>h.lt k b (alive l),fun i j b l z=>h.inj i j b (alive l) (alive z)⟩,o,fun {M0 ob0 d w0} hx h0=>⟨hx.imm,hx.new,fun k hs e=>?_,hx.os,hx.tape,hx.output,hx.size,hx.keep,fun k b l=>hx.fresh k b (alive l)⟩⟩
 .have e:=(Ab.1 s).1
  obtain ⟨hs,m,p⟩:=h.obj k c ((left e).2.trans s)
  refine ⟨hs,(left e).1.trans m,?_⟩
  cases c with
  | cells T cs=>
   obtain ⟨b,B,A,cv,x,y,C,t⟩:=p
   exact ⟨b,B,A,cv,x,y,C,fun i v a f l=>(t i v a f l).monoA o⟩
  | _=>exact p
 .obtain ⟨hs',m,r⟩:=hx.hs k hs e
  have u:=(Ab.1 e).1
  exact ⟨hs',(left o_).1.trans m,r⟩
theorem BP (obs:List AObj) (j g:Nat):iY [] obs j g=g:=rfl
theorem KX (base:Nat) (obs:List AObj):∀ n,embV [] base obs n=embV [] base [] n:=by
 intro n
 induction n with
 | zero=>rfl
 | succ n b=>
  funext a
  cases a<;>simp only [embV,BP,b]
def hY (base:Nat) (new:List AObj):List AObj:=new.map (pG [] base [] 0)
theorem Mem.emb0 (h:Mem M ob L w) {base:Nat} {new:List AObj} {d:Hs} (F:base+new.length<=L.length) (H:∀ j,j<new.length->ob[base+j]? =some [])
  (p:Ext M [] [] w M' d new w') (Q:Mem M' d new w'):
  Mem M' (ob.take base++d++ob.drop (base+d.length)) (L.take base++hY base new++L.drop (base+(hY base new).length)) w'/\
   Ext M ob L w M' (ob.take base++d++ob.drop (base+d.length)) (L.take base++hY base new++L.drop (base+(hY base new).length)) w'/\
   (∀ n v a,Rep M' d v a->Rep M' (ob.take base++d++ob.drop (base+d.length)) v (AW.embV [] base [] n a)):=by
 have r:d.length=new.length:=Q.len
 have t:(hY base new).length=new.length:=by simp [hY]
 obtain ⟨p1,Z⟩:=eM ob d base (by rw [h.len,r];exact F)
 obtain ⟨q1,X⟩:=eM L (hY base new) base (by rw [t];exact F)
 rw [r] at Z
 rw [t] at X
 have inO:∀ {j:Nat},j<new.length->(ob.take base++d++ob.drop (base+d.length))[base+j]? =d[j]?:=fun {j} m=>by
  have:=Z (base+j)
  rw [if_pos ⟨by omega,by omega⟩,Gv] at this
  rw [r];exact this
 have s:∀ {i:Nat},¬ (base<=i/\i<base+new.length)->(ob.take base++d++ob.drop (base+d.length))[i]? =ob[i]?:=fun {i} J=>by
  have:=Z i
  rw [if_neg J] at this
  rw [r];exact this
 have inL:∀ {j:Nat},j<new.length->(L.take base++hY base new++L.drop (base+(hY base new).length))[base+j]? =(new[j]?).map (pG [] base [] 0):=fun {j} m=>by
  have:=X (base+j)
  rw [if_pos ⟨by omega,by omega⟩,Gv] at this
  rw [t,this]
  simp [hY]
 have G:∀ {i:Nat},¬ (base<=i/\i<base+new.length)->(L.take base++hY base new++L.drop (base+(hY base new).length))[i]? =L[i]?:=fun {i} J=>by
  have:=X i
  rw [if_neg J] at this
  rw [t];exact this
 have R:∀ {j g:Nat} {v:Value},at' d j g=some v->at' (ob.take base++d++ob.drop (base+d.length)) (dJ [] base j) (iY [] [] j g)=some v:=by
  intro j g v K
  rw [gS (Bt _),BP]
  show at' _ (base+j) g=some v
  unfold at' at K⊢
  cases hq:d[j]? with
  | none=>rw [hq] at K;cases K
  | some hs=>
   have m:j<new.length:=by rw [<-r];exact (Ab.1 hq).1
   rw [inO m]
   exact K
 have D:∀ n v a,Rep M' d v a->Rep M' (ob.take base++d++ob.drop (base+d.length)) v (AW.embV [] base [] n a):=KY R fun K _=>R K
 have P:dL ob (ob.take base++d++ob.drop (base+d.length)):=by
  intro i hs J
  by_cases l:base<=i/\i<base+new.length
  .have e:=H (i-base) o_
   rw [show base+(i-base)=i from by omega,J] at e
   cases e
   have m:i-base<d.length:=o_
   refine ⟨d[i-base],?_,List.nil_prefix⟩
   have:=inO (j:=i-base) o_
   rw [show base+(i-base)=i from by omega] at this
   rw [this]
   exact Aa m
  .exact ⟨hs,(s l).trans J,Cz _⟩
 have I:∀ o:AObj,(pG [] base [] 0 o).owns=o.owns:=fun o=>by cases o<;>rfl
 have C:∀ {i b:Nat},aH (ob.take base++d++ob.drop (base+d.length)) (L.take base++hY base new++L.drop (base+(hY base new).length)) i b->(∃ j,j<new.length/\i=base+j/\aH d new j b)\/(¬ (base<=i/\i<base+new.length)/\aH ob L i b):=by
  rintro i b ⟨c,hs,A,W,S,e4⟩
  by_cases l:base<=i/\i<base+new.length
  .obtain ⟨j,rfl⟩:∃ j,i=base+j:=⟨i-base,by omega⟩
   have m:j<new.length:=o_
   rw [inL m] at A
   rw [inO m] at S
   obtain ⟨o,ho,rfl⟩:=Cb.1 A
   rw [I] at W
   exact .inl ⟨j,m,rfl,o,hs,ho,W,S,e4⟩
  .rw [G l] at A
   rw [s l] at S
   exact .inr ⟨l,c,hs,A,W,S,e4⟩
 have O:∀ {i b:Nat},aH ob L i b->(∀ j,¬ aH d new j b):=fun {i b} z j m=>by
  rcases p.fresh j b m with ⟨k',c,hs,e,_⟩ | q
  .simp at e
  .have:=h.lt i b z;omega
 have x:∀ b k,¬ aH ([]:Hs) [] k b:=fun b k ⟨c,hs,e,_⟩=>by simp at e
 refine ⟨⟨Q.imm,by rw [r] at p1⊢;rw [t] at q1⊢;rw [p1,q1];exact h.len,fun i c N=>?_,fun i b z=>?_,fun i i' b z V=>?_⟩,⟨p.imm,fun b o y hy=>?_,P,p.os,p.tape,p.output,p.size,fun b V hn=>p.keep b V (x b),fun i b z=>?_⟩,D⟩
 .by_cases l:base<=i/\i<base+new.length
  .obtain ⟨j,rfl⟩:∃ j,i=base+j:=⟨i-base,by omega⟩
   have m:j<new.length:=o_
   rw [inL m] at N
   obtain ⟨o,ho,rfl⟩:=Cb.1 N
   obtain ⟨hs,A,B⟩:=Q.obj j o ho
   refine ⟨hs,(inO m).trans A,?_⟩
   cases o with
   | cells T cs=>
    obtain ⟨b,t1,t2,cv,t3,t4,t5,t6⟩:=B
    obtain ⟨m1,m2⟩:=bU (D 4) t4 t6
    exact ⟨b,t1,t2,cv,t3,m1,t5,m2⟩
   | _=>exact B
  .rw [G l] at N
   obtain ⟨hs,A,B⟩:=h.obj i c N
   refine ⟨hs,(s l).trans A,B.mono p.imm P (fun b h1 h2 o Y y hy=>?_) (fun b c' h1 h2 U=>?_)⟩
   .have z:aH ob L i b:=(cM N A).2 ⟨h1,h2⟩
    rcases p.new b o y hy with q | q | ⟨k,q⟩
    .exact Y y q
    .have:=h.lt i b z;omega
    .exact x b k q
   .have z:aH ob L i b:=(cM N A).2 ⟨h1,h2⟩
    rw [p.keep b (h.lt i b z) (x b)]
    exact U
 .rcases C z with ⟨j,m,rfl,f⟩ | ⟨_,f⟩
  .exact Q.lt j b f
  .exact Dp (h.lt i b f) p.size
 .rcases C z with ⟨j,m,rfl,f⟩ | ⟨_,f⟩<;>rcases C V with ⟨j',hj',rfl,u⟩ | ⟨_,u⟩
  .rw [Q.inj j j' b f u]
  .exact absurd f (O u j)
  .exact absurd u (O f j')
  .exact h.inj i i' b f u
 .rcases p.new b o y hy with q | q | ⟨k,q⟩
  .exact .inl q
  .exact .inr (.inl q)
  .exact (x b k q).elim
 .rcases C z with ⟨j,m,rfl,f⟩ | ⟨_,f⟩
  .rcases p.fresh j b f with ⟨k,q⟩ | q
   .exact (x b k q).elim
   .exact .inr q
  .exact .inl ⟨i,f⟩
end
section
variable {M:Imm} {ob:Hs} {n:Nat}
theorem iH {k n:Nat} (h:Dy k n=true):k<n:=by simpa [Fe] using h
theorem iI {k g:Nat} {v:Value} (a:k<n) (h:at' ob k g=some v):at' (ob.take n) k g=some v:=by
 unfold at' at *
 rw [Bl a]
 exact h
theorem kK {f:AVal->Bool}:∀ {l:List AVal},B8 f l=true->∀ (i:Nat) a,l[i]? =some a->f a=true
 | [],_,i,a,h=>by simp at h
 | c::r,hb,i,a,h=>by
  simp only [B8,Af] at hb
  cases i with
  | zero=>simp at h;subst h;exact hb.1
  | succ i=>exact kK hb.2 i a (by simpa using h)
theorem B7 {v:Value} {t:Tk} (h:qZ ob v t) (a:aH2 n t=true):qZ (ob.take n) v t:=by
 cases t with
 | own k g=>exact iI (iH a) h
 | _=>exact h
theorem xY:∀ (m:Nat) {v:Value} {a:AVal},Rep M ob v a->bel n m a=true->Rep M (ob.take n) v a:=by
 intro m
 induction m with
 | zero=>intro v a _ h;cases h
 | succ m r=>
  intro v a h d
  cases h with
  | undef v=>exact .undef v
  | bool b=>exact .bool b
  | int k n A=>exact .int k n A
  | str l hl=>exact .str l hl
  | agg vs as hl h=>exact .agg vs as hl fun i v a p f=>r (h i v a p f) (kK d i a f)
  | tup vs as hl h=>exact .tup vs as hl fun i v a p f=>r (h i v a p f) (kK d i a f)
  | ptr b o cs h=>exact .ptr b o cs h
  | ref k off b h=>exact .ref k off b (iI (iH d) h)
  | eref k g i e off b n c h=>exact .eref k g i e off b n c (iI (iH d) h)
  | csl k off len e b h hm=>exact .csl k off len e b (iI (iH d) h) hm
  | row k g a n c h=>exact .row k g a n c (iI (iH d) h)
  | sub k g lo len e b n c h hl s j hm=>exact .sub k g lo len e b n c (iI (iH d) h) hl s j hm
  | sub0 k g lo e a z n c h hl j=>exact .sub0 k g lo e a z n c (iI (iH d) h) hl j
  | rowc k g c a n h hm=>exact .rowc k g c a n (iI (iH d) h) hm
  | pre k g n c e b len h j s hl hm=>exact .pre k g n c e b len (iI (iH d) h) j s hl hm
  | mref k b h=>exact .mref k b (iI (iH d) h)
  | nilptr=>exact .nilptr
  | nilslice=>exact .nilslice
  | nilmap=>exact .nilmap
  | nilfunc=>exact .nilfunc
  | nilif=>exact .nilif
  | hsl a n c=>exact .hsl a n c
  | slnil e t u=>exact .slnil e t (B7 u d)
  | slemp e t a q u=>exact .slemp e t a q (B7 u d)
  | sl e b o n q xs t s j hm hz h u=>exact .sl e b o n q xs t s j hm hz h (B7 u d)
  | func fn B cs y C F j h1 D=>
   obtain ⟨x,w⟩:=aS d
   exact .func fn B cs y C F j (fun i v a p f=>r (h1 i v a p f) (kK x i a f)) (fun i v a p f=>r (D i v a p f) (kK w i a f))
  | iface t v a h=>exact .iface t v a (r h d)
theorem zZ:∀ (n:Nat) (l:List AObj),lV n l=l.take n
 | 0,_=>by simp [lV]
 | n+1,[]=>by simp [lV]
 | n+1,x::r=>by simp [lV,zZ n r]
theorem LL {n:Nat}:∀ {l:List AObj},CZ n l=true->∀ (i:Nat) T cs,l[i]? =some (.cells T cs)->B8 (bel n 5) cs=true
 | [],_,i,T,cs,h=>by simp at h
 | x::r,hb,i,T,cs,h=>by
  cases i with
  | zero=>
   simp at h
   subst h
   simp only [CZ,Af] at hb
   exact hb.1
  | succ i=>
   refine LL (l:=r) ?_ i T cs (by simpa using h)
   cases x<;>first | exact hb | (simp only [CZ,Af] at hb;exact hb.2)
theorem LM {n:Nat}:∀ {l:List (Nat×AVal)},aAS n l=true->∀ t,bel n 5 (aZ l t)=true\/aZ l t= .undef
 | [],_,t=>.inr rfl
 | (i,v)::r,hb,t=>by
  simp only [aAS,Af] at hb
  simp only [aZ]
  cases Ap i t with
  | true=>exact .inl hb.1
  | false=>exact LM hb.2 t
theorem Mem.cutO {obs:List AObj} {w:World} (h:Mem M ob obs w) (o:CZ n (obs.take n)=true):Mem M (ob.take n) (obs.take n) w/\∀ {k b:Nat},aH (ob.take n) (obs.take n) k b->aH ob obs k b:=by
 have left:∀ {i:Nat} {c:AObj},(obs.take n)[i]? =some c->i<n/\obs[i]? =some c:=fun {i c} d=>by
  rw [Ft] at d
  split at d
  .exact ⟨by assumption,d⟩
  .cases d
 have alive:∀ {k b:Nat},aH (ob.take n) (obs.take n) k b->aH ob obs k b:=fun {k b} ⟨c,hs,f,e2,e3,e4⟩=>by
  obtain ⟨m,f⟩:=left f
  rw [Bl m] at e3
  exact ⟨c,hs,f,e2,e3,e4⟩
 refine ⟨⟨h.imm,by simp [h.len],fun k c d=>?_,fun k b e=>h.lt k b (alive e),fun i j b e o=>h.inj i j b (alive e) (alive o)⟩,alive⟩
 obtain ⟨m,l⟩:=left d
 obtain ⟨hs,f,g⟩:=h.obj k c l
 refine ⟨hs,by rw [Bl m];exact f,?_⟩
 cases c with
 | cells T cs=>
  obtain ⟨b,u,t,cv,q,r,x,p⟩:=g
  exact ⟨b,u,t,cv,q,r,x,fun i v a s e=>xY 5 (p i v a s e) (kK (LL o k _ cs d) i a e)⟩
 | _=>exact g
end
def fen (r:Option Nat):Fence:={Fence.wide with round:=r}
def nQ (P:Program) (o:Oper) (ρ:Operand->Value) (w:World) (R:Ending->World->Prop):Prop:=
 (∃ v w',(execOp ρ o).run P w= .ok (.value v) w'/\R (.returned v) w')\/
 (∃ w',(execOp ρ o).run P w= .ok .skip w'/\R (.returned undef) w')\/
 (∃ v w',(execOp ρ o).run P w= .halt (.panic v) w'/\R (.panicked [{v,recovered:=false}]) w')\/
 (∃ f args w',(execOp ρ o).run P w= .ok (.enter f args) w'/\Calls P f args w' fun e a=>R e a/\e≠ .outgrown)\/
 (∃ l f tmps as b w',(execOp ρ o).run P w= .ok (.round l f tmps as b) w'/\RoundIn Fence.wide 0 P l f tmps as b w' fun e a=>R e a/\e≠ .outgrown)
theorem nQ.wpIn {rd:Option Nat} {P:Program} {o:Oper} {a:Act} {w:World} {R:Ending->World->Prop} (h:nQ P o a.eval w R) {next:Act->World->Prop} {Q:Exit->Act->World->Prop}
  (k:∀ c,o.op≠ .defer c) (h1:∀ v w',R (.returned v) w'->next (a.put o.dst v) w') (p:∀ j w',R (.panicked j) w'->Q (.panic j) a w'):o.wpIn (fen rd) 0 P a w next Q:=by
 refine ⟨fun _ _=>trivial,?_⟩
 rw [Oper.semAt_eq _ _ _ k]
 rcases h with ⟨v,w',g,b⟩ | ⟨w',g,b⟩ | ⟨v,w',g,b⟩ | ⟨f,args,w',g,m⟩ | ⟨l,f,tmps,as,q,w',g,m⟩
 .rw [g];exact h1 v w' b
 .rw [g];exact h1 undef w' b
 .rw [g];exact p _ w' b
 .rw [g]
  refine ⟨fun h=>(by cases h),(callsIn_wide (n:=0)).2 (m.mono fun e d ⟨b,i⟩=>?_)⟩
  cases e with
  | returned v=>exact h1 v d b
  | panicked j=>exact p j d b
  | outgrown=>exact absurd rfl i
 .rw [g]
  refine ⟨fun h=>(by cases h),RoundIn.mono (F:=Fence.wide) m fun e d ⟨b,i⟩=>?_⟩
  cases e with
  | returned v=>exact h1 v d b
  | panicked j=>exact p j d b
  | outgrown=>exact absurd rfl i
def CI (M:Imm) (ob:Hs) (L:List AObj) (w:World) (K:AVal->List AObj->Prop) (Kp:AVal->List AObj->Prop) (e:Ending) (w':World):Prop:=
 ∃ M' ob' L',Ext M ob L w M' ob' L' w'/\Mem M' ob' L' w'/\((∃ u v,e= .returned u/\Rep M' ob' u v/\K v L')\/∃ a v,e= .panicked a/\pU M' ob' e (.pan v)/\Kp v L')
section
variable {P:Program} {E:Env} {M M':Imm} {ob ob':Hs} {obs L:List AObj} {w w':World} {K Kp:AVal->List AObj->Prop}
theorem iT.mono {f:FuncId} {b:Array Value} {R d:Ending->World->Prop} (c:∀ e w,R e w->d e w) (h:iT P f b w R):iT P f b w d:=by
 rcases h with ⟨h1,a⟩ | ⟨u,w',h1,a⟩
 .exact .inl ⟨h1,a.mono fun e w h=>c e w h⟩
 .exact .inr ⟨u,w',h1,c _ _ a⟩
theorem CI.ne {e:Ending} (h:CI M ob L w K Kp e w'):e≠ .outgrown:=by
 obtain ⟨_,_,_,_,_,⟨u,v,rfl,_⟩ | ⟨a,v,rfl,_⟩⟩:=h<;>(intro h;cases h)
theorem cU.mono {f:Fn} {a:Array Value} {R c:Ending->World->Prop} (b:∀ e w,R e w->c e w) (h:cU P f a w R):cU P f a w c:=by
 cases f with
 | func f=>exact iT.mono b h
 | yield l=>
  obtain ⟨f,tmps,as,d,h1,g⟩:=h
  exact ⟨f,tmps,as,d,h1,RoundIn.mono g b⟩
 | _=>exact h.elim
theorem iT.op {f:Fn} {c:Array Value} {o:Oper} {ρ:Operand->Value} {R:Ending->World->Prop} (a:∀ e w,R e w->e≠ .outgrown) (d:(execOp ρ o).run P w=(B6 f c).run P w) (h:cU P f c w R):nQ P o ρ w R:=by
 cases f with
 | func f=>
  rcases h with ⟨h1,b⟩ | ⟨u,w',h1,b⟩
  .exact .inr (.inr (.inr (.inl ⟨f,c,w,d.trans h1,b.mono fun e w h=>⟨h,a e w h⟩⟩)))
  .exact .inl ⟨u,w',d.trans h1,b⟩
 | yield l=>
  obtain ⟨f,tmps,as,g,h1,b⟩:=h
  exact .inr (.inr (.inr (.inr ⟨l,f,tmps,as,g,w,d.trans h1,RoundIn.mono b fun e w h=>⟨h,a e w h⟩⟩)))
 | _=>exact h.elim
theorem uP {b:Hs} {g:AVal->AVal} (c:∀ v a,Rep M ob v a->Rep M' b v (g a)) {vs:List Value} {as:List AVal} (h:cD M ob vs as):cD M' b vs (dK g as):=bU c h.1 h.2
theorem lD (hm:Mem M ob L w) {f:Fn} {args:List AVal} {i:List Value} {ks:List Nat} {r:Res} {obs':List AObj} (g:kP ks L=true) (m:cD M ob i args)
  (h:bM P f (dK (cvtV 0 ks (aE L) 5) args) (gK 0 ks L) r obs'):
  cU P f i.toArray w fun e w'=>∃ M' b,Ext M ob L w M' (hZ ks ob b) (iX ks L.length L 0 obs' L) w'/\Mem M' (hZ ks ob b) (iX ks L.length L 0 obs' L) w'/\pU M' b e r/\b.length=obs'.length/\
   ∀ n v a,Rep M' b v a->Rep M' (hZ ks ob b) v (embV ks L.length L n a):=by
 obtain ⟨o,_,_⟩:=hm.cvt (n0:=0) g
 refine cU.mono (fun e w' ⟨M',b,j,d,c⟩=>?_) (h M _ w i o (uP (fun v a=>hm.cvtV (n0:=0) g 5 v a) m))
 obtain ⟨k,l,_⟩:=hm.emb g j d
 exact ⟨M',b,l,k,c,d.len,hm.embV g j.hs pI⟩
theorem LH (hm:Mem M ob obs w) {f:Fn} {args:List AVal} {A:List Value} (C:cD M ob A args) (h:CallG P f args obs K Kp):cU P f A.toArray w (CI M ob obs w K Kp):=by
 have mono:∀ {n:Imm},(∀ b o x,M b o x->n b o x)->cD n ob A args:=fun I=>⟨C.1,fun i v a D G=>(C.2 i v a D G).monoM I⟩
 cases h with
 | pure r new h k=>
  obtain ⟨n,j,d,_,s⟩:=hm.frzL args
  refine cU.mono (fun e w' ⟨M',g,m,l,c,_,p⟩=>?_) (lD (ks:=[]) j rfl (mono d.imm) h)
  refine ⟨M',_,_,d.trans m,l,.inl ?_⟩
  rw [bF,<-s] at k
  cases e with
  | returned u=>exact ⟨u,_,rfl,p 5 u r c,k⟩
  | panicked q=>exact c.elim
  | outgrown=>exact c.elim
 | eff B ks r obs' y h k=>
  obtain ⟨n,j,d,_,s⟩:=Mem.frzs B M obs hm
  refine cU.mono (fun e w' ⟨M',g,m,l,c,_,p⟩=>?_) (lD j y (mono d.imm) h)
  refine ⟨M',_,_,d.trans m,l,.inl ?_⟩
  rw [bF] at k
  cases e with
  | returned u=>exact ⟨u,_,rfl,p 5 u r c,k⟩
  | panicked q=>exact c.elim
  | outgrown=>exact c.elim
 | effp B ks r obs' y h k=>
  obtain ⟨n,j,d,_,s⟩:=Mem.frzs B M obs hm
  refine cU.mono (fun e w' ⟨M',g,m,l,c,_,p⟩=>?_) (lD j y (mono d.imm) h)
  refine ⟨M',_,_,d.trans m,l,.inr ?_⟩
  rw [bF] at k
  cases e with
  | returned u=>exact c.elim
  | panicked q=>
   obtain ⟨v,t,z⟩:=c
   exact ⟨q,_,rfl,⟨v,t,p 5 v r z⟩,k⟩
  | outgrown=>exact c.elim
 | pan r h k=>
  obtain ⟨n,j,d,_,s⟩:=hm.frzL args
  refine cU.mono (fun e w' ⟨M',g,m,l,c,F,p⟩=>?_) (lD (ks:=[]) j rfl (mono d.imm) h)
  have H:g=[]:=Aq (by simpa using F)
  subst H
  refine ⟨M',_,_,d.trans m,l,.inr ?_⟩
  cases e with
  | returned u=>exact c.elim
  | panicked q=>
   obtain ⟨v,t,z⟩:=c
   exact ⟨q,r,rfl,⟨v,t,z.pure⟩,k⟩
  | outgrown=>exact c.elim
theorem yX {VS:AVal->List AObj->Prop} {CS:Fn->List AVal->Prop} {PS:AVal->Prop} {a:List AObj} {base:Nat} (d:base=aO obs):∀ {r:OR},Sd VS CS PS a base r->orF P obs K Kp r->
  (∃ v,VS v a/\K v obs)\/(∃ k x v,VS v (bL a k x)/\K v (bL obs k x))\/(∃ f args,CS f args/\CallG P f args obs K Kp)\/∃ v,PS v/\Kp v obs
 | .no,_,k=>k.elim
 | .val v,h,k=>.inl ⟨v,h,k⟩
 | .mkf fn fs cs,h,k=>.inl ⟨_,h,k⟩
 | .need p r,h,k=>yX d (h k.1) k.2
 | .alt p v w,h,k=>by
  rcases k with ⟨hp,k⟩ | k
  .exact .inl ⟨v,h.1 hp,k⟩
  .exact .inl ⟨w,h.2,k⟩
 | .idx n f,h,⟨i,hi,k⟩=>yX d (h i hi) k
 | .elem xs i f,h,⟨x,hx,k⟩=>yX d (h x hx) k
 | .byte l i,h,⟨c,hc,k⟩=>.inl ⟨_,h c hc,k⟩
 | .text xs,h,⟨l,hl,hm,k⟩=>.inl ⟨_,h l hl hm,k⟩
 | .find es key f,h,⟨o,ho,k⟩=>by subst ho;exact yX d (r:=f (bO es key)) h k
 | .born x v,h,k=>.inr (.inl ⟨base,x,v,h,by rw [d];exact k⟩)
 | .upd i x v,h,k=>.inr (.inl ⟨i,x,v,h,k⟩)
 | .nilq xs neg,⟨b,h1,h2⟩,k=>.inl ⟨_,h2,k b h1⟩
 | .call f args,h,k=>.inr (.inr (.inl ⟨f,args,h,k⟩))
 | .pan v,h,k=>.inr (.inr (.inr ⟨v,h,k⟩))
theorem AE (l:List AObj) (n:Nat):aE (l++Ah n .dead)=aE l:=by
 funext i
 induction l generalizing i with
 | nil=>
  induction n generalizing i with
  | zero=>rfl
  | succ n a=>
   cases i with
   | zero=>rfl
   | succ i=>have:=a i;simpa [aE,Kd] using this
 | cons x r a=>
  cases i with
  | zero=>rfl
  | succ i=>exact a i
theorem JJ (l:List AObj) (x:AObj):∀ k,(k<l.length->bL (l++[.dead]) k x=bL l k x++[.dead])/\(l.length<=k->bL (l++[.dead]) k x=bL l k x):=by
 induction l with
 | nil=>
  intro k
  refine ⟨fun h=>by simp at h,fun _=>?_⟩
  cases k with
  | zero=>rfl
  | succ k=>rfl
 | cons y r b=>
  intro k
  cases k with
  | zero=>exact ⟨fun _=>rfl,fun h=>by simp at h⟩
  | succ k=>
   obtain ⟨h1,a⟩:=b k
   exact ⟨fun h=>by show y::bL (r++[.dead]) k x=y::(bL r k x++[.dead]);rw [h1 (by simpa using h)],fun h=>by show y::bL (r++[.dead]) k x=y::bL r k x;rw [a (by simpa using h)]⟩
theorem aGL {k g:Nat} {v:Value} (h:at' (ob++[[]]) k g=some v):at' ob k g=some v:=by
 unfold at' at *
 by_cases b:k<ob.length
 .rwa [Ag b] at h
 .rw [Ak o_] at h
  cases a:([[]]:Hs)[k-ob.length]? with
  | none=>rw [a] at h;cases h
  | some hs=>
   rw [a] at h
   have:hs=[]:=by
    have:=Av a
    simpa using this
   subst this
   simp at h
theorem xK (hE:EnvOK E) (hm:Mem M ob obs w) {ρv:Operand->Value} {ρ:Operand->AVal} (C:∀ x,Rep M ob (ρv x) (ρ x)) {hint:Nat} {p:Oper} (h:orF E.P obs K Kp (eop E hint (aO obs) (aE obs) ρ p.op p.type)):
  nQ E.P p ρv w (CI M ob obs w K Kp):=by
 obtain ⟨dst,op,ty,pos,b,t⟩:=p
 obtain ⟨G,A,R⟩:=hm.extend 1
 have y:ob.length=obs.length:=hm.len
 have r:(obs++Ah 1 AObj.dead)[aO obs]? =some .dead:=by rw [bF];simp
 have q:(ob++Ah 1 ([]:List Value))[aO obs]? =some []:=by rw [bF,<-y];simp
 have hs:=uX hE G r q (fun x=>(C x).mono (fun _ _ _ h=>h) A.hs) hint op ty
 rw [AE] at hs
 have I:Ah 1 AObj.dead=[.dead]:=rfl
 -- a value,where no number was taken
 have fin:∀ {v:AVal} {obs':List AObj},obs'.length=obs.length->K v obs'->VS E.P ρv op ty M (ob++Ah 1 []) (obs++Ah 1 .dead) w v (obs'++Ah 1 .dead)->nQ E.P ⟨dst,op,ty,pos,b,t⟩ ρv w (CI M ob obs w K Kp):=by
  intro v obs' hl j ⟨u,w',M',ob',vs⟩
  have l:∀ (i:Nat) hs,obs'.length<=i->ob'[i]? =some hs->hs=[]:=by
   intro i hs Q B
   have m:=(Ab.1 B).1
   rw [vs.mem.len] at m
   simp at m
   obtain rfl:i=aO obs:=by rw [bF];omega
   have:=(vs.still (aO obs) [] r q).2 rfl (by rw [bF,<-hl];simp)
   rw [B] at this
   cases this
   rfl
  obtain ⟨D,L,N⟩:=vs.mem.shrink l
  have c:CI M ob obs w K Kp (.returned u) w':=⟨M',_,_,N (A.trans vs.ext) o_,D,.inl ⟨u,v,rfl,vs.rep.monoA L,j⟩⟩
  rcases vs.run dst pos b t with d | ⟨d,rfl⟩
  .exact .inl ⟨u,w',d,c⟩
  .exact .inr (.inl ⟨w',d,c⟩)
 rcases yX (P:=E.P) (K:=K) (Kp:=Kp) rfl hs h with ⟨v,h1,z⟩ | ⟨k,x,v,h1,z⟩ | ⟨f,args,⟨J,o,H⟩,j⟩ | ⟨v,⟨u,d,s⟩,j⟩
 .exact fin rfl z h1
 .rw [I] at h1
  by_cases j:k<obs.length
  .rw [(JJ obs x k).1 j] at h1
   exact fin (by rw [gM _ j];simp) z h1
  .rw [(JJ obs x k).2 o_] at h1
   obtain ⟨u,w',M',ob',vs⟩:=h1
   have c:CI M ob obs w K Kp (.returned u) w':=⟨M',_,_,A.trans vs.ext,vs.mem,.inl ⟨u,v,rfl,vs.rep,z⟩⟩
   rcases vs.run dst pos b t with d | ⟨d,rfl⟩
   .exact .inl ⟨u,w',d,c⟩
   .exact .inr (.inl ⟨w',d,c⟩)
 .have n:cD M ob J args:=⟨o.1,fun i v a F O=>(o.2 i v a F O).monoA fun k g v=>aGL⟩
  exact iT.op (fun e w h=>h.ne) (H dst pos b t) (LH hm n j)
 .exact .inr (.inr (.inl ⟨u,w,d dst pos b t,M,ob,obs,Ext.refl _ _ _ _,hm,.inr ⟨_,v,rfl,⟨u,rfl,s.pure⟩,j⟩⟩))
end
open Classical
structure AS where
 g:Nat->AVal
 o:Nat->AObj
 br:Nat->Nat->Prop
def hC (g:Nat->AVal) (d:Option Nat) (z:AVal):Nat->AVal:=fun t=>if d=some t then z else g t
def inB (base n k:Nat):Prop:=base<=k/\k<base+n
noncomputable def lQ (o:Nat->AObj) (base:Nat) (bs:List AObj):Nat->AObj:=fun k=>if inB base bs.length k then bs.getD (k-base) .dead else o k
noncomputable def AS.upd (s:AS) (i:Nat) (d:Option Nat) (z:AVal) (base:Nat) (bs:List AObj):AS:=⟨hC s.g d z,lQ s.o base bs,fun a k=>s.br a k\/(a=i/\inB base bs.length k)⟩
def KC (tab:List Nat) (j:Nat) (br:Nat->Nat->Prop) (k:Nat):Prop:=∃ i,br i k/\cK (cV tab j) i=false
noncomputable def lT (tab:List Nat) (j:Nat) (s:AS):Nat->AObj:=fun k=>if KC tab j s.br k then .dead else s.o k
def evG (tab:List Nat) (all:List Oper) (j:Nat) (g:Nat->AVal):Operand->AVal
 | .tmp t=>bif KB tab j t 0 all then .undef else g t
 | x=>ev [] x
theorem aGj (tab:List Nat) (all:List Oper) (j:Nat) (fr:List (Nat×AVal)):evH tab all j fr=evG tab all j (aZ fr):=by
 funext x
 cases x<;>rfl
def fK (P:Program) (og:Nat->AObj) (base:Nat) (z:AVal) (bs:List AObj):OR->Prop
 | .val v=>z=v/\bs=[]
 | .mkf fn a cs=>z= .func fn a cs/\bs=[]
 | .need p r=>p/\fK P og base z bs r
 | .alt p v w=>((p/\z=v)\/z=w)/\bs=[]
 | .idx n f=>∃ i:Nat,n=(i:Int)/\fK P og base z bs (f i)
 | .elem xs i f=>∃ x,xs[i]? =some x/\fK P og base z bs (f x)
 | .byte l i=>∃ c,l[i]? =some c/\z= .int .u8 (c.toNat:Int)/\bs=[]
 | .text xs=>∃ l:List UInt8,xs=l.map ub/\(l.length:Int)<=9223372036854775807/\z= .str l/\bs=[]
 | .find es key f=>fK P og base z bs (f (bO es key))
 | .born x v=>z=v/\bs=[x]
 | .call f args=>∃ r new,bM P f (dK (cvtV 0 [] og 5) args) [] (.ret r) new/\z=embV [] base [] 5 r/\bs=hY base new
 | _=>False
theorem yW {P:Program} {og:Nat->AObj} {VS:AVal->List AObj->Prop} {CS:Fn->List AVal->Prop} {PS:AVal->Prop} {b:List AObj} {a base:Nat} {z:AVal} {bs:List AObj}:∀ {r:OR},Sd VS CS PS b a r->fK P og base z bs r->
  (VS z b/\bs=[])\/(∃ x,VS z (bL b a x)/\bs=[x])\/∃ f args d new,CS f args/\bM P f (dK (cvtV 0 [] og 5) args) [] (.ret d) new/\z=embV [] base [] 5 d/\bs=hY base new
 | .no,_,k=>k.elim
 | .val v,h,⟨k1,k2⟩=>.inl ⟨k1▸h,k2⟩
 | .mkf fn fs cs,h,⟨k1,k2⟩=>.inl ⟨k1▸h,k2⟩
 | .need p r,h,k=>yW (h k.1) k.2
 | .alt p v w,h,⟨k1,k2⟩=>by
  rcases k1 with ⟨hp,k⟩ | k
  .exact .inl ⟨k▸h.1 hp,k2⟩
  .exact .inl ⟨k▸h.2,k2⟩
 | .idx n f,h,⟨i,hi,k⟩=>yW (h i hi) k
 | .elem xs i f,h,⟨x,hx,k⟩=>yW (h x hx) k
 | .byte l i,h,⟨c,hc,k1,k2⟩=>.inl ⟨k1▸h c hc,k2⟩
 | .text xs,h,⟨l,hl,hm,k1,k2⟩=>.inl ⟨k1▸h l hl hm,k2⟩
 | .find es key f,h,k=>yW (r:=f (bO es key)) h k
 | .born x v,h,⟨k1,k2⟩=>.inr (.inl ⟨x,k1▸h,k2⟩)
 | .upd i x v,h,k=>k.elim
 | .nilq xs neg,h,k=>k.elim
 | .call f args,h,⟨r,new,k1,k2,k3⟩=>.inr (.inr ⟨f,args,r,new,h,k1,k2,k3⟩)
 | .pan v,h,k=>k.elim
def FU (z:AVal) (k:Nat) (x:AObj):OR->Prop
 | .need p r=>p/\FU z k x r
 | .idx n f=>∃ i:Nat,n=(i:Int)/\FU z k x (f i)
 | .elem xs i f=>∃ y,xs[i]? =some y/\FU z k x (f y)
 | .find es key f=>FU z k x (f (bO es key))
 | .upd a x' v=>a=k/\x'=x/\z=v
 | _=>False
theorem sQ {VS:AVal->List AObj->Prop} {CS:Fn->List AVal->Prop} {PS:AVal->Prop} {a:List AObj} {base:Nat} {z:AVal} {k:Nat} {x:AObj}:∀ {r:OR},Sd VS CS PS a base r->FU z k x r->VS z (bL a k x)
 | .no,_,h=>h.elim
 | .val v,_,h=>h.elim
 | .mkf fn fs cs,_,h=>h.elim
 | .need p r,h,u=>sQ (h u.1) u.2
 | .alt p v w,_,h=>h.elim
 | .idx n f,h,⟨i,hi,u⟩=>sQ (h i hi) u
 | .elem xs i f,h,⟨y,hy,u⟩=>sQ (h y hy) u
 | .byte l i,_,h=>h.elim
 | .text xs,_,h=>h.elim
 | .find es key f,h,u=>sQ (r:=f (bO es key)) h u
 | .born x v,_,h=>h.elim
 | .upd i y v,h,⟨e1,e2,e3⟩=>by subst e1 e2 e3;exact h
 | .nilq xs neg,_,h=>h.elim
 | .call f args,_,h=>h.elim
 | .pan v,_,h=>h.elim
theorem kM {P:Program} {og:Nat->AObj} {b base hint a:Nat} {e:TypeId} {xs:List AVal} {z:AVal}:¬ fK P og b z [] (nN hint base a e xs):=by
 unfold nN
 split<;>(intro h;have:=h.2;cases this)
theorem K2 {P:Program} {og:Nat->AObj} {b:Nat} {c:Bool} {r:OR} {z:AVal} {bs:List AObj} (h:fK P og b z bs (bif c then r else .no)):fK P og b z bs r:=by
 cases c with
 | true=>exact h
 | false=>exact h.elim
theorem UE {P:Program} {E:Env} {og:Nat->AObj} {b base d hint:Nat} {ρ:Operand->AVal} {op:Op} {ty:TypeId} {z:AVal}:fK P og b z [] (kD E hint base og ρ op ty)->fK P og b z [] (kD E hint d og ρ op ty):=by
 have g:∀ (t k:Nat) (x y:AVal),fK P og b z [] (qP E hint base og t k x y)->fK P og b z [] (qP E hint d og t k x y):=by
  intro t k x y
  unfold qP
  split
  .rename_i e a u _ _ _ _
   cases Ew 1 a with
   | false=>exact id
   | true=>
    simp only [cond_true]
    split
    .exact id
    .split
     .split
      .exact id
      .rename_i j _ _
       cases Ap j a with
       | false=>exact id
       | true=>exact fun h=>(kM h.2).elim
      .rename_i j _ _
       cases Ap j a with
       | false=>exact id
       | true=>
             intro h
             refine ⟨h.1,?_⟩
             have m:=h.2
             clear h
             cases hint with
             | zero=>exact m
             | succ n=>exact (kM m.2).elim
      .exact id
     .exact fun h=>(kM h.2).elim
     .exact id
     .exact id
     .exact id
  .exact id
 cases op
 case assign x=>
  simp only [kD]
  split
  .exact id
  .split
   .split
    .split
     .split
      .exact fun h=>(kM (K2 h)).elim
      .exact id
     .exact id
    .exact id
   .exact id
 case alloc t=>
  simp only [kD]
  split
  .rename_i o _
   cases mY o.zero.cells with
   | false=>exact id
   | true=>intro h;have:=h.2;cases this
  .exact id
 case box t x=>
  simp only [kD]
  cases mY (ρ x).cells with
  | false=>exact id
  | true=>intro h;have:=h.2;cases this
 case buildSlice t n ps=>
  simp only [kD]
  unfold kZ
  split
  .rename_i e a _ _ _ _ _
   cases (Ap (X6 (evL ρ ps.toList)) n&&Ew (n*a) 1000&&Ew 1 a) with
   | false=>exact id
   | true=>
    simp only [cond_true]
    split
    .split
     .exact id
     .exact fun h=>(kM h).elim
    .exact id
  .exact id
 case makeSlice t x y=>
  simp only [kD]
  unfold RD
  split
  .split
   .rename_i q _
    intro h
    cases l:(Ew 1 _&&AG (pureV (fun _=>.dead) 4 q.zero)) with
    | false=>rw [l] at h;exact h.elim
    | true=>
     rw [l] at h
     obtain ⟨i,_,_,h⟩:=h
     have:=h.2
     cases this
   .exact id
  .exact id
 case makeMap t x=>
  cases x with
  | some x=>exact id
  | none=>
   simp only [kD]
   split
   .split
    .intro h;have:=h.2;cases this
    .exact id
   .exact id
 case call c=>
  obtain ⟨callee,args,p⟩:=c
  cases callee with
  | value f=>exact id
  | invoke r n=>exact id
  | builtin s=>
   simp only [kD]
   split
   .exact id
   .exact id
   .exact id
   .exact g _ _ _ _
   .exact id
   .exact id
   .exact id
   .exact id
 all_goals exact id
theorem aDo {P:Program} {og:Nat->AObj} {b:Nat} {z:AVal} {n:Int} {p:Nat->Prop} {x:Nat->AObj} {v:AVal}:¬ fK P og b z [] (.idx n fun y=>.need (p y) (.born (x y) v)):=by
 rintro ⟨i,_,_,h⟩
 have:=h.2
 cases this
theorem aAp {P:Program} {E:Env} {og:Nat->AObj} {b base a hint:Nat} {ρ:Operand->AVal} {op:Op} {ty:TypeId} {z:AVal}:fK P og b z [] (eop E hint base og ρ op ty)->fK P og b z [] (eop E hint a og ρ op ty):=by
 unfold eop
 have e:(∃ r,jK E hint base og ρ op=some r/\jK E hint a og ρ op=some r)\/(jK E hint base og ρ op=none/\jK E hint a og ρ op=none)\/∃ r,jK E hint base og ρ op=some r/\¬ fK P og b z [] r:=by
  have same:∀ {o:Option OR},jK E hint base og ρ op=o->jK E hint a og ρ op=o->(∃ r,jK E hint base og ρ op=some r/\jK E hint a og ρ op=some r)\/(jK E hint base og ρ op=none/\jK E hint a og ρ op=none)\/∃ r,jK E hint base og ρ op=some r/\¬ fK P og b z [] r:=fun {o} h1 d=>by
   cases o with
   | none=>exact .inr (.inl ⟨h1,d⟩)
   | some r=>exact .inl ⟨r,h1,d⟩
  cases op with
  | call c=>
   obtain ⟨callee,args,k⟩:=c
   cases callee with
   | value f=>exact same rfl rfl
   | invoke r n=>exact same rfl rfl
   | builtin i=>
    cases i with
    | append=>
     simp only [jK]
     split
     .split
      .refine .inr (.inr ⟨_,rfl,?_⟩)
       unfold RC
       split
       .split
        .intro h
         exact aDo (K2 h)
        .exact fun h=>h.elim
       .exact fun h=>h.elim
      .exact .inr (.inl ⟨rfl,rfl⟩)
     .exact .inr (.inl ⟨rfl,rfl⟩)
    | _=>exact same rfl rfl
  | slice t x lo g j=>cases lo<;>cases g<;>cases j<;>exact same rfl rfl
  | _=>exact same rfl rfl
 rcases e with ⟨r,h1,d⟩ | ⟨h1,d⟩ | ⟨r,h1,d⟩
 .rw [h1,d];exact id
 .rw [h1,d];exact UE
 .rw [h1];exact fun h=>(d h).elim
def xI:List AObj->Nat->List AObj->List AObj
 | obs,_,[]=>obs
 | obs,base,x::r=>xI (bL obs base x) (base+1) r
theorem ET (base:Nat) (a:List AObj):∀ (new:List AObj) (j:Nat) (obs:List AObj),iX [] base a j new obs=xI obs (base+j) (hY base new)
 | [],j,obs=>rfl
 | x::r,j,obs=>by
  have e:dJ [] base j=base+j:=by rw [gS (Bt _)];rfl
  have b:pG [] base a j x=pG [] base [] 0 x:=by cases x<;>simp only [pG,BP,KX base a]
  simp only [iX,hY,Bk,xI]
  rw [ET base a r (j+1),e,b]
  rfl
theorem oT {P:Program} {j bl:Bool} {d obs:List AObj} {base:Nat} {K Kp:AVal->List AObj->Prop}:∀ {r:OR},orD P false j bl d obs base K Kp r->
  (∃ z bs,(bl=true->bs=[])/\fK P (aE d) base z bs r/\K z (xI obs base bs))\/∃ z k x,j=true/\aE d k≠ .dead/\FU z k x r/\K z (bL obs k x)
 | .no,k=>k.elim
 | .val v,k=>.inl ⟨v,[],fun _=>rfl,⟨rfl,rfl⟩,k⟩
 | .mkf fn fs cs,k=>.inl ⟨_,[],fun _=>rfl,⟨rfl,rfl⟩,k⟩
 | .need p r,⟨hp,k⟩=>by
  rcases oT k with ⟨z,bs,b,h1,a⟩ | ⟨z,g,x,b,h1,a,h3⟩
  .exact .inl ⟨z,bs,b,⟨hp,h1⟩,a⟩
  .exact .inr ⟨z,g,x,b,h1,⟨hp,a⟩,h3⟩
 | .alt p v w,k=>by
  rcases k with ⟨hp,k⟩ | k
  .exact .inl ⟨v,[],fun _=>rfl,⟨.inl ⟨hp,rfl⟩,rfl⟩,k⟩
  .exact .inl ⟨w,[],fun _=>rfl,⟨.inr rfl,rfl⟩,k⟩
 | .idx n f,⟨i,hi,k⟩=>by
  rcases oT k with ⟨z,bs,b,h1,a⟩ | ⟨z,g,x,b,h1,a,h3⟩
  .exact .inl ⟨z,bs,b,⟨i,hi,h1⟩,a⟩
  .exact .inr ⟨z,g,x,b,h1,⟨i,hi,a⟩,h3⟩
 | .elem xs i f,⟨y,hy,k⟩=>by
  rcases oT k with ⟨z,bs,b,h1,a⟩ | ⟨z,g,x,b,h1,a,h3⟩
  .exact .inl ⟨z,bs,b,⟨y,hy,h1⟩,a⟩
  .exact .inr ⟨z,g,x,b,h1,⟨y,hy,a⟩,h3⟩
 | .byte l i,⟨c,hc,k⟩=>.inl ⟨_,[],fun _=>rfl,⟨c,hc,rfl,rfl⟩,k⟩
 | .text xs,⟨l,hl,hm,k⟩=>.inl ⟨_,[],fun _=>rfl,⟨l,hl,hm,rfl,rfl⟩,k⟩
 | .find es key f,⟨o,ho,k⟩=>by
  subst ho
  rcases oT k with ⟨z,bs,b,h1,a⟩ | ⟨z,g,x,b,h1,a,h3⟩
  .exact .inl ⟨z,bs,b,h1,a⟩
  .exact .inr ⟨z,g,x,b,h1,a,h3⟩
 | .born x v,k=>by
  cases bl with
  | true=>exact k.elim
  | false=>exact .inl ⟨v,[x],(fun h=>nomatch h),⟨rfl,rfl⟩,k⟩
 | .upd i x v,k=>by
  simp only [orD,La] at k
  split at k
  .rename_i h
   obtain ⟨h1,a⟩:=aS h
   exact .inr ⟨v,i,x,h1,(fun e=>by rw [e] at a;cases a),⟨rfl,rfl,rfl⟩,k⟩
  .exact k.elim
 | .nilq xs neg,k=>k.elim
 | .call f args,k=>by
  cases bl with
  | true=>exact k.elim
  | false=>
   have k:CallD P f args false d base obs K Kp:=k
   cases k with
   | pure r new h k=>exact .inl ⟨_,_,(fun h=>nomatch h),⟨r,new,h,rfl,rfl⟩,by rw [ET,Df] at k;rw [KX] at k;exact k⟩
   | sole h=>cases h
 | .pan v,k=>k.elim
section
variable {P:Program} {E:Env} {M:Imm} {ob:Hs} {L:List AObj} {w:World}
theorem eB (l:List AObj) (k:Nat):(k<l.length/\l[k]? =some (aE l k))\/(l.length<=k/\l[k]? =none/\aE l k= .dead):=by
 by_cases h:k<l.length
 .exact .inl ⟨h,tB h⟩
 .refine .inr ⟨by omega,Bj o_,?_⟩
  cases a:aE l k with
  | dead=>rfl
  | _=>exact absurd (Ab.1 (bS a s_)).1 h
noncomputable def dC (hid:Nat->Prop) (L:List AObj):List AObj:=(Db L.length).map fun k=>if hid k then .dead else aE L k
theorem DF {hid:Nat->Prop} {k:Nat} (h:k<L.length):(dC hid L)[k]? =some (if hid k then .dead else aE L k):=by
 simp [dC,Ch h]
theorem dQ {hid:Nat->Prop}:(dC hid L).length=L.length:=by simp [dC]
theorem fU {hid:Nat->Prop}:ON (dC hid L) L:=⟨dQ,fun k=>by
 rcases eB L k with ⟨h,e⟩ | ⟨h,e,_⟩
 .rw [DF h,e]
  by_cases a:hid k
  .right;rw [if_pos a]
  .left;rw [if_neg a]
 .left;rw [e,Bj (by rw [dQ];omega)]⟩
theorem fB {hid:Nat->Prop}:aE (dC hid L)=fun k=>if hid k then .dead else aE L k:=by
 funext k
 rcases eB L k with ⟨h,e⟩ | ⟨h,e,b⟩
 .exact fJ (DF h)
 .rcases eB (dC hid L) k with ⟨c,_⟩ | ⟨_,_,a⟩
  .rw [dQ] at c;omega
  .rw [a,b];split<;>rfl
def OT (M:Imm) (ob:Hs) (L:List AObj) (w:World) (z:AVal) (base:Nat) (bs:List AObj) (e:Ending) (w':World):Prop:=
 ∃ M' ob' L' u,e= .returned u/\Ext M ob L w M' ob' L' w'/\Mem M' ob' L' w'/\aE L'=lQ (aE L) base bs/\L.length<=L'.length/\Rep M' ob' u z/\∀ (k:Nat),¬ inB base bs.length k->(∀ hs,ob[k]? =some hs->hs=[])->∀ hs,ob'[k]? =some hs->hs=[]
theorem aGv (hE:EnvOK E) (hm:Mem M ob L w) {hid:Nat->Prop} {ρv:Operand->Value} {ρ:Operand->AVal} (hρ:∀ x,Rep M ob (ρv x) (ρ x)) {hint base:Nat} {p:Oper} {z:AVal} {bs:List AObj}
  (y:∀ (k:Nat),inB base bs.length k->∀ hs,ob[k]? =some hs->hs=[])
  (h:fK E.P (aE (dC hid L)) base z bs (eop E hint base (aE (dC hid L)) ρ p.op p.type)):nQ E.P p ρv w (OT M ob L w z base bs):=by
 obtain ⟨dst,op,ty,pos,i,O⟩:=p
 -- room
 obtain ⟨n,X⟩:∃ n,base+bs.length+1<=L.length+n/\0<n:=⟨base+bs.length+1,by omega,by omega⟩
 obtain ⟨X,hn0⟩:=X
 obtain ⟨B,N,m3⟩:=hm.extend n
 have K:(L++Ah n AObj.dead).length=L.length+n:=by simp
 have W:(ob++Ah n ([]:List Value)).length=L.length+n:=by simp [hm.len]
 generalize hL1:L++Ah n AObj.dead=L1 at B N m3 K
 generalize hO1:ob++Ah n ([]:List Value)=ob1 at B N m3 W
 have G:aE L1=aE L:=by rw [<-hL1];exact AE L n
 have d:∀ k,(∀ hs,ob[k]? =some hs->hs=[])->k<L1.length->ob1[k]? =some []:=fun k l m=>by
  rw [<-hO1]
  by_cases F:k<ob.length
  .rw [Ag F,Aa F,l _ (Aa F)]
  .rw [Ak o_,Ds,if_pos (by rw [hm.len] at F⊢;omega)]
 have C:aE (dC hid L1)=aE (dC hid L):=by rw [fB,fB,G]
 -- where it would be born
 obtain ⟨g,A,hbb,o,h⟩:∃ g,ob1[g]? =some []/\(bs≠[]->g=base)/\g<L1.length/\fK E.P (aE (dC hid L)) base z bs (eop E hint g (aE (dC hid L)) ρ op ty):=by
  by_cases S:bs=[]
  .subst S
   exact ⟨L.length,d _ (fun hs s=>by have:=(Ab.1 s).1;rw [hm.len] at this;omega) o_,fun h=>absurd rfl h,by omega,aAp h⟩
  .have hpos:0<bs.length:=by cases bs<;>simp at S⊢
   exact ⟨base,d base (y base ⟨Bg _,by omega⟩) o_,fun _=>rfl,by omega,h⟩
 have mw:=B.weak (fU (hid:=hid))
 have hb1:(dC hid L1)[g]? =some .dead:=mw.idle A
 have hs:=uX hE mw hb1 A (fun x=>(hρ x).mono (fun _ _ _ h=>h) N.hs) hint op ty
 rw [C] at hs
 have live:∀ {k:Nat} {c:AObj},L1[k]? =some c->(dC hid L1)[k]? =some c\/((dC hid L1)[k]? =some .dead/\(∃ hs,ob1[k]? =some hs/\hs≠[])/\L1[k]? =some c):=fun {k c} D=>by
  rcases (fU (hid:=hid) (L:=L1)).2 k with q | q
  .left;rw [q];exact D
  .by_cases H:c= .dead
   .left;rw [q,H]
   .right;exact ⟨q,B.live D H,D⟩
 have fin:∀ {u:Value} {w':World},OT M ob L w z base bs (.returned u) w'->((execOp ρv ⟨dst,op,ty,pos,i,O⟩).run E.P w= .ok (.value u) w'\/((execOp ρv ⟨dst,op,ty,pos,i,O⟩).run E.P w= .ok .skip w'/\u=undef))->nQ E.P ⟨dst,op,ty,pos,i,O⟩ ρv w (OT M ob L w z base bs):=by
  intro u w' ha U
  rcases U with U | ⟨U,rfl⟩
  .exact .inl ⟨u,w',U,ha⟩
  .exact .inr (.inl ⟨w',U,ha⟩)
 rcases yW (P:=E.P) hs h with ⟨⟨u,w',M',ob',vs⟩,rfl⟩ | ⟨x,⟨u,w',M',ob',vs⟩,rfl⟩ | ⟨f,args,r0,new,⟨va,hva,hx⟩,T,rfl,rfl⟩
 .obtain ⟨Q,v2,v3⟩:=B.revive (obs':=L1) (fU (hid:=hid)) vs.ext vs.still vs.mem (by rw [dQ]) fun k c D=>live D
  refine fin ⟨M',ob',L1,u,rfl,N.trans v2,Q,?_,by omega,vs.rep,fun k l Z hs s=>?_⟩ (vs.run dst pos i O)
  .rw [G]
   funext k
   unfold lQ
   rw [if_neg fun h=>by have:=h.2;have:=h.1;simp at *;omega]
  .have m:k<L1.length:=by rw [<-Q.len];exact (Ab.1 s).1
   have e:=d k Z m
   have H:=B.idle e
   have:=(v3 k [] H e).2 rfl H
   rw [s] at this
   cases this
   rfl
 .obtain rfl:base=g:=(hbb s_).symm
  have b:bL L1 base x=L1.set base x:=gM x o
  have r:bL (dC hid L1) base x=(dC hid L1).set base x:=gM x (by rw [dQ];exact o)
  obtain ⟨Q,v2,v3⟩:=B.revive (obs':=bL L1 base x) (fU (hid:=hid)) vs.ext vs.still vs.mem (by rw [b,r];simp [dQ]) fun k c D=>by
   by_cases l:k=base
   .subst l
    left
    rw [b,Ax o] at D
    rw [r,Ax (by rw [dQ];exact o)]
    exact D
   .rw [b,Bh (Eb l)] at D
    rw [r,Bh (Eb l)]
    exact live D
  refine fin ⟨M',ob',bL L1 base x,u,rfl,N.trans v2,Q,?_,by rw [b];simp;omega,vs.rep,fun k l Z hs s=>?_⟩ (vs.run dst pos i O)
  .funext k
   unfold lQ
   by_cases l:k=base
   .subst l
    rw [if_pos ⟨Bg _,by simp⟩,b]
    rw [fJ (Ax o)]
    simp
   .rw [if_neg fun h=>l (by have h1:=h.1;have h2:=h.2;simp at h2;omega),<-G,b]
    rcases eB L1 k with ⟨h1,I⟩ | ⟨h1,I,R⟩
    .exact fJ (by rw [Bh (Eb l)];exact I)
    .rcases eB (L1.set base x) k with ⟨h3,_⟩ | ⟨_,_,Y⟩
     .simp at h3;omega
     .rw [Y,R]
  .have hkb:k≠base:=fun e=>l ⟨by omega,by simp;omega⟩
   have m:k<L1.length:=by
    have:=(Ab.1 s).1
    rw [Q.len,b] at this
    simpa using this
   have e:=d k Z m
   have H:=B.idle e
   have:=(v3 k [] H e).2 rfl (by rw [b,Bh (Eb hkb)];exact H)
   rw [s] at this
   cases this
   rfl
 .rw [<-C] at T
  have J:=uP (fun v a=>mw.cvtV (n0:=0) (ks:=[]) rfl 5 v a) hva
  have t:(hY base new).length=new.length:=by simp [hY]
  refine iT.op (fun e w ⟨_,_,_,u,s,_⟩=>by rw [s];intro h;cases h) (hx dst pos i O) (cU.mono (fun e w' ⟨M',V,x1,x2,x3⟩=>?_) (T M [] w va B.bare J))
  have hin:∀ j,j<new.length->ob1[base+j]? =some []:=fun j hj=>d _ (y _ ⟨by omega,by rw [t];omega⟩) o_
  obtain ⟨I,R,Y⟩:=B.emb0 (by rw [t] at X;omega) hin x1 x2
  obtain ⟨q1,q2⟩:=eM L1 (hY base new) base (by rw [t] at X⊢;omega)
  obtain ⟨p1,p2⟩:=eM ob1 V base (by rw [x2.len];rw [t] at X;omega)
  cases e with
  | panicked ch=>exact x3.elim
  | outgrown=>exact x3.elim
  | returned u=>
   refine ⟨M',_,_,u,rfl,N.trans R,I,?_,by rw [q1];omega,Y 5 u r0 x3,fun k l Z hs s=>?_⟩
   .funext k
    unfold lQ
    by_cases l:inB base (hY base new).length k
    .rw [if_pos l]
     have m:k-base<(hY base new).length:=by have:=l.1;have:=l.2;omega
     refine fJ ?_
     rw [q2,if_pos (show base<=k/\k<base+(hY base new).length from l),Dv,Aa m]
     rfl
    .rw [if_neg l,<-G]
     rcases eB L1 k with ⟨h1,I⟩ | ⟨h1,I,R⟩
     .exact fJ (by rw [q2,if_neg (show ¬ (base<=k/\k<base+(hY base new).length) from l)];exact I)
     .rcases eB (L1.take base++hY base new++L1.drop (base+(hY base new).length)) k with ⟨h3,_⟩ | ⟨_,_,Y⟩
      .rw [q1] at h3;omega
      .rw [Y,R]
   .rw [p2,if_neg (show ¬ (base<=k/\k<base+V.length) from by rw [x2.len,<-t];exact l)] at s
    have m:k<L1.length:=by rw [<-B.len];exact (Ab.1 s).1
    rw [d k Z m] at s
    cases s
    rfl
def aA9 (M:Imm) (ob:Hs) (L:List AObj) (w:World) (z:AVal) (k:Nat) (x:AObj) (e:Ending) (w':World):Prop:=
 ∃ M' ob' L' u,e= .returned u/\Ext M ob L w M' ob' L' w'/\Mem M' ob' L' w'/\(aE L'=fun a=>if a=k then x else aE L a)/\L.length<=L'.length/\Rep M' ob' u z/\∀ (a:Nat),(∀ hs,ob[a]? =some hs->hs=[])->∀ hs,ob'[a]? =some hs->hs=[]
theorem aDF (hE:EnvOK E) (hm:Mem M ob L w) {hid:Nat->Prop} {ρv:Operand->Value} {ρ:Operand->AVal} (U:∀ x,Rep M ob (ρv x) (ρ x)) {hint base:Nat} {p:Oper} {z:AVal} {k:Nat} {x:AObj}
  (r:∀ hs,ob[base]? =some hs->hs=[]) (F:aE (dC hid L) k≠ .dead) (h:FU z k x (eop E hint base (aE (dC hid L)) ρ p.op p.type)):nQ E.P p ρv w (aA9 M ob L w z k x):=by
 obtain ⟨dst,op,ty,pos,o,Y⟩:=p
 obtain ⟨n,hn,W⟩:∃ n,base+1<=L.length+n/\0<n:=⟨base+1,by omega,by omega⟩
 obtain ⟨t,G,S⟩:=hm.extend n
 have s:(L++Ah n AObj.dead).length=L.length+n:=by simp
 have C:(ob++Ah n ([]:List Value)).length=L.length+n:=by simp [hm.len]
 generalize N:L++Ah n AObj.dead=L1 at t G S s
 generalize K:ob++Ah n ([]:List Value)=ob1 at t G S C
 have D:aE L1=aE L:=by rw [<-N];exact AE L n
 have g:∀ k,(∀ hs,ob[k]? =some hs->hs=[])->k<L1.length->ob1[k]? =some []:=fun k F A=>by
  rw [<-K]
  by_cases a:k<ob.length
  .rw [Ag a,Aa a,F _ (Aa a)]
  .rw [Ak o_,Ds,if_pos (by rw [hm.len] at a⊢;omega)]
 have f:aE (dC hid L1)=aE (dC hid L):=by rw [fB,fB,D]
 have i:=g base r o_
 have T:=t.weak (fU (hid:=hid))
 have J:(dC hid L1)[base]? =some .dead:=T.idle i
 have hs:=uX hE T J i (fun x=>(U x).mono (fun _ _ _ h=>h) G.hs) hint op ty
 rw [f] at hs
 have live:∀ {k:Nat} {c:AObj},L1[k]? =some c->(dC hid L1)[k]? =some c\/((dC hid L1)[k]? =some .dead/\(∃ hs,ob1[k]? =some hs/\hs≠[])/\L1[k]? =some c):=fun {k c} m=>by
  rcases (fU (hid:=hid) (L:=L1)).2 k with q | q
  .left;rw [q];exact m
  .by_cases y:c= .dead
   .left;rw [q,y]
   .right;exact ⟨q,t.live m y,m⟩
 have a:k<L1.length:=by
  have:=bS (l:=dC hid L1) (n:=k) rfl (by rw [f];exact F)
  have:=(Ab.1 this).1
  rwa [dQ] at this
 obtain ⟨u,w',M',ob',vs⟩:=sQ hs h
 have d:bL (dC hid L1) k x=(dC hid L1).set k x:=gM x (by rw [dQ];exact a)
 obtain ⟨O,V,X⟩:=t.revive (obs':=L1.set k x) (fU (hid:=hid)) vs.ext vs.still vs.mem (by rw [d];simp [dQ]) fun j c m=>by
  by_cases b:j=k
  .subst b
   left
   rw [Ax a] at m
   rw [d,Ax (by rw [dQ];exact a)]
   exact m
  .rw [Bh (Eb b)] at m
   rw [d,Bh (Eb b)]
   exact live m
 have B:aA9 M ob L w z k x (.returned u) w':=by
  refine ⟨M',ob',L1.set k x,u,rfl,G.trans V,O,?_,by simp;omega,vs.rep,fun j hf hs Q=>?_⟩
  .funext j
   by_cases b:j=k
   .subst b
    rw [if_pos rfl]
    exact fJ (Ax a)
   .rw [if_neg b,<-D]
    rcases eB L1 j with ⟨h1,R⟩ | ⟨h1,R,H⟩
    .exact fJ (by rw [Bh (Eb b)];exact R)
    .rcases eB (L1.set k x) j with ⟨h3,_⟩ | ⟨_,_,Z⟩
     .simp at h3;omega
     .rw [Z,H]
  .have A:j<L1.length:=by
    have:=(Ab.1 Q).1
    rw [O.len] at this
    simpa using this
   have e:=g j hf A
   have y:=t.idle e
   have b:j≠k:=fun H=>by
    subst H
    refine F ?_
    rw [<-f,fB]
    dsimp only
    split
    .rfl
    .exact fJ y
   have:=(X j [] y e).2 rfl (by rw [Bh (Eb b)];exact y)
   rw [Q] at this
   cases this
   rfl
 rcases vs.run dst pos o Y with I | ⟨I,rfl⟩
 .exact .inl ⟨u,w',I,B⟩
 .exact .inr (.inl ⟨w',I,B⟩)
end
noncomputable def jP (E:Env) (tab:List Nat) (i:Nat) (d:Option Nat) (s:AS):Nat->AObj:=if blD E d=true then fun _=>.dead else lT tab i s
def Y (E:Env) (all:List Oper) (tab:List Nat) (L0 i:Nat) (p:Oper) (s:AS) (z:AVal) (base:Nat) (bs:List AObj):Prop:=
 L0<=base/\(blD E p.dst=true->bs=[])/\((cC all (evG tab all i s.g) p.guard=some false/\z= .tup []/\bs=[])\/
  (cC all (evG tab all i s.g) p.guard=some true/\fK E.P (jP E tab i p.dst s) base z bs (eop E (eD E p.dst) base (jP E tab i p.dst s) (evG tab all i s.g) p.op p.type)))
def fresh (s:AS) (base:Nat) (bs:List AObj):Prop:=∀ k,inB base bs.length k->∀ i,¬ s.br i k
def WF (L0:Nat) (s:AS):Prop:=∀ k,L0<=k->(∀ i,¬ s.br i k)->s.o k= .dead
def nOp (E:Env) (all:List Oper) (tab:List Nat) (L0 i:Nat) (p:Oper) (K:AS->Prop) (s:AS):Prop:=
 ∃ z base bs,Y E all tab L0 i p s z base bs/\fresh s base bs/\K (s.upd i p.dst z base bs)
section
variable {E:Env} {all:List Oper} {tab:List Nat} {L0:Nat}
theorem EA {j i t:Nat} {q:Oper}:∀ {l:List Oper} {n:Nat},l[i]? =some q->q.dst=some t->loose tab (n+i) j=true->KB tab j t n l=true
 | [],n,h,_,_=>by simp at h
 | x::r,n,h,hd,hl=>by
  cases i with
  | zero=>
   simp at h
   subst h
   rw [Df] at hl
   simp [KB,hd,hl]
  | succ i=>
   have:=EA (l:=r) (n:=n+1) (i:=i) (q:=q) (by simpa using h) hd (by rw [show n+1+i=n+(i+1) from by omega];exact hl)
   simp [KB,this]
theorem lZ {i j:Nat}:loose tab i j=true↔i≠j/\cK (cV tab j) i=false/\cK (cV tab i) j=false:=by
 simp only [loose,Af,Cm]
 constructor
 .rintro ⟨⟨h1,a⟩,h3⟩
  exact ⟨fun e=>by subst e;simp at h1,a,h3⟩
 .rintro ⟨h1,a,h3⟩
  exact ⟨⟨vK h1,a⟩,h3⟩
theorem nE {i j:Nat} (h:loose tab i j=true):loose tab j i=true:=by
 obtain ⟨h1,a,h3⟩:=lZ.1 h
 exact lZ.2 ⟨Eb h1,h3,a⟩
theorem GY {i j:Nat} {q:Oper} (a:all[j]? =some q) (hl:loose tab j i=true) (g:Nat->AVal) (z:AVal):evG tab all i (hC g q.dst z)=evG tab all i g:=by
 funext x
 cases x with
 | tmp t=>
  simp only [evG]
  cases b:KB tab i t 0 all with
  | true=>rfl
  | false=>
   simp only [cond_false,hC]
   rw [if_neg]
   intro e
   have:=EA (l:=all) (n:=0) a e (by rw [Bp];exact hl)
   rw [b] at this
   cases this
 | _=>rfl
theorem SB {i j:Nat} (hl:loose tab j i=true) {s:AS} (g:WF L0 s) {d:Option Nat} {z:AVal} {base:Nat} {bs:List AObj} (m:L0<=base) (q:fresh s base bs):lT tab i (s.upd j d z base bs)=lT tab i s:=by
 obtain ⟨_,p,_⟩:=lZ.1 hl
 funext k
 unfold lT
 by_cases a:inB base bs.length k
 .have h1:KC tab i (s.upd j d z base bs).br k:=⟨j,.inr ⟨rfl,a⟩,p⟩
  rw [if_pos h1]
  have n:=g k (Cs m a.1) (q k a)
  split
  .rfl
  .exact n.symm
 .have l:(s.upd j d z base bs).o k=s.o k:=by
   show lQ s.o base bs k=s.o k
   unfold lQ
   rw [if_neg a]
  have f:KC tab i (s.upd j d z base bs).br k↔KC tab i s.br k:=by
   constructor
   .rintro ⟨c,h | ⟨_,h⟩,e⟩
    .exact ⟨c,h,e⟩
    .exact absurd h a
   .rintro ⟨c,h,e⟩
    exact ⟨c,.inl h,e⟩
  rw [l]
  by_cases b:KC tab i s.br k
  .rw [if_pos b,if_pos (f.2 b)]
  .rw [if_neg b,if_neg fun h=>b (f.1 h)]
theorem aEL {i j:Nat} {p q:Oper} (d:all[j]? =some q) (hl:loose tab j i=true) {s:AS} (f:WF L0 s) {c:AVal} {a:Nat} {b:List AObj} (e:L0<=a) (l:fresh s a b) {z:AVal} {base:Nat} {bs:List AObj}:
  Y E all tab L0 i p (s.upd j q.dst c a b) z base bs↔Y E all tab L0 i p s z base bs:=by
 have k:evG tab all i (s.upd j q.dst c a b).g=evG tab all i s.g:=GY d hl s.g c
 have h:jP E tab i p.dst (s.upd j q.dst c a b)=jP E tab i p.dst s:=by
  unfold jP
  rw [SB hl f e l]
 unfold Y
 rw [k,h]
theorem WF.upd {i:Nat} {s:AS} (c:WF L0 s) {d:Option Nat} {z:AVal} {base:Nat} {bs:List AObj}:WF L0 (s.upd i d z base bs):=fun k e a=>by
 have h1:¬ inB base bs.length k:=fun h=>a i (.inr ⟨rfl,h⟩)
 show lQ s.o base bs k= .dead
 unfold lQ
 rw [if_neg h1]
 exact c k e fun b h=>a b (.inl h)
theorem VB {s:AS} {i j:Nat} {d e:Option Nat} {z h:AVal} {base a:Nat} {bs b:List AObj} (n:∀ t,d=some t->e≠some t) (f:∀ k,inB base bs.length k->¬ inB a b.length k):
  (s.upd i d z base bs).upd j e h a b=(s.upd j e h a b).upd i d z base bs:=by
 have l:hC (hC s.g d z) e h=hC (hC s.g e h) d z:=by
  funext t
  simp only [hC]
  by_cases h1:d=some t
  .rw [if_neg (n t h1),if_pos h1,if_pos h1]
  .rw [if_neg h1,if_neg h1]
 have m:lQ (lQ s.o base bs) a b=lQ (lQ s.o a b) base bs:=by
  funext k
  unfold lQ
  by_cases h1:inB base bs.length k
  .rw [if_neg (f k h1),if_pos h1,if_pos h1]
  .rw [if_neg h1,if_neg h1]
 have p:(fun c k=>(s.br c k\/(c=i/\inB base bs.length k))\/(c=j/\inB a b.length k))=fun c k=>(s.br c k\/(c=j/\inB a b.length k))\/(c=i/\inB base bs.length k):=by
  funext c k
  exact propext or_right_comm
 show AS.mk (hC (hC s.g d z) e h) (lQ (lQ s.o base bs) a b) (fun c k=>(s.br c k\/(c=i/\inB base bs.length k))\/(c=j/\inB a b.length k))=_
 rw [l,m,p]
 rfl
theorem aCB {i j:Nat} {p q:Oper} (hp:all[i]? =some p) (v:all[j]? =some q) (hl:loose tab i j=true) (x:∀ t,p.dst=some t->q.dst≠some t) {s:AS} (l:WF L0 s) {z:AVal} {base:Nat} {bs:List AObj}
  (r:Y E all tab L0 i p s z base bs) (u:fresh s base bs) {K:AS->Prop} (h:nOp E all tab L0 j q K (s.upd i p.dst z base bs)):
  nOp E all tab L0 j q (fun s'=>WF L0 s'/\Y E all tab L0 i p s' z base bs/\fresh s' base bs/\K (s'.upd i p.dst z base bs)) s:=by
 obtain ⟨w,a,d,h1,o,h3⟩:=h
 have f:=(aEL (p:=q) hp hl l r.1 u).1 h1
 have g:fresh s a d:=fun k e n c=>o k e n (.inl c)
 have b:∀ k,inB base bs.length k->¬ inB a d.length k:=fun k e m=>o k m i (.inr ⟨rfl,e⟩)
 refine ⟨w,a,d,f,g,l.upd,(aEL (p:=p) v (nE hl) l f.1 g).2 r,fun k e n c=>?_,?_⟩
 .rcases c with c | ⟨_,c⟩
  .exact u k e n c
  .exact b k e c
 .rw [<-VB x b]
  exact h3
noncomputable def AS.turn (s:AS) (d:Option Nat) (z:AVal) (k:Nat) (x:AObj):AS:=⟨hC s.g d z,fun a=>if a=k then x else s.o a,s.br⟩
def Yu (E:Env) (all:List Oper) (tab:List Nat) (L0 i:Nat) (p:Oper) (s:AS) (z:AVal) (base k:Nat) (x:AObj):Prop:=
 (L0<=base/\∀ i,¬ s.br i base)/\cC all (evG tab all i s.g) p.guard=some true/\lT tab i s k≠ .dead/\FU z k x (eop E (eD E p.dst) base (lT tab i s) (evG tab all i s.g) p.op p.type)
def uOp (E:Env) (all:List Oper) (tab:List Nat) (L0 i:Nat) (p:Oper) (K:AS->Prop) (s:AS):Prop:=
 ∃ z base k x,Yu E all tab L0 i p s z base k x/\K (s.turn p.dst z k x)
theorem xJ {s:AS} {i base:Nat} {d:Option Nat} {z:AVal}:s.upd i d z base []=⟨hC s.g d z,s.o,s.br⟩:=by
 unfold AS.upd
 congr 1
 .funext k
  unfold lQ
  rw [if_neg fun h=>by have h1:=h.1;have a:=h.2;simp at a;omega]
 .funext i' k
  refine propext ⟨fun h=>?_,.inl⟩
  rcases h with h | ⟨_,h⟩
  .exact h
  .have h1:=h.1;have a:=h.2;simp at a;omega
theorem RZ {g:Nat->AVal} {d a:Option Nat} {z b:AVal} (c:∀ t,d=some t->a≠some t):hC (hC g d z) a b=hC (hC g a b) d z:=by
 funext t
 simp only [hC]
 by_cases h1:d=some t
 .rw [if_neg (c t h1),if_pos h1,if_pos h1]
 .rw [if_neg h1,if_neg h1]
theorem C7 {s:AS} {i base:Nat} {d a:Option Nat} {z b:AVal} {k:Nat} {x:AObj} (c:∀ t,d=some t->a≠some t):(s.upd i d z base []).turn a b k x=(s.turn a b k x).upd i d z base []:=by
 rw [xJ,xJ]
 unfold AS.turn
 rw [RZ c]
theorem WF.turn {i:Nat} {s:AS} (c:WF L0 s) {d:Option Nat} {z:AVal} {k:Nat} {x:AObj} (g:lT tab i s k≠ .dead):WF L0 (s.turn d z k x):=fun a h1 f=>by
 have b:a≠k:=fun e=>by
  subst e
  refine g ?_
  unfold lT
  split
  .rfl
  .exact c a h1 f
 show (if a=k then x else s.o a)= .dead
 rw [if_neg b]
 exact c a h1 f
theorem aA3 {i j:Nat} {p q:Oper} (c:all[j]? =some q) (hl:loose tab j i=true) (b:blD E p.dst=true) {s:AS} {a:AVal} {k:Nat} {x:AObj} {z:AVal} {base:Nat} {bs:List AObj}:
  Y E all tab L0 i p (s.turn q.dst a k x) z base bs↔Y E all tab L0 i p s z base bs:=by
 have e:evG tab all i (s.turn q.dst a k x).g=evG tab all i s.g:=GY c hl s.g a
 have d:jP E tab i p.dst (s.turn q.dst a k x)=jP E tab i p.dst s:=by
  unfold jP
  rw [if_pos b,if_pos b]
 unfold Y
 rw [e,d]
theorem aA2 {i j:Nat} {p q:Oper} (c:all[j]? =some q) (hl:loose tab j i=true) {s:AS} {b:AVal} {a:Nat} {z:AVal} {base k:Nat} {x:AObj}:
  Yu E all tab L0 i p (s.upd j q.dst b a []) z base k x↔Yu E all tab L0 i p s z base k x:=by
 rw [xJ]
 have d:evG tab all i (hC s.g q.dst b)=evG tab all i s.g:=GY c hl s.g b
 unfold Yu
 rw [d]
 exact Mo
theorem aBk {i j:Nat} {p q:Oper} (hp:all[i]? =some p) (m:all[j]? =some q) (hl:loose tab i j=true) (f:blD E p.dst=true) (o:∀ t,p.dst=some t->q.dst≠some t) {s:AS} (l:WF L0 s) {z:AVal} {base:Nat} {bs:List AObj}
  (g:Y E all tab L0 i p s z base bs) (u:fresh s base bs) {K:AS->Prop} (h:uOp E all tab L0 j q K (s.upd i p.dst z base bs)):
  uOp E all tab L0 j q (fun s'=>WF L0 s'/\Y E all tab L0 i p s' z base bs/\fresh s' base bs/\K (s'.upd i p.dst z base bs)) s:=by
 obtain rfl:=g.2.1 f
 obtain ⟨n,c,k,x,h1,r⟩:=h
 have d:=(aA2 hp hl).1 h1
 refine ⟨n,c,k,x,d,l.turn d.2.2.1,(aA3 m (nE hl) f).2 g,fun k e=>by have a:=e.1;have b:=e.2;simp at b;omega,?_⟩
 rw [<-C7 o]
 exact r
theorem YX {i j:Nat} {p q:Oper} (hp:all[i]? =some p) (m:all[j]? =some q) (hl:loose tab i j=true) (g:blD E q.dst=true) (u:∀ t,p.dst=some t->q.dst≠some t) {s:AS} (l:WF L0 s) {z:AVal} {base k:Nat} {x:AObj}
  (v:Yu E all tab L0 i p s z base k x) {K:AS->Prop} (h:nOp E all tab L0 j q K (s.turn p.dst z k x)):
  nOp E all tab L0 j q (fun s'=>WF L0 s'/\Yu E all tab L0 i p s' z base k x/\K (s'.turn p.dst z k x)) s:=by
 obtain ⟨r,c,o,h1,w,h3⟩:=h
 obtain rfl:=h1.2.1 g
 have d:=(aA3 hp hl g).1 h1
 refine ⟨r,c,[],d,fun k f=>by have a:=f.1;have b:=f.2;simp at b;omega,l.upd,(aA2 m (nE hl)).2 v,?_⟩
 rw [C7 fun t n e=>u t e n]
 exact h3
def sOp (E:Env) (all:List Oper) (tab:List Nat) (L0 i:Nat) (p:Oper) (Kp:(Nat->AVal)->AVal->List AObj->Prop) (K:AS->Prop) (s:AS):Prop:=
 ∃ obs:List AObj,aE obs=s.o/\L0<=aO obs/\(∀ k,L0<=k->k<aO obs->∃ i,s.br i k)/\(∀ i k,s.br i k->k<aO obs)/\
  ((cC all (evG tab all i s.g) p.guard=some false/\K (s.upd i p.dst (.tup []) L0 []))\/
    (cC all (evG tab all i s.g) p.guard=some true/\orD E.P true true false obs obs (aO obs) (fun v obs'=>aO obs<=aO obs'->K ⟨hC s.g p.dst v,aE obs',fun a k=>s.br a k\/(a=i/\aO obs<=k/\k<aO obs')⟩) (Kp s.g)
     (eop E (eD E p.dst) (aO obs) (aE obs) (evG tab all i s.g) p.op p.type)))
def aOp (E:Env) (ops:Array Oper) (tab:List Nat) (L0:Nat) (Kp:(Nat->AVal)->AVal->List AObj->Prop) (i:Nat) (K:AS->Prop) (s:AS):Prop:=
 ∃ p,ops[i]? =some p/\(((sole tab i 0 ops.toList=true->blD E p.dst=true)/\nOp E ops.toList tab L0 i p K s)\/((DE E tab i 0 ops.toList=true/\blD E p.dst=false)/\uOp E ops.toList tab L0 i p K s)\/
  ((sole tab i 0 ops.toList=true/\blD E p.dst=false)/\sOp E ops.toList tab L0 i p Kp K s))
def wpA (E:Env) (ops:Array Oper) (tab:List Nat) (L0:Nat) (Kp:(Nat->AVal)->AVal->List AObj->Prop) (Q:AS->Prop):Nat->Array Bool->AS->Prop
 | 0,listed,s=>Dk .any ops listed=[]/\Q s
 | fuel+1,listed,s=>(Dk .any ops listed=[]->Q s)/\∀ i∈Dk .any ops listed,aOp E ops tab L0 Kp i (wpA E ops tab L0 Kp Q fuel (listed.setIfInBounds i true)) s
end
section
variable {E:Env} {ops:Array Oper} {tab:List Nat} {L0:Nat} {Kp:(Nat->AVal)->AVal->List AObj->Prop} {Q:AS->Prop}
theorem CD {i:Nat} {K d:AS->Prop} {s:AS} (c:∀ s,K s->d s) (h:aOp E ops tab L0 Kp i K s) (f:sole tab i 0 ops.toList=false):aOp E ops tab L0 Kp i d s:=by
 obtain ⟨p,h1,⟨a,z,base,bs,h3,b,e⟩ | ⟨a,z,base,k,x,h3,b⟩ | ⟨a,_⟩⟩:=h
 .exact ⟨p,h1,.inl ⟨a,z,base,bs,h3,b,c _ e⟩⟩
 .exact ⟨p,h1,.inr (.inl ⟨a,z,base,k,x,h3,c _ b⟩)⟩
 .rw [f] at a;cases a.1
def lN (tab:List Nat) (a:Array Bool):Prop:=∀ j i,a.getD j false=true->cK (cV tab j) i=true->a.getD i false=true
theorem rU {E:Env} {tab:List Nat} {j:Nat}:∀ {l:List Oper} {n:Nat},DE E tab j n l=true->∀ (i:Nat) q,l[i]? =some q->loose tab (n+i) j=true->blD E q.dst=true
 | [],_,_,i,q,hi,_=>by simp at hi
 | x::r,n,h,i,q,hi,hl=>by
  simp only [DE,Af,Eg,Cm] at h
  cases i with
  | zero=>
   simp at hi
   subst hi
   rw [Df] at hl
   rcases h.1 with q | q
   .rw [hl] at q;cases q
   .exact q
  | succ i=>exact rU h.2 i q (by simpa using hi) (by rw [show n+1+i=n+(i+1) from by omega];exact hl)
def OO (E:Env) (ops:Array Oper) (tab:List Nat) (i:Nat) (d:Option Nat):Prop:=∀ (a:Array Bool) (j:Nat),lN tab a->i∈Dk .any ops a->j∈Dk .any ops a->j≠i->
   lN tab (a.setIfInBounds j true)/\sole tab j 0 ops.toList=false/\loose tab i j=true/\∀ q,ops[j]? =some q->∀ t,d=some t->q.dst≠some t
theorem aAa {i:Nat} {p:Oper} {z:AVal} {base:Nat} {bs:List AObj} (n:ops[i]? =some p) (v:sole tab i 0 ops.toList=true->blD E p.dst=true) (f:OO E ops tab i p.dst):
  ∀ (c:Nat) (a:Array Bool) (s:AS),lN tab a->WF L0 s->i∈Dk .any ops a->Y E ops.toList tab L0 i p s z base bs->fresh s base bs->
   wpA E ops tab L0 Kp Q c (a.setIfInBounds i true) (s.upd i p.dst z base bs)->wpA E ops tab L0 Kp Q (c+1) a s:=by
 have d:∀ {K:AS->Prop} {s:AS},Y E ops.toList tab L0 i p s z base bs->fresh s base bs->K (s.upd i p.dst z base bs)->aOp E ops tab L0 Kp i K s:=fun g k J=>⟨p,n,.inl ⟨v,z,base,bs,g,k,J⟩⟩
 intro c
 induction c with
 | zero=>
  intro a s G t e g k H
  refine ⟨fun h=>(by rw [h] at e;cases e),fun j o=>?_⟩
  by_cases b:j=i
  .subst b;exact d g k H
  .have:=ready_mono o b
   rw [H.1] at this
   cases this
 | succ c C=>
  intro a s G t e g k H
  refine ⟨fun h=>(by rw [h] at e;cases e),fun j o=>?_⟩
  by_cases b:j=i
  .subst b;exact d g k H
  .have h1:=H.2 j (ready_mono o b)
   obtain ⟨D,x,B,F⟩:=f a j G e o b
   obtain ⟨q,l,⟨w,M⟩ | ⟨m,I⟩ | ⟨hs,_⟩⟩:=h1
   .have:=aCB (by simpa using n) (by simpa using l) B (F q l) t g k M
    refine CD (fun s' ⟨u,A,r,y⟩=>C (a.setIfInBounds j true) s' D u (ready_mono e (Eb b)) A r ?_) ⟨q,l,.inl ⟨w,this⟩⟩ x
    rw [Ic _ _ b]
    exact y
   .have L:blD E p.dst=true:=rU m.1 i p (by simpa using n) (by rw [Bp];exact B)
    have:=aBk (by simpa using n) (by simpa using l) B L (F q l) t g k I
    refine CD (fun s' ⟨u,A,r,y⟩=>C (a.setIfInBounds j true) s' D u (ready_mono e (Eb b)) A r ?_) ⟨q,l,.inr (.inl ⟨m,this⟩)⟩ x
    rw [Ic _ _ b]
    exact y
   .rw [x] at hs;cases hs.1
theorem aGe {i:Nat} {p:Oper} {z:AVal} {base k:Nat} {x:AObj} (v:ops[i]? =some p) (n:DE E tab i 0 ops.toList=true/\blD E p.dst=false) (g:OO E ops tab i p.dst):
  ∀ (c:Nat) (a:Array Bool) (s:AS),lN tab a->WF L0 s->i∈Dk .any ops a->Yu E ops.toList tab L0 i p s z base k x->
   wpA E ops tab L0 Kp Q c (a.setIfInBounds i true) (s.turn p.dst z k x)->wpA E ops tab L0 Kp Q (c+1) a s:=by
 have d:∀ {K:AS->Prop} {s:AS},Yu E ops.toList tab L0 i p s z base k x->K (s.turn p.dst z k x)->aOp E ops tab L0 Kp i K s:=fun l D=>⟨p,v,.inr (.inl ⟨n,z,base,k,x,l,D⟩)⟩
 intro c
 induction c with
 | zero=>
  intro a s y u f l H
  refine ⟨fun h=>(by rw [h] at f;cases f),fun j r=>?_⟩
  by_cases b:j=i
  .subst b;exact d l H
  .have:=ready_mono r b
   rw [H.1] at this
   cases this
 | succ c F=>
  intro a s y u f l H
  refine ⟨fun h=>(by rw [h] at f;cases f),fun j r=>?_⟩
  by_cases b:j=i
  .subst b;exact d l H
  .have h1:=H.2 j (ready_mono r b)
   obtain ⟨G,w,A,I⟩:=g a j y f r b
   have m:∀ q,ops[j]? =some q->blD E q.dst=true:=fun q e=>rU n.1 j q (by simpa using e) (by rw [Bp];exact nE A)
   obtain ⟨q,e,⟨t,L⟩ | ⟨o,M⟩ | ⟨hs,_⟩⟩:=h1
   .have:=YX (by simpa using v) (by simpa using e) A (m q e) (I q e) u l L
    refine CD (fun s' ⟨C,J,B⟩=>F (a.setIfInBounds j true) s' G C (ready_mono f (Eb b)) J ?_) ⟨q,e,.inl ⟨t,this⟩⟩ w
    rw [Ic _ _ b]
    exact B
   .rw [m q e] at o;cases o.2
   .rw [w] at hs;cases hs.1
end
def iD (fr:List (Nat×AVal)) (obs:List AObj) (br:List (Nat×Nat)):AS:=⟨aZ fr,aE obs,fun i k=>(i,k)∈br⟩
theorem eR (fr:List (Nat×AVal)) (d:Option Nat) (v:AVal):aZ (kO fr d v)=hC (aZ fr) d v:=by
 funext t
 cases d with
 | none=>simp [kO,hC]
 | some d=>
  simp only [kO,hC,EE,Dr]
  by_cases h:t=d
  .subst h;simp
  .rw [if_neg h,if_neg (Eb h)]
theorem DQ (l:List AObj) (n k:Nat) (x:AObj):aE (bL l n x) k=if k=n then x else aE l k:=by
 induction l generalizing n k with
 | nil=>
  induction n generalizing k with
  | zero=>cases k<;>rfl
  | succ n a=>
   cases k with
   | zero=>rfl
   | succ k=>show aE (bL [] n x) k=_;rw [a];simp [aE]
 | cons y r a=>
  cases n with
  | zero=>cases k<;>simp [bL,aE]
  | succ n=>
   cases k with
   | zero=>simp [bL,aE]
   | succ k=>simp only [bL,aE,a];simp
theorem TJ (ks:List Nat) (obs:List AObj) (k:Nat):aE (nY ks obs) k=if k∈ks then .dead else aE obs k:=by
 induction ks generalizing obs with
 | nil=>simp [nY]
 | cons x r b=>
  simp only [nY,b,DQ,Ao]
  by_cases h1:k∈r
  .simp [h1]
  .by_cases a:k=x
   .simp [a]
   .simp [h1,a]
theorem tJ {tab:List Nat} {j k:Nat}:∀ {br:List (Nat×Nat)},k∈CU tab j br↔ ∃ i,(i,k)∈br/\cK (cV tab j) i=false
 | []=>by simp [CU]
 | (i,k')::r=>by
  simp only [CU]
  cases h:cK (cV tab j) i with
  | true=>
   simp only [cond_true,tJ (br:=r),Ao,Ml]
   constructor
   .rintro ⟨b,h1,a⟩;exact ⟨b,.inr h1,a⟩
   .rintro ⟨b,⟨rfl,rfl⟩ | h1,a⟩
    .rw [h] at a;cases a
    .exact ⟨b,h1,a⟩
  | false=>
   simp only [cond_false,Ao,tJ (br:=r),Ml]
   constructor
   .rintro (rfl | ⟨b,h1,a⟩)
    .exact ⟨i,.inl ⟨rfl,rfl⟩,h⟩
    .exact ⟨b,.inr h1,a⟩
   .rintro ⟨b,⟨rfl,rfl⟩ | h1,a⟩
    .exact .inl rfl
    .exact .inr ⟨b,h1,a⟩
theorem aBE (tab:List Nat) (j:Nat) (fr:List (Nat×AVal)) (obs:List AObj) (br:List (Nat×Nat)):aE (nY (CU tab j br) obs)=lT tab j (iD fr obs br):=by
 funext k
 rw [TJ]
 unfold lT
 have:k∈CU tab j br↔KC tab j (iD fr obs br).br k:=tJ
 by_cases h:k∈CU tab j br
 .rw [if_pos h,if_pos (this.1 h)]
 .rw [if_neg h,if_neg fun e=>h (this.2 e)];rfl
theorem LK (bs:List AObj):∀ (obs:List AObj),xI obs obs.length bs=obs++bs:=by
 induction bs with
 | nil=>intro obs;simp [xI]
 | cons x r a=>
  intro obs
  simp only [xI,JK]
  have:=a (obs++[x])
  simp at this
  rw [this]
theorem oV (n:Nat):∀ (l:List AObj),gB n l=l.drop n:=by
 induction n with
 | zero=>intro l;rfl
 | succ n a=>intro l;cases l with
  | nil=>rfl
  | cons x r=>simp [gB,a]
theorem mK {j i k:Nat}:∀ {l:List AObj} {base:Nat} {br:List (Nat×Nat)},(i,k)∈born j base l br↔(i,k)∈br\/(i=j/\inB base l.length k)
 | [],base,br=>by simp [born,inB];omega
 | x::r,base,br=>by
  have b:=mK (j:=j) (i:=i) (k:=k) (l:=r) (base:=base+1) (br:=br)
  have e:born j base (x::r) br=(j,base)::born j (base+1) r br:=rfl
  have hm:(i,k)∈(j,base)::born j (base+1) r br↔((i=j/\k=base)\/(i,k)∈br)\/(i=j/\inB (base+1) r.length k):=by rw [Ao,Ml,b,or_assoc]
  rw [e,hm]
  unfold inB
  rw [Ba]
  constructor
  .intro h
   rcases h with h | h
   .rcases h with ⟨h1,a⟩ | h
    .exact .inr ⟨h1,by omega,by omega⟩
    .exact .inl h
   .exact .inr ⟨h.1,by have:=h.2.1;omega,by have:=h.2.2;omega⟩
  .intro h
   rcases h with h | ⟨h1,a,h3⟩
   .exact .inl (.inr h)
   .by_cases c:k=base
    .exact .inl (.inl ⟨h1,c⟩)
    .exact .inr ⟨h1,by omega,by omega⟩
theorem sF {rest:List Oper} {n:Nat} {d:Option Nat} {fr:List (Nat×AVal)} {v:AVal} {k:List (Nat×AVal)->Prop} (h:wrP rest n d fr v k):k (kO fr d v):=by
 unfold wrP at h
 cases d with
 | none=>exact h
 | some d=>
  dsimp only at h
  cases a:tI n rest with
  | false=>rw [a] at h;exact h
  | true=>
   rw [a] at h
   simp only [cond_true] at h
   split at h
   .rename_i b
    cases b with
    | true=>exact h.1 rfl
    | false=>exact h.2 rfl
   .exact h.elim
theorem aA1 (fr:List (Nat×AVal)) (obs:List AObj) (br:List (Nat×Nat)) (n:Nat) (d:Option Nat) (z:AVal) (bs:List AObj):
  iD (kO fr d z) (xI obs (aO obs) bs) (born n (aO obs) (gB (aO obs) (xI obs (aO obs) bs)) br)=(iD fr obs br).upd n d z (aO obs) bs:=by
 rw [bF,LK,oV,List.drop_left]
 unfold iD AS.upd
 rw [eR]
 congr 1
 .funext k
  show _=lQ (aE obs) obs.length bs k
  unfold lQ
  by_cases h:inB obs.length bs.length k
  .rw [if_pos h]
   have a:k-obs.length<bs.length:=by have:=h.1;have:=h.2;omega
   refine fJ ?_
   rw [Ak h.1,Dv,Aa a]
   rfl
  .rw [if_neg h]
   by_cases g:k<obs.length
   .rcases eB obs k with ⟨h1,e⟩ | ⟨h1,_⟩
    .exact fJ (by rw [Ag g];exact e)
    .omega
   .have f:obs.length+bs.length<=k:=by
     refine Nat.le_of_not_lt fun c=>h ⟨by omega,c⟩
    rcases eB (obs++bs) k with ⟨h1,_⟩ | ⟨_,_,e⟩
    .simp at h1;omega
    .rcases eB obs k with ⟨h1,_⟩ | ⟨_,_,b⟩
     .omega
     .rw [e,b]
 .funext i k
  exact propext mK
structure LI (L0 n:Nat) (obs:List AObj) (br:List (Nat×Nat)):Prop where
 low:L0<=aO obs
 all:∀ k,L0<=k->k<aO obs->∃ i,(i,k)∈br
 lt:∀ i k,(i,k)∈br->k<aO obs/\i<n
theorem LI.wf {L0 n:Nat} {obs:List AObj} {br:List (Nat×Nat)} (h:LI L0 n obs br) (fr:List (Nat×AVal)):WF L0 (iD fr obs br):=fun k b a=>by
 rcases eB obs k with ⟨h1,_⟩ | ⟨_,_,e⟩
 .obtain ⟨i,c⟩:=h.all k b (by rw [bF];exact h1)
  exact absurd c (a i)
 .exact e
theorem LI.put {L0 n:Nat} {obs:List AObj} {br:List (Nat×Nat)} (h:LI L0 n obs br) {obs':List AObj} (hl:aO obs<=aO obs'):LI L0 (n+1) obs' (born n (aO obs) (gB (aO obs) obs') br):=by
 have d:(gB (aO obs) obs').length=aO obs'-aO obs:=by rw [oV,Fo,bF obs']
 refine ⟨Cs h.low hl,fun k h1 e=>?_,fun i k c=>?_⟩
 .by_cases c:k<aO obs
  .obtain ⟨i,f⟩:=h.all k h1 c
   exact ⟨i,mK.2 (.inl f)⟩
  .exact ⟨n,mK.2 (.inr ⟨rfl,by omega,by rw [d];omega⟩)⟩
 .rcases mK.1 c with c | ⟨rfl,h1,e⟩
  .obtain ⟨a,b⟩:=h.lt i k c
   exact ⟨by omega,by omega⟩
  .rw [d] at e
   exact ⟨by omega,by omega⟩
theorem CallG.mono {P:Program} {f:Fn} {args:List AVal} {obs:List AObj} {K d Kp:AVal->List AObj->Prop} (c:∀ v o,K v o->d v o) (h:CallG P f args obs K Kp):CallG P f args obs d Kp:=by
 cases h with
 | pure r new h k=>exact .pure r new h (c _ _ k)
 | eff b ks r obs' a h k=>exact .eff b ks r obs' a h (c _ _ k)
 | effp b ks r obs' a h k=>exact .effp b ks r obs' a h k
 | pan r h k=>exact .pan r h k
theorem oU {P:Program} {e j bl:Bool} {d obs:List AObj} {base:Nat} {K g Kp:AVal->List AObj->Prop} (a:∀ v o,K v o->g v o):∀ {r:OR},orD P e j bl d obs base K Kp r->orD P e j bl d obs base g Kp r
 | .no,k=>k.elim
 | .val v,k=>a _ _ k
 | .mkf fn fs cs,k=>a _ _ k
 | .need p r,k=>⟨k.1,oU a k.2⟩
 | .alt p v w,k=>k.imp (fun h=>⟨h.1,a _ _ h.2⟩) (a _ _)
 | .idx n f,⟨i,hi,k⟩=>⟨i,hi,oU a k⟩
 | .elem xs i f,⟨x,hx,k⟩=>⟨x,hx,oU a k⟩
 | .byte l i,⟨c,hc,k⟩=>⟨c,hc,a _ _ k⟩
 | .text xs,⟨l,hl,hm,k⟩=>⟨l,hl,hm,a _ _ k⟩
 | .find es key f,⟨o,ho,k⟩=>⟨o,ho,oU a k⟩
 | .born x v,k=>by cases bl with
  | true=>exact k.elim
  | false=>exact a _ _ k
 | .upd i x v,k=>by
  simp only [orD] at k⊢
  split at k
  .exact a _ _ k
  .exact k.elim
 | .nilq xs neg,k=>by cases e with
  | true=>exact fun b m=>a _ _ (k b m)
  | false=>exact k.elim
 | .call f args,k=>by
  cases bl with
  | true=>exact k.elim
  | false=>
   have k:CallD P f args e d base obs K Kp:=k
   show CallD P f args e d base obs g Kp
   cases k with
   | pure r new h k=>exact .pure r new h (a _ _ k)
   | sole h1 q=>exact .sole h1 (q.mono a)
 | .pan v,k=>by cases e with
  | true=>exact k
  | false=>exact k.elim
theorem AA {P:Program} {b bl:Bool} {a obs:List AObj} {base:Nat} {K Kp:AVal->List AObj->Prop}:∀ {r:OR},orD P true b bl a obs base K Kp r->orD P true true bl a obs base K Kp r
 | .no,k=>k
 | .val v,k=>k
 | .mkf fn fs cs,k=>k
 | .need p r,k=>⟨k.1,AA k.2⟩
 | .alt p v w,k=>k
 | .idx n f,⟨i,hi,k⟩=>⟨i,hi,AA k⟩
 | .elem xs i f,⟨x,hx,k⟩=>⟨x,hx,AA k⟩
 | .byte l i,k=>k
 | .text xs,k=>k
 | .find es key f,⟨o,ho,k⟩=>⟨o,ho,AA k⟩
 | .born x v,k=>k
 | .upd i x v,k=>k
 | .nilq xs neg,k=>k
 | .call f args,k=>k
 | .pan v,k=>k
theorem U4 (fr:List (Nat×AVal)) (obs:List AObj) (br:List (Nat×Nat)) (n:Nat) (d:Option Nat) (z:AVal) (k:Nat) (x:AObj) (a:k<aO obs):
  iD (kO fr d z) (bL obs k x) (born n (aO obs) (gB (aO obs) (bL obs k x)) br)=(iD fr obs br).turn d z k x:=by
 have hl:(bL obs k x).length=obs.length:=by rw [gM _ (by rwa [bF] at a)];simp
 have e:gB (aO obs) (bL obs k x)=[]:=by rw [oV,bF,<-hl];simp
 rw [e]
 unfold iD AS.turn
 rw [eR]
 congr 1
 funext k'
 exact DQ obs k k' x
structure TabSp (ops:Array Oper) (tab:List Nat):Prop where
 back:∀ (j:Nat) p,ops[j]? =some p->∀ e∈p.after,Ix .any e=true->e.on<j
 less:∀ i j,cK (cV tab i) j=true->j<i
 step:∀ (j:Nat) p,ops[j]? =some p->∀ i,cK (cV tab j) i=true->∃ e∈p.after,Ix .any e=true/\(e.on=i\/cK (cV tab e.on) i=true)
 out:∀ j i,cK (cV tab j) i=true->j<ops.size
 dst:∀ (i j:Nat) p q,ops[i]? =some p->ops[j]? =some q->loose tab i j=true->∀ t,p.dst=some t->q.dst≠some t
theorem qB {tab:List Nat} {j:Nat}:∀ {l:List Oper} {n:Nat},sole tab j n l=true->∀ i,i<l.length->loose tab (n+i) j=false
 | [],_,_,i,hi=>by simp at hi
 | x::r,n,h,i,hi=>by
  simp only [sole,Af,Cm] at h
  cases i with
  | zero=>exact h.1
  | succ i=>
   have:=qB h.2 i (by simpa using hi)
   rwa [show n+1+i=n+(i+1) from by omega] at this
section
variable {E:Env} {ops:Array Oper} {tab:List Nat} {L0:Nat} {Kp:(Nat->AVal)->AVal->List AObj->Prop} {Kq:List (Nat×AVal)->List AObj->Prop}
theorem lN.step (o:TabSp ops tab) {a:Array Bool} (k:lN tab a) {j:Nat} (n:j∈Dk .any ops a):lN tab (a.setIfInBounds j true)/\∀ i,cK (cV tab j) i=true->a.getD i false=true:=by
 obtain ⟨_,p,hp,b⟩:=mem_ready.1 n
 have key:∀ i,cK (cV tab j) i=true->a.getD i false=true:=fun i m=>by
  obtain ⟨e,f,g,h | h⟩:=o.step j p hp i m
  .subst h;exact b e f g
  .exact k e.on i (b e f g) h
 refine ⟨fun d i h1 l=>getD_set_true ?_,key⟩
 by_cases c:j=d
 .subst c;exact key i l
 .rw [getD_set_ne false c] at h1
  exact k d i h1 l
theorem oO (f:TabSp ops tab) {a:Array Bool} (m:lN tab a) {i j:Nat} (l:i∈Dk .any ops a) (n:j∈Dk .any ops a) (e:i≠j):loose tab i j=true:=by
 have g:∀ {k:Nat},k∈Dk .any ops a->a.getD k false=true->False:=fun {k} hk h=>by
  obtain ⟨d,p,hp,_⟩:=mem_ready.1 hk
  rw [Bd] at d h
  cases c:a[k]? with
  | none=>rw [c] at h;simp at h
  | some b=>rw [c] at h d;simp at h d;rw [h] at d;cases d
 refine lZ.2 ⟨e,?_,?_⟩
 .cases c:cK (cV tab j) i with
  | false=>rfl
  | true=>exact (g l ((m.step f n).2 i c)).elim
 .cases c:cK (cV tab i) j with
  | false=>rfl
  | true=>exact (g n ((m.step f l).2 j c)).elim
def Qf (L0:Nat) (Kq:List (Nat×AVal)->List AObj->Prop) (s:AS):Prop:=∃ fr obs br n,s=iD fr obs br/\LI L0 n obs br/\Kq fr obs
theorem aCM (I:TabSp ops tab):∀ (l:List Oper) (n:Nat) (a:Array Bool) (br:List (Nat×Nat)) (fr:List (Nat×AVal)) (obs:List AObj),
  l=ops.toList.drop n->(∀ j,j<ops.size->a[j]? =some (decide (j<n)))->a.size=ops.size->LI L0 n obs br->gU E ops.toList tab Kq Kp n l br fr obs->
  wpA E ops tab L0 Kp (Qf L0 Kq) l.length a (iD fr obs br)
 | [],n,a,br,fr,obs,hl,hlist,hsz,hI,h=>by
  refine ⟨?_,fr,obs,br,n,rfl,hI,h⟩
  have K:ops.size<=n:=by
   have:=congrArg Js hl
   simp at this
   omega
  refine Gx.2 fun j H=>?_
  obtain ⟨h0,q,G,_⟩:=mem_ready.1 H
  have F:=(Dt.1 G).1
  rw [Bd,hlist j F] at h0
  simp at h0
  omega
 | p::l,n,a,br,fr,obs,hl,hlist,hsz,hI,h=>by
  have t:ops[n]? =some p:=by
   have:(ops.toList.drop n)[0]? =some p:=by rw [<-hl];rfl
   simpa using this
  have L:n<ops.size:=(Dt.1 t).1
  have O:l=ops.toList.drop (n+1):=by
   rw [<-Ir,<-hl];rfl
  have F:∀ j,a.getD j false=true↔j<n:=by
   intro j
   rw [Bd]
   by_cases H:j<ops.size
   .rw [hlist j H];simp
   .rw [Lo o_]
    simp
    omega
  have f:lN tab a:=fun j i h1 y=>(F i).2 (Nat.lt_trans (I.less j i y) ((F j).1 h1))
  have d:n∈Dk .any ops a:=by
   refine mem_ready.2 ⟨?_,p,t,fun e he N=>(F _).2 (I.back n p t e he N)⟩
   rw [Bd,hlist n L];simp
  have s:∀ j,j<ops.size->(a.setIfInBounds n true)[j]? =some (decide (j<n+1)):=by
   intro j H
   by_cases W:n=j
   .subst W
    rw [De o_]
    simp
   .rw [Di W,hlist j H]
    congr 1
    exact decide_eq_decide.2 o_
  have B:(a.setIfInBounds n true).size=ops.size:=by simpa using hsz
  have hw:=hI.wf fr
  have M:∀ {bs:List AObj},fresh (iD fr obs br) (aO obs) bs:=fun {bs} k K i N=>by
   have:=(hI.lt i k N).1
   have:=K.1
   omega
  have ahead:∀ {i:Nat},i<ops.size->i∈Dk .any ops a->i≠n->loose tab n i=true:=fun _ hi D=>oO I f d hi (Eb D)
  simp only [gU] at h
  rw [aGj] at h
  -- on,where the operation bears bs at the end
  have on:∀ {z:AVal} {bs:List AObj},gU E ops.toList tab Kq Kp (n+1) l (born n (aO obs) (gB (aO obs) (xI obs (aO obs) bs)) br) (kO fr p.dst z) (xI obs (aO obs) bs)->
    wpA E ops tab L0 Kp (Qf L0 Kq) l.length (a.setIfInBounds n true) ((iD fr obs br).upd n p.dst z (aO obs) bs):=fun {z bs} hc=>by
   rw [<-aA1]
   refine aCM I l (n+1) _ _ _ _ O s B (hI.put ?_) hc
   rw [bF,bF,LK]
   simp
  have Y:xI obs (aO obs) []=obs:=rfl
  have brn:born n (aO obs) (gB (aO obs) obs) br=br:=by
   have:gB (aO obs) obs=[]:=by rw [oV,bF];simp
   rw [this]
   rfl
  have skip:gU E ops.toList tab Kq Kp (n+1) l br (kO fr p.dst (.tup [])) obs->wpA E ops tab L0 Kp (Qf L0 Kq) l.length (a.setIfInBounds n true) ((iD fr obs br).upd n p.dst (.tup []) (aO obs) []):=fun hc=>on (by rw [Y,brn];exact hc)
  have oth:(∀ j,ops[j]?≠none->loose tab n j=true->sole tab j 0 ops.toList=false)->OO E ops tab n p.dst:=fun h listed' j U hi' Q D=>by
   have c:=oO I U hi' Q (Eb D)
   obtain ⟨_,q,G,_⟩:=mem_ready.1 Q
   exact ⟨(U.step I Q).1,h j (by rw [G];simp) c,c,fun q G=>I.dst n j p q t G c⟩
  have J:∀ j,ops[j]?≠none->loose tab n j=true->sole tab j 0 ops.toList=false:=fun j H c=>by
   cases G:sole tab j 0 ops.toList with
   | false=>rfl
   | true=>
    have:=qB G n (by simpa using L)
    rw [Bp,c] at this
    cases this
  have r:=oth J
  -- where an object is turned
  have onU:∀ {z:AVal} {k:Nat} {x:AObj},k<aO obs->gU E ops.toList tab Kq Kp (n+1) l (born n (aO obs) (gB (aO obs) (bL obs k x)) br) (kO fr p.dst z) (bL obs k x)->
    wpA E ops tab L0 Kp (Qf L0 Kq) l.length (a.setIfInBounds n true) ((iD fr obs br).turn p.dst z k x):=fun {z k x} K hc=>by
   rw [<-U4 fr obs br n p.dst z k x K]
   refine aCM I l (n+1) _ _ _ _ O s B (hI.put ?_) hc
   rw [bF,bF,gM _ (by rwa [bF] at K)]
   simp
  have C:(sole tab n 0 ops.toList=true->blD E p.dst=true)->(cC ops.toList (evG tab ops.toList n (aZ fr)) p.guard=some true->
    orD E.P false (uoN E tab ops.toList n p.dst) (blD E p.dst) (nR E tab n br obs p.dst) obs (aO obs) (fun v obs'=>wrP l n p.dst fr v fun fr=>gU E ops.toList tab Kq Kp (n+1) l (born n (aO obs) (gB (aO obs) obs') br) fr obs') (Kp (aZ fr))
     (eop E (eD E p.dst) (aO obs) (aE (nR E tab n br obs p.dst)) (evG tab ops.toList n (aZ fr)) p.op p.type))->
    (cC ops.toList (evG tab ops.toList n (aZ fr)) p.guard=some false->gU E ops.toList tab Kq Kp (n+1) l br (kO fr p.dst (.tup [])) obs)->
    cC ops.toList (evG tab ops.toList n (aZ fr)) p.guard≠none->wpA E ops tab L0 Kp (Qf L0 Kq) (l.length+1) a (iD fr obs br):=fun X h1 y h3=>by
   have w:aE (nR E tab n br obs p.dst)=jP E tab n p.dst (iD fr obs br):=by
    unfold nR jP
    cases o:blD E p.dst with
    | true=>simp only [cond_true,if_true];exact JO
    | false=>simp only [cond_false];rw [if_neg s_];exact aBE tab n fr obs br
   cases m:cC ops.toList (evG tab ops.toList n (aZ fr)) p.guard with
   | none=>exact absurd m h3
   | some b=>
    cases b with
    | false=>exact aAa t X r l.length a _ f hw d (z:=.tup []) (base:=aO obs) (bs:=[]) ⟨hI.low,fun _=>rfl,.inl ⟨m,rfl,rfl⟩⟩ M (skip (y m))
    | true=>
     have h:=h1 m
     rcases oT h with ⟨z,bs,q0,S,q2⟩ | ⟨z,k,x,q0,S,q2,q3⟩
     .rw [w] at S
      exact aAa t X r l.length a _ f hw d ⟨hI.low,q0,.inr ⟨m,S⟩⟩ M (on (sF q2))
     .obtain ⟨u1,u2⟩:=aS q0
      have o:blD E p.dst=false:=by simpa using u2
      have e:jP E tab n p.dst (iD fr obs br)=lT tab n (iD fr obs br):=by
              unfold jP
              rw [o,if_neg s_]
      rw [w,e] at S q2
      have hkl:k<aO obs:=by
              refine Nat.lt_of_not_le fun hge=>S ?_
              unfold lT
              split
              .rfl
              .rcases eB obs k with ⟨h1,_⟩ | ⟨_,_,e⟩
               .rw [bF] at hge;omega
               .exact e
      exact aGe t ⟨u1,o⟩ r l.length a _ f hw d ⟨⟨hI.low,fun i N=>by have:=(hI.lt i _ N).1;omega⟩,m,S,q2⟩ (onU hkl (sF q3))
  have T:cC ops.toList (evG tab ops.toList n (aZ fr)) p.guard≠none:=fun e=>by rw [e] at h;exact h
  have u:cC ops.toList (evG tab ops.toList n (aZ fr)) p.guard=some false->gU E ops.toList tab Kq Kp (n+1) l br (kO fr p.dst (.tup [])) obs:=fun e=>by rw [e] at h;exact h
  cases o:blD E p.dst with
  | true=>
   refine C (fun _=>o) (fun e=>?_) u T
   rw [e] at h
   have:soN E tab ops.toList n p.dst=false:=by simp [soN,o]
   rw [this] at h
   exact h
  | false=>
  cases A:sole tab n 0 ops.toList with
  | false=>
   refine C (fun e=>by rw [A] at e;cases e) (fun e=>?_) u T
   rw [e] at h
   have:soN E tab ops.toList n p.dst=false:=by simp [soN,A]
   rw [this] at h
   exact h
  | true=>
   have hone:∀ j,j∈Dk .any ops a->j=n:=fun j H=>by
    refine Decidable.byContradiction fun D=>?_
    have c:=oO I f H d D
    obtain ⟨_,q,G,_⟩:=mem_ready.1 H
    have hjlt:=(Dt.1 G).1
    have:=qB A j (by simpa using hjlt)
    rw [Bp,c] at this
    cases this
   have Z:CU tab n br=[]:=by
    refine Gx.2 fun k K=>?_
    obtain ⟨i,h1,y⟩:=tJ.1 K
    have hin:=(hI.lt i k h1).2
    have:=qB A i q_
    rw [Bp] at this
    have hl2:loose tab i n=true:=lZ.2 ⟨by omega,y,by
     cases G:cK (cV tab i) n with
     | false=>rfl
     | true=>have:=I.less i n G;omega⟩
    rw [hl2] at this
    cases this
   have R:nR E tab n br obs p.dst=obs:=by unfold nR;rw [o,Z];rfl
   have V:soN E tab ops.toList n p.dst=true:=by simp [soN,A,o]
   rw [R,V,o] at h
   refine ⟨fun h=>(by rw [h] at d;cases d),fun j H=>?_⟩
   obtain rfl:=hone j H
   refine ⟨p,t,.inr (.inr ⟨⟨A,o⟩,obs,rfl,hI.low,fun k h1 y=>hI.all k h1 y,fun i k N=>(hI.lt i k N).1,?_⟩)⟩
   cases m:cC ops.toList (evG tab ops.toList j (aZ fr)) p.guard with
   | none=>rw [m] at h;exact h.elim
   | some b=>
    rw [m] at h
    cases b with
    | false=>
     refine .inl ⟨m,?_⟩
     have e:(iD fr obs br).upd j p.dst (.tup []) L0 []=(iD fr obs br).upd j p.dst (.tup []) (aO obs) []:=by
      unfold AS.upd
      congr 1
      .funext k
       unfold lQ
       rw [if_neg fun h=>by have h1:=h.1;have y:=h.2;simp at y;omega,if_neg fun h=>by have h1:=h.1;have y:=h.2;simp at y;omega]
      .funext i k
       refine propext (or_congr Mo ⟨fun h=>?_,fun h=>?_⟩)<;>(have h1:=h.2.1;have y:=h.2.2;simp at y;omega)
     rw [e]
     exact skip h
    | true=>
     dsimp only at h
     refine .inr ⟨m,oU (fun v obs' K hle=>?_) (AA h)⟩
     have hk2:=sF K
     have:=aCM I l (j+1) _ _ _ _ O s B (hI.put hle) hk2
     have e:iD (kO fr p.dst v) obs' (born j (aO obs) (gB (aO obs) obs') br)=⟨hC (iD fr obs br).g p.dst v,aE obs',fun i' k=>(iD fr obs br).br i' k\/(i'=j/\aO obs<=k/\k<aO obs')⟩:=by
      unfold iD
      rw [eR]
      congr 1
      funext i k
      refine propext (mK.trans (or_congr Mo (and_congr Mo ?_)))
      unfold inB
      rw [oV,Fo,bF obs']
      constructor<;>(rintro ⟨h1,y⟩;exact ⟨h1,by omega⟩)
     rw [<-e]
     exact this
end
end Go.AW
