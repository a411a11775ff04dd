/-
  The engine, second make, second part: operations, regions. Over any program.
-/
import Derived.Lib.ConvBytes
import Derived.MapKept
import Derived.WalkSmall
import Derived.Carry
import Derived.Orders
import Derived.Test.YticlgfdibfobdaaGreatWA
set_option linter.all false
open Array renaming ext'->Dv,getD_eq_getD_getElem?->Bi,getElem?_append_left->Gz,getElem?_eq_none->Lu,getElem?_eq_some_iff->Fc,getElem?_setIfInBounds_ne->Ez,getElem?_setIfInBounds_self_of_lt->Es,length_toList->Iu,range->Kk,setIfInBounds_comm->Ix,toList_map->Jv
open Bool renaming and_eq_true->Ag,and_true->Iv,false_eq_true->Ct,false_or->Li,not_eq_true'->Eb,or_eq_true->Hr,true_and->Bo
open Decidable renaming byContradiction->Ld
open Go.Builtin renaming append_->Cq,clear_->Jn,copy_->Kd,delete_->Ks,firstCells->Ch,len_->Fl,zeroCells->Cf
open Go.Instr renaming alloc->Mu,buildSlice->Jy,checkKey->Hl,field->Mj,fieldAt->Lj,findAsking->Jz,findKey->Ll,findNow->Lk,index->Lg,indexAt->Hv,loadAt->Lr,lookup->Lt,mapUpdate->Kr,sameBits->Jo,slice->Lh,sliceAt->Gu,sliceBound->Jx,sliceBounds->Gk,storeAt->Kc,sureAddr->Ih,typeAssert->Ka
open Go.Region renaming binds->Jm,ready->Dx
open Go.Result renaming andThen->La,andThen_ok->Ao
open Go.Sem renaming run_bind->Bf,run_pure->Ca
open Go.Value renaming iface->Mk,int->Ea,ownBlock->Gf,slice->Gt
open Go.World renaming block_lt_of_cell?->Cr,cell?_of_block->Cx,ownsRow_nil->Hg
open Iff renaming rfl->Mv
open Int renaming le_refl->Ds,toNat_natCast->Cz
open List renaming all_cons->Ei,all_eq_true->Cu,append_nil->Bc,drop_drop->Ig,drop_zero->Bn,eq_nil_iff_forall_not_mem->Hn,eq_nil_of_length_eq_zero->Av,ext_getElem?->Ek,foldl_cons->Al,getD_eq_getElem?_getD->Ff,getElem?_append_left->Af,getElem?_append_right->Ak,getElem?_cons_succ->Eu,getElem?_cons_zero->Lp,getElem?_drop->Bv,getElem?_eq_getElem->Ab,getElem?_eq_none->Bh,getElem?_eq_some_iff->Ad,getElem?_map->Bj,getElem?_of_mem->Cs,getElem?_range->Dm,getElem?_replicate->Ew,getElem?_set->Fs,getElem?_set_ne->Aw,getElem?_set_self->Ap,getElem?_take->Gb,getElem?_take_of_lt->Bg,getElem?_toArray->Jq,length_append->Ay,length_cons->Bq,length_drop->Fh,length_eraseIdx_of_lt->Lb,length_map->Ck,length_nil->Fv,length_replicate->Fy,length_take->Fz,map_cons->Bp,mem_append->Az,mem_cons->Au,mem_of_getElem?->Aq,mem_of_mem_drop->Fe,mem_of_mem_take->Cy,mem_or_eq_of_mem_set->Df,mem_replicate->Ga,nil_append->Bm,prefix_refl->Cl,range->Dh,replicate->Ai,size_toArray->Gj,take_left->Kz,take_length->Il,take_of_length_le->Cb,take_zero->Hi
open Nat renaming add_assoc->Kb,add_comm->Mo,add_mul->Bx,add_sub_cancel_left->Hk,add_zero->Em,beq->Ar,ble->Fq,blt->Fi,blt_eq->Jt,div_add_mod->Fu,eq_zero_or_pos->Fm,le_of_ble_eq_true->Ci,le_refl->Ba,le_trans->Co,lt_of_lt_of_le->Ef,lt_or_ge->Mp,lt_trans->Mq,min_eq_left->Hq,mod_lt->Dz,mul_comm->Dj,mul_le_mul_right->Cd,one_mul->Ge,sub_zero->Jl,zero_add->Bw,zero_le->Cn,zero_mul->Kv
open Ne renaming symm->Eg
open Option renaming getD_some->Jw,isSome_iff_exists->Da,isSome_none->Ja,map_eq_some_iff->Cp,map_some->Lz,none->Mt
open Option.some renaming injEq->Fj
open UInt8 renaming ofNat->Mg
namespace Go.AW
open Go.RowKit
section
variable {P:Program} {E:Env} {M:Imm} {ob:Hs} {obs:List AObj} {w:World} {base:Nat}
theorem aS {s:Sem Value} {v:AVal} {u:Value} (h:s.run P w= .ok u w) (a:Rep M ob u v):PS0 P M ob w s obs base (.val v):=⟨rfl,u,h,a⟩
theorem aGS {b o:Nat} (l:List AVal) (h:∀ (i:Nat) c,l[i]? =some c->∃ u,w.cell? ⟨b,o+i,none⟩=some u/\Rep M ob u c):
  ∃ vs:List Value,vs.length=l.length/\(∀ (j:Nat) u,vs[j]? =some u->w.cell? ⟨b,o+j,none⟩=some u)/\∀ (i:Nat) v a,vs[i]? =some v->l[i]? =some a->Rep M ob v a:=by
 refine ⟨(Dh l.length).map fun q=>(w.cell? ⟨b,o+q,none⟩).getD undef,by simp,fun j u g=>?_,fun i v a n f=>?_⟩
 .simp only [Bj] at g
  by_cases e:j<l.length
  .obtain ⟨k,d,_⟩:=h j _ (Ab e)
   simp_all
  grind
 .have e:i<l.length:=(Ad.1 f).1
  obtain ⟨k,d,m⟩:=h i a f
  simp_all
theorem yJ {t:Nat} {a:TI} (k:uD P t a.agg a.size a.kind) (hs:(P.info? t).map (·.size)=some a.size) {b o:Nat} {vs:List Value} (hl:vs.length=a.size)
  (f:∀ (j:Nat) u,vs[j]? =some u->w.cell? ⟨b,o+j,none⟩=some u) (u:Value) (h:a.agg=true->u= .agg vs.toArray) (d:a.agg=false->vs=[u]):
  (loadVar t ⟨b,o,none⟩).run P w= .ok u w:=by
 obtain ⟨h1,i⟩:=k.isAgg
 unfold loadVar
 simp only [Bf,wO h1,Ao,i]
 cases g:a.agg with
 | true=>
  have c:=run_loadCells_list (P:=P) w ⟨b,o,none⟩ vs (fun j v e=>by rw [bH];exact f j v e)
  rw [hl] at c
  simp only [if_true,Bf,run_sizeOf hs,Ao,c,Ca,h g]
 | false=>
  have e:=d g
  have:=f 0 u (by rw [e];rfl)
  rw [Em] at this
  simp only [Ct,if_false,run_load,this]
theorem aFw {b:TI} {l:List AVal} {a:AVal} (h:mk b l=some a):(b.agg=true/\a= .agg l)\/(b.agg=false/\l=[a]):=by
 unfold mk at h
 grind
theorem M4 {t:Nat} {k:TI} (d:TIOK P t k) {b o:Nat} {l:List AVal} {a:AVal} (j:mk k l=some a) (hl:l.length=k.size)
  (h:∀ (i:Nat) c,l[i]? =some c->∃ u,w.cell? ⟨b,o+i,none⟩=some u/\Rep M ob u c):∃ u,(loadVar t ⟨b,o,none⟩).run P w= .ok u w/\Rep M ob u a:=by
 obtain ⟨vs,e,f,g⟩:=aGS l h
 rcases aFw j with ⟨m,rfl⟩ | ⟨m,rfl⟩
 .exact ⟨.agg vs.toArray,yJ d.kind d.size? (e.trans hl) f _ (fun _=>rfl) (fun h=>by grind),.agg vs l e g⟩
 .match vs,e with
  | [u],_=>exact ⟨u,yJ d.kind d.size? o_ f u (fun h=>by grind) (fun _=>rfl),g 0 u a rfl rfl⟩
theorem UW {t:Nat} {e:TI} (f:TIOK P t e) {b o off:Nat} {cs:List AVal}
  (h:∀ (i:Nat) c,cs[off+i]? =some c->∃ u,w.cell? ⟨b,o+i,none⟩=some u/\Rep M ob u c):PS0 P M ob w (Lr t (.pointer (some ⟨b,o,none⟩))) obs base (fin e (lV e.size (kJ off cs))):=by
 unfold fin
 split
 .exact trivial
 .rename_i l hl
  split
  .exact trivial
  .rename_i a d
   obtain ⟨h1,g⟩:=jC hl
   obtain ⟨u,m,j⟩:=M4 f d h1 (b:=b) (o:=o) (M:=M) (ob:=ob) (w:=w) fun i c k=>by
    have:=g i c k
    rw [lW,Bv] at this
    exact h i c this
   refine aS (u:=u) ?_ j
   unfold Lr Ih
   grind
theorem dD.cell {v:Value} {d:Nat} {e:TypeId} {xs:List AVal} (h:dD M w v d e xs) {b:Nat} {n c:Nat} (m:v= .slice (some ⟨b,0,none⟩) n c) {i j:Nat} {x a:AVal} (f:xs[i]? =some x) (o:x.cells[j]? =some a):
  ∃ u,w.cell? ⟨b,i*d+j,none⟩=some u/\Rep M [] u a:=by
 obtain ⟨cv,h1,_,h3,g,_⟩:=h
 obtain ⟨u,k,l⟩:=g _ a (HC f o (h3 x (Aq f)))
 exact ⟨u,fC h1 (by rw [m];rfl) k,l⟩
theorem bW {k:Nat} {x:AObj} (h:aE obs k=x) (a:x≠ .dead):obs[k]? =some x:=bG h a
theorem aGq (hE:EnvOK E) (hm:Mem M ob obs w) {t:Nat} {v:Value} {a:AVal} (z:Rep M ob v a):PS0 E.P M ob w (Lr t v) obs base (aC4 E (aE obs) t a):=by
 unfold aC4
 split
 .exact trivial
 .rename_i F H
  have h:=hE.tab t F H
  split
  .rename_i cs
   obtain ⟨b,o,rfl,G⟩:=z.ptr_inv
   refine UW (off:=0) (cs:=cs) h fun i c m=>?_
   rw [Bw] at m
   obtain ⟨u,s,_,r⟩:=hm.imm b _ c (G i c m)
   exact ⟨u,s,r.pure⟩
  .rename_i k off
   obtain ⟨b,rfl,l⟩:=z.ref_inv
   split
   .rename_i cs f
    obtain ⟨hs,h1,L,rfl,_,cv,N,q,_,d⟩:=hm.obj k _ (bW f s_)
    rw [bZ h1] at l
    cases l
    refine UW h fun i c m=>?_
    have p:off+i<cv.length:=by rw [q];exact (Ad.1 m).1
    exact ⟨cv[off+i],by rw [cell_of_row w b _ _ _ (0,0) N];simp [p],d _ _ c (Ab p) m⟩
   .rename_i cs f
    obtain ⟨hs,h1,L,rfl,d⟩:=hm.obj k _ (bW f s_)
    rw [bZ h1] at l
    cases l
    refine UW h fun i c m=>?_
    obtain ⟨u,s,_,r⟩:=hm.imm b _ c (d _ c m)
    exact ⟨u,s,r.pure⟩
   .exact trivial
  .rename_i k g i O off
   cases z with
   | eref k g i O off b n c l=>
   split
   .rename_i R K e xs f
    refine sdc fun I=>?_
    obtain ⟨y,A⟩:=aU I
    obtain rfl:=aC y
    obtain rfl:=aC A
    intro x J
    obtain ⟨hs,v,h1,Q,h3,B,D,_⟩:=hm.rowOf (bW f s_)
    rw [B] at l
    cases l
    refine UW h fun j c C=>?_
    obtain ⟨u,s,r⟩:=D.cell rfl J C
    exact ⟨u,by grind,r.pure⟩
   .exact trivial
  .exact trivial
theorem K9 {t:Nat} {a off:Nat} (h1:(P.info? t).map (·.size)=some a) (c:(P.underlying t).isSome=true) (vs:List Value) (u:Value)
  (e:aO P t=true->u= .agg ((vs.drop off).take a).toArray) (d:aO P t=false->vs[off]? =some u):(part t vs.toArray off).run P w= .ok u w:=by
 unfold part
 simp only [Bf,wO c,Ao]
 cases b:aO P t with
 | true=>
  simp only [if_true,Bf,run_sizeOf h1,Ao,Ca,e b]
  simp
 | false=>simp [d b]
theorem aBq {vs:List Value} {cs:List AVal} (h:cA M ob vs cs) {b off:Nat} {l:List AVal} (j:lV b (kJ off cs)=some l):cA M ob ((vs.drop off).take b) l:=by
 obtain ⟨h1,d⟩:=jC j
 rw [lW] at d
 have hl:=h.1
 have c:((vs.drop off).take b).length=l.length:=by
  have:b<=(cs.drop off).length:=by
   rcases Fm b with g | g
   .omega
   .have:=d (b-1) _ (Ab o_)
    have:=(Ad.1 this).1
    omega
  simp at this
  simp;omega
 refine ⟨c,fun i v a e m=>?_⟩
 have f:=d i a m
 rw [Bv] at f
 have k:i<b:=by rw [<-h1];grind
 rw [Bg k,Bv] at e
 exact h.2 _ v a e f
theorem B8 {t:Nat} {i off:Nat} (h1:(P.info? t).map (·.size)=some i) (m:(P.underlying t).isSome=true) {vs:List Value} {cs:List AVal} (h:cA M ob vs cs)
  {l:List AVal} (k:lV i (kJ off cs)=some l) {a:AVal} (b:aO P t=true->a= .agg l) (c:aO P t=false->l=[a]):∃ u,(part t vs.toArray off).run P w= .ok u w/\Rep M ob u a:=by
 have hp:=aBq h k
 cases j:aO P t with
 | true=>
  rw [b j]
  exact ⟨_,K9 h1 m vs _ (fun _=>rfl) (fun e=>by grind),.agg _ l hp.1 hp.2⟩
 | false=>
  have f:=c j
  subst f
  obtain ⟨o,n⟩:=hp
  have g:i=1:=by have:=(jC k).1;simpa using this.symm
  subst g
  have p:((vs.drop off).take 1)[0]? =vs[off]?:=by rw [Bg o_,Bv,Em]
  have d:0<((vs.drop off).take 1).length:=by rw [o];simp
  refine ⟨((vs.drop off).take 1)[0],K9 h1 m vs _ (fun e=>by grind) (fun _=>?_),n 0 _ a (Ab d) rfl⟩
  simp
theorem aC6 (hE:EnvOK E) {s f:Nat} {v:Value} {a:AVal} (y:Rep M ob v a):PS0 E.P M ob w (Mj s v f) obs base (Q9 E s a f):=by
 unfold Q9
 split
 .rename_i F _ _ _ r
  have k:=hE.tab s _ r
  obtain ⟨⟨b,m,z⟩,_⟩:=k.kind
  split
  .exact trivial
  .rename_i off H q B
   obtain ⟨g,i,D,p,A,G⟩:=z.get B
   split
   .rename_i cs
    split
    .exact trivial
    .rename_i l hl
     obtain ⟨vs,rfl,c,o⟩:=y.agg_inv
     have key:∀ x,(aO E.P g.type=true->x= .agg l)->(aO E.P g.type=false->l=[x])->PS0 E.P M ob w (Mj s (.agg vs.toArray) f) obs base (.val x):=by
      intro x h1 n
      obtain ⟨u,j,h⟩:=B8 (P:=E.P) (w:=w) (t:=g.type) p A ⟨c,o⟩ hl h1 n
      refine aS (u:=u) ?_ h
      have d:b[f]? =some g:=by simpa using i
      unfold Mj
      simp only [Bf,run_underlying m,Ao,d,asAgg,Ca,D,j]
     cases C:q with
     | true=>exact key _ (fun _=>rfl) (fun e=>by grind)
     | false=>
      simp only [cond_false]
      split
      .exact key _ (fun e=>by grind) (fun _=>rfl)
      .exact trivial
   .exact trivial
 .exact trivial
theorem JJ (hE:EnvOK E) {s f:Nat} {v:Value} {a:AVal} (k:Rep M ob v a):PS0 E.P M ob w (Lj s v f) obs base (tX E s a f):=by
 unfold tX
 split
 .rename_i D _ _ _ z
  have m:=hE.tab s _ z
  obtain ⟨⟨d,u,A⟩,_⟩:=m.kind
  split
  .exact trivial
  .rename_i off q F B
   obtain ⟨r,t,C,y,G,H⟩:=A.get B
   have g:d[f]? =some r:=by simp_all
   cases hz:Ar q 0 with
   | true=>exact trivial
   | false=>
    simp only [cond_false]
    have l:¬ q=0:=fun e=>by simp_all
    have key:∀ i,(Lj s (.pointer (some i)) f).run E.P w= .ok (.pointer (some (i.add off))) w:=fun i=>by
     unfold Lj Ih fieldPlace
     simp only [Bf,run_underlying u,Ao,g,Ca,run_sizeOf y,if_neg l,C]
    split
    .obtain ⟨b,o,rfl,x⟩:=k.ptr_inv
     refine aS (key _) ?_
     rw [bH]
     exact .ptr b (o+off) _ fun j c p=>by rw [lW,Bv] at p;have:=x _ c p;grind
    .obtain ⟨b,rfl,h⟩:=k.ref_inv
     refine aS (key _) ?_
     rw [bH]
     exact .ref _ _ b h
    .cases k with
     | eref _ _ _ _ _ b n c h=>
      refine aS (key _) ?_
      rw [bH,Kb]
      exact .eref _ _ _ _ _ b n c h
    .exact trivial
 .exact trivial
theorem dD.len {v:Value} {c:Nat} {e:TypeId} {xs:List AVal} (h:dD M w v c e xs):(v= .slice none 0 0/\xs=[])\/∃ b cap,v= .slice (some ⟨b,0,none⟩) xs.length cap/\v.ownBlock=some b/\xs.length<=cap/\cap<=maxLen:=by
 obtain ⟨cv,h1,_⟩:=h
 rcases cZ h1 with ⟨a,h3⟩ | a
 .exact .inl ⟨a,Av h3⟩
 .exact .inr a
theorem fZ:(maxLen:Int)<=9223372036854775807:=by decide
theorem JI (hE:EnvOK E) (hm:Mem M ob obs w) {t:Nat} {v Y:Value} {a i:AVal} (y:Rep M ob v a) (H:Rep M ob Y i):PS0 E.P M ob w (Hv t v Y) obs base (tW E (aE obs) t a i):=by
 unfold tW
 split
 .rename_i ti _ n hT
  have C:=hE.tab t ti hT
  obtain ⟨rfl,hri⟩:=H.int_inv
  split
  .rename_i e l eb J
   have d:=C.kind
   rw [J] at d
   obtain ⟨⟨Q,i',z,u,hs,_⟩,_⟩:=d
   have r:(E.P.info? e).map (·.size)=some l:=by grind
   have key:∀ (q:Addr) (len cap:Nat) (k:IntKind) (i:Nat),i<len->(Hv t (.slice (some q) len cap) (.int k (i:Int))).run E.P w= .ok (.pointer (some (q.add (i*l)))) w:=fun q len cap k i h1=>by
    unfold Hv
    simp only [Bf,asIntOf,Ca,Ao,run_underlying Q]
    rw [if_pos ⟨by omega,by omega⟩]
    simp only [Bf,run_sizeOf r,Ao,Ca,Cz]
   have slc:∀ {O:Value} {xs:List AVal} {X:Tk},Rep M ob O (.slice l xs X)->∀ (k:IntKind) (i:Nat) x,xs[i]? =some x->PS0 E.P M ob w (Hv t O (.int k (i:Int))) obs base (.val (.ptr x.cells)):=fun {O xs X} hr k i x s=>by
    have B:i<xs.length:=(Ad.1 s).1
    cases hr.untok.1 with
    | slnil=>simp at B
    | slemp=>simp at B
    | sl _ b o n1 cap _ _ hn T G hz I _=>
     refine aS (key _ n1 cap _ i o_) ?_
     rw [bH]
     exact .ptr b _ _ fun j c hj=>I i j x c s hj
   split
   .rename_i F xs tt
    refine sdc fun R=>?_
    obtain rfl:=aC R
    rintro i rfl x s
    exact slc y _ i x s
   .rename_i k g
    obtain ⟨a,n',c,rfl,f⟩:=y.row_inv
    split
    .rename_i V F e' xs p
     refine sdc fun D=>?_
     obtain ⟨m,h⟩:=aU D
     obtain rfl:=aC m
     obtain rfl:=aC h
     rintro i rfl u
     obtain ⟨hs',v,h1,U,h3,W,h5,_⟩:=hm.rowOf (bW p s_)
     rw [W] at f
     cases f
     rcases h5.len with ⟨Z,rfl⟩ | ⟨b,cap,Z,e2,_⟩
     .simp at u
     .cases Z
      refine aS (key _ _ _ _ i u) ?_
      rw [bH,Mo 0]
      exact .eref k _ i F 0 b _ _ W
    .rename_i V F xs p
     refine sdc fun D=>?_
     obtain ⟨m,h⟩:=aU D
     obtain rfl:=aC m
     obtain rfl:=aC h
     rintro i rfl x s
     obtain ⟨hs',h1,v,U,h3⟩:=hm.obj k _ (bW p s_)
     rw [bZ h1,U] at f
     cases f
     exact slc h3.pure _ i x s
    .exact trivial
   .rename_i k g lo len F
    split
    .rename_i V sz' e' xs p
     refine sdc fun D=>?_
     obtain ⟨A,S⟩:=aU D
     obtain ⟨m,h⟩:=aU A
     obtain rfl:=aC m
     obtain rfl:=aC h
     obtain rfl:=aC S
     rintro i rfl u
     cases y with
     | sub _ _ _ _ _ b n' c f hl hn K G=>
      refine aS (key _ _ _ _ i u) ?_
      rw [bH,<-Bx]
      exact .eref k _ (lo+i) F 0 b _ _ f
     | sub0=>simp at u
    .exact trivial
   .exact trivial
  .rename_i len l ea J
   have d:=C.kind
   rw [J] at d
   obtain ⟨⟨e,Q,r,_⟩,_⟩:=d
   have key:∀ (q:Addr) k,0<=n->n.toNat<len->(Hv t (.pointer (some q)) (.int k n)).run E.P w= .ok (.pointer (some (q.add (n.toNat*l)))) w:=fun q k h0 h1=>by
    unfold Hv Ih
    simp only [Bf,asIntOf,Ca,Ao,run_underlying Q]
    rw [if_pos ⟨h0,by omega⟩]
    simp only [Bf,run_sizeOf r,Ao,Ca]
   split
   .rintro ⟨L,N⟩
    obtain ⟨b,rfl,hb⟩:=y.ref_inv
    refine aS (key _ _ L N) ?_
    rw [bH]
    exact .ref _ _ b hb
   .rintro ⟨L,N⟩
    obtain ⟨b,o,rfl,I⟩:=y.ptr_inv
    refine aS (key _ _ L N) ?_
    rw [bH]
    exact .ptr b _ _ fun j c K=>by rw [lW,Bv] at K;have:=I _ c K;rw [Kb];exact this
   .exact trivial
  .exact trivial
 .exact trivial
theorem aC5 (hE:EnvOK E) {t:Nat} {v y:Value} {a i:AVal} (s:Rep M ob v a) (f:Rep M ob y i):PS0 E.P M ob w (Lg t v y) obs base (Q8 E t a i):=by
 unfold Q8
 split
 .rename_i l k n
  obtain ⟨rfl,_⟩:=f.int_inv
  obtain ⟨rfl,_⟩:=s.str_inv
  split
  .rename_i _ _ _ r
   obtain ⟨m,_⟩:=(hE.tab t _ r).kind
   rintro i rfl c z
   refine ⟨rfl,.int .u8 c.toNat,?_,vD c⟩
   have j:i<l.length:=(Ad.1 z).1
   unfold Lg
   simp only [Bf,asIntOf,Ca,Ao,run_underlying m]
   rw [if_pos o_]
   have I:(⟨l.toArray⟩:ByteArray)[i]? =some c:=by
    have:i<(⟨l.toArray⟩:ByteArray).size:=by simpa [ByteArray.size] using j
    rw [getElem?_pos (⟨l.toArray⟩:ByteArray) i this]
    have o:=(Ad.1 z).2
    rw [<-o]
    rfl
   simp_all
  .exact trivial
 .rename_i cs k n
  obtain ⟨rfl,_⟩:=f.int_inv
  split
  .rename_i len D G _ _ _ r
   obtain ⟨⟨e,m,b,p,H⟩,_⟩:=(hE.tab t _ r).kind
   split
   .rename_i l hl
    obtain ⟨vs,rfl,d,F⟩:=s.agg_inv
    have key:∀ x,0<=n->n<len->(aO E.P e=true->x= .agg l)->(aO E.P e=false->l=[x])->PS0 E.P M ob w (Lg t (.agg vs.toArray) (.int k n)) obs base (.val x):=by
     intro x B h1 C h3
     obtain ⟨u,q,h⟩:=B8 (P:=E.P) (w:=w) (t:=e) b p ⟨d,F⟩ hl C h3
     refine aS (u:=u) ?_ h
     unfold Lg
     simp only [Bf,asIntOf,Ca,Ao,run_underlying m]
     rw [if_pos ⟨B,h1⟩]
     simp only [Bf,run_sizeOf b,Ao,q]
    cases A:G with
    | true=>exact fun g=>key _ g.1 g.2 (fun _=>rfl) (fun e=>by simp_all)
    | false=>
     simp only [cond_false]
     split
     .exact fun g=>key _ g.1 g.2 (fun e=>by simp_all) (fun _=>rfl)
     .exact trivial
   .exact trivial
  .exact trivial
 .exact trivial
theorem aJO (hE:EnvOK E) (hm:Mem M ob obs w) {t ty:TypeId} {v:Value} {a:AVal} (m:Rep M ob v a):PS0 E.P M ob w (Fl #[t] ty #[v]) obs base (aJP E (aE obs) t a):=by
 unfold aJP
 split
 .exact trivial
 .rename_i D G
  have d:=(hE.tab t D G).kind
  have f:∀ n:Nat,(n:Int)<=9223372036854775807->inR .i64 (n:Int):=fun n h=>⟨by simp only [bO];omega,by simp only [bA];omega⟩
  have q:Rep M ob (.int .i64 (0:Nat)) (.int .i64 (0:Nat)):=.int _ _ (f 0 d_)
  have slc:∀ {s:Value} {o:Nat} {xs:List AVal} {z:Tk} {e:TypeId},E.P.underlying t=some (.slice e)->Rep M ob s (.slice o xs z)->PS0 E.P M ob w (Fl #[t] ty #[s]) obs base (.val (.int .i64 xs.length)):=fun {s o xs z e} r hr=>by
   obtain ⟨a,c,rfl,_,_,p⟩:=hr.slice_inv
   exact aS (u:=.int .i64 xs.length) (by simp [Fl,run_underlying r,goInt]) (.int _ _ (f _ p))
  split
  .rename_i l g
   rw [g] at d
   obtain ⟨rfl,h⟩:=m.str_inv
   exact aS (u:=.int .i64 l.length) (by simp [Fl,run_underlying d.1,goInt,oS]) (.int _ _ (f _ h))
  .rename_i g
   rw [g] at d
   exact slc d.1.1 m
  .rename_i g
   rw [g] at d
   cases m
   exact aS (u:=.int .i64 (0:Nat)) (by simp [Fl,run_underlying d.1.1,goInt]) q
  .rename_i g
   rw [g] at d
   cases m with
   | csl _ _ _ _ b h j=>exact aS (u:=.int .i64 (Nat.cast _)) (by simp [Fl,run_underlying d.1.1,goInt]) (.int _ _ (f _ j))
  .rename_i g
   rw [g] at d
   cases m
   exact fun j=>aS (u:=.int .i64 (Nat.cast _)) (by simp [Fl,run_underlying d.1.1,goInt]) (.int _ _ (f _ j))
  .rename_i g
   rw [g] at d
   obtain ⟨a,n,c,rfl,i⟩:=m.row_inv
   split
   .rename_i F o e xs k
    refine sdc fun x=>?_
    obtain rfl:=aC x
    obtain ⟨hs',v,h1,A,h3,p,C,_⟩:=hm.rowOf (bW k s_)
    rw [p] at i
    cases i
    rcases C.len with ⟨y,rfl⟩ | ⟨b,cap,y,H,J,K⟩
    .cases y
     exact aS (u:=.int .i64 (0:Nat)) (by simp [Fl,run_underlying d.1.1,goInt]) q
    .cases y
     exact aS (u:=.int .i64 xs.length) (by simp [Fl,run_underlying d.1.1,goInt]) (.int _ _ (f _ (by have:=fZ;omega)))
   .rename_i F o xs k
    refine sdc fun x=>?_
    obtain rfl:=aC x
    obtain ⟨hs',h1,v,A,h3⟩:=hm.obj _ _ (bW k s_)
    rw [bZ h1,A] at i
    cases i
    exact slc d.1.1 (h3.pure (M:=M) (ob:=ob))
   .exact trivial
  .rename_i g
   rw [g] at d
   cases m with
   | sub _ _ _ _ _ b n c i hl B L j=>exact aS (u:=.int .i64 (Nat.cast _)) (by simp [Fl,run_underlying d.1.1,goInt]) (.int _ _ (f _ o_))
   | sub0 _ _ _ _ a I n c=>exact aS (u:=.int .i64 (0:Nat)) (by simp [Fl,run_underlying d.1.1,goInt]) q
  .rename_i _ g
   rw [g] at d
   obtain ⟨⟨e,r,_⟩,_⟩:=d
   intro B
   exact aS (u:=.int .i64 (Nat.cast _)) (by simp [Fl,run_underlying r,goInt]) (.int _ _ (f _ B))
  .exact trivial
end
def VM (P:Program) (M:Imm) (ob:Hs) (obs:List AObj) (w:World) (s:Sem Value) (v:AVal) (obs':List AObj):Prop:=
 ∃ u w' M' ob',s.run P w= .ok u w'/\Ext M ob obs w M' ob' obs' w'/\Mem M' ob' obs' w'/\cH ob obs ob' obs'/\Rep M' ob' u v
abbrev PM (P:Program) (M:Imm) (ob:Hs) (w:World) (s:Sem Value) (obs:List AObj) (base:Nat) (r:OR):Prop:=Sd (VM P M ob obs w s) (fun _ _=>False) (fun _=>False) obs base r
section
variable {P:Program} {E:Env} {M:Imm} {ob:Hs} {obs:List AObj} {w:World} {base:Nat}
theorem PM.of (hm:Mem M ob obs w) {s:Sem Value} {r:OR} (h:PS0 P M ob w s obs base r):PM P M ob w s obs base r:=
 Sd.mono (fun v o ⟨h1,u,a,h3⟩=>⟨u,w,M,ob,a,h1▸Ext.refl _ _ _ _,h1▸hm,h1▸cH.refl _ _,h3⟩) (fun _ _ h=>h) (fun _ h=>h) h
theorem bX.pm {ρv:Operand->Value} {op:Op} {ty:TypeId} {r:OR} {s:Sem Value}
  (i:∀ d pos a g,execOp ρv ⟨d,op,ty,pos,a,g⟩=(s >>= fun v=>Pure.pure (.value v))) (h:PM P M ob w s obs base r):bX P ρv op ty M ob obs w base r:=
 Sd.mono (fun v o ⟨u,w',M',ob',f,h3,b,c,e⟩=>⟨u,w',M',ob',fun d pos a g=>.inl (by simp_all),h3,b,c,e⟩) (fun _ _ h=>h.elim) (fun _ h=>h.elim) h
def EI (M:Imm) (ob:Hs) (v:Option Value) (a:Option AVal):Prop:=(v=none/\a=none)\/∃ u x,v=some u/\a=some x/\Rep M ob u x
def aD0 (v:Option Value) (q:Option Nat):Prop:=(v=none/\q=none)\/∃ (k:IntKind) (n:Nat),v=some (.int k n)/\q=some n
theorem rF {s:Sem Value} {a:Option Value} {l:Option AVal} (h:EI M ob a l) {f:Option Nat->OR} (k:∀ q,aD0 a q->PS0 P M ob w s obs base (f q)):PS0 P M ob w s obs base (bnd l f):=by
 rcases h with ⟨rfl,rfl⟩ | ⟨u,x,rfl,rfl,b⟩
 .exact k none (.inl ⟨rfl,rfl⟩)
 .cases x with
  | int c n=>
   obtain ⟨rfl,_⟩:=b.int_inv
   rintro i rfl
   exact k (some i) (.inr ⟨c,i,rfl,rfl⟩)
  | _=>exact trivial
theorem aD0.none {v:Option Value} (h:aD0 v none):v=none:=by rcases h with ⟨h,_⟩ | ⟨_,_,_,h⟩;exact h;cases h
theorem aD0.some {v:Option Value} {n:Nat} (h:aD0 v (some n)):∃ k,v=some (.int k n):=by rcases h with ⟨_,h⟩ | ⟨k,n,h1,h⟩;cases h;grind
theorem DN {t e:TypeId} (h:P.underlying t=some (.slice e)):P.underlying t=some (.slice (P.elem t))/\P.elem t=e:=by
 have:P.elem t=e:=by simp [Program.elem,h]
 grind
theorem O7 {v:Value} {f:Nat} {xs:List AVal} (h:Rep M ob v (.slice f xs .no)):∃ a n c,v= .slice a n c/\xs.length=n/\n<=c/\∀ l d,l<=d->d<=n->
  Rep M ob (sliced a l d c f) (.slice f ((xs.take d).drop l) .no)/\(Rep M ob (sliced a l d d f) (.slice f ((xs.take d).drop l) .no)):=by
 cases h with
 | slnil f=>
  refine ⟨none,0,0,rfl,rfl,Ba _,fun l d h1 u=>?_⟩
  have:d=0:=o_
  subst this
  have:l=0:=o_
  subst this
  exact ⟨.slnil f .no trivial,.slnil f .no trivial⟩
 | slemp f _ a cap=>
  refine ⟨some a,0,cap,rfl,rfl,Cn _,fun l d h1 u=>?_⟩
  have:d=0:=o_
  subst this
  have:l=0:=o_
  subst this
  have hs:∀ m,∃ b c,sliced (some a) 0 0 m f= .slice (some b) 0 c:=fun m=>by
   unfold sliced
   grind
  obtain ⟨C,D,B⟩:=hs cap
  obtain ⟨G,F,y⟩:=hs 0
  rw [B,y]
  exact ⟨.slemp _ _ _ _ trivial,.slemp _ _ _ _ trivial⟩
 | sl f b o n c xs _ z t A hz w=>
  refine ⟨_,n,c,rfl,z,t,fun l d h1 u=>?_⟩
  have r:∀ m,d<=m->Rep M ob (sliced (some ⟨b,o,none⟩) l d m f) (.slice f ((xs.take d).drop l) .no):=by
   intro m hm
   have g:((xs.take d).drop l).length=d-l:=by simp;omega
   have s:∀ x∈(xs.take d).drop l,x.cells.length=f:=fun x k=>hz x (Cy (Fe k))
   have q:∀ (i:Nat) x,((xs.take d).drop l)[i]? =some x->xs[l+i]? =some x:=fun i x k=>by
    rw [Bv,Gb] at k
    split at k
    .exact k
    .cases k
   by_cases p:m=l
   .have e:sliced (some ⟨b,o,none⟩) l d m f= .slice (some ⟨b,o,none⟩) (d-l) (m-l):=by simp [sliced,p]
    rw [e]
    refine .sl f b o _ _ _ _ g o_ o_ s (fun i j x c k t=>?_) trivial
    have:i<d-l:=by rw [<-g];exact (Ad.1 k).1
    omega
   .have e:sliced (some ⟨b,o,none⟩) l d m f= .slice (some ⟨b,o+l*f,none⟩) (d-l) (m-l):=by simp [sliced,p,bH]
    rw [e]
    refine .sl f b _ _ _ _ _ g o_ o_ s (fun i j x c k t=>?_) trivial
    have:=w _ j x c (q i x k) t
    rwa [Bx,<-Kb] at this
  exact ⟨r c o_,r d (Ba _)⟩
theorem tD {k g x y d:Nat} {a:Option Addr} {n c:Nat} (m:a=none/\n=0/\c=0\/∃ b,a=some ⟨b,0,none⟩) (f:at' ob k g=some (.slice a n c)) (j:n<=c) (l:x<=y) (o:y<=n) (i:(n:Int)<=9223372036854775807):
  Rep M ob (sliced a x y c d) (.sub k g x (y-x) d):=by
 by_cases h:c=x
 .have e:sliced a x y c d= .slice a 0 0:=by
   have:y-x=0:=o_
   simp [sliced,h,this]
  rw [e]
  have:y-x=0:=o_
  rw [this]
  exact .sub0 k g x d a a n c f o_ o_
 .rcases m with ⟨rfl,rfl,rfl⟩ | ⟨b,rfl⟩
  .omega
  .have e:sliced (some ⟨b,0,none⟩) x y c d= .slice (some ⟨b,x*d,none⟩) (y-x) (c-x):=by simp [sliced,h,bH]
   rw [e]
   exact .sub k g x (y-x) d b n c f o_ o_ j i
theorem oK {k g lo x y a b n c:Nat} (d:at' ob k g=some (.slice (some ⟨b,0,none⟩) n c)) (hl:lo<c) (j:n<=c) (l:x<=y) (m:lo+y<=n) (h:(n:Int)<=9223372036854775807):
  Rep M ob (sliced (some ⟨b,lo*a,none⟩) x y (c-lo) a) (.sub k g (lo+x) (y-x) a):=by
 by_cases f:c-lo=x
 .have i:y-x=0:=o_
  have e:sliced (some ⟨b,lo*a,none⟩) x y (c-lo) a= .slice (some ⟨b,lo*a,none⟩) 0 0:=by simp [sliced,f,i]
  rw [e,i]
  exact .sub0 k g (lo+x) a _ _ n c d o_ o_
 .have e:sliced (some ⟨b,lo*a,none⟩) x y (c-lo) a= .slice (some ⟨b,(lo+x)*a,none⟩) (y-x) (c-(lo+x)):=by
   simp [sliced,f,bH,Bx]
   omega
  rw [e]
  exact .sub k g (lo+x) (y-x) a b n c d o_ o_ j h
theorem aCS (hE:EnvOK E) (hm:Mem M ob obs w) {t:TypeId} {v:Value} {a:AVal} (Z:Rep M ob v a) {vlo vhi vmx:Option Value} {lo hi mx:Option AVal}
  (N:EI M ob vlo lo) (L:EI M ob vhi hi) (hmx:EI M ob vmx mx):PS0 E.P M ob w (Gu t v vlo vhi vmx) obs base (Q0 E (aE obs) t a lo hi mx):=by
 have H:mx=none->vmx=none:=fun e=>by
  rcases hmx with ⟨h,_⟩ | ⟨_,_,_,h,_⟩
  .exact h
  grind
 have X:lo=none->vlo=none:=fun e=>by
  rcases N with ⟨h,_⟩ | ⟨_,_,_,h,_⟩
  .exact h
  grind
 have U:hi=none->vhi=none:=fun e=>by
  rcases L with ⟨h,_⟩ | ⟨_,_,_,h,_⟩
  .exact h
  grind
 unfold Q0
 split
 .exact trivial
 .rename_i ti hT
  have hti:=hE.tab t ti hT
  have f:=hti.kind
  split
  .rename_i l
   obtain ⟨rfl,hlm⟩:=Z.str_inv
   split
   .have O:=‹ti.kind=TK.str›
    rw [O] at f
    obtain rfl:=H rfl
    have G:=f.1
    have hb:∀ i j,(⟨l.toArray⟩:ByteArray).extract i j=⟨((l.take j).drop i).toArray⟩:=QF l
    have hs:(⟨l.toArray⟩:ByteArray).size=l.length:=oS l
    refine rF N fun D r=>rF L fun q o=>?_
    cases D with
    | none=>
     obtain rfl:=r.none
     cases q with
     | none=>
      obtain rfl:=o.none
      refine aS (u:=.string ⟨l.toArray⟩) ?_ (.str _ hlm)
      rw [run_sliceAt_string w t _ _ _ _ G]
      unfold Lh Gk
      simp only [Bf,run_underlying G,Ao,Ja,Ct,if_false,Ca,hb,hs]
      simp
     | some y=>
      obtain ⟨k,rfl⟩:=o.some
      intro I
      refine aS (u:=.string ⟨(l.take y).toArray⟩) ?_ (.str _ q_)
      rw [run_sliceAt_string w t _ _ _ _ G]
      unfold Lh Gk Jx
      simp only [Bf,run_underlying G,Ao,Ja,Ct,if_false,Ca,hb,hs,asIntOf]
      simp_all
    | some x=>
     obtain ⟨k,rfl⟩:=r.some
     cases q with
     | none=>
      obtain rfl:=o.none
      intro I
      refine aS (u:=.string ⟨(l.drop x).toArray⟩) ?_ (.str _ q_)
      rw [run_sliceAt_string w t _ _ _ _ G]
      unfold Lh Gk Jx
      simp only [Bf,run_underlying G,Ao,Ja,Ct,if_false,Ca,hb,hs,asIntOf]
      simp_all
     | some y=>
      obtain ⟨K,rfl⟩:=o.some
      rintro ⟨I,c2⟩
      refine aS (u:=.string ⟨((l.take y).drop x).toArray⟩) ?_ (.str _ q_)
      rw [run_sliceAt_string w t _ _ _ _ G]
      unfold Lh Gk Jx
      simp only [Bf,run_underlying G,Ao,Ja,Ct,if_false,Ca,hb,hs,asIntOf]
      rw [if_pos ⟨by omega,by omega⟩]
      simp;omega
   .exact trivial
  .rename_i A xs tt
   split
   .rename_i e esz eb O
    rw [O] at f
    obtain ⟨⟨G,ie,z,hi',hs,_⟩,_⟩:=f
    refine sdc fun hg=>?_
    obtain rfl:=aC hg
    obtain ⟨d,hel⟩:=DN G
    have F:(E.P.info? (E.P.elem t)).map (·.size)=some A:=by grind
    obtain ⟨C,n,cap,rfl,R,J,key⟩:=O7 Z.untok.1
    have p:=fun u:World=>run_sizeOf (P:=E.P) F u
    refine rF N fun D r=>rF L fun q o=>rF hmx fun qmx bmx=>?_
    cases qmx with
    | none=>
     obtain rfl:=bmx.none
     cases D with
     | none=>
      obtain rfl:=r.none
      cases q with
      | none=>
       obtain rfl:=o.none
       refine aS (u:=sliced C 0 n cap A) ?_ ?_
       .rw [run_sliceAt_slice w t _ _ _ _ d,run_slice_all w t C n cap d,p];rfl
       .have:=(key 0 n o_ (Ba _)).1
        rw [<-R,Il,Bn] at this
        rw [<-R];exact this
      | some y=>
       obtain ⟨k,rfl⟩:=o.some
       intro I
       refine aS (u:=sliced C 0 y cap A) ?_ ?_
       .rw [run_sliceAt_slice w t _ _ _ _ d,run_slice_h w t C n cap d k y o_ o_,p];rfl
       .have:=(key 0 y o_ o_).1
        rw [Bn] at this
        exact this
     | some x=>
      obtain ⟨k,rfl⟩:=r.some
      cases q with
      | none=>
       obtain rfl:=o.none
       intro I
       refine aS (u:=sliced C x n cap A) ?_ ?_
       .rw [run_sliceAt_slice w t _ _ _ _ d,run_slice_l w t C n cap d k x o_ o_,p];rfl
       .have:=(key x n o_ (Ba _)).1
        rw [<-R,Il] at this
        rw [<-R];exact this
      | some y=>
       obtain ⟨K,rfl⟩:=o.some
       rintro ⟨I,c2⟩
       refine aS (u:=sliced C x y cap A) ?_ ?_
       .rw [run_sliceAt_slice w t _ _ _ _ d,run_slice_lh w t C n cap d k K x y o_ o_ o_,p];rfl
       .exact (key x y o_ o_).1
    | some m=>
     obtain ⟨km,rfl⟩:=bmx.some
     cases D with
     | some x=>cases q<;>exact trivial
     | none=>
      obtain rfl:=r.none
      cases q with
      | none=>exact trivial
      | some y=>
       obtain ⟨k,rfl⟩:=o.some
       rintro ⟨I,rfl⟩
       have hk2:=(key 0 m o_ o_).2
       rw [Bn] at hk2
       refine aS (u:=sliced C 0 m m A) ?_ ?_
       .rw [run_sliceAt_slice w t _ _ _ _ d,run_slice_hm w t C n cap d k km m m o_ (Ds _) o_,p];rfl
       .exact hk2.tok ⟨_,m,rfl⟩
   .exact trivial
  .rename_i k g
   split
   .rename_i g' A e' xs _ hog
    have O:=‹ti.kind=TK.slc _ _ _›
    rw [O] at f
    refine sdc fun hg=>?_
    obtain ⟨hg1,hg2⟩:=aU hg
    obtain rfl:=aC hg1
    obtain rfl:=aC hg2
    obtain ⟨⟨G,ie,z,hi',hs,_⟩,_⟩:=f
    obtain ⟨d,hel⟩:=DN G
    have F:(E.P.info? (E.P.elem t)).map (·.size)=some A:=by simp_all
    have p:=fun u:World=>run_sizeOf (P:=E.P) F u
    obtain rfl:=H rfl
    obtain ⟨C,n,cap,rfl,s⟩:=Z.row_inv
    obtain ⟨hs',v,h1,h2,h3,h4,h5,_⟩:=hm.rowOf (bW hog s_)
    rw [s] at h4
    cases h4
    have R:n=xs.length/\n<=cap/\(n:Int)<=9223372036854775807/\(C=none/\n=0/\cap=0\/∃ b,C=some ⟨b,0,none⟩):=by
     rcases h5.len with ⟨e1,rfl⟩ | ⟨b,c,e1,e2,e3,e4⟩
     .cases e1;simp
     .cases e1;exact ⟨rfl,e3,by have:=fZ;omega,.inr ⟨b,rfl⟩⟩
    obtain ⟨R,J,B,T⟩:=R
    refine rF N fun D r=>rF L fun q o=>?_
    cases D with
    | none=>
     obtain rfl:=r.none
     cases q with
     | none=>
      obtain rfl:=o.none
      refine aS (u:=.slice C n cap) ?_ Z
      rw [run_sliceAt_slice w t _ _ _ _ d,run_slice_all w t C n cap d,p]
      show Result.ok (sliced C 0 n cap A) w=_
      congr 1
      rcases T with ⟨rfl,rfl,rfl⟩ | ⟨b,rfl⟩
      .rfl
      .simp [sliced,bH]
     | some y=>
      obtain ⟨K,rfl⟩:=o.some
      intro I
      refine aS (u:=sliced C 0 y cap A) ?_ (tD T s J (Cn _) o_ B)
      rw [run_sliceAt_slice w t _ _ _ _ d,run_slice_h w t C n cap d K y o_ o_,p];rfl
    | some x=>
     obtain ⟨Y,rfl⟩:=r.some
     cases q with
     | none=>
      obtain rfl:=o.none
      intro I
      refine aS (u:=sliced C x n cap A) ?_ ?_
      .rw [run_sliceAt_slice w t _ _ _ _ d,run_slice_l w t C n cap d Y x o_ o_,p];rfl
      .rw [<-R];exact tD T s J o_ o_ B
     | some y=>
      obtain ⟨K,rfl⟩:=o.some
      rintro ⟨I,c2⟩
      refine aS (u:=sliced C x y cap A) ?_ (tD T s J o_ o_ B)
      rw [run_sliceAt_slice w t _ _ _ _ d,run_slice_lh w t C n cap d Y K x y o_ o_ o_,p];rfl
   .exact trivial
  .rename_i k g S len A
   split
   .rename_i g' sz' e' xs _ hog
    have O:=‹ti.kind=TK.slc _ _ _›
    rw [O] at f
    refine sdc fun hg=>?_
    obtain ⟨hg12,hg3⟩:=aU hg
    obtain ⟨hg1,hg2⟩:=aU hg12
    obtain rfl:=aC hg1
    obtain rfl:=aC hg2
    obtain rfl:=aC hg3
    obtain ⟨⟨G,ie,z,hi',hs,_⟩,_⟩:=f
    obtain ⟨d,hel⟩:=DN G
    have F:(E.P.info? (E.P.elem t)).map (·.size)=some A:=by rw [hel];simp [hi',hs]
    have p:=fun u:World=>run_sizeOf (P:=E.P) F u
    obtain rfl:=H rfl
    obtain ⟨hs',v,h1,h2,h3,h4,h5,_⟩:=hm.rowOf (bW hog s_)
    have nl:∀ {n:Nat} {C:Option Addr} {cap:Nat},at' ob k g=some (.slice C n cap)->n=xs.length/\n<=cap:=fun {n C cap} s=>by
     rw [s] at h4
     cases h4
     rcases h5.len with ⟨e1,rfl⟩ | ⟨b,c,e1,e2,e3,e4⟩
     .cases e1;simp
     .cases e1;omega
    cases Z with
    | sub _ _ _ _ _ b n c s hl R Q B=>
     obtain ⟨hnx,_⟩:=nl s
     refine rF N fun D r=>rF L fun q o=>?_
     cases D with
     | none=>
      obtain rfl:=r.none
      cases q with
      | none=>
       obtain rfl:=o.none
       refine aS (u:=sliced (some ⟨b,S*A,none⟩) 0 len (c-S) A) ?_ (oK s hl Q (Cn _) R B)
       rw [run_sliceAt_slice w t _ _ _ _ d,run_slice_all w t _ len _ d,p];rfl
      | some y=>
       obtain ⟨K,rfl⟩:=o.some
       intro I
       refine aS (u:=sliced (some ⟨b,S*A,none⟩) 0 y (c-S) A) ?_ (oK s hl Q (Cn _) o_ B)
       rw [run_sliceAt_slice w t _ _ _ _ d,run_slice_h w t _ len _ d K y o_ o_,p];rfl
     | some x=>
      obtain ⟨Y,rfl⟩:=r.some
      cases q with
      | none=>
       obtain rfl:=o.none
       intro I
       refine aS (u:=sliced (some ⟨b,S*A,none⟩) x len (c-S) A) ?_ (oK s hl Q I R B)
       rw [run_sliceAt_slice w t _ _ _ _ d,run_slice_l w t _ len _ d Y x o_ o_,p];rfl
      | some y=>
       obtain ⟨K,rfl⟩:=o.some
       rintro ⟨I,c2⟩
       refine aS (u:=sliced (some ⟨b,S*A,none⟩) x y (c-S) A) ?_ (oK s hl Q I o_ B)
       rw [run_sliceAt_slice w t _ _ _ _ d,run_slice_lh w t _ len _ d Y K x y o_ o_ o_,p];rfl
    | sub0 _ _ _ _ a W n c s hl Q=>
     obtain ⟨hnx,_⟩:=nl s
     have e0:sliced W 0 0 0 A= .slice W 0 0:=by rfl
     have r0:Rep M ob (sliced W 0 0 0 A) (.sub k g S 0 A):=by rw [e0];exact .sub0 _ _ _ _ a W n c s hl Q
     refine rF N fun D r=>rF L fun q o=>?_
     cases D with
     | none=>
      obtain rfl:=r.none
      cases q with
      | none=>
       obtain rfl:=o.none
       refine aS (u:=sliced W 0 0 0 A) ?_ r0
       rw [run_sliceAt_slice w t _ _ _ _ d,run_slice_all w t _ 0 _ d,p];rfl
      | some y=>
       obtain ⟨K,rfl⟩:=o.some
       intro I
       obtain rfl:y=0:=o_
       refine aS (u:=sliced W 0 0 0 A) ?_ r0
       rw [run_sliceAt_slice w t _ _ _ _ d,run_slice_h w t _ 0 _ d K ((0:Nat):Int) o_ o_,p];rfl
     | some x=>
      obtain ⟨Y,rfl⟩:=r.some
      cases q with
      | none=>
       obtain rfl:=o.none
       intro I
       obtain rfl:x=0:=o_
       refine aS (u:=sliced W 0 0 0 A) ?_ r0
       rw [run_sliceAt_slice w t _ _ _ _ d,run_slice_l w t _ 0 _ d Y ((0:Nat):Int) o_ o_,p];rfl
      | some y=>
       obtain ⟨K,rfl⟩:=o.some
       rintro ⟨I,c2⟩
       obtain rfl:y=0:=o_
       obtain rfl:x=0:=o_
       refine aS (u:=sliced W 0 0 0 A) ?_ r0
       rw [run_sliceAt_slice w t _ _ _ _ d,run_slice_lh w t _ 0 _ d Y K ((0:Nat):Int) ((0:Nat):Int) o_ o_ o_,p];rfl
   .exact trivial
  .rename_i k off
   split
   .rename_i len esz ea O
    rw [O] at f
    obtain ⟨⟨e,G,F,_⟩,_⟩:=f
    obtain rfl:=H rfl
    obtain rfl:=X rfl
    obtain rfl:=U rfl
    intro B
    obtain ⟨b,rfl,hb⟩:=Z.ref_inv
    refine aS (u:=.slice (some ⟨b,off,none⟩) len len) ?_ (.csl _ _ _ _ b hb B)
    unfold Gu Ih Gk
    simp only [Bf,run_underlying G,Ao,Ca,run_sizeOf F]
    simp [bH]
   .exact trivial
  .rename_i cs
   split
   .rename_i len O
    rw [O] at f
    obtain ⟨⟨e,G,F,_⟩,_⟩:=f
    obtain rfl:=H rfl
    obtain rfl:=X rfl
    obtain rfl:=U rfl
    split
    .rename_i l hl
     refine sdc fun V=>?_
     intro B
     obtain ⟨t1,t2⟩:=jC hl
     obtain ⟨b,o',rfl,hM⟩:=Z.ptr_inv
     refine aS (u:=.slice (some ⟨b,o',none⟩) len len) ?_ (.sl 1 b o' len len l _ t1 (Ba _) B (fun x hx=>?_) (fun i j x c hx Q=>?_) ⟨_,len,rfl⟩)
     .unfold Gu Ih Gk
      simp only [Bf,run_underlying G,Ao,Ca,run_sizeOf F]
      simp [bH]
     .obtain ⟨i,hi⟩:=Cs hx
      rw [nV (lJ V i x hi)];rfl
     .rw [nV (lJ V i x hx)] at Q
      cases j with
      | succ j=>simp at Q
      | zero=>
       simp at Q
       subst Q
       have:=hM i x (t2 i x hx)
       grind
    .exact trivial
   .exact trivial
  .exact trivial
end
section
variable {P:Program} {E:Env} {M:Imm} {ob:Hs} {obs:List AObj} {w:World} {base:Nat}
theorem Z6 {α:Type} (l:List α):(l.drop 0).take l.length=l:=by simp
theorem aAf (hm:Mem M ob obs w) {x:Value} {a:AVal} (y:Rep M ob x a) {z:Nat} {xs:List AVal} (h:aEu (aE obs) a=some (z,xs)) (hs:0<z) {K L:TypeId} (q:P.underlying K=some (.slice L)):
  SrcA P M w z K x xs/\∃ i c,x= .slice i xs.length c/\(i=none->xs=[]/\c=0):=by
 unfold aEu at h
 split at h
 .cases h
  obtain ⟨i,c,e,B,_⟩:=y.slice_inv
  exact ⟨SrcA.ofSlice hm hs q y,i,c,e,B⟩
 .rename_i k g
  obtain ⟨i,n,c,rfl,d⟩:=y.row_inv
  split at h
  .rename_i I s e xs' f
   obtain ⟨r,h⟩:=dZ h
   cases h
   obtain rfl:=aC r
   have l:=bW f s_
   obtain ⟨hs',v,h1,C,h3,j,t,_⟩:=hm.rowOf l
   rw [d] at j
   cases j
   have hl:n=xs.length/\(i=none->xs=[]/\c=0):=by
    rcases t.len with ⟨m,rfl⟩ | ⟨b,c,m,S,T,U⟩
    .simp_all
    grind
   obtain ⟨rfl,D⟩:=hl
   have:=SrcA.ofRow hm hs l q d (lo:=0) (len:=xs.length) o_ (x:=.slice i xs.length c) (fun b J u e _=>by cases e;simp) (fun h=>⟨i,c,by rw [h]⟩)
   rw [Z6] at this
   exact ⟨this,i,c,rfl,D⟩
  .rename_i I s xs' f
   obtain ⟨r,h⟩:=dZ h
   cases h
   obtain rfl:=aC r
   obtain ⟨hs',h1,v,C,h3⟩:=hm.obj _ _ (bW f s_)
   rw [bZ h1,C] at d
   cases d
   have o:=h3.pure (M:=M) (ob:=ob)
   obtain ⟨F,u,e,B,_⟩:=o.slice_inv
   exact ⟨SrcA.ofSlice hm hs q o,F,u,e,B⟩
  .cases h
 .rename_i k g lo len z
  split at h
  .rename_i I s e xs' f
   obtain ⟨r,h⟩:=dZ h
   cases h
   obtain ⟨A,H⟩:=aU r
   obtain rfl:=aC A
   obtain rfl:=aC H
   have l:=bW f s_
   obtain ⟨hs',v,h1,C,h3,j,t,_⟩:=hm.rowOf l
   cases y with
   | sub _ _ _ _ _ b n c d hl V R O=>
    rw [d] at j
    cases j
    have G:n=xs'.length:=by
     rcases t.len with ⟨m,_⟩ | ⟨b,c,m,_⟩
     .cases m
     grind
    have p:((xs'.drop lo).take len).length=len:=by simp;omega
    refine ⟨SrcA.ofRow hm hs l q d (lo:=lo) (len:=len) o_ (fun Q J u e _=>by cases e;simp) (fun h=>⟨_,_,by rw [h]⟩),_,_,by rw [p],fun e=>by cases e⟩
   | sub0 _ _ _ _ i N n c d hl R=>
    rw [d] at j
    cases j
    have G:n=xs'.length:=by
     rcases t.len with ⟨m,rfl⟩ | ⟨b,c,m,_⟩
     .simp_all
     grind
    refine ⟨SrcA.ofRow hm hs l q d (lo:=lo) (len:=0) o_ (fun Q J u e h=>absurd rfl h) (fun _=>⟨_,_,rfl⟩),N,0,by simp,fun _=>⟨by simp,rfl⟩⟩
  .cases h
 .cases h
theorem O6 (hE:EnvOK E) (hm:Mem M ob obs w) {x:Value} {a:AVal} (g:Rep M ob x a) {b d:Nat} {ys:List AVal} (h:aAg E (aE obs) b d a=some ys) (hs:0<b):SrcA E.P M w b d x ys:=by
 unfold aAg at h
 split at h
 .rename_i l
  split at h
  .rename_i _ _ _ e
   obtain ⟨f,h⟩:=dZ h
   cases h
   obtain rfl:=aC f
   obtain ⟨rfl,_⟩:=g.str_inv
   exact SrcA.ofStr (hE.tab d _ e).kind.1 l
  .cases h
 .split at h
  .rename_i _ _ _ _ _ _ e
   cases h
   cases g
   exact ⟨⟨[],Src.ofNil w (hE.tab d _ e).kind.1.1 0,fun q c j=>by simp [aK] at j⟩,fun y k=>by simp at k,fun m hm=>B4 hm⟩
  .cases h
 .split at h
  .rename_i _ _ _ _ _ _ n xs e i
   obtain ⟨f,h⟩:=dZ h
   cases h
   obtain rfl:=aC f
   exact (aAf hm g i hs (hE.tab d _ e).kind.1.1).1
  .cases h
theorem aAs {s d e:TypeId} {a:Option Addr} {l:List UInt8} {c:Nat} (p:P.underlying s=some (.slice e)) (o:P.underlying e=some (.int .u8)) (q:P.underlying d=some .string)
  (t:a=none->l=[]/\c=0) (hs:SrcA P M w 1 s (.slice a l.length c) (l.map ub)):(convert s d (.slice a l.length c)).run P w= .ok (.string ⟨l.toArray⟩) w:=by
 rw [run_convert_bytes_string w s d e a l.length c p o q]
 cases a with
 | none=>
  obtain ⟨rfl,rfl⟩:=t rfl
  rfl
 | some a=>
  obtain ⟨⟨news,b,v⟩,_⟩:=hs
  have y:news.length=l.length:=by rw [b.newsLen];simp
  have g:news=(l.map fun c=>(c.toNat:Int)).map (Ea .u8):=by
   refine Ek fun j=>?_
   by_cases m:j<l.length
   .obtain ⟨u,k,i⟩:=v j (ub l[j]) (by rw [xX,Ab m];rfl)
    rw [k,i.int_inv.1]
    simp [Ab m]
   .rw [Bh o_,Bh q_]
  have h:(loadCells a l.length).run P w= .ok news.toArray w:=by
   have:=b.cells
   rw [Ck] at this
   have e:Ch 1 l.length (.slice (some a) l.length c)=loadCells a (l.length*1):=rfl
   rw [e,Nat.mul_one] at this
   exact this
  rw [g] at h
  rw [run_bytesToString w a l.length c _ h]
  congr 2
  have f:∀ (l:List UInt8) (r:ByteArray),(l.map fun c=>(c.toNat:Int)).foldl (fun r n=>r.push (Mg n.toNat)) r=⟨r.data++l.toArray⟩:=by
   intro l
   induction l with
   | nil=>simp
   | cons c l x=>
    intro r
    simp only [Bp,Al,x]
    simp
  rw [f]
  simp
theorem zY (w:World) (e:TypeId) (s:ByteArray):(Lib.bytesWorld w e s).os=w.os/\(Lib.bytesWorld w e s).tape=w.tape/\(Lib.bytesWorld w e s).output=w.output:=⟨rfl,rfl,rfl⟩
theorem aGt (hE:EnvOK E) (hm:Mem M ob obs w) {s d:TypeId} {v:Value} {a:AVal} (C:Rep M ob v a):PM E.P M ob w (convert s d v) obs base (aC9 E (aE obs) s d a):=by
 unfold aC9
 split
 .rename_i ts N hs V
  have g:=(hE.tab s ts hs).kind
  have f:=(hE.tab d N V).kind
  obtain ⟨t,_⟩:=g.isAgg
  obtain ⟨ds,F⟩:=Da.1 t
  split
  .rename_i k Y n z
   rw [z] at f
   obtain ⟨rfl,_⟩:=C.int_inv
   have key:(convert s d (.int Y n)).run E.P w= .ok (.int k (k.wrap n)) w:=by
    simp [convert,run_underlying F,run_underlying f.1,Conv.intToInt]
   refine PM.of hm ⟨fun hp=>⟨rfl,_,by rw [key,jP hp],.int _ _ hp⟩,rfl,_,key,.int _ _ (lP _ _)⟩
  .rename_i l z
   rw [z] at f
   obtain ⟨rfl,hl⟩:=C.str_inv
   split
   .rename_i m
    rw [m] at g
    refine PM.of hm (aS (u:=.string ⟨l.toArray⟩) ?_ (.str _ hl))
    simp [convert,run_underlying g.1,run_underlying f.1]
   .exact trivial
  .rename_i e eb l z
   rw [z] at f
   obtain ⟨⟨I,_⟩,_⟩:=f
   obtain ⟨rfl,hl⟩:=C.str_inv
   split
   .rename_i _ _ _ m G
    rw [m] at g
    have r:=(hE.tab e _ G).kind.1
    have q:=Lib.run_convert_string_bytes (P:=E.P) w s d e ⟨l.toArray⟩ g.1 I r
    rw [oS] at q
    obtain ⟨W,Z,Q⟩:=zY w e ⟨l.toArray⟩
    have key:∀ (j:Nat) c,l[j]? =some c->(Lib.bytesWorld w e ⟨l.toArray⟩).cell? ⟨w.heap.size,j,none⟩=some (.int .u8 c.toNat):=fun j c L=>by
     have H:j<l.length:=(Ad.1 L).1
     rw [Lib.bytesWorld_cell w e ⟨l.toArray⟩ j (by rw [oS];exact H)]
     simp [List.getD,L]
    obtain ⟨T,U⟩:=hm.more (M':=fun b o y=>M b o y\/(b=w.heap.size/\∃ c,l[o]? =some c/\y=ub c)) (w':=Lib.bytesWorld w e ⟨l.toArray⟩) (fun _ _ _ h=>.inl h) (fun b o y A=>by
      rcases A with A | ⟨rfl,_⟩
      .exact .inl A
      omega) (fun b o y A=>by
      rcases A with A | ⟨rfl,c,B,rfl⟩
      .obtain ⟨v,h1,X,h3⟩:=hm.imm b o y A
       exact ⟨v,(Lib.bytesWorld_old w e _ _ (Cr w _ h1)).trans h1,X,h3.monoM fun _ _ _ h=>.inl h⟩
      .exact ⟨_,key o c B,rfl,vD c⟩) (fun b O=>Lib.bytesWorld_at_old w e _ b O) W Z Q (by rw [Lib.bytesWorld_size];omega)
    refine ⟨_,_,_,ob,q,U,T,cH.refl _ _,.sl 1 w.heap.size 0 _ _ _ _ s_ (grownCap_ge w _ 0 e) hl (fun x D=>SV l x D) (fun i j x c D B=>?_) trivial⟩
    rw [Bj] at D
    obtain ⟨c',R,rfl⟩:=Cp.1 D
    cases j with
    | succ j=>simp [ub,AVal.cells] at B
    | zero=>
     simp [ub,AVal.cells] at B
     subst B
     exact .inr ⟨rfl,c',by simp;omega,rfl⟩
   .exact trivial
  .have z:=‹N.kind=TK.str›
   rw [z] at f
   split
   .rename_i e eb xs m S
    rw [m] at g
    split
    .rename_i _ _ _ G
     have r:=(hE.tab e _ G).kind.1
     intro l K J
     subst K
     obtain ⟨p,ad,c,rfl,h0⟩:=aAf (P:=E.P) hm C S d_ g.1.1
     refine ⟨_,w,M,ob,?_,Ext.refl _ _ _ _,hm,cH.refl _ _,.str l J⟩
     rw [Ck] at p⊢
     exact aAs g.1.1 r f.1 (fun e=>by grind) p
    .exact trivial
   .exact trivial
  .exact trivial
 .exact trivial
theorem GP (off:Nat):∀ (l:List Value) (k:Nat) (cells:Array Value),((l.zipIdx k).foldl (fun (cs:Array Value) (p:Value×Nat)=>cs.setIfInBounds (off+p.2) p.1) cells).size=cells.size/\
  ∀ (i:Nat),((l.zipIdx k).foldl (fun (cs:Array Value) (p:Value×Nat)=>cs.setIfInBounds (off+p.2) p.1) cells)[i]? =if off+k<=i/\i<off+k+l.length/\i<cells.size then l[i-(off+k)]? else cells[i]?
 | [],k,cells=>by
  refine ⟨rfl,fun i=>?_⟩
  simp
  omega
 | c::l,k,cells=>by
  obtain ⟨h1,d⟩:=GP off l (k+1) (cells.setIfInBounds (off+k) c)
  simp only [List.zipIdx_cons,Al]
  refine ⟨by rw [h1];simp,fun i=>?_⟩
  rw [d]
  simp only [Array.size_setIfInBounds,Bq]
  by_cases b:i=off+k
  .subst b
   rw [if_neg o_]
   by_cases hs:off+k<cells.size
   .rw [if_pos ⟨by omega,by omega,hs⟩]
    simp [hs]
   .rw [if_neg o_]
    rw [Array.getElem?_setIfInBounds_self]
    simp [hs]
  .rw [Ez o_]
   by_cases a:off+(k+1)<=i/\i<off+(k+1)+l.length/\i<cells.size
   .rw [if_pos a,if_pos ⟨by omega,by omega,a.2.2⟩]
    have:i-(off+k)=(i-(off+(k+1)))+1:=o_
    rw [this,Eu]
   .rw [if_neg a,if_neg o_]
def EH (M:Imm) (ob:Hs) (vs:List (Nat×Value)) (as:List (Nat×AVal)):Prop:=
 vs.length=as.length/\∀ (i:Nat) (p:Nat×Value) (q:Nat×AVal),vs[i]? =some p->as[i]? =some q->p.1=q.1/\Rep M ob p.2 q.2
theorem tQ {place d:Nat->Option (Nat×Nat)} (hp:∀ i p,d i=some p->place i=some p):
  ∀ {b:List (Nat×AVal)} {vparts:List (Nat×Value)} {cs cs':List AVal} {cells:Array Value},DO d cs b=some cs'->cA M ob cells.toList cs->EH M ob vparts b->
   ∃ a,Instr.fill place cells vparts=some a/\cA M ob a.toList cs':=by
 intro b
 induction b with
 | nil=>
  intro vparts cs cs' cells h s hl
  have:vparts=[]:=Av hl.1
  subst this
  cases h
  exact ⟨cells,rfl,s⟩
 | cons q b K=>
  intro vparts cs cs' cells h s hl
  obtain ⟨hl,D⟩:=hl
  obtain ⟨i,x⟩:=q
  match vparts,hl with
  | (i',v)::vparts,hl=>
   obtain ⟨F,f⟩:=D 0 _ _ rfl rfl
   dsimp only at F f
   subst F
   simp only [DO] at h
   split at h
   .cases h
   .rename_i off Q B
    obtain ⟨N,w⟩:=dZ h
    obtain ⟨t,y⟩:=aU N
    have z:x≠ .undef:=fun e=>by subst e;cases t
    have o:=aC y
    rw [wC] at o
    split at w
    .rename_i A n
     obtain ⟨U,S,J⟩:=jY n
     obtain ⟨P,C⟩:=f.cells z
     have H:v.cells.size=x.cells.length:=o_
     obtain ⟨T,I⟩:=GP off v.cells.toList 0 cells
     have G:cells.size=cs.length:=by have:=s.1;omega
     have g:v.cells.zipIdx.foldl (fun (cs:Array Value) (x:Value×Nat)=>match x with | (c,j)=>cs.setIfInBounds (off+j) c) cells=(v.cells.toList.zipIdx 0).foldl (fun (cs:Array Value) (p:Value×Nat)=>cs.setIfInBounds (off+p.2) p.1) cells:=by
      rw [<-Array.foldl_toList]
      simp
     have k:cA M ob ((v.cells.toList.zipIdx 0).foldl (fun (cs:Array Value) (p:Value×Nat)=>cs.setIfInBounds (off+p.2) p.1) cells).toList A:=by
      refine ⟨by simp;omega,fun j u c l r=>?_⟩
      rw [Array.getElem?_toList,I j] at l
      rw [J j] at r
      simp only [Em] at l
      by_cases m:off<=j/\j<off+x.cells.length
      .rw [if_pos m] at r
       rw [if_pos ⟨by omega,by omega,by omega⟩] at l
       exact C _ u c l r
      .rw [if_neg m] at r
       rw [if_neg o_] at l
       exact s.2 j u c q_ r
     obtain ⟨a,L,O⟩:=K (vparts:=vparts) w k ⟨by simpa using hl,fun i p q hp R=>D (i+1) p q q_ q_⟩
     refine ⟨a,?_,O⟩
     simp only [Instr.fill,hp _ _ B]
     rw [if_neg]
     .rw [g];exact L
     simp;omega
    .cases w
theorem yS {P:Program}:∀ {a:List Field} {b:List (Nat×Nat×Bool)},oH P a b->a.mapM (fun f=>(P.info? f.type).map fun i=>(f.offset,i.size))=some (b.map fun f=>(f.1,f.2.1))
 | [],[],_=>rfl
 | [],_::_,h=>h.elim
 | _::_,[],h=>h.elim
 | f::a,(off,sz,ag)::b,h=>by
  obtain ⟨h1,d,h3,g,c⟩:=h
  obtain ⟨i,e,rfl⟩:=Cp.1 d
  simp [List.mapM_cons,e,yS c,h1]
theorem TZ {α β:Type} (f:α->β):∀ (l:List α) (n:Nat),(nth l n).map f=(l.map f)[n]?
 | [],_=>by simp [nth]
 | x::_,0=>rfl
 | _::r,n+1=>by simpa [nth] using TZ f r n
theorem aDb (hE:EnvOK E) {t:TypeId} {g:List (Nat×AVal)} {vparts:Array (Nat×Value)} (hl:EH M ob vparts.toList g):PS0 E.P M ob w (Instr.build t vparts) obs base (RC E t g):=by
 unfold RC
 split
 .rename_i I N
  have r:=hE.tab t I N
  obtain ⟨info,z,F,K,hz,J,h,_,_⟩:=r.info
  have c:=r.kind
  split
  .rename_i H B x k
   rw [x] at c
   obtain ⟨⟨D,u,Q⟩,_⟩:=c
   split
   .rename_i cs d
    rw [k] at h
    cases h with
    | agg vs as o l=>
     have j:cA M ob vs.toArray.toList B:=⟨by omega,fun i v a O C=>jO (l i v a o_ C)⟩
     obtain ⟨b,A,q⟩:=tQ (place:=((H.map fun f=>(f.1,f.2.1)).toArray[·]?)) (fun i p hp=>by rw [TZ] at hp;simpa using hp) d j hl
     have m:E.P.built t vparts.toList=some b:=by
      simp only [Program.built,F,u,hz,yS Q]
      exact A
     have:b=b.toList.toArray:=by simp
     rw [this] at m
     exact aS (run_build w t vparts _ m) (.agg _ _ q.1 q.2)
   .exact trivial
  .rename_i n L R B x k
   rw [x] at c
   obtain ⟨⟨e,u,s,_⟩,_⟩:=c
   obtain ⟨G,y,rfl⟩:=Cp.1 s
   split
   .rename_i cs d
    rw [k] at h
    cases h with
    | agg vs as o l=>
     have j:cA M ob vs.toArray.toList B:=⟨by omega,fun i v a O C=>jO (l i v a o_ C)⟩
     obtain ⟨b,A,q⟩:=tQ (place:=fun i=>some (i*G.size,G.size)) (fun i p hp=>hp) d j hl
     have m:E.P.built t vparts.toList=some b:=by
      simp only [Program.built,F,u,hz,y]
      exact A
     have:b=b.toList.toArray:=by simp
     rw [this] at m
     exact aS (run_build w t vparts _ m) (.agg _ _ q.1 q.2)
   .exact trivial
  .exact trivial
 .exact trivial
end
section
variable {P:Program} {E:Env} {M:Imm} {ob:Hs} {obs:List AObj} {w:World} {base:Nat}
theorem Mem.bare (h:Mem M ob obs w):Mem M [] [] w:=
 ⟨h.imm,rfl,fun k c a=>by simp at a,fun k b ⟨c,hs,h1,_⟩=>by simp at h1,fun k d b ⟨c,hs,h1,_⟩=>by simp at h1⟩
theorem aBG:aE []=fun _=>AObj.dead:=by rfl
theorem Mem.pure0 (h:Mem M ob obs w) {v:Value} {a:AVal} (b:Rep (fun _ _ _=>False) [] v a):Rep M [] v (AW.pureV (fun _=>.dead) 4 a):=by
 have:=h.bare.pureV 4 v a (jO b)
 rwa [aBG] at this
theorem yI {t:Nat} {a:Addr} {v:Value} {w':World} (hs:(P.info? t).map (·.size)=some v.cells.size) (h:(storeCells a v.cells.toList).run P w= .ok () w'):
  (Kc t (.pointer (some a)) v).run P w= .ok () w':=by
 unfold Kc Ih storeVar
 simp only [Bf,Ca,Ao,run_sizeOf hs,ne_eq,not_true_eq_false,if_false]
 exact h
theorem PT {y:AVal} {new cs':List AVal} {off:Nat} (a:nF off new y.cells=some cs') (f:oO new=true):(aIF y cs').cells=cs':=by
 obtain ⟨j,h,g⟩:=jY a
 by_cases i:∃ as,y= .agg as
 .obtain ⟨as,rfl⟩:=i;rfl
 .have d:y.cells=[y]:=by cases y<;>first | rfl | grind
  have e:aIF y cs'=aHn cs':=by cases y<;>first | rfl | grind
  rw [e]
  rw [d] at h g
  match cs',h,g with
  | [c],_,g=>
   show c.cells=[c]
   have b:=g 0
   simp only [Lp] at b
   split at b
   .exact nV (lJ f _ c b.symm)
   .simp at b
    rw [b]
    exact d
theorem WO {a:Nat} {xs:List AVal} {i off:Nat} {y l:AVal} {new:List AVal} (hs:0<a) (m:xs[i]? =some y) (hz:y.cells.length=a)
  (h1:off+new.length<=a) (o:∀ (j:Nat),l.cells[j]? =if off<=j/\j<off+new.length then new[j-off]? else y.cells[j]?) {q:Nat} {c:AVal} (h:aK a (xs.set i l) q=some c):
  (i*a+off<=q/\q<i*a+off+new.length/\new[q-(i*a+off)]? =some c)\/((q<i*a+off\/i*a+off+new.length<=q)/\aK a xs q=some c):=by
 have f:i<xs.length:=(Ad.1 m).1
 obtain ⟨z,hz1,hz2⟩:=fS h
 have g:a*(q / a)+q % a=q:=Fu q a
 have k:=Dz q hs
 by_cases b:q / a=i
 .rw [b,Ap f] at hz1
  cases hz1
  rw [o] at hz2
  rw [b,Dj] at g
  split at hz2
  .rename_i e
   left
   refine ⟨by omega,by omega,?_⟩
   rw [show q-(i*a+off)=q % a-off from by omega]
   exact hz2
  .rename_i e
   right
   refine ⟨by omega,?_⟩
   unfold aK
   rw [b,m]
   exact hz2
 .rw [Aw (Eg b)] at hz1
  right
  refine ⟨?_,?_⟩
  .rcases Mp (q / a) i with d | n
   .left
    have:(q / a+1)*a<=i*a:=Cd _ d
    rw [Bx,Dj] at this
    omega
   .right
    have:(i+1)*a<=q / a*a:=Cd _ o_
    rw [Bx,Dj (q / a)] at this
    omega
  .unfold aK
   rw [hz1]
   exact hz2
def VU (P:Program) (M:Imm) (ob:Hs) (obs:List AObj) (w:World) (s:Sem Unit) (v:AVal) (obs':List AObj):Prop:=
 v= .undef/\∃ w' M' ob',s.run P w= .ok () w'/\Ext M ob obs w M' ob' obs' w'/\Mem M' ob' obs' w'/\cH ob obs ob' obs'
theorem aCR (hE:EnvOK E) (hm:Mem M ob obs w) {t:Nat} {v u:Value} {a x:AVal} (l:Rep M ob v a) (hu:Rep M ob u x):
  Sd (VU E.P M ob obs w (Kc t v u)) (fun _ _=>False) (fun _=>False) obs base (QZ E (aE obs) t a x):=by
 unfold QZ
 split
 .exact trivial
 .rename_i ti hT
  have hti:=hE.tab t ti hT
  refine sdc fun hg=>?_
  obtain ⟨O,R⟩:=aU hg
  obtain ⟨hcl,F,hcr⟩:=hu.cells_one O
  have hsz:u.cells.size=ti.size:=by
   have:=aC R
   rw [wC] at this
   grind
  have hs:(E.P.info? t).map (·.size)=some u.cells.size:=by rw [hsz];exact hti.size?
  split
  .rename_i k off
   obtain ⟨b,rfl,hb⟩:=l.ref_inv
   split
   .rename_i T' cs H
    have C:=bW H s_
    split
    .rename_i cs' f
     obtain ⟨p1,p2,p3⟩:=jY f
     obtain ⟨hs0,e1,b',rfl,hM,cv,hh,hlen',V,J⟩:=hm.obj k _ C
     have Z:b'=b:=by rw [bZ e1] at hb;simpa using hb
     subst Z
     have X:off+u.cells.toList.length<=cv.length:=o_
     obtain ⟨q1,q2⟩:=fB cv u.cells.toList off X
     have hst:=run_storeCells_at E.P b' off T' u.cells.toList 0 cv.toArray w hh o_ F
     simp only [Em] at hst
     have:=hm.cellsTurn (cs':=cs') (cv':=cv.take off++u.cells.toList++cv.drop (off+u.cells.toList.length)) C hb o_ (fun v l=>by
       simp only [Az] at l
       rcases l with (l | l) | l
       .exact V v (Cy l)
       .exact F v l
       .exact V v (Fe l)) (fun i v c r m=>by
       rw [q2 i] at r
       rw [p3 i,<-hcl] at m
       split at r
       .rename_i B
        rw [if_pos B] at m
        exact hcr _ v c r m
       .rename_i B
        rw [if_neg B] at m
        exact J i v c r m)
     refine ⟨rfl,_,M,ob,yI hs hst,?_⟩
     rw [aR C]
     exact ⟨this.2.1,this.1,this.2.2⟩
    .exact trivial
   .exact trivial
  .rename_i k g i h off
   cases l with
   | eref _ _ _ _ _ b n c U=>
   split
   .rename_i g' sz' e xs H
    have C:=bW H s_
    refine sdc fun hg2=>?_
    obtain ⟨T,o⟩:=aU hg2
    obtain ⟨hg3,G⟩:=aU T
    obtain ⟨hg4,hg5⟩:=aU hg3
    obtain rfl:=aC hg4
    obtain rfl:=aC hg5
    have d:0<h:=Ci G
    have hpu:=hm.pureV 4 u x hu
    obtain ⟨hcl',_,L⟩:=hpu.cells_one o
    obtain ⟨hs0,v0,e1,e2,e3,e4,A,_⟩:=hm.rowOf C
    have hrl:=A.len
    rw [U] at e4
    cases e4
    obtain ⟨cv,_,_,hz,_⟩:=A
    have K:∀ {y S:AVal},0<h->xs[i]? =some y->off+(pureV (aE obs) 4 x).cells.length<=h->(∀ (j:Nat),S.cells[j]? =if off<=j/\j<off+(pureV (aE obs) 4 x).cells.length then (pureV (aE obs) 4 x).cells[j-off]? else y.cells[j]?)->
      S.cells.length=h->VU E.P M ob obs w (Kc t (.pointer (some ⟨b,i*h+off,none⟩)) u) .undef (bJ obs k (.row g h e (xs.set i S))):=by
     intro y S d s h1 h2 h3
     have I:i<xs.length:=(Ad.1 s).1
     have W:(i+1)*h<=xs.length*h:=Cd _ I
     rw [Bx,Ge] at W
     obtain ⟨w',r1,r2,r3,r4⟩:=hm.rowWrite (P:=E.P) (xs':=xs.set i S) C U d (p:=i*h+off) (news:=u.cells.toList) o_ F s_ (fun z D=>by
       rcases Df D with D | rfl
       .exact hz z D
       .exact h3) (fun q c Y=>by
       rcases WO d s (hz y (Aq s)) h1 h2 Y with ⟨a1,a2,a3⟩ | ⟨a1,a2⟩
       .left
        refine ⟨a1,by omega,?_⟩
        have N:q-(i*h+off)<u.cells.toList.length:=o_
        exact ⟨_,Ab N,L _ _ c (Ab N) a3⟩
       .right
        exact ⟨by omega,a2⟩)
     refine ⟨rfl,w',M,ob,yI hs r1,?_⟩
     rw [aR C]
     exact ⟨r3,r2,r4⟩
    cases Y:(Ar off 0&&Ar ti.size h) with
    | true=>
     obtain ⟨ho1,ho2⟩:=aU Y
     obtain rfl:=aC ho1
     have hts:=aC ho2
     intro I
     have hnl:(pureV (aE obs) 4 x).cells.length=h:=by
      have:u.cells.toList.length=u.cells.size:=by simp
      omega
     have s:=Ab I
     have hyz:=hz _ (Aq s)
     exact K d s o_ (fun j=>by
       split
       .rfl
       .rw [Bh o_,Bh o_]) hnl
    | false=>
     intro y s
     dsimp only
     split
     .rename_i cs' f
      obtain ⟨p1,p2,p3⟩:=jY f
      have hyz:=hz y (Aq s)
      have Q:=PT f o
      exact K d s o_ (fun j=>by rw [Q];exact p3 j) (by rw [Q];omega)
     .exact trivial
   .exact trivial
  .exact trivial
end
section
variable {P:Program} {E:Env} {M:Imm} {ob:Hs} {obs:List AObj} {w:World} {base:Nat}
theorem Mem.rowSplice (hm:Mem M ob obs w) {k g a:Nat} {e:TypeId} {xs ys:List AVal} (r:obs[k]? =some (.row g a e xs)) {b n cap:Nat} (x:at' ob k g=some (.slice (some ⟨b,0,none⟩) n cap)) (hs:0<a) {i:Nat} (o:i+ys.length<=xs.length)
  (hz:∀ y∈ys,y.cells.length=a) {news:List Value} (hl:news.length=ys.length*a) (h1:∀ u∈news,u.oneCell'=true) (v:∀ (q:Nat) c,aK a ys q=some c->∃ u,news[q]? =some u/\Rep M [] u c):
  ∃ w',(storeCells ⟨b,i*a,none⟩ news).run P w= .ok () w'/\Mem M ob (obs.set k (.row g a e (xs.take i++ys++xs.drop (i+ys.length)))) w'/\
   Ext M ob obs w M ob (obs.set k (.row g a e (xs.take i++ys++xs.drop (i+ys.length)))) w'/\cH ob obs ob (obs.set k (.row g a e (xs.take i++ys++xs.drop (i+ys.length)))):=by
 obtain ⟨z,A,F,B,C,D,f,_⟩:=hm.rowOf r
 obtain ⟨cv,_,_,j,_⟩:=f
 have h:(i+ys.length)*a<=xs.length*a:=Cd _ o
 rw [Bx] at h
 refine hm.rowWrite (P:=P) r x hs (p:=i*a) (news:=news) o_ h1 q_ (fun y d=>?_) (fun q c s=>?_)
 .simp only [Az] at d
  rcases d with (d | d) | d
  .exact j y (Cy d)
  .exact hz y d
  .exact j y (Fe d)
 .rcases EZ hs o s with ⟨m,l,t⟩ | ⟨m,l⟩
  .left
   exact ⟨m,by omega,v _ c t⟩
  .right
   exact ⟨by omega,l⟩
theorem qD {xs:List AVal} {i:Nat}:xs.take i++[]++xs.drop (i+0)=xs:=by simp
theorem pC (hm:Mem M ob obs w) (c:obs[base]? =some .dead) (d:ob[base]? =some []) {s:Sem Value} {f:Nat} {e:TypeId} {v:Value} {w':World} {xs:List AVal} (i:s.run P w= .ok v w') (g:Grown M w w' f e v xs) {hint:Nat}:
  PM P M ob w s obs base (pD hint base f e xs):=by
 have j:base<ob.length:=(Ad.1 d).1
 unfold pD
 split
 .obtain ⟨h1,h,h3⟩:=g.row hm c d
  refine ⟨v,w',M,ob.set base [v],i,?_⟩
  rw [aR c]
  refine ⟨h,h1,h3,?_⟩
  obtain ⟨cv,k,_⟩:=g.own
  have a:at' (ob.set base [v]) base 0=some v:=by rw [bZ (Ap j)];rfl
  rcases cZ k with ⟨q,_⟩ | ⟨b,cap,q,_⟩
  .rw [q] at a⊢;exact .row _ _ _ _ _ a
  .rw [q] at a⊢;exact .row _ _ _ _ _ a
 .obtain ⟨h1,h,h3,l⟩:=g.tail hm c d
  refine ⟨v,w',gL M v f xs,ob.set base [v],i,?_⟩
  rw [aR c]
  grind
theorem GG (hm:Mem M ob obs w) {s:Sem Value} {a:Nat} {e:TypeId} {v:Value} {w':World} {xs:List AVal} (d:s.run P w= .ok v w') (g:Grown M w w' a e v xs) {t:Tk} (b:sO ob v t):PM P M ob w s obs base (.val (.slice a xs t)):=by
 obtain ⟨h1,c⟩:=g.more hm
 obtain ⟨cv,f,_⟩:=g.own
 exact ⟨v,w',_,ob,d,c,h1,cH.refl _ _,jS f g.hz b⟩
theorem YV (hE:EnvOK E) (hm:Mem M ob obs w) (L:obs[base]? =some .dead) (J:ob[base]? =some []) {hint:Nat} {t t2 ty:TypeId} {v x:Value} {s a:AVal} (I:Rep M ob v s) (hx:Rep M ob x a):
  PM E.P M ob w (Cq #[t,t2] ty #[v,x]) obs base (sD E hint base (aE obs) t t2 s a):=by
 unfold sD
 split
 .rename_i e esz eb _ _ _ hT
  obtain ⟨⟨N,i,z,R,hsz,heb,hz,y,hz1⟩,_⟩:=(hE.tab t _ hT).kind
  subst hsz heb
  refine sdc fun hp=>?_
  have d:0<i.size:=Ci hp
  split
  .exact trivial
  .rename_i ys hys
   have h:=O6 hE hm hx hys d
   split
   .rename_i sz xs tk
    split
    .rename_i k g
     split
     .rename_i g' sz' e' A
      refine sdc fun H=>?_
      obtain ⟨m,Q⟩:=aU H
      obtain ⟨j,C⟩:=aU m
      obtain ⟨u,p⟩:=aU j
      obtain rfl:=aC u
      have Z:=aC C
      have S:=aC p
      subst S
      subst Z
      have q4:=aC Q
      subst q4
      rintro ⟨F,G⟩
      have r:=bW A s_
      obtain ⟨K,w',M',ob',o,l,T,X,r5⟩:=hm.appendTail (P:=E.P) (ty:=ty) N R hz hz1 y d r I h F G
      refine ⟨K,w',M',ob',o,?_⟩
      rw [aR r]
      exact ⟨T,l,X,r5⟩
     .exact trivial
    .refine sdc fun H=>?_
     have q:=aC H
     subst q
     rintro ⟨F,G⟩
     obtain ⟨_,W⟩:=I.untok
     obtain rfl:v= .slice none 0 0:=W
     obtain ⟨K,w',o,l⟩:=append_nil (P:=E.P) (ty:=ty) hm N R hz hz1 y d h F G
     exact pC hm L J o l
    .refine sdc fun H=>?_
     have q:=aC H
     subst q
     rintro ⟨F,G⟩
     obtain ⟨K,w',o,l⟩:=ON (P:=E.P) (ty:=ty) hm N R hz hz1 y d I h F G
     split
     .rcases l with ⟨rfl,rfl,rfl⟩ | ⟨_,l⟩
      .refine ⟨K,w',M,ob,o,Ext.refl _ _ _ _,hm,cH.refl _ _,?_⟩
       rw [Bc]
       exact I.untok.1
      .exact GG hm o l trivial
     .intro hne
      rcases l with ⟨q,_⟩ | ⟨_,l⟩
      .grind
      .exact pC hm L J o l
    .exact trivial
   .rintro ⟨F,G⟩
    cases I
    obtain ⟨K,w',o,l⟩:=append_nil (P:=E.P) (ty:=ty) hm N R hz hz1 y d h F G
    exact pC hm L J o l
   .rename_i k g
    split
    .rename_i g' sz e' xs A
     refine sdc fun H=>?_
     obtain ⟨j,C⟩:=aU H
     obtain ⟨u,p⟩:=aU j
     obtain rfl:=aC u
     have S:=aC p
     subst S
     have Z:=aC C
     subst Z
     rintro ⟨F,G⟩
     have r:=bW A s_
     obtain ⟨V,n,c,rfl,f⟩:=I.row_inv
     obtain ⟨K,w',ob',o,l,T,X,r5⟩:=hm.appendRow (P:=E.P) (ty:=ty) N R hz hz1 y d r f h F G
     refine ⟨K,w',M,ob',o,?_⟩
     rw [aR r]
     exact ⟨T,l,X,r5⟩
    .exact trivial
   .rename_i k g lo len sz
    split
    .rename_i g' sz' e' xs A
     refine sdc fun H=>?_
     obtain ⟨m,Q⟩:=aU H
     obtain ⟨j,C⟩:=aU m
     obtain ⟨u,p⟩:=aU j
     obtain rfl:=aC u
     have Z:=aC C
     have S:=aC p
     subst S
     subst Z
     have q4:=aC Q
     subst q4
     intro hfit
     have r:=bW A s_
     obtain ⟨hs0,v0,e1,e2,e3,e4,U,_⟩:=hm.rowOf r
     have Y:∀ {V n c},at' ob k g=some (.slice V n c)->n=xs.length:=fun {V n c} f=>by
      rw [f] at e4
      cases e4
      rcases U.len with ⟨q,rfl⟩ | ⟨b,cap,q,_⟩<;>cases q<;>rfl
     obtain ⟨⟨news,D,s2⟩,hz',_⟩:=h
     cases I with
     | sub _ _ _ _ _ b n c f hl hn hc hmm=>
      have:=Y f
      obtain ⟨w',o,l,T,X⟩:=hm.rowSplice (P:=E.P) (ys:=ys) (i:=lo+len) (news:=news) r f d o_ hz' D.newsLen D.one s2
      refine ⟨.slice (some ⟨b,lo*i.size,none⟩) (len+ys.length) (c-lo),w',M,ob,?_,?_⟩
      .have hst:(storeCells ((⟨b,lo*i.size,none⟩:Addr).add (len*i.size)) news).run E.P w= .ok () w':=by rw [bH,<-Bx];exact o
       have O:len+ys.length<=c-lo:=o_
       rcases D.kind with ⟨e',B⟩ | B<;>simp [Cq,run_underlying N,run_underlying B,sizeOf,typeInfo,R,D.len,O,D.cells,hst]
      .rw [aR r]
       exact ⟨T,l,X,.sub _ _ _ _ _ b n c f hl o_ hc hmm⟩
     | sub0 _ _ _ _ V a' n c f hl hc=>
      have:=Y f
      have hy0:ys=[]:=Av o_
      subst hy0
      have hn0:news=[]:=Av (by rw [D.newsLen];simp)
      subst hn0
      refine ⟨.slice a' 0 0,w,M,ob,?_,?_⟩
      .have hc0:(Ch i.size 0 x).run E.P w= .ok #[] w:=D.cells
       have hl0:∀ w,(Builtin.lenOf x).run E.P w= .ok 0 w:=D.len
       rcases D.kind with ⟨e',B⟩ | B<;>cases a'<;>simp [Cq,run_underlying N,run_underlying B,sizeOf,typeInfo,R,hl0,hc0,storeCells]
      .rw [aR r]
       have:obs.set k (.row g i.size e (xs.take (lo+0)++[]++xs.drop (lo+0+([]:List AVal).length)))=obs:=by
        rw [Fv,qD];exact fQ r
       rw [this]
       exact ⟨Ext.refl _ _ _ _,hm,cH.refl _ _,.sub0 _ _ _ _ V a' n c f hl hc⟩
    .exact trivial
   .exact trivial
 .exact trivial
end
section
variable {P:Program} {E:Env} {M:Imm} {ob:Hs} {obs:List AObj} {w:World} {base:Nat}
theorem aBV {α:Type} (l:List α) (n:Nat):l.drop (min n l.length)=l.drop n:=by
 simp
theorem aGs (hE:EnvOK E) (hm:Mem M ob obs w) {t X ty:TypeId} {v x:Value} {d a:AVal} (hv:Rep M ob v d) (hx:Rep M ob x a):
  PM E.P M ob w (Kd #[t,X] ty #[v,x]) obs base (aC8 E (aE obs) t X d a):=by
 unfold aC8
 split
 .rename_i e esz eb _ _ _ hT
  obtain ⟨⟨hu,i,z,hi,hsz,T,hz,hzs,hz1⟩,_⟩:=(hE.tab t _ hT).kind
  subst hsz T
  refine sdc fun hp=>?_
  have j:0<i.size:=Ci hp
  have B:∀ n:Nat,(n:Int)<=9223372036854775807->inR .i64 (n:Int):=fun n h=>⟨by simp only [bO];omega,by simp only [bA];omega⟩
  split
  .exact trivial
  .rename_i ys W
   obtain ⟨⟨U,s1,_⟩,V,s⟩:=O6 hE hm hx W j
   have run:∀ {A:Option Addr} {n c m:Nat} {news:List Value} {w':World},m=min ys.length n->(Ch i.size m x).run E.P w= .ok news.toArray w->(∀ a,A=some a->(storeCells a news).run E.P w= .ok () w')->(A=none->w'=w)->
     (Kd #[t,X] ty #[.slice A n c,x]).run E.P w= .ok (.int .i64 (m:Nat)) w':=by
    intro A n c m news w' h1 h2 h3 h4
    subst h1
    have C:Nat.min ys.length n=min ys.length n:=rfl
    cases A with
    | none=>
     rw [h4 rfl]
     simp [Kd,run_underlying hu,s1.len,C,sizeOf,typeInfo,hi,h2,goInt]
    | some a=>
     simp [Kd,run_underlying hu,s1.len,C,sizeOf,typeInfo,hi,h2,h3 a rfl,goInt]
   have put:∀ {k g:Nat} {xs:List AVal} {b n cap p m:Nat},obs[k]? =some (.row g i.size e xs)\/(∃ u,obs[k]? =some (.row g i.size u xs))->True:=fun _=>trivial
   clear put
   -- the elements that are written
   have key:∀ {k g:Nat} {u:TypeId} {xs:List AVal} {b n cap p m:Nat},obs[k]? =some (.row g i.size u xs)->at' ob k g=some (.slice (some ⟨b,0,none⟩) n cap)->m<=ys.length->p+m<=xs.length->
     ∃ (news:List Value) (w':World),(Ch i.size m x).run E.P w= .ok news.toArray w/\(storeCells ⟨b,p*i.size,none⟩ news).run E.P w= .ok () w'/\
      Mem M ob (obs.set k (.row g i.size u (xs.take p++ys.take m++xs.drop (p+m)))) w'/\Ext M ob obs w M ob (obs.set k (.row g i.size u (xs.take p++ys.take m++xs.drop (p+m)))) w'/\cH ob obs ob (obs.set k (.row g i.size u (xs.take p++ys.take m++xs.drop (p+m)))):=by
    intro k g u xs b n cap p m l f S hpm
    obtain ⟨news,n1,n2,J,D⟩:=s m S
    have r:(ys.take m).length=m:=by simp;omega
    obtain ⟨w',r1,r2,r3,r4⟩:=hm.rowSplice (P:=E.P) (ys:=ys.take m) (i:=p) (news:=news) l f j o_ (fun y hy=>V y (Cy hy)) (by rw [r];exact n2) J (fun q c R=>by
     have G:=fH j R
     rw [r] at G
     rw [mS j G] at R
     exact D q c G R)
    rw [r] at r2 r3 r4
    exact ⟨news,w',n1,r1,r2,r3,r4⟩
   split
   .rename_i k g
    split
    .rename_i g' sz u xs I
     refine sdc fun hg=>?_
     obtain ⟨H,F⟩:=aU hg
     obtain rfl:=aC H
     have Q:=aC F
     subst Q
     have l:=bW I s_
     obtain ⟨A,n,c,rfl,f⟩:=hv.row_inv
     obtain ⟨Y,v0,e1,e2,e3,O,o,_⟩:=hm.rowOf l
     rw [f] at O
     cases O
     rcases o.len with ⟨q,rfl⟩ | ⟨b,cap,q,Q,q3,q4⟩
     .cases q
      obtain ⟨news,n1,n2,_⟩:=s 0 (Cn _)
      refine ⟨.int .i64 ((0:Nat):Int),w,M,ob,run (m:=0) s_ n1 (fun a h=>by cases h) (fun _=>rfl),?_⟩
      rw [aR l]
      have:obs.set k (.row g i.size u (ys.take ([]:List AVal).length++([]:List AVal).drop ys.length))=obs:=by simp only [Fv,Hi,List.drop_nil,Bc];exact fQ l
      rw [this]
      exact ⟨Ext.refl _ _ _ _,hm,cH.refl _ _,by simpa using Rep.int .i64 0 (B 0 d_)⟩
     .cases q
      obtain ⟨news,w',n1,n2,J,D,L⟩:=key (p:=0) (m:=min ys.length xs.length) l f (Nat.min_le_left _ _) o_
      rw [Kv] at n2
      refine ⟨.int .i64 ((min ys.length xs.length:Nat):Int),w',M,ob,run rfl n1 (fun a h=>by cases h;exact n2) (fun h=>by cases h),?_⟩
      rw [aR l]
      have Z:xs.take 0++ys.take (min ys.length xs.length)++xs.drop (0+min ys.length xs.length)=ys.take xs.length++xs.drop ys.length:=by
       rw [Hi,Bm,Bw,aBV]
       congr 1
       by_cases h:ys.length<=xs.length
       .rw [Hq h,Il,Cb h]
       .rw [Nat.min_eq_right o_]
      rw [Z] at J D L
      have hmx:=fZ
      have:min ys.length xs.length<=xs.length:=Nat.min_le_right _ _
      exact ⟨D,J,L,.int _ _ (B _ o_)⟩
    .exact trivial
   .rename_i k g lo len sz
    split
    .rename_i g' sz' u xs I
     refine sdc fun hg=>?_
     obtain ⟨K,hg3⟩:=aU hg
     obtain ⟨H,F⟩:=aU K
     obtain rfl:=aC H
     have q3:=aC hg3
     have Q:=aC F
     subst Q
     subst q3
     have l:=bW I s_
     obtain ⟨Y,v0,e1,e2,e3,O,o,_⟩:=hm.rowOf l
     have N:∀ {A n c},at' ob k g=some (.slice A n c)->n=xs.length:=fun {A n c} f=>by
      rw [f] at O
      cases O
      rcases o.len with ⟨q,rfl⟩ | ⟨b,cap,q,_⟩<;>cases q<;>rfl
     cases hv with
     | sub _ _ _ _ _ b n c f hl hn hc hmm=>
      have:=N f
      obtain ⟨news,w',n1,n2,J,D,L⟩:=key (p:=lo) (m:=min ys.length len) l f (Nat.min_le_left _ _) o_
      refine ⟨.int .i64 ((min ys.length len:Nat):Int),w',M,ob,run rfl n1 (fun a h=>by cases h;exact n2) (fun h=>by cases h),?_⟩
      rw [aR l]
      have Z:ys.take (min ys.length len)=ys.take len:=by
       by_cases h:ys.length<=len
       .rw [Hq h,Il,Cb h]
       .rw [Nat.min_eq_right o_]
      rw [Z] at J D L
      have:min ys.length len<=len:=Nat.min_le_right _ _
      exact ⟨D,J,L,.int _ _ (B _ o_)⟩
     | sub0 _ _ _ _ A a' n c f hl hc=>
      have:=N f
      obtain ⟨news,n1,n2,_⟩:=s 0 (Cn _)
      have hn0:news=[]:=Av o_
      subst hn0
      refine ⟨.int .i64 ((0:Nat):Int),w,M,ob,run (m:=0) s_ n1 (fun a h=>rfl) (fun _=>rfl),?_⟩
      rw [aR l]
      have:obs.set k (.row g i.size u (xs.take lo++ys.take 0++xs.drop (lo+min ys.length 0)))=obs:=by
       rw [Hi,Nat.min_zero,qD];exact fQ l
      rw [this]
      exact ⟨Ext.refl _ _ _ _,hm,cH.refl _ _,by simpa using Rep.int .i64 0 (B 0 d_)⟩
    .exact trivial
   .exact trivial
 .exact trivial
theorem wV {z:Value} {a:AVal} (k:Rep M [] z a) (o:a≠ .undef) {b:Nat} (hz:z.cells.size=b) (hs:0<b) {n:Nat} {cv:List Value} (hl:cv.length=n*b) (m:∀ q,q<n*b->cv[q]? =z.cells.toList[q % b]?):
  (∀ y∈Ai n a,y.cells.length=b)/\∀ (q:Nat) c,aK b (Ai n a) q=some c->∃ u,cv[q]? =some u/\Rep M [] u c:=by
 obtain ⟨h1,j⟩:=k.cells o
 have l:z.cells.toList.length=b:=o_
 refine ⟨fun y g=>by rw [(Ga.1 g).2];omega,fun q c h=>?_⟩
 have e:=fH hs h
 rw [Fy] at e
 obtain ⟨y,g,f⟩:=fS h
 have:=Aq g
 rw [(Ga.1 this).2] at f
 have i:=Dz q hs
 rw [m q e]
 have d:q % b<z.cells.toList.length:=o_
 exact ⟨_,Ab d,j _ _ c (Ab d) f⟩
theorem sP {z:Array Value} {n:Nat}:(Cf z n).toList.length=n*z.size/\∀ q,q<n*z.size->(Cf z n).toList[q]? =z.toList[q % z.size]?:=by
 refine ⟨by simp [Cf],fun q b=>?_⟩
 have hs:0<z.size:=by grind
 have a:=Dz q hs
 simp only [Cf,Jv,Bj,Array.toList_range]
 simp_all
theorem ES {z:Array Value} {n:Nat} (hs:0<z.size):(madeCells z n).toList.length=n/\∀ q,q<n->(madeCells z n).toList[q]? =z.toList[q % z.size]?:=by
 refine ⟨by simp [madeCells],fun q b=>?_⟩
 have a:=Dz q hs
 simp only [madeCells,Jv,Bj,Array.toList_range]
 simp_all
theorem VZ {z:Array Value} {cv:List Value} {n:Nat} (h:z.toList.all (·.oneCell')=true) (hl:cv.length=n) (c:∀ q,q<n->∃ j:Nat,cv[q]? =z.toList[j]?):∀ u∈cv,u.oneCell'=true:=fun u b=>by
 obtain ⟨q,d⟩:=Cs b
 obtain ⟨j,a⟩:=c q (by grind)
 rw [d] at a
 exact Cu.1 h u (Aq a.symm)
theorem AK {a:AVal} (h:CK a=true):a≠ .undef:=fun e=>by subst e;cases h
theorem aDa (hE:EnvOK E) (hm:Mem M ob obs w) {t ty:TypeId} {v:Value} {d:AVal} (l:Rep M ob v d):PM E.P M ob w (Jn #[t] ty #[v]) obs base (RB E (aE obs) t d):=by
 unfold RB
 split
 .rename_i e esz eb _ _ _ hT
  obtain ⟨⟨S,i,z,hi,T,H,hz,y,hz1⟩,_⟩:=(hE.tab t _ hT).kind
  subst T H
  split
  .rename_i A O
   refine sdc fun hp=>?_
   obtain ⟨C,I⟩:=aU hp
   have j:0<i.size:=Ci C
   obtain ⟨i',z',r,Z,x,hzs',F,s,hne⟩:=(hE.tab e A O).info
   rw [hi] at r
   cases r
   rw [hz] at x
   cases x
   split
   .rename_i k g lo len sz
    split
    .rename_i g' sz' e' xs Q
     refine sdc fun hg=>?_
     obtain ⟨o,U⟩:=aU hg
     obtain ⟨J,D⟩:=aU o
     obtain rfl:=aC J
     have q3:=aC U
     have q2:=aC D
     subst q2
     subst q3
     have m:=bW Q s_
     obtain ⟨hs0,v0,e1,e2,e3,e4,u,_⟩:=hm.rowOf m
     have R:∀ {K n c},at' ob k g=some (.slice K n c)->n=xs.length:=fun {K n c} f=>by
      rw [f] at e4
      cases e4
      rcases u.len with ⟨q,rfl⟩ | ⟨b,cap,q,_⟩<;>cases q<;>rfl
     have same:len=0->obs.set k (.row g i.size e' (xs.take lo++Ai len (pureV (fun _=>.dead) 4 A.zero)++xs.drop (lo+len)))=obs:=fun h=>by
      subst h
      rw [List.replicate_zero,qD];exact fQ m
     cases l with
     | sub _ _ _ _ _ b n c f hl hn hc hmm=>
      have:=R f
      by_cases V:len=0
      .refine ⟨.tuple #[],w,M,ob,?_,?_⟩
       .subst V
        simp [Jn,run_underlying S]
       .rw [aR m,same V]
        exact ⟨Ext.refl _ _ _ _,hm,cH.refl _ _,.tup [] [] rfl fun i v a l=>by simp at l⟩
      .have B:=hm.pure0 F
       obtain ⟨L,N⟩:=sP (z:=z.cells) (n:=len)
       rw [y] at L N
       have p:pureV (fun _=>.dead) 4 A.zero≠ .undef:=AK I
       obtain ⟨r1,r2⟩:=wV (M:=M) B p y j L N
       obtain ⟨w',s1,X,W,Y⟩:=hm.rowSplice (P:=E.P) (ys:=Ai len (pureV (fun _=>.dead) 4 A.zero)) (i:=lo) (news:=(Cf z.cells len).toList) m f j q_ r1 q_ (VZ s L fun q hq=>⟨_,N q hq⟩) r2
       rw [Fy] at X W Y
       refine ⟨.tuple #[],w',M,ob,?_,?_⟩
       .have G:(zeroValue e).run E.P w= .ok z w:=by simp [zeroValue,typeInfo,hi,hz]
        cases len with
        | zero=>omega
        | succ len=>simp [Jn,run_underlying S,G,s1]
       .rw [aR m]
        exact ⟨W,X,Y,.tup [] [] rfl fun i v a l=>by simp at l⟩
     | sub0 _ _ _ _ K a' n c f hl hc=>
      refine ⟨.tuple #[],w,M,ob,?_,?_⟩
      .cases a'<;>simp [Jn,run_underlying S]
      .rw [aR m,same rfl]
       exact ⟨Ext.refl _ _ _ _,hm,cH.refl _ _,.tup [] [] rfl fun i v a l=>by simp at l⟩
    .exact trivial
   .exact trivial
  .exact trivial
 .exact trivial
theorem aGp (hE:EnvOK E) (hm:Mem M ob obs w) (D:obs[base]? =some .dead) (r:ob[base]? =some []) {t:TypeId} {G J:Value} {n c:AVal} (W:Rep M ob G n) (X:Rep M ob J c) {hint:Nat}:
  PM E.P M ob w (Instr.makeSlice t G J) obs base (VG E hint base t n c):=by
 unfold VG
 split
 .rename_i e S eb _ _ _ k a Z b U
  obtain ⟨⟨Q,i,z,K,x,A,hz,h,hz1⟩,_⟩:=(hE.tab t _ U).kind
  subst x A
  split
  .rename_i H y
   refine sdc fun hp=>?_
   obtain ⟨B,s⟩:=aU hp
   have d:0<i.size:=Ci B
   obtain ⟨i',z',j,L,o,I,v,l,V⟩:=(hE.tab e H y).info
   rw [K] at j
   cases j
   rw [hz] at o
   cases o
   obtain ⟨rfl,_⟩:=W.int_inv
   obtain ⟨rfl,_⟩:=X.int_inv
   rintro m rfl ⟨rfl,R,c3⟩
   have O:=fZ
   have f:=run_make (P:=E.P) w t e i z Q K hz k Z (m:Int) (m:Int) o_ (Ds _) R o_
   rw [Cz] at f
   have p:=hm.pure0 v
   obtain ⟨F,u⟩:=ES (z:=z.cells) (n:=m*i.size) o_
   rw [h] at u
   obtain ⟨Y,T⟩:=wV (M:=M) p (AK s) h d F u
   have g:=Grown.ofAlloc (M:=M) (w:=w) (e:=e) (xs:=Ai m (pureV (fun _=>.dead) 4 H.zero)) (cv:=(madeCells z.cells (m*i.size)).toList) d q_ (VZ l F fun q N=>⟨_,u q N⟩) Y q_ T
   have C:(madeCells z.cells (m*i.size)).toList.toArray=madeCells z.cells (m*i.size):=by simp
   rw [C,Fy] at g
   exact pC (hint:=2) hm D r f g
  .exact trivial
 .exact trivial
theorem VJ:∀ (new l:List AVal),new.length<=l.length->∃ r,RP new l=some r
 | [],l,_=>⟨l,rfl⟩
 | _::_,[],h=>by simp at h
 | c::new,d::l,h=>by
  obtain ⟨r,a⟩:=VJ new l (by grind)
  exact ⟨c::r,by simp [RP,a]⟩
theorem G8:∀ (off:Nat) (new l:List AVal),off+new.length<=l.length->∃ r,nF off new l=some r
 | 0,new,l,h=>by obtain ⟨r,a⟩:=VJ new l o_;exact ⟨r,by simpa [nF] using a⟩
 | n+1,new,[],h=>by simp at h
 | n+1,new,c::l,h=>by
  obtain ⟨r,a⟩:=G8 n new l (by grind)
  exact ⟨c::r,by simp [nF,a]⟩
def L4 (og:Nat->AObj) (l:List (Nat×AVal)):List (Nat×AVal):=l.map fun p=>(p.1,pureV og 4 p.2)
theorem JK (og:Nat->AObj) (d:Nat):∀ {b:List (Nat×AVal)} {n:Nat} {xs:List AVal} {base:List AVal},DP og d n b=some xs->(n+b.length)*d<=base.length->
  ∃ cs',DO (fun i=>some (i*d,d)) base (L4 og b)=some cs'/\cs'.length=base.length/\(∀ o,o<n*d->cs'[o]? =base[o]?)/\xs.length=b.length/\
   (∀ x∈xs,x.cells.length=d/\oO x.cells=true)/\∀ (i j:Nat) x c,xs[i]? =some x->x.cells[j]? =some c->cs'[(n+i)*d+j]? =some c:=by
 intro b
 induction b with
 | nil=>intro n xs base h hl;cases h;exact ⟨base,rfl,rfl,fun _ _=>rfl,rfl,fun x e=>by simp at e,fun i j x c e=>by simp at e⟩
 | cons p b J=>
  intro n xs base h hl
  obtain ⟨i,G⟩:=p
  simp only [DP] at h
  obtain ⟨v,w⟩:∃ v,pureV og 4 G=v:=⟨_,rfl⟩
  rw [w] at h
  obtain ⟨z,q⟩:=dZ h
  simp only [Ag] at z
  obtain ⟨⟨K,A⟩,t⟩:=z
  have I:=aC K
  subst I
  have hz:=aC A
  rw [wC] at hz
  cases k:DP og d (i+1) b with
  | none=>simp [k] at q
  | some l=>
   simp only [k,Fj] at q
   subst q
   have f:(i+1)*d<=base.length:=by
    refine Co (Cd _ ?_) hl
    simp
   rw [Bx,Ge] at f
   obtain ⟨C,g⟩:=G8 (i*d) v.cells base o_
   obtain ⟨O,s,u⟩:=jY g
   obtain ⟨cs',B,H,y,L,D,F⟩:=J (base:=C) k (by rw [s];refine Co (Nat.le_of_eq ?_) hl;simp;congr 1;omega)
   have m:CK v=true:=by cases v<;>first | rfl | (simp [AVal.cells,oO,AW.one] at t)
   refine ⟨cs',by
    unfold L4 at B⊢
    simp only [Bp,DO,w,m,A,Bool.and_self,cond_true,g,B],H.trans s,fun o N=>?_,by simp [L],fun x e=>?_,fun a j x c e r=>?_⟩
   .rw [y o (by rw [Bx];omega),u o,if_neg o_]
   .rcases Au.1 e with rfl | e
    .exact ⟨hz,t⟩
    .exact D x e
   .cases a with
    | zero=>
     simp at e
     subst e
     have M:j<d:=by rw [<-hz];exact (Ad.1 r).1
     rw [Em,y _ (by rw [Bx];omega),u,if_pos o_,Hk]
     exact r
    | succ a=>
     have:=F a j x c (by simpa using e) r
     rw [show i+(a+1)=i+1+a from by omega]
     exact this
theorem aE7 (l:List (Nat×AVal)):aBo l=l.length:=by induction l with
 | nil=>rfl
 | cons a r b=>simp [aBo,b]
theorem EW (hE:EnvOK E) (hm:Mem M ob obs w) (T:obs[base]? =some .dead) (J:ob[base]? =some []) {hint:Nat} {t:TypeId} {len:Nat} {h:List (Nat×AVal)} {vparts:Array (Nat×Value)} (hl:EH M ob vparts.toList h):
  PM E.P M ob w (Jy t len vparts) obs base (mR E hint base (aE obs) t len h):=by
 unfold mR
 split
 .rename_i e b eb _ _ _ hT
  obtain ⟨⟨hu,ie,z,hi,hs,hb,hz,hzs,_⟩,_⟩:=(hE.tab t _ hT).kind
  refine sdc fun hg=>?_
  simp only [Ag] at hg
  obtain ⟨⟨g1,g2⟩,g3⟩:=hg
  have A:=aC g1
  rw [aE7] at A
  have N:len*b<=1000:=Ci g2
  have k:1<=b:=Ci g3
  split
  .rename_i xs L
   let f:Array Value:=if len*b=0 then #[] else (Kk (len*b)).map (z.cells[· % z.cells.size]!)
   have B:f.size=len*b:=by
    show (if len*b=0 then (#[]:Array Value) else (Kk (len*b)).map (z.cells[· % z.cells.size]!)).size=_
    split<;>simp [*]
   obtain ⟨cs',e1,e2,_,e4,I,e6⟩:=JK (aE obs) b (base:=Ai (len*b) .undef) L (by simp [A])
   have W:cA M [] f.toList (Ai (len*b) AVal.undef):=⟨by simp [B],fun i v a _ ha=>by
    have:a= .undef:=(Ga.1 (Aq ha)).2
    subst this
    exact .undef _⟩
   have Q:EH M [] vparts.toList (L4 (aE obs) h):=⟨by unfold L4;rw [Ck];exact hl.1,fun i p q hp H=>by
    unfold L4 at H
    rw [Bj] at H
    obtain ⟨q',O,rfl⟩:=Cp.1 H
    obtain ⟨a1,a2⟩:=hl.2 i p q' hp O
    exact ⟨a1,hm.pureV 4 _ _ a2⟩⟩
   obtain ⟨d,f1,V⟩:=tQ (place:=fun i=>some (i*b,b)) (fun i p hp=>hp) e1 W Q
   have o:(Jy t len vparts).run E.P w= .ok (.slice (some ⟨w.heap.size,0,Mt⟩) len len) (w.alloc (.cells d e)):=by
    have U:(E.P.info? e).map (·.size)=some b:=by simp [hi,hs]
    unfold Jy
    simp only [Bf,run_underlying hu,Ao,run_sizeOf U]
    rw [if_neg o_]
    have K:(zeroValue e).run E.P w= .ok z w:=by simp [zeroValue,typeInfo,hi,hz]
    by_cases G:len*b=0
    .have r:(Kk (len*b)).map ((#[]:Array Value)[· % (#[]:Array Value).size]!)=f:=by
      show _=(if len*b=0 then (#[]:Array Value) else (Kk (len*b)).map (z.cells[· % z.cells.size]!))
      rw [if_pos G,G]
      simp
     rw [if_pos G]
     simp only [Bf,Ca,Ao]
     rw [r,f1]
     rfl
    .have r:(Kk (len*b)).map (z.cells[· % z.cells.size]!)=f:=by
      show _=(if len*b=0 then (#[]:Array Value) else (Kk (len*b)).map (z.cells[· % z.cells.size]!))
      simp
     rw [if_neg G]
     simp only [Bf,Ca,Ao,K]
     rw [r,f1]
     rfl
   have m:xs.length=len:=by rw [e4,A]
   have s:d.toList.length=xs.length*b:=by rw [V.1,e2];simp;rw [m]
   have l:∀ (j:Nat) c,aK b xs j=some c->cs'[j]? =some c/\AW.one c=true:=by
    intro j c C
    obtain ⟨y,Z,D⟩:=fS C
    have:=e6 _ _ y c Z D
    rw [Bw,Dj,Fu] at this
    obtain ⟨_,h1⟩:=I y (Aq Z)
    exact ⟨this,lJ h1 _ c D⟩
   have F:∀ u∈d.toList,u.oneCell'=true:=fun u R=>by
    obtain ⟨j,Y⟩:=Cs R
    have n:j<xs.length*b:=by rw [<-s];exact (Ad.1 Y).1
    obtain ⟨c,C⟩:=xY k (fun x S=>(I x S).1) n
    obtain ⟨h1,h2⟩:=l j c C
    exact (V.2 j u c Y h1).one h2
   have g:=Grown.ofAlloc (M:=M) (w:=w) (e:=e) (xs:=xs) (cv:=d.toList) k s F (fun x S=>(I x S).1) (by rw [m];unfold maxLen;have:len*1<=len*b:=Nat.mul_le_mul_left _ k;omega) (fun q c C=>by
    obtain ⟨h1,_⟩:=l q c C
    have n:q<d.toList.length:=by rw [s];exact fH k C
    exact ⟨_,Ab n,V.2 q _ c (Ab n) h1⟩)
   have X:d.toList.toArray=d:=by simp
   rw [X,m] at g
   split
   .exact GG hm o g ⟨_,len,rfl⟩
   .exact pC hm T J o g
  .exact trivial
 .exact trivial
theorem MR (hm:Mem M ob obs w) (b:obs[base]? =some .dead) (d:ob[base]? =some []) {t:TypeId} {v:Value} {a:AVal} (h:Rep M ob v a) (h1:oO a.cells=true):
  PM P M ob w (do Pure.pure (.pointer (some (<-newVar t v))):Sem Value) obs base (.born (.cells t a.cells) (.ref base 0)):=by
 obtain ⟨hl,c,f⟩:=h.cells_one h1
 obtain ⟨i,g,k,j⟩:=hm.bornCells b d t hl c f
 have e:v.cells.toList.toArray=v.cells:=by simp
 rw [e] at i g
 refine ⟨.pointer (some ⟨w.heap.size,0,Mt⟩),w.alloc (.cells v.cells t),M,ob.set base [.pointer (some ⟨w.heap.size,0,Mt⟩)],?_,?_⟩
 .rfl
 .rw [aR b]
  grind
end
section
variable {P:Program} {E:Env} {M:Imm} {ob:Hs} {obs:List AObj} {w:World} {base:Nat}
def aG8 (P:Program) (k:Nat) (a:Bool) (n:Nat):Prop:=(a=false/\n=1/\P.underlying k=some (.int .i64))\/(a=true/\(P.underlying k).isSome=true/\J6 P k n)
theorem F8:∀ {cs:List AVal} {l:List Int},NB cs=some l->cs=l.map (AVal.int .i64)
 | [],l,h=>by cases h;rfl
 | c::r,l,h=>by
  cases c<;>first | (simp [NB] at h;done) | skip
  rename_i k n
  cases k<;>first | (simp [NB] at h;done) | skip
  cases a:NB r with
  | none=>simp [NB,a] at h
  | some q=>
   simp only [NB,a,Fj] at h
   subst h
   simp [F8 a]
theorem xI (hE:EnvOK E) {k:Nat} {e:Bool} {a:AVal} {l:List Int} {v:Value} (h:F7 E k e a=some l) (m:Rep M ob v a):v=fP e l/\aG8 E.P k e l.length:=by
 cases e with
 | false=>
  simp only [F7] at h
  split at h
  .rename_i j
   split at h
   .cases h
    have q:=(hE.tab _ _ j).kind.1
    exact ⟨m.int_inv.1,.inl ⟨rfl,rfl,q⟩⟩
   .cases h
  .cases h
 | true=>
  simp only [F7] at h
  split at h
  .rename_i s j
   have f:=(hE.tab _ _ j).kind.isAgg.1
   split at h
   .rename_i cs
    split at h
    .rename_i t d
     obtain ⟨h1,p⟩:=dZ h
     cases p
     obtain ⟨h3,o⟩:=aU h1
     have g:=F8 d
     subst g
     obtain ⟨vs,rfl,hl,r⟩:=m.agg_inv
     have c:l.length=zV E.fl k:=by
      have:=aC o
      rw [wC] at this
      grind
     refine ⟨?_,.inr ⟨rfl,f,?_⟩⟩
     .simp only [fP,if_true]
      congr 2
      refine Ek fun i=>?_
      rw [Bj]
      cases d:l[i]? with
      | none=>
       have:=List.getElem?_eq_none_iff.1 d
       rw [Bh (by grind)]
       rfl
      | some n=>
       have b:i<vs.length:=by
        have:=(Ad.1 d).1
        rw [hl];simp;omega
       have:=r i _ (.int .i64 n) (Ab b) (by simp [d])
       rw [Ab b,this.int_inv.1]
       rfl
     .rw [c]
      exact (hE.fl k (by simpa [Jt] using h3)).2
    .cases h
   .cases h
  .cases h
theorem oT:∀ {es:List (List Int×AVal)} {key:List Int},(∀ y∈es,y.1≠key)->dQ es key=none/\(∀ v,zR es key v=es++[(key,v)])/\ER es key=es
 | [],key,_=>⟨rfl,fun _=>rfl,rfl⟩
 | (k,x)::r,key,h=>by
  obtain ⟨h1,b,h3⟩:=oT (es:=r) (key:=key) fun y c=>h y (by simp [c])
  have a:¬ k=key:=h (k,x) s_
  exact ⟨by simp [dQ,a,h1],fun v=>by simp [zR,a,b],by simp [ER,a,h3]⟩
theorem vK:∀ {es:List (List Int×AVal)} {key:List Int} {j:Nat} {y:List Int×AVal},es[j]? =some y->y.1=key->(∀ (i:Nat) b,i<j->es[i]? =some b->b.1≠key)->
  dQ es key=some y.2/\(∀ v,zR es key v=es.set j (key,v))/\ER es key=es.eraseIdx j
 | [],key,j,y,h,_,_=>by simp at h
 | (k,x)::r,key,0,y,h,a,_=>by
  simp only [Lp,Fj] at h
  subst h
  have a:k=key:=a
  exact ⟨by simp [dQ,a],fun v=>by simp [zR,a],by simp [ER,a]⟩
 | (k,x)::r,key,j+1,y,h,a,hb=>by
  obtain ⟨h1,d,h3⟩:=vK (es:=r) (key:=key) (j:=j) (y:=y) (by simpa using h) a fun i b f e=>hb (i+1) b o_ q_
  have c:¬ k=key:=hb 0 (k,x) o_ rfl
  exact ⟨by simp [dQ,c,h1],fun v=>by simp [zR,c,d],by simp [ER,c,h3]⟩
def E3 (b:Bool) (n:Nat) (a:List MapEntry) (es:List (List Int×AVal)):Prop:=a.length=es.length/\∀ (i:Nat) x y,a[i]? =some x->es[i]? =some y->x.key=fP b y.1/\y.1.length=n
theorem E3.tail {c:Bool} {n:Nat} {x:MapEntry} {y:List Int×AVal} {d:List MapEntry} {es:List (List Int×AVal)} (h:E3 c n (x::d) (y::es)):E3 c n d es:=
 ⟨by simpa using h.1,fun i a b f e=>h.2 (i+1) a b (by grind) (by grind)⟩
theorem E3.cons {a:Bool} {n:Nat} {x:MapEntry} {b:List MapEntry} {es:List (List Int×AVal)} (h:E3 a n (x::b) es):∃ y r,es=y::r/\x.key=fP a y.1/\y.1.length=n/\E3 a n b r:=by
 cases es with
 | nil=>have:=h.1;simp at this
 | cons y r=>exact ⟨y,r,rfl,(h.2 0 x y rfl rfl).1,(h.2 0 x y rfl rfl).2,h.tail⟩
def zJ (key:List Int) (a:List MapEntry) (es:List (List Int×AVal)) (o:Nat) (r:Option (Nat×Value)):Prop:=
 (r=none/\∀ y∈es,y.1≠key)\/∃ j x y,r=some (o+j,x.val)/\a[j]? =some x/\es[j]? =some y/\y.1=key/\∀ (i:Nat) y',i<j->es[i]? =some y'->y'.1≠key
theorem zJ.there {key:List Int} {x:MapEntry} {y:List Int×AVal} {a:List MapEntry} {es:List (List Int×AVal)} {o:Nat} (h:y.1=key):zJ key (x::a) (y::es) o (some (o,x.val)):=
 .inr ⟨0,x,y,rfl,rfl,rfl,h,fun i _ b=>by omega⟩
theorem zJ.on {key:List Int} {x:MapEntry} {y:List Int×AVal} {a:List MapEntry} {es:List (List Int×AVal)} {o:Nat} {r:Option (Nat×Value)} (f:y.1≠key) (h:zJ key a es (o+1) r):zJ key (x::a) (y::es) o r:=by
 rcases h with ⟨h1,d⟩ | ⟨j,x',e,h1,d,h3,b,c⟩
 .exact .inl ⟨h1,fun z hz=>by
   grind⟩
 .refine .inr ⟨j+1,x',e,by grind,by simp;omega,by simp;omega,b,fun i z g hz=>?_⟩
  cases i with
  | zero=>simp at hz;grind
  | succ i=>exact c i z o_ (by simpa using hz)
theorem yV (a:Int):∀ (d:List MapEntry) (es:List (List Int×AVal)) (o:Nat),E3 false 1 d es->∃ r,Lk (.int .i64) (.int .i64 a) d o=some r/\zJ [a] d es o r
 | [],es,o,h=>⟨none,rfl,.inl ⟨rfl,fun y m=>by
   have:es=[]:=Av (by have:=h.1;grind)
   grind⟩⟩
 | x::d,es,o,h=>by
  obtain ⟨y,r,rfl,h1,f,h3⟩:=h.cons
  obtain ⟨k,v⟩:=y
  have f:k.length=1:=f
  match k,f with
  | [b],_=>
   have g:x.key= .int .i64 b:=h1
   simp only [Lk,g,Instr.sameNow,if_true]
   by_cases c:a=b
   .subst c
    simp only [beq_self_eq_true]
    exact ⟨_,rfl,.there rfl⟩
   .have:(a==b)=false:=by grind
    rw [this]
    obtain ⟨j,l,i⟩:=yV a d r (o+1) h3
    exact ⟨j,l,.on (fun e=>c (by cases e;rfl)) i⟩
theorem pK {k:Nat} {n:Nat} (d:J6 P k n) {key:List Int} (f:key.length=n):∀ (b:List MapEntry) (es:List (List Int×AVal)) (o:Nat),E3 true n b es->∃ r,(Jz k (fP true key) b o).run P w= .ok r w/\zJ key b es o r
 | [],es,o,h=>⟨none,by rfl,.inl ⟨rfl,fun y m=>by
   have:es=[]:=Av (by have:=h.1;grind)
   grind⟩⟩
 | x::b,es,o,h=>by
  obtain ⟨y,r,rfl,h1,g,h3⟩:=h.cons
  have a:=(d w key y.1 f g).1
  rw [<-h1] at a
  by_cases c:key=y.1
  .rw [decide_eq_true c] at a
   exact ⟨_,by simp [Jz,a],.there c.symm⟩
  .rw [decide_eq_false c] at a
   obtain ⟨j,l,i⟩:=pK d f b r (o+1) h3
   exact ⟨j,by simp [Jz,a,l],.on (fun e=>c e.symm) i⟩
theorem qF {k:Nat} {g:Bool} {n:Nat} (l:aG8 P k g n) {key:List Int} (i:key.length=n) {b:List MapEntry} {es:List (List Int×AVal)} (h:E3 g n b es):
  ∃ r,(Ll k (fP g key) b).run P w= .ok r w/\zJ key b es 0 r:=by
 rcases l with ⟨rfl,rfl,e⟩ | ⟨rfl,j,m⟩
 .match key,i with
  | [a],_=>
   obtain ⟨r,c,f⟩:=yV a b es 0 h
   exact ⟨r,by simp [Ll,run_underlying e,fP,c],f⟩
 .obtain ⟨r,c,f⟩:=pK (w:=w) m i b es 0 h
  cases e:P.underlying k with
  | none=>grind
  | some d=>
   cases b with
   | nil=>simp [Jz] at c;subst c;exact ⟨none,by simp [Ll,run_underlying e,Lk],f⟩
   | cons x b=>
    obtain ⟨y,p,rfl,h1,o,h3⟩:=h.cons
    refine ⟨r,?_,f⟩
    have hs:Instr.sameNow d (fP true key) x.key=none:=by rw [h1];simp only [fP,if_true];cases d<;>rfl
    simp only [Ll,Bf,run_underlying e,Ao,Lk,hs]
    exact c
theorem H3 {k:Nat} {a:Bool} {n:Nat} (g:aG8 P k a n) {key:List Int} (c:key.length=n) (b:Bool):(Hl b 10000 k (fP a key)).run P w= .ok () w:=by
 rcases g with ⟨rfl,rfl,d⟩ | ⟨rfl,e,f⟩
 .rw [show (10000:Nat)=9999+1 from rfl,Hl]
  simp only [Bf,run_underlying d,Ao,fP,Ct,if_false,Ca]
 .exact (f w key key c c).2 b
theorem Mem.mpOf (hm:Mem M ob obs w) {j:Nat} {a:Bool} {es:List (List Int×AVal)} (g:aE obs j= .mp a es) {v:Value} (f:Rep M ob v (.mref j)):
  ∃ b,v= .map (some b)/\ob[j]? =some [.map (some b)]/\obs[j]? =some (.mp a es)/\(∀ o,NoM M b o)/\ZJ M w b a es:=by
 cases f with
 | mref _ b c=>
  have i:=bW g s_
  obtain ⟨hs,h,e,d,l,k⟩:=hm.obj j _ i
  have:e=b:=by rw [bZ h,d] at c;simp_all
  subst this
  simp_all
theorem ZJ.enOK {b:Nat} {a:Bool} {es:List (List Int×AVal)} {n:Nat} {e:List MapEntry} (hl:e.length=es.length) (h:∀ (i:Nat) x y,e[i]? =some x->es[i]? =some y->x.key=fP a y.1/\(a=false->y.1.length=1)/\Rep M [] x.val y.2)
  (g:(a=false/\n=1)\/(a=true/\∀ p∈es,p.1.length=n)):E3 a n e es:=
 ⟨hl,fun i x y f d=>⟨(h i x y f d).1,by
  rcases g with ⟨h1,c⟩ | ⟨_,c⟩
  .rw [c];exact (h i x y f d).2.1 h1
  .exact c y (Aq d)⟩⟩
theorem H0 {VS:AVal->List AObj->Prop} {CS:Fn->List AVal->Prop} {PS:AVal->Prop} {a:Bool} {es:List (List Int×AVal)} {key:List Int} {r:OR} {k:Nat} (b:aG8 P k a key.length)
  (h:(a=false/\key.length=1)\/(a=true/\∀ p∈es,p.1.length=key.length)->Sd VS CS PS obs base r):Sd VS CS PS obs base (AM a es key r):=by
 rcases b with ⟨rfl,c,_⟩ | ⟨rfl,_⟩
 .exact h (.inl ⟨rfl,c⟩)
 .exact fun hp=>h (.inr ⟨rfl,hp⟩)
theorem Rep.pairB {v:Value} {a:AVal} (h:Rep M ob v a) (b:Bool):Rep M ob (.tuple #[v,.bool b]) (.tup [a,.bool b]):=by
 refine .tup [v,.bool b] _ rfl fun i q c e d=>?_
 rcases i with _ | _ | i
 .grind
 .simp at e d;subst e d;exact .bool b
 simp_all
theorem YU (hE:EnvOK E) (hm:Mem M ob obs w) {t:Nat} {F kv:Value} {m k:AVal} (C:Rep M ob F m) (s:Rep M ob kv k) (ok:Bool):
  PS0 E.P M ob w (Lt t F kv ok) obs base (JH E (aE obs) t m k ok):=by
 unfold JH
 split
 .rename_i Q e _ _ _ j I
  have h:=(hE.tab _ _ I).kind.1
  split
  .rename_i O R es u A
   split
   .rename_i key g
    obtain ⟨rfl,d⟩:=xI hE g s
    refine H0 d fun K=>?_
    obtain ⟨b,rfl,_,_,_,S,o,D,hl,n,_⟩:=hm.mpOf A C
    obtain ⟨r,G,B⟩:=qF (w:=w) d rfl (ZJ.enOK (b:=b) hl n K)
    have a:=fun N=>H3 (w:=w) d rfl N
    obtain ⟨i,z,J,_,hz,_,f,_⟩:=(hE.tab _ _ u).info
    have p:(zeroValue e).run E.P w= .ok z w:=by simp [zeroValue,typeInfo,J,hz]
    rcases B with ⟨rfl,B⟩ | ⟨q,x,y,rfl,L,H,v,l⟩
    .rw [Sd.eq_def]
     simp only
     rw [(oT B).1]
     refine ⟨rfl,if ok then .tuple #[z,.bool false] else z,?_,?_⟩
     .simp only [Lt,Bf,run_underlying h,Ao,MapKept.run_getObj_map D,a,G,p,Ca]
     .cases ok with
      | true=>exact (jO f).pairB false
      | false=>exact jO f
    .rw [Sd.eq_def]
     simp only
     rw [(vK H v l).1]
     have c:=(n q x y L H).2.2.pure (ob:=ob)
     refine ⟨rfl,if ok then .tuple #[x.val,.bool true] else x.val,?_,?_⟩
     .simp only [Lt,Bf,run_underlying h,Ao,MapKept.run_getObj_map D,a,G,Ca]
     .cases ok with
      | true=>exact c.pairB true
      | false=>exact c
   .exact trivial
  .exact trivial
 .exact trivial
abbrev HZ (w:World) (b:Nat) (o:Obj):World:={w with heap:=w.heap.setIfInBounds b o}
theorem WP {b:Nat} {o a:Obj} (h:w.heap[b]? =some a):(HZ w b o).heap[b]? =some o:=by
 have:=eU h
 simp_all
theorem BN {b c:Nat} {o:Obj} (h:c≠b):(HZ w b o).heap[c]? =w.heap[c]?:=by
 grind
theorem Mem.mpTurn (h:Mem M ob obs w) {j b d clock':Nat} {f:Bool} {es es':List (List Int×AVal)} {B:Array MapEntry} {en':List MapEntry} (F:obs[j]? =some (.mp f es)) (r:ob[j]? =some [.map (some b)]) (g:∀ o,NoM M b o) (p:w.heap[b]? =some (.map B d))
  (hl:en'.length=es'.length) (t:∀ (i:Nat) x y,en'[i]? =some x->es'[i]? =some y->x.key=fP f y.1/\(f=false->y.1.length=1)/\Rep M [] x.val y.2)
  (h1:∀ (i:Nat) x,en'[i]? =some x->x.born<clock') (A:∀ (i j:Nat) x y,en'[i]? =some x->en'[j]? =some y->x.born=y.born->i=j):
  Mem M ob (obs.set j (.mp f es')) (HZ w b (.map en'.toArray clock'))/\Ext M ob obs w M ob (obs.set j (.mp f es')) (HZ w b (.map en'.toArray clock'))/\cH ob obs ob (obs.set j (.mp f es')):=by
 have m:=fQ (l:=ob) r
 have:=h.turn (M':=M) (w':=HZ w b (.map en'.toArray clock')) (x':=.mp f es') (hs':=[.map (some b)]) F r (Cl _) (fun e=>by cases e) (fun _ _ _ h=>h) (fun _ _ _ h=>.inl h) (fun c o y q=>by
   obtain ⟨u,z,s,v⟩:=h.imm c o y q
   have n:c≠b:=fun e=>by subst e;exact g o y q
   exact ⟨u,(Cx (w:=w) (a:=⟨c,o,none⟩) (BN n)).trans z,s,v⟩)
  (fun c _ C=>BN fun e=>C ⟨rfl,by subst e;exact dX.2 rfl⟩) rfl rfl rfl s_ (fun D=>⟨b,rfl,g,en',clock',WP p,hl,t,h1,A⟩)
  (fun _ c k=>⟨.inl ⟨rfl,k⟩,by
   have:b=c:=dX.1 k
   subst this
   have:=eU p
   simp;omega⟩)
 rw [m] at this
 exact this
theorem sS:∀ (n:Nat) (l:List Int),(((l.map (Ea .i64)).zip (l.map (Ea .i64))).all fun (x,y)=>Jo n x y)=true
 | n,[]=>rfl
 | n,a::r=>by
  simp only [Bp,List.zip_cons_cons,Ei,sS n r,Iv]
  cases n<;>simp [Jo]
theorem H2 (n:Nat) (a:Bool) (l:List Int):Jo (n+1) (fP a l) (fP a l)=true:=by
 cases a with
 | false=>simp [fP,Jo]
 | true=>
  simp only [fP,if_true,Jo,beq_self_eq_true,Bo]
  exact sS n l
theorem aFv {a:List MapEntry} {q:Nat} {x:MapEntry} (b:a[q]? =some x) (f:MapEntry->MapEntry):a.toArray.modify q f=(a.set q (f x)).toArray:=by
 apply Dv
 simp only [Array.toList_modify]
 refine Ek fun i=>?_
 rw [List.getElem?_modify,Fs]
 have d:=(Ad.1 b).1
 by_cases c:q=i
 .grind
 .simp [c]
theorem LG:Rep M ob (.tuple #[]) (.tup []):=.tup [] [] rfl fun i v a h=>by simp at h
theorem aC3 (hE:EnvOK E) (hm:Mem M ob obs w) {t:Nat} {mv kv F:Value} {m k v:AVal} (hmv:Rep M ob mv m) (hkv:Rep M ob kv k) (hvv:Rep M ob F v):
  Sd (VU E.P M ob obs w (Kr t mv kv F)) (fun _ _=>False) (fun _=>False) obs base (Q7 E (aE obs) t m k v):=by
 unfold Q7
 split
 .rename_i kt _ _ _ _ j hT
  have O:=(hE.tab _ _ hT).kind.1
  split
  .rename_i u es hog
   split
   .rename_i key N
    obtain ⟨rfl,I⟩:=xI hE N hkv
    have B:=hm.pureV 4 F v hvv
    generalize pureV (aE obs) 4 v=v' at B
    refine sdc fun _=>H0 I fun hn=>?_
    have W:u=false->key.length=1:=fun e=>by
     grind
    obtain ⟨b,rfl,L,o,R,l,f,J,hl,D,hst,G⟩:=hm.mpOf hog hmv
    obtain ⟨r,hr,Z⟩:=qF (w:=w) I rfl (ZJ.enOK (b:=b) hl D hn)
    have H:=fun em=>H3 (w:=w) I rfl em
    rcases Z with ⟨rfl,Z⟩ | ⟨q,x,y,rfl,K,hy,V,U⟩
    .have A:=(oT Z).2.1 v'
     have:=hm.mpTurn (es':=es++[(key,v')]) (en':=l++[⟨fP u key,F,f⟩]) (clock':=f+1) o L R J (by simp [hl]) (fun i a c d s=>by
       by_cases g:i<l.length
       .rw [Af g] at d
        rw [Af o_] at s
        exact D i a c d s
       .rw [Ak o_] at d
        rw [Ak o_] at s
        have p:i-l.length=0:=by
                  have:=(Ad.1 d).1
                  simp at this;omega
        rw [p] at d
        rw [<-hl,p] at s
        simp at d s
        subst d s
        exact ⟨rfl,W,B⟩) (fun i a d=>by
       by_cases g:i<l.length
       .rw [Af g] at d
        have:=hst i a d
        omega
       .rw [Ak o_] at d
        have p:i-l.length=0:=by
                  have:=(Ad.1 d).1
                  simp at this;omega
        rw [p] at d
        simp at d
        subst d
        simp) (fun i S a a' d h z=>by
       have n:∀ {i:Nat} {a:MapEntry},¬ i<l.length->(l++[⟨fP u key,F,f⟩])[i]? =some a->i=l.length/\a.born=f:=fun {i a} g d=>by
        rw [Ak o_] at d
        have p:i-l.length=0:=by
                  have:=(Ad.1 d).1
                  simp at this;omega
        rw [p] at d
        simp at d
        subst d
        simp;omega
       by_cases g:i<l.length<;>by_cases C:S<l.length
       .rw [Af g] at d
        rw [Af C] at h
        exact G i S a a' d h z
       .rw [Af g] at d
        have:=hst i a d
        have:=(n C h).2
        omega
       .rw [Af C] at h
        have:=hst S a' h
        have:=(n g d).2
        omega
       .have:=(n g d).1
        have:=(n C h).1
        omega)
     refine ⟨rfl,HZ w b (.map (l++[(⟨fP u key,F,f⟩:MapEntry)]).toArray (f+1)),M,ob,?_,?_⟩
     .simp only [Kr,Bf,run_underlying O,Ao,MapKept.run_getObj_map J,H,hr,MapKept.run_setObj_map _ J]
      simp
     .rw [A,aR o]
      exact ⟨this.2.1,this.1,this.2.2⟩
    .have A:=(vK hy V U).2.1 v'
     have hxk:=(D q x y K hy).1
     have hql:=(Ad.1 K).1
     have:=hm.mpTurn (es':=es.set q (key,v')) (en':=l.set q ⟨fP u key,F,x.born⟩) (clock':=f) o L R J (by simp [hl]) (fun i a c d s=>by
       rw [Fs] at d s
       by_cases g:q=i
       .rw [if_pos g] at d s
        subst g
        rw [if_pos hql] at d
        rw [if_pos o_] at s
        cases d;cases s
        exact ⟨rfl,W,B⟩
       .rw [if_neg g] at d s
        exact D i a c d s) (fun i a d=>by
       rw [Fs] at d
       by_cases g:q=i
       .rw [if_pos g,if_pos o_] at d
        cases d
        exact hst q x K
       .rw [if_neg g] at d
        exact hst i a d) (fun i S a a' d h z=>by
       have Q:∀ {i:Nat} {a:MapEntry},(l.set q ⟨fP u key,F,x.born⟩)[i]? =some a->∃ X,l[i]? =some X/\X.born=a.born:=fun {i a} d=>by
        rw [Fs] at d
        by_cases g:q=i
        .rw [if_pos g,if_pos o_] at d
         cases d
         exact ⟨x,g▸K,rfl⟩
        .rw [if_neg g] at d
         exact ⟨a,d,rfl⟩
       obtain ⟨X,g1,g2⟩:=Q d
       obtain ⟨Y,g1',g2'⟩:=Q h
       exact G i S X Y g1 g1' o_)
     refine ⟨rfl,HZ w b (.map (l.set q ⟨fP u key,F,x.born⟩).toArray f),M,ob,?_,?_⟩
     .have T:(((l.toArray[0+q]?).map (·.key)).getD (fP u key))=fP u key:=by
       simp only [Bw,Jq,K,Lz,Jw]
       rw [hxk,V]
      have hst:(Instr.keyThatStays (fP u key) (fP u key)).run E.P w= .ok (fP u key) w:=by
       unfold Instr.keyThatStays
       rw [show (10000:Nat)=9999+1 from rfl,H2 9999 u key]
       simp
      simp only [Kr,Bf,run_underlying O,Ao,MapKept.run_getObj_map J,H,hr,T,hst,MapKept.run_setObj_map _ J]
      rw [Bw,aFv K]
     .rw [A,aR o]
      exact ⟨this.2.1,this.1,this.2.2⟩
   .exact trivial
  .exact trivial
 .exact trivial
theorem YT (hE:EnvOK E) (hm:Mem M ob obs w) {t S ty:Nat} {O kv:Value} {m k:AVal} (N:Rep M ob O m) (H:Rep M ob kv k):
  PM E.P M ob w (Ks #[t,S] ty #[O,kv]) obs base (JG E (aE obs) t m k):=by
 unfold JG
 split
 .rename_i kt _ _ _ _ j U
  have D:=(hE.tab _ _ U).kind.1
  split
  .rename_i ag es J
   split
   .rename_i key C
    obtain ⟨rfl,o⟩:=xI hE C H
    refine H0 o fun V=>?_
    obtain ⟨b,rfl,B,e,z,v,d,u,hl,s,hst,g⟩:=hm.mpOf J N
    obtain ⟨r,Q,K⟩:=qF (w:=w) o rfl (ZJ.enOK (b:=b) hl s V)
    have f:=fun Y=>H3 (w:=w) o rfl Y
    rcases K with ⟨rfl,K⟩ | ⟨q,x,y,rfl,X,W,I,F⟩
    .have:=hm.mpTurn (es':=es) (en':=v) (clock':=d) e B z u hl s hst g
     refine ⟨.tuple #[],HZ w b (.map v.toArray d),M,ob,?_,?_⟩
     .simp [Ks,run_underlying D,MapKept.run_getObj_map u,f,Q,MapKept.run_setObj_map _ u,La]
     .rw [(oT K).2.2,aR e]
      exact ⟨this.2.1,this.1,this.2.2,LG⟩
    .have L:=(Ad.1 X).1
     have G:(v.toArray.eraseIdxIfInBounds q)=(v.eraseIdx q).toArray:=by
      simp
     have p:∀ {α:Type} (l:List α) (i:Nat),(l.eraseIdx q)[i]? =l[if i<q then i else i+1]?:=fun l i=>by
      rw [List.getElem?_eraseIdx]
      split<;>rfl
     have:=hm.mpTurn (es':=es.eraseIdx q) (en':=v.eraseIdx q) (clock':=d) e B z u (by
       rw [Lb L,Lb o_];omega) (fun i a c h R=>by
       rw [p] at h R
       exact s _ a c h R) (fun i a h=>by
       rw [p] at h
       exact hst _ a h) (fun i Z a T h A n=>by
       rw [p] at h A
       have:=g _ _ a T h A n
       split at this<;>split at this<;>omega)
     refine ⟨.tuple #[],HZ w b (.map (v.eraseIdx q).toArray d),M,ob,?_,?_⟩
     .simp [Ks,run_underlying D,MapKept.run_getObj_map u,f,Q,MapKept.run_setObj_map _ u,La,G]
     .rw [(vK W I F).2.2,aR e]
      exact ⟨this.2.1,this.1,this.2.2,LG⟩
   .exact trivial
  .exact trivial
 .exact trivial
end
section
variable {P:Program} {E:Env} {M:Imm} {ob:Hs} {obs:List AObj} {w:World} {base:Nat}
theorem Rep.nilif_inv {v:Value} (h:Rep M ob v .nilif):v= .nilIface:=by cases h;rfl
theorem AT {ρv:Operand->Value} {ρ:Operand->AVal} (h:∀ x,Rep M ob (ρv x) (ρ x)):∀ (l:List Operand),cA M ob (l.map ρv) (evO ρ l)
 | []=>⟨rfl,fun i v a h=>by simp at h⟩
 | x::l=>by
  obtain ⟨h1,e⟩:=AT h l
  refine ⟨by simp [AW.evO,h1],fun i v b d c=>?_⟩
  cases i with
  | zero=>simp [AW.evO] at d c;grind
  | succ i=>exact e i v b (by simpa using d) (by simpa [AW.evO] using c)
theorem JC {ρv:Operand->Value} {ρ:Operand->AVal} (h:∀ x,Rep M ob (ρv x) (ρ x)):∀ (l:List (Nat×Operand)),EH M ob (l.map fun (p:Nat×Operand)=>(p.1,ρv p.2)) (evL ρ l)
 | []=>⟨rfl,fun i p q h=>by simp at h⟩
 | (n,x)::l=>by
  obtain ⟨h1,b⟩:=JC h l
  refine ⟨by simpa [AW.evL] using h1,fun i p q hp a=>?_⟩
  cases i with
  | zero=>simp [AW.evL] at hp a;subst hp a;exact ⟨rfl,h x⟩
  | succ i=>exact b i p q (by simpa using hp) (by simpa [AW.evL] using a)
theorem cA.append {vs us:List Value} {as bs:List AVal} (h:cA M ob vs as) (k:cA M ob us bs):cA M ob (vs++us) (as++bs):=by
 refine ⟨by simp [h.1,k.1],fun i v a b c=>?_⟩
 by_cases d:i<vs.length
 .rw [Af d] at b
  rw [Af (by rw [<-h.1];exact d)] at c
  exact h.2 i v a b c
 .rw [Ak o_] at b
  rw [Ak (by rw [<-h.1];omega),<-h.1] at c
  exact k.2 _ v a b c
theorem cA.cons {v:Value} {a:AVal} {vs:List Value} {as:List AVal} (h:Rep M ob v a) (k:cA M ob vs as):cA M ob (v::vs) (a::as):=
 cA.append (vs:=[v]) (as:=[a]) ⟨rfl,fun i u b c d=>by cases i with | zero=>grind | succ i=>simp at c⟩ k
theorem rL (hE:EnvOK E) {t:Nat} {v:Value} {a:AVal} (h:Rep M ob v a):Rep M ob v (BC E t a):=by
 unfold BC
 split
 .split
  .cases h;exact .slnil _ _ rfl
  .exact h
 .exact h
theorem bX.now {ρv:Operand->Value} {op:Op} {ty:TypeId} {u:Value} {v:AVal} (hm:Mem M ob obs w) (b:∀ d pos a g,execOp ρv ⟨d,op,ty,pos,a,g⟩=Pure.pure (.value u)) (h:Rep M ob u v):VS P ρv op ty M ob obs w v obs:=
 ⟨u,w,M,ob,fun d pos a g=>.inl (by rw [b];rfl),Ext.refl _ _ _ _,hm,cH.refl _ _,h⟩
theorem aAu (a:Array TypeId) (t:TypeId) (k b:IntKind) (x y:Int):(Builtin.max_ a t #[.int k x,.int b y]).run P w= .ok (.int k (max x y)) w:=by
 rw [run_max_int2]
 grind
theorem aAt (a:Array TypeId) (t:TypeId) (k b:IntKind) (x y:Int):(Builtin.min_ a t #[.int k x,.int b y]).run P w= .ok (.int k (min x y)) w:=by
 rw [run_min_int2]
 grind
theorem IM {ρv:Operand->Value} {ρ:Operand->AVal} (h:∀ x,Rep M ob (ρv x) (ρ x)) (l:Option Operand):EI M ob (l.map ρv) (l.map ρ):=by
 cases l with
 | none=>exact .inl ⟨rfl,rfl⟩
 | some y=>exact .inr ⟨_,_,rfl,rfl,h y⟩
theorem uD.notIface {P:Program} {t:Nat} {i:Bool} {size:Nat} {k:TK} (h:uD P t i size k) (j:k≠ .iface):∃ c,P.underlying t=some c/\∀ g,c≠ .interface g:=by
 obtain ⟨a,_⟩:=h.isAgg
 obtain ⟨c,d⟩:=Da.1 a
 refine ⟨c,d,fun g e=>?_⟩
 subst e
 cases k with
 | int k=>have:=h.1;grind
 | bool=>have:=h.1;grind
 | str=>have:=h.1;grind
 | strct m=>obtain ⟨⟨fl,f,_⟩,_⟩:=h;grind
 | arr n s p=>obtain ⟨⟨fl,f,_⟩,_⟩:=h;grind
 | slc e s b=>have:=h.1.1;grind
 | ptr e=>have:=h.1;grind
 | iface=>grind
 | mp k e=>have:=h.1;grind
 | other=>obtain ⟨⟨o,f,l⟩,_⟩:=h;grind
theorem CZ {k:IntKind} {x y:Int} (a:inR k x) (b:inR k y):inR k (min x y)/\inR k (max x y):=by
 grind
theorem Q4 (hE:EnvOK E) (hm:Mem M ob obs w) (D:obs[base]? =some .dead) (F:ob[base]? =some []) {ρv:Operand->Value} {ρ:Operand->AVal} (j:∀ x,Rep M ob (ρv x) (ρ x)) (hint:Nat) (op:Op) (ty:TypeId):
  bX E.P ρv op ty M ob obs w base (lU E hint base (aE obs) ρ op ty):=by
 cases op with
 | move x=>exact bX.now hm (fun _ _ _ _=>rfl) (j x)
 | assign x=>
  have A:=rL hE (t:=ty) (j x)
  have hs:∀ d pos a g,execOp ρv ⟨d,.assign x,ty,pos,a,g⟩=((Pure.pure (ρv x):Sem Value) >>= fun v=>Pure.pure (.value v)):=fun _ _ _ _=>rfl
  simp only [lU]
  split
  .exact bX.now hm (fun _ _ _ _=>rfl) A
  .split
   .rename_i esz xs t heq
    rw [heq] at A
    split
    .split
     .obtain ⟨_,hnil⟩:=A.untok
      have hnil:ρv x= .slice none 0 0:=hnil
      split
      .refine sdc fun hg=>?_
       obtain ⟨hg1,hg2⟩:=aU hg
       have hpos:0<esz:=Ci hg2
       refine bX.pm hs (pC hm D F (v:=.slice none 0 0) (w':=w) q_ ⟨⟨[],Hg w 0 _ _,by simp,fun q c hq=>by simp [aK] at hq⟩,hpos,by simp,fun b hb=>by simp [Gf] at hb,fun _ _=>rfl,rfl,rfl,rfl,Ba _,CF w⟩)
      .exact trivial
     .exact trivial
    .exact bX.now hm (fun _ _ _ _=>rfl) A
   .exact bX.now hm (fun _ _ _ _=>rfl) A
 | pick c x y=>
  have W:=j c
  simp only [lU]
  split
  .rename_i l
   rw [l] at W
   exact bX.now hm (fun _ _ _ _=>by simp [execOp,W.bool_inv,asBool]) (j x)
  .rename_i l
   rw [l] at W
   exact bX.now hm (fun _ _ _ _=>by simp [execOp,W.bool_inv,asBool]) (j y)
  .exact trivial
 | alloc t=>
  simp only [lU]
  split
  .rename_i V C
   refine sdc fun h1=>?_
   obtain ⟨i,z,hi,hs,hz,hzs,N,_,_⟩:=(hE.tab t V C).info
   have hzv:(zeroValue t).run E.P w= .ok z w:=by simp [zeroValue,typeInfo,hi,hz]
   obtain ⟨u,w',M',ob',J,hrest⟩:=MR (P:=E.P) (t:=t) hm D F (jO N) h1
   have hal:(Mu t true (.tuple #[])).run E.P w= .ok u w':=by
    unfold Mu
    rw [Bf,hzv]
    exact J
   exact bX.pm (r:=.born _ _) (s:=Mu t true (.tuple #[])) (fun _ _ _ _=>rfl) ⟨u,w',M',ob',hal,hrest⟩
  .exact trivial
 | box t x=>
  simp only [lU]
  refine sdc fun h1=>?_
  exact bX.pm (r:=.born _ _) (s:=Instr.box t (ρv x)) (fun _ _ _ _=>rfl) (MR (P:=E.P) (t:=t) hm D F (j x) h1)
 | build t ps=>
  exact bX.pv (s:=Instr.build t (ps.map fun (p:Nat×Operand)=>(p.1,ρv p.2))) hm (fun _ _ _ _=>rfl) (aDb hE (by simpa using JC j ps.toList))
 | buildSlice t n ps=>
  exact bX.pm (s:=Jy t n (ps.map fun (p:Nat×Operand)=>(p.1,ρv p.2))) (fun _ _ _ _=>rfl) (EW hE hm D F (by simpa using JC j ps.toList))
 | load t x=>exact bX.pv (s:=Lr t (ρv x)) hm (fun _ _ _ _=>rfl) ((aGq hE hm (j x)).bind fun v u h=>rL hE h)
 | store t x y=>
  refine Sd.mono (fun v o ⟨h1,w',M',ob',Y,h3,h4,h5⟩=>?_) (fun _ _ h=>h.elim) (fun _ h=>h.elim) (aCR (t:=t) hE hm (j x) (rL hE (t:=t) (j y)))
  refine ⟨undef,w',M',ob',fun d pos a g=>.inr ⟨?_,rfl⟩,h3,h4,h5,by rw [h1];exact .undef _⟩
  have:execOp ρv ⟨d,.store t x y,ty,pos,a,g⟩=(Kc t (ρv x) (ρv y) >>= fun _=>Pure.pure .skip):=rfl
  simp_all
 | nilCheck x=>
  have A:=j x
  simp only [lU]
  split<;>first | exact trivial | skip
  all_goals
   rename_i l
   rw [l] at A
   refine bX.now hm (u:=ρv x) (fun d pos a g=>?_) A
   generalize hu:ρv x=u at A
   simp only [execOp,hu]
   cases A<;>rfl
 | binOp bop t x y yt=>exact bX.pv (s:=JR bop t x y (ρv x) (ρv y)) hm (fun _ _ _ _=>rfl) (aJT (og:=aE obs) hE (j x) (j y))
 | unOp uop t x=>
  have A:=j x
  simp only [lU]
  refine bX.pv (s:=Op.unary uop (ρv x)) hm (fun _ _ _ _=>rfl) ?_
  split
  .rename_i b l
   rw [l] at A
   rw [A.bool_inv]
   exact aS (u:=.bool (!b)) rfl (.bool _)
  .rename_i k n l
   rw [l] at A
   rw [A.int_inv.1]
   have e:(Op.unary .neg (.int k n)).run E.P w= .ok (.int k (k.wrap (0-n))) w:=rfl
   exact ⟨fun hp=>⟨rfl,_,by rw [e,jP hp],.int _ _ hp⟩,rfl,_,e,.int _ _ (lP _ _)⟩
  .rename_i k n l
   rw [l] at A
   rw [A.int_inv.1]
   exact aS (u:=.int k (eX .xor k (if k.signed then -1 else k.max) n)) rfl (.int _ _ (by unfold eX;exact lP _ _))
  .exact trivial
 | convert s t x=>exact bX.pm (s:=convert s t (ρv x)) (fun _ _ _ _=>rfl) (aGt hE hm (j x))
 | makeInterface t x=>
  simp only [lU]
  refine bX.pv (s:=Instr.makeInterface t (ρv x)) hm (fun _ _ _ _=>rfl) ?_
  split
  .rename_i V C
   have hk:=(hE.tab t V C).kind
   split
   .exact trivial
   .rename_i S
    obtain ⟨dd,O,T⟩:=hk.notIface S
    refine aS (run_makeInterface w t _ ?_) (.iface _ _ _ (j x))
    unfold Program.concrete
    simp_all
  .exact trivial
 | makeFunc fn fs cs=>
  obtain ⟨p1,p2⟩:=AT j fs.toList
  obtain ⟨q1,q2⟩:=AT j cs.toList
  refine bX.now hm (u:=.func fn (fs.toList.map ρv).toArray (cs.toList.map ρv).toArray) (fun d pos a g=>?_) (.func fn _ _ _ _ p1 q1 p2 q2)
  have X:(fs.toList.map ρv).toArray=fs.map ρv:=by apply Dv;simp
  have e2:(cs.toList.map ρv).toArray=cs.map ρv:=by apply Dv;simp
  rw [X,e2]
  rfl
 | makeMap t x=>
  cases x with
  | some x=>exact trivial
  | none=>
   simp only [lU]
   split
   .split
    .rename_i tk _
     obtain ⟨m1,m2,m3,m4⟩:=hm.bornMap D F tk.agg
     refine bX.pm (r:=.born _ _) (s:=Instr.makeMap t none) (fun _ _ _ _=>rfl) ⟨_,_,M,ob.set base [.map (some w.heap.size)],run_makeMap t w,?_⟩
     rw [aR D]
     grind
    .exact trivial
   .exact trivial
 | makeSlice t x y=>exact bX.pm (s:=Instr.makeSlice t (ρv x) (ρv y)) (fun _ _ _ _=>rfl) (aGp (hint:=hint) hE hm D F (j x) (j y))
 | slice t x lo hi mx=>exact bX.pv (s:=Gu t (ρv x) (lo.map ρv) (hi.map ρv) (mx.map ρv)) hm (fun _ _ _ _=>rfl) (aCS hE hm (j x) (IM j lo) (IM j hi) (IM j mx))
 | fieldAddr t x f=>exact bX.pv (s:=Lj t (ρv x) f) hm (fun _ _ _ _=>rfl) (JJ hE (j x))
 | field t x f=>exact bX.pv (s:=Mj t (ρv x) f) hm (fun _ _ _ _=>rfl) ((aC6 hE (j x)).bind fun v u h=>rL hE h)
 | indexAddr t x i=>exact bX.pv (s:=Hv t (ρv x) (ρv i)) hm (fun _ _ _ _=>rfl) (JI hE hm (j x) (j i))
 | index t x i=>exact bX.pv (s:=Lg t (ρv x) (ρv i)) hm (fun _ _ _ _=>rfl) (aC5 hE (j x) (j i))
 | typeAssert x xt t ok=>
  have A:=j x
  simp only [lU]
  refine bX.pv (s:=Ka (ρv x) xt t ok) hm (fun _ _ _ _=>rfl) ?_
  split
  .rename_i V u v C l
   rw [l] at A
   obtain ⟨i,z,hi,hs,hz,hzs,N,_,_⟩:=(hE.tab t V C).info
   split
   .exact trivial
   .rename_i S
    obtain ⟨dd,O,T⟩:=(hE.tab t V C).kind.notIface S
    obtain ⟨I,L,hv⟩:=A.iface_inv
    rw [L]
    cases hq:Ar u t with
    | true=>
     have:=aC hq
     subst this
     refine aS (u:=if ok then .tuple #[I,.bool true] else I) ?_ ?_
     .unfold Ka
      simp only [Bf,run_underlying O,Ao]
      rfl
     .cases ok with
      | true=>exact hv.pairB true
      | false=>exact hv
    | false=>
     have hne2:¬ u=t:=fun e=>by subst e;simp at hq
     simp only [cond_false]
     refine sdc fun hok=>?_
     subst hok
     refine aS (u:=.tuple #[z,.bool false]) ?_ ((jO N).pairB false)
     unfold Ka
     simp only [Bf,run_underlying O,Ao]
     cases dd<;>first | exact absurd rfl (T _) | (simp [hne2,zeroValue,typeInfo,hi,hz])
  .rename_i V C l
   rw [l] at A
   obtain ⟨i,z,hi,hs,hz,hzs,N,_,_⟩:=(hE.tab t V C).info
   split
   .exact trivial
   .rename_i S
    obtain ⟨dd,O,T⟩:=(hE.tab t V C).kind.notIface S
    refine sdc fun hok=>?_
    subst hok
    rw [A.nilif_inv]
    refine aS (u:=.tuple #[z,.bool false]) ?_ ((jO N).pairB false)
    unfold Ka
    simp only [Bf,run_underlying O,Ao]
    cases dd<;>first | exact absurd rfl (T _) | (simp [zeroValue,typeInfo,hi,hz])
  .exact trivial
 | extract x i=>
  have A:=j x
  simp only [lU]
  refine bX.pv (s:=Instr.extract (ρv x) i) hm (fun _ _ _ _=>rfl) ?_
  split
  .rename_i vs l
   rw [l] at A
   split
   .rename_i v hn
    have hnv:=lK hn
    obtain ⟨us,L,hl,J⟩:=A.tup_inv
    have hlt:i<us.length:=by grind
    rw [L]
    refine aS (u:=us[i]) ?_ (J i _ v (Ab hlt) hnv)
    simp [Instr.extract,hlt]
   .exact trivial
  .exact trivial
 | panic x=>
  have A:=j x
  simp only [lU]
  split
  .rename_i t v l
   rw [l] at A
   obtain ⟨u,L,hu⟩:=A.iface_inv
   have:∀ I,I=pureV (aE obs) 3 v->bX E.P ρv (.panic x) ty M ob obs w base ((fun v=>bif CK v then OR.pan (.iface t v) else .no) I):=fun I e=>by
    subst e
    refine sdc fun _=>⟨.iface t u,fun d pos a g=>?_,.iface _ _ _ (hm.pureV 3 _ _ hu)⟩
    simp [execOp,Instr.panic,L]
   grind
  .exact trivial
 | lookup t m k ok=>exact bX.pv (s:=Lt t (ρv m) (ρv k) ok) hm (fun _ _ _ _=>rfl) (YU hE hm (j m) (j k) ok)
 | mapUpdate t m k v0=>
  refine Sd.mono (fun v o ⟨h1,w',M',ob',Y,h3,h4,h5⟩=>?_) (fun _ _ h=>h.elim) (fun _ h=>h.elim) (aC3 (t:=t) hE hm (j m) (j k) (j v0))
  refine ⟨undef,w',M',ob',fun d pos a g=>.inr ⟨?_,rfl⟩,h3,h4,h5,by rw [h1];exact .undef _⟩
  have:execOp ρv ⟨d,.mapUpdate t m k v0,ty,pos,a,g⟩=(Kr t (ρv m) (ρv k) (ρv v0) >>= fun _=>Pure.pure .skip):=rfl
  simp_all
 | call c=>
  obtain ⟨callee,args,argTypes⟩:=c
  have H:=AT j args.toList
  simp only [lU]
  cases callee with
  | value f=>
   have B:=j f
   dsimp only
   split
   .rename_i gid fs cs l
    rw [l] at B
    cases G:ρv f with
    | func fn first caps=>
     rw [G] at B
     cases B with
     | func _ vfs vcs _ _ hl1 hl2 hr1 hr2=>
      rw [JY,JY]
      refine ⟨_,cA.append (cA.append ⟨hl1,hr1⟩ H) ⟨hl2,hr2⟩,fun d pos a g=>?_⟩
      have X:(args.map ρv)=(args.toList.map ρv).toArray:=by apply Dv;simp
      simp [execOp,resolve,G,Deferred.ofValue,invoke,X,D7]
    | _=>rw [G] at B;cases B
   .rename_i lid fs cs l
    rw [l] at B
    cases G:ρv f with
    | func fn first caps=>
     rw [G] at B
     cases B with
     | func _ vfs vcs _ _ hl1 hl2 hr1 hr2=>
      rw [JY]
      refine ⟨_,cA.append ⟨hl1,hr1⟩ H,fun d pos a g=>?_⟩
      have X:(args.map ρv)=(args.toList.map ρv).toArray:=by apply Dv;simp
      simp [execOp,resolve,G,Deferred.ofValue,invoke,X,D7]
    | _=>rw [G] at B;cases B
   .exact trivial
  | invoke rc name=>
   have Q:=j rc
   dsimp only
   split
   .rename_i t v l
    rw [l] at Q
    split
    .rename_i gid hmg
     cases hre:ρv rc with
     | iface t' I=>
      rw [hre] at Q
      cases Q with
      | iface _ _ _ hv=>
       have hmm:=hE.mth t name gid hmg I w
       refine ⟨_,cA.cons hv H,fun d pos a g=>?_⟩
       have hva: #[I]++args.map ρv=(I::args.toList.map ρv).toArray:=by simp
       rw [<-hva]
       have hex:(#[Mk t I]++args.map ρv).extract 1 (#[Mk t I]++args.map ρv).size=args.map ρv:=by
        apply Dv
        simp [Array.toList_extract]
        exact Cb s_
       simp only [execOp,resolve,Bf,Ca,Ao,invoke,hre]
       simp only [Gz (show 0<(#[Mk t I]).size by simp)]
       simp only [show (#[Mk t I]:Array Value)[0]? =some (.iface t I) from rfl,hex,callMethod,Bf,run_program,Ao,hmm,D7]
     | _=>rw [hre] at Q;cases Q
    .exact trivial
   .exact trivial
  | builtin b=>
   dsimp only
   have R:∀ {s:Sem Value} {r:OR},(∀ {u:Value} {w':World},s.run E.P w= .ok u w'->∀ d pos a g,(execOp ρv ⟨d,.call ⟨.builtin b,args,argTypes⟩,ty,pos,a,g⟩).run E.P w= .ok (.value u) w')->PM E.P M ob w s obs base r->bX E.P ρv (.call ⟨.builtin b,args,argTypes⟩) ty M ob obs w base r:=fun {s r} A h=>
    Sd.mono (fun v o ⟨u,w',M',ob',Y,h3,h4,h5,h6⟩=>⟨u,w',M',ob',fun d pos a g=>.inl (A Y d pos a g),h3,h4,h5,h6⟩) (fun _ _ h=>h.elim) (fun _ h=>h.elim) h
   split
   .rename_i x t h1 Y
    have K:args= #[x]:=by apply Dv;omega
    have U:argTypes= #[t]:=by apply Dv;omega
    subst K U
    exact R (s:=Fl #[t] ty #[ρv x]) (fun J d pos a g=>by simp [execOp,resolve,invoke,builtin,J]) (PM.of hm (aJO hE hm (j x)))
   .rename_i x y h1
    have K:args= #[x,y]:=by apply Dv;omega
    subst K
    split
    .rename_i k p k' q X e2
     have A:=j x
     have hy:=j y
     rw [X] at A
     rw [e2] at hy
     refine sdc fun hk=>?_
     have:=vP hk
     subst this
     obtain ⟨hx1,hx2⟩:=A.int_inv
     obtain ⟨hy1,hy2⟩:=hy.int_inv
     refine ⟨_,w,M,ob,fun d pos a g=>.inl ?_,Ext.refl _ _ _ _,hm,cH.refl _ _,.int _ _ (CZ hx2 hy2).1⟩
     simp [execOp,resolve,invoke,builtin,hx1,hy1,aAt]
    .exact trivial
   .rename_i x y h1
    have K:args= #[x,y]:=by apply Dv;omega
    subst K
    split
    .rename_i k p k' q X e2
     have A:=j x
     have hy:=j y
     rw [X] at A
     rw [e2] at hy
     refine sdc fun hk=>?_
     have:=vP hk
     subst this
     obtain ⟨hx1,hx2⟩:=A.int_inv
     obtain ⟨hy1,hy2⟩:=hy.int_inv
     refine ⟨_,w,M,ob,fun d pos a g=>.inl ?_,Ext.refl _ _ _ _,hm,cH.refl _ _,.int _ _ (CZ hx2 hy2).2⟩
     simp [execOp,resolve,invoke,builtin,hx1,hy1,aAu]
    .exact trivial
   .rename_i x y t Z h1 Y
    have K:args= #[x,y]:=by apply Dv;omega
    have U:argTypes= #[t,Z]:=by apply Dv;omega
    subst K U
    exact R (s:=Cq #[t,Z] ty #[ρv x,ρv y]) (fun J d pos a g=>by simp [execOp,resolve,invoke,builtin,J]) (YV hE hm D F (j x) (j y))
   .rename_i x y t Z h1 Y
    have K:args= #[x,y]:=by apply Dv;omega
    have U:argTypes= #[t,Z]:=by apply Dv;omega
    subst K U
    exact R (s:=Kd #[t,Z] ty #[ρv x,ρv y]) (fun J d pos a g=>by simp [execOp,resolve,invoke,builtin,J]) (aGs hE hm (j x) (j y))
   .rename_i x t h1 Y
    have K:args= #[x]:=by apply Dv;omega
    have U:argTypes= #[t]:=by apply Dv;omega
    subst K U
    exact R (s:=Jn #[t] ty #[ρv x]) (fun J d pos a g=>by simp [execOp,resolve,invoke,builtin,J]) (aDa hE hm (j x))
   .rename_i m k t Z h1 Y
    have K:args= #[m,k]:=by apply Dv;omega
    have U:argTypes= #[t,Z]:=by apply Dv;omega
    subst K U
    exact R (s:=Ks #[t,Z] ty #[ρv m,ρv k]) (fun J d pos a g=>by simp [execOp,resolve,invoke,builtin,J]) (YT hE hm (j m) (j k))
   .exact trivial
 | _=>exact trivial
theorem aFg {v:Value} {a:AVal} (h:Rep M ob v a):Rep M ob v (nrm a):=by
 cases h with
 | rowc k g c a n h hm=>exact .row k g a n c h
 | pre k g n c d b len h e j hl hm=>
  have:=Rep.sub (M:=M) k g 0 n d b len c h e o_ hl o_
  rw [Kv,Jl] at this
  exact this
 | undef v=>exact .undef v
 | bool b=>exact .bool b
 | int k n s=>exact .int k n s
 | str l hl=>exact .str l hl
 | agg vs as hl h=>exact .agg vs as hl h
 | tup vs as hl h=>exact .tup vs as hl h
 | ptr b o cs h=>exact .ptr b o cs h
 | ref k off b h=>exact .ref k off b h
 | eref k g i d off b n c h=>exact .eref k g i d off b n c h
 | csl k off len d b h hm=>exact .csl k off len d b h hm
 | row k g a n c h=>exact .row k g a n c h
 | sub k g lo len d b n c h hl j e hm=>exact .sub k g lo len d b n c h hl j e hm
 | sub0 k g lo d a u n c h hl e=>exact .sub0 k g lo d a u n c h hl e
 | mref k b h=>exact .mref k b h
 | nilptr=>exact .nilptr
 | nilslice=>exact .nilslice
 | nilmap=>exact .nilmap
 | nilfunc=>exact .nilfunc
 | nilif=>exact .nilif
 | hsl a n c=>exact .hsl a n c
 | slnil d t f=>exact .slnil d t f
 | slemp d t a cap f=>exact .slemp d t a cap f
 | sl d b o n cap xs t j e hm hz h f=>exact .sl d b o n cap xs t j e hm hz h f
 | func fn p cs m r w e h1 q=>exact .func fn p cs m r w e h1 q
 | iface t v a h=>exact .iface t v a h
theorem Rep.rowc_inv {v:Value} {k g c:Nat} (h:Rep M ob v (.rowc k g c)):∃ a n,v= .slice a n c/\at' ob k g=some (.slice a n c)/\(c:Int)<=9223372036854775807:=by
 cases h with | rowc _ _ _ a n h hm=>grind
theorem Rep.pre_inv {v:Value} {k g n c a:Nat} (h:Rep M ob v (.pre k g n c a)):∃ b len,v= .slice (some ⟨b,0,none⟩) n c/\at' ob k g=some (.slice (some ⟨b,0,none⟩) len c)/\0<c/\n<=len/\len<=c/\(c:Int)<=9223372036854775807:=by
 cases h with | pre _ _ _ _ _ b len h hc hn hl hm=>exact ⟨b,len,rfl,h,hc,hn,hl,hm⟩
theorem Mem.rowIs (hm:Mem M ob obs w) {k g m:Nat} {e:TypeId} {xs:List AVal} (l:obs[k]? =some (.row g m e xs)) {a:Option Addr} {n c:Nat} (d:at' ob k g=some (.slice a n c)):
  n=xs.length/\n<=c/\(n:Int)<=9223372036854775807/\(a=none/\n=0/\c=0\/∃ b,a=some ⟨b,0,none⟩):=by
 obtain ⟨hs',v,h1,o,h3,f,i,_⟩:=hm.rowOf l
 rw [d] at f
 cases f
 rcases i.len with ⟨h,rfl⟩ | ⟨b,p,h,q,j,r⟩
 .simp_all
 .cases h;exact ⟨rfl,j,by have:=fZ;omega,.inr ⟨b,rfl⟩⟩
theorem dD.on {v:Value} {i:Nat} {e:TypeId} {xs:List AVal} (h:dD M w v i e xs) (f:0<i) {b n c y:Nat} (I:v= .slice (some ⟨b,0,none⟩) n c) (h1:xs.length<=y) (D:y<=c):
  dD M w (.slice (some ⟨b,0,none⟩) y c) i e (xs++Ai (y-xs.length) (.agg (Ai i .undef))):=by
 subst I
 obtain ⟨cv,⟨P,F⟩,h3,A,B,J,t⟩:=h
 rcases F with ⟨q,_⟩ | ⟨g,cap,j,C,_,s,O,H,z,K⟩
 .cases q
 cases C
 have N:y*i<=j.size:=by rw [z];exact Cd _ D
 have a:(xs++Ai (y-xs.length) (AVal.agg (Ai i .undef))).length=y:=by simp;omega
 refine ⟨j.toList.take (y*i),⟨by rw [a];simp;omega,.inr ⟨b,c,j,by rw [a],Cn _,s,by omega,H,z,by rw [a]⟩⟩,fun u r=>t b rfl _ _ _ s u (Cy r),fun x k=>?_,fun q d m=>?_,J,t⟩
 .rcases Az.1 k with k | k
  .exact A x k
  .rw [(Ga.1 k).2];simp [AVal.cells]
 .have o:=fH f m
  rw [a] at o
  rw [Bg o]
  by_cases p:q<xs.length*i
  .rw [cG f p] at m
   obtain ⟨u,r,G⟩:=B q d m
   refine ⟨u,?_,G⟩
   rw [<-K,Bg p] at r
   exact r
  .rw [cB f o_] at m
   obtain ⟨x,k,L⟩:=fS m
   have:=(Ga.1 (Aq k)).2
   subst this
   have:d= .undef:=(Ga.1 (Aq (show (Ai i AVal.undef)[_]? =some d from L))).2
   subst this
   have l:q<j.toList.length:=by simp;omega
   exact ⟨_,Ab l,.undef _⟩
theorem aJR (hE:EnvOK E) (hm:Mem M ob obs w) {t k g c hint:Nat} {v u:Value} {h:AVal} (hv:Rep M ob v (.rowc k g c)) (hu:Rep M ob u h):
  PM E.P M ob w (Gu t v none (some u) none) obs base (aJS E hint (aE obs) t k g c h):=by
 unfold aJS
 split
 .rename_i e0 esz eb _ _ _ g' j e xs Y n hT O
  have r:=bW O s_
  obtain ⟨⟨N,ie,z,hi',hs,_,_,_,_⟩,_⟩:=(hE.tab t _ hT).kind
  refine sdc fun hg=>?_
  obtain ⟨A,W⟩:=aU hg
  obtain ⟨J,G⟩:=aU A
  obtain rfl:=aC J
  obtain rfl:=aC G
  have x:0<j:=Ci W
  obtain ⟨B,hel⟩:=DN N
  have R:(E.P.info? (E.P.elem t)).map (·.size)=some j:=by simp_all
  have V:=fun u:World=>run_sizeOf (P:=E.P) R u
  obtain ⟨K,len,rfl,p,U⟩:=hv.rowc_inv
  obtain ⟨rfl,I,hnm,C⟩:=hm.rowIs r p
  obtain ⟨rfl,_⟩:=hu.int_inv
  rintro y rfl
  have run:y<=c->(Gu t (.slice K xs.length c) none (some (.int Y (y:Int))) none).run E.P w= .ok (sliced K 0 y c j) w:=fun hy=>by
   rw [run_sliceAt_slice w t _ _ _ _ B,run_slice_h w t K _ c B Y y o_ o_,V];rfl
  cases hint with
  | zero=>
   rintro ⟨L,F⟩
   refine ⟨_,w,M,ob,run o_,Ext.refl _ _ _ _,hm,cH.refl _ _,?_⟩
   rcases C with ⟨rfl,_,q⟩ | ⟨b,rfl⟩
   .omega
   .have s:sliced (some ⟨b,0,none⟩) 0 y c j= .slice (some ⟨b,0,none⟩) y c:=by
     simp [sliced,bH]
    rw [s]
    exact .pre k g y c j b _ p F L I U
  | succ m=>
   rintro ⟨L,F⟩
   obtain ⟨a,v0,s,D,Z,e4,i,X⟩:=hm.rowOf r
   rw [p] at e4
   cases e4
   rcases C with ⟨rfl,q1,q2⟩ | ⟨b,rfl⟩
   .
    subst q2
    obtain rfl:y=0:=o_
    have S:xs=[]:=Av q1
    subst S
    have l:(a++[Gt none 0 0]).length=g+1+1:=by simp [D]
    have d:(a++[Gt none 0 0])[g+1]? =some (.slice none 0 0):=by rw [<-D];simp
    have:=hm.rowTurn (hs':=a++[Gt none 0 0]) r s Z ⟨_,rfl⟩ l d i (fun b _ _=>rfl) rfl rfl rfl (Ba _) (fun b H=>by cases H)
    refine ⟨_,w,M,ob.set k (a++[Gt none 0 0]),run (Ba _),?_⟩
    rw [aR r]
    have Q:([]:List AVal)++Ai (0-([]:List AVal).length) (AVal.agg (Ai j .undef))=[]:=rfl
    rw [Q]
    refine ⟨this.2.1,this.1,this.2.2,?_⟩
    have f:at' (ob.set k (a++[Gt none 0 0])) k (g+1)=some (.slice none 0 0):=by rw [bZ (Ap (Ad.1 s).1)];exact d
    have T:sliced none 0 0 0 j= .slice none 0 0:=by rfl
    rw [T]
    exact .row _ _ _ _ _ f
   .have T:sliced (some ⟨b,0,none⟩) 0 y c j= .slice (some ⟨b,0,none⟩) y c:=by simp [sliced,bH]
    have o:=i.on x rfl L F
    have l:(a++[Gt (some ⟨b,0,none⟩) y c]).length=g+1+1:=by simp [D]
    have d:(a++[Gt (some ⟨b,0,none⟩) y c])[g+1]? =some (.slice (some ⟨b,0,none⟩) y c):=by rw [<-D];simp
    have:=hm.rowTurn (hs':=a++[Gt (some ⟨b,0,none⟩) y c]) r s Z ⟨_,rfl⟩ l d o (fun b _ _=>rfl) rfl rfl rfl (Ba _) (fun b' H=>.inl H)
    refine ⟨_,w,M,ob.set k (a++[Gt (some ⟨b,0,none⟩) y c]),run F,?_⟩
    rw [aR r]
    refine ⟨this.2.1,this.1,this.2.2,?_⟩
    have f:at' (ob.set k (a++[Gt (some ⟨b,0,none⟩) y c])) k (g+1)=some (.slice (some ⟨b,0,none⟩) y c):=by rw [bZ (Ap (Ad.1 s).1)];exact d
    rw [T]
    exact .row _ _ _ _ _ f
 .exact trivial
theorem aGr (hE:EnvOK E) (hm:Mem M ob obs w) {t k g:Nat} {v A B C:Value} {l h m:AVal} (O:Rep M ob v (.row k g)) (hl:Rep M ob A l) (S:Rep M ob B h) (i:Rep M ob C m):
  PM E.P M ob w (Gu t v (some A) (some B) (some C)) obs base (aC7 E (aE obs) t k g l h m):=by
 unfold aC7
 split
 .rename_i U J eb _ _ _ Z D e xs ka a V b kc c N o
  have H:=bW o s_
  obtain ⟨⟨n,T,z,L,hs,_,_,_,_⟩,_⟩:=(hE.tab t _ N).kind
  refine sdc fun R=>?_
  obtain ⟨j,s⟩:=aU R
  obtain rfl:=aC j
  obtain rfl:=aC s
  obtain ⟨d,I⟩:=DN n
  have f:(E.P.info? (E.P.elem t)).map (·.size)=some D:=by simp_all
  have r:=fun u:World=>run_sizeOf (P:=E.P) f u
  obtain ⟨G,len,cap,rfl,p⟩:=O.row_inv
  obtain ⟨rfl,F,K,Q⟩:=hm.rowIs H p
  obtain ⟨rfl,_⟩:=hl.int_inv
  obtain ⟨rfl,_⟩:=S.int_inv
  obtain ⟨rfl,_⟩:=i.int_inv
  rintro x rfl y rfl q rfl ⟨⟨W,X⟩,Y⟩
  refine ⟨sliced G x y q D,w,M,ob,?_,Ext.refl _ _ _ _,hm,cH.refl _ _,.undef _⟩
  rw [run_sliceAt_slice w t _ _ _ _ d]
  unfold Lh Gk Jx
  simp only [Bf,run_underlying d,Ao,Option.isSome_some,if_true,Ca,asIntOf]
  rw [if_pos ⟨by omega,by omega⟩]
  simp only [Ca,Ao]
  rw [if_pos ⟨by omega,by omega⟩]
  simp only [Ca,Ao]
  rw [if_pos ⟨by omega,by omega⟩]
  simp only [Ca,Ao,r,Cz]
  rfl
 .exact trivial
theorem zO {P:Program} (w:World) (t p ty e:TypeId) (x:IntKind) (i:TypeInfo) (z:Value) (u:P.underlying t=some (.slice e)) (C:P.underlying p=some (.int x)) (y:P.info? e=some i) (hz:i.zero=some z)
  (b n c m:Nat) (o:0<m) (j:0<i.size) (d:List Value) (h:(Ch i.size n (.slice (some ⟨b,0,none⟩) n c)).run P w.drew= .ok d.toArray w.drew) (B:c<n+m) (r:((n+m:Nat):Int)<=9223372036854775807)
  (a:(n+m)*i.bytes<=140737488355328):
  (Cq #[t,p] ty #[.slice (some ⟨b,0,none⟩) n c,.int .i64 (m:Int)]).run P w=
   .ok (.slice (some ⟨w.heap.size,0,none⟩) (n+m) (grownCap w (n+m) c e))
    (w.drew.alloc (.cells (d++(Cf z.cells m).toList++(Cf z.cells (grownCap w (n+m) c e-(n+m))).toList).toArray e)):=by
 have A:¬ (n+m<=c):=o_
 have g:¬ (9223372036854775807<((n:Int)+(m:Int))):=o_
 have q:=growslice_fits (bytes:=i.bytes) B a
 have f:¬ (281474976710656<Builtin.nextslicecap (n+m) c*i.bytes):=o_
 have v:IntKind.i64.wrap (m:Int)=(m:Int):=jP ⟨by simp only [bO];omega,by simp only [bA];omega⟩
 have l:¬ (281474976710656<(m:Int)*(i.bytes:Int)):=by
  grind
 have s:¬ ((m:Int)<0):=o_
 have k:¬ (m*i.size=0):=by
  have:=Nat.mul_pos o j
  omega
 simp [Cq,run_underlying u,run_underlying C,sizeOf,typeInfo,zeroValue,y,hz,asInt,asIntOf,v,s,l,A,g,f,k,Question.forced,h,newRow,grownCap]
 congr 2
 simp
theorem aGo (hE:EnvOK E) (hm:Mem M ob obs w) (hb1:obs[base]? =some .dead) (S:ob[base]? =some []) {t V ty k g n c sz:Nat} {kt:IntKind} (hx2:E.P.underlying V=some (.int kt)) {v u:Value} {m:AVal}
  (hv:Rep M ob v (.pre k g n c sz)) (l:Rep M ob u m):PM E.P M ob w (Cq #[t,V] ty #[v,u]) obs base (VF E base (aE obs) t k g n c sz m):=by
 unfold VF
 split
 .rename_i e esz eb _ _ _ g' sz' e' xs a hT Y
  split
  .rename_i R W
   obtain ⟨⟨X,i,z,hi,hsz,U,hz,B,hz1⟩,_⟩:=(hE.tab t _ hT).kind
   subst hsz U
   refine sdc fun hg=>?_
   simp only [Ag] at hg
   obtain ⟨⟨⟨g1,g2⟩,g3,g4⟩,g5,g6⟩:=hg
   obtain rfl:=aC g1
   have q2:=aC g2
   subst q2
   have q3:=aC g3
   subst q3
   have q4:=aC g4
   subst q4
   have f:0<i.size:=Ci g5
   obtain ⟨i',z',F,hsz',H,hzs',T,hone,hne⟩:=(hE.tab e R W).info
   rw [hi] at F
   cases F
   rw [hz] at H
   cases H
   have hk:=bW Y s_
   obtain ⟨b,len,rfl,K,hc0,hnl,hlc,hcm⟩:=hv.pre_inv
   obtain ⟨rfl,_,hnm,_⟩:=hm.rowIs hk K
   obtain ⟨rfl,_⟩:=l.int_inv
   rintro y rfl ⟨c1,f1,f2⟩
   obtain ⟨hs0,v0,e1,e2,e3,e4,G,hblk⟩:=hm.rowOf hk
   rw [K] at e4
   cases e4
   obtain ⟨cv,o1,o2,o3,o4,o5,o6⟩:=G
   have hml:=fZ
   have hle:n*i.size<=xs.length*i.size:=Cd _ hnl
   have h:(cv.take (n*i.size)).length=n*i.size:=by rw [Fz,o1.1];omega
   have Z:(Ch i.size n (.slice (some ⟨b,0,none⟩) n c)).run E.P w.drew= .ok (cv.take (n*i.size)).toArray w.drew:=by
    refine run_firstCells_some w.drew i.size n ⟨b,0,none⟩ n c _ h fun j u N=>?_
    rw [Gb] at N
    split at N
    .rw [bH,Bw]
     exact fC o1 (b:=b) rfl N
    .cases N
   have D:=zO (P:=E.P) w t V ty e kt i z X hx2 hi hz b n c y o_ f _ Z c1 o_ f2
   have O:=hm.pure0 T
   obtain ⟨Q,d2⟩:=sP (z:=z.cells) (n:=y)
   rw [B] at Q d2
   obtain ⟨r1,r2⟩:=wV (M:=M) O (AK g6) B f Q d2
   have hge:=grownCap_ge w (n+y) c e
   have J:grownCap w (n+y) c e<=maxLen:=grownCap_le_maxLen w (n+y) c e f1
   have p:(xs.take n).length=n:=by simp;omega
   have r:(xs.take n++Ai y (pureV (fun _=>.dead) 4 R.zero)).length=n+y:=by simp;omega
   have o:∀ u∈cv.take (n*i.size)++(Cf z.cells y).toList,u.oneCell'=true:=fun u l=>by
    rcases Az.1 l with l | l
    .exact o2 u (Cy l)
    .exact jF hz1 u l
   have A:(cv.take (n*i.size)++(Cf z.cells y).toList).length=(n+y)*i.size:=by rw [Ay,h,Q,Bx]
   have gr:Grown M w (w.drew.alloc (.cells (cv.take (n*i.size)++(Cf z.cells y).toList++(Cf z.cells (grownCap w (n+y) c e-(n+y))).toList).toArray e)) i.size e
     (.slice (some ⟨w.heap.size,0,none⟩) (n+y) (grownCap w (n+y) c e)) (xs.take n++Ai y (pureV (fun _=>.dead) 4 R.zero)):=by
    refine ⟨⟨cv.take (n*i.size)++(Cf z.cells y).toList,⟨by rw [A,r],.inr ⟨w.heap.size,_,_,by rw [r],Cn _,heap_alloc_new w.drew _,by omega,J,?_,?_⟩⟩,o,fun q d L=>?_⟩,f,fun x I=>?_,fun b' C=>?_,fun b' C=>heap_alloc_old w.drew _ C,rfl,rfl,rfl,by simp,?_⟩
    .rw [Gj,Ay,A,Iu,size_zeroCells,B,<-Bx]
     congr 1
     omega
    .rw [r,<-A]
     exact Kz
    .by_cases s:q<n*i.size
     .rw [cG f (by rw [p];exact s),mS f s] at L
      obtain ⟨u,l,hr⟩:=o4 q d L
      exact ⟨u,by rw [Af o_,Bg s];exact l,hr⟩
     .rw [cB f (by rw [p];omega),p] at L
      rw [Ak o_,h]
      exact r2 _ d L
    .rcases Az.1 I with I | I
     .exact o3 x (Cy I)
     .exact r1 x I
    .simp only [Gf,Fj] at C
     omega
    .refine oP (w:=w.drew) fun u l=>?_
     rcases Az.1 l with l | l
     .exact o u l
     .exact jF hz1 u l
   exact pC (hint:=2) hm hb1 S D gr
  .exact trivial
 .exact trivial
theorem Q3 (hE:EnvOK E) (hm:Mem M ob obs w) (C:obs[base]? =some .dead) (j:ob[base]? =some []) {ρv:Operand->Value} {ρ:Operand->AVal} (a:∀ x,Rep M ob (ρv x) (ρ x)) {hint:Nat} {op:Op} (ty:TypeId) {r:OR}
  (h:kU E hint base (aE obs) ρ op=some r):bX E.P ρv op ty M ob obs w base r:=by
 cases op with
 | move x=>cases h;exact bX.now hm (fun _ _ _ _=>rfl) (a x)
 | assign x=>
  simp only [kU] at h
  split at h
  .rename_i k g c b
   cases h
   have:=a x
   rw [b] at this
   exact bX.now hm (u:=ρv x) (fun _ _ _ _=>rfl) this
  .cases h
 | slice t x lo H G=>
  cases lo with
  | none=>
   cases H with
   | none=>simp [kU] at h
   | some i=>
    cases G with
    | some _=>simp [kU] at h
    | none=>
     simp only [kU] at h
     split at h
     .rename_i k g c b
      cases h
      have:=a x
      rw [b] at this
      exact bX.pm (s:=Gu t (ρv x) none (some (ρv i)) none) (fun _ _ _ _=>rfl) (aJR hE hm this (a i))
     .cases h
  | some l=>
   cases H with
   | none=>simp [kU] at h
   | some i=>
    cases G with
    | none=>simp [kU] at h
    | some m=>
     simp only [kU] at h
     split at h
     .rename_i k g b
      cases h
      have:=a x
      rw [b] at this
      exact bX.pm (s:=Gu t (ρv x) (some (ρv l)) (some (ρv i)) (some (ρv m))) (fun _ _ _ _=>rfl) (aGr hE hm this (a l) (a i) (a m))
     .cases h
 | call c=>
  obtain ⟨callee,args,argTypes⟩:=c
  simp only [kU] at h
  split at h
  .split at h
   .rename_i x t h1 p
    split at h
    .rename_i k g n _ _ _ _ _ _ b L
     cases h
     have D:args= #[x]:=by apply Dv;omega
     have q:argTypes= #[t]:=by apply Dv;omega
     subst D q
     have f:=a x
     rw [b] at f
     obtain ⟨S,len,N,K,Q⟩:=f.rowc_inv
     obtain ⟨⟨z,_⟩,_⟩:=(hE.tab t _ L).kind
     refine ⟨.int .i64 n,w,M,ob,fun d pos e g=>.inl ?_,Ext.refl _ _ _ _,hm,cH.refl _ _,.int _ _ ⟨by simp only [bO];omega,by simp only [bA];omega⟩⟩
     simp [execOp,resolve,invoke,builtin,Builtin.cap_,N,run_underlying z,goInt]
    .cases h
   .cases h
  .split at h
   .rename_i x y t F h1 p
    split at h
    .rename_i k g n c R T _ _ _ b A
     cases h
     have D:args= #[x,y]:=by apply Dv;omega
     have q:argTypes= #[t,F]:=by apply Dv;omega
     subst D q
     have f:=a x
     rw [b] at f
     have B:=(hE.tab F _ A).kind.1
     exact Sd.mono (fun v o ⟨u,w',M',ob',p,h3,I,J,O⟩=>⟨u,w',M',ob',fun d pos e g=>.inl (by simp [execOp,resolve,invoke,builtin,p]),h3,I,J,O⟩) (fun _ _ h=>h.elim) (fun _ h=>h.elim) (aGo hE hm C j (ty:=ty) B f (a y))
    .cases h
   .cases h
  .cases h
 | _=>simp [kU] at h
theorem xR (hE:EnvOK E) (hm:Mem M ob obs w) (a:obs[base]? =some .dead) (b:ob[base]? =some []) {ρv:Operand->Value} {ρ:Operand->AVal} (c:∀ x,Rep M ob (ρv x) (ρ x)) (hint:Nat) (op:Op) (ty:TypeId):
  bX E.P ρv op ty M ob obs w base (eop E hint base (aE obs) ρ op ty):=by
 unfold eop
 split
 .rename_i r d
  exact Q3 hE hm a b c ty d
 .exact Q4 hE hm a b (fun x=>aFg (c x)) hint op ty
end
section
variable {P:Program} {M M':Imm} {ob ob':Hs} {obs L:List AObj} {w w':World}
theorem sO.monoA (a:∀ (k g:Nat) v,at' ob k g=some v->at' ob' k g=some v) {v:Value} {t:Tk} (h:sO ob v t):sO ob' v t:=by
 cases t with
 | own k g=>exact a _ _ _ h
 | _=>exact h
theorem Rep.monoA (e:∀ (k g:Nat) v,at' ob k g=some v->at' ob' k g=some v) {v:Value} {a:AVal} (h:Rep M ob v a):Rep M ob' v a:=by
 induction h with
 | undef v=>exact .undef v
 | bool b=>exact .bool b
 | int k n h=>exact .int k n h
 | str l h=>exact .str l h
 | agg vs as hl _ m=>exact .agg vs as hl m
 | tup vs as hl _ m=>exact .tup vs as hl m
 | ptr b o cs h=>exact .ptr b o cs h
 | ref k off b h=>exact .ref k off b (e _ _ _ h)
 | eref k g i d off b n c h=>exact .eref k g i d off b n c (e _ _ _ h)
 | csl k off len d b h hm=>exact .csl k off len d b (e _ _ _ h) hm
 | row k g a n c h=>exact .row k g a n c (e _ _ _ h)
 | sub k g lo len d b n c h hl p f hm=>exact .sub k g lo len d b n c (e _ _ _ h) hl p f hm
 | sub0 k g lo d a x n c h hl f=>exact .sub0 k g lo d a x n c (e _ _ _ h) hl f
 | rowc k g c a n h hm=>exact .rowc k g c a n (e _ _ _ h) hm
 | pre k g n c d b len h f p hl hm=>exact .pre k g n c d b len (e _ _ _ h) f p hl hm
 | mref k b h=>exact .mref k b (e _ _ _ h)
 | nilptr=>exact .nilptr
 | nilslice=>exact .nilslice
 | nilmap=>exact .nilmap
 | nilfunc=>exact .nilfunc
 | nilif=>exact .nilif
 | hsl a n c=>exact .hsl a n c
 | slnil d t j=>exact .slnil d t (j.monoA e)
 | slemp d t a cap j=>exact .slemp d t a cap (j.monoA e)
 | sl d b o n cap xs t p f hm hz h j=>exact .sl d b o n cap xs t p f hm hz h (j.monoA e)
 | func fn u cs s w y f _ _ r q=>exact .func fn u cs s w y f r q
 | iface t v a _ m=>exact .iface t v a m
theorem Mem.idle (h:Mem M ob L w) {k:Nat} (j:ob[k]? =some []):L[k]? =some .dead:=by
 have d:k<L.length:=by rw [<-h.len];grind
 have e:=Ab d
 obtain ⟨hs,f,a⟩:=h.obj k _ e
 rw [j] at f
 cases f
 cases c:L[k] with
 | dead=>rw [e,c]
 | cells T cs=>rw [c] at a;obtain ⟨b,q,_⟩:=a;cases q
 | fcells cs=>rw [c] at a;obtain ⟨b,q,_⟩:=a;cases q
 | row g i e xs=>rw [c] at a;have:=a.1;simp at this
 | frow g i xs=>rw [c] at a;obtain ⟨v,q,_⟩:=a;simp at q
 | tail g i e=>rw [c] at a;have:=a.1;simp at this
 | mp l es=>rw [c] at a;obtain ⟨b,q,_⟩:=a;cases q
 | bun g I=>rw [c] at a;have:=a.1;simp at this
theorem Mem.live (h:Mem M ob L w) {k:Nat} {c:AObj} (b:L[k]? =some c) (d:c≠ .dead):∃ hs,ob[k]? =some hs/\hs≠[]:=by
 obtain ⟨hs,a,_⟩:=h.obj k c b
 refine ⟨hs,a,fun e=>?_⟩
 subst e
 rw [h.idle a] at b
 grind
theorem Mem.shrink {n:Nat} (h:Mem M ob (obs++Ai n .dead) w) (B:∀ (i:Nat) hs,obs.length<=i->ob[i]? =some hs->hs=[]):
  Mem M (ob.take obs.length) obs w/\(∀ (k g:Nat) v,at' ob k g=some v->at' (ob.take obs.length) k g=some v)/\
   ∀ {M0:Imm} {ob0:Hs} {d:List AObj} {w0:World},Ext M0 ob0 d w0 M ob (obs++Ai n .dead) w->ob0.length<=obs.length->Ext M0 ob0 d w0 M (ob.take obs.length) obs w:=by
 have hl:=h.len
 simp at hl
 have left:∀ {i:Nat},i<obs.length->(ob.take obs.length)[i]? =ob[i]?/\(obs++Ai n AObj.dead)[i]? =obs[i]?:=fun {i} hi=>⟨Bg hi,Af hi⟩
 have o:∀ (k g:Nat) v,at' ob k g=some v->at' (ob.take obs.length) k g=some v:=by
  intro k g v f
  by_cases e:k<obs.length
  .unfold at' at f⊢
   rw [(left e).1];exact f
  .unfold at' at f
   cases q:ob[k]? with
   | none=>rw [q] at f;cases f
   | some hs=>
    have:=B k hs o_ q
    subst this
    rw [q] at f
    simp at f
 have alive:∀ {k b:Nat},aM (ob.take obs.length) obs k b->aM ob (obs++Ai n .dead) k b:=fun {k b} ⟨c,hs,m,r,e3,e4⟩=>by
  have e:=(Ad.1 m).1
  exact ⟨c,hs,(left e).2.trans m,r,(left e).1▸e3,e4⟩
 refine ⟨⟨h.imm,by simp;omega,fun k c s=>?_,fun k b l=>h.lt k b (alive l),fun i j b l t=>h.inj i j b (alive l) (alive t)⟩,o,fun {M0 ob0 d w0} hx h0=>⟨hx.imm,hx.new,fun k hs e=>?_,hx.os,hx.tape,hx.output,hx.size,hx.keep,fun k b l=>hx.fresh k b (alive l)⟩⟩
 .have e:=(Ad.1 s).1
  obtain ⟨hs,m,p⟩:=h.obj k c ((left e).2.trans s)
  refine ⟨hs,(left e).1.trans m,?_⟩
  cases c with
  | cells T cs=>
   obtain ⟨b,y,z,cv,u,C,A,D⟩:=p
   exact ⟨b,y,z,cv,u,C,A,fun i v a f l=>(D i v a f l).monoA o⟩
  | _=>exact p
 .obtain ⟨hs',m,r⟩:=hx.hs k hs e
  have x:=(Ad.1 e).1
  exact ⟨hs',(left o_).1.trans m,r⟩
theorem NV (obs:List AObj) (j g:Nat):kF [] obs j g=g:=rfl
theorem aC1 (base:Nat) (obs:List AObj):∀ n,embV [] base obs n=embV [] base [] n:=by
 intro n
 induction n with
 | zero=>rfl
 | succ n b=>
  funext a
  cases a<;>simp only [embV,NV,b]
def iZ (base:Nat) (new:List AObj):List AObj:=new.map (sM [] base [] 0)
theorem Mem.emb0 (h:Mem M ob L w) {base:Nat} {new:List AObj} {d:Hs} (P:base+new.length<=L.length) (H:∀ j,j<new.length->ob[base+j]? =some [])
  (p:Ext M [] [] w M' d new w') (N:Mem M' d new w'):
  Mem M' (ob.take base++d++ob.drop (base+d.length)) (L.take base++iZ base new++L.drop (base+(iZ base new).length)) w'/\
   Ext M ob L w M' (ob.take base++d++ob.drop (base+d.length)) (L.take base++iZ base new++L.drop (base+(iZ base new).length)) w'/\
   (∀ n v a,Rep M' d v a->Rep M' (ob.take base++d++ob.drop (base+d.length)) v (AW.embV [] base [] n a)):=by
 have r:d.length=new.length:=N.len
 have A:(iZ base new).length=new.length:=by simp [iZ]
 obtain ⟨p1,Z⟩:=fB ob d base (by rw [h.len,r];exact P)
 obtain ⟨q1,V⟩:=fB L (iZ base new) base o_
 rw [r] at Z
 rw [A] at V
 have inO:∀ {j:Nat},j<new.length->(ob.take base++d++ob.drop (base+d.length))[base+j]? =d[j]?:=fun {j} m=>by
  have:=Z (base+j)
  rw [if_pos ⟨by omega,by omega⟩,Hk] at this
  rw [r];exact this
 have u:∀ {i:Nat},¬ (base<=i/\i<base+new.length)->(ob.take base++d++ob.drop (base+d.length))[i]? =ob[i]?:=fun {i} K=>by
  have:=Z i
  rw [if_neg K] at this
  rw [r];exact this
 have inL:∀ {j:Nat},j<new.length->(L.take base++iZ base new++L.drop (base+(iZ base new).length))[base+j]? =(new[j]?).map (sM [] base [] 0):=fun {j} m=>by
  have:=V (base+j)
  rw [if_pos ⟨by omega,by omega⟩,Hk] at this
  rw [A,this]
  simp [iZ]
 have F:∀ {i:Nat},¬ (base<=i/\i<base+new.length)->(L.take base++iZ base new++L.drop (base+(iZ base new).length))[i]? =L[i]?:=fun {i} K=>by
  have:=V i
  rw [if_neg K] at this
  rw [A];exact this
 have Q:∀ {j g:Nat} {v:Value},at' d j g=some v->at' (ob.take base++d++ob.drop (base+d.length)) (dN [] base j) (kF [] [] j g)=some v:=by
  intro j g v I
  rw [jL (Cn _),NV]
  show at' _ (base+j) g=some v
  unfold at' at I⊢
  cases hq:d[j]? with
  | none=>rw [hq] at I;cases I
  | some hs=>
   have m:j<new.length:=by rw [<-r];exact (Ad.1 hq).1
   rw [inO m]
   exact I
 have D:∀ n v a,Rep M' d v a->Rep M' (ob.take base++d++ob.drop (base+d.length)) v (AW.embV [] base [] n a):=NU Q fun I _=>Q I
 have R:dE ob (ob.take base++d++ob.drop (base+d.length)):=by
  intro i hs K
  by_cases l:base<=i/\i<base+new.length
  .have e:=H (i-base) o_
   rw [show base+(i-base)=i from by omega,K] at e
   cases e
   have m:i-base<d.length:=o_
   refine ⟨d[i-base],?_,List.nil_prefix⟩
   have:=inO (j:=i-base) o_
   rw [show base+(i-base)=i from by omega] at this
   rw [this]
   simp
  .exact ⟨hs,(u l).trans K,Cl _⟩
 have G:∀ o:AObj,(sM [] base [] 0 o).owns=o.owns:=fun o=>by cases o<;>rfl
 have C:∀ {i b:Nat},aM (ob.take base++d++ob.drop (base+d.length)) (L.take base++iZ base new++L.drop (base+(iZ base new).length)) i b->(∃ j,j<new.length/\i=base+j/\aM d new j b)\/(¬ (base<=i/\i<base+new.length)/\aM ob L i b):=by
  rintro i b ⟨c,hs,z,X,S,e4⟩
  by_cases l:base<=i/\i<base+new.length
  .obtain ⟨j,rfl⟩:∃ j,i=base+j:=⟨i-base,by omega⟩
   have m:j<new.length:=o_
   rw [inL m] at z
   rw [inO m] at S
   obtain ⟨o,ho,rfl⟩:=Cp.1 z
   rw [G] at X
   exact .inl ⟨j,m,rfl,o,hs,ho,X,S,e4⟩
  .rw [F l] at z
   rw [u l] at S
   exact .inr ⟨l,c,hs,z,X,S,e4⟩
 have O:∀ {i b:Nat},aM ob L i b->(∀ j,¬ aM d new j b):=fun {i b} x j m=>by
  rcases p.fresh j b m with ⟨k',c,hs,e,_⟩ | q
  .simp at e
  .have:=h.lt i b x;omega
 have s:∀ b k,¬ aM ([]:Hs) [] k b:=fun b k ⟨c,hs,e,_⟩=>by simp at e
 refine ⟨⟨N.imm,by rw [r] at p1⊢;rw [A] at q1⊢;rw [p1,q1];exact h.len,fun i c J=>?_,fun i b x=>?_,fun i i' b x W=>?_⟩,⟨p.imm,fun b o y Y=>?_,R,p.os,p.tape,p.output,p.size,fun b W hn=>p.keep b W (s b),fun i b x=>?_⟩,D⟩
 .by_cases l:base<=i/\i<base+new.length
  .obtain ⟨j,rfl⟩:∃ j,i=base+j:=⟨i-base,by omega⟩
   have m:j<new.length:=o_
   rw [inL m] at J
   obtain ⟨o,ho,rfl⟩:=Cp.1 J
   obtain ⟨hs,z,B⟩:=N.obj j o ho
   refine ⟨hs,(inO m).trans z,?_⟩
   cases o with
   | cells T cs=>
    obtain ⟨b,t1,t2,cv,t3,t4,t5,t6⟩:=B
    obtain ⟨m1,m2⟩:=bT (D 4) t4 t6
    exact ⟨b,t1,t2,cv,t3,m1,t5,m2⟩
   | _=>exact B
  .rw [F l] at J
   obtain ⟨hs,z,B⟩:=h.obj i c J
   refine ⟨hs,(u l).trans z,B.mono p.imm R (fun b h1 U o hno y Y=>?_) (fun b c' h1 U hc'=>?_)⟩
   .have x:aM ob L i b:=(cI J z).2 ⟨h1,U⟩
    rcases p.new b o y Y with q | q | ⟨k,q⟩
    .exact hno y q
    .have:=h.lt i b x;omega
    .exact s b k q
   .have x:aM ob L i b:=(cI J z).2 ⟨h1,U⟩
    rw [p.keep b (h.lt i b x) (s b)]
    exact hc'
 .rcases C x with ⟨j,m,rfl,f⟩ | ⟨_,f⟩
  .exact N.lt j b f
  .exact Ef (h.lt i b f) p.size
 .rcases C x with ⟨j,m,rfl,f⟩ | ⟨_,f⟩<;>rcases C W with ⟨j',hj',rfl,t⟩ | ⟨_,t⟩
  .rw [N.inj j j' b f t]
  .exact absurd f (O t j)
  .exact absurd t (O f j')
  .exact h.inj i i' b f t
 .rcases p.new b o y Y with q | q | ⟨k,q⟩
  .exact .inl q
  .omega
  .exact (s b k q).elim
 .rcases C x with ⟨j,m,rfl,f⟩ | ⟨_,f⟩
  .rcases p.fresh j b f with ⟨k,q⟩ | q
   .exact (s b k q).elim
   omega
  .exact .inl ⟨i,f⟩
end
section
variable {M:Imm} {ob:Hs} {n:Nat}
theorem jM {k n:Nat} (h:Fi k n=true):k<n:=by simp_all
theorem jN {k g:Nat} {v:Value} (a:k<n) (h:at' ob k g=some v):at' (ob.take n) k g=some v:=by
 unfold at' at *
 grind
theorem lX {f:AVal->Bool}:∀ {l:List AVal},EA f l=true->∀ (i:Nat) a,l[i]? =some a->f a=true
 | [],_,i,a,h=>by simp at h
 | c::r,hb,i,a,h=>by
  simp only [EA,Ag] at hb
  cases i with
  | zero=>grind
  | succ i=>exact lX hb.2 i a (by simp_all)
theorem D9 {v:Value} {t:Tk} (h:sO ob v t) (a:aLE n t=true):sO (ob.take n) v t:=by
 cases t with
 | own k g=>exact jN (jM a) h
 | _=>exact h
theorem AV:∀ (m:Nat) {v:Value} {a:AVal},Rep M ob v a->bel n m a=true->Rep M (ob.take n) v a:=by
 intro m
 induction m with
 | zero=>intro v a _ h;cases h
 | succ m r=>
  intro v a h d
  cases h with
  | undef v=>exact .undef v
  | bool b=>exact .bool b
  | int k n B=>exact .int k n B
  | str l hl=>exact .str l hl
  | agg vs as hl h=>exact .agg vs as hl fun i v a p f=>r (h i v a p f) (lX d i a f)
  | tup vs as hl h=>exact .tup vs as hl fun i v a p f=>r (h i v a p f) (lX d i a f)
  | ptr b o cs h=>exact .ptr b o cs h
  | ref k off b h=>exact .ref k off b (jN (jM d) h)
  | eref k g i e off b n c h=>exact .eref k g i e off b n c (jN (jM d) h)
  | csl k off len e b h hm=>exact .csl k off len e b (jN (jM d) h) hm
  | row k g a n c h=>exact .row k g a n c (jN (jM d) h)
  | sub k g lo len e b n c h hl s j hm=>exact .sub k g lo len e b n c (jN (jM d) h) hl s j hm
  | sub0 k g lo e a C n c h hl j=>exact .sub0 k g lo e a C n c (jN (jM d) h) hl j
  | rowc k g c a n h hm=>exact .rowc k g c a n (jN (jM d) h) hm
  | pre k g n c e b len h j s hl hm=>exact .pre k g n c e b len (jN (jM d) h) j s hl hm
  | mref k b h=>exact .mref k b (jN (jM d) h)
  | nilptr=>exact .nilptr
  | nilslice=>exact .nilslice
  | nilmap=>exact .nilmap
  | nilfunc=>exact .nilfunc
  | nilif=>exact .nilif
  | hsl a n c=>exact .hsl a n c
  | slnil e t q=>exact .slnil e t (D9 q d)
  | slemp e t a cap q=>exact .slemp e t a cap (D9 q d)
  | sl e b o n cap xs t s j hm hz h q=>exact .sl e b o n cap xs t s j hm hz h (D9 q d)
  | func fn y cs x A D j h1 z=>
   obtain ⟨w,u⟩:=aU d
   exact .func fn y cs x A D j (fun i v a p f=>r (h1 i v a p f) (lX w i a f)) (fun i v a p f=>r (z i v a p f) (lX u i a f))
  | iface t v a h=>exact .iface t v a (r h d)
theorem B9:∀ (n:Nat) (l:List AObj),nT n l=l.take n
 | 0,_=>by simp [nT]
 | n+1,[]=>by simp [nT]
 | n+1,x::r=>by simp [nT,B9 n r]
theorem OG {n:Nat}:∀ {l:List AObj},E1 n l=true->∀ (i:Nat) T cs,l[i]? =some (.cells T cs)->EA (bel n 5) cs=true
 | [],_,i,T,cs,h=>by simp at h
 | x::r,hb,i,T,cs,h=>by
  cases i with
  | zero=>
   simp at h
   subst h
   simp only [E1,Ag] at hb
   exact hb.1
  | succ i=>
   refine OG (l:=r) ?_ i T cs (by simp_all)
   cases x<;>first | exact hb | (simp only [E1,Ag] at hb;exact hb.2)
theorem OH {n:Nat}:∀ {l:List (Nat×AVal)},aDF n l=true->∀ t,bel n 5 (aW l t)=true\/aW l t= .undef
 | [],_,t=>.inr rfl
 | (i,v)::r,hb,t=>by
  simp only [aDF,Ag] at hb
  simp only [aW]
  cases Ar i t with
  | true=>grind
  | false=>exact OH hb.2 t
theorem Mem.cutO {obs:List AObj} {w:World} (h:Mem M ob obs w) (l:E1 n (obs.take n)=true):Mem M (ob.take n) (obs.take n) w/\∀ {k b:Nat},aM (ob.take n) (obs.take n) k b->aM ob obs k b:=by
 have left:∀ {i:Nat} {c:AObj},(obs.take n)[i]? =some c->i<n/\obs[i]? =some c:=fun {i c} g=>by
  rw [Gb] at g
  grind
 have alive:∀ {k b:Nat},aM (ob.take n) (obs.take n) k b->aM ob obs k b:=fun {k b} ⟨c,hs,e,e2,e3,e4⟩=>by
  obtain ⟨o,e⟩:=left e
  rw [Bg o] at e3
  exact ⟨c,hs,e,e2,e3,e4⟩
 refine ⟨⟨h.imm,by simp [h.len],fun k c g=>?_,fun k b d=>h.lt k b (alive d),fun i j b d l=>h.inj i j b (alive d) (alive l)⟩,alive⟩
 obtain ⟨o,m⟩:=left g
 obtain ⟨hs,e,f⟩:=h.obj k c m
 refine ⟨hs,by rw [Bg o];exact e,?_⟩
 cases c with
 | cells T cs=>
  obtain ⟨b,q,r,cv,p,u,s,x⟩:=f
  exact ⟨b,q,r,cv,p,u,s,fun i v a t d=>AV 5 (x i v a t d) (lX (OG l k _ cs g) i a d)⟩
 | _=>exact f
end
def fen (r:Option Nat):Fence:={Fence.wide with round:=r}
def pG (P:Program) (o:Oper) (ρ:Operand->Value) (w:World) (R:Ending->World->Prop):Prop:=
 (∃ v w',(execOp ρ o).run P w= .ok (.value v) w'/\R (.returned v) w')\/
 (∃ w',(execOp ρ o).run P w= .ok .skip w'/\R (.returned undef) w')\/
 (∃ v w',(execOp ρ o).run P w= .halt (.panic v) w'/\R (.panicked [{v,recovered:=false}]) w')\/
 (∃ f args w',(execOp ρ o).run P w= .ok (.enter f args) w'/\Calls P f args w' fun e a=>R e a/\e≠ .outgrown)\/
 (∃ l f tmps as b w',(execOp ρ o).run P w= .ok (.round l f tmps as b) w'/\RoundIn Fence.wide 0 P l f tmps as b w' fun e a=>R e a/\e≠ .outgrown)
theorem pG.wpIn {rd:Option Nat} {P:Program} {o:Oper} {a:Act} {w:World} {R:Ending->World->Prop} (h:pG P o a.eval w R) {next:Act->World->Prop} {Q:Exit->Act->World->Prop}
  (i:∀ c,o.op≠ .defer c) (h1:∀ v w',R (.returned v) w'->next (a.put o.dst v) w') (p:∀ m w',R (.panicked m) w'->Q (.panic m) a w'):o.wpIn (fen rd) 0 P a w next Q:=by
 refine ⟨fun _ _=>trivial,?_⟩
 rw [Oper.semAt_eq _ _ _ i]
 rcases h with ⟨v,w',b,d⟩ | ⟨w',b,d⟩ | ⟨v,w',b,d⟩ | ⟨f,args,w',b,k⟩ | ⟨l,f,tmps,as,q,w',b,k⟩
 .rw [b];exact h1 v w' d
 .rw [b];exact h1 undef w' d
 .rw [b];exact p _ w' d
 .rw [b]
  refine ⟨fun h=>(by cases h),(callsIn_wide (n:=0)).2 (k.mono fun e g ⟨d,j⟩=>?_)⟩
  grind
 .rw [b]
  refine ⟨fun h=>(by cases h),RoundIn.mono (F:=Fence.wide) k fun e g ⟨d,j⟩=>?_⟩
  grind
def EL (M:Imm) (ob:Hs) (L:List AObj) (w:World) (K:AVal->List AObj->Prop) (Kp:AVal->List AObj->Prop) (e:Ending) (w':World):Prop:=
 ∃ M' ob' L',Ext M ob L w M' ob' L' w'/\Mem M' ob' L' w'/\((∃ u v,e= .returned u/\Rep M' ob' u v/\K v L')\/∃ a v,e= .panicked a/\yD M' ob' e (.pan v)/\Kp v L')
section
variable {P:Program} {E:Env} {M M':Imm} {ob ob':Hs} {obs L:List AObj} {w w':World} {K Kp:AVal->List AObj->Prop}
theorem kA.mono {f:FuncId} {d:Array Value} {R c:Ending->World->Prop} (b:∀ e w,R e w->c e w) (h:kA P f d w R):kA P f d w c:=by
 rcases h with ⟨h1,a⟩ | ⟨u,w',h1,a⟩
 .exact .inl ⟨h1,a.mono fun e w h=>b e w h⟩
 .exact .inr ⟨u,w',h1,b _ _ a⟩
theorem EL.ne {e:Ending} (h:EL M ob L w K Kp e w'):e≠ .outgrown:=by
 obtain ⟨_,_,_,_,_,⟨u,v,rfl,_⟩ | ⟨a,v,rfl,_⟩⟩:=h<;>(simp)
theorem cW.mono {f:Fn} {c:Array Value} {R b:Ending->World->Prop} (a:∀ e w,R e w->b e w) (h:cW P f c w R):cW P f c w b:=by
 cases f with
 | func f=>exact kA.mono a h
 | yield l=>
  obtain ⟨f,tmps,as,g,h1,d⟩:=h
  exact ⟨f,tmps,as,g,h1,RoundIn.mono d a⟩
 | _=>exact h.elim
theorem kA.op {f:Fn} {d:Array Value} {o:Oper} {ρ:Operand->Value} {R:Ending->World->Prop} (b:∀ e w,R e w->e≠ .outgrown) (c:(execOp ρ o).run P w=(D7 f d).run P w) (h:cW P f d w R):pG P o ρ w R:=by
 cases f with
 | func f=>
  rcases h with ⟨h1,a⟩ | ⟨u,w',h1,a⟩
  .exact .inr (.inr (.inr (.inl ⟨f,d,w,c.trans h1,a.mono fun e w h=>⟨h,b e w h⟩⟩)))
  .exact .inl ⟨u,w',c.trans h1,a⟩
 | yield l=>
  obtain ⟨f,tmps,as,g,h1,a⟩:=h
  exact .inr (.inr (.inr (.inr ⟨l,f,tmps,as,g,w,c.trans h1,RoundIn.mono a fun e w h=>⟨h,b e w h⟩⟩)))
 | _=>exact h.elim
theorem xF {b:Hs} {g:AVal->AVal} (c:∀ v a,Rep M ob v a->Rep M' b v (g a)) {vs:List Value} {as:List AVal} (h:cA M ob vs as):cA M' b vs (dP g as):=bT c h.1 h.2
theorem mT (hm:Mem M ob L w) {f:Fn} {args:List AVal} {i:List Value} {ks:List Nat} {r:Res} {obs':List AObj} (g:mB ks L=true) (l:cA M ob i args)
  (h:bM P f (dP (cvtV 0 ks (aE L) 5) args) (iE 0 ks L) r obs'):
  cW P f i.toArray w fun e w'=>∃ M' b,Ext M ob L w M' (jA ks ob b) (kD ks L.length L 0 obs' L) w'/\Mem M' (jA ks ob b) (kD ks L.length L 0 obs' L) w'/\yD M' b e r/\b.length=obs'.length/\
   ∀ n v a,Rep M' b v a->Rep M' (jA ks ob b) v (embV ks L.length L n a):=by
 obtain ⟨k,_,_⟩:=hm.cvt (n0:=0) g
 refine cW.mono (fun e w' ⟨M',b,j,d,c⟩=>?_) (h M _ w i k (xF (fun v a=>hm.cvtV (n0:=0) g 5 v a) l))
 obtain ⟨o,m,_⟩:=hm.emb g j d
 exact ⟨M',b,m,o,c,d.len,hm.embV g j.hs rB⟩
theorem OA (hm:Mem M ob obs w) {f:Fn} {args:List AVal} {t:List Value} (C:cA M ob t args) (h:CallG P f args obs K Kp):cW P f t.toArray w (EL M ob obs w K Kp):=by
 have mono:∀ {n:Imm},(∀ b o x,M b o x->n b o x)->cA n ob t args:=fun F=>⟨C.1,fun i v a G H=>(C.2 i v a G H).monoM F⟩
 cases h with
 | pure r new h k=>
  obtain ⟨n,l,d,_,s⟩:=hm.frzL args
  refine cW.mono (fun e w' ⟨M',g,j,m,c,_,p⟩=>?_) (mT (ks:=[]) l rfl (mono d.imm) h)
  refine ⟨M',_,_,d.trans j,m,.inl ?_⟩
  rw [bI,<-s] at k
  cases e with
  | returned u=>exact ⟨u,_,rfl,p 5 u r c,k⟩
  | panicked q=>exact c.elim
  | outgrown=>exact c.elim
 | eff y ks r obs' z h k=>
  obtain ⟨n,l,d,_,s⟩:=Mem.frzs y M obs hm
  refine cW.mono (fun e w' ⟨M',g,j,m,c,_,p⟩=>?_) (mT l z (mono d.imm) h)
  refine ⟨M',_,_,d.trans j,m,.inl ?_⟩
  rw [bI] at k
  cases e with
  | returned u=>exact ⟨u,_,rfl,p 5 u r c,k⟩
  | panicked q=>exact c.elim
  | outgrown=>exact c.elim
 | effp y ks r obs' z h k=>
  obtain ⟨n,l,d,_,s⟩:=Mem.frzs y M obs hm
  refine cW.mono (fun e w' ⟨M',g,j,m,c,_,p⟩=>?_) (mT l z (mono d.imm) h)
  refine ⟨M',_,_,d.trans j,m,.inr ?_⟩
  rw [bI] at k
  cases e with
  | returned u=>exact c.elim
  | panicked q=>
   obtain ⟨v,B,A⟩:=c
   exact ⟨q,_,rfl,⟨v,B,p 5 v r A⟩,k⟩
  | outgrown=>exact c.elim
 | pan r h k=>
  obtain ⟨n,l,d,_,s⟩:=hm.frzL args
  refine cW.mono (fun e w' ⟨M',g,j,m,c,I,p⟩=>?_) (mT (ks:=[]) l rfl (mono d.imm) h)
  have D:g=[]:=Av o_
  subst D
  refine ⟨M',_,_,d.trans j,m,.inr ?_⟩
  cases e with
  | returned u=>exact c.elim
  | panicked q=>
   obtain ⟨v,B,A⟩:=c
   exact ⟨q,r,rfl,⟨v,B,A.pure⟩,k⟩
  | outgrown=>exact c.elim
theorem BP {VS:AVal->List AObj->Prop} {CS:Fn->List AVal->Prop} {PS:AVal->Prop} {a:List AObj} {base:Nat} (d:base=aP obs):∀ {r:OR},Sd VS CS PS a base r->orF P obs K Kp r->
  (∃ v,VS v a/\K v obs)\/(∃ k x v,VS v (bJ a k x)/\K v (bJ obs k x))\/(∃ f args,CS f args/\CallG P f args obs K Kp)\/∃ v,PS v/\Kp v obs
 | .no,_,k=>k.elim
 | .val v,h,k=>.inl ⟨v,h,k⟩
 | .mkf fn fs cs,h,k=>.inl ⟨_,h,k⟩
 | .need p r,h,k=>BP d (h k.1) k.2
 | .alt p v w,h,k=>by
  rcases k with ⟨hp,k⟩ | k
  .exact .inl ⟨v,h.1 hp,k⟩
  .exact .inl ⟨w,h.2,k⟩
 | .idx n f,h,⟨i,hi,k⟩=>BP d (h i hi) k
 | .elem xs i f,h,⟨x,hx,k⟩=>BP d (h x hx) k
 | .byte l i,h,⟨c,hc,k⟩=>.inl ⟨_,h c hc,k⟩
 | .text xs,h,⟨l,hl,hm,k⟩=>.inl ⟨_,h l hl hm,k⟩
 | .find es key f,h,⟨o,ho,k⟩=>by subst ho;exact BP d (r:=f (dQ es key)) h k
 | .born x v,h,k=>.inr (.inl ⟨base,x,v,h,by rw [d];exact k⟩)
 | .upd i x v,h,k=>.inr (.inl ⟨i,x,v,h,k⟩)
 | .nilq xs neg,⟨b,h1,h2⟩,k=>.inl ⟨_,h2,k b h1⟩
 | .call f args,h,k=>.inr (.inr (.inl ⟨f,args,h,k⟩))
 | .pan v,h,k=>.inr (.inr (.inr ⟨v,h,k⟩))
theorem CI (l:List AObj) (n:Nat):aE (l++Ai n .dead)=aE l:=by
 funext i
 induction l generalizing i with
 | nil=>
  induction n generalizing i with
  | zero=>rfl
  | succ n a=>
   cases i with
   | zero=>rfl
   | succ i=>have:=a i;simpa [aE,List.replicate_succ] using this
 | cons x r a=>
  cases i with
  | zero=>rfl
  | succ i=>exact a i
theorem MG (l:List AObj) (x:AObj):∀ k,(k<l.length->bJ (l++[.dead]) k x=bJ l k x++[.dead])/\(l.length<=k->bJ (l++[.dead]) k x=bJ l k x):=by
 induction l with
 | nil=>
  intro k
  refine ⟨fun h=>by simp at h,fun _=>?_⟩
  cases k with
  | zero=>rfl
  | succ k=>rfl
 | cons y r a=>
  intro k
  cases k with
  | zero=>exact ⟨fun _=>rfl,fun h=>by simp at h⟩
  | succ k=>
   obtain ⟨h1,b⟩:=a k
   exact ⟨fun h=>by show y::bJ (r++[.dead]) k x=y::(bJ r k x++[.dead]);grind,fun h=>by show y::bJ (r++[.dead]) k x=y::bJ r k x;grind⟩
theorem aKc {k g:Nat} {v:Value} (h:at' (ob++[[]]) k g=some v):at' ob k g=some v:=by
 unfold at' at *
 by_cases b:k<ob.length
 .rwa [Af b] at h
 .rw [Ak o_] at h
  cases a:([[]]:Hs)[k-ob.length]? with
  | none=>grind
  | some hs=>
   rw [a] at h
   have:hs=[]:=by
    have:=Aq a
    simp_all
   simp_all
theorem AF (hE:EnvOK E) (hm:Mem M ob obs w) {ρv:Operand->Value} {ρ:Operand->AVal} (G:∀ x,Rep M ob (ρv x) (ρ x)) {hint:Nat} {p:Oper} (h:orF E.P obs K Kp (eop E hint (aP obs) (aE obs) ρ p.op p.type)):
  pG E.P p ρv w (EL M ob obs w K Kp):=by
 obtain ⟨dst,op,ty,pos,b,r⟩:=p
 obtain ⟨F,A,R⟩:=hm.extend 1
 have m:ob.length=obs.length:=hm.len
 have y:(obs++Ai 1 AObj.dead)[aP obs]? =some .dead:=by rw [bI];simp
 have o:(ob++Ai 1 ([]:List Value))[aP obs]? =some []:=by rw [bI,<-m];simp
 have hs:=xR hE F y o (fun x=>(G x).mono (fun _ _ _ h=>h) A.hs) hint op ty
 rw [CI] at hs
 have N:Ai 1 AObj.dead=[.dead]:=rfl
 -- a value,where no number was taken
 have fin:∀ {v:AVal} {obs':List AObj},obs'.length=obs.length->K v obs'->VS E.P ρv op ty M (ob++Ai 1 []) (obs++Ai 1 .dead) w v (obs'++Ai 1 .dead)->pG E.P ⟨dst,op,ty,pos,b,r⟩ ρv w (EL M ob obs w K Kp):=by
  intro v obs' hl j ⟨u,w',M',ob',vs⟩
  have l:∀ (i:Nat) hs,obs'.length<=i->ob'[i]? =some hs->hs=[]:=by
   intro i hs Q C
   have q:=(Ad.1 C).1
   rw [vs.mem.len] at q
   simp at q
   obtain rfl:i=aP obs:=by rw [bI];omega
   have:=(vs.still (aP obs) [] y o).2 rfl (by rw [bI,<-hl];simp)
   grind
  obtain ⟨I,B,H⟩:=vs.mem.shrink l
  have c:EL M ob obs w K Kp (.returned u) w':=⟨M',_,_,H (A.trans vs.ext) o_,I,.inl ⟨u,v,rfl,vs.rep.monoA B,j⟩⟩
  rcases vs.run dst pos b r with d | ⟨d,rfl⟩
  .exact .inl ⟨u,w',d,c⟩
  .exact .inr (.inl ⟨w',d,c⟩)
 rcases BP (P:=E.P) (K:=K) (Kp:=Kp) rfl hs h with ⟨v,h1,z⟩ | ⟨k,x,v,h1,z⟩ | ⟨f,args,⟨D,n,L⟩,j⟩ | ⟨v,⟨u,d,s⟩,j⟩
 .exact fin rfl z h1
 .rw [N] at h1
  by_cases j:k<obs.length
  .rw [(MG obs x k).1 j] at h1
   exact fin (by rw [gG _ j];simp) z h1
  .rw [(MG obs x k).2 o_] at h1
   obtain ⟨u,w',M',ob',vs⟩:=h1
   have c:EL M ob obs w K Kp (.returned u) w':=⟨M',_,_,A.trans vs.ext,vs.mem,.inl ⟨u,v,rfl,vs.rep,z⟩⟩
   rcases vs.run dst pos b r with d | ⟨d,rfl⟩
   .exact .inl ⟨u,w',d,c⟩
   .exact .inr (.inl ⟨w',d,c⟩)
 .have t:cA M ob D args:=⟨n.1,fun i v a J O=>(n.2 i v a J O).monoA fun k g v=>aKc⟩
  exact kA.op (fun e w h=>h.ne) (L dst pos b r) (OA hm t j)
 .exact .inr (.inr (.inl ⟨u,w,d dst pos b r,M,ob,obs,Ext.refl _ _ _ _,hm,.inr ⟨_,v,rfl,⟨u,rfl,s.pure⟩,j⟩⟩))
end
open Classical
structure AS where
 g:Nat->AVal
 o:Nat->AObj
 br:Nat->Nat->Prop
def iV (g:Nat->AVal) (d:Option Nat) (z:AVal):Nat->AVal:=fun t=>if d=some t then z else g t
def inB (base n k:Nat):Prop:=base<=k/\k<base+n
noncomputable def nJ (o:Nat->AObj) (base:Nat) (bs:List AObj):Nat->AObj:=fun k=>if inB base bs.length k then bs.getD (k-base) .dead else o k
noncomputable def AS.upd (s:AS) (i:Nat) (d:Option Nat) (z:AVal) (base:Nat) (bs:List AObj):AS:=⟨iV s.g d z,nJ s.o base bs,fun a k=>s.br a k\/(a=i/\inB base bs.length k)⟩
def QQ (tab:List Nat) (j:Nat) (br:Nat->Nat->Prop) (k:Nat):Prop:=∃ i,br i k/\cL (dG tab j) i=false
noncomputable def nO (tab:List Nat) (j:Nat) (s:AS):Nat->AObj:=fun k=>if QQ tab j s.br k then .dead else s.o k
def evG (tab:List Nat) (all:List Oper) (j:Nat) (g:Nat->AVal):Operand->AVal
 | .tmp t=>bif NF tab j t 0 all then .undef else g t
 | x=>ev [] x
theorem aJI (tab:List Nat) (all:List Oper) (j:Nat) (fr:List (Nat×AVal)):evH tab all j fr=evG tab all j (aW fr):=by
 funext x
 cases x<;>rfl
def gC (P:Program) (og:Nat->AObj) (base:Nat) (z:AVal) (bs:List AObj):OR->Prop
 | .val v=>z=v/\bs=[]
 | .mkf fn a cs=>z= .func fn a cs/\bs=[]
 | .need p r=>p/\gC P og base z bs r
 | .alt p v w=>((p/\z=v)\/z=w)/\bs=[]
 | .idx n f=>∃ i:Nat,n=(i:Int)/\gC P og base z bs (f i)
 | .elem xs i f=>∃ x,xs[i]? =some x/\gC P og base z bs (f x)
 | .byte l i=>∃ c,l[i]? =some c/\z= .int .u8 (c.toNat:Int)/\bs=[]
 | .text xs=>∃ l:List UInt8,xs=l.map ub/\(l.length:Int)<=9223372036854775807/\z= .str l/\bs=[]
 | .find es key f=>gC P og base z bs (f (dQ es key))
 | .born x v=>z=v/\bs=[x]
 | .call f args=>∃ r new,bM P f (dP (cvtV 0 [] og 5) args) [] (.ret r) new/\z=embV [] base [] 5 r/\bs=iZ base new
 | _=>False
theorem BO {P:Program} {og:Nat->AObj} {VS:AVal->List AObj->Prop} {CS:Fn->List AVal->Prop} {PS:AVal->Prop} {a:List AObj} {b base:Nat} {z:AVal} {bs:List AObj}:∀ {r:OR},Sd VS CS PS a b r->gC P og base z bs r->
  (VS z a/\bs=[])\/(∃ x,VS z (bJ a b x)/\bs=[x])\/∃ f args d new,CS f args/\bM P f (dP (cvtV 0 [] og 5) args) [] (.ret d) new/\z=embV [] base [] 5 d/\bs=iZ base new
 | .no,_,k=>k.elim
 | .val v,h,⟨k1,k2⟩=>.inl ⟨k1▸h,k2⟩
 | .mkf fn fs cs,h,⟨k1,k2⟩=>.inl ⟨k1▸h,k2⟩
 | .need p r,h,k=>BO (h k.1) k.2
 | .alt p v w,h,⟨k1,k2⟩=>by
  rcases k1 with ⟨hp,k⟩ | k
  .exact .inl ⟨k▸h.1 hp,k2⟩
  .exact .inl ⟨k▸h.2,k2⟩
 | .idx n f,h,⟨i,hi,k⟩=>BO (h i hi) k
 | .elem xs i f,h,⟨x,hx,k⟩=>BO (h x hx) k
 | .byte l i,h,⟨c,hc,k1,k2⟩=>.inl ⟨k1▸h c hc,k2⟩
 | .text xs,h,⟨l,hl,hm,k1,k2⟩=>.inl ⟨k1▸h l hl hm,k2⟩
 | .find es key f,h,k=>BO (r:=f (dQ es key)) h k
 | .born x v,h,⟨k1,k2⟩=>.inr (.inl ⟨x,k1▸h,k2⟩)
 | .upd i x v,h,k=>k.elim
 | .nilq xs neg,h,k=>k.elim
 | .call f args,h,⟨r,new,k1,k2,k3⟩=>.inr (.inr ⟨f,args,r,new,h,k1,k2,k3⟩)
 | .pan v,h,k=>k.elim
def IA (z:AVal) (k:Nat) (x:AObj):OR->Prop
 | .need p r=>p/\IA z k x r
 | .idx n f=>∃ i:Nat,n=(i:Int)/\IA z k x (f i)
 | .elem xs i f=>∃ y,xs[i]? =some y/\IA z k x (f y)
 | .find es key f=>IA z k x (f (dQ es key))
 | .upd a x' v=>a=k/\x'=x/\z=v
 | _=>False
theorem uX {VS:AVal->List AObj->Prop} {CS:Fn->List AVal->Prop} {PS:AVal->Prop} {a:List AObj} {base:Nat} {z:AVal} {k:Nat} {x:AObj}:∀ {r:OR},Sd VS CS PS a base r->IA z k x r->VS z (bJ a k x)
 | .no,_,h=>h.elim
 | .val v,_,h=>h.elim
 | .mkf fn fs cs,_,h=>h.elim
 | .need p r,h,u=>uX (h u.1) u.2
 | .alt p v w,_,h=>h.elim
 | .idx n f,h,⟨i,hi,u⟩=>uX (h i hi) u
 | .elem xs i f,h,⟨y,hy,u⟩=>uX (h y hy) u
 | .byte l i,_,h=>h.elim
 | .text xs,_,h=>h.elim
 | .find es key f,h,u=>uX (r:=f (dQ es key)) h u
 | .born x v,_,h=>h.elim
 | .upd i y v,h,⟨e1,e2,e3⟩=>by subst e1 e2 e3;exact h
 | .nilq xs neg,_,h=>h.elim
 | .call f args,_,h=>h.elim
 | .pan v,_,h=>h.elim
theorem lZ {P:Program} {og:Nat->AObj} {b base hint a:Nat} {e:TypeId} {xs:List AVal} {z:AVal}:¬ gC P og b z [] (pD hint base a e xs):=by
 unfold pD
 split<;>(intro h;have:=h.2;cases this)
theorem NZ {P:Program} {og:Nat->AObj} {b:Nat} {c:Bool} {r:OR} {z:AVal} {bs:List AObj} (h:gC P og b z bs (bif c then r else .no)):gC P og b z bs r:=by
 cases c with
 | true=>exact h
 | false=>exact h.elim
theorem YP {P:Program} {E:Env} {og:Nat->AObj} {b base d hint:Nat} {ρ:Operand->AVal} {op:Op} {ty:TypeId} {z:AVal}:gC P og b z [] (lU E hint base og ρ op ty)->gC P og b z [] (lU E hint d og ρ op ty):=by
 have l:∀ (t g:Nat) (x y:AVal),gC P og b z [] (sD E hint base og t g x y)->gC P og b z [] (sD E hint d og t g x y):=by
  intro t g x y
  unfold sD
  split
  .rename_i e a s _ _ _ _
   cases Fq 1 a with
   | false=>exact id
   | true=>
    simp only [cond_true]
    split
    .exact id
    .split
     .split
      .exact id
      .rename_i j _ _
       cases Ar j a with
       | false=>exact id
       | true=>exact fun h=>(lZ h.2).elim
      .rename_i j _ _
       cases Ar j a with
       | false=>exact id
       | true=>
             intro h
             refine ⟨h.1,?_⟩
             have k:=h.2
             clear h
             cases hint with
             | zero=>exact k
             | succ n=>exact (lZ k.2).elim
      .exact id
     .exact fun h=>(lZ h.2).elim
     .exact id
     .exact id
     .exact id
  .exact id
 cases op
 case assign x=>
  simp only [lU]
  split
  .exact id
  .split
   .split
    .split
     .split
      .exact fun h=>(lZ (NZ h)).elim
      .exact id
     .exact id
    .exact id
   .exact id
 case alloc t=>
  simp only [lU]
  split
  .rename_i o _
   cases oO o.zero.cells with
   | false=>exact id
   | true=>intro h;have:=h.2;cases this
  .exact id
 case box t x=>
  simp only [lU]
  cases oO (ρ x).cells with
  | false=>exact id
  | true=>intro h;have:=h.2;cases this
 case buildSlice t n ps=>
  simp only [lU]
  unfold mR
  split
  .rename_i e a _ _ _ _ _
   cases (Ar (aBo (evL ρ ps.toList)) n&&Fq (n*a) 1000&&Fq 1 a) with
   | false=>exact id
   | true=>
    simp only [cond_true]
    split
    .split
     .exact id
     .exact fun h=>(lZ h).elim
    .exact id
  .exact id
 case makeSlice t x y=>
  simp only [lU]
  unfold VG
  split
  .split
   .rename_i p _
    intro h
    cases m:(Fq 1 _&&CK (pureV (fun _=>.dead) 4 p.zero)) with
    | false=>simp_all
    | true=>
     rw [m] at h
     obtain ⟨i,_,_,h⟩:=h
     have:=h.2
     cases this
   .exact id
  .exact id
 case makeMap t x=>
  cases x with
  | some x=>exact id
  | none=>
   simp only [lU]
   split
   .split
    .intro h;have:=h.2;cases this
    .exact id
   .exact id
 case call c=>
  obtain ⟨callee,args,q⟩:=c
  cases callee with
  | value f=>exact id
  | invoke r n=>exact id
  | builtin u=>
   simp only [lU]
   split
   .exact id
   .exact id
   .exact id
   .grind
   .exact id
   .exact id
   .exact id
   .exact id
 all_goals exact id
theorem aGg {P:Program} {og:Nat->AObj} {b:Nat} {z:AVal} {n:Int} {p:Nat->Prop} {x:Nat->AObj} {v:AVal}:¬ gC P og b z [] (.idx n fun y=>.need (p y) (.born (x y) v)):=by
 rintro ⟨i,_,_,h⟩
 have:=h.2
 cases this
theorem aCZ {P:Program} {E:Env} {og:Nat->AObj} {b base a hint:Nat} {ρ:Operand->AVal} {op:Op} {ty:TypeId} {z:AVal}:gC P og b z [] (eop E hint base og ρ op ty)->gC P og b z [] (eop E hint a og ρ op ty):=by
 unfold eop
 have d:(∃ r,kU E hint base og ρ op=some r/\kU E hint a og ρ op=some r)\/(kU E hint base og ρ op=none/\kU E hint a og ρ op=none)\/∃ r,kU E hint base og ρ op=some r/\¬ gC P og b z [] r:=by
  have same:∀ {o:Option OR},kU E hint base og ρ op=o->kU E hint a og ρ op=o->(∃ r,kU E hint base og ρ op=some r/\kU E hint a og ρ op=some r)\/(kU E hint base og ρ op=none/\kU E hint a og ρ op=none)\/∃ r,kU E hint base og ρ op=some r/\¬ gC P og b z [] r:=fun {o} h1 e=>by
   cases o with
   | none=>grind
   | some r=>grind
  cases op with
  | call c=>
   obtain ⟨callee,args,k⟩:=c
   cases callee with
   | value f=>exact same rfl rfl
   | invoke r n=>exact same rfl rfl
   | builtin i=>
    cases i with
    | append=>
     simp only [kU]
     split
     .split
      .refine .inr (.inr ⟨_,rfl,?_⟩)
       unfold VF
       split
       .split
        .intro h
         exact aGg (NZ h)
        .exact fun h=>h.elim
       .exact fun h=>h.elim
      simp
     simp
    | _=>exact same rfl rfl
  | slice t x lo j g=>cases lo<;>cases j<;>cases g<;>exact same rfl rfl
  | _=>exact same rfl rfl
 rcases d with ⟨r,h1,e⟩ | ⟨h1,e⟩ | ⟨r,h1,e⟩
 .grind
 .rw [h1,e];exact YP
 grind
def zZ:List AObj->Nat->List AObj->List AObj
 | obs,_,[]=>obs
 | obs,base,x::r=>zZ (bJ obs base x) (base+1) r
theorem G1 (base:Nat) (a:List AObj):∀ (new:List AObj) (j:Nat) (obs:List AObj),kD [] base a j new obs=zZ obs (base+j) (iZ base new)
 | [],j,obs=>rfl
 | x::r,j,obs=>by
  have e:dN [] base j=base+j:=by rfl
  have b:sM [] base a j x=sM [] base [] 0 x:=by rfl
  simp only [kD,iZ,Bp,zZ]
  rw [G1 base a r (j+1),e,b]
  rfl
theorem qM {P:Program} {j bl:Bool} {d obs:List AObj} {base:Nat} {K Kp:AVal->List AObj->Prop}:∀ {r:OR},orD P false j bl d obs base K Kp r->
  (∃ z bs,(bl=true->bs=[])/\gC P (aE d) base z bs r/\K z (zZ obs base bs))\/∃ z k x,j=true/\aE d k≠ .dead/\IA z k x r/\K z (bJ obs k x)
 | .no,k=>k.elim
 | .val v,k=>.inl ⟨v,[],fun _=>rfl,⟨rfl,rfl⟩,k⟩
 | .mkf fn fs cs,k=>.inl ⟨_,[],fun _=>rfl,⟨rfl,rfl⟩,k⟩
 | .need p r,⟨hp,k⟩=>by
  rcases qM k with ⟨z,bs,b,h1,a⟩ | ⟨z,g,x,b,h1,a,h3⟩
  .exact .inl ⟨z,bs,b,⟨hp,h1⟩,a⟩
  .exact .inr ⟨z,g,x,b,h1,⟨hp,a⟩,h3⟩
 | .alt p v w,k=>by
  rcases k with ⟨hp,k⟩ | k
  .exact .inl ⟨v,[],fun _=>rfl,⟨.inl ⟨hp,rfl⟩,rfl⟩,k⟩
  .exact .inl ⟨w,[],fun _=>rfl,⟨.inr rfl,rfl⟩,k⟩
 | .idx n f,⟨i,hi,k⟩=>by
  rcases qM k with ⟨z,bs,b,h1,a⟩ | ⟨z,g,x,b,h1,a,h3⟩
  .exact .inl ⟨z,bs,b,⟨i,hi,h1⟩,a⟩
  .exact .inr ⟨z,g,x,b,h1,⟨i,hi,a⟩,h3⟩
 | .elem xs i f,⟨y,hy,k⟩=>by
  rcases qM k with ⟨z,bs,b,h1,a⟩ | ⟨z,g,x,b,h1,a,h3⟩
  .exact .inl ⟨z,bs,b,⟨y,hy,h1⟩,a⟩
  .exact .inr ⟨z,g,x,b,h1,⟨y,hy,a⟩,h3⟩
 | .byte l i,⟨c,hc,k⟩=>.inl ⟨_,[],fun _=>rfl,⟨c,hc,rfl,rfl⟩,k⟩
 | .text xs,⟨l,hl,hm,k⟩=>.inl ⟨_,[],fun _=>rfl,⟨l,hl,hm,rfl,rfl⟩,k⟩
 | .find es key f,⟨o,ho,k⟩=>by
  subst ho
  rcases qM k with ⟨z,bs,b,h1,a⟩ | ⟨z,g,x,b,h1,a,h3⟩
  .exact .inl ⟨z,bs,b,h1,a⟩
  .exact .inr ⟨z,g,x,b,h1,a,h3⟩
 | .born x v,k=>by
  cases bl with
  | true=>exact k.elim
  | false=>exact .inl ⟨v,[x],(fun h=>nomatch h),⟨rfl,rfl⟩,k⟩
 | .upd i x v,k=>by
  simp only [orD,Li] at k
  split at k
  .rename_i h
   obtain ⟨h1,a⟩:=aU h
   exact .inr ⟨v,i,x,h1,(fun e=>by rw [e] at a;cases a),⟨rfl,rfl,rfl⟩,k⟩
  grind
 | .nilq xs neg,k=>k.elim
 | .call f args,k=>by
  cases bl with
  | true=>exact k.elim
  | false=>
   have k:CallD P f args false d base obs K Kp:=k
   cases k with
   | pure r new h k=>exact .inl ⟨_,_,(fun h=>nomatch h),⟨r,new,h,rfl,rfl⟩,by rw [G1,Em] at k;rw [aC1] at k;exact k⟩
   | sole h=>cases h
 | .pan v,k=>k.elim
section
variable {P:Program} {E:Env} {M:Imm} {ob:Hs} {L:List AObj} {w:World}
theorem eS (l:List AObj) (k:Nat):(k<l.length/\l[k]? =some (aE l k))\/(l.length<=k/\l[k]? =none/\aE l k= .dead):=by
 by_cases h:k<l.length
 .exact .inl ⟨h,vG h⟩
 .refine .inr ⟨by omega,Bh o_,?_⟩
  cases a:aE l k with
  | dead=>rfl
  | _=>exact absurd (Ad.1 (bG a s_)).1 h
noncomputable def dH (hid:Nat->Prop) (L:List AObj):List AObj:=(Dh L.length).map fun k=>if hid k then .dead else aE L k
theorem FF {hid:Nat->Prop} {k:Nat} (h:k<L.length):(dH hid L)[k]? =some (if hid k then .dead else aE L k):=by
 simp [dH,Dm h]
theorem dU {hid:Nat->Prop}:(dH hid L).length=L.length:=by simp [dH]
theorem gR {hid:Nat->Prop}:SD (dH hid L) L:=⟨dU,fun k=>by
 rcases eS L k with ⟨h,e⟩ | ⟨h,e,_⟩
 .rw [FF h,e]
  grind
 .left;rw [e,Bh (by rw [dU];omega)]⟩
theorem fR {hid:Nat->Prop}:aE (dH hid L)=fun k=>if hid k then .dead else aE L k:=by
 funext k
 rcases eS L k with ⟨h,e⟩ | ⟨h,e,b⟩
 .exact fX (FF h)
 .rcases eS (dH hid L) k with ⟨a,_⟩ | ⟨_,_,c⟩
  .rw [dU] at a;omega
  grind
def SI (M:Imm) (ob:Hs) (L:List AObj) (w:World) (z:AVal) (base:Nat) (bs:List AObj) (e:Ending) (w':World):Prop:=
 ∃ M' ob' L' u,e= .returned u/\Ext M ob L w M' ob' L' w'/\Mem M' ob' L' w'/\aE L'=nJ (aE L) base bs/\L.length<=L'.length/\Rep M' ob' u z/\∀ (k:Nat),¬ inB base bs.length k->(∀ hs,ob[k]? =some hs->hs=[])->∀ hs,ob'[k]? =some hs->hs=[]
theorem aJW (hE:EnvOK E) (hm:Mem M ob L w) {hid:Nat->Prop} {ρv:Operand->Value} {ρ:Operand->AVal} (hρ:∀ x,Rep M ob (ρv x) (ρ x)) {hint base:Nat} {p:Oper} {z:AVal} {bs:List AObj}
  (B:∀ (k:Nat),inB base bs.length k->∀ hs,ob[k]? =some hs->hs=[])
  (h:gC E.P (aE (dH hid L)) base z bs (eop E hint base (aE (dH hid L)) ρ p.op p.type)):pG E.P p ρv w (SI M ob L w z base bs):=by
 obtain ⟨dst,op,ty,pos,i,K⟩:=p
 -- room
 obtain ⟨n,hn⟩:∃ n,base+bs.length+1<=L.length+n/\0<n:=⟨base+bs.length+1,by omega,by omega⟩
 obtain ⟨hn,hn0⟩:=hn
 obtain ⟨A,N,m3⟩:=hm.extend n
 have H:(L++Ai n AObj.dead).length=L.length+n:=by simp
 have W:(ob++Ai n ([]:List Value)).length=L.length+n:=by simp [hm.len]
 generalize hL1:L++Ai n AObj.dead=L1 at A N m3 H
 generalize hO1:ob++Ai n ([]:List Value)=ob1 at A N m3 W
 have D:aE L1=aE L:=by rw [<-hL1];exact CI L n
 have d:∀ k,(∀ hs,ob[k]? =some hs->hs=[])->k<L1.length->ob1[k]? =some []:=fun k l o=>by
  rw [<-hO1]
  by_cases F:k<ob.length
  .rw [Af F,Ab F,l _ (Ab F)]
  .rw [Ak o_,Ew,if_pos (by rw [hm.len] at F⊢;omega)]
 have t:aE (dH hid L1)=aE (dH hid L):=by rw [fR,fR,D]
 -- where it would be born
 obtain ⟨g,y,hbb,m,h⟩:∃ g,ob1[g]? =some []/\(bs≠[]->g=base)/\g<L1.length/\gC E.P (aE (dH hid L)) base z bs (eop E hint g (aE (dH hid L)) ρ op ty):=by
  by_cases U:bs=[]
  .subst U
   exact ⟨L.length,d _ (fun hs s=>by have:=(Ad.1 s).1;rw [hm.len] at this;omega) o_,fun h=>absurd rfl h,by omega,aCZ h⟩
  .have hpos:0<bs.length:=by cases bs<;>simp at U⊢
   exact ⟨base,d base (B base ⟨Ba _,by omega⟩) o_,fun _=>rfl,by omega,h⟩
 have mw:=A.weak (gR (hid:=hid))
 have hb1:(dH hid L1)[g]? =some .dead:=mw.idle y
 have hs:=xR hE mw hb1 y (fun x=>(hρ x).mono (fun _ _ _ h=>h) N.hs) hint op ty
 rw [t] at hs
 have live:∀ {k:Nat} {c:AObj},L1[k]? =some c->(dH hid L1)[k]? =some c\/((dH hid L1)[k]? =some .dead/\(∃ hs,ob1[k]? =some hs/\hs≠[])/\L1[k]? =some c):=fun {k c} C=>by
  rcases (gR (hid:=hid) (L:=L1)).2 k with q | q
  .left;rw [q];exact C
  .by_cases G:c= .dead
   .left;rw [q,G]
   .right;exact ⟨q,A.live C G,C⟩
 have fin:∀ {u:Value} {w':World},SI M ob L w z base bs (.returned u) w'->((execOp ρv ⟨dst,op,ty,pos,i,K⟩).run E.P w= .ok (.value u) w'\/((execOp ρv ⟨dst,op,ty,pos,i,K⟩).run E.P w= .ok .skip w'/\u=undef))->pG E.P ⟨dst,op,ty,pos,i,K⟩ ρv w (SI M ob L w z base bs):=by
  intro u w' ha O
  rcases O with O | ⟨O,rfl⟩
  .exact .inl ⟨u,w',O,ha⟩
  .exact .inr (.inl ⟨w',O,ha⟩)
 rcases BO (P:=E.P) hs h with ⟨⟨u,w',M',ob',vs⟩,rfl⟩ | ⟨x,⟨u,w',M',ob',vs⟩,rfl⟩ | ⟨f,args,r0,new,⟨va,Z,hx⟩,V,rfl,rfl⟩
 .obtain ⟨Q,v2,v3⟩:=A.revive (obs':=L1) (gR (hid:=hid)) vs.ext vs.still vs.mem (by rw [dU]) fun k c C=>live C
  refine fin ⟨M',ob',L1,u,rfl,N.trans v2,Q,?_,by omega,vs.rep,fun k l R hs s=>?_⟩ (vs.run dst pos i K)
  .rw [D]
   funext k
   unfold nJ
   rw [if_neg fun h=>by have:=h.2;have:=h.1;simp at *;omega]
  .have o:k<L1.length:=by rw [<-Q.len];exact (Ad.1 s).1
   have e:=d k R o
   have G:=A.idle e
   have:=(v3 k [] G e).2 rfl G
   rw [s] at this
   cases this
   rfl
 .obtain rfl:base=g:=(hbb s_).symm
  have b:bJ L1 base x=L1.set base x:=gG x m
  have r:bJ (dH hid L1) base x=(dH hid L1).set base x:=gG x (by rw [dU];exact m)
  obtain ⟨Q,v2,v3⟩:=A.revive (obs':=bJ L1 base x) (gR (hid:=hid)) vs.ext vs.still vs.mem (by rw [b,r];simp [dU]) fun k c C=>by
   by_cases l:k=base
   .subst l
    left
    rw [b,Ap m] at C
    rw [r,Ap (by rw [dU];exact m)]
    exact C
   .rw [b,Aw (Eg l)] at C
    rw [r,Aw (Eg l)]
    exact live C
  refine fin ⟨M',ob',bJ L1 base x,u,rfl,N.trans v2,Q,?_,by rw [b];simp;omega,vs.rep,fun k l R hs s=>?_⟩ (vs.run dst pos i K)
  .funext k
   unfold nJ
   by_cases l:k=base
   .subst l
    rw [if_pos ⟨Ba _,by simp⟩,b]
    rw [fX (Ap m)]
    simp
   .rw [if_neg fun h=>l (by have h1:=h.1;have h2:=h.2;simp at h2;omega),<-D,b]
    rcases eS L1 k with ⟨h1,J⟩ | ⟨h1,J,S⟩
    .exact fX (by rw [Aw (Eg l)];exact J)
    .rcases eS (L1.set base x) k with ⟨h3,_⟩ | ⟨_,_,X⟩
     .simp at h3;omega
     .rw [X,S]
  .have hkb:k≠base:=fun e=>l ⟨by omega,by simp;omega⟩
   have o:k<L1.length:=by
    have:=(Ad.1 s).1
    rw [Q.len,b] at this
    simpa using this
   have e:=d k R o
   have G:=A.idle e
   have:=(v3 k [] G e).2 rfl (by rw [b,Aw (Eg hkb)];exact G)
   rw [s] at this
   cases this
   rfl
 .rw [<-t] at V
  have I:=xF (fun v a=>mw.cvtV (n0:=0) (ks:=[]) rfl 5 v a) Z
  have hnl:(iZ base new).length=new.length:=by simp [iZ]
  refine kA.op (fun e w ⟨_,_,_,u,s,_⟩=>by rw [s];simp) (hx dst pos i K) (cW.mono (fun e w' ⟨M',T,x1,x2,Y⟩=>?_) (V M [] w va A.bare I))
  have hin:∀ j,j<new.length->ob1[base+j]? =some []:=fun j hj=>d _ (B _ ⟨by omega,by omega⟩) o_
  obtain ⟨J,S,X⟩:=A.emb0 o_ hin x1 x2
  obtain ⟨q1,q2⟩:=fB L1 (iZ base new) base o_
  obtain ⟨p1,p2⟩:=fB ob1 T base (by rw [x2.len];omega)
  cases e with
  | panicked ch=>exact Y.elim
  | outgrown=>exact Y.elim
  | returned u=>
   refine ⟨M',_,_,u,rfl,N.trans S,J,?_,by omega,X 5 u r0 Y,fun k l R hs s=>?_⟩
   .funext k
    unfold nJ
    by_cases l:inB base (iZ base new).length k
    .rw [if_pos l]
     have o:k-base<(iZ base new).length:=by have:=l.1;have:=l.2;omega
     refine fX ?_
     rw [q2,if_pos (show base<=k/\k<base+(iZ base new).length from l),Ff,Ab o]
     rfl
    .rw [if_neg l,<-D]
     rcases eS L1 k with ⟨h1,J⟩ | ⟨h1,J,S⟩
     .exact fX (by rw [q2,if_neg (show ¬ (base<=k/\k<base+(iZ base new).length) from l)];exact J)
     .rcases eS (L1.take base++iZ base new++L1.drop (base+(iZ base new).length)) k with ⟨h3,_⟩ | ⟨_,_,X⟩
      .omega
      .rw [X,S]
   .rw [p2,if_neg (show ¬ (base<=k/\k<base+T.length) from by rw [x2.len,<-hnl];exact l)] at s
    have o:k<L1.length:=by rw [<-A.len];exact (Ad.1 s).1
    rw [d k R o] at s
    cases s
    rfl
def aD1 (M:Imm) (ob:Hs) (L:List AObj) (w:World) (z:AVal) (k:Nat) (x:AObj) (e:Ending) (w':World):Prop:=
 ∃ M' ob' L' u,e= .returned u/\Ext M ob L w M' ob' L' w'/\Mem M' ob' L' w'/\(aE L'=fun a=>if a=k then x else aE L a)/\L.length<=L'.length/\Rep M' ob' u z/\∀ (a:Nat),(∀ hs,ob[a]? =some hs->hs=[])->∀ hs,ob'[a]? =some hs->hs=[]
theorem aGz (hE:EnvOK E) (hm:Mem M ob L w) {hid:Nat->Prop} {ρv:Operand->Value} {ρ:Operand->AVal} (V:∀ x,Rep M ob (ρv x) (ρ x)) {hint base:Nat} {p:Oper} {z:AVal} {k:Nat} {x:AObj}
  (s:∀ hs,ob[base]? =some hs->hs=[]) (G:aE (dH hid L) k≠ .dead) (h:IA z k x (eop E hint base (aE (dH hid L)) ρ p.op p.type)):pG E.P p ρv w (aD1 M ob L w z k x):=by
 obtain ⟨dst,op,ty,pos,r,U⟩:=p
 obtain ⟨n,hn,W⟩:∃ n,base+1<=L.length+n/\0<n:=⟨base+1,by omega,by omega⟩
 obtain ⟨t,F,S⟩:=hm.extend n
 have o:(L++Ai n AObj.dead).length=L.length+n:=by simp
 have A:(ob++Ai n ([]:List Value)).length=L.length+n:=by simp [hm.len]
 generalize N:L++Ai n AObj.dead=L1 at t F S o
 generalize H:ob++Ai n ([]:List Value)=ob1 at t F S A
 have C:aE L1=aE L:=by rw [<-N];exact CI L n
 have g:∀ k,(∀ hs,ob[k]? =some hs->hs=[])->k<L1.length->ob1[k]? =some []:=fun k G B=>by
  rw [<-H]
  by_cases b:k<ob.length
  .rw [Af b,Ab b,G _ (Ab b)]
  .rw [Ak o_,Ew,if_pos (by rw [hm.len] at b⊢;omega)]
 have d:aE (dH hid L1)=aE (dH hid L):=by rw [fR,fR,C]
 have i:=g base s o_
 have R:=t.weak (gR (hid:=hid))
 have K:(dH hid L1)[base]? =some .dead:=R.idle i
 have hs:=xR hE R K i (fun x=>(V x).mono (fun _ _ _ h=>h) F.hs) hint op ty
 rw [d] at hs
 have live:∀ {k:Nat} {c:AObj},L1[k]? =some c->(dH hid L1)[k]? =some c\/((dH hid L1)[k]? =some .dead/\(∃ hs,ob1[k]? =some hs/\hs≠[])/\L1[k]? =some c):=fun {k c} m=>by
  rcases (gR (hid:=hid) (L:=L1)).2 k with q | q
  .left;rw [q];exact m
  .by_cases y:c= .dead
   .left;rw [q,y]
   .right;exact ⟨q,t.live m y,m⟩
 have b:k<L1.length:=by
  have:=bG (l:=dH hid L1) (n:=k) rfl (by rw [d];exact G)
  have:=(Ad.1 this).1
  rwa [dU] at this
 obtain ⟨u,w',M',ob',vs⟩:=uX hs h
 have f:bJ (dH hid L1) k x=(dH hid L1).set k x:=gG x (by rw [dU];exact b)
 obtain ⟨Q,v2,X⟩:=t.revive (obs':=L1.set k x) (gR (hid:=hid)) vs.ext vs.still vs.mem (by rw [f];simp [dU]) fun j c m=>by
  by_cases a:j=k
  .subst a
   left
   rw [Ap b] at m
   rw [f,Ap (by rw [dU];exact b)]
   exact m
  .rw [Aw (Eg a)] at m
   rw [f,Aw (Eg a)]
   exact live m
 have D:aD1 M ob L w z k x (.returned u) w':=by
  refine ⟨M',ob',L1.set k x,u,rfl,F.trans v2,Q,?_,by simp;omega,vs.rep,fun j Z hs O=>?_⟩
  .funext j
   by_cases a:j=k
   .subst a
    rw [if_pos rfl]
    exact fX (Ap b)
   .rw [if_neg a,<-C]
    rcases eS L1 j with ⟨h1,T⟩ | ⟨h1,T,J⟩
    .exact fX (by rw [Aw (Eg a)];exact T)
    .rcases eS (L1.set k x) j with ⟨h3,_⟩ | ⟨_,_,Y⟩
     .simp at h3;omega
     .rw [Y,J]
  .have B:j<L1.length:=by
    have:=(Ad.1 O).1
    rw [Q.len] at this
    simpa using this
   have e:=g j Z B
   have y:=t.idle e
   have a:j≠k:=fun J=>by
    subst J
    refine G ?_
    rw [<-d,fR]
    dsimp only
    split
    .rfl
    .exact fX y
   have:=(X j [] y e).2 rfl (by rw [Aw (Eg a)];exact y)
   rw [O] at this
   cases this
   rfl
 rcases vs.run dst pos r U with I | ⟨I,rfl⟩
 .exact .inl ⟨u,w',I,D⟩
 .exact .inr (.inl ⟨w',I,D⟩)
end
noncomputable def lF (E:Env) (tab:List Nat) (i:Nat) (d:Option Nat) (s:AS):Nat->AObj:=if blD E d=true then fun _=>.dead else nO tab i s
def Y (E:Env) (all:List Oper) (tab:List Nat) (L0 i:Nat) (p:Oper) (s:AS) (z:AVal) (base:Nat) (bs:List AObj):Prop:=
 L0<=base/\(blD E p.dst=true->bs=[])/\((cC all (evG tab all i s.g) p.guard=some false/\z= .tup []/\bs=[])\/
  (cC all (evG tab all i s.g) p.guard=some true/\gC E.P (lF E tab i p.dst s) base z bs (eop E (eT E p.dst) base (lF E tab i p.dst s) (evG tab all i s.g) p.op p.type)))
def fresh (s:AS) (base:Nat) (bs:List AObj):Prop:=∀ k,inB base bs.length k->∀ i,¬ s.br i k
def WF (L0:Nat) (s:AS):Prop:=∀ k,L0<=k->(∀ i,¬ s.br i k)->s.o k= .dead
def nOp (E:Env) (all:List Oper) (tab:List Nat) (L0 i:Nat) (p:Oper) (K:AS->Prop) (s:AS):Prop:=
 ∃ z base bs,Y E all tab L0 i p s z base bs/\fresh s base bs/\K (s.upd i p.dst z base bs)
section
variable {E:Env} {all:List Oper} {tab:List Nat} {L0:Nat}
theorem GD {j i t:Nat} {q:Oper}:∀ {l:List Oper} {n:Nat},l[i]? =some q->q.dst=some t->loose tab (n+i) j=true->NF tab j t n l=true
 | [],n,h,_,_=>by simp at h
 | x::r,n,h,hd,hl=>by
  cases i with
  | zero=>
   simp at h
   subst h
   rw [Em] at hl
   simp [NF,hd,hl]
  | succ i=>
   have:=GD (l:=r) (n:=n+1) (i:=i) (q:=q) (by simp_all) hd (by rw [show n+1+i=n+(i+1) from by omega];exact hl)
   simp [NF,this]
theorem nX {i j:Nat}:loose tab i j=true↔i≠j/\cL (dG tab j) i=false/\cL (dG tab i) j=false:=by
 simp only [loose,Ag,Eb]
 constructor
 .rintro ⟨⟨h1,a⟩,h3⟩
  exact ⟨fun e=>by simp_all,a,h3⟩
 .rintro ⟨h1,a,h3⟩
  exact ⟨⟨D8 h1,a⟩,h3⟩
theorem oU {i j:Nat} (h:loose tab i j=true):loose tab j i=true:=by
 obtain ⟨h1,a,h3⟩:=nX.1 h
 exact nX.2 ⟨Eg h1,h3,a⟩
theorem JD {i j:Nat} {q:Oper} (a:all[j]? =some q) (hl:loose tab j i=true) (g:Nat->AVal) (z:AVal):evG tab all i (iV g q.dst z)=evG tab all i g:=by
 funext x
 cases x with
 | tmp t=>
  simp only [evG]
  cases b:NF tab i t 0 all with
  | true=>rfl
  | false=>
   simp only [cond_false,iV]
   rw [if_neg]
   intro e
   have:=GD (l:=all) (n:=0) a e q_
   grind
 | _=>rfl
theorem WQ {i j:Nat} (hl:loose tab j i=true) {s:AS} (g:WF L0 s) {d:Option Nat} {z:AVal} {base:Nat} {bs:List AObj} (e:L0<=base) (l:fresh s base bs):nO tab i (s.upd j d z base bs)=nO tab i s:=by
 obtain ⟨_,f,_⟩:=nX.1 hl
 funext k
 unfold nO
 by_cases c:inB base bs.length k
 .have h1:QQ tab i (s.upd j d z base bs).br k:=⟨j,.inr ⟨rfl,c⟩,f⟩
  rw [if_pos h1]
  have m:=g k (Co e c.1) (l k c)
  grind
 .have p:(s.upd j d z base bs).o k=s.o k:=by
   show nJ s.o base bs k=s.o k
   unfold nJ
   grind
  have n:QQ tab i (s.upd j d z base bs).br k↔QQ tab i s.br k:=by
   constructor
   .rintro ⟨a,h | ⟨_,h⟩,b⟩
    .exact ⟨a,h,b⟩
    grind
   .rintro ⟨a,h,b⟩
    exact ⟨a,.inl h,b⟩
  grind
theorem aHK {i j:Nat} {p q:Oper} (h:all[j]? =some q) (hl:loose tab j i=true) {s:AS} (f:WF L0 s) {c:AVal} {a:Nat} {b:List AObj} (d:L0<=a) (k:fresh s a b) {z:AVal} {base:Nat} {bs:List AObj}:
  Y E all tab L0 i p (s.upd j q.dst c a b) z base bs↔Y E all tab L0 i p s z base bs:=by
 have l:evG tab all i (s.upd j q.dst c a b).g=evG tab all i s.g:=JD h hl s.g c
 have e:lF E tab i p.dst (s.upd j q.dst c a b)=lF E tab i p.dst s:=by
  unfold lF
  rw [WQ hl f d k]
 unfold Y
 rw [l,e]
theorem WF.upd {i:Nat} {s:AS} (b:WF L0 s) {d:Option Nat} {z:AVal} {base:Nat} {bs:List AObj}:WF L0 (s.upd i d z base bs):=fun k e a=>by
 have h1:¬ inB base bs.length k:=fun h=>a i (.inr ⟨rfl,h⟩)
 show nJ s.o base bs k= .dead
 unfold nJ
 rw [if_neg h1]
 exact b k e fun c h=>a c (.inl h)
theorem ZR {s:AS} {i j:Nat} {d e:Option Nat} {z f:AVal} {base a:Nat} {bs b:List AObj} (p:∀ t,d=some t->e≠some t) (h:∀ k,inB base bs.length k->¬ inB a b.length k):
  (s.upd i d z base bs).upd j e f a b=(s.upd j e f a b).upd i d z base bs:=by
 have n:iV (iV s.g d z) e f=iV (iV s.g e f) d z:=by
  funext t
  simp only [iV]
  grind
 have l:nJ (nJ s.o base bs) a b=nJ (nJ s.o a b) base bs:=by
  funext k
  unfold nJ
  grind
 have m:(fun c k=>(s.br c k\/(c=i/\inB base bs.length k))\/(c=j/\inB a b.length k))=fun c k=>(s.br c k\/(c=j/\inB a b.length k))\/(c=i/\inB base bs.length k):=by
  funext c k
  grind
 show AS.mk (iV (iV s.g d z) e f) (nJ (nJ s.o base bs) a b) (fun c k=>(s.br c k\/(c=i/\inB base bs.length k))\/(c=j/\inB a b.length k))=_
 rw [n,l,m]
 rfl
theorem aFo {i j:Nat} {p q:Oper} (hp:all[i]? =some p) (v:all[j]? =some q) (hl:loose tab i j=true) (w:∀ t,p.dst=some t->q.dst≠some t) {s:AS} (n:WF L0 s) {z:AVal} {base:Nat} {bs:List AObj}
  (u:Y E all tab L0 i p s z base bs) (r:fresh s base bs) {K:AS->Prop} (h:nOp E all tab L0 j q K (s.upd i p.dst z base bs)):
  nOp E all tab L0 j q (fun s'=>WF L0 s'/\Y E all tab L0 i p s' z base bs/\fresh s' base bs/\K (s'.upd i p.dst z base bs)) s:=by
 obtain ⟨x,a,b,h1,o,h3⟩:=h
 have g:=(aHK (p:=q) hp hl n u.1 r).1 h1
 have e:fresh s a b:=fun k f m c=>o k f m (.inl c)
 have d:∀ k,inB base bs.length k->¬ inB a b.length k:=fun k f l=>o k l i (.inr ⟨rfl,f⟩)
 refine ⟨x,a,b,g,e,n.upd,(aHK (p:=p) v (oU hl) n g.1 e).2 u,fun k f m c=>?_,?_⟩
 .rcases c with c | ⟨_,c⟩
  .exact r k f m c
  simp_all
 .rw [<-ZR w d]
  exact h3
noncomputable def AS.turn (s:AS) (d:Option Nat) (z:AVal) (k:Nat) (x:AObj):AS:=⟨iV s.g d z,fun a=>if a=k then x else s.o a,s.br⟩
def Yu (E:Env) (all:List Oper) (tab:List Nat) (L0 i:Nat) (p:Oper) (s:AS) (z:AVal) (base k:Nat) (x:AObj):Prop:=
 (L0<=base/\∀ i,¬ s.br i base)/\cC all (evG tab all i s.g) p.guard=some true/\nO tab i s k≠ .dead/\IA z k x (eop E (eT E p.dst) base (nO tab i s) (evG tab all i s.g) p.op p.type)
def uOp (E:Env) (all:List Oper) (tab:List Nat) (L0 i:Nat) (p:Oper) (K:AS->Prop) (s:AS):Prop:=
 ∃ z base k x,Yu E all tab L0 i p s z base k x/\K (s.turn p.dst z k x)
theorem AC {s:AS} {i base:Nat} {d:Option Nat} {z:AVal}:s.upd i d z base []=⟨iV s.g d z,s.o,s.br⟩:=by
 unfold AS.upd
 congr 1
 .funext k
  unfold nJ
  rw [if_neg fun h=>by have h1:=h.1;have a:=h.2;grind]
 .funext i' k
  refine propext ⟨fun h=>?_,.inl⟩
  rcases h with h | ⟨_,h⟩
  .exact h
  .have h1:=h.1;have a:=h.2;grind
theorem V9 {g:Nat->AVal} {d a:Option Nat} {z b:AVal} (c:∀ t,d=some t->a≠some t):iV (iV g d z) a b=iV (iV g a b) d z:=by
 funext t
 simp only [iV]
 grind
theorem E8 {s:AS} {i base:Nat} {d a:Option Nat} {z b:AVal} {k:Nat} {x:AObj} (c:∀ t,d=some t->a≠some t):(s.upd i d z base []).turn a b k x=(s.turn a b k x).upd i d z base []:=by
 rw [AC,AC]
 unfold AS.turn
 rw [V9 c]
theorem WF.turn {i:Nat} {s:AS} (f:WF L0 s) {d:Option Nat} {z:AVal} {k:Nat} {x:AObj} (g:nO tab i s k≠ .dead):WF L0 (s.turn d z k x):=fun a h1 c=>by
 have b:a≠k:=fun e=>by
  subst e
  refine g ?_
  unfold nO
  split
  .rfl
  .exact f a h1 c
 show (if a=k then x else s.o a)= .dead
 rw [if_neg b]
 exact f a h1 c
theorem aDV {i j:Nat} {p q:Oper} (c:all[j]? =some q) (hl:loose tab j i=true) (e:blD E p.dst=true) {s:AS} {a:AVal} {k:Nat} {x:AObj} {z:AVal} {base:Nat} {bs:List AObj}:
  Y E all tab L0 i p (s.turn q.dst a k x) z base bs↔Y E all tab L0 i p s z base bs:=by
 have d:evG tab all i (s.turn q.dst a k x).g=evG tab all i s.g:=JD c hl s.g a
 have b:lF E tab i p.dst (s.turn q.dst a k x)=lF E tab i p.dst s:=by
  unfold lF
  grind
 unfold Y
 rw [d,b]
theorem aDU {i j:Nat} {p q:Oper} (c:all[j]? =some q) (hl:loose tab j i=true) {s:AS} {b:AVal} {a:Nat} {z:AVal} {base k:Nat} {x:AObj}:
  Yu E all tab L0 i p (s.upd j q.dst b a []) z base k x↔Yu E all tab L0 i p s z base k x:=by
 rw [AC]
 have d:evG tab all i (iV s.g q.dst b)=evG tab all i s.g:=JD c hl s.g b
 unfold Yu
 rw [d]
 rfl
theorem aEd {i j:Nat} {p q:Oper} (hp:all[i]? =some p) (l:all[j]? =some q) (hl:loose tab i j=true) (e:blD E p.dst=true) (m:∀ t,p.dst=some t->q.dst≠some t) {s:AS} (o:WF L0 s) {z:AVal} {base:Nat} {bs:List AObj}
  (g:Y E all tab L0 i p s z base bs) (u:fresh s base bs) {K:AS->Prop} (h:uOp E all tab L0 j q K (s.upd i p.dst z base bs)):
  uOp E all tab L0 j q (fun s'=>WF L0 s'/\Y E all tab L0 i p s' z base bs/\fresh s' base bs/\K (s'.upd i p.dst z base bs)) s:=by
 obtain rfl:=g.2.1 e
 obtain ⟨r,c,k,x,h1,n⟩:=h
 have d:=(aDU hp hl).1 h1
 refine ⟨r,c,k,x,d,o.turn d.2.2.1,(aDV l (oU hl) e).2 g,fun k f=>by have a:=f.1;have b:=f.2;simp at b;omega,?_⟩
 rw [<-E8 m]
 exact n
theorem aBR {i j:Nat} {p q:Oper} (hp:all[i]? =some p) (l:all[j]? =some q) (hl:loose tab i j=true) (f:blD E q.dst=true) (n:∀ t,p.dst=some t->q.dst≠some t) {s:AS} (r:WF L0 s) {z:AVal} {base k:Nat} {x:AObj}
  (u:Yu E all tab L0 i p s z base k x) {K:AS->Prop} (h:nOp E all tab L0 j q K (s.turn p.dst z k x)):
  nOp E all tab L0 j q (fun s'=>WF L0 s'/\Yu E all tab L0 i p s' z base k x/\K (s'.turn p.dst z k x)) s:=by
 obtain ⟨v,c,m,h1,w,h3⟩:=h
 obtain rfl:=h1.2.1 f
 have d:=(aDV hp hl f).1 h1
 refine ⟨v,c,[],d,fun k g=>by have a:=g.1;have b:=g.2;simp at b;omega,r.upd,(aDU l (oU hl)).2 u,?_⟩
 rw [E8 fun t o e=>n t e o]
 exact h3
def sOp (E:Env) (all:List Oper) (tab:List Nat) (L0 i:Nat) (p:Oper) (Kp:(Nat->AVal)->AVal->List AObj->Prop) (K:AS->Prop) (s:AS):Prop:=
 ∃ obs:List AObj,aE obs=s.o/\L0<=aP obs/\(∀ k,L0<=k->k<aP obs->∃ i,s.br i k)/\(∀ i k,s.br i k->k<aP obs)/\
  ((cC all (evG tab all i s.g) p.guard=some false/\K (s.upd i p.dst (.tup []) L0 []))\/
    (cC all (evG tab all i s.g) p.guard=some true/\orD E.P true true false obs obs (aP obs) (fun v obs'=>aP obs<=aP obs'->K ⟨iV s.g p.dst v,aE obs',fun a k=>s.br a k\/(a=i/\aP obs<=k/\k<aP obs')⟩) (Kp s.g)
     (eop E (eT E p.dst) (aP obs) (aE obs) (evG tab all i s.g) p.op p.type)))
def aOp (E:Env) (ops:Array Oper) (tab:List Nat) (L0:Nat) (Kp:(Nat->AVal)->AVal->List AObj->Prop) (i:Nat) (K:AS->Prop) (s:AS):Prop:=
 ∃ p,ops[i]? =some p/\(((sole tab i 0 ops.toList=true->blD E p.dst=true)/\nOp E ops.toList tab L0 i p K s)\/((FE E tab i 0 ops.toList=true/\blD E p.dst=false)/\uOp E ops.toList tab L0 i p K s)\/
  ((sole tab i 0 ops.toList=true/\blD E p.dst=false)/\sOp E ops.toList tab L0 i p Kp K s))
def wpA (E:Env) (ops:Array Oper) (tab:List Nat) (L0:Nat) (Kp:(Nat->AVal)->AVal->List AObj->Prop) (Q:AS->Prop):Nat->Array Bool->AS->Prop
 | 0,listed,s=>Dx .any ops listed=[]/\Q s
 | fuel+1,listed,s=>(Dx .any ops listed=[]->Q s)/\∀ i∈Dx .any ops listed,aOp E ops tab L0 Kp i (wpA E ops tab L0 Kp Q fuel (listed.setIfInBounds i true)) s
end
section
variable {E:Env} {ops:Array Oper} {tab:List Nat} {L0:Nat} {Kp:(Nat->AVal)->AVal->List AObj->Prop} {Q:AS->Prop}
theorem EG {i:Nat} {K c:AS->Prop} {s:AS} (d:∀ s,K s->c s) (h:aOp E ops tab L0 Kp i K s) (f:sole tab i 0 ops.toList=false):aOp E ops tab L0 Kp i c s:=by
 obtain ⟨p,h1,⟨a,z,base,bs,h3,b,e⟩ | ⟨a,z,base,k,x,h3,b⟩ | ⟨a,_⟩⟩:=h
 .exact ⟨p,h1,.inl ⟨a,z,base,bs,h3,b,d _ e⟩⟩
 .exact ⟨p,h1,.inr (.inl ⟨a,z,base,k,x,h3,d _ b⟩)⟩
 grind
def nH (tab:List Nat) (a:Array Bool):Prop:=∀ j i,a.getD j false=true->cL (dG tab j) i=true->a.getD i false=true
theorem tH {E:Env} {tab:List Nat} {j:Nat}:∀ {l:List Oper} {n:Nat},FE E tab j n l=true->∀ (i:Nat) q,l[i]? =some q->loose tab (n+i) j=true->blD E q.dst=true
 | [],_,_,i,q,hi,_=>by simp at hi
 | x::r,n,h,i,q,hi,hl=>by
  simp only [FE,Ag,Hr,Eb] at h
  cases i with
  | zero=>
   grind
  | succ i=>exact tH h.2 i q (by simp_all) (by grind)
def SE (E:Env) (ops:Array Oper) (tab:List Nat) (i:Nat) (d:Option Nat):Prop:=∀ (a:Array Bool) (j:Nat),nH tab a->i∈Dx .any ops a->j∈Dx .any ops a->j≠i->
   nH tab (a.setIfInBounds j true)/\sole tab j 0 ops.toList=false/\loose tab i j=true/\∀ q,ops[j]? =some q->∀ t,d=some t->q.dst≠some t
theorem aCB {i:Nat} {p:Oper} {z:AVal} {base:Nat} {bs:List AObj} (L:ops[i]? =some p) (y:sole tab i 0 ops.toList=true->blD E p.dst=true) (d:SE E ops tab i p.dst):
  ∀ (c:Nat) (a:Array Bool) (s:AS),nH tab a->WF L0 s->i∈Dx .any ops a->Y E ops.toList tab L0 i p s z base bs->fresh s base bs->
   wpA E ops tab L0 Kp Q c (a.setIfInBounds i true) (s.upd i p.dst z base bs)->wpA E ops tab L0 Kp Q (c+1) a s:=by
 have l:∀ {K:AS->Prop} {s:AS},Y E ops.toList tab L0 i p s z base bs->fresh s base bs->K (s.upd i p.dst z base bs)->aOp E ops tab L0 Kp i K s:=fun g f J=>⟨p,L,.inl ⟨y,z,base,bs,g,f,J⟩⟩
 intro c
 induction c with
 | zero=>
  intro a s F o e g f H
  refine ⟨fun h=>(by simp_all),fun j n=>?_⟩
  by_cases b:j=i
  .simp_all
  .have:=ready_mono n b
   rw [H.1] at this
   cases this
 | succ c C=>
  intro a s F o e g f H
  refine ⟨fun h=>(by rw [h] at e;cases e),fun j n=>?_⟩
  by_cases b:j=i
  .subst b;exact l g f H
  .have h1:=H.2 j (ready_mono n b)
   obtain ⟨D,w,B,A⟩:=d a j F e n b
   obtain ⟨q,m,⟨u,M⟩ | ⟨k,I⟩ | ⟨hs,_⟩⟩:=h1
   .have:=aFo q_ q_ B (A q m) o g f M
    refine EG (fun s' ⟨x,r,v,t⟩=>C (a.setIfInBounds j true) s' D x (ready_mono e (Eg b)) r v ?_) ⟨q,m,.inl ⟨u,this⟩⟩ w
    rw [Ix _ _ b]
    exact t
   .have G:blD E p.dst=true:=tH k.1 i p q_ q_
    have:=aEd q_ q_ B G (A q m) o g f I
    refine EG (fun s' ⟨x,r,v,t⟩=>C (a.setIfInBounds j true) s' D x (ready_mono e (Eg b)) r v ?_) ⟨q,m,.inr (.inl ⟨k,this⟩)⟩ w
    rw [Ix _ _ b]
    exact t
   .rw [w] at hs;cases hs.1
theorem aJs {i:Nat} {p:Oper} {z:AVal} {base k:Nat} {x:AObj} (F:ops[i]? =some p) (l:FE E tab i 0 ops.toList=true/\blD E p.dst=false) (d:SE E ops tab i p.dst):
  ∀ (b:Nat) (a:Array Bool) (s:AS),nH tab a->WF L0 s->i∈Dx .any ops a->Yu E ops.toList tab L0 i p s z base k x->
   wpA E ops tab L0 Kp Q b (a.setIfInBounds i true) (s.turn p.dst z k x)->wpA E ops tab L0 Kp Q (b+1) a s:=by
 have y:∀ {K:AS->Prop} {s:AS},Yu E ops.toList tab L0 i p s z base k x->K (s.turn p.dst z k x)->aOp E ops tab L0 Kp i K s:=fun n B=>⟨p,F,.inr (.inl ⟨l,z,base,k,x,n,B⟩)⟩
 intro b
 induction b with
 | zero=>
  intro a s w t o n H
  refine ⟨fun h=>(by simp_all),fun j m=>?_⟩
  by_cases c:j=i
  .simp_all
  .have:=ready_mono m c
   rw [H.1] at this
   cases this
 | succ b G=>
  intro a s w t o n H
  refine ⟨fun h=>(by simp_all),fun j m=>?_⟩
  by_cases c:j=i
  .subst c;simp_all
  .have h1:=H.2 j (ready_mono m c)
   obtain ⟨J,v,u,A⟩:=d a j w o m c
   have e:∀ q,ops[j]? =some q->blD E q.dst=true:=fun q g=>tH l.1 j q q_ (by rw [Bw];exact oU u)
   obtain ⟨q,g,⟨r,I⟩ | ⟨f,M⟩ | ⟨hs,_⟩⟩:=h1
   .have:=aBR q_ q_ u (e q g) (A q g) t n I
    refine EG (fun s' ⟨L,C,D⟩=>G (a.setIfInBounds j true) s' J L (ready_mono o (Eg c)) C ?_) ⟨q,g,.inl ⟨r,this⟩⟩ v
    rw [Ix _ _ c]
    exact D
   .rw [e q g] at f;cases f.2
   .rw [v] at hs;cases hs.1
end
def jE (fr:List (Nat×AVal)) (obs:List AObj) (br:List (Nat×Nat)):AS:=⟨aW fr,aE obs,fun i k=>(i,k)∈br⟩
theorem fG (fr:List (Nat×AVal)) (d:Option Nat) (v:AVal):aW (mX fr d v)=iV (aW fr) d v:=by
 funext t
 cases d with
 | none=>rfl
 | some d=>
  simp only [mX,iV,rY,Fj]
  grind
theorem FT (l:List AObj) (n k:Nat) (x:AObj):aE (bJ l n x) k=if k=n then x else aE l k:=by
 induction l generalizing n k with
 | nil=>
  induction n generalizing k with
  | zero=>cases k<;>rfl
  | succ n a=>
   cases k with
   | zero=>rfl
   | succ k=>show aE (bJ [] n x) k=_;rw [a];simp [aE]
 | cons y r a=>
  cases n with
  | zero=>cases k<;>simp [bJ,aE]
  | succ n=>
   cases k with
   | zero=>rfl
   | succ k=>simp only [bJ,aE,a];simp
theorem XS (ks:List Nat) (obs:List AObj) (k:Nat):aE (pR ks obs) k=if k∈ks then .dead else aE obs k:=by
 induction ks generalizing obs with
 | nil=>simp [pR]
 | cons x r a=>
  simp only [pR,a,FT,Au]
  grind
theorem vS {tab:List Nat} {j k:Nat}:∀ {br:List (Nat×Nat)},k∈EU tab j br↔ ∃ i,(i,k)∈br/\cL (dG tab j) i=false
 | []=>by simp [EU]
 | (i,k')::r=>by
  simp only [EU]
  cases h:cL (dG tab j) i with
  | true=>
   simp only [cond_true,vS (br:=r),Au,Prod.mk.injEq]
   grind
  | false=>
   simp only [cond_false,Au,vS (br:=r),Prod.mk.injEq]
   grind
theorem aEB (tab:List Nat) (j:Nat) (fr:List (Nat×AVal)) (obs:List AObj) (br:List (Nat×Nat)):aE (pR (EU tab j br) obs)=nO tab j (jE fr obs br):=by
 funext k
 rw [XS]
 unfold nO
 have:k∈EU tab j br↔QQ tab j (jE fr obs br).br k:=vS
 by_cases h:k∈EU tab j br
 .grind
 .rw [if_neg h,if_neg fun e=>h (this.2 e)];rfl
theorem OC (bs:List AObj):∀ (obs:List AObj),zZ obs obs.length bs=obs++bs:=by
 induction bs with
 | nil=>intro obs;simp [zZ]
 | cons x r a=>
  intro obs
  simp only [zZ,MH]
  have:=a (obs++[x])
  grind
theorem qP (n:Nat):∀ (l:List AObj),hJ n l=l.drop n:=by
 induction n with
 | zero=>intro l;rfl
 | succ n a=>intro l;cases l with
  | nil=>rfl
  | cons x r=>simp [hJ,a]
theorem oD {j i k:Nat}:∀ {l:List AObj} {base:Nat} {br:List (Nat×Nat)},(i,k)∈born j base l br↔(i,k)∈br\/(i=j/\inB base l.length k)
 | [],base,br=>by simp [born,inB];omega
 | x::r,base,br=>by
  have a:=oD (j:=j) (i:=i) (k:=k) (l:=r) (base:=base+1) (br:=br)
  have e:born j base (x::r) br=(j,base)::born j (base+1) r br:=rfl
  have hm:(i,k)∈(j,base)::born j (base+1) r br↔((i=j/\k=base)\/(i,k)∈br)\/(i=j/\inB (base+1) r.length k):=by grind
  rw [e,hm]
  unfold inB
  rw [Bq]
  constructor
  .grind
  grind
theorem uG {rest:List Oper} {n:Nat} {d:Option Nat} {fr:List (Nat×AVal)} {v:AVal} {k:List (Nat×AVal)->Prop} (h:wrP rest n d fr v k):k (mX fr d v):=by
 unfold wrP at h
 cases d with
 | none=>exact h
 | some d=>
  dsimp only at h
  cases a:vQ n rest with
  | false=>rw [a] at h;exact h
  | true=>
   rw [a] at h
   simp only [cond_true] at h
   split at h
   .rename_i b
    cases b with
    | true=>exact h.1 rfl
    | false=>exact h.2 rfl
   grind
theorem aDT (fr:List (Nat×AVal)) (obs:List AObj) (br:List (Nat×Nat)) (n:Nat) (d:Option Nat) (z:AVal) (bs:List AObj):
  jE (mX fr d z) (zZ obs (aP obs) bs) (born n (aP obs) (hJ (aP obs) (zZ obs (aP obs) bs)) br)=(jE fr obs br).upd n d z (aP obs) bs:=by
 rw [bI,OC,qP,List.drop_left]
 unfold jE AS.upd
 rw [fG]
 congr 1
 .funext k
  show _=nJ (aE obs) obs.length bs k
  unfold nJ
  by_cases h:inB obs.length bs.length k
  .rw [if_pos h]
   have a:k-obs.length<bs.length:=by have:=h.1;have:=h.2;omega
   refine fX ?_
   rw [Ak h.1,Ff,Ab a]
   rfl
  .rw [if_neg h]
   by_cases b:k<obs.length
   .rcases eS obs k with ⟨h1,e⟩ | ⟨h1,_⟩
    .exact fX (by rw [Af b];exact e)
    .omega
   .have f:obs.length+bs.length<=k:=by
     refine Nat.le_of_not_lt fun c=>h ⟨by omega,c⟩
    rcases eS (obs++bs) k with ⟨h1,_⟩ | ⟨_,_,e⟩
    .grind
    .rcases eS obs k with ⟨h1,_⟩ | ⟨_,_,g⟩
     .omega
     grind
 .funext i k
  exact propext oD
structure LI (L0 n:Nat) (obs:List AObj) (br:List (Nat×Nat)):Prop where
 low:L0<=aP obs
 all:∀ k,L0<=k->k<aP obs->∃ i,(i,k)∈br
 lt:∀ i k,(i,k)∈br->k<aP obs/\i<n
theorem LI.wf {L0 n:Nat} {obs:List AObj} {br:List (Nat×Nat)} (h:LI L0 n obs br) (fr:List (Nat×AVal)):WF L0 (jE fr obs br):=fun k a c=>by
 rcases eS obs k with ⟨h1,_⟩ | ⟨_,_,e⟩
 .obtain ⟨i,b⟩:=h.all k a (by rw [bI];exact h1)
  exact absurd b (c i)
 .exact e
theorem LI.put {L0 n:Nat} {obs:List AObj} {br:List (Nat×Nat)} (h:LI L0 n obs br) {obs':List AObj} (hl:aP obs<=aP obs'):LI L0 (n+1) obs' (born n (aP obs) (hJ (aP obs) obs') br):=by
 have f:(hJ (aP obs) obs').length=aP obs'-aP obs:=by rw [qP,Fh,bI obs']
 refine ⟨Co h.low hl,fun k h1 e=>?_,fun i k c=>?_⟩
 .by_cases c:k<aP obs
  .obtain ⟨i,d⟩:=h.all k h1 c
   exact ⟨i,oD.2 (.inl d)⟩
  .exact ⟨n,oD.2 (.inr ⟨rfl,by omega,by omega⟩)⟩
 .rcases oD.1 c with c | ⟨rfl,h1,e⟩
  .obtain ⟨a,b⟩:=h.lt i k c
   omega
  omega
theorem CallG.mono {P:Program} {f:Fn} {args:List AVal} {obs:List AObj} {K c Kp:AVal->List AObj->Prop} (d:∀ v o,K v o->c v o) (h:CallG P f args obs K Kp):CallG P f args obs c Kp:=by
 cases h with
 | pure r new h k=>exact .pure r new h (d _ _ k)
 | eff b ks r obs' a h k=>exact .eff b ks r obs' a h (d _ _ k)
 | effp b ks r obs' a h k=>exact .effp b ks r obs' a h k
 | pan r h k=>exact .pan r h k
theorem qN {P:Program} {e j bl:Bool} {a obs:List AObj} {base:Nat} {K g Kp:AVal->List AObj->Prop} (d:∀ v o,K v o->g v o):∀ {r:OR},orD P e j bl a obs base K Kp r->orD P e j bl a obs base g Kp r
 | .no,k=>k.elim
 | .val v,k=>d _ _ k
 | .mkf fn fs cs,k=>d _ _ k
 | .need p r,k=>⟨k.1,qN d k.2⟩
 | .alt p v w,k=>k.imp (fun h=>⟨h.1,d _ _ h.2⟩) (d _ _)
 | .idx n f,⟨i,hi,k⟩=>⟨i,hi,qN d k⟩
 | .elem xs i f,⟨x,hx,k⟩=>⟨x,hx,qN d k⟩
 | .byte l i,⟨c,hc,k⟩=>⟨c,hc,d _ _ k⟩
 | .text xs,⟨l,hl,hm,k⟩=>⟨l,hl,hm,d _ _ k⟩
 | .find es key f,⟨o,ho,k⟩=>⟨o,ho,qN d k⟩
 | .born x v,k=>by cases bl with
  | true=>exact k.elim
  | false=>exact d _ _ k
 | .upd i x v,k=>by
  simp only [orD] at k⊢
  grind
 | .nilq xs neg,k=>by cases e with
  | true=>exact fun b m=>d _ _ (k b m)
  | false=>exact k.elim
 | .call f args,k=>by
  cases bl with
  | true=>exact k.elim
  | false=>
   have k:CallD P f args e a base obs K Kp:=k
   show CallD P f args e a base obs g Kp
   cases k with
   | pure r new h k=>exact .pure r new h (d _ _ k)
   | sole h1 q=>exact .sole h1 (q.mono d)
 | .pan v,k=>by cases e with
  | true=>exact k
  | false=>exact k.elim
theorem CC {P:Program} {b bl:Bool} {a obs:List AObj} {base:Nat} {K Kp:AVal->List AObj->Prop}:∀ {r:OR},orD P true b bl a obs base K Kp r->orD P true true bl a obs base K Kp r
 | .no,k=>k
 | .val v,k=>k
 | .mkf fn fs cs,k=>k
 | .need p r,k=>⟨k.1,CC k.2⟩
 | .alt p v w,k=>k
 | .idx n f,⟨i,hi,k⟩=>⟨i,hi,CC k⟩
 | .elem xs i f,⟨x,hx,k⟩=>⟨x,hx,CC k⟩
 | .byte l i,k=>k
 | .text xs,k=>k
 | .find es key f,⟨o,ho,k⟩=>⟨o,ho,CC k⟩
 | .born x v,k=>k
 | .upd i x v,k=>k
 | .nilq xs neg,k=>k
 | .call f args,k=>k
 | .pan v,k=>k
theorem ZH (fr:List (Nat×AVal)) (obs:List AObj) (br:List (Nat×Nat)) (n:Nat) (d:Option Nat) (z:AVal) (k:Nat) (x:AObj) (a:k<aP obs):
  jE (mX fr d z) (bJ obs k x) (born n (aP obs) (hJ (aP obs) (bJ obs k x)) br)=(jE fr obs br).turn d z k x:=by
 have hl:(bJ obs k x).length=obs.length:=by rw [gG _ (by rwa [bI] at a)];simp
 have e:hJ (aP obs) (bJ obs k x)=[]:=by rw [qP,bI,<-hl];simp
 rw [e]
 unfold jE AS.turn
 rw [fG]
 congr 1
 funext k'
 exact FT obs k k' x
structure TabSp (ops:Array Oper) (tab:List Nat):Prop where
 back:∀ (j:Nat) p,ops[j]? =some p->∀ e∈p.after,Jm .any e=true->e.on<j
 less:∀ i j,cL (dG tab i) j=true->j<i
 step:∀ (j:Nat) p,ops[j]? =some p->∀ i,cL (dG tab j) i=true->∃ e∈p.after,Jm .any e=true/\(e.on=i\/cL (dG tab e.on) i=true)
 out:∀ j i,cL (dG tab j) i=true->j<ops.size
 dst:∀ (i j:Nat) p q,ops[i]? =some p->ops[j]? =some q->loose tab i j=true->∀ t,p.dst=some t->q.dst≠some t
theorem rM {tab:List Nat} {j:Nat}:∀ {l:List Oper} {n:Nat},sole tab j n l=true->∀ i,i<l.length->loose tab (n+i) j=false
 | [],_,_,i,hi=>by simp at hi
 | x::r,n,h,i,hi=>by
  simp only [sole,Ag,Eb] at h
  cases i with
  | zero=>exact h.1
  | succ i=>
   have:=rM h.2 i (by grind)
   grind
section
variable {E:Env} {ops:Array Oper} {tab:List Nat} {L0:Nat} {Kp:(Nat->AVal)->AVal->List AObj->Prop} {Kq:List (Nat×AVal)->List AObj->Prop}
theorem nH.step (n:TabSp ops tab) {a:Array Bool} (l:nH tab a) {j:Nat} (m:j∈Dx .any ops a):nH tab (a.setIfInBounds j true)/\∀ i,cL (dG tab j) i=true->a.getD i false=true:=by
 obtain ⟨_,p,hp,b⟩:=mem_ready.1 m
 have key:∀ i,cL (dG tab j) i=true->a.getD i false=true:=fun i o=>by
  obtain ⟨e,f,d,h | h⟩:=n.step j p hp i o
  .subst h;exact b e f d
  .exact l e.on i (b e f d) h
 refine ⟨fun g i h1 k=>getD_set_true ?_,key⟩
 by_cases c:j=g
 .subst c;exact key i k
 .rw [getD_set_ne false c] at h1
  exact l g i h1 k
theorem qI (f:TabSp ops tab) {a:Array Bool} (g:nH tab a) {i j:Nat} (l:i∈Dx .any ops a) (m:j∈Dx .any ops a) (d:i≠j):loose tab i j=true:=by
 have e:∀ {k:Nat},k∈Dx .any ops a->a.getD k false=true->False:=fun {k} hk h=>by
  obtain ⟨n,p,hp,_⟩:=mem_ready.1 hk
  rw [Bi] at n h
  cases c:a[k]? with
  | none=>simp_all
  | some b=>simp_all
 refine nX.2 ⟨d,?_,?_⟩
 .cases c:cL (dG tab j) i with
  | false=>rfl
  | true=>exact (e l ((g.step f m).2 i c)).elim
 .cases c:cL (dG tab i) j with
  | false=>rfl
  | true=>exact (e m ((g.step f l).2 j c)).elim
def Qf (L0:Nat) (Kq:List (Nat×AVal)->List AObj->Prop) (s:AS):Prop:=∃ fr obs br n,s=jE fr obs br/\LI L0 n obs br/\Kq fr obs
theorem aFC (F:TabSp ops tab):∀ (l:List Oper) (n:Nat) (a:Array Bool) (br:List (Nat×Nat)) (fr:List (Nat×AVal)) (obs:List AObj),
  l=ops.toList.drop n->(∀ j,j<ops.size->a[j]? =some (decide (j<n)))->a.size=ops.size->LI L0 n obs br->iN E ops.toList tab Kq Kp n l br fr obs->
  wpA E ops tab L0 Kp (Qf L0 Kq) l.length a (jE fr obs br)
 | [],n,a,br,fr,obs,hl,hlist,hsz,hI,h=>by
  refine ⟨?_,fr,obs,br,n,rfl,hI,h⟩
  have K:ops.size<=n:=by
   simp_all
  refine Hn.2 fun j I=>?_
  obtain ⟨h0,q,B,_⟩:=mem_ready.1 I
  have D:=(Fc.1 B).1
  rw [Bi,hlist j D] at h0
  simp at h0
  omega
 | p::l,n,a,br,fr,obs,hl,hlist,hsz,hI,h=>by
  have t:ops[n]? =some p:=by
   have:(ops.toList.drop n)[0]? =some p:=by grind
   simpa using this
  have Y:n<ops.size:=(Fc.1 t).1
  have M:l=ops.toList.drop (n+1):=by
   rw [<-Ig,<-hl];rfl
  have D:∀ j,a.getD j false=true↔j<n:=by
   intro j
   rw [Bi]
   by_cases I:j<ops.size
   .simp_all
   .rw [Lu o_]
    simp;omega
  have f:nH tab a:=fun j i h1 y=>(D i).2 (Mq (F.less j i y) ((D j).1 h1))
  have c:n∈Dx .any ops a:=by
   refine mem_ready.2 ⟨?_,p,t,fun e he N=>(D _).2 (F.back n p t e he N)⟩
   rw [Bi,hlist n Y];simp
  have r:∀ j,j<ops.size->(a.setIfInBounds n true)[j]? =some (decide (j<n+1)):=by
   intro j I
   by_cases U:n=j
   .subst U
    rw [Es o_]
    simp
   .rw [Ez U,hlist j I]
    simp;omega
  have G:(a.setIfInBounds n true).size=ops.size:=by simp;omega
  have hw:=hI.wf fr
  have L:∀ {bs:List AObj},fresh (jE fr obs br) (aP obs) bs:=fun {bs} k K i N=>by
   have:=(hI.lt i k N).1
   have:=K.1
   omega
  have ahead:∀ {i:Nat},i<ops.size->i∈Dx .any ops a->i≠n->loose tab n i=true:=fun _ hi H=>qI F f c hi (Eg H)
  simp only [iN] at h
  rw [aJI] at h
  -- on,where the operation bears bs at the end
  have on:∀ {z:AVal} {bs:List AObj},iN E ops.toList tab Kq Kp (n+1) l (born n (aP obs) (hJ (aP obs) (zZ obs (aP obs) bs)) br) (mX fr p.dst z) (zZ obs (aP obs) bs)->
    wpA E ops tab L0 Kp (Qf L0 Kq) l.length (a.setIfInBounds n true) ((jE fr obs br).upd n p.dst z (aP obs) bs):=fun {z bs} Z=>by
   rw [<-aDT]
   refine aFC F l (n+1) _ _ _ _ M r G (hI.put ?_) Z
   rw [bI,bI,OC]
   simp
  have nil0:zZ obs (aP obs) []=obs:=rfl
  have brn:born n (aP obs) (hJ (aP obs) obs) br=br:=by
   have:hJ (aP obs) obs=[]:=by rw [qP,bI];simp
   rw [this]
   rfl
  have skip:iN E ops.toList tab Kq Kp (n+1) l br (mX fr p.dst (.tup [])) obs->wpA E ops tab L0 Kp (Qf L0 Kq) l.length (a.setIfInBounds n true) ((jE fr obs br).upd n p.dst (.tup []) (aP obs) []):=fun Z=>on (by rw [nil0,brn];exact Z)
  have oth:(∀ j,ops[j]?≠none->loose tab n j=true->sole tab j 0 ops.toList=false)->SE E ops tab n p.dst:=fun h W j hc' hi' Q H=>by
   have d:=qI F hc' hi' Q (Eg H)
   obtain ⟨_,q,B,_⟩:=mem_ready.1 Q
   exact ⟨(hc'.step F Q).1,h j (by rw [B];simp) d,d,fun q B=>F.dst n j p q t B d⟩
  have J:∀ j,ops[j]?≠none->loose tab n j=true->sole tab j 0 ops.toList=false:=fun j I d=>by
   cases B:sole tab j 0 ops.toList with
   | false=>rfl
   | true=>
    have:=rM B n o_
    rw [Bw,d] at this
    cases this
  have s:=oth J
  -- where an object is turned
  have onU:∀ {z:AVal} {k:Nat} {x:AObj},k<aP obs->iN E ops.toList tab Kq Kp (n+1) l (born n (aP obs) (hJ (aP obs) (bJ obs k x)) br) (mX fr p.dst z) (bJ obs k x)->
    wpA E ops tab L0 Kp (Qf L0 Kq) l.length (a.setIfInBounds n true) ((jE fr obs br).turn p.dst z k x):=fun {z k x} K Z=>by
   rw [<-ZH fr obs br n p.dst z k x K]
   refine aFC F l (n+1) _ _ _ _ M r G (hI.put ?_) Z
   rw [bI,bI,gG _ (by rwa [bI] at K)]
   simp
  have C:(sole tab n 0 ops.toList=true->blD E p.dst=true)->(cC ops.toList (evG tab ops.toList n (aW fr)) p.guard=some true->
    orD E.P false (uoN E tab ops.toList n p.dst) (blD E p.dst) (pH E tab n br obs p.dst) obs (aP obs) (fun v obs'=>wrP l n p.dst fr v fun fr=>iN E ops.toList tab Kq Kp (n+1) l (born n (aP obs) (hJ (aP obs) obs') br) fr obs') (Kp (aW fr))
     (eop E (eT E p.dst) (aP obs) (aE (pH E tab n br obs p.dst)) (evG tab ops.toList n (aW fr)) p.op p.type))->
    (cC ops.toList (evG tab ops.toList n (aW fr)) p.guard=some false->iN E ops.toList tab Kq Kp (n+1) l br (mX fr p.dst (.tup [])) obs)->
    cC ops.toList (evG tab ops.toList n (aW fr)) p.guard≠none->wpA E ops tab L0 Kp (Qf L0 Kq) (l.length+1) a (jE fr obs br):=fun hs1 h1 y h3=>by
   have w:aE (pH E tab n br obs p.dst)=lF E tab n p.dst (jE fr obs br):=by
    unfold pH lF
    cases m:blD E p.dst with
    | true=>rfl
    | false=>simp only [cond_false];rw [if_neg s_];exact aEB tab n fr obs br
   cases o:cC ops.toList (evG tab ops.toList n (aW fr)) p.guard with
   | none=>simp_all
   | some b=>
    cases b with
    | false=>exact aCB t hs1 s l.length a _ f hw c (z:=.tup []) (base:=aP obs) (bs:=[]) ⟨hI.low,fun _=>rfl,.inl ⟨o,rfl,rfl⟩⟩ L (skip (y o))
    | true=>
     have h:=h1 o
     rcases qM h with ⟨z,bs,q0,R,q2⟩ | ⟨z,k,x,q0,R,q2,q3⟩
     .rw [w] at R
      exact aCB t hs1 s l.length a _ f hw c ⟨hI.low,q0,.inr ⟨o,R⟩⟩ L (on (uG q2))
     .obtain ⟨u1,u2⟩:=aU q0
      have m:blD E p.dst=false:=by simpa using u2
      have e:lF E tab n p.dst (jE fr obs br)=nO tab n (jE fr obs br):=by
              unfold lF
              rw [m,if_neg s_]
      rw [w,e] at R q2
      have hkl:k<aP obs:=by
              refine Nat.lt_of_not_le fun hge=>R ?_
              unfold nO
              split
              .rfl
              .rcases eS obs k with ⟨h1,_⟩ | ⟨_,_,e⟩
               .rw [bI] at hge;omega
               .exact e
      exact aJs t ⟨u1,m⟩ s l.length a _ f hw c ⟨⟨hI.low,fun i N=>by have:=(hI.lt i _ N).1;omega⟩,o,R,q2⟩ (onU hkl (uG q3))
  have T:cC ops.toList (evG tab ops.toList n (aW fr)) p.guard≠none:=fun e=>by simp_all
  have u:cC ops.toList (evG tab ops.toList n (aW fr)) p.guard=some false->iN E ops.toList tab Kq Kp (n+1) l br (mX fr p.dst (.tup [])) obs:=fun e=>by rw [e] at h;exact h
  cases m:blD E p.dst with
  | true=>
   refine C (fun _=>m) (fun e=>?_) u T
   rw [e] at h
   have:soN E tab ops.toList n p.dst=false:=by simp [soN,m]
   rw [this] at h
   exact h
  | false=>
  cases A:sole tab n 0 ops.toList with
  | false=>
   refine C (fun e=>by rw [A] at e;cases e) (fun e=>?_) u T
   rw [e] at h
   have:soN E tab ops.toList n p.dst=false:=by simp [soN,A]
   rw [this] at h
   exact h
  | true=>
   have X:∀ j,j∈Dx .any ops a->j=n:=fun j I=>by
    refine Ld fun H=>?_
    have d:=qI F f I c H
    obtain ⟨_,q,B,_⟩:=mem_ready.1 I
    have hjlt:=(Fc.1 B).1
    have:=rM A j o_
    rw [Bw,d] at this
    cases this
   have S:EU tab n br=[]:=by
    refine Hn.2 fun k K=>?_
    obtain ⟨i,h1,y⟩:=vS.1 K
    have hin:=(hI.lt i k h1).2
    have:=rM A i q_
    rw [Bw] at this
    have hl2:loose tab i n=true:=nX.2 ⟨by omega,y,by
     cases B:cL (dG tab i) n with
     | false=>rfl
     | true=>have:=F.less i n B;omega⟩
    rw [hl2] at this
    cases this
   have O:pH E tab n br obs p.dst=obs:=by unfold pH;rw [m,S];rfl
   have V:soN E tab ops.toList n p.dst=true:=by simp [soN,A,m]
   rw [O,V,m] at h
   refine ⟨fun h=>(by rw [h] at c;cases c),fun j I=>?_⟩
   obtain rfl:=X j I
   refine ⟨p,t,.inr (.inr ⟨⟨A,m⟩,obs,rfl,hI.low,fun k h1 y=>hI.all k h1 y,fun i k N=>(hI.lt i k N).1,?_⟩)⟩
   cases o:cC ops.toList (evG tab ops.toList j (aW fr)) p.guard with
   | none=>rw [o] at h;exact h.elim
   | some b=>
    rw [o] at h
    cases b with
    | false=>
     refine .inl ⟨o,?_⟩
     have e:(jE fr obs br).upd j p.dst (.tup []) L0 []=(jE fr obs br).upd j p.dst (.tup []) (aP obs) []:=by
      unfold AS.upd
      congr 1
      .funext k
       unfold nJ
       rw [if_neg fun h=>by have h1:=h.1;have y:=h.2;simp at y;omega,if_neg fun h=>by have h1:=h.1;have y:=h.2;simp at y;omega]
      .funext i k
       refine propext (or_congr Mv ⟨fun h=>?_,fun h=>?_⟩)<;>(have h1:=h.2.1;have y:=h.2.2;simp at y;omega)
     rw [e]
     exact skip h
    | true=>
     dsimp only at h
     refine .inr ⟨o,qN (fun v obs' K hle=>?_) (CC h)⟩
     have hk2:=uG K
     have:=aFC F l (j+1) _ _ _ _ M r G (hI.put hle) hk2
     have e:jE (mX fr p.dst v) obs' (born j (aP obs) (hJ (aP obs) obs') br)=⟨iV (jE fr obs br).g p.dst v,aE obs',fun i' k=>(jE fr obs br).br i' k\/(i'=j/\aP obs<=k/\k<aP obs')⟩:=by
      unfold jE
      rw [fG]
      congr 1
      funext i k
      refine propext (oD.trans (or_congr Mv (and_congr Mv ?_)))
      unfold inB
      rw [qP,Fh,bI obs']
      omega
     rw [<-e]
     exact this
end
end Go.AW
