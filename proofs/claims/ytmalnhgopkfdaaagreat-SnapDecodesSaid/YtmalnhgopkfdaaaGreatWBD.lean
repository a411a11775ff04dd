/-
  The engine, second make, second part: operations, regions. Over any program.
-/
import Derived.Lib.ConvBytes
import Derived.MapKept
import Derived.WalkSmall
import Derived.Carry
import Derived.Orders
import Derived.Test.YtmalnhgopkfdaaaGreatWAD
set_option linter.all false
open Array renaming ext'->Cp,getD_eq_getD_getElem?->Ap,getElem?_append_left->Gl,getElem?_eq_none->Hd,getElem?_eq_some_iff->Ef,getElem?_setIfInBounds_ne->Ci,getElem?_setIfInBounds_self_of_lt->Ca,getElem?_toList->Ke,length_toList->Eg,range->Hy,setIfInBounds_comm->Gs,toList_map->Gn
open Bool renaming and_eq_true->Ad,and_true->Ga,false_eq_true->Bq,false_or->Ji,not_eq_true'->Cb,or_eq_true->Dg,true_and->Bt
open Go.Builtin renaming append_->Cd,clear_->Hb,copy_->Ht,delete_->Ie,firstCells->Bv,len_->Dv,zeroCells->Bz
open Go.Instr renaming alloc->La,buildSlice->Hp,checkKey->Fw,field->Kk,fieldAt->Jj,findAsking->Gp,findKey->Jl,findNow->Jk,index->Jd,indexAt->Gc,loadAt->Ju,lookup->Jv,mapUpdate->Ic,sameBits->Hc,slice->Je,sliceAt->Fg,sliceBound->Hn,sliceBounds->Ew,storeAt->Hr,sureAddr->Gk,typeAssert->Hq
open Go.Region renaming binds->Ha,ready->Da
open Go.Result renaming andThen->Eb,andThen_ok->Ak
open Go.Sem renaming run_bind->Av,run_pure->Az
open Go.Value renaming iface->Kl,int->Hl,ownBlock->Fh,slice->Ff
open Go.World renaming block_lt_of_cell?->Cj,cell?_of_block->Cg,ownsRow_nil->Gg
open Int renaming le_refl->Gi,toNat_natCast->Br
open List renaming all_cons->Dq,all_eq_true->Cl,append_assoc->Aj,append_nil->Ay,drop_drop->Gx,drop_eq_nil_of_le->Af,drop_left->Im,drop_zero->Db,eq_nil_iff_forall_not_mem->Es,eq_nil_of_length_eq_zero->Au,ext_getElem?->Ee,extract_eq_take_drop->Iz,foldl_cons->Bi,getD_eq_getElem?_getD->Iw,getElem?_append_left->Ah,getElem?_append_right->Aq,getElem?_cons_succ->Fv,getElem?_cons_zero->Jp,getElem?_drop->Bu,getElem?_eq_getElem->Ac,getElem?_eq_none->Bf,getElem?_eq_some_iff->Ab,getElem?_map->Bb,getElem?_of_mem->Cz,getElem?_range->Cm,getElem?_replicate->Dz,getElem?_set->Gf,getElem?_set_ne->Bd,getElem?_set_self->Ax,getElem?_take->En,getElem?_take_of_lt->Bj,getElem?_toArray->Kf,length->Hu,length_append->Ag,length_cons->Ao,length_drop->Dy,length_eraseIdx_of_lt->Iv,length_map->Cv,length_nil->Bg,length_replicate->Fk,length_take->Cq,map_cons->Cn,mem_append->Ba,mem_cons->Bh,mem_of_getElem?->Aw,mem_of_mem_drop->Dp,mem_of_mem_take->Ch,mem_or_eq_of_mem_set->Ej,mem_replicate->Fi,nil_append->Ez,prefix_refl->Cr,range->Dc,replicate->Ai,replicate_succ->Ig,size_toArray->Fo,take_left->Gz,take_length->Fu,take_of_length_le->Cs,take_zero->Ft
open Nat renaming add_assoc->Gr,add_comm->Kv,add_mul->Cc,add_sub_cancel_left->Ev,add_zero->Dk,beq->Ar,ble->Ea,blt->Du,blt_eq->Ep,div_add_mod->Ib,eq_zero_or_pos->Fz,le_of_ble_eq_true->Bw,le_refl->Bc,le_succ->Jc,le_trans->Cx,lt_of_lt_of_le->Dn,min_eq_left->Ei,min_eq_right->Jq,min_le_right->Ho,mod_lt->Iu,mul_comm->Dj,mul_le_mul_right->Bp,one_mul->Jf,sub_zero->Fy,zero_add->Bk,zero_le->Bm,zero_mul->Ij
open Ne renaming symm->Ds
open Option renaming getD_some->Jo,isSome_iff_exists->Ct,isSome_none->Gu,map_eq_some_iff->Bx,map_some->Kc,none->Kz
open Option.some renaming injEq->Cu
open Prod.mk renaming injEq->Gq
open UInt8 renaming ofNat->Di
namespace Go.AW
open Go.RowKit
section
variable {P:Program} {E:Env} {M:Imm} {ob:Hs} {obs:List AObj} {w:World} {base:Nat}
theorem aQ {s:Sem Value} {v:AVal} {u:Value} (h:s.run P w= .ok u w) (hr:Rep M ob u v):PS0 P M ob w s obs base (.val v):=⟨rfl,u,h,hr⟩
theorem YR {b o:Nat} (l:List AVal) (h:∀ (i:Nat) c,l[i]? =some c->∃ u,w.cell? ⟨b,o+i,none⟩=some u/\Rep M ob u c):
  ∃ vs:List Value,vs.length=l.length/\(∀ (j:Nat) u,vs[j]? =some u->w.cell? ⟨b,o+j,none⟩=some u)/\∀ (i:Nat) v a,vs[i]? =some v->l[i]? =some a->Rep M ob v a:=by
 refine ⟨(Dc l.length).map fun q=>(w.cell? ⟨b,o+q,none⟩).getD undef,by simp,fun j u hu=>?_,fun i v a hv ha=>?_⟩
 .simp only [Bb] at hu
  by_cases hj:j<l.length
  .obtain ⟨u',hu',_⟩:=h j _ (Ac hj)
   simp [Cm hj,hu'] at hu
   rw [hu',hu]
  .rw [Bf (by simp;omega)] at hu
   simp at hu
 .have hj:i<l.length:=(Ab.1 ha).1
  obtain ⟨u',hu',hr⟩:=h i a ha
  simp only [Bb,Cm hj,Kc,hu',Jo] at hv
  cases hv
  exact hr
theorem tU {t:Nat} {ti:TI} (hk:qC P t ti.agg ti.size ti.kind) (hs:(P.info? t).map (·.size)=some ti.size) {b o:Nat} {vs:List Value} (hl:vs.length=ti.size)
  (hc:∀ (j:Nat) u,vs[j]? =some u->w.cell? ⟨b,o+j,none⟩=some u) (u:Value) (hu:ti.agg=true->u= .agg vs.toArray) (hu':ti.agg=false->vs=[u]):
  (loadVar t ⟨b,o,none⟩).run P w= .ok u w:=by
 obtain ⟨h1,h2⟩:=hk.isAgg
 unfold loadVar
 simp only [Av,sD h1,Ak,h2]
 cases ha:ti.agg with
 | true=>
  have hlc:=run_loadCells_list (P:=P) w ⟨b,o,none⟩ vs (fun j v hv=>by rw [bH];exact hc j v hv)
  rw [hl] at hlc
  simp only [if_true,Av,run_sizeOf hs,Ak,hlc,Az,hu ha]
 | false=>
  have hv:=hu' ha
  have:=hc 0 u (by rw [hv];rfl)
  rw [Dk] at this
  simp only [Bq,if_false,run_load,this]
theorem WR {ti:TI} {l:List AVal} {a:AVal} (h:mk ti l=some a):(ti.agg=true/\a= .agg l)\/(ti.agg=false/\l=[a]):=by
 unfold mk at h
 cases ha:ti.agg<;>simp only [ha,cond_true,cond_false] at h
 .split at h
  .cases h;exact .inr ⟨rfl,rfl⟩
  .cases h
 .cases h;exact .inl ⟨rfl,rfl⟩
theorem EV {t:Nat} {ti:TI} (hti:TIOK P t ti) {b o:Nat} {l:List AVal} {a:AVal} (hmk:mk ti l=some a) (hl:l.length=ti.size)
  (h:∀ (i:Nat) c,l[i]? =some c->∃ u,w.cell? ⟨b,o+i,none⟩=some u/\Rep M ob u c):∃ u,(loadVar t ⟨b,o,none⟩).run P w= .ok u w/\Rep M ob u a:=by
 obtain ⟨vs,hvl,hvc,hvr⟩:=YR l h
 rcases WR hmk with ⟨ha,rfl⟩ | ⟨ha,rfl⟩
 .exact ⟨.agg vs.toArray,tU hti.kind hti.size? (hvl.trans hl) hvc _ (fun _=>rfl) (fun h=>by rw [ha] at h;cases h),.agg vs l hvl hvr⟩
 .match vs,hvl with
  | [u],_=>exact ⟨u,tU hti.kind hti.size? (by simpa using hl) hvc u (fun h=>by rw [ha] at h;cases h) (fun _=>rfl),hvr 0 u a rfl rfl⟩
theorem KP {t:Nat} {ti:TI} (hti:TIOK P t ti) {b o off:Nat} {cs:List AVal}
  (h:∀ (i:Nat) c,cs[off+i]? =some c->∃ u,w.cell? ⟨b,o+i,none⟩=some u/\Rep M ob u c):PS0 P M ob w (Ju t (.pointer (some ⟨b,o,none⟩))) obs base (fin ti (jN ti.size (iN off cs))):=by
 unfold fin
 split
 .exact trivial
 .rename_i l hl
  split
  .exact trivial
  .rename_i a hmk
   obtain ⟨h1,h2⟩:=gO hl
   obtain ⟨u,hu,hr⟩:=EV hti hmk h1 (b:=b) (o:=o) (M:=M) (ob:=ob) (w:=w) fun i c hi=>by
    have:=h2 i c hi
    rw [jP,Bu] at this
    exact h i c this
   refine aQ (u:=u) ?_ hr
   unfold Ju Gk
   simp only [Av,Az,Ak,hu]
theorem cV.cell {v:Value} {sz:Nat} {e:TypeId} {xs:List AVal} (h:cV M w v sz e xs) {b:Nat} {n c:Nat} (hv:v= .slice (some ⟨b,0,none⟩) n c) {i j:Nat} {x a:AVal} (hx:xs[i]? =some x) (ha:x.cells[j]? =some a):
  ∃ u,w.cell? ⟨b,i*sz+j,none⟩=some u/\Rep M [] u a:=by
 obtain ⟨cv,h1,_,h3,h4,_⟩:=h
 obtain ⟨u,hu,hr⟩:=h4 _ a (BF hx ha (h3 x (Aw hx)))
 exact ⟨u,eQ h1 (by rw [hv];rfl) hu,hr⟩
theorem bU {k:Nat} {x:AObj} (h:aE obs k=x) (hx:x≠ .dead):obs[k]? =some x:=bP h hx
theorem X5 (hE:EnvOK E) (hm:Mem M ob obs w) {t:Nat} {v:Value} {a:AVal} (hv:Rep M ob v a):PS0 E.P M ob w (Ju t v) obs base (S8 E (aE obs) t a):=by
 unfold S8
 split
 .exact trivial
 .rename_i ti hT
  have hti:=hE.tab t ti hT
  split
  .rename_i cs
   obtain ⟨b,o,rfl,hM⟩:=hv.ptr_inv
   refine KP (off:=0) (cs:=cs) hti fun i c hi=>?_
   rw [Bk] at hi
   obtain ⟨u,hu,_,hr⟩:=hm.imm b _ c (hM i c hi)
   exact ⟨u,hu,hr.pure⟩
  .rename_i k off
   obtain ⟨b,rfl,hb⟩:=hv.ref_inv
   split
   .rename_i cs hog
    obtain ⟨hs,h1,b',rfl,_,cv,hh,hlen,_,hrep⟩:=hm.obj k _ (bU hog (by simp))
    rw [bT h1] at hb
    cases hb
    refine KP hti fun i c hi=>?_
    have hlt:off+i<cv.length:=by rw [hlen];exact (Ab.1 hi).1
    exact ⟨cv[off+i],by rw [cell_of_row w b _ _ _ (0,0) hh];simp [hlt],hrep _ _ c (Ac hlt) hi⟩
   .rename_i cs hog
    obtain ⟨hs,h1,b',rfl,hrep⟩:=hm.obj k _ (bU hog (by simp))
    rw [bT h1] at hb
    cases hb
    refine KP hti fun i c hi=>?_
    obtain ⟨u,hu,_,hr⟩:=hm.imm b _ c (hrep _ c hi)
    exact ⟨u,hu,hr.pure⟩
   .exact trivial
  .rename_i k g i sz off
   cases hv with
   | eref k g i sz off b n c hb=>
   split
   .rename_i g' sz' e xs hog
    refine sdc fun hg=>?_
    obtain ⟨hg1,hg2⟩:=aS hg
    obtain rfl:=aB hg1
    obtain rfl:=aB hg2
    intro x hx
    obtain ⟨hs,v,h1,h2,h3,h4,h5,_⟩:=hm.rowOf (bU hog (by simp))
    rw [h4] at hb
    cases hb
    refine KP hti fun j c hj=>?_
    obtain ⟨u,hu,hr⟩:=h5.cell rfl hx hj
    exact ⟨u,by rw [Gr];exact hu,hr.pure⟩
   .exact trivial
  .exact trivial
theorem DO {t:Nat} {sz off:Nat} (h1:(P.info? t).map (·.size)=some sz) (h2:(P.underlying t).isSome=true) (vs:List Value) (u:Value)
  (ha:aU P t=true->u= .agg ((vs.drop off).take sz).toArray) (hb:aU P t=false->vs[off]? =some u):(part t vs.toArray off).run P w= .ok u w:=by
 unfold part
 simp only [Av,sD h2,Ak]
 cases hq:aU P t with
 | true=>
  simp only [if_true,Av,run_sizeOf h1,Ak,Az,ha hq]
  congr 3
  simp [Iz]
 | false=>simp [hb hq]
theorem QN {vs:List Value} {cs:List AVal} (h:cB M ob vs cs) {sz off:Nat} {l:List AVal} (ht:jN sz (iN off cs)=some l):cB M ob ((vs.drop off).take sz) l:=by
 obtain ⟨h1,h2⟩:=gO ht
 rw [jP] at h2
 have hl:=h.1
 have hlen:((vs.drop off).take sz).length=l.length:=by
  have:sz<=(cs.drop off).length:=by
   rcases Fz sz with h0 | h0
   .omega
   .have:=h2 (sz-1) _ (Ac (by omega))
    have:=(Ab.1 this).1
    omega
  simp at this
  simp;omega
 refine ⟨hlen,fun i v a hv ha=>?_⟩
 have hc:=h2 i a ha
 rw [Bu] at hc
 have hi:i<sz:=by rw [<-h1];exact (Ab.1 ha).1
 rw [Bj hi,Bu] at hv
 exact h.2 _ v a hv hc
theorem wV {t:Nat} {sz off:Nat} (h1:(P.info? t).map (·.size)=some sz) (h2:(P.underlying t).isSome=true) {vs:List Value} {cs:List AVal} (h:cB M ob vs cs)
  {l:List AVal} (ht:jN sz (iN off cs)=some l) {a:AVal} (hagg:aU P t=true->a= .agg l) (hone:aU P t=false->l=[a]):∃ u,(part t vs.toArray off).run P w= .ok u w/\Rep M ob u a:=by
 have hp:=QN h ht
 cases hq:aU P t with
 | true=>
  rw [hagg hq]
  exact ⟨_,DO h1 h2 vs _ (fun _=>rfl) (fun e=>by rw [hq] at e;cases e),.agg _ l hp.1 hp.2⟩
 | false=>
  have hl1:=hone hq
  subst hl1
  obtain ⟨p1,p2⟩:=hp
  have hsz:sz=1:=by have:=(gO ht).1;simpa using this.symm
  subst hsz
  have h0:((vs.drop off).take 1)[0]? =vs[off]?:=by rw [Bj (by omega),Bu,Dk]
  have hlt:0<((vs.drop off).take 1).length:=by rw [p1];simp
  refine ⟨((vs.drop off).take 1)[0],DO h1 h2 vs _ (fun e=>by rw [hq] at e;cases e) (fun _=>?_),p2 0 _ a (Ac hlt) rfl⟩
  rw [<-h0]
  exact Ac hlt
theorem TA (hE:EnvOK E) {s f:Nat} {v:Value} {a:AVal} (hv:Rep M ob v a):PS0 E.P M ob w (Kk s v f) obs base (IC E s a f):=by
 unfold IC
 split
 .rename_i fs _ _ _ hT
  have hti:=hE.tab s _ hT
  obtain ⟨⟨flds,hu,hf⟩,_⟩:=hti.kind
  split
  .exact trivial
  .rename_i off sz ag hn
   obtain ⟨fd,hfd,e1,e2,e3,e4⟩:=hf.get hn
   split
   .rename_i cs
    split
    .exact trivial
    .rename_i l hl
     obtain ⟨vs,rfl,hlen,hr⟩:=hv.agg_inv
     have key:∀ x,(aU E.P fd.type=true->x= .agg l)->(aU E.P fd.type=false->l=[x])->PS0 E.P M ob w (Kk s (.agg vs.toArray) f) obs base (.val x):=by
      intro x h1 h2
      obtain ⟨u,hu',hr'⟩:=wV (P:=E.P) (w:=w) (t:=fd.type) e2 e3 ⟨hlen,hr⟩ hl h1 h2
      refine aQ (u:=u) ?_ hr'
      have hfd':flds[f]? =some fd:=by simpa using hfd
      unfold Kk
      simp only [Av,run_underlying hu,Ak,hfd',asAgg,Az,e1,hu']
     cases hag:ag with
     | true=>exact key _ (fun _=>rfl) (fun e=>by rw [e4,hag] at e;cases e)
     | false=>
      simp only [cond_false]
      split
      .exact key _ (fun e=>by rw [e4,hag] at e;cases e) (fun _=>rfl)
      .exact trivial
   .exact trivial
 .exact trivial
theorem CT (hE:EnvOK E) {s f:Nat} {v:Value} {a:AVal} (hv:Rep M ob v a):PS0 E.P M ob w (Jj s v f) obs base (pZ E s a f):=by
 unfold pZ
 split
 .rename_i fs _ _ _ hT
  have hti:=hE.tab s _ hT
  obtain ⟨⟨flds,hu,hf⟩,_⟩:=hti.kind
  split
  .exact trivial
  .rename_i off sz ag hn
   obtain ⟨fd,hfd,e1,e2,e3,e4⟩:=hf.get hn
   have hfd':flds[f]? =some fd:=by simpa using hfd
   cases hz:Ar sz 0 with
   | true=>exact trivial
   | false=>
    simp only [cond_false]
    have hz':¬ sz=0:=fun e=>by subst e;simp at hz
    have key:∀ ad,(Jj s (.pointer (some ad)) f).run E.P w= .ok (.pointer (some (ad.add off))) w:=fun ad=>by
     unfold Jj Gk fieldPlace
     simp only [Av,run_underlying hu,Ak,hfd',Az,run_sizeOf e2,if_neg hz',e1]
    split
    .obtain ⟨b,o,rfl,hM⟩:=hv.ptr_inv
     refine aQ (key _) ?_
     rw [bH]
     exact .ptr b (o+off) _ fun j c hc=>by rw [jP,Bu] at hc;have:=hM _ c hc;rw [Gr];exact this
    .obtain ⟨b,rfl,hb⟩:=hv.ref_inv
     refine aQ (key _) ?_
     rw [bH]
     exact .ref _ _ b hb
    .cases hv with
     | eref _ _ _ _ _ b n c hb=>
      refine aQ (key _) ?_
      rw [bH,Gr]
      exact .eref _ _ _ _ _ b n c hb
    .exact trivial
 .exact trivial
theorem cV.len {v:Value} {sz:Nat} {e:TypeId} {xs:List AVal} (h:cV M w v sz e xs):(v= .slice none 0 0/\xs=[])\/∃ b cap,v= .slice (some ⟨b,0,none⟩) xs.length cap/\v.ownBlock=some b/\xs.length<=cap/\cap<=maxLen:=by
 obtain ⟨cv,h1,_⟩:=h
 rcases cW h1 with ⟨h2,h3⟩ | h2
 .exact .inl ⟨h2,Au h3⟩
 .exact .inr h2
theorem iW:(maxLen:Int)<=9223372036854775807:=by decide
theorem CR (hE:EnvOK E) (hm:Mem M ob obs w) {t:Nat} {v vi:Value} {a i:AVal} (hv:Rep M ob v a) (hvi:Rep M ob vi i):PS0 E.P M ob w (Gc t v vi) obs base (pY E (aE obs) t a i):=by
 unfold pY
 split
 .rename_i ti _ n hT
  have hti:=hE.tab t ti hT
  obtain ⟨rfl,hri⟩:=hvi.int_inv
  split
  .rename_i e esz eb hk
   have hkind:=hti.kind
   rw [hk] at hkind
   obtain ⟨⟨hu,i',z,hi,hs,_⟩,_⟩:=hkind
   have hse:(E.P.info? e).map (·.size)=some esz:=by simp [hi,hs]
   have key:∀ (ad:Addr) (len cap:Nat) (k:IntKind) (i:Nat),i<len->(Gc t (.slice (some ad) len cap) (.int k (i:Int))).run E.P w= .ok (.pointer (some (ad.add (i*esz)))) w:=fun ad len cap k i h1=>by
    unfold Gc
    simp only [Av,asIntOf,Az,Ak,run_underlying hu]
    rw [if_pos ⟨by omega,by omega⟩]
    simp only [Av,run_sizeOf hse,Ak,Az,Br]
   have slc:∀ {vv:Value} {xs:List AVal} {tk:Tk},Rep M ob vv (.slice esz xs tk)->∀ (k:IntKind) (i:Nat) x,xs[i]? =some x->PS0 E.P M ob w (Gc t vv (.int k (i:Int))) obs base (.val (.ptr x.cells)):=fun {vv xs tk} hr k i x hx=>by
    have hil:i<xs.length:=(Ab.1 hx).1
    cases hr.untok.1 with
    | slnil=>simp at hil
    | slemp=>simp at hil
    | sl _ b o n1 cap _ _ hn hcap hmm hz hM _=>
     refine aQ (key _ n1 cap _ i (by omega)) ?_
     rw [bH]
     exact .ptr b _ _ fun j c hj=>hM i j x c hx hj
   split
   .rename_i sz xs tt
    refine sdc fun hsz=>?_
    obtain rfl:=aB hsz
    rintro i rfl x hx
    exact slc hv _ i x hx
   .rename_i k g
    obtain ⟨a,n',c,rfl,hat⟩:=hv.row_inv
    split
    .rename_i g' sz e' xs hog
     refine sdc fun hg=>?_
     obtain ⟨hg1,hg2⟩:=aS hg
     obtain rfl:=aB hg1
     obtain rfl:=aB hg2
     rintro i rfl hi
     obtain ⟨hs',v,h1,h2,h3,h4,h5,_⟩:=hm.rowOf (bU hog (by simp))
     rw [h4] at hat
     cases hat
     rcases h5.len with ⟨e1,rfl⟩ | ⟨b,cap,e1,e2,_⟩
     .simp at hi
     .cases e1
      refine aQ (key _ _ _ _ i hi) ?_
      rw [bH,Kv 0]
      exact .eref k _ i sz 0 b _ _ h4
    .rename_i g' sz xs hog
     refine sdc fun hg=>?_
     obtain ⟨hg1,hg2⟩:=aS hg
     obtain rfl:=aB hg1
     obtain rfl:=aB hg2
     rintro i rfl x hx
     obtain ⟨hs',h1,v,h2,h3⟩:=hm.obj k _ (bU hog (by simp))
     rw [bT h1,h2] at hat
     cases hat
     exact slc h3.pure _ i x hx
    .exact trivial
   .rename_i k g lo len sz
    split
    .rename_i g' sz' e' xs hog
     refine sdc fun hg=>?_
     obtain ⟨hg12,hg3⟩:=aS hg
     obtain ⟨hg1,hg2⟩:=aS hg12
     obtain rfl:=aB hg1
     obtain rfl:=aB hg2
     obtain rfl:=aB hg3
     rintro i rfl hi
     cases hv with
     | sub _ _ _ _ _ b n' c hat hl hn hc hmm=>
      refine aQ (key _ _ _ _ i hi) ?_
      rw [bH,<-Cc]
      exact .eref k _ (lo+i) sz 0 b _ _ hat
     | sub0=>simp at hi
    .exact trivial
   .exact trivial
  .rename_i len esz ea hk
   have hkind:=hti.kind
   rw [hk] at hkind
   obtain ⟨⟨e,hu,hse,_⟩,_⟩:=hkind
   have key:∀ (ad:Addr) k,0<=n->n.toNat<len->(Gc t (.pointer (some ad)) (.int k n)).run E.P w= .ok (.pointer (some (ad.add (n.toNat*esz)))) w:=fun ad k h0 h1=>by
    unfold Gc Gk
    simp only [Av,asIntOf,Az,Ak,run_underlying hu]
    rw [if_pos ⟨h0,by omega⟩]
    simp only [Av,run_sizeOf hse,Ak,Az]
   split
   .rintro ⟨c0,c1⟩
    obtain ⟨b,rfl,hb⟩:=hv.ref_inv
    refine aQ (key _ _ c0 c1) ?_
    rw [bH]
    exact .ref _ _ b hb
   .rintro ⟨c0,c1⟩
    obtain ⟨b,o,rfl,hM⟩:=hv.ptr_inv
    refine aQ (key _ _ c0 c1) ?_
    rw [bH]
    exact .ptr b _ _ fun j c hc=>by rw [jP,Bu] at hc;have:=hM _ c hc;rw [Gr];exact this
   .exact trivial
  .exact trivial
 .exact trivial
theorem S9 (hE:EnvOK E) {t:Nat} {v vi:Value} {a i:AVal} (hv:Rep M ob v a) (hvi:Rep M ob vi i):PS0 E.P M ob w (Jd t v vi) obs base (IB E t a i):=by
 unfold IB
 split
 .rename_i l k n
  obtain ⟨rfl,_⟩:=hvi.int_inv
  obtain ⟨rfl,_⟩:=hv.str_inv
  split
  .rename_i _ _ _ hT
   obtain ⟨hu,_⟩:=(hE.tab t _ hT).kind
   rintro i rfl c hx
   refine ⟨rfl,.int .u8 c.toNat,?_,qO c⟩
   have hlt:i<l.length:=(Ab.1 hx).1
   unfold Jd
   simp only [Av,asIntOf,Az,Ak,run_underlying hu]
   rw [if_pos (by omega)]
   have hb:(⟨l.toArray⟩:ByteArray)[i]? =some c:=by
    have:i<(⟨l.toArray⟩:ByteArray).size:=by simpa [ByteArray.size] using hlt
    rw [getElem?_pos (⟨l.toArray⟩:ByteArray) i this]
    have hxx:=(Ab.1 hx).2
    rw [<-hxx]
    rfl
   rw [Br,hb]
   simp
  .exact trivial
 .rename_i cs k n
  obtain ⟨rfl,_⟩:=hvi.int_inv
  split
  .rename_i len esz ag _ _ _ hT
   obtain ⟨⟨e,hu,hse,hes,hag⟩,_⟩:=(hE.tab t _ hT).kind
   split
   .rename_i l hl
    obtain ⟨vs,rfl,hlen,hr⟩:=hv.agg_inv
    have key:∀ x,0<=n->n<len->(aU E.P e=true->x= .agg l)->(aU E.P e=false->l=[x])->PS0 E.P M ob w (Jd t (.agg vs.toArray) (.int k n)) obs base (.val x):=by
     intro x h0 h1 h2 h3
     obtain ⟨u,hu',hr'⟩:=wV (P:=E.P) (w:=w) (t:=e) hse hes ⟨hlen,hr⟩ hl h2 h3
     refine aQ (u:=u) ?_ hr'
     unfold Jd
     simp only [Av,asIntOf,Az,Ak,run_underlying hu]
     rw [if_pos ⟨h0,h1⟩]
     simp only [Av,run_sizeOf hse,Ak,hu']
    cases hagv:ag with
    | true=>exact fun hc=>key _ hc.1 hc.2 (fun _=>rfl) (fun e=>by rw [hag,hagv] at e;cases e)
    | false=>
     simp only [cond_false]
     split
     .exact fun hc=>key _ hc.1 hc.2 (fun e=>by rw [hag,hagv] at e;cases e) (fun _=>rfl)
     .exact trivial
   .exact trivial
  .exact trivial
 .exact trivial
theorem aA3 (hE:EnvOK E) (hm:Mem M ob obs w) {t ty:TypeId} {v:Value} {a:AVal} (hv:Rep M ob v a):PS0 E.P M ob w (Dv #[t] ty #[v]) obs base (aA4 E (aE obs) t a):=by
 unfold aA4
 split
 .exact trivial
 .rename_i ti hT
  have hkind:=(hE.tab t ti hT).kind
  have i64:∀ n:Nat,(n:Int)<=9223372036854775807->inR .i64 (n:Int):=fun n h=>⟨by simp only [cC];omega,by simp only [bF];omega⟩
  have i0:Rep M ob (.int .i64 (0:Nat)) (.int .i64 (0:Nat)):=.int _ _ (i64 0 (by decide))
  have slc:∀ {vv:Value} {sz:Nat} {xs:List AVal} {tk:Tk} {e:TypeId},E.P.underlying t=some (.slice e)->Rep M ob vv (.slice sz xs tk)->PS0 E.P M ob w (Dv #[t] ty #[vv]) obs base (.val (.int .i64 xs.length)):=fun {vv sz xs tk e} hu hr=>by
   obtain ⟨a,c,rfl,_,_,h4⟩:=hr.slice_inv
   exact aQ (u:=.int .i64 xs.length) (by simp [Dv,run_underlying hu,goInt]) (.int _ _ (i64 _ h4))
  split
  .rename_i l hk
   rw [hk] at hkind
   obtain ⟨rfl,h⟩:=hv.str_inv
   exact aQ (u:=.int .i64 l.length) (by simp [Dv,run_underlying hkind.1,goInt,lU]) (.int _ _ (i64 _ h))
  .rename_i hk
   rw [hk] at hkind
   exact slc hkind.1.1 hv
  .rename_i hk
   rw [hk] at hkind
   cases hv
   exact aQ (u:=.int .i64 (0:Nat)) (by simp [Dv,run_underlying hkind.1.1,goInt]) i0
  .rename_i hk
   rw [hk] at hkind
   cases hv with
   | csl _ _ _ _ b h hmm=>exact aQ (u:=.int .i64 (Nat.cast _)) (by simp [Dv,run_underlying hkind.1.1,goInt]) (.int _ _ (i64 _ hmm))
  .rename_i hk
   rw [hk] at hkind
   cases hv
   exact fun hmm=>aQ (u:=.int .i64 (Nat.cast _)) (by simp [Dv,run_underlying hkind.1.1,goInt]) (.int _ _ (i64 _ hmm))
  .rename_i hk
   rw [hk] at hkind
   obtain ⟨a,n,c,rfl,hat⟩:=hv.row_inv
   split
   .rename_i g' sz e xs hog
    refine sdc fun hg=>?_
    obtain rfl:=aB hg
    obtain ⟨hs',v,h1,h2,h3,h4,h5,_⟩:=hm.rowOf (bU hog (by simp))
    rw [h4] at hat
    cases hat
    rcases h5.len with ⟨e1,rfl⟩ | ⟨b,cap,e1,e2,e3,e4⟩
    .cases e1
     exact aQ (u:=.int .i64 (0:Nat)) (by simp [Dv,run_underlying hkind.1.1,goInt]) i0
    .cases e1
     exact aQ (u:=.int .i64 xs.length) (by simp [Dv,run_underlying hkind.1.1,goInt]) (.int _ _ (i64 _ (by have:=iW;omega)))
   .rename_i g' sz xs hog
    refine sdc fun hg=>?_
    obtain rfl:=aB hg
    obtain ⟨hs',h1,v,h2,h3⟩:=hm.obj _ _ (bU hog (by simp))
    rw [bT h1,h2] at hat
    cases hat
    exact slc hkind.1.1 (h3.pure (M:=M) (ob:=ob))
   .exact trivial
  .rename_i hk
   rw [hk] at hkind
   cases hv with
   | sub _ _ _ _ _ b n c hat hl hn hc hmm=>exact aQ (u:=.int .i64 (Nat.cast _)) (by simp [Dv,run_underlying hkind.1.1,goInt]) (.int _ _ (i64 _ (by omega)))
   | sub0 _ _ _ _ a a' n c=>exact aQ (u:=.int .i64 (0:Nat)) (by simp [Dv,run_underlying hkind.1.1,goInt]) i0
  .rename_i _ hk
   rw [hk] at hkind
   obtain ⟨⟨e,hu,_⟩,_⟩:=hkind
   intro hn
   exact aQ (u:=.int .i64 (Nat.cast _)) (by simp [Dv,run_underlying hu,goInt]) (.int _ _ (i64 _ hn))
  .exact trivial
end
def VM (P:Program) (M:Imm) (ob:Hs) (obs:List AObj) (w:World) (s:Sem Value) (v:AVal) (obs':List AObj):Prop:=
 ∃ u w' M' ob',s.run P w= .ok u w'/\Ext M ob obs w M' ob' obs' w'/\Mem M' ob' obs' w'/\cF ob obs ob' obs'/\Rep M' ob' u v
abbrev PM (P:Program) (M:Imm) (ob:Hs) (w:World) (s:Sem Value) (obs:List AObj) (base:Nat) (r:OR):Prop:=Sd (VM P M ob obs w s) (fun _ _=>False) (fun _=>False) obs base r
section
variable {P:Program} {E:Env} {M:Imm} {ob:Hs} {obs:List AObj} {w:World} {base:Nat}
theorem PM.of (hm:Mem M ob obs w) {s:Sem Value} {r:OR} (h:PS0 P M ob w s obs base r):PM P M ob w s obs base r:=
 Sd.mono (fun v o ⟨h1,u,h2,h3⟩=>⟨u,w,M,ob,h2,h1▸Ext.refl _ _ _ _,h1▸hm,h1▸cF.refl _ _,h3⟩) (fun _ _ h=>h) (fun _ h=>h) h
theorem bV.pm {ρv:Operand->Value} {op:Op} {ty:TypeId} {r:OR} {s:Sem Value}
  (hx:∀ d pos after g,execOp ρv ⟨d,op,ty,pos,after,g⟩=(s >>= fun v=>Pure.pure (.value v))) (h:PM P M ob w s obs base r):bV P ρv op ty M ob obs w base r:=
 Sd.mono (fun v o ⟨u,w',M',ob',h2,h3,h4,h5,h6⟩=>⟨u,w',M',ob',fun d pos after g=>.inl (by rw [hx];simp only [Av,h2,Ak,Az]),h3,h4,h5,h6⟩) (fun _ _ h=>h.elim) (fun _ h=>h.elim) h
def zF (M:Imm) (ob:Hs) (v:Option Value) (a:Option AVal):Prop:=(v=none/\a=none)\/∃ u x,v=some u/\a=some x/\Rep M ob u x
def UI (v:Option Value) (q:Option Nat):Prop:=(v=none/\q=none)\/∃ (k:IntKind) (n:Nat),v=some (.int k n)/\q=some n
theorem oC {s:Sem Value} {vl:Option Value} {l:Option AVal} (h:zF M ob vl l) {f:Option Nat->OR} (k:∀ q,UI vl q->PS0 P M ob w s obs base (f q)):PS0 P M ob w s obs base (bnd l f):=by
 rcases h with ⟨rfl,rfl⟩ | ⟨u,x,rfl,rfl,hr⟩
 .exact k none (.inl ⟨rfl,rfl⟩)
 .cases x with
  | int kk n=>
   obtain ⟨rfl,_⟩:=hr.int_inv
   rintro i rfl
   exact k (some i) (.inr ⟨kk,i,rfl,rfl⟩)
  | _=>exact trivial
theorem UI.none {v:Option Value} (h:UI v none):v=none:=by rcases h with ⟨h,_⟩ | ⟨_,_,_,h⟩;exact h;cases h
theorem UI.some {v:Option Value} {n:Nat} (h:UI v (some n)):∃ k,v=some (.int k n):=by rcases h with ⟨_,h⟩ | ⟨k,n,h1,h⟩;cases h;cases h;exact ⟨k,h1⟩
theorem yH {t e:TypeId} (h:P.underlying t=some (.slice e)):P.underlying t=some (.slice (P.elem t))/\P.elem t=e:=by
 have:P.elem t=e:=by simp [Program.elem,h]
 exact ⟨by rw [this];exact h,this⟩
theorem GQ {v:Value} {sz:Nat} {xs:List AVal} (h:Rep M ob v (.slice sz xs .no)):∃ a n c,v= .slice a n c/\xs.length=n/\n<=c/\∀ l h',l<=h'->h'<=n->
  Rep M ob (sliced a l h' c sz) (.slice sz ((xs.take h').drop l) .no)/\(Rep M ob (sliced a l h' h' sz) (.slice sz ((xs.take h').drop l) .no)):=by
 cases h with
 | slnil sz=>
  refine ⟨none,0,0,rfl,rfl,Bc _,fun l h' h1 h2=>?_⟩
  have:h'=0:=by omega
  subst this
  have:l=0:=by omega
  subst this
  exact ⟨.slnil sz .no trivial,.slnil sz .no trivial⟩
 | slemp sz _ a cap=>
  refine ⟨some a,0,cap,rfl,rfl,Bm _,fun l h' h1 h2=>?_⟩
  have:h'=0:=by omega
  subst this
  have:l=0:=by omega
  subst this
  have hs:∀ m,∃ b c,sliced (some a) 0 0 m sz= .slice (some b) 0 c:=fun m=>by
   unfold sliced
   split
   .exact ⟨_,_,rfl⟩
   .exact ⟨_,_,rfl⟩
  obtain ⟨b1,c1,e1⟩:=hs cap
  obtain ⟨b2,c2,e2⟩:=hs 0
  rw [e1,e2]
  exact ⟨.slemp _ _ _ _ trivial,.slemp _ _ _ _ trivial⟩
 | sl sz b o n c xs _ hn hc hmm hz hM=>
  refine ⟨_,n,c,rfl,hn,hc,fun l h' h1 h2=>?_⟩
  have gen:∀ m,h'<=m->Rep M ob (sliced (some ⟨b,o,none⟩) l h' m sz) (.slice sz ((xs.take h').drop l) .no):=by
   intro m hm
   have hlen:((xs.take h').drop l).length=h'-l:=by simp;omega
   have hzz:∀ x∈(xs.take h').drop l,x.cells.length=sz:=fun x hx=>hz x (Ch (Dp hx))
   have hget:∀ (i:Nat) x,((xs.take h').drop l)[i]? =some x->xs[l+i]? =some x:=fun i x hx=>by
    rw [Bu,En] at hx
    split at hx
    .exact hx
    .cases hx
   by_cases hml:m=l
   .have e:sliced (some ⟨b,o,none⟩) l h' m sz= .slice (some ⟨b,o,none⟩) (h'-l) (m-l):=by simp [sliced,hml]
    rw [e]
    refine .sl sz b o _ _ _ _ hlen (by omega) (by omega) hzz (fun i j x c hx hc=>?_) trivial
    have:i<h'-l:=by rw [<-hlen];exact (Ab.1 hx).1
    omega
   .have e:sliced (some ⟨b,o,none⟩) l h' m sz= .slice (some ⟨b,o+l*sz,none⟩) (h'-l) (m-l):=by simp [sliced,hml,bH]
    rw [e]
    refine .sl sz b _ _ _ _ _ hlen (by omega) (by omega) hzz (fun i j x c hx hc=>?_) trivial
    have:=hM _ j x c (hget i x hx) hc
    rwa [Cc,<-Gr] at this
  exact ⟨gen c (by omega),gen h' (Bc _)⟩
theorem pL {k g x y sz:Nat} {a:Option Addr} {n c:Nat} (ha:a=none/\n=0/\c=0\/∃ b,a=some ⟨b,0,none⟩) (hat:at' ob k g=some (.slice a n c)) (hc:n<=c) (hxy:x<=y) (hy:y<=n) (hmm:(n:Int)<=9223372036854775807):
  Rep M ob (sliced a x y c sz) (.sub k g x (y-x) sz):=by
 by_cases hcx:c=x
 .have e:sliced a x y c sz= .slice a 0 0:=by
   have:y-x=0:=by omega
   simp [sliced,hcx,this]
  rw [e]
  have:y-x=0:=by omega
  rw [this]
  exact .sub0 k g x sz a a n c hat (by omega) (by omega)
 .rcases ha with ⟨rfl,rfl,rfl⟩ | ⟨b,rfl⟩
  .omega
  .have e:sliced (some ⟨b,0,none⟩) x y c sz= .slice (some ⟨b,x*sz,none⟩) (y-x) (c-x):=by simp [sliced,hcx,bH]
   rw [e]
   exact .sub k g x (y-x) sz b n c hat (by omega) (by omega) hc hmm
theorem lR {k g lo x y sz b n c:Nat} (hat:at' ob k g=some (.slice (some ⟨b,0,none⟩) n c)) (hl:lo<c) (hc:n<=c) (hxy:x<=y) (hy:lo+y<=n) (hmm:(n:Int)<=9223372036854775807):
  Rep M ob (sliced (some ⟨b,lo*sz,none⟩) x y (c-lo) sz) (.sub k g (lo+x) (y-x) sz):=by
 by_cases hcx:c-lo=x
 .have h0:y-x=0:=by omega
  have e:sliced (some ⟨b,lo*sz,none⟩) x y (c-lo) sz= .slice (some ⟨b,lo*sz,none⟩) 0 0:=by simp [sliced,hcx,h0]
  rw [e,h0]
  exact .sub0 k g (lo+x) sz _ _ n c hat (by omega) (by omega)
 .have e:sliced (some ⟨b,lo*sz,none⟩) x y (c-lo) sz= .slice (some ⟨b,(lo+x)*sz,none⟩) (y-x) (c-(lo+x)):=by
   simp [sliced,hcx,bH,Cc]
   omega
  rw [e]
  exact .sub k g (lo+x) (y-x) sz b n c hat (by omega) (by omega) hc hmm
theorem S1 (hE:EnvOK E) (hm:Mem M ob obs w) {t:TypeId} {v:Value} {a:AVal} (hv:Rep M ob v a) {vlo vhi vmx:Option Value} {lo hi mx:Option AVal}
  (hlo:zF M ob vlo lo) (hhi:zF M ob vhi hi) (hmx:zF M ob vmx mx):PS0 E.P M ob w (Fg t v vlo vhi vmx) obs base (H3 E (aE obs) t a lo hi mx):=by
 have nomx:mx=none->vmx=none:=fun e=>by
  rcases hmx with ⟨h,_⟩ | ⟨_,_,_,h,_⟩
  .exact h
  .rw [e] at h;cases h
 have nolo:lo=none->vlo=none:=fun e=>by
  rcases hlo with ⟨h,_⟩ | ⟨_,_,_,h,_⟩
  .exact h
  .rw [e] at h;cases h
 have nohi:hi=none->vhi=none:=fun e=>by
  rcases hhi with ⟨h,_⟩ | ⟨_,_,_,h,_⟩
  .exact h
  .rw [e] at h;cases h
 unfold H3
 split
 .exact trivial
 .rename_i ti hT
  have hti:=hE.tab t ti hT
  have hkind:=hti.kind
  split
  .rename_i l
   obtain ⟨rfl,hlm⟩:=hv.str_inv
   split
   .have hk:=‹ti.kind=TK.str›
    rw [hk] at hkind
    obtain rfl:=nomx rfl
    have hu:=hkind.1
    have hb:∀ i j,(⟨l.toArray⟩:ByteArray).extract i j=⟨((l.take j).drop i).toArray⟩:=HP l
    have hs:(⟨l.toArray⟩:ByteArray).size=l.length:=lU l
    refine oC hlo fun qlo blo=>oC hhi fun qhi bhi=>?_
    cases qlo with
    | none=>
     obtain rfl:=blo.none
     cases qhi with
     | none=>
      obtain rfl:=bhi.none
      refine aQ (u:=.string ⟨l.toArray⟩) ?_ (.str _ hlm)
      rw [run_sliceAt_string w t _ _ _ _ hu]
      unfold Je Ew
      simp only [Av,run_underlying hu,Ak,Gu,Bq,if_false,Az,hb,hs]
      simp
     | some y=>
      obtain ⟨k,rfl⟩:=bhi.some
      intro c1
      refine aQ (u:=.string ⟨(l.take y).toArray⟩) ?_ (.str _ (by simp;omega))
      rw [run_sliceAt_string w t _ _ _ _ hu]
      unfold Je Ew Hn
      simp only [Av,run_underlying hu,Ak,Gu,Bq,if_false,Az,hb,hs,asIntOf]
      rw [if_pos ⟨by omega,by omega⟩]
      simp only [Az,Ak]
      simp
    | some x=>
     obtain ⟨k,rfl⟩:=blo.some
     cases qhi with
     | none=>
      obtain rfl:=bhi.none
      intro c1
      refine aQ (u:=.string ⟨(l.drop x).toArray⟩) ?_ (.str _ (by simp;omega))
      rw [run_sliceAt_string w t _ _ _ _ hu]
      unfold Je Ew Hn
      simp only [Av,run_underlying hu,Ak,Gu,Bq,if_false,Az,hb,hs,asIntOf]
      rw [if_pos ⟨by omega,by omega⟩]
      simp only [Az,Ak]
      simp
     | some y=>
      obtain ⟨k',rfl⟩:=bhi.some
      rintro ⟨c1,c2⟩
      refine aQ (u:=.string ⟨((l.take y).drop x).toArray⟩) ?_ (.str _ (by simp;omega))
      rw [run_sliceAt_string w t _ _ _ _ hu]
      unfold Je Ew Hn
      simp only [Av,run_underlying hu,Ak,Gu,Bq,if_false,Az,hb,hs,asIntOf]
      rw [if_pos ⟨by omega,by omega⟩]
      simp only [Az,Ak]
      rw [if_pos ⟨by omega,by omega⟩]
      simp only [Az,Ak,Br]
   .exact trivial
  .rename_i sz xs tt
   split
   .rename_i e esz eb hk
    rw [hk] at hkind
    obtain ⟨⟨hu,ie,z,hi',hs,_⟩,_⟩:=hkind
    refine sdc fun hg=>?_
    obtain rfl:=aB hg
    obtain ⟨hu',hel⟩:=yH hu
    have hse:(E.P.info? (E.P.elem t)).map (·.size)=some sz:=by rw [hel];simp [hi',hs]
    obtain ⟨ad,n,cap,rfl,hn,hcap,key⟩:=GQ hv.untok.1
    have hso:=fun u:World=>run_sizeOf (P:=E.P) hse u
    refine oC hlo fun qlo blo=>oC hhi fun qhi bhi=>oC hmx fun qmx bmx=>?_
    cases qmx with
    | none=>
     obtain rfl:=bmx.none
     cases qlo with
     | none=>
      obtain rfl:=blo.none
      cases qhi with
      | none=>
       obtain rfl:=bhi.none
       refine aQ (u:=sliced ad 0 n cap sz) ?_ ?_
       .rw [run_sliceAt_slice w t _ _ _ _ hu',run_slice_all w t ad n cap hu',hso];rfl
       .have:=(key 0 n (by omega) (Bc _)).1
        rw [<-hn,Fu,Db] at this
        rw [<-hn];exact this
      | some y=>
       obtain ⟨k,rfl⟩:=bhi.some
       intro c1
       refine aQ (u:=sliced ad 0 y cap sz) ?_ ?_
       .rw [run_sliceAt_slice w t _ _ _ _ hu',run_slice_h w t ad n cap hu' k y (by omega) (by omega),hso];rfl
       .have:=(key 0 y (by omega) (by omega)).1
        rw [Db] at this
        exact this
     | some x=>
      obtain ⟨k,rfl⟩:=blo.some
      cases qhi with
      | none=>
       obtain rfl:=bhi.none
       intro c1
       refine aQ (u:=sliced ad x n cap sz) ?_ ?_
       .rw [run_sliceAt_slice w t _ _ _ _ hu',run_slice_l w t ad n cap hu' k x (by omega) (by omega),hso];rfl
       .have:=(key x n (by omega) (Bc _)).1
        rw [<-hn,Fu] at this
        rw [<-hn];exact this
      | some y=>
       obtain ⟨k',rfl⟩:=bhi.some
       rintro ⟨c1,c2⟩
       refine aQ (u:=sliced ad x y cap sz) ?_ ?_
       .rw [run_sliceAt_slice w t _ _ _ _ hu',run_slice_lh w t ad n cap hu' k k' x y (by omega) (by omega) (by omega),hso];rfl
       .exact (key x y (by omega) (by omega)).1
    | some m=>
     obtain ⟨km,rfl⟩:=bmx.some
     cases qlo with
     | some x=>cases qhi<;>exact trivial
     | none=>
      obtain rfl:=blo.none
      cases qhi with
      | none=>exact trivial
      | some y=>
       obtain ⟨k,rfl⟩:=bhi.some
       rintro ⟨c1,rfl⟩
       have hk2:=(key 0 m (by omega) (by omega)).2
       rw [Db] at hk2
       refine aQ (u:=sliced ad 0 m m sz) ?_ ?_
       .rw [run_sliceAt_slice w t _ _ _ _ hu',run_slice_hm w t ad n cap hu' k km m m (by omega) (Gi _) (by omega),hso];rfl
       .exact hk2.tok ⟨_,m,rfl⟩
   .exact trivial
  .rename_i k g
   split
   .rename_i g' sz e' xs _ hog
    have hk:=‹ti.kind=TK.slc _ _ _›
    rw [hk] at hkind
    refine sdc fun hg=>?_
    obtain ⟨hg1,hg2⟩:=aS hg
    obtain rfl:=aB hg1
    obtain rfl:=aB hg2
    obtain ⟨⟨hu,ie,z,hi',hs,_⟩,_⟩:=hkind
    obtain ⟨hu',hel⟩:=yH hu
    have hse:(E.P.info? (E.P.elem t)).map (·.size)=some sz:=by rw [hel];simp [hi',hs]
    have hso:=fun u:World=>run_sizeOf (P:=E.P) hse u
    obtain rfl:=nomx rfl
    obtain ⟨ad,n,cap,rfl,hat⟩:=hv.row_inv
    obtain ⟨hs',v,h1,h2,h3,h4,h5,_⟩:=hm.rowOf (bU hog (by simp))
    rw [hat] at h4
    cases h4
    have hn:n=xs.length/\n<=cap/\(n:Int)<=9223372036854775807/\(ad=none/\n=0/\cap=0\/∃ b,ad=some ⟨b,0,none⟩):=by
     rcases h5.len with ⟨e1,rfl⟩ | ⟨b,c,e1,e2,e3,e4⟩
     .cases e1;exact ⟨rfl,Bc _,by decide,.inl ⟨rfl,rfl,rfl⟩⟩
     .cases e1;exact ⟨rfl,e3,by have:=iW;omega,.inr ⟨b,rfl⟩⟩
    obtain ⟨hn,hcap,hmm,had⟩:=hn
    refine oC hlo fun qlo blo=>oC hhi fun qhi bhi=>?_
    cases qlo with
    | none=>
     obtain rfl:=blo.none
     cases qhi with
     | none=>
      obtain rfl:=bhi.none
      refine aQ (u:=.slice ad n cap) ?_ hv
      rw [run_sliceAt_slice w t _ _ _ _ hu',run_slice_all w t ad n cap hu',hso]
      show Result.ok (sliced ad 0 n cap sz) w=_
      congr 1
      rcases had with ⟨rfl,rfl,rfl⟩ | ⟨b,rfl⟩
      .rfl
      .simp [sliced,bH]
     | some y=>
      obtain ⟨k',rfl⟩:=bhi.some
      intro c1
      refine aQ (u:=sliced ad 0 y cap sz) ?_ (pL had hat hcap (Bm _) (by omega) hmm)
      rw [run_sliceAt_slice w t _ _ _ _ hu',run_slice_h w t ad n cap hu' k' y (by omega) (by omega),hso];rfl
    | some x=>
     obtain ⟨kx,rfl⟩:=blo.some
     cases qhi with
     | none=>
      obtain rfl:=bhi.none
      intro c1
      refine aQ (u:=sliced ad x n cap sz) ?_ ?_
      .rw [run_sliceAt_slice w t _ _ _ _ hu',run_slice_l w t ad n cap hu' kx x (by omega) (by omega),hso];rfl
      .rw [<-hn];exact pL had hat hcap (by omega) (by omega) hmm
     | some y=>
      obtain ⟨k',rfl⟩:=bhi.some
      rintro ⟨c1,c2⟩
      refine aQ (u:=sliced ad x y cap sz) ?_ (pL had hat hcap (by omega) (by omega) hmm)
      rw [run_sliceAt_slice w t _ _ _ _ hu',run_slice_lh w t ad n cap hu' kx k' x y (by omega) (by omega) (by omega),hso];rfl
   .exact trivial
  .rename_i k g l0 len sz
   split
   .rename_i g' sz' e' xs _ hog
    have hk:=‹ti.kind=TK.slc _ _ _›
    rw [hk] at hkind
    refine sdc fun hg=>?_
    obtain ⟨hg12,hg3⟩:=aS hg
    obtain ⟨hg1,hg2⟩:=aS hg12
    obtain rfl:=aB hg1
    obtain rfl:=aB hg2
    obtain rfl:=aB hg3
    obtain ⟨⟨hu,ie,z,hi',hs,_⟩,_⟩:=hkind
    obtain ⟨hu',hel⟩:=yH hu
    have hse:(E.P.info? (E.P.elem t)).map (·.size)=some sz:=by rw [hel];simp [hi',hs]
    have hso:=fun u:World=>run_sizeOf (P:=E.P) hse u
    obtain rfl:=nomx rfl
    obtain ⟨hs',v,h1,h2,h3,h4,h5,_⟩:=hm.rowOf (bU hog (by simp))
    have nl:∀ {n:Nat} {ad:Option Addr} {cap:Nat},at' ob k g=some (.slice ad n cap)->n=xs.length/\n<=cap:=fun {n ad cap} hat=>by
     rw [hat] at h4
     cases h4
     rcases h5.len with ⟨e1,rfl⟩ | ⟨b,c,e1,e2,e3,e4⟩
     .cases e1;exact ⟨rfl,Bc _⟩
     .cases e1;exact ⟨rfl,e3⟩
    cases hv with
    | sub _ _ _ _ _ b n c hat hl hn hc hmm=>
     obtain ⟨hnx,_⟩:=nl hat
     refine oC hlo fun qlo blo=>oC hhi fun qhi bhi=>?_
     cases qlo with
     | none=>
      obtain rfl:=blo.none
      cases qhi with
      | none=>
       obtain rfl:=bhi.none
       refine aQ (u:=sliced (some ⟨b,l0*sz,none⟩) 0 len (c-l0) sz) ?_ (lR hat hl hc (Bm _) hn hmm)
       rw [run_sliceAt_slice w t _ _ _ _ hu',run_slice_all w t _ len _ hu',hso];rfl
      | some y=>
       obtain ⟨k',rfl⟩:=bhi.some
       intro c1
       refine aQ (u:=sliced (some ⟨b,l0*sz,none⟩) 0 y (c-l0) sz) ?_ (lR hat hl hc (Bm _) (by omega) hmm)
       rw [run_sliceAt_slice w t _ _ _ _ hu',run_slice_h w t _ len _ hu' k' y (by omega) (by omega),hso];rfl
     | some x=>
      obtain ⟨kx,rfl⟩:=blo.some
      cases qhi with
      | none=>
       obtain rfl:=bhi.none
       intro c1
       refine aQ (u:=sliced (some ⟨b,l0*sz,none⟩) x len (c-l0) sz) ?_ (lR hat hl hc c1 hn hmm)
       rw [run_sliceAt_slice w t _ _ _ _ hu',run_slice_l w t _ len _ hu' kx x (by omega) (by omega),hso];rfl
      | some y=>
       obtain ⟨k',rfl⟩:=bhi.some
       rintro ⟨c1,c2⟩
       refine aQ (u:=sliced (some ⟨b,l0*sz,none⟩) x y (c-l0) sz) ?_ (lR hat hl hc c1 (by omega) hmm)
       rw [run_sliceAt_slice w t _ _ _ _ hu',run_slice_lh w t _ len _ hu' kx k' x y (by omega) (by omega) (by omega),hso];rfl
    | sub0 _ _ _ _ a a' n c hat hl hc=>
     obtain ⟨hnx,_⟩:=nl hat
     have e0:sliced a' 0 0 0 sz= .slice a' 0 0:=by simp [sliced]
     have r0:Rep M ob (sliced a' 0 0 0 sz) (.sub k g l0 0 sz):=by rw [e0];exact .sub0 _ _ _ _ a a' n c hat hl hc
     refine oC hlo fun qlo blo=>oC hhi fun qhi bhi=>?_
     cases qlo with
     | none=>
      obtain rfl:=blo.none
      cases qhi with
      | none=>
       obtain rfl:=bhi.none
       refine aQ (u:=sliced a' 0 0 0 sz) ?_ r0
       rw [run_sliceAt_slice w t _ _ _ _ hu',run_slice_all w t _ 0 _ hu',hso];rfl
      | some y=>
       obtain ⟨k',rfl⟩:=bhi.some
       intro c1
       obtain rfl:y=0:=by omega
       refine aQ (u:=sliced a' 0 0 0 sz) ?_ r0
       rw [run_sliceAt_slice w t _ _ _ _ hu',run_slice_h w t _ 0 _ hu' k' ((0:Nat):Int) (by omega) (by omega),hso];rfl
     | some x=>
      obtain ⟨kx,rfl⟩:=blo.some
      cases qhi with
      | none=>
       obtain rfl:=bhi.none
       intro c1
       obtain rfl:x=0:=by omega
       refine aQ (u:=sliced a' 0 0 0 sz) ?_ r0
       rw [run_sliceAt_slice w t _ _ _ _ hu',run_slice_l w t _ 0 _ hu' kx ((0:Nat):Int) (by omega) (by omega),hso];rfl
      | some y=>
       obtain ⟨k',rfl⟩:=bhi.some
       rintro ⟨c1,c2⟩
       obtain rfl:y=0:=by omega
       obtain rfl:x=0:=by omega
       refine aQ (u:=sliced a' 0 0 0 sz) ?_ r0
       rw [run_sliceAt_slice w t _ _ _ _ hu',run_slice_lh w t _ 0 _ hu' kx k' ((0:Nat):Int) ((0:Nat):Int) (by omega) (by omega) (by omega),hso];rfl
   .exact trivial
  .rename_i k off
   split
   .rename_i len esz ea hk
    rw [hk] at hkind
    obtain ⟨⟨e,hu,hse,_⟩,_⟩:=hkind
    obtain rfl:=nomx rfl
    obtain rfl:=nolo rfl
    obtain rfl:=nohi rfl
    intro hmm
    obtain ⟨b,rfl,hb⟩:=hv.ref_inv
    refine aQ (u:=.slice (some ⟨b,off,none⟩) len len) ?_ (.csl _ _ _ _ b hb hmm)
    unfold Fg Gk Ew
    simp only [Av,run_underlying hu,Ak,Az,run_sizeOf hse]
    simp [bH]
   .exact trivial
  .rename_i cs
   split
   .rename_i len hk
    rw [hk] at hkind
    obtain ⟨⟨e,hu,hse,_⟩,_⟩:=hkind
    obtain rfl:=nomx rfl
    obtain rfl:=nolo rfl
    obtain rfl:=nohi rfl
    split
    .rename_i l hl
     refine sdc fun hone=>?_
     intro hmm
     obtain ⟨t1,t2⟩:=gO hl
     obtain ⟨b,o',rfl,hM⟩:=hv.ptr_inv
     refine aQ (u:=.slice (some ⟨b,o',none⟩) len len) ?_ (.sl 1 b o' len len l _ t1 (Bc _) hmm (fun x hx=>?_) (fun i j x c hx hc=>?_) ⟨_,len,rfl⟩)
     .unfold Fg Gk Ew
      simp only [Av,run_underlying hu,Ak,Az,run_sizeOf hse]
      simp [bH]
     .obtain ⟨i,hi⟩:=Cz hx
      rw [kY (jE hone i x hi)];rfl
     .rw [kY (jE hone i x hx)] at hc
      cases j with
      | succ j=>simp at hc
      | zero=>
       simp at hc
       subst hc
       have:=hM i x (t2 i x hx)
       simpa using this
    .exact trivial
   .exact trivial
  .exact trivial
end
section
variable {P:Program} {E:Env} {M:Imm} {ob:Hs} {obs:List AObj} {w:World} {base:Nat}
theorem OH {α:Type} (l:List α):(l.drop 0).take l.length=l:=by simp
theorem OK (hm:Mem M ob obs w) {x:Value} {a:AVal} (hx:Rep M ob x a) {sz:Nat} {xs:List AVal} (h:U3 (aE obs) a=some (sz,xs)) (hs:0<sz) {tx e':TypeId} (hk:P.underlying tx=some (.slice e')):
  SrcA P M w sz tx x xs/\∃ ad c,x= .slice ad xs.length c/\(ad=none->xs=[]/\c=0):=by
 unfold U3 at h
 split at h
 .cases h
  obtain ⟨ad,c,e,h0,_⟩:=hx.slice_inv
  exact ⟨SrcA.ofSlice hm hs hk hx,ad,c,e,h0⟩
 .rename_i k g
  obtain ⟨ad,n,c,rfl,hat⟩:=hx.row_inv
  split at h
  .rename_i g' sz' e xs' hog
   obtain ⟨hg,h⟩:=dK h
   cases h
   obtain rfl:=aB hg
   have ho:=bU hog (by simp)
   obtain ⟨hs',v,h1,h2,h3,h4,h5,_⟩:=hm.rowOf ho
   rw [hat] at h4
   cases h4
   have hl:n=xs.length/\(ad=none->xs=[]/\c=0):=by
    rcases h5.len with ⟨e1,rfl⟩ | ⟨b,c,e1,e2,e3,e4⟩
    .cases e1;exact ⟨rfl,fun _=>⟨rfl,rfl⟩⟩
    .cases e1;exact ⟨rfl,fun h=>by cases h⟩
   obtain ⟨rfl,hl0⟩:=hl
   have:=SrcA.ofRow hm hs ho hk hat (lo:=0) (len:=xs.length) (by omega) (x:=.slice ad xs.length c) (fun b n' c' e _=>by cases e;exact ⟨_,by rw [Ij]⟩) (fun h=>⟨ad,c,by rw [h]⟩)
   rw [OH] at this
   exact ⟨this,ad,c,rfl,hl0⟩
  .rename_i g' sz' xs' hog
   obtain ⟨hg,h⟩:=dK h
   cases h
   obtain rfl:=aB hg
   obtain ⟨hs',h1,v,h2,h3⟩:=hm.obj _ _ (bU hog (by simp))
   rw [bT h1,h2] at hat
   cases hat
   have h3':=h3.pure (M:=M) (ob:=ob)
   obtain ⟨ad',c',e,h0,_⟩:=h3'.slice_inv
   exact ⟨SrcA.ofSlice hm hs hk h3',ad',c',e,h0⟩
  .cases h
 .rename_i k g lo len sz
  split at h
  .rename_i g' sz' e xs' hog
   obtain ⟨hg,h⟩:=dK h
   cases h
   obtain ⟨hg1,hg2⟩:=aS hg
   obtain rfl:=aB hg1
   obtain rfl:=aB hg2
   have ho:=bU hog (by simp)
   obtain ⟨hs',v,h1,h2,h3,h4,h5,_⟩:=hm.rowOf ho
   cases hx with
   | sub _ _ _ _ _ b n c hat hl hn hc hmm=>
    rw [hat] at h4
    cases h4
    have hn':n=xs'.length:=by
     rcases h5.len with ⟨e1,_⟩ | ⟨b,c,e1,_⟩
     .cases e1
     .cases e1;rfl
    have hlen:((xs'.drop lo).take len).length=len:=by simp;omega
    refine ⟨SrcA.ofRow hm hs ho hk hat (lo:=lo) (len:=len) (by omega) (fun b' n' c' e _=>by cases e;exact ⟨_,rfl⟩) (fun h=>⟨_,_,by rw [h]⟩),_,_,by rw [hlen],fun e=>by cases e⟩
   | sub0 _ _ _ _ ad a' n c hat hl hc=>
    rw [hat] at h4
    cases h4
    have hn':n=xs'.length:=by
     rcases h5.len with ⟨e1,rfl⟩ | ⟨b,c,e1,_⟩
     .cases e1;rfl
     .cases e1;rfl
    refine ⟨SrcA.ofRow hm hs ho hk hat (lo:=lo) (len:=0) (by omega) (fun b' n' c' e h=>absurd rfl h) (fun _=>⟨_,_,rfl⟩),a',0,by simp,fun _=>⟨by simp,rfl⟩⟩
  .cases h
 .cases h
theorem GP (hE:EnvOK E) (hm:Mem M ob obs w) {x:Value} {a:AVal} (hx:Rep M ob x a) {esz t2:Nat} {ys:List AVal} (h:OL E (aE obs) esz t2 a=some ys) (hs:0<esz):SrcA E.P M w esz t2 x ys:=by
 unfold OL at h
 split at h
 .rename_i l
  split at h
  .rename_i _ _ _ hT
   obtain ⟨hg,h⟩:=dK h
   cases h
   obtain rfl:=aB hg
   obtain ⟨rfl,_⟩:=hx.str_inv
   exact SrcA.ofStr (hE.tab t2 _ hT).kind.1 l
  .cases h
 .split at h
  .rename_i _ _ _ _ _ _ hT
   cases h
   cases hx
   exact ⟨⟨[],Src.ofNil w (hE.tab t2 _ hT).kind.1.1 0,fun q c hq=>by simp [aH] at hq⟩,fun y hy=>by simp at hy,fun m hm=>wT hm⟩
  .cases h
 .split at h
  .rename_i _ _ _ _ _ _ sz xs hT hL
   obtain ⟨hg,h⟩:=dK h
   cases h
   obtain rfl:=aB hg
   exact (OK hm hx hL hs (hE.tab t2 _ hT).kind.1.1).1
  .cases h
theorem OU {s d e:TypeId} {ad:Option Addr} {l:List UInt8} {c:Nat} (hu:P.underlying s=some (.slice e)) (he:P.underlying e=some (.int .u8)) (hd:P.underlying d=some .string)
  (h0:ad=none->l=[]/\c=0) (hs:SrcA P M w 1 s (.slice ad l.length c) (l.map ub)):(convert s d (.slice ad l.length c)).run P w= .ok (.string ⟨l.toArray⟩) w:=by
 rw [run_convert_bytes_string w s d e ad l.length c hu he hd]
 cases ad with
 | none=>
  obtain ⟨rfl,rfl⟩:=h0 rfl
  simp [Conv.bytesToString]
  rfl
 | some ad=>
  obtain ⟨⟨news,hsrc,hr⟩,_⟩:=hs
  have hnl:news.length=l.length:=by rw [hsrc.newsLen];simp
  have hnews:news=(l.map fun c=>(c.toNat:Int)).map (Hl .u8):=by
   refine Ee fun j=>?_
   by_cases hj:j<l.length
   .obtain ⟨u,hu',hru⟩:=hr j (ub l[j]) (by rw [tH,Ac hj];rfl)
    rw [hu',hru.int_inv.1]
    simp [Ac hj]
   .rw [Bf (by omega),Bf (by simp;omega)]
  have hld:(loadCells ad l.length).run P w= .ok news.toArray w:=by
   have:=hsrc.cells
   rw [Cv] at this
   have e:Bv 1 l.length (.slice (some ad) l.length c)=loadCells ad (l.length*1):=rfl
   rw [e,Nat.mul_one] at this
   exact this
  rw [hnews] at hld
  rw [run_bytesToString w ad l.length c _ hld]
  congr 2
  have hfold:∀ (l:List UInt8) (r:ByteArray),(l.map fun c=>(c.toNat:Int)).foldl (fun r n=>r.push (Di n.toNat)) r=⟨r.data++l.toArray⟩:=by
   intro l
   induction l with
   | nil=>intro r;cases r;simp
   | cons c l ih=>
    intro r
    simp only [Cn,Bi,ih]
    cases r with
    | mk d=>simp [ByteArray.push]
  rw [hfold]
  congr 1
  have:(ByteArray.empty).data= #[]:=rfl
  rw [this]
  simp
theorem uT (w:World) (e:TypeId) (s:ByteArray):(Lib.bytesWorld w e s).os=w.os/\(Lib.bytesWorld w e s).tape=w.tape/\(Lib.bytesWorld w e s).output=w.output:=⟨rfl,rfl,rfl⟩
theorem X8 (hE:EnvOK E) (hm:Mem M ob obs w) {s d:TypeId} {v:Value} {a:AVal} (hv:Rep M ob v a):PM E.P M ob w (convert s d v) obs base (TD E (aE obs) s d a):=by
 unfold TD
 split
 .rename_i ts td hs hd
  have hks:=(hE.tab s ts hs).kind
  have hkd:=(hE.tab d td hd).kind
  obtain ⟨hsome,_⟩:=hks.isAgg
  obtain ⟨ds,hds⟩:=Ct.1 hsome
  split
  .rename_i k k0 n hk
   rw [hk] at hkd
   obtain ⟨rfl,_⟩:=hv.int_inv
   have key:(convert s d (.int k0 n)).run E.P w= .ok (.int k (k.wrap n)) w:=by
    simp [convert,run_underlying hds,run_underlying hkd.1,Conv.intToInt]
   refine PM.of hm ⟨fun hp=>⟨rfl,_,by rw [key,hC hp],.int _ _ hp⟩,rfl,_,key,.int _ _ (jJ _ _)⟩
  .rename_i l hk
   rw [hk] at hkd
   obtain ⟨rfl,hl⟩:=hv.str_inv
   split
   .rename_i hk2
    rw [hk2] at hks
    refine PM.of hm (aQ (u:=.string ⟨l.toArray⟩) ?_ (.str _ hl))
    simp [convert,run_underlying hks.1,run_underlying hkd.1]
   .exact trivial
  .rename_i e eb l hk
   rw [hk] at hkd
   obtain ⟨⟨hud,_⟩,_⟩:=hkd
   obtain ⟨rfl,hl⟩:=hv.str_inv
   split
   .rename_i _ _ _ hk2 he
    rw [hk2] at hks
    have hke:=(hE.tab e _ he).kind.1
    have hrun:=Lib.run_convert_string_bytes (P:=E.P) w s d e ⟨l.toArray⟩ hks.1 hud hke
    rw [lU] at hrun
    obtain ⟨q1,q2,q3⟩:=uT w e ⟨l.toArray⟩
    have key:∀ (j:Nat) c,l[j]? =some c->(Lib.bytesWorld w e ⟨l.toArray⟩).cell? ⟨w.heap.size,j,none⟩=some (.int .u8 c.toNat):=fun j c hj=>by
     have hlt:j<l.length:=(Ab.1 hj).1
     rw [Lib.bytesWorld_cell w e ⟨l.toArray⟩ j (by rw [lU];exact hlt)]
     simp [List.getD,hj]
    obtain ⟨m1,m2⟩:=hm.more (M':=fun b o y=>M b o y\/(b=w.heap.size/\∃ c,l[o]? =some c/\y=ub c)) (w':=Lib.bytesWorld w e ⟨l.toArray⟩) (fun _ _ _ h=>.inl h) (fun b o y hy=>by
      rcases hy with hy | ⟨rfl,_⟩
      .exact .inl hy
      .exact .inr (Bc _)) (fun b o y hy=>by
      rcases hy with hy | ⟨rfl,c,hc,rfl⟩
      .obtain ⟨v,h1,h2,h3⟩:=hm.imm b o y hy
       exact ⟨v,(Lib.bytesWorld_old w e _ _ (Cj w _ h1)).trans h1,h2,h3.monoM fun _ _ _ h=>.inl h⟩
      .exact ⟨_,key o c hc,rfl,qO c⟩) (fun b hb=>Lib.bytesWorld_at_old w e _ b hb) q1 q2 q3 (by rw [Lib.bytesWorld_size];omega)
    refine ⟨_,_,_,ob,hrun,m2,m1,cF.refl _ _,.sl 1 w.heap.size 0 _ _ _ _ (by simp) (grownCap_ge w _ 0 e) hl (fun x hx=>JA l x hx) (fun i j x c hx hc=>?_) trivial⟩
    rw [Bb] at hx
    obtain ⟨c',hc',rfl⟩:=Bx.1 hx
    cases j with
    | succ j=>simp [ub,AVal.cells] at hc
    | zero=>
     simp [ub,AVal.cells] at hc
     subst hc
     exact .inr ⟨rfl,c',by simpa using hc',rfl⟩
   .exact trivial
  .have hk:=‹td.kind=TK.str›
   rw [hk] at hkd
   split
   .rename_i e eb xs hk2 hL
    rw [hk2] at hks
    split
    .rename_i _ _ _ he
     have hke:=(hE.tab e _ he).kind.1
     intro l hxl hlm
     subst hxl
     obtain ⟨hsrc,ad,c,rfl,h0⟩:=OK (P:=E.P) hm hv hL (by decide) hks.1.1
     refine ⟨_,w,M,ob,?_,Ext.refl _ _ _ _,hm,cF.refl _ _,.str l hlm⟩
     rw [Cv] at hsrc⊢
     exact OU hks.1.1 hke hkd.1 (fun e=>by obtain ⟨q1,q2⟩:=h0 e;exact ⟨by simpa using q1,q2⟩) hsrc
    .exact trivial
   .exact trivial
  .exact trivial
 .exact trivial
theorem A4 (off:Nat):∀ (l:List Value) (k:Nat) (cells:Array Value),((l.zipIdx k).foldl (fun (cs:Array Value) (p:Value×Nat)=>cs.setIfInBounds (off+p.2) p.1) cells).size=cells.size/\
  ∀ (i:Nat),((l.zipIdx k).foldl (fun (cs:Array Value) (p:Value×Nat)=>cs.setIfInBounds (off+p.2) p.1) cells)[i]? =if off+k<=i/\i<off+k+l.length/\i<cells.size then l[i-(off+k)]? else cells[i]?
 | [],k,cells=>by
  refine ⟨rfl,fun i=>?_⟩
  simp
  intro h1 h2
  omega
 | c::l,k,cells=>by
  obtain ⟨h1,h2⟩:=A4 off l (k+1) (cells.setIfInBounds (off+k) c)
  simp only [List.zipIdx_cons,Bi]
  refine ⟨by rw [h1];simp,fun i=>?_⟩
  rw [h2]
  simp only [Array.size_setIfInBounds,Ao]
  by_cases hi:i=off+k
  .subst hi
   rw [if_neg (by omega)]
   by_cases hs:off+k<cells.size
   .rw [if_pos ⟨by omega,by omega,hs⟩]
    simp [hs]
   .rw [if_neg (by omega)]
    rw [Array.getElem?_setIfInBounds_self]
    simp [hs]
  .rw [Ci (by omega)]
   by_cases hin:off+(k+1)<=i/\i<off+(k+1)+l.length/\i<cells.size
   .rw [if_pos hin,if_pos ⟨by omega,by omega,hin.2.2⟩]
    have:i-(off+k)=(i-(off+(k+1)))+1:=by omega
    rw [this,Fv]
   .rw [if_neg hin,if_neg (by omega)]
def zE (M:Imm) (ob:Hs) (vs:List (Nat×Value)) (as:List (Nat×AVal)):Prop:=
 vs.length=as.length/\∀ (i:Nat) (p:Nat×Value) (q:Nat×AVal),vs[i]? =some p->as[i]? =some q->p.1=q.1/\Rep M ob p.2 q.2
theorem pW {place place':Nat->Option (Nat×Nat)} (hp:∀ i p,place' i=some p->place i=some p):
  ∀ {parts:List (Nat×AVal)} {vparts:List (Nat×Value)} {cs cs':List AVal} {cells:Array Value},yI place' cs parts=some cs'->cB M ob cells.toList cs->zE M ob vparts parts->
   ∃ cells',Instr.fill place cells vparts=some cells'/\cB M ob cells'.toList cs':=by
 intro parts
 induction parts with
 | nil=>
  intro vparts cs cs' cells h hr hl
  have:vparts=[]:=Au hl.1
  subst this
  cases h
  exact ⟨cells,rfl,hr⟩
 | cons q parts ih=>
  intro vparts cs cs' cells h hr hl
  obtain ⟨hl,hv⟩:=hl
  obtain ⟨i,x⟩:=q
  match vparts,hl with
  | (i',v)::vparts,hl=>
   obtain ⟨e1,hrep⟩:=hv 0 _ _ rfl rfl
   dsimp only at e1 hrep
   subst e1
   simp only [yI] at h
   split at h
   .cases h
   .rename_i off sz hpl
    obtain ⟨hg,h2⟩:=dK h
    obtain ⟨hnu,hsz⟩:=aS hg
    have hne:x≠ .undef:=fun e=>by subst e;cases hnu
    have hsz':=aB hsz
    rw [rS] at hsz'
    split at h2
    .rename_i cs1 hput
     obtain ⟨p1,p2,p3⟩:=iD hput
     obtain ⟨hcl,hcr⟩:=hrep.cells hne
     have hvl:v.cells.size=x.cells.length:=by rw [<-hcl];simp
     obtain ⟨f1,f2⟩:=A4 off v.cells.toList 0 cells
     have hcs:cells.size=cs.length:=by have:=hr.1;simpa using this
     have hfold:v.cells.zipIdx.foldl (fun (cs:Array Value) (x:Value×Nat)=>match x with | (c,j)=>cs.setIfInBounds (off+j) c) cells=(v.cells.toList.zipIdx 0).foldl (fun (cs:Array Value) (p:Value×Nat)=>cs.setIfInBounds (off+p.2) p.1) cells:=by
      rw [<-Array.foldl_toList]
      simp
     have hnext:cB M ob ((v.cells.toList.zipIdx 0).foldl (fun (cs:Array Value) (p:Value×Nat)=>cs.setIfInBounds (off+p.2) p.1) cells).toList cs1:=by
      refine ⟨by rw [Eg,f1,hcs,p2],fun j u c hu hc=>?_⟩
      rw [Ke,f2 j] at hu
      rw [p3 j] at hc
      simp only [Dk] at hu
      by_cases hin:off<=j/\j<off+x.cells.length
      .rw [if_pos hin] at hc
       rw [if_pos ⟨by omega,by rw [hcl];omega,by omega⟩] at hu
       exact hcr _ u c hu hc
      .rw [if_neg hin] at hc
       rw [if_neg (by rw [hcl];omega)] at hu
       exact hr.2 j u c (by rw [Ke];exact hu) hc
     obtain ⟨cells',g1,g2⟩:=ih (vparts:=vparts) h2 hnext ⟨by simpa using hl,fun i p q hp hq=>hv (i+1) p q (by simpa using hp) (by simpa using hq)⟩
     refine ⟨cells',?_,g2⟩
     simp only [Instr.fill,hp _ _ hpl]
     rw [if_neg]
     .rw [hfold];exact g1
     .simp only [Dg,decide_eq_true_eq,not_or]
      constructor
      .simp [hvl,hsz']
      .omega
    .cases h2
theorem tZ {P:Program}:∀ {flds:List Field} {fs:List (Nat×Nat×Bool)},lP P flds fs->flds.mapM (fun f=>(P.info? f.type).map fun i=>(f.offset,i.size))=some (fs.map fun f=>(f.1,f.2.1))
 | [],[],_=>rfl
 | [],_::_,h=>h.elim
 | _::_,[],h=>h.elim
 | f::flds,(off,sz,ag)::fs,h=>by
  obtain ⟨h1,h2,h3,h4,h5⟩:=h
  obtain ⟨i,hi,rfl⟩:=Bx.1 h2
  simp [List.mapM_cons,hi,tZ h5,h1]
theorem J0 {α β:Type} (f:α->β):∀ (l:List α) (n:Nat),(nth l n).map f=(l.map f)[n]?
 | [],_=>by simp [nth]
 | x::_,0=>rfl
 | _::r,n+1=>by simpa [nth] using J0 f r n
theorem TF (hE:EnvOK E) {t:TypeId} {parts:List (Nat×AVal)} {vparts:Array (Nat×Value)} (hl:zE M ob vparts.toList parts):PS0 E.P M ob w (Instr.build t vparts) obs base (IE E t parts):=by
 unfold IE
 split
 .rename_i ti hT
  have hti:=hE.tab t ti hT
  obtain ⟨info,z,hi,hsz,hz,hzs,hzr,_,_⟩:=hti.info
  have hkind:=hti.kind
  split
  .rename_i fs zs hk hzz
   rw [hk] at hkind
   obtain ⟨⟨flds,hu,hf⟩,_⟩:=hkind
   split
   .rename_i cs hfill
    rw [hzz] at hzr
    cases hzr with
    | agg vs as hlen hrr=>
     have hr0:cB M ob vs.toArray.toList zs:=⟨by simpa using hlen,fun i v a hv ha=>gZ (hrr i v a (by simpa using hv) ha)⟩
     obtain ⟨cells',g1,g2⟩:=pW (place:=((fs.map fun f=>(f.1,f.2.1)).toArray[·]?)) (fun i p hp=>by rw [J0] at hp;simpa using hp) hfill hr0 hl
     have hb:E.P.built t vparts.toList=some cells':=by
      simp only [Program.built,hi,hu,hz,tZ hf]
      exact g1
     have:cells'=cells'.toList.toArray:=by simp
     rw [this] at hb
     exact aQ (run_build w t vparts _ hb) (.agg _ _ g2.1 g2.2)
   .exact trivial
  .rename_i n esz ea zs hk hzz
   rw [hk] at hkind
   obtain ⟨⟨e,hu,hse,_⟩,_⟩:=hkind
   obtain ⟨ie,hie,rfl⟩:=Bx.1 hse
   split
   .rename_i cs hfill
    rw [hzz] at hzr
    cases hzr with
    | agg vs as hlen hrr=>
     have hr0:cB M ob vs.toArray.toList zs:=⟨by simpa using hlen,fun i v a hv ha=>gZ (hrr i v a (by simpa using hv) ha)⟩
     obtain ⟨cells',g1,g2⟩:=pW (place:=fun i=>some (i*ie.size,ie.size)) (fun i p hp=>hp) hfill hr0 hl
     have hb:E.P.built t vparts.toList=some cells':=by
      simp only [Program.built,hi,hu,hz,hie]
      exact g1
     have:cells'=cells'.toList.toArray:=by simp
     rw [this] at hb
     exact aQ (run_build w t vparts _ hb) (.agg _ _ g2.1 g2.2)
   .exact trivial
  .exact trivial
 .exact trivial
end
section
variable {P:Program} {E:Env} {M:Imm} {ob:Hs} {obs:List AObj} {w:World} {base:Nat}
theorem Mem.bare (h:Mem M ob obs w):Mem M [] [] w:=
 ⟨h.imm,rfl,fun k c hc=>by simp at hc,fun k b ⟨c,hs,h1,_⟩=>by simp at h1,fun k k' b ⟨c,hs,h1,_⟩=>by simp at h1⟩
theorem EG:aE []=fun _=>AObj.dead:=by funext n;cases n<;>rfl
theorem Mem.pure0 (h:Mem M ob obs w) {v:Value} {a:AVal} (hr:Rep (fun _ _ _=>False) [] v a):Rep M [] v (AW.pureV (fun _=>.dead) 4 a):=by
 have:=h.bare.pureV 4 v a (gZ hr)
 rwa [EG] at this
theorem tT {t:Nat} {ad:Addr} {v:Value} {w':World} (hs:(P.info? t).map (·.size)=some v.cells.size) (h:(storeCells ad v.cells.toList).run P w= .ok () w'):
  (Hr t (.pointer (some ad)) v).run P w= .ok () w':=by
 unfold Hr Gk storeVar
 simp only [Av,Az,Ak,run_sizeOf hs,ne_eq,not_true_eq_false,if_false]
 exact h
theorem G4 {y:AVal} {new cs':List AVal} {off:Nat} (hput:kM off new y.cells=some cs') (hone:lS new=true):(aAh y cs').cells=cs':=by
 obtain ⟨p1,p2,p3⟩:=iD hput
 by_cases ha:∃ as,y= .agg as
 .obtain ⟨as,rfl⟩:=ha;rfl
 .have hy1:y.cells=[y]:=by cases y<;>first | rfl | exact absurd ⟨_,rfl⟩ ha
  have e:aAh y cs'=ZC cs':=by cases y<;>first | rfl | exact absurd ⟨_,rfl⟩ ha
  rw [e]
  rw [hy1] at p2 p3
  match cs',p2,p3 with
  | [c],_,p3=>
   show c.cells=[c]
   have h0:=p3 0
   simp only [Jp] at h0
   split at h0
   .exact kY (jE hone _ c h0.symm)
   .simp at h0
    rw [h0]
    exact hy1
theorem LO {sz:Nat} {xs:List AVal} {i off:Nat} {y y':AVal} {new:List AVal} (hs:0<sz) (hx:xs[i]? =some y) (hz:y.cells.length=sz)
  (h1:off+new.length<=sz) (h2:∀ (j:Nat),y'.cells[j]? =if off<=j/\j<off+new.length then new[j-off]? else y.cells[j]?) {q:Nat} {c:AVal} (h:aH sz (xs.set i y') q=some c):
  (i*sz+off<=q/\q<i*sz+off+new.length/\new[q-(i*sz+off)]? =some c)\/((q<i*sz+off\/i*sz+off+new.length<=q)/\aH sz xs q=some c):=by
 have hil:i<xs.length:=(Ab.1 hx).1
 obtain ⟨z,hz1,hz2⟩:=fF h
 have hdm:sz*(q / sz)+q % sz=q:=Ib q sz
 have hmod:=Iu q hs
 by_cases hi:q / sz=i
 .rw [hi,Ax hil] at hz1
  cases hz1
  rw [h2] at hz2
  rw [hi,Dj] at hdm
  split at hz2
  .rename_i hin
   left
   refine ⟨by omega,by omega,?_⟩
   rw [show q-(i*sz+off)=q % sz-off from by omega]
   exact hz2
  .rename_i hin
   right
   refine ⟨by omega,?_⟩
   unfold aH
   rw [hi,hx]
   exact hz2
 .rw [Bd (Ds hi)] at hz1
  right
  refine ⟨?_,?_⟩
  .rcases Nat.lt_or_ge (q / sz) i with hlt | hge
   .left
    have:(q / sz+1)*sz<=i*sz:=Bp _ hlt
    rw [Cc,Dj] at this
    omega
   .right
    have:(i+1)*sz<=q / sz*sz:=Bp _ (by omega)
    rw [Cc,Dj (q / sz)] at this
    omega
  .unfold aH
   rw [hz1]
   exact hz2
def VU (P:Program) (M:Imm) (ob:Hs) (obs:List AObj) (w:World) (s:Sem Unit) (v:AVal) (obs':List AObj):Prop:=
 v= .undef/\∃ w' M' ob',s.run P w= .ok () w'/\Ext M ob obs w M' ob' obs' w'/\Mem M' ob' obs' w'/\cF ob obs ob' obs'
theorem S0 (hE:EnvOK E) (hm:Mem M ob obs w) {t:Nat} {v u:Value} {a x:AVal} (hv:Rep M ob v a) (hu:Rep M ob u x):
  Sd (VU E.P M ob obs w (Hr t v u)) (fun _ _=>False) (fun _=>False) obs base (H2 E (aE obs) t a x):=by
 unfold H2
 split
 .exact trivial
 .rename_i ti hT
  have hti:=hE.tab t ti hT
  refine sdc fun hg=>?_
  obtain ⟨hone,hlen⟩:=aS hg
  obtain ⟨hcl,hc1,hcr⟩:=hu.cells_one hone
  have hsz:u.cells.size=ti.size:=by
   have:=aB hlen
   rw [rS] at this
   have h3:u.cells.size=u.cells.toList.length:=by simp
   omega
  have hs:(E.P.info? t).map (·.size)=some u.cells.size:=by rw [hsz];exact hti.size?
  split
  .rename_i k off
   obtain ⟨b,rfl,hb⟩:=hv.ref_inv
   split
   .rename_i T' cs hog
    have hk:=bU hog (by simp)
    split
    .rename_i cs' hput
     obtain ⟨p1,p2,p3⟩:=iD hput
     obtain ⟨hs0,e1,b',rfl,hM,cv,hh,hlen',h1',hrep⟩:=hm.obj k _ hk
     have hbb:b'=b:=by rw [bT e1] at hb;simpa using hb
     subst hbb
     have hfit:off+u.cells.toList.length<=cv.length:=by omega
     obtain ⟨q1,q2⟩:=dX cv u.cells.toList off hfit
     have hst:=run_storeCells_at E.P b' off T' u.cells.toList 0 cv.toArray w hh (by simpa using hfit) hc1
     simp only [Dk] at hst
     have:=hm.cellsTurn (cs':=cs') (cv':=cv.take off++u.cells.toList++cv.drop (off+u.cells.toList.length)) hk hb (by omega) (fun v hv=>by
       simp only [Ba] at hv
       rcases hv with (hv | hv) | hv
       .exact h1' v (Ch hv)
       .exact hc1 v hv
       .exact h1' v (Dp hv)) (fun i v c hvi hci=>by
       rw [q2 i] at hvi
       rw [p3 i,<-hcl] at hci
       split at hvi
       .rename_i hin
        rw [if_pos hin] at hci
        exact hcr _ v c hvi hci
       .rename_i hin
        rw [if_neg hin] at hci
        exact hrep i v c hvi hci)
     refine ⟨rfl,_,M,ob,tT hs hst,?_⟩
     rw [aP hk]
     exact ⟨this.2.1,this.1,this.2.2⟩
    .exact trivial
   .exact trivial
  .rename_i k g i sz off
   cases hv with
   | eref _ _ _ _ _ b n c hat=>
   split
   .rename_i g' sz' e xs hog
    have hk:=bU hog (by simp)
    refine sdc fun hg2=>?_
    obtain ⟨hg3',hone'⟩:=aS hg2
    obtain ⟨hg3,hpos'⟩:=aS hg3'
    obtain ⟨hg4,hg5⟩:=aS hg3
    obtain rfl:=aB hg4
    obtain rfl:=aB hg5
    have hpos:0<sz:=Bw hpos'
    have hpu:=hm.pureV 4 u x hu
    obtain ⟨hcl',_,hcr'⟩:=hpu.cells_one hone'
    obtain ⟨hs0,v0,e1,e2,e3,e4,hrow,_⟩:=hm.rowOf hk
    have hrl:=hrow.len
    rw [hat] at e4
    cases e4
    obtain ⟨cv,_,_,hz,_⟩:=hrow
    have gen:∀ {y y':AVal},0<sz->xs[i]? =some y->off+(pureV (aE obs) 4 x).cells.length<=sz->(∀ (j:Nat),y'.cells[j]? =if off<=j/\j<off+(pureV (aE obs) 4 x).cells.length then (pureV (aE obs) 4 x).cells[j-off]? else y.cells[j]?)->
      y'.cells.length=sz->VU E.P M ob obs w (Hr t (.pointer (some ⟨b,i*sz+off,none⟩)) u) .undef (bK obs k (.row g sz e (xs.set i y'))):=by
     intro y y' hpos hy h1 h2 h3
     have hil:i<xs.length:=(Ab.1 hy).1
     have hmul:(i+1)*sz<=xs.length*sz:=Bp _ hil
     rw [Cc,Jf] at hmul
     obtain ⟨w',r1,r2,r3,r4⟩:=hm.rowWrite (P:=E.P) (xs':=xs.set i y') hk hat hpos (p:=i*sz+off) (news:=u.cells.toList) (by omega) hc1 (by simp) (fun z hz'=>by
       rcases Ej hz' with hz' | rfl
       .exact hz z hz'
       .exact h3) (fun q c hq=>by
       rcases LO hpos hy (hz y (Aw hy)) h1 h2 hq with ⟨a1,a2,a3⟩ | ⟨a1,a2⟩
       .left
        refine ⟨a1,by omega,?_⟩
        have hlt:q-(i*sz+off)<u.cells.toList.length:=by omega
        exact ⟨_,Ac hlt,hcr' _ _ c (Ac hlt) a3⟩
       .right
        exact ⟨by omega,a2⟩)
     refine ⟨rfl,w',M,ob,tT hs r1,?_⟩
     rw [aP hk]
     exact ⟨r3,r2,r4⟩
    cases hq:(Ar off 0&&Ar ti.size sz) with
    | true=>
     obtain ⟨ho1,ho2⟩:=aS hq
     obtain rfl:=aB ho1
     have hts:=aB ho2
     intro hil
     have hnl:(pureV (aE obs) 4 x).cells.length=sz:=by
      have:u.cells.toList.length=u.cells.size:=by simp
      omega
     have hy:=Ac hil
     have hyz:=hz _ (Aw hy)
     exact gen hpos hy (by omega) (fun j=>by
       split
       .rw [Fy]
       .rw [Bf (by omega),Bf (by omega)]) hnl
    | false=>
     intro y hy
     dsimp only
     split
     .rename_i cs' hput
      obtain ⟨p1,p2,p3⟩:=iD hput
      have hyz:=hz y (Aw hy)
      have hrc:=G4 hput hone'
      exact gen hpos hy (by omega) (fun j=>by rw [hrc];exact p3 j) (by rw [hrc];omega)
     .exact trivial
   .exact trivial
  .exact trivial
end
section
variable {P:Program} {E:Env} {M:Imm} {ob:Hs} {obs:List AObj} {w:World} {base:Nat}
theorem Mem.rowSplice (hm:Mem M ob obs w) {k g sz:Nat} {e:TypeId} {xs ys:List AVal} (hx:obs[k]? =some (.row g sz e xs)) {b n cap:Nat} (hv:at' ob k g=some (.slice (some ⟨b,0,none⟩) n cap)) (hs:0<sz) {i:Nat} (hi:i+ys.length<=xs.length)
  (hz:∀ y∈ys,y.cells.length=sz) {news:List Value} (hl:news.length=ys.length*sz) (h1:∀ u∈news,u.oneCell'=true) (hr:∀ (q:Nat) c,aH sz ys q=some c->∃ u,news[q]? =some u/\Rep M [] u c):
  ∃ w',(storeCells ⟨b,i*sz,none⟩ news).run P w= .ok () w'/\Mem M ob (obs.set k (.row g sz e (xs.take i++ys++xs.drop (i+ys.length)))) w'/\
   Ext M ob obs w M ob (obs.set k (.row g sz e (xs.take i++ys++xs.drop (i+ys.length)))) w'/\cF ob obs ob (obs.set k (.row g sz e (xs.take i++ys++xs.drop (i+ys.length)))):=by
 obtain ⟨hs0,v0,e1,e2,e3,e4,hrow,_⟩:=hm.rowOf hx
 obtain ⟨cv,_,_,hzx,_⟩:=hrow
 have hmul:(i+ys.length)*sz<=xs.length*sz:=Bp _ hi
 rw [Cc] at hmul
 refine hm.rowWrite (P:=P) hx hv hs (p:=i*sz) (news:=news) (by rw [hl];exact hmul) h1 (by simp;omega) (fun y hy=>?_) (fun q c hq=>?_)
 .simp only [Ba] at hy
  rcases hy with (hy | hy) | hy
  .exact hzx y (Ch hy)
  .exact hz y hy
  .exact hzx y (Dp hy)
 .rcases zX hs hi hq with ⟨a1,a2,a3⟩ | ⟨a1,a2⟩
  .left
   exact ⟨a1,by rw [hl];exact a2,hr _ c a3⟩
  .right
   exact ⟨by rw [hl];exact a1,a2⟩
theorem nE {xs:List AVal} {i:Nat}:xs.take i++[]++xs.drop (i+0)=xs:=by simp
theorem mF (hm:Mem M ob obs w) (hb1:obs[base]? =some .dead) (hb2:ob[base]? =some []) {s:Sem Value} {sz:Nat} {e:TypeId} {v:Value} {w':World} {xs:List AVal} (hr:s.run P w= .ok v w') (g:Grown M w w' sz e v xs) {hint:Nat}:
  PM P M ob w s obs base (mG hint base sz e xs):=by
 have hk:base<ob.length:=(Ab.1 hb2).1
 unfold mG
 split
 .obtain ⟨h1,h2,h3⟩:=g.row hm hb1 hb2
  refine ⟨v,w',M,ob.set base [v],hr,?_⟩
  rw [aP hb1]
  refine ⟨h2,h1,h3,?_⟩
  obtain ⟨cv,o1,_⟩:=g.own
  have hat:at' (ob.set base [v]) base 0=some v:=by rw [bT (Ax hk)];rfl
  rcases cW o1 with ⟨q,_⟩ | ⟨b,cap,q,_⟩
  .rw [q] at hat⊢;exact .row _ _ _ _ _ hat
  .rw [q] at hat⊢;exact .row _ _ _ _ _ hat
 .obtain ⟨h1,h2,h3,h4⟩:=g.tail hm hb1 hb2
  refine ⟨v,w',fA M v sz xs,ob.set base [v],hr,?_⟩
  rw [aP hb1]
  exact ⟨h2,h1,h3,h4⟩
theorem AY (hm:Mem M ob obs w) {s:Sem Value} {sz:Nat} {e:TypeId} {v:Value} {w':World} {xs:List AVal} (hr:s.run P w= .ok v w') (g:Grown M w w' sz e v xs) {t:Tk} (ht:pC ob v t):PM P M ob w s obs base (.val (.slice sz xs t)):=by
 obtain ⟨h1,h2⟩:=g.more hm
 obtain ⟨cv,o1,_⟩:=g.own
 exact ⟨v,w',_,ob,hr,h2,h1,cF.refl _ _,hD o1 g.hz ht⟩
theorem NF (hE:EnvOK E) (hm:Mem M ob obs w) (hb1:obs[base]? =some .dead) (hb2:ob[base]? =some []) {hint:Nat} {t t2 ty:TypeId} {v x:Value} {s a:AVal} (hv:Rep M ob v s) (hx:Rep M ob x a):
  PM E.P M ob w (Cd #[t,t2] ty #[v,x]) obs base (oV E hint base (aE obs) t t2 s a):=by
 unfold oV
 split
 .rename_i e esz eb _ _ _ hT
  obtain ⟨⟨hu,i,z,hi,hsz,heb,hz,hzs,hz1⟩,_⟩:=(hE.tab t _ hT).kind
  subst hsz heb
  refine sdc fun hp=>?_
  have hpos:0<i.size:=Bw hp
  split
  .exact trivial
  .rename_i ys hys
   have hsrc:=GP hE hm hx hys hpos
   split
   .rename_i sz xs tk
    split
    .rename_i k g
     split
     .rename_i g' sz' e' hog
      refine sdc fun hg=>?_
      obtain ⟨hg123,hg4⟩:=aS hg
      obtain ⟨hg12,hg3⟩:=aS hg123
      obtain ⟨hg1,hg2⟩:=aS hg12
      obtain rfl:=aB hg1
      have q3:=aB hg3
      have q2:=aB hg2
      subst q2
      subst q3
      have q4:=aB hg4
      subst q4
      rintro ⟨f1,f2⟩
      have hk:=bU hog (by simp)
      obtain ⟨v',w',M',ob',r1,r2,r3,r4,r5⟩:=hm.appendTail (P:=E.P) (ty:=ty) hu hi hz hz1 hzs hpos hk hv hsrc f1 f2
      refine ⟨v',w',M',ob',r1,?_⟩
      rw [aP hk]
      exact ⟨r3,r2,r4,r5⟩
     .exact trivial
    .refine sdc fun hg=>?_
     have q:=aB hg
     subst q
     rintro ⟨f1,f2⟩
     obtain ⟨_,hnil⟩:=hv.untok
     obtain rfl:v= .slice none 0 0:=hnil
     obtain ⟨v',w',r1,r2⟩:=append_nil (P:=E.P) (ty:=ty) hm hu hi hz hz1 hzs hpos hsrc f1 f2
     exact mF hm hb1 hb2 r1 r2
    .refine sdc fun hg=>?_
     have q:=aB hg
     subst q
     rintro ⟨f1,f2⟩
     obtain ⟨v',w',r1,r2⟩:=F9 (P:=E.P) (ty:=ty) hm hu hi hz hz1 hzs hpos hv hsrc f1 f2
     split
     .rcases r2 with ⟨rfl,rfl,rfl⟩ | ⟨_,r2⟩
      .refine ⟨v',w',M,ob,r1,Ext.refl _ _ _ _,hm,cF.refl _ _,?_⟩
       rw [Ay]
       exact hv.untok.1
      .exact AY hm r1 r2 trivial
     .intro hne
      rcases r2 with ⟨q,_⟩ | ⟨_,r2⟩
      .exact absurd q hne
      .exact mF hm hb1 hb2 r1 r2
    .exact trivial
   .rintro ⟨f1,f2⟩
    cases hv
    obtain ⟨v',w',r1,r2⟩:=append_nil (P:=E.P) (ty:=ty) hm hu hi hz hz1 hzs hpos hsrc f1 f2
    exact mF hm hb1 hb2 r1 r2
   .rename_i k g
    split
    .rename_i g' sz e' xs hog
     refine sdc fun hg=>?_
     obtain ⟨hg12,hg3⟩:=aS hg
     obtain ⟨hg1,hg2⟩:=aS hg12
     obtain rfl:=aB hg1
     have q2:=aB hg2
     subst q2
     have q3:=aB hg3
     subst q3
     rintro ⟨f1,f2⟩
     have hk:=bU hog (by simp)
     obtain ⟨ad,n,c,rfl,hat⟩:=hv.row_inv
     obtain ⟨v',w',ob',r1,r2,r3,r4,r5⟩:=hm.appendRow (P:=E.P) (ty:=ty) hu hi hz hz1 hzs hpos hk hat hsrc f1 f2
     refine ⟨v',w',M,ob',r1,?_⟩
     rw [aP hk]
     exact ⟨r3,r2,r4,r5⟩
    .exact trivial
   .rename_i k g lo len sz
    split
    .rename_i g' sz' e' xs hog
     refine sdc fun hg=>?_
     obtain ⟨hg123,hg4⟩:=aS hg
     obtain ⟨hg12,hg3⟩:=aS hg123
     obtain ⟨hg1,hg2⟩:=aS hg12
     obtain rfl:=aB hg1
     have q3:=aB hg3
     have q2:=aB hg2
     subst q2
     subst q3
     have q4:=aB hg4
     subst q4
     intro hfit
     have hk:=bU hog (by simp)
     obtain ⟨hs0,v0,e1,e2,e3,e4,hrow,_⟩:=hm.rowOf hk
     have hnl:∀ {ad n c},at' ob k g=some (.slice ad n c)->n=xs.length:=fun {ad n c} hat=>by
      rw [hat] at e4
      cases e4
      rcases hrow.len with ⟨q,rfl⟩ | ⟨b,cap,q,_⟩<;>cases q<;>rfl
     obtain ⟨⟨news,s1,s2⟩,hz',_⟩:=hsrc
     cases hv with
     | sub _ _ _ _ _ b n c hat hl hn hc hmm=>
      have:=hnl hat
      obtain ⟨w',r1,r2,r3,r4⟩:=hm.rowSplice (P:=E.P) (ys:=ys) (i:=lo+len) (news:=news) hk hat hpos (by omega) hz' s1.newsLen s1.one s2
      refine ⟨.slice (some ⟨b,lo*i.size,none⟩) (len+ys.length) (c-lo),w',M,ob,?_,?_⟩
      .have hst:(storeCells ((⟨b,lo*i.size,none⟩:Addr).add (len*i.size)) news).run E.P w= .ok () w':=by rw [bH,<-Cc];exact r1
       have hroom:len+ys.length<=c-lo:=by omega
       rcases s1.kind with ⟨e',hk'⟩ | hk'<;>simp [Cd,run_underlying hu,run_underlying hk',sizeOf,typeInfo,hi,s1.len,hroom,s1.cells,hst]
      .rw [aP hk]
       exact ⟨r3,r2,r4,.sub _ _ _ _ _ b n c hat hl (by omega) hc hmm⟩
     | sub0 _ _ _ _ ad a' n c hat hl hc=>
      have:=hnl hat
      have hy0:ys=[]:=Au (by omega)
      subst hy0
      have hn0:news=[]:=Au (by rw [s1.newsLen];simp)
      subst hn0
      refine ⟨.slice a' 0 0,w,M,ob,?_,?_⟩
      .have hc0:(Bv i.size 0 x).run E.P w= .ok #[] w:=s1.cells
       have hl0:∀ w,(Builtin.lenOf x).run E.P w= .ok 0 w:=s1.len
       rcases s1.kind with ⟨e',hk'⟩ | hk'<;>cases a'<;>simp [Cd,run_underlying hu,run_underlying hk',sizeOf,typeInfo,hi,hl0,hc0,storeCells]
      .rw [aP hk]
       have:obs.set k (.row g i.size e (xs.take (lo+0)++[]++xs.drop (lo+0+([]:List AVal).length)))=obs:=by
        rw [Bg,nE];exact eY hk
       rw [this]
       exact ⟨Ext.refl _ _ _ _,hm,cF.refl _ _,.sub0 _ _ _ _ ad a' n c hat hl hc⟩
    .exact trivial
   .exact trivial
 .exact trivial
end
section
variable {P:Program} {E:Env} {M:Imm} {ob:Hs} {obs:List AObj} {w:World} {base:Nat}
theorem Q8 {α:Type} (l:List α) (n:Nat):l.drop (min n l.length)=l.drop n:=by
 by_cases h:n<=l.length
 .rw [Ei h]
 .rw [Jq (by omega),List.drop_length,Af (by omega)]
theorem X7 (hE:EnvOK E) (hm:Mem M ob obs w) {t t2 ty:TypeId} {v x:Value} {d a:AVal} (hv:Rep M ob v d) (hx:Rep M ob x a):
  PM E.P M ob w (Ht #[t,t2] ty #[v,x]) obs base (TC E (aE obs) t t2 d a):=by
 unfold TC
 split
 .rename_i e esz eb _ _ _ hT
  obtain ⟨⟨hu,i,z,hi,hsz,heb,hz,hzs,hz1⟩,_⟩:=(hE.tab t _ hT).kind
  subst hsz heb
  refine sdc fun hp=>?_
  have hpos:0<i.size:=Bw hp
  have i64:∀ n:Nat,(n:Int)<=9223372036854775807->inR .i64 (n:Int):=fun n h=>⟨by simp only [cC];omega,by simp only [bF];omega⟩
  split
  .exact trivial
  .rename_i ys hys
   obtain ⟨⟨news0,s1,_⟩,hz',hpre⟩:=GP hE hm hx hys hpos
   have run:∀ {ad:Option Addr} {n c m:Nat} {news:List Value} {w':World},m=min ys.length n->(Bv i.size m x).run E.P w= .ok news.toArray w->(∀ a,ad=some a->(storeCells a news).run E.P w= .ok () w')->(ad=none->w'=w)->
     (Ht #[t,t2] ty #[.slice ad n c,x]).run E.P w= .ok (.int .i64 (m:Nat)) w':=by
    intro ad n c m news w' h1 h2 h3 h4
    subst h1
    have hmin:Nat.min ys.length n=min ys.length n:=rfl
    cases ad with
    | none=>
     rw [h4 rfl]
     simp [Ht,run_underlying hu,s1.len,hmin,sizeOf,typeInfo,hi,h2,goInt]
    | some a=>
     simp [Ht,run_underlying hu,s1.len,hmin,sizeOf,typeInfo,hi,h2,h3 a rfl,goInt]
   have put:∀ {k g:Nat} {xs:List AVal} {b n cap p m:Nat},obs[k]? =some (.row g i.size e xs)\/(∃ e',obs[k]? =some (.row g i.size e' xs))->True:=fun _=>trivial
   clear put
   -- the elements that are written
   have key:∀ {k g:Nat} {e':TypeId} {xs:List AVal} {b n cap p m:Nat},obs[k]? =some (.row g i.size e' xs)->at' ob k g=some (.slice (some ⟨b,0,none⟩) n cap)->m<=ys.length->p+m<=xs.length->
     ∃ (news:List Value) (w':World),(Bv i.size m x).run E.P w= .ok news.toArray w/\(storeCells ⟨b,p*i.size,none⟩ news).run E.P w= .ok () w'/\
      Mem M ob (obs.set k (.row g i.size e' (xs.take p++ys.take m++xs.drop (p+m)))) w'/\Ext M ob obs w M ob (obs.set k (.row g i.size e' (xs.take p++ys.take m++xs.drop (p+m)))) w'/\cF ob obs ob (obs.set k (.row g i.size e' (xs.take p++ys.take m++xs.drop (p+m)))):=by
    intro k g e' xs b n cap p m hk hat hmy hpm
    obtain ⟨news,n1,n2,n3,n4⟩:=hpre m hmy
    have hlen:(ys.take m).length=m:=by simp;omega
    obtain ⟨w',r1,r2,r3,r4⟩:=hm.rowSplice (P:=E.P) (ys:=ys.take m) (i:=p) (news:=news) hk hat hpos (by rw [hlen];exact hpm) (fun y hy=>hz' y (Ch hy)) (by rw [hlen];exact n2) n3 (fun q c hq=>by
     have hlt:=eA hpos hq
     rw [hlen] at hlt
     rw [kE hpos hlt] at hq
     exact n4 q c hlt hq)
    rw [hlen] at r2 r3 r4
    exact ⟨news,w',n1,r1,r2,r3,r4⟩
   split
   .rename_i k g
    split
    .rename_i g' sz e' xs hog
     refine sdc fun hg=>?_
     obtain ⟨hg1,hg2⟩:=aS hg
     obtain rfl:=aB hg1
     have q2:=aB hg2
     subst q2
     have hk:=bU hog (by simp)
     obtain ⟨ad,n,c,rfl,hat⟩:=hv.row_inv
     obtain ⟨hs0,v0,e1,e2,e3,e4,hrow,_⟩:=hm.rowOf hk
     rw [hat] at e4
     cases e4
     rcases hrow.len with ⟨q,rfl⟩ | ⟨b,cap,q,q2,q3,q4⟩
     .cases q
      obtain ⟨news,n1,n2,_⟩:=hpre 0 (Bm _)
      refine ⟨.int .i64 ((0:Nat):Int),w,M,ob,run (m:=0) (by simp) n1 (fun a h=>by cases h) (fun _=>rfl),?_⟩
      rw [aP hk]
      have:obs.set k (.row g i.size e' (ys.take ([]:List AVal).length++([]:List AVal).drop ys.length))=obs:=by simp only [Bg,Ft,List.drop_nil,Ay];exact eY hk
      rw [this]
      exact ⟨Ext.refl _ _ _ _,hm,cF.refl _ _,by simpa using Rep.int .i64 0 (i64 0 (by decide))⟩
     .cases q
      obtain ⟨news,w',n1,n2,n3,n4,n5⟩:=key (p:=0) (m:=min ys.length xs.length) hk hat (Nat.min_le_left _ _) (by rw [Bk];exact Ho _ _)
      rw [Ij] at n2
      refine ⟨.int .i64 ((min ys.length xs.length:Nat):Int),w',M,ob,run rfl n1 (fun a h=>by cases h;exact n2) (fun h=>by cases h),?_⟩
      rw [aP hk]
      have e0:xs.take 0++ys.take (min ys.length xs.length)++xs.drop (0+min ys.length xs.length)=ys.take xs.length++xs.drop ys.length:=by
       rw [Ft,Ez,Bk,Q8]
       congr 1
       by_cases h:ys.length<=xs.length
       .rw [Ei h,Fu,Cs h]
       .rw [Jq (by omega)]
      rw [e0] at n3 n4 n5
      have hmx:=iW
      have:min ys.length xs.length<=xs.length:=Ho _ _
      exact ⟨n4,n3,n5,.int _ _ (i64 _ (by omega))⟩
    .exact trivial
   .rename_i k g lo len sz
    split
    .rename_i g' sz' e' xs hog
     refine sdc fun hg=>?_
     obtain ⟨hg12,hg3⟩:=aS hg
     obtain ⟨hg1,hg2⟩:=aS hg12
     obtain rfl:=aB hg1
     have q3:=aB hg3
     have q2:=aB hg2
     subst q2
     subst q3
     have hk:=bU hog (by simp)
     obtain ⟨hs0,v0,e1,e2,e3,e4,hrow,_⟩:=hm.rowOf hk
     have hnl:∀ {ad n c},at' ob k g=some (.slice ad n c)->n=xs.length:=fun {ad n c} hat=>by
      rw [hat] at e4
      cases e4
      rcases hrow.len with ⟨q,rfl⟩ | ⟨b,cap,q,_⟩<;>cases q<;>rfl
     cases hv with
     | sub _ _ _ _ _ b n c hat hl hn hc hmm=>
      have:=hnl hat
      obtain ⟨news,w',n1,n2,n3,n4,n5⟩:=key (p:=lo) (m:=min ys.length len) hk hat (Nat.min_le_left _ _) (by have:=Ho ys.length len;omega)
      refine ⟨.int .i64 ((min ys.length len:Nat):Int),w',M,ob,run rfl n1 (fun a h=>by cases h;exact n2) (fun h=>by cases h),?_⟩
      rw [aP hk]
      have e0:ys.take (min ys.length len)=ys.take len:=by
       by_cases h:ys.length<=len
       .rw [Ei h,Fu,Cs h]
       .rw [Jq (by omega)]
      rw [e0] at n3 n4 n5
      have:min ys.length len<=len:=Ho _ _
      exact ⟨n4,n3,n5,.int _ _ (i64 _ (by omega))⟩
     | sub0 _ _ _ _ ad a' n c hat hl hc=>
      have:=hnl hat
      obtain ⟨news,n1,n2,_⟩:=hpre 0 (Bm _)
      have hn0:news=[]:=Au (by rw [n2];simp)
      subst hn0
      refine ⟨.int .i64 ((0:Nat):Int),w,M,ob,run (m:=0) (by simp) n1 (fun a h=>rfl) (fun _=>rfl),?_⟩
      rw [aP hk]
      have:obs.set k (.row g i.size e' (xs.take lo++ys.take 0++xs.drop (lo+min ys.length 0)))=obs:=by
       rw [Ft,Nat.min_zero,nE];exact eY hk
      rw [this]
      exact ⟨Ext.refl _ _ _ _,hm,cF.refl _ _,by simpa using Rep.int .i64 0 (i64 0 (by decide))⟩
    .exact trivial
   .exact trivial
 .exact trivial
theorem sJ {z:Value} {a:AVal} (hr:Rep M [] z a) (ha:a≠ .undef) {sz:Nat} (hz:z.cells.size=sz) (hs:0<sz) {n:Nat} {cv:List Value} (hl:cv.length=n*sz) (hc:∀ q,q<n*sz->cv[q]? =z.cells.toList[q % sz]?):
  (∀ y∈Ai n a,y.cells.length=sz)/\∀ (q:Nat) c,aH sz (Ai n a) q=some c->∃ u,cv[q]? =some u/\Rep M [] u c:=by
 obtain ⟨h1,h2⟩:=hr.cells ha
 have hzl:z.cells.toList.length=sz:=by simpa using hz
 refine ⟨fun y hy=>by rw [(Fi.1 hy).2];omega,fun q c hq=>?_⟩
 have hlt:=eA hs hq
 rw [Fk] at hlt
 obtain ⟨y,hy,hyc⟩:=fF hq
 have:=Aw hy
 rw [(Fi.1 this).2] at hyc
 have hmod:=Iu q hs
 rw [hc q hlt]
 have hlt2:q % sz<z.cells.toList.length:=by omega
 exact ⟨_,Ac hlt2,h2 _ _ c (Ac hlt2) hyc⟩
theorem pD {z:Array Value} {n:Nat}:(Bz z n).toList.length=n*z.size/\∀ q,q<n*z.size->(Bz z n).toList[q]? =z.toList[q % z.size]?:=by
 refine ⟨by simp [Bz],fun q hq=>?_⟩
 have hs:0<z.size:=by rcases Fz z.size with h | h;rw [h] at hq;simp at hq;exact h
 have hmod:=Iu q hs
 simp only [Bz,Gn,Bb,Array.toList_range]
 rw [Cm hq]
 simp [hmod]
theorem zP {z:Array Value} {n:Nat} (hs:0<z.size):(madeCells z n).toList.length=n/\∀ q,q<n->(madeCells z n).toList[q]? =z.toList[q % z.size]?:=by
 refine ⟨by simp [madeCells],fun q hq=>?_⟩
 have hmod:=Iu q hs
 simp only [madeCells,Gn,Bb,Array.toList_range]
 rw [Cm hq]
 simp [hmod]
theorem LA {z:Array Value} {cv:List Value} {n:Nat} (h:z.toList.all (·.oneCell')=true) (hl:cv.length=n) (hc:∀ q,q<n->∃ j:Nat,cv[q]? =z.toList[j]?):∀ u∈cv,u.oneCell'=true:=fun u hu=>by
 obtain ⟨q,hq⟩:=Cz hu
 obtain ⟨j,hj⟩:=hc q (by rw [<-hl];exact (Ab.1 hq).1)
 rw [hq] at hj
 exact Cl.1 h u (Aw hj.symm)
theorem uY {a:AVal} (h:xD a=true):a≠ .undef:=fun e=>by subst e;cases h
theorem TE (hE:EnvOK E) (hm:Mem M ob obs w) {t ty:TypeId} {v:Value} {d:AVal} (hv:Rep M ob v d):PM E.P M ob w (Hb #[t] ty #[v]) obs base (ID E (aE obs) t d):=by
 unfold ID
 split
 .rename_i e esz eb _ _ _ hT
  obtain ⟨⟨hu,i,z,hi,hsz,heb,hz,hzs,hz1⟩,_⟩:=(hE.tab t _ hT).kind
  subst hsz heb
  split
  .rename_i te hTe
   refine sdc fun hp=>?_
   obtain ⟨hp1,hp2⟩:=aS hp
   have hpos:0<i.size:=Bw hp1
   obtain ⟨i',z',hi',hsz',hz',hzs',hzr,hone,hne⟩:=(hE.tab e te hTe).info
   rw [hi] at hi'
   cases hi'
   rw [hz] at hz'
   cases hz'
   split
   .rename_i k g lo len sz
    split
    .rename_i g' sz' e' xs hog
     refine sdc fun hg=>?_
     obtain ⟨hg12,hg3⟩:=aS hg
     obtain ⟨hg1,hg2⟩:=aS hg12
     obtain rfl:=aB hg1
     have q3:=aB hg3
     have q2:=aB hg2
     subst q2
     subst q3
     have hk:=bU hog (by simp)
     obtain ⟨hs0,v0,e1,e2,e3,e4,hrow,_⟩:=hm.rowOf hk
     have hnl:∀ {ad n c},at' ob k g=some (.slice ad n c)->n=xs.length:=fun {ad n c} hat=>by
      rw [hat] at e4
      cases e4
      rcases hrow.len with ⟨q,rfl⟩ | ⟨b,cap,q,_⟩<;>cases q<;>rfl
     have same:len=0->obs.set k (.row g i.size e' (xs.take lo++Ai len (pureV (fun _=>.dead) 4 te.zero)++xs.drop (lo+len)))=obs:=fun h=>by
      subst h
      rw [List.replicate_zero,nE];exact eY hk
     cases hv with
     | sub _ _ _ _ _ b n c hat hl hn hc hmm=>
      have:=hnl hat
      by_cases h0:len=0
      .refine ⟨.tuple #[],w,M,ob,?_,?_⟩
       .subst h0
        simp [Hb,run_underlying hu]
       .rw [aP hk,same h0]
        exact ⟨Ext.refl _ _ _ _,hm,cF.refl _ _,.tup [] [] rfl fun i v a hv=>by simp at hv⟩
      .have hp0:=hm.pure0 hzr
       obtain ⟨c1,c2⟩:=pD (z:=z.cells) (n:=len)
       rw [hzs] at c1 c2
       have hne':pureV (fun _=>.dead) 4 te.zero≠ .undef:=uY hp2
       obtain ⟨r1,r2⟩:=sJ (M:=M) hp0 hne' hzs hpos c1 c2
       obtain ⟨w',s1,s2,s3,s4⟩:=hm.rowSplice (P:=E.P) (ys:=Ai len (pureV (fun _=>.dead) 4 te.zero)) (i:=lo) (news:=(Bz z.cells len).toList) hk hat hpos (by simp;omega) r1 (by simpa using c1) (LA hone c1 fun q hq=>⟨_,c2 q hq⟩) r2
       rw [Fk] at s2 s3 s4
       refine ⟨.tuple #[],w',M,ob,?_,?_⟩
       .have hzv:(zeroValue e).run E.P w= .ok z w:=by simp [zeroValue,typeInfo,hi,hz]
        cases len with
        | zero=>exact absurd rfl h0
        | succ len=>simp [Hb,run_underlying hu,hzv,s1]
       .rw [aP hk]
        exact ⟨s3,s2,s4,.tup [] [] rfl fun i v a hv=>by simp at hv⟩
     | sub0 _ _ _ _ ad a' n c hat hl hc=>
      refine ⟨.tuple #[],w,M,ob,?_,?_⟩
      .cases a'<;>simp [Hb,run_underlying hu]
      .rw [aP hk,same rfl]
       exact ⟨Ext.refl _ _ _ _,hm,cF.refl _ _,.tup [] [] rfl fun i v a hv=>by simp at hv⟩
    .exact trivial
   .exact trivial
  .exact trivial
 .exact trivial
theorem X4 (hE:EnvOK E) (hm:Mem M ob obs w) (hb1:obs[base]? =some .dead) (hb2:ob[base]? =some []) {t:TypeId} {vn vc:Value} {n c:AVal} (hn:Rep M ob vn n) (hc:Rep M ob vc c) {hint:Nat}:
  PM E.P M ob w (Instr.makeSlice t vn vc) obs base (K0 E hint base t n c):=by
 unfold K0
 split
 .rename_i e esz eb _ _ _ k a k' b hT
  obtain ⟨⟨hu,i,z,hi,hsz,heb,hz,hzs,hz1⟩,_⟩:=(hE.tab t _ hT).kind
  subst hsz heb
  split
  .rename_i te hTe
   refine sdc fun hp=>?_
   obtain ⟨hp1,hp2⟩:=aS hp
   have hpos:0<i.size:=Bw hp1
   obtain ⟨i',z',hi',hsz',hz',hzs',hzr,hone,hne⟩:=(hE.tab e te hTe).info
   rw [hi] at hi'
   cases hi'
   rw [hz] at hz'
   cases hz'
   obtain ⟨rfl,_⟩:=hn.int_inv
   obtain ⟨rfl,_⟩:=hc.int_inv
   rintro m rfl ⟨rfl,c2,c3⟩
   have hml:=iW
   have hrun:=run_make (P:=E.P) w t e i z hu hi hz k k' (m:Int) (m:Int) (by omega) (Gi _) c2 (by omega)
   rw [Br] at hrun
   have hp0:=hm.pure0 hzr
   obtain ⟨d1,d2⟩:=zP (z:=z.cells) (n:=m*i.size) (by rw [hzs];exact hpos)
   rw [hzs] at d2
   obtain ⟨r1,r2⟩:=sJ (M:=M) hp0 (uY hp2) hzs hpos d1 d2
   have g:=Grown.ofAlloc (M:=M) (w:=w) (e:=e) (xs:=Ai m (pureV (fun _=>.dead) 4 te.zero)) (cv:=(madeCells z.cells (m*i.size)).toList) hpos (by simpa using d1) (LA hone d1 fun q hq=>⟨_,d2 q hq⟩) r1 (by simpa using c3) r2
   have hca:(madeCells z.cells (m*i.size)).toList.toArray=madeCells z.cells (m*i.size):=by simp
   rw [hca,Fk] at g
   exact mF (hint:=2) hm hb1 hb2 hrun g
  .exact trivial
 .exact trivial
theorem K3:∀ (new l:List AVal),new.length<=l.length->∃ r,II new l=some r
 | [],l,_=>⟨l,rfl⟩
 | _::_,[],h=>by simp at h
 | c::new,d::l,h=>by
  obtain ⟨r,hr⟩:=K3 new l (by simpa using h)
  exact ⟨c::r,by simp [II,hr]⟩
theorem BC:∀ (off:Nat) (new l:List AVal),off+new.length<=l.length->∃ r,kM off new l=some r
 | 0,new,l,h=>by obtain ⟨r,hr⟩:=K3 new l (by omega);exact ⟨r,by simpa [kM] using hr⟩
 | n+1,new,[],h=>by simp at h
 | n+1,new,c::l,h=>by
  obtain ⟨r,hr⟩:=BC n new l (by simp at h;omega)
  exact ⟨c::r,by simp [kM,hr]⟩
def D8 (og:Nat->AObj) (l:List (Nat×AVal)):List (Nat×AVal):=l.map fun p=>(p.1,pureV og 4 p.2)
theorem CU (og:Nat->AObj) (esz:Nat):∀ {parts:List (Nat×AVal)} {n:Nat} {xs:List AVal} {base:List AVal},yJ og esz n parts=some xs->(n+parts.length)*esz<=base.length->
  ∃ cs',yI (fun i=>some (i*esz,esz)) base (D8 og parts)=some cs'/\cs'.length=base.length/\(∀ o,o<n*esz->cs'[o]? =base[o]?)/\xs.length=parts.length/\
   (∀ x∈xs,x.cells.length=esz/\lS x.cells=true)/\∀ (i j:Nat) x c,xs[i]? =some x->x.cells[j]? =some c->cs'[(n+i)*esz+j]? =some c:=by
 intro parts
 induction parts with
 | nil=>intro n xs base h hl;cases h;exact ⟨base,rfl,rfl,fun _ _=>rfl,rfl,fun x hx=>by simp at hx,fun i j x c hx=>by simp at hx⟩
 | cons p parts ih=>
  intro n xs base h hl
  obtain ⟨i,v0⟩:=p
  simp only [yJ] at h
  obtain ⟨v,hv⟩:∃ v,pureV og 4 v0=v:=⟨_,rfl⟩
  rw [hv] at h
  obtain ⟨hg,h2⟩:=dK h
  simp only [Ad] at hg
  obtain ⟨⟨g1,g2⟩,g3⟩:=hg
  have hi:=aB g1
  subst hi
  have hz:=aB g2
  rw [rS] at hz
  cases hq:yJ og esz (i+1) parts with
  | none=>simp [hq] at h2
  | some l=>
   simp only [hq,Cu] at h2
   subst h2
   have hlen:(i+1)*esz<=base.length:=by
    refine Cx (Bp _ ?_) hl
    simp
   rw [Cc,Jf] at hlen
   obtain ⟨b1,hb1⟩:=BC (i*esz) v.cells base (by omega)
   obtain ⟨p1,p2,p3⟩:=iD hb1
   obtain ⟨cs',e1,e2,e3,e4,e5,e6⟩:=ih (base:=b1) hq (by rw [p2];refine Cx (Nat.le_of_eq ?_) hl;simp;congr 1;omega)
   have hnu:xD v=true:=by cases v<;>first | rfl | (simp [AVal.cells,lS,AW.one] at g3)
   refine ⟨cs',by
    unfold D8 at e1⊢
    simp only [Cn,yI,hv,hnu,g2,Bool.and_self,cond_true,hb1,e1],e2.trans p2,fun o ho=>?_,by simp [e4],fun x hx=>?_,fun a j x c hx hc=>?_⟩
   .rw [e3 o (by rw [Cc];omega),p3 o,if_neg (by omega)]
   .rcases Bh.1 hx with rfl | hx
    .exact ⟨hz,g3⟩
    .exact e5 x hx
   .cases a with
    | zero=>
     simp at hx
     subst hx
     have hj:j<esz:=by rw [<-hz];exact (Ab.1 hc).1
     rw [Dk,e3 _ (by rw [Cc];omega),p3,if_pos (by omega),Ev]
     exact hc
    | succ a=>
     have:=e6 a j x c (by simpa using hx) hc
     rw [show i+(a+1)=i+1+a from by omega]
     exact this
theorem V1 (l:List (Nat×AVal)):QG l=l.length:=by induction l with
 | nil=>rfl
 | cons a r ih=>simp [QG,ih]
theorem zU (hE:EnvOK E) (hm:Mem M ob obs w) (hb1:obs[base]? =some .dead) (hb2:ob[base]? =some []) {hint:Nat} {t:TypeId} {len:Nat} {parts:List (Nat×AVal)} {vparts:Array (Nat×Value)} (hl:zE M ob vparts.toList parts):
  PM E.P M ob w (Hp t len vparts) obs base (kD E hint base (aE obs) t len parts):=by
 unfold kD
 split
 .rename_i e esz eb _ _ _ hT
  obtain ⟨⟨hu,ie,z,hi,hs,hb,hz,hzs,_⟩,_⟩:=(hE.tab t _ hT).kind
  refine sdc fun hg=>?_
  simp only [Ad] at hg
  obtain ⟨⟨g1,g2⟩,g3⟩:=hg
  have hpl:=aB g1
  rw [V1] at hpl
  have h1000:len*esz<=1000:=Bw g2
  have hpos:1<=esz:=Bw g3
  split
  .rename_i xs hxs
   let cells0:Array Value:=if len*esz=0 then #[] else (Hy (len*esz)).map (z.cells[· % z.cells.size]!)
   have hbase:cells0.size=len*esz:=by
    show (if len*esz=0 then (#[]:Array Value) else (Hy (len*esz)).map (z.cells[· % z.cells.size]!)).size=_
    split<;>simp [*]
   obtain ⟨cs',e1,e2,_,e4,e5,e6⟩:=CU (aE obs) esz (base:=Ai (len*esz) .undef) hxs (by simp [hpl])
   have hr0:cB M [] cells0.toList (Ai (len*esz) AVal.undef):=⟨by simp [hbase],fun i v a _ ha=>by
    have:a= .undef:=(Fi.1 (Aw ha)).2
    subst this
    exact .undef _⟩
   have hlp:zE M [] vparts.toList (D8 (aE obs) parts):=⟨by unfold D8;rw [Cv];exact hl.1,fun i p q hp hq=>by
    unfold D8 at hq
    rw [Bb] at hq
    obtain ⟨q',hq',rfl⟩:=Bx.1 hq
    obtain ⟨a1,a2⟩:=hl.2 i p q' hp hq'
    exact ⟨a1,hm.pureV 4 _ _ a2⟩⟩
   obtain ⟨cells',f1,f2⟩:=pW (place:=fun i=>some (i*esz,esz)) (fun i p hp=>hp) e1 hr0 hlp
   have hrun:(Hp t len vparts).run E.P w= .ok (.slice (some ⟨w.heap.size,0,Kz⟩) len len) (w.alloc (.cells cells' e)):=by
    have hse:(E.P.info? e).map (·.size)=some esz:=by simp [hi,hs]
    unfold Hp
    simp only [Av,run_underlying hu,Ak,run_sizeOf hse]
    rw [if_neg (by omega)]
    have hzv:(zeroValue e).run E.P w= .ok z w:=by simp [zeroValue,typeInfo,hi,hz]
    by_cases h0:len*esz=0
    .have hbb:(Hy (len*esz)).map ((#[]:Array Value)[· % (#[]:Array Value).size]!)=cells0:=by
      show _=(if len*esz=0 then (#[]:Array Value) else (Hy (len*esz)).map (z.cells[· % z.cells.size]!))
      rw [if_pos h0,h0]
      simp
     rw [if_pos h0]
     simp only [Av,Az,Ak]
     rw [hbb,f1]
     simp only [newRow,Av,run_newObj_alloc,Ak,Az]
    .have hbb:(Hy (len*esz)).map (z.cells[· % z.cells.size]!)=cells0:=by
      show _=(if len*esz=0 then (#[]:Array Value) else (Hy (len*esz)).map (z.cells[· % z.cells.size]!))
      rw [if_neg h0]
     rw [if_neg h0]
     simp only [Av,Az,Ak,hzv]
     rw [hbb,f1]
     simp only [newRow,Av,run_newObj_alloc,Ak,Az]
   have hlen:xs.length=len:=by rw [e4,hpl]
   have hcl:cells'.toList.length=xs.length*esz:=by rw [f2.1,e2];simp;rw [hlen]
   have hcell:∀ (j:Nat) c,aH esz xs j=some c->cs'[j]? =some c/\AW.one c=true:=by
    intro j c hc
    obtain ⟨y,hy,hcc⟩:=fF hc
    have:=e6 _ _ y c hy hcc
    rw [Bk,Dj,Ib] at this
    obtain ⟨_,h1⟩:=e5 y (Aw hy)
    exact ⟨this,jE h1 _ c hcc⟩
   have hone:∀ u∈cells'.toList,u.oneCell'=true:=fun u hu'=>by
    obtain ⟨j,hj⟩:=Cz hu'
    have hlt:j<xs.length*esz:=by rw [<-hcl];exact (Ab.1 hj).1
    obtain ⟨c,hc⟩:=tI hpos (fun x hx=>(e5 x hx).1) hlt
    obtain ⟨h1,h2⟩:=hcell j c hc
    exact (f2.2 j u c hj h1).one h2
   have g:=Grown.ofAlloc (M:=M) (w:=w) (e:=e) (xs:=xs) (cv:=cells'.toList) hpos hcl hone (fun x hx=>(e5 x hx).1) (by rw [hlen];unfold maxLen;have:len*1<=len*esz:=Nat.mul_le_mul_left _ hpos;omega) (fun q c hc=>by
    obtain ⟨h1,_⟩:=hcell q c hc
    have hlt:q<cells'.toList.length:=by rw [hcl];exact eA hpos hc
    exact ⟨_,Ac hlt,f2.2 q _ c (Ac hlt) h1⟩)
   have hca:cells'.toList.toArray=cells':=by simp
   rw [hca,hlen] at g
   split
   .exact AY hm hrun g ⟨_,len,rfl⟩
   .exact mF hm hb1 hb2 hrun g
  .exact trivial
 .exact trivial
theorem EL (hm:Mem M ob obs w) (hb1:obs[base]? =some .dead) (hb2:ob[base]? =some []) {t:TypeId} {v:Value} {a:AVal} (h:Rep M ob v a) (h1:lS a.cells=true):
  PM P M ob w (do Pure.pure (.pointer (some (<-newVar t v))):Sem Value) obs base (.born (.cells t a.cells) (.ref base 0)):=by
 obtain ⟨hl,hone,hr⟩:=h.cells_one h1
 obtain ⟨m1,m2,m3,m4⟩:=hm.bornCells hb1 hb2 t hl hone hr
 have hca:v.cells.toList.toArray=v.cells:=by simp
 rw [hca] at m1 m2
 refine ⟨.pointer (some ⟨w.heap.size,0,Kz⟩),w.alloc (.cells v.cells t),M,ob.set base [.pointer (some ⟨w.heap.size,0,Kz⟩)],?_,?_⟩
 .simp only [newVar,newRow,Av,run_newObj_alloc,Ak,Az]
 .rw [aP hb1]
  exact ⟨m2,m1,m3,m4⟩
end
section
variable {P:Program} {E:Env} {M:Imm} {ob:Hs} {obs:List AObj} {w:World} {base:Nat}
def Y2 (P:Program) (k:Nat) (ag:Bool) (n:Nat):Prop:=(ag=false/\n=1/\P.underlying k=some (.int .i64))\/(ag=true/\(P.underlying k).isSome=true/\C9 P k n)
theorem AU:∀ {cs:List AVal} {l:List Int},E2 cs=some l->cs=l.map (AVal.int .i64)
 | [],l,h=>by cases h;rfl
 | c::r,l,h=>by
  cases c<;>first | (simp [E2] at h;done) | skip
  rename_i k n
  cases k<;>first | (simp [E2] at h;done) | skip
  cases hr:E2 r with
  | none=>simp [E2,hr] at h
  | some q=>
   simp only [E2,hr,Cu] at h
   subst h
   simp [AU hr]
theorem sS (hE:EnvOK E) {k:Nat} {ag:Bool} {a:AVal} {l:List Int} {v:Value} (h:AQ E k ag a=some l) (hv:Rep M ob v a):v=eJ ag l/\Y2 E.P k ag l.length:=by
 cases ag with
 | false=>
  simp only [AQ] at h
  split at h
  .rename_i hT
   split at h
   .cases h
    have hk:=(hE.tab _ _ hT).kind.1
    exact ⟨hv.int_inv.1,.inl ⟨rfl,rfl,hk⟩⟩
   .cases h
  .cases h
 | true=>
  simp only [AQ] at h
  split at h
  .rename_i ti hT
   have hun:=(hE.tab _ _ hT).kind.isAgg.1
   split at h
   .rename_i cs
    split at h
    .rename_i l' hi
     obtain ⟨h1,h2⟩:=dK h
     cases h2
     obtain ⟨h3,h4⟩:=aS h1
     have hcs:=AU hi
     subst hcs
     obtain ⟨vs,rfl,hl,hr⟩:=hv.agg_inv
     have hlen:l.length=uQ E.fl k:=by
      have:=aB h4
      rw [rS] at this
      simpa using this
     refine ⟨?_,.inr ⟨rfl,hun,?_⟩⟩
     .simp only [eJ,if_true]
      congr 2
      refine Ee fun i=>?_
      rw [Bb]
      cases hi:l[i]? with
      | none=>
       have:=List.getElem?_eq_none_iff.1 hi
       rw [Bf (by rw [hl];simpa using this)]
       rfl
      | some n=>
       have hlt:i<vs.length:=by
        have:=(Ab.1 hi).1
        rw [hl];simpa using this
       have:=hr i _ (.int .i64 n) (Ac hlt) (by simp [hi])
       rw [Ac hlt,this.int_inv.1]
       rfl
     .rw [hlen]
      exact (hE.fl k (by simpa [Ep] using h3)).2
    .cases h
   .cases h
  .cases h
theorem lV:∀ {es:List (List Int×AVal)} {key:List Int},(∀ y∈es,y.1≠key)->bL es key=none/\(∀ v,jG es key v=es++[(key,v)])/\zO es key=es
 | [],key,_=>⟨rfl,fun _=>rfl,rfl⟩
 | (k,x)::r,key,h=>by
  obtain ⟨h1,h2,h3⟩:=lV (es:=r) (key:=key) fun y hy=>h y (by simp [hy])
  have hk:¬ k=key:=h (k,x) (by simp)
  exact ⟨by simp [bL,hk,h1],fun v=>by simp [jG,hk,h2],by simp [zO,hk,h3]⟩
theorem rC:∀ {es:List (List Int×AVal)} {key:List Int} {j:Nat} {y:List Int×AVal},es[j]? =some y->y.1=key->(∀ (i:Nat) y',i<j->es[i]? =some y'->y'.1≠key)->
  bL es key=some y.2/\(∀ v,jG es key v=es.set j (key,v))/\zO es key=es.eraseIdx j
 | [],key,j,y,h,_,_=>by simp at h
 | (k,x)::r,key,0,y,h,hy,_=>by
  simp only [Jp,Cu] at h
  subst h
  have hy:k=key:=hy
  exact ⟨by simp [bL,hy],fun v=>by simp [jG,hy],by simp [zO,hy]⟩
 | (k,x)::r,key,j+1,y,h,hy,hb=>by
  obtain ⟨h1,h2,h3⟩:=rC (es:=r) (key:=key) (j:=j) (y:=y) (by simpa using h) hy fun i y' hi hy'=>hb (i+1) y' (by omega) (by simpa using hy')
  have hk:¬ k=key:=hb 0 (k,x) (by omega) rfl
  exact ⟨by simp [bL,hk,h1],fun v=>by simp [jG,hk,h2],by simp [zO,hk,h3]⟩
def AA (ag:Bool) (n:Nat) (en:List MapEntry) (es:List (List Int×AVal)):Prop:=en.length=es.length/\∀ (i:Nat) x y,en[i]? =some x->es[i]? =some y->x.key=eJ ag y.1/\y.1.length=n
theorem AA.tail {ag:Bool} {n:Nat} {x:MapEntry} {y:List Int×AVal} {en:List MapEntry} {es:List (List Int×AVal)} (h:AA ag n (x::en) (y::es)):AA ag n en es:=
 ⟨by simpa using h.1,fun i a b ha hb=>h.2 (i+1) a b (by simpa using ha) (by simpa using hb)⟩
theorem AA.cons {ag:Bool} {n:Nat} {x:MapEntry} {en:List MapEntry} {es:List (List Int×AVal)} (h:AA ag n (x::en) es):∃ y r,es=y::r/\x.key=eJ ag y.1/\y.1.length=n/\AA ag n en r:=by
 cases es with
 | nil=>have:=h.1;simp at this
 | cons y r=>exact ⟨y,r,rfl,(h.2 0 x y rfl rfl).1,(h.2 0 x y rfl rfl).2,h.tail⟩
def uJ (key:List Int) (en:List MapEntry) (es:List (List Int×AVal)) (o:Nat) (r:Option (Nat×Value)):Prop:=
 (r=none/\∀ y∈es,y.1≠key)\/∃ j x y,r=some (o+j,x.val)/\en[j]? =some x/\es[j]? =some y/\y.1=key/\∀ (i:Nat) y',i<j->es[i]? =some y'->y'.1≠key
theorem uJ.there {key:List Int} {x:MapEntry} {y:List Int×AVal} {en:List MapEntry} {es:List (List Int×AVal)} {o:Nat} (h:y.1=key):uJ key (x::en) (y::es) o (some (o,x.val)):=
 .inr ⟨0,x,y,rfl,rfl,rfl,h,fun i _ hi=>by omega⟩
theorem uJ.on {key:List Int} {x:MapEntry} {y:List Int×AVal} {en:List MapEntry} {es:List (List Int×AVal)} {o:Nat} {r:Option (Nat×Value)} (hne:y.1≠key) (h:uJ key en es (o+1) r):uJ key (x::en) (y::es) o r:=by
 rcases h with ⟨h1,h2⟩ | ⟨j,x',y',h1,h2,h3,h4,h5⟩
 .exact .inl ⟨h1,fun z hz=>by
   rcases Bh.1 hz with rfl | hz
   .exact hne
   .exact h2 z hz⟩
 .refine .inr ⟨j+1,x',y',by rw [h1];congr 2;omega,by simpa using h2,by simpa using h3,h4,fun i z hi hz=>?_⟩
  cases i with
  | zero=>simp at hz;subst hz;exact hne
  | succ i=>exact h5 i z (by omega) (by simpa using hz)
theorem uC (a:Int):∀ (en:List MapEntry) (es:List (List Int×AVal)) (o:Nat),AA false 1 en es->∃ r,Jk (.int .i64) (.int .i64 a) en o=some r/\uJ [a] en es o r
 | [],es,o,h=>⟨none,rfl,.inl ⟨rfl,fun y hy=>by
   have:es=[]:=Au (by have:=h.1;simpa using this.symm)
   rw [this] at hy;cases hy⟩⟩
 | x::en,es,o,h=>by
  obtain ⟨y,r,rfl,h1,h2,h3⟩:=h.cons
  obtain ⟨k,v⟩:=y
  have h2:k.length=1:=h2
  match k,h2 with
  | [b],_=>
   have hk:x.key= .int .i64 b:=h1
   simp only [Jk,hk,Instr.sameNow,if_true]
   by_cases hab:a=b
   .subst hab
    simp only [beq_self_eq_true]
    exact ⟨_,rfl,.there rfl⟩
   .have:(a==b)=false:=by simpa using hab
    rw [this]
    obtain ⟨r',e1,e2⟩:=uC a en r (o+1) h3
    exact ⟨r',e1,.on (fun e=>hab (by cases e;rfl)) e2⟩
theorem mS {k:Nat} {n:Nat} (hf:C9 P k n) {key:List Int} (hn:key.length=n):∀ (en:List MapEntry) (es:List (List Int×AVal)) (o:Nat),AA true n en es->∃ r,(Gp k (eJ true key) en o).run P w= .ok r w/\uJ key en es o r
 | [],es,o,h=>⟨none,by simp [Gp],.inl ⟨rfl,fun y hy=>by
   have:es=[]:=Au (by have:=h.1;simpa using this.symm)
   rw [this] at hy;cases hy⟩⟩
 | x::en,es,o,h=>by
  obtain ⟨y,r,rfl,h1,h2,h3⟩:=h.cons
  have he:=(hf w key y.1 hn h2).1
  rw [<-h1] at he
  by_cases hk:key=y.1
  .rw [decide_eq_true hk] at he
   exact ⟨_,by simp [Gp,he],.there hk.symm⟩
  .rw [decide_eq_false hk] at he
   obtain ⟨r',e1,e2⟩:=mS hf hn en r (o+1) h3
   exact ⟨r',by simp [Gp,he,e1],.on (fun e=>hk e.symm) e2⟩
theorem nH {k:Nat} {ag:Bool} {n:Nat} (hk:Y2 P k ag n) {key:List Int} (hn:key.length=n) {en:List MapEntry} {es:List (List Int×AVal)} (h:AA ag n en es):
  ∃ r,(Jl k (eJ ag key) en).run P w= .ok r w/\uJ key en es 0 r:=by
 rcases hk with ⟨rfl,rfl,hu⟩ | ⟨rfl,hun,hf⟩
 .match key,hn with
  | [a],_=>
   obtain ⟨r,e1,e2⟩:=uC a en es 0 h
   exact ⟨r,by simp [Jl,run_underlying hu,eJ,e1],e2⟩
 .obtain ⟨r,e1,e2⟩:=mS (w:=w) hf hn en es 0 h
  cases hu:P.underlying k with
  | none=>rw [hu] at hun;cases hun
  | some d=>
   cases en with
   | nil=>simp [Gp] at e1;subst e1;exact ⟨none,by simp [Jl,run_underlying hu,Jk],e2⟩
   | cons x en=>
    obtain ⟨y,r',rfl,h1,h2,h3⟩:=h.cons
    refine ⟨r,?_,e2⟩
    have hs:Instr.sameNow d (eJ true key) x.key=none:=by rw [h1];simp only [eJ,if_true];cases d<;>rfl
    simp only [Jl,Av,run_underlying hu,Ak,Jk,hs]
    exact e1
theorem BR {k:Nat} {ag:Bool} {n:Nat} (hk:Y2 P k ag n) {key:List Int} (hn:key.length=n) (em:Bool):(Fw em 10000 k (eJ ag key)).run P w= .ok () w:=by
 rcases hk with ⟨rfl,rfl,hu⟩ | ⟨rfl,hun,hf⟩
 .rw [show (10000:Nat)=9999+1 from rfl,Fw]
  simp only [Av,run_underlying hu,Ak,eJ,Bq,if_false,Az]
 .exact (hf w key key hn hn).2 em
theorem Mem.mpOf (hm:Mem M ob obs w) {j:Nat} {ag:Bool} {es:List (List Int×AVal)} (hj:aE obs j= .mp ag es) {v:Value} (hv:Rep M ob v (.mref j)):
  ∃ b,v= .map (some b)/\ob[j]? =some [.map (some b)]/\obs[j]? =some (.mp ag es)/\(∀ o,NoM M b o)/\NY M w b ag es:=by
 cases hv with
 | mref _ b hat=>
  have hk:=bU hj (by simp)
  obtain ⟨hs,e1,b',e2,e3,e4⟩:=hm.obj j _ hk
  have:b'=b:=by rw [bT e1,e2] at hat;simpa using hat
  subst this
  exact ⟨b',rfl,by rw [e1,e2],hk,e3,e4⟩
theorem NY.enOK {b:Nat} {ag:Bool} {es:List (List Int×AVal)} {n:Nat} {en:List MapEntry} (hl:en.length=es.length) (h:∀ (i:Nat) x y,en[i]? =some x->es[i]? =some y->x.key=eJ ag y.1/\(ag=false->y.1.length=1)/\Rep M [] x.val y.2)
  (hn:(ag=false/\n=1)\/(ag=true/\∀ p∈es,p.1.length=n)):AA ag n en es:=
 ⟨hl,fun i x y hx hy=>⟨(h i x y hx hy).1,by
  rcases hn with ⟨h1,h2⟩ | ⟨_,h2⟩
  .rw [h2];exact (h i x y hx hy).2.1 h1
  .exact h2 y (Aw hy)⟩⟩
theorem BO {VS:AVal->List AObj->Prop} {CS:Fn->List AVal->Prop} {PS:AVal->Prop} {ag:Bool} {es:List (List Int×AVal)} {key:List Int} {r:OR} {k:Nat} (hk:Y2 P k ag key.length)
  (h:(ag=false/\key.length=1)\/(ag=true/\∀ p∈es,p.1.length=key.length)->Sd VS CS PS obs base r):Sd VS CS PS obs base (vC ag es key r):=by
 rcases hk with ⟨rfl,hn,_⟩ | ⟨rfl,_⟩
 .exact h (.inl ⟨rfl,hn⟩)
 .exact fun hp=>h (.inr ⟨rfl,hp⟩)
theorem Rep.pairB {v:Value} {a:AVal} (h:Rep M ob v a) (b:Bool):Rep M ob (.tuple #[v,.bool b]) (.tup [a,.bool b]):=by
 refine .tup [v,.bool b] _ rfl fun i q c hq hc=>?_
 rcases i with _ | _ | i
 .simp at hq hc;subst hq hc;exact h
 .simp at hq hc;subst hq hc;exact .bool b
 .simp at hq
theorem ND (hE:EnvOK E) (hm:Mem M ob obs w) {t:Nat} {mv kv:Value} {m k:AVal} (hmv:Rep M ob mv m) (hkv:Rep M ob kv k) (ok:Bool):
  PS0 E.P M ob w (Jv t mv kv ok) obs base (CQ E (aE obs) t m k ok):=by
 unfold CQ
 split
 .rename_i kt e _ _ _ j hT
  have hut:=(hE.tab _ _ hT).kind.1
  split
  .rename_i te ag es hTe hog
   split
   .rename_i key hkey
    obtain ⟨rfl,hkw⟩:=sS hE hkey hkv
    refine BO hkw fun hn=>?_
    obtain ⟨b,rfl,_,_,_,en,clock,hb,hl,hen,_⟩:=hm.mpOf hog hmv
    obtain ⟨r,hr,hf⟩:=nH (w:=w) hkw rfl (NY.enOK (b:=b) hl hen hn)
    have hchk:=fun em=>BR (w:=w) hkw rfl em
    obtain ⟨i,z,hi,_,hz,_,hzr,_⟩:=(hE.tab _ _ hTe).info
    have hzv:(zeroValue e).run E.P w= .ok z w:=by simp [zeroValue,typeInfo,hi,hz]
    rcases hf with ⟨rfl,hf⟩ | ⟨q,x,y,rfl,hx,hy,hyk,hbef⟩
    .rw [Sd.eq_def]
     simp only
     rw [(lV hf).1]
     refine ⟨rfl,if ok then .tuple #[z,.bool false] else z,?_,?_⟩
     .simp only [Jv,Av,run_underlying hut,Ak,MapKept.run_getObj_map hb,hchk,hr,hzv,Az]
     .cases ok with
      | true=>exact (gZ hzr).pairB false
      | false=>exact gZ hzr
    .rw [Sd.eq_def]
     simp only
     rw [(rC hy hyk hbef).1]
     have hrep:=(hen q x y hx hy).2.2.pure (ob:=ob)
     refine ⟨rfl,if ok then .tuple #[x.val,.bool true] else x.val,?_,?_⟩
     .simp only [Jv,Av,run_underlying hut,Ak,MapKept.run_getObj_map hb,hchk,hr,Az]
     .cases ok with
      | true=>exact hrep.pairB true
      | false=>exact hrep
   .exact trivial
  .exact trivial
 .exact trivial
abbrev BM (w:World) (b:Nat) (o:Obj):World:={w with heap:=w.heap.setIfInBounds b o}
theorem LQ {b:Nat} {o o':Obj} (h:w.heap[b]? =some o'):(BM w b o).heap[b]? =some o:=by
 have:=eI h
 show (w.heap.setIfInBounds b o)[b]? =some o
 simp [this]
theorem wA {b c:Nat} {o:Obj} (h:c≠b):(BM w b o).heap[c]? =w.heap[c]?:=by
 show (w.heap.setIfInBounds b o)[c]? =w.heap[c]?
 rw [Ci (fun e=>h e.symm)]
theorem Mem.mpTurn (h:Mem M ob obs w) {j b clock clock':Nat} {ag:Bool} {es es':List (List Int×AVal)} {en:Array MapEntry} {en':List MapEntry} (hx:obs[j]? =some (.mp ag es)) (hh:ob[j]? =some [.map (some b)]) (hno:∀ o,NoM M b o) (hb:w.heap[b]? =some (.map en clock))
  (hl:en'.length=es'.length) (he:∀ (i:Nat) x y,en'[i]? =some x->es'[i]? =some y->x.key=eJ ag y.1/\(ag=false->y.1.length=1)/\Rep M [] x.val y.2)
  (h1:∀ (i:Nat) x,en'[i]? =some x->x.born<clock') (h2:∀ (i j:Nat) x y,en'[i]? =some x->en'[j]? =some y->x.born=y.born->i=j):
  Mem M ob (obs.set j (.mp ag es')) (BM w b (.map en'.toArray clock'))/\Ext M ob obs w M ob (obs.set j (.mp ag es')) (BM w b (.map en'.toArray clock'))/\cF ob obs ob (obs.set j (.mp ag es')):=by
 have hset:=eY (l:=ob) hh
 have:=h.turn (M':=M) (w':=BM w b (.map en'.toArray clock')) (x':=.mp ag es') (hs':=[.map (some b)]) hx hh (Cr _) (fun e=>by cases e) (fun _ _ _ h=>h) (fun _ _ _ h=>.inl h) (fun c o y hy=>by
   obtain ⟨u,hu,h4,h5⟩:=h.imm c o y hy
   have hne:c≠b:=fun e=>by subst e;exact hno o y hy
   exact ⟨u,(Cg (w:=w) (a:=⟨c,o,none⟩) (wA hne)).trans hu,h4,h5⟩)
  (fun c _ hn=>wA fun e=>hn ⟨rfl,by subst e;exact cZ.2 rfl⟩) rfl rfl rfl (by simp) (fun hle=>⟨b,rfl,hno,en',clock',LQ hb,hl,he,h1,h2⟩)
  (fun _ c hb'=>⟨.inl ⟨rfl,hb'⟩,by
   have:b=c:=cZ.1 hb'
   subst this
   have:=eI hb
   simpa using this⟩)
 rw [hset] at this
 exact this
theorem pE:∀ (n:Nat) (l:List Int),(((l.map (Hl .i64)).zip (l.map (Hl .i64))).all fun (x,y)=>Hc n x y)=true
 | n,[]=>rfl
 | n,a::r=>by
  simp only [Cn,List.zip_cons_cons,Dq,pE n r,Ga]
  cases n<;>simp [Hc]
theorem BP (n:Nat) (ag:Bool) (l:List Int):Hc (n+1) (eJ ag l) (eJ ag l)=true:=by
 cases ag with
 | false=>simp [eJ,Hc]
 | true=>
  simp only [eJ,if_true,Hc,beq_self_eq_true,Bt]
  exact pE n l
theorem WQ {en:List MapEntry} {q:Nat} {x:MapEntry} (hx:en[q]? =some x) (f:MapEntry->MapEntry):en.toArray.modify q f=(en.set q (f x)).toArray:=by
 apply Cp
 simp only [Array.toList_modify]
 refine Ee fun i=>?_
 rw [List.getElem?_modify,Gf]
 have hlt:=(Ab.1 hx).1
 by_cases hi:q=i
 .subst hi
  have hxe:en[q]=x:=(Ab.1 hx).2
  simp [hlt,hxe]
 .simp [hi]
theorem DV:Rep M ob (.tuple #[]) (.tup []):=.tup [] [] rfl fun i v a h=>by simp at h
theorem S7 (hE:EnvOK E) (hm:Mem M ob obs w) {t:Nat} {mv kv vv:Value} {m k v:AVal} (hmv:Rep M ob mv m) (hkv:Rep M ob kv k) (hvv:Rep M ob vv v):
  Sd (VU E.P M ob obs w (Ic t mv kv vv)) (fun _ _=>False) (fun _=>False) obs base (IA E (aE obs) t m k v):=by
 unfold IA
 split
 .rename_i kt _ _ _ _ j hT
  have hut:=(hE.tab _ _ hT).kind.1
  split
  .rename_i ag es hog
   split
   .rename_i key hkey
    obtain ⟨rfl,hkw⟩:=sS hE hkey hkv
    have hval:=hm.pureV 4 vv v hvv
    generalize pureV (aE obs) 4 v=v' at hval
    refine sdc fun _=>BO hkw fun hn=>?_
    have hk1:ag=false->key.length=1:=fun e=>by
     rcases hn with ⟨_,h⟩ | ⟨h,_⟩
     .exact h
     .rw [e] at h;cases h
    obtain ⟨b,rfl,hob,hobs,hno,en,clock,hb,hl,hen,hst,hinj⟩:=hm.mpOf hog hmv
    obtain ⟨r,hr,hf⟩:=nH (w:=w) hkw rfl (NY.enOK (b:=b) hl hen hn)
    have hchk:=fun em=>BR (w:=w) hkw rfl em
    rcases hf with ⟨rfl,hf⟩ | ⟨q,x,y,rfl,hx,hy,hyk,hbef⟩
    .have hput:=(lV hf).2.1 v'
     have:=hm.mpTurn (es':=es++[(key,v')]) (en':=en++[⟨eJ ag key,vv,clock⟩]) (clock':=clock+1) hobs hob hno hb (by simp [hl]) (fun i a c ha hc=>by
       by_cases hi:i<en.length
       .rw [Ah hi] at ha
        rw [Ah (by omega)] at hc
        exact hen i a c ha hc
       .rw [Aq (by omega)] at ha
        rw [Aq (by omega)] at hc
        have hi0:i-en.length=0:=by
                  have:=(Ab.1 ha).1
                  simp at this;omega
        rw [hi0] at ha
        rw [<-hl,hi0] at hc
        simp at ha hc
        subst ha hc
        exact ⟨rfl,hk1,hval⟩) (fun i a ha=>by
       by_cases hi:i<en.length
       .rw [Ah hi] at ha
        have:=hst i a ha
        omega
       .rw [Aq (by omega)] at ha
        have hi0:i-en.length=0:=by
                  have:=(Ab.1 ha).1
                  simp at this;omega
        rw [hi0] at ha
        simp at ha
        subst ha
        show clock<clock+1
        omega) (fun i i' a a' ha ha' hborn=>by
       have last:∀ {i:Nat} {a:MapEntry},¬ i<en.length->(en++[⟨eJ ag key,vv,clock⟩])[i]? =some a->i=en.length/\a.born=clock:=fun {i a} hi ha=>by
        rw [Aq (by omega)] at ha
        have hi0:i-en.length=0:=by
                  have:=(Ab.1 ha).1
                  simp at this;omega
        rw [hi0] at ha
        simp at ha
        subst ha
        exact ⟨by omega,rfl⟩
       by_cases hi:i<en.length<;>by_cases hi':i'<en.length
       .rw [Ah hi] at ha
        rw [Ah hi'] at ha'
        exact hinj i i' a a' ha ha' hborn
       .rw [Ah hi] at ha
        have:=hst i a ha
        have:=(last hi' ha').2
        omega
       .rw [Ah hi'] at ha'
        have:=hst i' a' ha'
        have:=(last hi ha).2
        omega
       .have:=(last hi ha).1
        have:=(last hi' ha').1
        omega)
     refine ⟨rfl,BM w b (.map (en++[(⟨eJ ag key,vv,clock⟩:MapEntry)]).toArray (clock+1)),M,ob,?_,?_⟩
     .simp only [Ic,Av,run_underlying hut,Ak,MapKept.run_getObj_map hb,hchk,hr,MapKept.run_setObj_map _ hb]
      simp
     .rw [hput,aP hobs]
      exact ⟨this.2.1,this.1,this.2.2⟩
    .have hput:=(rC hy hyk hbef).2.1 v'
     have hxk:=(hen q x y hx hy).1
     have hql:=(Ab.1 hx).1
     have:=hm.mpTurn (es':=es.set q (key,v')) (en':=en.set q ⟨eJ ag key,vv,x.born⟩) (clock':=clock) hobs hob hno hb (by simp [hl]) (fun i a c ha hc=>by
       rw [Gf] at ha hc
       by_cases hi:q=i
       .rw [if_pos hi] at ha hc
        subst hi
        rw [if_pos hql] at ha
        rw [if_pos (by omega)] at hc
        cases ha;cases hc
        exact ⟨rfl,hk1,hval⟩
       .rw [if_neg hi] at ha hc
        exact hen i a c ha hc) (fun i a ha=>by
       rw [Gf] at ha
       by_cases hi:q=i
       .rw [if_pos hi,if_pos (by omega)] at ha
        cases ha
        exact hst q x hx
       .rw [if_neg hi] at ha
        exact hst i a ha) (fun i i' a a' ha ha' hborn=>by
       have old:∀ {i:Nat} {a:MapEntry},(en.set q ⟨eJ ag key,vv,x.born⟩)[i]? =some a->∃ a0,en[i]? =some a0/\a0.born=a.born:=fun {i a} ha=>by
        rw [Gf] at ha
        by_cases hi:q=i
        .rw [if_pos hi,if_pos (by omega)] at ha
         cases ha
         exact ⟨x,hi▸hx,rfl⟩
        .rw [if_neg hi] at ha
         exact ⟨a,ha,rfl⟩
       obtain ⟨a0,g1,g2⟩:=old ha
       obtain ⟨a0',g1',g2'⟩:=old ha'
       exact hinj i i' a0 a0' g1 g1' (by omega))
     refine ⟨rfl,BM w b (.map (en.set q ⟨eJ ag key,vv,x.born⟩).toArray clock),M,ob,?_,?_⟩
     .have hold:(((en.toArray[0+q]?).map (·.key)).getD (eJ ag key))=eJ ag key:=by
       simp only [Bk,Kf,hx,Kc,Jo]
       rw [hxk,hyk]
      have hst:(Instr.keyThatStays (eJ ag key) (eJ ag key)).run E.P w= .ok (eJ ag key) w:=by
       unfold Instr.keyThatStays
       rw [show (10000:Nat)=9999+1 from rfl,BP 9999 ag key]
       simp
      simp only [Ic,Av,run_underlying hut,Ak,MapKept.run_getObj_map hb,hchk,hr,hold,hst,MapKept.run_setObj_map _ hb]
      rw [Bk,WQ hx]
     .rw [hput,aP hobs]
      exact ⟨this.2.1,this.1,this.2.2⟩
   .exact trivial
  .exact trivial
 .exact trivial
theorem NC (hE:EnvOK E) (hm:Mem M ob obs w) {t t2 ty:Nat} {mv kv:Value} {m k:AVal} (hmv:Rep M ob mv m) (hkv:Rep M ob kv k):
  PM E.P M ob w (Ie #[t,t2] ty #[mv,kv]) obs base (CP E (aE obs) t m k):=by
 unfold CP
 split
 .rename_i kt _ _ _ _ j hT
  have hut:=(hE.tab _ _ hT).kind.1
  split
  .rename_i ag es hog
   split
   .rename_i key hkey
    obtain ⟨rfl,hkw⟩:=sS hE hkey hkv
    refine BO hkw fun hn=>?_
    obtain ⟨b,rfl,hob,hobs,hno,en,clock,hb,hl,hen,hst,hinj⟩:=hm.mpOf hog hmv
    obtain ⟨r,hr,hf⟩:=nH (w:=w) hkw rfl (NY.enOK (b:=b) hl hen hn)
    have hchk:=fun em=>BR (w:=w) hkw rfl em
    rcases hf with ⟨rfl,hf⟩ | ⟨q,x,y,rfl,hx,hy,hyk,hbef⟩
    .have:=hm.mpTurn (es':=es) (en':=en) (clock':=clock) hobs hob hno hb hl hen hst hinj
     refine ⟨.tuple #[],BM w b (.map en.toArray clock),M,ob,?_,?_⟩
     .simp [Ie,run_underlying hut,MapKept.run_getObj_map hb,hchk,hr,MapKept.run_setObj_map _ hb,Eb]
     .rw [(lV hf).2.2,aP hobs]
      exact ⟨this.2.1,this.1,this.2.2,DV⟩
    .have hql:=(Ab.1 hx).1
     have hsub:(en.toArray.eraseIdxIfInBounds q)=(en.eraseIdx q).toArray:=by
      apply Cp
      unfold Array.eraseIdxIfInBounds
      rw [dif_pos (by simpa using hql)]
      simp
     have at1:∀ {α:Type} (l:List α) (i:Nat),(l.eraseIdx q)[i]? =l[if i<q then i else i+1]?:=fun l i=>by
      rw [List.getElem?_eraseIdx]
      split<;>rfl
     have:=hm.mpTurn (es':=es.eraseIdx q) (en':=en.eraseIdx q) (clock':=clock) hobs hob hno hb (by
       rw [Iv hql,Iv (by omega)];omega) (fun i a c ha hc=>by
       rw [at1] at ha hc
       exact hen _ a c ha hc) (fun i a ha=>by
       rw [at1] at ha
       exact hst _ a ha) (fun i i' a a' ha ha' hborn=>by
       rw [at1] at ha ha'
       have:=hinj _ _ a a' ha ha' hborn
       split at this<;>split at this<;>omega)
     refine ⟨.tuple #[],BM w b (.map (en.eraseIdx q).toArray clock),M,ob,?_,?_⟩
     .simp [Ie,run_underlying hut,MapKept.run_getObj_map hb,hchk,hr,MapKept.run_setObj_map _ hb,Eb,hsub]
     .rw [(rC hy hyk hbef).2.2,aP hobs]
      exact ⟨this.2.1,this.1,this.2.2,DV⟩
   .exact trivial
  .exact trivial
 .exact trivial
end
section
variable {P:Program} {E:Env} {M:Imm} {ob:Hs} {obs:List AObj} {w:World} {base:Nat}
theorem Rep.nilif_inv {v:Value} (h:Rep M ob v .nilif):v= .nilIface:=by cases h;rfl
theorem vG {ρv:Operand->Value} {ρ:Operand->AVal} (h:∀ x,Rep M ob (ρv x) (ρ x)):∀ (l:List Operand),cB M ob (l.map ρv) (evO ρ l)
 | []=>⟨rfl,fun i v a h=>by simp at h⟩
 | x::l=>by
  obtain ⟨h1,h2⟩:=vG h l
  refine ⟨by simp [AW.evO,h1],fun i v b hv hb=>?_⟩
  cases i with
  | zero=>simp [AW.evO] at hv hb;subst hv hb;exact h x
  | succ i=>exact h2 i v b (by simpa using hv) (by simpa [AW.evO] using hb)
theorem CM {ρv:Operand->Value} {ρ:Operand->AVal} (h:∀ x,Rep M ob (ρv x) (ρ x)):∀ (l:List (Nat×Operand)),zE M ob (l.map fun (p:Nat×Operand)=>(p.1,ρv p.2)) (evL ρ l)
 | []=>⟨rfl,fun i p q h=>by simp at h⟩
 | (n,x)::l=>by
  obtain ⟨h1,h2⟩:=CM h l
  refine ⟨by simpa [AW.evL] using h1,fun i p q hp hq=>?_⟩
  cases i with
  | zero=>simp [AW.evL] at hp hq;subst hp hq;exact ⟨rfl,h x⟩
  | succ i=>exact h2 i p q (by simpa using hp) (by simpa [AW.evL] using hq)
theorem cB.append {vs us:List Value} {as bs:List AVal} (h:cB M ob vs as) (k:cB M ob us bs):cB M ob (vs++us) (as++bs):=by
 refine ⟨by simp [h.1,k.1],fun i v a hv ha=>?_⟩
 by_cases hi:i<vs.length
 .rw [Ah hi] at hv
  rw [Ah (by rw [<-h.1];exact hi)] at ha
  exact h.2 i v a hv ha
 .rw [Aq (by omega)] at hv
  rw [Aq (by rw [<-h.1];omega),<-h.1] at ha
  exact k.2 _ v a hv ha
theorem cB.cons {v:Value} {a:AVal} {vs:List Value} {as:List AVal} (h:Rep M ob v a) (k:cB M ob vs as):cB M ob (v::vs) (a::as):=
 cB.append (vs:=[v]) (as:=[a]) ⟨rfl,fun i u b hu hb=>by cases i with | zero=>simp at hu hb;subst hu hb;exact h | succ i=>simp at hu⟩ k
theorem oI (hE:EnvOK E) {t:Nat} {v:Value} {a:AVal} (h:Rep M ob v a):Rep M ob v (vW E t a):=by
 unfold vW
 split
 .split
  .cases h;exact .slnil _ _ rfl
  .exact h
 .exact h
theorem bV.now {ρv:Operand->Value} {op:Op} {ty:TypeId} {u:Value} {v:AVal} (hm:Mem M ob obs w) (hx:∀ d pos after g,execOp ρv ⟨d,op,ty,pos,after,g⟩=Pure.pure (.value u)) (h:Rep M ob u v):VS P ρv op ty M ob obs w v obs:=
 ⟨u,w,M,ob,fun d pos after g=>.inl (by rw [hx];rfl),Ext.refl _ _ _ _,hm,cF.refl _ _,h⟩
theorem OX (ts:Array TypeId) (t:TypeId) (k k':IntKind) (x y:Int):(Builtin.max_ ts t #[.int k x,.int k' y]).run P w= .ok (.int k (max x y)) w:=by
 rw [run_max_int2]
 congr 2
 by_cases h:y > x
 .rw [if_pos h];omega
 .rw [if_neg h];omega
theorem OW (ts:Array TypeId) (t:TypeId) (k k':IntKind) (x y:Int):(Builtin.min_ ts t #[.int k x,.int k' y]).run P w= .ok (.int k (min x y)) w:=by
 rw [run_min_int2]
 congr 2
 by_cases h:y<x
 .rw [if_pos h];omega
 .rw [if_neg h];omega
theorem B5 {ρv:Operand->Value} {ρ:Operand->AVal} (h:∀ x,Rep M ob (ρv x) (ρ x)) (l:Option Operand):zF M ob (l.map ρv) (l.map ρ):=by
 cases l with
 | none=>exact .inl ⟨rfl,rfl⟩
 | some y=>exact .inr ⟨_,_,rfl,rfl,h y⟩
theorem qC.notIface {P:Program} {t:Nat} {ag:Bool} {size:Nat} {k:TK} (h:qC P t ag size k) (hne:k≠ .iface):∃ dd,P.underlying t=some dd/\∀ ms,dd≠ .interface ms:=by
 obtain ⟨hsome,_⟩:=h.isAgg
 obtain ⟨dd,hdd⟩:=Ct.1 hsome
 refine ⟨dd,hdd,fun ms e=>?_⟩
 subst e
 cases k with
 | int k=>have:=h.1;rw [hdd] at this;cases this
 | bool=>have:=h.1;rw [hdd] at this;cases this
 | str=>have:=h.1;rw [hdd] at this;cases this
 | strct fs=>obtain ⟨⟨fl,hu,_⟩,_⟩:=h;rw [hdd] at hu;cases hu
 | arr n s ea=>obtain ⟨⟨fl,hu,_⟩,_⟩:=h;rw [hdd] at hu;cases hu
 | slc e s b=>have:=h.1.1;rw [hdd] at this;cases this
 | ptr e=>have:=h.1;rw [hdd] at this;cases this
 | iface=>exact hne rfl
 | mp k e=>have:=h.1;rw [hdd] at this;cases this
 | other=>obtain ⟨⟨d2,hu,hni⟩,_⟩:=h;rw [hdd] at hu;cases hu;exact hni _ rfl
theorem xP {k:IntKind} {x y:Int} (hx:inR k x) (hy:inR k y):inR k (min x y)/\inR k (max x y):=by
 unfold inR at *
 omega
theorem H6 (hE:EnvOK E) (hm:Mem M ob obs w) (hb1:obs[base]? =some .dead) (hb2:ob[base]? =some []) {ρv:Operand->Value} {ρ:Operand->AVal} (hρ:∀ x,Rep M ob (ρv x) (ρ x)) (hint:Nat) (op:Op) (ty:TypeId):
  bV E.P ρv op ty M ob obs w base (jM E hint base (aE obs) ρ op ty):=by
 cases op with
 | move x=>exact bV.now hm (fun _ _ _ _=>rfl) (hρ x)
 | assign x=>
  have hx:=oI hE (t:=ty) (hρ x)
  have hs:∀ d pos after g,execOp ρv ⟨d,.assign x,ty,pos,after,g⟩=((Pure.pure (ρv x):Sem Value) >>= fun v=>Pure.pure (.value v)):=fun _ _ _ _=>rfl
  simp only [jM]
  split
  .exact bV.now hm (fun _ _ _ _=>rfl) hx
  .split
   .rename_i esz xs t heq
    rw [heq] at hx
    split
    .split
     .obtain ⟨_,hnil⟩:=hx.untok
      have hnil:ρv x= .slice none 0 0:=hnil
      split
      .refine sdc fun hg=>?_
       obtain ⟨hg1,hg2⟩:=aS hg
       have hpos:0<esz:=Bw hg2
       refine bV.pm hs (mF hm hb1 hb2 (v:=.slice none 0 0) (w':=w) (by rw [hnil];rfl) ⟨⟨[],Gg w 0 _ _,by simp,fun q c hq=>by simp [aH] at hq⟩,hpos,by simp,fun b hb=>by simp [Fh] at hb,fun _ _=>rfl,rfl,rfl,rfl,Bc _,wZ w⟩)
      .exact trivial
     .exact trivial
    .exact bV.now hm (fun _ _ _ _=>rfl) hx
   .exact bV.now hm (fun _ _ _ _=>rfl) hx
 | pick c x y=>
  have hcv:=hρ c
  simp only [jM]
  split
  .rename_i hev
   rw [hev] at hcv
   exact bV.now hm (fun _ _ _ _=>by simp [execOp,hcv.bool_inv,asBool]) (hρ x)
  .rename_i hev
   rw [hev] at hcv
   exact bV.now hm (fun _ _ _ _=>by simp [execOp,hcv.bool_inv,asBool]) (hρ y)
  .exact trivial
 | alloc t=>
  simp only [jM]
  split
  .rename_i ti hti
   refine sdc fun h1=>?_
   obtain ⟨i,z,hi,hs,hz,hzs,hzr,_,_⟩:=(hE.tab t ti hti).info
   have hzv:(zeroValue t).run E.P w= .ok z w:=by simp [zeroValue,typeInfo,hi,hz]
   obtain ⟨u,w',M',ob',hr,hrest⟩:=EL (P:=E.P) (t:=t) hm hb1 hb2 (gZ hzr) h1
   have hal:(La t true (.tuple #[])).run E.P w= .ok u w':=by
    unfold La
    rw [Av,hzv]
    exact hr
   exact bV.pm (r:=.born _ _) (s:=La t true (.tuple #[])) (fun _ _ _ _=>rfl) ⟨u,w',M',ob',hal,hrest⟩
  .exact trivial
 | box t x=>
  simp only [jM]
  refine sdc fun h1=>?_
  exact bV.pm (r:=.born _ _) (s:=Instr.box t (ρv x)) (fun _ _ _ _=>rfl) (EL (P:=E.P) (t:=t) hm hb1 hb2 (hρ x) h1)
 | build t ps=>
  exact bV.pv (s:=Instr.build t (ps.map fun (p:Nat×Operand)=>(p.1,ρv p.2))) hm (fun _ _ _ _=>rfl) (TF hE (by simpa using CM hρ ps.toList))
 | buildSlice t n ps=>
  exact bV.pm (s:=Hp t n (ps.map fun (p:Nat×Operand)=>(p.1,ρv p.2))) (fun _ _ _ _=>rfl) (zU hE hm hb1 hb2 (by simpa using CM hρ ps.toList))
 | load t x=>exact bV.pv (s:=Ju t (ρv x)) hm (fun _ _ _ _=>rfl) ((X5 hE hm (hρ x)).bind fun v u h=>oI hE h)
 | store t x y=>
  refine Sd.mono (fun v o ⟨h1,w',M',ob',h2,h3,h4,h5⟩=>?_) (fun _ _ h=>h.elim) (fun _ h=>h.elim) (S0 (t:=t) hE hm (hρ x) (oI hE (t:=t) (hρ y)))
  refine ⟨undef,w',M',ob',fun d pos after g=>.inr ⟨?_,rfl⟩,h3,h4,h5,by rw [h1];exact .undef _⟩
  have:execOp ρv ⟨d,.store t x y,ty,pos,after,g⟩=(Hr t (ρv x) (ρv y) >>= fun _=>Pure.pure .skip):=rfl
  rw [this,Av,h2]
  rfl
 | nilCheck x=>
  have hx:=hρ x
  simp only [jM]
  split<;>first | exact trivial | skip
  all_goals
   rename_i hev
   rw [hev] at hx
   refine bV.now hm (u:=ρv x) (fun d pos after g=>?_) hx
   generalize hu:ρv x=u at hx
   simp only [execOp,hu]
   cases hx<;>rfl
 | binOp bop t x y yt=>exact bV.pv (s:=yS bop t x y (ρv x) (ρv y)) hm (fun _ _ _ _=>rfl) (aA8 (og:=aE obs) hE (hρ x) (hρ y))
 | unOp uop t x=>
  have hx:=hρ x
  simp only [jM]
  refine bV.pv (s:=Op.unary uop (ρv x)) hm (fun _ _ _ _=>rfl) ?_
  split
  .rename_i b hev
   rw [hev] at hx
   rw [hx.bool_inv]
   exact aQ (u:=.bool (!b)) rfl (.bool _)
  .rename_i k n hev
   rw [hev] at hx
   rw [hx.int_inv.1]
   have e:(Op.unary .neg (.int k n)).run E.P w= .ok (.int k (k.wrap (0-n))) w:=rfl
   exact ⟨fun hp=>⟨rfl,_,by rw [e,hC hp],.int _ _ hp⟩,rfl,_,e,.int _ _ (jJ _ _)⟩
  .rename_i k n hev
   rw [hev] at hx
   rw [hx.int_inv.1]
   exact aQ (u:=.int k (iC .xor k (if k.signed then -1 else k.max) n)) rfl (.int _ _ (by unfold iC;exact jJ _ _))
  .exact trivial
 | convert s t x=>exact bV.pm (s:=convert s t (ρv x)) (fun _ _ _ _=>rfl) (X8 hE hm (hρ x))
 | makeInterface t x=>
  simp only [jM]
  refine bV.pv (s:=Instr.makeInterface t (ρv x)) hm (fun _ _ _ _=>rfl) ?_
  split
  .rename_i ti hti
   have hk:=(hE.tab t ti hti).kind
   split
   .exact trivial
   .rename_i hne
    obtain ⟨dd,hdd,hni⟩:=hk.notIface hne
    refine aQ (run_makeInterface w t _ ?_) (.iface _ _ _ (hρ x))
    unfold Program.concrete
    rw [hdd]
    cases dd<;>first | rfl | exact absurd rfl (hni _)
  .exact trivial
 | makeFunc fn fs cs=>
  obtain ⟨p1,p2⟩:=vG hρ fs.toList
  obtain ⟨q1,q2⟩:=vG hρ cs.toList
  refine bV.now hm (u:=.func fn (fs.toList.map ρv).toArray (cs.toList.map ρv).toArray) (fun d pos after g=>?_) (.func fn _ _ _ _ p1 q1 p2 q2)
  have e1:(fs.toList.map ρv).toArray=fs.map ρv:=by apply Cp;simp
  have e2:(cs.toList.map ρv).toArray=cs.map ρv:=by apply Cp;simp
  rw [e1,e2]
  rfl
 | makeMap t x=>
  cases x with
  | some x=>exact trivial
  | none=>
   simp only [jM]
   split
   .split
    .rename_i tk _
     obtain ⟨m1,m2,m3,m4⟩:=hm.bornMap hb1 hb2 tk.agg
     refine bV.pm (r:=.born _ _) (s:=Instr.makeMap t none) (fun _ _ _ _=>rfl) ⟨_,_,M,ob.set base [.map (some w.heap.size)],run_makeMap t w,?_⟩
     rw [aP hb1]
     exact ⟨m2,m1,m3,m4⟩
    .exact trivial
   .exact trivial
 | makeSlice t x y=>exact bV.pm (s:=Instr.makeSlice t (ρv x) (ρv y)) (fun _ _ _ _=>rfl) (X4 (hint:=hint) hE hm hb1 hb2 (hρ x) (hρ y))
 | slice t x lo hi mx=>exact bV.pv (s:=Fg t (ρv x) (lo.map ρv) (hi.map ρv) (mx.map ρv)) hm (fun _ _ _ _=>rfl) (S1 hE hm (hρ x) (B5 hρ lo) (B5 hρ hi) (B5 hρ mx))
 | fieldAddr t x f=>exact bV.pv (s:=Jj t (ρv x) f) hm (fun _ _ _ _=>rfl) (CT hE (hρ x))
 | field t x f=>exact bV.pv (s:=Kk t (ρv x) f) hm (fun _ _ _ _=>rfl) ((TA hE (hρ x)).bind fun v u h=>oI hE h)
 | indexAddr t x i=>exact bV.pv (s:=Gc t (ρv x) (ρv i)) hm (fun _ _ _ _=>rfl) (CR hE hm (hρ x) (hρ i))
 | index t x i=>exact bV.pv (s:=Jd t (ρv x) (ρv i)) hm (fun _ _ _ _=>rfl) (S9 hE (hρ x) (hρ i))
 | typeAssert x xt t ok=>
  have hx:=hρ x
  simp only [jM]
  refine bV.pv (s:=Hq (ρv x) xt t ok) hm (fun _ _ _ _=>rfl) ?_
  split
  .rename_i ti u v hti hev
   rw [hev] at hx
   obtain ⟨i,z,hi,hs,hz,hzs,hzr,_,_⟩:=(hE.tab t ti hti).info
   split
   .exact trivial
   .rename_i hne
    obtain ⟨dd,hdd,hni⟩:=(hE.tab t ti hti).kind.notIface hne
    obtain ⟨v',hxe,hv⟩:=hx.iface_inv
    rw [hxe]
    cases hq:Ar u t with
    | true=>
     have:=aB hq
     subst this
     refine aQ (u:=if ok then .tuple #[v',.bool true] else v') ?_ ?_
     .unfold Hq
      simp only [Av,run_underlying hdd,Ak]
      cases dd<;>first | exact absurd rfl (hni _) | (simp)
     .cases ok with
      | true=>exact hv.pairB true
      | false=>exact hv
    | false=>
     have hne2:¬ u=t:=fun e=>by subst e;simp at hq
     simp only [cond_false]
     refine sdc fun hok=>?_
     subst hok
     refine aQ (u:=.tuple #[z,.bool false]) ?_ ((gZ hzr).pairB false)
     unfold Hq
     simp only [Av,run_underlying hdd,Ak]
     cases dd<;>first | exact absurd rfl (hni _) | (simp [hne2,zeroValue,typeInfo,hi,hz])
  .rename_i ti hti hev
   rw [hev] at hx
   obtain ⟨i,z,hi,hs,hz,hzs,hzr,_,_⟩:=(hE.tab t ti hti).info
   split
   .exact trivial
   .rename_i hne
    obtain ⟨dd,hdd,hni⟩:=(hE.tab t ti hti).kind.notIface hne
    refine sdc fun hok=>?_
    subst hok
    rw [hx.nilif_inv]
    refine aQ (u:=.tuple #[z,.bool false]) ?_ ((gZ hzr).pairB false)
    unfold Hq
    simp only [Av,run_underlying hdd,Ak]
    cases dd<;>first | exact absurd rfl (hni _) | (simp [zeroValue,typeInfo,hi,hz])
  .exact trivial
 | extract x i=>
  have hx:=hρ x
  simp only [jM]
  refine bV.pv (s:=Instr.extract (ρv x) i) hm (fun _ _ _ _=>rfl) ?_
  split
  .rename_i vs hev
   rw [hev] at hx
   split
   .rename_i v hn
    have hnv:=fT hn
    obtain ⟨us,hxe,hl,hr⟩:=hx.tup_inv
    have hlt:i<us.length:=by rw [hl];exact (Ab.1 hnv).1
    rw [hxe]
    refine aQ (u:=us[i]) ?_ (hr i _ v (Ac hlt) hnv)
    simp [Instr.extract,hlt]
   .exact trivial
  .exact trivial
 | panic x=>
  have hx:=hρ x
  simp only [jM]
  split
  .rename_i t v hev
   rw [hev] at hx
   obtain ⟨u,hxe,hu⟩:=hx.iface_inv
   have:∀ v',v'=pureV (aE obs) 3 v->bV E.P ρv (.panic x) ty M ob obs w base ((fun v=>bif xD v then OR.pan (.iface t v) else .no) v'):=fun v' e=>by
    subst e
    refine sdc fun _=>⟨.iface t u,fun d pos after g=>?_,.iface _ _ _ (hm.pureV 3 _ _ hu)⟩
    simp [execOp,Instr.panic,hxe]
   exact this _ rfl
  .exact trivial
 | lookup t m k ok=>exact bV.pv (s:=Jv t (ρv m) (ρv k) ok) hm (fun _ _ _ _=>rfl) (ND hE hm (hρ m) (hρ k) ok)
 | mapUpdate t m k v0=>
  refine Sd.mono (fun v o ⟨h1,w',M',ob',h2,h3,h4,h5⟩=>?_) (fun _ _ h=>h.elim) (fun _ h=>h.elim) (S7 (t:=t) hE hm (hρ m) (hρ k) (hρ v0))
  refine ⟨undef,w',M',ob',fun d pos after g=>.inr ⟨?_,rfl⟩,h3,h4,h5,by rw [h1];exact .undef _⟩
  have:execOp ρv ⟨d,.mapUpdate t m k v0,ty,pos,after,g⟩=(Ic t (ρv m) (ρv k) (ρv v0) >>= fun _=>Pure.pure .skip):=rfl
  rw [this]
  simp only [Av,h2,Ak,Az]
 | call c=>
  obtain ⟨callee,args,argTypes⟩:=c
  have hargs:=vG hρ args.toList
  simp only [jM]
  cases callee with
  | value f=>
   have hfv:=hρ f
   dsimp only
   split
   .rename_i gid fs cs hev
    rw [hev] at hfv
    cases hfe:ρv f with
    | func fn first caps=>
     rw [hfe] at hfv
     cases hfv with
     | func _ vfs vcs _ _ hl1 hl2 hr1 hr2=>
      rw [C6,C6]
      refine ⟨_,cB.append (cB.append ⟨hl1,hr1⟩ hargs) ⟨hl2,hr2⟩,fun d pos after g=>?_⟩
      have e1:(args.map ρv)=(args.toList.map ρv).toArray:=by apply Cp;simp
      simp [execOp,resolve,hfe,Deferred.ofValue,invoke,e1,yX]
    | _=>rw [hfe] at hfv;cases hfv
   .rename_i lid fs cs hev
    rw [hev] at hfv
    cases hfe:ρv f with
    | func fn first caps=>
     rw [hfe] at hfv
     cases hfv with
     | func _ vfs vcs _ _ hl1 hl2 hr1 hr2=>
      rw [C6]
      refine ⟨_,cB.append ⟨hl1,hr1⟩ hargs,fun d pos after g=>?_⟩
      have e1:(args.map ρv)=(args.toList.map ρv).toArray:=by apply Cp;simp
      simp [execOp,resolve,hfe,Deferred.ofValue,invoke,e1,yX]
    | _=>rw [hfe] at hfv;cases hfv
   .exact trivial
  | invoke rc name=>
   have hrv:=hρ rc
   dsimp only
   split
   .rename_i t v hev
    rw [hev] at hrv
    split
    .rename_i gid hmg
     cases hre:ρv rc with
     | iface t' v'=>
      rw [hre] at hrv
      cases hrv with
      | iface _ _ _ hv=>
       have hmm:=hE.mth t name gid hmg v' w
       refine ⟨_,cB.cons hv hargs,fun d pos after g=>?_⟩
       have hva: #[v']++args.map ρv=(v'::args.toList.map ρv).toArray:=by apply Cp;simp
       rw [<-hva]
       have hex:(#[Kl t v']++args.map ρv).extract 1 (#[Kl t v']++args.map ρv).size=args.map ρv:=by
        apply Cp
        simp [Array.toList_extract]
        exact Cs (by simp)
       simp only [execOp,resolve,Av,Az,Ak,invoke,hre]
       simp only [Gl (show 0<(#[Kl t v']).size by simp)]
       simp only [show (#[Kl t v']:Array Value)[0]? =some (.iface t v') from rfl,hex,callMethod,Av,run_program,Ak,hmm,yX]
     | _=>rw [hre] at hrv;cases hrv
    .exact trivial
   .exact trivial
  | builtin b=>
   dsimp only
   have blt:∀ {s:Sem Value} {r:OR},(∀ {u:Value} {w':World},s.run E.P w= .ok u w'->∀ d pos after g,(execOp ρv ⟨d,.call ⟨.builtin b,args,argTypes⟩,ty,pos,after,g⟩).run E.P w= .ok (.value u) w')->PM E.P M ob w s obs base r->bV E.P ρv (.call ⟨.builtin b,args,argTypes⟩) ty M ob obs w base r:=fun {s r} hx h=>
    Sd.mono (fun v o ⟨u,w',M',ob',h2,h3,h4,h5,h6⟩=>⟨u,w',M',ob',fun d pos after g=>.inl (hx h2 d pos after g),h3,h4,h5,h6⟩) (fun _ _ h=>h.elim) (fun _ h=>h.elim) h
   split
   .rename_i x t h1 h2
    have ha:args= #[x]:=by apply Cp;simpa using h1
    have ht:argTypes= #[t]:=by apply Cp;simpa using h2
    subst ha ht
    exact blt (s:=Dv #[t] ty #[ρv x]) (fun hr d pos after g=>by simp [execOp,resolve,invoke,builtin,hr]) (PM.of hm (aA3 hE hm (hρ x)))
   .rename_i x y h1
    have ha:args= #[x,y]:=by apply Cp;simpa using h1
    subst ha
    split
    .rename_i k p k' q e1 e2
     have hx:=hρ x
     have hy:=hρ y
     rw [e1] at hx
     rw [e2] at hy
     refine sdc fun hk=>?_
     have:=rE hk
     subst this
     obtain ⟨hx1,hx2⟩:=hx.int_inv
     obtain ⟨hy1,hy2⟩:=hy.int_inv
     refine ⟨_,w,M,ob,fun d pos after g=>.inl ?_,Ext.refl _ _ _ _,hm,cF.refl _ _,.int _ _ (xP hx2 hy2).1⟩
     simp [execOp,resolve,invoke,builtin,hx1,hy1,OW]
    .exact trivial
   .rename_i x y h1
    have ha:args= #[x,y]:=by apply Cp;simpa using h1
    subst ha
    split
    .rename_i k p k' q e1 e2
     have hx:=hρ x
     have hy:=hρ y
     rw [e1] at hx
     rw [e2] at hy
     refine sdc fun hk=>?_
     have:=rE hk
     subst this
     obtain ⟨hx1,hx2⟩:=hx.int_inv
     obtain ⟨hy1,hy2⟩:=hy.int_inv
     refine ⟨_,w,M,ob,fun d pos after g=>.inl ?_,Ext.refl _ _ _ _,hm,cF.refl _ _,.int _ _ (xP hx2 hy2).2⟩
     simp [execOp,resolve,invoke,builtin,hx1,hy1,OX]
    .exact trivial
   .rename_i x y t t2 h1 h2
    have ha:args= #[x,y]:=by apply Cp;simpa using h1
    have ht:argTypes= #[t,t2]:=by apply Cp;simpa using h2
    subst ha ht
    exact blt (s:=Cd #[t,t2] ty #[ρv x,ρv y]) (fun hr d pos after g=>by simp [execOp,resolve,invoke,builtin,hr]) (NF hE hm hb1 hb2 (hρ x) (hρ y))
   .rename_i x y t t2 h1 h2
    have ha:args= #[x,y]:=by apply Cp;simpa using h1
    have ht:argTypes= #[t,t2]:=by apply Cp;simpa using h2
    subst ha ht
    exact blt (s:=Ht #[t,t2] ty #[ρv x,ρv y]) (fun hr d pos after g=>by simp [execOp,resolve,invoke,builtin,hr]) (X7 hE hm (hρ x) (hρ y))
   .rename_i x t h1 h2
    have ha:args= #[x]:=by apply Cp;simpa using h1
    have ht:argTypes= #[t]:=by apply Cp;simpa using h2
    subst ha ht
    exact blt (s:=Hb #[t] ty #[ρv x]) (fun hr d pos after g=>by simp [execOp,resolve,invoke,builtin,hr]) (TE hE hm (hρ x))
   .rename_i m k t t2 h1 h2
    have ha:args= #[m,k]:=by apply Cp;simpa using h1
    have ht:argTypes= #[t,t2]:=by apply Cp;simpa using h2
    subst ha ht
    exact blt (s:=Ie #[t,t2] ty #[ρv m,ρv k]) (fun hr d pos after g=>by simp [execOp,resolve,invoke,builtin,hr]) (NC hE hm (hρ m) (hρ k))
   .exact trivial
 | _=>exact trivial
theorem WI {v:Value} {a:AVal} (h:Rep M ob v a):Rep M ob v (nrm a):=by
 cases h with
 | rowc k g c a n h hm=>exact .row k g a n c h
 | pre k g n c sz b len h hc hn hl hm=>
  have:=Rep.sub (M:=M) k g 0 n sz b len c h hc (by omega) hl (by omega)
  rw [Ij,Fy] at this
  exact this
 | undef v=>exact .undef v
 | bool b=>exact .bool b
 | int k n hr=>exact .int k n hr
 | str l hl=>exact .str l hl
 | agg vs as hl h=>exact .agg vs as hl h
 | tup vs as hl h=>exact .tup vs as hl h
 | ptr b o cs h=>exact .ptr b o cs h
 | ref k off b h=>exact .ref k off b h
 | eref k g i sz off b n c h=>exact .eref k g i sz off b n c h
 | csl k off len sz b h hm=>exact .csl k off len sz b h hm
 | row k g a n c h=>exact .row k g a n c h
 | sub k g lo len sz b n c h hl hn hc hm=>exact .sub k g lo len sz b n c h hl hn hc hm
 | sub0 k g lo sz a a' n c h hl hc=>exact .sub0 k g lo sz a a' n c h hl hc
 | mref k b h=>exact .mref k b h
 | nilptr=>exact .nilptr
 | nilslice=>exact .nilslice
 | nilmap=>exact .nilmap
 | nilfunc=>exact .nilfunc
 | nilif=>exact .nilif
 | hsl a n c=>exact .hsl a n c
 | slnil sz t ht=>exact .slnil sz t ht
 | slemp sz t a cap ht=>exact .slemp sz t a cap ht
 | sl sz b o n cap xs t hn hc hm hz h ht=>exact .sl sz b o n cap xs t hn hc hm hz h ht
 | func fn fs cs fa ca hf hc h1 h2=>exact .func fn fs cs fa ca hf hc h1 h2
 | iface t v a h=>exact .iface t v a h
theorem Rep.rowc_inv {v:Value} {k g c:Nat} (h:Rep M ob v (.rowc k g c)):∃ a n,v= .slice a n c/\at' ob k g=some (.slice a n c)/\(c:Int)<=9223372036854775807:=by
 cases h with | rowc _ _ _ a n h hm=>exact ⟨a,n,rfl,h,hm⟩
theorem Rep.pre_inv {v:Value} {k g n c sz:Nat} (h:Rep M ob v (.pre k g n c sz)):∃ b len,v= .slice (some ⟨b,0,none⟩) n c/\at' ob k g=some (.slice (some ⟨b,0,none⟩) len c)/\0<c/\n<=len/\len<=c/\(c:Int)<=9223372036854775807:=by
 cases h with | pre _ _ _ _ _ b len h hc hn hl hm=>exact ⟨b,len,rfl,h,hc,hn,hl,hm⟩
theorem Mem.rowIs (hm:Mem M ob obs w) {k g sz:Nat} {e:TypeId} {xs:List AVal} (hx:obs[k]? =some (.row g sz e xs)) {ad:Option Addr} {n c:Nat} (hat:at' ob k g=some (.slice ad n c)):
  n=xs.length/\n<=c/\(n:Int)<=9223372036854775807/\(ad=none/\n=0/\c=0\/∃ b,ad=some ⟨b,0,none⟩):=by
 obtain ⟨hs',v,h1,h2,h3,h4,h5,_⟩:=hm.rowOf hx
 rw [hat] at h4
 cases h4
 rcases h5.len with ⟨e1,rfl⟩ | ⟨b,c',e1,e2,e3,e4⟩
 .cases e1;exact ⟨rfl,Bc _,by decide,.inl ⟨rfl,rfl,rfl⟩⟩
 .cases e1;exact ⟨rfl,e3,by have:=iW;omega,.inr ⟨b,rfl⟩⟩
theorem cV.on {v:Value} {sz:Nat} {e:TypeId} {xs:List AVal} (h:cV M w v sz e xs) (hpos:0<sz) {b n c y:Nat} (hv:v= .slice (some ⟨b,0,none⟩) n c) (h1:xs.length<=y) (h2:y<=c):
  cV M w (.slice (some ⟨b,0,none⟩) y c) sz e (xs++Ai (y-xs.length) (.agg (Ai sz .undef))):=by
 subst hv
 obtain ⟨cv,⟨o1,o2⟩,h3,h4,h5,h6,h7⟩:=h
 rcases o2 with ⟨q,_⟩ | ⟨g,cap,cur,q1,_,q3,q4,q5,q6,q7⟩
 .cases q
 cases q1
 have hy:y*sz<=cur.size:=by rw [q6];exact Bp _ h2
 have hlen:(xs++Ai (y-xs.length) (AVal.agg (Ai sz .undef))).length=y:=by simp;omega
 refine ⟨cur.toList.take (y*sz),⟨by rw [hlen];simp;omega,.inr ⟨b,c,cur,by rw [hlen],Bm _,q3,by rw [hlen];exact h2,q5,q6,by rw [hlen]⟩⟩,fun u hu=>h7 b rfl _ _ _ q3 u (Ch hu),fun x hx=>?_,fun q d hq=>?_,h6,h7⟩
 .rcases Ba.1 hx with hx | hx
  .exact h4 x hx
  .rw [(Fi.1 hx).2];simp [AVal.cells]
 .have hlt:=eA hpos hq
  rw [hlen] at hlt
  rw [Bj hlt]
  by_cases hq1:q<xs.length*sz
  .rw [cE hpos hq1] at hq
   obtain ⟨u,hu,hr⟩:=h5 q d hq
   refine ⟨u,?_,hr⟩
   rw [<-q7,Bj hq1] at hu
   exact hu
  .rw [bY hpos (by omega)] at hq
   obtain ⟨x,hx,hc⟩:=fF hq
   have:=(Fi.1 (Aw hx)).2
   subst this
   have:d= .undef:=(Fi.1 (Aw (show (Ai sz AVal.undef)[_]? =some d from hc))).2
   subst this
   have hlt2:q<cur.toList.length:=by simp;omega
   exact ⟨_,Ac hlt2,.undef _⟩
theorem aA6 (hE:EnvOK E) (hm:Mem M ob obs w) {t k g c hint:Nat} {v u:Value} {h:AVal} (hv:Rep M ob v (.rowc k g c)) (hu:Rep M ob u h):
  PM E.P M ob w (Fg t v none (some u) none) obs base (aA7 E hint (aE obs) t k g c h):=by
 unfold aA7
 split
 .rename_i e0 esz eb _ _ _ g' sz e xs kk n hT hog
  have hk:=bU hog (by simp)
  obtain ⟨⟨hut,ie,z,hi',hs,_,_,_,_⟩,_⟩:=(hE.tab t _ hT).kind
  refine sdc fun hg=>?_
  obtain ⟨hg12,hg3⟩:=aS hg
  obtain ⟨hg1,hg2⟩:=aS hg12
  obtain rfl:=aB hg1
  obtain rfl:=aB hg2
  have hpos:0<sz:=Bw hg3
  obtain ⟨hu',hel⟩:=yH hut
  have hse:(E.P.info? (E.P.elem t)).map (·.size)=some sz:=by rw [hel];simp [hi',hs]
  have hso:=fun u:World=>run_sizeOf (P:=E.P) hse u
  obtain ⟨ad,len,rfl,hat,hcm⟩:=hv.rowc_inv
  obtain ⟨rfl,hnc,hnm,had⟩:=hm.rowIs hk hat
  obtain ⟨rfl,_⟩:=hu.int_inv
  rintro y rfl
  have run:y<=c->(Fg t (.slice ad xs.length c) none (some (.int kk (y:Int))) none).run E.P w= .ok (sliced ad 0 y c sz) w:=fun hy=>by
   rw [run_sliceAt_slice w t _ _ _ _ hu',run_slice_h w t ad _ c hu' kk y (by omega) (by omega),hso];rfl
  cases hint with
  | zero=>
   rintro ⟨c1,c2⟩
   refine ⟨_,w,M,ob,run (by omega),Ext.refl _ _ _ _,hm,cF.refl _ _,?_⟩
   rcases had with ⟨rfl,_,q⟩ | ⟨b,rfl⟩
   .omega
   .have e1:sliced (some ⟨b,0,none⟩) 0 y c sz= .slice (some ⟨b,0,none⟩) y c:=by
     simp [sliced,bH]
    rw [e1]
    exact .pre k g y c sz b _ hat c2 c1 hnc hcm
  | succ m=>
   rintro ⟨c1,c2⟩
   obtain ⟨hs0,v0,e1,e2,e3,e4,hrow,hblk⟩:=hm.rowOf hk
   rw [hat] at e4
   cases e4
   rcases had with ⟨rfl,q1,q2⟩ | ⟨b,rfl⟩
   .
    subst q2
    obtain rfl:y=0:=by omega
    have hx0:xs=[]:=Au q1
    subst hx0
    have hl':(hs0++[Ff none 0 0]).length=g+1+1:=by simp [e2]
    have hg':(hs0++[Ff none 0 0])[g+1]? =some (.slice none 0 0):=by rw [<-e2];simp
    have:=hm.rowTurn (hs':=hs0++[Ff none 0 0]) hk e1 e3 ⟨_,rfl⟩ hl' hg' hrow (fun b _ _=>rfl) rfl rfl rfl (Bc _) (fun b hb=>by cases hb)
    refine ⟨_,w,M,ob.set k (hs0++[Ff none 0 0]),run (Bc _),?_⟩
    rw [aP hk]
    have hrr:([]:List AVal)++Ai (0-([]:List AVal).length) (AVal.agg (Ai sz .undef))=[]:=rfl
    rw [hrr]
    refine ⟨this.2.1,this.1,this.2.2,?_⟩
    have hat2:at' (ob.set k (hs0++[Ff none 0 0])) k (g+1)=some (.slice none 0 0):=by rw [bT (Ax (Ab.1 e1).1)];exact hg'
    have e9:sliced none 0 0 0 sz= .slice none 0 0:=by simp [sliced]
    rw [e9]
    exact .row _ _ _ _ _ hat2
   .have e9:sliced (some ⟨b,0,none⟩) 0 y c sz= .slice (some ⟨b,0,none⟩) y c:=by simp [sliced,bH]
    have hrow':=hrow.on hpos rfl c1 c2
    have hl':(hs0++[Ff (some ⟨b,0,none⟩) y c]).length=g+1+1:=by simp [e2]
    have hg':(hs0++[Ff (some ⟨b,0,none⟩) y c])[g+1]? =some (.slice (some ⟨b,0,none⟩) y c):=by rw [<-e2];simp
    have:=hm.rowTurn (hs':=hs0++[Ff (some ⟨b,0,none⟩) y c]) hk e1 e3 ⟨_,rfl⟩ hl' hg' hrow' (fun b _ _=>rfl) rfl rfl rfl (Bc _) (fun b' hb=>.inl hb)
    refine ⟨_,w,M,ob.set k (hs0++[Ff (some ⟨b,0,none⟩) y c]),run c2,?_⟩
    rw [aP hk]
    refine ⟨this.2.1,this.1,this.2.2,?_⟩
    have hat2:at' (ob.set k (hs0++[Ff (some ⟨b,0,none⟩) y c])) k (g+1)=some (.slice (some ⟨b,0,none⟩) y c):=by rw [bT (Ax (Ab.1 e1).1)];exact hg'
    rw [e9]
    exact .row _ _ _ _ _ hat2
 .exact trivial
theorem X6 (hE:EnvOK E) (hm:Mem M ob obs w) {t k g:Nat} {v vl vh vm:Value} {l h m:AVal} (hv:Rep M ob v (.row k g)) (hl:Rep M ob vl l) (hh:Rep M ob vh h) (hmx:Rep M ob vm m):
  PM E.P M ob w (Fg t v (some vl) (some vh) (some vm)) obs base (TB E (aE obs) t k g l h m):=by
 unfold TB
 split
 .rename_i e0 esz eb _ _ _ g' sz e xs ka a kb b kc c hT hog
  have hk:=bU hog (by simp)
  obtain ⟨⟨hut,ie,z,hi',hs,_,_,_,_⟩,_⟩:=(hE.tab t _ hT).kind
  refine sdc fun hg=>?_
  obtain ⟨hg1,hg2⟩:=aS hg
  obtain rfl:=aB hg1
  obtain rfl:=aB hg2
  obtain ⟨hu',hel⟩:=yH hut
  have hse:(E.P.info? (E.P.elem t)).map (·.size)=some sz:=by rw [hel];simp [hi',hs]
  have hso:=fun u:World=>run_sizeOf (P:=E.P) hse u
  obtain ⟨ad,len,cap,rfl,hat⟩:=hv.row_inv
  obtain ⟨rfl,hnc,hnm,had⟩:=hm.rowIs hk hat
  obtain ⟨rfl,_⟩:=hl.int_inv
  obtain ⟨rfl,_⟩:=hh.int_inv
  obtain ⟨rfl,_⟩:=hmx.int_inv
  rintro x rfl y rfl q rfl ⟨⟨c1,c2⟩,c3⟩
  refine ⟨sliced ad x y q sz,w,M,ob,?_,Ext.refl _ _ _ _,hm,cF.refl _ _,.undef _⟩
  rw [run_sliceAt_slice w t _ _ _ _ hu']
  unfold Je Ew Hn
  simp only [Av,run_underlying hu',Ak,Option.isSome_some,if_true,Az,asIntOf]
  rw [if_pos ⟨by omega,by omega⟩]
  simp only [Az,Ak]
  rw [if_pos ⟨by omega,by omega⟩]
  simp only [Az,Ak]
  rw [if_pos ⟨by omega,by omega⟩]
  simp only [Az,Ak,hso,Br]
  rfl
 .exact trivial
theorem uN {P:Program} (w:World) (t tx ty e:TypeId) (kt:IntKind) (i:TypeInfo) (z:Value) (ht:P.underlying t=some (.slice e)) (hx:P.underlying tx=some (.int kt)) (hi:P.info? e=some i) (hz:i.zero=some z)
  (b n c m:Nat) (hm0:0<m) (hpos:0<i.size) (olds:List Value) (hold:(Bv i.size n (.slice (some ⟨b,0,none⟩) n c)).run P w.drew= .ok olds.toArray w.drew) (hg:c<n+m) (h63:((n+m:Nat):Int)<=9223372036854775807)
  (hbytes:(n+m)*i.bytes<=140737488355328):
  (Cd #[t,tx] ty #[.slice (some ⟨b,0,none⟩) n c,.int .i64 (m:Int)]).run P w=
   .ok (.slice (some ⟨w.heap.size,0,none⟩) (n+m) (grownCap w (n+m) c e))
    (w.drew.alloc (.cells (olds++(Bz z.cells m).toList++(Bz z.cells (grownCap w (n+m) c e-(n+m))).toList).toArray e)):=by
 have hn:¬ (n+m<=c):=by omega
 have h63':¬ (9223372036854775807<((n:Int)+(m:Int))):=by omega
 have hfit:=growslice_fits (bytes:=i.bytes) hg hbytes
 have h48':¬ (281474976710656<Builtin.nextslicecap (n+m) c*i.bytes):=by omega
 have hw:IntKind.i64.wrap (m:Int)=(m:Int):=hC ⟨by simp only [cC];omega,by simp only [bF];omega⟩
 have hmb:¬ (281474976710656<(m:Int)*(i.bytes:Int)):=by
  have h1:m*i.bytes<=(n+m)*i.bytes:=Bp _ (by omega)
  have h2:((m*i.bytes:Nat):Int)<=140737488355328:=by omega
  push_cast at h2
  omega
 have h0:¬ ((m:Int)<0):=by omega
 have hmz:¬ (m*i.size=0):=by
  have:=Nat.mul_pos hm0 hpos
  omega
 simp [Cd,run_underlying ht,run_underlying hx,sizeOf,typeInfo,zeroValue,hi,hz,asInt,asIntOf,hw,h0,hmb,hn,h63',h48',hmz,Question.forced,hold,newRow,grownCap]
 congr 2
 apply Cp
 simp [Aj]
theorem X3 (hE:EnvOK E) (hm:Mem M ob obs w) (hb1:obs[base]? =some .dead) (hb2:ob[base]? =some []) {t t2 ty k g n c sz:Nat} {kt:IntKind} (hx2:E.P.underlying t2=some (.int kt)) {v u:Value} {m:AVal}
  (hv:Rep M ob v (.pre k g n c sz)) (hu:Rep M ob u m):PM E.P M ob w (Cd #[t,t2] ty #[v,u]) obs base (KZ E base (aE obs) t k g n c sz m):=by
 unfold KZ
 split
 .rename_i e esz eb _ _ _ g' sz' e' xs a hT hog
  split
  .rename_i te hTe
   obtain ⟨⟨hut,i,z,hi,hsz,heb,hz,hzs,hz1⟩,_⟩:=(hE.tab t _ hT).kind
   subst hsz heb
   refine sdc fun hg=>?_
   simp only [Ad] at hg
   obtain ⟨⟨⟨g1,g2⟩,g3,g4⟩,g5,g6⟩:=hg
   obtain rfl:=aB g1
   have q2:=aB g2
   subst q2
   have q3:=aB g3
   subst q3
   have q4:=aB g4
   subst q4
   have hpos:0<i.size:=Bw g5
   obtain ⟨i',z',hi',hsz',hz',hzs',hzr,hone,hne⟩:=(hE.tab e te hTe).info
   rw [hi] at hi'
   cases hi'
   rw [hz] at hz'
   cases hz'
   have hk:=bU hog (by simp)
   obtain ⟨b,len,rfl,hat,hc0,hnl,hlc,hcm⟩:=hv.pre_inv
   obtain ⟨rfl,_,hnm,_⟩:=hm.rowIs hk hat
   obtain ⟨rfl,_⟩:=hu.int_inv
   rintro y rfl ⟨c1,f1,f2⟩
   obtain ⟨hs0,v0,e1,e2,e3,e4,hrow,hblk⟩:=hm.rowOf hk
   rw [hat] at e4
   cases e4
   obtain ⟨cv,o1,o2,o3,o4,o5,o6⟩:=hrow
   have hml:=iW
   have hle:n*i.size<=xs.length*i.size:=Bp _ hnl
   have holdl:(cv.take (n*i.size)).length=n*i.size:=by rw [Cq,o1.1];omega
   have hfc:(Bv i.size n (.slice (some ⟨b,0,none⟩) n c)).run E.P w.drew= .ok (cv.take (n*i.size)).toArray w.drew:=by
    refine run_firstCells_some w.drew i.size n ⟨b,0,none⟩ n c _ holdl fun j u hj=>?_
    rw [En] at hj
    split at hj
    .rw [bH,Bk]
     exact eQ o1 (b:=b) rfl hj
    .cases hj
   have hrun:=uN (P:=E.P) w t t2 ty e kt i z hut hx2 hi hz b n c y (by omega) hpos _ hfc c1 (by omega) f2
   have hp0:=hm.pure0 hzr
   obtain ⟨d1,d2⟩:=pD (z:=z.cells) (n:=y)
   rw [hzs] at d1 d2
   obtain ⟨r1,r2⟩:=sJ (M:=M) hp0 (uY g6) hzs hpos d1 d2
   have hge:=grownCap_ge w (n+y) c e
   have hcm':grownCap w (n+y) c e<=maxLen:=grownCap_le_maxLen w (n+y) c e f1
   have htl:(xs.take n).length=n:=by rw [Cq];omega
   have hxl:(xs.take n++Ai y (pureV (fun _=>.dead) 4 te.zero)).length=n+y:=by simp;omega
   have hcells:∀ u∈cv.take (n*i.size)++(Bz z.cells y).toList,u.oneCell'=true:=fun u hu=>by
    rcases Ba.1 hu with hu | hu
    .exact o2 u (Ch hu)
    .exact gS hz1 u hu
   have hll:(cv.take (n*i.size)++(Bz z.cells y).toList).length=(n+y)*i.size:=by rw [Ag,holdl,d1,Cc]
   have gr:Grown M w (w.drew.alloc (.cells (cv.take (n*i.size)++(Bz z.cells y).toList++(Bz z.cells (grownCap w (n+y) c e-(n+y))).toList).toArray e)) i.size e
     (.slice (some ⟨w.heap.size,0,none⟩) (n+y) (grownCap w (n+y) c e)) (xs.take n++Ai y (pureV (fun _=>.dead) 4 te.zero)):=by
    refine ⟨⟨cv.take (n*i.size)++(Bz z.cells y).toList,⟨by rw [hll,hxl],.inr ⟨w.heap.size,_,_,by rw [hxl],Bm _,heap_alloc_new w.drew _,by rw [hxl];exact hge,hcm',?_,?_⟩⟩,hcells,fun q d hq=>?_⟩,hpos,fun x hx=>?_,fun b' hb'=>?_,fun b' hb'=>heap_alloc_old w.drew _ hb',rfl,rfl,rfl,by rw [bX];exact Jc _,?_⟩
    .rw [Fo,Ag,hll,Eg,size_zeroCells,hzs,<-Cc]
     congr 1
     omega
    .rw [hxl,<-hll]
     exact Gz
    .by_cases hlt:q<n*i.size
     .rw [cE hpos (by rw [htl];exact hlt),kE hpos hlt] at hq
      obtain ⟨u,hu,hr⟩:=o4 q d hq
      exact ⟨u,by rw [Ah (by rw [holdl];exact hlt),Bj hlt];exact hu,hr⟩
     .rw [bY hpos (by rw [htl];omega),htl] at hq
      rw [Aq (by rw [holdl];omega),holdl]
      exact r2 _ d hq
    .rcases Ba.1 hx with hx | hx
     .exact o3 x (Ch hx)
     .exact r1 x hx
    .simp only [Fh,Cu] at hb'
     omega
    .refine lT (w:=w.drew) fun u hu=>?_
     rcases Ba.1 hu with hu | hu
     .exact hcells u hu
     .exact gS hz1 u hu
   exact mF (hint:=2) hm hb1 hb2 hrun gr
  .exact trivial
 .exact trivial
theorem H5 (hE:EnvOK E) (hm:Mem M ob obs w) (hb1:obs[base]? =some .dead) (hb2:ob[base]? =some []) {ρv:Operand->Value} {ρ:Operand->AVal} (hρ:∀ x,Rep M ob (ρv x) (ρ x)) {hint:Nat} {op:Op} (ty:TypeId) {r:OR}
  (h:iS E hint base (aE obs) ρ op=some r):bV E.P ρv op ty M ob obs w base r:=by
 cases op with
 | move x=>cases h;exact bV.now hm (fun _ _ _ _=>rfl) (hρ x)
 | assign x=>
  simp only [iS] at h
  split at h
  .rename_i k g c hx
   cases h
   have:=hρ x
   rw [hx] at this
   exact bV.now hm (u:=ρv x) (fun _ _ _ _=>rfl) this
  .cases h
 | slice t x lo hi mx=>
  cases lo with
  | none=>
   cases hi with
   | none=>simp [iS] at h
   | some h'=>
    cases mx with
    | some _=>simp [iS] at h
    | none=>
     simp only [iS] at h
     split at h
     .rename_i k g c hx
      cases h
      have:=hρ x
      rw [hx] at this
      exact bV.pm (s:=Fg t (ρv x) none (some (ρv h')) none) (fun _ _ _ _=>rfl) (aA6 hE hm this (hρ h'))
     .cases h
  | some l=>
   cases hi with
   | none=>simp [iS] at h
   | some h'=>
    cases mx with
    | none=>simp [iS] at h
    | some m=>
     simp only [iS] at h
     split at h
     .rename_i k g hx
      cases h
      have:=hρ x
      rw [hx] at this
      exact bV.pm (s:=Fg t (ρv x) (some (ρv l)) (some (ρv h')) (some (ρv m))) (fun _ _ _ _=>rfl) (X6 hE hm this (hρ l) (hρ h') (hρ m))
     .cases h
 | call c=>
  obtain ⟨callee,args,argTypes⟩:=c
  simp only [iS] at h
  split at h
  .split at h
   .rename_i x t h1 h2
    split at h
    .rename_i k g n _ _ _ _ _ _ hx hT
     cases h
     have ha:args= #[x]:=by apply Cp;simpa using h1
     have ht:argTypes= #[t]:=by apply Cp;simpa using h2
     subst ha ht
     have hr:=hρ x
     rw [hx] at hr
     obtain ⟨ad,len,hv,hat,hcm⟩:=hr.rowc_inv
     obtain ⟨⟨hut,_⟩,_⟩:=(hE.tab t _ hT).kind
     refine ⟨.int .i64 n,w,M,ob,fun d pos after g=>.inl ?_,Ext.refl _ _ _ _,hm,cF.refl _ _,.int _ _ ⟨by simp only [cC];omega,by simp only [bF];omega⟩⟩
     simp [execOp,resolve,invoke,builtin,Builtin.cap_,hv,run_underlying hut,goInt]
    .cases h
   .cases h
  .split at h
   .rename_i x y t t2 h1 h2
    split at h
    .rename_i k g n c sz kt _ _ _ hx hT2
     cases h
     have ha:args= #[x,y]:=by apply Cp;simpa using h1
     have ht:argTypes= #[t,t2]:=by apply Cp;simpa using h2
     subst ha ht
     have hr:=hρ x
     rw [hx] at hr
     have hx2:=(hE.tab t2 _ hT2).kind.1
     exact Sd.mono (fun v o ⟨u,w',M',ob',h2,h3,h4,h5,h6⟩=>⟨u,w',M',ob',fun d pos after g=>.inl (by simp [execOp,resolve,invoke,builtin,h2]),h3,h4,h5,h6⟩) (fun _ _ h=>h.elim) (fun _ h=>h.elim) (X3 hE hm hb1 hb2 (ty:=ty) hx2 hr (hρ y))
    .cases h
   .cases h
  .cases h
 | _=>simp [iS] at h
theorem tB (hE:EnvOK E) (hm:Mem M ob obs w) (hb1:obs[base]? =some .dead) (hb2:ob[base]? =some []) {ρv:Operand->Value} {ρ:Operand->AVal} (hρ:∀ x,Rep M ob (ρv x) (ρ x)) (hint:Nat) (op:Op) (ty:TypeId):
  bV E.P ρv op ty M ob obs w base (eop E hint base (aE obs) ρ op ty):=by
 unfold eop
 split
 .rename_i r hr
  exact H5 hE hm hb1 hb2 hρ ty hr
 .exact H6 hE hm hb1 hb2 (fun x=>WI (hρ x)) hint op ty
end
section
variable {P:Program} {M M':Imm} {ob ob':Hs} {obs L:List AObj} {w w':World}
theorem pC.monoA (ho:∀ (k g:Nat) v,at' ob k g=some v->at' ob' k g=some v) {v:Value} {t:Tk} (h:pC ob v t):pC ob' v t:=by
 cases t with
 | own k g=>exact ho _ _ _ h
 | _=>exact h
theorem Rep.monoA (ho:∀ (k g:Nat) v,at' ob k g=some v->at' ob' k g=some v) {v:Value} {a:AVal} (h:Rep M ob v a):Rep M ob' v a:=by
 induction h with
 | undef v=>exact .undef v
 | bool b=>exact .bool b
 | int k n h=>exact .int k n h
 | str l h=>exact .str l h
 | agg vs as hl _ ih=>exact .agg vs as hl ih
 | tup vs as hl _ ih=>exact .tup vs as hl ih
 | ptr b o cs h=>exact .ptr b o cs h
 | ref k off b h=>exact .ref k off b (ho _ _ _ h)
 | eref k g i sz off b n c h=>exact .eref k g i sz off b n c (ho _ _ _ h)
 | csl k off len sz b h hm=>exact .csl k off len sz b (ho _ _ _ h) hm
 | row k g a n c h=>exact .row k g a n c (ho _ _ _ h)
 | sub k g lo len sz b n c h hl hn hc hm=>exact .sub k g lo len sz b n c (ho _ _ _ h) hl hn hc hm
 | sub0 k g lo sz a a' n c h hl hc=>exact .sub0 k g lo sz a a' n c (ho _ _ _ h) hl hc
 | rowc k g c a n h hm=>exact .rowc k g c a n (ho _ _ _ h) hm
 | pre k g n c sz b len h hc hn hl hm=>exact .pre k g n c sz b len (ho _ _ _ h) hc hn hl hm
 | mref k b h=>exact .mref k b (ho _ _ _ h)
 | nilptr=>exact .nilptr
 | nilslice=>exact .nilslice
 | nilmap=>exact .nilmap
 | nilfunc=>exact .nilfunc
 | nilif=>exact .nilif
 | hsl a n c=>exact .hsl a n c
 | slnil sz t ht=>exact .slnil sz t (ht.monoA ho)
 | slemp sz t a cap ht=>exact .slemp sz t a cap (ht.monoA ho)
 | sl sz b o n cap xs t hn hc hm hz h ht=>exact .sl sz b o n cap xs t hn hc hm hz h (ht.monoA ho)
 | func fn fs cs fa ca hf hc _ _ ih1 ih2=>exact .func fn fs cs fa ca hf hc ih1 ih2
 | iface t v a _ ih=>exact .iface t v a ih
theorem Mem.idle (h:Mem M ob L w) {k:Nat} (hk:ob[k]? =some []):L[k]? =some .dead:=by
 have hlt:k<L.length:=by rw [<-h.len];exact (Ab.1 hk).1
 have e:=Ac hlt
 obtain ⟨hs,e1,hok⟩:=h.obj k _ e
 rw [hk] at e1
 cases e1
 cases hc:L[k] with
 | dead=>rw [e,hc]
 | cells T cs=>rw [hc] at hok;obtain ⟨b,q,_⟩:=hok;cases q
 | fcells cs=>rw [hc] at hok;obtain ⟨b,q,_⟩:=hok;cases q
 | row g sz e xs=>rw [hc] at hok;have:=hok.1;simp at this
 | frow g sz xs=>rw [hc] at hok;obtain ⟨v,q,_⟩:=hok;simp at q
 | tail g sz e=>rw [hc] at hok;have:=hok.1;simp at this
 | mp ag es=>rw [hc] at hok;obtain ⟨b,q,_⟩:=hok;cases q
 | bun g I=>rw [hc] at hok;have:=hok.1;simp at this
theorem Mem.live (h:Mem M ob L w) {k:Nat} {c:AObj} (hk:L[k]? =some c) (hc:c≠ .dead):∃ hs,ob[k]? =some hs/\hs≠[]:=by
 obtain ⟨hs,e1,_⟩:=h.obj k c hk
 refine ⟨hs,e1,fun e=>?_⟩
 subst e
 rw [h.idle e1] at hk
 cases hk
 exact hc rfl
theorem Mem.shrink {n:Nat} (h:Mem M ob (obs++Ai n .dead) w) (hf:∀ (i:Nat) hs,obs.length<=i->ob[i]? =some hs->hs=[]):
  Mem M (ob.take obs.length) obs w/\(∀ (k g:Nat) v,at' ob k g=some v->at' (ob.take obs.length) k g=some v)/\
   ∀ {M0:Imm} {ob0:Hs} {obs0:List AObj} {w0:World},Ext M0 ob0 obs0 w0 M ob (obs++Ai n .dead) w->ob0.length<=obs.length->Ext M0 ob0 obs0 w0 M (ob.take obs.length) obs w:=by
 have hl:=h.len
 simp at hl
 have left:∀ {i:Nat},i<obs.length->(ob.take obs.length)[i]? =ob[i]?/\(obs++Ai n AObj.dead)[i]? =obs[i]?:=fun {i} hi=>⟨Bj hi,Ah hi⟩
 have hat:∀ (k g:Nat) v,at' ob k g=some v->at' (ob.take obs.length) k g=some v:=by
  intro k g v hv
  by_cases hk:k<obs.length
  .unfold at' at hv⊢
   rw [(left hk).1];exact hv
  .unfold at' at hv
   cases hq:ob[k]? with
   | none=>rw [hq] at hv;cases hv
   | some hs=>
    have:=hf k hs (by omega) hq
    subst this
    rw [hq] at hv
    simp at hv
 have alive:∀ {k b:Nat},aM (ob.take obs.length) obs k b->aM ob (obs++Ai n .dead) k b:=fun {k b} ⟨c,hs,e1,e2,e3,e4⟩=>by
  have hk:=(Ab.1 e1).1
  exact ⟨c,hs,(left hk).2.trans e1,e2,(left hk).1▸e3,e4⟩
 refine ⟨⟨h.imm,by simp;omega,fun k c hc=>?_,fun k b ha=>h.lt k b (alive ha),fun i j b ha hb=>h.inj i j b (alive ha) (alive hb)⟩,hat,fun {M0 ob0 obs0 w0} hx h0=>⟨hx.imm,hx.new,fun k hs hk=>?_,hx.os,hx.tape,hx.output,hx.size,hx.keep,fun k b ha=>hx.fresh k b (alive ha)⟩⟩
 .have hk:=(Ab.1 hc).1
  obtain ⟨hs,e1,hok⟩:=h.obj k c ((left hk).2.trans hc)
  refine ⟨hs,(left hk).1.trans e1,?_⟩
  cases c with
  | cells T cs=>
   obtain ⟨b,q1,q2,cv,q3,q4,q5,q6⟩:=hok
   exact ⟨b,q1,q2,cv,q3,q4,q5,fun i v a hv ha=>(q6 i v a hv ha).monoA hat⟩
  | _=>exact hok
 .obtain ⟨hs',e1,e2⟩:=hx.hs k hs hk
  have hlt:=(Ab.1 hk).1
  exact ⟨hs',(left (by omega)).1.trans e1,e2⟩
theorem yG (obs:List AObj) (j g:Nat):iK [] obs j g=g:=rfl
theorem FP (base:Nat) (obs:List AObj):∀ n,embV [] base obs n=embV [] base [] n:=by
 intro n
 induction n with
 | zero=>rfl
 | succ n ih=>
  funext a
  cases a<;>simp only [embV,yG,ih]
def gL (base:Nat) (new:List AObj):List AObj:=new.map (nX [] base [] 0)
theorem Mem.emb0 (h:Mem M ob L w) {base:Nat} {new:List AObj} {obK:Hs} (hfit:base+new.length<=L.length) (hfree:∀ j,j<new.length->ob[base+j]? =some [])
  (hx:Ext M [] [] w M' obK new w') (h':Mem M' obK new w'):
  Mem M' (ob.take base++obK++ob.drop (base+obK.length)) (L.take base++gL base new++L.drop (base+(gL base new).length)) w'/\
   Ext M ob L w M' (ob.take base++obK++ob.drop (base+obK.length)) (L.take base++gL base new++L.drop (base+(gL base new).length)) w'/\
   (∀ n v a,Rep M' obK v a->Rep M' (ob.take base++obK++ob.drop (base+obK.length)) v (AW.embV [] base [] n a)):=by
 have hkl:obK.length=new.length:=h'.len
 have hnl:(gL base new).length=new.length:=by simp [gL]
 obtain ⟨p1,p2⟩:=dX ob obK base (by rw [h.len,hkl];exact hfit)
 obtain ⟨q1,q2⟩:=dX L (gL base new) base (by rw [hnl];exact hfit)
 rw [hkl] at p2
 rw [hnl] at q2
 have inO:∀ {j:Nat},j<new.length->(ob.take base++obK++ob.drop (base+obK.length))[base+j]? =obK[j]?:=fun {j} hj=>by
  have:=p2 (base+j)
  rw [if_pos ⟨by omega,by omega⟩,Ev] at this
  rw [hkl];exact this
 have outO:∀ {i:Nat},¬ (base<=i/\i<base+new.length)->(ob.take base++obK++ob.drop (base+obK.length))[i]? =ob[i]?:=fun {i} hi=>by
  have:=p2 i
  rw [if_neg hi] at this
  rw [hkl];exact this
 have inL:∀ {j:Nat},j<new.length->(L.take base++gL base new++L.drop (base+(gL base new).length))[base+j]? =(new[j]?).map (nX [] base [] 0):=fun {j} hj=>by
  have:=q2 (base+j)
  rw [if_pos ⟨by omega,by omega⟩,Ev] at this
  rw [hnl,this]
  simp [gL]
 have outL:∀ {i:Nat},¬ (base<=i/\i<base+new.length)->(L.take base++gL base new++L.drop (base+(gL base new).length))[i]? =L[i]?:=fun {i} hi=>by
  have:=q2 i
  rw [if_neg hi] at this
  rw [hnl];exact this
 have hat:∀ {j g:Nat} {v:Value},at' obK j g=some v->at' (ob.take base++obK++ob.drop (base+obK.length)) (dA [] base j) (iK [] [] j g)=some v:=by
  intro j g v hv
  rw [fX (Bm _),yG]
  show at' _ (base+j) g=some v
  unfold at' at hv⊢
  cases hq:obK[j]? with
  | none=>rw [hq] at hv;cases hv
  | some hs=>
   have hj:j<new.length:=by rw [<-hkl];exact (Ab.1 hq).1
   rw [inO hj]
   exact hv
 have hrep:∀ n v a,Rep M' obK v a->Rep M' (ob.take base++obK++ob.drop (base+obK.length)) v (AW.embV [] base [] n a):=FQ hat fun hv _=>hat hv
 have hle:dD ob (ob.take base++obK++ob.drop (base+obK.length)):=by
  intro i hs hi
  by_cases hin:base<=i/\i<base+new.length
  .have e:=hfree (i-base) (by omega)
   rw [show base+(i-base)=i from by omega,hi] at e
   cases e
   have hj:i-base<obK.length:=by omega
   refine ⟨obK[i-base],?_,List.nil_prefix⟩
   have:=inO (j:=i-base) (by omega)
   rw [show base+(i-base)=i from by omega] at this
   rw [this]
   exact Ac hj
  .exact ⟨hs,(outO hin).trans hi,Cr _⟩
 have ownsE:∀ o:AObj,(nX [] base [] 0 o).owns=o.owns:=fun o=>by cases o<;>rfl
 have cls:∀ {i b:Nat},aM (ob.take base++obK++ob.drop (base+obK.length)) (L.take base++gL base new++L.drop (base+(gL base new).length)) i b->(∃ j,j<new.length/\i=base+j/\aM obK new j b)\/(¬ (base<=i/\i<base+new.length)/\aM ob L i b):=by
  rintro i b ⟨c,hs,e1,e2,e3,e4⟩
  by_cases hin:base<=i/\i<base+new.length
  .obtain ⟨j,rfl⟩:∃ j,i=base+j:=⟨i-base,by omega⟩
   have hj:j<new.length:=by omega
   rw [inL hj] at e1
   rw [inO hj] at e3
   obtain ⟨o,ho,rfl⟩:=Bx.1 e1
   rw [ownsE] at e2
   exact .inl ⟨j,hj,rfl,o,hs,ho,e2,e3,e4⟩
  .rw [outL hin] at e1
   rw [outO hin] at e3
   exact .inr ⟨hin,c,hs,e1,e2,e3,e4⟩
 have noK:∀ {i b:Nat},aM ob L i b->(∀ j,¬ aM obK new j b):=fun {i b} ha j hj=>by
  rcases hx.fresh j b hj with ⟨k',c,hs,e,_⟩ | q
  .simp at e
  .have:=h.lt i b ha;omega
 have no0:∀ b k,¬ aM ([]:Hs) [] k b:=fun b k ⟨c,hs,e,_⟩=>by simp at e
 refine ⟨⟨h'.imm,by rw [hkl] at p1⊢;rw [hnl] at q1⊢;rw [p1,q1];exact h.len,fun i c hc=>?_,fun i b ha=>?_,fun i i' b ha hb=>?_⟩,⟨hx.imm,fun b o y hy=>?_,hle,hx.os,hx.tape,hx.output,hx.size,fun b hb hn=>hx.keep b hb (no0 b),fun i b ha=>?_⟩,hrep⟩
 .by_cases hin:base<=i/\i<base+new.length
  .obtain ⟨j,rfl⟩:∃ j,i=base+j:=⟨i-base,by omega⟩
   have hj:j<new.length:=by omega
   rw [inL hj] at hc
   obtain ⟨o,ho,rfl⟩:=Bx.1 hc
   obtain ⟨hs,e1,hok⟩:=h'.obj j o ho
   refine ⟨hs,(inO hj).trans e1,?_⟩
   cases o with
   | cells T cs=>
    obtain ⟨b,t1,t2,cv,t3,t4,t5,t6⟩:=hok
    obtain ⟨m1,m2⟩:=bR (hrep 4) t4 t6
    exact ⟨b,t1,t2,cv,t3,m1,t5,m2⟩
   | _=>exact hok
  .rw [outL hin] at hc
   obtain ⟨hs,e1,hok⟩:=h.obj i c hc
   refine ⟨hs,(outO hin).trans e1,hok.mono hx.imm hle (fun b h1 h2 o hno y hy=>?_) (fun b c' h1 h2 hc'=>?_)⟩
   .have ha:aM ob L i b:=(cI hc e1).2 ⟨h1,h2⟩
    rcases hx.new b o y hy with q | q | ⟨k,q⟩
    .exact hno y q
    .have:=h.lt i b ha;omega
    .exact no0 b k q
   .have ha:aM ob L i b:=(cI hc e1).2 ⟨h1,h2⟩
    rw [hx.keep b (h.lt i b ha) (no0 b)]
    exact hc'
 .rcases cls ha with ⟨j,hj,rfl,ha2⟩ | ⟨_,ha2⟩
  .exact h'.lt j b ha2
  .exact Dn (h.lt i b ha2) hx.size
 .rcases cls ha with ⟨j,hj,rfl,ha2⟩ | ⟨_,ha2⟩<;>rcases cls hb with ⟨j',hj',rfl,hb2⟩ | ⟨_,hb2⟩
  .rw [h'.inj j j' b ha2 hb2]
  .exact absurd ha2 (noK hb2 j)
  .exact absurd hb2 (noK ha2 j')
  .exact h.inj i i' b ha2 hb2
 .rcases hx.new b o y hy with q | q | ⟨k,q⟩
  .exact .inl q
  .exact .inr (.inl q)
  .exact (no0 b k q).elim
 .rcases cls ha with ⟨j,hj,rfl,ha2⟩ | ⟨_,ha2⟩
  .rcases hx.fresh j b ha2 with ⟨k,q⟩ | q
   .exact (no0 b k q).elim
   .exact .inr q
  .exact .inl ⟨i,ha2⟩
end
section
variable {M:Imm} {ob:Hs} {n:Nat}
theorem gX {k n:Nat} (h:Du k n=true):k<n:=by simpa [Ep] using h
theorem gY {k g:Nat} {v:Value} (hk:k<n) (h:at' ob k g=some v):at' (ob.take n) k g=some v:=by
 unfold at' at *
 rw [Bj hk]
 exact h
theorem jR {f:AVal->Bool}:∀ {l:List AVal},yZ f l=true->∀ (i:Nat) a,l[i]? =some a->f a=true
 | [],_,i,a,h=>by simp at h
 | c::r,hb,i,a,h=>by
  simp only [yZ,Ad] at hb
  cases i with
  | zero=>simp at h;subst h;exact hb.1
  | succ i=>exact jR hb.2 i a (by simpa using h)
theorem yY {v:Value} {t:Tk} (h:pC ob v t) (hb:aCo n t=true):pC (ob.take n) v t:=by
 cases t with
 | own k g=>exact gY (gX hb) h
 | _=>exact h
theorem vI:∀ (m:Nat) {v:Value} {a:AVal},Rep M ob v a->bel n m a=true->Rep M (ob.take n) v a:=by
 intro m
 induction m with
 | zero=>intro v a _ h;cases h
 | succ m ih=>
  intro v a h hb
  cases h with
  | undef v=>exact .undef v
  | bool b=>exact .bool b
  | int k n hr=>exact .int k n hr
  | str l hl=>exact .str l hl
  | agg vs as hl h=>exact .agg vs as hl fun i v a hv ha=>ih (h i v a hv ha) (jR hb i a ha)
  | tup vs as hl h=>exact .tup vs as hl fun i v a hv ha=>ih (h i v a hv ha) (jR hb i a ha)
  | ptr b o cs h=>exact .ptr b o cs h
  | ref k off b h=>exact .ref k off b (gY (gX hb) h)
  | eref k g i sz off b n c h=>exact .eref k g i sz off b n c (gY (gX hb) h)
  | csl k off len sz b h hm=>exact .csl k off len sz b (gY (gX hb) h) hm
  | row k g a n c h=>exact .row k g a n c (gY (gX hb) h)
  | sub k g lo len sz b n c h hl hn hc hm=>exact .sub k g lo len sz b n c (gY (gX hb) h) hl hn hc hm
  | sub0 k g lo sz a a' n c h hl hc=>exact .sub0 k g lo sz a a' n c (gY (gX hb) h) hl hc
  | rowc k g c a n h hm=>exact .rowc k g c a n (gY (gX hb) h) hm
  | pre k g n c sz b len h hc hn hl hm=>exact .pre k g n c sz b len (gY (gX hb) h) hc hn hl hm
  | mref k b h=>exact .mref k b (gY (gX hb) h)
  | nilptr=>exact .nilptr
  | nilslice=>exact .nilslice
  | nilmap=>exact .nilmap
  | nilfunc=>exact .nilfunc
  | nilif=>exact .nilif
  | hsl a n c=>exact .hsl a n c
  | slnil sz t ht=>exact .slnil sz t (yY ht hb)
  | slemp sz t a cap ht=>exact .slemp sz t a cap (yY ht hb)
  | sl sz b o n cap xs t hn hc hm hz h ht=>exact .sl sz b o n cap xs t hn hc hm hz h (yY ht hb)
  | func fn fs cs fa ca hf hc h1 h2=>
   obtain ⟨hb1,hb2⟩:=aS hb
   exact .func fn fs cs fa ca hf hc (fun i v a hv ha=>ih (h1 i v a hv ha) (jR hb1 i a ha)) (fun i v a hv ha=>ih (h2 i v a hv ha) (jR hb2 i a ha))
  | iface t v a h=>exact .iface t v a (ih h hb)
theorem wX:∀ (n:Nat) (l:List AObj),kX n l=l.take n
 | 0,_=>by simp [kX]
 | n+1,[]=>by simp [kX]
 | n+1,x::r=>by simp [kX,wX n r]
theorem F5 {n:Nat}:∀ {l:List AObj},zY n l=true->∀ (i:Nat) T cs,l[i]? =some (.cells T cs)->yZ (bel n 5) cs=true
 | [],_,i,T,cs,h=>by simp at h
 | x::r,hb,i,T,cs,h=>by
  cases i with
  | zero=>
   simp at h
   subst h
   simp only [zY,Ad] at hb
   exact hb.1
  | succ i=>
   refine F5 (l:=r) ?_ i T cs (by simpa using h)
   cases x<;>first | exact hb | (simp only [zY,Ad] at hb;exact hb.2)
theorem F6 {n:Nat}:∀ {l:List (Nat×AVal)},T3 n l=true->∀ t,bel n 5 (aX l t)=true\/aX l t= .undef
 | [],_,t=>.inr rfl
 | (i,v)::r,hb,t=>by
  simp only [T3,Ad] at hb
  simp only [aX]
  cases Ar i t with
  | true=>exact .inl hb.1
  | false=>exact F6 hb.2 t
theorem Mem.cutO {obs:List AObj} {w:World} (h:Mem M ob obs w) (hb:zY n (obs.take n)=true):Mem M (ob.take n) (obs.take n) w/\∀ {k b:Nat},aM (ob.take n) (obs.take n) k b->aM ob obs k b:=by
 have left:∀ {i:Nat} {c:AObj},(obs.take n)[i]? =some c->i<n/\obs[i]? =some c:=fun {i c} hc=>by
  rw [En] at hc
  split at hc
  .exact ⟨by assumption,hc⟩
  .cases hc
 have alive:∀ {k b:Nat},aM (ob.take n) (obs.take n) k b->aM ob obs k b:=fun {k b} ⟨c,hs,e1,e2,e3,e4⟩=>by
  obtain ⟨hk,e1⟩:=left e1
  rw [Bj hk] at e3
  exact ⟨c,hs,e1,e2,e3,e4⟩
 refine ⟨⟨h.imm,by simp [h.len],fun k c hc=>?_,fun k b ha=>h.lt k b (alive ha),fun i j b ha hb=>h.inj i j b (alive ha) (alive hb)⟩,alive⟩
 obtain ⟨hk,hc'⟩:=left hc
 obtain ⟨hs,e1,hok⟩:=h.obj k c hc'
 refine ⟨hs,by rw [Bj hk];exact e1,?_⟩
 cases c with
 | cells T cs=>
  obtain ⟨b,q1,q2,cv,q3,q4,q5,q6⟩:=hok
  exact ⟨b,q1,q2,cv,q3,q4,q5,fun i v a hv ha=>vI 5 (q6 i v a hv ha) (jR (F5 hb k _ cs hc) i a ha)⟩
 | _=>exact hok
end
def fen (r:Option Nat):Fence:={Fence.wide with round:=r}
def mM (P:Program) (o:Oper) (ρ:Operand->Value) (w:World) (R:Ending->World->Prop):Prop:=
 (∃ v w',(execOp ρ o).run P w= .ok (.value v) w'/\R (.returned v) w')\/
 (∃ w',(execOp ρ o).run P w= .ok .skip w'/\R (.returned undef) w')\/
 (∃ v w',(execOp ρ o).run P w= .halt (.panic v) w'/\R (.panicked [{v,recovered:=false}]) w')\/
 (∃ f args w',(execOp ρ o).run P w= .ok (.enter f args) w'/\Calls P f args w' fun e w''=>R e w''/\e≠ .outgrown)\/
 (∃ l f tmps as bd w',(execOp ρ o).run P w= .ok (.round l f tmps as bd) w'/\RoundIn Fence.wide 0 P l f tmps as bd w' fun e w''=>R e w''/\e≠ .outgrown)
theorem mM.wpIn {rd:Option Nat} {P:Program} {o:Oper} {a:Act} {w:World} {R:Ending->World->Prop} (h:mM P o a.eval w R) {next:Act->World->Prop} {Q:Exit->Act->World->Prop}
  (hnd:∀ c,o.op≠ .defer c) (h1:∀ v w',R (.returned v) w'->next (a.put o.dst v) w') (h2:∀ ch w',R (.panicked ch) w'->Q (.panic ch) a w'):o.wpIn (fen rd) 0 P a w next Q:=by
 refine ⟨fun _ _=>trivial,?_⟩
 rw [Oper.semAt_eq _ _ _ hnd]
 rcases h with ⟨v,w',hr,hR⟩ | ⟨w',hr,hR⟩ | ⟨v,w',hr,hR⟩ | ⟨f,args,w',hr,hc⟩ | ⟨l,f,tmps,as,bd,w',hr,hc⟩
 .rw [hr];exact h1 v w' hR
 .rw [hr];exact h1 undef w' hR
 .rw [hr];exact h2 _ w' hR
 .rw [hr]
  refine ⟨fun h=>(by cases h),(callsIn_wide (n:=0)).2 (hc.mono fun e w'' ⟨hR,hne⟩=>?_)⟩
  cases e with
  | returned v=>exact h1 v w'' hR
  | panicked ch=>exact h2 ch w'' hR
  | outgrown=>exact absurd rfl hne
 .rw [hr]
  refine ⟨fun h=>(by cases h),RoundIn.mono (F:=Fence.wide) hc fun e w'' ⟨hR,hne⟩=>?_⟩
  cases e with
  | returned v=>exact h1 v w'' hR
  | panicked ch=>exact h2 ch w'' hR
  | outgrown=>exact absurd rfl hne
def zI (M:Imm) (ob:Hs) (L:List AObj) (w:World) (K:AVal->List AObj->Prop) (Kp:AVal->List AObj->Prop) (e:Ending) (w':World):Prop:=
 ∃ M' ob' L',Ext M ob L w M' ob' L' w'/\Mem M' ob' L' w'/\((∃ u v,e= .returned u/\Rep M' ob' u v/\K v L')\/∃ ch v,e= .panicked ch/\oF M' ob' e (.pan v)/\Kp v L')
section
variable {P:Program} {E:Env} {M M':Imm} {ob ob':Hs} {obs L:List AObj} {w w':World} {K Kp:AVal->List AObj->Prop}
theorem iF.mono {f:FuncId} {va:Array Value} {R R':Ending->World->Prop} (hR:∀ e w,R e w->R' e w) (h:iF P f va w R):iF P f va w R':=by
 rcases h with ⟨h1,h2⟩ | ⟨u,w',h1,h2⟩
 .exact .inl ⟨h1,h2.mono fun e w h=>hR e w h⟩
 .exact .inr ⟨u,w',h1,hR _ _ h2⟩
theorem zI.ne {e:Ending} (h:zI M ob L w K Kp e w'):e≠ .outgrown:=by
 obtain ⟨_,_,_,_,_,⟨u,v,rfl,_⟩ | ⟨ch,v,rfl,_⟩⟩:=h<;>(intro h;cases h)
theorem cM.mono {f:Fn} {va:Array Value} {R R':Ending->World->Prop} (hR:∀ e w,R e w->R' e w) (h:cM P f va w R):cM P f va w R':=by
 cases f with
 | func f=>exact iF.mono hR h
 | yield l=>
  obtain ⟨f,tmps,as,bd,h1,h2⟩:=h
  exact ⟨f,tmps,as,bd,h1,RoundIn.mono h2 hR⟩
 | _=>exact h.elim
theorem iF.op {f:Fn} {va:Array Value} {o:Oper} {ρ:Operand->Value} {R:Ending->World->Prop} (hne:∀ e w,R e w->e≠ .outgrown) (hx:(execOp ρ o).run P w=(yX f va).run P w) (h:cM P f va w R):mM P o ρ w R:=by
 cases f with
 | func f=>
  rcases h with ⟨h1,h2⟩ | ⟨u,w',h1,h2⟩
  .exact .inr (.inr (.inr (.inl ⟨f,va,w,hx.trans h1,h2.mono fun e w h=>⟨h,hne e w h⟩⟩)))
  .exact .inl ⟨u,w',hx.trans h1,h2⟩
 | yield l=>
  obtain ⟨f,tmps,as,bd,h1,h2⟩:=h
  exact .inr (.inr (.inr (.inr ⟨l,f,tmps,as,bd,w,hx.trans h1,RoundIn.mono h2 fun e w h=>⟨h,hne e w h⟩⟩)))
 | _=>exact h.elim
theorem sQ {ob1:Hs} {g:AVal->AVal} (hg:∀ v a,Rep M ob v a->Rep M' ob1 v (g a)) {vs:List Value} {as:List AVal} (h:cB M ob vs as):cB M' ob1 vs (dC g as):=bR hg h.1 h.2
theorem kG (hm:Mem M ob L w) {f:Fn} {args:List AVal} {va:List Value} {ks:List Nat} {r:Res} {obs':List AObj} (hk:lE ks L=true) (hr:cB M ob va args)
  (h:bM P f (dC (cvtV 0 ks (aE L) 5) args) (gH 0 ks L) r obs'):
  cM P f va.toArray w fun e w'=>∃ M' obK,Ext M ob L w M' (gM ks ob obK) (iJ ks L.length L 0 obs' L) w'/\Mem M' (gM ks ob obK) (iJ ks L.length L 0 obs' L) w'/\oF M' obK e r/\obK.length=obs'.length/\
   ∀ n v a,Rep M' obK v a->Rep M' (gM ks ob obK) v (embV ks L.length L n a):=by
 obtain ⟨c1,_,_⟩:=hm.cvt (n0:=0) hk
 refine cM.mono (fun e w' ⟨M',obK,hx,hm',hend⟩=>?_) (h M _ w va c1 (sQ (fun v a=>hm.cvtV (n0:=0) hk 5 v a) hr))
 obtain ⟨e1,e2,_⟩:=hm.emb hk hx hm'
 exact ⟨M',obK,e2,e1,hend,hm'.len,hm.embV hk hx.hs nY⟩
theorem F3 (hm:Mem M ob obs w) {f:Fn} {args:List AVal} {va:List Value} (hr:cB M ob va args) (h:CallG P f args obs K Kp):cM P f va.toArray w (zI M ob obs w K Kp):=by
 have mono:∀ {M1:Imm},(∀ b o x,M b o x->M1 b o x)->cB M1 ob va args:=fun hM=>⟨hr.1,fun i v a hv ha=>(hr.2 i v a hv ha).monoM hM⟩
 cases h with
 | pure r new h k=>
  obtain ⟨M1,g1,g2,_,g4⟩:=hm.frzL args
  refine cM.mono (fun e w' ⟨M',obK,x1,x2,x3,_,x5⟩=>?_) (kG (ks:=[]) g1 rfl (mono g2.imm) h)
  refine ⟨M',_,_,g2.trans x1,x2,.inl ?_⟩
  rw [bI,<-g4] at k
  cases e with
  | returned u=>exact ⟨u,_,rfl,x5 5 u r x3,k⟩
  | panicked ch=>exact x3.elim
  | outgrown=>exact x3.elim
 | eff fz ks r obs' hk h k=>
  obtain ⟨M1,g1,g2,_,g4⟩:=Mem.frzs fz M obs hm
  refine cM.mono (fun e w' ⟨M',obK,x1,x2,x3,_,x5⟩=>?_) (kG g1 hk (mono g2.imm) h)
  refine ⟨M',_,_,g2.trans x1,x2,.inl ?_⟩
  rw [bI] at k
  cases e with
  | returned u=>exact ⟨u,_,rfl,x5 5 u r x3,k⟩
  | panicked ch=>exact x3.elim
  | outgrown=>exact x3.elim
 | effp fz ks r obs' hk h k=>
  obtain ⟨M1,g1,g2,_,g4⟩:=Mem.frzs fz M obs hm
  refine cM.mono (fun e w' ⟨M',obK,x1,x2,x3,_,x5⟩=>?_) (kG g1 hk (mono g2.imm) h)
  refine ⟨M',_,_,g2.trans x1,x2,.inr ?_⟩
  rw [bI] at k
  cases e with
  | returned u=>exact x3.elim
  | panicked ch=>
   obtain ⟨v,e1,e2⟩:=x3
   exact ⟨ch,_,rfl,⟨v,e1,x5 5 v r e2⟩,k⟩
  | outgrown=>exact x3.elim
 | pan r h k=>
  obtain ⟨M1,g1,g2,_,g4⟩:=hm.frzL args
  refine cM.mono (fun e w' ⟨M',obK,x1,x2,x3,x4,x5⟩=>?_) (kG (ks:=[]) g1 rfl (mono g2.imm) h)
  have h0:obK=[]:=Au (by simpa using x4)
  subst h0
  refine ⟨M',_,_,g2.trans x1,x2,.inr ?_⟩
  cases e with
  | returned u=>exact x3.elim
  | panicked ch=>
   obtain ⟨v,e1,e2⟩:=x3
   exact ⟨ch,r,rfl,⟨v,e1,e2.pure⟩,k⟩
  | outgrown=>exact x3.elim
theorem wC {VS:AVal->List AObj->Prop} {CS:Fn->List AVal->Prop} {PS:AVal->Prop} {obs1:List AObj} {base:Nat} (hb:base=aO obs):∀ {r:OR},Sd VS CS PS obs1 base r->orF P obs K Kp r->
  (∃ v,VS v obs1/\K v obs)\/(∃ k x v,VS v (bK obs1 k x)/\K v (bK obs k x))\/(∃ f args,CS f args/\CallG P f args obs K Kp)\/∃ v,PS v/\Kp v obs
 | .no,_,k=>k.elim
 | .val v,h,k=>.inl ⟨v,h,k⟩
 | .mkf fn fs cs,h,k=>.inl ⟨_,h,k⟩
 | .need p r,h,k=>wC hb (h k.1) k.2
 | .alt p v w,h,k=>by
  rcases k with ⟨hp,k⟩ | k
  .exact .inl ⟨v,h.1 hp,k⟩
  .exact .inl ⟨w,h.2,k⟩
 | .idx n f,h,⟨i,hi,k⟩=>wC hb (h i hi) k
 | .elem xs i f,h,⟨x,hx,k⟩=>wC hb (h x hx) k
 | .byte l i,h,⟨c,hc,k⟩=>.inl ⟨_,h c hc,k⟩
 | .text xs,h,⟨l,hl,hm,k⟩=>.inl ⟨_,h l hl hm,k⟩
 | .find es key f,h,⟨o,ho,k⟩=>by subst ho;exact wC hb (r:=f (bL es key)) h k
 | .born x v,h,k=>.inr (.inl ⟨base,x,v,h,by rw [hb];exact k⟩)
 | .upd i x v,h,k=>.inr (.inl ⟨i,x,v,h,k⟩)
 | .nilq xs neg,⟨b,h1,h2⟩,k=>.inl ⟨_,h2,k b h1⟩
 | .call f args,h,k=>.inr (.inr (.inl ⟨f,args,h,k⟩))
 | .pan v,h,k=>.inr (.inr (.inr ⟨v,h,k⟩))
theorem xB (l:List AObj) (n:Nat):aE (l++Ai n .dead)=aE l:=by
 funext i
 induction l generalizing i with
 | nil=>
  induction n generalizing i with
  | zero=>rfl
  | succ n ih=>
   cases i with
   | zero=>rfl
   | succ i=>have:=ih i;simpa [aE,Ig] using this
 | cons x r ih=>
  cases i with
  | zero=>rfl
  | succ i=>exact ih i
theorem ED (l:List AObj) (x:AObj):∀ k,(k<l.length->bK (l++[.dead]) k x=bK l k x++[.dead])/\(l.length<=k->bK (l++[.dead]) k x=bK l k x):=by
 induction l with
 | nil=>
  intro k
  refine ⟨fun h=>by simp at h,fun _=>?_⟩
  cases k with
  | zero=>rfl
  | succ k=>rfl
 | cons y r ih=>
  intro k
  cases k with
  | zero=>exact ⟨fun _=>rfl,fun h=>by simp at h⟩
  | succ k=>
   obtain ⟨h1,h2⟩:=ih k
   exact ⟨fun h=>by show y::bK (r++[.dead]) k x=y::(bK r k x++[.dead]);rw [h1 (by simpa using h)],fun h=>by show y::bK (r++[.dead]) k x=y::bK r k x;rw [h2 (by simpa using h)]⟩
theorem aBk {k g:Nat} {v:Value} (h:at' (ob++[[]]) k g=some v):at' ob k g=some v:=by
 unfold at' at *
 by_cases hk:k<ob.length
 .rwa [Ah hk] at h
 .rw [Aq (by omega)] at h
  cases hq:([[]]:Hs)[k-ob.length]? with
  | none=>rw [hq] at h;cases h
  | some hs=>
   rw [hq] at h
   have:hs=[]:=by
    have:=Aw hq
    simpa using this
   subst this
   simp at h
theorem oK (hE:EnvOK E) (hm:Mem M ob obs w) {ρv:Operand->Value} {ρ:Operand->AVal} (hρ:∀ x,Rep M ob (ρv x) (ρ x)) {hint:Nat} {p:Oper} (h:orF E.P obs K Kp (eop E hint (aO obs) (aE obs) ρ p.op p.type)):
  mM E.P p ρv w (zI M ob obs w K Kp):=by
 obtain ⟨dst,op,ty,pos,after,gd⟩:=p
 obtain ⟨m1,m2,m3⟩:=hm.extend 1
 have hobl:ob.length=obs.length:=hm.len
 have hb1:(obs++Ai 1 AObj.dead)[aO obs]? =some .dead:=by rw [bI];simp
 have hb2:(ob++Ai 1 ([]:List Value))[aO obs]? =some []:=by rw [bI,<-hobl];simp
 have hs:=tB hE m1 hb1 hb2 (fun x=>(hρ x).mono (fun _ _ _ h=>h) m2.hs) hint op ty
 rw [xB] at hs
 have r1:Ai 1 AObj.dead=[.dead]:=rfl
 -- a value,where no number was taken
 have fin:∀ {v:AVal} {obs':List AObj},obs'.length=obs.length->K v obs'->VS E.P ρv op ty M (ob++Ai 1 []) (obs++Ai 1 .dead) w v (obs'++Ai 1 .dead)->mM E.P ⟨dst,op,ty,pos,after,gd⟩ ρv w (zI M ob obs w K Kp):=by
  intro v obs' hl hk ⟨u,w',M',ob',vs⟩
  have hfree:∀ (i:Nat) hs,obs'.length<=i->ob'[i]? =some hs->hs=[]:=by
   intro i hs hi he
   have hlt:=(Ab.1 he).1
   rw [vs.mem.len] at hlt
   simp at hlt
   obtain rfl:i=aO obs:=by rw [bI];omega
   have:=(vs.still (aO obs) [] hb1 hb2).2 rfl (by rw [bI,<-hl];simp)
   rw [he] at this
   cases this
   rfl
  obtain ⟨s1,s2,s3⟩:=vs.mem.shrink hfree
  have aft:zI M ob obs w K Kp (.returned u) w':=⟨M',_,_,s3 (m2.trans vs.ext) (by omega),s1,.inl ⟨u,v,rfl,vs.rep.monoA s2,hk⟩⟩
  rcases vs.run dst pos after gd with hr | ⟨hr,rfl⟩
  .exact .inl ⟨u,w',hr,aft⟩
  .exact .inr (.inl ⟨w',hr,aft⟩)
 rcases wC (P:=E.P) (K:=K) (Kp:=Kp) rfl hs h with ⟨v,h1,h2⟩ | ⟨k,x,v,h1,h2⟩ | ⟨f,args,⟨va,hva,hx⟩,hk⟩ | ⟨v,⟨u,hr,hrep⟩,hk⟩
 .exact fin rfl h2 h1
 .rw [r1] at h1
  by_cases hk:k<obs.length
  .rw [(ED obs x k).1 hk] at h1
   exact fin (by rw [fS _ hk];simp) h2 h1
  .rw [(ED obs x k).2 (by omega)] at h1
   obtain ⟨u,w',M',ob',vs⟩:=h1
   have aft:zI M ob obs w K Kp (.returned u) w':=⟨M',_,_,m2.trans vs.ext,vs.mem,.inl ⟨u,v,rfl,vs.rep,h2⟩⟩
   rcases vs.run dst pos after gd with hr | ⟨hr,rfl⟩
   .exact .inl ⟨u,w',hr,aft⟩
   .exact .inr (.inl ⟨w',hr,aft⟩)
 .have hva':cB M ob va args:=⟨hva.1,fun i v a hv ha=>(hva.2 i v a hv ha).monoA fun k g v=>aBk⟩
  exact iF.op (fun e w h=>h.ne) (hx dst pos after gd) (F3 hm hva' hk)
 .exact .inr (.inr (.inl ⟨u,w,hr dst pos after gd,M,ob,obs,Ext.refl _ _ _ _,hm,.inr ⟨_,v,rfl,⟨u,rfl,hrep.pure⟩,hk⟩⟩))
end
open Classical
structure AS where
 g:Nat->AVal
 o:Nat->AObj
 br:Nat->Nat->Prop
def fO (g:Nat->AVal) (d:Option Nat) (z:AVal):Nat->AVal:=fun t=>if d=some t then z else g t
def inB (base n k:Nat):Prop:=base<=k/\k<base+n
noncomputable def kR (o:Nat->AObj) (base:Nat) (bs:List AObj):Nat->AObj:=fun k=>if inB base bs.length k then bs.getD (k-base) .dead else o k
noncomputable def AS.upd (s:AS) (i:Nat) (d:Option Nat) (z:AVal) (base:Nat) (bs:List AObj):AS:=⟨fO s.g d z,kR s.o base bs,fun i' k=>s.br i' k\/(i'=i/\inB base bs.length k)⟩
def FA (tab:List Nat) (j:Nat) (br:Nat->Nat->Prop) (k:Nat):Prop:=∃ i,br i k/\cD (cH tab j) i=false
noncomputable def kT (tab:List Nat) (j:Nat) (s:AS):Nat->AObj:=fun k=>if FA tab j s.br k then .dead else s.o k
def evG (tab:List Nat) (all:List Oper) (j:Nat) (g:Nat->AVal):Operand->AVal
 | .tmp t=>bif E8 tab j t 0 all then .undef else g t
 | x=>ev [] x
theorem aAY (tab:List Nat) (all:List Oper) (j:Nat) (fr:List (Nat×AVal)):evH tab all j fr=evG tab all j (aX fr):=by
 funext x
 cases x<;>rfl
def eT (P:Program) (og:Nat->AObj) (base:Nat) (z:AVal) (bs:List AObj):OR->Prop
 | .val v=>z=v/\bs=[]
 | .mkf fn fs cs=>z= .func fn fs cs/\bs=[]
 | .need p r=>p/\eT P og base z bs r
 | .alt p v w=>((p/\z=v)\/z=w)/\bs=[]
 | .idx n f=>∃ i:Nat,n=(i:Int)/\eT P og base z bs (f i)
 | .elem xs i f=>∃ x,xs[i]? =some x/\eT P og base z bs (f x)
 | .byte l i=>∃ c,l[i]? =some c/\z= .int .u8 (c.toNat:Int)/\bs=[]
 | .text xs=>∃ l:List UInt8,xs=l.map ub/\(l.length:Int)<=9223372036854775807/\z= .str l/\bs=[]
 | .find es key f=>eT P og base z bs (f (bL es key))
 | .born x v=>z=v/\bs=[x]
 | .call f args=>∃ r new,bM P f (dC (cvtV 0 [] og 5) args) [] (.ret r) new/\z=embV [] base [] 5 r/\bs=gL base new
 | _=>False
theorem wB {P:Program} {og:Nat->AObj} {VS:AVal->List AObj->Prop} {CS:Fn->List AVal->Prop} {PS:AVal->Prop} {obs1:List AObj} {base' base:Nat} {z:AVal} {bs:List AObj}:∀ {r:OR},Sd VS CS PS obs1 base' r->eT P og base z bs r->
  (VS z obs1/\bs=[])\/(∃ x,VS z (bK obs1 base' x)/\bs=[x])\/∃ f args r0 new,CS f args/\bM P f (dC (cvtV 0 [] og 5) args) [] (.ret r0) new/\z=embV [] base [] 5 r0/\bs=gL base new
 | .no,_,k=>k.elim
 | .val v,h,⟨k1,k2⟩=>.inl ⟨k1▸h,k2⟩
 | .mkf fn fs cs,h,⟨k1,k2⟩=>.inl ⟨k1▸h,k2⟩
 | .need p r,h,k=>wB (h k.1) k.2
 | .alt p v w,h,⟨k1,k2⟩=>by
  rcases k1 with ⟨hp,k⟩ | k
  .exact .inl ⟨k▸h.1 hp,k2⟩
  .exact .inl ⟨k▸h.2,k2⟩
 | .idx n f,h,⟨i,hi,k⟩=>wB (h i hi) k
 | .elem xs i f,h,⟨x,hx,k⟩=>wB (h x hx) k
 | .byte l i,h,⟨c,hc,k1,k2⟩=>.inl ⟨k1▸h c hc,k2⟩
 | .text xs,h,⟨l,hl,hm,k1,k2⟩=>.inl ⟨k1▸h l hl hm,k2⟩
 | .find es key f,h,k=>wB (r:=f (bL es key)) h k
 | .born x v,h,⟨k1,k2⟩=>.inr (.inl ⟨x,k1▸h,k2⟩)
 | .upd i x v,h,k=>k.elim
 | .nilq xs neg,h,k=>k.elim
 | .call f args,h,⟨r,new,k1,k2,k3⟩=>.inr (.inr ⟨f,args,r,new,h,k1,k2,k3⟩)
 | .pan v,h,k=>k.elim
def BW (z:AVal) (k:Nat) (x:AObj):OR->Prop
 | .need p r=>p/\BW z k x r
 | .idx n f=>∃ i:Nat,n=(i:Int)/\BW z k x (f i)
 | .elem xs i f=>∃ y,xs[i]? =some y/\BW z k x (f y)
 | .find es key f=>BW z k x (f (bL es key))
 | .upd k' x' v=>k'=k/\x'=x/\z=v
 | _=>False
theorem qK {VS:AVal->List AObj->Prop} {CS:Fn->List AVal->Prop} {PS:AVal->Prop} {obs1:List AObj} {base:Nat} {z:AVal} {k:Nat} {x:AObj}:∀ {r:OR},Sd VS CS PS obs1 base r->BW z k x r->VS z (bK obs1 k x)
 | .no,_,h=>h.elim
 | .val v,_,h=>h.elim
 | .mkf fn fs cs,_,h=>h.elim
 | .need p r,h,u=>qK (h u.1) u.2
 | .alt p v w,_,h=>h.elim
 | .idx n f,h,⟨i,hi,u⟩=>qK (h i hi) u
 | .elem xs i f,h,⟨y,hy,u⟩=>qK (h y hy) u
 | .byte l i,_,h=>h.elim
 | .text xs,_,h=>h.elim
 | .find es key f,h,u=>qK (r:=f (bL es key)) h u
 | .born x v,_,h=>h.elim
 | .upd i y v,h,⟨e1,e2,e3⟩=>by subst e1 e2 e3;exact h
 | .nilq xs neg,_,h=>h.elim
 | .call f args,_,h=>h.elim
 | .pan v,_,h=>h.elim
theorem jT {P:Program} {og:Nat->AObj} {b base hint sz:Nat} {e:TypeId} {xs:List AVal} {z:AVal}:¬ eT P og b z [] (mG hint base sz e xs):=by
 unfold mG
 split<;>(intro h;have:=h.2;cases this)
theorem FT {P:Program} {og:Nat->AObj} {b:Nat} {c:Bool} {r:OR} {z:AVal} {bs:List AObj} (h:eT P og b z bs (bif c then r else .no)):eT P og b z bs r:=by
 cases c with
 | true=>exact h
 | false=>exact h.elim
theorem M9 {P:Program} {E:Env} {og:Nat->AObj} {b base base' hint:Nat} {ρ:Operand->AVal} {op:Op} {ty:TypeId} {z:AVal}:eT P og b z [] (jM E hint base og ρ op ty)->eT P og b z [] (jM E hint base' og ρ op ty):=by
 have app:∀ (t t2:Nat) (x y:AVal),eT P og b z [] (oV E hint base og t t2 x y)->eT P og b z [] (oV E hint base' og t t2 x y):=by
  intro t t2 x y
  unfold oV
  split
  .rename_i e esz eb _ _ _ _
   cases Ea 1 esz with
   | false=>exact id
   | true=>
    simp only [cond_true]
    split
    .exact id
    .split
     .split
      .exact id
      .rename_i sz _ _
       cases Ar sz esz with
       | false=>exact id
       | true=>exact fun h=>(jT h.2).elim
      .rename_i sz _ _
       cases Ar sz esz with
       | false=>exact id
       | true=>
             intro h
             refine ⟨h.1,?_⟩
             have h2:=h.2
             clear h
             cases hint with
             | zero=>exact h2
             | succ n=>exact (jT h2.2).elim
      .exact id
     .exact fun h=>(jT h.2).elim
     .exact id
     .exact id
     .exact id
  .exact id
 cases op
 case assign x=>
  simp only [jM]
  split
  .exact id
  .split
   .split
    .split
     .split
      .exact fun h=>(jT (FT h)).elim
      .exact id
     .exact id
    .exact id
   .exact id
 case alloc t=>
  simp only [jM]
  split
  .rename_i ti _
   cases lS ti.zero.cells with
   | false=>exact id
   | true=>intro h;have:=h.2;cases this
  .exact id
 case box t x=>
  simp only [jM]
  cases lS (ρ x).cells with
  | false=>exact id
  | true=>intro h;have:=h.2;cases this
 case buildSlice t n ps=>
  simp only [jM]
  unfold kD
  split
  .rename_i e esz _ _ _ _ _
   cases (Ar (QG (evL ρ ps.toList)) n&&Ea (n*esz) 1000&&Ea 1 esz) with
   | false=>exact id
   | true=>
    simp only [cond_true]
    split
    .split
     .exact id
     .exact fun h=>(jT h).elim
    .exact id
  .exact id
 case makeSlice t x y=>
  simp only [jM]
  unfold K0
  split
  .split
   .rename_i te _
    intro h
    cases hq:(Ea 1 _&&xD (pureV (fun _=>.dead) 4 te.zero)) with
    | false=>rw [hq] at h;exact h.elim
    | true=>
     rw [hq] at h
     obtain ⟨i,_,_,h⟩:=h
     have:=h.2
     cases this
   .exact id
  .exact id
 case makeMap t x=>
  cases x with
  | some x=>exact id
  | none=>
   simp only [jM]
   split
   .split
    .intro h;have:=h.2;cases this
    .exact id
   .exact id
 case call c=>
  obtain ⟨callee,args,tys⟩:=c
  cases callee with
  | value f=>exact id
  | invoke r n=>exact id
  | builtin bt=>
   simp only [jM]
   split
   .exact id
   .exact id
   .exact id
   .exact app _ _ _ _
   .exact id
   .exact id
   .exact id
   .exact id
 all_goals exact id
theorem XT {P:Program} {og:Nat->AObj} {b:Nat} {z:AVal} {n:Int} {p:Nat->Prop} {x:Nat->AObj} {v:AVal}:¬ eT P og b z [] (.idx n fun y=>.need (p y) (.born (x y) v)):=by
 rintro ⟨i,_,_,h⟩
 have:=h.2
 cases this
theorem S4 {P:Program} {E:Env} {og:Nat->AObj} {b base base' hint:Nat} {ρ:Operand->AVal} {op:Op} {ty:TypeId} {z:AVal}:eT P og b z [] (eop E hint base og ρ op ty)->eT P og b z [] (eop E hint base' og ρ op ty):=by
 unfold eop
 have main:(∃ r,iS E hint base og ρ op=some r/\iS E hint base' og ρ op=some r)\/(iS E hint base og ρ op=none/\iS E hint base' og ρ op=none)\/∃ r,iS E hint base og ρ op=some r/\¬ eT P og b z [] r:=by
  have same:∀ {o:Option OR},iS E hint base og ρ op=o->iS E hint base' og ρ op=o->(∃ r,iS E hint base og ρ op=some r/\iS E hint base' og ρ op=some r)\/(iS E hint base og ρ op=none/\iS E hint base' og ρ op=none)\/∃ r,iS E hint base og ρ op=some r/\¬ eT P og b z [] r:=fun {o} h1 h2=>by
   cases o with
   | none=>exact .inr (.inl ⟨h1,h2⟩)
   | some r=>exact .inl ⟨r,h1,h2⟩
  cases op with
  | call c=>
   obtain ⟨callee,args,tys⟩:=c
   cases callee with
   | value f=>exact same rfl rfl
   | invoke r n=>exact same rfl rfl
   | builtin bt=>
    cases bt with
    | append=>
     simp only [iS]
     split
     .split
      .refine .inr (.inr ⟨_,rfl,?_⟩)
       unfold KZ
       split
       .split
        .intro h
         exact XT (FT h)
        .exact fun h=>h.elim
       .exact fun h=>h.elim
      .exact .inr (.inl ⟨rfl,rfl⟩)
     .exact .inr (.inl ⟨rfl,rfl⟩)
    | _=>exact same rfl rfl
  | slice t x lo hi mx=>cases lo<;>cases hi<;>cases mx<;>exact same rfl rfl
  | _=>exact same rfl rfl
 rcases main with ⟨r,h1,h2⟩ | ⟨h1,h2⟩ | ⟨r,h1,h2⟩
 .rw [h1,h2];exact id
 .rw [h1,h2];exact M9
 .rw [h1];exact fun h=>(h2 h).elim
def uU:List AObj->Nat->List AObj->List AObj
 | obs,_,[]=>obs
 | obs,base,x::r=>uU (bK obs base x) (base+1) r
theorem BA (base:Nat) (seen:List AObj):∀ (new:List AObj) (j:Nat) (obs:List AObj),iJ [] base seen j new obs=uU obs (base+j) (gL base new)
 | [],j,obs=>rfl
 | x::r,j,obs=>by
  have e:dA [] base j=base+j:=by rw [fX (Bm _)];rfl
  have e2:nX [] base seen j x=nX [] base [] 0 x:=by cases x<;>simp only [nX,yG,FP base seen]
  simp only [iJ,gL,Cn,uU]
  rw [BA base seen r (j+1),e,e2]
  rfl
theorem nO {P:Program} {uo bl:Bool} {seen obs:List AObj} {base:Nat} {K Kp:AVal->List AObj->Prop}:∀ {r:OR},orD P false uo bl seen obs base K Kp r->
  (∃ z bs,(bl=true->bs=[])/\eT P (aE seen) base z bs r/\K z (uU obs base bs))\/∃ z k x,uo=true/\aE seen k≠ .dead/\BW z k x r/\K z (bK obs k x)
 | .no,k=>k.elim
 | .val v,k=>.inl ⟨v,[],fun _=>rfl,⟨rfl,rfl⟩,k⟩
 | .mkf fn fs cs,k=>.inl ⟨_,[],fun _=>rfl,⟨rfl,rfl⟩,k⟩
 | .need p r,⟨hp,k⟩=>by
  rcases nO k with ⟨z,bs,h0,h1,h2⟩ | ⟨z,k',x,h0,h1,h2,h3⟩
  .exact .inl ⟨z,bs,h0,⟨hp,h1⟩,h2⟩
  .exact .inr ⟨z,k',x,h0,h1,⟨hp,h2⟩,h3⟩
 | .alt p v w,k=>by
  rcases k with ⟨hp,k⟩ | k
  .exact .inl ⟨v,[],fun _=>rfl,⟨.inl ⟨hp,rfl⟩,rfl⟩,k⟩
  .exact .inl ⟨w,[],fun _=>rfl,⟨.inr rfl,rfl⟩,k⟩
 | .idx n f,⟨i,hi,k⟩=>by
  rcases nO k with ⟨z,bs,h0,h1,h2⟩ | ⟨z,k',x,h0,h1,h2,h3⟩
  .exact .inl ⟨z,bs,h0,⟨i,hi,h1⟩,h2⟩
  .exact .inr ⟨z,k',x,h0,h1,⟨i,hi,h2⟩,h3⟩
 | .elem xs i f,⟨y,hy,k⟩=>by
  rcases nO k with ⟨z,bs,h0,h1,h2⟩ | ⟨z,k',x,h0,h1,h2,h3⟩
  .exact .inl ⟨z,bs,h0,⟨y,hy,h1⟩,h2⟩
  .exact .inr ⟨z,k',x,h0,h1,⟨y,hy,h2⟩,h3⟩
 | .byte l i,⟨c,hc,k⟩=>.inl ⟨_,[],fun _=>rfl,⟨c,hc,rfl,rfl⟩,k⟩
 | .text xs,⟨l,hl,hm,k⟩=>.inl ⟨_,[],fun _=>rfl,⟨l,hl,hm,rfl,rfl⟩,k⟩
 | .find es key f,⟨o,ho,k⟩=>by
  subst ho
  rcases nO k with ⟨z,bs,h0,h1,h2⟩ | ⟨z,k',x,h0,h1,h2,h3⟩
  .exact .inl ⟨z,bs,h0,h1,h2⟩
  .exact .inr ⟨z,k',x,h0,h1,h2,h3⟩
 | .born x v,k=>by
  cases bl with
  | true=>exact k.elim
  | false=>exact .inl ⟨v,[x],(fun h=>nomatch h),⟨rfl,rfl⟩,k⟩
 | .upd i x v,k=>by
  simp only [orD,Ji] at k
  split at k
  .rename_i h
   obtain ⟨h1,h2⟩:=aS h
   exact .inr ⟨v,i,x,h1,(fun e=>by rw [e] at h2;cases h2),⟨rfl,rfl,rfl⟩,k⟩
  .exact k.elim
 | .nilq xs neg,k=>k.elim
 | .call f args,k=>by
  cases bl with
  | true=>exact k.elim
  | false=>
   have k:CallD P f args false seen base obs K Kp:=k
   cases k with
   | pure r new h k=>exact .inl ⟨_,_,(fun h=>nomatch h),⟨r,new,h,rfl,rfl⟩,by rw [BA,Dk] at k;rw [FP] at k;exact k⟩
   | sole h=>cases h
 | .pan v,k=>k.elim
section
variable {P:Program} {E:Env} {M:Imm} {ob:Hs} {L:List AObj} {w:World}
theorem dQ (l:List AObj) (k:Nat):(k<l.length/\l[k]? =some (aE l k))\/(l.length<=k/\l[k]? =none/\aE l k= .dead):=by
 by_cases h:k<l.length
 .exact .inl ⟨h,qZ h⟩
 .refine .inr ⟨by omega,Bf (by omega),?_⟩
  cases hq:aE l k with
  | dead=>rfl
  | _=>exact absurd (Ab.1 (bP hq (by simp))).1 h
noncomputable def cU (hid:Nat->Prop) (L:List AObj):List AObj:=(Dc L.length).map fun k=>if hid k then .dead else aE L k
theorem AG {hid:Nat->Prop} {k:Nat} (h:k<L.length):(cU hid L)[k]? =some (if hid k then .dead else aE L k):=by
 simp [cU,Cm h]
theorem dG {hid:Nat->Prop}:(cU hid L).length=L.length:=by simp [cU]
theorem fB {hid:Nat->Prop}:IU (cU hid L) L:=⟨dG,fun k=>by
 rcases dQ L k with ⟨h,e⟩ | ⟨h,e,_⟩
 .rw [AG h,e]
  by_cases hk:hid k
  .right;rw [if_pos hk]
  .left;rw [if_neg hk]
 .left;rw [e,Bf (by rw [dG];omega)]⟩
theorem eK {hid:Nat->Prop}:aE (cU hid L)=fun k=>if hid k then .dead else aE L k:=by
 funext k
 rcases dQ L k with ⟨h,e⟩ | ⟨h,e,e2⟩
 .exact eR (AG h)
 .rcases dQ (cU hid L) k with ⟨h',_⟩ | ⟨_,_,e3⟩
  .rw [dG] at h';omega
  .rw [e3,e2];split<;>rfl
def IY (M:Imm) (ob:Hs) (L:List AObj) (w:World) (z:AVal) (base:Nat) (bs:List AObj) (e:Ending) (w':World):Prop:=
 ∃ M' ob' L' u,e= .returned u/\Ext M ob L w M' ob' L' w'/\Mem M' ob' L' w'/\aE L'=kR (aE L) base bs/\L.length<=L'.length/\Rep M' ob' u z/\∀ (k:Nat),¬ inB base bs.length k->(∀ hs,ob[k]? =some hs->hs=[])->∀ hs,ob'[k]? =some hs->hs=[]
theorem aBa (hE:EnvOK E) (hm:Mem M ob L w) {hid:Nat->Prop} {ρv:Operand->Value} {ρ:Operand->AVal} (hρ:∀ x,Rep M ob (ρv x) (ρ x)) {hint base:Nat} {p:Oper} {z:AVal} {bs:List AObj}
  (hfree:∀ (k:Nat),inB base bs.length k->∀ hs,ob[k]? =some hs->hs=[])
  (h:eT E.P (aE (cU hid L)) base z bs (eop E hint base (aE (cU hid L)) ρ p.op p.type)):mM E.P p ρv w (IY M ob L w z base bs):=by
 obtain ⟨dst,op,ty,pos,after,gd⟩:=p
 -- room
 obtain ⟨n,hn⟩:∃ n,base+bs.length+1<=L.length+n/\0<n:=⟨base+bs.length+1,by omega,by omega⟩
 obtain ⟨hn,hn0⟩:=hn
 obtain ⟨m1,m2,m3⟩:=hm.extend n
 have hlen1:(L++Ai n AObj.dead).length=L.length+n:=by simp
 have hob1:(ob++Ai n ([]:List Value)).length=L.length+n:=by simp [hm.len]
 generalize hL1:L++Ai n AObj.dead=L1 at m1 m2 m3 hlen1
 generalize hO1:ob++Ai n ([]:List Value)=ob1 at m1 m2 m3 hob1
 have hg1:aE L1=aE L:=by rw [<-hL1];exact xB L n
 have hfree1:∀ k,(∀ hs,ob[k]? =some hs->hs=[])->k<L1.length->ob1[k]? =some []:=fun k hk hlt=>by
  rw [<-hO1]
  by_cases hkl:k<ob.length
  .rw [Ah hkl,Ac hkl,hk _ (Ac hkl)]
  .rw [Aq (by omega),Dz,if_pos (by rw [hm.len] at hkl⊢;omega)]
 have hseen:aE (cU hid L1)=aE (cU hid L):=by rw [eK,eK,hg1]
 -- where it would be born
 obtain ⟨base',hbase,hbb,hlt0,h⟩:∃ base',ob1[base']? =some []/\(bs≠[]->base'=base)/\base'<L1.length/\eT E.P (aE (cU hid L)) base z bs (eop E hint base' (aE (cU hid L)) ρ op ty):=by
  by_cases hbs:bs=[]
  .subst hbs
   exact ⟨L.length,hfree1 _ (fun hs he=>by have:=(Ab.1 he).1;rw [hm.len] at this;omega) (by omega),fun h=>absurd rfl h,by omega,S4 h⟩
  .have hpos:0<bs.length:=by cases bs<;>simp at hbs⊢
   exact ⟨base,hfree1 base (hfree base ⟨Bc _,by omega⟩) (by omega),fun _=>rfl,by omega,h⟩
 have mw:=m1.weak (fB (hid:=hid))
 have hb1:(cU hid L1)[base']? =some .dead:=mw.idle hbase
 have hs:=tB hE mw hb1 hbase (fun x=>(hρ x).mono (fun _ _ _ h=>h) m2.hs) hint op ty
 rw [hseen] at hs
 have live:∀ {k:Nat} {c:AObj},L1[k]? =some c->(cU hid L1)[k]? =some c\/((cU hid L1)[k]? =some .dead/\(∃ hs,ob1[k]? =some hs/\hs≠[])/\L1[k]? =some c):=fun {k c} hc=>by
  rcases (fB (hid:=hid) (L:=L1)).2 k with q | q
  .left;rw [q];exact hc
  .by_cases hd:c= .dead
   .left;rw [q,hd]
   .right;exact ⟨q,m1.live hc hd,hc⟩
 have fin:∀ {u:Value} {w':World},IY M ob L w z base bs (.returned u) w'->((execOp ρv ⟨dst,op,ty,pos,after,gd⟩).run E.P w= .ok (.value u) w'\/((execOp ρv ⟨dst,op,ty,pos,after,gd⟩).run E.P w= .ok .skip w'/\u=undef))->mM E.P ⟨dst,op,ty,pos,after,gd⟩ ρv w (IY M ob L w z base bs):=by
  intro u w' ha hr
  rcases hr with hr | ⟨hr,rfl⟩
  .exact .inl ⟨u,w',hr,ha⟩
  .exact .inr (.inl ⟨w',hr,ha⟩)
 rcases wB (P:=E.P) hs h with ⟨⟨u,w',M',ob',vs⟩,rfl⟩ | ⟨x,⟨u,w',M',ob',vs⟩,rfl⟩ | ⟨f,args,r0,new,⟨va,hva,hx⟩,hok,rfl,rfl⟩
 .obtain ⟨v1,v2,v3⟩:=m1.revive (obs':=L1) (fB (hid:=hid)) vs.ext vs.still vs.mem (by rw [dG]) fun k c hc=>live hc
  refine fin ⟨M',ob',L1,u,rfl,m2.trans v2,v1,?_,by omega,vs.rep,fun k hk hf hs he=>?_⟩ (vs.run dst pos after gd)
  .rw [hg1]
   funext k
   unfold kR
   rw [if_neg fun h=>by have:=h.2;have:=h.1;simp at *;omega]
  .have hlt:k<L1.length:=by rw [<-v1.len];exact (Ab.1 he).1
   have e:=hfree1 k hf hlt
   have hd:=m1.idle e
   have:=(v3 k [] hd e).2 rfl hd
   rw [he] at this
   cases this
   rfl
 .obtain rfl:base=base':=(hbb (by simp)).symm
  have hput1:bK L1 base x=L1.set base x:=fS x hlt0
  have hput2:bK (cU hid L1) base x=(cU hid L1).set base x:=fS x (by rw [dG];exact hlt0)
  obtain ⟨v1,v2,v3⟩:=m1.revive (obs':=bK L1 base x) (fB (hid:=hid)) vs.ext vs.still vs.mem (by rw [hput1,hput2];simp [dG]) fun k c hc=>by
   by_cases hk:k=base
   .subst hk
    left
    rw [hput1,Ax hlt0] at hc
    rw [hput2,Ax (by rw [dG];exact hlt0)]
    exact hc
   .rw [hput1,Bd (Ds hk)] at hc
    rw [hput2,Bd (Ds hk)]
    exact live hc
  refine fin ⟨M',ob',bK L1 base x,u,rfl,m2.trans v2,v1,?_,by rw [hput1];simp;omega,vs.rep,fun k hk hf hs he=>?_⟩ (vs.run dst pos after gd)
  .funext k
   unfold kR
   by_cases hk:k=base
   .subst hk
    rw [if_pos ⟨Bc _,by simp⟩,hput1]
    rw [eR (Ax hlt0)]
    simp
   .rw [if_neg fun h=>hk (by have h1:=h.1;have h2:=h.2;simp at h2;omega),<-hg1,hput1]
    rcases dQ L1 k with ⟨h1,e1⟩ | ⟨h1,e1,e2⟩
    .exact eR (by rw [Bd (Ds hk)];exact e1)
    .rcases dQ (L1.set base x) k with ⟨h3,_⟩ | ⟨_,_,e3⟩
     .simp at h3;omega
     .rw [e3,e2]
  .have hkb:k≠base:=fun e=>hk ⟨by omega,by simp;omega⟩
   have hlt:k<L1.length:=by
    have:=(Ab.1 he).1
    rw [v1.len,hput1] at this
    simpa using this
   have e:=hfree1 k hf hlt
   have hd:=m1.idle e
   have:=(v3 k [] hd e).2 rfl (by rw [hput1,Bd (Ds hkb)];exact hd)
   rw [he] at this
   cases this
   rfl
 .rw [<-hseen] at hok
  have hargs:=sQ (fun v a=>mw.cvtV (n0:=0) (ks:=[]) rfl 5 v a) hva
  have hnl:(gL base new).length=new.length:=by simp [gL]
  refine iF.op (fun e w ⟨_,_,_,u,he,_⟩=>by rw [he];intro h;cases h) (hx dst pos after gd) (cM.mono (fun e w' ⟨M',obK,x1,x2,x3⟩=>?_) (hok M [] w va m1.bare hargs))
  have hin:∀ j,j<new.length->ob1[base+j]? =some []:=fun j hj=>hfree1 _ (hfree _ ⟨by omega,by rw [hnl];omega⟩) (by omega)
  obtain ⟨e1,e2,e3⟩:=m1.emb0 (by rw [hnl] at hn;omega) hin x1 x2
  obtain ⟨q1,q2⟩:=dX L1 (gL base new) base (by rw [hnl] at hn⊢;omega)
  obtain ⟨p1,p2⟩:=dX ob1 obK base (by rw [x2.len];rw [hnl] at hn;omega)
  cases e with
  | panicked ch=>exact x3.elim
  | outgrown=>exact x3.elim
  | returned u=>
   refine ⟨M',_,_,u,rfl,m2.trans e2,e1,?_,by rw [q1];omega,e3 5 u r0 x3,fun k hk hf hs he=>?_⟩
   .funext k
    unfold kR
    by_cases hk:inB base (gL base new).length k
    .rw [if_pos hk]
     have hlt:k-base<(gL base new).length:=by have:=hk.1;have:=hk.2;omega
     refine eR ?_
     rw [q2,if_pos (show base<=k/\k<base+(gL base new).length from hk),Iw,Ac hlt]
     rfl
    .rw [if_neg hk,<-hg1]
     rcases dQ L1 k with ⟨h1,e1⟩ | ⟨h1,e1,e2⟩
     .exact eR (by rw [q2,if_neg (show ¬ (base<=k/\k<base+(gL base new).length) from hk)];exact e1)
     .rcases dQ (L1.take base++gL base new++L1.drop (base+(gL base new).length)) k with ⟨h3,_⟩ | ⟨_,_,e3⟩
      .rw [q1] at h3;omega
      .rw [e3,e2]
   .rw [p2,if_neg (show ¬ (base<=k/\k<base+obK.length) from by rw [x2.len,<-hnl];exact hk)] at he
    have hlt:k<L1.length:=by rw [<-m1.len];exact (Ab.1 he).1
    rw [hfree1 k hf hlt] at he
    cases he
    rfl
def UJ (M:Imm) (ob:Hs) (L:List AObj) (w:World) (z:AVal) (k:Nat) (x:AObj) (e:Ending) (w':World):Prop:=
 ∃ M' ob' L' u,e= .returned u/\Ext M ob L w M' ob' L' w'/\Mem M' ob' L' w'/\(aE L'=fun k'=>if k'=k then x else aE L k')/\L.length<=L'.length/\Rep M' ob' u z/\∀ (k':Nat),(∀ hs,ob[k']? =some hs->hs=[])->∀ hs,ob'[k']? =some hs->hs=[]
theorem YB (hE:EnvOK E) (hm:Mem M ob L w) {hid:Nat->Prop} {ρv:Operand->Value} {ρ:Operand->AVal} (hρ:∀ x,Rep M ob (ρv x) (ρ x)) {hint base:Nat} {p:Oper} {z:AVal} {k:Nat} {x:AObj}
  (hfree:∀ hs,ob[base]? =some hs->hs=[]) (hk:aE (cU hid L) k≠ .dead) (h:BW z k x (eop E hint base (aE (cU hid L)) ρ p.op p.type)):mM E.P p ρv w (UJ M ob L w z k x):=by
 obtain ⟨dst,op,ty,pos,after,gd⟩:=p
 obtain ⟨n,hn,hn0⟩:∃ n,base+1<=L.length+n/\0<n:=⟨base+1,by omega,by omega⟩
 obtain ⟨m1,m2,m3⟩:=hm.extend n
 have hlen1:(L++Ai n AObj.dead).length=L.length+n:=by simp
 have hob1:(ob++Ai n ([]:List Value)).length=L.length+n:=by simp [hm.len]
 generalize hL1:L++Ai n AObj.dead=L1 at m1 m2 m3 hlen1
 generalize hO1:ob++Ai n ([]:List Value)=ob1 at m1 m2 m3 hob1
 have hg1:aE L1=aE L:=by rw [<-hL1];exact xB L n
 have hfree1:∀ k,(∀ hs,ob[k]? =some hs->hs=[])->k<L1.length->ob1[k]? =some []:=fun k hk hlt=>by
  rw [<-hO1]
  by_cases hkl:k<ob.length
  .rw [Ah hkl,Ac hkl,hk _ (Ac hkl)]
  .rw [Aq (by omega),Dz,if_pos (by rw [hm.len] at hkl⊢;omega)]
 have hseen:aE (cU hid L1)=aE (cU hid L):=by rw [eK,eK,hg1]
 have hbase:=hfree1 base hfree (by omega)
 have mw:=m1.weak (fB (hid:=hid))
 have hb1:(cU hid L1)[base]? =some .dead:=mw.idle hbase
 have hs:=tB hE mw hb1 hbase (fun x=>(hρ x).mono (fun _ _ _ h=>h) m2.hs) hint op ty
 rw [hseen] at hs
 have live:∀ {k:Nat} {c:AObj},L1[k]? =some c->(cU hid L1)[k]? =some c\/((cU hid L1)[k]? =some .dead/\(∃ hs,ob1[k]? =some hs/\hs≠[])/\L1[k]? =some c):=fun {k c} hc=>by
  rcases (fB (hid:=hid) (L:=L1)).2 k with q | q
  .left;rw [q];exact hc
  .by_cases hd:c= .dead
   .left;rw [q,hd]
   .right;exact ⟨q,m1.live hc hd,hc⟩
 have hkl:k<L1.length:=by
  have:=bP (l:=cU hid L1) (n:=k) rfl (by rw [hseen];exact hk)
  have:=(Ab.1 this).1
  rwa [dG] at this
 obtain ⟨u,w',M',ob',vs⟩:=qK hs h
 have hput2:bK (cU hid L1) k x=(cU hid L1).set k x:=fS x (by rw [dG];exact hkl)
 obtain ⟨v1,v2,v3⟩:=m1.revive (obs':=L1.set k x) (fB (hid:=hid)) vs.ext vs.still vs.mem (by rw [hput2];simp [dG]) fun k' c hc=>by
  by_cases hkk:k'=k
  .subst hkk
   left
   rw [Ax hkl] at hc
   rw [hput2,Ax (by rw [dG];exact hkl)]
   exact hc
  .rw [Bd (Ds hkk)] at hc
   rw [hput2,Bd (Ds hkk)]
   exact live hc
 have aft:UJ M ob L w z k x (.returned u) w':=by
  refine ⟨M',ob',L1.set k x,u,rfl,m2.trans v2,v1,?_,by simp;omega,vs.rep,fun k' hf hs he=>?_⟩
  .funext k'
   by_cases hkk:k'=k
   .subst hkk
    rw [if_pos rfl]
    exact eR (Ax hkl)
   .rw [if_neg hkk,<-hg1]
    rcases dQ L1 k' with ⟨h1,e1⟩ | ⟨h1,e1,e2⟩
    .exact eR (by rw [Bd (Ds hkk)];exact e1)
    .rcases dQ (L1.set k x) k' with ⟨h3,_⟩ | ⟨_,_,e3⟩
     .simp at h3;omega
     .rw [e3,e2]
  .have hlt:k'<L1.length:=by
    have:=(Ab.1 he).1
    rw [v1.len] at this
    simpa using this
   have e:=hfree1 k' hf hlt
   have hd:=m1.idle e
   have hkk:k'≠k:=fun e2=>by
    subst e2
    refine hk ?_
    rw [<-hseen,eK]
    dsimp only
    split
    .rfl
    .exact eR hd
   have:=(v3 k' [] hd e).2 rfl (by rw [Bd (Ds hkk)];exact hd)
   rw [he] at this
   cases this
   rfl
 rcases vs.run dst pos after gd with hr | ⟨hr,rfl⟩
 .exact .inl ⟨u,w',hr,aft⟩
 .exact .inr (.inl ⟨w',hr,aft⟩)
end
noncomputable def iX (E:Env) (tab:List Nat) (i:Nat) (d:Option Nat) (s:AS):Nat->AObj:=if blD E d=true then fun _=>.dead else kT tab i s
def Y (E:Env) (all:List Oper) (tab:List Nat) (L0 i:Nat) (p:Oper) (s:AS) (z:AVal) (base:Nat) (bs:List AObj):Prop:=
 L0<=base/\(blD E p.dst=true->bs=[])/\((bZ all (evG tab all i s.g) p.guard=some false/\z= .tup []/\bs=[])\/
  (bZ all (evG tab all i s.g) p.guard=some true/\eT E.P (iX E tab i p.dst s) base z bs (eop E (cP E p.dst) base (iX E tab i p.dst s) (evG tab all i s.g) p.op p.type)))
def fresh (s:AS) (base:Nat) (bs:List AObj):Prop:=∀ k,inB base bs.length k->∀ i,¬ s.br i k
def WF (L0:Nat) (s:AS):Prop:=∀ k,L0<=k->(∀ i,¬ s.br i k)->s.o k= .dead
def nOp (E:Env) (all:List Oper) (tab:List Nat) (L0 i:Nat) (p:Oper) (K:AS->Prop) (s:AS):Prop:=
 ∃ z base bs,Y E all tab L0 i p s z base bs/\fresh s base bs/\K (s.upd i p.dst z base bs)
section
variable {E:Env} {all:List Oper} {tab:List Nat} {L0:Nat}
theorem AX {j i t:Nat} {q:Oper}:∀ {l:List Oper} {n:Nat},l[i]? =some q->q.dst=some t->loose tab (n+i) j=true->E8 tab j t n l=true
 | [],n,h,_,_=>by simp at h
 | x::r,n,h,hd,hl=>by
  cases i with
  | zero=>
   simp at h
   subst h
   rw [Dk] at hl
   simp [E8,hd,hl]
  | succ i=>
   have:=AX (l:=r) (n:=n+1) (i:=i) (q:=q) (by simpa using h) hd (by rw [show n+1+i=n+(i+1) from by omega];exact hl)
   simp [E8,this]
theorem lB {i j:Nat}:loose tab i j=true↔i≠j/\cD (cH tab j) i=false/\cD (cH tab i) j=false:=by
 simp only [loose,Ad,Cb]
 constructor
 .rintro ⟨⟨h1,h2⟩,h3⟩
  exact ⟨fun e=>by subst e;simp at h1,h2,h3⟩
 .rintro ⟨h1,h2,h3⟩
  exact ⟨⟨tJ h1,h2⟩,h3⟩
theorem lW {i j:Nat} (h:loose tab i j=true):loose tab j i=true:=by
 obtain ⟨h1,h2,h3⟩:=lB.1 h
 exact lB.2 ⟨Ds h1,h3,h2⟩
theorem CN {i j:Nat} {q:Oper} (hq:all[j]? =some q) (hl:loose tab j i=true) (g:Nat->AVal) (z:AVal):evG tab all i (fO g q.dst z)=evG tab all i g:=by
 funext x
 cases x with
 | tmp t=>
  simp only [evG]
  cases hh:E8 tab i t 0 all with
  | true=>rfl
  | false=>
   simp only [cond_false,fO]
   rw [if_neg]
   intro e
   have:=AX (l:=all) (n:=0) hq e (by rw [Bk];exact hl)
   rw [hh] at this
   cases this
 | _=>rfl
theorem LR {i j:Nat} (hl:loose tab j i=true) {s:AS} (hw:WF L0 s) {d:Option Nat} {z:AVal} {base:Nat} {bs:List AObj} (hb:L0<=base) (hf:fresh s base bs):kT tab i (s.upd j d z base bs)=kT tab i s:=by
 obtain ⟨_,h2,_⟩:=lB.1 hl
 funext k
 unfold kT
 by_cases hk:inB base bs.length k
 .have h1:FA tab i (s.upd j d z base bs).br k:=⟨j,.inr ⟨rfl,hk⟩,h2⟩
  rw [if_pos h1]
  have h0:=hw k (Cx hb hk.1) (hf k hk)
  split
  .rfl
  .exact h0.symm
 .have e1:(s.upd j d z base bs).o k=s.o k:=by
   show kR s.o base bs k=s.o k
   unfold kR
   rw [if_neg hk]
  have e2:FA tab i (s.upd j d z base bs).br k↔FA tab i s.br k:=by
   constructor
   .rintro ⟨i',h | ⟨_,h⟩,ht⟩
    .exact ⟨i',h,ht⟩
    .exact absurd h hk
   .rintro ⟨i',h,ht⟩
    exact ⟨i',.inl h,ht⟩
  rw [e1]
  by_cases hh:FA tab i s.br k
  .rw [if_pos hh,if_pos (e2.2 hh)]
  .rw [if_neg hh,if_neg fun h=>hh (e2.1 h)]
theorem ZR {i j:Nat} {p q:Oper} (hq:all[j]? =some q) (hl:loose tab j i=true) {s:AS} (hw:WF L0 s) {z':AVal} {base':Nat} {bs':List AObj} (hb:L0<=base') (hf:fresh s base' bs') {z:AVal} {base:Nat} {bs:List AObj}:
  Y E all tab L0 i p (s.upd j q.dst z' base' bs') z base bs↔Y E all tab L0 i p s z base bs:=by
 have e1:evG tab all i (s.upd j q.dst z' base' bs').g=evG tab all i s.g:=CN hq hl s.g z'
 have e2:iX E tab i p.dst (s.upd j q.dst z' base' bs')=iX E tab i p.dst s:=by
  unfold iX
  rw [LR hl hw hb hf]
 unfold Y
 rw [e1,e2]
theorem WF.upd {i:Nat} {s:AS} (hw:WF L0 s) {d:Option Nat} {z:AVal} {base:Nat} {bs:List AObj}:WF L0 (s.upd i d z base bs):=fun k hk hn=>by
 have h1:¬ inB base bs.length k:=fun h=>hn i (.inr ⟨rfl,h⟩)
 show kR s.o base bs k= .dead
 unfold kR
 rw [if_neg h1]
 exact hw k hk fun i' h=>hn i' (.inl h)
theorem N5 {s:AS} {i j:Nat} {d d':Option Nat} {z z':AVal} {base base':Nat} {bs bs':List AObj} (hd:∀ t,d=some t->d'≠some t) (hdis:∀ k,inB base bs.length k->¬ inB base' bs'.length k):
  (s.upd i d z base bs).upd j d' z' base' bs'=(s.upd j d' z' base' bs').upd i d z base bs:=by
 have e1:fO (fO s.g d z) d' z'=fO (fO s.g d' z') d z:=by
  funext t
  simp only [fO]
  by_cases h1:d=some t
  .rw [if_neg (hd t h1),if_pos h1,if_pos h1]
  .rw [if_neg h1,if_neg h1]
 have e2:kR (kR s.o base bs) base' bs'=kR (kR s.o base' bs') base bs:=by
  funext k
  unfold kR
  by_cases h1:inB base bs.length k
  .rw [if_neg (hdis k h1),if_pos h1,if_pos h1]
  .rw [if_neg h1,if_neg h1]
 have e3:(fun i' k=>(s.br i' k\/(i'=i/\inB base bs.length k))\/(i'=j/\inB base' bs'.length k))=fun i' k=>(s.br i' k\/(i'=j/\inB base' bs'.length k))\/(i'=i/\inB base bs.length k):=by
  funext i' k
  exact propext or_right_comm
 show AS.mk (fO (fO s.g d z) d' z') (kR (kR s.o base bs) base' bs') (fun i' k=>(s.br i' k\/(i'=i/\inB base bs.length k))\/(i'=j/\inB base' bs'.length k))=_
 rw [e1,e2,e3]
 rfl
theorem WM {i j:Nat} {p q:Oper} (hp:all[i]? =some p) (hq:all[j]? =some q) (hl:loose tab i j=true) (hd:∀ t,p.dst=some t->q.dst≠some t) {s:AS} (hw:WF L0 s) {z:AVal} {base:Nat} {bs:List AObj}
  (hy:Y E all tab L0 i p s z base bs) (hf:fresh s base bs) {K:AS->Prop} (h:nOp E all tab L0 j q K (s.upd i p.dst z base bs)):
  nOp E all tab L0 j q (fun s'=>WF L0 s'/\Y E all tab L0 i p s' z base bs/\fresh s' base bs/\K (s'.upd i p.dst z base bs)) s:=by
 obtain ⟨z',base',bs',h1,h2,h3⟩:=h
 have h1':=(ZR (p:=q) hp hl hw hy.1 hf).1 h1
 have hf':fresh s base' bs':=fun k hk i' hb=>h2 k hk i' (.inl hb)
 have hdis:∀ k,inB base bs.length k->¬ inB base' bs'.length k:=fun k hk hk'=>h2 k hk' i (.inr ⟨rfl,hk⟩)
 refine ⟨z',base',bs',h1',hf',hw.upd,(ZR (p:=p) hq (lW hl) hw h1'.1 hf').2 hy,fun k hk i' hb=>?_,?_⟩
 .rcases hb with hb | ⟨_,hb⟩
  .exact hf k hk i' hb
  .exact hdis k hk hb
 .rw [<-N5 hd hdis]
  exact h3
noncomputable def AS.turn (s:AS) (d:Option Nat) (z:AVal) (k:Nat) (x:AObj):AS:=⟨fO s.g d z,fun k'=>if k'=k then x else s.o k',s.br⟩
def Yu (E:Env) (all:List Oper) (tab:List Nat) (L0 i:Nat) (p:Oper) (s:AS) (z:AVal) (base k:Nat) (x:AObj):Prop:=
 (L0<=base/\∀ i,¬ s.br i base)/\bZ all (evG tab all i s.g) p.guard=some true/\kT tab i s k≠ .dead/\BW z k x (eop E (cP E p.dst) base (kT tab i s) (evG tab all i s.g) p.op p.type)
def uOp (E:Env) (all:List Oper) (tab:List Nat) (L0 i:Nat) (p:Oper) (K:AS->Prop) (s:AS):Prop:=
 ∃ z base k x,Yu E all tab L0 i p s z base k x/\K (s.turn p.dst z k x)
theorem uV {s:AS} {i base:Nat} {d:Option Nat} {z:AVal}:s.upd i d z base []=⟨fO s.g d z,s.o,s.br⟩:=by
 unfold AS.upd
 congr 1
 .funext k
  unfold kR
  rw [if_neg fun h=>by have h1:=h.1;have h2:=h.2;simp at h2;omega]
 .funext i' k
  refine propext ⟨fun h=>?_,.inl⟩
  rcases h with h | ⟨_,h⟩
  .exact h
  .have h1:=h.1;have h2:=h.2;simp at h2;omega
theorem LJ {g:Nat->AVal} {d d':Option Nat} {z z':AVal} (hd:∀ t,d=some t->d'≠some t):fO (fO g d z) d' z'=fO (fO g d' z') d z:=by
 funext t
 simp only [fO]
 by_cases h1:d=some t
 .rw [if_neg (hd t h1),if_pos h1,if_pos h1]
 .rw [if_neg h1,if_neg h1]
theorem AD {s:AS} {i base:Nat} {d d':Option Nat} {z z':AVal} {k:Nat} {x:AObj} (hd:∀ t,d=some t->d'≠some t):(s.upd i d z base []).turn d' z' k x=(s.turn d' z' k x).upd i d z base []:=by
 rw [uV,uV]
 unfold AS.turn
 rw [LJ hd]
theorem WF.turn {i:Nat} {s:AS} (hw:WF L0 s) {d:Option Nat} {z:AVal} {k:Nat} {x:AObj} (hk:kT tab i s k≠ .dead):WF L0 (s.turn d z k x):=fun k' h1 h2=>by
 have hne:k'≠k:=fun e=>by
  subst e
  refine hk ?_
  unfold kT
  split
  .rfl
  .exact hw k' h1 h2
 show (if k'=k then x else s.o k')= .dead
 rw [if_neg hne]
 exact hw k' h1 h2
theorem UD {i j:Nat} {p q:Oper} (hq:all[j]? =some q) (hl:loose tab j i=true) (hb:blD E p.dst=true) {s:AS} {z':AVal} {k:Nat} {x:AObj} {z:AVal} {base:Nat} {bs:List AObj}:
  Y E all tab L0 i p (s.turn q.dst z' k x) z base bs↔Y E all tab L0 i p s z base bs:=by
 have e1:evG tab all i (s.turn q.dst z' k x).g=evG tab all i s.g:=CN hq hl s.g z'
 have e2:iX E tab i p.dst (s.turn q.dst z' k x)=iX E tab i p.dst s:=by
  unfold iX
  rw [if_pos hb,if_pos hb]
 unfold Y
 rw [e1,e2]
theorem UC {i j:Nat} {p q:Oper} (hq:all[j]? =some q) (hl:loose tab j i=true) {s:AS} {z':AVal} {base':Nat} {z:AVal} {base k:Nat} {x:AObj}:
  Yu E all tab L0 i p (s.upd j q.dst z' base' []) z base k x↔Yu E all tab L0 i p s z base k x:=by
 rw [uV]
 have e1:evG tab all i (fO s.g q.dst z')=evG tab all i s.g:=CN hq hl s.g z'
 unfold Yu
 rw [e1]
 exact Iff.rfl
theorem UT {i j:Nat} {p q:Oper} (hp:all[i]? =some p) (hq:all[j]? =some q) (hl:loose tab i j=true) (hb:blD E p.dst=true) (hd:∀ t,p.dst=some t->q.dst≠some t) {s:AS} (hw:WF L0 s) {z:AVal} {base:Nat} {bs:List AObj}
  (hy:Y E all tab L0 i p s z base bs) (hf:fresh s base bs) {K:AS->Prop} (h:uOp E all tab L0 j q K (s.upd i p.dst z base bs)):
  uOp E all tab L0 j q (fun s'=>WF L0 s'/\Y E all tab L0 i p s' z base bs/\fresh s' base bs/\K (s'.upd i p.dst z base bs)) s:=by
 obtain rfl:=hy.2.1 hb
 obtain ⟨z',base',k,x,h1,h2⟩:=h
 have h1':=(UC hp hl).1 h1
 refine ⟨z',base',k,x,h1',hw.turn h1'.2.2.1,(UD hq (lW hl) hb).2 hy,fun k hk=>by have a:=hk.1;have b:=hk.2;simp at b;omega,?_⟩
 rw [<-AD hd]
 exact h2
theorem Q5 {i j:Nat} {p q:Oper} (hp:all[i]? =some p) (hq:all[j]? =some q) (hl:loose tab i j=true) (hb:blD E q.dst=true) (hd:∀ t,p.dst=some t->q.dst≠some t) {s:AS} (hw:WF L0 s) {z:AVal} {base k:Nat} {x:AObj}
  (hy:Yu E all tab L0 i p s z base k x) {K:AS->Prop} (h:nOp E all tab L0 j q K (s.turn p.dst z k x)):
  nOp E all tab L0 j q (fun s'=>WF L0 s'/\Yu E all tab L0 i p s' z base k x/\K (s'.turn p.dst z k x)) s:=by
 obtain ⟨z',base',bs',h1,h2,h3⟩:=h
 obtain rfl:=h1.2.1 hb
 have h1':=(UD hp hl hb).1 h1
 refine ⟨z',base',[],h1',fun k hk=>by have a:=hk.1;have b:=hk.2;simp at b;omega,hw.upd,(UC hq (lW hl)).2 hy,?_⟩
 rw [AD fun t ht e=>hd t e ht]
 exact h3
def sOp (E:Env) (all:List Oper) (tab:List Nat) (L0 i:Nat) (p:Oper) (Kp:(Nat->AVal)->AVal->List AObj->Prop) (K:AS->Prop) (s:AS):Prop:=
 ∃ obs:List AObj,aE obs=s.o/\L0<=aO obs/\(∀ k,L0<=k->k<aO obs->∃ i,s.br i k)/\(∀ i k,s.br i k->k<aO obs)/\
  ((bZ all (evG tab all i s.g) p.guard=some false/\K (s.upd i p.dst (.tup []) L0 []))\/
    (bZ all (evG tab all i s.g) p.guard=some true/\orD E.P true true false obs obs (aO obs) (fun v obs'=>aO obs<=aO obs'->K ⟨fO s.g p.dst v,aE obs',fun i' k=>s.br i' k\/(i'=i/\aO obs<=k/\k<aO obs')⟩) (Kp s.g)
     (eop E (cP E p.dst) (aO obs) (aE obs) (evG tab all i s.g) p.op p.type)))
def aOp (E:Env) (ops:Array Oper) (tab:List Nat) (L0:Nat) (Kp:(Nat->AVal)->AVal->List AObj->Prop) (i:Nat) (K:AS->Prop) (s:AS):Prop:=
 ∃ p,ops[i]? =some p/\(((sole tab i 0 ops.toList=true->blD E p.dst=true)/\nOp E ops.toList tab L0 i p K s)\/((AF E tab i 0 ops.toList=true/\blD E p.dst=false)/\uOp E ops.toList tab L0 i p K s)\/
  ((sole tab i 0 ops.toList=true/\blD E p.dst=false)/\sOp E ops.toList tab L0 i p Kp K s))
def wpA (E:Env) (ops:Array Oper) (tab:List Nat) (L0:Nat) (Kp:(Nat->AVal)->AVal->List AObj->Prop) (Q:AS->Prop):Nat->Array Bool->AS->Prop
 | 0,listed,s=>Da .any ops listed=[]/\Q s
 | fuel+1,listed,s=>(Da .any ops listed=[]->Q s)/\∀ i∈Da .any ops listed,aOp E ops tab L0 Kp i (wpA E ops tab L0 Kp Q fuel (listed.setIfInBounds i true)) s
end
section
variable {E:Env} {ops:Array Oper} {tab:List Nat} {L0:Nat} {Kp:(Nat->AVal)->AVal->List AObj->Prop} {Q:AS->Prop}
theorem zD {i:Nat} {K K':AS->Prop} {s:AS} (hk:∀ s,K s->K' s) (h:aOp E ops tab L0 Kp i K s) (hn:sole tab i 0 ops.toList=false):aOp E ops tab L0 Kp i K' s:=by
 obtain ⟨p,h1,⟨h2,z,base,bs,h3,h4,h5⟩ | ⟨h2,z,base,k,x,h3,h4⟩ | ⟨h2,_⟩⟩:=h
 .exact ⟨p,h1,.inl ⟨h2,z,base,bs,h3,h4,hk _ h5⟩⟩
 .exact ⟨p,h1,.inr (.inl ⟨h2,z,base,k,x,h3,hk _ h4⟩)⟩
 .rw [hn] at h2;cases h2.1
def jV (tab:List Nat) (listed:Array Bool):Prop:=∀ j i,listed.getD j false=true->cD (cH tab j) i=true->listed.getD i false=true
theorem pQ {E:Env} {tab:List Nat} {j:Nat}:∀ {l:List Oper} {n:Nat},AF E tab j n l=true->∀ (i:Nat) q,l[i]? =some q->loose tab (n+i) j=true->blD E q.dst=true
 | [],_,_,i,q,hi,_=>by simp at hi
 | x::r,n,h,i,q,hi,hl=>by
  simp only [AF,Ad,Dg,Cb] at h
  cases i with
  | zero=>
   simp at hi
   subst hi
   rw [Dk] at hl
   rcases h.1 with q | q
   .rw [hl] at q;cases q
   .exact q
  | succ i=>exact pQ h.2 i q (by simpa using hi) (by rw [show n+1+i=n+(i+1) from by omega];exact hl)
def IV (E:Env) (ops:Array Oper) (tab:List Nat) (i:Nat) (d:Option Nat):Prop:=∀ (listed:Array Bool) (j:Nat),jV tab listed->i∈Da .any ops listed->j∈Da .any ops listed->j≠i->
   jV tab (listed.setIfInBounds j true)/\sole tab j 0 ops.toList=false/\loose tab i j=true/\∀ q,ops[j]? =some q->∀ t,d=some t->q.dst≠some t
theorem SO {i:Nat} {p:Oper} {z:AVal} {base:Nat} {bs:List AObj} (hi:ops[i]? =some p) (hsi:sole tab i 0 ops.toList=true->blD E p.dst=true) (hfree:IV E ops tab i p.dst):
  ∀ (fuel:Nat) (listed:Array Bool) (s:AS),jV tab listed->WF L0 s->i∈Da .any ops listed->Y E ops.toList tab L0 i p s z base bs->fresh s base bs->
   wpA E ops tab L0 Kp Q fuel (listed.setIfInBounds i true) (s.upd i p.dst z base bs)->wpA E ops tab L0 Kp Q (fuel+1) listed s:=by
 have self:∀ {K:AS->Prop} {s:AS},Y E ops.toList tab L0 i p s z base bs->fresh s base bs->K (s.upd i p.dst z base bs)->aOp E ops tab L0 Kp i K s:=fun hy hf hk=>⟨p,hi,.inl ⟨hsi,z,base,bs,hy,hf,hk⟩⟩
 intro fuel
 induction fuel with
 | zero=>
  intro listed s hc hw hr hy hf H
  refine ⟨fun h=>(by rw [h] at hr;cases hr),fun j hj=>?_⟩
  by_cases hji:j=i
  .subst hji;exact self hy hf H
  .have:=ready_mono hj hji
   rw [H.1] at this
   cases this
 | succ fuel ih=>
  intro listed s hc hw hr hy hf H
  refine ⟨fun h=>(by rw [h] at hr;cases hr),fun j hj=>?_⟩
  by_cases hji:j=i
  .subst hji;exact self hy hf H
  .have h1:=H.2 j (ready_mono hj hji)
   obtain ⟨g1,g2,g3,g4⟩:=hfree listed j hc hr hj hji
   obtain ⟨q,hq,⟨hn0,hn⟩ | ⟨hu0,hu⟩ | ⟨hs,_⟩⟩:=h1
   .have:=WM (by simpa using hi) (by simpa using hq) g3 (g4 q hq) hw hy hf hn
    refine zD (fun s' ⟨k1,k2,k3,k4⟩=>ih (listed.setIfInBounds j true) s' g1 k1 (ready_mono hr (Ds hji)) k2 k3 ?_) ⟨q,hq,.inl ⟨hn0,this⟩⟩ g2
    rw [Gs _ _ hji]
    exact k4
   .have hb:blD E p.dst=true:=pQ hu0.1 i p (by simpa using hi) (by rw [Bk];exact g3)
    have:=UT (by simpa using hi) (by simpa using hq) g3 hb (g4 q hq) hw hy hf hu
    refine zD (fun s' ⟨k1,k2,k3,k4⟩=>ih (listed.setIfInBounds j true) s' g1 k1 (ready_mono hr (Ds hji)) k2 k3 ?_) ⟨q,hq,.inr (.inl ⟨hu0,this⟩)⟩ g2
    rw [Gs _ _ hji]
    exact k4
   .rw [g2] at hs;cases hs.1
theorem aAV {i:Nat} {p:Oper} {z:AVal} {base k:Nat} {x:AObj} (hi:ops[i]? =some p) (hsi:AF E tab i 0 ops.toList=true/\blD E p.dst=false) (hfree:IV E ops tab i p.dst):
  ∀ (fuel:Nat) (listed:Array Bool) (s:AS),jV tab listed->WF L0 s->i∈Da .any ops listed->Yu E ops.toList tab L0 i p s z base k x->
   wpA E ops tab L0 Kp Q fuel (listed.setIfInBounds i true) (s.turn p.dst z k x)->wpA E ops tab L0 Kp Q (fuel+1) listed s:=by
 have self:∀ {K:AS->Prop} {s:AS},Yu E ops.toList tab L0 i p s z base k x->K (s.turn p.dst z k x)->aOp E ops tab L0 Kp i K s:=fun hy hk=>⟨p,hi,.inr (.inl ⟨hsi,z,base,k,x,hy,hk⟩)⟩
 intro fuel
 induction fuel with
 | zero=>
  intro listed s hc hw hr hy H
  refine ⟨fun h=>(by rw [h] at hr;cases hr),fun j hj=>?_⟩
  by_cases hji:j=i
  .subst hji;exact self hy H
  .have:=ready_mono hj hji
   rw [H.1] at this
   cases this
 | succ fuel ih=>
  intro listed s hc hw hr hy H
  refine ⟨fun h=>(by rw [h] at hr;cases hr),fun j hj=>?_⟩
  by_cases hji:j=i
  .subst hji;exact self hy H
  .have h1:=H.2 j (ready_mono hj hji)
   obtain ⟨g1,g2,g3,g4⟩:=hfree listed j hc hr hj hji
   have hjq:∀ q,ops[j]? =some q->blD E q.dst=true:=fun q hq=>pQ hsi.1 j q (by simpa using hq) (by rw [Bk];exact lW g3)
   obtain ⟨q,hq,⟨hn0,hn⟩ | ⟨hu0,hu⟩ | ⟨hs,_⟩⟩:=h1
   .have:=Q5 (by simpa using hi) (by simpa using hq) g3 (hjq q hq) (g4 q hq) hw hy hn
    refine zD (fun s' ⟨k1,k2,k3⟩=>ih (listed.setIfInBounds j true) s' g1 k1 (ready_mono hr (Ds hji)) k2 ?_) ⟨q,hq,.inl ⟨hn0,this⟩⟩ g2
    rw [Gs _ _ hji]
    exact k3
   .rw [hjq q hq] at hu0;cases hu0.2
   .rw [g2] at hs;cases hs.1
end
def gR (fr:List (Nat×AVal)) (obs:List AObj) (br:List (Nat×Nat)):AS:=⟨aX fr,aE obs,fun i k=>(i,k)∈br⟩
theorem dI (fr:List (Nat×AVal)) (d:Option Nat) (v:AVal):aX (jD fr d v)=fO (aX fr) d v:=by
 funext t
 cases d with
 | none=>simp [jD,fO]
 | some d=>
  simp only [jD,fO,sU,Cu]
  by_cases h:t=d
  .subst h;simp
  .rw [if_neg h,if_neg (Ds h)]
theorem AI (l:List AObj) (n k:Nat) (x:AObj):aE (bK l n x) k=if k=n then x else aE l k:=by
 induction l generalizing n k with
 | nil=>
  induction n generalizing k with
  | zero=>cases k<;>rfl
  | succ n ih=>
   cases k with
   | zero=>rfl
   | succ k=>show aE (bK [] n x) k=_;rw [ih];simp [aE]
 | cons y r ih=>
  cases n with
  | zero=>cases k<;>simp [bK,aE]
  | succ n=>
   cases k with
   | zero=>simp [bK,aE]
   | succ k=>simp only [bK,aE,ih];simp
theorem ML (ks:List Nat) (obs:List AObj) (k:Nat):aE (mW ks obs) k=if k∈ks then .dead else aE obs k:=by
 induction ks generalizing obs with
 | nil=>simp [mW]
 | cons x r ih=>
  simp only [mW,ih,AI,Bh]
  by_cases h1:k∈r
  .simp [h1]
  .by_cases h2:k=x
   .simp [h2]
   .simp [h1,h2]
theorem rG {tab:List Nat} {j k:Nat}:∀ {br:List (Nat×Nat)},k∈zR tab j br↔ ∃ i,(i,k)∈br/\cD (cH tab j) i=false
 | []=>by simp [zR]
 | (i,k')::r=>by
  simp only [zR]
  cases h:cD (cH tab j) i with
  | true=>
   simp only [cond_true,rG (br:=r),Bh,Gq]
   constructor
   .rintro ⟨i',h1,h2⟩;exact ⟨i',.inr h1,h2⟩
   .rintro ⟨i',⟨rfl,rfl⟩ | h1,h2⟩
    .rw [h] at h2;cases h2
    .exact ⟨i',h1,h2⟩
  | false=>
   simp only [cond_false,Bh,rG (br:=r),Gq]
   constructor
   .rintro (rfl | ⟨i',h1,h2⟩)
    .exact ⟨i,.inl ⟨rfl,rfl⟩,h⟩
    .exact ⟨i',.inr h1,h2⟩
   .rintro ⟨i',⟨rfl,rfl⟩ | h1,h2⟩
    .exact .inl rfl
    .exact .inr ⟨i',h1,h2⟩
theorem U5 (tab:List Nat) (j:Nat) (fr:List (Nat×AVal)) (obs:List AObj) (br:List (Nat×Nat)):aE (mW (zR tab j br) obs)=kT tab j (gR fr obs br):=by
 funext k
 rw [ML]
 unfold kT
 have:k∈zR tab j br↔FA tab j (gR fr obs br).br k:=rG
 by_cases h:k∈zR tab j br
 .rw [if_pos h,if_pos (this.1 h)]
 .rw [if_neg h,if_neg fun e=>h (this.2 e)];rfl
theorem F4 (bs:List AObj):∀ (obs:List AObj),uU obs obs.length bs=obs++bs:=by
 induction bs with
 | nil=>intro obs;simp [uU]
 | cons x r ih=>
  intro obs
  simp only [uU,EE]
  have:=ih (obs++[x])
  simp at this
  rw [this]
theorem nQ (n:Nat):∀ (l:List AObj),fI n l=l.drop n:=by
 induction n with
 | zero=>intro l;rfl
 | succ n ih=>intro l;cases l with
  | nil=>rfl
  | cons x r=>simp [fI,ih]
theorem lL {j i k:Nat}:∀ {l:List AObj} {base:Nat} {br:List (Nat×Nat)},(i,k)∈born j base l br↔(i,k)∈br\/(i=j/\inB base l.length k)
 | [],base,br=>by simp [born,inB];omega
 | x::r,base,br=>by
  have ih:=lL (j:=j) (i:=i) (k:=k) (l:=r) (base:=base+1) (br:=br)
  have e:born j base (x::r) br=(j,base)::born j (base+1) r br:=rfl
  have hm:(i,k)∈(j,base)::born j (base+1) r br↔((i=j/\k=base)\/(i,k)∈br)\/(i=j/\inB (base+1) r.length k):=by rw [Bh,Gq,ih,or_assoc]
  rw [e,hm]
  unfold inB
  rw [Ao]
  constructor
  .intro h
   rcases h with h | h
   .rcases h with ⟨h1,h2⟩ | h
    .exact .inr ⟨h1,by omega,by omega⟩
    .exact .inl h
   .exact .inr ⟨h.1,by have:=h.2.1;omega,by have:=h.2.2;omega⟩
  .intro h
   rcases h with h | ⟨h1,h2,h3⟩
   .exact .inl (.inr h)
   .by_cases hk:k=base
    .exact .inl (.inl ⟨h1,hk⟩)
    .exact .inr ⟨h1,by omega,by omega⟩
theorem qE {rest:List Oper} {n:Nat} {d:Option Nat} {fr:List (Nat×AVal)} {v:AVal} {k:List (Nat×AVal)->Prop} (h:wrP rest n d fr v k):k (jD fr d v):=by
 unfold wrP at h
 cases d with
 | none=>exact h
 | some d=>
  dsimp only at h
  cases hg:rF n rest with
  | false=>rw [hg] at h;exact h
  | true=>
   rw [hg] at h
   simp only [cond_true] at h
   split at h
   .rename_i b
    cases b with
    | true=>exact h.1 rfl
    | false=>exact h.2 rfl
   .exact h.elim
theorem UB (fr:List (Nat×AVal)) (obs:List AObj) (br:List (Nat×Nat)) (n:Nat) (d:Option Nat) (z:AVal) (bs:List AObj):
  gR (jD fr d z) (uU obs (aO obs) bs) (born n (aO obs) (fI (aO obs) (uU obs (aO obs) bs)) br)=(gR fr obs br).upd n d z (aO obs) bs:=by
 rw [bI,F4,nQ,Im]
 unfold gR AS.upd
 rw [dI]
 congr 1
 .funext k
  show _=kR (aE obs) obs.length bs k
  unfold kR
  by_cases h:inB obs.length bs.length k
  .rw [if_pos h]
   have hlt:k-obs.length<bs.length:=by have:=h.1;have:=h.2;omega
   refine eR ?_
   rw [Aq h.1,Iw,Ac hlt]
   rfl
  .rw [if_neg h]
   by_cases hk:k<obs.length
   .rcases dQ obs k with ⟨h1,e⟩ | ⟨h1,_⟩
    .exact eR (by rw [Ah hk];exact e)
    .omega
   .have hk2:obs.length+bs.length<=k:=by
     refine Nat.le_of_not_lt fun h2=>h ⟨by omega,h2⟩
    rcases dQ (obs++bs) k with ⟨h1,_⟩ | ⟨_,_,e⟩
    .simp at h1;omega
    .rcases dQ obs k with ⟨h1,_⟩ | ⟨_,_,e2⟩
     .omega
     .rw [e,e2]
 .funext i k
  exact propext lL
structure LI (L0 n:Nat) (obs:List AObj) (br:List (Nat×Nat)):Prop where
 low:L0<=aO obs
 all:∀ k,L0<=k->k<aO obs->∃ i,(i,k)∈br
 lt:∀ i k,(i,k)∈br->k<aO obs/\i<n
theorem LI.wf {L0 n:Nat} {obs:List AObj} {br:List (Nat×Nat)} (h:LI L0 n obs br) (fr:List (Nat×AVal)):WF L0 (gR fr obs br):=fun k hk hn=>by
 rcases dQ obs k with ⟨h1,_⟩ | ⟨_,_,e⟩
 .obtain ⟨i,hi⟩:=h.all k hk (by rw [bI];exact h1)
  exact absurd hi (hn i)
 .exact e
theorem LI.put {L0 n:Nat} {obs:List AObj} {br:List (Nat×Nat)} (h:LI L0 n obs br) {obs':List AObj} (hl:aO obs<=aO obs'):LI L0 (n+1) obs' (born n (aO obs) (fI (aO obs) obs') br):=by
 have hd:(fI (aO obs) obs').length=aO obs'-aO obs:=by rw [nQ,Dy,bI obs']
 refine ⟨Cx h.low hl,fun k h1 h2=>?_,fun i k hk=>?_⟩
 .by_cases hk:k<aO obs
  .obtain ⟨i,hi⟩:=h.all k h1 hk
   exact ⟨i,lL.2 (.inl hi)⟩
  .exact ⟨n,lL.2 (.inr ⟨rfl,by omega,by rw [hd];omega⟩)⟩
 .rcases lL.1 hk with hk | ⟨rfl,h1,h2⟩
  .obtain ⟨a,b⟩:=h.lt i k hk
   exact ⟨by omega,by omega⟩
  .rw [hd] at h2
   exact ⟨by omega,by omega⟩
theorem CallG.mono {P:Program} {f:Fn} {args:List AVal} {obs:List AObj} {K K' Kp:AVal->List AObj->Prop} (hk:∀ v o,K v o->K' v o) (h:CallG P f args obs K Kp):CallG P f args obs K' Kp:=by
 cases h with
 | pure r new h k=>exact .pure r new h (hk _ _ k)
 | eff fz ks r obs' hks h k=>exact .eff fz ks r obs' hks h (hk _ _ k)
 | effp fz ks r obs' hks h k=>exact .effp fz ks r obs' hks h k
 | pan r h k=>exact .pan r h k
theorem nP {P:Program} {so uo bl:Bool} {seen obs:List AObj} {base:Nat} {K K' Kp:AVal->List AObj->Prop} (hk:∀ v o,K v o->K' v o):∀ {r:OR},orD P so uo bl seen obs base K Kp r->orD P so uo bl seen obs base K' Kp r
 | .no,k=>k.elim
 | .val v,k=>hk _ _ k
 | .mkf fn fs cs,k=>hk _ _ k
 | .need p r,k=>⟨k.1,nP hk k.2⟩
 | .alt p v w,k=>k.imp (fun h=>⟨h.1,hk _ _ h.2⟩) (hk _ _)
 | .idx n f,⟨i,hi,k⟩=>⟨i,hi,nP hk k⟩
 | .elem xs i f,⟨x,hx,k⟩=>⟨x,hx,nP hk k⟩
 | .byte l i,⟨c,hc,k⟩=>⟨c,hc,hk _ _ k⟩
 | .text xs,⟨l,hl,hm,k⟩=>⟨l,hl,hm,hk _ _ k⟩
 | .find es key f,⟨o,ho,k⟩=>⟨o,ho,nP hk k⟩
 | .born x v,k=>by cases bl with
  | true=>exact k.elim
  | false=>exact hk _ _ k
 | .upd i x v,k=>by
  simp only [orD] at k⊢
  split at k
  .exact hk _ _ k
  .exact k.elim
 | .nilq xs neg,k=>by cases so with
  | true=>exact fun b hb=>hk _ _ (k b hb)
  | false=>exact k.elim
 | .call f args,k=>by
  cases bl with
  | true=>exact k.elim
  | false=>
   have k:CallD P f args so seen base obs K Kp:=k
   show CallD P f args so seen base obs K' Kp
   cases k with
   | pure r new h k=>exact .pure r new h (hk _ _ k)
   | sole h1 h2=>exact .sole h1 (h2.mono hk)
 | .pan v,k=>by cases so with
  | true=>exact k
  | false=>exact k.elim
theorem wY {P:Program} {uo bl:Bool} {seen obs:List AObj} {base:Nat} {K Kp:AVal->List AObj->Prop}:∀ {r:OR},orD P true uo bl seen obs base K Kp r->orD P true true bl seen obs base K Kp r
 | .no,k=>k
 | .val v,k=>k
 | .mkf fn fs cs,k=>k
 | .need p r,k=>⟨k.1,wY k.2⟩
 | .alt p v w,k=>k
 | .idx n f,⟨i,hi,k⟩=>⟨i,hi,wY k⟩
 | .elem xs i f,⟨x,hx,k⟩=>⟨x,hx,wY k⟩
 | .byte l i,k=>k
 | .text xs,k=>k
 | .find es key f,⟨o,ho,k⟩=>⟨o,ho,wY k⟩
 | .born x v,k=>k
 | .upd i x v,k=>k
 | .nilq xs neg,k=>k
 | .call f args,k=>k
 | .pan v,k=>k
theorem NW (fr:List (Nat×AVal)) (obs:List AObj) (br:List (Nat×Nat)) (n:Nat) (d:Option Nat) (z:AVal) (k:Nat) (x:AObj) (hk:k<aO obs):
  gR (jD fr d z) (bK obs k x) (born n (aO obs) (fI (aO obs) (bK obs k x)) br)=(gR fr obs br).turn d z k x:=by
 have hl:(bK obs k x).length=obs.length:=by rw [fS _ (by rwa [bI] at hk)];simp
 have e:fI (aO obs) (bK obs k x)=[]:=by rw [nQ,bI,<-hl];simp
 rw [e]
 unfold gR AS.turn
 rw [dI]
 congr 1
 funext k'
 exact AI obs k k' x
structure TabSp (ops:Array Oper) (tab:List Nat):Prop where
 back:∀ (j:Nat) p,ops[j]? =some p->∀ e∈p.after,Ha .any e=true->e.on<j
 less:∀ i j,cD (cH tab i) j=true->j<i
 step:∀ (j:Nat) p,ops[j]? =some p->∀ i,cD (cH tab j) i=true->∃ e∈p.after,Ha .any e=true/\(e.on=i\/cD (cH tab e.on) i=true)
 out:∀ j i,cD (cH tab j) i=true->j<ops.size
 dst:∀ (i j:Nat) p q,ops[i]? =some p->ops[j]? =some q->loose tab i j=true->∀ t,p.dst=some t->q.dst≠some t
theorem oJ {tab:List Nat} {j:Nat}:∀ {l:List Oper} {n:Nat},sole tab j n l=true->∀ i,i<l.length->loose tab (n+i) j=false
 | [],_,_,i,hi=>by simp at hi
 | x::r,n,h,i,hi=>by
  simp only [sole,Ad,Cb] at h
  cases i with
  | zero=>exact h.1
  | succ i=>
   have:=oJ h.2 i (by simpa using hi)
   rwa [show n+1+i=n+(i+1) from by omega] at this
section
variable {E:Env} {ops:Array Oper} {tab:List Nat} {L0:Nat} {Kp:(Nat->AVal)->AVal->List AObj->Prop} {Kq:List (Nat×AVal)->List AObj->Prop}
theorem jV.step (ht:TabSp ops tab) {listed:Array Bool} (hc:jV tab listed) {j:Nat} (hj:j∈Da .any ops listed):jV tab (listed.setIfInBounds j true)/\∀ i,cD (cH tab j) i=true->listed.getD i false=true:=by
 obtain ⟨_,p,hp,hall⟩:=mem_ready.1 hj
 have key:∀ i,cD (cH tab j) i=true->listed.getD i false=true:=fun i hi=>by
  obtain ⟨e,he,hb,h | h⟩:=ht.step j p hp i hi
  .subst h;exact hall e he hb
  .exact hc e.on i (hall e he hb) h
 refine ⟨fun j' i h1 h2=>getD_set_true ?_,key⟩
 by_cases hjj:j=j'
 .subst hjj;exact key i h2
 .rw [getD_set_ne false hjj] at h1
  exact hc j' i h1 h2
theorem nJ (ht:TabSp ops tab) {listed:Array Bool} (hc:jV tab listed) {i j:Nat} (hi:i∈Da .any ops listed) (hj:j∈Da .any ops listed) (hne:i≠j):loose tab i j=true:=by
 have un:∀ {k:Nat},k∈Da .any ops listed->listed.getD k false=true->False:=fun {k} hk h=>by
  obtain ⟨h0,p,hp,_⟩:=mem_ready.1 hk
  rw [Ap] at h0 h
  cases hq:listed[k]? with
  | none=>rw [hq] at h;simp at h
  | some b=>rw [hq] at h h0;simp at h h0;rw [h] at h0;cases h0
 refine lB.2 ⟨hne,?_,?_⟩
 .cases hq:cD (cH tab j) i with
  | false=>rfl
  | true=>exact (un hi ((hc.step ht hj).2 i hq)).elim
 .cases hq:cD (cH tab i) j with
  | false=>rfl
  | true=>exact (un hj ((hc.step ht hi).2 j hq)).elim
def Qf (L0:Nat) (Kq:List (Nat×AVal)->List AObj->Prop) (s:AS):Prop:=∃ fr obs br n,s=gR fr obs br/\LI L0 n obs br/\Kq fr obs
theorem WV (ht:TabSp ops tab):∀ (l:List Oper) (n:Nat) (listed:Array Bool) (br:List (Nat×Nat)) (fr:List (Nat×AVal)) (obs:List AObj),
  l=ops.toList.drop n->(∀ j,j<ops.size->listed[j]? =some (decide (j<n)))->listed.size=ops.size->LI L0 n obs br->gB E ops.toList tab Kq Kp n l br fr obs->
  wpA E ops tab L0 Kp (Qf L0 Kq) l.length listed (gR fr obs br)
 | [],n,listed,br,fr,obs,hl,hlist,hsz,hI,h=>by
  refine ⟨?_,fr,obs,br,n,rfl,hI,h⟩
  have hk:ops.size<=n:=by
   have:=congrArg Hu hl
   simp at this
   omega
  refine Es.2 fun j hj=>?_
  obtain ⟨h0,q,hq,_⟩:=mem_ready.1 hj
  have hlt:=(Ef.1 hq).1
  rw [Ap,hlist j hlt] at h0
  simp at h0
  omega
 | p::l,n,listed,br,fr,obs,hl,hlist,hsz,hI,h=>by
  have hnp:ops[n]? =some p:=by
   have:(ops.toList.drop n)[0]? =some p:=by rw [<-hl];rfl
   simpa using this
  have hnlt:n<ops.size:=(Ef.1 hnp).1
  have hl':l=ops.toList.drop (n+1):=by
   rw [<-Gx,<-hl];rfl
  have hlt:∀ j,listed.getD j false=true↔j<n:=by
   intro j
   rw [Ap]
   by_cases hj:j<ops.size
   .rw [hlist j hj];simp
   .rw [Hd (by omega)]
    simp
    omega
  have hclosed:jV tab listed:=fun j i h1 h2=>(hlt i).2 (Nat.lt_trans (ht.less j i h2) ((hlt j).1 h1))
  have hready:n∈Da .any ops listed:=by
   refine mem_ready.2 ⟨?_,p,hnp,fun e he hb=>(hlt _).2 (ht.back n p hnp e he hb)⟩
   rw [Ap,hlist n hnlt];simp
  have hlist':∀ j,j<ops.size->(listed.setIfInBounds n true)[j]? =some (decide (j<n+1)):=by
   intro j hj
   by_cases hjk:n=j
   .subst hjk
    rw [Ca (by omega)]
    simp
   .rw [Ci hjk,hlist j hj]
    congr 1
    exact decide_eq_decide.2 (by omega)
  have hsz':(listed.setIfInBounds n true).size=ops.size:=by simpa using hsz
  have hw:=hI.wf fr
  have nofr:∀ {bs:List AObj},fresh (gR fr obs br) (aO obs) bs:=fun {bs} k hk i hb=>by
   have:=(hI.lt i k hb).1
   have:=hk.1
   omega
  have ahead:∀ {i:Nat},i<ops.size->i∈Da .any ops listed->i≠n->loose tab n i=true:=fun _ hi hne=>nJ ht hclosed hready hi (Ds hne)
  simp only [gB] at h
  rw [aAY] at h
  -- on,where the operation bears bs at the end
  have on:∀ {z:AVal} {bs:List AObj},gB E ops.toList tab Kq Kp (n+1) l (born n (aO obs) (fI (aO obs) (uU obs (aO obs) bs)) br) (jD fr p.dst z) (uU obs (aO obs) bs)->
    wpA E ops tab L0 Kp (Qf L0 Kq) l.length (listed.setIfInBounds n true) ((gR fr obs br).upd n p.dst z (aO obs) bs):=fun {z bs} hc=>by
   rw [<-UB]
   refine WV ht l (n+1) _ _ _ _ hl' hlist' hsz' (hI.put ?_) hc
   rw [bI,bI,F4]
   simp
  have nil0:uU obs (aO obs) []=obs:=rfl
  have brn:born n (aO obs) (fI (aO obs) obs) br=br:=by
   have:fI (aO obs) obs=[]:=by rw [nQ,bI];simp
   rw [this]
   rfl
  have skip:gB E ops.toList tab Kq Kp (n+1) l br (jD fr p.dst (.tup [])) obs->wpA E ops tab L0 Kp (Qf L0 Kq) l.length (listed.setIfInBounds n true) ((gR fr obs br).upd n p.dst (.tup []) (aO obs) []):=fun hc=>on (by rw [nil0,brn];exact hc)
  have oth:(∀ j,ops[j]?≠none->loose tab n j=true->sole tab j 0 ops.toList=false)->IV E ops tab n p.dst:=fun h listed' j hc' hi' hj' hne=>by
   have hloose:=nJ ht hc' hi' hj' (Ds hne)
   obtain ⟨_,q,hq,_⟩:=mem_ready.1 hj'
   exact ⟨(hc'.step ht hj').1,h j (by rw [hq];simp) hloose,hloose,fun q hq=>ht.dst n j p q hnp hq hloose⟩
  have nosole:∀ j,ops[j]?≠none->loose tab n j=true->sole tab j 0 ops.toList=false:=fun j hj hloose=>by
   cases hq:sole tab j 0 ops.toList with
   | false=>rfl
   | true=>
    have:=oJ hq n (by simpa using hnlt)
    rw [Bk,hloose] at this
    cases this
  have others:=oth nosole
  -- where an object is turned
  have onU:∀ {z:AVal} {k:Nat} {x:AObj},k<aO obs->gB E ops.toList tab Kq Kp (n+1) l (born n (aO obs) (fI (aO obs) (bK obs k x)) br) (jD fr p.dst z) (bK obs k x)->
    wpA E ops tab L0 Kp (Qf L0 Kq) l.length (listed.setIfInBounds n true) ((gR fr obs br).turn p.dst z k x):=fun {z k x} hk hc=>by
   rw [<-NW fr obs br n p.dst z k x hk]
   refine WV ht l (n+1) _ _ _ _ hl' hlist' hsz' (hI.put ?_) hc
   rw [bI,bI,fS _ (by rwa [bI] at hk)]
   simp
  have pickN:(sole tab n 0 ops.toList=true->blD E p.dst=true)->(bZ ops.toList (evG tab ops.toList n (aX fr)) p.guard=some true->
    orD E.P false (uoN E tab ops.toList n p.dst) (blD E p.dst) (mO E tab n br obs p.dst) obs (aO obs) (fun v obs'=>wrP l n p.dst fr v fun fr=>gB E ops.toList tab Kq Kp (n+1) l (born n (aO obs) (fI (aO obs) obs') br) fr obs') (Kp (aX fr))
     (eop E (cP E p.dst) (aO obs) (aE (mO E tab n br obs p.dst)) (evG tab ops.toList n (aX fr)) p.op p.type))->
    (bZ ops.toList (evG tab ops.toList n (aX fr)) p.guard=some false->gB E ops.toList tab Kq Kp (n+1) l br (jD fr p.dst (.tup [])) obs)->
    bZ ops.toList (evG tab ops.toList n (aX fr)) p.guard≠none->wpA E ops tab L0 Kp (Qf L0 Kq) (l.length+1) listed (gR fr obs br):=fun hs1 h1 h2 h3=>by
   have hseenB:aE (mO E tab n br obs p.dst)=iX E tab n p.dst (gR fr obs br):=by
    unfold mO iX
    cases hbl:blD E p.dst with
    | true=>simp only [cond_true,if_true];exact EG
    | false=>simp only [cond_false];rw [if_neg (by simp)];exact U5 tab n fr obs br
   cases hwt:bZ ops.toList (evG tab ops.toList n (aX fr)) p.guard with
   | none=>exact absurd hwt h3
   | some b=>
    cases b with
    | false=>exact SO hnp hs1 others l.length listed _ hclosed hw hready (z:=.tup []) (base:=aO obs) (bs:=[]) ⟨hI.low,fun _=>rfl,.inl ⟨hwt,rfl,rfl⟩⟩ nofr (skip (h2 hwt))
    | true=>
     have h:=h1 hwt
     rcases nO h with ⟨z,bs,q0,q1,q2⟩ | ⟨z,k,x,q0,q1,q2,q3⟩
     .rw [hseenB] at q1
      exact SO hnp hs1 others l.length listed _ hclosed hw hready ⟨hI.low,q0,.inr ⟨hwt,q1⟩⟩ nofr (on (qE q2))
     .obtain ⟨u1,u2⟩:=aS q0
      have hbl:blD E p.dst=false:=by simpa using u2
      have e:iX E tab n p.dst (gR fr obs br)=kT tab n (gR fr obs br):=by
              unfold iX
              rw [hbl,if_neg (by simp)]
      rw [hseenB,e] at q1 q2
      have hkl:k<aO obs:=by
              refine Nat.lt_of_not_le fun hge=>q1 ?_
              unfold kT
              split
              .rfl
              .rcases dQ obs k with ⟨h1,_⟩ | ⟨_,_,e⟩
               .rw [bI] at hge;omega
               .exact e
      exact aAV hnp ⟨u1,hbl⟩ others l.length listed _ hclosed hw hready ⟨⟨hI.low,fun i hb=>by have:=(hI.lt i _ hb).1;omega⟩,hwt,q1,q2⟩ (onU hkl (qE q3))
  have hnn:bZ ops.toList (evG tab ops.toList n (aX fr)) p.guard≠none:=fun e=>by rw [e] at h;exact h
  have hfalse:bZ ops.toList (evG tab ops.toList n (aX fr)) p.guard=some false->gB E ops.toList tab Kq Kp (n+1) l br (jD fr p.dst (.tup [])) obs:=fun e=>by rw [e] at h;exact h
  cases hbl:blD E p.dst with
  | true=>
   refine pickN (fun _=>hbl) (fun e=>?_) hfalse hnn
   rw [e] at h
   have:soN E tab ops.toList n p.dst=false:=by simp [soN,hbl]
   rw [this] at h
   exact h
  | false=>
  cases hso:sole tab n 0 ops.toList with
  | false=>
   refine pickN (fun e=>by rw [hso] at e;cases e) (fun e=>?_) hfalse hnn
   rw [e] at h
   have:soN E tab ops.toList n p.dst=false:=by simp [soN,hso]
   rw [this] at h
   exact h
  | true=>
   have hone:∀ j,j∈Da .any ops listed->j=n:=fun j hj=>by
    refine Decidable.byContradiction fun hne=>?_
    have hloose:=nJ ht hclosed hj hready hne
    obtain ⟨_,q,hq,_⟩:=mem_ready.1 hj
    have hjlt:=(Ef.1 hq).1
    have:=oJ hso j (by simpa using hjlt)
    rw [Bk,hloose] at this
    cases this
   have hid0:zR tab n br=[]:=by
    refine Es.2 fun k hk=>?_
    obtain ⟨i,h1,h2⟩:=rG.1 hk
    have hin:=(hI.lt i k h1).2
    have:=oJ hso i (by simp;omega)
    rw [Bk] at this
    have hl2:loose tab i n=true:=lB.2 ⟨by omega,h2,by
     cases hq:cD (cH tab i) n with
     | false=>rfl
     | true=>have:=ht.less i n hq;omega⟩
    rw [hl2] at this
    cases this
   have hseen:mO E tab n br obs p.dst=obs:=by unfold mO;rw [hbl,hid0];rfl
   have hson:soN E tab ops.toList n p.dst=true:=by simp [soN,hso,hbl]
   rw [hseen,hson,hbl] at h
   refine ⟨fun h=>(by rw [h] at hready;cases hready),fun j hj=>?_⟩
   obtain rfl:=hone j hj
   refine ⟨p,hnp,.inr (.inr ⟨⟨hso,hbl⟩,obs,rfl,hI.low,fun k h1 h2=>hI.all k h1 h2,fun i k hb=>(hI.lt i k hb).1,?_⟩)⟩
   cases hwt:bZ ops.toList (evG tab ops.toList j (aX fr)) p.guard with
   | none=>rw [hwt] at h;exact h.elim
   | some b=>
    rw [hwt] at h
    cases b with
    | false=>
     refine .inl ⟨hwt,?_⟩
     have e:(gR fr obs br).upd j p.dst (.tup []) L0 []=(gR fr obs br).upd j p.dst (.tup []) (aO obs) []:=by
      unfold AS.upd
      congr 1
      .funext k
       unfold kR
       rw [if_neg fun h=>by have h1:=h.1;have h2:=h.2;simp at h2;omega,if_neg fun h=>by have h1:=h.1;have h2:=h.2;simp at h2;omega]
      .funext i k
       refine propext (or_congr Iff.rfl ⟨fun h=>?_,fun h=>?_⟩)<;>(have h1:=h.2.1;have h2:=h.2.2;simp at h2;omega)
     rw [e]
     exact skip h
    | true=>
     dsimp only at h
     refine .inr ⟨hwt,nP (fun v obs' hk hle=>?_) (wY h)⟩
     have hk2:=qE hk
     have:=WV ht l (j+1) _ _ _ _ hl' hlist' hsz' (hI.put hle) hk2
     have e:gR (jD fr p.dst v) obs' (born j (aO obs) (fI (aO obs) obs') br)=⟨fO (gR fr obs br).g p.dst v,aE obs',fun i' k=>(gR fr obs br).br i' k\/(i'=j/\aO obs<=k/\k<aO obs')⟩:=by
      unfold gR
      rw [dI]
      congr 1
      funext i k
      refine propext (lL.trans (or_congr Iff.rfl (and_congr Iff.rfl ?_)))
      unfold inB
      rw [nQ,Dy,bI obs']
      constructor<;>(rintro ⟨h1,h2⟩;exact ⟨h1,by omega⟩)
     rw [<-e]
     exact this
end
end Go.AW
