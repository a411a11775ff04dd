/-
  The engine, second make, second part: operations, regions. Over any program.
-/
import Derived.Lib.ConvBytes
import Derived.MapKept
import Derived.WalkSmall
import Derived.Carry
import Derived.Orders
import Derived.Test.YtlanfgblaebddaaGreatWA
set_option linter.all false
open Array renaming ext'->Du,getD_eq_getD_getElem?->Aw,getElem?_append_left->Hq,getElem?_eq_none->Iq,getElem?_eq_some_iff->Dw,getElem?_setIfInBounds_ne->Dk,getElem?_setIfInBounds_self_of_lt->Cs,length_toList->Hx,range->Jr,setIfInBounds_comm->Ia,toList_map->Jf
open Bool renaming and_eq_true->Af,and_true->Kr,false_eq_true->Cv,false_or->Jm,not_eq_true'->Co,or_eq_true->Fy,true_and->Bw
open Go.Builtin renaming append_->Cr,clear_->Ix,copy_->Jo,delete_->Jx,firstCells->Cj,len_->Ez,zeroCells->Ce
open Go.Instr renaming alloc->Lx,buildSlice->Jh,checkKey->Gw,field->Ln,fieldAt->Kt,findAsking->Ji,findKey->Kv,findNow->Ku,index->Km,indexAt->Hc,loadAt->Lc,lookup->Ld,mapUpdate->Jw,sameBits->Iy,slice->Kn,sliceAt->Gd,sliceBound->Jg,sliceBounds->Fw,storeAt->Jn,sureAddr->Ho,typeAssert->Jj
open Go.Region renaming binds->Iw,ready->Dv
open Go.Result renaming andThen->Kh,andThen_ok->Au
open Go.Sem renaming run_bind->Bc,run_pure->Bv
open Go.Value renaming iface->Lo,int->Je,ownBlock->Gi,slice->Gc
open Go.World renaming block_lt_of_cell?->Cy,cell?_of_block->Dc,ownsRow_nil->Hh
open Iff renaming rfl->Ly
open Int renaming le_refl->Di,toNat_natCast->Dl
open List renaming all_cons->Da,all_eq_true->Bq,append_nil->Bm,drop_drop->Im,drop_zero->Bx,eq_nil_iff_forall_not_mem->Eh,eq_nil_of_length_eq_zero->Al,ext_getElem?->Ek,foldl_cons->Aq,getD_eq_getElem?_getD->Cw,getElem?_append_left->Ag,getElem?_append_right->Ar,getElem?_cons_succ->Fe,getElem?_cons_zero->Kz,getElem?_drop->Ci,getElem?_eq_getElem->Ab,getElem?_eq_none->Bj,getElem?_eq_some_iff->Ac,getElem?_map->Bd,getElem?_of_mem->Ch,getElem?_range->Dr,getElem?_replicate->Ec,getElem?_set->Fi,getElem?_set_ne->Bh,getElem?_set_self->Ba,getElem?_take->Fs,getElem?_take_of_lt->Br,getElem?_toArray->Li,length_append->Bo,length_cons->Bt,length_drop->Gs,length_eraseIdx_of_lt->Ki,length_map->Ck,length_nil->Gl,length_replicate->Fl,length_take->Fc,map_cons->Bk,mem_append->Ao,mem_cons->Aj,mem_of_getElem?->Az,mem_of_mem_drop->Ed,mem_of_mem_take->Cx,mem_or_eq_of_mem_set->Dj,mem_replicate->Fq,nil_append->Jv,prefix_refl->Dd,range->Df,replicate->Ah,size_toArray->Fj,take_left->Kf,take_length->Hu,take_of_length_le->Cn,take_zero->Hn
open Nat renaming add_assoc->Ks,add_comm->Lr,add_mul->Bz,add_sub_cancel_left->Gv,add_zero->Dy,beq->Av,ble->Ff,blt->Eg,blt_eq->Jc,div_add_mod->Ib,eq_zero_or_pos->Gf,le_of_ble_eq_true->Cl,le_refl->Bi,le_trans->Cm,lt_of_lt_of_le->Dz,lt_or_ge->Lt,min_eq_left->Ic,mod_lt->Gp,mul_comm->Fg,mul_le_mul_right->Cg,one_mul->Ft,sub_zero->Kb,zero_add->Cb,zero_le->Cc,zero_mul->Lb
open Ne renaming symm->Eu
open Option renaming getD_some->Gt,isSome_iff_exists->Db,isSome_none->Ii,map_eq_some_iff->Cq,none->Lw
open Option.some renaming injEq->Em
namespace Go.AW
open Go.RowKit
section
variable {P:Program} {E:Env} {M:Imm} {ob:Hs} {obs:List AObj} {w:World} {base:Nat}
theorem aP {s:Sem Value} {v:AVal} {u:Value} (h:s.run P w= .ok u w) (a:Rep M ob u v):PS0 P M ob w s obs base (.val v):=⟨rfl,u,h,a⟩
theorem aEK {b o:Nat} (l:List AVal) (h:∀ (i:Nat) c,l[i]? =some c->∃ u,w.cell? ⟨b,o+i,none⟩=some u/\Rep M ob u c):
  ∃ vs:List Value,vs.length=l.length/\(∀ (j:Nat) u,vs[j]? =some u->w.cell? ⟨b,o+j,none⟩=some u)/\∀ (i:Nat) v a,vs[i]? =some v->l[i]? =some a->Rep M ob v a:=by
 refine ⟨(Df l.length).map fun q=>(w.cell? ⟨b,o+q,none⟩).getD undef,by simp,fun j u g=>?_,fun i v a n e=>?_⟩
 .simp only [Bd] at g
  by_cases f:j<l.length
  .obtain ⟨k,d,_⟩:=h j _ (Ab f)
   simp_all
  grind
 .have f:i<l.length:=(Ac.1 e).1
  obtain ⟨k,d,m⟩:=h i a e
  simp_all
theorem xW {t:Nat} {a:TI} (i:tQ P t a.agg a.size a.kind) (hs:(P.info? t).map (·.size)=some a.size) {b o:Nat} {vs:List Value} (hl:vs.length=a.size)
  (g:∀ (j:Nat) u,vs[j]? =some u->w.cell? ⟨b,o+j,none⟩=some u) (u:Value) (h:a.agg=true->u= .agg vs.toArray) (e:a.agg=false->vs=[u]):
  (loadVar t ⟨b,o,none⟩).run P w= .ok u w:=by
 obtain ⟨h1,k⟩:=i.isAgg
 unfold loadVar
 simp only [Bc,wH h1,Au,k]
 cases f:a.agg with
 | true=>
  have c:=run_loadCells_list (P:=P) w ⟨b,o,none⟩ vs (fun j v d=>by rw [aW];exact g j v d)
  rw [hl] at c
  simp only [if_true,Bc,run_sizeOf hs,Au,c,Bv,h f]
 | false=>
  have d:=e f
  have:=g 0 u (by rw [d];rfl)
  rw [Dy] at this
  simp only [Cv,if_false,run_load,this]
theorem aDC {b:TI} {l:List AVal} {a:AVal} (h:mk b l=some a):(b.agg=true/\a= .agg l)\/(b.agg=false/\l=[a]):=by
 unfold mk at h
 grind
theorem LQ {t:Nat} {j:TI} (d:TIOK P t j) {b o:Nat} {l:List AVal} {a:AVal} (k:mk j l=some a) (hl:l.length=j.size)
  (h:∀ (i:Nat) c,l[i]? =some c->∃ u,w.cell? ⟨b,o+i,none⟩=some u/\Rep M ob u c):∃ u,(loadVar t ⟨b,o,none⟩).run P w= .ok u w/\Rep M ob u a:=by
 obtain ⟨vs,e,g,f⟩:=aEK l h
 rcases aDC k with ⟨m,rfl⟩ | ⟨m,rfl⟩
 .exact ⟨.agg vs.toArray,xW d.kind d.size? (e.trans hl) g _ (fun _=>rfl) (fun h=>by grind),.agg vs l e f⟩
 .match vs,e with
  | [u],_=>exact ⟨u,xW d.kind d.size? o_ g u (fun h=>by grind) (fun _=>rfl),f 0 u a rfl rfl⟩
theorem S4 {t:Nat} {d:TI} (f:TIOK P t d) {b o off:Nat} {cs:List AVal}
  (h:∀ (i:Nat) c,cs[off+i]? =some c->∃ u,w.cell? ⟨b,o+i,none⟩=some u/\Rep M ob u c):PS0 P M ob w (Lc t (.pointer (some ⟨b,o,none⟩))) obs base (fin d (lB d.size (jH off cs))):=by
 unfold fin
 split
 .exact trivial
 .rename_i l hl
  split
  .exact trivial
  .rename_i a e
   obtain ⟨h1,j⟩:=iF hl
   obtain ⟨u,m,g⟩:=LQ f e h1 (b:=b) (o:=o) (M:=M) (ob:=ob) (w:=w) fun i c k=>by
    have:=j i c k
    rw [lC,Ci] at this
    exact h i c this
   refine aP (u:=u) ?_ g
   unfold Lc Ho
   grind
theorem dG.cell {v:Value} {d:Nat} {e:TypeId} {xs:List AVal} (h:dG M w v d e xs) {b:Nat} {n c:Nat} (k:v= .slice (some ⟨b,0,none⟩) n c) {i j:Nat} {x a:AVal} (f:xs[i]? =some x) (m:x.cells[j]? =some a):
  ∃ u,w.cell? ⟨b,i*d+j,none⟩=some u/\Rep M [] u a:=by
 obtain ⟨cv,h1,_,h3,o,_⟩:=h
 obtain ⟨u,l,g⟩:=o _ a (GP f m (h3 x (Az f)))
 exact ⟨u,eO h1 (by rw [k];rfl) l,g⟩
theorem bQ {k:Nat} {x:AObj} (h:aC obs k=x) (a:x≠ .dead):obs[k]? =some x:=bL h a
theorem aEr (hE:EnvOK E) (hm:Mem M ob obs w) {t:Nat} {v:Value} {a:AVal} (y:Rep M ob v a):PS0 E.P M ob w (Lc t v) obs base (TL E (aC obs) t a):=by
 unfold TL
 split
 .exact trivial
 .rename_i B O
  have h:=hE.tab t B O
  split
  .rename_i cs
   obtain ⟨b,o,rfl,H⟩:=y.ptr_inv
   refine S4 (off:=0) (cs:=cs) h fun i c m=>?_
   rw [Cb] at m
   obtain ⟨u,s,_,p⟩:=hm.imm b _ c (H i c m)
   exact ⟨u,s,p.pure⟩
  .rename_i k off
   obtain ⟨b,rfl,l⟩:=y.ref_inv
   split
   .rename_i cs d
    obtain ⟨hs,h1,I,rfl,_,cv,D,r,_,f⟩:=hm.obj k _ (bQ d s_)
    rw [cA h1] at l
    cases l
    refine S4 h fun i c m=>?_
    have q:off+i<cv.length:=by rw [r];exact (Ac.1 m).1
    exact ⟨cv[off+i],by rw [cell_of_row w b _ _ _ (0,0) D];simp [q],f _ _ c (Ab q) m⟩
   .rename_i cs d
    obtain ⟨hs,h1,I,rfl,f⟩:=hm.obj k _ (bQ d s_)
    rw [cA h1] at l
    cases l
    refine S4 h fun i c m=>?_
    obtain ⟨u,s,_,p⟩:=hm.imm b _ c (f _ c m)
    exact ⟨u,s,p.pure⟩
   .exact trivial
  .rename_i k g i F off
   cases y with
   | eref k g i F off b n c l=>
   split
   .rename_i Q J e xs d
    refine sdc fun C=>?_
    obtain ⟨z,A⟩:=aQ C
    obtain rfl:=aB z
    obtain rfl:=aB A
    intro x G
    obtain ⟨hs,v,h1,R,h3,N,K,_⟩:=hm.rowOf (bQ d s_)
    rw [N] at l
    cases l
    refine S4 h fun j c L=>?_
    obtain ⟨u,s,p⟩:=K.cell rfl G L
    exact ⟨u,by grind,p.pure⟩
   .exact trivial
  .exact trivial
theorem KF {t:Nat} {a off:Nat} (h1:(P.info? t).map (·.size)=some a) (d:(P.underlying t).isSome=true) (vs:List Value) (u:Value)
  (e:aG P t=true->u= .agg ((vs.drop off).take a).toArray) (c:aG P t=false->vs[off]? =some u):(part t vs.toArray off).run P w= .ok u w:=by
 unfold part
 simp only [Bc,wH d,Au]
 cases b:aG P t with
 | true=>
  simp only [if_true,Bc,run_sizeOf h1,Au,Bv,e b]
  simp
 | false=>simp [c b]
theorem ZW {vs:List Value} {cs:List AVal} (h:bT M ob vs cs) {b off:Nat} {l:List AVal} (g:lB b (jH off cs)=some l):bT M ob ((vs.drop off).take b) l:=by
 obtain ⟨h1,d⟩:=iF g
 rw [lC] at d
 have hl:=h.1
 have c:((vs.drop off).take b).length=l.length:=by
  have:b<=(cs.drop off).length:=by
   rcases Gf b with m | m
   .omega
   .have:=d (b-1) _ (Ab o_)
    have:=(Ac.1 this).1
    omega
  simp at this
  simp;omega
 refine ⟨c,fun i v a e j=>?_⟩
 have f:=d i a j
 rw [Ci] at f
 have k:i<b:=by rw [<-h1];grind
 rw [Br k,Ci] at e
 exact h.2 _ v a e f
theorem BO {t:Nat} {d off:Nat} (h1:(P.info? t).map (·.size)=some d) (k:(P.underlying t).isSome=true) {vs:List Value} {cs:List AVal} (h:bT M ob vs cs)
  {l:List AVal} (j:lB d (jH off cs)=some l) {a:AVal} (b:aG P t=true->a= .agg l) (c:aG P t=false->l=[a]):∃ u,(part t vs.toArray off).run P w= .ok u w/\Rep M ob u a:=by
 have hp:=ZW h j
 cases m:aG P t with
 | true=>
  rw [b m]
  exact ⟨_,KF h1 k vs _ (fun _=>rfl) (fun e=>by grind),.agg _ l hp.1 hp.2⟩
 | false=>
  have f:=c m
  subst f
  obtain ⟨o,n⟩:=hp
  have i:d=1:=by have:=(iF j).1;simpa using this.symm
  subst i
  have p:((vs.drop off).take 1)[0]? =vs[off]?:=by rw [Br o_,Ci,Dy]
  have g:0<((vs.drop off).take 1).length:=by rw [o];simp
  refine ⟨((vs.drop off).take 1)[0],KF h1 k vs _ (fun e=>by grind) (fun _=>?_),n 0 _ a (Ab g) rfl⟩
  simp
theorem aBx (hE:EnvOK E) {s f:Nat} {v:Value} {a:AVal} (p:Rep M ob v a):PS0 E.P M ob w (Ln s v f) obs base (P7 E s a f):=by
 unfold P7
 split
 .rename_i G _ _ _ C
  have j:=hE.tab s _ C
  obtain ⟨⟨c,y,A⟩,_⟩:=j.kind
  split
  .exact trivial
  .rename_i off F m q
   obtain ⟨g,h,r,n,e3,D⟩:=A.get q
   split
   .rename_i cs
    split
    .exact trivial
    .rename_i l hl
     obtain ⟨vs,rfl,d,o⟩:=p.agg_inv
     have key:∀ x,(aG E.P g.type=true->x= .agg l)->(aG E.P g.type=false->l=[x])->PS0 E.P M ob w (Ln s (.agg vs.toArray) f) obs base (.val x):=by
      intro x h1 z
      obtain ⟨u,i,k⟩:=BO (P:=E.P) (w:=w) (t:=g.type) n e3 ⟨d,o⟩ hl h1 z
      refine aP (u:=u) ?_ k
      have b:c[f]? =some g:=by simpa using h
      unfold Ln
      simp only [Bc,run_underlying y,Au,b,asAgg,Bv,r,i]
     cases B:m with
     | true=>exact key _ (fun _=>rfl) (fun e=>by grind)
     | false=>
      simp only [cond_false]
      split
      .exact key _ (fun e=>by grind) (fun _=>rfl)
      .exact trivial
   .exact trivial
 .exact trivial
theorem I4 (hE:EnvOK E) {s f:Nat} {v:Value} {a:AVal} (h:Rep M ob v a):PS0 E.P M ob w (Kt s v f) obs base (tK E s a f):=by
 unfold tK
 split
 .rename_i G _ _ _ C
  have m:=hE.tab s _ C
  obtain ⟨⟨g,y,A⟩,_⟩:=m.kind
  split
  .exact trivial
  .rename_i off p D u
   obtain ⟨B,r,x,t,e3,F⟩:=A.get u
   have d:g[f]? =some B:=by simp_all
   cases hz:Av p 0 with
   | true=>exact trivial
   | false=>
    simp only [cond_false]
    have i:¬ p=0:=fun e=>by simp_all
    have key:∀ l,(Kt s (.pointer (some l)) f).run E.P w= .ok (.pointer (some (l.add off))) w:=fun l=>by
     unfold Kt Ho fieldPlace
     simp only [Bc,run_underlying y,Au,d,Bv,run_sizeOf t,if_neg i,x]
    split
    .obtain ⟨b,o,rfl,z⟩:=h.ptr_inv
     refine aP (key _) ?_
     rw [aW]
     exact .ptr b (o+off) _ fun j c q=>by rw [lC,Ci] at q;have:=z _ c q;grind
    .obtain ⟨b,rfl,k⟩:=h.ref_inv
     refine aP (key _) ?_
     rw [aW]
     exact .ref _ _ b k
    .cases h with
     | eref _ _ _ _ _ b n c k=>
      refine aP (key _) ?_
      rw [aW,Ks]
      exact .eref _ _ _ _ _ b n c k
    .exact trivial
 .exact trivial
theorem dG.len {v:Value} {c:Nat} {e:TypeId} {xs:List AVal} (h:dG M w v c e xs):(v= .slice none 0 0/\xs=[])\/∃ b cap,v= .slice (some ⟨b,0,none⟩) xs.length cap/\v.ownBlock=some b/\xs.length<=cap/\cap<=maxLen:=by
 obtain ⟨cv,h1,_⟩:=h
 rcases dB h1 with ⟨a,h3⟩ | a
 .exact .inl ⟨a,Al h3⟩
 .exact .inr a
theorem dW:(maxLen:Int)<=9223372036854775807:=by decide
theorem I3 (hE:EnvOK E) (hm:Mem M ob obs w) {t:Nat} {v X:Value} {a i:AVal} (C:Rep M ob v a) (L:Rep M ob X i):PS0 E.P M ob w (Hc t v X) obs base (tJ E (aC obs) t a i):=by
 unfold tJ
 split
 .rename_i ti _ n hT
  have y:=hE.tab t ti hT
  obtain ⟨rfl,hri⟩:=L.int_inv
  split
  .rename_i e l eb K
   have d:=y.kind
   rw [K] at d
   obtain ⟨⟨G,i',z,u,hs,_⟩,_⟩:=d
   have q:(E.P.info? e).map (·.size)=some l:=by grind
   have key:∀ (r:Addr) (len cap:Nat) (k:IntKind) (i:Nat),i<len->(Hc t (.slice (some r) len cap) (.int k (i:Int))).run E.P w= .ok (.pointer (some (r.add (i*l)))) w:=fun r len cap k i h1=>by
    unfold Hc
    simp only [Bc,asIntOf,Bv,Au,run_underlying G]
    rw [if_pos ⟨by omega,by omega⟩]
    simp only [Bc,run_sizeOf q,Au,Bv,Dl]
   have slc:∀ {S:Value} {xs:List AVal} {U:Tk},Rep M ob S (.slice l xs U)->∀ (k:IntKind) (i:Nat) x,xs[i]? =some x->PS0 E.P M ob w (Hc t S (.int k (i:Int))) obs base (.val (.ptr x.cells)):=fun {S xs U} hr k i x s=>by
    have F:i<xs.length:=(Ac.1 s).1
    cases hr.untok.1 with
    | slnil=>simp at F
    | slemp=>simp at F
    | sl _ b o n1 cap _ _ hn W Q hz I _=>
     refine aP (key _ n1 cap _ i o_) ?_
     rw [aW]
     exact .ptr b _ _ fun j c hj=>I i j x c s hj
   split
   .rename_i B xs tt
    refine sdc fun R=>?_
    obtain rfl:=aB R
    rintro i rfl x s
    exact slc C _ i x s
   .rename_i k g
    obtain ⟨a,n',c,rfl,f⟩:=C.row_inv
    split
    .rename_i Z B e' xs p
     refine sdc fun D=>?_
     obtain ⟨h,m⟩:=aQ D
     obtain rfl:=aB h
     obtain rfl:=aB m
     rintro i rfl u
     obtain ⟨hs',v,h1,V,h3,T,h5,_⟩:=hm.rowOf (bQ p s_)
     rw [T] at f
     cases f
     rcases h5.len with ⟨Y,rfl⟩ | ⟨b,cap,Y,e2,_⟩
     .simp at u
     .cases Y
      refine aP (key _ _ _ _ i u) ?_
      rw [aW,Lr 0]
      exact .eref k _ i B 0 b _ _ T
    .rename_i Z B xs p
     refine sdc fun D=>?_
     obtain ⟨h,m⟩:=aQ D
     obtain rfl:=aB h
     obtain rfl:=aB m
     rintro i rfl x s
     obtain ⟨hs',h1,v,V,h3⟩:=hm.obj k _ (bQ p s_)
     rw [cA h1,V] at f
     cases f
     exact slc h3.pure _ i x s
    .exact trivial
   .rename_i k g lo len B
    split
    .rename_i Z sz' e' xs p
     refine sdc fun D=>?_
     obtain ⟨A,O⟩:=aQ D
     obtain ⟨h,m⟩:=aQ A
     obtain rfl:=aB h
     obtain rfl:=aB m
     obtain rfl:=aB O
     rintro i rfl u
     cases C with
     | sub _ _ _ _ _ b n' c f hl hn N Q=>
      refine aP (key _ _ _ _ i u) ?_
      rw [aW,<-Bz]
      exact .eref k _ (lo+i) B 0 b _ _ f
     | sub0=>simp at u
    .exact trivial
   .exact trivial
  .rename_i len l ea K
   have d:=y.kind
   rw [K] at d
   obtain ⟨⟨e,G,q,_⟩,_⟩:=d
   have key:∀ (r:Addr) k,0<=n->n.toNat<len->(Hc t (.pointer (some r)) (.int k n)).run E.P w= .ok (.pointer (some (r.add (n.toNat*l)))) w:=fun r k h0 h1=>by
    unfold Hc Ho
    simp only [Bc,asIntOf,Bv,Au,run_underlying G]
    rw [if_pos ⟨h0,by omega⟩]
    simp only [Bc,run_sizeOf q,Au,Bv]
   split
   .rintro ⟨H,J⟩
    obtain ⟨b,rfl,hb⟩:=C.ref_inv
    refine aP (key _ _ H J) ?_
    rw [aW]
    exact .ref _ _ b hb
   .rintro ⟨H,J⟩
    obtain ⟨b,o,rfl,I⟩:=C.ptr_inv
    refine aP (key _ _ H J) ?_
    rw [aW]
    exact .ptr b _ _ fun j c N=>by rw [lC,Ci] at N;have:=I _ c N;rw [Ks];exact this
   .exact trivial
  .exact trivial
 .exact trivial
theorem aBw (hE:EnvOK E) {t:Nat} {v A:Value} {a i:AVal} (s:Rep M ob v a) (d:Rep M ob A i):PS0 E.P M ob w (Km t v A) obs base (P6 E t a i):=by
 unfold P6
 split
 .rename_i l k n
  obtain ⟨rfl,_⟩:=d.int_inv
  obtain ⟨rfl,_⟩:=s.str_inv
  split
  .rename_i _ _ _ p
   obtain ⟨j,_⟩:=(hE.tab t _ p).kind
   rintro i rfl c y
   refine ⟨rfl,.int .u8 c.toNat,?_,uI c⟩
   have m:i<l.length:=(Ac.1 y).1
   unfold Km
   simp only [Bc,asIntOf,Bv,Au,run_underlying j]
   rw [if_pos o_]
   have I:(⟨l.toArray⟩:ByteArray)[i]? =some c:=by
    have:i<(⟨l.toArray⟩:ByteArray).size:=by simpa [ByteArray.size] using m
    rw [getElem?_pos (⟨l.toArray⟩:ByteArray) i this]
    have q:=(Ac.1 y).2
    rw [<-q]
    rfl
   simp_all
  .exact trivial
 .rename_i cs k n
  obtain ⟨rfl,_⟩:=d.int_inv
  split
  .rename_i len D B _ _ _ p
   obtain ⟨⟨e,j,b,h,G⟩,_⟩:=(hE.tab t _ p).kind
   split
   .rename_i l hl
    obtain ⟨vs,rfl,g,C⟩:=s.agg_inv
    have key:∀ x,0<=n->n<len->(aG E.P e=true->x= .agg l)->(aG E.P e=false->l=[x])->PS0 E.P M ob w (Km t (.agg vs.toArray) (.int k n)) obs base (.val x):=by
     intro x H h1 F h3
     obtain ⟨u,o,r⟩:=BO (P:=E.P) (w:=w) (t:=e) b h ⟨g,C⟩ hl F h3
     refine aP (u:=u) ?_ r
     unfold Km
     simp only [Bc,asIntOf,Bv,Au,run_underlying j]
     rw [if_pos ⟨H,h1⟩]
     simp only [Bc,run_sizeOf b,Au,o]
    cases z:B with
    | true=>exact fun f=>key _ f.1 f.2 (fun _=>rfl) (fun e=>by simp_all)
    | false=>
     simp only [cond_false]
     split
     .exact fun f=>key _ f.1 f.2 (fun e=>by simp_all) (fun _=>rfl)
     .exact trivial
   .exact trivial
  .exact trivial
 .exact trivial
theorem aGZ (hE:EnvOK E) (hm:Mem M ob obs w) {t ty:TypeId} {v:Value} {a:AVal} (m:Rep M ob v a):PS0 E.P M ob w (Ez #[t] ty #[v]) obs base (aG0 E (aC obs) t a):=by
 unfold aG0
 split
 .exact trivial
 .rename_i C G
  have d:=(hE.tab t C G).kind
  have f:∀ n:Nat,(n:Int)<=9223372036854775807->inR .i64 (n:Int):=fun n h=>⟨by simp only [bW];omega,by simp only [bI];omega⟩
  have s:Rep M ob (.int .i64 (0:Nat)) (.int .i64 (0:Nat)):=.int _ _ (f 0 d_)
  have slc:∀ {x:Value} {o:Nat} {xs:List AVal} {A:Tk} {e:TypeId},E.P.underlying t=some (.slice e)->Rep M ob x (.slice o xs A)->PS0 E.P M ob w (Ez #[t] ty #[x]) obs base (.val (.int .i64 xs.length)):=fun {x o xs A e} r hr=>by
   obtain ⟨a,c,rfl,_,_,y⟩:=hr.slice_inv
   exact aP (u:=.int .i64 xs.length) (by simp [Ez,run_underlying r,goInt]) (.int _ _ (f _ y))
  split
  .rename_i l g
   rw [g] at d
   obtain ⟨rfl,h⟩:=m.str_inv
   exact aP (u:=.int .i64 l.length) (by simp [Ez,run_underlying d.1,goInt,oJ]) (.int _ _ (f _ h))
  .rename_i g
   rw [g] at d
   exact slc d.1.1 m
  .rename_i g
   rw [g] at d
   cases m
   exact aP (u:=.int .i64 (0:Nat)) (by simp [Ez,run_underlying d.1.1,goInt]) s
  .rename_i g
   rw [g] at d
   cases m with
   | csl _ _ _ _ b h j=>exact aP (u:=.int .i64 (Nat.cast _)) (by simp [Ez,run_underlying d.1.1,goInt]) (.int _ _ (f _ j))
  .rename_i g
   rw [g] at d
   cases m
   exact fun j=>aP (u:=.int .i64 (Nat.cast _)) (by simp [Ez,run_underlying d.1.1,goInt]) (.int _ _ (f _ j))
  .rename_i g
   rw [g] at d
   obtain ⟨a,n,c,rfl,i⟩:=m.row_inv
   split
   .rename_i D o e xs k
    refine sdc fun p=>?_
    obtain rfl:=aB p
    obtain ⟨hs',v,h1,B,h3,y,F,_⟩:=hm.rowOf (bQ k s_)
    rw [y] at i
    cases i
    rcases F.len with ⟨q,rfl⟩ | ⟨b,cap,q,H,e3,I⟩
    .cases q
     exact aP (u:=.int .i64 (0:Nat)) (by simp [Ez,run_underlying d.1.1,goInt]) s
    .cases q
     exact aP (u:=.int .i64 xs.length) (by simp [Ez,run_underlying d.1.1,goInt]) (.int _ _ (f _ (by have:=dW;omega)))
   .rename_i D o xs k
    refine sdc fun p=>?_
    obtain rfl:=aB p
    obtain ⟨hs',h1,v,B,h3⟩:=hm.obj _ _ (bQ k s_)
    rw [cA h1,B] at i
    cases i
    exact slc d.1.1 (h3.pure (M:=M) (ob:=ob))
   .exact trivial
  .rename_i g
   rw [g] at d
   cases m with
   | sub _ _ _ _ _ b n c i hl z K j=>exact aP (u:=.int .i64 (Nat.cast _)) (by simp [Ez,run_underlying d.1.1,goInt]) (.int _ _ (f _ o_))
   | sub0 _ _ _ _ a J n c=>exact aP (u:=.int .i64 (0:Nat)) (by simp [Ez,run_underlying d.1.1,goInt]) s
  .rename_i _ g
   rw [g] at d
   obtain ⟨⟨e,r,_⟩,_⟩:=d
   intro z
   exact aP (u:=.int .i64 (Nat.cast _)) (by simp [Ez,run_underlying r,goInt]) (.int _ _ (f _ z))
  .exact trivial
end
def VM (P:Program) (M:Imm) (ob:Hs) (obs:List AObj) (w:World) (s:Sem Value) (v:AVal) (obs':List AObj):Prop:=
 ∃ u w' M' ob',s.run P w= .ok u w'/\Ext M ob obs w M' ob' obs' w'/\Mem M' ob' obs' w'/\cD ob obs ob' obs'/\Rep M' ob' u v
abbrev PM (P:Program) (M:Imm) (ob:Hs) (w:World) (s:Sem Value) (obs:List AObj) (base:Nat) (r:OR):Prop:=Sd (VM P M ob obs w s) (fun _ _=>False) (fun _=>False) obs base r
section
variable {P:Program} {E:Env} {M:Imm} {ob:Hs} {obs:List AObj} {w:World} {base:Nat}
theorem PM.of (hm:Mem M ob obs w) {s:Sem Value} {r:OR} (h:PS0 P M ob w s obs base r):PM P M ob w s obs base r:=
 Sd.mono (fun v o ⟨h1,u,a,h3⟩=>⟨u,w,M,ob,a,h1▸Ext.refl _ _ _ _,h1▸hm,h1▸cD.refl _ _,h3⟩) (fun _ _ h=>h) (fun _ h=>h) h
theorem bR.pm {ρv:Operand->Value} {op:Op} {ty:TypeId} {r:OR} {s:Sem Value}
  (f:∀ d pos a g,execOp ρv ⟨d,op,ty,pos,a,g⟩=(s >>= fun v=>Pure.pure (.value v))) (h:PM P M ob w s obs base r):bR P ρv op ty M ob obs w base r:=
 Sd.mono (fun v o ⟨u,w',M',ob',i,h3,e,c,b⟩=>⟨u,w',M',ob',fun d pos a g=>.inl (by simp_all),h3,e,c,b⟩) (fun _ _ h=>h.elim) (fun _ h=>h.elim) h
def D0 (M:Imm) (ob:Hs) (v:Option Value) (a:Option AVal):Prop:=(v=none/\a=none)\/∃ u x,v=some u/\a=some x/\Rep M ob u x
def aCd (v:Option Value) (q:Option Nat):Prop:=(v=none/\q=none)\/∃ (k:IntKind) (n:Nat),v=some (.int k n)/\q=some n
theorem qZ {s:Sem Value} {a:Option Value} {l:Option AVal} (h:D0 M ob a l) {f:Option Nat->OR} (k:∀ q,aCd a q->PS0 P M ob w s obs base (f q)):PS0 P M ob w s obs base (bnd l f):=by
 rcases h with ⟨rfl,rfl⟩ | ⟨u,x,rfl,rfl,b⟩
 .exact k none (.inl ⟨rfl,rfl⟩)
 .cases x with
  | int c n=>
   obtain ⟨rfl,_⟩:=b.int_inv
   rintro i rfl
   exact k (some i) (.inr ⟨c,i,rfl,rfl⟩)
  | _=>exact trivial
theorem aCd.none {v:Option Value} (h:aCd v none):v=none:=by rcases h with ⟨h,_⟩ | ⟨_,_,_,h⟩;exact h;cases h
theorem aCd.some {v:Option Value} {n:Nat} (h:aCd v (some n)):∃ k,v=some (.int k n):=by rcases h with ⟨_,h⟩ | ⟨k,n,h1,h⟩;cases h;grind
theorem C7 {t e:TypeId} (h:P.underlying t=some (.slice e)):P.underlying t=some (.slice (P.elem t))/\P.elem t=e:=by
 have:P.elem t=e:=by simp [Program.elem,h]
 grind
theorem NV {v:Value} {f:Nat} {xs:List AVal} (h:Rep M ob v (.slice f xs .no)):∃ a n c,v= .slice a n c/\xs.length=n/\n<=c/\∀ l d,l<=d->d<=n->
  Rep M ob (sliced a l d c f) (.slice f ((xs.take d).drop l) .no)/\(Rep M ob (sliced a l d d f) (.slice f ((xs.take d).drop l) .no)):=by
 cases h with
 | slnil f=>
  refine ⟨none,0,0,rfl,rfl,Bi _,fun l d h1 u=>?_⟩
  have:d=0:=o_
  subst this
  have:l=0:=o_
  subst this
  exact ⟨.slnil f .no trivial,.slnil f .no trivial⟩
 | slemp f _ a cap=>
  refine ⟨some a,0,cap,rfl,rfl,Cc _,fun l d h1 u=>?_⟩
  have:d=0:=o_
  subst this
  have:l=0:=o_
  subst this
  have hs:∀ m,∃ b c,sliced (some a) 0 0 m f= .slice (some b) 0 c:=fun m=>by
   unfold sliced
   grind
  obtain ⟨F,G,z⟩:=hs cap
  obtain ⟨D,C,w⟩:=hs 0
  rw [z,w]
  exact ⟨.slemp _ _ _ _ trivial,.slemp _ _ _ _ trivial⟩
 | sl f b o n c xs _ y t A hz B=>
  refine ⟨_,n,c,rfl,y,t,fun l d h1 u=>?_⟩
  have s:∀ m,d<=m->Rep M ob (sliced (some ⟨b,o,none⟩) l d m f) (.slice f ((xs.take d).drop l) .no):=by
   intro m hm
   have g:((xs.take d).drop l).length=d-l:=by simp;omega
   have r:∀ x∈(xs.take d).drop l,x.cells.length=f:=fun x k=>hz x (Cx (Ed k))
   have p:∀ (i:Nat) x,((xs.take d).drop l)[i]? =some x->xs[l+i]? =some x:=fun i x k=>by
    rw [Ci,Fs] at k
    split at k
    .exact k
    .cases k
   by_cases q:m=l
   .have e:sliced (some ⟨b,o,none⟩) l d m f= .slice (some ⟨b,o,none⟩) (d-l) (m-l):=by simp [sliced,q]
    rw [e]
    refine .sl f b o _ _ _ _ g o_ o_ r (fun i j x c k t=>?_) trivial
    have:i<d-l:=by rw [<-g];exact (Ac.1 k).1
    omega
   .have e:sliced (some ⟨b,o,none⟩) l d m f= .slice (some ⟨b,o+l*f,none⟩) (d-l) (m-l):=by simp [sliced,q,aW]
    rw [e]
    refine .sl f b _ _ _ _ _ g o_ o_ r (fun i j x c k t=>?_) trivial
    have:=B _ j x c (p i x k) t
    rwa [Bz,<-Ks] at this
  exact ⟨s c o_,s d (Bi _)⟩
theorem sW {k g x y d:Nat} {a:Option Addr} {n c:Nat} (m:a=none/\n=0/\c=0\/∃ b,a=some ⟨b,0,none⟩) (f:at' ob k g=some (.slice a n c)) (l:n<=c) (j:x<=y) (o:y<=n) (i:(n:Int)<=9223372036854775807):
  Rep M ob (sliced a x y c d) (.sub k g x (y-x) d):=by
 by_cases h:c=x
 .have e:sliced a x y c d= .slice a 0 0:=by
   have:y-x=0:=o_
   simp [sliced,h,this]
  rw [e]
  have:y-x=0:=o_
  rw [this]
  exact .sub0 k g x d a a n c f o_ o_
 .rcases m with ⟨rfl,rfl,rfl⟩ | ⟨b,rfl⟩
  .omega
  .have e:sliced (some ⟨b,0,none⟩) x y c d= .slice (some ⟨b,x*d,none⟩) (y-x) (c-x):=by simp [sliced,h,aW]
   rw [e]
   exact .sub k g x (y-x) d b n c f o_ o_ l i
theorem nY {k g lo x y a b n c:Nat} (d:at' ob k g=some (.slice (some ⟨b,0,none⟩) n c)) (hl:lo<c) (l:n<=c) (j:x<=y) (m:lo+y<=n) (h:(n:Int)<=9223372036854775807):
  Rep M ob (sliced (some ⟨b,lo*a,none⟩) x y (c-lo) a) (.sub k g (lo+x) (y-x) a):=by
 by_cases f:c-lo=x
 .have i:y-x=0:=o_
  have e:sliced (some ⟨b,lo*a,none⟩) x y (c-lo) a= .slice (some ⟨b,lo*a,none⟩) 0 0:=by simp [sliced,f,i]
  rw [e,i]
  exact .sub0 k g (lo+x) a _ _ n c d o_ o_
 .have e:sliced (some ⟨b,lo*a,none⟩) x y (c-lo) a= .slice (some ⟨b,(lo+x)*a,none⟩) (y-x) (c-(lo+x)):=by
   simp [sliced,f,aW,Bz]
   omega
  rw [e]
  exact .sub k g (lo+x) (y-x) a b n c d o_ o_ l h
theorem aBm (hE:EnvOK E) (hm:Mem M ob obs w) {t:TypeId} {v:Value} {a:AVal} (hv:Rep M ob v a) {vlo vhi vmx:Option Value} {lo hi mx:Option AVal}
  (N:D0 M ob vlo lo) (L:D0 M ob vhi hi) (hmx:D0 M ob vmx mx):PS0 E.P M ob w (Gd t v vlo vhi vmx) obs base (PZ E (aC obs) t a lo hi mx):=by
 have I:mx=none->vmx=none:=fun e=>by
  rcases hmx with ⟨h,_⟩ | ⟨_,_,_,h,_⟩
  .exact h
  grind
 have U:lo=none->vlo=none:=fun e=>by
  rcases N with ⟨h,_⟩ | ⟨_,_,_,h,_⟩
  .exact h
  grind
 have X:hi=none->vhi=none:=fun e=>by
  rcases L with ⟨h,_⟩ | ⟨_,_,_,h,_⟩
  .exact h
  grind
 unfold PZ
 split
 .exact trivial
 .rename_i ti hT
  have hti:=hE.tab t ti hT
  have o:=hti.kind
  split
  .rename_i l
   obtain ⟨rfl,hlm⟩:=hv.str_inv
   split
   .have Q:=‹ti.kind=TK.str›
    rw [Q] at o
    obtain rfl:=I rfl
    have G:=o.1
    have hb:∀ i j,(⟨l.toArray⟩:ByteArray).extract i j=⟨((l.take j).drop i).toArray⟩:=O6 l
    have hs:(⟨l.toArray⟩:ByteArray).size=l.length:=oJ l
    refine qZ N fun D r=>qZ L fun q f=>?_
    cases D with
    | none=>
     obtain rfl:=r.none
     cases q with
     | none=>
      obtain rfl:=f.none
      refine aP (u:=.string ⟨l.toArray⟩) ?_ (.str _ hlm)
      rw [run_sliceAt_string w t _ _ _ _ G]
      unfold Kn Fw
      simp only [Bc,run_underlying G,Au,Ii,Cv,if_false,Bv,hb,hs]
      simp
     | some y=>
      obtain ⟨k,rfl⟩:=f.some
      intro H
      refine aP (u:=.string ⟨(l.take y).toArray⟩) ?_ (.str _ q_)
      rw [run_sliceAt_string w t _ _ _ _ G]
      unfold Kn Fw Jg
      simp only [Bc,run_underlying G,Au,Ii,Cv,if_false,Bv,hb,hs,asIntOf]
      simp_all
    | some x=>
     obtain ⟨k,rfl⟩:=r.some
     cases q with
     | none=>
      obtain rfl:=f.none
      intro H
      refine aP (u:=.string ⟨(l.drop x).toArray⟩) ?_ (.str _ q_)
      rw [run_sliceAt_string w t _ _ _ _ G]
      unfold Kn Fw Jg
      simp only [Bc,run_underlying G,Au,Ii,Cv,if_false,Bv,hb,hs,asIntOf]
      simp_all
     | some y=>
      obtain ⟨K,rfl⟩:=f.some
      rintro ⟨H,c2⟩
      refine aP (u:=.string ⟨((l.take y).drop x).toArray⟩) ?_ (.str _ q_)
      rw [run_sliceAt_string w t _ _ _ _ G]
      unfold Kn Fw Jg
      simp only [Bc,run_underlying G,Au,Ii,Cv,if_false,Bv,hb,hs,asIntOf]
      rw [if_pos ⟨by omega,by omega⟩]
      simp;omega
   .exact trivial
  .rename_i A xs tt
   split
   .rename_i e esz eb Q
    rw [Q] at o
    obtain ⟨⟨G,ie,z,hi',hs,_⟩,_⟩:=o
    refine sdc fun hg=>?_
    obtain rfl:=aB hg
    obtain ⟨d,hel⟩:=C7 G
    have F:(E.P.info? (E.P.elem t)).map (·.size)=some A:=by grind
    obtain ⟨B,n,cap,rfl,O,J,key⟩:=NV hv.untok.1
    have p:=fun u:World=>run_sizeOf (P:=E.P) F u
    refine qZ N fun D r=>qZ L fun q f=>qZ hmx fun qmx bmx=>?_
    cases qmx with
    | none=>
     obtain rfl:=bmx.none
     cases D with
     | none=>
      obtain rfl:=r.none
      cases q with
      | none=>
       obtain rfl:=f.none
       refine aP (u:=sliced B 0 n cap A) ?_ ?_
       .rw [run_sliceAt_slice w t _ _ _ _ d,run_slice_all w t B n cap d,p];rfl
       .have:=(key 0 n o_ (Bi _)).1
        rw [<-O,Hu,Bx] at this
        rw [<-O];exact this
      | some y=>
       obtain ⟨k,rfl⟩:=f.some
       intro H
       refine aP (u:=sliced B 0 y cap A) ?_ ?_
       .rw [run_sliceAt_slice w t _ _ _ _ d,run_slice_h w t B n cap d k y o_ o_,p];rfl
       .have:=(key 0 y o_ o_).1
        rw [Bx] at this
        exact this
     | some x=>
      obtain ⟨k,rfl⟩:=r.some
      cases q with
      | none=>
       obtain rfl:=f.none
       intro H
       refine aP (u:=sliced B x n cap A) ?_ ?_
       .rw [run_sliceAt_slice w t _ _ _ _ d,run_slice_l w t B n cap d k x o_ o_,p];rfl
       .have:=(key x n o_ (Bi _)).1
        rw [<-O,Hu] at this
        rw [<-O];exact this
      | some y=>
       obtain ⟨K,rfl⟩:=f.some
       rintro ⟨H,c2⟩
       refine aP (u:=sliced B x y cap A) ?_ ?_
       .rw [run_sliceAt_slice w t _ _ _ _ d,run_slice_lh w t B n cap d k K x y o_ o_ o_,p];rfl
       .exact (key x y o_ o_).1
    | some m=>
     obtain ⟨km,rfl⟩:=bmx.some
     cases D with
     | some x=>cases q<;>exact trivial
     | none=>
      obtain rfl:=r.none
      cases q with
      | none=>exact trivial
      | some y=>
       obtain ⟨k,rfl⟩:=f.some
       rintro ⟨H,rfl⟩
       have hk2:=(key 0 m o_ o_).2
       rw [Bx] at hk2
       refine aP (u:=sliced B 0 m m A) ?_ ?_
       .rw [run_sliceAt_slice w t _ _ _ _ d,run_slice_hm w t B n cap d k km m m o_ (Di _) o_,p];rfl
       .exact hk2.tok ⟨_,m,rfl⟩
   .exact trivial
  .rename_i k g
   split
   .rename_i g' A e' xs _ Z
    have Q:=‹ti.kind=TK.slc _ _ _›
    rw [Q] at o
    refine sdc fun hg=>?_
    obtain ⟨hg1,hg2⟩:=aQ hg
    obtain rfl:=aB hg1
    obtain rfl:=aB hg2
    obtain ⟨⟨G,ie,z,hi',hs,_⟩,_⟩:=o
    obtain ⟨d,hel⟩:=C7 G
    have F:(E.P.info? (E.P.elem t)).map (·.size)=some A:=by simp_all
    have p:=fun u:World=>run_sizeOf (P:=E.P) F u
    obtain rfl:=I rfl
    obtain ⟨B,n,cap,rfl,s⟩:=hv.row_inv
    obtain ⟨hs',v,h1,h2,h3,h4,h5,_⟩:=hm.rowOf (bQ Z s_)
    rw [s] at h4
    cases h4
    have O:n=xs.length/\n<=cap/\(n:Int)<=9223372036854775807/\(B=none/\n=0/\cap=0\/∃ b,B=some ⟨b,0,none⟩):=by
     rcases h5.len with ⟨e1,rfl⟩ | ⟨b,c,e1,e2,e3,e4⟩
     .cases e1;simp
     .cases e1;exact ⟨rfl,e3,by have:=dW;omega,.inr ⟨b,rfl⟩⟩
    obtain ⟨O,J,C,T⟩:=O
    refine qZ N fun D r=>qZ L fun q f=>?_
    cases D with
    | none=>
     obtain rfl:=r.none
     cases q with
     | none=>
      obtain rfl:=f.none
      refine aP (u:=.slice B n cap) ?_ hv
      rw [run_sliceAt_slice w t _ _ _ _ d,run_slice_all w t B n cap d,p]
      show Result.ok (sliced B 0 n cap A) w=_
      congr 1
      rcases T with ⟨rfl,rfl,rfl⟩ | ⟨b,rfl⟩
      .rfl
      .simp [sliced,aW]
     | some y=>
      obtain ⟨K,rfl⟩:=f.some
      intro H
      refine aP (u:=sliced B 0 y cap A) ?_ (sW T s J (Cc _) o_ C)
      rw [run_sliceAt_slice w t _ _ _ _ d,run_slice_h w t B n cap d K y o_ o_,p];rfl
    | some x=>
     obtain ⟨Y,rfl⟩:=r.some
     cases q with
     | none=>
      obtain rfl:=f.none
      intro H
      refine aP (u:=sliced B x n cap A) ?_ ?_
      .rw [run_sliceAt_slice w t _ _ _ _ d,run_slice_l w t B n cap d Y x o_ o_,p];rfl
      .rw [<-O];exact sW T s J o_ o_ C
     | some y=>
      obtain ⟨K,rfl⟩:=f.some
      rintro ⟨H,c2⟩
      refine aP (u:=sliced B x y cap A) ?_ (sW T s J o_ o_ C)
      rw [run_sliceAt_slice w t _ _ _ _ d,run_slice_lh w t B n cap d Y K x y o_ o_ o_,p];rfl
   .exact trivial
  .rename_i k g S len A
   split
   .rename_i g' sz' e' xs _ Z
    have Q:=‹ti.kind=TK.slc _ _ _›
    rw [Q] at o
    refine sdc fun hg=>?_
    obtain ⟨hg12,hg3⟩:=aQ hg
    obtain ⟨hg1,hg2⟩:=aQ hg12
    obtain rfl:=aB hg1
    obtain rfl:=aB hg2
    obtain rfl:=aB hg3
    obtain ⟨⟨G,ie,z,hi',hs,_⟩,_⟩:=o
    obtain ⟨d,hel⟩:=C7 G
    have F:(E.P.info? (E.P.elem t)).map (·.size)=some A:=by rw [hel];simp [hi',hs]
    have p:=fun u:World=>run_sizeOf (P:=E.P) F u
    obtain rfl:=I rfl
    obtain ⟨hs',v,h1,h2,h3,h4,h5,_⟩:=hm.rowOf (bQ Z s_)
    have nl:∀ {n:Nat} {B:Option Addr} {cap:Nat},at' ob k g=some (.slice B n cap)->n=xs.length/\n<=cap:=fun {n B cap} s=>by
     rw [s] at h4
     cases h4
     rcases h5.len with ⟨e1,rfl⟩ | ⟨b,c,e1,e2,e3,e4⟩
     .cases e1;simp
     .cases e1;omega
    cases hv with
    | sub _ _ _ _ _ b n c s hl O R C=>
     obtain ⟨hnx,_⟩:=nl s
     refine qZ N fun D r=>qZ L fun q f=>?_
     cases D with
     | none=>
      obtain rfl:=r.none
      cases q with
      | none=>
       obtain rfl:=f.none
       refine aP (u:=sliced (some ⟨b,S*A,none⟩) 0 len (c-S) A) ?_ (nY s hl R (Cc _) O C)
       rw [run_sliceAt_slice w t _ _ _ _ d,run_slice_all w t _ len _ d,p];rfl
      | some y=>
       obtain ⟨K,rfl⟩:=f.some
       intro H
       refine aP (u:=sliced (some ⟨b,S*A,none⟩) 0 y (c-S) A) ?_ (nY s hl R (Cc _) o_ C)
       rw [run_sliceAt_slice w t _ _ _ _ d,run_slice_h w t _ len _ d K y o_ o_,p];rfl
     | some x=>
      obtain ⟨Y,rfl⟩:=r.some
      cases q with
      | none=>
       obtain rfl:=f.none
       intro H
       refine aP (u:=sliced (some ⟨b,S*A,none⟩) x len (c-S) A) ?_ (nY s hl R H O C)
       rw [run_sliceAt_slice w t _ _ _ _ d,run_slice_l w t _ len _ d Y x o_ o_,p];rfl
      | some y=>
       obtain ⟨K,rfl⟩:=f.some
       rintro ⟨H,c2⟩
       refine aP (u:=sliced (some ⟨b,S*A,none⟩) x y (c-S) A) ?_ (nY s hl R H o_ C)
       rw [run_sliceAt_slice w t _ _ _ _ d,run_slice_lh w t _ len _ d Y K x y o_ o_ o_,p];rfl
    | sub0 _ _ _ _ a W n c s hl R=>
     obtain ⟨hnx,_⟩:=nl s
     have e0:sliced W 0 0 0 A= .slice W 0 0:=by rfl
     have r0:Rep M ob (sliced W 0 0 0 A) (.sub k g S 0 A):=by rw [e0];exact .sub0 _ _ _ _ a W n c s hl R
     refine qZ N fun D r=>qZ L fun q f=>?_
     cases D with
     | none=>
      obtain rfl:=r.none
      cases q with
      | none=>
       obtain rfl:=f.none
       refine aP (u:=sliced W 0 0 0 A) ?_ r0
       rw [run_sliceAt_slice w t _ _ _ _ d,run_slice_all w t _ 0 _ d,p];rfl
      | some y=>
       obtain ⟨K,rfl⟩:=f.some
       intro H
       obtain rfl:y=0:=o_
       refine aP (u:=sliced W 0 0 0 A) ?_ r0
       rw [run_sliceAt_slice w t _ _ _ _ d,run_slice_h w t _ 0 _ d K ((0:Nat):Int) o_ o_,p];rfl
     | some x=>
      obtain ⟨Y,rfl⟩:=r.some
      cases q with
      | none=>
       obtain rfl:=f.none
       intro H
       obtain rfl:x=0:=o_
       refine aP (u:=sliced W 0 0 0 A) ?_ r0
       rw [run_sliceAt_slice w t _ _ _ _ d,run_slice_l w t _ 0 _ d Y ((0:Nat):Int) o_ o_,p];rfl
      | some y=>
       obtain ⟨K,rfl⟩:=f.some
       rintro ⟨H,c2⟩
       obtain rfl:y=0:=o_
       obtain rfl:x=0:=o_
       refine aP (u:=sliced W 0 0 0 A) ?_ r0
       rw [run_sliceAt_slice w t _ _ _ _ d,run_slice_lh w t _ 0 _ d Y K ((0:Nat):Int) ((0:Nat):Int) o_ o_ o_,p];rfl
   .exact trivial
  .rename_i k off
   split
   .rename_i len esz ea Q
    rw [Q] at o
    obtain ⟨⟨e,G,F,_⟩,_⟩:=o
    obtain rfl:=I rfl
    obtain rfl:=U rfl
    obtain rfl:=X rfl
    intro C
    obtain ⟨b,rfl,hb⟩:=hv.ref_inv
    refine aP (u:=.slice (some ⟨b,off,none⟩) len len) ?_ (.csl _ _ _ _ b hb C)
    unfold Gd Ho Fw
    simp only [Bc,run_underlying G,Au,Bv,run_sizeOf F]
    simp [aW]
   .exact trivial
  .rename_i cs
   split
   .rename_i len Q
    rw [Q] at o
    obtain ⟨⟨e,G,F,_⟩,_⟩:=o
    obtain rfl:=I rfl
    obtain rfl:=U rfl
    obtain rfl:=X rfl
    split
    .rename_i l hl
     refine sdc fun V=>?_
     intro C
     obtain ⟨t1,t2⟩:=iF hl
     obtain ⟨b,o',rfl,hM⟩:=hv.ptr_inv
     refine aP (u:=.slice (some ⟨b,o',none⟩) len len) ?_ (.sl 1 b o' len len l _ t1 (Bi _) C (fun x hx=>?_) (fun i j x c hx R=>?_) ⟨_,len,rfl⟩)
     .unfold Gd Ho Fw
      simp only [Bc,run_underlying G,Au,Bv,run_sizeOf F]
      simp [aW]
     .obtain ⟨i,hi⟩:=Ch hx
      rw [mX (kK V i x hi)];rfl
     .rw [mX (kK V i x hx)] at R
      cases j with
      | succ j=>simp at R
      | zero=>
       simp at R
       subst R
       have:=hM i x (t2 i x hx)
       grind
    .exact trivial
   .exact trivial
  .exact trivial
end
section
variable {P:Program} {E:Env} {M:Imm} {ob:Hs} {obs:List AObj} {w:World} {base:Nat}
theorem XV {α:Type} (l:List α):(l.drop 0).take l.length=l:=by simp
theorem XY (hm:Mem M ob obs w) {x:Value} {a:AVal} (u:Rep M ob x a) {t:Nat} {xs:List AVal} (h:aCG (aC obs) a=some (t,xs)) (hs:0<t) {K N:TypeId} (q:P.underlying K=some (.slice N)):
  SrcA P M w t K x xs/\∃ i c,x= .slice i xs.length c/\(i=none->xs=[]/\c=0):=by
 unfold aCG at h
 split at h
 .cases h
  obtain ⟨i,c,e,A,_⟩:=u.slice_inv
  exact ⟨SrcA.ofSlice hm hs q u,i,c,e,A⟩
 .rename_i k g
  obtain ⟨i,n,c,rfl,d⟩:=u.row_inv
  split at h
  .rename_i I r e xs' f
   obtain ⟨o,h⟩:=dZ h
   cases h
   obtain rfl:=aB o
   have l:=bQ f s_
   obtain ⟨hs',v,h1,G,h3,j,z,_⟩:=hm.rowOf l
   rw [d] at j
   cases j
   have hl:n=xs.length/\(i=none->xs=[]/\c=0):=by
    rcases z.len with ⟨m,rfl⟩ | ⟨b,c,m,S,e3,U⟩
    .simp_all
    grind
   obtain ⟨rfl,B⟩:=hl
   have:=SrcA.ofRow hm hs l q d (lo:=0) (len:=xs.length) o_ (x:=.slice i xs.length c) (fun b J y e _=>by cases e;simp) (fun h=>⟨i,c,by rw [h]⟩)
   rw [XV] at this
   exact ⟨this,i,c,rfl,B⟩
  .rename_i I r xs' f
   obtain ⟨o,h⟩:=dZ h
   cases h
   obtain rfl:=aB o
   obtain ⟨hs',h1,v,G,h3⟩:=hm.obj _ _ (bQ f s_)
   rw [cA h1,G] at d
   cases d
   have p:=h3.pure (M:=M) (ob:=ob)
   obtain ⟨C,y,e,A,_⟩:=p.slice_inv
   exact ⟨SrcA.ofSlice hm hs q p,C,y,e,A⟩
  .cases h
 .rename_i k g lo len t
  split at h
  .rename_i I r e xs' f
   obtain ⟨o,h⟩:=dZ h
   cases h
   obtain ⟨D,H⟩:=aQ o
   obtain rfl:=aB D
   obtain rfl:=aB H
   have l:=bQ f s_
   obtain ⟨hs',v,h1,G,h3,j,z,_⟩:=hm.rowOf l
   cases u with
   | sub _ _ _ _ _ b n c d hl T R L=>
    rw [d] at j
    cases j
    have F:n=xs'.length:=by
     rcases z.len with ⟨m,_⟩ | ⟨b,c,m,_⟩
     .cases m
     grind
    have s:((xs'.drop lo).take len).length=len:=by simp;omega
    refine ⟨SrcA.ofRow hm hs l q d (lo:=lo) (len:=len) o_ (fun O J y e _=>by cases e;simp) (fun h=>⟨_,_,by rw [h]⟩),_,_,by rw [s],fun e=>by cases e⟩
   | sub0 _ _ _ _ i Q n c d hl R=>
    rw [d] at j
    cases j
    have F:n=xs'.length:=by
     rcases z.len with ⟨m,rfl⟩ | ⟨b,c,m,_⟩
     .simp_all
     grind
    refine ⟨SrcA.ofRow hm hs l q d (lo:=lo) (len:=0) o_ (fun O J y e h=>absurd rfl h) (fun _=>⟨_,_,rfl⟩),Q,0,by simp,fun _=>⟨by simp,rfl⟩⟩
  .cases h
 .cases h
theorem NU (hE:EnvOK E) (hm:Mem M ob obs w) {x:Value} {a:AVal} (g:Rep M ob x a) {b d:Nat} {ys:List AVal} (h:XZ E (aC obs) b d a=some ys) (hs:0<b):SrcA E.P M w b d x ys:=by
 unfold XZ at h
 split at h
 .rename_i l
  split at h
  .rename_i _ _ _ e
   obtain ⟨f,h⟩:=dZ h
   cases h
   obtain rfl:=aB f
   obtain ⟨rfl,_⟩:=g.str_inv
   exact SrcA.ofStr (hE.tab d _ e).kind.1 l
  .cases h
 .split at h
  .rename_i _ _ _ _ _ _ e
   cases h
   cases g
   exact ⟨⟨[],Src.ofNil w (hE.tab d _ e).kind.1.1 0,fun q c k=>by simp [cellAt] at k⟩,fun y j=>by simp at j,fun m hm=>BI hm⟩
  .cases h
 .split at h
  .rename_i _ _ _ _ _ _ n xs e i
   obtain ⟨f,h⟩:=dZ h
   cases h
   obtain rfl:=aB f
   exact (XY hm g i hs (hE.tab d _ e).kind.1.1).1
  .cases h
theorem YC {s d e:TypeId} {a:Option Addr} {l:List UInt8} {c:Nat} (p:P.underlying s=some (.slice e)) (x:P.underlying e=some (.int .u8)) (q:P.underlying d=some .string)
  (y:a=none->l=[]/\c=0) (hs:SrcA P M w 1 s (.slice a l.length c) (l.map ub)):(convert s d (.slice a l.length c)).run P w= .ok (.string ⟨l.toArray⟩) w:=by
 rw [run_convert_bytes_string w s d e a l.length c p x q]
 cases a with
 | none=>
  obtain ⟨rfl,rfl⟩:=y rfl
  rfl
 | some a=>
  obtain ⟨⟨news,b,o⟩,_⟩:=hs
  have t:news.length=l.length:=by rw [b.newsLen];simp
  have g:news=(l.map fun c=>(c.toNat:Int)).map (Je .u8):=by
   refine Ek fun j=>?_
   by_cases m:j<l.length
   .obtain ⟨u,k,i⟩:=o j (ub l[j]) (by rw [xL,Ab m];rfl)
    rw [k,i.int_inv.1]
    simp [Ab m]
   .rw [Bj o_,Bj q_]
  have h:(loadCells a l.length).run P w= .ok news.toArray w:=by
   have:=b.cells
   rw [Ck] at this
   have e:Cj 1 l.length (.slice (some a) l.length c)=loadCells a (l.length*1):=rfl
   rw [e,Nat.mul_one] at this
   exact this
  rw [g] at h
  rw [run_bytesToString w a l.length c _ h]
  congr 2
  have f:∀ (l:List UInt8) (r:ByteArray),(l.map fun c=>(c.toNat:Int)).foldl (fun r n=>r.push (UInt8.ofNat n.toNat)) r=⟨r.data++l.toArray⟩:=by
   intro l
   induction l with
   | nil=>simp
   | cons c l v=>
    intro r
    simp only [Bk,Aq,v]
    simp
  rw [f]
  simp
theorem zJ (w:World) (e:TypeId) (s:ByteArray):(Lib.bytesWorld w e s).os=w.os/\(Lib.bytesWorld w e s).tape=w.tape/\(Lib.bytesWorld w e s).output=w.output:=⟨rfl,rfl,rfl⟩
theorem aEu (hE:EnvOK E) (hm:Mem M ob obs w) {s d:TypeId} {v:Value} {a:AVal} (C:Rep M ob v a):PM E.P M ob w (convert s d v) obs base (aBA E (aC obs) s d a):=by
 unfold aBA
 split
 .rename_i ts L hs W
  have g:=(hE.tab s ts hs).kind
  have f:=(hE.tab d L W).kind
  obtain ⟨A,_⟩:=g.isAgg
  obtain ⟨ds,G⟩:=Db.1 A
  split
  .rename_i k k0 n z
   rw [z] at f
   obtain ⟨rfl,_⟩:=C.int_inv
   have key:(convert s d (.int k0 n)).run E.P w= .ok (.int k (k.wrap n)) w:=by
    simp [convert,run_underlying G,run_underlying f.1,Conv.intToInt]
   refine PM.of hm ⟨fun hp=>⟨rfl,_,by rw [key,iT hp],.int _ _ hp⟩,rfl,_,key,.int _ _ (kT _ _)⟩
  .rename_i l z
   rw [z] at f
   obtain ⟨rfl,hl⟩:=C.str_inv
   split
   .rename_i m
    rw [m] at g
    refine PM.of hm (aP (u:=.string ⟨l.toArray⟩) ?_ (.str _ hl))
    simp [convert,run_underlying g.1,run_underlying f.1]
   .exact trivial
  .rename_i e O l z
   rw [z] at f
   obtain ⟨⟨K,_⟩,_⟩:=f
   obtain ⟨rfl,hl⟩:=C.str_inv
   split
   .rename_i _ _ _ m J
    rw [m] at g
    have t:=(hE.tab e _ J).kind.1
    have q:=Lib.run_convert_string_bytes (P:=E.P) w s d e ⟨l.toArray⟩ g.1 K t
    rw [oJ] at q
    obtain ⟨X,T,R⟩:=zJ w e ⟨l.toArray⟩
    have key:∀ (j:Nat) c,l[j]? =some c->(Lib.bytesWorld w e ⟨l.toArray⟩).cell? ⟨w.heap.size,j,none⟩=some (.int .u8 c.toNat):=fun j c N=>by
     have H:j<l.length:=(Ac.1 N).1
     rw [Lib.bytesWorld_cell w e ⟨l.toArray⟩ j (by rw [oJ];exact H)]
     simp [List.getD,N]
    obtain ⟨V,m2⟩:=hm.more (M':=fun b o y=>M b o y\/(b=w.heap.size/\∃ c,l[o]? =some c/\y=ub c)) (w':=Lib.bytesWorld w e ⟨l.toArray⟩) (fun _ _ _ h=>.inl h) (fun b o y r=>by
      rcases r with r | ⟨rfl,_⟩
      .exact .inl r
      omega) (fun b o y r=>by
      rcases r with r | ⟨rfl,c,B,rfl⟩
      .obtain ⟨v,h1,Z,h3⟩:=hm.imm b o y r
       exact ⟨v,(Lib.bytesWorld_old w e _ _ (Cy w _ h1)).trans h1,Z,h3.monoM fun _ _ _ h=>.inl h⟩
      .exact ⟨_,key o c B,rfl,uI c⟩) (fun b U=>Lib.bytesWorld_at_old w e _ b U) X T R (by rw [Lib.bytesWorld_size];omega)
    refine ⟨_,_,_,ob,q,m2,V,cD.refl _ _,.sl 1 w.heap.size 0 _ _ _ _ s_ (grownCap_ge w _ 0 e) hl (fun x D=>Q9 l x D) (fun i j x c D B=>?_) trivial⟩
    rw [Bd] at D
    obtain ⟨Y,Q,rfl⟩:=Cq.1 D
    cases j with
    | succ j=>simp [ub,AVal.cells] at B
    | zero=>
     simp [ub,AVal.cells] at B
     subst B
     exact .inr ⟨rfl,Y,by simp;omega,rfl⟩
   .exact trivial
  .have z:=‹L.kind=TK.str›
   rw [z] at f
   split
   .rename_i e O xs m S
    rw [m] at g
    split
    .rename_i _ _ _ J
     have t:=(hE.tab e _ J).kind.1
     intro l I F
     subst I
     obtain ⟨p,ad,c,rfl,h0⟩:=XY (P:=E.P) hm C S d_ g.1.1
     refine ⟨_,w,M,ob,?_,Ext.refl _ _ _ _,hm,cD.refl _ _,.str l F⟩
     rw [Ck] at p⊢
     exact YC g.1.1 t f.1 (fun e=>by grind) p
    .exact trivial
   .exact trivial
  .exact trivial
 .exact trivial
theorem F5 (off:Nat):∀ (l:List Value) (k:Nat) (cells:Array Value),((l.zipIdx k).foldl (fun (cs:Array Value) (p:Value×Nat)=>cs.setIfInBounds (off+p.2) p.1) cells).size=cells.size/\
  ∀ (i:Nat),((l.zipIdx k).foldl (fun (cs:Array Value) (p:Value×Nat)=>cs.setIfInBounds (off+p.2) p.1) cells)[i]? =if off+k<=i/\i<off+k+l.length/\i<cells.size then l[i-(off+k)]? else cells[i]?
 | [],k,cells=>by
  refine ⟨rfl,fun i=>?_⟩
  simp
  omega
 | c::l,k,cells=>by
  obtain ⟨h1,d⟩:=F5 off l (k+1) (cells.setIfInBounds (off+k) c)
  simp only [List.zipIdx_cons,Aq]
  refine ⟨by rw [h1];simp,fun i=>?_⟩
  rw [d]
  simp only [Array.size_setIfInBounds,Bt]
  by_cases b:i=off+k
  .subst b
   rw [if_neg o_]
   by_cases hs:off+k<cells.size
   .rw [if_pos ⟨by omega,by omega,hs⟩]
    simp [hs]
   .rw [if_neg o_]
    rw [Array.getElem?_setIfInBounds_self]
    simp [hs]
  .rw [Dk o_]
   by_cases a:off+(k+1)<=i/\i<off+(k+1)+l.length/\i<cells.size
   .rw [if_pos a,if_pos ⟨by omega,by omega,a.2.2⟩]
    have:i-(off+k)=(i-(off+(k+1)))+1:=o_
    rw [this,Fe]
   .rw [if_neg a,if_neg o_]
def DZ (M:Imm) (ob:Hs) (vs:List (Nat×Value)) (as:List (Nat×AVal)):Prop:=
 vs.length=as.length/\∀ (i:Nat) (p:Nat×Value) (q:Nat×AVal),vs[i]? =some p->as[i]? =some q->p.1=q.1/\Rep M ob p.2 q.2
theorem tG {place d:Nat->Option (Nat×Nat)} (hp:∀ i p,d i=some p->place i=some p):
  ∀ {b:List (Nat×AVal)} {vparts:List (Nat×Value)} {cs cs':List AVal} {cells:Array Value},C9 d cs b=some cs'->bT M ob cells.toList cs->DZ M ob vparts b->
   ∃ a,Instr.fill place cells vparts=some a/\bT M ob a.toList cs':=by
 intro b
 induction b with
 | nil=>
  intro vparts cs cs' cells h s hl
  have:vparts=[]:=Al hl.1
  subst this
  cases h
  exact ⟨cells,rfl,s⟩
 | cons q b N=>
  intro vparts cs cs' cells h s hl
  obtain ⟨hl,D⟩:=hl
  obtain ⟨i,x⟩:=q
  match vparts,hl with
  | (i',v)::vparts,hl=>
   obtain ⟨F,f⟩:=D 0 _ _ rfl rfl
   dsimp only at F f
   subst F
   simp only [C9] at h
   split at h
   .cases h
   .rename_i off Q C
    obtain ⟨I,w⟩:=dZ h
    obtain ⟨A,y⟩:=aQ I
    have B:x≠ .undef:=fun e=>by subst e;cases A
    have r:=aB y
    rw [vR] at r
    split at w
    .rename_i t l
     obtain ⟨U,R,L⟩:=iY l
     obtain ⟨O,z⟩:=f.cells B
     have H:v.cells.size=x.cells.length:=o_
     obtain ⟨T,J⟩:=F5 off v.cells.toList 0 cells
     have G:cells.size=cs.length:=by have:=s.1;omega
     have g:v.cells.zipIdx.foldl (fun (cs:Array Value) (x:Value×Nat)=>match x with | (c,j)=>cs.setIfInBounds (off+j) c) cells=(v.cells.toList.zipIdx 0).foldl (fun (cs:Array Value) (p:Value×Nat)=>cs.setIfInBounds (off+p.2) p.1) cells:=by
      rw [<-Array.foldl_toList]
      simp
     have k:bT M ob ((v.cells.toList.zipIdx 0).foldl (fun (cs:Array Value) (p:Value×Nat)=>cs.setIfInBounds (off+p.2) p.1) cells).toList t:=by
      refine ⟨by simp;omega,fun j u c m o=>?_⟩
      rw [Array.getElem?_toList,J j] at m
      rw [L j] at o
      simp only [Dy] at m
      by_cases n:off<=j/\j<off+x.cells.length
      .rw [if_pos n] at o
       rw [if_pos ⟨by omega,by omega,by omega⟩] at m
       exact z _ u c m o
      .rw [if_neg n] at o
       rw [if_neg o_] at m
       exact s.2 j u c q_ o
     obtain ⟨a,P,K⟩:=N (vparts:=vparts) w k ⟨by simpa using hl,fun i p q hp S=>D (i+1) p q q_ q_⟩
     refine ⟨a,?_,K⟩
     simp only [Instr.fill,hp _ _ C]
     rw [if_neg]
     .rw [g];exact P
     simp;omega
    .cases w
theorem yF {P:Program}:∀ {a:List Field} {b:List (Nat×Nat×Bool)},nT P a b->a.mapM (fun f=>(P.info? f.type).map fun i=>(f.offset,i.size))=some (b.map fun f=>(f.1,f.2.1))
 | [],[],_=>rfl
 | [],_::_,h=>h.elim
 | _::_,[],h=>h.elim
 | f::a,(off,sz,ag)::b,h=>by
  obtain ⟨h1,e,h3,g,c⟩:=h
  obtain ⟨i,d,rfl⟩:=Cq.1 e
  simp [List.mapM_cons,d,yF c,h1]
theorem SA {α β:Type} (f:α->β):∀ (l:List α) (n:Nat),(nth l n).map f=(l.map f)[n]?
 | [],_=>by simp [nth]
 | x::_,0=>rfl
 | _::r,n+1=>by simpa [nth] using SA f r n
theorem aBC (hE:EnvOK E) {t:TypeId} {g:List (Nat×AVal)} {vparts:Array (Nat×Value)} (hl:DZ M ob vparts.toList g):PS0 E.P M ob w (Instr.build t vparts) obs base (P9 E t g):=by
 unfold P9
 split
 .rename_i H Q
  have q:=hE.tab t H Q
  obtain ⟨info,z,G,N,hz,K,h,_,_⟩:=q.info
  have c:=q.kind
  split
  .rename_i L A B l
   rw [B] at c
   obtain ⟨⟨D,u,O⟩,_⟩:=c
   split
   .rename_i cs d
    rw [l] at h
    cases h with
    | agg vs as r j=>
     have k:bT M ob vs.toArray.toList A:=⟨by omega,fun i v a I y=>iS (j i v a o_ y)⟩
     obtain ⟨b,C,o⟩:=tG (place:=((L.map fun f=>(f.1,f.2.1)).toArray[·]?)) (fun i p hp=>by rw [SA] at hp;simpa using hp) d k hl
     have m:E.P.built t vparts.toList=some b:=by
      simp only [Program.built,G,u,hz,yF O]
      exact C
     have:b=b.toList.toArray:=by simp
     rw [this] at m
     exact aP (run_build w t vparts _ m) (.agg _ _ o.1 o.2)
   .exact trivial
  .rename_i n J R A B l
   rw [B] at c
   obtain ⟨⟨e,u,x,_⟩,_⟩:=c
   obtain ⟨F,s,rfl⟩:=Cq.1 x
   split
   .rename_i cs d
    rw [l] at h
    cases h with
    | agg vs as r j=>
     have k:bT M ob vs.toArray.toList A:=⟨by omega,fun i v a I y=>iS (j i v a o_ y)⟩
     obtain ⟨b,C,o⟩:=tG (place:=fun i=>some (i*F.size,F.size)) (fun i p hp=>hp) d k hl
     have m:E.P.built t vparts.toList=some b:=by
      simp only [Program.built,G,u,hz,s]
      exact C
     have:b=b.toList.toArray:=by simp
     rw [this] at m
     exact aP (run_build w t vparts _ m) (.agg _ _ o.1 o.2)
   .exact trivial
  .exact trivial
 .exact trivial
end
section
variable {P:Program} {E:Env} {M:Imm} {ob:Hs} {obs:List AObj} {w:World} {base:Nat}
theorem Mem.bare (h:Mem M ob obs w):Mem M [] [] w:=
 ⟨h.imm,rfl,fun k c a=>by simp at a,fun k b ⟨c,hs,h1,_⟩=>by simp at h1,fun k d b ⟨c,hs,h1,_⟩=>by simp at h1⟩
theorem Z9:aC []=fun _=>AObj.dead:=by rfl
theorem Mem.pure0 (h:Mem M ob obs w) {v:Value} {a:AVal} (b:Rep (fun _ _ _=>False) [] v a):Rep M [] v (AW.pureV (fun _=>.dead) 4 a):=by
 have:=h.bare.pureV 4 v a (iS b)
 rwa [Z9] at this
theorem xV {t:Nat} {a:Addr} {v:Value} {w':World} (hs:(P.info? t).map (·.size)=some v.cells.size) (h:(storeCells a v.cells.toList).run P w= .ok () w'):
  (Jn t (.pointer (some a)) v).run P w= .ok () w':=by
 unfold Jn Ho storeVar
 simp only [Bc,Bv,Au,run_sizeOf hs,ne_eq,not_true_eq_false,if_false]
 exact h
theorem OK {y:AVal} {new cs':List AVal} {off:Nat} (b:mG off new y.cells=some cs') (d:oE new=true):(aF4 y cs').cells=cs':=by
 obtain ⟨j,h,g⟩:=iY b
 by_cases i:∃ as,y= .agg as
 .obtain ⟨as,rfl⟩:=i;rfl
 .have a:y.cells=[y]:=by cases y<;>first | rfl | grind
  have e:aF4 y cs'=aE9 cs':=by cases y<;>first | rfl | grind
  rw [e]
  rw [a] at h g
  match cs',h,g with
  | [c],_,g=>
   show c.cells=[c]
   have f:=g 0
   simp only [Kz] at f
   split at f
   .exact mX (kK d _ c f.symm)
   .simp at f
    rw [f]
    exact a
theorem UD {a:Nat} {xs:List AVal} {i off:Nat} {y m:AVal} {new:List AVal} (hs:0<a) (k:xs[i]? =some y) (hz:y.cells.length=a)
  (h1:off+new.length<=a) (n:∀ (j:Nat),m.cells[j]? =if off<=j/\j<off+new.length then new[j-off]? else y.cells[j]?) {q:Nat} {c:AVal} (h:cellAt a (xs.set i m) q=some c):
  (i*a+off<=q/\q<i*a+off+new.length/\new[q-(i*a+off)]? =some c)\/((q<i*a+off\/i*a+off+new.length<=q)/\cellAt a xs q=some c):=by
 have e:i<xs.length:=(Ac.1 k).1
 obtain ⟨z,hz1,hz2⟩:=fB h
 have f:a*(q / a)+q % a=q:=Ib q a
 have l:=Gp q hs
 by_cases b:q / a=i
 .rw [b,Ba e] at hz1
  cases hz1
  rw [n] at hz2
  rw [b,Fg] at f
  split at hz2
  .rename_i d
   left
   refine ⟨by omega,by omega,?_⟩
   rw [show q-(i*a+off)=q % a-off from by omega]
   exact hz2
  .rename_i d
   right
   refine ⟨by omega,?_⟩
   unfold cellAt
   rw [b,k]
   exact hz2
 .rw [Bh (Eu b)] at hz1
  right
  refine ⟨?_,?_⟩
  .rcases Lt (q / a) i with g | o
   .left
    have:(q / a+1)*a<=i*a:=Cg _ g
    rw [Bz,Fg] at this
    omega
   .right
    have:(i+1)*a<=q / a*a:=Cg _ o_
    rw [Bz,Fg (q / a)] at this
    omega
  .unfold cellAt
   rw [hz1]
   exact hz2
def VU (P:Program) (M:Imm) (ob:Hs) (obs:List AObj) (w:World) (s:Sem Unit) (v:AVal) (obs':List AObj):Prop:=
 v= .undef/\∃ w' M' ob',s.run P w= .ok () w'/\Ext M ob obs w M' ob' obs' w'/\Mem M' ob' obs' w'/\cD ob obs ob' obs'
theorem aBl (hE:EnvOK E) (hm:Mem M ob obs w) {t:Nat} {v u:Value} {a x:AVal} (l:Rep M ob v a) (hu:Rep M ob u x):
  Sd (VU E.P M ob obs w (Jn t v u)) (fun _ _=>False) (fun _=>False) obs base (PY E (aC obs) t a x):=by
 unfold PY
 split
 .exact trivial
 .rename_i Y hT
  have hti:=hE.tab t Y hT
  refine sdc fun hg=>?_
  obtain ⟨R,Q⟩:=aQ hg
  obtain ⟨hcl,G,hcr⟩:=hu.cells_one R
  have hsz:u.cells.size=Y.size:=by
   have:=aB Q
   rw [vR] at this
   grind
  have hs:(E.P.info? t).map (·.size)=some u.cells.size:=by rw [hsz];exact hti.size?
  split
  .rename_i k off
   obtain ⟨b,rfl,hb⟩:=l.ref_inv
   split
   .rename_i T' cs B
    have H:=bQ B s_
    split
    .rename_i cs' f
     obtain ⟨p1,p2,p3⟩:=iY f
     obtain ⟨hs0,e1,b',rfl,hM,cv,hh,hlen',O,W⟩:=hm.obj k _ H
     have hbb:b'=b:=by rw [cA e1] at hb;simpa using hb
     subst hbb
     have K:off+u.cells.toList.length<=cv.length:=o_
     obtain ⟨q1,q2⟩:=eN cv u.cells.toList off K
     have hst:=run_storeCells_at E.P b' off T' u.cells.toList 0 cv.toArray w hh o_ G
     simp only [Dy] at hst
     have:=hm.cellsTurn (cs':=cs') (cv':=cv.take off++u.cells.toList++cv.drop (off+u.cells.toList.length)) H hb o_ (fun v l=>by
       simp only [Ao] at l
       rcases l with (l | l) | l
       .exact O v (Cx l)
       .exact G v l
       .exact O v (Ed l)) (fun i v c s o=>by
       rw [q2 i] at s
       rw [p3 i,<-hcl] at o
       split at s
       .rename_i D
        rw [if_pos D] at o
        exact hcr _ v c s o
       .rename_i D
        rw [if_neg D] at o
        exact W i v c s o)
     refine ⟨rfl,_,M,ob,xV hs hst,?_⟩
     rw [aO H]
     exact ⟨this.2.1,this.1,this.2.2⟩
    .exact trivial
   .exact trivial
  .rename_i k g i h off
   cases l with
   | eref _ _ _ _ _ b n c V=>
   split
   .rename_i g' sz' e xs B
    have H:=bQ B s_
    refine sdc fun hg2=>?_
    obtain ⟨J,m⟩:=aQ hg2
    obtain ⟨hg3,F⟩:=aQ J
    obtain ⟨hg4,hg5⟩:=aQ hg3
    obtain rfl:=aB hg4
    obtain rfl:=aB hg5
    have d:0<h:=Cl F
    have hpu:=hm.pureV 4 u x hu
    obtain ⟨hcl',_,T⟩:=hpu.cells_one m
    obtain ⟨hs0,v0,e1,e2,e3,e4,A,_⟩:=hm.rowOf H
    have hrl:=A.len
    rw [V] at e4
    cases e4
    obtain ⟨cv,_,_,hz,_⟩:=A
    have U:∀ {y N:AVal},0<h->xs[i]? =some y->off+(pureV (aC obs) 4 x).cells.length<=h->(∀ (j:Nat),N.cells[j]? =if off<=j/\j<off+(pureV (aC obs) 4 x).cells.length then (pureV (aC obs) 4 x).cells[j-off]? else y.cells[j]?)->
      N.cells.length=h->VU E.P M ob obs w (Jn t (.pointer (some ⟨b,i*h+off,none⟩)) u) .undef (bH obs k (.row g h e (xs.set i N))):=by
     intro y N d r h1 h2 h3
     have I:i<xs.length:=(Ac.1 r).1
     have X:(i+1)*h<=xs.length*h:=Cg _ I
     rw [Bz,Ft] at X
     obtain ⟨w',r1,r2,r3,r4⟩:=hm.rowWrite (P:=E.P) (xs':=xs.set i N) H V d (p:=i*h+off) (news:=u.cells.toList) o_ G s_ (fun z C=>by
       rcases Dj C with C | rfl
       .exact hz z C
       .exact h3) (fun q c hq=>by
       rcases UD d r (hz y (Az r)) h1 h2 hq with ⟨a1,a2,a3⟩ | ⟨a1,a2⟩
       .left
        refine ⟨a1,by omega,?_⟩
        have L:q-(i*h+off)<u.cells.toList.length:=o_
        exact ⟨_,Ab L,T _ _ c (Ab L) a3⟩
       .right
        exact ⟨by omega,a2⟩)
     refine ⟨rfl,w',M,ob,xV hs r1,?_⟩
     rw [aO H]
     exact ⟨r3,r2,r4⟩
    cases hq:(Av off 0&&Av Y.size h) with
    | true=>
     obtain ⟨Z,ho2⟩:=aQ hq
     obtain rfl:=aB Z
     have hts:=aB ho2
     intro I
     have hnl:(pureV (aC obs) 4 x).cells.length=h:=by
      have:u.cells.toList.length=u.cells.size:=by simp
      omega
     have r:=Ab I
     have hyz:=hz _ (Az r)
     exact U d r o_ (fun j=>by
       split
       .rfl
       .rw [Bj o_,Bj o_]) hnl
    | false=>
     intro y r
     dsimp only
     split
     .rename_i cs' f
      obtain ⟨p1,p2,p3⟩:=iY f
      have hyz:=hz y (Az r)
      have S:=OK f m
      exact U d r o_ (fun j=>by rw [S];exact p3 j) (by rw [S];omega)
     .exact trivial
   .exact trivial
  .exact trivial
end
section
variable {P:Program} {E:Env} {M:Imm} {ob:Hs} {obs:List AObj} {w:World} {base:Nat}
theorem Mem.rowSplice (hm:Mem M ob obs w) {k g a:Nat} {e:TypeId} {xs ys:List AVal} (m:obs[k]? =some (.row g a e xs)) {b n cap:Nat} (t:at' ob k g=some (.slice (some ⟨b,0,none⟩) n cap)) (hs:0<a) {i:Nat} (r:i+ys.length<=xs.length)
  (hz:∀ y∈ys,y.cells.length=a) {news:List Value} (hl:news.length=ys.length*a) (h1:∀ u∈news,u.oneCell'=true) (s:∀ (q:Nat) c,cellAt a ys q=some c->∃ u,news[q]? =some u/\Rep M [] u c):
  ∃ w',(storeCells ⟨b,i*a,none⟩ news).run P w= .ok () w'/\Mem M ob (obs.set k (.row g a e (xs.take i++ys++xs.drop (i+ys.length)))) w'/\
   Ext M ob obs w M ob (obs.set k (.row g a e (xs.take i++ys++xs.drop (i+ys.length)))) w'/\cD ob obs ob (obs.set k (.row g a e (xs.take i++ys++xs.drop (i+ys.length)))):=by
 obtain ⟨v,B,C,A,e3,D,f,_⟩:=hm.rowOf m
 obtain ⟨cv,_,_,h,_⟩:=f
 have j:(i+ys.length)*a<=xs.length*a:=Cg _ r
 rw [Bz] at j
 refine hm.rowWrite (P:=P) m t hs (p:=i*a) (news:=news) o_ h1 q_ (fun y d=>?_) (fun q c z=>?_)
 .simp only [Ao] at d
  rcases d with (d | d) | d
  .exact h y (Cx d)
  .exact hz y d
  .exact h y (Ed d)
 .rcases EI hs r z with ⟨l,o,x⟩ | ⟨l,o⟩
  .left
   exact ⟨l,by omega,s _ c x⟩
  .right
   exact ⟨by omega,o⟩
theorem pU {xs:List AVal} {i:Nat}:xs.take i++[]++xs.drop (i+0)=xs:=by simp
theorem oV (hm:Mem M ob obs w) (c:obs[base]? =some .dead) (d:ob[base]? =some []) {s:Sem Value} {f:Nat} {e:TypeId} {v:Value} {w':World} {xs:List AVal} (h:s.run P w= .ok v w') (g:Grown M w w' f e v xs) {hint:Nat}:
  PM P M ob w s obs base (oW hint base f e xs):=by
 have k:base<ob.length:=(Ac.1 d).1
 unfold oW
 split
 .obtain ⟨h1,i,h3⟩:=g.row hm c d
  refine ⟨v,w',M,ob.set base [v],h,?_⟩
  rw [aO c]
  refine ⟨i,h1,h3,?_⟩
  obtain ⟨cv,j,_⟩:=g.own
  have a:at' (ob.set base [v]) base 0=some v:=by rw [cA (Ba k)];rfl
  rcases dB j with ⟨q,_⟩ | ⟨b,cap,q,_⟩
  .rw [q] at a⊢;exact .row _ _ _ _ _ a
  .rw [q] at a⊢;exact .row _ _ _ _ _ a
 .obtain ⟨h1,i,h3,l⟩:=g.tail hm c d
  refine ⟨v,w',fT M v f xs,ob.set base [v],h,?_⟩
  rw [aO c]
  grind
theorem FX (hm:Mem M ob obs w) {s:Sem Value} {a:Nat} {e:TypeId} {v:Value} {w':World} {xs:List AVal} (b:s.run P w= .ok v w') (g:Grown M w w' a e v xs) {t:Tk} (c:sG ob v t):PM P M ob w s obs base (.val (.slice a xs t)):=by
 obtain ⟨h1,f⟩:=g.more hm
 obtain ⟨cv,d,_⟩:=g.own
 exact ⟨v,w',_,ob,b,f,h1,cD.refl _ _,iU d g.hz c⟩
theorem WJ (hE:EnvOK E) (hm:Mem M ob obs w) (R:obs[base]? =some .dead) (Q:ob[base]? =some []) {hint:Nat} {t t2 ty:TypeId} {v x:Value} {s a:AVal} (J:Rep M ob v s) (hx:Rep M ob x a):
  PM E.P M ob w (Cr #[t,t2] ty #[v,x]) obs base (rX E hint base (aC obs) t t2 s a):=by
 unfold rX
 split
 .rename_i e esz eb _ _ _ hT
  obtain ⟨⟨K,i,z,L,hsz,heb,hz,y,hz1⟩,_⟩:=(hE.tab t _ hT).kind
  subst hsz heb
  refine sdc fun hp=>?_
  have d:0<i.size:=Cl hp
  split
  .exact trivial
  .rename_i ys hys
   have h:=NU hE hm hx hys d
   split
   .rename_i sz xs tk
    split
    .rename_i k g
     split
     .rename_i g' sz' e' p
      refine sdc fun G=>?_
      obtain ⟨m,N⟩:=aQ G
      obtain ⟨j,B⟩:=aQ m
      obtain ⟨u,C⟩:=aQ j
      obtain rfl:=aB u
      have Z:=aB B
      have q2:=aB C
      subst q2
      subst Z
      have q4:=aB N
      subst q4
      rintro ⟨H,F⟩
      have A:=bQ p s_
      obtain ⟨I,w',M',ob',o,l,S,U,r5⟩:=hm.appendTail (P:=E.P) (ty:=ty) K L hz hz1 y d A J h H F
      refine ⟨I,w',M',ob',o,?_⟩
      rw [aO A]
      exact ⟨S,l,U,r5⟩
     .exact trivial
    .refine sdc fun G=>?_
     have q:=aB G
     subst q
     rintro ⟨H,F⟩
     obtain ⟨_,W⟩:=J.untok
     obtain rfl:v= .slice none 0 0:=W
     obtain ⟨I,w',o,l⟩:=append_nil (P:=E.P) (ty:=ty) hm K L hz hz1 y d h H F
     exact oV hm R Q o l
    .refine sdc fun G=>?_
     have q:=aB G
     subst q
     rintro ⟨H,F⟩
     obtain ⟨I,w',o,l⟩:=NA (P:=E.P) (ty:=ty) hm K L hz hz1 y d J h H F
     split
     .rcases l with ⟨rfl,rfl,rfl⟩ | ⟨_,l⟩
      .refine ⟨I,w',M,ob,o,Ext.refl _ _ _ _,hm,cD.refl _ _,?_⟩
       rw [Bm]
       exact J.untok.1
      .exact FX hm o l trivial
     .intro X
      rcases l with ⟨_,rfl,rfl⟩ | ⟨q,_⟩
      .exact ⟨I,w',M,ob,o,Ext.refl _ _ _ _,hm,cD.refl _ _,J⟩
      .exact absurd X q
     .intro X
      rcases l with ⟨q,_⟩ | ⟨_,l⟩
      .grind
      .exact oV hm R Q o l
    .exact trivial
   .rintro ⟨H,F⟩
    cases J
    obtain ⟨I,w',o,l⟩:=append_nil (P:=E.P) (ty:=ty) hm K L hz hz1 y d h H F
    exact oV hm R Q o l
   .rename_i k g
    split
    .rename_i g' sz e' xs p
     refine sdc fun G=>?_
     obtain ⟨j,B⟩:=aQ G
     obtain ⟨u,C⟩:=aQ j
     obtain rfl:=aB u
     have q2:=aB C
     subst q2
     have Z:=aB B
     subst Z
     rintro ⟨H,F⟩
     have A:=bQ p s_
     obtain ⟨V,n,c,rfl,f⟩:=J.row_inv
     obtain ⟨I,w',ob',o,l,S,U,r5⟩:=hm.appendRow (P:=E.P) (ty:=ty) K L hz hz1 y d A f h H F
     refine ⟨I,w',M,ob',o,?_⟩
     rw [aO A]
     exact ⟨S,l,U,r5⟩
    .exact trivial
   .rename_i k g lo len sz
    split
    .rename_i g' sz' e' xs p
     refine sdc fun G=>?_
     obtain ⟨m,N⟩:=aQ G
     obtain ⟨j,B⟩:=aQ m
     obtain ⟨u,C⟩:=aQ j
     obtain rfl:=aB u
     have Z:=aB B
     have q2:=aB C
     subst q2
     subst Z
     have q4:=aB N
     subst q4
     intro hfit
     have A:=bQ p s_
     obtain ⟨hs0,v0,e1,e2,e3,e4,Y,_⟩:=hm.rowOf A
     have T:∀ {V n c},at' ob k g=some (.slice V n c)->n=xs.length:=fun {V n c} f=>by
      rw [f] at e4
      cases e4
      rcases Y.len with ⟨q,rfl⟩ | ⟨b,cap,q,_⟩<;>cases q<;>rfl
     obtain ⟨⟨news,D,s2⟩,hz',_⟩:=h
     cases J with
     | sub _ _ _ _ _ b n c f hl hn hc hmm=>
      have:=T f
      obtain ⟨w',o,l,S,U⟩:=hm.rowSplice (P:=E.P) (ys:=ys) (i:=lo+len) (news:=news) A f d o_ hz' D.newsLen D.one s2
      refine ⟨.slice (some ⟨b,lo*i.size,none⟩) (len+ys.length) (c-lo),w',M,ob,?_,?_⟩
      .have hst:(storeCells ((⟨b,lo*i.size,none⟩:Addr).add (len*i.size)) news).run E.P w= .ok () w':=by rw [aW,<-Bz];exact o
       have O:len+ys.length<=c-lo:=o_
       rcases D.kind with ⟨e',r⟩ | r<;>simp [Cr,run_underlying K,run_underlying r,sizeOf,typeInfo,L,D.len,O,D.cells,hst]
      .rw [aO A]
       exact ⟨S,l,U,.sub _ _ _ _ _ b n c f hl o_ hc hmm⟩
     | sub0 _ _ _ _ V a' n c f hl hc=>
      have:=T f
      have hy0:ys=[]:=Al o_
      subst hy0
      have hn0:news=[]:=Al (by rw [D.newsLen];simp)
      subst hn0
      refine ⟨.slice a' 0 0,w,M,ob,?_,?_⟩
      .have hc0:(Cj i.size 0 x).run E.P w= .ok #[] w:=D.cells
       have hl0:∀ w,(Builtin.lenOf x).run E.P w= .ok 0 w:=D.len
       rcases D.kind with ⟨e',r⟩ | r<;>cases a'<;>simp [Cr,run_underlying K,run_underlying r,sizeOf,typeInfo,L,hl0,hc0,storeCells]
      .rw [aO A]
       have:obs.set k (.row g i.size e (xs.take (lo+0)++[]++xs.drop (lo+0+([]:List AVal).length)))=obs:=by
        rw [Gl,pU];exact eY A
       rw [this]
       exact ⟨Ext.refl _ _ _ _,hm,cD.refl _ _,.sub0 _ _ _ _ V a' n c f hl hc⟩
    .exact trivial
   .exact trivial
 .exact trivial
end
section
variable {P:Program} {E:Env} {M:Imm} {ob:Hs} {obs:List AObj} {w:World} {base:Nat}
theorem aAq {α:Type} (l:List α) (n:Nat):l.drop (min n l.length)=l.drop n:=by
 simp
theorem aEt (hE:EnvOK E) (hm:Mem M ob obs w) {t R ty:TypeId} {v x:Value} {d a:AVal} (hv:Rep M ob v d) (hx:Rep M ob x a):
  PM E.P M ob w (Jo #[t,R] ty #[v,x]) obs base (aBz E (aC obs) t R d a):=by
 unfold aBz
 split
 .rename_i e esz eb _ _ _ hT
  obtain ⟨⟨hu,i,z,hi,hsz,S,hz,hzs,hz1⟩,_⟩:=(hE.tab t _ hT).kind
  subst hsz S
  refine sdc fun hp=>?_
  have j:0<i.size:=Cl hp
  have B:∀ n:Nat,(n:Int)<=9223372036854775807->inR .i64 (n:Int):=fun n h=>⟨by simp only [bW];omega,by simp only [bI];omega⟩
  split
  .exact trivial
  .rename_i ys T
   obtain ⟨⟨news0,s1,_⟩,U,s⟩:=NU hE hm hx T j
   have run:∀ {A:Option Addr} {n c m:Nat} {news:List Value} {w':World},m=min ys.length n->(Cj i.size m x).run E.P w= .ok news.toArray w->(∀ a,A=some a->(storeCells a news).run E.P w= .ok () w')->(A=none->w'=w)->
     (Jo #[t,R] ty #[.slice A n c,x]).run E.P w= .ok (.int .i64 (m:Nat)) w':=by
    intro A n c m news w' h1 h2 h3 h4
    subst h1
    have C:Nat.min ys.length n=min ys.length n:=rfl
    cases A with
    | none=>
     rw [h4 rfl]
     simp [Jo,run_underlying hu,s1.len,C,sizeOf,typeInfo,hi,h2,goInt]
    | some a=>
     simp [Jo,run_underlying hu,s1.len,C,sizeOf,typeInfo,hi,h2,h3 a rfl,goInt]
   have put:∀ {k g:Nat} {xs:List AVal} {b n cap p m:Nat},obs[k]? =some (.row g i.size e xs)\/(∃ o,obs[k]? =some (.row g i.size o xs))->True:=fun _=>trivial
   clear put
   -- the elements that are written
   have key:∀ {k g:Nat} {o:TypeId} {xs:List AVal} {b n cap p m:Nat},obs[k]? =some (.row g i.size o xs)->at' ob k g=some (.slice (some ⟨b,0,none⟩) n cap)->m<=ys.length->p+m<=xs.length->
     ∃ (news:List Value) (w':World),(Cj i.size m x).run E.P w= .ok news.toArray w/\(storeCells ⟨b,p*i.size,none⟩ news).run E.P w= .ok () w'/\
      Mem M ob (obs.set k (.row g i.size o (xs.take p++ys.take m++xs.drop (p+m)))) w'/\Ext M ob obs w M ob (obs.set k (.row g i.size o (xs.take p++ys.take m++xs.drop (p+m)))) w'/\cD ob obs ob (obs.set k (.row g i.size o (xs.take p++ys.take m++xs.drop (p+m)))):=by
    intro k g o xs b n cap p m l f V hpm
    obtain ⟨news,n1,n2,H,J⟩:=s m V
    have r:(ys.take m).length=m:=by simp;omega
    obtain ⟨w',r1,r2,r3,r4⟩:=hm.rowSplice (P:=E.P) (ys:=ys.take m) (i:=p) (news:=news) l f j o_ (fun y hy=>U y (Cx hy)) (by rw [r];exact n2) H (fun q c hq=>by
     have F:=eR j hq
     rw [r] at F
     rw [lX j F] at hq
     exact J q c F hq)
    rw [r] at r2 r3 r4
    exact ⟨news,w',n1,r1,r2,r3,r4⟩
   split
   .rename_i k g
    split
    .rename_i g' sz o xs D
     refine sdc fun hg=>?_
     obtain ⟨G,I⟩:=aQ hg
     obtain rfl:=aB G
     have Q:=aB I
     subst Q
     have l:=bQ D s_
     obtain ⟨A,n,c,rfl,f⟩:=hv.row_inv
     obtain ⟨X,v0,e1,e2,e3,K,u,_⟩:=hm.rowOf l
     rw [f] at K
     cases K
     rcases u.len with ⟨q,rfl⟩ | ⟨b,cap,q,Q,q3,q4⟩
     .cases q
      obtain ⟨news,n1,n2,_⟩:=s 0 (Cc _)
      refine ⟨.int .i64 ((0:Nat):Int),w,M,ob,run (m:=0) s_ n1 (fun a h=>by cases h) (fun _=>rfl),?_⟩
      rw [aO l]
      have:obs.set k (.row g i.size o (ys.take ([]:List AVal).length++([]:List AVal).drop ys.length))=obs:=by simp only [Gl,Hn,List.drop_nil,Bm];exact eY l
      rw [this]
      exact ⟨Ext.refl _ _ _ _,hm,cD.refl _ _,by simpa using Rep.int .i64 0 (B 0 d_)⟩
     .cases q
      obtain ⟨news,w',n1,n2,H,J,N⟩:=key (p:=0) (m:=min ys.length xs.length) l f (Nat.min_le_left _ _) o_
      rw [Lb] at n2
      refine ⟨.int .i64 ((min ys.length xs.length:Nat):Int),w',M,ob,run rfl n1 (fun a h=>by cases h;exact n2) (fun h=>by cases h),?_⟩
      rw [aO l]
      have Z:xs.take 0++ys.take (min ys.length xs.length)++xs.drop (0+min ys.length xs.length)=ys.take xs.length++xs.drop ys.length:=by
       rw [Hn,Jv,Cb,aAq]
       congr 1
       by_cases h:ys.length<=xs.length
       .rw [Ic h,Hu,Cn h]
       .rw [Nat.min_eq_right o_]
      rw [Z] at H J N
      have hmx:=dW
      have:min ys.length xs.length<=xs.length:=Nat.min_le_right _ _
      exact ⟨J,H,N,.int _ _ (B _ o_)⟩
    .exact trivial
   .rename_i k g lo len sz
    split
    .rename_i g' sz' o xs D
     refine sdc fun hg=>?_
     obtain ⟨L,Y⟩:=aQ hg
     obtain ⟨G,I⟩:=aQ L
     obtain rfl:=aB G
     have q3:=aB Y
     have Q:=aB I
     subst Q
     subst q3
     have l:=bQ D s_
     obtain ⟨X,v0,e1,e2,e3,K,u,_⟩:=hm.rowOf l
     have O:∀ {A n c},at' ob k g=some (.slice A n c)->n=xs.length:=fun {A n c} f=>by
      rw [f] at K
      cases K
      rcases u.len with ⟨q,rfl⟩ | ⟨b,cap,q,_⟩<;>cases q<;>rfl
     cases hv with
     | sub _ _ _ _ _ b n c f hl hn hc hmm=>
      have:=O f
      obtain ⟨news,w',n1,n2,H,J,N⟩:=key (p:=lo) (m:=min ys.length len) l f (Nat.min_le_left _ _) o_
      refine ⟨.int .i64 ((min ys.length len:Nat):Int),w',M,ob,run rfl n1 (fun a h=>by cases h;exact n2) (fun h=>by cases h),?_⟩
      rw [aO l]
      have Z:ys.take (min ys.length len)=ys.take len:=by
       by_cases h:ys.length<=len
       .rw [Ic h,Hu,Cn h]
       .rw [Nat.min_eq_right o_]
      rw [Z] at H J N
      have:min ys.length len<=len:=Nat.min_le_right _ _
      exact ⟨J,H,N,.int _ _ (B _ o_)⟩
     | sub0 _ _ _ _ A a' n c f hl hc=>
      have:=O f
      obtain ⟨news,n1,n2,_⟩:=s 0 (Cc _)
      have W:news=[]:=Al o_
      subst W
      refine ⟨.int .i64 ((0:Nat):Int),w,M,ob,run (m:=0) s_ n1 (fun a h=>rfl) (fun _=>rfl),?_⟩
      rw [aO l]
      have:obs.set k (.row g i.size o (xs.take lo++ys.take 0++xs.drop (lo+min ys.length 0)))=obs:=by
       rw [Hn,Nat.min_zero,pU];exact eY l
      rw [this]
      exact ⟨Ext.refl _ _ _ _,hm,cD.refl _ _,by simpa using Rep.int .i64 0 (B 0 d_)⟩
    .exact trivial
   .exact trivial
 .exact trivial
theorem wK {z:Value} {a:AVal} (j:Rep M [] z a) (l:a≠ .undef) {b:Nat} (hz:z.cells.size=b) (hs:0<b) {n:Nat} {cv:List Value} (hl:cv.length=n*b) (m:∀ q,q<n*b->cv[q]? =z.cells.toList[q % b]?):
  (∀ y∈Ah n a,y.cells.length=b)/\∀ (q:Nat) c,cellAt b (Ah n a) q=some c->∃ u,cv[q]? =some u/\Rep M [] u c:=by
 obtain ⟨h1,o⟩:=j.cells l
 have k:z.cells.toList.length=b:=o_
 refine ⟨fun y g=>by rw [(Fq.1 g).2];omega,fun q c i=>?_⟩
 have e:=eR hs i
 rw [Fl] at e
 obtain ⟨y,g,f⟩:=fB i
 have:=Az g
 rw [(Fq.1 this).2] at f
 have h:=Gp q hs
 rw [m q e]
 have d:q % b<z.cells.toList.length:=o_
 exact ⟨_,Ab d,o _ _ c (Ab d) f⟩
theorem sH {z:Array Value} {n:Nat}:(Ce z n).toList.length=n*z.size/\∀ q,q<n*z.size->(Ce z n).toList[q]? =z.toList[q % z.size]?:=by
 refine ⟨by simp [Ce],fun q b=>?_⟩
 have hs:0<z.size:=by grind
 have a:=Gp q hs
 simp only [Ce,Jf,Bd,Array.toList_range]
 simp_all
theorem EC {z:Array Value} {n:Nat} (hs:0<z.size):(madeCells z n).toList.length=n/\∀ q,q<n->(madeCells z n).toList[q]? =z.toList[q % z.size]?:=by
 refine ⟨by simp [madeCells],fun q b=>?_⟩
 have a:=Gp q hs
 simp only [madeCells,Jf,Bd,Array.toList_range]
 simp_all
theorem TU {z:Array Value} {cv:List Value} {n:Nat} (h:z.toList.all (·.oneCell')=true) (hl:cv.length=n) (b:∀ q,q<n->∃ j:Nat,cv[q]? =z.toList[j]?):∀ u∈cv,u.oneCell'=true:=fun u c=>by
 obtain ⟨q,d⟩:=Ch c
 obtain ⟨j,a⟩:=b q (by grind)
 rw [d] at a
 exact Bq.1 h u (Az a.symm)
theorem zP {a:AVal} (h:BV a=true):a≠ .undef:=fun e=>by subst e;cases h
theorem aBB (hE:EnvOK E) (hm:Mem M ob obs w) {t ty:TypeId} {v:Value} {d:AVal} (l:Rep M ob v d):PM E.P M ob w (Ix #[t] ty #[v]) obs base (P8 E (aC obs) t d):=by
 unfold P8
 split
 .rename_i e esz eb _ _ _ hT
  obtain ⟨⟨C,i,z,W,T,F,hz,x,hz1⟩,_⟩:=(hE.tab t _ hT).kind
  subst T F
  split
  .rename_i A Q
   refine sdc fun hp=>?_
   obtain ⟨L,J⟩:=aQ hp
   have j:0<i.size:=Cl L
   obtain ⟨i',z',p,X,u,hzs',G,r,hne⟩:=(hE.tab e A Q).info
   rw [W] at p
   cases p
   rw [hz] at u
   cases u
   split
   .rename_i k g lo len sz
    split
    .rename_i g' sz' e' xs B
     refine sdc fun hg=>?_
     obtain ⟨s,R⟩:=aQ hg
     obtain ⟨D,S⟩:=aQ s
     obtain rfl:=aB D
     have q3:=aB R
     have q2:=aB S
     subst q2
     subst q3
     have m:=bQ B s_
     obtain ⟨hs0,v0,e1,e2,e3,V,y,_⟩:=hm.rowOf m
     have I:∀ {O n c},at' ob k g=some (.slice O n c)->n=xs.length:=fun {O n c} f=>by
      rw [f] at V
      cases V
      rcases y.len with ⟨q,rfl⟩ | ⟨b,cap,q,_⟩<;>cases q<;>rfl
     have same:len=0->obs.set k (.row g i.size e' (xs.take lo++Ah len (pureV (fun _=>.dead) 4 A.zero)++xs.drop (lo+len)))=obs:=fun h=>by
      subst h
      rw [List.replicate_zero,pU];exact eY m
     cases l with
     | sub _ _ _ _ _ b n c f hl hn hc hmm=>
      have:=I f
      by_cases h0:len=0
      .refine ⟨.tuple #[],w,M,ob,?_,?_⟩
       .subst h0
        simp [Ix,run_underlying C]
       .rw [aO m,same h0]
        exact ⟨Ext.refl _ _ _ _,hm,cD.refl _ _,.tup [] [] rfl fun i v a l=>by simp at l⟩
      .have N:=hm.pure0 G
       obtain ⟨K,H⟩:=sH (z:=z.cells) (n:=len)
       rw [x] at K H
       have o:pureV (fun _=>.dead) 4 A.zero≠ .undef:=zP J
       obtain ⟨r1,r2⟩:=wK (M:=M) N o x j K H
       obtain ⟨w',s1,s2,Y,Z⟩:=hm.rowSplice (P:=E.P) (ys:=Ah len (pureV (fun _=>.dead) 4 A.zero)) (i:=lo) (news:=(Ce z.cells len).toList) m f j q_ r1 q_ (TU r K fun q hq=>⟨_,H q hq⟩) r2
       rw [Fl] at s2 Y Z
       refine ⟨.tuple #[],w',M,ob,?_,?_⟩
       .have U:(zeroValue e).run E.P w= .ok z w:=by simp [zeroValue,typeInfo,W,hz]
        cases len with
        | zero=>omega
        | succ len=>simp [Ix,run_underlying C,U,s1]
       .rw [aO m]
        exact ⟨Y,s2,Z,.tup [] [] rfl fun i v a l=>by simp at l⟩
     | sub0 _ _ _ _ O a' n c f hl hc=>
      refine ⟨.tuple #[],w,M,ob,?_,?_⟩
      .cases a'<;>simp [Ix,run_underlying C]
      .rw [aO m,same rfl]
       exact ⟨Ext.refl _ _ _ _,hm,cD.refl _ _,.tup [] [] rfl fun i v a l=>by simp at l⟩
    .exact trivial
   .exact trivial
  .exact trivial
 .exact trivial
theorem aEq (hE:EnvOK E) (hm:Mem M ob obs w) (x:obs[base]? =some .dead) (u:ob[base]? =some []) {t:TypeId} {F H:Value} {n c:AVal} (N:Rep M ob F n) (W:Rep M ob H c) {hint:Nat}:
  PM E.P M ob w (Instr.makeSlice t F H) obs base (TJ E hint base t n c):=by
 unfold TJ
 split
 .rename_i e O eb _ _ _ k a V b Y
  obtain ⟨⟨S,i,z,L,y,C,hz,l,hz1⟩,_⟩:=(hE.tab t _ Y).kind
  subst y C
  split
  .rename_i G A
   refine sdc fun hp=>?_
   obtain ⟨D,v⟩:=aQ hp
   have d:0<i.size:=Cl D
   obtain ⟨i',z',o,K,j,J,s,h,Z⟩:=(hE.tab e G A).info
   rw [L] at o
   cases o
   rw [hz] at j
   cases j
   obtain ⟨rfl,_⟩:=N.int_inv
   obtain ⟨rfl,_⟩:=W.int_inv
   rintro m rfl ⟨rfl,Q,c3⟩
   have R:=dW
   have f:=run_make (P:=E.P) w t e i z S L hz k V (m:Int) (m:Int) o_ (Di _) Q o_
   rw [Dl] at f
   have p:=hm.pure0 s
   obtain ⟨I,B⟩:=EC (z:=z.cells) (n:=m*i.size) o_
   rw [l] at B
   obtain ⟨U,T⟩:=wK (M:=M) p (zP v) l d I B
   have g:=Grown.ofAlloc (M:=M) (w:=w) (e:=e) (xs:=Ah m (pureV (fun _=>.dead) 4 G.zero)) (cv:=(madeCells z.cells (m*i.size)).toList) d q_ (TU h I fun q X=>⟨_,B q X⟩) U q_ T
   have r:(madeCells z.cells (m*i.size)).toList.toArray=madeCells z.cells (m*i.size):=by simp
   rw [r,Fl] at g
   exact oV (hint:=2) hm x u f g
  .exact trivial
 .exact trivial
theorem TN:∀ (new l:List AVal),new.length<=l.length->∃ r,QE new l=some r
 | [],l,_=>⟨l,rfl⟩
 | _::_,[],h=>by simp at h
 | c::new,d::l,h=>by
  obtain ⟨r,a⟩:=TN new l (by grind)
  exact ⟨c::r,by simp [QE,a]⟩
theorem GN:∀ (off:Nat) (new l:List AVal),off+new.length<=l.length->∃ r,mG off new l=some r
 | 0,new,l,h=>by obtain ⟨r,a⟩:=TN new l o_;exact ⟨r,by simpa [mG] using a⟩
 | n+1,new,[],h=>by simp at h
 | n+1,new,c::l,h=>by
  obtain ⟨r,a⟩:=GN n new l (by grind)
  exact ⟨c::r,by simp [mG,a]⟩
def K1 (og:Nat->AObj) (l:List (Nat×AVal)):List (Nat×AVal):=l.map fun p=>(p.1,pureV og 4 p.2)
theorem I5 (og:Nat->AObj) (d:Nat):∀ {b:List (Nat×AVal)} {n:Nat} {xs:List AVal} {base:List AVal},DB og d n b=some xs->(n+b.length)*d<=base.length->
  ∃ cs',C9 (fun i=>some (i*d,d)) base (K1 og b)=some cs'/\cs'.length=base.length/\(∀ o,o<n*d->cs'[o]? =base[o]?)/\xs.length=b.length/\
   (∀ x∈xs,x.cells.length=d/\oE x.cells=true)/\∀ (i j:Nat) x c,xs[i]? =some x->x.cells[j]? =some c->cs'[(n+i)*d+j]? =some c:=by
 intro b
 induction b with
 | nil=>intro n xs base h hl;cases h;exact ⟨base,rfl,rfl,fun _ _=>rfl,rfl,fun x e=>by simp at e,fun i j x c e=>by simp at e⟩
 | cons p b H=>
  intro n xs base h hl
  obtain ⟨i,C⟩:=p
  simp only [DB] at h
  obtain ⟨v,s⟩:∃ v,pureV og 4 C=v:=⟨_,rfl⟩
  rw [s] at h
  obtain ⟨t,m⟩:=dZ h
  simp only [Af] at t
  obtain ⟨⟨K,y⟩,w⟩:=t
  have J:=aB K
  subst J
  have hz:=aB y
  rw [vR] at hz
  cases q:DB og d (i+1) b with
  | none=>simp [q] at m
  | some l=>
   simp only [q,Em] at m
   subst m
   have g:(i+1)*d<=base.length:=by
    refine Cm (Cg _ ?_) hl
    simp
   rw [Bz,Ft] at g
   obtain ⟨I,f⟩:=GN (i*d) v.cells base o_
   obtain ⟨N,A,z⟩:=iY f
   obtain ⟨cs',u,B,e3,F,G,D⟩:=H (base:=I) q (by rw [A];refine Cm (Nat.le_of_eq ?_) hl;simp;congr 1;omega)
   have r:BV v=true:=by cases v<;>first | rfl | (simp [AVal.cells,oE,AW.one] at w)
   refine ⟨cs',by
    unfold K1 at u⊢
    simp only [Bk,C9,s,r,y,Bool.and_self,cond_true,f,u],B.trans A,fun o L=>?_,by simp [F],fun x e=>?_,fun a j x c e k=>?_⟩
   .rw [e3 o (by rw [Bz];omega),z o,if_neg o_]
   .rcases Aj.1 e with rfl | e
    .exact ⟨hz,w⟩
    .exact G x e
   .cases a with
    | zero=>
     simp at e
     subst e
     have M:j<d:=by rw [<-hz];exact (Ac.1 k).1
     rw [Dy,e3 _ (by rw [Bz];omega),z,if_pos o_,Gv]
     exact k
    | succ a=>
     have:=D a j x c (by simpa using e) k
     rw [show i+(a+1)=i+1+a from by omega]
     exact this
theorem aDg (l:List (Nat×AVal)):ZU l=l.length:=by induction l with
 | nil=>rfl
 | cons a r b=>simp [ZU,b]
theorem EG (hE:EnvOK E) (hm:Mem M ob obs w) (V:obs[base]? =some .dead) (T:ob[base]? =some []) {hint:Nat} {t:TypeId} {len:Nat} {h:List (Nat×AVal)} {vparts:Array (Nat×Value)} (hl:DZ M ob vparts.toList h):
  PM E.P M ob w (Jh t len vparts) obs base (lU E hint base (aC obs) t len h):=by
 unfold lU
 split
 .rename_i e b eb _ _ _ hT
  obtain ⟨⟨hu,ie,z,hi,hs,hb,hz,hzs,_⟩,_⟩:=(hE.tab t _ hT).kind
  refine sdc fun hg=>?_
  simp only [Af] at hg
  obtain ⟨⟨g1,g2⟩,g3⟩:=hg
  have B:=aB g1
  rw [aDg] at B
  have Q:len*b<=1000:=Cl g2
  have k:1<=b:=Cl g3
  split
  .rename_i xs R
   let f:Array Value:=if len*b=0 then #[] else (Jr (len*b)).map (z.cells[· % z.cells.size]!)
   have A:f.size=len*b:=by
    show (if len*b=0 then (#[]:Array Value) else (Jr (len*b)).map (z.cells[· % z.cells.size]!)).size=_
    split<;>simp [*]
   obtain ⟨cs',e1,e2,_,e4,O,e6⟩:=I5 (aC obs) b (base:=Ah (len*b) .undef) R (by simp [B])
   have L:bT M [] f.toList (Ah (len*b) AVal.undef):=⟨by simp [A],fun i v a _ ha=>by
    have:a= .undef:=(Fq.1 (Az ha)).2
    subst this
    exact .undef _⟩
   have S:DZ M [] vparts.toList (K1 (aC obs) h):=⟨by unfold K1;rw [Ck];exact hl.1,fun i p q hp W=>by
    unfold K1 at W
    rw [Bd] at W
    obtain ⟨q',K,rfl⟩:=Cq.1 W
    obtain ⟨a1,a2⟩:=hl.2 i p q' hp K
    exact ⟨a1,hm.pureV 4 _ _ a2⟩⟩
   obtain ⟨d,f1,N⟩:=tG (place:=fun i=>some (i*b,b)) (fun i p hp=>hp) e1 L S
   have o:(Jh t len vparts).run E.P w= .ok (.slice (some ⟨w.heap.size,0,Lw⟩) len len) (w.alloc (.cells d e)):=by
    have J:(E.P.info? e).map (·.size)=some b:=by simp [hi,hs]
    unfold Jh
    simp only [Bc,run_underlying hu,Au,run_sizeOf J]
    rw [if_neg o_]
    have X:(zeroValue e).run E.P w= .ok z w:=by simp [zeroValue,typeInfo,hi,hz]
    by_cases G:len*b=0
    .have s:(Jr (len*b)).map ((#[]:Array Value)[· % (#[]:Array Value).size]!)=f:=by
      show _=(if len*b=0 then (#[]:Array Value) else (Jr (len*b)).map (z.cells[· % z.cells.size]!))
      rw [if_pos G,G]
      simp
     rw [if_pos G]
     simp only [Bc,Bv,Au]
     rw [s,f1]
     rfl
    .have s:(Jr (len*b)).map (z.cells[· % z.cells.size]!)=f:=by
      show _=(if len*b=0 then (#[]:Array Value) else (Jr (len*b)).map (z.cells[· % z.cells.size]!))
      simp
     rw [if_neg G]
     simp only [Bc,Bv,Au,X]
     rw [s,f1]
     rfl
   have l:xs.length=len:=by rw [e4,B]
   have r:d.toList.length=xs.length*b:=by rw [N.1,e2];simp;rw [l]
   have m:∀ (j:Nat) c,cellAt b xs j=some c->cs'[j]? =some c/\AW.one c=true:=by
    intro j c C
    obtain ⟨y,Y,F⟩:=fB C
    have:=e6 _ _ y c Y F
    rw [Cb,Fg,Ib] at this
    obtain ⟨_,h1⟩:=O y (Az Y)
    exact ⟨this,kK h1 _ c F⟩
   have D:∀ u∈d.toList,u.oneCell'=true:=fun u U=>by
    obtain ⟨j,Z⟩:=Ch U
    have n:j<xs.length*b:=by rw [<-r];exact (Ac.1 Z).1
    obtain ⟨c,C⟩:=xM k (fun x H=>(O x H).1) n
    obtain ⟨h1,h2⟩:=m j c C
    exact (N.2 j u c Z h1).one h2
   have g:=Grown.ofAlloc (M:=M) (w:=w) (e:=e) (xs:=xs) (cv:=d.toList) k r D (fun x H=>(O x H).1) (by rw [l];unfold maxLen;have:len*1<=len*b:=Nat.mul_le_mul_left _ k;omega) (fun q c C=>by
    obtain ⟨h1,_⟩:=m q c C
    have n:q<d.toList.length:=by rw [r];exact eR k C
    exact ⟨_,Ab n,N.2 q _ c (Ab n) h1⟩)
   have I:d.toList.toArray=d:=by simp
   rw [I,l] at g
   split
   .exact FX hm o g ⟨_,len,rfl⟩
   .exact oV hm V T o g
  .exact trivial
 .exact trivial
theorem LG (hm:Mem M ob obs w) (c:obs[base]? =some .dead) (e:ob[base]? =some []) {t:TypeId} {v:Value} {a:AVal} (h:Rep M ob v a) (h1:oE a.cells=true):
  PM P M ob w (do Pure.pure (.pointer (some (<-newVar t v))):Sem Value) obs base (.born (.cells t a.cells) (.ref base 0)):=by
 obtain ⟨hl,b,f⟩:=h.cells_one h1
 obtain ⟨g,i,k,j⟩:=hm.bornCells c e t hl b f
 have d:v.cells.toList.toArray=v.cells:=by simp
 rw [d] at g i
 refine ⟨.pointer (some ⟨w.heap.size,0,Lw⟩),w.alloc (.cells v.cells t),M,ob.set base [.pointer (some ⟨w.heap.size,0,Lw⟩)],?_,?_⟩
 .rfl
 .rw [aO c]
  grind
end
section
variable {P:Program} {E:Env} {M:Imm} {ob:Hs} {obs:List AObj} {w:World} {base:Nat}
def aEZ (P:Program) (k:Nat) (a:Bool) (n:Nat):Prop:=(a=false/\n=1/\P.underlying k=some (.int .i64))\/(a=true/\(P.underlying k).isSome=true/\JP P k n)
theorem FO:∀ {cs:List AVal} {l:List Int},LX cs=some l->cs=l.map (AVal.int .i64)
 | [],l,h=>by cases h;rfl
 | c::r,l,h=>by
  cases c<;>first | (simp [LX] at h;done) | skip
  rename_i k n
  cases k<;>first | (simp [LX] at h;done) | skip
  cases a:LX r with
  | none=>simp [LX,a] at h
  | some q=>
   simp only [LX,a,Em] at h
   subst h
   simp [FO a]
theorem wU (hE:EnvOK E) {k:Nat} {e:Bool} {a:AVal} {l:List Int} {v:Value} (h:FN E k e a=some l) (m:Rep M ob v a):v=eX e l/\aEZ E.P k e l.length:=by
 cases e with
 | false=>
  simp only [FN] at h
  split at h
  .rename_i j
   split at h
   .cases h
    have p:=(hE.tab _ _ j).kind.1
    exact ⟨m.int_inv.1,.inl ⟨rfl,rfl,p⟩⟩
   .cases h
  .cases h
 | true=>
  simp only [FN] at h
  split at h
  .rename_i s j
   have f:=(hE.tab _ _ j).kind.isAgg.1
   split at h
   .rename_i cs
    split at h
    .rename_i t c
     obtain ⟨h1,q⟩:=dZ h
     cases q
     obtain ⟨h3,r⟩:=aQ h1
     have g:=FO c
     subst g
     obtain ⟨vs,rfl,hl,o⟩:=m.agg_inv
     have d:l.length=yY E.fl k:=by
      have:=aB r
      rw [vR] at this
      grind
     refine ⟨?_,.inr ⟨rfl,f,?_⟩⟩
     .simp only [eX,if_true]
      congr 2
      refine Ek fun i=>?_
      rw [Bd]
      cases c:l[i]? with
      | none=>
       have:=List.getElem?_eq_none_iff.1 c
       rw [Bj (by grind)]
       rfl
      | some n=>
       have b:i<vs.length:=by
        have:=(Ac.1 c).1
        rw [hl];simp;omega
       have:=o i _ (.int .i64 n) (Ab b) (by simp [c])
       rw [Ab b,this.int_inv.1]
       rfl
     .rw [d]
      exact (hE.fl k (by simpa [Jc] using h3)).2
    .cases h
   .cases h
  .cases h
theorem oK:∀ {es:List (List Int×AVal)} {key:List Int},(∀ y∈es,y.1≠key)->aZ es key=none/\(∀ v,jC es key v=es++[(key,v)])/\EB es key=es
 | [],key,_=>⟨rfl,fun _=>rfl,rfl⟩
 | (k,x)::r,key,h=>by
  obtain ⟨h1,c,h3⟩:=oK (es:=r) (key:=key) fun y b=>h y (by simp [b])
  have a:¬ k=key:=h (k,x) s_
  exact ⟨by simp [aZ,a,h1],fun v=>by simp [jC,a,c],by simp [EB,a,h3]⟩
theorem uT:∀ {es:List (List Int×AVal)} {key:List Int} {j:Nat} {y:List Int×AVal},es[j]? =some y->y.1=key->(∀ (i:Nat) b,i<j->es[i]? =some b->b.1≠key)->
  aZ es key=some y.2/\(∀ v,jC es key v=es.set j (key,v))/\EB es key=es.eraseIdx j
 | [],key,j,y,h,_,_=>by simp at h
 | (k,x)::r,key,0,y,h,a,_=>by
  simp only [Kz,Em] at h
  subst h
  have a:k=key:=a
  exact ⟨by simp [aZ,a],fun v=>by simp [jC,a],by simp [EB,a]⟩
 | (k,x)::r,key,j+1,y,h,a,hb=>by
  obtain ⟨h1,d,h3⟩:=uT (es:=r) (key:=key) (j:=j) (y:=y) (by simpa using h) a fun i b f e=>hb (i+1) b o_ q_
  have c:¬ k=key:=hb 0 (k,x) o_ rfl
  exact ⟨by simp [aZ,c,h1],fun v=>by simp [jC,c,d],by simp [EB,c,h3]⟩
def EN (b:Bool) (n:Nat) (a:List MapEntry) (es:List (List Int×AVal)):Prop:=a.length=es.length/\∀ (i:Nat) x y,a[i]? =some x->es[i]? =some y->x.key=eX b y.1/\y.1.length=n
theorem EN.tail {c:Bool} {n:Nat} {x:MapEntry} {y:List Int×AVal} {d:List MapEntry} {es:List (List Int×AVal)} (h:EN c n (x::d) (y::es)):EN c n d es:=
 ⟨by simpa using h.1,fun i a b f e=>h.2 (i+1) a b (by grind) (by grind)⟩
theorem EN.cons {a:Bool} {n:Nat} {x:MapEntry} {b:List MapEntry} {es:List (List Int×AVal)} (h:EN a n (x::b) es):∃ y r,es=y::r/\x.key=eX a y.1/\y.1.length=n/\EN a n b r:=by
 cases es with
 | nil=>have:=h.1;simp at this
 | cons y r=>exact ⟨y,r,rfl,(h.2 0 x y rfl rfl).1,(h.2 0 x y rfl rfl).2,h.tail⟩
def yQ (key:List Int) (a:List MapEntry) (es:List (List Int×AVal)) (o:Nat) (r:Option (Nat×Value)):Prop:=
 (r=none/\∀ y∈es,y.1≠key)\/∃ j x y,r=some (o+j,x.val)/\a[j]? =some x/\es[j]? =some y/\y.1=key/\∀ (i:Nat) y',i<j->es[i]? =some y'->y'.1≠key
theorem yQ.there {key:List Int} {x:MapEntry} {y:List Int×AVal} {a:List MapEntry} {es:List (List Int×AVal)} {o:Nat} (h:y.1=key):yQ key (x::a) (y::es) o (some (o,x.val)):=
 .inr ⟨0,x,y,rfl,rfl,rfl,h,fun i _ b=>by omega⟩
theorem yQ.on {key:List Int} {x:MapEntry} {y:List Int×AVal} {a:List MapEntry} {es:List (List Int×AVal)} {o:Nat} {r:Option (Nat×Value)} (f:y.1≠key) (h:yQ key a es (o+1) r):yQ key (x::a) (y::es) o r:=by
 rcases h with ⟨h1,c⟩ | ⟨j,x',b,h1,c,h3,e,d⟩
 .exact .inl ⟨h1,fun z hz=>by
   grind⟩
 .refine .inr ⟨j+1,x',b,by grind,by simp;omega,by simp;omega,e,fun i z g hz=>?_⟩
  cases i with
  | zero=>simp at hz;grind
  | succ i=>exact d i z o_ (by simpa using hz)
theorem yH (a:Int):∀ (d:List MapEntry) (es:List (List Int×AVal)) (o:Nat),EN false 1 d es->∃ r,Ku (.int .i64) (.int .i64 a) d o=some r/\yQ [a] d es o r
 | [],es,o,h=>⟨none,rfl,.inl ⟨rfl,fun y m=>by
   have:es=[]:=Al (by have:=h.1;grind)
   grind⟩⟩
 | x::d,es,o,h=>by
  obtain ⟨y,r,rfl,h1,f,h3⟩:=h.cons
  obtain ⟨k,v⟩:=y
  have f:k.length=1:=f
  match k,f with
  | [b],_=>
   have j:x.key= .int .i64 b:=h1
   simp only [Ku,j,Instr.sameNow,if_true]
   by_cases c:a=b
   .subst c
    simp only [beq_self_eq_true]
    exact ⟨_,rfl,.there rfl⟩
   .have:(a==b)=false:=by grind
    rw [this]
    obtain ⟨l,i,g⟩:=yH a d r (o+1) h3
    exact ⟨l,i,.on (fun e=>c (by cases e;rfl)) g⟩
theorem pH {k:Nat} {n:Nat} (f:JP P k n) {key:List Int} (d:key.length=n):∀ (b:List MapEntry) (es:List (List Int×AVal)) (o:Nat),EN true n b es->∃ r,(Ji k (eX true key) b o).run P w= .ok r w/\yQ key b es o r
 | [],es,o,h=>⟨none,by rfl,.inl ⟨rfl,fun y m=>by
   have:es=[]:=Al (by have:=h.1;grind)
   grind⟩⟩
 | x::b,es,o,h=>by
  obtain ⟨y,r,rfl,h1,j,h3⟩:=h.cons
  have a:=(f w key y.1 d j).1
  rw [<-h1] at a
  by_cases c:key=y.1
  .rw [decide_eq_true c] at a
   exact ⟨_,by simp [Ji,a],.there c.symm⟩
  .rw [decide_eq_false c] at a
   obtain ⟨l,i,g⟩:=pH f d b r (o+1) h3
   exact ⟨l,by simp [Ji,a,i],.on (fun e=>c e.symm) g⟩
theorem pY {k:Nat} {g:Bool} {n:Nat} (l:aEZ P k g n) {key:List Int} (i:key.length=n) {b:List MapEntry} {es:List (List Int×AVal)} (h:EN g n b es):
  ∃ r,(Kv k (eX g key) b).run P w= .ok r w/\yQ key b es 0 r:=by
 rcases l with ⟨rfl,rfl,f⟩ | ⟨rfl,j,m⟩
 .match key,i with
  | [a],_=>
   obtain ⟨r,c,e⟩:=yH a b es 0 h
   exact ⟨r,by simp [Kv,run_underlying f,eX,c],e⟩
 .obtain ⟨r,c,e⟩:=pH (w:=w) m i b es 0 h
  cases f:P.underlying k with
  | none=>grind
  | some d=>
   cases b with
   | nil=>simp [Ji] at c;subst c;exact ⟨none,by simp [Kv,run_underlying f,Ku],e⟩
   | cons x b=>
    obtain ⟨y,p,rfl,h1,o,h3⟩:=h.cons
    refine ⟨r,?_,e⟩
    have hs:Instr.sameNow d (eX true key) x.key=none:=by rw [h1];simp only [eX,if_true];cases d<;>rfl
    simp only [Kv,Bc,run_underlying f,Au,Ku,hs]
    exact c
theorem HH {k:Nat} {a:Bool} {n:Nat} (f:aEZ P k a n) {key:List Int} (b:key.length=n) (c:Bool):(Gw c 10000 k (eX a key)).run P w= .ok () w:=by
 rcases f with ⟨rfl,rfl,g⟩ | ⟨rfl,d,e⟩
 .rw [show (10000:Nat)=9999+1 from rfl,Gw]
  simp only [Bc,run_underlying g,Au,eX,Cv,if_false,Bv]
 .exact (e w key key b b).2 c
theorem Mem.mpOf (hm:Mem M ob obs w) {j:Nat} {a:Bool} {es:List (List Int×AVal)} (g:aC obs j= .mp a es) {v:Value} (h:Rep M ob v (.mref j)):
  ∃ b,v= .map (some b)/\ob[j]? =some [.map (some b)]/\obs[j]? =some (.mp a es)/\(∀ o,NoM M b o)/\W6 M w b a es:=by
 cases h with
 | mref _ b c=>
  have i:=bQ g s_
  obtain ⟨hs,d,e,f,e3,k⟩:=hm.obj j _ i
  have:e=b:=by rw [cA d,f] at c;simp_all
  subst this
  simp_all
theorem W6.enOK {b:Nat} {a:Bool} {es:List (List Int×AVal)} {n:Nat} {e:List MapEntry} (hl:e.length=es.length) (h:∀ (i:Nat) x y,e[i]? =some x->es[i]? =some y->x.key=eX a y.1/\(a=false->y.1.length=1)/\Rep M [] x.val y.2)
  (g:(a=false/\n=1)\/(a=true/\∀ p∈es,p.1.length=n)):EN a n e es:=
 ⟨hl,fun i x y f c=>⟨(h i x y f c).1,by
  rcases g with ⟨h1,d⟩ | ⟨_,d⟩
  .rw [d];exact (h i x y f c).2.1 h1
  .exact d y (Az c)⟩⟩
theorem HE {VS:AVal->List AObj->Prop} {CS:Fn->List AVal->Prop} {PS:AVal->Prop} {a:Bool} {es:List (List Int×AVal)} {key:List Int} {r:OR} {k:Nat} (b:aEZ P k a key.length)
  (h:(a=false/\key.length=1)\/(a=true/\∀ p∈es,p.1.length=key.length)->Sd VS CS PS obs base r):Sd VS CS PS obs base (zR a es key r):=by
 rcases b with ⟨rfl,c,_⟩ | ⟨rfl,_⟩
 .exact h (.inl ⟨rfl,c⟩)
 .exact fun hp=>h (.inr ⟨rfl,hp⟩)
theorem Rep.pairB {v:Value} {a:AVal} (h:Rep M ob v a) (b:Bool):Rep M ob (.tuple #[v,.bool b]) (.tup [a,.bool b]):=by
 refine .tup [v,.bool b] _ rfl fun i q c e d=>?_
 rcases i with _ | _ | i
 .grind
 .simp at e d;subst e d;exact .bool b
 simp_all
theorem WH (hE:EnvOK E) (hm:Mem M ob obs w) {t:Nat} {H kv:Value} {m k:AVal} (v:Rep M ob H m) (u:Rep M ob kv k) (ok:Bool):
  PS0 E.P M ob w (Ld t H kv ok) obs base (I0 E (aC obs) t m k ok):=by
 unfold I0
 split
 .rename_i Q e _ _ _ j K
  have l:=(hE.tab _ _ K).kind.1
  split
  .rename_i R O es A o
   split
   .rename_i key n
    obtain ⟨rfl,d⟩:=wU hE n u
    refine HE d fun I=>?_
    obtain ⟨b,rfl,_,_,_,S,p,G,hl,h,_⟩:=hm.mpOf o v
    obtain ⟨r,D,C⟩:=pY (w:=w) d rfl (W6.enOK (b:=b) hl h I)
    have c:=fun N=>HH (w:=w) d rfl N
    obtain ⟨i,z,L,_,hz,_,f,_⟩:=(hE.tab _ _ A).info
    have B:(zeroValue e).run E.P w= .ok z w:=by simp [zeroValue,typeInfo,L,hz]
    rcases C with ⟨rfl,C⟩ | ⟨q,x,y,rfl,J,F,s,g⟩
    .rw [Sd.eq_def]
     simp only
     rw [(oK C).1]
     refine ⟨rfl,if ok then .tuple #[z,.bool false] else z,?_,?_⟩
     .simp only [Ld,Bc,run_underlying l,Au,MapKept.run_getObj_map G,c,D,B,Bv]
     .cases ok with
      | true=>exact (iS f).pairB false
      | false=>exact iS f
    .rw [Sd.eq_def]
     simp only
     rw [(uT F s g).1]
     have a:=(h q x y J F).2.2.pure (ob:=ob)
     refine ⟨rfl,if ok then .tuple #[x.val,.bool true] else x.val,?_,?_⟩
     .simp only [Ld,Bc,run_underlying l,Au,MapKept.run_getObj_map G,c,D,Bv]
     .cases ok with
      | true=>exact a.pairB true
      | false=>exact a
   .exact trivial
  .exact trivial
 .exact trivial
abbrev HD (w:World) (b:Nat) (o:Obj):World:={w with heap:=w.heap.setIfInBounds b o}
theorem UF {b:Nat} {o a:Obj} (h:w.heap[b]? =some a):(HD w b o).heap[b]? =some o:=by
 have:=eI h
 simp_all
theorem A3 {b c:Nat} {o:Obj} (h:c≠b):(HD w b o).heap[c]? =w.heap[c]?:=by
 grind
theorem Mem.mpTurn (h:Mem M ob obs w) {j b f clock':Nat} {d:Bool} {es es':List (List Int×AVal)} {F:Array MapEntry} {en':List MapEntry} (v:obs[j]? =some (.mp d es)) (p:ob[j]? =some [.map (some b)]) (g:∀ o,NoM M b o) (r:w.heap[b]? =some (.map F f))
  (hl:en'.length=es'.length) (A:∀ (i:Nat) x y,en'[i]? =some x->es'[i]? =some y->x.key=eX d y.1/\(d=false->y.1.length=1)/\Rep M [] x.val y.2)
  (h1:∀ (i:Nat) x,en'[i]? =some x->x.born<clock') (z:∀ (i j:Nat) x y,en'[i]? =some x->en'[j]? =some y->x.born=y.born->i=j):
  Mem M ob (obs.set j (.mp d es')) (HD w b (.map en'.toArray clock'))/\Ext M ob obs w M ob (obs.set j (.mp d es')) (HD w b (.map en'.toArray clock'))/\cD ob obs ob (obs.set j (.mp d es')):=by
 have m:=eY (l:=ob) p
 have:=h.turn (M':=M) (w':=HD w b (.map en'.toArray clock')) (x':=.mp d es') (hs':=[.map (some b)]) v p (Dd _) (fun e=>by cases e) (fun _ _ _ h=>h) (fun _ _ _ h=>.inl h) (fun c o y q=>by
   obtain ⟨u,t,C,B⟩:=h.imm c o y q
   have n:c≠b:=fun e=>by subst e;exact g o y q
   exact ⟨u,(Dc (w:=w) (a:=⟨c,o,none⟩) (A3 n)).trans t,C,B⟩)
  (fun c _ s=>A3 fun e=>s ⟨rfl,by subst e;exact dV.2 rfl⟩) rfl rfl rfl s_ (fun D=>⟨b,rfl,g,en',clock',UF r,hl,A,h1,z⟩)
  (fun _ c k=>⟨.inl ⟨rfl,k⟩,by
   have:b=c:=dV.1 k
   subst this
   have:=eI r
   simp;omega⟩)
 rw [m] at this
 exact this
theorem sK:∀ (n:Nat) (l:List Int),(((l.map (Je .i64)).zip (l.map (Je .i64))).all fun (x,y)=>Iy n x y)=true
 | n,[]=>rfl
 | n,a::r=>by
  simp only [Bk,List.zip_cons_cons,Da,sK n r,Kr]
  cases n<;>simp [Iy]
theorem HG (n:Nat) (a:Bool) (l:List Int):Iy (n+1) (eX a l) (eX a l)=true:=by
 cases a with
 | false=>simp [eX,Iy]
 | true=>
  simp only [eX,if_true,Iy,beq_self_eq_true,Bw]
  exact sK n l
theorem aDB {a:List MapEntry} {q:Nat} {x:MapEntry} (d:a[q]? =some x) (f:MapEntry->MapEntry):a.toArray.modify q f=(a.set q (f x)).toArray:=by
 apply Du
 simp only [Array.toList_modify]
 refine Ek fun i=>?_
 rw [List.getElem?_modify,Fi]
 have b:=(Ac.1 d).1
 by_cases c:q=i
 .grind
 .simp [c]
theorem mR:Rep M ob (.tuple #[]) (.tup []):=.tup [] [] rfl fun i v a h=>by simp at h
theorem aBv (hE:EnvOK E) (hm:Mem M ob obs w) {t:Nat} {mv kv F:Value} {m k v:AVal} (hmv:Rep M ob mv m) (hkv:Rep M ob kv k) (hvv:Rep M ob F v):
  Sd (VU E.P M ob obs w (Jw t mv kv F)) (fun _ _=>False) (fun _=>False) obs base (P5 E (aC obs) t m k v):=by
 unfold P5
 split
 .rename_i kt _ _ _ _ j hT
  have V:=(hE.tab _ _ hT).kind.1
  split
  .rename_i p es Y
   split
   .rename_i key N
    obtain ⟨rfl,I⟩:=wU hE N hkv
    have B:=hm.pureV 4 F v hvv
    generalize pureV (aC obs) 4 v=v' at B
    refine sdc fun _=>HE I fun hn=>?_
    have W:p=false->key.length=1:=fun e=>by
     grind
    obtain ⟨b,rfl,S,o,O,h,f,K,hl,C,hst,G⟩:=hm.mpOf Y hmv
    obtain ⟨r,hr,hf⟩:=pY (w:=w) I rfl (W6.enOK (b:=b) hl C hn)
    have H:=fun em=>HH (w:=w) I rfl em
    rcases hf with ⟨rfl,hf⟩ | ⟨q,x,y,rfl,J,hy,T,U⟩
    .have z:=(oK hf).2.1 v'
     have:=hm.mpTurn (es':=es++[(key,v')]) (en':=h++[⟨eX p key,F,f⟩]) (clock':=f+1) o S O K (by simp [hl]) (fun i a c d u=>by
       by_cases g:i<h.length
       .rw [Ag g] at d
        rw [Ag o_] at u
        exact C i a c d u
       .rw [Ar o_] at d
        rw [Ar o_] at u
        have s:i-h.length=0:=by
                  have:=(Ac.1 d).1
                  simp at this;omega
        rw [s] at d
        rw [<-hl,s] at u
        simp at d u
        subst d u
        exact ⟨rfl,W,B⟩) (fun i a d=>by
       by_cases g:i<h.length
       .rw [Ag g] at d
        have:=hst i a d
        omega
       .rw [Ar o_] at d
        have s:i-h.length=0:=by
                  have:=(Ac.1 d).1
                  simp at this;omega
        rw [s] at d
        simp at d
        subst d
        simp) (fun i L a a' d l A=>by
       have n:∀ {i:Nat} {a:MapEntry},¬ i<h.length->(h++[⟨eX p key,F,f⟩])[i]? =some a->i=h.length/\a.born=f:=fun {i a} g d=>by
        rw [Ar o_] at d
        have s:i-h.length=0:=by
                  have:=(Ac.1 d).1
                  simp at this;omega
        rw [s] at d
        simp at d
        subst d
        simp;omega
       by_cases g:i<h.length<;>by_cases D:L<h.length
       .rw [Ag g] at d
        rw [Ag D] at l
        exact G i L a a' d l A
       .rw [Ag g] at d
        have:=hst i a d
        have:=(n D l).2
        omega
       .rw [Ag D] at l
        have:=hst L a' l
        have:=(n g d).2
        omega
       .have:=(n g d).1
        have:=(n D l).1
        omega)
     refine ⟨rfl,HD w b (.map (h++[(⟨eX p key,F,f⟩:MapEntry)]).toArray (f+1)),M,ob,?_,?_⟩
     .simp only [Jw,Bc,run_underlying V,Au,MapKept.run_getObj_map K,H,hr,MapKept.run_setObj_map _ K]
      simp
     .rw [z,aO o]
      exact ⟨this.2.1,this.1,this.2.2⟩
    .have z:=(uT hy T U).2.1 v'
     have hxk:=(C q x y J hy).1
     have hql:=(Ac.1 J).1
     have:=hm.mpTurn (es':=es.set q (key,v')) (en':=h.set q ⟨eX p key,F,x.born⟩) (clock':=f) o S O K (by simp [hl]) (fun i a c d u=>by
       rw [Fi] at d u
       by_cases g:q=i
       .rw [if_pos g] at d u
        subst g
        rw [if_pos hql] at d
        rw [if_pos o_] at u
        cases d;cases u
        exact ⟨rfl,W,B⟩
       .rw [if_neg g] at d u
        exact C i a c d u) (fun i a d=>by
       rw [Fi] at d
       by_cases g:q=i
       .rw [if_pos g,if_pos o_] at d
        cases d
        exact hst q x J
       .rw [if_neg g] at d
        exact hst i a d) (fun i L a a' d l A=>by
       have R:∀ {i:Nat} {a:MapEntry},(h.set q ⟨eX p key,F,x.born⟩)[i]? =some a->∃ X,h[i]? =some X/\X.born=a.born:=fun {i a} d=>by
        rw [Fi] at d
        by_cases g:q=i
        .rw [if_pos g,if_pos o_] at d
         cases d
         exact ⟨x,g▸J,rfl⟩
        .rw [if_neg g] at d
         exact ⟨a,d,rfl⟩
       obtain ⟨X,g1,g2⟩:=R d
       obtain ⟨Z,g1',g2'⟩:=R l
       exact G i L X Z g1 g1' o_)
     refine ⟨rfl,HD w b (.map (h.set q ⟨eX p key,F,x.born⟩).toArray f),M,ob,?_,?_⟩
     .have Q:(((h.toArray[0+q]?).map (·.key)).getD (eX p key))=eX p key:=by
       simp only [Cb,Li,J,Option.map_some,Gt]
       rw [hxk,T]
      have hst:(Instr.keyThatStays (eX p key) (eX p key)).run E.P w= .ok (eX p key) w:=by
       unfold Instr.keyThatStays
       rw [show (10000:Nat)=9999+1 from rfl,HG 9999 p key]
       simp
      simp only [Jw,Bc,run_underlying V,Au,MapKept.run_getObj_map K,H,hr,Q,hst,MapKept.run_setObj_map _ K]
      rw [Cb,aDB J]
     .rw [z,aO o]
      exact ⟨this.2.1,this.1,this.2.2⟩
   .exact trivial
  .exact trivial
 .exact trivial
theorem WG (hE:EnvOK E) (hm:Mem M ob obs w) {t U ty:Nat} {Q kv:Value} {m k:AVal} (K:Rep M ob Q m) (J:Rep M ob kv k):
  PM E.P M ob w (Jx #[t,U] ty #[Q,kv]) obs base (IZ E (aC obs) t m k):=by
 unfold IZ
 split
 .rename_i kt _ _ _ _ j X
  have A:=(hE.tab _ _ X).kind.1
  split
  .rename_i Z es H
   split
   .rename_i key C
    obtain ⟨rfl,n⟩:=wU hE C J
    refine HE n fun S=>?_
    obtain ⟨b,rfl,F,e,D,v,d,u,hl,p,hst,f⟩:=hm.mpOf H K
    obtain ⟨r,O,N⟩:=pY (w:=w) n rfl (W6.enOK (b:=b) hl p S)
    have h:=fun Y=>HH (w:=w) n rfl Y
    rcases N with ⟨rfl,N⟩ | ⟨q,x,y,rfl,V,T,I,z⟩
    .have:=hm.mpTurn (es':=es) (en':=v) (clock':=d) e F D u hl p hst f
     refine ⟨.tuple #[],HD w b (.map v.toArray d),M,ob,?_,?_⟩
     .simp [Jx,run_underlying A,MapKept.run_getObj_map u,h,O,MapKept.run_setObj_map _ u,Kh]
     .rw [(oK N).2.2,aO e]
      exact ⟨this.2.1,this.1,this.2.2,mR⟩
    .have L:=(Ac.1 V).1
     have G:(v.toArray.eraseIdxIfInBounds q)=(v.eraseIdx q).toArray:=by
      simp
     have o:∀ {α:Type} (l:List α) (i:Nat),(l.eraseIdx q)[i]? =l[if i<q then i else i+1]?:=fun l i=>by
      rw [List.getElem?_eraseIdx]
      split<;>rfl
     have:=hm.mpTurn (es':=es.eraseIdx q) (en':=v.eraseIdx q) (clock':=d) e F D u (by
       rw [Ki L,Ki o_];omega) (fun i a c g R=>by
       rw [o] at g R
       exact p _ a c g R) (fun i a g=>by
       rw [o] at g
       exact hst _ a g) (fun i i' a W g B s=>by
       rw [o] at g B
       have:=f _ _ a W g B s
       split at this<;>split at this<;>omega)
     refine ⟨.tuple #[],HD w b (.map (v.eraseIdx q).toArray d),M,ob,?_,?_⟩
     .simp [Jx,run_underlying A,MapKept.run_getObj_map u,h,O,MapKept.run_setObj_map _ u,Kh,G]
     .rw [(uT T I z).2.2,aO e]
      exact ⟨this.2.1,this.1,this.2.2,mR⟩
   .exact trivial
  .exact trivial
 .exact trivial
end
section
variable {P:Program} {E:Env} {M:Imm} {ob:Hs} {obs:List AObj} {w:World} {base:Nat}
theorem Rep.nilif_inv {v:Value} (h:Rep M ob v .nilif):v= .nilIface:=by cases h;rfl
theorem zZ {ρv:Operand->Value} {ρ:Operand->AVal} (h:∀ x,Rep M ob (ρv x) (ρ x)):∀ (l:List Operand),bT M ob (l.map ρv) (evO ρ l)
 | []=>⟨rfl,fun i v a h=>by simp at h⟩
 | x::l=>by
  obtain ⟨h1,e⟩:=zZ h l
  refine ⟨by simp [AW.evO,h1],fun i v b c d=>?_⟩
  cases i with
  | zero=>simp [AW.evO] at c d;grind
  | succ i=>exact e i v b (by simpa using c) (by simpa [AW.evO] using d)
theorem IS {ρv:Operand->Value} {ρ:Operand->AVal} (h:∀ x,Rep M ob (ρv x) (ρ x)):∀ (l:List (Nat×Operand)),DZ M ob (l.map fun (p:Nat×Operand)=>(p.1,ρv p.2)) (evL ρ l)
 | []=>⟨rfl,fun i p q h=>by simp at h⟩
 | (n,x)::l=>by
  obtain ⟨h1,b⟩:=IS h l
  refine ⟨by simpa [AW.evL] using h1,fun i p q hp a=>?_⟩
  cases i with
  | zero=>simp [AW.evL] at hp a;subst hp a;exact ⟨rfl,h x⟩
  | succ i=>exact b i p q (by simpa using hp) (by simpa [AW.evL] using a)
theorem bT.append {vs us:List Value} {as bs:List AVal} (h:bT M ob vs as) (k:bT M ob us bs):bT M ob (vs++us) (as++bs):=by
 refine ⟨by simp [h.1,k.1],fun i v a b c=>?_⟩
 by_cases d:i<vs.length
 .rw [Ag d] at b
  rw [Ag (by rw [<-h.1];exact d)] at c
  exact h.2 i v a b c
 .rw [Ar o_] at b
  rw [Ar (by rw [<-h.1];omega),<-h.1] at c
  exact k.2 _ v a b c
theorem bT.cons {v:Value} {a:AVal} {vs:List Value} {as:List AVal} (h:Rep M ob v a) (k:bT M ob vs as):bT M ob (v::vs) (a::as):=
 bT.append (vs:=[v]) (as:=[a]) ⟨rfl,fun i u b c d=>by cases i with | zero=>grind | succ i=>simp at c⟩ k
theorem rG (hE:EnvOK E) {t:Nat} {v:Value} {a:AVal} (h:Rep M ob v a):Rep M ob v (AR E t a):=by
 unfold AR
 split
 .split
  .cases h;exact .slnil _ _ rfl
  .exact h
 .exact h
theorem bR.now {ρv:Operand->Value} {op:Op} {ty:TypeId} {u:Value} {v:AVal} (hm:Mem M ob obs w) (b:∀ d pos a g,execOp ρv ⟨d,op,ty,pos,a,g⟩=Pure.pure (.value u)) (h:Rep M ob u v):VS P ρv op ty M ob obs w v obs:=
 ⟨u,w,M,ob,fun d pos a g=>.inl (by rw [b];rfl),Ext.refl _ _ _ _,hm,cD.refl _ _,h⟩
theorem YE (b:Array TypeId) (t:TypeId) (k a:IntKind) (x y:Int):(Builtin.max_ b t #[.int k x,.int a y]).run P w= .ok (.int k (max x y)) w:=by
 rw [run_max_int2]
 grind
theorem YD (b:Array TypeId) (t:TypeId) (k a:IntKind) (x y:Int):(Builtin.min_ b t #[.int k x,.int a y]).run P w= .ok (.int k (min x y)) w:=by
 rw [run_min_int2]
 grind
theorem H2 {ρv:Operand->Value} {ρ:Operand->AVal} (h:∀ x,Rep M ob (ρv x) (ρ x)) (l:Option Operand):D0 M ob (l.map ρv) (l.map ρ):=by
 cases l with
 | none=>exact .inl ⟨rfl,rfl⟩
 | some y=>exact .inr ⟨_,_,rfl,rfl,h y⟩
theorem tQ.notIface {P:Program} {t:Nat} {i:Bool} {size:Nat} {k:TK} (h:tQ P t i size k) (l:k≠ .iface):∃ c,P.underlying t=some c/\∀ g,c≠ .interface g:=by
 obtain ⟨a,_⟩:=h.isAgg
 obtain ⟨c,d⟩:=Db.1 a
 refine ⟨c,d,fun g e=>?_⟩
 subst e
 cases k with
 | int k=>have:=h.1;grind
 | bool=>have:=h.1;grind
 | str=>have:=h.1;grind
 | strct m=>obtain ⟨⟨fl,f,_⟩,_⟩:=h;grind
 | arr n s p=>obtain ⟨⟨fl,f,_⟩,_⟩:=h;grind
 | slc e s b=>have:=h.1.1;grind
 | ptr e=>have:=h.1;grind
 | iface=>grind
 | mp k e=>have:=h.1;grind
 | other=>obtain ⟨⟨o,f,j⟩,_⟩:=h;grind
theorem CH {k:IntKind} {x y:Int} (b:inR k x) (a:inR k y):inR k (min x y)/\inR k (max x y):=by
 grind
theorem P2 (hE:EnvOK E) (hm:Mem M ob obs w) (D:obs[base]? =some .dead) (I:ob[base]? =some []) {ρv:Operand->Value} {ρ:Operand->AVal} (j:∀ x,Rep M ob (ρv x) (ρ x)) (hint:Nat) (op:Op) (ty:TypeId):
  bR E.P ρv op ty M ob obs w base (kZ E hint base (aC obs) ρ op ty):=by
 cases op with
 | move x=>exact bR.now hm (fun _ _ _ _=>rfl) (j x)
 | assign x=>
  have A:=rG hE (t:=ty) (j x)
  have hs:∀ d pos a g,execOp ρv ⟨d,.assign x,ty,pos,a,g⟩=((Pure.pure (ρv x):Sem Value) >>= fun v=>Pure.pure (.value v)):=fun _ _ _ _=>rfl
  simp only [kZ]
  split
  .exact bR.now hm (fun _ _ _ _=>rfl) A
  .split
   .rename_i esz xs t heq
    rw [heq] at A
    split
    .split
     .obtain ⟨_,hnil⟩:=A.untok
      have hnil:ρv x= .slice none 0 0:=hnil
      split
      .refine sdc fun hg=>?_
       obtain ⟨hg1,hg2⟩:=aQ hg
       have hpos:0<esz:=Cl hg2
       refine bR.pm hs (oV hm D I (v:=.slice none 0 0) (w':=w) q_ ⟨⟨[],Hh w 0 _ _,by simp,fun q c hq=>by simp [cellAt] at hq⟩,hpos,by simp,fun b hb=>by simp [Gi] at hb,fun _ _=>rfl,rfl,rfl,rfl,Bi _,BS w⟩)
      .exact trivial
     .exact trivial
    .exact bR.now hm (fun _ _ _ _=>rfl) A
   .exact bR.now hm (fun _ _ _ _=>rfl) A
 | pick c x y=>
  have V:=j c
  simp only [kZ]
  split
  .rename_i l
   rw [l] at V
   exact bR.now hm (fun _ _ _ _=>by simp [execOp,V.bool_inv,asBool]) (j x)
  .rename_i l
   rw [l] at V
   exact bR.now hm (fun _ _ _ _=>by simp [execOp,V.bool_inv,asBool]) (j y)
  .exact trivial
 | alloc t=>
  simp only [kZ]
  split
  .rename_i T C
   refine sdc fun h1=>?_
   obtain ⟨i,z,Z,hs,hz,hzs,N,_,_⟩:=(hE.tab t T C).info
   have hzv:(zeroValue t).run E.P w= .ok z w:=by simp [zeroValue,typeInfo,Z,hz]
   obtain ⟨u,w',M',ob',J,hrest⟩:=LG (P:=E.P) (t:=t) hm D I (iS N) h1
   have hal:(Lx t true (.tuple #[])).run E.P w= .ok u w':=by
    unfold Lx
    rw [Bc,hzv]
    exact J
   exact bR.pm (r:=.born _ _) (s:=Lx t true (.tuple #[])) (fun _ _ _ _=>rfl) ⟨u,w',M',ob',hal,hrest⟩
  .exact trivial
 | box t x=>
  simp only [kZ]
  refine sdc fun h1=>?_
  exact bR.pm (r:=.born _ _) (s:=Instr.box t (ρv x)) (fun _ _ _ _=>rfl) (LG (P:=E.P) (t:=t) hm D I (j x) h1)
 | build t ps=>
  exact bR.pv (s:=Instr.build t (ps.map fun (p:Nat×Operand)=>(p.1,ρv p.2))) hm (fun _ _ _ _=>rfl) (aBC hE (by simpa using IS j ps.toList))
 | buildSlice t n ps=>
  exact bR.pm (s:=Jh t n (ps.map fun (p:Nat×Operand)=>(p.1,ρv p.2))) (fun _ _ _ _=>rfl) (EG hE hm D I (by simpa using IS j ps.toList))
 | load t x=>exact bR.pv (s:=Lc t (ρv x)) hm (fun _ _ _ _=>rfl) ((aEr hE hm (j x)).bind fun v u h=>rG hE h)
 | store t x y=>
  refine Sd.mono (fun v o ⟨h1,w',M',ob',h2,h3,h4,h5⟩=>?_) (fun _ _ h=>h.elim) (fun _ h=>h.elim) (aBl (t:=t) hE hm (j x) (rG hE (t:=t) (j y)))
  refine ⟨undef,w',M',ob',fun d pos a g=>.inr ⟨?_,rfl⟩,h3,h4,h5,by rw [h1];exact .undef _⟩
  have:execOp ρv ⟨d,.store t x y,ty,pos,a,g⟩=(Jn t (ρv x) (ρv y) >>= fun _=>Pure.pure .skip):=rfl
  simp_all
 | nilCheck x=>
  have A:=j x
  simp only [kZ]
  split<;>first | exact trivial | skip
  all_goals
   rename_i l
   rw [l] at A
   refine bR.now hm (u:=ρv x) (fun d pos a g=>?_) A
   generalize hu:ρv x=u at A
   simp only [execOp,hu]
   cases A<;>rfl
 | binOp bop t x y yt=>exact bR.pv (s:=JB bop t x y (ρv x) (ρv y)) hm (fun _ _ _ _=>rfl) (aG4 (og:=aC obs) hE (j x) (j y))
 | unOp uop t x=>
  have A:=j x
  simp only [kZ]
  refine bR.pv (s:=Op.unary uop (ρv x)) hm (fun _ _ _ _=>rfl) ?_
  split
  .rename_i b l
   rw [l] at A
   rw [A.bool_inv]
   exact aP (u:=.bool (!b)) rfl (.bool _)
  .rename_i k n l
   rw [l] at A
   rw [A.int_inv.1]
   have e:(Op.unary .neg (.int k n)).run E.P w= .ok (.int k (k.wrap (0-n))) w:=rfl
   exact ⟨fun hp=>⟨rfl,_,by rw [e,iT hp],.int _ _ hp⟩,rfl,_,e,.int _ _ (kT _ _)⟩
  .rename_i k n l
   rw [l] at A
   rw [A.int_inv.1]
   exact aP (u:=.int k (iX .xor k (if k.signed then -1 else k.max) n)) rfl (.int _ _ (by unfold iX;exact kT _ _))
  .exact trivial
 | convert s t x=>exact bR.pm (s:=convert s t (ρv x)) (fun _ _ _ _=>rfl) (aEu hE hm (j x))
 | makeInterface t x=>
  simp only [kZ]
  refine bR.pv (s:=Instr.makeInterface t (ρv x)) hm (fun _ _ _ _=>rfl) ?_
  split
  .rename_i T C
   have hk:=(hE.tab t T C).kind
   split
   .exact trivial
   .rename_i S
    obtain ⟨dd,O,U⟩:=hk.notIface S
    refine aP (run_makeInterface w t _ ?_) (.iface _ _ _ (j x))
    unfold Program.concrete
    simp_all
  .exact trivial
 | makeFunc fn fs cs=>
  obtain ⟨p1,p2⟩:=zZ j fs.toList
  obtain ⟨q1,q2⟩:=zZ j cs.toList
  refine bR.now hm (u:=.func fn (fs.toList.map ρv).toArray (cs.toList.map ρv).toArray) (fun d pos a g=>?_) (.func fn _ _ _ _ p1 q1 p2 q2)
  have W:(fs.toList.map ρv).toArray=fs.map ρv:=by apply Du;simp
  have e2:(cs.toList.map ρv).toArray=cs.map ρv:=by apply Du;simp
  rw [W,e2]
  rfl
 | makeMap t x=>
  cases x with
  | some x=>exact trivial
  | none=>
   simp only [kZ]
   split
   .split
    .rename_i tk _
     obtain ⟨m1,m2,m3,m4⟩:=hm.bornMap D I tk.agg
     refine bR.pm (r:=.born _ _) (s:=Instr.makeMap t none) (fun _ _ _ _=>rfl) ⟨_,_,M,ob.set base [.map (some w.heap.size)],run_makeMap t w,?_⟩
     rw [aO D]
     grind
    .exact trivial
   .exact trivial
 | makeSlice t x y=>exact bR.pm (s:=Instr.makeSlice t (ρv x) (ρv y)) (fun _ _ _ _=>rfl) (aEq (hint:=hint) hE hm D I (j x) (j y))
 | slice t x lo Z mx=>exact bR.pv (s:=Gd t (ρv x) (lo.map ρv) (Z.map ρv) (mx.map ρv)) hm (fun _ _ _ _=>rfl) (aBm hE hm (j x) (H2 j lo) (H2 j Z) (H2 j mx))
 | fieldAddr t x f=>exact bR.pv (s:=Kt t (ρv x) f) hm (fun _ _ _ _=>rfl) (I4 hE (j x))
 | field t x f=>exact bR.pv (s:=Ln t (ρv x) f) hm (fun _ _ _ _=>rfl) ((aBx hE (j x)).bind fun v u h=>rG hE h)
 | indexAddr t x i=>exact bR.pv (s:=Hc t (ρv x) (ρv i)) hm (fun _ _ _ _=>rfl) (I3 hE hm (j x) (j i))
 | index t x i=>exact bR.pv (s:=Km t (ρv x) (ρv i)) hm (fun _ _ _ _=>rfl) (aBw hE (j x) (j i))
 | typeAssert x xt t ok=>
  have A:=j x
  simp only [kZ]
  refine bR.pv (s:=Jj (ρv x) xt t ok) hm (fun _ _ _ _=>rfl) ?_
  split
  .rename_i T u v C l
   rw [l] at A
   obtain ⟨i,z,Z,hs,hz,hzs,N,_,_⟩:=(hE.tab t T C).info
   split
   .exact trivial
   .rename_i S
    obtain ⟨dd,O,U⟩:=(hE.tab t T C).kind.notIface S
    obtain ⟨H,R,hv⟩:=A.iface_inv
    rw [R]
    cases hq:Av u t with
    | true=>
     have:=aB hq
     subst this
     refine aP (u:=if ok then .tuple #[H,.bool true] else H) ?_ ?_
     .unfold Jj
      simp only [Bc,run_underlying O,Au]
      rfl
     .cases ok with
      | true=>exact hv.pairB true
      | false=>exact hv
    | false=>
     have hne2:¬ u=t:=fun e=>by subst e;simp at hq
     simp only [cond_false]
     refine sdc fun hok=>?_
     subst hok
     refine aP (u:=.tuple #[z,.bool false]) ?_ ((iS N).pairB false)
     unfold Jj
     simp only [Bc,run_underlying O,Au]
     cases dd<;>first | exact absurd rfl (U _) | (simp [hne2,zeroValue,typeInfo,Z,hz])
  .rename_i T C l
   rw [l] at A
   obtain ⟨i,z,Z,hs,hz,hzs,N,_,_⟩:=(hE.tab t T C).info
   split
   .exact trivial
   .rename_i S
    obtain ⟨dd,O,U⟩:=(hE.tab t T C).kind.notIface S
    refine sdc fun hok=>?_
    subst hok
    rw [A.nilif_inv]
    refine aP (u:=.tuple #[z,.bool false]) ?_ ((iS N).pairB false)
    unfold Jj
    simp only [Bc,run_underlying O,Au]
    cases dd<;>first | exact absurd rfl (U _) | (simp [zeroValue,typeInfo,Z,hz])
  .exact trivial
 | extract x i=>
  have A:=j x
  simp only [kZ]
  refine bR.pv (s:=Instr.extract (ρv x) i) hm (fun _ _ _ _=>rfl) ?_
  split
  .rename_i vs l
   rw [l] at A
   split
   .rename_i v hn
    have hnv:=gJ hn
    obtain ⟨us,R,hl,J⟩:=A.tup_inv
    have hlt:i<us.length:=by grind
    rw [R]
    refine aP (u:=us[i]) ?_ (J i _ v (Ab hlt) hnv)
    simp [Instr.extract,hlt]
   .exact trivial
  .exact trivial
 | panic x=>
  have A:=j x
  simp only [kZ]
  split
  .rename_i t v l
   rw [l] at A
   obtain ⟨u,R,hu⟩:=A.iface_inv
   have:∀ H,H=pureV (aC obs) 3 v->bR E.P ρv (.panic x) ty M ob obs w base ((fun v=>bif BV v then OR.pan (.iface t v) else .no) H):=fun H e=>by
    subst e
    refine sdc fun _=>⟨.iface t u,fun d pos a g=>?_,.iface _ _ _ (hm.pureV 3 _ _ hu)⟩
    simp [execOp,Instr.panic,R]
   grind
  .exact trivial
 | lookup t m k ok=>exact bR.pv (s:=Ld t (ρv m) (ρv k) ok) hm (fun _ _ _ _=>rfl) (WH hE hm (j m) (j k) ok)
 | mapUpdate t m k v0=>
  refine Sd.mono (fun v o ⟨h1,w',M',ob',h2,h3,h4,h5⟩=>?_) (fun _ _ h=>h.elim) (fun _ h=>h.elim) (aBv (t:=t) hE hm (j m) (j k) (j v0))
  refine ⟨undef,w',M',ob',fun d pos a g=>.inr ⟨?_,rfl⟩,h3,h4,h5,by rw [h1];exact .undef _⟩
  have:execOp ρv ⟨d,.mapUpdate t m k v0,ty,pos,a,g⟩=(Jw t (ρv m) (ρv k) (ρv v0) >>= fun _=>Pure.pure .skip):=rfl
  simp_all
 | call c=>
  obtain ⟨callee,args,argTypes⟩:=c
  have F:=zZ j args.toList
  simp only [kZ]
  cases callee with
  | value f=>
   have B:=j f
   dsimp only
   split
   .rename_i gid fs cs l
    rw [l] at B
    cases G:ρv f with
    | func fn first caps=>
     rw [G] at B
     cases B with
     | func _ vfs vcs _ _ hl1 hl2 hr1 hr2=>
      rw [JI,JI]
      refine ⟨_,bT.append (bT.append ⟨hl1,hr1⟩ F) ⟨hl2,hr2⟩,fun d pos a g=>?_⟩
      have W:(args.map ρv)=(args.toList.map ρv).toArray:=by apply Du;simp
      simp [execOp,resolve,G,Deferred.ofValue,invoke,W,DK]
    | _=>rw [G] at B;cases B
   .rename_i lid fs cs l
    rw [l] at B
    cases G:ρv f with
    | func fn first caps=>
     rw [G] at B
     cases B with
     | func _ vfs vcs _ _ hl1 hl2 hr1 hr2=>
      rw [JI]
      refine ⟨_,bT.append ⟨hl1,hr1⟩ F,fun d pos a g=>?_⟩
      have W:(args.map ρv)=(args.toList.map ρv).toArray:=by apply Du;simp
      simp [execOp,resolve,G,Deferred.ofValue,invoke,W,DK]
    | _=>rw [G] at B;cases B
   .exact trivial
  | invoke rc name=>
   have Q:=j rc
   dsimp only
   split
   .rename_i t v l
    rw [l] at Q
    split
    .rename_i gid hmg
     cases hre:ρv rc with
     | iface t' H=>
      rw [hre] at Q
      cases Q with
      | iface _ _ _ hv=>
       have hmm:=hE.mth t name gid hmg H w
       refine ⟨_,bT.cons hv F,fun d pos a g=>?_⟩
       have hva: #[H]++args.map ρv=(H::args.toList.map ρv).toArray:=by simp
       rw [<-hva]
       have hex:(#[Lo t H]++args.map ρv).extract 1 (#[Lo t H]++args.map ρv).size=args.map ρv:=by
        apply Du
        simp [Array.toList_extract]
        exact Cn s_
       simp only [execOp,resolve,Bc,Bv,Au,invoke,hre]
       simp only [Hq (show 0<(#[Lo t H]).size by simp)]
       simp only [show (#[Lo t H]:Array Value)[0]? =some (.iface t H) from rfl,hex,callMethod,Bc,run_program,Au,hmm,DK]
     | _=>rw [hre] at Q;cases Q
    .exact trivial
   .exact trivial
  | builtin b=>
   dsimp only
   have L:∀ {s:Sem Value} {r:OR},(∀ {u:Value} {w':World},s.run E.P w= .ok u w'->∀ d pos a g,(execOp ρv ⟨d,.call ⟨.builtin b,args,argTypes⟩,ty,pos,a,g⟩).run E.P w= .ok (.value u) w')->PM E.P M ob w s obs base r->bR E.P ρv (.call ⟨.builtin b,args,argTypes⟩) ty M ob obs w base r:=fun {s r} A h=>
    Sd.mono (fun v o ⟨u,w',M',ob',h2,h3,h4,h5,h6⟩=>⟨u,w',M',ob',fun d pos a g=>.inl (A h2 d pos a g),h3,h4,h5,h6⟩) (fun _ _ h=>h.elim) (fun _ h=>h.elim) h
   split
   .rename_i x t h1 h2
    have K:args= #[x]:=by apply Du;omega
    have X:argTypes= #[t]:=by apply Du;omega
    subst K X
    exact L (s:=Ez #[t] ty #[ρv x]) (fun J d pos a g=>by simp [execOp,resolve,invoke,builtin,J]) (PM.of hm (aGZ hE hm (j x)))
   .rename_i x y h1
    have K:args= #[x,y]:=by apply Du;omega
    subst K
    split
    .rename_i k p k' q W e2
     have A:=j x
     have hy:=j y
     rw [W] at A
     rw [e2] at hy
     refine sdc fun hk=>?_
     have:=uX hk
     subst this
     obtain ⟨hx1,hx2⟩:=A.int_inv
     obtain ⟨hy1,hy2⟩:=hy.int_inv
     refine ⟨_,w,M,ob,fun d pos a g=>.inl ?_,Ext.refl _ _ _ _,hm,cD.refl _ _,.int _ _ (CH hx2 hy2).1⟩
     simp [execOp,resolve,invoke,builtin,hx1,hy1,YD]
    .exact trivial
   .rename_i x y h1
    have K:args= #[x,y]:=by apply Du;omega
    subst K
    split
    .rename_i k p k' q W e2
     have A:=j x
     have hy:=j y
     rw [W] at A
     rw [e2] at hy
     refine sdc fun hk=>?_
     have:=uX hk
     subst this
     obtain ⟨hx1,hx2⟩:=A.int_inv
     obtain ⟨hy1,hy2⟩:=hy.int_inv
     refine ⟨_,w,M,ob,fun d pos a g=>.inl ?_,Ext.refl _ _ _ _,hm,cD.refl _ _,.int _ _ (CH hx2 hy2).2⟩
     simp [execOp,resolve,invoke,builtin,hx1,hy1,YE]
    .exact trivial
   .rename_i x y t Y h1 h2
    have K:args= #[x,y]:=by apply Du;omega
    have X:argTypes= #[t,Y]:=by apply Du;omega
    subst K X
    exact L (s:=Cr #[t,Y] ty #[ρv x,ρv y]) (fun J d pos a g=>by simp [execOp,resolve,invoke,builtin,J]) (WJ hE hm D I (j x) (j y))
   .rename_i x y t Y h1 h2
    have K:args= #[x,y]:=by apply Du;omega
    have X:argTypes= #[t,Y]:=by apply Du;omega
    subst K X
    exact L (s:=Jo #[t,Y] ty #[ρv x,ρv y]) (fun J d pos a g=>by simp [execOp,resolve,invoke,builtin,J]) (aEt hE hm (j x) (j y))
   .rename_i x t h1 h2
    have K:args= #[x]:=by apply Du;omega
    have X:argTypes= #[t]:=by apply Du;omega
    subst K X
    exact L (s:=Ix #[t] ty #[ρv x]) (fun J d pos a g=>by simp [execOp,resolve,invoke,builtin,J]) (aBB hE hm (j x))
   .rename_i m k t Y h1 h2
    have K:args= #[m,k]:=by apply Du;omega
    have X:argTypes= #[t,Y]:=by apply Du;omega
    subst K X
    exact L (s:=Jx #[t,Y] ty #[ρv m,ρv k]) (fun J d pos a g=>by simp [execOp,resolve,invoke,builtin,J]) (WG hE hm (j m) (j k))
   .exact trivial
 | _=>exact trivial
theorem aDs {v:Value} {a:AVal} (h:Rep M ob v a):Rep M ob v (nrm a):=by
 cases h with
 | rowc k g c a n h hm=>exact .row k g a n c h
 | pre k g n c d b len h e j hl hm=>
  have:=Rep.sub (M:=M) k g 0 n d b len c h e o_ hl o_
  rw [Lb,Kb] at this
  exact this
 | undef v=>exact .undef v
 | bool b=>exact .bool b
 | int k n m=>exact .int k n m
 | str l hl=>exact .str l hl
 | agg vs as hl h=>exact .agg vs as hl h
 | tup vs as hl h=>exact .tup vs as hl h
 | ptr b o cs h=>exact .ptr b o cs h
 | ref k off b h=>exact .ref k off b h
 | eref k g i d off b n c h=>exact .eref k g i d off b n c h
 | csl k off len d b h hm=>exact .csl k off len d b h hm
 | row k g a n c h=>exact .row k g a n c h
 | sub k g lo len d b n c h hl j e hm=>exact .sub k g lo len d b n c h hl j e hm
 | sub0 k g lo d a q n c h hl e=>exact .sub0 k g lo d a q n c h hl e
 | mref k b h=>exact .mref k b h
 | nilptr=>exact .nilptr
 | nilslice=>exact .nilslice
 | nilmap=>exact .nilmap
 | nilfunc=>exact .nilfunc
 | nilif=>exact .nilif
 | hsl a n c=>exact .hsl a n c
 | slnil d t f=>exact .slnil d t f
 | slemp d t a cap f=>exact .slemp d t a cap f
 | sl d b o n cap xs t j e hm hz h f=>exact .sl d b o n cap xs t j e hm hz h f
 | func fn r cs p u w e h1 s=>exact .func fn r cs p u w e h1 s
 | iface t v a h=>exact .iface t v a h
theorem Rep.rowc_inv {v:Value} {k g c:Nat} (h:Rep M ob v (.rowc k g c)):∃ a n,v= .slice a n c/\at' ob k g=some (.slice a n c)/\(c:Int)<=9223372036854775807:=by
 cases h with | rowc _ _ _ a n h hm=>grind
theorem Rep.pre_inv {v:Value} {k g n c a:Nat} (h:Rep M ob v (.pre k g n c a)):∃ b len,v= .slice (some ⟨b,0,none⟩) n c/\at' ob k g=some (.slice (some ⟨b,0,none⟩) len c)/\0<c/\n<=len/\len<=c/\(c:Int)<=9223372036854775807:=by
 cases h with | pre _ _ _ _ _ b len h hc hn hl hm=>exact ⟨b,len,rfl,h,hc,hn,hl,hm⟩
theorem Mem.rowIs (hm:Mem M ob obs w) {k g i:Nat} {e:TypeId} {xs:List AVal} (j:obs[k]? =some (.row g i e xs)) {d:Option Addr} {n c:Nat} (a:at' ob k g=some (.slice d n c)):
  n=xs.length/\n<=c/\(n:Int)<=9223372036854775807/\(d=none/\n=0/\c=0\/∃ b,d=some ⟨b,0,none⟩):=by
 obtain ⟨hs',v,h1,q,h3,h,l,_⟩:=hm.rowOf j
 rw [a] at h
 cases h
 rcases l.len with ⟨f,rfl⟩ | ⟨b,p,f,m,e3,o⟩
 .simp_all
 .cases f;exact ⟨rfl,e3,by have:=dW;omega,.inr ⟨b,rfl⟩⟩
theorem dG.on {v:Value} {i:Nat} {e:TypeId} {xs:List AVal} (h:dG M w v i e xs) (f:0<i) {b n c y:Nat} (B:v= .slice (some ⟨b,0,none⟩) n c) (h1:xs.length<=y) (I:y<=c):
  dG M w (.slice (some ⟨b,0,none⟩) y c) i e (xs++Ah (y-xs.length) (.agg (Ah i .undef))):=by
 subst B
 obtain ⟨cv,⟨P,J⟩,h3,L,K,C,t⟩:=h
 rcases J with ⟨q,_⟩ | ⟨g,cap,j,D,_,s,N,H,z,F⟩
 .cases q
 cases D
 have O:y*i<=j.size:=by rw [z];exact Cg _ I
 have a:(xs++Ah (y-xs.length) (AVal.agg (Ah i .undef))).length=y:=by simp;omega
 refine ⟨j.toList.take (y*i),⟨by rw [a];simp;omega,.inr ⟨b,c,j,by rw [a],Cc _,s,by omega,H,z,by rw [a]⟩⟩,fun u r=>t b rfl _ _ _ s u (Cx r),fun x k=>?_,fun q d p=>?_,C,t⟩
 .rcases Ao.1 k with k | k
  .exact L x k
  .rw [(Fq.1 k).2];simp [AVal.cells]
 .have o:=eR f p
  rw [a] at o
  rw [Br o]
  by_cases m:q<xs.length*i
  .rw [cH f m] at p
   obtain ⟨u,r,A⟩:=K q d p
   refine ⟨u,?_,A⟩
   rw [<-F,Br m] at r
   exact r
  .rw [bY f o_] at p
   obtain ⟨x,k,G⟩:=fB p
   have:=(Fq.1 (Az k)).2
   subst this
   have:d= .undef:=(Fq.1 (Az (show (Ah i AVal.undef)[_]? =some d from G))).2
   subst this
   have l:q<j.toList.length:=by simp;omega
   exact ⟨_,Ab l,.undef _⟩
theorem aG2 (hE:EnvOK E) (hm:Mem M ob obs w) {t k g c hint:Nat} {v u:Value} {h:AVal} (hv:Rep M ob v (.rowc k g c)) (hu:Rep M ob u h):
  PM E.P M ob w (Gd t v none (some u) none) obs base (aG3 E hint (aC obs) t k g c h):=by
 unfold aG3
 split
 .rename_i e0 esz eb _ _ _ g' i e xs Z n hT G
  have r:=bQ G s_
  obtain ⟨⟨W,ie,z,hi',hs,_,_,_,_⟩,_⟩:=(hE.tab t _ hT).kind
  refine sdc fun hg=>?_
  obtain ⟨x,R⟩:=aQ hg
  obtain ⟨I,S⟩:=aQ x
  obtain rfl:=aB I
  obtain rfl:=aB S
  have B:0<i:=Cl R
  obtain ⟨C,hel⟩:=C7 W
  have K:(E.P.info? (E.P.elem t)).map (·.size)=some i:=by simp_all
  have U:=fun u:World=>run_sizeOf (P:=E.P) K u
  obtain ⟨O,len,rfl,p,Q⟩:=hv.rowc_inv
  obtain ⟨rfl,J,hnm,A⟩:=hm.rowIs r p
  obtain ⟨rfl,_⟩:=hu.int_inv
  rintro y rfl
  have run:y<=c->(Gd t (.slice O xs.length c) none (some (.int Z (y:Int))) none).run E.P w= .ok (sliced O 0 y c i) w:=fun hy=>by
   rw [run_sliceAt_slice w t _ _ _ _ C,run_slice_h w t O _ c C Z y o_ o_,U];rfl
  cases hint with
  | zero=>
   rintro ⟨L,D⟩
   refine ⟨_,w,M,ob,run o_,Ext.refl _ _ _ _,hm,cD.refl _ _,?_⟩
   rcases A with ⟨rfl,_,q⟩ | ⟨b,rfl⟩
   .omega
   .have s:sliced (some ⟨b,0,none⟩) 0 y c i= .slice (some ⟨b,0,none⟩) y c:=by
     simp [sliced,aW]
    rw [s]
    exact .pre k g y c i b _ p D L J Q
  | succ m=>
   rintro ⟨L,D⟩
   obtain ⟨a,v0,s,F,e3,X,j,Y⟩:=hm.rowOf r
   rw [p] at X
   cases X
   rcases A with ⟨rfl,q1,q2⟩ | ⟨b,rfl⟩
   .
    subst q2
    obtain rfl:y=0:=o_
    have T:xs=[]:=Al q1
    subst T
    have l:(a++[Gc none 0 0]).length=g+1+1:=by simp [F]
    have d:(a++[Gc none 0 0])[g+1]? =some (.slice none 0 0):=by rw [<-F];simp
    have:=hm.rowTurn (hs':=a++[Gc none 0 0]) r s e3 ⟨_,rfl⟩ l d j (fun b _ _=>rfl) rfl rfl rfl (Bi _) (fun b V=>by cases V)
    refine ⟨_,w,M,ob.set k (a++[Gc none 0 0]),run (Bi _),?_⟩
    rw [aO r]
    have N:([]:List AVal)++Ah (0-([]:List AVal).length) (AVal.agg (Ah i .undef))=[]:=rfl
    rw [N]
    refine ⟨this.2.1,this.1,this.2.2,?_⟩
    have f:at' (ob.set k (a++[Gc none 0 0])) k (g+1)=some (.slice none 0 0):=by rw [cA (Ba (Ac.1 s).1)];exact d
    have H:sliced none 0 0 0 i= .slice none 0 0:=by rfl
    rw [H]
    exact .row _ _ _ _ _ f
   .have H:sliced (some ⟨b,0,none⟩) 0 y c i= .slice (some ⟨b,0,none⟩) y c:=by simp [sliced,aW]
    have o:=j.on B rfl L D
    have l:(a++[Gc (some ⟨b,0,none⟩) y c]).length=g+1+1:=by simp [F]
    have d:(a++[Gc (some ⟨b,0,none⟩) y c])[g+1]? =some (.slice (some ⟨b,0,none⟩) y c):=by rw [<-F];simp
    have:=hm.rowTurn (hs':=a++[Gc (some ⟨b,0,none⟩) y c]) r s e3 ⟨_,rfl⟩ l d o (fun b _ _=>rfl) rfl rfl rfl (Bi _) (fun b' V=>.inl V)
    refine ⟨_,w,M,ob.set k (a++[Gc (some ⟨b,0,none⟩) y c]),run D,?_⟩
    rw [aO r]
    refine ⟨this.2.1,this.1,this.2.2,?_⟩
    have f:at' (ob.set k (a++[Gc (some ⟨b,0,none⟩) y c])) k (g+1)=some (.slice (some ⟨b,0,none⟩) y c):=by rw [cA (Ba (Ac.1 s).1)];exact d
    rw [H]
    exact .row _ _ _ _ _ f
 .exact trivial
theorem aEs (hE:EnvOK E) (hm:Mem M ob obs w) {t k g:Nat} {v C B D:Value} {l h m:AVal} (F:Rep M ob v (.row k g)) (hl:Rep M ob C l) (I:Rep M ob B h) (n:Rep M ob D m):
  PM E.P M ob w (Gd t v (some C) (some B) (some D)) obs base (aBy E (aC obs) t k g l h m):=by
 unfold aBy
 split
 .rename_i e0 J T _ _ _ U A e xs W a Y b X c R i
  have N:=bQ i s_
  obtain ⟨⟨p,ie,z,S,hs,_,_,_,_⟩,_⟩:=(hE.tab t _ R).kind
  refine sdc fun H=>?_
  obtain ⟨r,s⟩:=aQ H
  obtain rfl:=aB r
  obtain rfl:=aB s
  obtain ⟨d,K⟩:=C7 p
  have o:(E.P.info? (E.P.elem t)).map (·.size)=some A:=by simp_all
  have f:=fun u:World=>run_sizeOf (P:=E.P) o u
  obtain ⟨Q,len,cap,rfl,j⟩:=F.row_inv
  obtain ⟨rfl,O,G,L⟩:=hm.rowIs N j
  obtain ⟨rfl,_⟩:=hl.int_inv
  obtain ⟨rfl,_⟩:=I.int_inv
  obtain ⟨rfl,_⟩:=n.int_inv
  rintro x rfl y rfl q rfl ⟨⟨c1,V⟩,Z⟩
  refine ⟨sliced Q x y q A,w,M,ob,?_,Ext.refl _ _ _ _,hm,cD.refl _ _,.undef _⟩
  rw [run_sliceAt_slice w t _ _ _ _ d]
  unfold Kn Fw Jg
  simp only [Bc,run_underlying d,Au,Option.isSome_some,if_true,Bv,asIntOf]
  rw [if_pos ⟨by omega,by omega⟩]
  simp only [Bv,Au]
  rw [if_pos ⟨by omega,by omega⟩]
  simp only [Bv,Au]
  rw [if_pos ⟨by omega,by omega⟩]
  simp only [Bv,Au,f,Dl]
  rfl
 .exact trivial
theorem yT {P:Program} (w:World) (t q ty e:TypeId) (r:IntKind) (i:TypeInfo) (z:Value) (v:P.underlying t=some (.slice e)) (x:P.underlying q=some (.int r)) (B:P.info? e=some i) (hz:i.zero=some z)
  (b n c m:Nat) (o:0<m) (h:0<i.size) (d:List Value) (g:(Cj i.size n (.slice (some ⟨b,0,none⟩) n c)).run P w.drew= .ok d.toArray w.drew) (u:c<n+m) (y:((n+m:Nat):Int)<=9223372036854775807)
  (a:(n+m)*i.bytes<=140737488355328):
  (Cr #[t,q] ty #[.slice (some ⟨b,0,none⟩) n c,.int .i64 (m:Int)]).run P w=
   .ok (.slice (some ⟨w.heap.size,0,none⟩) (n+m) (grownCap w (n+m) c e))
    (w.drew.alloc (.cells (d++(Ce z.cells m).toList++(Ce z.cells (grownCap w (n+m) c e-(n+m))).toList).toArray e)):=by
 have s:¬ (n+m<=c):=o_
 have j:¬ (9223372036854775807<((n:Int)+(m:Int))):=o_
 have p:=growslice_fits (bytes:=i.bytes) u a
 have f:¬ (281474976710656<Builtin.nextslicecap (n+m) c*i.bytes):=o_
 have A:IntKind.i64.wrap (m:Int)=(m:Int):=iT ⟨by simp only [bW];omega,by simp only [bI];omega⟩
 have l:¬ (281474976710656<(m:Int)*(i.bytes:Int)):=by
  grind
 have C:¬ ((m:Int)<0):=o_
 have k:¬ (m*i.size=0):=by
  have:=Nat.mul_pos o h
  omega
 simp [Cr,run_underlying v,run_underlying x,sizeOf,typeInfo,zeroValue,B,hz,asInt,asIntOf,A,C,l,s,j,f,k,Question.forced,g,newRow,grownCap]
 congr 2
 simp
theorem aEp (hE:EnvOK E) (hm:Mem M ob obs w) (hb1:obs[base]? =some .dead) (hb2:ob[base]? =some []) {t T ty k g n c sz:Nat} {kt:IntKind} (O:E.P.underlying T=some (.int kt)) {v u:Value} {m:AVal}
  (hv:Rep M ob v (.pre k g n c sz)) (h:Rep M ob u m):PM E.P M ob w (Cr #[t,T] ty #[v,u]) obs base (TF E base (aC obs) t k g n c sz m):=by
 unfold TF
 split
 .rename_i e esz eb _ _ _ g' sz' e' xs a hT Q
  split
  .rename_i R Z
   obtain ⟨⟨hut,i,z,hi,hsz,U,hz,A,hz1⟩,_⟩:=(hE.tab t _ hT).kind
   subst hsz U
   refine sdc fun hg=>?_
   simp only [Af] at hg
   obtain ⟨⟨⟨g1,g2⟩,g3,g4⟩,g5,g6⟩:=hg
   obtain rfl:=aB g1
   have q2:=aB g2
   subst q2
   have q3:=aB g3
   subst q3
   have q4:=aB g4
   subst q4
   have f:0<i.size:=Cl g5
   obtain ⟨i',z',F,hsz',G,hzs',V,hone,hne⟩:=(hE.tab e R Z).info
   rw [hi] at F
   cases F
   rw [hz] at G
   cases G
   have hk:=bQ Q s_
   obtain ⟨b,len,rfl,J,hc0,W,hlc,hcm⟩:=hv.pre_inv
   obtain ⟨rfl,_,hnm,_⟩:=hm.rowIs hk J
   obtain ⟨rfl,_⟩:=h.int_inv
   rintro y rfl ⟨c1,f1,f2⟩
   obtain ⟨hs0,v0,e1,e2,e3,e4,K,hblk⟩:=hm.rowOf hk
   rw [J] at e4
   cases e4
   obtain ⟨cv,o1,o2,o3,o4,o5,o6⟩:=K
   have hml:=dW
   have hle:n*i.size<=xs.length*i.size:=Cg _ W
   have l:(cv.take (n*i.size)).length=n*i.size:=by rw [Fc,o1.1];omega
   have Y:(Cj i.size n (.slice (some ⟨b,0,none⟩) n c)).run E.P w.drew= .ok (cv.take (n*i.size)).toArray w.drew:=by
    refine run_firstCells_some w.drew i.size n ⟨b,0,none⟩ n c _ l fun j u L=>?_
    rw [Fs] at L
    split at L
    .rw [aW,Cb]
     exact eO o1 (b:=b) rfl L
    .cases L
   have H:=yT (P:=E.P) w t T ty e kt i z hut O hi hz b n c y o_ f _ Y c1 o_ f2
   have X:=hm.pure0 V
   obtain ⟨S,d2⟩:=sH (z:=z.cells) (n:=y)
   rw [A] at S d2
   obtain ⟨r1,r2⟩:=wK (M:=M) X (zP g6) A f S d2
   have hge:=grownCap_ge w (n+y) c e
   have I:grownCap w (n+y) c e<=maxLen:=grownCap_le_maxLen w (n+y) c e f1
   have r:(xs.take n).length=n:=by simp;omega
   have C:(xs.take n++Ah y (pureV (fun _=>.dead) 4 R.zero)).length=n+y:=by simp;omega
   have o:∀ u∈cv.take (n*i.size)++(Ce z.cells y).toList,u.oneCell'=true:=fun u h=>by
    rcases Ao.1 h with h | h
    .exact o2 u (Cx h)
    .exact iK hz1 u h
   have s:(cv.take (n*i.size)++(Ce z.cells y).toList).length=(n+y)*i.size:=by rw [Bo,l,S,Bz]
   have gr:Grown M w (w.drew.alloc (.cells (cv.take (n*i.size)++(Ce z.cells y).toList++(Ce z.cells (grownCap w (n+y) c e-(n+y))).toList).toArray e)) i.size e
     (.slice (some ⟨w.heap.size,0,none⟩) (n+y) (grownCap w (n+y) c e)) (xs.take n++Ah y (pureV (fun _=>.dead) 4 R.zero)):=by
    refine ⟨⟨cv.take (n*i.size)++(Ce z.cells y).toList,⟨by rw [s,C],.inr ⟨w.heap.size,_,_,by rw [C],Cc _,heap_alloc_new w.drew _,by omega,I,?_,?_⟩⟩,o,fun q d N=>?_⟩,f,fun x D=>?_,fun b' B=>?_,fun b' B=>heap_alloc_old w.drew _ B,rfl,rfl,rfl,by simp,?_⟩
    .rw [Fj,Bo,s,Hx,size_zeroCells,A,<-Bz]
     congr 1
     omega
    .rw [C,<-s]
     exact Kf
    .by_cases p:q<n*i.size
     .rw [cH f (by rw [r];exact p),lX f p] at N
      obtain ⟨u,h,hr⟩:=o4 q d N
      exact ⟨u,by rw [Ag o_,Br p];exact h,hr⟩
     .rw [bY f (by rw [r];omega),r] at N
      rw [Ar o_,l]
      exact r2 _ d N
    .rcases Ao.1 D with D | D
     .exact o3 x (Cx D)
     .exact r1 x D
    .simp only [Gi,Em] at B
     omega
    .refine oF (w:=w.drew) fun u h=>?_
     rcases Ao.1 h with h | h
     .exact o u h
     .exact iK hz1 u h
   exact oV (hint:=2) hm hb1 hb2 H gr
  .exact trivial
 .exact trivial
theorem P1 (hE:EnvOK E) (hm:Mem M ob obs w) (C:obs[base]? =some .dead) (q:ob[base]? =some []) {ρv:Operand->Value} {ρ:Operand->AVal} (a:∀ x,Rep M ob (ρv x) (ρ x)) {hint:Nat} {op:Op} (ty:TypeId) {r:OR}
  (h:jT E hint base (aC obs) ρ op=some r):bR E.P ρv op ty M ob obs w base r:=by
 cases op with
 | move x=>cases h;exact bR.now hm (fun _ _ _ _=>rfl) (a x)
 | assign x=>
  simp only [jT] at h
  split at h
  .rename_i k g c b
   cases h
   have:=a x
   rw [b] at this
   exact bR.now hm (u:=ρv x) (fun _ _ _ _=>rfl) this
  .cases h
 | slice t x lo G H=>
  cases lo with
  | none=>
   cases G with
   | none=>simp [jT] at h
   | some i=>
    cases H with
    | some _=>simp [jT] at h
    | none=>
     simp only [jT] at h
     split at h
     .rename_i k g c b
      cases h
      have:=a x
      rw [b] at this
      exact bR.pm (s:=Gd t (ρv x) none (some (ρv i)) none) (fun _ _ _ _=>rfl) (aG2 hE hm this (a i))
     .cases h
  | some l=>
   cases G with
   | none=>simp [jT] at h
   | some i=>
    cases H with
    | none=>simp [jT] at h
    | some m=>
     simp only [jT] at h
     split at h
     .rename_i k g b
      cases h
      have:=a x
      rw [b] at this
      exact bR.pm (s:=Gd t (ρv x) (some (ρv l)) (some (ρv i)) (some (ρv m))) (fun _ _ _ _=>rfl) (aEs hE hm this (a l) (a i) (a m))
     .cases h
 | call c=>
  obtain ⟨callee,args,argTypes⟩:=c
  simp only [jT] at h
  split at h
  .split at h
   .rename_i x t h1 D
    split at h
    .rename_i k g n _ _ _ _ _ _ b Q
     cases h
     have A:args= #[x]:=by apply Du;omega
     have p:argTypes= #[t]:=by apply Du;omega
     subst A p
     have f:=a x
     rw [b] at f
     obtain ⟨T,len,J,I,O⟩:=f.rowc_inv
     obtain ⟨⟨z,_⟩,_⟩:=(hE.tab t _ Q).kind
     refine ⟨.int .i64 n,w,M,ob,fun d pos e g=>.inl ?_,Ext.refl _ _ _ _,hm,cD.refl _ _,.int _ _ ⟨by simp only [bW];omega,by simp only [bI];omega⟩⟩
     simp [execOp,resolve,invoke,builtin,Builtin.cap_,J,run_underlying z,goInt]
    .cases h
   .cases h
  .split at h
   .rename_i x y t F h1 D
    split at h
    .rename_i k g n c S R _ _ _ b B
     cases h
     have A:args= #[x,y]:=by apply Du;omega
     have p:argTypes= #[t,F]:=by apply Du;omega
     subst A p
     have f:=a x
     rw [b] at f
     have j:=(hE.tab F _ B).kind.1
     exact Sd.mono (fun v o ⟨u,w',M',ob',D,h3,N,L,K⟩=>⟨u,w',M',ob',fun d pos e g=>.inl (by simp [execOp,resolve,invoke,builtin,D]),h3,N,L,K⟩) (fun _ _ h=>h.elim) (fun _ h=>h.elim) (aEp hE hm C q (ty:=ty) j f (a y))
    .cases h
   .cases h
  .cases h
 | _=>simp [jT] at h
theorem xE (hE:EnvOK E) (hm:Mem M ob obs w) (a:obs[base]? =some .dead) (b:ob[base]? =some []) {ρv:Operand->Value} {ρ:Operand->AVal} (c:∀ x,Rep M ob (ρv x) (ρ x)) (hint:Nat) (op:Op) (ty:TypeId):
  bR E.P ρv op ty M ob obs w base (eop E hint base (aC obs) ρ op ty):=by
 unfold eop
 split
 .rename_i r d
  exact P1 hE hm a b c ty d
 .exact P2 hE hm a b (fun x=>aDs (c x)) hint op ty
end
section
variable {P:Program} {M M':Imm} {ob ob':Hs} {obs L:List AObj} {w w':World}
theorem sG.monoA (a:∀ (k g:Nat) v,at' ob k g=some v->at' ob' k g=some v) {v:Value} {t:Tk} (h:sG ob v t):sG ob' v t:=by
 cases t with
 | own k g=>exact a _ _ _ h
 | _=>exact h
theorem Rep.monoA (e:∀ (k g:Nat) v,at' ob k g=some v->at' ob' k g=some v) {v:Value} {a:AVal} (h:Rep M ob v a):Rep M ob' v a:=by
 induction h with
 | undef v=>exact .undef v
 | bool b=>exact .bool b
 | int k n h=>exact .int k n h
 | str l h=>exact .str l h
 | agg vs as hl _ p=>exact .agg vs as hl p
 | tup vs as hl _ p=>exact .tup vs as hl p
 | ptr b o cs h=>exact .ptr b o cs h
 | ref k off b h=>exact .ref k off b (e _ _ _ h)
 | eref k g i d off b n c h=>exact .eref k g i d off b n c (e _ _ _ h)
 | csl k off len d b h hm=>exact .csl k off len d b (e _ _ _ h) hm
 | row k g a n c h=>exact .row k g a n c (e _ _ _ h)
 | sub k g lo len d b n c h hl j f hm=>exact .sub k g lo len d b n c (e _ _ _ h) hl j f hm
 | sub0 k g lo d a u n c h hl f=>exact .sub0 k g lo d a u n c (e _ _ _ h) hl f
 | rowc k g c a n h hm=>exact .rowc k g c a n (e _ _ _ h) hm
 | pre k g n c d b len h f j hl hm=>exact .pre k g n c d b len (e _ _ _ h) f j hl hm
 | mref k b h=>exact .mref k b (e _ _ _ h)
 | nilptr=>exact .nilptr
 | nilslice=>exact .nilslice
 | nilmap=>exact .nilmap
 | nilfunc=>exact .nilfunc
 | nilif=>exact .nilif
 | hsl a n c=>exact .hsl a n c
 | slnil d t m=>exact .slnil d t (m.monoA e)
 | slemp d t a cap m=>exact .slemp d t a cap (m.monoA e)
 | sl d b o n cap xs t j f hm hz h m=>exact .sl d b o n cap xs t j f hm hz h (m.monoA e)
 | func fn w cs s x y f _ _ q r=>exact .func fn w cs s x y f q r
 | iface t v a _ p=>exact .iface t v a p
theorem Mem.idle (h:Mem M ob L w) {k:Nat} (j:ob[k]? =some []):L[k]? =some .dead:=by
 have d:k<L.length:=by rw [<-h.len];grind
 have e:=Ab d
 obtain ⟨hs,f,a⟩:=h.obj k _ e
 rw [j] at f
 cases f
 cases c:L[k] with
 | dead=>rw [e,c]
 | cells T cs=>rw [c] at a;obtain ⟨b,q,_⟩:=a;cases q
 | fcells cs=>rw [c] at a;obtain ⟨b,q,_⟩:=a;cases q
 | row g i e xs=>rw [c] at a;have:=a.1;simp at this
 | frow g i xs=>rw [c] at a;obtain ⟨v,q,_⟩:=a;simp at q
 | tail g i e=>rw [c] at a;have:=a.1;simp at this
 | mp l es=>rw [c] at a;obtain ⟨b,q,_⟩:=a;cases q
 | bun g I=>rw [c] at a;have:=a.1;simp at this
theorem Mem.live (h:Mem M ob L w) {k:Nat} {c:AObj} (b:L[k]? =some c) (d:c≠ .dead):∃ hs,ob[k]? =some hs/\hs≠[]:=by
 obtain ⟨hs,a,_⟩:=h.obj k c b
 refine ⟨hs,a,fun e=>?_⟩
 subst e
 rw [h.idle a] at b
 grind
theorem Mem.shrink {n:Nat} (h:Mem M ob (obs++Ah n .dead) w) (C:∀ (i:Nat) hs,obs.length<=i->ob[i]? =some hs->hs=[]):
  Mem M (ob.take obs.length) obs w/\(∀ (k g:Nat) v,at' ob k g=some v->at' (ob.take obs.length) k g=some v)/\
   ∀ {M0:Imm} {ob0:Hs} {d:List AObj} {w0:World},Ext M0 ob0 d w0 M ob (obs++Ah n .dead) w->ob0.length<=obs.length->Ext M0 ob0 d w0 M (ob.take obs.length) obs w:=by
 have hl:=h.len
 simp at hl
 have left:∀ {i:Nat},i<obs.length->(ob.take obs.length)[i]? =ob[i]?/\(obs++Ah n AObj.dead)[i]? =obs[i]?:=fun {i} hi=>⟨Br hi,Ag hi⟩
 have o:∀ (k g:Nat) v,at' ob k g=some v->at' (ob.take obs.length) k g=some v:=by
  intro k g v f
  by_cases e:k<obs.length
  .unfold at' at f⊢
   rw [(left e).1];exact f
  .unfold at' at f
   cases r:ob[k]? with
   | none=>rw [r] at f;cases f
   | some hs=>
    have:=C k hs o_ r
    subst this
    rw [r] at f
    simp at f
 have alive:∀ {k b:Nat},aK (ob.take obs.length) obs k b->aK ob (obs++Ah n .dead) k b:=fun {k b} ⟨c,hs,m,q,e3,e4⟩=>by
  have e:=(Ac.1 m).1
  exact ⟨c,hs,(left e).2.trans m,q,(left e).1▸e3,e4⟩
 refine ⟨⟨h.imm,by simp;omega,fun k c s=>?_,fun k b l=>h.lt k b (alive l),fun i j b l y=>h.inj i j b (alive l) (alive y)⟩,o,fun {M0 ob0 d w0} hx h0=>⟨hx.imm,hx.new,fun k hs e=>?_,hx.os,hx.tape,hx.output,hx.size,hx.keep,fun k b l=>hx.fresh k b (alive l)⟩⟩
 .have e:=(Ac.1 s).1
  obtain ⟨hs,m,p⟩:=h.obj k c ((left e).2.trans s)
  refine ⟨hs,(left e).1.trans m,?_⟩
  cases c with
  | cells T cs=>
   obtain ⟨b,A,x,cv,u,t,B,D⟩:=p
   exact ⟨b,A,x,cv,u,t,B,fun i v a f l=>(D i v a f l).monoA o⟩
  | _=>exact p
 .obtain ⟨hs',m,q⟩:=hx.hs k hs e
  have z:=(Ac.1 e).1
  exact ⟨hs',(left o_).1.trans m,q⟩
theorem MK (obs:List AObj) (j g:Nat):gX [] obs j g=g:=rfl
theorem aBt (base:Nat) (obs:List AObj):∀ n,embV [] base obs n=embV [] base [] n:=by
 intro n
 induction n with
 | zero=>rfl
 | succ n b=>
  funext a
  cases a<;>simp only [embV,MK,b]
def iC (base:Nat) (new:List AObj):List AObj:=new.map (oT [] base [] 0)
theorem Mem.emb0 (h:Mem M ob L w) {base:Nat} {new:List AObj} {d:Hs} (N:base+new.length<=L.length) (G:∀ j,j<new.length->ob[base+j]? =some [])
  (p:Ext M [] [] w M' d new w') (O:Mem M' d new w'):
  Mem M' (ob.take base++d++ob.drop (base+d.length)) (L.take base++iC base new++L.drop (base+(iC base new).length)) w'/\
   Ext M ob L w M' (ob.take base++d++ob.drop (base+d.length)) (L.take base++iC base new++L.drop (base+(iC base new).length)) w'/\
   (∀ n v a,Rep M' d v a->Rep M' (ob.take base++d++ob.drop (base+d.length)) v (AW.embV [] base [] n a)):=by
 have r:d.length=new.length:=O.len
 have A:(iC base new).length=new.length:=by simp [iC]
 obtain ⟨p1,Z⟩:=eN ob d base (by rw [h.len,r];exact N)
 obtain ⟨q1,q2⟩:=eN L (iC base new) base o_
 rw [r] at Z
 rw [A] at q2
 have inO:∀ {j:Nat},j<new.length->(ob.take base++d++ob.drop (base+d.length))[base+j]? =d[j]?:=fun {j} m=>by
  have:=Z (base+j)
  rw [if_pos ⟨by omega,by omega⟩,Gv] at this
  rw [r];exact this
 have s:∀ {i:Nat},¬ (base<=i/\i<base+new.length)->(ob.take base++d++ob.drop (base+d.length))[i]? =ob[i]?:=fun {i} I=>by
  have:=Z i
  rw [if_neg I] at this
  rw [r];exact this
 have inL:∀ {j:Nat},j<new.length->(L.take base++iC base new++L.drop (base+(iC base new).length))[base+j]? =(new[j]?).map (oT [] base [] 0):=fun {j} m=>by
  have:=q2 (base+j)
  rw [if_pos ⟨by omega,by omega⟩,Gv] at this
  rw [A,this]
  simp [iC]
 have D:∀ {i:Nat},¬ (base<=i/\i<base+new.length)->(L.take base++iC base new++L.drop (base+(iC base new).length))[i]? =L[i]?:=fun {i} I=>by
  have:=q2 i
  rw [if_neg I] at this
  rw [A];exact this
 have R:∀ {j g:Nat} {v:Value},at' d j g=some v->at' (ob.take base++d++ob.drop (base+d.length)) (dO [] base j) (gX [] [] j g)=some v:=by
  intro j g v K
  rw [iP (Cc _),MK]
  show at' _ (base+j) g=some v
  unfold at' at K⊢
  cases hq:d[j]? with
  | none=>rw [hq] at K;cases K
  | some hs=>
   have m:j<new.length:=by rw [<-r];exact (Ac.1 hq).1
   rw [inO m]
   exact K
 have F:∀ n v a,Rep M' d v a->Rep M' (ob.take base++d++ob.drop (base+d.length)) v (AW.embV [] base [] n a):=MI R fun K _=>R K
 have Q:dR ob (ob.take base++d++ob.drop (base+d.length)):=by
  intro i hs I
  by_cases l:base<=i/\i<base+new.length
  .have e:=G (i-base) o_
   rw [show base+(i-base)=i from by omega,I] at e
   cases e
   have m:i-base<d.length:=o_
   refine ⟨d[i-base],?_,List.nil_prefix⟩
   have:=inO (j:=i-base) o_
   rw [show base+(i-base)=i from by omega] at this
   rw [this]
   simp
  .exact ⟨hs,(s l).trans I,Dd _⟩
 have H:∀ o:AObj,(oT [] base [] 0 o).owns=o.owns:=fun o=>by cases o<;>rfl
 have B:∀ {i b:Nat},aK (ob.take base++d++ob.drop (base+d.length)) (L.take base++iC base new++L.drop (base+(iC base new).length)) i b->(∃ j,j<new.length/\i=base+j/\aK d new j b)\/(¬ (base<=i/\i<base+new.length)/\aK ob L i b):=by
  rintro i b ⟨c,hs,z,Y,e3,e4⟩
  by_cases l:base<=i/\i<base+new.length
  .obtain ⟨j,rfl⟩:∃ j,i=base+j:=⟨i-base,by omega⟩
   have m:j<new.length:=o_
   rw [inL m] at z
   rw [inO m] at e3
   obtain ⟨o,W,rfl⟩:=Cq.1 z
   rw [H] at Y
   exact .inl ⟨j,m,rfl,o,hs,W,Y,e3,e4⟩
  .rw [D l] at z
   rw [s l] at e3
   exact .inr ⟨l,c,hs,z,Y,e3,e4⟩
 have P:∀ {i b:Nat},aK ob L i b->(∀ j,¬ aK d new j b):=fun {i b} t j m=>by
  rcases p.fresh j b m with ⟨k',c,hs,e,_⟩ | q
  .simp at e
  .have:=h.lt i b t;omega
 have x:∀ b k,¬ aK ([]:Hs) [] k b:=fun b k ⟨c,hs,e,_⟩=>by simp at e
 refine ⟨⟨O.imm,by rw [r] at p1⊢;rw [A] at q1⊢;rw [p1,q1];exact h.len,fun i c J=>?_,fun i b t=>?_,fun i i' b t hb=>?_⟩,⟨p.imm,fun b o y U=>?_,Q,p.os,p.tape,p.output,p.size,fun b hb hn=>p.keep b hb (x b),fun i b t=>?_⟩,F⟩
 .by_cases l:base<=i/\i<base+new.length
  .obtain ⟨j,rfl⟩:∃ j,i=base+j:=⟨i-base,by omega⟩
   have m:j<new.length:=o_
   rw [inL m] at J
   obtain ⟨o,W,rfl⟩:=Cq.1 J
   obtain ⟨hs,z,C⟩:=O.obj j o W
   refine ⟨hs,(inO m).trans z,?_⟩
   cases o with
   | cells T cs=>
    obtain ⟨b,t1,t2,cv,t3,t4,t5,t6⟩:=C
    obtain ⟨m1,m2⟩:=bO (F 4) t4 t6
    exact ⟨b,t1,t2,cv,t3,m1,t5,m2⟩
   | _=>exact C
  .rw [D l] at J
   obtain ⟨hs,z,C⟩:=h.obj i c J
   refine ⟨hs,(s l).trans z,C.mono p.imm Q (fun b h1 X o V y U=>?_) (fun b c' h1 X S=>?_)⟩
   .have t:aK ob L i b:=(cK J z).2 ⟨h1,X⟩
    rcases p.new b o y U with q | q | ⟨k,q⟩
    .exact V y q
    .have:=h.lt i b t;omega
    .exact x b k q
   .have t:aK ob L i b:=(cK J z).2 ⟨h1,X⟩
    rw [p.keep b (h.lt i b t) (x b)]
    exact S
 .rcases B t with ⟨j,m,rfl,f⟩ | ⟨_,f⟩
  .exact O.lt j b f
  .exact Dz (h.lt i b f) p.size
 .rcases B t with ⟨j,m,rfl,f⟩ | ⟨_,f⟩<;>rcases B hb with ⟨j',hj',rfl,u⟩ | ⟨_,u⟩
  .rw [O.inj j j' b f u]
  .exact absurd f (P u j)
  .exact absurd u (P f j')
  .exact h.inj i i' b f u
 .rcases p.new b o y U with q | q | ⟨k,q⟩
  .exact .inl q
  .omega
  .exact (x b k q).elim
 .rcases B t with ⟨j,m,rfl,f⟩ | ⟨_,f⟩
  .rcases p.fresh j b f with ⟨k,q⟩ | q
   .exact (x b k q).elim
   omega
  .exact .inl ⟨i,f⟩
end
section
variable {M:Imm} {ob:Hs} {n:Nat}
theorem iQ {k n:Nat} (h:Eg k n=true):k<n:=by simp_all
theorem iR {k g:Nat} {v:Value} (a:k<n) (h:at' ob k g=some v):at' (ob.take n) k g=some v:=by
 unfold at' at *
 grind
theorem lD {f:AVal->Bool}:∀ {l:List AVal},DP f l=true->∀ (i:Nat) a,l[i]? =some a->f a=true
 | [],_,i,a,h=>by simp at h
 | c::r,hb,i,a,h=>by
  simp only [DP,Af] at hb
  cases i with
  | zero=>grind
  | succ i=>exact lD hb.2 i a (by simp_all)
theorem DO {v:Value} {t:Tk} (h:sG ob v t) (a:aIx n t=true):sG (ob.take n) v t:=by
 cases t with
 | own k g=>exact iR (iQ a) h
 | _=>exact h
theorem AB:∀ (m:Nat) {v:Value} {a:AVal},Rep M ob v a->bel n m a=true->Rep M (ob.take n) v a:=by
 intro m
 induction m with
 | zero=>intro v a _ h;cases h
 | succ m s=>
  intro v a h d
  cases h with
  | undef v=>exact .undef v
  | bool b=>exact .bool b
  | int k n x=>exact .int k n x
  | str l hl=>exact .str l hl
  | agg vs as hl h=>exact .agg vs as hl fun i v a p f=>s (h i v a p f) (lD d i a f)
  | tup vs as hl h=>exact .tup vs as hl fun i v a p f=>s (h i v a p f) (lD d i a f)
  | ptr b o cs h=>exact .ptr b o cs h
  | ref k off b h=>exact .ref k off b (iR (iQ d) h)
  | eref k g i e off b n c h=>exact .eref k g i e off b n c (iR (iQ d) h)
  | csl k off len e b h hm=>exact .csl k off len e b (iR (iQ d) h) hm
  | row k g a n c h=>exact .row k g a n c (iR (iQ d) h)
  | sub k g lo len e b n c h hl q j hm=>exact .sub k g lo len e b n c (iR (iQ d) h) hl q j hm
  | sub0 k g lo e a z n c h hl j=>exact .sub0 k g lo e a z n c (iR (iQ d) h) hl j
  | rowc k g c a n h hm=>exact .rowc k g c a n (iR (iQ d) h) hm
  | pre k g n c e b len h j q hl hm=>exact .pre k g n c e b len (iR (iQ d) h) j q hl hm
  | mref k b h=>exact .mref k b (iR (iQ d) h)
  | nilptr=>exact .nilptr
  | nilslice=>exact .nilslice
  | nilmap=>exact .nilmap
  | nilfunc=>exact .nilfunc
  | nilif=>exact .nilif
  | hsl a n c=>exact .hsl a n c
  | slnil e t r=>exact .slnil e t (DO r d)
  | slemp e t a cap r=>exact .slemp e t a cap (DO r d)
  | sl e b o n cap xs t q j hm hz h r=>exact .sl e b o n cap xs t q j hm hz h (DO r d)
  | func fn A cs y C D j h1 B=>
   obtain ⟨w,u⟩:=aQ d
   exact .func fn A cs y C D j (fun i v a p f=>s (h1 i v a p f) (lD w i a f)) (fun i v a p f=>s (B i v a p f) (lD u i a f))
  | iface t v a h=>exact .iface t v a (s h d)
theorem BP:∀ (n:Nat) (l:List AObj),mW n l=l.take n
 | 0,_=>by simp [mW]
 | n+1,[]=>by simp [mW]
 | n+1,x::r=>by simp [mW,BP n r]
theorem M5 {n:Nat}:∀ {l:List AObj},EK n l=true->∀ (i:Nat) T cs,l[i]? =some (.cells T cs)->DP (bel n 5) cs=true
 | [],_,i,T,cs,h=>by simp at h
 | x::r,hb,i,T,cs,h=>by
  cases i with
  | zero=>
   simp at h
   subst h
   simp only [EK,Af] at hb
   exact hb.1
  | succ i=>
   refine M5 (l:=r) ?_ i T cs (by simp_all)
   cases x<;>first | exact hb | (simp only [EK,Af] at hb;exact hb.2)
theorem M6 {n:Nat}:∀ {l:List (Nat×AVal)},aBW n l=true->∀ t,bel n 5 (aR l t)=true\/aR l t= .undef
 | [],_,t=>.inr rfl
 | (i,v)::r,hb,t=>by
  simp only [aBW,Af] at hb
  simp only [aR]
  cases Av i t with
  | true=>grind
  | false=>exact M6 hb.2 t
theorem Mem.cutO {obs:List AObj} {w:World} (h:Mem M ob obs w) (m:EK n (obs.take n)=true):Mem M (ob.take n) (obs.take n) w/\∀ {k b:Nat},aK (ob.take n) (obs.take n) k b->aK ob obs k b:=by
 have left:∀ {i:Nat} {c:AObj},(obs.take n)[i]? =some c->i<n/\obs[i]? =some c:=fun {i c} g=>by
  rw [Fs] at g
  grind
 have alive:∀ {k b:Nat},aK (ob.take n) (obs.take n) k b->aK ob obs k b:=fun {k b} ⟨c,hs,e,e2,e3,e4⟩=>by
  obtain ⟨o,e⟩:=left e
  rw [Br o] at e3
  exact ⟨c,hs,e,e2,e3,e4⟩
 refine ⟨⟨h.imm,by simp [h.len],fun k c g=>?_,fun k b d=>h.lt k b (alive d),fun i j b d m=>h.inj i j b (alive d) (alive m)⟩,alive⟩
 obtain ⟨o,l⟩:=left g
 obtain ⟨hs,e,f⟩:=h.obj k c l
 refine ⟨hs,by rw [Br o];exact e,?_⟩
 cases c with
 | cells T cs=>
  obtain ⟨b,t,s,cv,r,q,u,x⟩:=f
  exact ⟨b,t,s,cv,r,q,u,fun i v a p d=>AB 5 (x i v a p d) (lD (M5 m k _ cs g) i a d)⟩
 | _=>exact f
end
def fen (r:Option Nat):Fence:={Fence.wide with round:=r}
def oY (P:Program) (o:Oper) (ρ:Operand->Value) (w:World) (R:Ending->World->Prop):Prop:=
 (∃ v w',(execOp ρ o).run P w= .ok (.value v) w'/\R (.returned v) w')\/
 (∃ w',(execOp ρ o).run P w= .ok .skip w'/\R (.returned undef) w')\/
 (∃ v w',(execOp ρ o).run P w= .halt (.panic v) w'/\R (.panicked [{v,recovered:=false}]) w')\/
 (∃ f args w',(execOp ρ o).run P w= .ok (.enter f args) w'/\Calls P f args w' fun e a=>R e a/\e≠ .outgrown)\/
 (∃ l f tmps as b w',(execOp ρ o).run P w= .ok (.round l f tmps as b) w'/\RoundIn Fence.wide 0 P l f tmps as b w' fun e a=>R e a/\e≠ .outgrown)
theorem oY.wpIn {rd:Option Nat} {P:Program} {o:Oper} {a:Act} {w:World} {R:Ending->World->Prop} (h:oY P o a.eval w R) {next:Act->World->Prop} {Q:Exit->Act->World->Prop}
  (g:∀ c,o.op≠ .defer c) (h1:∀ v w',R (.returned v) w'->next (a.put o.dst v) w') (p:∀ m w',R (.panicked m) w'->Q (.panic m) a w'):o.wpIn (fen rd) 0 P a w next Q:=by
 refine ⟨fun _ _=>trivial,?_⟩
 rw [Oper.semAt_eq _ _ _ g]
 rcases h with ⟨v,w',b,d⟩ | ⟨w',b,d⟩ | ⟨v,w',b,d⟩ | ⟨f,args,w',b,j⟩ | ⟨l,f,tmps,as,q,w',b,j⟩
 .rw [b];exact h1 v w' d
 .rw [b];exact h1 undef w' d
 .rw [b];exact p _ w' d
 .rw [b]
  refine ⟨fun h=>(by cases h),(callsIn_wide (n:=0)).2 (j.mono fun e i ⟨d,k⟩=>?_)⟩
  grind
 .rw [b]
  refine ⟨fun h=>(by cases h),RoundIn.mono (F:=Fence.wide) j fun e i ⟨d,k⟩=>?_⟩
  grind
def D2 (M:Imm) (ob:Hs) (L:List AObj) (w:World) (K:AVal->List AObj->Prop) (Kp:AVal->List AObj->Prop) (e:Ending) (w':World):Prop:=
 ∃ M' ob' L',Ext M ob L w M' ob' L' w'/\Mem M' ob' L' w'/\((∃ u v,e= .returned u/\Rep M' ob' u v/\K v L')\/∃ a v,e= .panicked a/\rD M' ob' e (.pan v)/\Kp v L')
section
variable {P:Program} {E:Env} {M M':Imm} {ob ob':Hs} {obs L:List AObj} {w w':World} {K Kp:AVal->List AObj->Prop}
theorem gS.mono {f:FuncId} {b:Array Value} {R c:Ending->World->Prop} (d:∀ e w,R e w->c e w) (h:gS P f b w R):gS P f b w c:=by
 rcases h with ⟨h1,a⟩ | ⟨u,w',h1,a⟩
 .exact .inl ⟨h1,a.mono fun e w h=>d e w h⟩
 .exact .inr ⟨u,w',h1,d _ _ a⟩
theorem D2.ne {e:Ending} (h:D2 M ob L w K Kp e w'):e≠ .outgrown:=by
 obtain ⟨_,_,_,_,_,⟨u,v,rfl,_⟩ | ⟨a,v,rfl,_⟩⟩:=h<;>(simp)
theorem cE.mono {f:Fn} {a:Array Value} {R b:Ending->World->Prop} (c:∀ e w,R e w->b e w) (h:cE P f a w R):cE P f a w b:=by
 cases f with
 | func f=>exact gS.mono c h
 | yield l=>
  obtain ⟨f,tmps,as,d,h1,g⟩:=h
  exact ⟨f,tmps,as,d,h1,RoundIn.mono g c⟩
 | _=>exact h.elim
theorem gS.op {f:Fn} {c:Array Value} {o:Oper} {ρ:Operand->Value} {R:Ending->World->Prop} (b:∀ e w,R e w->e≠ .outgrown) (d:(execOp ρ o).run P w=(DK f c).run P w) (h:cE P f c w R):oY P o ρ w R:=by
 cases f with
 | func f=>
  rcases h with ⟨h1,a⟩ | ⟨u,w',h1,a⟩
  .exact .inr (.inr (.inr (.inl ⟨f,c,w,d.trans h1,a.mono fun e w h=>⟨h,b e w h⟩⟩)))
  .exact .inl ⟨u,w',d.trans h1,a⟩
 | yield l=>
  obtain ⟨f,tmps,as,g,h1,a⟩:=h
  exact .inr (.inr (.inr (.inr ⟨l,f,tmps,as,g,w,d.trans h1,RoundIn.mono a fun e w h=>⟨h,b e w h⟩⟩)))
 | _=>exact h.elim
theorem rQ {b:Hs} {g:AVal->AVal} (c:∀ v a,Rep M ob v a->Rep M' b v (g a)) {vs:List Value} {as:List AVal} (h:bT M ob vs as):bT M' b vs (dH g as):=bO c h.1 h.2
theorem lY (hm:Mem M ob L w) {f:Fn} {args:List AVal} {i:List Value} {ks:List Nat} {r:Res} {obs':List AObj} (g:iV ks L=true) (k:bT M ob i args)
  (h:bE P f (dH (cvtV 0 ks (aC L) 5) args) (fN 0 ks L) r obs'):
  cE P f i.toArray w fun e w'=>∃ M' b,Ext M ob L w M' (iD ks ob b) (fI ks L.length L 0 obs' L) w'/\Mem M' (iD ks ob b) (fI ks L.length L 0 obs' L) w'/\rD M' b e r/\b.length=obs'.length/\
   ∀ n v a,Rep M' b v a->Rep M' (iD ks ob b) v (embV ks L.length L n a):=by
 obtain ⟨o,_,_⟩:=hm.cvt (n0:=0) g
 refine cE.mono (fun e w' ⟨M',b,j,d,c⟩=>?_) (h M _ w i o (rQ (fun v a=>hm.cvtV (n0:=0) g 5 v a) k))
 obtain ⟨m,l,_⟩:=hm.emb g j d
 exact ⟨M',b,l,m,c,d.len,hm.embV g j.hs nL⟩
theorem M3 (hm:Mem M ob obs w) {f:Fn} {args:List AVal} {A:List Value} (C:bT M ob A args) (h:CallG P f args obs K Kp):cE P f A.toArray w (D2 M ob obs w K Kp):=by
 have mono:∀ {n:Imm},(∀ b o x,M b o x->n b o x)->bT n ob A args:=fun H=>⟨C.1,fun i v a F G=>(C.2 i v a F G).monoM H⟩
 cases h with
 | pure r new h k=>
  obtain ⟨n,m,d,_,s⟩:=hm.frzL args
  refine cE.mono (fun e w' ⟨M',g,l,j,c,_,p⟩=>?_) (lY (ks:=[]) m rfl (mono d.imm) h)
  refine ⟨M',_,_,d.trans l,j,.inl ?_⟩
  rw [bD,<-s] at k
  cases e with
  | returned u=>exact ⟨u,_,rfl,p 5 u r c,k⟩
  | panicked q=>exact c.elim
  | outgrown=>exact c.elim
 | eff y ks r obs' B h k=>
  obtain ⟨n,m,d,_,s⟩:=Mem.frzs y M obs hm
  refine cE.mono (fun e w' ⟨M',g,l,j,c,_,p⟩=>?_) (lY m B (mono d.imm) h)
  refine ⟨M',_,_,d.trans l,j,.inl ?_⟩
  rw [bD] at k
  cases e with
  | returned u=>exact ⟨u,_,rfl,p 5 u r c,k⟩
  | panicked q=>exact c.elim
  | outgrown=>exact c.elim
 | effp y ks r obs' B h k=>
  obtain ⟨n,m,d,_,s⟩:=Mem.frzs y M obs hm
  refine cE.mono (fun e w' ⟨M',g,l,j,c,_,p⟩=>?_) (lY m B (mono d.imm) h)
  refine ⟨M',_,_,d.trans l,j,.inr ?_⟩
  rw [bD] at k
  cases e with
  | returned u=>exact c.elim
  | panicked q=>
   obtain ⟨v,z,t⟩:=c
   exact ⟨q,_,rfl,⟨v,z,p 5 v r t⟩,k⟩
  | outgrown=>exact c.elim
 | pan r h k=>
  obtain ⟨n,m,d,_,s⟩:=hm.frzL args
  refine cE.mono (fun e w' ⟨M',g,l,j,c,I,p⟩=>?_) (lY (ks:=[]) m rfl (mono d.imm) h)
  have D:g=[]:=Al o_
  subst D
  refine ⟨M',_,_,d.trans l,j,.inr ?_⟩
  cases e with
  | returned u=>exact c.elim
  | panicked q=>
   obtain ⟨v,z,t⟩:=c
   exact ⟨q,r,rfl,⟨v,z,t.pure⟩,k⟩
  | outgrown=>exact c.elim
theorem A5 {VS:AVal->List AObj->Prop} {CS:Fn->List AVal->Prop} {PS:AVal->Prop} {a:List AObj} {base:Nat} (d:base=aM obs):∀ {r:OR},Sd VS CS PS a base r->orF P obs K Kp r->
  (∃ v,VS v a/\K v obs)\/(∃ k x v,VS v (bH a k x)/\K v (bH obs k x))\/(∃ f args,CS f args/\CallG P f args obs K Kp)\/∃ v,PS v/\Kp v obs
 | .no,_,k=>k.elim
 | .val v,h,k=>.inl ⟨v,h,k⟩
 | .mkf fn fs cs,h,k=>.inl ⟨_,h,k⟩
 | .need p r,h,k=>A5 d (h k.1) k.2
 | .alt p v w,h,k=>by
  rcases k with ⟨hp,k⟩ | k
  .exact .inl ⟨v,h.1 hp,k⟩
  .exact .inl ⟨w,h.2,k⟩
 | .idx n f,h,⟨i,hi,k⟩=>A5 d (h i hi) k
 | .elem xs i f,h,⟨x,hx,k⟩=>A5 d (h x hx) k
 | .byte l i,h,⟨c,hc,k⟩=>.inl ⟨_,h c hc,k⟩
 | .text xs,h,⟨l,hl,hm,k⟩=>.inl ⟨_,h l hl hm,k⟩
 | .find es key f,h,⟨o,ho,k⟩=>by subst ho;exact A5 d (r:=f (aZ es key)) h k
 | .born x v,h,k=>.inr (.inl ⟨base,x,v,h,by rw [d];exact k⟩)
 | .upd i x v,h,k=>.inr (.inl ⟨i,x,v,h,k⟩)
 | .nilq xs neg,⟨b,h1,h2⟩,k=>.inl ⟨_,h2,k b h1⟩
 | .call f args,h,k=>.inr (.inr (.inl ⟨f,args,h,k⟩))
 | .pan v,h,k=>.inr (.inr (.inr ⟨v,h,k⟩))
theorem BU (l:List AObj) (n:Nat):aC (l++Ah n .dead)=aC l:=by
 funext i
 induction l generalizing i with
 | nil=>
  induction n generalizing i with
  | zero=>rfl
  | succ n a=>
   cases i with
   | zero=>rfl
   | succ i=>have:=a i;simpa [aC,List.replicate_succ] using this
 | cons x r a=>
  cases i with
  | zero=>rfl
  | succ i=>exact a i
theorem LA (l:List AObj) (x:AObj):∀ k,(k<l.length->bH (l++[.dead]) k x=bH l k x++[.dead])/\(l.length<=k->bH (l++[.dead]) k x=bH l k x):=by
 induction l with
 | nil=>
  intro k
  refine ⟨fun h=>by simp at h,fun _=>?_⟩
  cases k with
  | zero=>rfl
  | succ k=>rfl
 | cons y r a=>
  intro k
  cases k with
  | zero=>exact ⟨fun _=>rfl,fun h=>by simp at h⟩
  | succ k=>
   obtain ⟨h1,b⟩:=a k
   exact ⟨fun h=>by show y::bH (r++[.dead]) k x=y::(bH r k x++[.dead]);grind,fun h=>by show y::bH (r++[.dead]) k x=y::bH r k x;grind⟩
theorem aHl {k g:Nat} {v:Value} (h:at' (ob++[[]]) k g=some v):at' ob k g=some v:=by
 unfold at' at *
 by_cases b:k<ob.length
 .rwa [Ag b] at h
 .rw [Ar o_] at h
  cases a:([[]]:Hs)[k-ob.length]? with
  | none=>grind
  | some hs=>
   rw [a] at h
   have:hs=[]:=by
    have:=Az a
    simp_all
   simp_all
theorem rI (hE:EnvOK E) (hm:Mem M ob obs w) {ρv:Operand->Value} {ρ:Operand->AVal} (D:∀ x,Rep M ob (ρv x) (ρ x)) {hint:Nat} {p:Oper} (h:orF E.P obs K Kp (eop E hint (aM obs) (aC obs) ρ p.op p.type)):
  oY E.P p ρv w (D2 M ob obs w K Kp):=by
 obtain ⟨dst,op,ty,pos,b,y⟩:=p
 obtain ⟨F,A,Q⟩:=hm.extend 1
 have m:ob.length=obs.length:=hm.len
 have s:(obs++Ah 1 AObj.dead)[aM obs]? =some .dead:=by rw [bD];simp
 have n:(ob++Ah 1 ([]:List Value))[aM obs]? =some []:=by rw [bD,<-m];simp
 have hs:=xE hE F s n (fun x=>(D x).mono (fun _ _ _ h=>h) A.hs) hint op ty
 rw [BU] at hs
 have J:Ah 1 AObj.dead=[.dead]:=rfl
 -- a value,where no number was taken
 have fin:∀ {v:AVal} {obs':List AObj},obs'.length=obs.length->K v obs'->VS E.P ρv op ty M (ob++Ah 1 []) (obs++Ah 1 .dead) w v (obs'++Ah 1 .dead)->oY E.P ⟨dst,op,ty,pos,b,y⟩ ρv w (D2 M ob obs w K Kp):=by
  intro v obs' hl j ⟨u,w',M',ob',vs⟩
  have l:∀ (i:Nat) hs,obs'.length<=i->ob'[i]? =some hs->hs=[]:=by
   intro i hs R L
   have o:=(Ac.1 L).1
   rw [vs.mem.len] at o
   simp at o
   obtain rfl:i=aM obs:=by rw [bD];omega
   have:=(vs.still (aM obs) [] s n).2 rfl (by rw [bD,<-hl];simp)
   grind
  obtain ⟨O,G,C⟩:=vs.mem.shrink l
  have c:D2 M ob obs w K Kp (.returned u) w':=⟨M',_,_,C (A.trans vs.ext) o_,O,.inl ⟨u,v,rfl,vs.rep.monoA G,j⟩⟩
  rcases vs.run dst pos b y with d | ⟨d,rfl⟩
  .exact .inl ⟨u,w',d,c⟩
  .exact .inr (.inl ⟨w',d,c⟩)
 rcases A5 (P:=E.P) (K:=K) (Kp:=Kp) rfl hs h with ⟨v,h1,z⟩ | ⟨k,x,v,h1,z⟩ | ⟨f,args,⟨N,t,H⟩,j⟩ | ⟨v,⟨u,d,r⟩,j⟩
 .exact fin rfl z h1
 .rw [J] at h1
  by_cases j:k<obs.length
  .rw [(LA obs x k).1 j] at h1
   exact fin (by rw [fP _ j];simp) z h1
  .rw [(LA obs x k).2 o_] at h1
   obtain ⟨u,w',M',ob',vs⟩:=h1
   have c:D2 M ob obs w K Kp (.returned u) w':=⟨M',_,_,A.trans vs.ext,vs.mem,.inl ⟨u,v,rfl,vs.rep,z⟩⟩
   rcases vs.run dst pos b y with d | ⟨d,rfl⟩
   .exact .inl ⟨u,w',d,c⟩
   .exact .inr (.inl ⟨w',d,c⟩)
 .have q:bT M ob N args:=⟨t.1,fun i v a B I=>(t.2 i v a B I).monoA fun k g v=>aHl⟩
  exact gS.op (fun e w h=>h.ne) (H dst pos b y) (M3 hm q j)
 .exact .inr (.inr (.inl ⟨u,w,d dst pos b y,M,ob,obs,Ext.refl _ _ _ _,hm,.inr ⟨_,v,rfl,⟨u,rfl,r.pure⟩,j⟩⟩))
end
open Classical
structure AS where
 g:Nat->AVal
 o:Nat->AObj
 br:Nat->Nat->Prop
def gT (g:Nat->AVal) (d:Option Nat) (z:AVal):Nat->AVal:=fun t=>if d=some t then z else g t
def inB (base n k:Nat):Prop:=base<=k/\k<base+n
noncomputable def lZ (o:Nat->AObj) (base:Nat) (bs:List AObj):Nat->AObj:=fun k=>if inB base bs.length k then bs.getD (k-base) .dead else o k
noncomputable def AS.upd (s:AS) (i:Nat) (d:Option Nat) (z:AVal) (base:Nat) (bs:List AObj):AS:=⟨gT s.g d z,lZ s.o base bs,fun a k=>s.br a k\/(a=i/\inB base bs.length k)⟩
def PG (tab:List Nat) (j:Nat) (br:Nat->Nat->Prop) (k:Nat):Prop:=∃ i,br i k/\cF (dC tab j) i=false
noncomputable def mP (tab:List Nat) (j:Nat) (s:AS):Nat->AObj:=fun k=>if PG tab j s.br k then .dead else s.o k
def evG (tab:List Nat) (all:List Oper) (j:Nat) (g:Nat->AVal):Operand->AVal
 | .tmp t=>bif L5 tab j t 0 all then .undef else g t
 | x=>ev [] x
theorem aGX (tab:List Nat) (all:List Oper) (j:Nat) (fr:List (Nat×AVal)):evH tab all j fr=evG tab all j (aR fr):=by
 funext x
 cases x<;>rfl
def aFr (P:Program) (og:Nat->AObj) (f:Fn) (args:List AVal) (z:AVal):Prop:=
 ∃ ks obs' l,aC l=og/\iV ks l=true/\obs'.length=ks.length/\bE P f (dH (cvtV 0 ks og 5) args) (fN 0 ks l) (.ret z) obs'/\(∀ b,fI ks b l 0 obs' l=l)/\∀ b,embV ks b l 5 z=z
def fK (P:Program) (og:Nat->AObj) (base:Nat) (z:AVal) (bs:List AObj):OR->Prop
 | .val v=>z=v/\bs=[]
 | .mkf fn a cs=>z= .func fn a cs/\bs=[]
 | .need p r=>p/\fK P og base z bs r
 | .alt p v w=>((p/\z=v)\/z=w)/\bs=[]
 | .idx n f=>∃ i:Nat,n=(i:Int)/\fK P og base z bs (f i)
 | .elem xs i f=>∃ x,xs[i]? =some x/\fK P og base z bs (f x)
 | .byte l i=>∃ c,l[i]? =some c/\z= .int .u8 (c.toNat:Int)/\bs=[]
 | .text xs=>∃ l:List UInt8,xs=l.map ub/\(l.length:Int)<=9223372036854775807/\z= .str l/\bs=[]
 | .find es key f=>fK P og base z bs (f (aZ es key))
 | .born x v=>z=v/\bs=[x]
 | .call f args=>(∃ r new,bE P f (dH (cvtV 0 [] og 5) args) [] (.ret r) new/\z=embV [] base [] 5 r/\bs=iC base new)\/(aFr P og f args z/\bs=[])
 | _=>False
theorem A4 {P:Program} {og:Nat->AObj} {VS:AVal->List AObj->Prop} {CS:Fn->List AVal->Prop} {PS:AVal->Prop} {b:List AObj} {a base:Nat} {z:AVal} {bs:List AObj}:∀ {r:OR},Sd VS CS PS b a r->fK P og base z bs r->
  (VS z b/\bs=[])\/(∃ x,VS z (bH b a x)/\bs=[x])\/(∃ f args d new,CS f args/\bE P f (dH (cvtV 0 [] og 5) args) [] (.ret d) new/\z=embV [] base [] 5 d/\bs=iC base new)\/∃ f args,CS f args/\aFr P og f args z/\bs=[]
 | .no,_,k=>k.elim
 | .val v,h,⟨k1,k2⟩=>.inl ⟨k1▸h,k2⟩
 | .mkf fn fs cs,h,⟨k1,k2⟩=>.inl ⟨k1▸h,k2⟩
 | .need p r,h,k=>A4 (h k.1) k.2
 | .alt p v w,h,⟨k1,k2⟩=>by
  rcases k1 with ⟨hp,k⟩ | k
  .exact .inl ⟨k▸h.1 hp,k2⟩
  .exact .inl ⟨k▸h.2,k2⟩
 | .idx n f,h,⟨i,hi,k⟩=>A4 (h i hi) k
 | .elem xs i f,h,⟨x,hx,k⟩=>A4 (h x hx) k
 | .byte l i,h,⟨c,hc,k1,k2⟩=>.inl ⟨k1▸h c hc,k2⟩
 | .text xs,h,⟨l,hl,hm,k1,k2⟩=>.inl ⟨k1▸h l hl hm,k2⟩
 | .find es key f,h,k=>A4 (r:=f (aZ es key)) h k
 | .born x v,h,⟨k1,k2⟩=>.inr (.inl ⟨x,k1▸h,k2⟩)
 | .upd i x v,h,k=>k.elim
 | .nilq xs neg,h,k=>k.elim
 | .call f args,h,.inl ⟨r,new,k1,k2,k3⟩=>.inr (.inr (.inl ⟨f,args,r,new,h,k1,k2,k3⟩))
 | .call f args,h,.inr ⟨k1,k2⟩=>.inr (.inr (.inr ⟨f,args,h,k1,k2⟩))
 | .pan v,h,k=>k.elim
def HO (z:AVal) (k:Nat) (x:AObj):OR->Prop
 | .need p r=>p/\HO z k x r
 | .idx n f=>∃ i:Nat,n=(i:Int)/\HO z k x (f i)
 | .elem xs i f=>∃ y,xs[i]? =some y/\HO z k x (f y)
 | .find es key f=>HO z k x (f (aZ es key))
 | .upd a x' v=>a=k/\x'=x/\z=v
 | _=>False
theorem uD {VS:AVal->List AObj->Prop} {CS:Fn->List AVal->Prop} {PS:AVal->Prop} {a:List AObj} {base:Nat} {z:AVal} {k:Nat} {x:AObj}:∀ {r:OR},Sd VS CS PS a base r->HO z k x r->VS z (bH a k x)
 | .no,_,h=>h.elim
 | .val v,_,h=>h.elim
 | .mkf fn fs cs,_,h=>h.elim
 | .need p r,h,u=>uD (h u.1) u.2
 | .alt p v w,_,h=>h.elim
 | .idx n f,h,⟨i,hi,u⟩=>uD (h i hi) u
 | .elem xs i f,h,⟨y,hy,u⟩=>uD (h y hy) u
 | .byte l i,_,h=>h.elim
 | .text xs,_,h=>h.elim
 | .find es key f,h,u=>uD (r:=f (aZ es key)) h u
 | .born x v,_,h=>h.elim
 | .upd i y v,h,⟨e1,e2,e3⟩=>by subst e1 e2 e3;exact h
 | .nilq xs neg,_,h=>h.elim
 | .call f args,_,h=>h.elim
 | .pan v,_,h=>h.elim
theorem lG {P:Program} {og:Nat->AObj} {b base hint a:Nat} {e:TypeId} {xs:List AVal} {z:AVal}:¬ fK P og b z [] (oW hint base a e xs):=by
 unfold oW
 split<;>(intro h;have:=h.2;cases this)
theorem MO {P:Program} {og:Nat->AObj} {b:Nat} {c:Bool} {r:OR} {z:AVal} {bs:List AObj} (h:fK P og b z bs (bif c then r else .no)):fK P og b z bs r:=by
 cases c with
 | true=>exact h
 | false=>exact h.elim
theorem V4 {P:Program} {E:Env} {og:Nat->AObj} {b base d hint:Nat} {ρ:Operand->AVal} {op:Op} {ty:TypeId} {z:AVal}:fK P og b z [] (kZ E hint base og ρ op ty)->fK P og b z [] (kZ E hint d og ρ op ty):=by
 have q:∀ (t k:Nat) (x y:AVal),fK P og b z [] (rX E hint base og t k x y)->fK P og b z [] (rX E hint d og t k x y):=by
  intro t k x y
  unfold rX
  split
  .rename_i e a s _ _ _ _
   cases Ff 1 a with
   | false=>exact id
   | true=>
    simp only [cond_true]
    split
    .exact id
    .split
     .split
      .exact id
      .rename_i j _ _
       cases Av j a with
       | false=>exact id
       | true=>exact fun h=>(lG h.2).elim
      .rename_i j _ _
       cases Av j a with
       | false=>exact id
       | true=>
             intro h
             refine ⟨h.1,?_⟩
             have g:=h.2
             clear h
             split at g
             .exact g
             .exact g
             .exact (lG g.2).elim
      .exact id
     .exact fun h=>(lG h.2).elim
     .exact id
     .exact id
     .exact id
  .exact id
 cases op
 case assign x=>
  simp only [kZ]
  split
  .exact id
  .split
   .split
    .split
     .split
      .exact fun h=>(lG (MO h)).elim
      .exact id
     .exact id
    .exact id
   .exact id
 case alloc t=>
  simp only [kZ]
  split
  .rename_i l _
   cases oE l.zero.cells with
   | false=>exact id
   | true=>intro h;have:=h.2;cases this
  .exact id
 case box t x=>
  simp only [kZ]
  cases oE (ρ x).cells with
  | false=>exact id
  | true=>intro h;have:=h.2;cases this
 case buildSlice t n ps=>
  simp only [kZ]
  unfold lU
  split
  .rename_i e a _ _ _ _ _
   cases (Av (ZU (evL ρ ps.toList)) n&&Ff (n*a) 1000&&Ff 1 a) with
   | false=>exact id
   | true=>
    simp only [cond_true]
    split
    .split
     .exact id
     .exact fun h=>(lG h).elim
    .exact id
  .exact id
 case makeSlice t x y=>
  simp only [kZ]
  unfold TJ
  split
  .split
   .rename_i m _
    intro h
    cases p:(Ff 1 _&&BV (pureV (fun _=>.dead) 4 m.zero)) with
    | false=>simp_all
    | true=>
     rw [p] at h
     obtain ⟨i,_,_,h⟩:=h
     have:=h.2
     cases this
   .exact id
  .exact id
 case makeMap t x=>
  cases x with
  | some x=>exact id
  | none=>
   simp only [kZ]
   split
   .split
    .intro h;have:=h.2;cases this
    .exact id
   .exact id
 case call c=>
  obtain ⟨callee,args,o⟩:=c
  cases callee with
  | value f=>exact id
  | invoke r n=>exact id
  | builtin u=>
   simp only [kZ]
   split
   .exact id
   .exact id
   .exact id
   .grind
   .exact id
   .exact id
   .exact id
   .exact id
 all_goals exact id
theorem aEm {P:Program} {og:Nat->AObj} {b:Nat} {z:AVal} {n:Int} {p:Nat->Prop} {x:Nat->AObj} {v:AVal}:¬ fK P og b z [] (.idx n fun y=>.need (p y) (.born (x y) v)):=by
 rintro ⟨i,_,_,h⟩
 have:=h.2
 cases this
theorem aBp {P:Program} {E:Env} {og:Nat->AObj} {b base a hint:Nat} {ρ:Operand->AVal} {op:Op} {ty:TypeId} {z:AVal}:fK P og b z [] (eop E hint base og ρ op ty)->fK P og b z [] (eop E hint a og ρ op ty):=by
 unfold eop
 have d:(∃ r,jT E hint base og ρ op=some r/\jT E hint a og ρ op=some r)\/(jT E hint base og ρ op=none/\jT E hint a og ρ op=none)\/∃ r,jT E hint base og ρ op=some r/\¬ fK P og b z [] r:=by
  have same:∀ {o:Option OR},jT E hint base og ρ op=o->jT E hint a og ρ op=o->(∃ r,jT E hint base og ρ op=some r/\jT E hint a og ρ op=some r)\/(jT E hint base og ρ op=none/\jT E hint a og ρ op=none)\/∃ r,jT E hint base og ρ op=some r/\¬ fK P og b z [] r:=fun {o} h1 e=>by
   cases o with
   | none=>grind
   | some r=>grind
  cases op with
  | call c=>
   obtain ⟨callee,args,g⟩:=c
   cases callee with
   | value f=>exact same rfl rfl
   | invoke r n=>exact same rfl rfl
   | builtin i=>
    cases i with
    | append=>
     simp only [jT]
     split
     .split
      .refine .inr (.inr ⟨_,rfl,?_⟩)
       unfold TF
       split
       .split
        .intro h
         exact aEm (MO h)
        .exact fun h=>h.elim
       .exact fun h=>h.elim
      simp
     simp
    | _=>exact same rfl rfl
  | slice t x lo j k=>cases lo<;>cases j<;>cases k<;>exact same rfl rfl
  | _=>exact same rfl rfl
 rcases d with ⟨r,h1,e⟩ | ⟨h1,e⟩ | ⟨r,h1,e⟩
 .grind
 .rw [h1,e];exact V4
 grind
def zK:List AObj->Nat->List AObj->List AObj
 | obs,_,[]=>obs
 | obs,base,x::r=>zK (bH obs base x) (base+1) r
theorem GG (base:Nat) (a:List AObj):∀ (new:List AObj) (j:Nat) (obs:List AObj),fI [] base a j new obs=zK obs (base+j) (iC base new)
 | [],j,obs=>rfl
 | x::r,j,obs=>by
  have e:dO [] base j=base+j:=by rfl
  have b:oT [] base a j x=oT [] base [] 0 x:=by rfl
  simp only [fI,iC,Bk,zK]
  rw [GG base a r (j+1),e,b]
  rfl
theorem qE {P:Program} {m bl:Bool} {b obs:List AObj} {base:Nat} {K Kp:AVal->List AObj->Prop}:∀ {r:OR},orD P false m bl b obs base K Kp r->
  (∃ z bs,(bl=true->bs=[])/\fK P (aC b) base z bs r/\K z (zK obs base bs))\/∃ z k x,m=true/\aC b k≠ .dead/\HO z k x r/\K z (bH obs k x)
 | .no,k=>k.elim
 | .val v,k=>.inl ⟨v,[],fun _=>rfl,⟨rfl,rfl⟩,k⟩
 | .mkf fn fs cs,k=>.inl ⟨_,[],fun _=>rfl,⟨rfl,rfl⟩,k⟩
 | .need p r,⟨hp,k⟩=>by
  rcases qE k with ⟨z,bs,d,h1,a⟩ | ⟨z,g,x,d,h1,a,h3⟩
  .exact .inl ⟨z,bs,d,⟨hp,h1⟩,a⟩
  .exact .inr ⟨z,g,x,d,h1,⟨hp,a⟩,h3⟩
 | .alt p v w,k=>by
  rcases k with ⟨hp,k⟩ | k
  .exact .inl ⟨v,[],fun _=>rfl,⟨.inl ⟨hp,rfl⟩,rfl⟩,k⟩
  .exact .inl ⟨w,[],fun _=>rfl,⟨.inr rfl,rfl⟩,k⟩
 | .idx n f,⟨i,j,k⟩=>by
  rcases qE k with ⟨z,bs,d,h1,a⟩ | ⟨z,g,x,d,h1,a,h3⟩
  .exact .inl ⟨z,bs,d,⟨i,j,h1⟩,a⟩
  .exact .inr ⟨z,g,x,d,h1,⟨i,j,a⟩,h3⟩
 | .elem xs i f,⟨y,hy,k⟩=>by
  rcases qE k with ⟨z,bs,d,h1,a⟩ | ⟨z,g,x,d,h1,a,h3⟩
  .exact .inl ⟨z,bs,d,⟨y,hy,h1⟩,a⟩
  .exact .inr ⟨z,g,x,d,h1,⟨y,hy,a⟩,h3⟩
 | .byte l i,⟨c,hc,k⟩=>.inl ⟨_,[],fun _=>rfl,⟨c,hc,rfl,rfl⟩,k⟩
 | .text xs,⟨l,hl,hm,k⟩=>.inl ⟨_,[],fun _=>rfl,⟨l,hl,hm,rfl,rfl⟩,k⟩
 | .find es key f,⟨o,ho,k⟩=>by
  subst ho
  rcases qE k with ⟨z,bs,d,h1,a⟩ | ⟨z,g,x,d,h1,a,h3⟩
  .exact .inl ⟨z,bs,d,h1,a⟩
  .exact .inr ⟨z,g,x,d,h1,a,h3⟩
 | .born x v,k=>by
  cases bl with
  | true=>exact k.elim
  | false=>exact .inl ⟨v,[x],(fun h=>nomatch h),⟨rfl,rfl⟩,k⟩
 | .upd i x v,k=>by
  simp only [orD,Jm] at k
  split at k
  .rename_i h
   obtain ⟨h1,a⟩:=aQ h
   exact .inr ⟨v,i,x,h1,(fun e=>by rw [e] at a;cases a),⟨rfl,rfl,rfl⟩,k⟩
  grind
 | .nilq xs neg,k=>k.elim
 | .call f args,k=>by
  cases bl with
  | true=>exact k.elim
  | false=>
   have k:CallD P f args false b base obs K Kp:=k
   cases k with
   | pure r new h k=>exact .inl ⟨_,_,(fun h=>nomatch h),.inl ⟨r,new,h,rfl,rfl⟩,by rw [GG,Dy] at k;rw [aBt] at k;exact k⟩
   | sole h=>cases h
   | look ks r o q hl h j hz k=>exact .inl ⟨r,[],fun _=>rfl,.inr ⟨⟨ks,o,b,rfl,q,hl,h,j,hz⟩,rfl⟩,k⟩
 | .pan v,k=>k.elim
theorem rN (l:List AObj) (n k:Nat) (x:AObj):aC (bH l n x) k=if k=n then x else aC l k:=by
 induction l generalizing n k with
 | nil=>
  induction n generalizing k with
  | zero=>cases k<;>rfl
  | succ n a=>
   cases k with
   | zero=>rfl
   | succ k=>show aC (bH [] n x) k=_;rw [a];simp [aC]
 | cons y r a=>
  cases n with
  | zero=>cases k<;>simp [bH,aC]
  | succ n=>
   cases k with
   | zero=>simp [bH,aC]
   | succ k=>simp only [bH,aC,a];simp
theorem SJ {l m:List AObj} (h:aC l=aC m):∀ ks,iV ks l=iV ks m
 | []=>rfl
 | k::r=>by unfold iV;rw [h,SJ h r]
theorem aCD {l m:List AObj} (h:aC l=aC m) {ks:List Nat}:fN 0 ks l=fN 0 ks m:=by
 have e:∀ j x,EH 0 ks l j x=EH 0 ks m j x:=fun j x=>by cases x<;>simp only [EH,h]
 have:∀ (r:List Nat) (j:Nat),pS 0 ks l j r=pS 0 ks m j r:=fun r=>by
  induction r with
  | nil=>intro j;rfl
  | cons k r a=>intro j;simp only [pS,e,h,a]
 exact this ks 0
theorem TH {l m:List AObj} (h:aC l=aC m) {ks:List Nat} (j g:Nat):gX ks l j g=gX ks m j g:=by unfold gX;rw [h]
theorem IY {l m:List AObj} (h:aC l=aC m) {ks:List Nat} {b:Nat}:∀ n v,embV ks b l n v=embV ks b m n v
 | 0,_=>rfl
 | n+1,v=>by
  have a:embV ks b l n=embV ks b m n:=funext (IY h n)
  cases v<;>simp only [embV,TH h,a]
theorem TG {l m:List AObj} (h:aC l=aC m) {ks:List Nat} {b:Nat}:∀ (o:List AObj) (j:Nat) (x y:List AObj),aC x=aC y->aC (fI ks b l j o x)=aC (fI ks b m j o y)
 | [],_,_,_,e=>e
 | c::r,j,x,y,e=>by
  have d:oT ks b l j c=oT ks b m j c:=by
   have a:embV ks b l 4=embV ks b m 4:=funext (IY h 4)
   cases c<;>simp only [oT,TH h,a]
  unfold fI
  refine TG h r (j+1) _ _ ?_
  rw [d]
  funext k
  rw [rN,rN,e]
theorem MJ {l:List AObj} {ks:List Nat} {b:Nat} (a:∀ (j k:Nat),ks[j]? =some k->k<l.length):∀ (o:List AObj) (j:Nat) (x:List AObj),j+o.length<=ks.length->x.length=l.length->(fI ks b l j o x).length=l.length
 | [],_,_,_,e=>e
 | c::r,j,x,h,e=>by
  rw [Bt] at h
  have d:ks[j]? =some ks[j]:=Ab o_
  unfold fI
  refine MJ a r (j+1) _ o_ ?_
  rw [fV d,fP _ (by rw [e];exact a j _ d),List.length_set,e]
section
variable {P:Program} {E:Env} {M:Imm} {ob:Hs} {L:List AObj} {w:World}
theorem eG (l:List AObj) (k:Nat):(k<l.length/\l[k]? =some (aC l k))\/(l.length<=k/\l[k]? =none/\aC l k= .dead):=by
 by_cases h:k<l.length
 .exact .inl ⟨h,mY h⟩
 .refine .inr ⟨by omega,Bj o_,?_⟩
  cases a:aC l k with
  | dead=>rfl
  | _=>exact absurd (Ac.1 (bL a s_)).1 h
noncomputable def bV (hid:Nat->Prop) (L:List AObj):List AObj:=(Df L.length).map fun k=>if hid k then .dead else aC L k
theorem EX {hid:Nat->Prop} {k:Nat} (h:k<L.length):(bV hid L)[k]? =some (if hid k then .dead else aC L k):=by
 simp [bV,Dr h]
theorem dI {hid:Nat->Prop}:(bV hid L).length=L.length:=by simp [bV]
theorem eZ {hid:Nat->Prop}:QP (bV hid L) L:=⟨dI,fun k=>by
 rcases eG L k with ⟨h,e⟩ | ⟨h,e,_⟩
 .rw [EX h,e]
  grind
 .left;rw [e,Bj (by rw [dI];omega)]⟩
theorem fA {hid:Nat->Prop}:aC (bV hid L)=fun k=>if hid k then .dead else aC L k:=by
 funext k
 rcases eG L k with ⟨h,e⟩ | ⟨h,e,b⟩
 .exact eV (EX h)
 .rcases eG (bV hid L) k with ⟨a,_⟩ | ⟨_,_,e3⟩
  .rw [dI] at a;omega
  grind
def QV (M:Imm) (ob:Hs) (L:List AObj) (w:World) (z:AVal) (base:Nat) (bs:List AObj) (e:Ending) (w':World):Prop:=
 ∃ M' ob' L' u,e= .returned u/\Ext M ob L w M' ob' L' w'/\Mem M' ob' L' w'/\aC L'=lZ (aC L) base bs/\L.length<=L'.length/\Rep M' ob' u z/\∀ (k:Nat),¬ inB base bs.length k->(∀ hs,ob[k]? =some hs->hs=[])->∀ hs,ob'[k]? =some hs->hs=[]
theorem aG6 (hE:EnvOK E) (hm:Mem M ob L w) {hid:Nat->Prop} {ρv:Operand->Value} {ρ:Operand->AVal} (hρ:∀ x,Rep M ob (ρv x) (ρ x)) {hint base:Nat} {p:Oper} {z:AVal} {bs:List AObj}
  (I:∀ (k:Nat),inB base bs.length k->∀ hs,ob[k]? =some hs->hs=[])
  (h:fK E.P (aC (bV hid L)) base z bs (eop E hint base (aC (bV hid L)) ρ p.op p.type)):oY E.P p ρv w (QV M ob L w z base bs):=by
 obtain ⟨dst,op,ty,pos,m,X⟩:=p
 -- room
 obtain ⟨n,hn⟩:∃ n,base+bs.length+1<=L.length+n/\0<n:=⟨base+bs.length+1,by omega,by omega⟩
 obtain ⟨hn,hn0⟩:=hn
 obtain ⟨F,Z,m3⟩:=hm.extend n
 have V:(L++Ah n AObj.dead).length=L.length+n:=by simp
 have hob1:(ob++Ah n ([]:List Value)).length=L.length+n:=by simp [hm.len]
 generalize hL1:L++Ah n AObj.dead=L1 at F Z m3 V
 generalize hO1:ob++Ah n ([]:List Value)=ob1 at F Z m3 hob1
 have H:aC L1=aC L:=by rw [<-hL1];exact BU L n
 have d:∀ k,(∀ hs,ob[k]? =some hs->hs=[])->k<L1.length->ob1[k]? =some []:=fun k r s=>by
  rw [<-hO1]
  by_cases Q:k<ob.length
  .rw [Ag Q,Ab Q,r _ (Ab Q)]
  .rw [Ar o_,Ec,if_pos (by rw [hm.len] at Q⊢;omega)]
 have t:aC (bV hid L1)=aC (bV hid L):=by rw [fA,fA,H]
 -- where it would be born
 obtain ⟨i,J,hbb,A,h⟩:∃ i,ob1[i]? =some []/\(bs≠[]->i=base)/\i<L1.length/\fK E.P (aC (bV hid L)) base z bs (eop E hint i (aC (bV hid L)) ρ op ty):=by
  by_cases hbs:bs=[]
  .subst hbs
   exact ⟨L.length,d _ (fun hs y=>by have:=(Ac.1 y).1;rw [hm.len] at this;omega) o_,fun h=>absurd rfl h,by omega,aBp h⟩
  .have hpos:0<bs.length:=by cases bs<;>simp at hbs⊢
   exact ⟨base,d base (I base ⟨Bi _,by omega⟩) o_,fun _=>rfl,by omega,h⟩
 have U:=F.weak (eZ (hid:=hid))
 have hb1:(bV hid L1)[i]? =some .dead:=U.idle J
 have hs:=xE hE U hb1 J (fun x=>(hρ x).mono (fun _ _ _ h=>h) Z.hs) hint op ty
 rw [t] at hs
 have live:∀ {k:Nat} {c:AObj},L1[k]? =some c->(bV hid L1)[k]? =some c\/((bV hid L1)[k]? =some .dead/\(∃ hs,ob1[k]? =some hs/\hs≠[])/\L1[k]? =some c):=fun {k c} G=>by
  rcases (eZ (hid:=hid) (L:=L1)).2 k with q | q
  .left;rw [q];exact G
  .by_cases K:c= .dead
   .left;rw [q,K]
   .right;exact ⟨q,F.live G K,G⟩
 have fin:∀ {u:Value} {w':World},QV M ob L w z base bs (.returned u) w'->((execOp ρv ⟨dst,op,ty,pos,m,X⟩).run E.P w= .ok (.value u) w'\/((execOp ρv ⟨dst,op,ty,pos,m,X⟩).run E.P w= .ok .skip w'/\u=undef))->oY E.P ⟨dst,op,ty,pos,m,X⟩ ρv w (QV M ob L w z base bs):=by
  intro u w' ha hr
  rcases hr with hr | ⟨hr,rfl⟩
  .exact .inl ⟨u,w',hr,ha⟩
  .exact .inr (.inl ⟨w',hr,ha⟩)
 rcases A4 (P:=E.P) hs h with ⟨⟨u,w',M',ob',vs⟩,rfl⟩ | ⟨x,⟨u,w',M',ob',vs⟩,rfl⟩ | ⟨f,args,r0,new,⟨va,W,hx⟩,N,rfl,rfl⟩ | ⟨f,args,⟨va,W,hx⟩,⟨ks,o,l,hl,r,hol,N,hi,hz⟩,rfl⟩
 .obtain ⟨S,v2,v3⟩:=F.revive (obs':=L1) (eZ (hid:=hid)) vs.ext vs.still vs.mem (by rw [dI]) fun k c G=>live G
  refine fin ⟨M',ob',L1,u,rfl,Z.trans v2,S,?_,by omega,vs.rep,fun k r hf hs y=>?_⟩ (vs.run dst pos m X)
  .rw [H]
   funext k
   unfold lZ
   rw [if_neg fun h=>by have:=h.2;have:=h.1;simp at *;omega]
  .have s:k<L1.length:=by rw [<-S.len];exact (Ac.1 y).1
   have e:=d k hf s
   have K:=F.idle e
   have:=(v3 k [] K e).2 rfl K
   rw [y] at this
   cases this
   rfl
 .obtain rfl:base=i:=(hbb s_).symm
  have g:bH L1 base x=L1.set base x:=fP x A
  have C:bH (bV hid L1) base x=(bV hid L1).set base x:=fP x (by rw [dI];exact A)
  obtain ⟨S,v2,v3⟩:=F.revive (obs':=bH L1 base x) (eZ (hid:=hid)) vs.ext vs.still vs.mem (by rw [g,C];simp [dI]) fun k c G=>by
   by_cases r:k=base
   .subst r
    left
    rw [g,Ba A] at G
    rw [C,Ba (by rw [dI];exact A)]
    exact G
   .rw [g,Bh (Eu r)] at G
    rw [C,Bh (Eu r)]
    exact live G
  refine fin ⟨M',ob',bH L1 base x,u,rfl,Z.trans v2,S,?_,by rw [g];simp;omega,vs.rep,fun k r hf hs y=>?_⟩ (vs.run dst pos m X)
  .funext k
   unfold lZ
   by_cases r:k=base
   .subst r
    rw [if_pos ⟨Bi _,by simp⟩,g]
    rw [eV (Ba A)]
    simp
   .rw [if_neg fun h=>r (by have h1:=h.1;have h2:=h.2;simp at h2;omega),<-H,g]
    rcases eG L1 k with ⟨h1,O⟩ | ⟨h1,O,R⟩
    .exact eV (by rw [Bh (Eu r)];exact O)
    .rcases eG (L1.set base x) k with ⟨h3,_⟩ | ⟨_,_,e3⟩
     .simp at h3;omega
     .rw [e3,R]
  .have hkb:k≠base:=fun e=>r ⟨by omega,by simp;omega⟩
   have s:k<L1.length:=by
    have:=(Ac.1 y).1
    rw [S.len,g] at this
    simpa using this
   have e:=d k hf s
   have K:=F.idle e
   have:=(v3 k [] K e).2 rfl (by rw [g,Bh (Eu hkb)];exact K)
   rw [y] at this
   cases this
   rfl
 .rw [<-t] at N
  have B:=rQ (fun v a=>U.cvtV (n0:=0) (ks:=[]) rfl 5 v a) W
  have hnl:(iC base new).length=new.length:=by simp [iC]
  refine gS.op (fun e w ⟨_,_,_,u,y,_⟩=>by rw [y];simp) (hx dst pos m X) (cE.mono (fun e w' ⟨M',T,x1,x2,Y⟩=>?_) (N M [] w va F.bare B))
  have hin:∀ j,j<new.length->ob1[base+j]? =some []:=fun j hj=>d _ (I _ ⟨by omega,by omega⟩) o_
  obtain ⟨O,R,e3⟩:=F.emb0 o_ hin x1 x2
  obtain ⟨q1,q2⟩:=eN L1 (iC base new) base o_
  obtain ⟨p1,p2⟩:=eN ob1 T base (by rw [x2.len];omega)
  cases e with
  | panicked ch=>exact Y.elim
  | outgrown=>exact Y.elim
  | returned u=>
   refine ⟨M',_,_,u,rfl,Z.trans R,O,?_,by omega,e3 5 u r0 Y,fun k r hf hs y=>?_⟩
   .funext k
    unfold lZ
    by_cases r:inB base (iC base new).length k
    .rw [if_pos r]
     have s:k-base<(iC base new).length:=by have:=r.1;have:=r.2;omega
     refine eV ?_
     rw [q2,if_pos (show base<=k/\k<base+(iC base new).length from r),Cw,Ab s]
     rfl
    .rw [if_neg r,<-H]
     rcases eG L1 k with ⟨h1,O⟩ | ⟨h1,O,R⟩
     .exact eV (by rw [q2,if_neg (show ¬ (base<=k/\k<base+(iC base new).length) from r)];exact O)
     .rcases eG (L1.take base++iC base new++L1.drop (base+(iC base new).length)) k with ⟨h3,_⟩ | ⟨_,_,e3⟩
      .omega
      .rw [e3,R]
   .rw [p2,if_neg (show ¬ (base<=k/\k<base+T.length) from by rw [x2.len,<-hnl];exact r)] at y
    have s:k<L1.length:=by rw [<-F.len];exact (Ac.1 y).1
    rw [d k hf s] at y
    cases y
    rfl
 .have D:aC l=aC (bV hid L1):=hl.trans t.symm
  rw [<-t,aCD D] at N
  rw [SJ D] at r
  obtain ⟨c1,_,_⟩:=U.cvt (n0:=0) r
  have B:=rQ (fun v a=>U.cvtV (n0:=0) r 5 v a) W
  refine gS.op (fun e w ⟨_,_,_,u,y,_⟩=>by rw [y];intro h;cases h) (hx dst pos m X) (cE.mono (fun e w' ⟨M',T,x1,x2,Y⟩=>?_) (N M _ w va c1 B))
  obtain ⟨O,R,e3⟩:=U.emb r x1 x2
  have hL2:fI ks (bV hid L1).length (bV hid L1) 0 o (bV hid L1)=bV hid L1:=by
   have h1:=TG D (ks:=ks) (b:=(bV hid L1).length) o 0 l (bV hid L1) D
   rw [hi] at h1
   have h2:=MJ (l:=bV hid L1) (ks:=ks) (b:=(bV hid L1).length) (fun j k hj=>(Ac.1 (dU ((kR r).1 j k hj))).1) o 0 (bV hid L1) o_ rfl
   refine Ek fun n=>?_
   by_cases hn:n<(bV hid L1).length
   .rw [mY hn,mY (by rw [h2];exact hn),<-h1,D]
   .rw [Bj o_,Bj o_]
  rw [hL2] at O R e3
  cases e with
  | panicked ch=>exact Y.elim
  | outgrown=>exact Y.elim
  | returned u=>
   have hu:=U.embV r x1.hs nL 5 u z Y
   rw [<-IY D,hz] at hu
   obtain ⟨S,v2,v3⟩:=F.revive (obs':=L1) (eZ (hid:=hid)) R (fun k hs h1 h2=>⟨fun _=>e3 k hs h1 h2,fun e _=>e▸(e3 k hs h1 h2).2⟩) O (by rw [dI]) fun k c G=>live G
   refine ⟨M',_,L1,u,rfl,Z.trans v2,S,?_,by omega,hu,fun k r hf hs y=>?_⟩
   .rw [H]
    funext k
    unfold lZ
    rw [if_neg fun h=>by have:=h.2;have:=h.1;simp at *;omega]
   .have s:k<L1.length:=by rw [<-S.len];exact (Ac.1 y).1
    have e:=d k hf s
    have K:=F.idle e
    have:=(v3 k [] K e).2 rfl K
    rw [y] at this
    cases this
    rfl
def aCe (M:Imm) (ob:Hs) (L:List AObj) (w:World) (z:AVal) (k:Nat) (x:AObj) (e:Ending) (w':World):Prop:=
 ∃ M' ob' L' u,e= .returned u/\Ext M ob L w M' ob' L' w'/\Mem M' ob' L' w'/\(aC L'=fun a=>if a=k then x else aC L a)/\L.length<=L'.length/\Rep M' ob' u z/\∀ (a:Nat),(∀ hs,ob[a]? =some hs->hs=[])->∀ hs,ob'[a]? =some hs->hs=[]
theorem aEx (hE:EnvOK E) (hm:Mem M ob L w) {hid:Nat->Prop} {ρv:Operand->Value} {ρ:Operand->AVal} (W:∀ x,Rep M ob (ρv x) (ρ x)) {hint base:Nat} {p:Oper} {z:AVal} {k:Nat} {x:AObj}
  (o:∀ hs,ob[base]? =some hs->hs=[]) (F:aC (bV hid L) k≠ .dead) (h:HO z k x (eop E hint base (aC (bV hid L)) ρ p.op p.type)):oY E.P p ρv w (aCe M ob L w z k x):=by
 obtain ⟨dst,op,ty,pos,r,Z⟩:=p
 obtain ⟨n,hn,X⟩:∃ n,base+1<=L.length+n/\0<n:=⟨base+1,by omega,by omega⟩
 obtain ⟨t,G,O⟩:=hm.extend n
 have s:(L++Ah n AObj.dead).length=L.length+n:=by simp
 have D:(ob++Ah n ([]:List Value)).length=L.length+n:=by simp [hm.len]
 generalize J:L++Ah n AObj.dead=L1 at t G O s
 generalize K:ob++Ah n ([]:List Value)=ob1 at t G O D
 have C:aC L1=aC L:=by rw [<-J];exact BU L n
 have g:∀ k,(∀ hs,ob[k]? =some hs->hs=[])->k<L1.length->ob1[k]? =some []:=fun k F B=>by
  rw [<-K]
  by_cases b:k<ob.length
  .rw [Ag b,Ab b,F _ (Ab b)]
  .rw [Ar o_,Ec,if_pos (by rw [hm.len] at b⊢;omega)]
 have d:aC (bV hid L1)=aC (bV hid L):=by rw [fA,fA,C]
 have i:=g base o o_
 have R:=t.weak (eZ (hid:=hid))
 have N:(bV hid L1)[base]? =some .dead:=R.idle i
 have hs:=xE hE R N i (fun x=>(W x).mono (fun _ _ _ h=>h) G.hs) hint op ty
 rw [d] at hs
 have live:∀ {k:Nat} {c:AObj},L1[k]? =some c->(bV hid L1)[k]? =some c\/((bV hid L1)[k]? =some .dead/\(∃ hs,ob1[k]? =some hs/\hs≠[])/\L1[k]? =some c):=fun {k c} m=>by
  rcases (eZ (hid:=hid) (L:=L1)).2 k with q | q
  .left;rw [q];exact m
  .by_cases y:c= .dead
   .left;rw [q,y]
   .right;exact ⟨q,t.live m y,m⟩
 have b:k<L1.length:=by
  have:=bL (l:=bV hid L1) (n:=k) rfl (by rw [d];exact F)
  have:=(Ac.1 this).1
  rwa [dI] at this
 obtain ⟨u,w',M',ob',vs⟩:=uD hs h
 have f:bH (bV hid L1) k x=(bV hid L1).set k x:=fP x (by rw [dI];exact b)
 obtain ⟨S,V,U⟩:=t.revive (obs':=L1.set k x) (eZ (hid:=hid)) vs.ext vs.still vs.mem (by rw [f];simp [dI]) fun j c m=>by
  by_cases a:j=k
  .subst a
   left
   rw [Ba b] at m
   rw [f,Ba (by rw [dI];exact b)]
   exact m
  .rw [Bh (Eu a)] at m
   rw [f,Bh (Eu a)]
   exact live m
 have A:aCe M ob L w z k x (.returned u) w':=by
  refine ⟨M',ob',L1.set k x,u,rfl,G.trans V,S,?_,by simp;omega,vs.rep,fun j Y hs T=>?_⟩
  .funext j
   by_cases a:j=k
   .subst a
    rw [if_pos rfl]
    exact eV (Ba b)
   .rw [if_neg a,<-C]
    rcases eG L1 j with ⟨h1,Q⟩ | ⟨h1,Q,H⟩
    .exact eV (by rw [Bh (Eu a)];exact Q)
    .rcases eG (L1.set k x) j with ⟨h3,_⟩ | ⟨_,_,e3⟩
     .simp at h3;omega
     .rw [e3,H]
  .have B:j<L1.length:=by
    have:=(Ac.1 T).1
    rw [S.len] at this
    simpa using this
   have e:=g j Y B
   have y:=t.idle e
   have a:j≠k:=fun H=>by
    subst H
    refine F ?_
    rw [<-d,fA]
    dsimp only
    split
    .rfl
    .exact eV y
   have:=(U j [] y e).2 rfl (by rw [Bh (Eu a)];exact y)
   rw [T] at this
   cases this
   rfl
 rcases vs.run dst pos r Z with I | ⟨I,rfl⟩
 .exact .inl ⟨u,w',I,A⟩
 .exact .inr (.inl ⟨w',I,A⟩)
end
noncomputable def kD (E:Env) (tab:List Nat) (i:Nat) (d:Option Nat) (s:AS):Nat->AObj:=if blD E d=true then fun _=>.dead else mP tab i s
def Y (E:Env) (all:List Oper) (tab:List Nat) (L0 i:Nat) (p:Oper) (s:AS) (z:AVal) (base:Nat) (bs:List AObj):Prop:=
 L0<=base/\(blD E p.dst=true->bs=[])/\((bZ all (evG tab all i s.g) p.guard=some false/\z= .tup []/\bs=[])\/
  (bZ all (evG tab all i s.g) p.guard=some true/\fK E.P (kD E tab i p.dst s) base z bs (eop E (cZ E p.dst) base (kD E tab i p.dst s) (evG tab all i s.g) p.op p.type)))
def fresh (s:AS) (base:Nat) (bs:List AObj):Prop:=∀ k,inB base bs.length k->∀ i,¬ s.br i k
def WF (L0:Nat) (s:AS):Prop:=∀ k,L0<=k->(∀ i,¬ s.br i k)->s.o k= .dead
def nOp (E:Env) (all:List Oper) (tab:List Nat) (L0 i:Nat) (p:Oper) (K:AS->Prop) (s:AS):Prop:=
 ∃ z base bs,Y E all tab L0 i p s z base bs/\fresh s base bs/\K (s.upd i p.dst z base bs)
section
variable {E:Env} {all:List Oper} {tab:List Nat} {L0:Nat}
theorem FW {j i t:Nat} {q:Oper}:∀ {l:List Oper} {n:Nat},l[i]? =some q->q.dst=some t->loose tab (n+i) j=true->L5 tab j t n l=true
 | [],n,h,_,_=>by simp at h
 | x::r,n,h,hd,hl=>by
  cases i with
  | zero=>
   simp at h
   subst h
   rw [Dy] at hl
   simp [L5,hd,hl]
  | succ i=>
   have:=FW (l:=r) (n:=n+1) (i:=i) (q:=q) (by simp_all) hd (by rw [show n+1+i=n+(i+1) from by omega];exact hl)
   simp [L5,this]
theorem nA {i j:Nat}:loose tab i j=true↔i≠j/\cF (dC tab j) i=false/\cF (dC tab i) j=false:=by
 simp only [loose,Af,Co]
 constructor
 .rintro ⟨⟨h1,a⟩,h3⟩
  exact ⟨fun e=>by simp_all,a,h3⟩
 .rintro ⟨h1,a,h3⟩
  exact ⟨⟨DN h1,a⟩,h3⟩
theorem oL {i j:Nat} (h:loose tab i j=true):loose tab j i=true:=by
 obtain ⟨h1,a,h3⟩:=nA.1 h
 exact nA.2 ⟨Eu h1,h3,a⟩
theorem IT {i j:Nat} {q:Oper} (a:all[j]? =some q) (hl:loose tab j i=true) (g:Nat->AVal) (z:AVal):evG tab all i (gT g q.dst z)=evG tab all i g:=by
 funext x
 cases x with
 | tmp t=>
  simp only [evG]
  cases b:L5 tab i t 0 all with
  | true=>rfl
  | false=>
   simp only [cond_false,gT]
   rw [if_neg]
   intro e
   have:=FW (l:=all) (n:=0) a e q_
   grind
 | _=>rfl
theorem UH {i j:Nat} (hl:loose tab j i=true) {s:AS} (l:WF L0 s) {d:Option Nat} {z:AVal} {base:Nat} {bs:List AObj} (e:L0<=base) (g:fresh s base bs):mP tab i (s.upd j d z base bs)=mP tab i s:=by
 obtain ⟨_,f,_⟩:=nA.1 hl
 funext k
 unfold mP
 by_cases c:inB base bs.length k
 .have h1:PG tab i (s.upd j d z base bs).br k:=⟨j,.inr ⟨rfl,c⟩,f⟩
  rw [if_pos h1]
  have p:=l k (Cm e c.1) (g k c)
  grind
 .have n:(s.upd j d z base bs).o k=s.o k:=by
   show lZ s.o base bs k=s.o k
   unfold lZ
   grind
  have m:PG tab i (s.upd j d z base bs).br k↔PG tab i s.br k:=by
   constructor
   .rintro ⟨a,h | ⟨_,h⟩,b⟩
    .exact ⟨a,h,b⟩
    grind
   .rintro ⟨a,h,b⟩
    exact ⟨a,.inl h,b⟩
  grind
theorem aFq {i j:Nat} {p q:Oper} (l:all[j]? =some q) (hl:loose tab j i=true) {s:AS} (h:WF L0 s) {c:AVal} {a:Nat} {b:List AObj} (k:L0<=a) (f:fresh s a b) {z:AVal} {base:Nat} {bs:List AObj}:
  Y E all tab L0 i p (s.upd j q.dst c a b) z base bs↔Y E all tab L0 i p s z base bs:=by
 have d:evG tab all i (s.upd j q.dst c a b).g=evG tab all i s.g:=IT l hl s.g c
 have e:kD E tab i p.dst (s.upd j q.dst c a b)=kD E tab i p.dst s:=by
  unfold kD
  rw [UH hl h k f]
 unfold Y
 rw [d,e]
theorem WF.upd {i:Nat} {s:AS} (c:WF L0 s) {d:Option Nat} {z:AVal} {base:Nat} {bs:List AObj}:WF L0 (s.upd i d z base bs):=fun k e a=>by
 have h1:¬ inB base bs.length k:=fun h=>a i (.inr ⟨rfl,h⟩)
 show lZ s.o base bs k= .dead
 unfold lZ
 rw [if_neg h1]
 exact c k e fun b h=>a b (.inl h)
theorem XE {s:AS} {i j:Nat} {d e:Option Nat} {z f:AVal} {base a:Nat} {bs b:List AObj} (n:∀ t,d=some t->e≠some t) (h:∀ k,inB base bs.length k->¬ inB a b.length k):
  (s.upd i d z base bs).upd j e f a b=(s.upd j e f a b).upd i d z base bs:=by
 have m:gT (gT s.g d z) e f=gT (gT s.g e f) d z:=by
  funext t
  simp only [gT]
  grind
 have l:lZ (lZ s.o base bs) a b=lZ (lZ s.o a b) base bs:=by
  funext k
  unfold lZ
  grind
 have e3:(fun c k=>(s.br c k\/(c=i/\inB base bs.length k))\/(c=j/\inB a b.length k))=fun c k=>(s.br c k\/(c=j/\inB a b.length k))\/(c=i/\inB base bs.length k):=by
  funext c k
  grind
 show AS.mk (gT (gT s.g d z) e f) (lZ (lZ s.o base bs) a b) (fun c k=>(s.br c k\/(c=i/\inB base bs.length k))\/(c=j/\inB a b.length k))=_
 rw [m,l,e3]
 rfl
theorem aDw {i j:Nat} {p q:Oper} (hp:all[i]? =some p) (x:all[j]? =some q) (hl:loose tab i j=true) (v:∀ t,p.dst=some t->q.dst≠some t) {s:AS} (n:WF L0 s) {z:AVal} {base:Nat} {bs:List AObj}
  (o:Y E all tab L0 i p s z base bs) (u:fresh s base bs) {K:AS->Prop} (h:nOp E all tab L0 j q K (s.upd i p.dst z base bs)):
  nOp E all tab L0 j q (fun s'=>WF L0 s'/\Y E all tab L0 i p s' z base bs/\fresh s' base bs/\K (s'.upd i p.dst z base bs)) s:=by
 obtain ⟨w,a,b,h1,r,h3⟩:=h
 have g:=(aFq (p:=q) hp hl n o.1 u).1 h1
 have f:fresh s a b:=fun k e l c=>r k e l (.inl c)
 have d:∀ k,inB base bs.length k->¬ inB a b.length k:=fun k e m=>r k m i (.inr ⟨rfl,e⟩)
 refine ⟨w,a,b,g,f,n.upd,(aFq (p:=p) x (oL hl) n g.1 f).2 o,fun k e l c=>?_,?_⟩
 .rcases c with c | ⟨_,c⟩
  .exact u k e l c
  simp_all
 .rw [<-XE v d]
  exact h3
noncomputable def AS.turn (s:AS) (d:Option Nat) (z:AVal) (k:Nat) (x:AObj):AS:=⟨gT s.g d z,fun a=>if a=k then x else s.o a,s.br⟩
def Yu (E:Env) (all:List Oper) (tab:List Nat) (L0 i:Nat) (p:Oper) (s:AS) (z:AVal) (base k:Nat) (x:AObj):Prop:=
 (L0<=base/\∀ i,¬ s.br i base)/\bZ all (evG tab all i s.g) p.guard=some true/\mP tab i s k≠ .dead/\HO z k x (eop E (cZ E p.dst) base (mP tab i s) (evG tab all i s.g) p.op p.type)
def uOp (E:Env) (all:List Oper) (tab:List Nat) (L0 i:Nat) (p:Oper) (K:AS->Prop) (s:AS):Prop:=
 ∃ z base k x,Yu E all tab L0 i p s z base k x/\K (s.turn p.dst z k x)
theorem zN {s:AS} {i base:Nat} {d:Option Nat} {z:AVal}:s.upd i d z base []=⟨gT s.g d z,s.o,s.br⟩:=by
 unfold AS.upd
 congr 1
 .funext k
  unfold lZ
  rw [if_neg fun h=>by have h1:=h.1;have a:=h.2;grind]
 .funext i' k
  refine propext ⟨fun h=>?_,.inl⟩
  rcases h with h | ⟨_,h⟩
  .exact h
  .have h1:=h.1;have a:=h.2;grind
theorem T4 {g:Nat->AVal} {d a:Option Nat} {z b:AVal} (c:∀ t,d=some t->a≠some t):gT (gT g d z) a b=gT (gT g a b) d z:=by
 funext t
 simp only [gT]
 grind
theorem ER {s:AS} {i base:Nat} {d a:Option Nat} {z b:AVal} {k:Nat} {x:AObj} (c:∀ t,d=some t->a≠some t):(s.upd i d z base []).turn a b k x=(s.turn a b k x).upd i d z base []:=by
 rw [zN,zN]
 unfold AS.turn
 rw [T4 c]
theorem WF.turn {i:Nat} {s:AS} (c:WF L0 s) {d:Option Nat} {z:AVal} {k:Nat} {x:AObj} (g:mP tab i s k≠ .dead):WF L0 (s.turn d z k x):=fun a h1 f=>by
 have b:a≠k:=fun e=>by
  subst e
  refine g ?_
  unfold mP
  split
  .rfl
  .exact c a h1 f
 show (if a=k then x else s.o a)= .dead
 rw [if_neg b]
 exact c a h1 f
theorem aB8 {i j:Nat} {p q:Oper} (d:all[j]? =some q) (hl:loose tab j i=true) (e:blD E p.dst=true) {s:AS} {a:AVal} {k:Nat} {x:AObj} {z:AVal} {base:Nat} {bs:List AObj}:
  Y E all tab L0 i p (s.turn q.dst a k x) z base bs↔Y E all tab L0 i p s z base bs:=by
 have b:evG tab all i (s.turn q.dst a k x).g=evG tab all i s.g:=IT d hl s.g a
 have c:kD E tab i p.dst (s.turn q.dst a k x)=kD E tab i p.dst s:=by
  unfold kD
  grind
 unfold Y
 rw [b,c]
theorem aB7 {i j:Nat} {p q:Oper} (d:all[j]? =some q) (hl:loose tab j i=true) {s:AS} {b:AVal} {a:Nat} {z:AVal} {base k:Nat} {x:AObj}:
  Yu E all tab L0 i p (s.upd j q.dst b a []) z base k x↔Yu E all tab L0 i p s z base k x:=by
 rw [zN]
 have c:evG tab all i (gT s.g q.dst b)=evG tab all i s.g:=IT d hl s.g b
 unfold Yu
 rw [c]
 rfl
theorem aCu {i j:Nat} {p q:Oper} (hp:all[i]? =some p) (o:all[j]? =some q) (hl:loose tab i j=true) (f:blD E p.dst=true) (l:∀ t,p.dst=some t->q.dst≠some t) {s:AS} (r:WF L0 s) {z:AVal} {base:Nat} {bs:List AObj}
  (e:Y E all tab L0 i p s z base bs) (u:fresh s base bs) {K:AS->Prop} (h:uOp E all tab L0 j q K (s.upd i p.dst z base bs)):
  uOp E all tab L0 j q (fun s'=>WF L0 s'/\Y E all tab L0 i p s' z base bs/\fresh s' base bs/\K (s'.upd i p.dst z base bs)) s:=by
 obtain rfl:=e.2.1 f
 obtain ⟨m,c,k,x,h1,n⟩:=h
 have d:=(aB7 hp hl).1 h1
 refine ⟨m,c,k,x,d,r.turn d.2.2.1,(aB8 o (oL hl) f).2 e,fun k g=>by have a:=g.1;have b:=g.2;simp at b;omega,?_⟩
 rw [<-ER l]
 exact n
theorem aAl {i j:Nat} {p q:Oper} (hp:all[i]? =some p) (r:all[j]? =some q) (hl:loose tab i j=true) (f:blD E q.dst=true) (n:∀ t,p.dst=some t->q.dst≠some t) {s:AS} (u:WF L0 s) {z:AVal} {base k:Nat} {x:AObj}
  (l:Yu E all tab L0 i p s z base k x) {K:AS->Prop} (h:nOp E all tab L0 j q K (s.turn p.dst z k x)):
  nOp E all tab L0 j q (fun s'=>WF L0 s'/\Yu E all tab L0 i p s' z base k x/\K (s'.turn p.dst z k x)) s:=by
 obtain ⟨o,c,v,h1,w,h3⟩:=h
 obtain rfl:=h1.2.1 f
 have d:=(aB8 hp hl f).1 h1
 refine ⟨o,c,[],d,fun k g=>by have a:=g.1;have b:=g.2;simp at b;omega,u.upd,(aB7 r (oL hl)).2 l,?_⟩
 rw [ER fun t m e=>n t e m]
 exact h3
def sOp (E:Env) (all:List Oper) (tab:List Nat) (L0 i:Nat) (p:Oper) (Kp:(Nat->AVal)->AVal->List AObj->Prop) (K:AS->Prop) (s:AS):Prop:=
 ∃ obs:List AObj,aC obs=s.o/\L0<=aM obs/\(∀ k,L0<=k->k<aM obs->∃ i,s.br i k)/\(∀ i k,s.br i k->k<aM obs)/\
  ((bZ all (evG tab all i s.g) p.guard=some false/\K (s.upd i p.dst (.tup []) L0 []))\/
    (bZ all (evG tab all i s.g) p.guard=some true/\orD E.P true true false obs obs (aM obs) (fun v obs'=>aM obs<=aM obs'->K ⟨gT s.g p.dst v,aC obs',fun a k=>s.br a k\/(a=i/\aM obs<=k/\k<aM obs')⟩) (Kp s.g)
     (eop E (cZ E p.dst) (aM obs) (aC obs) (evG tab all i s.g) p.op p.type)))
def aOp (E:Env) (ops:Array Oper) (tab:List Nat) (L0:Nat) (Kp:(Nat->AVal)->AVal->List AObj->Prop) (i:Nat) (K:AS->Prop) (s:AS):Prop:=
 ∃ p,ops[i]? =some p/\(((sole tab i 0 ops.toList=true->blD E p.dst=true)/\nOp E ops.toList tab L0 i p K s)\/((EW E tab i 0 ops.toList=true/\blD E p.dst=false)/\uOp E ops.toList tab L0 i p K s)\/
  ((sole tab i 0 ops.toList=true/\blD E p.dst=false)/\sOp E ops.toList tab L0 i p Kp K s))
def wpA (E:Env) (ops:Array Oper) (tab:List Nat) (L0:Nat) (Kp:(Nat->AVal)->AVal->List AObj->Prop) (Q:AS->Prop):Nat->Array Bool->AS->Prop
 | 0,listed,s=>Dv .any ops listed=[]/\Q s
 | fuel+1,listed,s=>(Dv .any ops listed=[]->Q s)/\∀ i∈Dv .any ops listed,aOp E ops tab L0 Kp i (wpA E ops tab L0 Kp Q fuel (listed.setIfInBounds i true)) s
end
section
variable {E:Env} {ops:Array Oper} {tab:List Nat} {L0:Nat} {Kp:(Nat->AVal)->AVal->List AObj->Prop} {Q:AS->Prop}
theorem DY {i:Nat} {K d:AS->Prop} {s:AS} (c:∀ s,K s->d s) (h:aOp E ops tab L0 Kp i K s) (f:sole tab i 0 ops.toList=false):aOp E ops tab L0 Kp i d s:=by
 obtain ⟨p,h1,⟨a,z,base,bs,h3,b,e⟩ | ⟨a,z,base,k,x,h3,b⟩ | ⟨a,_⟩⟩:=h
 .exact ⟨p,h1,.inl ⟨a,z,base,bs,h3,b,c _ e⟩⟩
 .exact ⟨p,h1,.inr (.inl ⟨a,z,base,k,x,h3,c _ b⟩)⟩
 grind
def lJ (tab:List Nat) (a:Array Bool):Prop:=∀ j i,a.getD j false=true->cF (dC tab j) i=true->a.getD i false=true
theorem sY {E:Env} {tab:List Nat} {j:Nat}:∀ {l:List Oper} {n:Nat},EW E tab j n l=true->∀ (i:Nat) q,l[i]? =some q->loose tab (n+i) j=true->blD E q.dst=true
 | [],_,_,i,q,hi,_=>by simp at hi
 | x::r,n,h,i,q,hi,hl=>by
  simp only [EW,Af,Fy,Co] at h
  cases i with
  | zero=>
   grind
  | succ i=>exact sY h.2 i q (by simp_all) (by grind)
def QQ (E:Env) (ops:Array Oper) (tab:List Nat) (i:Nat) (d:Option Nat):Prop:=∀ (a:Array Bool) (j:Nat),lJ tab a->i∈Dv .any ops a->j∈Dv .any ops a->j≠i->
   lJ tab (a.setIfInBounds j true)/\sole tab j 0 ops.toList=false/\loose tab i j=true/\∀ q,ops[j]? =some q->∀ t,d=some t->q.dst≠some t
theorem aA7 {i:Nat} {p:Oper} {z:AVal} {base:Nat} {bs:List AObj} (M:ops[i]? =some p) (w:sole tab i 0 ops.toList=true->blD E p.dst=true) (d:QQ E ops tab i p.dst):
  ∀ (c:Nat) (a:Array Bool) (s:AS),lJ tab a->WF L0 s->i∈Dv .any ops a->Y E ops.toList tab L0 i p s z base bs->fresh s base bs->
   wpA E ops tab L0 Kp Q c (a.setIfInBounds i true) (s.upd i p.dst z base bs)->wpA E ops tab L0 Kp Q (c+1) a s:=by
 have l:∀ {K:AS->Prop} {s:AS},Y E ops.toList tab L0 i p s z base bs->fresh s base bs->K (s.upd i p.dst z base bs)->aOp E ops tab L0 Kp i K s:=fun f g L=>⟨p,M,.inl ⟨w,z,base,bs,f,g,L⟩⟩
 intro c
 induction c with
 | zero=>
  intro a s D x e f g H
  refine ⟨fun h=>(by simp_all),fun j n=>?_⟩
  by_cases b:j=i
  .simp_all
  .have:=ready_mono n b
   rw [H.1] at this
   cases this
 | succ c C=>
  intro a s D x e f g H
  refine ⟨fun h=>(by rw [h] at e;cases e),fun j n=>?_⟩
  by_cases b:j=i
  .subst b;exact l f g H
  .have h1:=H.2 j (ready_mono n b)
   obtain ⟨F,r,B,A⟩:=d a j D e n b
   obtain ⟨q,m,⟨u,G⟩ | ⟨k,J⟩ | ⟨hs,_⟩⟩:=h1
   .have:=aDw q_ q_ B (A q m) x f g G
    refine DY (fun s' ⟨o,y,v,t⟩=>C (a.setIfInBounds j true) s' F o (ready_mono e (Eu b)) y v ?_) ⟨q,m,.inl ⟨u,this⟩⟩ r
    rw [Ia _ _ b]
    exact t
   .have I:blD E p.dst=true:=sY k.1 i p q_ q_
    have:=aCu q_ q_ B I (A q m) x f g J
    refine DY (fun s' ⟨o,y,v,t⟩=>C (a.setIfInBounds j true) s' F o (ready_mono e (Eu b)) y v ?_) ⟨q,m,.inr (.inl ⟨k,this⟩)⟩ r
    rw [Ia _ _ b]
    exact t
   .rw [r] at hs;cases hs.1
theorem aGS {i:Nat} {p:Oper} {z:AVal} {base k:Nat} {x:AObj} (J:ops[i]? =some p) (l:EW E tab i 0 ops.toList=true/\blD E p.dst=false) (d:QQ E ops tab i p.dst):
  ∀ (b:Nat) (a:Array Bool) (s:AS),lJ tab a->WF L0 s->i∈Dv .any ops a->Yu E ops.toList tab L0 i p s z base k x->
   wpA E ops tab L0 Kp Q b (a.setIfInBounds i true) (s.turn p.dst z k x)->wpA E ops tab L0 Kp Q (b+1) a s:=by
 have y:∀ {K:AS->Prop} {s:AS},Yu E ops.toList tab L0 i p s z base k x->K (s.turn p.dst z k x)->aOp E ops tab L0 Kp i K s:=fun m G=>⟨p,J,.inr (.inl ⟨l,z,base,k,x,m,G⟩)⟩
 intro b
 induction b with
 | zero=>
  intro a s v w o m H
  refine ⟨fun h=>(by simp_all),fun j n=>?_⟩
  by_cases c:j=i
  .simp_all
  .have:=ready_mono n c
   rw [H.1] at this
   cases this
 | succ b F=>
  intro a s v w o m H
  refine ⟨fun h=>(by simp_all),fun j n=>?_⟩
  by_cases c:j=i
  .subst c;simp_all
  .have h1:=H.2 j (ready_mono n c)
   obtain ⟨L,u,t,B⟩:=d a j v o n c
   have e:∀ q,ops[j]? =some q->blD E q.dst=true:=fun q g=>sY l.1 j q q_ (by rw [Cb];exact oL t)
   obtain ⟨q,g,⟨r,A⟩ | ⟨f,M⟩ | ⟨hs,_⟩⟩:=h1
   .have:=aAl q_ q_ t (e q g) (B q g) w m A
    refine DY (fun s' ⟨C,I,D⟩=>F (a.setIfInBounds j true) s' L C (ready_mono o (Eu c)) I ?_) ⟨q,g,.inl ⟨r,this⟩⟩ u
    rw [Ia _ _ c]
    exact D
   .rw [e q g] at f;cases f.2
   .rw [u] at hs;cases hs.1
end
def iJ (fr:List (Nat×AVal)) (obs:List AObj) (br:List (Nat×Nat)):AS:=⟨aR fr,aC obs,fun i k=>(i,k)∈br⟩
theorem dK (fr:List (Nat×AVal)) (d:Option Nat) (v:AVal):aR (jN fr d v)=gT (aR fr) d v:=by
 funext t
 cases d with
 | none=>rfl
 | some d=>
  simp only [jN,gT,rS,Em]
  grind
theorem VE (ks:List Nat) (obs:List AObj) (k:Nat):aC (pK ks obs) k=if k∈ks then .dead else aC obs k:=by
 induction ks generalizing obs with
 | nil=>simp [pK]
 | cons x r a=>
  simp only [pK,a,rN,Aj]
  grind
theorem uZ {tab:List Nat} {j k:Nat}:∀ {br:List (Nat×Nat)},k∈EE tab j br↔ ∃ i,(i,k)∈br/\cF (dC tab j) i=false
 | []=>by simp [EE]
 | (i,k')::r=>by
  simp only [EE]
  cases h:cF (dC tab j) i with
  | true=>
   simp only [cond_true,uZ (br:=r),Aj,Prod.mk.injEq]
   grind
  | false=>
   simp only [cond_false,Aj,uZ (br:=r),Prod.mk.injEq]
   grind
theorem aCK (tab:List Nat) (j:Nat) (fr:List (Nat×AVal)) (obs:List AObj) (br:List (Nat×Nat)):aC (pK (EE tab j br) obs)=mP tab j (iJ fr obs br):=by
 funext k
 rw [VE]
 unfold mP
 have:k∈EE tab j br↔PG tab j (iJ fr obs br).br k:=uZ
 by_cases h:k∈EE tab j br
 .grind
 .rw [if_neg h,if_neg fun e=>h (this.2 e)];rfl
theorem M4 (bs:List AObj):∀ (obs:List AObj),zK obs obs.length bs=obs++bs:=by
 induction bs with
 | nil=>intro obs;simp [zK]
 | cons x r a=>
  intro obs
  simp only [zK,LB]
  have:=a (obs++[x])
  grind
theorem qI (n:Nat):∀ (l:List AObj),gA n l=l.drop n:=by
 induction n with
 | zero=>intro l;rfl
 | succ n a=>intro l;cases l with
  | nil=>rfl
  | cons x r=>simp [gA,a]
theorem nM {j i k:Nat}:∀ {l:List AObj} {base:Nat} {br:List (Nat×Nat)},(i,k)∈born j base l br↔(i,k)∈br\/(i=j/\inB base l.length k)
 | [],base,br=>by simp [born,inB];omega
 | x::r,base,br=>by
  have a:=nM (j:=j) (i:=i) (k:=k) (l:=r) (base:=base+1) (br:=br)
  have e:born j base (x::r) br=(j,base)::born j (base+1) r br:=rfl
  have hm:(i,k)∈(j,base)::born j (base+1) r br↔((i=j/\k=base)\/(i,k)∈br)\/(i=j/\inB (base+1) r.length k):=by grind
  rw [e,hm]
  unfold inB
  rw [Bt]
  constructor
  .grind
  grind
theorem tR {rest:List Oper} {n:Nat} {d:Option Nat} {fr:List (Nat×AVal)} {v:AVal} {k:List (Nat×AVal)->Prop} (h:wrP rest n d fr v k):k (jN fr d v):=by
 unfold wrP at h
 cases d with
 | none=>exact h
 | some d=>
  dsimp only at h
  cases a:uY n rest with
  | false=>rw [a] at h;exact h
  | true=>
   rw [a] at h
   simp only [cond_true] at h
   split at h
   .rename_i b
    cases b with
    | true=>exact h.1 rfl
    | false=>exact h.2 rfl
   grind
theorem aB6 (fr:List (Nat×AVal)) (obs:List AObj) (br:List (Nat×Nat)) (n:Nat) (d:Option Nat) (z:AVal) (bs:List AObj):
  iJ (jN fr d z) (zK obs (aM obs) bs) (born n (aM obs) (gA (aM obs) (zK obs (aM obs) bs)) br)=(iJ fr obs br).upd n d z (aM obs) bs:=by
 rw [bD,M4,qI,List.drop_left]
 unfold iJ AS.upd
 rw [dK]
 congr 1
 .funext k
  show _=lZ (aC obs) obs.length bs k
  unfold lZ
  by_cases h:inB obs.length bs.length k
  .rw [if_pos h]
   have a:k-obs.length<bs.length:=by have:=h.1;have:=h.2;omega
   refine eV ?_
   rw [Ar h.1,Cw,Ab a]
   rfl
  .rw [if_neg h]
   by_cases c:k<obs.length
   .rcases eG obs k with ⟨h1,e⟩ | ⟨h1,_⟩
    .exact eV (by rw [Ag c];exact e)
    .omega
   .have b:obs.length+bs.length<=k:=by
     refine Nat.le_of_not_lt fun f=>h ⟨by omega,f⟩
    rcases eG (obs++bs) k with ⟨h1,_⟩ | ⟨_,_,e⟩
    .grind
    .rcases eG obs k with ⟨h1,_⟩ | ⟨_,_,g⟩
     .omega
     grind
 .funext i k
  exact propext nM
structure LI (L0 n:Nat) (obs:List AObj) (br:List (Nat×Nat)):Prop where
 low:L0<=aM obs
 all:∀ k,L0<=k->k<aM obs->∃ i,(i,k)∈br
 lt:∀ i k,(i,k)∈br->k<aM obs/\i<n
theorem LI.wf {L0 n:Nat} {obs:List AObj} {br:List (Nat×Nat)} (h:LI L0 n obs br) (fr:List (Nat×AVal)):WF L0 (iJ fr obs br):=fun k a c=>by
 rcases eG obs k with ⟨h1,_⟩ | ⟨_,_,e⟩
 .obtain ⟨i,b⟩:=h.all k a (by rw [bD];exact h1)
  exact absurd b (c i)
 .exact e
theorem LI.put {L0 n:Nat} {obs:List AObj} {br:List (Nat×Nat)} (h:LI L0 n obs br) {obs':List AObj} (hl:aM obs<=aM obs'):LI L0 (n+1) obs' (born n (aM obs) (gA (aM obs) obs') br):=by
 have f:(gA (aM obs) obs').length=aM obs'-aM obs:=by rw [qI,Gs,bD obs']
 refine ⟨Cm h.low hl,fun k h1 e=>?_,fun i k c=>?_⟩
 .by_cases c:k<aM obs
  .obtain ⟨i,d⟩:=h.all k h1 c
   exact ⟨i,nM.2 (.inl d)⟩
  .exact ⟨n,nM.2 (.inr ⟨rfl,by omega,by omega⟩)⟩
 .rcases nM.1 c with c | ⟨rfl,h1,e⟩
  .obtain ⟨a,b⟩:=h.lt i k c
   omega
  omega
theorem CallG.mono {P:Program} {f:Fn} {args:List AVal} {obs:List AObj} {K c Kp:AVal->List AObj->Prop} (d:∀ v o,K v o->c v o) (h:CallG P f args obs K Kp):CallG P f args obs c Kp:=by
 cases h with
 | pure r new h k=>exact .pure r new h (d _ _ k)
 | eff b ks r obs' a h k=>exact .eff b ks r obs' a h (d _ _ k)
 | effp b ks r obs' a h k=>exact .effp b ks r obs' a h k
 | pan r h k=>exact .pan r h k
theorem qF {P:Program} {j q bl:Bool} {g obs:List AObj} {base:Nat} {K m Kp:AVal->List AObj->Prop} (e:∀ v o,K v o->m v o):∀ {r:OR},orD P j q bl g obs base K Kp r->orD P j q bl g obs base m Kp r
 | .no,k=>k.elim
 | .val v,k=>e _ _ k
 | .mkf fn fs cs,k=>e _ _ k
 | .need p r,k=>⟨k.1,qF e k.2⟩
 | .alt p v w,k=>k.imp (fun h=>⟨h.1,e _ _ h.2⟩) (e _ _)
 | .idx n f,⟨i,hi,k⟩=>⟨i,hi,qF e k⟩
 | .elem xs i f,⟨x,hx,k⟩=>⟨x,hx,qF e k⟩
 | .byte l i,⟨c,hc,k⟩=>⟨c,hc,e _ _ k⟩
 | .text xs,⟨l,hl,hm,k⟩=>⟨l,hl,hm,e _ _ k⟩
 | .find es key f,⟨o,ho,k⟩=>⟨o,ho,qF e k⟩
 | .born x v,k=>by cases bl with
  | true=>exact k.elim
  | false=>exact e _ _ k
 | .upd i x v,k=>by
  simp only [orD] at k⊢
  grind
 | .nilq xs neg,k=>by cases j with
  | true=>exact fun b s=>e _ _ (k b s)
  | false=>exact k.elim
 | .call f args,k=>by
  cases bl with
  | true=>exact k.elim
  | false=>
   have k:CallD P f args j g base obs K Kp:=k
   show CallD P f args j g base obs m Kp
   cases k with
   | pure r new h k=>exact .pure r new h (e _ _ k)
   | sole h1 t=>exact .sole h1 (t.mono e)
   | look ks r o a l b c d k=>exact .look ks r o a l b c d (e _ _ k)
 | .pan v,k=>by cases j with
  | true=>exact k
  | false=>exact k.elim
theorem BQ {P:Program} {b bl:Bool} {a obs:List AObj} {base:Nat} {K Kp:AVal->List AObj->Prop}:∀ {r:OR},orD P true b bl a obs base K Kp r->orD P true true bl a obs base K Kp r
 | .no,k=>k
 | .val v,k=>k
 | .mkf fn fs cs,k=>k
 | .need p r,k=>⟨k.1,BQ k.2⟩
 | .alt p v w,k=>k
 | .idx n f,⟨i,hi,k⟩=>⟨i,hi,BQ k⟩
 | .elem xs i f,⟨x,hx,k⟩=>⟨x,hx,BQ k⟩
 | .byte l i,k=>k
 | .text xs,k=>k
 | .find es key f,⟨o,ho,k⟩=>⟨o,ho,BQ k⟩
 | .born x v,k=>k
 | .upd i x v,k=>k
 | .nilq xs neg,k=>k
 | .call f args,k=>k
 | .pan v,k=>k
theorem W4 (fr:List (Nat×AVal)) (obs:List AObj) (br:List (Nat×Nat)) (n:Nat) (d:Option Nat) (z:AVal) (k:Nat) (x:AObj) (a:k<aM obs):
  iJ (jN fr d z) (bH obs k x) (born n (aM obs) (gA (aM obs) (bH obs k x)) br)=(iJ fr obs br).turn d z k x:=by
 have hl:(bH obs k x).length=obs.length:=by rw [fP _ (by rwa [bD] at a)];simp
 have e:gA (aM obs) (bH obs k x)=[]:=by rw [qI,bD,<-hl];simp
 rw [e]
 unfold iJ AS.turn
 rw [dK]
 congr 1
 funext k'
 exact rN obs k k' x
structure TabSp (ops:Array Oper) (tab:List Nat):Prop where
 back:∀ (j:Nat) p,ops[j]? =some p->∀ e∈p.after,Iw .any e=true->e.on<j
 less:∀ i j,cF (dC tab i) j=true->j<i
 step:∀ (j:Nat) p,ops[j]? =some p->∀ i,cF (dC tab j) i=true->∃ e∈p.after,Iw .any e=true/\(e.on=i\/cF (dC tab e.on) i=true)
 out:∀ j i,cF (dC tab j) i=true->j<ops.size
 dst:∀ (i j:Nat) p q,ops[i]? =some p->ops[j]? =some q->loose tab i j=true->∀ t,p.dst=some t->q.dst≠some t
theorem rH {tab:List Nat} {j:Nat}:∀ {l:List Oper} {n:Nat},sole tab j n l=true->∀ i,i<l.length->loose tab (n+i) j=false
 | [],_,_,i,hi=>by simp at hi
 | x::r,n,h,i,hi=>by
  simp only [sole,Af,Co] at h
  cases i with
  | zero=>exact h.1
  | succ i=>
   have:=rH h.2 i (by grind)
   grind
section
variable {E:Env} {ops:Array Oper} {tab:List Nat} {L0:Nat} {Kp:(Nat->AVal)->AVal->List AObj->Prop} {Kq:List (Nat×AVal)->List AObj->Prop}
theorem lJ.step (m:TabSp ops tab) {a:Array Bool} (g:lJ tab a) {j:Nat} (n:j∈Dv .any ops a):lJ tab (a.setIfInBounds j true)/\∀ i,cF (dC tab j) i=true->a.getD i false=true:=by
 obtain ⟨_,p,hp,b⟩:=mem_ready.1 n
 have key:∀ i,cF (dC tab j) i=true->a.getD i false=true:=fun i o=>by
  obtain ⟨e,l,d,h | h⟩:=m.step j p hp i o
  .subst h;exact b e l d
  .exact g e.on i (b e l d) h
 refine ⟨fun f i h1 k=>getD_set_true ?_,key⟩
 by_cases c:j=f
 .subst c;exact key i k
 .rw [getD_set_ne false c] at h1
  exact g f i h1 k
theorem qC (g:TabSp ops tab) {a:Array Bool} (m:lJ tab a) {i j:Nat} (l:i∈Dv .any ops a) (f:j∈Dv .any ops a) (d:i≠j):loose tab i j=true:=by
 have e:∀ {k:Nat},k∈Dv .any ops a->a.getD k false=true->False:=fun {k} hk h=>by
  obtain ⟨n,p,hp,_⟩:=mem_ready.1 hk
  rw [Aw] at n h
  cases c:a[k]? with
  | none=>simp_all
  | some b=>simp_all
 refine nA.2 ⟨d,?_,?_⟩
 .cases c:cF (dC tab j) i with
  | false=>rfl
  | true=>exact (e l ((m.step g f).2 i c)).elim
 .cases c:cF (dC tab i) j with
  | false=>rfl
  | true=>exact (e f ((m.step g l).2 j c)).elim
def Qf (L0:Nat) (Kq:List (Nat×AVal)->List AObj->Prop) (s:AS):Prop:=∃ fr obs br n,s=iJ fr obs br/\LI L0 n obs br/\Kq fr obs
theorem aDI (G:TabSp ops tab):∀ (l:List Oper) (n:Nat) (a:Array Bool) (br:List (Nat×Nat)) (fr:List (Nat×AVal)) (obs:List AObj),
  l=ops.toList.drop n->(∀ j,j<ops.size->a[j]? =some (decide (j<n)))->a.size=ops.size->LI L0 n obs br->gM E ops.toList tab Kq Kp n l br fr obs->
  wpA E ops tab L0 Kp (Qf L0 Kq) l.length a (iJ fr obs br)
 | [],n,a,br,fr,obs,hl,hlist,hsz,hI,h=>by
  refine ⟨?_,fr,obs,br,n,rfl,hI,h⟩
  have K:ops.size<=n:=by
   simp_all
  refine Eh.2 fun j I=>?_
  obtain ⟨h0,q,H,_⟩:=mem_ready.1 I
  have C:=(Dw.1 H).1
  rw [Aw,hlist j C] at h0
  simp at h0
  omega
 | p::l,n,a,br,fr,obs,hl,hlist,hsz,hI,h=>by
  have t:ops[n]? =some p:=by
   have:(ops.toList.drop n)[0]? =some p:=by grind
   simpa using this
  have T:n<ops.size:=(Dw.1 t).1
  have N:l=ops.toList.drop (n+1):=by
   rw [<-Im,<-hl];rfl
  have C:∀ j,a.getD j false=true↔j<n:=by
   intro j
   rw [Aw]
   by_cases I:j<ops.size
   .simp_all
   .rw [Iq o_]
    simp;omega
  have f:lJ tab a:=fun j i h1 y=>(C i).2 (Nat.lt_trans (G.less j i y) ((C j).1 h1))
  have c:n∈Dv .any ops a:=by
   refine mem_ready.2 ⟨?_,p,t,fun e he Q=>(C _).2 (G.back n p t e he Q)⟩
   rw [Aw,hlist n T];simp
  have r:∀ j,j<ops.size->(a.setIfInBounds n true)[j]? =some (decide (j<n+1)):=by
   intro j I
   by_cases X:n=j
   .subst X
    rw [Cs o_]
    simp
   .rw [Dk X,hlist j I]
    simp;omega
  have D:(a.setIfInBounds n true).size=ops.size:=by simp;omega
  have hw:=hI.wf fr
  have L:∀ {bs:List AObj},fresh (iJ fr obs br) (aM obs) bs:=fun {bs} k K i Q=>by
   have:=(hI.lt i k Q).1
   have:=K.1
   omega
  have ahead:∀ {i:Nat},i<ops.size->i∈Dv .any ops a->i≠n->loose tab n i=true:=fun _ hi F=>qC G f c hi (Eu F)
  simp only [gM] at h
  rw [aGX] at h
  -- on,where the operation bears bs at the end
  have on:∀ {z:AVal} {bs:List AObj},gM E ops.toList tab Kq Kp (n+1) l (born n (aM obs) (gA (aM obs) (zK obs (aM obs) bs)) br) (jN fr p.dst z) (zK obs (aM obs) bs)->
    wpA E ops tab L0 Kp (Qf L0 Kq) l.length (a.setIfInBounds n true) ((iJ fr obs br).upd n p.dst z (aM obs) bs):=fun {z bs} hc=>by
   rw [<-aB6]
   refine aDI G l (n+1) _ _ _ _ N r D (hI.put ?_) hc
   rw [bD,bD,M4]
   simp
  have nil0:zK obs (aM obs) []=obs:=rfl
  have brn:born n (aM obs) (gA (aM obs) obs) br=br:=by
   have:gA (aM obs) obs=[]:=by rw [qI,bD];simp
   rw [this]
   rfl
  have skip:gM E ops.toList tab Kq Kp (n+1) l br (jN fr p.dst (.tup [])) obs->wpA E ops tab L0 Kp (Qf L0 Kq) l.length (a.setIfInBounds n true) ((iJ fr obs br).upd n p.dst (.tup []) (aM obs) []):=fun hc=>on (by rw [nil0,brn];exact hc)
  have oth:(∀ j,ops[j]?≠none->loose tab n j=true->sole tab j 0 ops.toList=false)->QQ E ops tab n p.dst:=fun h listed' j S hi' O F=>by
   have d:=qC G S hi' O (Eu F)
   obtain ⟨_,q,H,_⟩:=mem_ready.1 O
   exact ⟨(S.step G O).1,h j (by rw [H];simp) d,d,fun q H=>G.dst n j p q t H d⟩
  have J:∀ j,ops[j]?≠none->loose tab n j=true->sole tab j 0 ops.toList=false:=fun j I d=>by
   cases H:sole tab j 0 ops.toList with
   | false=>rfl
   | true=>
    have:=rH H n o_
    rw [Cb,d] at this
    cases this
  have s:=oth J
  -- where an object is turned
  have onU:∀ {z:AVal} {k:Nat} {x:AObj},k<aM obs->gM E ops.toList tab Kq Kp (n+1) l (born n (aM obs) (gA (aM obs) (bH obs k x)) br) (jN fr p.dst z) (bH obs k x)->
    wpA E ops tab L0 Kp (Qf L0 Kq) l.length (a.setIfInBounds n true) ((iJ fr obs br).turn p.dst z k x):=fun {z k x} K hc=>by
   rw [<-W4 fr obs br n p.dst z k x K]
   refine aDI G l (n+1) _ _ _ _ N r D (hI.put ?_) hc
   rw [bD,bD,fP _ (by rwa [bD] at K)]
   simp
  have B:(sole tab n 0 ops.toList=true->blD E p.dst=true)->(bZ ops.toList (evG tab ops.toList n (aR fr)) p.guard=some true->
    orD E.P false (uoN E tab ops.toList n p.dst) (blD E p.dst) (pB E tab n br obs p.dst) obs (aM obs) (fun v obs'=>wrP l n p.dst fr v fun fr=>gM E ops.toList tab Kq Kp (n+1) l (born n (aM obs) (gA (aM obs) obs') br) fr obs') (Kp (aR fr))
     (eop E (cZ E p.dst) (aM obs) (aC (pB E tab n br obs p.dst)) (evG tab ops.toList n (aR fr)) p.op p.type))->
    (bZ ops.toList (evG tab ops.toList n (aR fr)) p.guard=some false->gM E ops.toList tab Kq Kp (n+1) l br (jN fr p.dst (.tup [])) obs)->
    bZ ops.toList (evG tab ops.toList n (aR fr)) p.guard≠none->wpA E ops tab L0 Kp (Qf L0 Kq) (l.length+1) a (iJ fr obs br):=fun Y h1 y h3=>by
   have u:aC (pB E tab n br obs p.dst)=kD E tab n p.dst (iJ fr obs br):=by
    unfold pB kD
    cases o:blD E p.dst with
    | true=>rfl
    | false=>simp only [cond_false];rw [if_neg s_];exact aCK tab n fr obs br
   cases m:bZ ops.toList (evG tab ops.toList n (aR fr)) p.guard with
   | none=>simp_all
   | some b=>
    cases b with
    | false=>exact aA7 t Y s l.length a _ f hw c (z:=.tup []) (base:=aM obs) (bs:=[]) ⟨hI.low,fun _=>rfl,.inl ⟨m,rfl,rfl⟩⟩ L (skip (y m))
    | true=>
     have h:=h1 m
     rcases qE h with ⟨z,bs,q0,R,q2⟩ | ⟨z,k,x,q0,R,q2,q3⟩
     .rw [u] at R
      exact aA7 t Y s l.length a _ f hw c ⟨hI.low,q0,.inr ⟨m,R⟩⟩ L (on (tR q2))
     .obtain ⟨u1,u2⟩:=aQ q0
      have o:blD E p.dst=false:=by simpa using u2
      have e:kD E tab n p.dst (iJ fr obs br)=mP tab n (iJ fr obs br):=by
              unfold kD
              rw [o,if_neg s_]
      rw [u,e] at R q2
      have hkl:k<aM obs:=by
              refine Nat.lt_of_not_le fun hge=>R ?_
              unfold mP
              split
              .rfl
              .rcases eG obs k with ⟨h1,_⟩ | ⟨_,_,e⟩
               .rw [bD] at hge;omega
               .exact e
      exact aGS t ⟨u1,o⟩ s l.length a _ f hw c ⟨⟨hI.low,fun i Q=>by have:=(hI.lt i _ Q).1;omega⟩,m,R,q2⟩ (onU hkl (tR q3))
  have Z:bZ ops.toList (evG tab ops.toList n (aR fr)) p.guard≠none:=fun e=>by simp_all
  have w:bZ ops.toList (evG tab ops.toList n (aR fr)) p.guard=some false->gM E ops.toList tab Kq Kp (n+1) l br (jN fr p.dst (.tup [])) obs:=fun e=>by rw [e] at h;exact h
  cases o:blD E p.dst with
  | true=>
   refine B (fun _=>o) (fun e=>?_) w Z
   rw [e] at h
   have:soN E tab ops.toList n p.dst=false:=by simp [soN,o]
   rw [this] at h
   exact h
  | false=>
  cases A:sole tab n 0 ops.toList with
  | false=>
   refine B (fun e=>by rw [A] at e;cases e) (fun e=>?_) w Z
   rw [e] at h
   have:soN E tab ops.toList n p.dst=false:=by simp [soN,A]
   rw [this] at h
   exact h
  | true=>
   have V:∀ j,j∈Dv .any ops a->j=n:=fun j I=>by
    refine Decidable.byContradiction fun F=>?_
    have d:=qC G f I c F
    obtain ⟨_,q,H,_⟩:=mem_ready.1 I
    have hjlt:=(Dw.1 H).1
    have:=rH A j o_
    rw [Cb,d] at this
    cases this
   have U:EE tab n br=[]:=by
    refine Eh.2 fun k K=>?_
    obtain ⟨i,h1,y⟩:=uZ.1 K
    have hin:=(hI.lt i k h1).2
    have:=rH A i q_
    rw [Cb] at this
    have hl2:loose tab i n=true:=nA.2 ⟨by omega,y,by
     cases H:cF (dC tab i) n with
     | false=>rfl
     | true=>have:=G.less i n H;omega⟩
    rw [hl2] at this
    cases this
   have M:pB E tab n br obs p.dst=obs:=by unfold pB;rw [o,U];rfl
   have W:soN E tab ops.toList n p.dst=true:=by simp [soN,A,o]
   rw [M,W,o] at h
   refine ⟨fun h=>(by rw [h] at c;cases c),fun j I=>?_⟩
   obtain rfl:=V j I
   refine ⟨p,t,.inr (.inr ⟨⟨A,o⟩,obs,rfl,hI.low,fun k h1 y=>hI.all k h1 y,fun i k Q=>(hI.lt i k Q).1,?_⟩)⟩
   cases m:bZ ops.toList (evG tab ops.toList j (aR fr)) p.guard with
   | none=>rw [m] at h;exact h.elim
   | some b=>
    rw [m] at h
    cases b with
    | false=>
     refine .inl ⟨m,?_⟩
     have e:(iJ fr obs br).upd j p.dst (.tup []) L0 []=(iJ fr obs br).upd j p.dst (.tup []) (aM obs) []:=by
      unfold AS.upd
      congr 1
      .funext k
       unfold lZ
       rw [if_neg fun h=>by have h1:=h.1;have y:=h.2;simp at y;omega,if_neg fun h=>by have h1:=h.1;have y:=h.2;simp at y;omega]
      .funext i k
       refine propext (or_congr Ly ⟨fun h=>?_,fun h=>?_⟩)<;>(have h1:=h.2.1;have y:=h.2.2;simp at y;omega)
     rw [e]
     exact skip h
    | true=>
     dsimp only at h
     refine .inr ⟨m,qF (fun v obs' K hle=>?_) (BQ h)⟩
     have hk2:=tR K
     have:=aDI G l (j+1) _ _ _ _ N r D (hI.put hle) hk2
     have e:iJ (jN fr p.dst v) obs' (born j (aM obs) (gA (aM obs) obs') br)=⟨gT (iJ fr obs br).g p.dst v,aC obs',fun i' k=>(iJ fr obs br).br i' k\/(i'=j/\aM obs<=k/\k<aM obs')⟩:=by
      unfold iJ
      rw [dK]
      congr 1
      funext i k
      refine propext (nM.trans (or_congr Ly (and_congr Ly ?_)))
      unfold inB
      rw [qI,Gs,bD obs']
      omega
     rw [<-e]
     exact this
end
end Go.AW
