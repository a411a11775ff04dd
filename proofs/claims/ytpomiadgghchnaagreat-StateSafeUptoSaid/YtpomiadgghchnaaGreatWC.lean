/-
  The engine, second make, third part: code, contracts, statements. Over any program.
-/
import Derived.Defers
import Derived.RangeFuncRecord
import Derived.ChangeKeysEq
import Derived.Lib.Overlaps
import Derived.WalkKit
import Derived.ProofKit
import Derived.OpenShut
import Derived.Recover
import Derived.Sort.Grow
import Derived.Test.YtpomiadgghchnaaGreatWB
set_option linter.all false
open Array renaming getD_eq_getD_getElem?->Bf,getElem?_append_left->Gw,getElem?_eq_getElem->Fi,getElem?_eq_some_iff->Fa,getElem?_setIfInBounds_ne->Ds,getElem?_setIfInBounds_self_of_lt->Dn,replicate->Ga,toList_map->Ir
open Bool renaming and_assoc->Ej,and_eq_true->Ag,and_true->Iy,false_eq_true->Db,not_eq_true'->Ef,or_eq_true->Fw
open Function renaming comp_def->Ng
open Go.Instr renaming checkKey->Ho
open Go.Region renaming binds->Jp,wanted->Fe
open Go.Result renaming andThen->Le,andThen_ok->Ak
open Go.Sem renaming run_bind->Az,run_pure->Bh
open Go.Value renaming bool->Mz,int->Eb,okWide->Ei,ownBlock->Gh
open Go.World renaming block_lt_of_cell?->Cs,cell?_of_block->Cy,frozen?->Mx,ownsRow_nil->Hf,putObj_heap_other->Gl,setRow->Iq
open Int renaming le_trans->Fo
open List renaming all_eq_true->Ch,append_nil->Bg,drop_drop->Ii,drop_eq_getElem_cons->Ad,drop_zero->Bt,eq_nil_of_length_eq_zero->Ay,ext_getElem?->Es,extract_eq_take_drop->Lh,getD_eq_getElem?_getD->Fc,getElem?_append_left->Af,getElem?_append_right->Aj,getElem?_drop->Bq,getElem?_eq_getElem->Aa,getElem?_eq_none->Bb,getElem?_eq_some_iff->Ab,getElem?_map->Bi,getElem?_of_mem->Ct,getElem?_replicate->Ew,getElem?_set_ne->Ax,getElem?_set_self->Ao,getElem?_take_of_lt->Bc,getElem?_toArray->Ju,getElem_mem->Bl,length_append->Aw,length_map->Cj,length_mergeSort->Mk,length_pos_iff->Hh,length_singleton->Mm,map_cons->Bk,map_drop->Ja,map_map->Fg,map_take->Iz,mem_append->Ba,mem_cons->Bd,mem_filter->Dx,mem_map->Bx,mem_map_of_mem->Cm,mem_of_getElem?->Ap,mem_singleton->Dl,nil_append->Bp,prefix_refl->Cn,range'->Mp,range'_succ->Lt,range_eq_range'->Kh,replicate->Ah,size_toArray->Gj,take_append_drop->Bv,take_append_of_le_length->Dm,take_of_length_le->Cl,take_zero->Ij
open Nat renaming add_comm->Na,add_mul->Bw,add_zero->Dv,and_one_is_mod->La,beq->Aq,ble->Ft,blt->Ey,blt_eq->Fq,div_one->Hr,eq_zero_or_pos->Ez,le_of_ble_eq_true->Cf,le_refl->Au,le_trans->Da,lor->Nf,mod_one->Ki,mul_le_mul_right->Bz,one_mul->Fx,pow_le_pow_right->Hc,strongRecOn->Mf,sub_self->Kx,sub_zero->Hu,testBit_two_pow->Kv,zero_add->Bn,zero_le->Cr,zero_mul->Im
open Ne renaming symm->Eh
open Option renaming getD_some->Iu,isSome_iff_exists->Dc,map_some->Ks
open Prod renaming fst->Lu
namespace Go.AW
open Go.RowKit
open Classical
section
variable {P:Program} {M:Imm} {ob:Hs} {L obs:List AObj} {w:World} {a:Act}
theorem mM {g:Nat->AVal} (hf:∀ t,Rep M ob (a.tmps.getD t undef) (g t)) {u:Value} {v:AVal} (hr:Rep M ob u v) {d:Option Nat} (hd:∀ d',d=some d'->d'<a.tmps.size):
  ∀ t,Rep M ob ((a.put d u).tmps.getD t undef) (iI g d v t):=by
 intro t
 unfold iI
 cases d with
 | none=>rw [if_neg (by simp)];exact hf t
 | some d=>
  have hlt:=hd d rfl
  by_cases h:d=t
  .subst h
   simp only [if_true,Act.put]
   rw [Bf,Dn hlt]
   exact hr
  .rw [if_neg (by simpa using h)]
   simp only [Act.put]
   rw [Bf,Ds h,<-Bf]
   exact hf t
theorem eK (a:Act) (d:Option Nat) (u:Value):(a.put d u).tmps.size=a.tmps.size/\(a.put d u).defers=a.defers:=by
 cases d<;>simp [Act.put]
theorem B9 {fr:List (Nat×AVal)} (h:∀ t,Rep M ob (a.tmps.getD t undef) (aS fr t)) (x:Operand):Rep M ob (a.eval x) (ev fr x):=by
 cases x with
 | tmp t=>exact h t
 | const v=>exact pY v
 | global g=>exact .undef _
 | func f=>exact .func (.func f) [] [] [] [] rfl rfl (fun i v a h=>by simp at h) (fun i v a h=>by simp at h)
theorem aEk {tab:List Nat} {all:List Oper} {j:Nat} {g:Nat->AVal} (h:∀ t,Rep M ob (a.tmps.getD t undef) (g t)) (x:Operand):Rep M ob (a.eval x) (evG tab all j g x):=by
 cases x with
 | tmp t=>
  simp only [evG]
  cases K5 tab j t 0 all with
  | true=>exact .undef _
  | false=>exact h t
 | const v=>exact pY v
 | global g=>exact .undef _
 | func f=>exact .func (.func f) [] [] [] [] rfl rfl (fun i v a h=>by simp at h) (fun i v a h=>by simp at h)
def G (rd:Option Nat) (P:Program) (ops:Array Oper) (p:Oper) (a:Act) (w:World) (next:Act->World->Prop) (Q:Exit->Act->World->Prop):Prop:=
 if Fe p (yielded ops a.tmps) then p.wpIn (fen rd) 0 P a w next Q else next (a.put p.dst undef) w
theorem gM {ops:Array Oper} {p:Oper} {ρ:Operand->AVal} (hf:∀ x,Rep M ob (a.eval x) (ρ x)) {b:Bool}
  (h:cA ops.toList ρ p.guard=some b):Fe p (yielded ops a.tmps)=b:=by
 unfold cA at h
 unfold Fe
 cases hg:p.guard with
 | none=>rw [hg] at h;simpa using h
 | some gw=>
  obtain ⟨j,want⟩:=gw
  rw [hg] at h
  dsimp only at h⊢
  split at h
  .rename_i q hq
   have hq':ops[j]? =some q:=by simpa using kR hq
   split at h
   .rename_i d hd
    have hfd:=hf (.tmp d)
    have hy:∀ u,a.tmps.getD d undef=u->yielded ops a.tmps j=match u with | .bool b=>some b | _=>none:=by
     intro u hu
     unfold yielded
     rw [hq']
     simp only [Option.bind_some,hd]
     rw [Bf] at hu
     cases ht:a.tmps[d]? with
     | none=>rw [ht] at hu;simp at hu;subst hu;rfl
     | some x=>rw [ht] at hu;simp at hu;subst hu;cases x<;>rfl
    split at h
    .rename_i b' hb
     rw [hb] at hfd
     have hv:a.tmps.getD d undef= .bool b':=hfd.bool_inv
     rw [hy _ hv]
     cases h
     simp
    .rename_i hb
     rw [hb] at hfd
     obtain ⟨us,hu,hl,_⟩:=hfd.tup_inv
     have hv:a.tmps.getD d undef= .tuple us.toArray:=hu
     rw [hy _ hv]
     cases h
     simp
    .cases h
   .cases h
  .cases h
theorem vJ:Rep M ob undef (.tup []):=.tup [] [] rfl fun i v a h=>by simp at h
theorem xC:∀ {L obs:List AObj},aE L=aE obs->L.length<=obs.length->obs=L++Ah (obs.length-L.length) .dead:=fun {L obs} hg hl=>by
 refine Es fun k=>?_
 by_cases hk:k<L.length
 .rw [Af hk,tN hk,tN (show k<obs.length by omega),hg]
 .rw [Aj (by omega),Ew]
  by_cases hk2:k<obs.length
  .rw [if_pos (by omega),tN hk2,<-hg]
   rcases dY L k with ⟨h1,_⟩ | ⟨_,_,e⟩
   .omega
   .rw [e]
  .rw [if_neg (by omega),Bb (by omega)]
theorem Mem.norm (h:Mem M ob L w) (hg:aE L=aE obs) (hf:∀ (k:Nat),obs.length<=k->∀ hs,ob[k]? =some hs->hs=[]):
  ∃ ob',Mem M ob' obs w/\(∀ (k g:Nat) v,at' ob k g=some v->at' ob' k g=some v)/\∀ {M0:Imm} {ob0:Hs} {obs0:List AObj} {w0:World},Ext M0 ob0 obs0 w0 M ob L w->ob0.length<=obs.length->Ext M0 ob0 obs0 w0 M ob' obs w:=by
 by_cases hl:L.length<=obs.length
 .have e:=xC hg hl
  obtain ⟨m1,m2,_⟩:=h.extend (obs.length-L.length)
  rw [<-e] at m1 m2
  exact ⟨_,m1,fun k g v hv=>m2.hs.at hv,fun hx _=>hx.trans m2⟩
 .have e:=xC hg.symm (by omega)
  rw [e] at h
  obtain ⟨s1,s2,s3⟩:=h.shrink fun i hs hi=>hf i hi hs
  exact ⟨_,s1,s2,fun hx h0=>s3 (e▸hx) h0⟩
theorem jK {K K' Kp:AVal->List AObj->Prop} (hk:∀ v o,K v o->K' v o):∀ {r:OR},orF P obs K Kp r->orF P obs K' Kp r
 | .no,k=>k.elim
 | .val v,k=>hk _ _ k
 | .mkf fn fs cs,k=>hk _ _ k
 | .need p r,k=>⟨k.1,jK hk k.2⟩
 | .alt p v w,k=>k.imp (fun h=>⟨h.1,hk _ _ h.2⟩) (hk _ _)
 | .idx n f,⟨i,hi,k⟩=>⟨i,hi,jK hk k⟩
 | .elem xs i f,⟨x,hx,k⟩=>⟨x,hx,jK hk k⟩
 | .byte l i,⟨c,hc,k⟩=>⟨c,hc,hk _ _ k⟩
 | .text xs,⟨l,hl,hm,k⟩=>⟨l,hl,hm,hk _ _ k⟩
 | .find es key f,⟨o,ho,k⟩=>⟨o,ho,jK hk k⟩
 | .born x v,k=>hk _ _ k
 | .upd i x v,k=>hk _ _ k
 | .nilq xs neg,k=>fun b hb=>hk _ _ (k b hb)
 | .call f args,k=>CallG.mono hk k
 | .pan v,k=>k
theorem qS {seen:List AObj} {base:Nat} {K Kp:AVal->List AObj->Prop} (hb:base=aM obs) (hs:seen=obs):∀ {r:OR},orD P true true false seen obs base K Kp r->orF P obs K Kp r
 | .no,k=>k.elim
 | .val v,k=>k
 | .mkf fn fs cs,k=>k
 | .need p r,k=>⟨k.1,qS hb hs k.2⟩
 | .alt p v w,k=>k
 | .idx n f,⟨i,hi,k⟩=>⟨i,hi,qS hb hs k⟩
 | .elem xs i f,⟨x,hx,k⟩=>⟨x,hx,qS hb hs k⟩
 | .byte l i,k=>k
 | .text xs,k=>k
 | .find es key f,⟨o,ho,k⟩=>⟨o,ho,qS hb hs k⟩
 | .born x v,k=>by rw [hb] at k;exact k
 | .upd i x v,k=>k
 | .nilq xs neg,k=>k
 | .call f args,k=>by
  have k:CallD P f args true seen base obs K Kp:=k
  cases k with
  | pure r new h k=>subst hb hs;exact .eff [] [] r new rfl h k
  | sole _ h=>exact h
 | .pan v,k=>k
end
section
variable {rd:Option Nat} {M0:Imm} {ob0:Hs} {obs0:List AObj} {w0:World} {sz:Nat} {dfs:List (Nat×List AVal)} {E:Env} {ops:Array Oper} {Q:Exit->Act->World->Prop} {K:List (Nat×AVal)->List AObj->Prop} {Kp:(Nat->AVal)->AVal->List AObj->Prop}
def DB (M:Imm) (ob:Hs) (ds:List Deferred) (dfs:List (Nat×List AVal)):Prop:=
 ds.length=dfs.length/\∀ (i:Nat) d x,ds[i]? =some d->dfs[i]? =some x->d.target= .fn (.func x.1) #[]/\bV M ob d.args.toList x.2
theorem DB.nil {M:Imm} {ob:Hs}:DB M ob [] []:=⟨rfl,fun i d x h=>by simp at h⟩
theorem DB.nil_inv {M:Imm} {ob:Hs} {ds:List Deferred} (h:DB M ob ds []):ds=[]:=Ay h.1
theorem DB.mono {M M':Imm} {ob ob':Hs} {ds:List Deferred} {dfs:List (Nat×List AVal)} (hM:∀ b o x,M b o x->M' b o x) (ho:cW ob ob') (h:DB M ob ds dfs):DB M' ob' ds dfs:=
 ⟨h.1,fun i d x hd hx=>⟨(h.2 i d x hd hx).1,(h.2 i d x hd hx).2.1,fun j v a hv ha=>((h.2 i d x hd hx).2.2 j v a hv ha).mono hM ho⟩⟩
theorem DB.monoA {M:Imm} {ob ob':Hs} {ds:List Deferred} {dfs:List (Nat×List AVal)} (ho:∀ (k g:Nat) v,at' ob k g=some v->at' ob' k g=some v) (h:DB M ob ds dfs):DB M ob' ds dfs:=
 ⟨h.1,fun i d x hd hx=>⟨(h.2 i d x hd hx).1,(h.2 i d x hd hx).2.1,fun j v a hv ha=>((h.2 i d x hd hx).2.2 j v a hv ha).monoA ho⟩⟩
def Mks (w0 w:World):List Deferred->Prop
 | []=>True
 | d::ds=>(∃ b,d.target= .collected b/\w0.heap.size<=b/\w.heap[b]? =some (.deferred (some []))/\∀ d'∈ds,d'.target≠ .collected b)/\Mks w0 w ds
theorem Mks.same {w0 w w':World}:∀ {ds:List Deferred},(∀ d∈ds,∀ b,d.target= .collected b->w.heap[b]? =some (.deferred (some []))->w'.heap[b]? =some (.deferred (some [])))->Mks w0 w ds->Mks w0 w' ds
 | [],_,_=>trivial
 | d::ds,hb,⟨⟨b,h1,h2,h3,h4⟩,h5⟩=>⟨⟨b,h1,h2,hb d (by simp) b h1 h3,h4⟩,Mks.same (fun d hd=>hb d (by simp [hd])) h5⟩
def cG (w0 w:World) (M:Imm) (ob:Hs) (ds:List Deferred) (dfs:List (Nat×List AVal)):Prop:=∃ ds1 ds2,ds=ds1++ds2/\DB M ob ds1 dfs/\Mks w0 w ds2
theorem Mem.alive_heap {M:Imm} {ob:Hs} {obs:List AObj} {w:World} (hm:Mem M ob obs w) {k b:Nat} (ha:aH ob obs k b):∃ o,w.heap[b]? =some o/\BO o=false:=by
 obtain ⟨c,hs,e1,e2,e3,e4⟩:=ha
 obtain ⟨hs',e5,hok⟩:=hm.obj k c e1
 rw [e3] at e5
 cases e5
 have row:∀ {v:Value} {n sz:Nat} {e:TypeId} {cv:List Value},w.ownsRow 0 e sz v n cv->blk hs=v.ownBlock.toList->∃ o,w.heap[b]? =some o/\BO o=false:=fun {v n sz e cv} ho hb=>by
  have e6:=tM hb e4
  rcases ho.2 with ⟨rfl,_⟩ | ⟨g,cap,cur,q1,_,q3,_⟩
  .cases e6
  .rw [q1] at e6
   cases e6
   exact ⟨_,q3,rfl⟩
 cases c with
 | dead=>cases e2
 | fcells cs=>cases e2
 | frow g sz xs=>cases e2
 | cells T cs=>
  obtain ⟨b',rfl,_,cv,h2,_⟩:=hok
  have:=dN.1 e4
  subst this
  exact ⟨_,h2,rfl⟩
 | row g sz e xs=>
  obtain ⟨h1,v,h2,cv,h3,_⟩:=hok
  exact row h3 ((dT h1 h2).trans (dV h3))
 | tail g sz e=>
  obtain ⟨h1,v,h2,n,cv,h3,_⟩:=hok
  exact row h3 ((dT h1 h2).trans (dV h3))
 | mp ag es=>
  obtain ⟨b',rfl,_,en,cl,h2,_⟩:=hok
  have:=dN.1 e4
  subst this
  exact ⟨_,h2,rfl⟩
 | bun g I=>
  obtain ⟨h1,bs,h2,h3,_⟩:=hok
  have e:blk hs=bs:=by rw [<-yX (hs:=[eQ bs]) rfl];exact dT h1 h2
  rw [e] at e4
  exact h3 b e4
theorem cG.nil {w0 w:World} {M:Imm} {ob:Hs}:cG w0 w M ob [] []:=⟨[],[],rfl,.nil,trivial⟩
theorem cG.marks {w0 w:World} {M:Imm} {ob:Hs} {ds:List Deferred} (h:cG w0 w M ob ds []):Mks w0 w ds:=by
 obtain ⟨d1,d2,rfl,h1,h2⟩:=h
 rw [h1.nil_inv];exact h2
theorem cG.bare {w0 w:World} {M M':Imm} {ob ob':Hs} {ds:List Deferred} (h:cG w0 w M ob ds []):cG w0 w M' ob' ds []:=⟨[],ds,rfl,.nil,h.marks⟩
theorem cG.mono {w0 w:World} {M M':Imm} {ob ob':Hs} {ds:List Deferred} {dfs:List (Nat×List AVal)} (hM:∀ b o x,M b o x->M' b o x) (ho:cW ob ob') (h:cG w0 w M ob ds dfs):cG w0 w M' ob' ds dfs:=
 let ⟨d1,d2,e,h1,h2⟩:=h;⟨d1,d2,e,h1.mono hM ho,h2⟩
theorem cG.monoA {w0 w:World} {M:Imm} {ob ob':Hs} {ds:List Deferred} {dfs:List (Nat×List AVal)} (ho:∀ (k g:Nat) v,at' ob k g=some v->at' ob' k g=some v) (h:cG w0 w M ob ds dfs):cG w0 w M ob' ds dfs:=
 let ⟨d1,d2,e,h1,h2⟩:=h;⟨d1,d2,e,h1.monoA ho,h2⟩
theorem cG.put {w0 w:World} {M:Imm} {ob:Hs} {a:Act} {d:Option Nat} {u:Value} {dfs:List (Nat×List AVal)} (h:cG w0 w M ob a.defers dfs):cG w0 w M ob (a.put d u).defers dfs:=by rw [(eK a d u).2];exact h
theorem cG.same {w0 w w':World} {M:Imm} {ob:Hs} {ds:List Deferred} {dfs:List (Nat×List AVal)} (hw:w'.heap=w.heap) (h:cG w0 w M ob ds dfs):cG w0 w' M ob ds dfs:=
 let ⟨d1,d2,e,h1,h2⟩:=h;⟨d1,d2,e,h1,h2.same fun d _ b _ h=>by rw [hw];exact h⟩
theorem cG.ext {w0 w w':World} {M M':Imm} {ob ob':Hs} {obs obs':List AObj} {ds:List Deferred} {dfs:List (Nat×List AVal)} (h:cG w0 w M ob ds dfs) (hm:Mem M ob obs w) (hx:Ext M ob obs w M' ob' obs' w'):cG w0 w' M' ob' ds dfs:=
 let ⟨d1,d2,e,h1,h2⟩:=h
 ⟨d1,d2,e,h1.mono hx.imm hx.hs,h2.same fun d _ b _ h=>by
  rw [hx.keep b (eB h) fun k ha=>by
   obtain ⟨o,q1,q2⟩:=hm.alive_heap ha
   rw [h] at q1
   cases q1
   cases q2]
  exact h⟩
def SS (M0:Imm) (ob0:Hs) (obs0:List AObj) (w0:World) (sz:Nat) (dfs:List (Nat×List AVal)) (fr:List (Nat×AVal)) (obs:List AObj) (a:Act) (w:World):Prop:=
 ∃ M ob,Ext M0 ob0 obs0 w0 M ob obs w/\Mem M ob obs w/\(∀ t,Rep M ob (a.tmps.getD t undef) (aS fr t))/\a.tmps.size=sz/\cG w0 w M ob a.defers dfs/\ob0.length<=obs.length
def PP (M0:Imm) (ob0:Hs) (obs0:List AObj) (w0:World) (sz:Nat) (dfs:List (Nat×List AVal)) (gf:Nat->AVal) (v:AVal) (obs:List AObj) (ch:List PanicEntry) (a:Act) (w:World):Prop:=
 ∃ M ob,Ext M0 ob0 obs0 w0 M ob obs w/\Mem M ob obs w/\wR M ob (.panicked ch) (.pan v)/\(∀ t,Rep M ob (a.tmps.getD t undef) (gf t))/\a.tmps.size=sz/\cG w0 w M ob a.defers dfs/\ob0.length<=obs.length
theorem Ext.lens {M M':Imm} {ob ob':Hs} {L L':List AObj} {w w':World} (hx:Ext M ob L w M' ob' L' w'):ob.length<=ob'.length:=by
 rcases Ez ob.length with h | h
 .omega
 .obtain ⟨hs',e,_⟩:=hx.hs (ob.length-1) _ (Aa (by omega))
  have:=(Ab.1 e).1
  omega
theorem lY {P:Program} {hint base:Nat} {obs:List AObj} {ρ:Operand->AVal} {op:Op} {ty:TypeId} {K Kp:AVal->List AObj->Prop} (h:orF P obs K Kp (eop E hint base (aE obs) ρ op ty)):∀ c,op≠ .defer c:=by
 intro c e
 subst e
 exact h.elim
theorem I5 (hE:EnvOK E) {fr:List (Nat×AVal)} {obs:List AObj} {a:Act} {w:World} (hs:SS M0 ob0 obs0 w0 sz dfs fr obs a w) {p:Oper} (hd:∀ d,p.dst=some d->d<sz) {hint:Nat}
  (h:match cA ops.toList (ev fr) p.guard with
   | none=>False
   | some false=>K (lK fr p.dst (.tup [])) obs
   | some true=>orF E.P obs (fun v obs=>K (lK fr p.dst v) obs) (Kp (aS fr)) (eop E hint (aM obs) (aE obs) (ev fr) p.op p.type))
  (hp:∀ v obs ch w,Kp (aS fr) v obs->PP M0 ob0 obs0 w0 sz dfs (aS fr) v obs ch a w->Q (.panic ch) a w):
  G rd E.P ops p a w (fun a w=>∃ fr obs,K fr obs/\SS M0 ob0 obs0 w0 sz dfs fr obs a w) Q:=by
 obtain ⟨M,ob,hx,hm,hf,hsz,hdf,h0⟩:=hs
 have hev:=B9 hf
 have hl:=hm.len
 unfold G
 cases hw:cA ops.toList (ev fr) p.guard with
 | none=>rw [hw] at h;exact h.elim
 | some b=>
  rw [hw] at h
  rw [gM hev hw]
  cases b with
  | false=>
   rw [if_neg (by simp)]
   refine ⟨_,obs,h,M,ob,hx,hm,?_,(eK _ _ _).1.trans hsz,hdf.put,h0⟩
   rw [eZ]
   exact mM hf vJ fun d' e=>hsz▸hd d' e
  | true=>
   rw [if_pos rfl]
   have hnd:∀ c,p.op≠ .defer c:=lY h
   refine (yI hE hm hev h).wpIn hnd (fun u w' ⟨M',ob',L',x1,x2,x3⟩=>?_) (fun ch w' ⟨M',ob',L',x1,x2,x3⟩=>?_)
   .rcases x3 with ⟨u',v,e,hr,hk⟩ | ⟨ch,v,e,_⟩
    .cases e
     have:=x1.lens
     have:=x2.len
     refine ⟨_,L',hk,M',ob',hx.trans x1,x2,?_,(eK _ _ _).1.trans hsz,(hdf.ext hm x1).put,by omega⟩
     rw [eZ]
     exact mM (fun t=>(hf t).mono x1.imm x1.hs) hr fun d' e=>hsz▸hd d' e
    .cases e
   .rcases x3 with ⟨u',v,e,_⟩ | ⟨ch',v,e,hr,hk⟩
    .cases e
    .cases e
     have:=x1.lens
     have:=x2.len
     exact hp v L' ch w' hk ⟨M',ob',hx.trans x1,x2,hr,fun t=>(hf t).mono x1.imm x1.hs,hsz,hdf.ext hm x1,by omega⟩
theorem wk {l:List Oper} {p:Oper} {a:Act} {w:World} {next:Act->World->Prop} (hg:G rd E.P ops p a w next Q) (hn:∀ a w,next a w->wpListIn (fen rd) 0 E.P ops Q l a w):wpListIn (fen rd) 0 E.P ops Q (p::l) a w:=by
 unfold wpListIn
 unfold G at hg
 split
 .rename_i hw;rw [if_pos hw] at hg;exact Oper.wpIn_mono hn hg
 .rename_i hw;rw [if_neg hw] at hg;exact ⟨fun _ _=>trivial,hn _ _ hg⟩
theorem qC (hE:EnvOK E) (hp:∀ g v obs ch a w,Kp g v obs->PP M0 ob0 obs0 w0 sz dfs g v obs ch a w->Q (.panic ch) a w) (hq:∀ fr obs a w,K fr obs->SS M0 ob0 obs0 w0 sz dfs fr obs a w->Q .normal a w):
  ∀ (l:List Oper) (n:Nat) (fr:List (Nat×AVal)) (obs:List AObj) (a:Act) (w:World),(∀ p∈l,∀ d,p.dst=some d->d<sz)->dX E ops.toList K Kp n l fr obs->SS M0 ob0 obs0 w0 sz dfs fr obs a w->wpListIn (fen rd) 0 E.P ops Q l a w
 | [],n,fr,obs,a,w,_,h,hs=>hq fr obs a w h hs
 | p::l,n,fr,obs,a,w,hd,h,hs=>by
  refine wk (I5 (K:=fun fr obs=>dX E ops.toList K Kp (n+1) l fr obs) (Kp:=Kp) (hint:=dZ E p.dst) hE hs (hd p (by simp)) ?_ fun v obs ch w hk hpp=>hp (aS fr) v obs ch a w hk hpp) fun a' w' ⟨fr',obs',hk,hs'⟩=>qC hE hp hq l (n+1) fr' obs' a' w' (fun p hp=>hd p (by simp [hp])) hk hs'
  simp only [dX] at h
  cases hw:cA ops.toList (ev fr) p.guard with
  | none=>rw [hw] at h;exact h.elim
  | some b=>
   rw [hw] at h
   cases b with
   | false=>exact h
   | true=>
    exact jK (fun v o h=>sV h) h
end
section
variable {rd:Option Nat} {M0:Imm} {ob0:Hs} {obs0:List AObj} {w0:World} {sz:Nat} {dfs:List (Nat×List AVal)} {E:Env} {ops:Array Oper} {Q:Exit->Act->World->Prop} {K:AS->Prop} {Kp:(Nat->AVal)->AVal->List AObj->Prop} {L0:Nat} {tab:List Nat}
theorem DF {P:Program} {og og':Nat->AObj} {hint base base':Nat} {ρ:Operand->AVal} {op:Op} {ty:TypeId} {z:AVal} {bs:List AObj} (h:fU P og' base' z bs (eop E hint base og ρ op ty)):∀ c,op≠ .defer c:=by
 intro c e
 subst e
 exact h.elim
theorem GE {og:Nat->AObj} {hint base k:Nat} {ρ:Operand->AVal} {op:Op} {ty:TypeId} {z:AVal} {x:AObj} (h:GF z k x (eop E hint base og ρ op ty)):∀ c,op≠ .defer c:=by
 intro c e
 subst e
 exact h.elim
def DS (M0:Imm) (ob0:Hs) (obs0:List AObj) (w0:World) (sz:Nat) (dfs:List (Nat×List AVal)) (L0:Nat) (s:AS) (a:Act) (w:World):Prop:=
 ∃ M ob L,Ext M0 ob0 obs0 w0 M ob L w/\Mem M ob L w/\aE L=s.o/\(∀ t,Rep M ob (a.tmps.getD t undef) (s.g t))/\a.tmps.size=sz/\cG w0 w M ob a.defers dfs/\ob0.length<=L0/\
  ∀ (k:Nat),L0<=k->(∀ i,¬ s.br i k)->∀ hs,ob[k]? =some hs->hs=[]
theorem aEA (hE:EnvOK E) (hd:∀ (i:Nat) p,ops[i]? =some p->∀ d,p.dst=some d->d<sz) (hp:∀ g v obs ch a w,Kp g v obs->PP M0 ob0 obs0 w0 sz dfs g v obs ch a w->Q (.panic ch) a w)
  {s:AS} {a:Act} {w:World} (hs:DS M0 ob0 obs0 w0 sz dfs L0 s a w) {i:Nat} (h:aOp E ops tab L0 Kp i K s):wpOpIn (fen rd) 0 E.P ops Q i (fun a w=>∃ s',K s'/\DS M0 ob0 obs0 w0 sz dfs L0 s' a w) a w:=by
 obtain ⟨p,hi,h⟩:=h
 have hdp:=hd i p hi
 suffices hg:G rd E.P ops p a w (fun a w=>∃ s',K s'/\DS M0 ob0 obs0 w0 sz dfs L0 s' a w) Q by
  unfold wpOpIn
  rw [hi]
  dsimp only
  unfold G at hg
  split
  .rename_i hw;rw [if_pos hw] at hg;exact hg
  .rename_i hw;rw [if_neg hw] at hg;exact ⟨fun _ _=>trivial,hg⟩
 obtain ⟨M,ob,L,hx,hm,ho,hf,hsz,hdf,h0,hfree⟩:=hs
 have hev:∀ x,Rep M ob (a.eval x) (evG tab ops.toList i s.g x):=aEk hf
 have skip:∀ {base:Nat},K (s.upd i p.dst (.tup []) base [])->Fe p (yielded ops a.tmps)=false->G rd E.P ops p a w (fun a w=>∃ s',K s'/\DS M0 ob0 obs0 w0 sz dfs L0 s' a w) Q:=fun {base} hk hw=>by
  unfold G
  rw [if_neg (by rw [hw];simp)]
  refine ⟨_,hk,?_⟩
  rw [yF]
  exact ⟨M,ob,L,hx,hm,ho,mM hf vJ fun d' e=>hsz▸hdp d' e,(eK _ _ _).1.trans hsz,hdf.put,h0,hfree⟩
 rcases h with ⟨_,z,base,bs,⟨hb,_,hy⟩,hfr,hk⟩ | ⟨_,z,base,k,x,⟨⟨hb,hbr⟩,hw,hnd,hres⟩,hk⟩ | ⟨_,obs,hoo,hl0,hall,hlt,hy⟩
 .rcases hy with ⟨hw,rfl,rfl⟩ | ⟨hw,hres⟩
  .exact skip hk (gM hev hw)
  .unfold G
   rw [gM hev hw,if_pos rfl]
   obtain ⟨hid,hseen⟩:∃ hid,aE (cY hid L)=kO E tab i p.dst s:=by
    cases hbl:blD E p.dst with
    | true=>exact ⟨fun _=>True,by rw [fJ];unfold kO;rw [if_pos hbl];simp⟩
    | false=>exact ⟨K6 tab i s.br,by rw [fJ,ho];unfold kO;rw [if_neg (by rw [hbl];simp)];rfl⟩
   rw [<-hseen] at hres
   refine (aHF hE hm hev (fun k hk=>hfree k (Da hb hk.1) (hfr k hk)) hres).wpIn (DF hres) (fun u w' ⟨M',ob',L',u',e,x1,x2,x3,x4,x5,x6⟩=>?_) (fun ch w' ⟨M',ob',L',u',e,_⟩=>by cases e)
   cases e
   refine ⟨_,hk,M',ob',L',hx.trans x1,x2,?_,mM (fun t=>(hf t).mono x1.imm x1.hs) x5 fun d' e=>hsz▸hdp d' e,(eK _ _ _).1.trans hsz,(hdf.ext hm x1).put,h0,fun k h1 h2 hs he=>?_⟩
   .rw [x3,ho];rfl
   .have hnin:¬ inB base bs.length k:=fun h=>h2 i (.inr ⟨rfl,h⟩)
    exact x6 k hnin (hfree k h1 fun i' hb=>h2 i' (.inl hb)) hs he
 .unfold G
  rw [gM hev hw,if_pos rfl]
  have hseen:aE (cY (K6 tab i s.br) L)=mT tab i s:=by
   rw [fJ,ho]
   rfl
  rw [<-hseen] at hres hnd
  refine (aEB hE hm hev (hfree base hb hbr) hnd hres).wpIn (GE hres) (fun u w' ⟨M',ob',L',u',e,x1,x2,x3,x4,x5,x6⟩=>?_) (fun ch w' ⟨M',ob',L',u',e,_⟩=>by cases e)
  cases e
  refine ⟨_,hk,M',ob',L',hx.trans x1,x2,?_,mM (fun t=>(hf t).mono x1.imm x1.hs) x5 fun d' e=>hsz▸hdp d' e,(eK _ _ _).1.trans hsz,(hdf.ext hm x1).put,h0,fun k' h1 h2 hs he=>x6 k' (hfree k' h1 h2) hs he⟩
  rw [x3,ho]
  rfl
 .rcases hy with ⟨hw,hk⟩ | ⟨hw,hor⟩
  .exact skip hk (gM hev hw)
  .unfold G
   rw [gM hev hw,if_pos rfl]
   have hof:=bE obs
   obtain ⟨ob1,n1,n2,n3⟩:=hm.norm (obs:=obs) (ho.trans hoo.symm) fun k hk=>hfree k (by omega) fun i hb=>by have:=hlt i k hb;omega
   have hev1:∀ x,Rep M ob1 (a.eval x) (evG tab ops.toList i s.g x):=fun x=>(hev x).monoA n2
   have hx1:=n3 hx (by omega)
   refine (yI hE n1 hev1 (qS rfl rfl hor)).wpIn (lY (qS rfl rfl hor)) (fun u w' ⟨M',ob',L',x1,x2,x3⟩=>?_) (fun ch w' ⟨M',ob',L',x1,x2,x3⟩=>?_)
   .rcases x3 with ⟨u',v,e,hr,hk⟩ | ⟨ch,v,e,_⟩
    .cases e
     have l1:=x1.lens
     have l2:=x2.len
     have l3:=n1.len
     have hle:aM obs<=aM L':=by rw [bE,bE];omega
     refine ⟨_,hk hle,M',ob',L',hx1.trans x1,x2,rfl,mM (fun t=>((hf t).monoA n2).mono x1.imm x1.hs) hr fun d' e=>hsz▸hdp d' e,(eK _ _ _).1.trans hsz,((hdf.monoA n2).ext n1 x1).put,h0,fun k h1 h2 hs he=>?_⟩
     have hk1:k<aM L':=by rw [bE,<-l2];exact (Ab.1 he).1
     by_cases hk2:k<aM obs
     .obtain ⟨i',hb⟩:=hall k h1 hk2
      exact absurd (.inl hb) (h2 i')
     .exact absurd (.inr ⟨rfl,by omega,hk1⟩) (h2 i)
    .cases e
   .rcases x3 with ⟨u',v,e,_⟩ | ⟨ch',v,e,hr,hk⟩
    .cases e
    .cases e
     have l1:=x1.lens
     have l2:=x2.len
     have l3:=n1.len
     exact hp _ v L' ch a w' hk ⟨M',ob',hx1.trans x1,x2,hr,fun t=>((hf t).monoA n2).mono x1.imm x1.hs,hsz,(hdf.monoA n2).ext n1 x1,by omega⟩
theorem nQ (hE:EnvOK E) (hd:∀ (i:Nat) p,ops[i]? =some p->∀ d,p.dst=some d->d<sz) (hp:∀ g v obs ch a w,Kp g v obs->PP M0 ob0 obs0 w0 sz dfs g v obs ch a w->Q (.panic ch) a w) {Qs:AS->Prop}
  (hQ:∀ s a w,Qs s->DS M0 ob0 obs0 w0 sz dfs L0 s a w->Q .normal a w):
  ∀ (fuel:Nat) (listed:Array Bool) (s:AS) (a:Act) (w:World),wpA E ops tab L0 Kp Qs fuel listed s->DS M0 ob0 obs0 w0 sz dfs L0 s a w->wpAnyIn (fen rd) 0 E.P .any ops Q fuel listed a w
 | 0,_,_,_,_,h,hs=>⟨h.1,hQ _ _ _ h.2 hs⟩
 | fuel+1,_,_,_,_,h,hs=>⟨fun h0=>hQ _ _ _ (h.1 h0) hs,fun i hi=>by
   have:=aEA (rd:=rd) (K:=wpA E ops tab L0 Kp Qs fuel _) hE hd hp hs (h.2 i hi)
   unfold wpOpIn at this⊢
   cases hq:ops[i]? with
   | none=>rw [hq] at this;obtain ⟨s',k1,k2⟩:=this;exact nQ hE hd hp hQ fuel _ s' _ _ k1 k2
   | some o=>
    rw [hq] at this
    dsimp only at this⊢
    split
    .rename_i hw
     rw [if_pos hw] at this
     exact Oper.wpIn_mono (fun a w ⟨s',k1,k2⟩=>nQ hE hd hp hQ fuel _ s' a w k1 k2) this
    .rename_i hw
     rw [if_neg hw] at this
     obtain ⟨_,s',k1,k2⟩:=this
     exact ⟨fun _ _=>trivial,nQ hE hd hp hQ fuel _ s' _ _ k1 k2⟩⟩
theorem DS.of {fr:List (Nat×AVal)} {obs:List AObj} {a:Act} {w:World} (h:SS M0 ob0 obs0 w0 sz dfs fr obs a w):DS M0 ob0 obs0 w0 sz dfs obs.length (iW fr obs []) a w:=by
 obtain ⟨M,ob,hx,hm,hf,hsz,hdf,h0⟩:=h
 exact ⟨M,ob,obs,hx,hm,rfl,hf,hsz,hdf,h0,fun k hk _ hs he=>by
  have:=(Ab.1 he).1
  rw [hm.len] at this
  omega⟩
theorem DS.back {fr:List (Nat×AVal)} {obs:List AObj} {br:List (Nat×Nat)} {n:Nat} {a:Act} {w:World} (hI:LI L0 n obs br) (h:DS M0 ob0 obs0 w0 sz dfs L0 (iW fr obs br) a w):SS M0 ob0 obs0 w0 sz dfs fr obs a w:=by
 obtain ⟨M,ob,L,hx,hm,ho,hf,hsz,hdf,h0,hfree⟩:=h
 have hof:=bE obs
 have hlow:=hI.low
 obtain ⟨ob1,n1,n2,n3⟩:=hm.norm (obs:=obs) ho fun k hk=>hfree k (by omega) fun i hb=>by have:=(hI.lt i k hb).1;omega
 exact ⟨M,ob1,n3 hx (by omega),n1,fun t=>(hf t).monoA n2,hsz,hdf.monoA n2,by omega⟩
theorem SS.draw {fr:List (Nat×AVal)} {obs:List AObj} {a:Act} {w:World} (h:SS M0 ob0 obs0 w0 sz dfs fr obs a w):SS M0 ob0 obs0 w0 sz dfs fr obs a {w with drawn:=w.drawn+1}:=by
 obtain ⟨M,ob,hx,hm,hf,hsz,hdf,h0⟩:=h
 exact ⟨M,ob,⟨hx.imm,hx.new,hx.hs,hx.os,hx.tape,hx.output,hx.size,hx.keep,hx.fresh⟩,hm.same (Au _) fun _ _=>rfl,hf,hsz,cG.same (w:=w) rfl hdf,h0⟩
theorem NK (hE:EnvOK E) {id:Nat} (ht:TabSp ops tab) (hd:∀ (i:Nat) p,ops[i]? =some p->∀ d,p.dst=some d->d<sz) {Kq:List (Nat×AVal)->List AObj->Prop}
  (hp:∀ g v obs ch a w,Kp g v obs->PP M0 ob0 obs0 w0 sz dfs g v obs ch a w->Q (.panic ch) a w) (hq:∀ fr obs a w,Kq fr obs->SS M0 ob0 obs0 w0 sz dfs fr obs a w->Q .normal a w)
  {fr:List (Nat×AVal)} {obs:List AObj} {a:Act} {w:World} (hs:SS M0 ob0 obs0 w0 sz dfs fr obs a w) (h:iE E ops.toList tab Kq Kp 0 ops.toList [] fr obs):(Code.region id ops true).wpIn (fen rd) 0 E.P Q a w:=by
 refine wpIn_region_any hE.mix ?_
 have hlist:∀ j,j<ops.size->(Ga ops.size false)[j]? =some (decide (j<0)):=by intro j hj;simp [hj]
 have hsz:(Ga ops.size false).size=ops.size:=by simp
 have hlen:ops.toList.length=ops.size:=by simp
 have hI:LI obs.length 0 obs []:=⟨by rw [bE];exact Au _,fun k h1 h2=>by rw [bE] at h2;omega,fun i k hk=>by simp at hk⟩
 have:=aDC ht ops.toList 0 _ [] fr obs rfl hlist hsz hI h
 rw [hlen] at this
 exact nQ hE hd hp (fun s a w ⟨fr',obs',br',n',e,hI',hk⟩ hds=>hq fr' obs' a w hk (DS.back hI' (e▸hds))) _ _ _ _ _ this (DS.of hs.draw)
end
def KI.item:KI->Item
 | .code c=>.code c
 | .inB id=>.inBlock id
 | .inL c=>.inLoop c
 | .beginR=>.beginRound
def fV (ks:List KI):List Item:=ks.map KI.item
theorem aAF (rd:Option Nat) (n:Nat):(fen rd).room n:=fun d h=>by cases h
theorem iQ (P:Program) (rd:Option Nat) (m:Machine):m.fenced P (fen rd):=fenced_wide P m
def KW (rd:Option Nat) (P:Program) (Q:Exit->Act->World->Prop) (ks:List KI) (a:Act) (w:World):Prop:=
 ∀ (b:Frame) (cs:List Frame),b.roundOf=rd->∃ e a' w',Q e a' w'/\ArrivesIn (Machine.fenced P (fen rd)) P (lone (b.atR a (fV ks)) cs w) b [] cs e a' w'
section
variable {rd:Option Nat} {P:Program} {Q:Exit->Act->World->Prop} {ks ks':List KI} {a:Act} {w:World}
theorem KW.nil (h:Q .normal a w):KW rd P Q [] a w:=fun _ _ _=>⟨.normal,a,w,h,.refl _⟩
theorem KW.step (hs:∀ (b:Frame) cs,Go.step P (lone (b.atR a (fV ks)) cs w)= .next (lone (b.atR a (fV ks')) cs w)) (h:KW rd P Q ks' a w):KW rd P Q ks a w:=
 fun b cs hb=>let ⟨e,a',w',q,r⟩:=h b cs hb;⟨e,a',w',q,.of_steps (.one (iQ _ _ _) (hs b cs)) r⟩
theorem KW.ret (h:Q .ret a w):KW rd P Q (.code .ret::ks) a w:=fun b _ _=>⟨.ret,a,w,h,fun hn=>⟨_,.one (iQ _ _ _) (stepR_ret hn)⟩,fun _=>⟨fV ks,.refl _⟩⟩
theorem KW.code {c:Code} {Q':Exit->Act->World->Prop} (h:c.wpIn (fen rd) 0 P Q' a w) (h1:∀ a w,Q' .normal a w->KW rd P Q ks a w) (h2:∀ ch a w,Q' (.panic ch) a w->Q (.panic ch) a w)
  (h3:∀ e a w,Q' e a w->e= .normal\/∃ ch,e= .panic ch):KW rd P Q (.code c::ks) a w:=by
 intro b cs hb
 obtain ⟨e,a',w',q,r⟩:=h b (fV ks) cs hb trivial (aAF _ _)
 rcases h3 e a' w' q with rfl | ⟨ch,rfl⟩
 .obtain ⟨e2,a2,w2,q2,r2⟩:=h1 a' w' q b cs hb
  exact ⟨e2,a2,w2,q2,.of_steps r r2⟩
 .exact ⟨.panic ch,a',w',h2 ch a' w' q,r⟩
theorem KW.arrives (h:KW none P Q ks a w) (b:Frame) (cs:List Frame) (hb:b.roundOf=none):∃ e a' w',Q e a' w'/\Arrives P (lone (b.at a (fV ks)) cs w) b [] cs e a' w':=by
 obtain ⟨e,a',w',q,r⟩:=h b cs hb
 rw [Frame.atR_of_none hb] at r
 exact ⟨e,a',w',q,(arrivesIn_iff (I:=Machine.fenced P Fence.wide) (fun _ _=>stepsIn_wide) hb).1 r⟩
theorem kY {id:Nat}:∀ (ks ks':List KI),B8 id ks=some ks'->exitTo id (fV ks)=some (fV ks')
 | [],ks',h=>by cases h
 | .inB i::r,ks',h=>by
  simp only [B8] at h
  simp only [fV,Bk,KI.item,exitTo]
  cases hb:Aq i id with
  | true=>
   rw [hb] at h
   cases h
   rw [if_pos (by simpa using aB hb)]
  | false=>
   rw [hb] at h
   have hne:¬ (i==id)=true:=fun e=>by
    have e2:i=id:=by simpa using e
    rw [e2] at hb
    exact absurd hb (by simp)
   rw [if_neg hne]
   exact kY r ks' h
 | .code c::r,ks',h=>kY r ks' h
 | .inL c::r,ks',h=>kY r ks' h
 | .beginR::r,ks',h=>kY r ks' h
end
def HQ:Nat->List Oper->Bool
 | _,[]=>true
 | n,p::r=>(gL p).all (fun i=>Ey i n)&&HQ (n+1) r
def LQ (tab:List Nat) (i:Nat) (d:Nat):Nat->List Oper->Bool
 | _,[]=>true
 | j,q::r=>(match q.dst with | some e=>!Aq e d|| !loose tab i j | none=>true)&&LQ tab i d (j+1) r
def aEz (tab:List Nat) (all:List Oper):Nat->List Oper->Bool
 | _,[]=>true
 | i,p::r=>(match p.dst with | some d=>LQ tab i d 0 all | none=>true)&&aEz tab all (i+1) r
def JL (ops:Array Oper):Bool:=HQ 0 ops.toList&&aEz (iH [] ops.toList) ops.toList 0 ops.toList
def aFB (sz:Nat) (l:List Oper):Bool:=l.all fun p=>match p.dst with | some d=>Ey d sz | none=>true
def cS (sz:Nat):Code->Bool
 | .region _ ops dr=>aFB sz ops.toList&&(!dr||JL ops)
 | .seq a b=>cS sz a&&cS sz b
 | .cond _ a b=>cS sz a&&cS sz b
 | .block _ b=>cS sz b
 | .loop b=>cS sz b
 | _=>true
def KI.ok (sz:Nat):KI->Bool
 | .code c=>cS sz c
 | .inL c=>cS sz c
 | .inB _=>true
 | .beginR=>true
def aZ (sz:Nat):List KI->Bool
 | []=>true
 | k::r=>k.ok sz&&aZ sz r
theorem pW {sz id:Nat}:∀ (ks ks':List KI),B8 id ks=some ks'->aZ sz ks=true->aZ sz ks'=true
 | [],ks',h,_=>by cases h
 | .inB i::r,ks',h,ho=>by
  simp only [B8] at h
  simp only [aZ,Ag] at ho
  cases hb:Aq i id with
  | true=>rw [hb] at h;cases h;exact ho.2
  | false=>rw [hb] at h;exact pW r ks' h ho.2
 | .code c::r,ks',h,ho=>pW r ks' h (by simp only [aZ,Ag] at ho;exact ho.2)
 | .inL c::r,ks',h,ho=>pW r ks' h (by simp only [aZ,Ag] at ho;exact ho.2)
 | .beginR::r,ks',h,ho=>pW r ks' h (by simp only [aZ,Ag] at ho;exact ho.2)
def Goal.res:Goal->Res
 | .pure r=>r
 | .full _ r _=>r
 | .keep _ r _=>r
def Goal.obs:Goal->List AObj
 | .pure _=>[]
 | .full _ _ o=>o
 | .keep _ _ o=>o
def Goal.strict:Goal->Bool
 | .keep _ _ _=>false
 | _=>true
def RR (M0:Imm) (ob0:Hs) (obs0:List AObj) (w0:World) (g:Goal) (e:Ending) (w':World):Prop:=∃ M' ob',Ext M0 ob0 obs0 w0 M' ob' g.obs w'/\Mem M' ob' g.obs w'/\wR M' ob' e g.res
def eD (P:Program) (fn:Func) (tmps:Array Value) (R:Ending->World->Prop):List Deferred->FrameMode->World->Prop
 | [],u,w=>Leaves P fn tmps R [] u w
 | d::ds,u,w=>u≠ .run/\((∃ r w',d.target= .collected r/\(Instr.takeDeferred r).run P w= .ok [] w'/\eD P fn tmps R ds u w')\/
   ∃ fv cap f args,d.target= .fn fv cap/\(invoke d.target d.args).run P w= .ok (.enter f args) w/\
   CallsD P f args u w fun
    | .returned _,u',w'=>eD P fn tmps R ds (settle u') w'
    | .panicked dX,u',w'=>eD P fn tmps R ds (raised u' dX) w'
    | .outgrown,_,w'=>R .outgrown w')
theorem eW {P:Program} {fn:Func} {tmps:Array Value} {R:Ending->World->Prop}:∀ (ds:List Deferred) (u:FrameMode) (w:World) (fr:Frame)
  (cs:List Frame),fr.mode=u->fr.defers=ds->fr.tmps=tmps->P.funcs[fr.fn]? =some fn->eD P fn tmps R ds u w->
  ∃ e w' fr',R e w'/\Comes P (lone fr cs w) (lone fr' cs w') e/\fr'.fn=fr.fn/\fr'.kind=fr.kind/\fr'.going P w' e:=by
 intro ds
 induction ds with
 | nil=>
  intro u w fr cs hu hd ht hf h
  cases u with
  | run=>exact h.elim
  | returning=>
   obtain ⟨v,hr,hR⟩:=h
   exact ⟨.returned v,w,fr,hR,Steps.refl P _,rfl,rfl,hu,hd,fn,hf,ht▸hr⟩
  | panicking dX=>exact ⟨.panicked dX,w,fr,h,Steps.refl P _,rfl,rfl,hu,hd,fn,hf⟩
 | cons d ds ih=>
  intro u w fr cs hu hd ht hf h
  obtain ⟨hrun,⟨r,w',htar,htake,hrest⟩ | ⟨fv,cap,f,args,htar,hinv,hcall⟩⟩:=h
  .have h1:=step_collected (cs:=cs) (hu▸hrun) hd htar htake
   obtain ⟨e',w'',fr',hR',hs',hfn',hk',hl'⟩:=ih u w' {fr with defers:=[]++ds} cs hu rfl ht hf hrest
   exact ⟨e',w'',fr',hR',Comes.of_steps (.one h1) hs',hfn',hk',hl'⟩
  have h1:=step_defer (cs:=cs) (hu▸hrun) hd htar hinv
  obtain ⟨e,u',w',frX,hR,hsteps,hkX,hgo⟩:=hcall {fr with defers:=ds} cs hu
  cases e with
  | returned v=>
   have h2:=step_going_returned (c:={{fr with defers:=ds} with mode:=u'}) (cs:=cs) hkX hgo
   obtain ⟨e',w'',fr',hR',hs',hfn',hk',hl'⟩:=ih (settle u') w' {{{fr with defers:=ds} with mode:=u'} with mode:=settle u'} cs rfl rfl ht hf hR
   exact ⟨e',w'',fr',hR',Comes.of_steps (.head h1 (Steps.trans hsteps (.one h2))) hs',hfn',hk',hl'⟩
  | panicked dX=>
   have h2:=step_going_panicked (c:={{fr with defers:=ds} with mode:=u'}) (cs:=cs) hgo
   obtain ⟨e',w'',fr',hR',hs',hfn',hk',hl'⟩:=ih (raised u' dX) w' {{{fr with defers:=ds} with mode:=u'} with mode:=raised u' dX} cs rfl rfl ht hf hR
   exact ⟨e',w'',fr',hR',Comes.of_steps (.head h1 (Steps.trans hsteps (.one h2))) hs',hfn',hk',hl'⟩
  | outgrown=>exact ⟨.outgrown,w',fr,hR,Outgrown.of_steps (.one h1) hsteps,rfl,rfl,trivial⟩
theorem mL {P:Program} {fr:Frame} {w:World} {e:Ending} (h:fr.going P w e) (hk:fr.kind= .normal):fr.leaving P w e:=by
 cases e with
 | returned v=>exact ⟨h.1,h.2.1,hk,h.2.2⟩
 | panicked ch=>exact h
 | outgrown=>exact h
structure Shut (w0 w w':World):Prop where
 os:w'.os=w.os
 tape:w'.tape=w.tape
 output:w'.output=w.output
 size:w'.heap.size=w.heap.size
 heap:∀ b,w'.heap[b]? =w.heap[b]?\/(w0.heap.size<=b/\w.heap[b]? =some (.deferred (some [])))
theorem mJ {P:Program} {fn:Func} {tmps:Array Value} {R:Ending->World->Prop} {w0:World} {u:FrameMode} (hu:u≠ .run):∀ (ds:List Deferred) (w:World),Mks w0 w ds->(∀ w',Shut w0 w w'->Leaves P fn tmps R [] u w')->eD P fn tmps R ds u w
 | [],w,_,h=>h w ⟨rfl,rfl,rfl,rfl,fun b=>.inl rfl⟩
 | d::ds,w,⟨⟨b,h1,h2,h3,h4⟩,h5⟩,h=>by
  refine ⟨hu,.inl ⟨b,_,h1,run_takeDeferred h3,?_⟩⟩
  refine mJ hu ds _ (h5.same fun d' hd' c hc h6=>?_) fun w' hs=>h w' ⟨hs.os,hs.tape,hs.output,hs.size.trans World.putObj_size,fun c=>?_⟩
  .have hne:c≠b:=fun e=>by subst e;exact h4 d' hd' hc
   rw [Gl hne];exact h6
  .by_cases hc:c=b
   .subst hc;exact .inr ⟨h2,h3⟩
   .have:=hs.heap c
    rwa [Gl hc] at this
theorem Mem.shut {w0 w w':World} {M:Imm} {ob:Hs} {obs:List AObj} (hm:Mem M ob obs w) (h:Shut w0 w w'):Mem M ob obs w':=by
 have old:∀ {b:Nat} {o:Obj},w.heap[b]? =some o->BO o=false->w'.heap[b]? =some o:=fun {b o} h1 h2=>by
  rcases h.heap b with q | ⟨_,q⟩
  .rw [q];exact h1
  .rw [h1] at q;cases q;cases h2
 refine ⟨fun b o x hx=>?_,hm.len,fun k c hc=>?_,fun k b ha=>by rw [h.size];exact hm.lt k b ha,hm.inj⟩
 .obtain ⟨v,hv,hr⟩:=hm.imm b o x hx
  refine ⟨v,?_,hr⟩
  unfold World.cell? at hv⊢
  dsimp only at hv⊢
  cases hq:w.heap[b]? with
  | none=>rw [hq] at hv;cases hv
  | some ob=>
   rw [hq] at hv
   cases ob with
   | cells c _ _=>rw [old hq rfl];exact hv
   | _=>cases hv
 .obtain ⟨hs',hob,hok⟩:=hm.obj k c hc
  refine ⟨hs',hob,hok.mono (fun _ _ _ h=>h) (cW.refl _) (fun _ _ _ _ h=>h) (fun b c' p1 p2 hc'=>?_)⟩
  obtain ⟨o,q1,q2⟩:=hm.alive_heap ((cE hc hob).2 ⟨p1,p2⟩)
  rw [hc'] at q1
  cases q1
  exact old hc' q2
theorem Ext.shut {w0 w w':World} {M0 M:Imm} {ob0 ob:Hs} {obs0 obs:List AObj} (hx:Ext M0 ob0 obs0 w0 M ob obs w) (h:Shut w0 w w'):Ext M0 ob0 obs0 w0 M ob obs w':=
 ⟨hx.imm,hx.new,hx.hs,h.os.trans hx.os,h.tape.trans hx.tape,h.output.trans hx.output,by rw [h.size];exact hx.size,fun b hb hn=>by
  rcases h.heap b with q | ⟨q,_⟩
  .rw [q];exact hx.keep b hb hn
  .omega,hx.fresh⟩
def C9 (E:Env) (fn:Func) (M0:Imm) (ob0:Hs) (obs0:List AObj) (w0:World) (g:Goal) (b:Bool) (a:Act) (w:World):Prop:=match E.rd with
 | none=>eD E.P fn a.tmps (RR M0 ob0 obs0 w0 g) a.defers .returning w
 | some _=>RR M0 ob0 obs0 w0 g (.returned (.bool b)) w
def qI (E:Env) (fn:Func) (M0:Imm) (ob0:Hs) (obs0:List AObj) (w0:World) (g:Goal):Exit->Act->World->Prop
 | .normal,a,w=>C9 E fn M0 ob0 obs0 w0 g true a w
 | .ret,a,w=>C9 E fn M0 ob0 obs0 w0 g false a w
 | .panic ch,a,w=>(match E.rd with | none=>eD E.P fn a.tmps (RR M0 ob0 obs0 w0 g) a.defers (.panicking ch) w | some _=>False)
 | _,_,_=>False
def oP (g:Goal) (ob0:Hs):Prop:=ob0.length=g.n0/\(g.strict=true->∀ hs∈ob0,hs.length=1)
def cX (E:Env) (fn:Func) (g:Goal) (ks:List KI) (fr:List (Nat×AVal)) (obs:List AObj):Prop:=
 aZ fn.ntmps ks=true->∀ M0 ob0 obs0 w0 a w,oP g ob0->SS M0 ob0 obs0 w0 fn.ntmps E.df fr obs a w->KW E.rd E.P (qI E fn M0 ob0 obs0 w0 g) ks a w
def aBQ (E:Env) (fn:Func) (g:Goal) (fr:List (Nat×AVal)) (obs:List AObj):Prop:=
 ∀ M0 ob0 obs0 w0 a w,oP g ob0->SS M0 ob0 obs0 w0 fn.ntmps E.df fr obs a w->eD E.P fn a.tmps (RR M0 ob0 obs0 w0 g) a.defers .returning w
def aBP (E:Env) (fn:Func) (g:Goal) (gf:Nat->AVal) (v:AVal) (obs:List AObj):Prop:=
 ∀ M0 ob0 obs0 w0 ch a w,oP g ob0->PP M0 ob0 obs0 w0 fn.ntmps E.df gf v obs ch a w->eD E.P fn a.tmps (RR M0 ob0 obs0 w0 g) a.defers (.panicking ch) w
def lC (E:Env) (fn:Func) (g:Goal) (gf:Nat->AVal) (v:AVal) (obs:List AObj):Prop:=match E.rd with
 | some _=>False
 | none=>match E.df with
  | []=>LN g .pan v obs
  | _::_=>aBP E fn g gf v obs
def aGR (E:Env) (fn:Func) (g:Goal) (R:RI) (n:Nat) (rest:List Oper) (br:List (Nat×Nat)) (fr:List (Nat×AVal)) (obs:List AObj):Prop:=
 match R.dr with
 | false=>dX E R.all (cX E fn g R.ks) (lC E fn g) n rest fr obs
 | true=>iE E R.all R.tab (cX E fn g R.ks) (lC E fn g) n rest br fr obs
def aAm (E:Env) (fn:Func) (g:Goal) (R:RI) (n:Nat) (d:Option Nat) (rest:List Oper) (br:List (Nat×Nat)) (fr:List (Nat×AVal)) (len:Nat) (obs:List AObj) (v:AVal):Prop:=
 wrP rest n d fr v fun fr=>aGR E fn g R (n+1) rest (bif R.dr then born n len (gR len obs) br else br) fr obs
def wQ (E:Env) (fn:Func) (g:Goal):St->Prop
 | .code ks fr obs=>cX E fn g ks fr obs
 | .head ks fr obs=>cX E fn g ks fr obs
 | .mid R n rest br fr obs=>aGR E fn g R n rest br fr obs
 | .pend R n d rest br fr obs r=>(match R.dr with
  | false=>orF E.P obs (fun v obs'=>aAm E fn g R n d rest br fr (aM obs) obs' v) (lC E fn g (aS fr)) r
  | true=>orD E.P (soN E R.tab R.all n d) (uoN E R.tab R.all n d) (blD E d) (oK E R.tab n br obs d) obs (aM obs) (fun v obs'=>aAm E fn g R n d rest br fr (aM obs) obs' v) (lC E fn g (aS fr)) r)
 | .got R n d rest br fr len obs v=>aAm E fn g R n d rest br fr len obs v
 | .leave none fr obs=>aBQ E fn g fr obs
 | .leave (some v) fr obs=>aBP E fn g (aS fr) v obs
section
variable {E:Env} {M:Imm} {ob:Hs} {obs:List AObj} {w:World}
theorem NH (hE:EnvOK E) (hm:Mem M ob obs w) {fr:List (Nat×AVal)} {x:AVal} {tmps:Array Value} {r:ResultVar} (h:aGt E obs fr r=some x) (hf:∀ t,Rep M ob (tmps.getD t undef) (aS fr t)):
  ∃ v,(match r with | .tmp t=>(Pure.pure (tmps.getD t undef):Sem Value) | .cell a t=>(asAddr (tmps.getD a undef)) >>= loadVar t).run E.P w= .ok v w/\Rep M ob v x:=by
 cases r with
 | tmp t=>cases h;exact ⟨_,rfl,hf t⟩
 | cell a t=>
  simp only [aGt] at h
  show ∃ v,((asAddr (tmps.getD a undef)) >>= loadVar t).run E.P w= .ok v w/\Rep M ob v x
  have ha:=hf a
  split at h
  .rename_i ti k off hT hg
   rw [hg] at ha
   split at h
   .rename_i cs hog
    split at h
    .rename_i l hl
     obtain ⟨b,hav,hb⟩:=ha.ref_inv
     obtain ⟨hs,h1,b',rfl,_,cv,hh,hlen,_,hrep⟩:=hm.obj k _ (bQ hog (by simp))
     have hbb:b'=b:=by rw [bT h1] at hb;simpa using hb
     subst hbb
     obtain ⟨t1,t2⟩:=iU hl
     obtain ⟨u,hu,hr⟩:=KQ (P:=E.P) (w:=w) (M:=M) (ob:=ob) (hE.tab t ti hT) (b:=b') (o:=off) h t1 fun i c hi=>by
      have hci:=t2 i c hi
      rw [lE,Bq] at hci
      have hlt:off+i<cv.length:=by rw [hlen];exact (Ab.1 hci).1
      exact ⟨cv[off+i],by rw [cell_of_row w b' _ _ _ (0,0) hh];simp [hlt],hrep _ _ c (Aa hlt) hci⟩
     refine ⟨u,?_,hr⟩
     rw [hav]
     simp only [asAddr,Az,Bh,Ak]
     exact hu
    .cases h
   .cases h
  .cases h
theorem AI (hE:EnvOK E) (hm:Mem M ob obs w) {fr:List (Nat×AVal)} {tmps:Array Value} (hf:∀ t,Rep M ob (tmps.getD t undef) (aS fr t)):
  ∀ (rs:List ResultVar) {xs:List AVal},YB E obs fr rs=some xs->∃ vs,(rs.mapM fun (r:ResultVar)=>(match r with | .tmp t=>(Pure.pure (tmps.getD t undef):Sem Value) | .cell a t=>(asAddr (tmps.getD a undef)) >>= loadVar t)).run E.P w= .ok vs w/\bV M ob vs xs
 | [],xs,h=>by
  cases h
  exact ⟨[],by simp,rfl,fun i v a h=>by simp at h⟩
 | r::rs,xs,h=>by
  simp only [YB] at h
  split at h
  .rename_i x l hx hl
   cases h
   obtain ⟨v,hv,hr⟩:=NH hE hm hx hf
   obtain ⟨vs,hvs,hrs⟩:=AI hE hm hf rs hl
   refine ⟨v::vs,?_,bV.cons hr hrs⟩
   rw [List.mapM_cons]
   simp only [Az]
   rw [hv]
   simp only [Ak]
   rw [hvs]
   simp
  .cases h
theorem NI (hE:EnvOK E) (hm:Mem M ob obs w) {fn:Func} {fr:List (Nat×AVal)} {x:AVal} {tmps:Array Value} (h:YC E obs fn.results.toList fr=some x)
  (hf:∀ t,Rep M ob (tmps.getD t undef) (aS fr t)):∃ v,(results fn tmps).run E.P w= .ok v w/\Rep M ob v x:=by
 have hl:∃ xs,YB E obs fr fn.results.toList=some xs/\((∃ y,xs=[y]/\x=y)\/(xs.length≠1/\x= .tup xs)):=by
  unfold YC at h
  split at h
  .rename_i y hy;cases h;exact ⟨_,hy,.inl ⟨_,rfl,rfl⟩⟩
  .rename_i l hne hl
   cases h
   refine ⟨_,hl,.inr ⟨fun h1=>?_,rfl⟩⟩
   match l,h1 with
   | [y],_=>exact hne y rfl
  .cases h
 obtain ⟨xs,hxs,hor⟩:=hl
 obtain ⟨vs,hvs,hrep⟩:=AI hE hm hf _ hxs
 have hr:fn.results=fn.results.toList.toArray:=by simp
 have key:(results fn tmps).run E.P w= .ok (if h:vs.toArray.size=1 then vs.toArray[0] else .tuple vs.toArray) w:=by
  unfold results
  rw [hr,List.mapM_toArray]
  simp only [Az,map_eq_pure_bind]
  have:(fn.results.toList.mapM fun (r:ResultVar)=>(match r with | .tmp t=>(Pure.pure (tmps.getD t undef):Sem Value) | .cell a t=>(asAddr (tmps.getD a undef)) >>= loadVar t)).run E.P w= .ok vs w:=hvs
  refine (congrArg (fun z=>Le (Le z _) _) this).trans ?_
  simp
 rw [key]
 rcases hor with ⟨y,rfl,rfl⟩ | ⟨h1,rfl⟩
 .match vs,hrep with
  | [v],hrep=>exact ⟨v,by simp,hrep.2 0 v _ rfl rfl⟩
  | [],hrep=>have:=hrep.1;simp at this
  | _::_::_,hrep=>have:=hrep.1;simp at this
 .have hne:¬ vs.toArray.size=1:=by rw [Gj,hrep.1];exact h1
  exact ⟨.tuple vs.toArray,by rw [dif_neg hne],.tup vs xs hrep.1 hrep.2⟩
theorem kI:∀ {n j:Nat} {ks:List Nat},jP n j ks=true->∀ i,i<n->ks[i]? =some (j+i)
 | 0,_,_,_,i,hi=>by omega
 | n+1,j,[],h,_,_=>by cases h
 | n+1,j,k::r,h,i,hi=>by
  simp only [jP,Ag] at h
  have:=aB h.1
  subst this
  cases i with
  | zero=>rfl
  | succ i=>
   have:=kI h.2 i (by omega)
   rw [show k+(i+1)=k+1+i from by omega]
   simpa using this
theorem sQ {M0:Imm} {ob0:Hs} {obs0:List AObj} {w0:World} {g:Goal} {mkR:AVal->Res} {v:AVal} {u:Value} (hst:oP g ob0) (hx:Ext M0 ob0 obs0 w0 M ob obs w) (hm:Mem M ob obs w) (hr:Rep M ob u v) (h:LN g mkR v obs):
  ∃ M' ob' y,Ext M0 ob0 obs0 w0 M' ob' g.obs w/\Mem M' ob' g.obs w/\Rep M' ob' u y/\mkR y=g.res:=by
 cases g with
 | pure r=>
  obtain ⟨M1,g1,g2,_,g4⟩:=hm.frzL [v]
  have h0:ob0=[]:=Ay hst.1
  subst h0
  have hx1:=hx.trans g2
  have no:∀ k b,¬ aH ([]:Hs) [] k b:=fun k b ⟨c,hs,e,_⟩=>by simp at e
  exact ⟨M1,[],_,⟨hx1.imm,hx1.new,cW.refl _,hx1.os,hx1.tape,hx1.output,hx1.size,hx1.keep,fun k b ha=>(no k b ha).elim⟩,g1.bare,g1.cvtV (n0:=0) (ks:=[]) rfl 5 u v (hr.monoM g2.imm),h⟩
 | full n0 r obs'=>
  obtain ⟨fz,ks,⟨hk,hbeg⟩,h1,h2⟩:=h
  obtain ⟨M1,g1,g2,_,g4⟩:=Mem.frzs fz M obs hm
  obtain ⟨c1,c2,_⟩:=g1.cvt (n0:=n0) hk
  have hx1:=hx.trans g2
  have hn:ob0.length=n0:=hst.1
  refine ⟨M1,_,_,⟨hx1.imm,hx1.new,fun j hs hj=>?_,hx1.os,hx1.tape,hx1.output,hx1.size,hx1.keep,fun j b ha=>?_⟩,?_,g1.cvtV (n0:=n0) hk 5 u v (hr.monoM g2.imm),h1⟩
  .have hlt:j<n0:=by rw [<-hn];exact (Ab.1 hj).1
   have hkj:=kI hbeg j hlt
   rw [Bn] at hkj
   obtain ⟨hs',e1,t,e2⟩:=hx1.hs j hs hj
   have hl1:=hst.2 rfl hs (Ap hj)
   refine ⟨iD n0 j (aE (AW.frzs fz obs) j) hs',?_,?_⟩
   .rw [gC,hkj]
    simp [e1]
   .unfold iD
    split
    .rw [<-e2]
     have:(hs++t).take 1=hs:=by rw [Dm (by omega),Cl (by omega)]
     rw [this]
     exact ⟨_,rfl⟩
    .exact ⟨t,e2⟩
  .obtain ⟨k,_,ha'⟩:=c2 j b (by rw [h2];exact ha)
   exact hx1.fresh k b ha'
  .show Mem M1 _ obs' w
   rw [<-h2]
   exact c1
 | keep n0 r obs'=>
  obtain ⟨⟨hb1,hb2⟩,h1,h2⟩:=h
  rw [AY] at hb2 h2
  obtain ⟨m1,m2⟩:=hm.cutO hb2
  have hn:ob0.length=n0:=hst.1
  rw [h2] at m1 m2
  refine ⟨M,ob.take n0,v,⟨hx.imm,hx.new,fun k hs hk=>?_,hx.os,hx.tape,hx.output,hx.size,hx.keep,fun k b ha=>hx.fresh k b (m2 ha)⟩,m1,yY 5 hr hb1,h1⟩
  obtain ⟨hs',e1,e2⟩:=hx.hs k hs hk
  have hlt:k<n0:=by have:=(Ab.1 hk).1;omega
  exact ⟨hs',by rw [Bc hlt];exact e1,e2⟩
end
section
variable {E:Env} {fn:Func} {g:Goal}
theorem aAn (hE:EnvOK E) (hdf:E.df=[]) (hrd:E.rd=none) {fr:List (Nat×AVal)} {obs:List AObj} {v:AVal} (hv:YC E obs fn.results.toList fr=some v) (h:LN g .ret v obs) {M0:Imm} {ob0:Hs} {obs0:List AObj} {w0:World} {a:Act} {w:World}
  (hst:oP g ob0) (hs:SS M0 ob0 obs0 w0 fn.ntmps E.df fr obs a w):eD E.P fn a.tmps (RR M0 ob0 obs0 w0 g) a.defers .returning w:=by
 obtain ⟨M,ob,hx,hm,hf,hsz,hd,h0⟩:=hs
 rw [hdf] at hd
 refine mJ (w0:=w0) (by intro h;cases h) _ _ hd.marks fun w' hsh=>?_
 have hx:=hx.shut hsh
 have hm:=hm.shut hsh
 obtain ⟨u,hu,hr⟩:=NI hE hm hv hf
 obtain ⟨M',ob',y,x1,x2,x3,x4⟩:=sQ hst hx hm hr h
 refine ⟨u,hu,M',ob',x1,x2,?_⟩
 rw [<-x4]
 exact x3
theorem RO (hE:EnvOK E) {b:Bool} {fr:List (Nat×AVal)} {obs:List AObj} (h:aCU E fn g (wQ E fn g) b fr obs) {M0:Imm} {ob0:Hs} {obs0:List AObj} {w0:World} {a:Act} {w:World}
  (hst:oP g ob0) (hs:SS M0 ob0 obs0 w0 fn.ntmps E.df fr obs a w):C9 E fn M0 ob0 obs0 w0 g b a w:=by
 unfold aCU at h
 unfold C9
 cases hrd:E.rd with
 | some l=>
  rw [hrd] at h
  dsimp only at h⊢
  rw [HK] at h
  obtain ⟨M,ob,hx,hm,hf,hsz,hd,h0⟩:=hs
  obtain ⟨M',ob',y,x1,x2,x3,x4⟩:=sQ hst hx hm (.bool b) h
  exact ⟨M',ob',x1,x2,by rw [<-x4];exact x3⟩
 | none=>
 rw [hrd] at h
 dsimp only at h⊢
 cases hdf:E.df with
 | nil=>
  rw [hdf] at h
  dsimp only at h
  split at h
  .rename_i v hv
   rw [mE,HK] at h
   exact aAn hE hdf hrd hv h hst hs
  .exact h.elim
 | cons d ds=>
  rw [hdf] at h
  exact h M0 ob0 obs0 w0 a w hst hs
theorem aG9 (hdf:E.df=[]) {v:AVal} {obs:List AObj} (h:LN g .pan v obs) {M0:Imm} {ob0:Hs} {obs0:List AObj} {w0:World} {sz:Nat} {gf:Nat->AVal} {ch:List PanicEntry} {a:Act} {w:World}
  (hst:oP g ob0) (hs:PP M0 ob0 obs0 w0 sz E.df gf v obs ch a w):eD E.P fn a.tmps (RR M0 ob0 obs0 w0 g) a.defers (.panicking ch) w:=by
 obtain ⟨M,ob,hx,hm,⟨u,e,hr⟩,_,_,hd,_⟩:=hs
 rw [hdf] at hd
 refine mJ (w0:=w0) (by intro h;cases h) _ _ hd.marks fun w' hsh=>?_
 obtain ⟨M',ob',y,x1,x2,x3,x4⟩:=sQ hst (hx.shut hsh) (hm.shut hsh) hr h
 refine ⟨M',ob',x1,x2,?_⟩
 rw [<-x4]
 exact ⟨u,e,x3⟩
theorem G9 {gf:Nat->AVal} {v:AVal} {obs:List AObj} (h:lC E fn g gf v obs) {M0:Imm} {ob0:Hs} {obs0:List AObj} {w0:World} {ch:List PanicEntry} {a:Act} {w:World}
  (hst:oP g ob0) (hs:PP M0 ob0 obs0 w0 fn.ntmps E.df gf v obs ch a w):qI E fn M0 ob0 obs0 w0 g (.panic ch) a w:=by
 unfold lC at h
 unfold qI
 cases hrd:E.rd with
 | some l=>rw [hrd] at h;exact h.elim
 | none=>
 rw [hrd] at h
 dsimp only at h⊢
 cases hdf:E.df with
 | nil=>
  rw [hdf] at h
  exact aG9 hdf h hst hs
 | cons d ds=>
  rw [hdf] at h
  exact h M0 ob0 obs0 w0 ch a w hst hs
theorem rD {sz:Nat} {l:List Oper} (h:aFB sz l=true):∀ p∈l,∀ d,p.dst=some d->d<sz:=fun p hp d hd=>by
 have:=Ch.1 h p hp
 rw [hd] at this
 simpa [Fq] using this
def QR (E:Env) (fn:Func) (g:Goal) (M0:Imm) (ob0:Hs) (obs0:List AObj) (w0:World) (ks:List KI):Exit->Act->World->Prop
 | .normal,a,w=>KW E.rd E.P (qI E fn M0 ob0 obs0 w0 g) ks a w
 | .panic ch,a,w=>qI E fn M0 ob0 obs0 w0 g (.panic ch) a w
 | _,_,_=>False
theorem US (hE:EnvOK E) (hreg:∀ ops:Array Oper,JL ops=true->TabSp ops (iH [] ops.toList)) {id:Nat} {ops:Array Oper} {dr:Bool} {ks:List KI} {fr:List (Nat×AVal)} {obs:List AObj}
  (h:aGR E fn g ⟨ops.toList,dr,iH [] ops.toList,ks⟩ 0 ops.toList [] fr obs):cX E fn g (.code (.region id ops dr)::ks) fr obs:=by
 intro ho M0 ob0 obs0 w0 a w hst hs
 simp only [aZ,KI.ok,cS,Ag] at ho
 obtain ⟨⟨ho1,ho2⟩,ho3⟩:=ho
 have hd:=rD ho1
 refine KW.code (Q':=QR E fn g M0 ob0 obs0 w0 ks) ?_ (fun a w h=>h) (fun ch a w h=>h) (fun e a w hh=>by
  cases e<;>first | exact .inl rfl | exact .inr ⟨_,rfl⟩ | exact hh.elim)
 have hp:∀ gf v obs ch a w,lC E fn g gf v obs->PP M0 ob0 obs0 w0 fn.ntmps E.df gf v obs ch a w->qI E fn M0 ob0 obs0 w0 g (.panic ch) a w:=fun gf v obs ch a w he hpp=>G9 he hst hpp
 have hq:∀ fr obs a w,cX E fn g ks fr obs->SS M0 ob0 obs0 w0 fn.ntmps E.df fr obs a w->KW E.rd E.P (qI E fn M0 ob0 obs0 w0 g) ks a w:=fun fr obs a w hk hs=>hk ho3 M0 ob0 obs0 w0 a w hst hs
 cases dr with
 | false=>
  refine wpIn_region_list ?_
  exact qC (rd:=E.rd) (Q:=QR E fn g M0 ob0 obs0 w0 ks) (K:=cX E fn g ks) (Kp:=lC E fn g) hE (fun gf v obs ch a w h1 h2=>hp gf v obs ch a w h1 h2) (fun fr obs a w h1 h2=>hq fr obs a w h1 h2) ops.toList 0 fr obs a w hd h hs
 | true=>
  exact NK (rd:=E.rd) (Q:=QR E fn g M0 ob0 obs0 w0 ks) (Kq:=cX E fn g ks) (Kp:=lC E fn g) hE (hreg ops (by simpa using ho2)) (fun i p hi d hd'=>hd p (Ap (i:=i) (by simpa using hi)) d hd') (fun gf v obs ch a w h1 h2=>hp gf v obs ch a w h1 h2) (fun fr obs a w h1 h2=>hq fr obs a w h1 h2) hs h
theorem cX.step {ks ks':List KI} {fr:List (Nat×AVal)} {obs:List AObj} (hs:∀ a w (b:Frame) cs,Go.step E.P (lone (b.atR a (fV ks)) cs w)= .next (lone (b.atR a (fV ks')) cs w)) (hk:aZ fn.ntmps ks=true->aZ fn.ntmps ks'=true) (h:cX E fn g ks' fr obs):cX E fn g ks fr obs:=
 fun ho M0 ob0 obs0 w0 a w hst hss=>KW.step (hs a w) (h (hk ho) M0 ob0 obs0 w0 a w hst hss)
theorem go (hE:EnvOK E) (hreg:∀ ops:Array Oper,JL ops=true->TabSp ops (iH [] ops.toList)):∀ (fuel:Nat) (st:St),bM E fn g (wQ E fn g) fuel st->wQ E fn g st:=by
 intro fuel
 induction fuel with
 | zero=>intro st h;exact h
 | succ n ih=>
  intro st h
  cases st with
  | head ks fr obs=>exact ih (.code ks fr obs) h
  | leave p fr obs=>exact h
  | code ks fr obs=>
   cases ks with
   | nil=>
    simp only [bM] at h
    exact fun _ M0 ob0 obs0 w0 a w hst hs=>KW.nil (RO (b:=true) hE h hst hs)
   | cons k ks=>
    cases k with
    | inB id=>exact cX.step (fun a w b cs=>stepR_inBlock) (fun ho=>by simp only [aZ,Ag] at ho;exact ho.2) (ih (.code ks fr obs) h)
    | inL b=>
     exact cX.step (ks':=.code b:: .inL b::ks) (fun a w b cs=>stepR_inLoop) (fun ho=>by simp only [aZ,KI.ok,Ag] at ho⊢;exact ⟨ho.1,ho.1,ho.2⟩) h
    | beginR=>exact h
    | code q=>
     cases q with
     | rangeFunc x ps as bd=>exact h
     | skip=>exact cX.step (fun a w b cs=>stepR_skip) (fun ho=>by simp only [aZ,Ag] at ho;exact ho.2) (ih (.code ks fr obs) h)
     | seq x y=>exact cX.step (fun a w b cs=>stepR_seq) (fun ho=>by simp only [aZ,KI.ok,cS,Ag] at ho⊢;exact ⟨ho.1.1,ho.1.2,ho.2⟩) (ih (.code (.code x:: .code y::ks) fr obs) h)
     | block id b=>exact cX.step (fun a w b cs=>stepR_block) (fun ho=>by simp only [aZ,KI.ok,cS,Ag] at ho⊢;exact ⟨ho.1,trivial,ho.2⟩) (ih (.code (.code b:: .inB id::ks) fr obs) h)
     | loop b=>exact cX.step (ks':=.code b:: .inL b::ks) (fun a w b cs=>stepR_loop) (fun ho=>by simp only [aZ,KI.ok,cS,Ag] at ho⊢;exact ⟨ho.1,ho.1,ho.2⟩) h
     | exit id=>
            simp only [bM] at h
            split at h
            .rename_i ks' hx
             exact cX.step (fun a w b cs=>stepR_exit (kY _ _ hx)) (fun ho=>pW _ _ hx (by simp only [aZ,Ag] at ho;exact ho.2)) (ih (.code ks' fr obs) h)
            .exact h.elim
     | ret=>
            simp only [bM] at h
            exact fun _ M0 ob0 obs0 w0 a w hst hs=>KW.ret (RO (b:=false) hE h hst hs)
     | cond x c d=>
            simp only [bM] at h
            split at h
            .rename_i p hp
             intro ho M0 ob0 obs0 w0 a w hst hs
             simp only [aZ,KI.ok,cS,Ag] at ho
             obtain ⟨M,ob,hx,hm,hf,hsz,hd,h0⟩:=id hs
             have hev:=B9 (a:=a) hf x
             rw [hp] at hev
             cases p with
             | true=>
              refine KW.step (ks':=.code c::ks) (fun b cs=>?_) (h.1 rfl (by simp only [aZ,KI.ok,Ag];exact ⟨ho.1.1,ho.2⟩) M0 ob0 obs0 w0 a w hst hs)
              exact stepR_cond (P:=E.P) (b:=b) (k:=fV ks) (cs:=cs) (w:=w) (x:=c) (y:=d) hev.bool_inv
             | false=>
              refine KW.step (ks':=.code d::ks) (fun b cs=>?_) (h.2 rfl (by simp only [aZ,KI.ok,Ag];exact ⟨ho.1.2,ho.2⟩) M0 ob0 obs0 w0 a w hst hs)
              exact stepR_cond (P:=E.P) (b:=b) (k:=fV ks) (cs:=cs) (w:=w) (x:=c) (y:=d) hev.bool_inv
            .exact h.elim
     | region id ops dr=>
            simp only [bM] at h
            cases hdf:aIu ops.toList with
            | true=>rw [hdf] at h;exact h
            | false=>
             rw [hdf] at h
             dsimp only at h
             refine US hE hreg ?_
             cases dr with
             | false=>
              have:=ih (.mid ⟨ops.toList,false,[],ks⟩ 0 ops.toList [] fr obs) h
              exact this
             | true=>
              simp only [aBA] at h
              exact ih (.mid ⟨ops.toList,true,iH [] ops.toList,ks⟩ 0 ops.toList [] fr obs) h
     | _=>exact h.elim
  | mid R i rest br fr obs=>
   cases rest with
   | nil=>
    have hk:=ih (.code R.ks fr obs) h
    obtain ⟨all,dr,tab,ks⟩:=R
    cases dr with
    | false=>exact hk
    | true=>exact hk
   | cons p rest=>
    obtain ⟨all,dr,tab,ks⟩:=R
    cases dr with
    | false=>
     simp only [bM] at h
     show dX E all (cX E fn g ks) (lC E fn g) i (p::rest) fr obs
     simp only [dX]
     cases hw:cA all (ev fr) p.guard with
     | none=>rw [hw] at h;exact h.elim
     | some b=>
            rw [hw] at h
            cases b with
            | false=>
             cases hdst:p.dst with
             | none=>rw [hdst] at h;exact ih _ h
             | some d=>
              rw [hdst] at h
              dsimp only at h
              rw [lQ] at h
              exact ih (.mid ⟨all,false,tab,ks⟩ (i+1) rest br (gK fr d (.tup [])) obs) h
            | true=>exact ih (.pend ⟨all,false,tab,ks⟩ i p.dst rest br fr obs _) h
    | true=>
     simp only [bM] at h
     show iE E all tab (cX E fn g ks) (lC E fn g) i (p::rest) br fr obs
     simp only [iE]
     cases hw:cA all (evH tab all i fr) p.guard with
     | none=>rw [hw] at h;exact h.elim
     | some b=>
            rw [hw] at h
            cases b with
            | false=>
             cases hdst:p.dst with
             | none=>rw [hdst] at h;exact ih _ h
             | some d=>
              rw [hdst] at h
              dsimp only at h
              rw [lQ] at h
              exact ih (.mid ⟨all,true,tab,ks⟩ (i+1) rest br (gK fr d (.tup [])) obs) h
            | true=>
             dsimp only at h
             rw [qJ] at h
             exact ih (.pend ⟨all,true,tab,ks⟩ i p.dst rest br fr obs _) h
  | got R i d rest br fr len obs v=>
   simp only [bM,mE,qJ] at h
   show aAm E fn g R i d rest br fr len obs v
   unfold aAm wrP
   cases d with
   | none=>exact ih _ h
   | some d=>
    dsimp only at h⊢
    cases hg:tZ i rest with
    | false=>
     rw [hg] at h
     simp only [cond_false,lQ] at h
     exact ih _ h
    | true=>
     rw [hg] at h
     simp only [cond_true] at h⊢
     split at h
     .rw [lQ,lQ] at h
      exact h
     .exact h.elim
  | pend R i d rest br fr obs r=>
   obtain ⟨all,dr,tab,ks⟩:=R
   have so:∀ {q:Prop} {b:Bool},(match (!dr||b) with | true=>q | false=>False)->q/\(dr=true->b=true):=fun {q b} hq=>by
    cases dr with
    | false=>exact ⟨hq,fun e=>by cases e⟩
    | true=>
     cases b with
     | false=>exact hq.elim
     | true=>exact ⟨hq,fun _=>rfl⟩
   cases r with
   | no=>exact h.elim
   | val v=>
    simp only [bM,mE] at h
    have:=ih _ h
    cases dr<;>exact this
   | mkf f fs cs=>
    simp only [bM,IB (mE 3)] at h
    have:=ih _ h
    cases dr<;>exact this
   | need p r=>
    simp only [bM] at h
    cases dr<;>exact h
   | alt p v v'=>
    simp only [bM] at h
    cases dr<;>exact h
   | idx m f=>
    simp only [bM] at h
    cases dr<;>exact h
   | elem xs m f=>
    simp only [bM] at h
    cases dr<;>exact h
   | byte l m=>
    simp only [bM] at h
    cases dr<;>exact h
   | text xs=>
    simp only [bM] at h
    cases dr<;>exact h
   | find es key f=>
    simp only [bM] at h
    cases dr<;>exact h
   | born x v=>
    simp only [bM,aBN,qJ,mE] at h
    cases dr with
    | false=>
     have:=ih (.got _ _ _ _ _ _ _ _ _) h
     exact this
    | true=>
     cases hbl:blD E d with
     | true=>rw [hbl] at h;exact h.elim
     | false=>
            rw [hbl] at h
            have:=ih (.got _ _ _ _ _ _ _ _ _) h
            simp only [wQ]
            rw [hbl]
            exact this
   | upd k x v=>
    simp only [bM,aBN,qJ,mE] at h
    obtain ⟨h,hso⟩:=so h
    have:=ih _ h
    cases dr with
    | false=>exact this
    | true=>
     simp only [wQ,orD]
     rw [hso rfl]
     exact this
   | nilq xs neg=>
    simp only [bM] at h
    obtain ⟨h,hso⟩:=so h
    cases dr with
    | false=>exact h
    | true=>
     simp only [wQ]
     rw [hso rfl]
     exact h
   | call f args=>
    have hpan:aC5 E g (wQ E fn g) fr=lC E fn g (aS fr):=by
     funext v obs
     unfold aC5 lC
     cases E.rd<;>cases E.df<;>rfl
    simp only [bM,IB (mE 5),hpan] at h
    cases dr with
    | false=>exact h
    | true=>
     dsimp only at h
     cases hbl:blD E d with
     | true=>rw [hbl] at h;exact h.elim
     | false=>
            rw [hbl] at h
            dsimp only at h
            rw [qJ] at h
            simp only [wQ]
            rw [hbl]
            exact h
   | pan v=>
    simp only [bM,mE] at h
    obtain ⟨h2,hso⟩:=so h
    have h3:lC E fn g (aS fr) v obs:=by
     unfold lC
     cases hrd:E.rd with
     | some l=>rw [hrd] at h2;exact h2.elim
     | none=>
     rw [hrd] at h2
     dsimp only at h2⊢
     cases hdf:E.df with
     | nil=>rw [hdf] at h2;dsimp only at h2⊢;rw [HK] at h2;exact h2
     | cons d ds=>rw [hdf] at h2;exact h2
    cases dr with
    | false=>exact h3
    | true=>
     simp only [wQ]
     rw [hso rfl]
     exact h3
end
def sU (P:Program) (f:FuncId):Prop:=∀ (args:Array Value) (w:World),(callFunc f args).run P w= .ok (.enter f args) w
theorem BV:∀ (l:List AVal) (n t:Nat),aS (frA n l) t=if n<=t then (l[t-n]?).getD .undef else .undef
 | [],n,t=>by simp [frA,aS]
 | a::l,n,t=>by
  simp only [frA,aS]
  cases h:Aq n t with
  | true=>have:=aB h;subst this;simp
  | false=>
   have hne:n≠t:=fun e=>by subst e;simp at h
   simp only [cond_false]
   rw [BV l (n+1) t]
   by_cases hlt:n+1<=t
   .rw [if_pos hlt,if_pos (by omega)]
    have:t-n=(t-(n+1))+1:=by omega
    rw [this];simp
   .rw [if_neg hlt,if_neg (by omega)]
theorem L9 {P:Program} {f:FuncId} {fn:Func} {c:Code} {args:Array Value} {w:World} {R:Ending->World->Prop} (hf:P.funcs[f]? =some fn) (hb:fn.body=some c)
  {Q:Exit->Act->World->Prop} (hQ:∀ e a w,Q e a w->(match e with | .normal | .ret=>eD P fn a.tmps R a.defers .returning w | .panic ch=>eD P fn a.tmps R a.defers (.panicking ch) w | _=>False)) (h:KW none P Q [.code c] {tmps:=args++Ga (fn.ntmps-args.size) undef,defers:=[]} w):Calls P f args w R:=by
 intro cs
 let b:Frame:={(default:Frame) with fn:=f,kind:=.normal}
 have henter:Frame.enter P f args .normal=b.at {tmps:=args++Ga (fn.ntmps-args.size) undef,defers:=[]} [.code c]:=by
  simp [Frame.enter,Frame.at,hf,hb,b]
 obtain ⟨e,a',w',hq,harr⟩:=h.arrives b cs rfl
 have hq:=hQ _ _ _ hq
 rw [show fV [.code c]=[.code c] from rfl,<-henter] at harr
 cases e with
 | normal=>
  obtain ⟨e',w'',fr',hR,hs,hfn,hk,hl⟩:=eW a'.defers .returning w' {b.at a' [] with mode:=.returning} cs rfl rfl rfl hf hq
  exact ⟨e',w'',fr',hR,Comes.of_steps (Steps.trans harr (.one step_end)) hs,hfn,mL hl hk⟩
 | ret=>
  obtain ⟨todo,hs₀⟩:=harr
  obtain ⟨e',w'',fr',hR,hs,hfn,hk,hl⟩:=eW a'.defers .returning w' {b.at a' todo with mode:=.returning} cs rfl rfl rfl hf hq
  exact ⟨e',w'',fr',hR,Comes.of_steps hs₀ hs,hfn,mL hl hk⟩
 | panic dX=>
  obtain ⟨todo,hs₀⟩:=harr
  obtain ⟨e',w'',fr',hR,hs,hfn,hk,hl⟩:=eW a'.defers (.panicking dX) w' {b.at a' todo with mode:=.panicking dX} cs rfl rfl rfl hf hq
  exact ⟨e',w'',fr',hR,Comes.of_steps hs₀ hs,hfn,mL hl hk⟩
 | exit id=>exact hq.elim
 | goto l=>exact hq.elim
 | outgrown=>exact hq.elim
def okA:AVal->Prop
 | .int k n=>inR k n
 | .str l=>(l.length:Int)<=9223372036854775807
 | .slice _ xs _=>(xs.length:Int)<=9223372036854775807
 | _=>True
theorem Rep.okA {M:Imm} {ob:Hs} {v:Value} {a:AVal} (h:Rep M ob v a):okA a:=by
 cases a with
 | int k n=>exact h.int_inv.2
 | str l=>exact h.str_inv.2
 | slice sz xs t=>obtain ⟨_,_,_,_,_,h⟩:=h.slice_inv;exact h
 | _=>exact trivial
def okL:List AVal->Prop
 | []=>True
 | a::r=>okA a/\okL r
theorem bV.okL {M:Imm} {ob:Hs}:∀ {vs:List Value} {as:List AVal},bV M ob vs as->okL as
 | _,[],_=>trivial
 | [],a::r,h=>by have:=h.1;simp at this
 | v::vs,a::r,h=>⟨(h.2 0 v a rfl rfl).okA,bV.okL (vs:=vs) ⟨by simpa using h.1,fun i u b hu hb=>h.2 (i+1) u b (by simpa using hu) (by simpa using hb)⟩⟩
def sH:List AObj->Bool
 | []=>true
 | o::r=>o.owns&&Aq (dK o) 0&&sH r
theorem sG:∀ {l:List AObj},sH l=true->∀ (k:Nat) o,l[k]? =some o->o.owns=true/\dK o=0
 | [],_,k,o,h=>by simp at h
 | x::r,hb,k,o,h=>by
  simp only [sH,Ag] at hb
  cases k with
  | zero=>simp at h;subst h;exact ⟨hb.1.1,aB hb.1.2⟩
  | succ k=>exact sG hb.2 k o (by simpa using h)
theorem aA.of {E:Env} {f:FuncId} {fn:Func} {args:List AVal} {obs:List AObj} {g:Goal} (hdf:E.df=[]) (hf:E.P.funcs[f]? =some fn) (hb:fn.body=some (cU fn)) (hbo:sU E.P f)
  (hco:cS fn.ntmps (cU fn)=true) (hn:Ft args.length fn.ntmps=true) (hsb:sH obs=true) (hg:obs.length=g.n0) (h:okL args->wQ E fn g (.code [.code (cU fn)] (frA 0 args) obs)) (hrd:E.rd=none:=by rfl):aA E.P f args obs g.res g.obs:=by
 intro M ob w vargs hm hr
 refine .inl ⟨hbo _ _,L9 (Q:=qI E fn M ob obs w g) hf hb (fun e a w h=>?_) ?_⟩
 .cases e<;>(try unfold qI C9 at h)<;>(try rw [hrd] at h)<;>exact h
 have hlen:vargs.length=args.length:=hr.1
 have hle:=Cf hn
 have hst:oP g ob:=by
  refine ⟨by rw [hm.len,hg],fun _ hs hmem=>?_⟩
  obtain ⟨k,hk⟩:=Ct hmem
  have hlt:k<obs.length:=by rw [<-hm.len];exact (Ab.1 hk).1
  obtain ⟨h1,h2⟩:=sG hsb k _ (Aa hlt)
  have e:=fP (Aa hlt)
  have:=hm.histLen (by rw [e];exact h1) hk
  rw [e,h2] at this
  exact this
 rw [<-hrd]
 refine h hr.okL (by simp [aZ,KI.ok,hco]) M ob obs w {tmps:=vargs.toArray++Ga (fn.ntmps-vargs.toArray.size) undef,defers:=[]} w hst ⟨M,ob,Ext.refl _ _ _ _,hm,fun t=>?_,?_,by rw [hdf];exact cG.nil,by rw [hm.len];exact Au _⟩
 .rw [BV]
  simp only [Cr,if_true,Hu]
  by_cases ht:t<args.length
  .rw [Aa ht]
   have hv:t<vargs.length:=by omega
   have:(vargs.toArray++Ga (fn.ntmps-vargs.toArray.size) undef).getD t undef=vargs[t]:=by
    rw [Bf,Gw (by simpa using hv)]
    simp [hv]
   rw [this]
   exact hr.2 t _ _ (Aa hv) (Aa ht)
  .rw [Bb (by omega)]
   exact .undef _
 .simp
  omega
theorem pC (m i:Nat):cD m i=m.testBit i:=by
 unfold cD Nat.testBit
 have h1:Nat.land (Nat.shiftRight m i) 1=(m >>> i) % 2:=La _
 have h2:(1 &&& (m >>> i))=(m >>> i) % 2:=by rw [Nat.and_comm];exact La _
 rw [h1,h2]
 rcases Nat.mod_two_eq_zero_or_one (m >>> i) with h | h<;>rw [h]<;>rfl
theorem FM {tab:List Nat} {i:Nat}:∀ {l:List Nat},cD (iM tab l) i=true↔ ∃ e∈l,e=i\/cD (cR tab e) i=true
 | []=>by rw [pC];simp [iM]
 | x::r=>by
  have ih:=FM (tab:=tab) (i:=i) (l:=r)
  rw [pC] at ih⊢
  have e:iM tab (x::r)=(1 <<< x ||| cR tab x) ||| iM tab r:=rfl
  rw [e,Nat.testBit_or,Nat.testBit_or,Nat.one_shiftLeft,Kv,Fw,Fw,ih,decide_eq_true_eq]
  constructor
  .rintro ((h | h) | ⟨e,h1,h2⟩)
   .exact ⟨x,by simp,.inl h⟩
   .exact ⟨x,by simp,.inr (by rw [pC];exact h)⟩
   .exact ⟨e,by simp [h1],h2⟩
  .rintro ⟨e,h1,h2⟩
   rcases Bd.1 h1 with rfl | h1
   .rcases h2 with h2 | h2
    .exact .inl (.inl h2)
    .rw [pC] at h2;exact .inl (.inr h2)
   .exact .inr ⟨e,h1,h2⟩
theorem BX {a b:List Nat} {j:Nat} (h:j<a.length):cR (a++b) j=cR a j:=by
 induction a generalizing j with
 | nil=>simp at h
 | cons x r ih=>
  cases j with
  | zero=>rfl
  | succ j=>exact ih (by simpa using h)
theorem aAp {a:List Nat} {m:Nat}:cR (a++[m]) a.length=m:=by
 induction a with
 | nil=>rfl
 | cons x r ih=>exact ih
theorem aAo {a:List Nat} {j:Nat} (h:a.length<=j):cR a j=0:=by
 induction a generalizing j with
 | nil=>rfl
 | cons x r ih=>
  cases j with
  | zero=>simp at h
  | succ j=>exact ih (by simpa using h)
theorem wO:∀ (l:List Oper) (tab:List Nat),∃ t,iH tab l=tab++t/\t.length=l.length
 | [],tab=>⟨[],by simp [iH],rfl⟩
 | p::r,tab=>by
  obtain ⟨t,h1,h2⟩:=wO r (tab++[iM tab (gL p)])
  exact ⟨iM tab (gL p)::t,by simp [iH,h1],by simp [h2]⟩
theorem xM {a b:List Nat}:∀ {l:List Nat},(∀ e∈l,cR a e=cR b e)->iM a l=iM b l
 | [],_=>rfl
 | x::r,h=>by
  have:=xM (l:=r) fun e he=>h e (by simp [he])
  show Nf (Nf _ (cR a x)) (iM a r)=Nf (Nf _ (cR b x)) (iM b r)
  rw [this,h x (by simp)]
theorem MI:∀ (l:List Oper) (tab:List Nat),HQ tab.length l=true->∀ (i:Nat) p,l[i]? =some p->cR (iH tab l) (tab.length+i)=iM (iH tab l) (gL p)/\∀ e∈gL p,e<tab.length+i
 | [],_,_,i,p,h=>by simp at h
 | q::r,tab,hb,i,p,h=>by
  simp only [HQ,Ag] at hb
  have hlt:∀ e∈gL q,e<tab.length:=fun e he=>by
   have:=Ch.1 hb.1 e he
   simpa [Fq] using this
  cases i with
  | zero=>
   simp at h
   subst h
   refine ⟨?_,fun e he=>by have:=hlt e he;omega⟩
   obtain ⟨t,h1,_⟩:=wO r (tab++[iM tab (gL q)])
   have e1:iH tab (q::r)=(tab++[iM tab (gL q)])++t:=h1
   rw [Dv,e1,BX (by simp),aAp]
   refine xM fun e he=>?_
   have:=hlt e he
   rw [BX (by simp;omega),BX this]
  | succ i=>
   have:=MI r (tab++[iM tab (gL q)]) (by simpa using hb.2) i p (by simpa using h)
   simp only [Aw,Mm] at this
   rw [show tab.length+(i+1)=tab.length+1+i from by omega]
   exact this
theorem J6 {p:Oper} {i:Nat}:i∈gL p↔ ∃ e∈p.after,Jp .any e=true/\e.on=i:=by
 unfold gL
 simp only [Bx,Dx]
 constructor
 .rintro ⟨e,⟨h1,h2⟩,h3⟩;exact ⟨e,by simpa using h1,h2,h3⟩
 .rintro ⟨e,h1,h2,h3⟩;exact ⟨e,⟨by simpa using h1,h2⟩,h3⟩
theorem CM {tab:List Nat} {i d:Nat}:∀ {l:List Oper} {n:Nat},LQ tab i d n l=true->∀ (j:Nat) q,l[j]? =some q->loose tab i (n+j)=true->q.dst≠some d
 | [],_,_,j,q,h,_=>by simp at h
 | x::r,n,hb,j,q,h,hl=>by
  simp only [LQ,Ag] at hb
  cases j with
  | zero=>
   simp at h
   subst h
   intro e
   have:=hb.1
   rw [e] at this
   rw [Dv] at hl
   simp [hl] at this
  | succ j=>exact CM hb.2 j q (by simpa using h) (by rw [show n+1+j=n+(j+1) from by omega];exact hl)
theorem FD {tab:List Nat} {all:List Oper}:∀ {l:List Oper} {n:Nat},aEz tab all n l=true->∀ (i:Nat) p d,l[i]? =some p->p.dst=some d->LQ tab (n+i) d 0 all=true
 | [],_,_,i,p,d,h,_=>by simp at h
 | x::r,n,hb,i,p,d,h,hd=>by
  simp only [aEz,Ag] at hb
  cases i with
  | zero=>
   simp at h
   subst h
   have:=hb.1
   rw [hd] at this
   exact this
  | succ i=>
   have:=FD hb.2 i p d (by simpa using h) hd
   rwa [show n+1+i=n+(i+1) from by omega] at this
theorem AJ (ops:Array Oper) (h:JL ops=true):TabSp ops (iH [] ops.toList):=by
 simp only [JL,Ag] at h
 obtain ⟨h1,h2⟩:=h
 have get:∀ (j:Nat) p,ops[j]? =some p->cR (iH [] ops.toList) j=iM (iH [] ops.toList) (gL p)/\∀ e∈gL p,e<j:=fun j p hp=>by
  have:=MI ops.toList [] h1 j p (by simpa using hp)
  simpa using this
 have hlen:(iH [] ops.toList).length=ops.size:=by
  obtain ⟨t,e1,e2⟩:=wO ops.toList []
  rw [e1]
  simpa using e2
 have hout:∀ j i,cD (cR (iH [] ops.toList) j) i=true->j<ops.size:=fun j i hj=>by
  refine Nat.lt_of_not_le fun hge=>?_
  rw [aAo (by rw [hlen];exact hge),pC] at hj
  simp at hj
 have hback:∀ (j:Nat) p,ops[j]? =some p->∀ e∈p.after,Jp .any e=true->e.on<j:=fun j p hp e he hb=>(get j p hp).2 _ (J6.2 ⟨e,he,hb,rfl⟩)
 have hstep:∀ (j:Nat) p,ops[j]? =some p->∀ i,cD (cR (iH [] ops.toList) j) i=true->∃ e∈p.after,Jp .any e=true/\(e.on=i\/cD (cR (iH [] ops.toList) e.on) i=true):=fun j p hp i hi=>by
  rw [(get j p hp).1] at hi
  obtain ⟨e,he,hor⟩:=FM.1 hi
  obtain ⟨ed,g1,g2,g3⟩:=J6.1 he
  subst g3
  exact ⟨ed,g1,g2,hor⟩
 have hless:∀ i j,cD (cR (iH [] ops.toList) i) j=true->j<i:=by
  intro i
  induction i using Mf with
  | ind i ih=>
   intro j hj
   have hlt:=hout i j hj
   have hp:ops[i]? =some ops[i]:=Fi hlt
   obtain ⟨e,he,hb,h | h⟩:=hstep i _ hp j hj
   .have:=hback i _ hp e he hb;omega
   .have h1:=hback i _ hp e he hb
    have:=ih e.on h1 j h
    omega
 exact ⟨hback,hless,hstep,hout,fun i j p q hp hq hl t ht=>by
  have:=FD (n:=0) h2 i p t (by simpa using hp) ht
  rw [Bn] at this
  exact CM this j q (by simpa using hq) (by rw [Bn];exact hl)⟩
inductive To (E:Env) (fn:Func) (g:Goal) (st:St):Prop
 | mk (h:wQ E fn g st)
theorem aJc (E:Env) (fn:Func) (g:Goal):To E fn g=wQ E fn g:=funext fun st=>propext ⟨fun ⟨h⟩=>h,.mk⟩
theorem dP {E:Env} {fn:Func} {g:Goal} (hE:EnvOK E) (fuel:Nat) {st:St} (h:bM E fn g (To E fn g) fuel st):To E fn g st:=by
 rw [aJc] at h⊢
 exact go hE AJ fuel st h
theorem aA.to {E:Env} {f:FuncId} {fn:Func} {args:List AVal} {obs:List AObj} {g:Goal} (hdf:E.df=[]) (hf:E.P.funcs[f]? =some fn) (hb:fn.body=some (cU fn)) (hbo:sU E.P f)
  (hco:cS fn.ntmps (cU fn)=true) (hn:Ft args.length fn.ntmps=true) (hsb:sH obs=true) (hg:obs.length=g.n0) (h:okL args->To E fn g (.code [.code (cU fn)] (frA 0 args) obs)) (hrd:E.rd=none:=by rfl):aA E.P f args obs g.res g.obs:=
 aA.of hdf hf hb hbo hco hn hsb hg (fun ho=>(h ho).rec fun h=>h) hrd
def zvL (f:Value->AVal):List Value->List AVal
 | []=>[]
 | v::r=>f v::zvL f r
def zv:Nat->Value->AVal
 | n+1,.agg vs=>.agg (zvL (zv n) vs.toList)
 | _,v=>aEJ v
theorem PO {M:Imm} {ob:Hs} {f:Value->AVal} (hf:∀ v,Rep M ob v (f v)):∀ (l:List Value),l.length=(zvL f l).length/\∀ (i:Nat) v a,l[i]? =some v->(zvL f l)[i]? =some a->Rep M ob v a
 | []=>⟨rfl,fun i v a h=>by simp at h⟩
 | x::l=>by
  obtain ⟨h1,h2⟩:=PO hf l
  refine ⟨by simp [zvL,h1],fun i v a hv ha=>?_⟩
  cases i with
  | zero=>simp [zvL] at hv ha;subst hv ha;exact hf x
  | succ i=>exact h2 i v a (by simpa using hv) (by simpa [zvL] using ha)
theorem aFI {M:Imm} {ob:Hs}:∀ (n:Nat) (v:Value),Rep M ob v (zv n v):=by
 intro n
 induction n with
 | zero=>intro v;exact pY v
 | succ n ih=>
  intro v
  cases v with
  | agg vs=>
   obtain ⟨h1,h2⟩:=PO (M:=M) (ob:=ob) ih vs.toList
   have:=Rep.agg vs.toList _ h1 h2
   simpa [zv] using this
  | _=>exact pY _
def L8 (P:Program):Nat->Nat->List (Option Nat)
 | 0,_=>[]
 | n+1,t=>match P.underlying t with
  | some (.struct fs)=>fs.toList.flatMap fun f=>L8 P n f.type
  | some (.array len e)=>(Ah len (L8 P n e)).flatten
  | some (.slice e)=>[some (((P.info? e).map (·.size)).getD 0)]
  | _=>[none]
def aB6:Option Nat->AVal->AVal
 | some sz,.nilslice=>.slice sz [] .nil
 | _,v=>v
def tyZ:List (Option Nat)->List AVal->List AVal
 | k::ks,c::cs=>aB6 k c::tyZ ks cs
 | _,cs=>cs
def zT (P:Program) (t:Nat) (z:Value):AVal:=match zv 4 z with
 | .agg cs=>.agg (tyZ (L8 P 6 t) cs)
 | v=>aB6 (match L8 P 6 t with | k::_=>k | []=>none) v
theorem IM {M:Imm} {ob:Hs} {k:Option Nat} {v:Value} {a:AVal} (h:Rep M ob v a):Rep M ob v (aB6 k a):=by
 unfold aB6
 split
 .cases h;exact .slnil _ _ rfl
 .exact h
theorem P1 {M:Imm} {ob:Hs}:∀ {ks:List (Option Nat)} {cs:List AVal} {vs:List Value},bV M ob vs cs->bV M ob vs (tyZ ks cs)
 | [],cs,vs,h=>by cases cs<;>exact h
 | k::ks,[],vs,h=>h
 | k::ks,c::cs,[],h=>by have:=h.1;simp at this
 | k::ks,c::cs,v::vs,h=>bV.cons (IM (h.2 0 v c rfl rfl)) (P1 ⟨by simpa using h.1,fun i u b hu hb=>h.2 (i+1) u b (by simpa using hu) (by simpa using hb)⟩)
theorem aFJ {M:Imm} {ob:Hs} {P:Program} {t:Nat} {z:Value}:Rep M ob z (zT P t z):=by
 have h:=aFI (M:=M) (ob:=ob) 4 z
 unfold zT
 split
 .rename_i cs heq
  rw [heq] at h
  obtain ⟨vs,rfl,h1,h2⟩:=h.agg_inv
  obtain ⟨g1,g2⟩:=P1 (ks:=L8 P 6 t) ⟨h1,h2⟩
  exact .agg vs _ g1 g2
 .exact IM h
def pF (P:Program) (t:Nat):Nat:=((P.info? t).map (·.size)).getD 0
def mkF (P:Program) (f:Field):Nat×Nat×Bool:=(f.offset,pF P f.type,aK P f.type)
def aGQ (P:Program):List Field->List (Nat×Nat×Bool)
 | []=>[]
 | f::r=>mkF P f::aGQ P r
def G4 (P:Program) (t:Nat):Bool:=(P.info? t).isSome&&(P.underlying t).isSome
def fsB (P:Program):List Field->Bool
 | []=>true
 | f::r=>G4 P f.type&&fsB P r
def GX (P:Program) (t:Nat):TK:=match P.underlying t with
 | some (.int k)=>.int k
 | some .bool=>.bool
 | some .string=>.str
 | some (.struct fs)=>.strct (aGQ P fs.toList)
 | some (.array n e)=>.arr n (pF P e) (aK P e)
 | some (.slice e)=>.slc e (pF P e) (((P.info? e).map (·.bytes)).getD 0)
 | some (.pointer e)=>.ptr e
 | some (.interface _)=>.iface
 | some (.map k e)=>.mp k e
 | _=>.other
def aDy (P:Program) (t:Nat):TI:=match P.info? t with
 | some i=>⟨GX P t,i.size,aK P t,match i.zero with | some z=>zT P t z | none=>.undef⟩
 | none=>⟨.other,0,false,.undef⟩
def PR (P:Program) (t:Nat):Bool:=match P.info? t with
 | some i=>(match i.zero with
  | some z=>Aq z.cells.size i.size&&(z.cells.toList.all (·.oneCell')&&BA (zT P t z))
  | none=>false)
 | none=>false
def aIW (P:Program) (e:Nat):Bool:=PR P e
def okB (P:Program) (t:Nat):Bool:=PR P t&&match P.underlying t with
 | some (.int _) | some .bool | some .string | some (.pointer _) | some (.interface _) | some (.map _ _)=>Aq (pF P t) 1
 | some (.struct fs)=>fsB P fs.toList
 | some (.array _ e)=>G4 P e
 | some (.slice e)=>Aq (pF P t) 1&&aIW P e
 | some _=>true
 | none=>false
theorem Q4 (P:Program):∀ (l:List Field),fsB P l=true->nP P l (aGQ P l)
 | [],_=>trivial
 | f::r,h=>by
  simp only [fsB,Ag,G4] at h
  obtain ⟨⟨h1,h2⟩,h3⟩:=h
  obtain ⟨i,hi⟩:=Dc.1 h1
  exact ⟨rfl,by simp [pF,hi],h2,rfl,Q4 P r h3⟩
theorem zI {P:Program} {t:Nat} (h:PR P t=true):∃ i z,P.info? t=some i/\i.zero=some z/\z.cells.size=i.size/\z.cells.toList.all (·.oneCell')=true/\zT P t z≠ .undef:=by
 unfold PR at h
 split at h
 .rename_i i hi
  split at h
  .rename_i z hz
   simp only [Ag] at h
   obtain ⟨h1,h2,h3⟩:=h
   exact ⟨i,z,hi,hz,aB h1,h2,yM h3⟩
  .cases h
 .cases h
theorem aDx {P:Program} {t:Nat} (h:okB P t=true):TIOK P t (aDy P t):=by
 simp only [okB,Ag] at h
 obtain ⟨h0,h1⟩:=h
 obtain ⟨i,z,hi,hz,hs,hone,hne⟩:=zI h0
 have hm:aDy P t=⟨GX P t,i.size,aK P t,zT P t z⟩:=by simp [aDy,hi,hz]
 have hst:pF P t=i.size:=by simp [pF,hi]
 rw [hm]
 refine ⟨⟨i,z,hi,rfl,hz,hs,aFJ,hone,hne⟩,?_⟩
 show sT P t (aK P t) i.size (GX P t)
 unfold GX
 have ag:∀ d,P.underlying t=some d->aK P t=match d with | .struct _ | .array _ _=>true | _=>false:=fun d hd=>by unfold aK;rw [hd];cases d<;>rfl
 split at h1
 .rename_i k hu;rw [hu];exact ⟨hu,ag _ hu,by rw [<-hst];exact aB h1⟩
 .rename_i hu;rw [hu];exact ⟨hu,ag _ hu,by rw [<-hst];exact aB h1⟩
 .rename_i hu;rw [hu];exact ⟨hu,ag _ hu,by rw [<-hst];exact aB h1⟩
 .rename_i e hu;rw [hu];exact ⟨hu,ag _ hu,by rw [<-hst];exact aB h1⟩
 .rename_i ms hu;rw [hu];exact ⟨⟨ms,hu⟩,ag _ hu,by rw [<-hst];exact aB h1⟩
 .rename_i mk me hu;rw [hu];exact ⟨hu,ag _ hu,by rw [<-hst];exact aB h1⟩
 .rename_i fs hu;rw [hu];exact ⟨⟨fs,hu,Q4 P _ h1⟩,ag _ hu⟩
 .rename_i n e hu
  rw [hu]
  simp only [G4,Ag] at h1
  obtain ⟨j,hj⟩:=Dc.1 h1.1
  exact ⟨⟨e,hu,by simp [pF,hj],h1.2,rfl⟩,ag _ hu⟩
 .rename_i e hu
  rw [hu]
  simp only [Ag] at h1
  obtain ⟨j,y,hj,hy,hys,hyo,_⟩:=zI h1.2
  exact ⟨⟨hu,j,y,hj,by simp [pF,hj],by simp [hj],hy,by simp [pF,hj,hys],hyo⟩,ag _ hu,by rw [<-hst];exact aB h1.1⟩
 .rename_i d k1 k2 k3 k4 k5 k6 k7 k8 k9 hu
  rw [hu]
  have hd:∀ (α:Type) (x y:α),True:=fun _ _ _=>trivial
  cases d<;>first
   | exact ⟨⟨_,hu,fun ms e=>by cases e⟩,rfl⟩
   | (exfalso;simp_all;done)
 .cases h1
def Q3 (P:Program):List Nat->Tab
 | []=>[]
 | t::r=>(t,aDy P t)::Q3 P r
def aCh (P:Program):List Nat->Bool
 | []=>true
 | t::r=>okB P t&&aCh P r
def Z8:Tab->List Nat
 | []=>[]
 | (t,_)::r=>t::Z8 r
theorem KH {P:Program}:∀ {l:List Nat},aCh P l=true->∀ t ti,cH (Q3 P l) t=some ti->TIOK P t ti
 | [],_,t,ti,h=>by cases h
 | x::r,hb,t,ti,h=>by
  simp only [aCh,Ag] at hb
  simp only [Q3,cH] at h
  cases hx:Aq x t with
  | true=>
   rw [hx] at h
   cases h
   rw [<-aB hx]
   exact aDx hb.1
  | false=>rw [hx] at h;exact KH hb.2 t ti h
theorem MY {P:Program} {T:Tab} (h1:Q3 P (Z8 T)=T) (h2:aCh P (Z8 T)=true):∀ t ti,cH T t=some ti->TIOK P t ti:=by
 intro t ti h
 rw [<-h1] at h
 exact KH h2 t ti h
theorem oC (fr:List (Nat×AVal)) (t:Nat):∀ (keep:List Nat),aS (lR keep fr) t=aS fr t\/aS (lR keep fr) t= .undef
 | []=>.inr rfl
 | k::r=>by
  simp only [lR,aS]
  cases h:Aq k t with
  | true=>left;rw [aB h];rfl
  | false=>exact oC fr t r
theorem SS.weak {M0:Imm} {ob0:Hs} {obs0:List AObj} {w0:World} {sz:Nat} {dfs:List (Nat×List AVal)} {fr fr2:List (Nat×AVal)} {obs:List AObj} {a:Act} {w:World} (hw:∀ t,aS fr2 t=aS fr t\/aS fr2 t= .undef) (h:SS M0 ob0 obs0 w0 sz dfs fr obs a w):
  SS M0 ob0 obs0 w0 sz dfs fr2 obs a w:=by
 obtain ⟨M,ob,hx,hm,hf,r⟩:=h
 refine ⟨M,ob,hx,hm,fun t=>?_,r⟩
 rcases hw t with e | e
 .rw [e];exact hf t
 .rw [e];exact .undef _
theorem cX.weak {E:Env} {fn:Func} {g:Goal} {ks:List KI} {fr fr2:List (Nat×AVal)} {obs:List AObj} (hw:∀ t,aS fr2 t=aS fr t\/aS fr2 t= .undef) (h:cX E fn g ks fr2 obs):cX E fn g ks fr obs:=
 fun ho M0 ob0 obs0 w0 a w hst hs=>h ho M0 ob0 obs0 w0 a w hst (hs.weak hw)
theorem cX.keep {E:Env} {fn:Func} {g:Goal} {ks:List KI} {fr:List (Nat×AVal)} {obs:List AObj} (l:List Nat) (h:cX E fn g ks (lR l fr) obs):cX E fn g ks fr obs:=h.weak fun t=>oC fr t l
theorem To.head {E:Env} {fn:Func} {g:Goal} {ks:List KI} {fr:List (Nat×AVal)} {obs:List AObj} (l:List Nat) (h:To E fn g (.head ks (lR l fr) obs)):To E fn g (.head ks fr obs):=h.rec fun h=>.mk (cX.keep l h)
abbrev C3:=IntKind×Int×Int
def vA (cs:List C3):List Value:=cs.map fun c=>.int c.1 c.2.1
def vB (cs:List C3):List Value:=cs.map fun c=>.int c.1 c.2.2
def oH:List C3->Bool
 | []=>true
 | c::r=>(c.2.1==c.2.2)&&oH r
theorem xO (a b:List C3):oH (a++b)=(oH a&&oH b):=by
 induction a with
 | nil=>simp [oH]
 | cons c r ih=>simp [oH,ih,Ej]
def lT (P:Program) (t:TypeId) (l:List Value):Value:=if aK P t then .agg l.toArray else l.headD undef
def uS (P:Program) (fa:TypeId->Bool):Nat->List Field->Nat->Bool
 | off,[],total=>Aq off total
 | off,f::fs,total=>((f.name != "_")&&Aq f.offset off)&&((fa f.type&&(P.info? f.type).isSome)&&uS P fa (off+P.cellsOf f.type) fs total)
def fC (P:Program):Nat->TypeId->Bool
 | 0,_=>false
 | m+1,t=>match P.underlying t with
  | some (.int _)=>Aq (P.cellsOf t) 1
  | some (.array n e)=>(fC P m e&&(P.info? e).isSome)&&Aq (P.cellsOf t) (n*P.cellsOf e)
  | some (.struct fs)=>!P.stoodInHeld t&&uS P (fC P m) 0 fs.toList (P.cellsOf t)
  | _=>false
def EqI (P:Program) (d:Nat) (t:TypeId):Prop:=∀ (w:World) (cs:List C3),cs.length=P.cellsOf t->(Op.equalIn d t (lT P t (vA cs)) (lT P t (vB cs))).run P w= .ok (oH cs) w
section
variable {P:Program} (w:World)
theorem oD {m:Nat} {t:TypeId} (h:fC P m t=true):(P.underlying t).isSome=true/\(aK P t=false->P.cellsOf t=1):=by
 cases m with
 | zero=>cases h
 | succ m=>
  unfold fC at h
  unfold aK
  split at h
  .rename_i hu;rw [hu];exact ⟨rfl,fun _=>aB h⟩
  .rename_i hu;rw [hu];exact ⟨rfl,fun h=>by cases h⟩
  .rename_i hu;rw [hu];exact ⟨rfl,fun h=>by cases h⟩
  .cases h
theorem jA {e:TypeId} (hu:(P.underlying e).isSome=true) (hi:(P.info? e).isSome=true) (h1:aK P e=false->P.cellsOf e=1) (l:List Value) (off:Nat) (hoff:off+P.cellsOf e<=l.length):
  (part e l.toArray off).run P w= .ok (lT P e ((l.drop off).take (P.cellsOf e))) w:=by
 unfold part
 simp only [Az,vF hu,Ak]
 unfold lT
 obtain ⟨i,hi'⟩:=Dc.1 hi
 have hsz:(P.info? e).map (·.size)=some (P.cellsOf e):=by simp [Program.cellsOf,hi']
 cases ha:aK P e with
 | true=>
  simp only [if_true,Az,AW.run_sizeOf hsz,Ak,Bh]
  simp [Lh]
 | false=>
  have hc:=h1 ha
  have hlt:off<l.length:=by omega
  simp only [Db,if_false]
  simp only [Ju,Aa hlt,Bh]
  rw [hc]
  congr 1
  rw [Ad hlt]
  rfl
theorem FV (cs:List C3):(vA cs).length=cs.length:=by simp [vA]
theorem aFP (cs:List C3):(vB cs).length=cs.length:=by simp [vB]
theorem MR (cs:List C3) (o n:Nat):((vA cs).drop o).take n=vA ((cs.drop o).take n):=by simp [vA,Ja,Iz]
theorem aFQ (cs:List C3) (o n:Nat):((vB cs).drop o).take n=vB ((cs.drop o).take n):=by simp [vB,Ja,Iz]
theorem I7 {d m:Nat} {e:TypeId} (hf:fC P m e=true) (hi:(P.info? e).isSome=true) (IH:EqI P d e) (cs:List C3) (off:Nat) (hoff:off+P.cellsOf e<=cs.length):
  ∃ a b,(part e (vA cs).toArray off).run P w= .ok a w/\(part e (vB cs).toArray off).run P w= .ok b w/\(Op.equalIn d e a b).run P w= .ok (oH ((cs.drop off).take (P.cellsOf e))) w:=by
 obtain ⟨hu,h1⟩:=oD hf
 refine ⟨_,_,jA w hu hi h1 _ _ (by rw [FV];exact hoff),jA w hu hi h1 _ _ (by rw [aFP];exact hoff),?_⟩
 rw [MR,aFQ]
 exact IH w _ (by simp;omega)
theorem take_add (cs:List C3) (o a b:Nat):(cs.drop o).take (a+b)=(cs.drop o).take a++(cs.drop (o+a)).take b:=by
 rw [List.take_add,Ii]
theorem TH {d m:Nat} {e:TypeId} (hf:fC P m e=true) (hi:(P.info? e).isSome=true) (IH:EqI P d e) (cs:List C3):∀ (n k:Nat),(k+n)*P.cellsOf e<=cs.length->
  (Op.eqItems d e (P.cellsOf e) (vA cs).toArray (vB cs).toArray (Mp k n)).run P w= .ok (oH ((cs.drop (k*P.cellsOf e)).take (n*P.cellsOf e))) w:=by
 intro n
 induction n with
 | zero=>intro k _;simp [Op.eqItems,oH]
 | succ n ih=>
  intro k hk
  have hk1:(k+1)*P.cellsOf e<=(k+(n+1))*P.cellsOf e:=Bz _ (by omega)
  have hk2:(k+1)*P.cellsOf e=k*P.cellsOf e+P.cellsOf e:=by rw [Bw,Fx]
  obtain ⟨a,b,p1,p2,p3⟩:=I7 w hf hi IH cs (k*P.cellsOf e) (by omega)
  have ih':=ih (k+1) (by rw [show k+1+n=k+(n+1) from by omega];exact hk)
  have hn:(n+1)*P.cellsOf e=P.cellsOf e+n*P.cellsOf e:=by rw [Bw,Fx,Na]
  rw [hn,take_add,xO,<-hk2]
  simp only [Lt,Op.eqItems,Az,p1,p2,p3,Ak]
  cases oH ((cs.drop (k*P.cellsOf e)).take (P.cellsOf e)) with
  | true=>simpa using ih'
  | false=>simp
theorem NA {d m:Nat} (IH:∀ t,fC P m t=true->EqI P d t) (cs:List C3):∀ (fs:List Field) (off:Nat),uS P (fC P m) off fs cs.length=true->
  (Op.eqFields d (vA cs).toArray (vB cs).toArray fs).run P w= .ok (oH (cs.drop off)) w/\off<=cs.length:=by
 intro fs
 induction fs with
 | nil=>
  intro off h
  have:=aB h
  subst this
  exact ⟨by simp [Op.eqFields,oH],Au _⟩
 | cons f fs ih=>
  intro off h
  simp only [uS,Ag] at h
  obtain ⟨⟨h1,h2⟩,⟨h3,h4⟩,h5⟩:=h
  obtain ⟨ih1,ih2⟩:=ih _ h5
  have hoff:=aB h2
  obtain ⟨a,b,p1,p2,p3⟩:=I7 w h3 h4 (IH _ h3) cs f.offset (by omega)
  refine ⟨?_,by omega⟩
  have hd:cs.drop off=(cs.drop off).take (P.cellsOf f.type)++cs.drop (off+P.cellsOf f.type):=by rw [<-Ii,Bv]
  rw [hd,xO]
  have hne:f.name≠ "_" :=by simpa using h1
  simp only [Op.eqFields,hne,ne_eq,not_false_eq_true,if_true,Az,p1,p2,p3,Ak]
  rw [hoff] at *
  cases oH ((cs.drop off).take (P.cellsOf f.type)) with
  | true=>simpa using ih1
  | false=>simp
end
theorem OJ {P:Program} (d:Nat):∀ (m:Nat) (t:TypeId),fC P m t=true->EqI P (d+m) t
 | 0,_,h=>by cases h
 | m+1,t,h=>by
  intro w cs hlen
  have IH:∀ t,fC P m t=true->EqI P (d+m) t:=fun t h=>OJ d m t h
  unfold fC at h
  split at h
  .rename_i k hu
   have hag:aK P t=false:=by unfold aK;rw [hu]
   have h1:=aB h
   rw [h1] at hlen
   match cs,hlen with
   | [(k',a,b)],_=>
    simp only [lT,hag,vA,vB,Bk,List.map_nil,List.headD_cons,Db,if_false,oH,Iy]
    exact run_equalIn_int w (d+m) t k' k a b hu
  .rename_i n e hu
   simp only [Ag] at h
   obtain ⟨⟨h1,h2⟩,h3⟩:=h
   have hag:aK P t=true:=by unfold aK;rw [hu]
   obtain ⟨i,hi⟩:=Dc.1 h2
   have hc:=aB h3
   simp only [lT,hag,if_true]
   rw [show d+(m+1)=(d+m)+1 from rfl,run_equalIn_array w (d+m) _ _ hu hi,Kh,TH w h1 h2 (IH e h1) cs n 0 (by rw [Bn];omega)]
   rw [Im,Bt,Cl (by omega)]
  .rename_i fs hu
   simp only [Ag,Ef] at h
   obtain ⟨h1,h2⟩:=h
   have hag:aK P t=true:=by unfold aK;rw [hu]
   have hfs:P.fieldsOf t=fs:=by simp [Program.fieldsOf,hu]
   simp only [lT,hag,if_true]
   rw [<-hlen] at h2
   rw [show d+(m+1)=(d+m)+1 from rfl,run_equalIn_struct w (d+m) t _ _ (by rw [hfs];exact hu) h1,hfs]
   simpa using (NA w IH cs fs.toList 0 h2).1
  .cases h
theorem aBu:∀ {xs ys:List AVal} {c:Bool} {vs us:List Value},ceq xs ys=some c->bV (fun _ _ _=>False) [] vs xs->bV (fun _ _ _=>False) [] us ys->∃ cs:List C3,vs=vA cs/\us=vB cs/\c=oH cs
 | [],[],c,vs,us,h,h1,h2=>by
  cases h
  have e1:vs=[]:=by simpa using h1.1
  have e2:us=[]:=by simpa using h2.1
  exact ⟨[],by simp [vA,e1],by simp [vB,e2],rfl⟩
 | x::xs,y::ys,c,vs,us,h,h1,h2=>by
  cases x<;>first | (simp [ceq] at h;done) | skip
  cases y<;>first | (simp [ceq] at h;done) | skip
  rename_i k a k' b
  simp only [ceq] at h
  obtain ⟨hk,h3⟩:=dS h
  have:=tY hk
  subst this
  cases hr:ceq xs ys with
  | none=>rw [hr] at h3;cases h3
  | some c'=>
   rw [hr] at h3
   cases h3
   match vs,us,h1,h2 with
   | v::vs,u::us,h1,h2=>
    have hv:=(h1.2 0 v _ rfl rfl).int_inv.1
    have hu:=(h2.2 0 u _ rfl rfl).int_inv.1
    subst hv hu
    obtain ⟨cs,e1,e2,e3⟩:=aBu (vs:=vs) (us:=us) hr ⟨by simpa using h1.1,fun i v a hv ha=>h1.2 (i+1) v a (by simpa using hv) (by simpa using ha)⟩ ⟨by simpa using h2.1,fun i v a hv ha=>h2.2 (i+1) v a (by simpa using hv) (by simpa using ha)⟩
    exact ⟨(k,a,b)::cs,by simp [vA,e1],by simp [vB,e2],by simp [oH,e3]⟩
 | [],_::_,c,vs,us,h,_,_=>by cases h
 | x::_,[],c,vs,us,h,_,_=>by cases x<;>cases h
theorem NB {P:Program} (w:World) {em:Bool} {d m:Nat} (IH:∀ (e:TypeId),fC P m e=true->∀ (w:World) (cs:List C3),cs.length=P.cellsOf e->(Ho em d e (lT P e (vA cs))).run P w= .ok () w) (cs:List C3) {e:TypeId} (hf:fC P m e=true) (hi:(P.info? e).isSome=true):
  ∀ (is:List Nat),(∀ i∈is,(i+1)*P.cellsOf e<=cs.length)->
  (forIn (m:=Sem) is PUnit.unit fun i _=>(do Ho em d e (<-part e (vA cs).toArray (i*(<-sizeOf e)));Pure.pure (ForInStep.yield PUnit.unit))).run P w= .ok PUnit.unit w:=by
 intro is
 obtain ⟨i0,hi0⟩:=Dc.1 hi
 have hsz:(P.info? e).map (·.size)=some (P.cellsOf e):=by simp [Program.cellsOf,hi0]
 obtain ⟨hu,h1⟩:=oD hf
 induction is with
 | nil=>intro _;simp
 | cons j is ih=>
  intro h
  have hj:=h j (by simp)
  rw [Bw,Fx] at hj
  have p1:=jA w hu hi h1 (vA cs) (j*P.cellsOf e) (by rw [FV];exact hj)
  rw [MR] at p1
  have p2:=IH e hf w ((cs.drop (j*P.cellsOf e)).take (P.cellsOf e)) (by simp;omega)
  simp only [List.forIn_cons,Az,AW.run_sizeOf hsz,Ak,p1,p2,Bh]
  exact ih fun i hi=>h i (by simp [hi])
theorem aBm {P:Program} (em:Bool) (d:Nat):∀ (m:Nat) (t:TypeId),fC P m t=true->∀ (w:World) (cs:List C3),cs.length=P.cellsOf t->(Ho em (d+m) t (lT P t (vA cs))).run P w= .ok () w
 | 0,_,h=>by cases h
 | m+1,t,h=>by
  intro w cs hlen
  have IH:=aBm (P:=P) em d m
  unfold fC at h
  rw [show d+(m+1)=(d+m)+1 from rfl,Ho]
  split at h
  .rename_i k hu
   have hag:aK P t=false:=by unfold aK;rw [hu]
   have h1:=aB h
   rw [h1] at hlen
   match cs,hlen with
   | [(k',a,b)],_=>
    simp [lT,hag,vA,run_underlying hu]
  .rename_i n e hu
   simp only [Ag] at h
   obtain ⟨⟨h1,h2⟩,h3⟩:=h
   have hag:aK P t=true:=by unfold aK;rw [hu]
   have hc:=aB h3
   simp only [lT,hag,if_true,Az,run_underlying hu,Ak]
   simp only [Std.Legacy.Range.forIn_eq_forIn_range',Std.Legacy.Range.size,Hu,Nat.add_one_sub_one,Hr]
   have:=NB w IH cs h1 h2 (Mp 0 n) (fun i hi=>by
    have:i<n:=by simpa using hi
    have:(i+1)*P.cellsOf e<=n*P.cellsOf e:=Bz _ this
    omega)
   simp at this⊢
   rw [this]
   rfl
  .rename_i fs hu
   simp only [Ag,Ef] at h
   obtain ⟨h1,h2⟩:=h
   have hag:aK P t=true:=by unfold aK;rw [hu]
   simp only [lT,hag,if_true,Az,run_underlying hu,Ak]
   rw [<-Array.forIn_toList]
   rw [<-hlen] at h2
   have key:∀ (L:List Field) (off:Nat),uS P (fC P m) off L cs.length=true→off≤cs.length∧∀ f∈L,f.name≠ "_" ∧fC P m f.type=true∧(P.info? f.type).isSome=true∧f.offset+P.cellsOf f.type≤cs.length:=by
    intro L
    induction L with
    | nil=>
     intro off h
     have:=aB h
     exact ⟨by omega,fun f hf=>by cases hf⟩
    | cons f L ih=>
     intro off h
     simp only [uS,Ag] at h
     obtain ⟨⟨g1,g2⟩,⟨g3,g4⟩,g5⟩:=h
     obtain ⟨i1,i2⟩:=ih _ g5
     have hoff:=aB g2
     refine ⟨by omega,fun f' hf'=>?_⟩
     rcases Bd.1 hf' with rfl | hf'
     .exact ⟨by simpa using g1,g3,g4,by omega⟩
     .exact i2 f' hf'
   have each:=(key fs.toList 0 h2).2
   clear key h2
   generalize fs.toList=L at each
   induction L with
   | nil=>simp
   | cons f L ih=>
    obtain ⟨g1,g2,g3,g4⟩:=each f (by simp)
    obtain ⟨hu',h1'⟩:=oD g2
    have p1:=jA w hu' g3 h1' (vA cs) f.offset (by rw [FV];exact g4)
    rw [MR] at p1
    have p2:=IH f.type g2 w ((cs.drop f.offset).take (P.cellsOf f.type)) (by simp;omega)
    simp only [List.forIn_cons,Az,g1,ne_eq,not_false_eq_true,if_true,Ak,p1,p2,Bh]
    exact ih fun y hy=>each y (by simp [hy])
  .cases h
theorem aGZ (a b:List Int) (h:a.length=b.length):∃ cs:List C3,cs.length=a.length/\fG true a= .agg (vA cs).toArray/\fG true b= .agg (vB cs).toArray/\oH cs=decide (a=b):=by
 refine ⟨(a.zip b).map fun p=>(.i64,p.1,p.2),by simp;omega,?_,?_,?_⟩
 .simp only [fG,vA,if_true,Fg]
  congr 2
  have:(a.zip b).map Lu=a:=List.map_fst_zip (by omega)
  conv=>lhs;rw [<-this]
  simp [Ng]
 .simp only [fG,vB,if_true,Fg]
  congr 2
  have:(a.zip b).map Prod.snd=b:=List.map_snd_zip (by omega)
  conv=>lhs;rw [<-this]
  simp [Ng]
 .induction a generalizing b with
  | nil=>
   cases b with
   | nil=>rfl
   | cons y b=>cases h
  | cons x a ih=>
   cases b with
   | nil=>cases h
   | cons y b=>
    simp only [List.zip_cons_cons,Bk,oH]
    rw [ih b (by simpa using h)]
    by_cases hx:x=y
    .subst hx;simp
    .simp [hx]
def aAy (P:Program) (t n:Nat):Bool:=(aK P t&&fC P 8 t)&&(!P.eqGuardType P.depth t&&Aq (P.cellsOf t) n)
theorem aAx {P:Program} {t n:Nat} (h:aAy P t n=true):PL P t n:=by
 simp only [aAy,Ag,Ef] at h
 obtain ⟨⟨h1,h2⟩,h3,h4⟩:=h
 have hn:=aB h4
 refine And.symm ⟨fun w a b ha hb=>?_,?_⟩
 .obtain ⟨cs,e0,e1,e2,e3⟩:=aGZ a b (by omega)
  have g1:=OJ 9992 8 t h2 w cs (by omega)
  have g2:=fun em=>aBm em 9992 8 t h2 w cs (by omega)
  simp only [lT,h1,if_true] at g1 g2
  rw [e1,e2,<-e3]
  exact ⟨g1,g2⟩
 intro w x y xs ys vs us c hq hlen hv hu
 obtain ⟨cs,rfl,rfl,rfl⟩:=aBu hq hv hu
 refine ⟨fun op=>run_eqGuard_agg w op t x y _ _ h3,?_⟩
 have hl:cs.length=P.cellsOf t:=by
  have:=hv.1
  rw [FV] at this
  omega
 have:=OJ 9992 8 t h2 w cs hl
 simp only [lT,h1,if_true] at this
 exact this
def OB (P:Program):List (Nat×Nat)->Bool
 | []=>true
 | (t,n)::r=>aAy P t n&&OB P r
theorem LE {P:Program}:∀ {l:List (Nat×Nat)},OB P l=true->∀ t,0<yB l t->PL P t (yB l t)
 | [],_,t,h=>by cases h
 | (i,n)::r,hb,t,h=>by
  simp only [OB,Ag] at hb
  simp only [yB] at h⊢
  cases hx:Aq i t with
  | true=>
   rw [hx] at h
   rw [<-aB hx]
   exact aAx hb.1
  | false=>rw [hx] at h;exact LE hb.2 t h
def xP (P:Program) (mt:aBO):Prop:=∀ t name g,ZS mt t name=some g->∀ v w,(method (P.types.size+Made.depth) t v name).run P w= .ok (g,v) w
theorem xP.nil {P:Program}:xP P []:=fun t name g h=>by cases h
theorem xP.cons {P:Program} {i f:Nat} {s:String} {mt:aBO} (h:∀ v w,(method (P.types.size+Made.depth) i v s).run P w= .ok (f,v) w) (k:xP P mt):xP P ((i,s,f)::mt):=by
 intro t name g hg
 simp only [ZS] at hg
 cases hq:(Aq i t&&s==name) with
 | false=>rw [hq] at hg;exact k t name g hg
 | true=>
  rw [hq] at hg
  cases hg
  obtain ⟨h1,h2⟩:=aR hq
  have h1:=aB h1
  have h2:s=name:=by simpa using h2
  subst h1 h2
  exact h
section
variable {E:Env} {fn:Func} {g:Goal} {M0:Imm} {ob0:Hs} {obs0:List AObj} {w0:World} {sz:Nat} {dfs:List (Nat×List AVal)} {fr:List (Nat×AVal)} {obs:List AObj} {a:Act} {w:World}
theorem SS.cap {t k i es:Nat} {e:TypeId} {xs:List AVal} (h1:aS fr t= .row k i) (h2:aE obs k= .row i es e xs) (h:SS M0 ob0 obs0 w0 sz dfs fr obs a w):
  ∃ c,xs.length<=c/\c<=maxLen/\SS M0 ob0 obs0 w0 sz dfs (gK fr t (.rowc k i c)) obs a w:=by
 obtain ⟨M,ob,hx,hm,hf,r⟩:=h
 have hr:=hf t
 rw [h1] at hr
 obtain ⟨ad,n,c,hv,hat⟩:=hr.row_inv
 obtain ⟨hs',v,e1,e2,e3,e4,e5,_⟩:=hm.rowOf (bA h2 (by simp))
 rw [hat] at e4
 cases e4
 have hc:xs.length<=c/\c<=maxLen:=by
  rcases e5.len with ⟨q,rfl⟩ | ⟨b,c',q1,_,q3,q4⟩
  .cases q;exact ⟨Au _,Cr _⟩
  .cases q1;exact ⟨q3,q4⟩
 refine ⟨c,hc.1,hc.2,M,ob,hx,hm,fun t'=>?_,r⟩
 rw [qU]
 split
 .rename_i e
  subst e
  rw [hv]
  have:=fR
  exact .rowc k i c ad n hat (by omega)
 .exact hf t'
theorem To.cap {ks:List KI} {t k i es:Nat} {e:TypeId} {xs:List AVal} (h1:aS fr t= .row k i) (h2:aE obs k= .row i es e xs)
  (h:∀ c,xs.length<=c->c<=maxLen->To E fn g (.code ks (gK fr t (.rowc k i c)) obs)):To E fn g (.code ks fr obs):=
 .mk fun ho M0 ob0 obs0 w0 a w hst hs=>by
  obtain ⟨c,c1,c2,hs'⟩:=hs.cap h1 h2
  exact (h c c1 c2).rec fun h=>h ho M0 ob0 obs0 w0 a w hst hs'
theorem Mem.become {M:Imm} {ob:Hs} (hm:Mem M ob obs w) {j k i es es':Nat} {e e':TypeId} {xs ys:List AVal} (hjk:j≠k) (h1:obs[j]? =some (.row i es e xs)) (h2:obs[k]? =some (.row 0 es' e' ys)) {v:Value} (hv:at' ob k 0=some v):
  ∃ ob',Mem M ob' ((obs.set j (.row (i+1) es' e' ys)).set k .dead) w/\Ext M ob obs w M ob' ((obs.set j (.row (i+1) es' e' ys)).set k .dead) w/\at' ob' j (i+1)=some v:=by
 obtain ⟨hs0,v0,e1,e2,e3,e4,hrow,hblk⟩:=hm.rowOf h1
 obtain ⟨hs1,v1,f1,f2,f3,f4,hrow1,hblk1⟩:=hm.rowOf h2
 rw [hv] at f4
 cases f4
 have hjl:j<ob.length:=(Ab.1 e1).1
 have hjo:j<obs.length:=(Ab.1 h1).1
 have hko:k<obs.length:=(Ab.1 h2).1
 have hnew:(ob.set j (hs0++[v]))[j]? =some (hs0++[v]):=Ao hjl
 have hold:∀ {i:Nat},i≠j->(ob.set j (hs0++[v]))[i]? =ob[i]?:=fun {i} h=>Ax (Eh h)
 have hle:cW ob (ob.set j (hs0++[v])):=fun i' hs hi=>by
  by_cases hij:i'=j
  .subst hij
   rw [e1] at hi
   cases hi
   exact ⟨_,hnew,_,rfl⟩
  .exact ⟨hs,(hold hij).trans hi,Cn _⟩
 have hl':(hs0++[v]).length=i+1+1:=by simp [e2]
 have hg':(hs0++[v])[i+1]? =some v:=by rw [<-e2];simp
 have gk:((obs.set j (.row (i+1) es' e' ys)).set k .dead)[k]? =some .dead:=Ao (by simpa using hko)
 have gj:((obs.set j (.row (i+1) es' e' ys)).set k .dead)[j]? =some (.row (i+1) es' e' ys):=by
  rw [Ax (Eh hjk),Ao hjo]
 have gi:∀ {i'},i'≠j->i'≠k->((obs.set j (.row (i+1) es' e' ys)).set k .dead)[i']? =obs[i']?:=fun {i'} a b=>by
  rw [Ax (Eh b),Ax (Eh a)]
 have alive:∀ {i' b:Nat},aH (ob.set j (hs0++[v])) ((obs.set j (.row (i+1) es' e' ys)).set k .dead) i' b->(i'=j/\aH ob obs k b)\/(i'≠j/\i'≠k/\aH ob obs i' b):=by
  rintro i' b ⟨c,hs,q1,q2,q3,q4⟩
  by_cases hij:i'=j
  .subst hij
   rw [hnew] at q3
   cases q3
   have hb':b∈blk hs1:=by
    rw [dT hl' hg'] at q4
    rw [dT f2 f3]
    exact q4
   exact .inl ⟨rfl,_,hs1,h2,rfl,f1,hb'⟩
  .by_cases hik:i'=k
   .subst hik
    rw [gk] at q1
    cases q1
    cases q2
   .rw [gi hij hik] at q1
    rw [hold hij] at q3
    exact .inr ⟨hij,hik,c,hs,q1,q2,q3,q4⟩
 refine ⟨ob.set j (hs0++[v]),⟨hm.imm,by simp [hm.len],fun i' c hc=>?_,fun i' b ha=>?_,fun i' i2 b ha hb=>?_⟩,⟨fun _ _ _ h=>h,fun _ _ _ h=>.inl h,hle,rfl,rfl,rfl,Au _,fun _ _ _=>rfl,fun i' b ha=>?_⟩,(bT hnew).trans hg'⟩
 .by_cases hij:i'=j
  .subst hij
   rw [gj] at hc
   cases hc
   exact ⟨_,hnew,hl',v,hg',hrow1⟩
  .by_cases hik:i'=k
   .subst hik
    rw [gk] at hc
    cases hc
    exact ⟨hs1,(hold hij).trans f1,trivial⟩
   .rw [gi hij hik] at hc
    obtain ⟨hs,q1,q2⟩:=hm.obj i' c hc
    exact ⟨hs,(hold hij).trans q1,q2.mono (fun _ _ _ h=>h) hle (fun _ _ _ _ h=>h) (fun _ _ _ _ h=>h)⟩
 .rcases alive ha with ⟨_,q⟩ | ⟨_,_,q⟩<;>exact hm.lt _ b q
 .rcases alive ha with ⟨q1,q⟩ | ⟨q1,q2,q⟩<;>rcases alive hb with ⟨r1,r⟩ | ⟨r1,r2,r⟩
  .rw [q1,r1]
  .exact absurd (hm.inj k i2 b q r).symm r2
  .exact absurd (hm.inj i' k b q r) q2
  .exact hm.inj i' i2 b q r
 .rcases alive ha with ⟨_,q⟩ | ⟨_,_,q⟩
  .exact .inl ⟨k,q⟩
  .exact .inl ⟨i',q⟩
def GM:List Nat->AVal->List (Nat×AVal)->List (Nat×AVal)
 | [],_,fr=>fr
 | t::r,v,fr=>GM r v (gK fr t v)
def H6 (k:Nat) (fr:List (Nat×AVal)):List Nat->Bool
 | []=>true
 | t::r=>(match aS fr t with | .row j 0=>Aq j k | _=>false)&&H6 k fr r
theorem xG {v:AVal} {t:Nat}:∀ {l:List Nat} {fr:List (Nat×AVal)},aS (GM l v fr) t=aS fr t\/(t∈l/\aS (GM l v fr) t=v)
 | [],fr=>.inl rfl
 | x::r,fr=>by
  rcases xG (v:=v) (t:=t) (l:=r) (fr:=gK fr x v) with h | ⟨h1,h2⟩
  .rw [qU] at h
   by_cases e:t=x
   .subst e
    rw [if_pos rfl] at h
    exact .inr ⟨by simp,h⟩
   .rw [if_neg e] at h
    exact .inl h
  .exact .inr ⟨by simp [h1],h2⟩
theorem C2 {k:Nat} {fr:List (Nat×AVal)}:∀ {l:List Nat},H6 k fr l=true->∀ t∈l,aS fr t= .row k 0
 | [],_,t,h=>by simp at h
 | x::r,h,t,ht=>by
  simp only [H6,Ag] at h
  rcases Bd.1 ht with rfl | ht
  .have:=h.1
   split at this
   .rename_i j hj;rw [hj,aB this]
   .cases this
  .exact C2 h.2 t ht
theorem To.become {ks:List KI} {j k i es es':Nat} {e e':TypeId} {xs ys:List AVal} (l:List Nat) (hjk:Aq j k=false) (h1:aE obs j= .row i es e xs) (h2:aE obs k= .row 0 es' e' ys) (hl:H6 k fr l=true)
  (h:To E fn g (.code ks (GM l (.row j (i+1)) fr) (bG (bG obs j (.row (i+1) es' e' ys)) k .dead))):To E fn g (.code ks fr obs):=
 .mk fun ho M0 ob0 obs0 w0 a w hst hs=>by
  refine h.rec fun h=>h ho M0 ob0 obs0 w0 a w hst ?_
  obtain ⟨M,ob,hx,hm,hf,r1,r2,r3⟩:=hs
  have hne:j≠k:=fun e=>by subst e;simp at hjk
  have g1:=bA h1 (by simp)
  have g2:=bA h2 (by simp)
  obtain ⟨hs1,v,f1,f2,f3,f4,_⟩:=hm.rowOf g2
  obtain ⟨ob',m1,m2,m3⟩:=hm.become hne g1 g2 f4
  have eo:bG (bG obs j (.row (i+1) es' e' ys)) k .dead=(obs.set j (.row (i+1) es' e' ys)).set k .dead:=by
   rw [aO g1]
   exact gB _ (by simpa using (Ab.1 g2).1)
  rw [eo]
  refine ⟨M,ob',hx.trans m2,m1,fun t=>?_,r1,r2.mono (fun _ _ _ h=>h) m2.hs,by simpa using r3⟩
  have hr:=hf t
  rcases xG (v:=.row j (i+1)) (t:=t) (l:=l) (fr:=fr) with q | ⟨q1,q⟩
  .rw [q];exact hr.mono (fun _ _ _ h=>h) m2.hs
  .rw [q]
   rw [C2 hl t q1] at hr
   obtain ⟨ad,n,c,hv,hat⟩:=hr.row_inv
   rw [f4] at hat
   cases hat
   rw [hv]
   exact .row _ _ _ _ _ m3
end
theorem aIl {M:Imm} {ob:Hs} {vs:List Value} {a b:AVal} (h:bV M ob vs [a,b]):∃ u v,vs=[u,v]/\Rep M ob u a/\Rep M ob v b:=by
 obtain ⟨hl,hr⟩:=h
 match vs,hl with
 | [u,v],_=>exact ⟨u,v,rfl,hr 0 _ _ rfl rfl,hr 1 _ _ rfl rfl⟩
theorem JZ {P:Program} {f:FuncId} {fn:Func} {tS tR e:TypeId} (hf:P.funcs[f]? =some fn) (hname:(fn.name== "runtime.NumGoroutine")=false) (hb:fn.body.isNone=true) (hn:Extern.findNext fn=none)
  (he:Extern.find fn=some (Extern.SlicesOverlaps.overlaps #[tS,tS] #[tR])) (ht:P.underlying tS=some (.slice e)) {sz:Nat} (hz:(P.info? e).map (·.size)=some sz) (hpos:0<sz) {e1 e2:TypeId} (xs ys:List AVal) (lo len:Nat):
  aA P f [.row 0 0,.sub 1 0 lo len sz] [.row 0 sz e1 xs,.row 0 sz e2 ys] (.ret (.bool false)) [.row 0 sz e1 xs,.row 0 sz e2 ys]:=by
 intro M ob w vargs hm hr
 obtain ⟨u,v,rfl,hu,hv⟩:=aIl hr
 have hso:=fun w:World=>run_sizeOf (P:=P) hz w
 refine .inr ⟨.bool false,w,?_,M,ob,Ext.refl _ _ _ _,hm,.bool false⟩
 rw [run_callFunc_extern hf hname hb hn he]
 have key:(Extern.SlicesOverlaps.overlaps #[tS,tS] #[tR] #[u,v]).run P w= .ok (.bool false) w:=by
  obtain ⟨a,n,c,rfl,hat⟩:=hu.row_inv
  obtain ⟨hs1,v1,p1,p2,p3,p4,prow,pblk⟩:=hm.rowOf (k:=0) rfl
  obtain ⟨hs2,v2,q1,q2,q3,q4,qrow,qblk⟩:=hm.rowOf (k:=1) rfl
  rw [hat] at p4
  cases p4
  have none2:∀ (a:Option Addr) (n c:Nat) (b:Option Addr) (m d:Nat),(a=none\/b=none\/n=0\/m=0)->(Extern.SlicesOverlaps.overlaps #[tS,tS] #[tR] #[.slice a n c,.slice b m d]).run P w= .ok (.bool false) w:=by
   intro a n c b m d h
   change Sem.run P (α:=Value) (do
    let some t:=(#[tS,tS]:Array TypeId)[0]? | stuck "slices.overlaps: no parameter types"
    let .slice elem ←underlying t | stuck "slices.overlaps: slice type expected"
    let size <-sizeOf elem
    match a,b with
    | some a,some b=>
     if n=0\/m=0\/size=0 then pure (Mz false)
     else if a.block !=b.block&&(<-frozen a)&&(<-frozen b) then unsupported .addressObserved
     else do
      if a.block !=b.block then do
           noView a;noView b
           if ←mayBeOne a b then return Mz ((←choose (.extern "sameAddr.stringBytes" 2))==1)
      pure (Mz (a.block==b.block&&a.off<b.off+m*size&&b.off<a.off+n*size))
    | _,_=>pure (Mz false)) w=_
   cases a with
   | none=>simp [run_underlying ht,hso]
   | some a=>
    cases b with
    | none=>simp [run_underlying ht,hso]
    | some b=>
     have h0:n=0\/m=0\/sz=0:=by
      rcases h with h | h | h | h
      .cases h
      .cases h
      .exact .inl h
      .exact .inr (.inl h)
     simp [run_underlying ht,hso,h0]
  cases hv with
  | sub0 _ _ _ _ a2 a' n2 c2 hat2 hl hc=>exact none2 _ _ _ _ _ _ (.inr (.inr (.inr rfl)))
  | sub _ _ _ _ _ b n2 c2 hat2 hl hn2 hc2 hmm=>
   rw [hat2] at q4
   cases q4
   obtain ⟨cv,⟨r1,r2⟩,_⟩:=prow
   obtain ⟨cv2,⟨s1,s2⟩,_⟩:=qrow
   rcases r2 with ⟨r2,_⟩ | ⟨b1,cap1,cur1,r2,_,r3,r4,r5,r6,_⟩
   .cases r2;exact none2 _ _ _ _ _ _ (.inl rfl)
   .rcases s2 with ⟨s2,_⟩ | ⟨b2,cap2,cur2,s2,_,s3,s4,s5,s6,_⟩
    .cases s2
    .cases r2
     cases s2
     have hne:b1≠b:=by
      intro h
      subst h
      have a1:aH ob [.row 0 sz e1 xs,.row 0 sz e2 ys] 0 b1:=⟨_,hs1,rfl,rfl,p1,mD pblk rfl⟩
      have a2:aH ob [.row 0 sz e1 xs,.row 0 sz e2 ys] 1 b1:=⟨_,hs2,rfl,rfl,q1,mD qblk rfl⟩
      have:=hm.inj 0 1 b1 a1 a2
      cases this
     have hk:cur2.size≠0:=by
      rw [s6]
      have:=Nat.mul_pos (show 0<c2 by omega) hpos
      omega
     exact Lib.run_overlaps_apart w tS tR e ht sz hso ⟨b1,0,none⟩ ⟨b,lo*sz,none⟩ _ _ _ _ hne e1 e2 cur1.size cur2.size (by simp [World.shape?,r3]) (by simp [World.shape?,s3]) hk (by simp [Mx,r3]) (by simp [Mx,r3])
 have e0:(([u,v]:List Value)).toArray= #[u,v]:=rfl
 rw [e0,key]
 rfl
def strip:Nat->AVal->AVal
 | 0,v=>v
 | n+1,v=>match v with
  | .slice sz xs _=>.slice sz xs .no
  | .agg cs=>.agg (dG (strip n) cs)
  | .tup cs=>.tup (dG (strip n) cs)
  | .iface t v=>.iface t (strip n v)
  | v=>v
theorem D2 {M:Imm} {ob:Hs}:∀ (n:Nat) {v:Value} {a:AVal},Rep M ob v a->Rep M ob v (strip n a):=by
 intro n
 induction n with
 | zero=>intro v a h;exact h
 | succ n ih=>
  intro v a h
  cases h with
  | agg vs as hl hr=>
   obtain ⟨h1,h2⟩:=bO (fun v a=>ih) hl hr
   exact .agg vs _ h1 h2
  | tup vs as hl hr=>
   obtain ⟨h1,h2⟩:=bO (fun v a=>ih) hl hr
   exact .tup vs _ h1 h2
  | iface t v a hr=>exact .iface t v _ (ih hr)
  | slnil sz t ht=>exact .slnil sz .no trivial
  | slemp sz t a cap ht=>exact .slemp sz .no a cap trivial
  | sl sz b o n cap xs t hn hc hm hz hr ht=>exact .sl sz b o n cap xs .no hn hc hm hz hr trivial
  | undef v=>exact .undef v
  | bool b=>exact .bool b
  | int k n hr=>exact .int k n hr
  | str l hl=>exact .str l hl
  | ptr b o cs h=>exact .ptr b o cs h
  | ref k off b h=>exact .ref k off b h
  | eref k g i sz off b n c h=>exact .eref k g i sz off b n c h
  | csl k off len sz b h hm=>exact .csl k off len sz b h hm
  | row k g a n c h=>exact .row k g a n c h
  | sub k g lo len sz b n c h hl hn hc hm=>exact .sub k g lo len sz b n c h hl hn hc hm
  | sub0 k g lo sz a a' n c h hl hc=>exact .sub0 k g lo sz a a' n c h hl hc
  | rowc k g c a n h hm=>exact .rowc k g c a n h hm
  | pre k g n c sz b len h hc hn hl hm=>exact .pre k g n c sz b len h hc hn hl hm
  | mref k b h=>exact .mref k b h
  | nilptr=>exact .nilptr
  | nilslice=>exact .nilslice
  | nilmap=>exact .nilmap
  | nilfunc=>exact .nilfunc
  | nilif=>exact .nilif
  | hsl a n c=>exact .hsl a n c
  | func fn fs cs fa ca hf hc h1 h2=>exact .func fn fs cs fa ca hf hc h1 h2
theorem aA.strip {P:Program} {f:FuncId} {args:List AVal} {obs obs':List AObj} {r:Res} (h:aA P f (dG (strip 5) args) obs r obs'):aA P f args obs r obs':=
 fun M ob w vargs hm hr=>h M ob w vargs hm (by
  obtain ⟨h1,h2⟩:=bO (M':=M) (ob':=ob) (fun v a=>D2 (M:=M) (ob:=ob) 5) hr.1 hr.2
  exact ⟨h1,h2⟩)
def VT (n:Nat):List (Nat×List AVal)->Bool
 | []=>true
 | (_,l)::r=>CX (bel n 5) l&&VT n r
theorem MH {n:Nat}:∀ {l:List (Nat×List AVal)},VT n l=true->∀ (i:Nat) x,l[i]? =some x->CX (bel n 5) x.2=true
 | [],_,i,x,h=>by simp at h
 | (f,y)::r,hb,i,x,h=>by
  simp only [VT,Ag] at hb
  cases i with
  | zero=>simp at h;subst h;exact hb.1
  | succ i=>exact MH hb.2 i x (by simpa using h)
theorem aBz {w0 w:World} {M:Imm} {ob:Hs} {n:Nat} {ds:List Deferred} {dfs:List (Nat×List AVal)} (h:cG w0 w M ob ds dfs) (hb:VT n dfs=true):cG w0 w M (ob.take n) ds dfs:=
 let ⟨d1,d2,e,h,h2⟩:=h
 ⟨d1,d2,e,⟨h.1,fun i d x hd hx=>⟨(h.2 i d x hd hx).1,(h.2 i d x hd hx).2.1,fun j v a hv ha=>yY 5 ((h.2 i d x hd hx).2.2 j v a hv ha) (lG (MH hb i x hx) j a ha)⟩⟩,h2⟩
theorem To.cut {E:Env} {fn:Func} {g:Goal} {ks:List KI} {fr:List (Nat×AVal)} {obs:List AObj} (l:List Nat) (n:Nat) (hg:Ft g.n0 n=true) (hf:aBy n (lR l fr)=true) (ho:DQ n (mV n obs)=true) (hd:VT n E.df=true)
  (h:To E fn g (.head ks (lR l fr) (mV n obs))):To E fn g (.head ks fr obs):=
 .mk fun hok M0 ob0 obs0 w0 a w hst hs=>by
  refine h.rec fun h=>h hok M0 ob0 obs0 w0 a w hst ?_
  obtain ⟨M,ob,hx,hm,hfr,r1,r2,r3⟩:=hs
  rw [AY] at ho⊢
  obtain ⟨m1,m2⟩:=hm.cutO ho
  have h0:ob0.length<=n:=by rw [hst.1];exact Cf hg
  refine ⟨M,ob.take n,⟨hx.imm,hx.new,fun k hs hk=>?_,hx.os,hx.tape,hx.output,hx.size,hx.keep,fun k b ha=>hx.fresh k b (m2 ha)⟩,m1,fun t=>?_,r1,aBz r2 hd,by simp;omega⟩
  .obtain ⟨hs',e1,e2⟩:=hx.hs k hs hk
   have hlt:k<n:=by have:=(Ab.1 hk).1;omega
   exact ⟨hs',by rw [Bc hlt];exact e1,e2⟩
  .rcases MG hf t with q | q
   .rcases oC fr t l with e | e
    .rw [e] at q⊢
     exact yY 5 (hfr t) q
    .rw [e];exact .undef _
   .rw [q];exact .undef _
open Go.RowKit Go.ChangeShapes Go.WideShapes Go.ChangeAt
theorem lF {P:Program} {f:FuncId} {args:List AVal} {vargs:List Value} {w:World} {M:Imm} (hbo:sU P f) (h:aA P f args [] (.ret (.bool true)) []) (hm:Mem M [] [] w) (hr:bV M [] vargs args):
  Calls P f vargs.toArray w fun e w'=>e= .returned (.bool true)/\Below w.heap.size w w':=by
 rcases h M [] w vargs hm hr with ⟨_,h⟩ | ⟨u,w',h,_⟩
 .refine h.mono fun e w' ⟨M',ob',h1,h2,h3⟩=>⟨?_,h1.below⟩
  cases e with
  | returned v=>rw [Rep.bool_inv h3]
  | panicked ch=>exact h3.elim
  | outgrown=>exact h3.elim
 .rw [hbo] at h
  cases h
section
variable {P:Program} {w:World} {r:Reach} {base:Nat} {t:TypeId} {v:Value}
theorem G7 {k:IntKind} {n:Int} (h:k.has n):inR k n:=by
 cases k<;>simpa [IntKind.has,IntKind.min,IntKind.max,IntKind.signed,IntKind.bits,inR,bY,bI] using h
theorem aDa {k:IntKind} (ht:P.underlying t=some (.int k)) (h:Cell.okWide P w r base t v):∃ n,v= .int k n/\inR k n:=by
 unfold Cell.okWide at h
 rw [ht] at h
 unfold Cell.ok at h
 rw [ht] at h
 cases v<;>simp at h
 obtain ⟨rfl,h2⟩:=h
 exact ⟨_,rfl,G7 h2⟩
theorem J7 (hag:aK P t=false) (h:Ei P w r base t v):Cell.okWide P w r base t v:=by
 unfold Ei at h
 unfold aK at hag
 split at h
 .rename_i hu;rw [hu] at hag;cases hag
 .rename_i hu;rw [hu] at hag;cases hag
 .exact h
theorem tL {M:Imm} {ob:Hs} {v:Value} {a:AVal} (h:Rep M ob v a) {vs:List Value} {as:List AVal} (hs:bV M ob vs as):bV M ob (v::vs) (a::as):=bV.cons h hs
theorem JI {M:Imm} {ob:Hs}:bV M ob [] []:=⟨rfl,fun i v a h=>by simp at h⟩
end
theorem aJq {args:Array Value} (h:args.toList.length=1):∃ a,args= #[a]:=by
 obtain ⟨l⟩:=args
 match l,h with
 | [a],_=>exact ⟨a,rfl⟩
theorem aE4 {args:Array Value} (h:args.toList.length=2):∃ a b,args= #[a,b]:=by
 obtain ⟨l⟩:=args
 match l,h with
 | [a,b],_=>exact ⟨a,b,rfl⟩
section
variable {H:Type} {enc:TypeId×Value->H} {P:Program}
def QL (P:Program):List TypeId->Bool
 | []=>true
 | t::ts=>(P.readableRec t&&decide (t<P.types.size))&&QL P ts
theorem DD (hl:laidOutB P=true) {W W':World} (hb:Below W.heap.size W W'):∀ {ts:List TypeId} {vs:List Value} {ds:List (DataW H)} {ps:List MemPlace},QL P ts=true->(∀ x∈ps,x.block<W.heap.size)->
  DataW.TrodAll enc P W 0 (fun _=>true) true ts vs ds ps->DataW.TrodAll enc P W' 0 (fun b=>decide (b<W.heap.size)) true ts vs ds ps:=by
 intro ts
 induction ts with
 | nil=>
  intro vs ds ps _ _ h
  obtain ⟨rfl,rfl,rfl⟩:=trodAll_nil h
  exact trodAll_mk0
 | cons t ts ih=>
  intro vs ds ps hr hlt h
  simp only [QL,Ag,decide_eq_true_eq] at hr
  obtain ⟨v,vs',d,ds',p,q,rfl,rfl,rfl,h0,h1⟩:=trodAll_cons h
  exact trodAll_cons_mk (Below.trod hl hr.1.1 hr.1.2 h0 hb fun x hx=>hlt x (by simp [hx])) (ih hr.2 (fun x hx=>hlt x (by simp [hx])) h1)
theorem gO {W:World}:∀ {ts:List TypeId} {vs:List Value} {ds:List (DataW H)} {ps:List MemPlace},DataW.TrodAll enc P W 0 (fun _=>true) true ts vs ds ps->vs.length=ts.length/\ds.length=ts.length:=by
 intro ts
 induction ts with
 | nil=>
  intro vs ds ps h
  obtain ⟨rfl,rfl,rfl⟩:=trodAll_nil h
  exact ⟨rfl,rfl⟩
 | cons t ts ih=>
  intro vs ds ps h
  obtain ⟨v,vs',d,ds',p,q,rfl,rfl,rfl,h0,h1⟩:=trodAll_cons h
  obtain ⟨a,b⟩:=ih h1
  exact ⟨by simp [a],by simp [b]⟩
theorem mU {fn:Func} {s:ChangeSpec} {W W':World} {args:Array Value} {ds gs:List (DataW H)} {jV:List MemPlace} {tb:TypeId} (hl:laidOutB P=true) (hr:QL P fn.params.toList=true) (hv:s.vars=[])
  (hrt:fn.resultTypes= #[tb]) (hb:P.underlying tb=some .bool) (hW:DataW.Whole enc P fn.params.toList s.vars false W args.toList ds gs jV) (hbel:Below W.heap.size W W')
  (hfn:ds.length=fn.params.toList.length->(s.fn H ds).results=[.lit (.bool true)]/\(s.fn H ds).args=ds/\(s.fn H ds).vars=[]):s.post enc P fn false true false false W args (.bool true) W':=by
 have hlt:=hW.lt
 have hW':=hW
 obtain ⟨p,q,hA,hV,rfl,hfz,hnd⟩:=hW
 rw [hv] at hV
 obtain ⟨rfl,rfl⟩:=trodVars_none hV
 obtain ⟨f1,f2,f3⟩:=hfn (gO hA).2
 refine ⟨ds,[],_,[],p,[],hW',?_,?_,?_,hbel.frame _,fun h=>by cases h⟩
 .rw [Bg,f1,hrt]
  exact trodAll_cons_mk (shut_bool hb _) trodAll_mk0
 .rw [Bg,f2]
  exact DD hl hbel hr (fun x hx=>hlt x (by simp [hx])) hA
 .rw [Bg,f3,hv]
  exact rfl
end
inductive RepW (w:World):Value->AVal->Prop
 | bool (b):RepW w (.bool b) (.bool b)
 | int (k n) (h:inR k n):RepW w (.int k n) (.int k n)
 | str (l:List UInt8) (h:(l.length:Int)<=9223372036854775807):RepW w (.string ⟨l.toArray⟩) (.str l)
 | nilslice (sz:Nat):RepW w (.slice none 0 0) (.slice sz [] .no)
 | emptys (sz:Nat) (a:Addr) (cap:Nat):RepW w (.slice (some a) 0 cap) (.slice sz [] .no)
 | slice (sz b o n cap:Nat) (xs:List AVal) (us:Nat->Nat->Value) (hn:xs.length=n) (hc:n<=cap) (hm:(n:Int)<=9223372036854775807) (hz:∀ x∈xs,x.cells.length=sz)
   (h1:∀ (i j:Nat) x c,xs[i]? =some x->x.cells[j]? =some c->w.cell? ⟨b,o+i*sz+j,none⟩=some (us i j)) (h2:∀ (i j:Nat) x c,xs[i]? =some x->x.cells[j]? =some c->(us i j).oneCell'=true)
   (h3:∀ (i j:Nat) x c,xs[i]? =some x->x.cells[j]? =some c->RepW w (us i j) c):RepW w (.slice (some ⟨b,o,none⟩) n cap) (.slice sz xs .no)
def Mw (w:World):Imm:=fun b o x=>∃ v,w.cell? ⟨b,o,none⟩=some v/\v.oneCell'=true/\RepW w v x
theorem RepW.rep {w:World} {v:Value} {a:AVal} (h:RepW w v a):Rep (Mw w) [] v a:=by
 cases h with
 | bool b=>exact .bool b
 | int k n h=>exact .int k n h
 | str l h=>exact .str l h
 | nilslice sz=>exact .slnil sz .no trivial
 | emptys _ a cap=>exact .slemp _ _ _ _ trivial
 | slice sz b o n cap xs us hn hc hm hz h1 h2 h3=>exact .sl sz b o n cap xs .no hn hc hm hz (fun i j x c hx hj=>⟨us i j,h1 i j x c hx hj,h2 i j x c hx hj,h3 i j x c hx hj⟩) trivial
theorem ZT (w:World):Mem (Mw w) [] [] w where
 imm:=fun b o x ⟨v,h1,h2,h3⟩=>⟨v,h1,h2,h3.rep⟩
 len:=rfl
 obj k c h:=by simp at h
 lt k b h:=by obtain ⟨c,hs,e,_⟩:=h;simp at e
 inj k k' b h:=by obtain ⟨c,hs,e,_⟩:=h;simp at e
def TyF (T:TypeId->List AVal->Prop):List Field->List AVal->Prop
 | [],cs=>cs=[]
 | f::fs,cs=>∃ a b,cs=a++b/\T f.type a/\TyF T fs b
theorem RepW.one {w:World} {v:Value} {a:AVal} (h:RepW w v a):v.oneCell'=true:=by cases h<;>rfl
def fO (w:World) (cs:List Value) (as:List AVal):Prop:=cs.length=as.length/\∀ (i:Nat) v a,cs[i]? =some v->as[i]? =some a->RepW w v a
theorem fO.append {w:World} {vs us:List Value} {as bs:List AVal} (h:fO w vs as) (k:fO w us bs):fO w (vs++us) (as++bs):=by
 refine ⟨by simp [h.1,k.1],fun i v a hv ha=>?_⟩
 by_cases hi:i<vs.length
 .rw [Af hi] at hv
  rw [Af (by rw [<-h.1];exact hi)] at ha
  exact h.2 i v a hv ha
 .rw [Aj (by omega)] at hv
  rw [Aj (by rw [<-h.1];omega),<-h.1] at ha
  exact k.2 _ v a hv ha
theorem fO.single {w:World} {v:Value} {a:AVal} (h:RepW w v a):fO w [v] [a]:=
 ⟨rfl,fun i u b hu hb=>by cases i with | zero=>simp at hu hb;subst hu hb;exact h | succ i=>simp at hu⟩
theorem fO.nil {w:World}:fO w [] []:=⟨rfl,fun i v a h=>by simp at h⟩
def F1 (P:Program) (fa:TypeId->Bool):Nat->List Field->Nat->Bool
 | off,[],total=>Aq off total
 | off,f::fs,total=>(Aq f.offset off&&fa f.type)&&F1 P fa (off+P.cellsOf f.type) fs total
def mW (P:Program):Nat->TypeId->Bool
 | 0,_=>false
 | n+1,t=>match P.underlying t with
  | some .bool=>true
  | some (.int _)=>true
  | some .string=>true
  | some (.struct fs)=>F1 P (mW P n) 0 fs.toList (P.cellsOf t)
  | some (.array m e)=>mW P n e&&Aq (P.cellsOf t) (m*P.cellsOf e)
  | some (.slice e)=>mW P n e&&Ey 0 (P.cellsOf e)
  | _=>false
section
variable {H:Type} {enc:TypeId×Value->H} {P:Program} {w:World} {base:Nat} {spare:Nat->Bool} {held:Bool}
theorem T8 {r:Reach} {b0:Nat} {t e:TypeId} {v:Value} (ht:P.underlying t=some (.slice e)) (h:Cell.okWide P w r b0 t v):∃ a n c,v= .slice a n c:=by
 unfold Cell.okWide at h
 rw [ht] at h
 unfold Cell.ok at h
 rw [ht] at h
 cases v<;>simp at h
 exact ⟨_,_,_,rfl⟩
end
def zD (M:Imm) (ob:Hs) (u:FrameMode):Option AVal->Prop
 | none=>u= .returning
 | some v=>∃ x,u= .panicking [{v:=x,recovered:=false}]/\Rep M ob x v
def xR (P:Program) (f:FuncId) (args:List AVal) (obs:List AObj) (p:Option AVal) (obs':List AObj):Prop:=
 ∀ M ob w vargs u,Mem M ob obs w->bV M ob vargs args->zD M ob u p->
  (callFunc f vargs.toArray).run P w= .ok (.enter f vargs.toArray) w/\
   CallsD P f vargs.toArray u w fun e u' w'=>∃ v M' ob',e= .returned v/\settle u'= .returning/\Ext M ob obs w M' ob' obs' w'/\Mem M' ob' obs' w'
section
variable {P:Program}
theorem I8 {o:Oper} {ats:Array TypeId} {ρ:Operand->Value} {w:World} (ho:o.op= .call {callee:=.builtin .recover,args:= #[],argTypes:=ats}):(execOp ρ o).run P w= .ok .recover w:=by
 obtain ⟨dst,op,ty,pos,after,gd⟩:=o
 subst ho
 rfl
theorem GG {M:Imm} {ob:Hs} {u:FrameMode} {p:Option AVal} (h:zD M ob u p) (c:Frame) (cs:List Frame) (hu:c.mode=u):
  ∃ v u',Rep M ob v (match p with | none=>.nilif | some a=>a)/\settle u'= .returning/\
   ((recoverD (c::cs)=some (v,{c with mode:=u'}::cs))\/(recoverD (c::cs)=none/\v= .nilIface/\({c with mode:=u'}:Frame)=c)):=by
 cases p with
 | none=>
  have h:u= .returning:=h
  subst h
  refine ⟨.nilIface,.returning,.nilif,rfl,.inr ⟨by simp [recoverD,hu],rfl,?_⟩⟩
  rw [<-hu]
 | some a=>
  obtain ⟨x,rfl,hr⟩:=h
  refine ⟨x,.panicking [{v:=x,recovered:=true}],hr,rfl,.inl ?_⟩
  simp [recoverD,hu]
end
def C4:Code->Code
 | .seq _ b=>b
 | c=>c
def aGw:Code->Bool
 | .seq (.region _ ops false) _=>(match ops.toList with
  | [o]=>(match o.op with
   | .call c=>(match c.callee with | .builtin .recover=>c.args.toList.isEmpty&&o.guard.isNone&&o.dst.isSome | _=>false)
   | _=>false)
  | _=>false)
 | _=>false
def TS:Code->Nat
 | .seq (.region _ ops _) _=>(match ops.toList with | [o]=>o.dst.getD 0 | _=>0)
 | _=>0
theorem TU {c:Code} (h:aGw c=true):∃ id o ats rest,c= .seq (.region id #[o] false) rest/\o.op= .call {callee:=.builtin .recover,args:= #[],argTypes:=ats}/\o.guard=none/\o.dst=some (TS c)/\C4 c=rest:=by
 unfold aGw at h
 split at h
 .rename_i id ops rest
  split at h
  .rename_i o ho
   split at h
   .rename_i cl hop
    split at h
    .rename_i hcl
     simp only [Ag] at h
     obtain ⟨⟨h1,h2⟩,h3⟩:=h
     obtain ⟨cal,as,ats⟩:=cl
     have hcl:cal= .builtin .recover:=hcl
     subst hcl
     have e:ops= #[o]:=by cases ops;simp at ho;simp [ho]
     subst e
     have ha:as= #[]:=by cases as;simp at h1;simp [h1]
     subst ha
     obtain ⟨d,hd⟩:=Dc.1 h3
     refine ⟨id,o,ats,rest,rfl,hop,by simpa using h2,?_,rfl⟩
     simp [TS,hd]
    .cases h
   .cases h
  .cases h
 .cases h
theorem xR.of {E:Env} {f:FuncId} {fn:Func} {args:List AVal} {obs:List AObj} {n0:Nat} {r:AVal} {obs':List AObj} {p:Option AVal} (hdf:E.df=[]) (hf:E.P.funcs[f]? =some fn) (hb:fn.body=some (cU fn)) (hbo:sU E.P f)
  (hrec:aGw (cU fn)=true) (hco:cS fn.ntmps (C4 (cU fn))=true) (hn:Ft args.length fn.ntmps=true) (ht:Ey (TS (cU fn)) fn.ntmps=true) (hsb:sH obs=true) (hg:obs.length=n0)
  (h:okL args->To E fn (.full n0 (.ret r) obs') (.code [.code (C4 (cU fn))] (gK (frA 0 args) (TS (cU fn)) (match p with | none=>.nilif | some a=>a)) obs)) (hrd:E.rd=none:=by rfl):xR E.P f args obs p obs':=by
 intro M ob w vargs u hm hr hmode
 refine ⟨hbo _ _,?_⟩
 obtain ⟨id,o,ats,rest,hc,hop,hgd,hdst,haft⟩:=TU hrec
 rw [haft] at h hco
 have hlen:vargs.length=args.length:=hr.1
 have hle:=Cf hn
 have htl:TS (cU fn)<fn.ntmps:=by simpa [Fq] using ht
 generalize htt:TS (cU fn)=t at *
 have hst:oP (.full n0 (.ret r) obs') ob:=by
  refine ⟨by rw [hm.len,hg];rfl,fun _ hs hmem=>?_⟩
  obtain ⟨k,hk⟩:=Ct hmem
  have hlt:k<obs.length:=by rw [<-hm.len];exact (Ab.1 hk).1
  obtain ⟨h1,h2⟩:=sG hsb k _ (Aa hlt)
  have e:=fP (Aa hlt)
  have:=hm.histLen (by rw [e];exact h1) hk
  rw [e,h2] at this
  exact this
 intro c cs hu
 obtain ⟨v,u',hv,hset,hrecD⟩:=GG hmode c cs hu
 let b:Frame:={(default:Frame) with fn:=f,kind:=.deferred}
 let a:Act:={tmps:=vargs.toArray++Ga (fn.ntmps-vargs.toArray.size) undef,defers:=[]}
 have hasz:a.tmps.size=fn.ntmps:=by simp [a];omega
 have henter:Frame.enter E.P f vargs.toArray .deferred=b.at a [.code (.seq (.region id #[o] false) rest)]:=by
  simp [Frame.enter,Frame.at,hf,hb,hc,b,a]
 have ha:∀ t,Rep M ob (a.tmps.getD t undef) (aS (frA 0 args) t):=fun t=>by
  rw [BV]
  simp only [Cr,if_true,Hu]
  by_cases ht:t<args.length
  .rw [Aa ht]
   have hv:t<vargs.length:=by omega
   have:a.tmps.getD t undef=vargs[t]:=by
    show (vargs.toArray++Ga (fn.ntmps-vargs.toArray.size) undef).getD t undef=_
    rw [Bf,Gw (by simpa using hv)]
    simp [hv]
   rw [this]
   exact hr.2 t _ _ (Aa hv) (Aa ht)
  .rw [Bb (by omega)]
   exact .undef _
 -- the region of recover
 have hreg:=wp_opsS (P:=E.P) (ops:= #[o]) (Q:=fun e a' cs' w'=>e= .normal/\a'=a.put o.dst v/\cs'={c with mode:=u'}::cs/\w'=w) [0] a (c::cs) w (by
  have e0:(#[o]:Array Oper)[0]? =some o:=rfl
  have hw:Fe o (yielded #[o] a.tmps)=true:=by unfold Fe;rw [hgd]
  simp only [wpOpsS,e0,hw,if_true,I8 hop]
  rcases hrecD with h1 | ⟨h1,rfl,h2⟩
  .rw [h1]
   refine ⟨?_,?_,?_,?_⟩<;>first | trivial | rfl
  .rw [h1]
   refine ⟨?_,?_,?_,?_⟩<;>first | trivial | rfl | rw [h2]) b [.code rest] rfl rfl
 obtain ⟨e1,a1,cs1,w1,⟨rfl,rfl,rfl,rfl⟩,harr1⟩:=hreg
 -- the rest
 have hkw:KW none E.P (qI E fn M ob obs w1 (.full n0 (.ret r) obs')) [.code rest] (a.put o.dst v) w1:=by
  rw [<-hrd]
  obtain ⟨hh⟩:=h hr.okL
  refine hh (by simp [aZ,KI.ok,hco]) M ob obs w1 _ w1 hst ⟨M,ob,Ext.refl _ _ _ _,hm,?_,(eK _ _ _).1.trans hasz,by rw [hdf];exact cG.put (a:=a) .nil,by rw [hm.len];exact Au _⟩
  intro s
  have:=mM (d:=some t) ha hv (fun d' e=>by cases e;omega) s
  rw [hdst]
  rwa [show iI (aS (frA 0 args)) (some t) _ s=aS (gK (frA 0 args) t _) s from (congrFun (eZ (frA 0 args) (some t) _) s).symm] at this
 obtain ⟨e2,a2,w2,hq,harr2⟩:=hkw.arrives b ({c with mode:=u'}::cs) rfl
 have hsteps0:Steps E.P (lone (b.at a [.code (.seq (.region id #[o] false) rest)]) (c::cs) w1) (lone (b.at (a.put o.dst v) [.code rest]) ({c with mode:=u'}::cs) w1):=
  .head step_seq (.head step_region harr1)
 have fin:∀ {e:Ending} {w':World},RR M ob obs w1 (.full n0 (.ret r) obs') e w'->∃ v M' ob',e= .returned v/\settle u'= .returning/\Ext M ob obs w1 M' ob' obs' w'/\Mem M' ob' obs' w':=fun {e w'} ⟨M',ob',x1,x2,x3⟩=>by
  cases e with
  | returned v=>exact ⟨v,M',ob',rfl,hset,x1,x2⟩
  | panicked ch=>exact x3.elim
  | outgrown=>exact x3.elim
 rw [henter]
 cases e2 with
 | normal=>
  unfold qI C9 at hq
  rw [hrd] at hq
  obtain ⟨e',w'',fr',hR,hs,_,hk,hl⟩:=eW a2.defers .returning w2 {b.at a2 [] with mode:=.returning} ({c with mode:=u'}::cs) rfl rfl rfl hf hq
  exact ⟨e',u',w'',fr',fin hR,Comes.of_steps (hsteps0.trans (Steps.trans harr2 (.one step_end))) hs,hk,hl⟩
 | ret=>
  obtain ⟨todo,hs₀⟩:=harr2
  unfold qI C9 at hq
  rw [hrd] at hq
  obtain ⟨e',w'',fr',hR,hs,_,hk,hl⟩:=eW a2.defers .returning w2 {b.at a2 todo with mode:=.returning} ({c with mode:=u'}::cs) rfl rfl rfl hf hq
  exact ⟨e',u',w'',fr',fin hR,Comes.of_steps (hsteps0.trans hs₀) hs,hk,hl⟩
 | panic dX=>
  obtain ⟨todo,hs₀⟩:=harr2
  unfold qI at hq
  rw [hrd] at hq
  obtain ⟨e',w'',fr',hR,hs,_,hk,hl⟩:=eW a2.defers (.panicking dX) w2 {b.at a2 todo with mode:=.panicking dX} ({c with mode:=u'}::cs) rfl rfl rfl hf hq
  exact ⟨e',u',w'',fr',fin hR,Comes.of_steps (hsteps0.trans hs₀) hs,hk,hl⟩
 | exit id=>exact hq.elim
 | goto l=>exact hq.elim
 | outgrown=>exact hq.elim
def aHJ (fr:List (Nat×AVal)):List Oper->Option (Nat×List AVal)
 | [p]=>(match p.guard,p.op with
  | none,.defer c=>(match c.callee with
   | .value (.func f)=>some (f,evO (ev fr) c.args.toList)
   | _=>none)
  | _,_=>none)
 | _=>none
theorem OG (ρ:Operand->AVal):∀ (l:List Operand),evO ρ l=l.map ρ
 | []=>rfl
 | x::r=>by simp [evO,OG ρ r]
def ZQ (ks:List Nat) (og:Nat->AObj):Option AVal->Option AVal
 | none=>none
 | some v=>some (cvtV 0 ks og 5 v)
section
variable {E:Env} {fn:Func} {g:Goal}
theorem K8 {df:List (Nat×List AVal)} {id:Nat} {ops:Array Oper} {ks:List KI} {fr:List (Nat×AVal)} {obs:List AObj} {f:Nat} {args:List AVal} (hd:aHJ fr ops.toList=some (f,args))
  (hdf:df=(f,args)::E.df)
  (hrd:E.rd=none) (h:cX {E with df:=df} fn g ks (match ops.toList with | [o]=>lK fr o.dst (.tup []) | _=>fr) obs):cX E fn g (.code (.region id ops false)::ks) fr obs:=by
 intro ho M0 ob0 obs0 w0 a w hst hs
 simp only [aZ,KI.ok,cS,Ag] at ho
 obtain ⟨⟨ho1,_⟩,ho3⟩:=ho
 have hdst:=rD ho1
 unfold aHJ at hd
 split at hd
 .rename_i o hops
  split at hd
  .rename_i c hg hop
   split at hd
   .rename_i f' hcal
    cases hd
    rw [hops] at h hdst
    dsimp only at h
    refine KW.code (Q':=QR {E with df:=df} fn g M0 ob0 obs0 w0 ks) ?_ (fun a w h=>h) (fun ch a w h=>h) (fun e a w hh=>by
     cases e<;>first | exact .inl rfl | exact .inr ⟨_,rfl⟩ | exact hh.elim)
    refine wpIn_region_list ?_
    rw [hops]
    unfold wpListIn
    have hw:Fe o (yielded ops a.tmps)=true:=by unfold Fe;rw [hg]
    rw [if_pos hw]
    obtain ⟨dst,op,ty,pos,after,gd⟩:=o
    have hop:op= .defer c:=hop
    subst hop
    obtain ⟨cal,as,ats⟩:=c
    have hcal:cal= .value (.func f):=hcal
    subst hcal
    have hx:(execOp a.eval ⟨dst,.defer ⟨.value (.func f),as,ats⟩,ty,pos,after,gd⟩).run E.P w= .ok (.defer {target:=.fn (.func f) #[],args:= #[]++as.map a.eval}) w:=rfl
    refine ⟨fun _ _=>trivial,?_⟩
    rw [show (fen E.rd).round=none from hrd,Oper.semAt_none,hx,Oper.uponIn_defer]
    obtain ⟨M,ob,x1,x2,x3,x4,x5,x6⟩:=hs
    refine h ho3 M0 ob0 obs0 w0 _ w hst ⟨M,ob,x1,x2,?_,(eK _ _ _).1.trans x4,?_,x6⟩
    .rw [eZ]
     exact mM (a:={a with defers:={target:=Target.fn (Fn.func f) #[],args:= #[]++Array.map a.eval as}::a.defers}) x3 vJ fun d' e=>x4▸hdst _ (Dl.2 rfl) d' e
    .rw [hdf]
     obtain ⟨d1,d2,ed,x5,x7⟩:=x5
     refine cG.put (a:={a with defers:=_}) ⟨_::d1,d2,by rw [ed];rfl,⟨by simp [x5.1],fun i d x hd hx=>?_⟩,x7⟩
     cases i with
     | zero=>
      simp at hd hx
      subst hd hx
      refine ⟨rfl,?_,fun j v b hv hb=>?_⟩
      .simp [OG]
      .rw [OG,Bi] at hb
       simp only [Array.empty_append,Ir,Bi] at hv
       cases hj:as.toList[j]? with
       | none=>rw [hj] at hb;cases hb
       | some y=>
        rw [hj] at hb hv
        cases hb
        cases hv
        exact B9 x3 y
     | succ i=>exact x5.2 i d x (by simpa using hd) (by simpa using hx)
   .cases hd
  .cases hd
 .cases hd
theorem To.defer (df:List (Nat×List AVal)) {id:Nat} {ops:Array Oper} {ks:List KI} {fr:List (Nat×AVal)} {obs:List AObj} {f:Nat} {args:List AVal} (hd:aHJ fr ops.toList=some (f,args)) (hdf:df=(f,args)::E.df)
  (h:To {E with df:=df} fn g (.code ks (match ops.toList with | [o]=>lK fr o.dst (.tup []) | _=>fr) obs)) (hrd:E.rd=none:=by rfl):To E fn g (.code (.code (.region id ops false)::ks) fr obs):=
 .mk (h.rec fun h=>K8 hd hdf hrd h)
theorem BF {M0:Imm} {ob0:Hs} {obs0:List AObj} {w0:World} {sz:Nat} {f:Nat} {args:List AVal} {rest:List (Nat×List AVal)} {M:Imm} {ob:Hs} {obs obs':List AObj} {w:World} {a:Act} {u:FrameMode} {p:Option AVal} (fz ks:List Nat)
  {fr:List (Nat×AVal)} (x1:Ext M0 ob0 obs0 w0 M ob obs w) (x2:Mem M ob obs w) (x3:∀ t,Rep M ob (a.tmps.getD t undef) (aS fr t)) (x4:a.tmps.size=sz) {ds:List Deferred} (x5:cG w0 w M ob ds ((f,args)::rest)) (x6:ob0.length<=obs.length)
  (hk:lL ks (frzs fz obs)=true) (hu:zD M ob u p)
  (h:xR E.P f (dG (cvtV 0 ks (aE (frzs fz obs)) 5) args) (gZ 0 ks (frzs fz obs)) (ZQ ks (aE (frzs fz obs)) p) obs') {R:Ending->World->Prop}
  (hl:∀ (ds':List Deferred) w',SS M0 ob0 obs0 w0 sz rest fr (jT ks (aM (frzs fz obs)) (frzs fz obs) 0 obs' (frzs fz obs)) {a with defers:=ds'} w'->eD E.P fn a.tmps R ds' .returning w'):eD E.P fn a.tmps R ds u w:=by
 obtain ⟨dsA,dsB,rfl,x5,x7⟩:=x5
 cases dsA with
 | nil=>have:=x5.1;simp at this
 | cons d ds=>
  obtain ⟨htar,hargs⟩:=x5.2 0 d _ rfl rfl
  obtain ⟨M1,g1,g2,_,_⟩:=Mem.frzs fz M obs x2
  obtain ⟨c1,_,_⟩:=g1.cvt (n0:=0) hk
  have hrepl:bV M1 _ d.args.toList (dG (cvtV 0 ks (aE (frzs fz obs)) 5) args):=vR (fun v a=>g1.cvtV (n0:=0) hk 5 v a) ⟨hargs.1,fun i v a hv ha=>(hargs.2 i v a hv ha).monoM g2.imm⟩
  have hmode:zD M1 (dR 0 ob (frzs fz obs) 0 ks) u (ZQ ks (aE (frzs fz obs)) p):=by
   cases p with
   | none=>exact hu
   | some v=>
    obtain ⟨x,e,hr⟩:=hu
    exact ⟨x,e,g1.cvtV hk 5 _ _ (hr.monoM g2.imm)⟩
  obtain ⟨h1,h2⟩:=h M1 _ w d.args.toList u c1 hrepl hmode
  have hne:u≠ .run:=by
   cases p with
   | none=>have:u= .returning:=hu;rw [this];intro h;cases h
   | some v=>obtain ⟨x,e,_⟩:=hu;rw [e];intro h;cases h
  obtain ⟨tgt,das⟩:=d
  have htar:tgt= .fn (.func f) #[]:=htar
  subst htar
  refine ⟨hne,.inr ⟨.func f,#[],f,das,rfl,?_,?_⟩⟩
  .show (callFunc f (das++ #[])).run E.P w=_
   rw [Array.append_empty]
   exact h1
  .refine h2.mono fun e u' w' ⟨v,M',obK,e1,e2,e3,e4⟩=>?_
   subst e1
   dsimp only
   rw [e2]
   obtain ⟨m1,m2,_⟩:=g1.emb hk e3 e4
   have ext:=g2.trans m2
   refine hl (ds++dsB) w' ?_
   rw [bE]
   refine ⟨M',_,x1.trans ext,m1,fun t=>(x3 t).mono ext.imm ext.hs,x4,?_,?_⟩
   .refine ⟨ds,dsB,rfl,⟨by have:=x5.1;simpa using this,fun i d x hd hx=>?_⟩,(cG.ext (M:=M) (ob:=ob) ⟨[],dsB,rfl,.nil,x7⟩ x2 ext).marks⟩
    have:=x5.2 (i+1) d x (by simpa using hd) (by simpa using hx)
    exact ⟨this.1,this.2.1,fun j v a hv ha=>(this.2.2 j v a hv ha).mono ext.imm ext.hs⟩
   .have:=ext.lens
    have:=m1.len
    have:=x2.len
    omega
theorem To.leave (df:List (Nat×List AVal)) {f:Nat} {args:List AVal} (hdf:E.df=(f,args)::df) (fz ks:List Nat) {p:Option AVal} {fr:List (Nat×AVal)} {obs obs':List AObj} (hk:lL ks (frzs fz obs)=true)
  (h:xR E.P f (dG (cvtV 0 ks (aE (frzs fz obs)) 5) args) (gZ 0 ks (frzs fz obs)) (ZQ ks (aE (frzs fz obs)) p) obs')
  (hn:To {E with df:=df} fn g (.leave none fr (jT ks (aM (frzs fz obs)) (frzs fz obs) 0 obs' (frzs fz obs)))):To E fn g (.leave p fr obs):=by
 obtain ⟨hn⟩:=hn
 have hn:aBQ {E with df:=df} fn g fr (jT ks (aM (frzs fz obs)) (frzs fz obs) 0 obs' (frzs fz obs)):=hn
 refine .mk ?_
 cases p with
 | none=>
  intro M0 ob0 obs0 w0 a w hst ⟨M,ob,x1,x2,x3,x4,x5,x6⟩
  rw [hdf] at x5
  exact BF (p:=none) fz ks x1 x2 x3 x4 x5 x6 hk rfl h fun ds' w' hs=>hn M0 ob0 obs0 w0 {a with defers:=ds'} w' hst hs
 | some v=>
  intro M0 ob0 obs0 w0 ch a w hst ⟨M,ob,x1,x2,⟨x,e,hr⟩,x3,x4,x5,x6⟩
  rw [hdf] at x5
  exact BF (p:=some v) fz ks x1 x2 x3 x4 x5 x6 hk ⟨x,by rw [e],hr⟩ h fun ds' w' hs=>hn M0 ob0 obs0 w0 {a with defers:=ds'} w' hst hs
theorem To.left (hE:EnvOK E) (hdf:E.df=[]) {fr:List (Nat×AVal)} {obs:List AObj} {v:AVal} (hv:YC E obs fn.results.toList fr=some v) (h:LN g .ret v obs) (hrd:E.rd=none:=by rfl):To E fn g (.leave none fr obs):=
 .mk fun M0 ob0 obs0 w0 a w hst hs=>aAn hE hdf hrd hv h hst hs
end
def lH (r:Nat):Code->List KI->Option (List KI)
 | .region id _ _,ks=>bif Aq id r then some ks else none
 | .seq a b,ks=>(match lH r a (.code b::ks) with | some x=>some x | none=>lH r b ks)
 | .cond _ a b,ks=>(match lH r a ks with | some x=>some x | none=>lH r b ks)
 | .block id b,ks=>lH r b (.inB id::ks)
 | .loop b,ks=>lH r b (.inL b::ks)
 | _,_=>none
def iG (fn:Func) (r:Nat):List KI:=match lH r (cU fn) [] with | some ks=>ks | none=>[]
theorem To.cutC {E:Env} {fn:Func} {g:Goal} {ks:List KI} {fr:List (Nat×AVal)} {obs:List AObj} (l:List Nat) (n:Nat) (hg:Ft g.n0 n=true) (hf:aBy n (lR l fr)=true) (ho:DQ n (mV n obs)=true) (hd:VT n E.df=true)
  (h:To E fn g (.code ks (lR l fr) (mV n obs))):To E fn g (.code ks fr obs):=by
 have:=To.cut (E:=E) (fn:=fn) (g:=g) (ks:=ks) (fr:=fr) (obs:=obs) l n hg hf ho hd (h.rec fun h=>.mk h)
 exact this.rec fun h=>.mk h
def QX:St->Bool
 | .head _ _ _=>false
 | _=>true
theorem goN {E:Env} {fn:Func} {g:Goal} (hE:EnvOK E) (fuel:Nat) {st:St} (_hs:QX st=true) (h:bM E fn g (To E fn g) fuel st):To E fn g st:=dP hE fuel h
theorem KX (k:IntKind):∃ p,bI k+1=2 ^ p/\p<=k.bits:=by
 cases k
 .exact ⟨7,by decide,by decide⟩
 .exact ⟨15,by decide,by decide⟩
 .exact ⟨31,by decide,by decide⟩
 .exact ⟨63,by decide,by decide⟩
 .exact ⟨8,by decide,by decide⟩
 .exact ⟨16,by decide,by decide⟩
 .exact ⟨32,by decide,by decide⟩
 .exact ⟨64,by decide,by decide⟩
theorem aDH (k:IntKind):bY k<=0:=by cases k<;>decide
theorem RJ {k:IntKind} {a:Nat} (h:(a:Int)<=bI k):inR k a:=⟨Fo (aDH k) (Int.natCast_nonneg a),h⟩
theorem qT (n a:Nat) (h:a<2 ^ n):(BitVec.ofInt n (a:Int)).toNat=a:=by
 rw [BitVec.ofInt_natCast,BitVec.toNat_ofNat,Nat.mod_eq_of_lt h]
theorem G3 {k:IntKind} {a p:Nat} (hp:bI k+1=2 ^ p) (h:(a:Int)<=bI k):a<2 ^ p:=by
 have h1:(a:Int)<2 ^ p:=by omega
 have:((2 ^ p:Nat):Int)=2 ^ p:=by simp
 omega
theorem Z1 {k:IntKind} {a p:Nat} (hp:bI k+1=2 ^ p) (h:a<2 ^ p):(a:Int)<=bI k:=by
 have:((2 ^ p:Nat):Int)=2 ^ p:=by simp
 omega
theorem CG (k:IntKind) (a b:Nat) (ha:(a:Int)<=bI k) (hb:(b:Int)<=bI k):eO .or k a b=((a ||| b:Nat):Int):=by
 obtain ⟨p,hp,hpk⟩:=KX k
 have h1:=G3 hp ha
 have h2:=G3 hp hb
 have hle:2 ^ p<=2 ^ k.bits:=Hc (by decide) hpk
 simp only [eO,BitVec.toNat_or,qT k.bits a (by omega),qT k.bits b (by omega)]
 exact jE (RJ (Z1 hp (Nat.or_lt_two_pow h1 h2)))
theorem wD (k:IntKind) (a b:Nat) (ha:(a:Int)<=bI k) (hb:(b:Int)<=bI k):eO .and k a b=((a &&& b:Nat):Int):=by
 obtain ⟨p,hp,hpk⟩:=KX k
 have h1:=G3 hp ha
 have h2:=G3 hp hb
 have hle:2 ^ p<=2 ^ k.bits:=Hc (by decide) hpk
 simp only [eO,BitVec.toNat_and,qT k.bits a (by omega),qT k.bits b (by omega)]
 exact jE (RJ (Z1 hp (Nat.and_lt_two_pow _ h2)))
def OZ (n0:Nat) (ks:List Nat) (og:Nat->AObj):List (Nat×AVal)->List (Nat×AVal)
 | []=>[]
 | (i,v)::r=>(i,cvtV n0 ks og 5 v)::OZ n0 ks og r
theorem vY (n0:Nat) (ks:List Nat) (og:Nat->AObj) (t:Nat):∀ (fr:List (Nat×AVal)),aS (OZ n0 ks og fr) t=cvtV n0 ks og 5 (aS fr t)
 | []=>rfl
 | (i,v)::r=>by
  simp only [OZ,aS]
  cases Aq i t with
  | true=>rfl
  | false=>exact vY n0 ks og t r
theorem To.part {E:Env} {fn:Func} {g:Goal} {st:List KI} {fr:List (Nat×AVal)} {obs:List AObj} (l:List Nat) (ks:List Nat) (hdf:E.df=[]) (hk:lL ks obs=true) (hb:jP g.n0 0 ks=true)
  (h:To E fn g (.head st (OZ g.n0 ks (aE obs) (lR l fr)) (gZ g.n0 ks obs))) (hstr:g.strict=true:=by rfl):To E fn g (.head st fr obs):=
 .mk fun hok M0 ob0 obs0 w0 a w hst hs=>by
  refine h.rec fun h=>h hok M0 ob0 obs0 w0 a w hst ?_
  obtain ⟨M,ob,hx,hm,hfr,r1,r2,r3⟩:=hs
  obtain ⟨c1,c2,_⟩:=hm.cvt (n0:=g.n0) hk
  have hn:ob0.length=g.n0:=hst.1
  have hlen:(gZ g.n0 ks obs).length=ks.length:=by unfold gZ;rw [mQ]
  have hks:ob0.length<=ks.length:=by
   rw [hn]
   rcases Ez g.n0 with h0 | h0
   .omega
   .have:=kI hb (g.n0-1) (by omega)
    have:=(Ab.1 this).1
    omega
  refine ⟨M,_,⟨hx.imm,hx.new,fun j hs hj=>?_,hx.os,hx.tape,hx.output,hx.size,hx.keep,fun j b ha=>?_⟩,c1,fun t=>?_,r1,?_,by rw [hlen];exact hks⟩
  .have hlt:j<g.n0:=by rw [<-hn];exact (Ab.1 hj).1
   have hkj:=kI hb j hlt
   rw [Bn] at hkj
   obtain ⟨hs',e1,t,e2⟩:=hx.hs j hs hj
   have hl1:=hst.2 hstr hs (Ap hj)
   refine ⟨iD g.n0 j (aE obs j) hs',?_,?_⟩
   .rw [gC,hkj]
    simp [e1]
   .unfold iD
    split
    .rw [<-e2]
     have:(hs++t).take 1=hs:=by rw [Dm (by omega),Cl (by omega)]
     rw [this]
     exact ⟨_,rfl⟩
    .exact ⟨t,e2⟩
  .obtain ⟨k,_,ha'⟩:=c2 j b ha
   exact hx.fresh k b ha'
  .rw [vY]
   have:Rep M ob (a.tmps.getD t undef) (aS (lR l fr) t):=by
    rcases oC fr t l with e | e
    .rw [e];exact hfr t
    .rw [e];exact .undef _
   exact hm.cvtV (n0:=g.n0) hk 5 _ _ this
  .rw [hdf] at r2⊢
   exact r2.bare
def I4:List AVal->Nat->AVal->List AVal
 | [],_,_=>[]
 | _::r,0,x=>x::r
 | c::r,n+1,x=>c::I4 r n x
theorem F6:∀ (l:List AVal) (n:Nat) (x:AVal),I4 l n x=l.set n x
 | [],_,_=>rfl
 | _::_,0,_=>rfl
 | c::r,n+1,x=>by simp [I4,F6 r n x]
def jY:List AObj->AObj->List AObj
 | [],x=>[x]
 | c::r,x=>c::jY r x
theorem mS:∀ (l:List AObj) (x:AObj),jY l x=l++[x]
 | [],_=>rfl
 | c::r,x=>by simp [jY,mS r x]
theorem Mem.beginC {M:Imm} {ob:Hs} {obs:List AObj} {w:World} (hm:Mem M ob obs w) {k i sz:Nat} {T e:TypeId} {cs:List AVal} (hk:obs[k]? =some (.cells T cs)) (hi:cs[i]? =some (.slice sz [] .nil)):
  Mem M (ob++[[.slice none 0 0]]) (obs.set k (.cells T (cs.set i (.slice sz [] (.own obs.length 0))))++[.tail 0 sz e]) w/\
   Ext M ob obs w M (ob++[[.slice none 0 0]]) (obs.set k (.cells T (cs.set i (.slice sz [] (.own obs.length 0))))++[.tail 0 sz e]) w/\cW ob (ob++[[.slice none 0 0]]):=by
 have hle:cW ob (ob++[[.slice none 0 0]]):=fun j hs hj=>⟨hs,by rw [Af (Ab.1 hj).1];exact hj,Cn _⟩
 have hkl:k<obs.length:=(Ab.1 hk).1
 have hnew:(ob++[[.slice none 0 0]])[obs.length]? =some [.slice none 0 0]:=by rw [<-hm.len];simp
 have hat:at' (ob++[[.slice none 0 0]]) obs.length 0=some (.slice none 0 0):=by rw [bT hnew];rfl
 have old:∀ {j:Nat} {c:AObj},(obs.set k (.cells T (cs.set i (.slice sz [] (.own obs.length 0))))++[.tail 0 sz e])[j]? =some c->
   (j=obs.length/\c= .tail 0 sz e)\/(j=k/\c= .cells T (cs.set i (.slice sz [] (.own obs.length 0))))\/(j≠k/\j<obs.length/\obs[j]? =some c):=fun {j c} hj=>by
  by_cases hjl:j<obs.length
  .rw [Af (by simpa using hjl)] at hj
   by_cases hjk:j=k
   .subst hjk
    rw [Ao hjl] at hj
    cases hj
    exact .inr (.inl ⟨rfl,rfl⟩)
   .rw [Ax (Eh hjk)] at hj
    exact .inr (.inr ⟨hjk,hjl,hj⟩)
  .have h2:j=obs.length:=by
    have:=(Ab.1 hj).1
    simp at this
    omega
   subst h2
   rw [Aj (by simp)] at hj
   simp at hj
   exact .inl ⟨rfl,hj.symm⟩
 have al:∀ {j b:Nat},aH (ob++[[.slice none 0 0]]) (obs.set k (.cells T (cs.set i (.slice sz [] (.own obs.length 0))))++[.tail 0 sz e]) j b->aH ob obs j b:=fun {j b} ⟨c,hs,e1,e2,e3,e4⟩=>by
  rcases old e1 with ⟨rfl,rfl⟩ | ⟨rfl,rfl⟩ | ⟨h1,h2,h3⟩
  .rw [hnew] at e3
   cases e3
   cases e4
  .rw [Af (by rw [hm.len];exact hkl)] at e3
   exact ⟨_,hs,hk,rfl,e3,e4⟩
  .rw [Af (by rw [hm.len];exact h2)] at e3
   exact ⟨c,hs,h3,e2,e3,e4⟩
 have hok:∀ (j:Nat) c,(obs.set k (.cells T (cs.set i (.slice sz [] (.own obs.length 0))))++[.tail 0 sz e])[j]? =some c->∃ hs,(ob++[[.slice none 0 0]])[j]? =some hs/\gD M (ob++[[.slice none 0 0]]) w hs c:=fun j c hj=>by
  rcases old hj with ⟨rfl,rfl⟩ | ⟨rfl,rfl⟩ | ⟨h1,h2,h3⟩
  .exact ⟨_,hnew,rfl,_,rfl,0,[],Hf w 0 _ _,fun b hb=>by cases hb⟩
  .obtain ⟨hs,e1,b,q1,q2,cv,q3,q4,q5,q6⟩:=hm.obj _ _ hk
   refine ⟨hs,by rw [Af (by rw [hm.len];exact hkl)];exact e1,b,q1,q2,cv,q3,by simpa using q4,q5,fun n v a hv ha=>?_⟩
   by_cases hn:n=i
   .subst hn
    have hlt:n<cs.length:=(Ab.1 hi).1
    rw [Ao hlt] at ha
    cases ha
    have:=q6 n v _ hv hi
    obtain ⟨_,ht⟩:=this.untok
    have ht:v= .slice none 0 0:=ht
    subst ht
    exact .slnil _ _ hat
   .rw [Ax (Eh hn)] at ha
    exact (q6 n v a hv ha).mono (fun _ _ _ h=>h) hle
  .obtain ⟨hs,e1,e2⟩:=hm.obj j c h3
   refine ⟨hs,by rw [Af (by rw [hm.len];exact h2)];exact e1,?_⟩
   cases c with
   | cells T' cs'=>
    obtain ⟨b,q1,q2,cv,q3,q4,q5,q6⟩:=e2
    exact ⟨b,q1,q2,cv,q3,q4,q5,fun n v a hv ha=>(q6 n v a hv ha).mono (fun _ _ _ h=>h) hle⟩
   | _=>exact e2
 refine ⟨⟨hm.imm,by simp [hm.len],hok,fun j b ha=>hm.lt j b (al ha),fun j j' b h1 h2=>hm.inj j j' b (al h1) (al h2)⟩,⟨fun _ _ _ h=>h,fun _ _ _ h=>.inl h,hle,rfl,rfl,rfl,Au _,fun _ _ _=>rfl,fun j b ha=>.inl ⟨j,al ha⟩⟩,hle⟩
theorem To.begin {E:Env} {fn:Func} {g:Goal} {st:List KI} {fr:List (Nat×AVal)} {obs:List AObj} (k i:Nat) (e:TypeId) {T:TypeId} {cs:List AVal} {sz:Nat} (hk:aE obs k= .cells T cs) (hi:nth cs i=some (.slice sz [] .nil))
  (h:To E fn g (.head st fr (jY (bG obs k (.cells T (I4 cs i (.slice sz [] (.own (aM obs) 0))))) (.tail 0 sz e)))):To E fn g (.head st fr obs):=
 .mk fun hok M0 ob0 obs0 w0 a w hst hs=>by
  refine h.rec fun h=>h hok M0 ob0 obs0 w0 a w hst ?_
  obtain ⟨M,ob,hx,hm,hfr,r1,r2,r3⟩:=hs
  have hk':=bA hk (by simp)
  obtain ⟨m1,m2,m3⟩:=hm.beginC (e:=e) hk' (kR hi)
  rw [mS,F6,bE,aO hk']
  exact ⟨M,_,hx.trans m2,m1,fun t=>(hfr t).mono (fun _ _ _ h=>h) m3,r1,r2.mono (fun _ _ _ h=>h) m3,by simp;omega⟩
def mapO (f:AVal->AVal):AObj->AObj
 | .cells T cs=>.cells T (dG f cs)
 | x=>x
def KL (f:AVal->AVal):List AObj->List AObj
 | []=>[]
 | x::r=>mapO f x::KL f r
theorem KK (f:AVal->AVal):∀ (l:List AObj),KL f l=l.map (mapO f)
 | []=>rfl
 | x::r=>by simp [KL,KK f r]
def HC (l:List Nat) (og:Nat->AObj):List (Nat×AVal)->List (Nat×AVal)
 | []=>[]
 | (i,v)::r=>(i,bif rM i l then pureV og 5 v else v)::HC l og r
theorem E3 (l:List Nat) (og:Nat->AObj) (t:Nat):∀ (fr:List (Nat×AVal)),aS (HC l og fr) t=aS fr t\/aS (HC l og fr) t=pureV og 5 (aS fr t)
 | []=>.inl rfl
 | (i,v)::r=>by
  simp only [HC,aS]
  cases Aq i t with
  | true=>
   simp only [cond_true]
   cases rM i l with
   | true=>exact .inr rfl
   | false=>exact .inl rfl
  | false=>exact E3 l og t r
theorem To.frz {E:Env} {fn:Func} {g:Goal} {st:List KI} {fr:List (Nat×AVal)} {obs:List AObj} (l fz:List Nat)
  (h:To E fn g (.code st (HC l (aE (AW.frzs fz obs)) fr) (AW.frzs fz obs))):To E fn g (.code st fr obs):=
 .mk fun hok M0 ob0 obs0 w0 a w hst hs=>by
  refine h.rec fun h=>h hok M0 ob0 obs0 w0 a w hst ?_
  obtain ⟨M,ob,hx,hm,hfr,r1,r2,r3⟩:=hs
  obtain ⟨M',g1,g2,_,g4⟩:=Mem.frzs fz M obs hm
  refine ⟨M',ob,hx.trans g2,g1,fun t=>?_,r1,r2.mono g2.imm (cW.refl _),by rw [g4];exact r3⟩
  rcases E3 l (aE (AW.frzs fz obs)) t fr with e | e
  .rw [e];exact (hfr t).monoM g2.imm
  .rw [e];exact (g1.pureV 5 _ _ ((hfr t).monoM g2.imm)).pure
theorem NV {P:Program} {w:World} {r:Reach} {b0:Nat} {t:TypeId} {v:Value} (hag:aK P t=true) (h:Ei P w r b0 t v):∃ cs:Array Value,v= .agg cs:=by
 unfold Ei at h
 unfold aK at hag
 split at h
 .obtain ⟨cs,e,_⟩:=h;exact ⟨cs,e⟩
 .obtain ⟨cs,e,_⟩:=h;exact ⟨cs,e⟩
 .rename_i h1 h2
  split at hag
  .exact absurd ‹_› (h1 _)
  .exact absurd ‹_› (h2 _ _)
  .cases hag
structure Bulk (H:Type) (N:Nat) (G:DataW H->Prop):Prop where
 str:∀ (l:List UInt8),G (.lit (.string l))->l.length<=N
 sl:∀ (e r:List (DataW H)),G (.slice e r)->e.length<=N/\∀ d∈e,G d
 agg:∀ (l:List (DataW H)),G (.agg l)->∀ d∈l,G d
def TyN (P:Program) (N:Nat):Nat->TypeId->List AVal->Prop
 | 0,_,_=>False
 | n+1,t,cs=>match P.underlying t with
  | some .bool=>∃ b,cs=[.bool b]
  | some (.int k)=>∃ m,cs=[.int k m]/\inR k m
  | some .string=>∃ l,cs=[.str l]/\l.length<=N
  | some (.struct fs)=>TyF (TyN P N n) fs.toList cs
  | some (.array m e)=>∃ xs:List (List AVal),xs.length=m/\(∀ x∈xs,TyN P N n e x)/\cs=xs.flatten
  | some (.slice e)=>∃ xs,cs=[.slice (P.cellsOf e) xs .no]/\xs.length<=N/\∀ x∈xs,TyN P N n e x.cells/\(aK P e=true->∃ l,x= .agg l)/\(aK P e=false->x.cells=[x])
  | _=>False
section
variable {H:Type} {N:Nat} {G:DataW H->Prop} {enc:TypeId×Value->H} {P:Program} {w:World} {base:Nat} {spare:Nat->Bool} {held:Bool}
theorem GS {n m:Nat} (ih:∀ t,mW P n t=true->∀ cs x,DataW.trod enc P w base spare held m t cs=some x->G x.1->∃ as,fO w cs as/\TyN P N n t as) (cs:List Value):
  ∀ (fs:List Field) (off:Nat),(∀ f∈fs,∃ y,DataW.trod enc P w base spare held m f.type ((cs.drop f.offset).take (P.cellsOf f.type))=some y/\G y.1)->F1 P (mW P n) off fs cs.length=true->
   ∃ as,fO w (cs.drop off) as/\TyF (TyN P N n) fs as:=by
 intro fs
 induction fs with
 | nil=>
  intro off _ h
  have:=aB h
  subst this
  exact ⟨[],by simpa using fO.nil,rfl⟩
 | cons f fs ihf=>
  intro off hf h
  simp only [F1,Ag] at h
  obtain ⟨⟨h1,h2⟩,h3⟩:=h
  have hoff:=aB h1
  obtain ⟨y,hy,hyG⟩:=hf f (by simp)
  obtain ⟨a,ha,hta⟩:=ih f.type h2 _ y hy hyG
  obtain ⟨b,hb,htb⟩:=ihf (off+P.cellsOf f.type) (fun g hg=>hf g (by simp [hg])) h3
  refine ⟨a++b,?_,a,b,rfl,hta,htb⟩
  have hd:cs.drop off=(cs.drop off).take (P.cellsOf f.type)++cs.drop (off+P.cellsOf f.type):=by rw [<-Ii,Bv]
  rw [hd]
  rw [hoff] at ha
  exact ha.append hb
theorem J4 {n m:Nat} {e:TypeId} (he:mW P n e=true) (ih:∀ t,mW P n t=true->∀ cs x,DataW.trod enc P w base spare held m t cs=some x->G x.1->∃ as,fO w cs as/\TyN P N n t as) (cs:List Value):
  ∀ (k:Nat),k*P.cellsOf e<=cs.length->(∀ i,i<k->∃ y,DataW.trod enc P w base spare held m e ((cs.drop (i*P.cellsOf e)).take (P.cellsOf e))=some y/\G y.1)->
   ∃ Ls:List (List AVal),Ls.length=k/\(∀ x∈Ls,TyN P N n e x)/\fO w (cs.take (k*P.cellsOf e)) Ls.flatten:=by
 intro k
 induction k with
 | zero=>intro _ _;exact ⟨[],rfl,fun x hx=>by simp at hx,by simpa using fO.nil⟩
 | succ k ihk=>
  intro hk hf
  rw [Bw,Fx] at hk
  obtain ⟨Ls,l1,l2,l3⟩:=ihk (by omega) (fun i hi=>hf i (by omega))
  obtain ⟨y,hy,hyG⟩:=hf k (by omega)
  obtain ⟨a,ha,hta⟩:=ih e he _ y hy hyG
  refine ⟨Ls++[a],by simp [l1],fun x hx=>?_,?_⟩
  .rcases Ba.1 hx with hx | hx
   .exact l2 x hx
   .simp at hx;subst hx;exact hta
  .rw [Bw,Fx,List.take_add]
   simp only [List.flatten_append,List.flatten_cons,List.flatten_nil,Bg]
   exact l3.append ha
theorem TyN.pack {n:Nat} {t:TypeId} {as:List AVal} (h:TyN P N n t as):∃ x:AVal,x.cells=as/\(aK P t=true->∃ l,x= .agg l)/\(aK P t=false->x.cells=[x]):=by
 cases n with
 | zero=>exact h.elim
 | succ n=>
  unfold TyN at h
  cases ha:aK P t with
  | true=>exact ⟨.agg as,rfl,(fun _=>⟨_,rfl⟩),fun h=>by cases h⟩
  | false=>
   unfold aK at ha
   split at h
   .obtain ⟨b,rfl⟩:=h;exact ⟨.bool b,rfl,(fun h=>by cases h),fun _=>rfl⟩
   .rename_i k _;obtain ⟨m,rfl,_⟩:=h;exact ⟨.int k m,rfl,(fun h=>by cases h),fun _=>rfl⟩
   .obtain ⟨l,rfl,_⟩:=h;exact ⟨.str l,rfl,(fun h=>by cases h),fun _=>rfl⟩
   .rename_i hu;rw [hu] at ha;cases ha
   .rename_i hu;rw [hu] at ha;cases ha
   .rename_i e _;obtain ⟨xs,rfl,_⟩:=h;exact ⟨.slice (P.cellsOf e) xs .no,rfl,(fun h=>by cases h),fun _=>rfl⟩
   .exact h.elim
theorem J5 {n m:Nat} {e:TypeId} (he:mW P n e=true) (ih:∀ t,mW P n t=true->∀ cs x,DataW.trod enc P w base spare held m t cs=some x->G x.1->∃ as,fO w cs as/\TyN P N n t as) (a:Addr):
  ∀ (k:Nat),(∀ i,i<k->∃ y,((w.cells? base (a.add (i*P.cellsOf e)) (P.cellsOf e)).bind (DataW.trod enc P w base spare held m e))=some y/\G y.1)->
   ∃ (xs:List AVal) (us:List (List Value)),xs.length=k/\us.length=k/\∀ (i:Nat) x u,xs[i]? =some x->us[i]? =some u->x.cells.length=P.cellsOf e/\(∀ j,j<P.cellsOf e->w.cell? ((a.add (i*P.cellsOf e)).add j)=u[j]?)/\fO w u x.cells/\
    TyN P N n e x.cells/\(aK P e=true->∃ l,x= .agg l)/\(aK P e=false->x.cells=[x]):=by
 intro k
 induction k with
 | zero=>intro _;exact ⟨[],[],rfl,rfl,fun i x u hx=>by simp at hx⟩
 | succ k ihk=>
  intro hf
  obtain ⟨xs,us,l1,l2,l3⟩:=ihk fun i hi=>hf i (by omega)
  obtain ⟨y,hy,hyG⟩:=hf k (by omega)
  obtain ⟨u,hu,hy⟩:=Option.bind_eq_some_iff.1 hy
  obtain ⟨_,hlen,hcell⟩:=World.cells?_some hu
  obtain ⟨as,has,hta⟩:=ih e he _ y hy hyG
  obtain ⟨x,rfl,hag⟩:=hta.pack
  refine ⟨xs++[x],us++[u],by simp [l1],by simp [l2],fun i x' u' hx hu'=>?_⟩
  by_cases hi:i<k
  .rw [Af (by omega)] at hx hu'
   exact l3 i x' u' hx hu'
  .have hik:i=k:=by
    have:=(Ab.1 hx).1
    simp at this
    omega
   subst hik
   rw [Aj (by omega)] at hx hu'
   rw [l1,Kx] at hx
   rw [l2,Kx] at hu'
   simp at hx hu'
   subst hx hu'
   exact ⟨by rw [<-has.1,hlen],hcell,has,hta,hag⟩
theorem A3 (hB:Bulk H N G):∀ (n:Nat) (t:TypeId),mW P n t=true->∀ (fuel:Nat) (cs:List Value) (x:DataW H×List MemPlace),DataW.trod enc P w base spare held fuel t cs=some x->G x.1->∃ as,fO w cs as/\TyN P N n t as:=by
 intro n
 induction n with
 | zero=>intro t h;cases h
 | succ n ih=>
  intro t h fuel cs x hx hG
  unfold mW at h
  unfold TyN
  split at h
  .rename_i hu
   try rw [hu]
   obtain ⟨b,rfl,_⟩:=DataW.trod_bool hu hx
   exact ⟨[.bool b],fO.single (.bool b),b,rfl⟩
  .rename_i k hu
   try rw [hu]
   obtain ⟨m,rfl,_,hwf⟩:=DataW.trod_int hu hx
   simp only [Lit.wf,Ag,decide_eq_true_eq] at hwf
   exact ⟨[.int k m],fO.single (.int k m (G7 hwf)),m,rfl,G7 hwf⟩
  .rename_i hu
   try rw [hu]
   obtain ⟨s,rfl,hxe,hs⟩:=DataW.trod_string hu hx
   obtain ⟨⟨l⟩⟩:=s
   have hsN:=hB.str _ (by rw [hxe] at hG;exact hG)
   exact ⟨[.str l],fO.single (.str l (by have:=fR;have h2:l.length<=maxLen:=hs;omega)),l,rfl,hsN⟩
  .rename_i fs hu
   try rw [hu]
   obtain ⟨xs,m,rfl,hxe,hlen,hxl,hf⟩:=DataW.trod_struct hu hx
   have hGG:=hB.agg _ (by rw [hxe] at hG;exact hG)
   rw [<-hlen] at h
   have:=GS (fun t ht cs x hx hg=>ih t ht m cs x hx hg) cs fs.toList 0 (fun f hf'=>by
    obtain ⟨i,hi⟩:=Ct hf'
    have hi':fs[i]? =some f:=by simpa using hi
    have hlt:=(Fa.1 hi').1
    exact ⟨xs[i]'(by omega),(hf i f hi').trans (Aa (by omega)),hGG _ (Cm (Bl _))⟩) h
   simpa using this
  .rename_i m e hu
   try rw [hu]
   simp only [Ag] at h
   obtain ⟨h1,h2⟩:=h
   obtain ⟨xs,q,rfl,hxe,hlen,hxl,hf⟩:=DataW.trod_array hu hx
   have hGG:=hB.agg _ (by rw [hxe] at hG;exact hG)
   have hc:=aB h2
   obtain ⟨Ls,l1,l2,l3⟩:=J4 h1 (fun t ht cs x hx hg=>ih t ht q cs x hx hg) cs m (by omega) (fun i hi=>⟨xs[i]'(by omega),(hf i hi).trans (Aa (by omega)),hGG _ (Cm (Bl _))⟩)
   rw [Cl (by omega)] at l3
   exact ⟨Ls.flatten,l3,Ls,l1,l2,rfl⟩
  .rename_i e hu
   try rw [hu]
   simp only [Ag] at h
   obtain ⟨h1,h2⟩:=h
   have hpos:0<P.cellsOf e:=by simpa [Fq] using h2
   rcases DataW.trod_slice hu hx with ⟨rfl,_⟩ | ⟨a,len,cap,elems,rest,q,rfl,rfl,hxe,hb,hlc,hcm,hel,hf,_⟩
   .exact ⟨[.slice (P.cellsOf e) [] .no],fO.single (.nilslice _),[],rfl,Cr _,fun x hx=>by simp at hx⟩
   .have hGG:=hB.sl _ _ (by rw [hxe] at hG;exact hG)
    obtain ⟨xs,us,l1,l2,l3⟩:=J5 h1 (fun t ht cs x hx hg=>ih t ht q cs x hx hg) a len (fun i hi=>⟨elems[i]'(by omega),(hf i hi).trans (Aa (by omega)),hGG.2 _ (Cm (Bl _))⟩)
    have hty:∀ x∈xs,TyN P N n e x.cells/\(aK P e=true->∃ l,x= .agg l)/\(aK P e=false->x.cells=[x]):=fun x hx=>by
     obtain ⟨i,hi⟩:=Ct hx
     have hlt:=(Ab.1 hi).1
     exact (l3 i x (us[i]'(by omega)) hi (Aa (by omega))).2.2.2
    by_cases h0:len=0
    .subst h0
     have:xs=[]:=Ay l1
     subst this
     exact ⟨[.slice (P.cellsOf e) [] .no],fO.single (.emptys _ a cap),[],rfl,Cr _,fun x hx=>by simp at hx⟩
    .obtain ⟨b,o,sp⟩:=a
     have hx0:xs[0]? =some (xs[0]'(by omega)):=Aa (by omega)
     have hu0:us[0]? =some (us[0]'(by omega)):=Aa (by omega)
     obtain ⟨c1,c2,c3,_⟩:=l3 0 _ _ hx0 hu0
     have hcell0:=c2 0 hpos
     have hlen0:0<(us[0]'(by omega)).length:=by rw [c3.1,c1];exact hpos
     rw [Aa hlen0] at hcell0
     have hsp:sp=none:=by
      have:=World.cell?_spot hcell0
      simpa [Addr.add] using this
     subst hsp
     have key:∀ (i j:Nat) x c,xs[i]? =some x->x.cells[j]? =some c->∃ v,(us.getD i []).getD j undef=v/\w.cell? ⟨b,o+i*P.cellsOf e+j,none⟩=some v/\RepW w v c:=by
      intro i j x c hx hj
      have hlt:=(Ab.1 hx).1
      have hui:us[i]? =some (us[i]'(by omega)):=Aa (by omega)
      obtain ⟨d1,d2,d3,_⟩:=l3 i x _ hx hui
      have hjl:=(Ab.1 hj).1
      have hju:j<(us[i]'(by omega)).length:=by rw [d3.1];exact hjl
      have hcell:=d2 j (by omega)
      rw [Aa hju] at hcell
      refine ⟨_,rfl,?_,?_⟩
      .rw [Fc,Fc,hui]
       simp only [Iu,Aa hju]
       rw [bC,bC] at hcell
       exact hcell
      .rw [Fc,Fc,hui]
       simp only [Iu,Aa hju]
       exact d3.2 j _ c (Aa hju) hj
     refine ⟨[.slice (P.cellsOf e) xs .no],fO.single (.slice (P.cellsOf e) b o len cap xs (fun i j=>(us.getD i []).getD j undef) l1 hlc (by have:=fR;omega) (fun x hx=>?_) (fun i j x c hx hj=>?_) (fun i j x c hx hj=>?_) (fun i j x c hx hj=>?_)),xs,rfl,by have h9:=hGG.1;simp only [Cj] at h9;omega,hty⟩
     .obtain ⟨i,hi⟩:=Ct hx
      have hlt:=(Ab.1 hi).1
      exact (l3 i x (us[i]'(by omega)) hi (Aa (by omega))).1
     .obtain ⟨v,rfl,h1,_⟩:=key i j x c hx hj;exact h1
     .obtain ⟨v,rfl,_,h2⟩:=key i j x c hx hj;exact h2.one
     .obtain ⟨v,rfl,_,h2⟩:=key i j x c hx hj;exact h2
  .cases h
theorem PG (hB:Bulk H N G) {r:Reach} {b0:Nat} {n:Nat} {t e:TypeId} {v:Value} {d:DataW H} {ps:List MemPlace} (ht:P.underlying t=some (.slice e)) (hOp:mW P (n+1) t=true) (hv:Ei P w r b0 t v) (h:DataW.Trod enc P w base spare held t v d ps) (hG:G d):
  ∃ xs,Rep (Mw w) [] v (.slice (P.cellsOf e) xs .no)/\xs.length<=N/\∀ x∈xs,TyN P N n e x.cells/\(aK P e=true->∃ l,x= .agg l)/\(aK P e=false->x.cells=[x]):=by
 obtain ⟨a,m,c,rfl⟩:=T8 ht (J7 (by unfold aK;rw [ht]) hv)
 obtain ⟨fuel,h⟩:=h
 obtain ⟨as,h1,h2⟩:=A3 hB (n+1) t hOp fuel _ _ h hG
 unfold TyN at h2
 rw [ht] at h2
 obtain ⟨xs,rfl,hl,hx⟩:=h2
 exact ⟨xs,(h1.2 0 _ _ rfl rfl).rep,hl,hx⟩
theorem CZ (hB:Bulk H N G) {r:Reach} {b0:Nat} {n:Nat} {t:TypeId} {v:Value} {d:DataW H} {ps:List MemPlace}
  (hag:aK P t=true) (hOp:mW P n t=true) (hv:Ei P w r b0 t v) (h:DataW.Trod enc P w base spare held t v d ps) (hG:G d):∃ as,Rep (Mw w) [] v (.agg as)/\TyN P N n t as:=by
 obtain ⟨cs,rfl⟩:=NV hag hv
 obtain ⟨fuel,h⟩:=h
 obtain ⟨as,h1,h2⟩:=A3 hB n t hOp fuel _ _ h hG
 have e:(Value.agg cs).cells.toList=cs.toList:=rfl
 rw [e] at h1
 refine ⟨as,?_,h2⟩
 have:=Rep.agg (M:=Mw w) (ob:=[]) cs.toList as h1.1 (fun i v a hv ha=>(h1.2 i v a hv ha).rep)
 simpa using this
end
open Go.RowKit Go.Sort
theorem JS (d:List Int) (cur:Array Value) (h:d.length<=cur.size):
  putCells (Eb .i64) 0 d.toArray cur=((cur.toList.take 0++d.map (Eb .i64))++cur.toList.drop (0+(d.map (Eb .i64)).length)).toArray:=by
 apply Array.ext_getElem?
 intro k
 simp only [putCells,Array.getElem?_mapIdx,Ij,Bp,Ju,Bn,Cj,Gj,Cr,true_and,Hu]
 by_cases hk:k<d.length
 .have hc:k<cur.size:=by omega
  rw [Fi hc,Af (by simpa using hk)]
  simp [hk]
 .rw [Aj (by simpa using Nat.le_of_not_lt hk),Cj,Bq,show d.length+(k-d.length)=k from by omega]
  cases hc:cur[k]? with
  | none=>simp [hc]
  | some y=>simp [hc,hk]
theorem JQ {w:World} {b k:Nat} {d:List Int} {cur:Array Value} {e:TypeId} {fz:Nat×Nat} {n:Nat} {os:Array Obj} (hb:w.heap[b]? =some (.cells cur e fz)) (h:d.length<=cur.size) (hk:k<w.heap.size):
  (grow (putRow (Eb .i64) (Sort.ahead w n) b 0 d.toArray) os).heap[k]? =(w.setRow b ((cur.toList.take 0++d.map (Eb .i64))++cur.toList.drop (0+(d.map (Eb .i64)).length)).toArray).heap[k]?:=by
 unfold grow putRow mapBlock Iq Sort.ahead
 dsimp only
 rw [Gw (by simpa using hk)]
 simp only [Array.getElem?_modify]
 by_cases hbk:b=k
 .subst hbk
  rw [if_pos rfl,if_pos rfl,hb]
  simp only [Ks,onCells,JS d cur h]
 .rw [if_neg hbk,if_neg hbk]
theorem DE {P:Program} {f:FuncId} (hbo:sU P f)
  (hnone:∀ (p:Option Addr) (cap:Nat) (w:World),Calls P f #[.slice p 0 cap] w fun e w'=>e= .returned (.tuple #[])/\w'=w)
  (hs:∀ (blk off cap:Nat) (zs:List Int) (w:World),Holds (Eb .i64) w blk off zs.toArray->blk<w.heap.size->zs.length<4611686018427387904->Calls P f #[.slice (some ⟨blk,off,none⟩) zs.length cap] w fun e w'=>
   e= .returned (.tuple #[])/\∃ n os,w'=grow (putRow (Eb .i64) (Sort.ahead w n) blk off (zs.mergeSort fun x y=>decide (x<=y)).toArray) os)
  (e:TypeId) (l:List Int) (hl:l.length<=1000000000):aA P f [.row 0 0] [.row 0 1 e (l.map (AVal.int .i64))] (.ret (.tup [])) [.row 0 1 e ((l.mergeSort fun x y=>decide (x<=y)).map (AVal.int .i64))]:=by
 intro M ob w vargs hm hr
 obtain ⟨hln,hr⟩:=hr
 match vargs,hln with
 | [v],_=>
 obtain ⟨a,n,c,rfl,hat⟩:=(hr 0 _ _ rfl rfl).row_inv
 obtain ⟨hs0,v0,e1,e2,e3,e4,hrow,hblk⟩:=hm.rowOf (k:=0) rfl
 rw [hat] at e4
 cases e4
 have hrow':=hrow
 obtain ⟨cv,hown,h1,hz,hc,hno,hone⟩:=hrow
 have hlen:(l.map (AVal.int .i64)).length=l.length:=by simp
 have hun:∀ {M':Imm} {ob':Hs},Rep M' ob' (.tuple #[]) (.tup []):=.tup [] [] rfl (fun i v a hv=>by simp at hv)
 by_cases h0:l=[]
 .subst h0
  have hn:n=0:=by
   rcases cP hown with ⟨q,_⟩ | ⟨b,cap,q,_⟩
   .cases q;rfl
   .cases q;rfl
  subst hn
  refine .inl ⟨hbo _ _,(hnone a c w).mono ?_⟩
  rintro e' w' ⟨rfl,rfl⟩
  have e0:(([]:List Int).mergeSort fun x y=>decide (x<=y))=[]:=by simp
  rw [e0]
  exact ⟨M,ob,Ext.refl _ _ _ _,hm,hun⟩
 .have hpos:0<l.length:=Hh.2 h0
  have hcw:∀ q,q<l.length->∃ u,cv[q]? =some u/\u= .int .i64 (l[q]!):=fun q hq=>by
   obtain ⟨u,hu,hr⟩:=hc q (.int .i64 l[q]) (by unfold aG;simp [hq,AVal.cells,Hr,Ki])
   refine ⟨u,hu,?_⟩
   rw [hr.int_inv.1]
   simp [hq]
  obtain ⟨hcl,hor⟩:=hown
  rcases hor with ⟨q1,q2⟩ | ⟨b,cap,cur,q1,_,q3,q4,q5,q6,q7⟩
  .omega
  cases q1
  have hown:w.ownsRow 0 e 1 (.slice (some ⟨b,0,none⟩) (l.map (AVal.int .i64)).length c) (l.map (AVal.int .i64)).length cv:=⟨hcl,.inr ⟨b,c,cur,rfl,Cr _,q3,q4,q5,q6,q7⟩⟩
  have hblt:b<w.heap.size:=eB q3
  have hH:Holds (Eb .i64) w b 0 l.toArray:=fun j hj=>by
   have hj:j<l.length:=by simpa using hj
   obtain ⟨u,hu,rfl⟩:=hcw j hj
   refine ⟨?_,by simp [Mx,q3]⟩
   rw [Bn,eU hown rfl hu]
   simp [hj]
  have hsl:(l.mergeSort fun x y=>decide (x<=y)).length=l.length:=Mk l
  rw [hlen]
  refine .inl ⟨hbo _ _,(hs b 0 c l w hH hblt (by omega)).mono ?_⟩
  rintro e' w' ⟨rfl,k,os,rfl⟩
  generalize hS:(l.mergeSort fun x y=>decide (x<=y))=S at hsl⊢
  have hmem:∀ x∈S,inR .i64 x:=fun x hx=>by
   have:x∈l:=by rw [<-hS] at hx;exact (List.mergeSort_perm l _).mem_iff.1 hx
   obtain ⟨i,hi⟩:=Ct this
   have hlt:=(Ab.1 hi).1
   obtain ⟨u,hu,hr⟩:=hc i (.int .i64 x) (by unfold aG;simp [hi,AVal.cells,Hr,Ki])
   exact hr.int_inv.2
  have hw:=hrow'.write (p:=0) (news:=S.map (Eb .i64)) (xs':=S.map (AVal.int .i64)) rfl (by omega) (by simp [hsl]) (fun u hu=>by
    obtain ⟨x,_,rfl⟩:=Bx.1 hu
    rfl) (by simp [hsl]) (fun x hx=>by
    obtain ⟨y,_,rfl⟩:=Bx.1 hx
    rfl) (fun q c' hq=>.inl (by
    obtain ⟨x,hx,hxc⟩:=fL hq
    rw [Hr] at hx
    rw [Ki] at hxc
    rw [Bi] at hx
    cases hSq:S[q]? with
    | none=>rw [hSq] at hx;cases hx
    | some y=>
     rw [hSq] at hx
     cases hx
     cases hxc
     have hlt:=(Ab.1 hSq).1
     exact ⟨Cr _,by simpa using hlt,.int .i64 y,by simp [hSq],.int _ _ (hmem y (Ap hSq))⟩))
  obtain ⟨cur',c1,c2,c3⟩:=hw
  rw [q3] at c1
  cases c1
  have hfit:S.length<=cur.size:=by simpa using c2
  have t:=hm.rowTurn (k:=0) (hs':=hs0) rfl e1 e3 (Cn _) e2 e3 c3 (fun b' _ hn=>setRow_other w b b' _ (fun e=>hn (by simp [Gh,e]))) rfl rfl rfl (by simp [Iq]) (fun b' hb'=>.inl hb')
  rw [fI e1] at t
  obtain ⟨t1,t2,_⟩:=t
  have hsz:(w.setRow b ((cur.toList.take 0++S.map (Eb .i64))++cur.toList.drop (0+(S.map (Eb .i64)).length)).toArray).heap.size=w.heap.size:=by simp [Iq]
  have heq:∀ j,j<w.heap.size->(grow (putRow (Eb .i64) (Sort.ahead w k) b 0 S.toArray) os).heap[j]? =(w.setRow b ((cur.toList.take 0++S.map (Eb .i64))++cur.toList.drop (0+(S.map (Eb .i64)).length)).toArray).heap[j]?:=
   fun j hj=>JQ q3 hfit hj
  have m:=t1.more (M':=M) (w':=grow (putRow (Eb .i64) (Sort.ahead w k) b 0 S.toArray) os) (fun _ _ _ h=>h) (fun _ _ _ h=>.inl h) (fun b' o y hy=>by
    obtain ⟨u,hu,r1,r2⟩:=t1.imm b' o y hy
    have hlt:=Cs _ _ hu
    rw [hsz] at hlt
    exact ⟨u,(Cy (a:=⟨b',o,none⟩) (heq b' hlt)).trans hu,r1,r2⟩) (fun j hj=>heq j (by rw [hsz] at hj;exact hj)) rfl rfl rfl (by rw [hsz];simp [grow,putRow,mapBlock,Sort.ahead])
  exact ⟨M,ob,t2.trans m.2,m.1,hun⟩
theorem UF (g:AVal->AVal) (x:AObj):(mapO g x).owns=x.owns:=by cases x<;>rfl
theorem rF {g:AVal->AVal} {ob:Hs} {obs:List AObj} {k b:Nat} (h:aH ob (obs.map (mapO g)) k b):aH ob obs k b:=by
 obtain ⟨c,hs,e1,e2,e3,e4⟩:=h
 rw [Bi] at e1
 cases hc:obs[k]? with
 | none=>rw [hc] at e1;cases e1
 | some x=>
  rw [hc] at e1
  cases e1
  exact ⟨x,hs,hc,by rw [<-UF g];exact e2,e3,e4⟩
theorem Mem.mapO {M:Imm} {ob:Hs} {obs:List AObj} {w:World} {g:AVal->AVal} (hg:∀ (M:Imm) (ob:Hs) v a,Rep M ob v a->Rep M ob v (g a)) (h2:Mem M ob obs w):Mem M ob (obs.map (AW.mapO g)) w:=by
 refine ⟨h2.imm,by simpa using h2.len,fun k c hk=>?_,fun k b ha=>h2.lt k b (rF ha),fun i j b ha hb=>h2.inj i j b (rF ha) (rF hb)⟩
 rw [Bi] at hk
 cases hc:obs[k]? with
 | none=>rw [hc] at hk;cases hk
 | some x=>
  rw [hc] at hk
  cases hk
  obtain ⟨hs,e1,e2⟩:=h2.obj k x hc
  refine ⟨hs,e1,?_⟩
  cases x with
  | cells T cs=>
   obtain ⟨b,q1,q2,cv,q3,q4,q5,q6⟩:=e2
   refine ⟨b,q1,q2,cv,q3,by rw [GZ];simpa using q4,q5,fun i v a hv ha=>?_⟩
   rw [GZ,Bi] at ha
   cases hi:cs[i]? with
   | none=>rw [hi] at ha;cases ha
   | some y=>rw [hi] at ha;cases ha;exact hg _ _ _ _ (q6 i v y hv hi)
  | _=>exact e2
theorem Ext.mapO {M M':Imm} {ob ob':Hs} {obs0 obs:List AObj} {w w':World} {g:AVal->AVal} (h1:Ext M ob obs0 w M' ob' obs w'):Ext M ob obs0 w M' ob' (obs.map (AW.mapO g)) w':=
 ⟨h1.imm,h1.new,h1.hs,h1.os,h1.tape,h1.output,h1.size,h1.keep,fun k b ha=>h1.fresh k b (rF ha)⟩
theorem To.mapO {E:Env} {fn:Func} {g:Goal} {st:List KI} {fr:List (Nat×AVal)} {obs:List AObj} (f:AVal->AVal) (hf:∀ (M:Imm) (ob:Hs) v a,Rep M ob v a->Rep M ob v (f a))
  (h:To E fn g (.code st fr (KL f obs))):To E fn g (.code st fr obs):=
 .mk fun hok M0 ob0 obs0 w0 a w hst hs=>by
  rw [KK] at h
  refine h.rec fun h=>h hok M0 ob0 obs0 w0 a w hst ?_
  obtain ⟨M,ob,hx,hm,hfr,r1,r2,r3⟩:=hs
  exact ⟨M,ob,hx.mapO,hm.mapO hf,hfr,r1,r2,by simpa using r3⟩
theorem To.loose {E:Env} {fn:Func} {g:Goal} {st:List KI} {fr:List (Nat×AVal)} {obs:List AObj} (h:To E fn g (.code st fr (KL (strip 5) obs))):To E fn g (.code st fr obs):=
 h.mapO _ fun _ _ _ _=>D2 5
end Go.AW
