/-
  The engine, second make, third part: code, contracts, statements. Over any program.
-/
import Derived.Defers
import Derived.RangeFuncRecord
import Derived.ChangeKeysEq
import Derived.Lib.Overlaps
import Derived.WalkKit
import Derived.ProofKit
import Derived.OpenShut
import Derived.Recover
import Derived.Sort.Grow
import Derived.Test.YtmalnhgopkfdaaaGreatWBD
set_option linter.all false
open Array renaming getD_eq_getD_getElem?->Ap,getElem?_append_left->Gl,getElem?_eq_getElem->Dt,getElem?_modify->Ek,getElem?_setIfInBounds_ne->Ci,getElem?_setIfInBounds_self_of_lt->Ca,replicate->Dw,toList_map->Gn
open Bool renaming and_assoc->Gv,and_eq_true->Ad,and_true->Ga,false_eq_true->Bq,not_eq_true'->Cb,or_eq_true->Dg
open Function renaming comp_def->Kw
open Go.Instr renaming checkKey->Fw
open Go.Region renaming binds->Ha,wanted->Cw
open Go.Result renaming andThen->Eb,andThen_ok->Ak
open Go.Sem renaming run_bind->Av,run_pure->Az
open Go.Value renaming okWide->Js
open Go.World renaming cell?->Jg,cell?_of_block->Cg,freeze->Jw,ownsRow_nil->Gg,putObj_heap_other->Ey,setRow->Ii,shape?->Kr
open List renaming all_eq_true->Cl,append_nil->Ay,drop_drop->Gx,drop_eq_getElem_cons->Ae,drop_zero->Db,eq_nil_of_length_eq_zero->Au,ext_getElem?->Ee,extract_eq_take_drop->Iz,getElem?_append_left->Ah,getElem?_append_right->Aq,getElem?_drop->Bu,getElem?_eq_getElem->Ac,getElem?_eq_none->Bf,getElem?_eq_some_iff->Ab,getElem?_map->Bb,getElem?_of_mem->Cz,getElem?_replicate->Dz,getElem?_set_ne->Bd,getElem?_set_self->Ax,getElem?_take_of_lt->Bj,getElem?_toArray->Kf,length_append->Ag,length_pos_iff->Fp,map_cons->Cn,map_map->Fb,map_nil->Kt,mem_cons->Bh,mem_filter->Jz,mem_map->Cy,mem_of_getElem?->Aw,mem_singleton->Df,prefix_refl->Cr,range'->Eh,range'_succ->Hk,range_eq_range'->Eu,replicate->Ai,size_toArray->Fo,take_append_drop->Fj,take_append_of_le_length->Dd,take_of_length_le->Cs
open Nat renaming add_comm->Kv,add_mul->Cc,add_zero->Dk,beq->Ar,ble->Ea,blt->Du,blt_eq->Ep,div_one->Ki,eq_zero_or_pos->Fz,le_of_ble_eq_true->Bw,le_refl->Bc,le_trans->Cx,lor->Ku,mod_eq_of_lt->Dx,mul_comm->Dj,mul_le_mul_right->Bp,one_mul->Jf,pow_le_pow_right->Dm,strongRecOn->Hz,sub_zero->Fy,zero_add->Bk,zero_le->Bm,zero_mul->Ij
open Ne renaming symm->Ds
open Option renaming isSome_iff_exists->Ct
open Option.some renaming injEq->Cu
open Prod renaming fst->Jn
open UInt8 renaming ofNat->Di,toNat_ofNat'->Fx
namespace Go.AW
open Go.RowKit
open Classical
section
variable {P:Program} {M:Imm} {ob:Hs} {L obs:List AObj} {w:World} {a:Act}
theorem kK {g:Nat->AVal} (hf:∀ t,Rep M ob (a.tmps.getD t undef) (g t)) {u:Value} {v:AVal} (hr:Rep M ob u v) {d:Option Nat} (hd:∀ d',d=some d'->d'<a.tmps.size):
  ∀ t,Rep M ob ((a.put d u).tmps.getD t undef) (fO g d v t):=by
 intro t
 unfold fO
 cases d with
 | none=>rw [if_neg (by simp)];exact hf t
 | some d=>
  have hlt:=hd d rfl
  by_cases h:d=t
  .subst h
   simp only [if_true,Act.put]
   rw [Ap,Ca hlt]
   exact hr
  .rw [if_neg (by simpa using h)]
   simp only [Act.put]
   rw [Ap,Ci h,<-Ap]
   exact hf t
theorem cY (a:Act) (d:Option Nat) (u:Value):(a.put d u).tmps.size=a.tmps.size/\(a.put d u).defers=a.defers:=by
 cases d<;>simp [Act.put]
theorem yE {fr:List (Nat×AVal)} (h:∀ t,Rep M ob (a.tmps.getD t undef) (aX fr t)) (x:Operand):Rep M ob (a.eval x) (ev fr x):=by
 cases x with
 | tmp t=>exact h t
 | const v=>exact lK v
 | global g=>exact .undef _
 | func f=>exact .func (.func f) [] [] [] [] rfl rfl (fun i v a h=>by simp at h) (fun i v a h=>by simp at h)
theorem XU {tab:List Nat} {all:List Oper} {j:Nat} {g:Nat->AVal} (h:∀ t,Rep M ob (a.tmps.getD t undef) (g t)) (x:Operand):Rep M ob (a.eval x) (evG tab all j g x):=by
 cases x with
 | tmp t=>
  simp only [evG]
  cases E8 tab j t 0 all with
  | true=>exact .undef _
  | false=>exact h t
 | const v=>exact lK v
 | global g=>exact .undef _
 | func f=>exact .func (.func f) [] [] [] [] rfl rfl (fun i v a h=>by simp at h) (fun i v a h=>by simp at h)
def G (rd:Option Nat) (P:Program) (ops:Array Oper) (p:Oper) (a:Act) (w:World) (next:Act->World->Prop) (Q:Exit->Act->World->Prop):Prop:=
 if Cw p (yielded ops a.tmps) then p.wpIn (fen rd) 0 P a w next Q else next (a.put p.dst undef) w
theorem fH {ops:Array Oper} {p:Oper} {ρ:Operand->AVal} (hf:∀ x,Rep M ob (a.eval x) (ρ x)) {b:Bool}
  (h:bZ ops.toList ρ p.guard=some b):Cw p (yielded ops a.tmps)=b:=by
 unfold bZ at h
 unfold Cw
 cases hg:p.guard with
 | none=>rw [hg] at h;simpa using h
 | some gw=>
  obtain ⟨j,want⟩:=gw
  rw [hg] at h
  dsimp only at h⊢
  split at h
  .rename_i q hq
   have hq':ops[j]? =some q:=by simpa using fT hq
   split at h
   .rename_i d hd
    have hfd:=hf (.tmp d)
    have hy:∀ u,a.tmps.getD d undef=u->yielded ops a.tmps j=match u with | .bool b=>some b | _=>none:=by
     intro u hu
     unfold yielded
     rw [hq']
     simp only [Option.bind_some,hd]
     rw [Ap] at hu
     cases ht:a.tmps[d]? with
     | none=>rw [ht] at hu;simp at hu;subst hu;rfl
     | some x=>rw [ht] at hu;simp at hu;subst hu;cases x<;>rfl
    split at h
    .rename_i b' hb
     rw [hb] at hfd
     have hv:a.tmps.getD d undef= .bool b':=hfd.bool_inv
     rw [hy _ hv]
     cases h
     simp
    .rename_i hb
     rw [hb] at hfd
     obtain ⟨us,hu,hl,_⟩:=hfd.tup_inv
     have hv:a.tmps.getD d undef= .tuple us.toArray:=hu
     rw [hy _ hv]
     cases h
     simp
    .cases h
   .cases h
  .cases h
theorem sI:Rep M ob undef (.tup []):=.tup [] [] rfl fun i v a h=>by simp at h
theorem tX:∀ {L obs:List AObj},aE L=aE obs->L.length<=obs.length->obs=L++Ai (obs.length-L.length) .dead:=fun {L obs} hg hl=>by
 refine Ee fun k=>?_
 by_cases hk:k<L.length
 .rw [Ah hk,qZ hk,qZ (show k<obs.length by omega),hg]
 .rw [Aq (by omega),Dz]
  by_cases hk2:k<obs.length
  .rw [if_pos (by omega),qZ hk2,<-hg]
   rcases dQ L k with ⟨h1,_⟩ | ⟨_,_,e⟩
   .omega
   .rw [e]
  .rw [if_neg (by omega),Bf (by omega)]
theorem Mem.norm (h:Mem M ob L w) (hg:aE L=aE obs) (hf:∀ (k:Nat),obs.length<=k->∀ hs,ob[k]? =some hs->hs=[]):
  ∃ ob',Mem M ob' obs w/\(∀ (k g:Nat) v,at' ob k g=some v->at' ob' k g=some v)/\∀ {M0:Imm} {ob0:Hs} {obs0:List AObj} {w0:World},Ext M0 ob0 obs0 w0 M ob L w->ob0.length<=obs.length->Ext M0 ob0 obs0 w0 M ob' obs w:=by
 by_cases hl:L.length<=obs.length
 .have e:=tX hg hl
  obtain ⟨m1,m2,_⟩:=h.extend (obs.length-L.length)
  rw [<-e] at m1 m2
  exact ⟨_,m1,fun k g v hv=>m2.hs.at hv,fun hx _=>hx.trans m2⟩
 .have e:=tX hg.symm (by omega)
  rw [e] at h
  obtain ⟨s1,s2,s3⟩:=h.shrink fun i hs hi=>hf i hi hs
  exact ⟨_,s1,s2,fun hx h0=>s3 (e▸hx) h0⟩
theorem fR {K K' Kp:AVal->List AObj->Prop} (hk:∀ v o,K v o->K' v o):∀ {r:OR},orF P obs K Kp r->orF P obs K' Kp r
 | .no,k=>k.elim
 | .val v,k=>hk _ _ k
 | .mkf fn fs cs,k=>hk _ _ k
 | .need p r,k=>⟨k.1,fR hk k.2⟩
 | .alt p v w,k=>k.imp (fun h=>⟨h.1,hk _ _ h.2⟩) (hk _ _)
 | .idx n f,⟨i,hi,k⟩=>⟨i,hi,fR hk k⟩
 | .elem xs i f,⟨x,hx,k⟩=>⟨x,hx,fR hk k⟩
 | .byte l i,⟨c,hc,k⟩=>⟨c,hc,hk _ _ k⟩
 | .text xs,⟨l,hl,hm,k⟩=>⟨l,hl,hm,hk _ _ k⟩
 | .find es key f,⟨o,ho,k⟩=>⟨o,ho,fR hk k⟩
 | .born x v,k=>hk _ _ k
 | .upd i x v,k=>hk _ _ k
 | .nilq xs neg,k=>fun b hb=>hk _ _ (k b hb)
 | .call f args,k=>CallG.mono hk k
 | .pan v,k=>k
theorem oN {seen:List AObj} {base:Nat} {K Kp:AVal->List AObj->Prop} (hb:base=aO obs) (hs:seen=obs):∀ {r:OR},orD P true true false seen obs base K Kp r->orF P obs K Kp r
 | .no,k=>k.elim
 | .val v,k=>k
 | .mkf fn fs cs,k=>k
 | .need p r,k=>⟨k.1,oN hb hs k.2⟩
 | .alt p v w,k=>k
 | .idx n f,⟨i,hi,k⟩=>⟨i,hi,oN hb hs k⟩
 | .elem xs i f,⟨x,hx,k⟩=>⟨x,hx,oN hb hs k⟩
 | .byte l i,k=>k
 | .text xs,k=>k
 | .find es key f,⟨o,ho,k⟩=>⟨o,ho,oN hb hs k⟩
 | .born x v,k=>by rw [hb] at k;exact k
 | .upd i x v,k=>k
 | .nilq xs neg,k=>k
 | .call f args,k=>by
  have k:CallD P f args true seen base obs K Kp:=k
  cases k with
  | pure r new h k=>subst hb hs;exact .eff [] [] r new rfl h k
  | sole _ h=>exact h
 | .pan v,k=>k
end
section
variable {rd:Option Nat} {M0:Imm} {ob0:Hs} {obs0:List AObj} {w0:World} {sz:Nat} {dfs:List (Nat×List AVal)} {E:Env} {ops:Array Oper} {Q:Exit->Act->World->Prop} {K:List (Nat×AVal)->List AObj->Prop} {Kp:(Nat->AVal)->AVal->List AObj->Prop}
def zH (M:Imm) (ob:Hs) (ds:List Deferred) (dfs:List (Nat×List AVal)):Prop:=
 ds.length=dfs.length/\∀ (i:Nat) d x,ds[i]? =some d->dfs[i]? =some x->d.target= .fn (.func x.1) #[]/\cB M ob d.args.toList x.2
theorem zH.nil {M:Imm} {ob:Hs}:zH M ob [] []:=⟨rfl,fun i d x h=>by simp at h⟩
theorem zH.nil_inv {M:Imm} {ob:Hs} {ds:List Deferred} (h:zH M ob ds []):ds=[]:=Au h.1
theorem zH.mono {M M':Imm} {ob ob':Hs} {ds:List Deferred} {dfs:List (Nat×List AVal)} (hM:∀ b o x,M b o x->M' b o x) (ho:dD ob ob') (h:zH M ob ds dfs):zH M' ob' ds dfs:=
 ⟨h.1,fun i d x hd hx=>⟨(h.2 i d x hd hx).1,(h.2 i d x hd hx).2.1,fun j v a hv ha=>((h.2 i d x hd hx).2.2 j v a hv ha).mono hM ho⟩⟩
theorem zH.monoA {M:Imm} {ob ob':Hs} {ds:List Deferred} {dfs:List (Nat×List AVal)} (ho:∀ (k g:Nat) v,at' ob k g=some v->at' ob' k g=some v) (h:zH M ob ds dfs):zH M ob' ds dfs:=
 ⟨h.1,fun i d x hd hx=>⟨(h.2 i d x hd hx).1,(h.2 i d x hd hx).2.1,fun j v a hv ha=>((h.2 i d x hd hx).2.2 j v a hv ha).monoA ho⟩⟩
def Mks (w0 w:World):List Deferred->Prop
 | []=>True
 | d::ds=>(∃ b,d.target= .collected b/\w0.heap.size<=b/\w.heap[b]? =some (.deferred (some []))/\∀ d'∈ds,d'.target≠ .collected b)/\Mks w0 w ds
theorem Mks.same {w0 w w':World}:∀ {ds:List Deferred},(∀ d∈ds,∀ b,d.target= .collected b->w.heap[b]? =some (.deferred (some []))->w'.heap[b]? =some (.deferred (some [])))->Mks w0 w ds->Mks w0 w' ds
 | [],_,_=>trivial
 | d::ds,hb,⟨⟨b,h1,h2,h3,h4⟩,h5⟩=>⟨⟨b,h1,h2,hb d (by simp) b h1 h3,h4⟩,Mks.same (fun d hd=>hb d (by simp [hd])) h5⟩
def cK (w0 w:World) (M:Imm) (ob:Hs) (ds:List Deferred) (dfs:List (Nat×List AVal)):Prop:=∃ ds1 ds2,ds=ds1++ds2/\zH M ob ds1 dfs/\Mks w0 w ds2
theorem Mem.alive_heap {M:Imm} {ob:Hs} {obs:List AObj} {w:World} (hm:Mem M ob obs w) {k b:Nat} (ha:aM ob obs k b):∃ o,w.heap[b]? =some o/\xO o=false:=by
 obtain ⟨c,hs,e1,e2,e3,e4⟩:=ha
 obtain ⟨hs',e5,hok⟩:=hm.obj k c e1
 rw [e3] at e5
 cases e5
 have row:∀ {v:Value} {n sz:Nat} {e:TypeId} {cv:List Value},w.ownsRow 0 e sz v n cv->blk hs=v.ownBlock.toList->∃ o,w.heap[b]? =some o/\xO o=false:=fun {v n sz e cv} ho hb=>by
  have e6:=qY hb e4
  rcases ho.2 with ⟨rfl,_⟩ | ⟨g,cap,cur,q1,_,q3,_⟩
  .cases e6
  .rw [q1] at e6
   cases e6
   exact ⟨_,q3,rfl⟩
 cases c with
 | dead=>cases e2
 | fcells cs=>cases e2
 | frow g sz xs=>cases e2
 | cells T cs=>
  obtain ⟨b',rfl,_,cv,h2,_⟩:=hok
  have:=cZ.1 e4
  subst this
  exact ⟨_,h2,rfl⟩
 | row g sz e xs=>
  obtain ⟨h1,v,h2,cv,h3,_⟩:=hok
  exact row h3 ((dU h1 h2).trans (dL h3))
 | tail g sz e=>
  obtain ⟨h1,v,h2,n,cv,h3,_⟩:=hok
  exact row h3 ((dU h1 h2).trans (dL h3))
 | mp ag es=>
  obtain ⟨b',rfl,_,en,cl,h2,_⟩:=hok
  have:=cZ.1 e4
  subst this
  exact ⟨_,h2,rfl⟩
 | bun g I=>
  obtain ⟨h1,bs,h2,h3,_⟩:=hok
  have e:blk hs=bs:=by rw [<-C4 (hs:=[fM bs]) rfl];exact dU h1 h2
  rw [e] at e4
  exact h3 b e4
theorem cK.nil {w0 w:World} {M:Imm} {ob:Hs}:cK w0 w M ob [] []:=⟨[],[],rfl,.nil,trivial⟩
theorem cK.marks {w0 w:World} {M:Imm} {ob:Hs} {ds:List Deferred} (h:cK w0 w M ob ds []):Mks w0 w ds:=by
 obtain ⟨d1,d2,rfl,h1,h2⟩:=h
 rw [h1.nil_inv];exact h2
theorem cK.bare {w0 w:World} {M M':Imm} {ob ob':Hs} {ds:List Deferred} (h:cK w0 w M ob ds []):cK w0 w M' ob' ds []:=⟨[],ds,rfl,.nil,h.marks⟩
theorem cK.mono {w0 w:World} {M M':Imm} {ob ob':Hs} {ds:List Deferred} {dfs:List (Nat×List AVal)} (hM:∀ b o x,M b o x->M' b o x) (ho:dD ob ob') (h:cK w0 w M ob ds dfs):cK w0 w M' ob' ds dfs:=
 let ⟨d1,d2,e,h1,h2⟩:=h;⟨d1,d2,e,h1.mono hM ho,h2⟩
theorem cK.monoA {w0 w:World} {M:Imm} {ob ob':Hs} {ds:List Deferred} {dfs:List (Nat×List AVal)} (ho:∀ (k g:Nat) v,at' ob k g=some v->at' ob' k g=some v) (h:cK w0 w M ob ds dfs):cK w0 w M ob' ds dfs:=
 let ⟨d1,d2,e,h1,h2⟩:=h;⟨d1,d2,e,h1.monoA ho,h2⟩
theorem cK.put {w0 w:World} {M:Imm} {ob:Hs} {a:Act} {d:Option Nat} {u:Value} {dfs:List (Nat×List AVal)} (h:cK w0 w M ob a.defers dfs):cK w0 w M ob (a.put d u).defers dfs:=by rw [(cY a d u).2];exact h
theorem cK.same {w0 w w':World} {M:Imm} {ob:Hs} {ds:List Deferred} {dfs:List (Nat×List AVal)} (hw:w'.heap=w.heap) (h:cK w0 w M ob ds dfs):cK w0 w' M ob ds dfs:=
 let ⟨d1,d2,e,h1,h2⟩:=h;⟨d1,d2,e,h1,h2.same fun d _ b _ h=>by rw [hw];exact h⟩
theorem cK.ext {w0 w w':World} {M M':Imm} {ob ob':Hs} {obs obs':List AObj} {ds:List Deferred} {dfs:List (Nat×List AVal)} (h:cK w0 w M ob ds dfs) (hm:Mem M ob obs w) (hx:Ext M ob obs w M' ob' obs' w'):cK w0 w' M' ob' ds dfs:=
 let ⟨d1,d2,e,h1,h2⟩:=h
 ⟨d1,d2,e,h1.mono hx.imm hx.hs,h2.same fun d _ b _ h=>by
  rw [hx.keep b (eI h) fun k ha=>by
   obtain ⟨o,q1,q2⟩:=hm.alive_heap ha
   rw [h] at q1
   cases q1
   cases q2]
  exact h⟩
def SS (M0:Imm) (ob0:Hs) (obs0:List AObj) (w0:World) (sz:Nat) (dfs:List (Nat×List AVal)) (fr:List (Nat×AVal)) (obs:List AObj) (a:Act) (w:World):Prop:=
 ∃ M ob,Ext M0 ob0 obs0 w0 M ob obs w/\Mem M ob obs w/\(∀ t,Rep M ob (a.tmps.getD t undef) (aX fr t))/\a.tmps.size=sz/\cK w0 w M ob a.defers dfs/\ob0.length<=obs.length
def PP (M0:Imm) (ob0:Hs) (obs0:List AObj) (w0:World) (sz:Nat) (dfs:List (Nat×List AVal)) (gf:Nat->AVal) (v:AVal) (obs:List AObj) (ch:List PanicEntry) (a:Act) (w:World):Prop:=
 ∃ M ob,Ext M0 ob0 obs0 w0 M ob obs w/\Mem M ob obs w/\oF M ob (.panicked ch) (.pan v)/\(∀ t,Rep M ob (a.tmps.getD t undef) (gf t))/\a.tmps.size=sz/\cK w0 w M ob a.defers dfs/\ob0.length<=obs.length
theorem Ext.lens {M M':Imm} {ob ob':Hs} {L L':List AObj} {w w':World} (hx:Ext M ob L w M' ob' L' w'):ob.length<=ob'.length:=by
 rcases Fz ob.length with h | h
 .omega
 .obtain ⟨hs',e,_⟩:=hx.hs (ob.length-1) _ (Ac (by omega))
  have:=(Ab.1 e).1
  omega
theorem fJ {P:Program} {hint base:Nat} {obs:List AObj} {ρ:Operand->AVal} {op:Op} {ty:TypeId} {K Kp:AVal->List AObj->Prop} (h:orF P obs K Kp (eop E hint base (aE obs) ρ op ty)):∀ c,op≠ .defer c:=by
 intro c e
 subst e
 exact h.elim
theorem DJ (hE:EnvOK E) {fr:List (Nat×AVal)} {obs:List AObj} {a:Act} {w:World} (hs:SS M0 ob0 obs0 w0 sz dfs fr obs a w) {p:Oper} (hd:∀ d,p.dst=some d->d<sz) {hint:Nat}
  (h:match bZ ops.toList (ev fr) p.guard with
   | none=>False
   | some false=>K (jD fr p.dst (.tup [])) obs
   | some true=>orF E.P obs (fun v obs=>K (jD fr p.dst v) obs) (Kp (aX fr)) (eop E hint (aO obs) (aE obs) (ev fr) p.op p.type))
  (hp:∀ v obs ch w,Kp (aX fr) v obs->PP M0 ob0 obs0 w0 sz dfs (aX fr) v obs ch a w->Q (.panic ch) a w):
  G rd E.P ops p a w (fun a w=>∃ fr obs,K fr obs/\SS M0 ob0 obs0 w0 sz dfs fr obs a w) Q:=by
 obtain ⟨M,ob,hx,hm,hf,hsz,hdf,h0⟩:=hs
 have hev:=yE hf
 have hl:=hm.len
 unfold G
 cases hw:bZ ops.toList (ev fr) p.guard with
 | none=>rw [hw] at h;exact h.elim
 | some b=>
  rw [hw] at h
  rw [fH hev hw]
  cases b with
  | false=>
   rw [if_neg (by simp)]
   refine ⟨_,obs,h,M,ob,hx,hm,?_,(cY _ _ _).1.trans hsz,hdf.put,h0⟩
   rw [dI]
   exact kK hf sI fun d' e=>hsz▸hd d' e
  | true=>
   rw [if_pos rfl]
   have hnd:∀ c,p.op≠ .defer c:=fJ h
   refine (oK hE hm hev h).wpIn hnd (fun u w' ⟨M',ob',L',x1,x2,x3⟩=>?_) (fun ch w' ⟨M',ob',L',x1,x2,x3⟩=>?_)
   .rcases x3 with ⟨u',v,e,hr,hk⟩ | ⟨ch,v,e,_⟩
    .cases e
     have:=x1.lens
     have:=x2.len
     refine ⟨_,L',hk,M',ob',hx.trans x1,x2,?_,(cY _ _ _).1.trans hsz,(hdf.ext hm x1).put,by omega⟩
     rw [dI]
     exact kK (fun t=>(hf t).mono x1.imm x1.hs) hr fun d' e=>hsz▸hd d' e
    .cases e
   .rcases x3 with ⟨u',v,e,_⟩ | ⟨ch',v,e,hr,hk⟩
    .cases e
    .cases e
     have:=x1.lens
     have:=x2.len
     exact hp v L' ch w' hk ⟨M',ob',hx.trans x1,x2,hr,fun t=>(hf t).mono x1.imm x1.hs,hsz,hdf.ext hm x1,by omega⟩
theorem wk {l:List Oper} {p:Oper} {a:Act} {w:World} {next:Act->World->Prop} (hg:G rd E.P ops p a w next Q) (hn:∀ a w,next a w->wpListIn (fen rd) 0 E.P ops Q l a w):wpListIn (fen rd) 0 E.P ops Q (p::l) a w:=by
 unfold wpListIn
 unfold G at hg
 split
 .rename_i hw;rw [if_pos hw] at hg;exact Oper.wpIn_mono hn hg
 .rename_i hw;rw [if_neg hw] at hg;exact ⟨fun _ _=>trivial,hn _ _ hg⟩
theorem oA (hE:EnvOK E) (hp:∀ g v obs ch a w,Kp g v obs->PP M0 ob0 obs0 w0 sz dfs g v obs ch a w->Q (.panic ch) a w) (hq:∀ fr obs a w,K fr obs->SS M0 ob0 obs0 w0 sz dfs fr obs a w->Q .normal a w):
  ∀ (l:List Oper) (n:Nat) (fr:List (Nat×AVal)) (obs:List AObj) (a:Act) (w:World),(∀ p∈l,∀ d,p.dst=some d->d<sz)->dN E ops.toList K Kp n l fr obs->SS M0 ob0 obs0 w0 sz dfs fr obs a w->wpListIn (fen rd) 0 E.P ops Q l a w
 | [],n,fr,obs,a,w,_,h,hs=>hq fr obs a w h hs
 | p::l,n,fr,obs,a,w,hd,h,hs=>by
  refine wk (DJ (K:=fun fr obs=>dN E ops.toList K Kp (n+1) l fr obs) (Kp:=Kp) (hint:=cP E p.dst) hE hs (hd p (by simp)) ?_ fun v obs ch w hk hpp=>hp (aX fr) v obs ch a w hk hpp) fun a' w' ⟨fr',obs',hk,hs'⟩=>oA hE hp hq l (n+1) fr' obs' a' w' (fun p hp=>hd p (by simp [hp])) hk hs'
  simp only [dN] at h
  cases hw:bZ ops.toList (ev fr) p.guard with
  | none=>rw [hw] at h;exact h.elim
  | some b=>
   rw [hw] at h
   cases b with
   | false=>exact h
   | true=>
    exact fR (fun v o h=>qE h) h
end
section
variable {rd:Option Nat} {M0:Imm} {ob0:Hs} {obs0:List AObj} {w0:World} {sz:Nat} {dfs:List (Nat×List AVal)} {E:Env} {ops:Array Oper} {Q:Exit->Act->World->Prop} {K:AS->Prop} {Kp:(Nat->AVal)->AVal->List AObj->Prop} {L0:Nat} {tab:List Nat}
theorem zN {P:Program} {og og':Nat->AObj} {hint base base':Nat} {ρ:Operand->AVal} {op:Op} {ty:TypeId} {z:AVal} {bs:List AObj} (h:eT P og' base' z bs (eop E hint base og ρ op ty)):∀ c,op≠ .defer c:=by
 intro c e
 subst e
 exact h.elim
theorem BV {og:Nat->AObj} {hint base k:Nat} {ρ:Operand->AVal} {op:Op} {ty:TypeId} {z:AVal} {x:AObj} (h:BW z k x (eop E hint base og ρ op ty)):∀ c,op≠ .defer c:=by
 intro c e
 subst e
 exact h.elim
def DS (M0:Imm) (ob0:Hs) (obs0:List AObj) (w0:World) (sz:Nat) (dfs:List (Nat×List AVal)) (L0:Nat) (s:AS) (a:Act) (w:World):Prop:=
 ∃ M ob L,Ext M0 ob0 obs0 w0 M ob L w/\Mem M ob L w/\aE L=s.o/\(∀ t,Rep M ob (a.tmps.getD t undef) (s.g t))/\a.tmps.size=sz/\cK w0 w M ob a.defers dfs/\ob0.length<=L0/\
  ∀ (k:Nat),L0<=k->(∀ i,¬ s.br i k)->∀ hs,ob[k]? =some hs->hs=[]
theorem YA (hE:EnvOK E) (hd:∀ (i:Nat) p,ops[i]? =some p->∀ d,p.dst=some d->d<sz) (hp:∀ g v obs ch a w,Kp g v obs->PP M0 ob0 obs0 w0 sz dfs g v obs ch a w->Q (.panic ch) a w)
  {s:AS} {a:Act} {w:World} (hs:DS M0 ob0 obs0 w0 sz dfs L0 s a w) {i:Nat} (h:aOp E ops tab L0 Kp i K s):wpOpIn (fen rd) 0 E.P ops Q i (fun a w=>∃ s',K s'/\DS M0 ob0 obs0 w0 sz dfs L0 s' a w) a w:=by
 obtain ⟨p,hi,h⟩:=h
 have hdp:=hd i p hi
 suffices hg:G rd E.P ops p a w (fun a w=>∃ s',K s'/\DS M0 ob0 obs0 w0 sz dfs L0 s' a w) Q by
  unfold wpOpIn
  rw [hi]
  dsimp only
  unfold G at hg
  split
  .rename_i hw;rw [if_pos hw] at hg;exact hg
  .rename_i hw;rw [if_neg hw] at hg;exact ⟨fun _ _=>trivial,hg⟩
 obtain ⟨M,ob,L,hx,hm,ho,hf,hsz,hdf,h0,hfree⟩:=hs
 have hev:∀ x,Rep M ob (a.eval x) (evG tab ops.toList i s.g x):=XU hf
 have skip:∀ {base:Nat},K (s.upd i p.dst (.tup []) base [])->Cw p (yielded ops a.tmps)=false->G rd E.P ops p a w (fun a w=>∃ s',K s'/\DS M0 ob0 obs0 w0 sz dfs L0 s' a w) Q:=fun {base} hk hw=>by
  unfold G
  rw [if_neg (by rw [hw];simp)]
  refine ⟨_,hk,?_⟩
  rw [uV]
  exact ⟨M,ob,L,hx,hm,ho,kK hf sI fun d' e=>hsz▸hdp d' e,(cY _ _ _).1.trans hsz,hdf.put,h0,hfree⟩
 rcases h with ⟨_,z,base,bs,⟨hb,_,hy⟩,hfr,hk⟩ | ⟨_,z,base,k,x,⟨⟨hb,hbr⟩,hw,hnd,hres⟩,hk⟩ | ⟨_,obs,hoo,hl0,hall,hlt,hy⟩
 .rcases hy with ⟨hw,rfl,rfl⟩ | ⟨hw,hres⟩
  .exact skip hk (fH hev hw)
  .unfold G
   rw [fH hev hw,if_pos rfl]
   obtain ⟨hid,hseen⟩:∃ hid,aE (cU hid L)=iX E tab i p.dst s:=by
    cases hbl:blD E p.dst with
    | true=>exact ⟨fun _=>True,by rw [eK];unfold iX;rw [if_pos hbl];simp⟩
    | false=>exact ⟨FA tab i s.br,by rw [eK,ho];unfold iX;rw [if_neg (by rw [hbl];simp)];rfl⟩
   rw [<-hseen] at hres
   refine (aBa hE hm hev (fun k hk=>hfree k (Cx hb hk.1) (hfr k hk)) hres).wpIn (zN hres) (fun u w' ⟨M',ob',L',u',e,x1,x2,x3,x4,x5,x6⟩=>?_) (fun ch w' ⟨M',ob',L',u',e,_⟩=>by cases e)
   cases e
   refine ⟨_,hk,M',ob',L',hx.trans x1,x2,?_,kK (fun t=>(hf t).mono x1.imm x1.hs) x5 fun d' e=>hsz▸hdp d' e,(cY _ _ _).1.trans hsz,(hdf.ext hm x1).put,h0,fun k h1 h2 hs he=>?_⟩
   .rw [x3,ho];rfl
   .have hnin:¬ inB base bs.length k:=fun h=>h2 i (.inr ⟨rfl,h⟩)
    exact x6 k hnin (hfree k h1 fun i' hb=>h2 i' (.inl hb)) hs he
 .unfold G
  rw [fH hev hw,if_pos rfl]
  have hseen:aE (cU (FA tab i s.br) L)=kT tab i s:=by
   rw [eK,ho]
   rfl
  rw [<-hseen] at hres hnd
  refine (YB hE hm hev (hfree base hb hbr) hnd hres).wpIn (BV hres) (fun u w' ⟨M',ob',L',u',e,x1,x2,x3,x4,x5,x6⟩=>?_) (fun ch w' ⟨M',ob',L',u',e,_⟩=>by cases e)
  cases e
  refine ⟨_,hk,M',ob',L',hx.trans x1,x2,?_,kK (fun t=>(hf t).mono x1.imm x1.hs) x5 fun d' e=>hsz▸hdp d' e,(cY _ _ _).1.trans hsz,(hdf.ext hm x1).put,h0,fun k' h1 h2 hs he=>x6 k' (hfree k' h1 h2) hs he⟩
  rw [x3,ho]
  rfl
 .rcases hy with ⟨hw,hk⟩ | ⟨hw,hor⟩
  .exact skip hk (fH hev hw)
  .unfold G
   rw [fH hev hw,if_pos rfl]
   have hof:=bI obs
   obtain ⟨ob1,n1,n2,n3⟩:=hm.norm (obs:=obs) (ho.trans hoo.symm) fun k hk=>hfree k (by omega) fun i hb=>by have:=hlt i k hb;omega
   have hev1:∀ x,Rep M ob1 (a.eval x) (evG tab ops.toList i s.g x):=fun x=>(hev x).monoA n2
   have hx1:=n3 hx (by omega)
   refine (oK hE n1 hev1 (oN rfl rfl hor)).wpIn (fJ (oN rfl rfl hor)) (fun u w' ⟨M',ob',L',x1,x2,x3⟩=>?_) (fun ch w' ⟨M',ob',L',x1,x2,x3⟩=>?_)
   .rcases x3 with ⟨u',v,e,hr,hk⟩ | ⟨ch,v,e,_⟩
    .cases e
     have l1:=x1.lens
     have l2:=x2.len
     have l3:=n1.len
     have hle:aO obs<=aO L':=by rw [bI,bI];omega
     refine ⟨_,hk hle,M',ob',L',hx1.trans x1,x2,rfl,kK (fun t=>((hf t).monoA n2).mono x1.imm x1.hs) hr fun d' e=>hsz▸hdp d' e,(cY _ _ _).1.trans hsz,((hdf.monoA n2).ext n1 x1).put,h0,fun k h1 h2 hs he=>?_⟩
     have hk1:k<aO L':=by rw [bI,<-l2];exact (Ab.1 he).1
     by_cases hk2:k<aO obs
     .obtain ⟨i',hb⟩:=hall k h1 hk2
      exact absurd (.inl hb) (h2 i')
     .exact absurd (.inr ⟨rfl,by omega,hk1⟩) (h2 i)
    .cases e
   .rcases x3 with ⟨u',v,e,_⟩ | ⟨ch',v,e,hr,hk⟩
    .cases e
    .cases e
     have l1:=x1.lens
     have l2:=x2.len
     have l3:=n1.len
     exact hp _ v L' ch a w' hk ⟨M',ob',hx1.trans x1,x2,hr,fun t=>((hf t).monoA n2).mono x1.imm x1.hs,hsz,(hdf.monoA n2).ext n1 x1,by omega⟩
theorem lQ (hE:EnvOK E) (hd:∀ (i:Nat) p,ops[i]? =some p->∀ d,p.dst=some d->d<sz) (hp:∀ g v obs ch a w,Kp g v obs->PP M0 ob0 obs0 w0 sz dfs g v obs ch a w->Q (.panic ch) a w) {Qs:AS->Prop}
  (hQ:∀ s a w,Qs s->DS M0 ob0 obs0 w0 sz dfs L0 s a w->Q .normal a w):
  ∀ (fuel:Nat) (listed:Array Bool) (s:AS) (a:Act) (w:World),wpA E ops tab L0 Kp Qs fuel listed s->DS M0 ob0 obs0 w0 sz dfs L0 s a w->wpAnyIn (fen rd) 0 E.P .any ops Q fuel listed a w
 | 0,_,_,_,_,h,hs=>⟨h.1,hQ _ _ _ h.2 hs⟩
 | fuel+1,_,_,_,_,h,hs=>⟨fun h0=>hQ _ _ _ (h.1 h0) hs,fun i hi=>by
   have:=YA (rd:=rd) (K:=wpA E ops tab L0 Kp Qs fuel _) hE hd hp hs (h.2 i hi)
   unfold wpOpIn at this⊢
   cases hq:ops[i]? with
   | none=>rw [hq] at this;obtain ⟨s',k1,k2⟩:=this;exact lQ hE hd hp hQ fuel _ s' _ _ k1 k2
   | some o=>
    rw [hq] at this
    dsimp only at this⊢
    split
    .rename_i hw
     rw [if_pos hw] at this
     exact Oper.wpIn_mono (fun a w ⟨s',k1,k2⟩=>lQ hE hd hp hQ fuel _ s' a w k1 k2) this
    .rename_i hw
     rw [if_neg hw] at this
     obtain ⟨_,s',k1,k2⟩:=this
     exact ⟨fun _ _=>trivial,lQ hE hd hp hQ fuel _ s' _ _ k1 k2⟩⟩
theorem DS.of {fr:List (Nat×AVal)} {obs:List AObj} {a:Act} {w:World} (h:SS M0 ob0 obs0 w0 sz dfs fr obs a w):DS M0 ob0 obs0 w0 sz dfs obs.length (gR fr obs []) a w:=by
 obtain ⟨M,ob,hx,hm,hf,hsz,hdf,h0⟩:=h
 exact ⟨M,ob,obs,hx,hm,rfl,hf,hsz,hdf,h0,fun k hk _ hs he=>by
  have:=(Ab.1 he).1
  rw [hm.len] at this
  omega⟩
theorem DS.back {fr:List (Nat×AVal)} {obs:List AObj} {br:List (Nat×Nat)} {n:Nat} {a:Act} {w:World} (hI:LI L0 n obs br) (h:DS M0 ob0 obs0 w0 sz dfs L0 (gR fr obs br) a w):SS M0 ob0 obs0 w0 sz dfs fr obs a w:=by
 obtain ⟨M,ob,L,hx,hm,ho,hf,hsz,hdf,h0,hfree⟩:=h
 have hof:=bI obs
 have hlow:=hI.low
 obtain ⟨ob1,n1,n2,n3⟩:=hm.norm (obs:=obs) ho fun k hk=>hfree k (by omega) fun i hb=>by have:=(hI.lt i k hb).1;omega
 exact ⟨M,ob1,n3 hx (by omega),n1,fun t=>(hf t).monoA n2,hsz,hdf.monoA n2,by omega⟩
theorem SS.draw {fr:List (Nat×AVal)} {obs:List AObj} {a:Act} {w:World} (h:SS M0 ob0 obs0 w0 sz dfs fr obs a w):SS M0 ob0 obs0 w0 sz dfs fr obs a {w with drawn:=w.drawn+1}:=by
 obtain ⟨M,ob,hx,hm,hf,hsz,hdf,h0⟩:=h
 exact ⟨M,ob,⟨hx.imm,hx.new,hx.hs,hx.os,hx.tape,hx.output,hx.size,hx.keep,hx.fresh⟩,hm.same (Bc _) fun _ _=>rfl,hf,hsz,cK.same (w:=w) rfl hdf,h0⟩
theorem G5 (hE:EnvOK E) {id:Nat} (ht:TabSp ops tab) (hd:∀ (i:Nat) p,ops[i]? =some p->∀ d,p.dst=some d->d<sz) {Kq:List (Nat×AVal)->List AObj->Prop}
  (hp:∀ g v obs ch a w,Kp g v obs->PP M0 ob0 obs0 w0 sz dfs g v obs ch a w->Q (.panic ch) a w) (hq:∀ fr obs a w,Kq fr obs->SS M0 ob0 obs0 w0 sz dfs fr obs a w->Q .normal a w)
  {fr:List (Nat×AVal)} {obs:List AObj} {a:Act} {w:World} (hs:SS M0 ob0 obs0 w0 sz dfs fr obs a w) (h:gB E ops.toList tab Kq Kp 0 ops.toList [] fr obs):(Code.region id ops true).wpIn (fen rd) 0 E.P Q a w:=by
 refine wpIn_region_any hE.mix ?_
 have hlist:∀ j,j<ops.size->(Dw ops.size false)[j]? =some (decide (j<0)):=by intro j hj;simp [hj]
 have hsz:(Dw ops.size false).size=ops.size:=by simp
 have hlen:ops.toList.length=ops.size:=by simp
 have hI:LI obs.length 0 obs []:=⟨by rw [bI];exact Bc _,fun k h1 h2=>by rw [bI] at h2;omega,fun i k hk=>by simp at hk⟩
 have:=WV ht ops.toList 0 _ [] fr obs rfl hlist hsz hI h
 rw [hlen] at this
 exact lQ hE hd hp (fun s a w ⟨fr',obs',br',n',e,hI',hk⟩ hds=>hq fr' obs' a w hk (DS.back hI' (e▸hds))) _ _ _ _ _ this (DS.of hs.draw)
end
def KI.item:KI->Item
 | .code c=>.code c
 | .inB id=>.inBlock id
 | .inL c=>.inLoop c
 | .beginR=>.beginRound
def eU (ks:List KI):List Item:=ks.map KI.item
theorem SQ (rd:Option Nat) (n:Nat):(fen rd).room n:=fun d h=>by cases h
theorem gK (P:Program) (rd:Option Nat) (m:Machine):m.fenced P (fen rd):=fenced_wide P m
def KW (rd:Option Nat) (P:Program) (Q:Exit->Act->World->Prop) (ks:List KI) (a:Act) (w:World):Prop:=
 ∀ (b:Frame) (cs:List Frame),b.roundOf=rd->∃ e a' w',Q e a' w'/\ArrivesIn (Machine.fenced P (fen rd)) P (lone (b.atR a (eU ks)) cs w) b [] cs e a' w'
section
variable {rd:Option Nat} {P:Program} {Q:Exit->Act->World->Prop} {ks ks':List KI} {a:Act} {w:World}
theorem KW.nil (h:Q .normal a w):KW rd P Q [] a w:=fun _ _ _=>⟨.normal,a,w,h,.refl _⟩
theorem KW.step (hs:∀ (b:Frame) cs,Go.step P (lone (b.atR a (eU ks)) cs w)= .next (lone (b.atR a (eU ks')) cs w)) (h:KW rd P Q ks' a w):KW rd P Q ks a w:=
 fun b cs hb=>let ⟨e,a',w',q,r⟩:=h b cs hb;⟨e,a',w',q,.of_steps (.one (gK _ _ _) (hs b cs)) r⟩
theorem KW.ret (h:Q .ret a w):KW rd P Q (.code .ret::ks) a w:=fun b _ _=>⟨.ret,a,w,h,fun hn=>⟨_,.one (gK _ _ _) (stepR_ret hn)⟩,fun _=>⟨eU ks,.refl _⟩⟩
theorem KW.code {c:Code} {Q':Exit->Act->World->Prop} (h:c.wpIn (fen rd) 0 P Q' a w) (h1:∀ a w,Q' .normal a w->KW rd P Q ks a w) (h2:∀ ch a w,Q' (.panic ch) a w->Q (.panic ch) a w)
  (h3:∀ e a w,Q' e a w->e= .normal\/∃ ch,e= .panic ch):KW rd P Q (.code c::ks) a w:=by
 intro b cs hb
 obtain ⟨e,a',w',q,r⟩:=h b (eU ks) cs hb trivial (SQ _ _)
 rcases h3 e a' w' q with rfl | ⟨ch,rfl⟩
 .obtain ⟨e2,a2,w2,q2,r2⟩:=h1 a' w' q b cs hb
  exact ⟨e2,a2,w2,q2,.of_steps r r2⟩
 .exact ⟨.panic ch,a',w',h2 ch a' w' q,r⟩
theorem KW.arrives (h:KW none P Q ks a w) (b:Frame) (cs:List Frame) (hb:b.roundOf=none):∃ e a' w',Q e a' w'/\Arrives P (lone (b.at a (eU ks)) cs w) b [] cs e a' w':=by
 obtain ⟨e,a',w',q,r⟩:=h b cs hb
 rw [Frame.atR_of_none hb] at r
 exact ⟨e,a',w',q,(arrivesIn_iff (I:=Machine.fenced P Fence.wide) (fun _ _=>stepsIn_wide) hb).1 r⟩
theorem jL {id:Nat}:∀ (ks ks':List KI),yD id ks=some ks'->exitTo id (eU ks)=some (eU ks')
 | [],ks',h=>by cases h
 | .inB i::r,ks',h=>by
  simp only [yD] at h
  simp only [eU,Cn,KI.item,exitTo]
  cases hb:Ar i id with
  | true=>
   rw [hb] at h
   cases h
   rw [if_pos (by simpa using aB hb)]
  | false=>
   rw [hb] at h
   have hne:¬ (i==id)=true:=fun e=>by
    have e2:i=id:=by simpa using e
    rw [e2] at hb
    exact absurd hb (by simp)
   rw [if_neg hne]
   exact jL r ks' h
 | .code c::r,ks',h=>jL r ks' h
 | .inL c::r,ks',h=>jL r ks' h
 | .beginR::r,ks',h=>jL r ks' h
end
def CV:Nat->List Oper->Bool
 | _,[]=>true
 | n,p::r=>(fC p).all (fun i=>Du i n)&&CV (n+1) r
def FR (tab:List Nat) (i:Nat) (d:Nat):Nat->List Oper->Bool
 | _,[]=>true
 | j,q::r=>(match q.dst with | some e=>!Ar e d|| !loose tab i j | none=>true)&&FR tab i d (j+1) r
def X9 (tab:List Nat) (all:List Oper):Nat->List Oper->Bool
 | _,[]=>true
 | i,p::r=>(match p.dst with | some d=>FR tab i d 0 all | none=>true)&&X9 tab all (i+1) r
def DX (ops:Array Oper):Bool:=CV 0 ops.toList&&X9 (eW [] ops.toList) ops.toList 0 ops.toList
def ZO (sz:Nat) (l:List Oper):Bool:=l.all fun p=>match p.dst with | some d=>Du d sz | none=>true
def cQ (sz:Nat):Code->Bool
 | .region _ ops dr=>ZO sz ops.toList&&(!dr||DX ops)
 | .seq a b=>cQ sz a&&cQ sz b
 | .cond _ a b=>cQ sz a&&cQ sz b
 | .block _ b=>cQ sz b
 | .loop b=>cQ sz b
 | _=>true
def KI.ok (sz:Nat):KI->Bool
 | .code c=>cQ sz c
 | .inL c=>cQ sz c
 | .inB _=>true
 | .beginR=>true
def bC (sz:Nat):List KI->Bool
 | []=>true
 | k::r=>k.ok sz&&bC sz r
theorem nV {sz id:Nat}:∀ (ks ks':List KI),yD id ks=some ks'->bC sz ks=true->bC sz ks'=true
 | [],ks',h,_=>by cases h
 | .inB i::r,ks',h,ho=>by
  simp only [yD] at h
  simp only [bC,Ad] at ho
  cases hb:Ar i id with
  | true=>rw [hb] at h;cases h;exact ho.2
  | false=>rw [hb] at h;exact nV r ks' h ho.2
 | .code c::r,ks',h,ho=>nV r ks' h (by simp only [bC,Ad] at ho;exact ho.2)
 | .inL c::r,ks',h,ho=>nV r ks' h (by simp only [bC,Ad] at ho;exact ho.2)
 | .beginR::r,ks',h,ho=>nV r ks' h (by simp only [bC,Ad] at ho;exact ho.2)
def Goal.res:Goal->Res
 | .pure r=>r
 | .full _ r _=>r
 | .keep _ r _=>r
def Goal.obs:Goal->List AObj
 | .pure _=>[]
 | .full _ _ o=>o
 | .keep _ _ o=>o
def Goal.strict:Goal->Bool
 | .keep _ _ _=>false
 | _=>true
def RR (M0:Imm) (ob0:Hs) (obs0:List AObj) (w0:World) (g:Goal) (e:Ending) (w':World):Prop:=∃ M' ob',Ext M0 ob0 obs0 w0 M' ob' g.obs w'/\Mem M' ob' g.obs w'/\oF M' ob' e g.res
def dS (P:Program) (fn:Func) (tmps:Array Value) (R:Ending->World->Prop):List Deferred->FrameMode->World->Prop
 | [],u,w=>Leaves P fn tmps R [] u w
 | d::ds,u,w=>u≠ .run/\((∃ r w',d.target= .collected r/\(Instr.takeDeferred r).run P w= .ok [] w'/\dS P fn tmps R ds u w')\/
   ∃ fv cap f args,d.target= .fn fv cap/\(invoke d.target d.args).run P w= .ok (.enter f args) w/\
   CallsD P f args u w fun
    | .returned _,u',w'=>dS P fn tmps R ds (settle u') w'
    | .panicked dN,u',w'=>dS P fn tmps R ds (raised u' dN) w'
    | .outgrown,_,w'=>R .outgrown w')
theorem dZ {P:Program} {fn:Func} {tmps:Array Value} {R:Ending->World->Prop}:∀ (ds:List Deferred) (u:FrameMode) (w:World) (fr:Frame)
  (cs:List Frame),fr.mode=u->fr.defers=ds->fr.tmps=tmps->P.funcs[fr.fn]? =some fn->dS P fn tmps R ds u w->
  ∃ e w' fr',R e w'/\Comes P (lone fr cs w) (lone fr' cs w') e/\fr'.fn=fr.fn/\fr'.kind=fr.kind/\fr'.going P w' e:=by
 intro ds
 induction ds with
 | nil=>
  intro u w fr cs hu hd ht hf h
  cases u with
  | run=>exact h.elim
  | returning=>
   obtain ⟨v,hr,hR⟩:=h
   exact ⟨.returned v,w,fr,hR,Steps.refl P _,rfl,rfl,hu,hd,fn,hf,ht▸hr⟩
  | panicking dN=>exact ⟨.panicked dN,w,fr,h,Steps.refl P _,rfl,rfl,hu,hd,fn,hf⟩
 | cons d ds ih=>
  intro u w fr cs hu hd ht hf h
  obtain ⟨hrun,⟨r,w',htar,htake,hrest⟩ | ⟨fv,cap,f,args,htar,hinv,hcall⟩⟩:=h
  .have h1:=step_collected (cs:=cs) (hu▸hrun) hd htar htake
   obtain ⟨e',w'',fr',hR',hs',hfn',hk',hl'⟩:=ih u w' {fr with defers:=[]++ds} cs hu rfl ht hf hrest
   exact ⟨e',w'',fr',hR',Comes.of_steps (.one h1) hs',hfn',hk',hl'⟩
  have h1:=step_defer (cs:=cs) (hu▸hrun) hd htar hinv
  obtain ⟨e,u',w',frX,hR,hsteps,hkX,hgo⟩:=hcall {fr with defers:=ds} cs hu
  cases e with
  | returned v=>
   have h2:=step_going_returned (c:={{fr with defers:=ds} with mode:=u'}) (cs:=cs) hkX hgo
   obtain ⟨e',w'',fr',hR',hs',hfn',hk',hl'⟩:=ih (settle u') w' {{{fr with defers:=ds} with mode:=u'} with mode:=settle u'} cs rfl rfl ht hf hR
   exact ⟨e',w'',fr',hR',Comes.of_steps (.head h1 (Steps.trans hsteps (.one h2))) hs',hfn',hk',hl'⟩
  | panicked dN=>
   have h2:=step_going_panicked (c:={{fr with defers:=ds} with mode:=u'}) (cs:=cs) hgo
   obtain ⟨e',w'',fr',hR',hs',hfn',hk',hl'⟩:=ih (raised u' dN) w' {{{fr with defers:=ds} with mode:=u'} with mode:=raised u' dN} cs rfl rfl ht hf hR
   exact ⟨e',w'',fr',hR',Comes.of_steps (.head h1 (Steps.trans hsteps (.one h2))) hs',hfn',hk',hl'⟩
  | outgrown=>exact ⟨.outgrown,w',fr,hR,Outgrown.of_steps (.one h1) hsteps,rfl,rfl,trivial⟩
theorem kJ {P:Program} {fr:Frame} {w:World} {e:Ending} (h:fr.going P w e) (hk:fr.kind= .normal):fr.leaving P w e:=by
 cases e with
 | returned v=>exact ⟨h.1,h.2.1,hk,h.2.2⟩
 | panicked ch=>exact h
 | outgrown=>exact h
structure Shut (w0 w w':World):Prop where
 os:w'.os=w.os
 tape:w'.tape=w.tape
 output:w'.output=w.output
 size:w'.heap.size=w.heap.size
 heap:∀ b,w'.heap[b]? =w.heap[b]?\/(w0.heap.size<=b/\w.heap[b]? =some (.deferred (some [])))
theorem kI {P:Program} {fn:Func} {tmps:Array Value} {R:Ending->World->Prop} {w0:World} {u:FrameMode} (hu:u≠ .run):∀ (ds:List Deferred) (w:World),Mks w0 w ds->(∀ w',Shut w0 w w'->Leaves P fn tmps R [] u w')->dS P fn tmps R ds u w
 | [],w,_,h=>h w ⟨rfl,rfl,rfl,rfl,fun b=>.inl rfl⟩
 | d::ds,w,⟨⟨b,h1,h2,h3,h4⟩,h5⟩,h=>by
  refine ⟨hu,.inl ⟨b,_,h1,run_takeDeferred h3,?_⟩⟩
  refine kI hu ds _ (h5.same fun d' hd' c hc h6=>?_) fun w' hs=>h w' ⟨hs.os,hs.tape,hs.output,hs.size.trans World.putObj_size,fun c=>?_⟩
  .have hne:c≠b:=fun e=>by subst e;exact h4 d' hd' hc
   rw [Ey hne];exact h6
  .by_cases hc:c=b
   .subst hc;exact .inr ⟨h2,h3⟩
   .have:=hs.heap c
    rwa [Ey hc] at this
theorem Mem.shut {w0 w w':World} {M:Imm} {ob:Hs} {obs:List AObj} (hm:Mem M ob obs w) (h:Shut w0 w w'):Mem M ob obs w':=by
 have old:∀ {b:Nat} {o:Obj},w.heap[b]? =some o->xO o=false->w'.heap[b]? =some o:=fun {b o} h1 h2=>by
  rcases h.heap b with q | ⟨_,q⟩
  .rw [q];exact h1
  .rw [h1] at q;cases q;cases h2
 refine ⟨fun b o x hx=>?_,hm.len,fun k c hc=>?_,fun k b ha=>by rw [h.size];exact hm.lt k b ha,hm.inj⟩
 .obtain ⟨v,hv,hr⟩:=hm.imm b o x hx
  refine ⟨v,?_,hr⟩
  unfold Jg at hv⊢
  dsimp only at hv⊢
  cases hq:w.heap[b]? with
  | none=>rw [hq] at hv;cases hv
  | some ob=>
   rw [hq] at hv
   cases ob with
   | cells c _ _=>rw [old hq rfl];exact hv
   | _=>cases hv
 .obtain ⟨hs',hob,hok⟩:=hm.obj k c hc
  refine ⟨hs',hob,hok.mono (fun _ _ _ h=>h) (dD.refl _) (fun _ _ _ _ h=>h) (fun b c' p1 p2 hc'=>?_)⟩
  obtain ⟨o,q1,q2⟩:=hm.alive_heap ((cI hc hob).2 ⟨p1,p2⟩)
  rw [hc'] at q1
  cases q1
  exact old hc' q2
theorem Ext.shut {w0 w w':World} {M0 M:Imm} {ob0 ob:Hs} {obs0 obs:List AObj} (hx:Ext M0 ob0 obs0 w0 M ob obs w) (h:Shut w0 w w'):Ext M0 ob0 obs0 w0 M ob obs w':=
 ⟨hx.imm,hx.new,hx.hs,h.os.trans hx.os,h.tape.trans hx.tape,h.output.trans hx.output,by rw [h.size];exact hx.size,fun b hb hn=>by
  rcases h.heap b with q | ⟨q,_⟩
  .rw [q];exact hx.keep b hb hn
  .omega,hx.fresh⟩
def zG (E:Env) (fn:Func) (M0:Imm) (ob0:Hs) (obs0:List AObj) (w0:World) (g:Goal) (b:Bool) (a:Act) (w:World):Prop:=match E.rd with
 | none=>dS E.P fn a.tmps (RR M0 ob0 obs0 w0 g) a.defers .returning w
 | some _=>RR M0 ob0 obs0 w0 g (.returned (.bool b)) w
def mL (E:Env) (fn:Func) (M0:Imm) (ob0:Hs) (obs0:List AObj) (w0:World) (g:Goal):Exit->Act->World->Prop
 | .normal,a,w=>zG E fn M0 ob0 obs0 w0 g true a w
 | .ret,a,w=>zG E fn M0 ob0 obs0 w0 g false a w
 | .panic ch,a,w=>(match E.rd with | none=>dS E.P fn a.tmps (RR M0 ob0 obs0 w0 g) a.defers (.panicking ch) w | some _=>False)
 | _,_,_=>False
def mU (g:Goal) (ob0:Hs):Prop:=ob0.length=g.n0/\(g.strict=true->∀ hs∈ob0,hs.length=1)
def cS (E:Env) (fn:Func) (g:Goal) (ks:List KI) (fr:List (Nat×AVal)) (obs:List AObj):Prop:=
 bC fn.ntmps ks=true->∀ M0 ob0 obs0 w0 a w,mU g ob0->SS M0 ob0 obs0 w0 fn.ntmps E.df fr obs a w->KW E.rd E.P (mL E fn M0 ob0 obs0 w0 g) ks a w
def UH (E:Env) (fn:Func) (g:Goal) (fr:List (Nat×AVal)) (obs:List AObj):Prop:=
 ∀ M0 ob0 obs0 w0 a w,mU g ob0->SS M0 ob0 obs0 w0 fn.ntmps E.df fr obs a w->dS E.P fn a.tmps (RR M0 ob0 obs0 w0 g) a.defers .returning w
def UG (E:Env) (fn:Func) (g:Goal) (gf:Nat->AVal) (v:AVal) (obs:List AObj):Prop:=
 ∀ M0 ob0 obs0 w0 ch a w,mU g ob0->PP M0 ob0 obs0 w0 fn.ntmps E.df gf v obs ch a w->dS E.P fn a.tmps (RR M0 ob0 obs0 w0 g) a.defers (.panicking ch) w
def iI (E:Env) (fn:Func) (g:Goal) (gf:Nat->AVal) (v:AVal) (obs:List AObj):Prop:=match E.rd with
 | some _=>False
 | none=>match E.df with
  | []=>FO g .pan v obs
  | _::_=>UG E fn g gf v obs
def aAC (E:Env) (fn:Func) (g:Goal) (R:RI) (n:Nat) (rest:List Oper) (br:List (Nat×Nat)) (fr:List (Nat×AVal)) (obs:List AObj):Prop:=
 match R.dr with
 | false=>dN E R.all (cS E fn g R.ks) (iI E fn g) n rest fr obs
 | true=>gB E R.all R.tab (cS E fn g R.ks) (iI E fn g) n rest br fr obs
def R2 (E:Env) (fn:Func) (g:Goal) (R:RI) (n:Nat) (d:Option Nat) (rest:List Oper) (br:List (Nat×Nat)) (fr:List (Nat×AVal)) (len:Nat) (obs:List AObj) (v:AVal):Prop:=
 wrP rest n d fr v fun fr=>aAC E fn g R (n+1) rest (bif R.dr then born n len (fI len obs) br else br) fr obs
def tM (E:Env) (fn:Func) (g:Goal):St->Prop
 | .code ks fr obs=>cS E fn g ks fr obs
 | .head ks fr obs=>cS E fn g ks fr obs
 | .mid R n rest br fr obs=>aAC E fn g R n rest br fr obs
 | .pend R n d rest br fr obs r=>(match R.dr with
  | false=>orF E.P obs (fun v obs'=>R2 E fn g R n d rest br fr (aO obs) obs' v) (iI E fn g (aX fr)) r
  | true=>orD E.P (soN E R.tab R.all n d) (uoN E R.tab R.all n d) (blD E d) (mO E R.tab n br obs d) obs (aO obs) (fun v obs'=>R2 E fn g R n d rest br fr (aO obs) obs' v) (iI E fn g (aX fr)) r)
 | .got R n d rest br fr len obs v=>R2 E fn g R n d rest br fr len obs v
 | .leave none fr obs=>UH E fn g fr obs
 | .leave (some v) fr obs=>UG E fn g (aX fr) v obs
section
variable {E:Env} {M:Imm} {ob:Hs} {obs:List AObj} {w:World}
theorem G1 (hE:EnvOK E) (hm:Mem M ob obs w) {fr:List (Nat×AVal)} {x:AVal} {tmps:Array Value} {r:ResultVar} (h:aAf E obs fr r=some x) (hf:∀ t,Rep M ob (tmps.getD t undef) (aX fr t)):
  ∃ v,(match r with | .tmp t=>(Pure.pure (tmps.getD t undef):Sem Value) | .cell a t=>(asAddr (tmps.getD a undef)) >>= loadVar t).run E.P w= .ok v w/\Rep M ob v x:=by
 cases r with
 | tmp t=>cases h;exact ⟨_,rfl,hf t⟩
 | cell a t=>
  simp only [aAf] at h
  show ∃ v,((asAddr (tmps.getD a undef)) >>= loadVar t).run E.P w= .ok v w/\Rep M ob v x
  have ha:=hf a
  split at h
  .rename_i ti k off hT hg
   rw [hg] at ha
   split at h
   .rename_i cs hog
    split at h
    .rename_i l hl
     obtain ⟨b,hav,hb⟩:=ha.ref_inv
     obtain ⟨hs,h1,b',rfl,_,cv,hh,hlen,_,hrep⟩:=hm.obj k _ (bU hog (by simp))
     have hbb:b'=b:=by rw [bT h1] at hb;simpa using hb
     subst hbb
     obtain ⟨t1,t2⟩:=gO hl
     obtain ⟨u,hu,hr⟩:=EV (P:=E.P) (w:=w) (M:=M) (ob:=ob) (hE.tab t ti hT) (b:=b') (o:=off) h t1 fun i c hi=>by
      have hci:=t2 i c hi
      rw [jP,Bu] at hci
      have hlt:off+i<cv.length:=by rw [hlen];exact (Ab.1 hci).1
      exact ⟨cv[off+i],by rw [cell_of_row w b' _ _ _ (0,0) hh];simp [hlt],hrep _ _ c (Ac hlt) hci⟩
     refine ⟨u,?_,hr⟩
     rw [hav]
     simp only [asAddr,Av,Az,Ak]
     exact hu
    .cases h
   .cases h
  .cases h
theorem wK (hE:EnvOK E) (hm:Mem M ob obs w) {fr:List (Nat×AVal)} {tmps:Array Value} (hf:∀ t,Rep M ob (tmps.getD t undef) (aX fr t)):
  ∀ (rs:List ResultVar) {xs:List AVal},PJ E obs fr rs=some xs->∃ vs,(rs.mapM fun (r:ResultVar)=>(match r with | .tmp t=>(Pure.pure (tmps.getD t undef):Sem Value) | .cell a t=>(asAddr (tmps.getD a undef)) >>= loadVar t)).run E.P w= .ok vs w/\cB M ob vs xs
 | [],xs,h=>by
  cases h
  exact ⟨[],by simp,rfl,fun i v a h=>by simp at h⟩
 | r::rs,xs,h=>by
  simp only [PJ] at h
  split at h
  .rename_i x l hx hl
   cases h
   obtain ⟨v,hv,hr⟩:=G1 hE hm hx hf
   obtain ⟨vs,hvs,hrs⟩:=wK hE hm hf rs hl
   refine ⟨v::vs,?_,cB.cons hr hrs⟩
   rw [List.mapM_cons]
   simp only [Av]
   rw [hv]
   simp only [Ak]
   rw [hvs]
   simp
  .cases h
theorem G3 (hE:EnvOK E) (hm:Mem M ob obs w) {fn:Func} {fr:List (Nat×AVal)} {x:AVal} {tmps:Array Value} (h:PK E obs fn.results.toList fr=some x)
  (hf:∀ t,Rep M ob (tmps.getD t undef) (aX fr t)):∃ v,(results fn tmps).run E.P w= .ok v w/\Rep M ob v x:=by
 have hl:∃ xs,PJ E obs fr fn.results.toList=some xs/\((∃ y,xs=[y]/\x=y)\/(xs.length≠1/\x= .tup xs)):=by
  unfold PK at h
  split at h
  .rename_i y hy;cases h;exact ⟨_,hy,.inl ⟨_,rfl,rfl⟩⟩
  .rename_i l hne hl
   cases h
   refine ⟨_,hl,.inr ⟨fun h1=>?_,rfl⟩⟩
   match l,h1 with
   | [y],_=>exact hne y rfl
  .cases h
 obtain ⟨xs,hxs,hor⟩:=hl
 obtain ⟨vs,hvs,hrep⟩:=wK hE hm hf _ hxs
 have hr:fn.results=fn.results.toList.toArray:=by simp
 have key:(results fn tmps).run E.P w= .ok (if h:vs.toArray.size=1 then vs.toArray[0] else .tuple vs.toArray) w:=by
  unfold results
  rw [hr,List.mapM_toArray]
  simp only [Av,map_eq_pure_bind]
  have:(fn.results.toList.mapM fun (r:ResultVar)=>(match r with | .tmp t=>(Pure.pure (tmps.getD t undef):Sem Value) | .cell a t=>(asAddr (tmps.getD a undef)) >>= loadVar t)).run E.P w= .ok vs w:=hvs
  refine (congrArg (fun z=>Eb (Eb z _) _) this).trans ?_
  simp
 rw [key]
 rcases hor with ⟨y,rfl,rfl⟩ | ⟨h1,rfl⟩
 .match vs,hrep with
  | [v],hrep=>exact ⟨v,by simp,hrep.2 0 v _ rfl rfl⟩
  | [],hrep=>have:=hrep.1;simp at this
  | _::_::_,hrep=>have:=hrep.1;simp at this
 .have hne:¬ vs.toArray.size=1:=by rw [Fo,hrep.1];exact h1
  exact ⟨.tuple vs.toArray,by rw [dif_neg hne],.tup vs xs hrep.1 hrep.2⟩
theorem iU:∀ {n j:Nat} {ks:List Nat},lN n j ks=true->∀ i,i<n->ks[i]? =some (j+i)
 | 0,_,_,_,i,hi=>by omega
 | n+1,j,[],h,_,_=>by cases h
 | n+1,j,k::r,h,i,hi=>by
  simp only [lN,Ad] at h
  have:=aB h.1
  subst this
  cases i with
  | zero=>rfl
  | succ i=>
   have:=iU h.2 i (by omega)
   rw [show k+(i+1)=k+1+i from by omega]
   simpa using this
theorem pX {M0:Imm} {ob0:Hs} {obs0:List AObj} {w0:World} {g:Goal} {mkR:AVal->Res} {v:AVal} {u:Value} (hst:mU g ob0) (hx:Ext M0 ob0 obs0 w0 M ob obs w) (hm:Mem M ob obs w) (hr:Rep M ob u v) (h:FO g mkR v obs):
  ∃ M' ob' y,Ext M0 ob0 obs0 w0 M' ob' g.obs w/\Mem M' ob' g.obs w/\Rep M' ob' u y/\mkR y=g.res:=by
 cases g with
 | pure r=>
  obtain ⟨M1,g1,g2,_,g4⟩:=hm.frzL [v]
  have h0:ob0=[]:=Au hst.1
  subst h0
  have hx1:=hx.trans g2
  have no:∀ k b,¬ aM ([]:Hs) [] k b:=fun k b ⟨c,hs,e,_⟩=>by simp at e
  exact ⟨M1,[],_,⟨hx1.imm,hx1.new,dD.refl _,hx1.os,hx1.tape,hx1.output,hx1.size,hx1.keep,fun k b ha=>(no k b ha).elim⟩,g1.bare,g1.cvtV (n0:=0) (ks:=[]) rfl 5 u v (hr.monoM g2.imm),h⟩
 | full n0 r obs'=>
  obtain ⟨fz,ks,⟨hk,hbeg⟩,h1,h2⟩:=h
  obtain ⟨M1,g1,g2,_,g4⟩:=Mem.frzs fz M obs hm
  obtain ⟨c1,c2,_⟩:=g1.cvt (n0:=n0) hk
  have hx1:=hx.trans g2
  have hn:ob0.length=n0:=hst.1
  refine ⟨M1,_,_,⟨hx1.imm,hx1.new,fun j hs hj=>?_,hx1.os,hx1.tape,hx1.output,hx1.size,hx1.keep,fun j b ha=>?_⟩,?_,g1.cvtV (n0:=n0) hk 5 u v (hr.monoM g2.imm),h1⟩
  .have hlt:j<n0:=by rw [<-hn];exact (Ab.1 hj).1
   have hkj:=iU hbeg j hlt
   rw [Bk] at hkj
   obtain ⟨hs',e1,t,e2⟩:=hx1.hs j hs hj
   have hl1:=hst.2 rfl hs (Aw hj)
   refine ⟨fY n0 j (aE (AW.frzs fz obs) j) hs',?_,?_⟩
   .rw [eZ,hkj]
    simp [e1]
   .unfold fY
    split
    .rw [<-e2]
     have:(hs++t).take 1=hs:=by rw [Dd (by omega),Cs (by omega)]
     rw [this]
     exact ⟨_,rfl⟩
    .exact ⟨t,e2⟩
  .obtain ⟨k,_,ha'⟩:=c2 j b (by rw [h2];exact ha)
   exact hx1.fresh k b ha'
  .show Mem M1 _ obs' w
   rw [<-h2]
   exact c1
 | keep n0 r obs'=>
  obtain ⟨⟨hb1,hb2⟩,h1,h2⟩:=h
  rw [wX] at hb2 h2
  obtain ⟨m1,m2⟩:=hm.cutO hb2
  have hn:ob0.length=n0:=hst.1
  rw [h2] at m1 m2
  refine ⟨M,ob.take n0,v,⟨hx.imm,hx.new,fun k hs hk=>?_,hx.os,hx.tape,hx.output,hx.size,hx.keep,fun k b ha=>hx.fresh k b (m2 ha)⟩,m1,vI 5 hr hb1,h1⟩
  obtain ⟨hs',e1,e2⟩:=hx.hs k hs hk
  have hlt:k<n0:=by have:=(Ab.1 hk).1;omega
  exact ⟨hs',by rw [Bj hlt];exact e1,e2⟩
end
section
variable {E:Env} {fn:Func} {g:Goal}
theorem go_ret (hE:EnvOK E) (hdf:E.df=[]) (hrd:E.rd=none) {fr:List (Nat×AVal)} {obs:List AObj} {v:AVal} (hv:PK E obs fn.results.toList fr=some v) (h:FO g .ret v obs) {M0:Imm} {ob0:Hs} {obs0:List AObj} {w0:World} {a:Act} {w:World}
  (hst:mU g ob0) (hs:SS M0 ob0 obs0 w0 fn.ntmps E.df fr obs a w):dS E.P fn a.tmps (RR M0 ob0 obs0 w0 g) a.defers .returning w:=by
 obtain ⟨M,ob,hx,hm,hf,hsz,hd,h0⟩:=hs
 rw [hdf] at hd
 refine kI (w0:=w0) (by intro h;cases h) _ _ hd.marks fun w' hsh=>?_
 have hx:=hx.shut hsh
 have hm:=hm.shut hsh
 obtain ⟨u,hu,hr⟩:=G3 hE hm hv hf
 obtain ⟨M',ob',y,x1,x2,x3,x4⟩:=pX hst hx hm hr h
 refine ⟨u,hu,M',ob',x1,x2,?_⟩
 rw [<-x4]
 exact x3
theorem KL (hE:EnvOK E) {b:Bool} {fr:List (Nat×AVal)} {obs:List AObj} (h:VN E fn g (tM E fn g) b fr obs) {M0:Imm} {ob0:Hs} {obs0:List AObj} {w0:World} {a:Act} {w:World}
  (hst:mU g ob0) (hs:SS M0 ob0 obs0 w0 fn.ntmps E.df fr obs a w):zG E fn M0 ob0 obs0 w0 g b a w:=by
 unfold VN at h
 unfold zG
 cases hrd:E.rd with
 | some l=>
  rw [hrd] at h
  dsimp only at h⊢
  rw [CO] at h
  obtain ⟨M,ob,hx,hm,hf,hsz,hd,h0⟩:=hs
  obtain ⟨M',ob',y,x1,x2,x3,x4⟩:=pX hst hx hm (.bool b) h
  exact ⟨M',ob',x1,x2,by rw [<-x4];exact x3⟩
 | none=>
 rw [hrd] at h
 dsimp only at h⊢
 cases hdf:E.df with
 | nil=>
  rw [hdf] at h
  dsimp only at h
  split at h
  .rename_i v hv
   rw [iO,CO] at h
   exact go_ret hE hdf hrd hv h hst hs
  .exact h.elim
 | cons d ds=>
  rw [hdf] at h
  exact h M0 ob0 obs0 w0 a w hst hs
theorem aAM (hdf:E.df=[]) {v:AVal} {obs:List AObj} (h:FO g .pan v obs) {M0:Imm} {ob0:Hs} {obs0:List AObj} {w0:World} {sz:Nat} {gf:Nat->AVal} {ch:List PanicEntry} {a:Act} {w:World}
  (hst:mU g ob0) (hs:PP M0 ob0 obs0 w0 sz E.df gf v obs ch a w):dS E.P fn a.tmps (RR M0 ob0 obs0 w0 g) a.defers (.panicking ch) w:=by
 obtain ⟨M,ob,hx,hm,⟨u,e,hr⟩,_,_,hd,_⟩:=hs
 rw [hdf] at hd
 refine kI (w0:=w0) (by intro h;cases h) _ _ hd.marks fun w' hsh=>?_
 obtain ⟨M',ob',y,x1,x2,x3,x4⟩:=pX hst (hx.shut hsh) (hm.shut hsh) hr h
 refine ⟨M',ob',x1,x2,?_⟩
 rw [<-x4]
 exact ⟨u,e,x3⟩
theorem vD {gf:Nat->AVal} {v:AVal} {obs:List AObj} (h:iI E fn g gf v obs) {M0:Imm} {ob0:Hs} {obs0:List AObj} {w0:World} {ch:List PanicEntry} {a:Act} {w:World}
  (hst:mU g ob0) (hs:PP M0 ob0 obs0 w0 fn.ntmps E.df gf v obs ch a w):mL E fn M0 ob0 obs0 w0 g (.panic ch) a w:=by
 unfold iI at h
 unfold mL
 cases hrd:E.rd with
 | some l=>rw [hrd] at h;exact h.elim
 | none=>
 rw [hrd] at h
 dsimp only at h⊢
 cases hdf:E.df with
 | nil=>
  rw [hdf] at h
  exact aAM hdf h hst hs
 | cons d ds=>
  rw [hdf] at h
  exact h M0 ob0 obs0 w0 ch a w hst hs
theorem lI {sz:Nat} {l:List Oper} (h:ZO sz l=true):∀ p∈l,∀ d,p.dst=some d->d<sz:=fun p hp d hd=>by
 have:=Cl.1 h p hp
 rw [hd] at this
 simpa [Ep] using this
def QR (E:Env) (fn:Func) (g:Goal) (M0:Imm) (ob0:Hs) (obs0:List AObj) (w0:World) (ks:List KI):Exit->Act->World->Prop
 | .normal,a,w=>KW E.rd E.P (mL E fn M0 ob0 obs0 w0 g) ks a w
 | .panic ch,a,w=>mL E fn M0 ob0 obs0 w0 g (.panic ch) a w
 | _,_,_=>False
theorem MW (hE:EnvOK E) (hreg:∀ ops:Array Oper,DX ops=true->TabSp ops (eW [] ops.toList)) {id:Nat} {ops:Array Oper} {dr:Bool} {ks:List KI} {fr:List (Nat×AVal)} {obs:List AObj}
  (h:aAC E fn g ⟨ops.toList,dr,eW [] ops.toList,ks⟩ 0 ops.toList [] fr obs):cS E fn g (.code (.region id ops dr)::ks) fr obs:=by
 intro ho M0 ob0 obs0 w0 a w hst hs
 simp only [bC,KI.ok,cQ,Ad] at ho
 obtain ⟨⟨ho1,ho2⟩,ho3⟩:=ho
 have hd:=lI ho1
 refine KW.code (Q':=QR E fn g M0 ob0 obs0 w0 ks) ?_ (fun a w h=>h) (fun ch a w h=>h) (fun e a w hh=>by
  cases e<;>first | exact .inl rfl | exact .inr ⟨_,rfl⟩ | exact hh.elim)
 have hp:∀ gf v obs ch a w,iI E fn g gf v obs->PP M0 ob0 obs0 w0 fn.ntmps E.df gf v obs ch a w->mL E fn M0 ob0 obs0 w0 g (.panic ch) a w:=fun gf v obs ch a w he hpp=>vD he hst hpp
 have hq:∀ fr obs a w,cS E fn g ks fr obs->SS M0 ob0 obs0 w0 fn.ntmps E.df fr obs a w->KW E.rd E.P (mL E fn M0 ob0 obs0 w0 g) ks a w:=fun fr obs a w hk hs=>hk ho3 M0 ob0 obs0 w0 a w hst hs
 cases dr with
 | false=>
  refine wpIn_region_list ?_
  exact oA (rd:=E.rd) (Q:=QR E fn g M0 ob0 obs0 w0 ks) (K:=cS E fn g ks) (Kp:=iI E fn g) hE (fun gf v obs ch a w h1 h2=>hp gf v obs ch a w h1 h2) (fun fr obs a w h1 h2=>hq fr obs a w h1 h2) ops.toList 0 fr obs a w hd h hs
 | true=>
  exact G5 (rd:=E.rd) (Q:=QR E fn g M0 ob0 obs0 w0 ks) (Kq:=cS E fn g ks) (Kp:=iI E fn g) hE (hreg ops (by simpa using ho2)) (fun i p hi d hd'=>hd p (Aw (i:=i) (by simpa using hi)) d hd') (fun gf v obs ch a w h1 h2=>hp gf v obs ch a w h1 h2) (fun fr obs a w h1 h2=>hq fr obs a w h1 h2) hs h
theorem cS.step {ks ks':List KI} {fr:List (Nat×AVal)} {obs:List AObj} (hs:∀ a w (b:Frame) cs,Go.step E.P (lone (b.atR a (eU ks)) cs w)= .next (lone (b.atR a (eU ks')) cs w)) (hk:bC fn.ntmps ks=true->bC fn.ntmps ks'=true) (h:cS E fn g ks' fr obs):cS E fn g ks fr obs:=
 fun ho M0 ob0 obs0 w0 a w hst hss=>KW.step (hs a w) (h (hk ho) M0 ob0 obs0 w0 a w hst hss)
theorem go (hE:EnvOK E) (hreg:∀ ops:Array Oper,DX ops=true->TabSp ops (eW [] ops.toList)):∀ (fuel:Nat) (st:St),bN E fn g (tM E fn g) fuel st->tM E fn g st:=by
 intro fuel
 induction fuel with
 | zero=>intro st h;exact h
 | succ n ih=>
  intro st h
  cases st with
  | head ks fr obs=>exact ih (.code ks fr obs) h
  | leave p fr obs=>exact h
  | code ks fr obs=>
   cases ks with
   | nil=>
    simp only [bN] at h
    exact fun _ M0 ob0 obs0 w0 a w hst hs=>KW.nil (KL (b:=true) hE h hst hs)
   | cons k ks=>
    cases k with
    | inB id=>exact cS.step (fun a w b cs=>stepR_inBlock) (fun ho=>by simp only [bC,Ad] at ho;exact ho.2) (ih (.code ks fr obs) h)
    | inL b=>
     exact cS.step (ks':=.code b:: .inL b::ks) (fun a w b cs=>stepR_inLoop) (fun ho=>by simp only [bC,KI.ok,Ad] at ho⊢;exact ⟨ho.1,ho.1,ho.2⟩) h
    | beginR=>exact h
    | code q=>
     cases q with
     | rangeFunc x ps as bd=>exact h
     | skip=>exact cS.step (fun a w b cs=>stepR_skip) (fun ho=>by simp only [bC,Ad] at ho;exact ho.2) (ih (.code ks fr obs) h)
     | seq x y=>exact cS.step (fun a w b cs=>stepR_seq) (fun ho=>by simp only [bC,KI.ok,cQ,Ad] at ho⊢;exact ⟨ho.1.1,ho.1.2,ho.2⟩) (ih (.code (.code x:: .code y::ks) fr obs) h)
     | block id b=>exact cS.step (fun a w b cs=>stepR_block) (fun ho=>by simp only [bC,KI.ok,cQ,Ad] at ho⊢;exact ⟨ho.1,trivial,ho.2⟩) (ih (.code (.code b:: .inB id::ks) fr obs) h)
     | loop b=>exact cS.step (ks':=.code b:: .inL b::ks) (fun a w b cs=>stepR_loop) (fun ho=>by simp only [bC,KI.ok,cQ,Ad] at ho⊢;exact ⟨ho.1,ho.1,ho.2⟩) h
     | exit id=>
            simp only [bN] at h
            split at h
            .rename_i ks' hx
             exact cS.step (fun a w b cs=>stepR_exit (jL _ _ hx)) (fun ho=>nV _ _ hx (by simp only [bC,Ad] at ho;exact ho.2)) (ih (.code ks' fr obs) h)
            .exact h.elim
     | ret=>
            simp only [bN] at h
            exact fun _ M0 ob0 obs0 w0 a w hst hs=>KW.ret (KL (b:=false) hE h hst hs)
     | cond x c d=>
            simp only [bN] at h
            split at h
            .rename_i p hp
             intro ho M0 ob0 obs0 w0 a w hst hs
             simp only [bC,KI.ok,cQ,Ad] at ho
             obtain ⟨M,ob,hx,hm,hf,hsz,hd,h0⟩:=id hs
             have hev:=yE (a:=a) hf x
             rw [hp] at hev
             cases p with
             | true=>
              refine KW.step (ks':=.code c::ks) (fun b cs=>?_) (h.1 rfl (by simp only [bC,KI.ok,Ad];exact ⟨ho.1.1,ho.2⟩) M0 ob0 obs0 w0 a w hst hs)
              exact stepR_cond (P:=E.P) (b:=b) (k:=eU ks) (cs:=cs) (w:=w) (x:=c) (y:=d) hev.bool_inv
             | false=>
              refine KW.step (ks':=.code d::ks) (fun b cs=>?_) (h.2 rfl (by simp only [bC,KI.ok,Ad];exact ⟨ho.1.2,ho.2⟩) M0 ob0 obs0 w0 a w hst hs)
              exact stepR_cond (P:=E.P) (b:=b) (k:=eU ks) (cs:=cs) (w:=w) (x:=c) (y:=d) hev.bool_inv
            .exact h.elim
     | region id ops dr=>
            simp only [bN] at h
            cases hdf:aBL ops.toList with
            | true=>rw [hdf] at h;exact h
            | false=>
             rw [hdf] at h
             dsimp only at h
             refine MW hE hreg ?_
             cases dr with
             | false=>
              have:=ih (.mid ⟨ops.toList,false,[],ks⟩ 0 ops.toList [] fr obs) h
              exact this
             | true=>
              simp only [T5] at h
              exact ih (.mid ⟨ops.toList,true,eW [] ops.toList,ks⟩ 0 ops.toList [] fr obs) h
     | _=>exact h.elim
  | mid R i rest br fr obs=>
   cases rest with
   | nil=>
    have hk:=ih (.code R.ks fr obs) h
    obtain ⟨all,dr,tab,ks⟩:=R
    cases dr with
    | false=>exact hk
    | true=>exact hk
   | cons p rest=>
    obtain ⟨all,dr,tab,ks⟩:=R
    cases dr with
    | false=>
     simp only [bN] at h
     show dN E all (cS E fn g ks) (iI E fn g) i (p::rest) fr obs
     simp only [dN]
     cases hw:bZ all (ev fr) p.guard with
     | none=>rw [hw] at h;exact h.elim
     | some b=>
            rw [hw] at h
            cases b with
            | false=>
             cases hdst:p.dst with
             | none=>rw [hdst] at h;exact ih _ h
             | some d=>
              rw [hdst] at h
              dsimp only at h
              rw [iR] at h
              exact ih (.mid ⟨all,false,tab,ks⟩ (i+1) rest br (cN fr d (.tup [])) obs) h
            | true=>exact ih (.pend ⟨all,false,tab,ks⟩ i p.dst rest br fr obs _) h
    | true=>
     simp only [bN] at h
     show gB E all tab (cS E fn g ks) (iI E fn g) i (p::rest) br fr obs
     simp only [gB]
     cases hw:bZ all (evH tab all i fr) p.guard with
     | none=>rw [hw] at h;exact h.elim
     | some b=>
            rw [hw] at h
            cases b with
            | false=>
             cases hdst:p.dst with
             | none=>rw [hdst] at h;exact ih _ h
             | some d=>
              rw [hdst] at h
              dsimp only at h
              rw [iR] at h
              exact ih (.mid ⟨all,true,tab,ks⟩ (i+1) rest br (cN fr d (.tup [])) obs) h
            | true=>
             dsimp only at h
             rw [mN] at h
             exact ih (.pend ⟨all,true,tab,ks⟩ i p.dst rest br fr obs _) h
  | got R i d rest br fr len obs v=>
   simp only [bN,iO,mN] at h
   show R2 E fn g R i d rest br fr len obs v
   unfold R2 wrP
   cases d with
   | none=>exact ih _ h
   | some d=>
    dsimp only at h⊢
    cases hg:rF i rest with
    | false=>
     rw [hg] at h
     simp only [cond_false,iR] at h
     exact ih _ h
    | true=>
     rw [hg] at h
     simp only [cond_true] at h⊢
     split at h
     .rw [iR,iR] at h
      exact h
     .exact h.elim
  | pend R i d rest br fr obs r=>
   obtain ⟨all,dr,tab,ks⟩:=R
   have so:∀ {q:Prop} {b:Bool},(match (!dr||b) with | true=>q | false=>False)->q/\(dr=true->b=true):=fun {q b} hq=>by
    cases dr with
    | false=>exact ⟨hq,fun e=>by cases e⟩
    | true=>
     cases b with
     | false=>exact hq.elim
     | true=>exact ⟨hq,fun _=>rfl⟩
   cases r with
   | no=>exact h.elim
   | val v=>
    simp only [bN,iO] at h
    have:=ih _ h
    cases dr<;>exact this
   | mkf f fs cs=>
    simp only [bN,C7 (iO 3)] at h
    have:=ih _ h
    cases dr<;>exact this
   | need p r=>
    simp only [bN] at h
    cases dr<;>exact h
   | alt p v v'=>
    simp only [bN] at h
    cases dr<;>exact h
   | idx m f=>
    simp only [bN] at h
    cases dr<;>exact h
   | elem xs m f=>
    simp only [bN] at h
    cases dr<;>exact h
   | byte l m=>
    simp only [bN] at h
    cases dr<;>exact h
   | text xs=>
    simp only [bN] at h
    cases dr<;>exact h
   | find es key f=>
    simp only [bN] at h
    cases dr<;>exact h
   | born x v=>
    simp only [bN,UE,mN,iO] at h
    cases dr with
    | false=>
     have:=ih (.got _ _ _ _ _ _ _ _ _) h
     exact this
    | true=>
     cases hbl:blD E d with
     | true=>rw [hbl] at h;exact h.elim
     | false=>
            rw [hbl] at h
            have:=ih (.got _ _ _ _ _ _ _ _ _) h
            simp only [tM]
            rw [hbl]
            exact this
   | upd k x v=>
    simp only [bN,UE,mN,iO] at h
    obtain ⟨h,hso⟩:=so h
    have:=ih _ h
    cases dr with
    | false=>exact this
    | true=>
     simp only [tM,orD]
     rw [hso rfl]
     exact this
   | nilq xs neg=>
    simp only [bN] at h
    obtain ⟨h,hso⟩:=so h
    cases dr with
    | false=>exact h
    | true=>
     simp only [tM]
     rw [hso rfl]
     exact h
   | call f args=>
    have hpan:V5 E g (tM E fn g) fr=iI E fn g (aX fr):=by
     funext v obs
     unfold V5 iI
     cases E.rd<;>cases E.df<;>rfl
    simp only [bN,C7 (iO 5),hpan] at h
    cases dr with
    | false=>exact h
    | true=>
     dsimp only at h
     cases hbl:blD E d with
     | true=>rw [hbl] at h;exact h.elim
     | false=>
            rw [hbl] at h
            dsimp only at h
            rw [mN] at h
            simp only [tM]
            rw [hbl]
            exact h
   | pan v=>
    simp only [bN,iO] at h
    obtain ⟨h2,hso⟩:=so h
    have h3:iI E fn g (aX fr) v obs:=by
     unfold iI
     cases hrd:E.rd with
     | some l=>rw [hrd] at h2;exact h2.elim
     | none=>
     rw [hrd] at h2
     dsimp only at h2⊢
     cases hdf:E.df with
     | nil=>rw [hdf] at h2;dsimp only at h2⊢;rw [CO] at h2;exact h2
     | cons d ds=>rw [hdf] at h2;exact h2
    cases dr with
    | false=>exact h3
    | true=>
     simp only [tM]
     rw [hso rfl]
     exact h3
end
def oG (P:Program) (f:FuncId):Prop:=∀ (args:Array Value) (w:World),(callFunc f args).run P w= .ok (.enter f args) w
theorem xT:∀ (l:List AVal) (n t:Nat),aX (frA n l) t=if n<=t then (l[t-n]?).getD .undef else .undef
 | [],n,t=>by simp [frA,aX]
 | a::l,n,t=>by
  simp only [frA,aX]
  cases h:Ar n t with
  | true=>have:=aB h;subst this;simp
  | false=>
   have hne:n≠t:=fun e=>by subst e;simp at h
   simp only [cond_false]
   rw [xT l (n+1) t]
   by_cases hlt:n+1<=t
   .rw [if_pos hlt,if_pos (by omega)]
    have:t-n=(t-(n+1))+1:=by omega
    rw [this];simp
   .rw [if_neg hlt,if_neg (by omega)]
theorem F2 {P:Program} {f:FuncId} {fn:Func} {c:Code} {args:Array Value} {w:World} {R:Ending->World->Prop} (hf:P.funcs[f]? =some fn) (hb:fn.body=some c)
  {Q:Exit->Act->World->Prop} (hQ:∀ e a w,Q e a w->(match e with | .normal | .ret=>dS P fn a.tmps R a.defers .returning w | .panic ch=>dS P fn a.tmps R a.defers (.panicking ch) w | _=>False)) (h:KW none P Q [.code c] {tmps:=args++Dw (fn.ntmps-args.size) undef,defers:=[]} w):Calls P f args w R:=by
 intro cs
 let b:Frame:={(default:Frame) with fn:=f,kind:=.normal}
 have henter:Frame.enter P f args .normal=b.at {tmps:=args++Dw (fn.ntmps-args.size) undef,defers:=[]} [.code c]:=by
  simp [Frame.enter,Frame.at,hf,hb,b]
 obtain ⟨e,a',w',hq,harr⟩:=h.arrives b cs rfl
 have hq:=hQ _ _ _ hq
 rw [show eU [.code c]=[.code c] from rfl,<-henter] at harr
 cases e with
 | normal=>
  obtain ⟨e',w'',fr',hR,hs,hfn,hk,hl⟩:=dZ a'.defers .returning w' {b.at a' [] with mode:=.returning} cs rfl rfl rfl hf hq
  exact ⟨e',w'',fr',hR,Comes.of_steps (Steps.trans harr (.one step_end)) hs,hfn,kJ hl hk⟩
 | ret=>
  obtain ⟨todo,hs₀⟩:=harr
  obtain ⟨e',w'',fr',hR,hs,hfn,hk,hl⟩:=dZ a'.defers .returning w' {b.at a' todo with mode:=.returning} cs rfl rfl rfl hf hq
  exact ⟨e',w'',fr',hR,Comes.of_steps hs₀ hs,hfn,kJ hl hk⟩
 | panic dN=>
  obtain ⟨todo,hs₀⟩:=harr
  obtain ⟨e',w'',fr',hR,hs,hfn,hk,hl⟩:=dZ a'.defers (.panicking dN) w' {b.at a' todo with mode:=.panicking dN} cs rfl rfl rfl hf hq
  exact ⟨e',w'',fr',hR,Comes.of_steps hs₀ hs,hfn,kJ hl hk⟩
 | exit id=>exact hq.elim
 | goto l=>exact hq.elim
 | outgrown=>exact hq.elim
def okA:AVal->Prop
 | .int k n=>inR k n
 | .str l=>(l.length:Int)<=9223372036854775807
 | .slice _ xs _=>(xs.length:Int)<=9223372036854775807
 | _=>True
theorem Rep.okA {M:Imm} {ob:Hs} {v:Value} {a:AVal} (h:Rep M ob v a):okA a:=by
 cases a with
 | int k n=>exact h.int_inv.2
 | str l=>exact h.str_inv.2
 | slice sz xs t=>obtain ⟨_,_,_,_,_,h⟩:=h.slice_inv;exact h
 | _=>exact trivial
def okL:List AVal->Prop
 | []=>True
 | a::r=>okA a/\okL r
theorem cB.okL {M:Imm} {ob:Hs}:∀ {vs:List Value} {as:List AVal},cB M ob vs as->okL as
 | _,[],_=>trivial
 | [],a::r,h=>by have:=h.1;simp at this
 | v::vs,a::r,h=>⟨(h.2 0 v a rfl rfl).okA,cB.okL (vs:=vs) ⟨by simpa using h.1,fun i u b hu hb=>h.2 (i+1) u b (by simpa using hu) (by simpa using hb)⟩⟩
def pP:List AObj->Bool
 | []=>true
 | o::r=>o.owns&&Ar (dE o) 0&&pP r
theorem pM:∀ {l:List AObj},pP l=true->∀ (k:Nat) o,l[k]? =some o->o.owns=true/\dE o=0
 | [],_,k,o,h=>by simp at h
 | x::r,hb,k,o,h=>by
  simp only [pP,Ad] at hb
  cases k with
  | zero=>simp at h;subst h;exact ⟨hb.1.1,aB hb.1.2⟩
  | succ k=>exact pM hb.2 k o (by simpa using h)
theorem aA.of {E:Env} {f:FuncId} {fn:Func} {args:List AVal} {obs:List AObj} {g:Goal} (hdf:E.df=[]) (hf:E.P.funcs[f]? =some fn) (hb:fn.body=some (cR fn)) (hbo:oG E.P f)
  (hco:cQ fn.ntmps (cR fn)=true) (hn:Ea args.length fn.ntmps=true) (hsb:pP obs=true) (hg:obs.length=g.n0) (h:okL args->tM E fn g (.code [.code (cR fn)] (frA 0 args) obs)) (hrd:E.rd=none:=by rfl):aA E.P f args obs g.res g.obs:=by
 intro M ob w vargs hm hr
 refine .inl ⟨hbo _ _,F2 (Q:=mL E fn M ob obs w g) hf hb (fun e a w h=>?_) ?_⟩
 .cases e<;>(try unfold mL zG at h)<;>(try rw [hrd] at h)<;>exact h
 have hlen:vargs.length=args.length:=hr.1
 have hle:=Bw hn
 have hst:mU g ob:=by
  refine ⟨by rw [hm.len,hg],fun _ hs hmem=>?_⟩
  obtain ⟨k,hk⟩:=Cz hmem
  have hlt:k<obs.length:=by rw [<-hm.len];exact (Ab.1 hk).1
  obtain ⟨h1,h2⟩:=pM hsb k _ (Ac hlt)
  have e:=eR (Ac hlt)
  have:=hm.histLen (by rw [e];exact h1) hk
  rw [e,h2] at this
  exact this
 rw [<-hrd]
 refine h hr.okL (by simp [bC,KI.ok,hco]) M ob obs w {tmps:=vargs.toArray++Dw (fn.ntmps-vargs.toArray.size) undef,defers:=[]} w hst ⟨M,ob,Ext.refl _ _ _ _,hm,fun t=>?_,?_,by rw [hdf];exact cK.nil,by rw [hm.len];exact Bc _⟩
 .rw [xT]
  simp only [Bm,if_true,Fy]
  by_cases ht:t<args.length
  .rw [Ac ht]
   have hv:t<vargs.length:=by omega
   have:(vargs.toArray++Dw (fn.ntmps-vargs.toArray.size) undef).getD t undef=vargs[t]:=by
    rw [Ap,Gl (by simpa using hv)]
    simp [hv]
   rw [this]
   exact hr.2 t _ _ (Ac hv) (Ac ht)
  .rw [Bf (by omega)]
   exact .undef _
 .simp
  omega
theorem nD (m i:Nat):cD m i=m.testBit i:=by
 unfold cD Nat.testBit
 have h1:Nat.land (Nat.shiftRight m i) 1=(m >>> i) % 2:=Nat.and_one_is_mod _
 have h2:(1 &&& (m >>> i))=(m >>> i) % 2:=by rw [Nat.and_comm];exact Nat.and_one_is_mod _
 rw [h1,h2]
 rcases Nat.mod_two_eq_zero_or_one (m >>> i) with h | h<;>rw [h]<;>rfl
theorem BH {tab:List Nat} {i:Nat}:∀ {l:List Nat},cD (gG tab l) i=true↔ ∃ e∈l,e=i\/cD (cH tab e) i=true
 | []=>by rw [nD];simp [gG]
 | x::r=>by
  have ih:=BH (tab:=tab) (i:=i) (l:=r)
  rw [nD] at ih⊢
  have e:gG tab (x::r)=(1 <<< x ||| cH tab x) ||| gG tab r:=rfl
  rw [e,Nat.testBit_or,Nat.testBit_or,Nat.one_shiftLeft,Nat.testBit_two_pow,Dg,Dg,ih,decide_eq_true_eq]
  constructor
  .rintro ((h | h) | ⟨e,h1,h2⟩)
   .exact ⟨x,by simp,.inl h⟩
   .exact ⟨x,by simp,.inr (by rw [nD];exact h)⟩
   .exact ⟨e,by simp [h1],h2⟩
  .rintro ⟨e,h1,h2⟩
   rcases Bh.1 h1 with rfl | h1
   .rcases h2 with h2 | h2
    .exact .inl (.inl h2)
    .rw [nD] at h2;exact .inl (.inr h2)
   .exact .inr ⟨e,h1,h2⟩
theorem xU {a b:List Nat} {j:Nat} (h:j<a.length):cH (a++b) j=cH a j:=by
 induction a generalizing j with
 | nil=>simp at h
 | cons x r ih=>
  cases j with
  | zero=>rfl
  | succ j=>exact ih (by simpa using h)
theorem R8 {a:List Nat} {m:Nat}:cH (a++[m]) a.length=m:=by
 induction a with
 | nil=>rfl
 | cons x r ih=>exact ih
theorem R7 {a:List Nat} {j:Nat} (h:a.length<=j):cH a j=0:=by
 induction a generalizing j with
 | nil=>rfl
 | cons x r ih=>
  cases j with
  | zero=>simp at h
  | succ j=>exact ih (by simpa using h)
theorem tK:∀ (l:List Oper) (tab:List Nat),∃ t,eW tab l=tab++t/\t.length=l.length
 | [],tab=>⟨[],by simp [eW],rfl⟩
 | p::r,tab=>by
  obtain ⟨t,h1,h2⟩:=tK r (tab++[gG tab (fC p)])
  exact ⟨gG tab (fC p)::t,by simp [eW,h1],by simp [h2]⟩
theorem uG {a b:List Nat}:∀ {l:List Nat},(∀ e∈l,cH a e=cH b e)->gG a l=gG b l
 | [],_=>rfl
 | x::r,h=>by
  have:=uG (l:=r) fun e he=>h e (by simp [he])
  show Ku (Ku _ (cH a x)) (gG a r)=Ku (Ku _ (cH b x)) (gG b r)
  rw [this,h x (by simp)]
theorem F8:∀ (l:List Oper) (tab:List Nat),CV tab.length l=true->∀ (i:Nat) p,l[i]? =some p->cH (eW tab l) (tab.length+i)=gG (eW tab l) (fC p)/\∀ e∈fC p,e<tab.length+i
 | [],_,_,i,p,h=>by simp at h
 | q::r,tab,hb,i,p,h=>by
  simp only [CV,Ad] at hb
  have hlt:∀ e∈fC q,e<tab.length:=fun e he=>by
   have:=Cl.1 hb.1 e he
   simpa [Ep] using this
  cases i with
  | zero=>
   simp at h
   subst h
   refine ⟨?_,fun e he=>by have:=hlt e he;omega⟩
   obtain ⟨t,h1,_⟩:=tK r (tab++[gG tab (fC q)])
   have e1:eW tab (q::r)=(tab++[gG tab (fC q)])++t:=h1
   rw [Dk,e1,xU (by simp),R8]
   refine uG fun e he=>?_
   have:=hlt e he
   rw [xU (by simp;omega),xU this]
  | succ i=>
   have:=F8 r (tab++[gG tab (fC q)]) (by simpa using hb.2) i p (by simpa using h)
   simp only [Ag,List.length_singleton] at this
   rw [show tab.length+(i+1)=tab.length+1+i from by omega]
   exact this
theorem EF {p:Oper} {i:Nat}:i∈fC p↔ ∃ e∈p.after,Ha .any e=true/\e.on=i:=by
 unfold fC
 simp only [Cy,Jz]
 constructor
 .rintro ⟨e,⟨h1,h2⟩,h3⟩;exact ⟨e,by simpa using h1,h2,h3⟩
 .rintro ⟨e,h1,h2,h3⟩;exact ⟨e,⟨by simpa using h1,h2⟩,h3⟩
theorem yP {tab:List Nat} {i d:Nat}:∀ {l:List Oper} {n:Nat},FR tab i d n l=true->∀ (j:Nat) q,l[j]? =some q->loose tab i (n+j)=true->q.dst≠some d
 | [],_,_,j,q,h,_=>by simp at h
 | x::r,n,hb,j,q,h,hl=>by
  simp only [FR,Ad] at hb
  cases j with
  | zero=>
   simp at h
   subst h
   intro e
   have:=hb.1
   rw [e] at this
   rw [Dk] at hl
   simp [hl] at this
  | succ j=>exact yP hb.2 j q (by simpa using h) (by rw [show n+1+j=n+(j+1) from by omega];exact hl)
theorem BB {tab:List Nat} {all:List Oper}:∀ {l:List Oper} {n:Nat},X9 tab all n l=true->∀ (i:Nat) p d,l[i]? =some p->p.dst=some d->FR tab (n+i) d 0 all=true
 | [],_,_,i,p,d,h,_=>by simp at h
 | x::r,n,hb,i,p,d,h,hd=>by
  simp only [X9,Ad] at hb
  cases i with
  | zero=>
   simp at h
   subst h
   have:=hb.1
   rw [hd] at this
   exact this
  | succ i=>
   have:=BB hb.2 i p d (by simpa using h) hd
   rwa [show n+1+i=n+(i+1) from by omega] at this
theorem pS (ops:Array Oper) (h:DX ops=true):TabSp ops (eW [] ops.toList):=by
 simp only [DX,Ad] at h
 obtain ⟨h1,h2⟩:=h
 have get:∀ (j:Nat) p,ops[j]? =some p->cH (eW [] ops.toList) j=gG (eW [] ops.toList) (fC p)/\∀ e∈fC p,e<j:=fun j p hp=>by
  have:=F8 ops.toList [] h1 j p (by simpa using hp)
  simpa using this
 have hlen:(eW [] ops.toList).length=ops.size:=by
  obtain ⟨t,e1,e2⟩:=tK ops.toList []
  rw [e1]
  simpa using e2
 have hout:∀ j i,cD (cH (eW [] ops.toList) j) i=true->j<ops.size:=fun j i hj=>by
  refine Nat.lt_of_not_le fun hge=>?_
  rw [R7 (by rw [hlen];exact hge),nD] at hj
  simp at hj
 have hback:∀ (j:Nat) p,ops[j]? =some p->∀ e∈p.after,Ha .any e=true->e.on<j:=fun j p hp e he hb=>(get j p hp).2 _ (EF.2 ⟨e,he,hb,rfl⟩)
 have hstep:∀ (j:Nat) p,ops[j]? =some p->∀ i,cD (cH (eW [] ops.toList) j) i=true->∃ e∈p.after,Ha .any e=true/\(e.on=i\/cD (cH (eW [] ops.toList) e.on) i=true):=fun j p hp i hi=>by
  rw [(get j p hp).1] at hi
  obtain ⟨e,he,hor⟩:=BH.1 hi
  obtain ⟨ed,g1,g2,g3⟩:=EF.1 he
  subst g3
  exact ⟨ed,g1,g2,hor⟩
 have hless:∀ i j,cD (cH (eW [] ops.toList) i) j=true->j<i:=by
  intro i
  induction i using Hz with
  | ind i ih=>
   intro j hj
   have hlt:=hout i j hj
   have hp:ops[i]? =some ops[i]:=Dt hlt
   obtain ⟨e,he,hb,h | h⟩:=hstep i _ hp j hj
   .have:=hback i _ hp e he hb;omega
   .have h1:=hback i _ hp e he hb
    have:=ih e.on h1 j h
    omega
 exact ⟨hback,hless,hstep,hout,fun i j p q hp hq hl t ht=>by
  have:=BB (n:=0) h2 i p t (by simpa using hp) ht
  rw [Bk] at this
  exact yP this j q (by simpa using hq) (by rw [Bk];exact hl)⟩
inductive To (E:Env) (fn:Func) (g:Goal) (st:St):Prop
 | mk (h:tM E fn g st)
theorem aCr (E:Env) (fn:Func) (g:Goal):To E fn g=tM E fn g:=funext fun st=>propext ⟨fun ⟨h⟩=>h,.mk⟩
theorem bW {E:Env} {fn:Func} {g:Goal} (hE:EnvOK E) (fuel:Nat) {st:St} (h:bN E fn g (To E fn g) fuel st):To E fn g st:=by
 rw [aCr] at h⊢
 exact go hE pS fuel st h
theorem aA.to {E:Env} {f:FuncId} {fn:Func} {args:List AVal} {obs:List AObj} {g:Goal} (hdf:E.df=[]) (hf:E.P.funcs[f]? =some fn) (hb:fn.body=some (cR fn)) (hbo:oG E.P f)
  (hco:cQ fn.ntmps (cR fn)=true) (hn:Ea args.length fn.ntmps=true) (hsb:pP obs=true) (hg:obs.length=g.n0) (h:okL args->To E fn g (.code [.code (cR fn)] (frA 0 args) obs)) (hrd:E.rd=none:=by rfl):aA E.P f args obs g.res g.obs:=
 aA.of hdf hf hb hbo hco hn hsb hg (fun ho=>(h ho).rec fun h=>h) hrd
def zvL (f:Value->AVal):List Value->List AVal
 | []=>[]
 | v::r=>f v::zvL f r
def zv:Nat->Value->AVal
 | n+1,.agg vs=>.agg (zvL (zv n) vs.toList)
 | _,v=>YK v
theorem IZ {M:Imm} {ob:Hs} {f:Value->AVal} (hf:∀ v,Rep M ob v (f v)):∀ (l:List Value),l.length=(zvL f l).length/\∀ (i:Nat) v a,l[i]? =some v->(zvL f l)[i]? =some a->Rep M ob v a
 | []=>⟨rfl,fun i v a h=>by simp at h⟩
 | x::l=>by
  obtain ⟨h1,h2⟩:=IZ hf l
  refine ⟨by simp [zvL,h1],fun i v a hv ha=>?_⟩
  cases i with
  | zero=>simp [zvL] at hv ha;subst hv ha;exact hf x
  | succ i=>exact h2 i v a (by simpa using hv) (by simpa [zvL] using ha)
theorem ZS {M:Imm} {ob:Hs}:∀ (n:Nat) (v:Value),Rep M ob v (zv n v):=by
 intro n
 induction n with
 | zero=>intro v;exact lK v
 | succ n ih=>
  intro v
  cases v with
  | agg vs=>
   obtain ⟨h1,h2⟩:=IZ (M:=M) (ob:=ob) ih vs.toList
   have:=Rep.agg vs.toList _ h1 h2
   simpa [zv] using this
  | _=>exact lK _
def F1 (P:Program):Nat->Nat->List (Option Nat)
 | 0,_=>[]
 | n+1,t=>match P.underlying t with
  | some (.struct fs)=>fs.toList.flatMap fun f=>F1 P n f.type
  | some (.array len e)=>(Ai len (F1 P n e)).flatten
  | some (.slice e)=>[some (((P.info? e).map (·.size)).getD 0)]
  | _=>[none]
def UU:Option Nat->AVal->AVal
 | some sz,.nilslice=>.slice sz [] .nil
 | _,v=>v
def tyZ:List (Option Nat)->List AVal->List AVal
 | k::ks,c::cs=>UU k c::tyZ ks cs
 | _,cs=>cs
def zT (P:Program) (t:Nat) (z:Value):AVal:=match zv 4 z with
 | .agg cs=>.agg (tyZ (F1 P 6 t) cs)
 | v=>UU (match F1 P 6 t with | k::_=>k | []=>none) v
theorem DC {M:Imm} {ob:Hs} {k:Option Nat} {v:Value} {a:AVal} (h:Rep M ob v a):Rep M ob v (UU k a):=by
 unfold UU
 split
 .cases h;exact .slnil _ _ rfl
 .exact h
theorem JB {M:Imm} {ob:Hs}:∀ {ks:List (Option Nat)} {cs:List AVal} {vs:List Value},cB M ob vs cs->cB M ob vs (tyZ ks cs)
 | [],cs,vs,h=>by cases cs<;>exact h
 | k::ks,[],vs,h=>h
 | k::ks,c::cs,[],h=>by have:=h.1;simp at this
 | k::ks,c::cs,v::vs,h=>cB.cons (DC (h.2 0 v c rfl rfl)) (JB ⟨by simpa using h.1,fun i u b hu hb=>h.2 (i+1) u b (by simpa using hu) (by simpa using hb)⟩)
theorem ZT {M:Imm} {ob:Hs} {P:Program} {t:Nat} {z:Value}:Rep M ob z (zT P t z):=by
 have h:=ZS (M:=M) (ob:=ob) 4 z
 unfold zT
 split
 .rename_i cs heq
  rw [heq] at h
  obtain ⟨vs,rfl,h1,h2⟩:=h.agg_inv
  obtain ⟨g1,g2⟩:=JB (ks:=F1 P 6 t) ⟨h1,h2⟩
  exact .agg vs _ g1 g2
 .exact DC h
def nG (P:Program) (t:Nat):Nat:=((P.info? t).map (·.size)).getD 0
def mkF (P:Program) (f:Field):Nat×Nat×Bool:=(f.offset,nG P f.type,aU P f.type)
def aAB (P:Program):List Field->List (Nat×Nat×Bool)
 | []=>[]
 | f::r=>mkF P f::aAB P r
def CE (P:Program) (t:Nat):Bool:=(P.info? t).isSome&&(P.underlying t).isSome
def fsB (P:Program):List Field->Bool
 | []=>true
 | f::r=>CE P f.type&&fsB P r
def B8 (P:Program) (t:Nat):TK:=match P.underlying t with
 | some (.int k)=>.int k
 | some .bool=>.bool
 | some .string=>.str
 | some (.struct fs)=>.strct (aAB P fs.toList)
 | some (.array n e)=>.arr n (nG P e) (aU P e)
 | some (.slice e)=>.slc e (nG P e) (((P.info? e).map (·.bytes)).getD 0)
 | some (.pointer e)=>.ptr e
 | some (.interface _)=>.iface
 | some (.map k e)=>.mp k e
 | _=>.other
def WT (P:Program) (t:Nat):TI:=match P.info? t with
 | some i=>⟨B8 P t,i.size,aU P t,match i.zero with | some z=>zT P t z | none=>.undef⟩
 | none=>⟨.other,0,false,.undef⟩
def I0 (P:Program) (t:Nat):Bool:=match P.info? t with
 | some i=>(match i.zero with
  | some z=>Ar z.cells.size i.size&&(z.cells.toList.all (·.oneCell')&&xD (zT P t z))
  | none=>false)
 | none=>false
def aCa (P:Program) (e:Nat):Bool:=I0 P e
def okB (P:Program) (t:Nat):Bool:=I0 P t&&match P.underlying t with
 | some (.int _) | some .bool | some .string | some (.pointer _) | some (.interface _) | some (.map _ _)=>Ar (nG P t) 1
 | some (.struct fs)=>fsB P fs.toList
 | some (.array _ e)=>CE P e
 | some (.slice e)=>Ar (nG P t) 1&&aCa P e
 | some _=>true
 | none=>false
theorem J9 (P:Program):∀ (l:List Field),fsB P l=true->lP P l (aAB P l)
 | [],_=>trivial
 | f::r,h=>by
  simp only [fsB,Ad,CE] at h
  obtain ⟨⟨h1,h2⟩,h3⟩:=h
  obtain ⟨i,hi⟩:=Ct.1 h1
  exact ⟨rfl,by simp [nG,hi],h2,rfl,J9 P r h3⟩
theorem vM {P:Program} {t:Nat} (h:I0 P t=true):∃ i z,P.info? t=some i/\i.zero=some z/\z.cells.size=i.size/\z.cells.toList.all (·.oneCell')=true/\zT P t z≠ .undef:=by
 unfold I0 at h
 split at h
 .rename_i i hi
  split at h
  .rename_i z hz
   simp only [Ad] at h
   obtain ⟨h1,h2,h3⟩:=h
   exact ⟨i,z,hi,hz,aB h1,h2,uY h3⟩
  .cases h
 .cases h
theorem WS {P:Program} {t:Nat} (h:okB P t=true):TIOK P t (WT P t):=by
 simp only [okB,Ad] at h
 obtain ⟨h0,h1⟩:=h
 obtain ⟨i,z,hi,hz,hs,hone,hne⟩:=vM h0
 have hm:WT P t=⟨B8 P t,i.size,aU P t,zT P t z⟩:=by simp [WT,hi,hz]
 have hst:nG P t=i.size:=by simp [nG,hi]
 rw [hm]
 refine ⟨⟨i,z,hi,rfl,hz,hs,ZT,hone,hne⟩,?_⟩
 show qC P t (aU P t) i.size (B8 P t)
 unfold B8
 have ag:∀ d,P.underlying t=some d->aU P t=match d with | .struct _ | .array _ _=>true | _=>false:=fun d hd=>by unfold aU;rw [hd];cases d<;>rfl
 split at h1
 .rename_i k hu;rw [hu];exact ⟨hu,ag _ hu,by rw [<-hst];exact aB h1⟩
 .rename_i hu;rw [hu];exact ⟨hu,ag _ hu,by rw [<-hst];exact aB h1⟩
 .rename_i hu;rw [hu];exact ⟨hu,ag _ hu,by rw [<-hst];exact aB h1⟩
 .rename_i e hu;rw [hu];exact ⟨hu,ag _ hu,by rw [<-hst];exact aB h1⟩
 .rename_i ms hu;rw [hu];exact ⟨⟨ms,hu⟩,ag _ hu,by rw [<-hst];exact aB h1⟩
 .rename_i mk me hu;rw [hu];exact ⟨hu,ag _ hu,by rw [<-hst];exact aB h1⟩
 .rename_i fs hu;rw [hu];exact ⟨⟨fs,hu,J9 P _ h1⟩,ag _ hu⟩
 .rename_i n e hu
  rw [hu]
  simp only [CE,Ad] at h1
  obtain ⟨j,hj⟩:=Ct.1 h1.1
  exact ⟨⟨e,hu,by simp [nG,hj],h1.2,rfl⟩,ag _ hu⟩
 .rename_i e hu
  rw [hu]
  simp only [Ad] at h1
  obtain ⟨j,y,hj,hy,hys,hyo,_⟩:=vM h1.2
  exact ⟨⟨hu,j,y,hj,by simp [nG,hj],by simp [hj],hy,by simp [nG,hj,hys],hyo⟩,ag _ hu,by rw [<-hst];exact aB h1.1⟩
 .rename_i d k1 k2 k3 k4 k5 k6 k7 k8 k9 hu
  rw [hu]
  have hd:∀ (α:Type) (x y:α),True:=fun _ _ _=>trivial
  cases d<;>first
   | exact ⟨⟨_,hu,fun ms e=>by cases e⟩,rfl⟩
   | (exfalso;simp_all;done)
 .cases h1
def J8 (P:Program):List Nat->Tab
 | []=>[]
 | t::r=>(t,WT P t)::J8 P r
def UZ (P:Program):List Nat->Bool
 | []=>true
 | t::r=>okB P t&&UZ P r
def RN:Tab->List Nat
 | []=>[]
 | (t,_)::r=>t::RN r
theorem EO {P:Program}:∀ {l:List Nat},UZ P l=true->∀ t ti,cL (J8 P l) t=some ti->TIOK P t ti
 | [],_,t,ti,h=>by cases h
 | x::r,hb,t,ti,h=>by
  simp only [UZ,Ad] at hb
  simp only [J8,cL] at h
  cases hx:Ar x t with
  | true=>
   rw [hx] at h
   cases h
   rw [<-aB hx]
   exact WS hb.1
  | false=>rw [hx] at h;exact EO hb.2 t ti h
theorem Z3 {P:Program} {T:Tab} (h1:J8 P (RN T)=T) (h2:UZ P (RN T)=true):∀ t ti,cL T t=some ti->TIOK P t ti:=by
 intro t ti h
 rw [<-h1] at h
 exact EO h2 t ti h
theorem mB (fr:List (Nat×AVal)) (t:Nat):∀ (keep:List Nat),aX (mP keep fr) t=aX fr t\/aX (mP keep fr) t= .undef
 | []=>.inr rfl
 | k::r=>by
  simp only [mP,aX]
  cases h:Ar k t with
  | true=>left;rw [aB h];rfl
  | false=>exact mB fr t r
theorem SS.weak {M0:Imm} {ob0:Hs} {obs0:List AObj} {w0:World} {sz:Nat} {dfs:List (Nat×List AVal)} {fr fr2:List (Nat×AVal)} {obs:List AObj} {a:Act} {w:World} (hw:∀ t,aX fr2 t=aX fr t\/aX fr2 t= .undef) (h:SS M0 ob0 obs0 w0 sz dfs fr obs a w):
  SS M0 ob0 obs0 w0 sz dfs fr2 obs a w:=by
 obtain ⟨M,ob,hx,hm,hf,r⟩:=h
 refine ⟨M,ob,hx,hm,fun t=>?_,r⟩
 rcases hw t with e | e
 .rw [e];exact hf t
 .rw [e];exact .undef _
theorem cS.weak {E:Env} {fn:Func} {g:Goal} {ks:List KI} {fr fr2:List (Nat×AVal)} {obs:List AObj} (hw:∀ t,aX fr2 t=aX fr t\/aX fr2 t= .undef) (h:cS E fn g ks fr2 obs):cS E fn g ks fr obs:=
 fun ho M0 ob0 obs0 w0 a w hst hs=>h ho M0 ob0 obs0 w0 a w hst (hs.weak hw)
theorem cS.keep {E:Env} {fn:Func} {g:Goal} {ks:List KI} {fr:List (Nat×AVal)} {obs:List AObj} (l:List Nat) (h:cS E fn g ks (mP l fr) obs):cS E fn g ks fr obs:=h.weak fun t=>mB fr t l
theorem To.head {E:Env} {fn:Func} {g:Goal} {ks:List KI} {fr:List (Nat×AVal)} {obs:List AObj} (l:List Nat) (h:To E fn g (.head ks (mP l fr) obs)):To E fn g (.head ks fr obs):=h.rec fun h=>.mk (cS.keep l h)
abbrev C3:=IntKind×Int×Int
def vA (cs:List C3):List Value:=cs.map fun c=>.int c.1 c.2.1
def vB (cs:List C3):List Value:=cs.map fun c=>.int c.1 c.2.2
def mK:List C3->Bool
 | []=>true
 | c::r=>(c.2.1==c.2.2)&&mK r
theorem uH (a b:List C3):mK (a++b)=(mK a&&mK b):=by
 induction a with
 | nil=>simp [mK]
 | cons c r ih=>simp [mK,ih,Gv]
def kB (P:Program) (t:TypeId) (l:List Value):Value:=if aU P t then .agg l.toArray else l.headD undef
def rY (P:Program) (fa:TypeId->Bool):Nat->List Field->Nat->Bool
 | off,[],total=>Ar off total
 | off,f::fs,total=>((f.name != "_")&&Ar f.offset off)&&((fa f.type&&(P.info? f.type).isSome)&&rY P fa (off+P.cellsOf f.type) fs total)
def eC (P:Program):Nat->TypeId->Bool
 | 0,_=>false
 | m+1,t=>match P.underlying t with
  | some (.int _)=>Ar (P.cellsOf t) 1
  | some (.array n e)=>(eC P m e&&(P.info? e).isSome)&&Ar (P.cellsOf t) (n*P.cellsOf e)
  | some (.struct fs)=>!P.stoodInHeld t&&rY P (eC P m) 0 fs.toList (P.cellsOf t)
  | _=>false
def EqI (P:Program) (d:Nat) (t:TypeId):Prop:=∀ (w:World) (cs:List C3),cs.length=P.cellsOf t->(Op.equalIn d t (kB P t (vA cs)) (kB P t (vB cs))).run P w= .ok (mK cs) w
section
variable {P:Program} (w:World)
theorem mE {m:Nat} {t:TypeId} (h:eC P m t=true):(P.underlying t).isSome=true/\(aU P t=false->P.cellsOf t=1):=by
 cases m with
 | zero=>cases h
 | succ m=>
  unfold eC at h
  unfold aU
  split at h
  .rename_i hu;rw [hu];exact ⟨rfl,fun _=>aB h⟩
  .rename_i hu;rw [hu];exact ⟨rfl,fun h=>by cases h⟩
  .rename_i hu;rw [hu];exact ⟨rfl,fun h=>by cases h⟩
  .cases h
theorem gU {e:TypeId} (hu:(P.underlying e).isSome=true) (hi:(P.info? e).isSome=true) (h1:aU P e=false->P.cellsOf e=1) (l:List Value) (off:Nat) (hoff:off+P.cellsOf e<=l.length):
  (part e l.toArray off).run P w= .ok (kB P e ((l.drop off).take (P.cellsOf e))) w:=by
 unfold part
 simp only [Av,sD hu,Ak]
 unfold kB
 obtain ⟨i,hi'⟩:=Ct.1 hi
 have hsz:(P.info? e).map (·.size)=some (P.cellsOf e):=by simp [Program.cellsOf,hi']
 cases ha:aU P e with
 | true=>
  simp only [if_true,Av,AW.run_sizeOf hsz,Ak,Az]
  simp [Iz]
 | false=>
  have hc:=h1 ha
  have hlt:off<l.length:=by omega
  simp only [Bq,if_false]
  simp only [Kf,Ac hlt,Az]
  rw [hc]
  congr 1
  rw [Ae hlt]
  rfl
theorem BK (cs:List C3):(vA cs).length=cs.length:=by simp [vA]
theorem ZV (cs:List C3):(vB cs).length=cs.length:=by simp [vB]
theorem GG (cs:List C3) (o n:Nat):((vA cs).drop o).take n=vA ((cs.drop o).take n):=by simp [vA,List.map_drop,List.map_take]
theorem ZW (cs:List C3) (o n:Nat):((vB cs).drop o).take n=vB ((cs.drop o).take n):=by simp [vB,List.map_drop,List.map_take]
theorem DM {d m:Nat} {e:TypeId} (hf:eC P m e=true) (hi:(P.info? e).isSome=true) (IH:EqI P d e) (cs:List C3) (off:Nat) (hoff:off+P.cellsOf e<=cs.length):
  ∃ a b,(part e (vA cs).toArray off).run P w= .ok a w/\(part e (vB cs).toArray off).run P w= .ok b w/\(Op.equalIn d e a b).run P w= .ok (mK ((cs.drop off).take (P.cellsOf e))) w:=by
 obtain ⟨hu,h1⟩:=mE hf
 refine ⟨_,_,gU w hu hi h1 _ _ (by rw [BK];exact hoff),gU w hu hi h1 _ _ (by rw [ZV];exact hoff),?_⟩
 rw [GG,ZW]
 exact IH w _ (by simp;omega)
theorem take_add (cs:List C3) (o a b:Nat):(cs.drop o).take (a+b)=(cs.drop o).take a++(cs.drop (o+a)).take b:=by
 rw [List.take_add,Gx]
theorem LT {d m:Nat} {e:TypeId} (hf:eC P m e=true) (hi:(P.info? e).isSome=true) (IH:EqI P d e) (cs:List C3):∀ (n k:Nat),(k+n)*P.cellsOf e<=cs.length->
  (Op.eqItems d e (P.cellsOf e) (vA cs).toArray (vB cs).toArray (Eh k n)).run P w= .ok (mK ((cs.drop (k*P.cellsOf e)).take (n*P.cellsOf e))) w:=by
 intro n
 induction n with
 | zero=>intro k _;simp [Op.eqItems,mK]
 | succ n ih=>
  intro k hk
  have hk1:(k+1)*P.cellsOf e<=(k+(n+1))*P.cellsOf e:=Bp _ (by omega)
  have hk2:(k+1)*P.cellsOf e=k*P.cellsOf e+P.cellsOf e:=by rw [Cc,Jf]
  obtain ⟨a,b,p1,p2,p3⟩:=DM w hf hi IH cs (k*P.cellsOf e) (by omega)
  have ih':=ih (k+1) (by rw [show k+1+n=k+(n+1) from by omega];exact hk)
  have hn:(n+1)*P.cellsOf e=P.cellsOf e+n*P.cellsOf e:=by rw [Cc,Jf,Kv]
  rw [hn,take_add,uH,<-hk2]
  simp only [Hk,Op.eqItems,Av,p1,p2,p3,Ak]
  cases mK ((cs.drop (k*P.cellsOf e)).take (P.cellsOf e)) with
  | true=>simpa using ih'
  | false=>simp
theorem GS {d m:Nat} (IH:∀ t,eC P m t=true->EqI P d t) (cs:List C3):∀ (fs:List Field) (off:Nat),rY P (eC P m) off fs cs.length=true->
  (Op.eqFields d (vA cs).toArray (vB cs).toArray fs).run P w= .ok (mK (cs.drop off)) w/\off<=cs.length:=by
 intro fs
 induction fs with
 | nil=>
  intro off h
  have:=aB h
  subst this
  exact ⟨by simp [Op.eqFields,mK],Bc _⟩
 | cons f fs ih=>
  intro off h
  simp only [rY,Ad] at h
  obtain ⟨⟨h1,h2⟩,⟨h3,h4⟩,h5⟩:=h
  obtain ⟨ih1,ih2⟩:=ih _ h5
  have hoff:=aB h2
  obtain ⟨a,b,p1,p2,p3⟩:=DM w h3 h4 (IH _ h3) cs f.offset (by omega)
  refine ⟨?_,by omega⟩
  have hd:cs.drop off=(cs.drop off).take (P.cellsOf f.type)++cs.drop (off+P.cellsOf f.type):=by rw [<-Gx,Fj]
  rw [hd,uH]
  have hne:f.name≠ "_" :=by simpa using h1
  simp only [Op.eqFields,hne,ne_eq,not_false_eq_true,if_true,Av,p1,p2,p3,Ak]
  rw [hoff] at *
  cases mK ((cs.drop off).take (P.cellsOf f.type)) with
  | true=>simpa using ih1
  | false=>simp
end
theorem H4 {P:Program} (d:Nat):∀ (m:Nat) (t:TypeId),eC P m t=true->EqI P (d+m) t
 | 0,_,h=>by cases h
 | m+1,t,h=>by
  intro w cs hlen
  have IH:∀ t,eC P m t=true->EqI P (d+m) t:=fun t h=>H4 d m t h
  unfold eC at h
  split at h
  .rename_i k hu
   have hag:aU P t=false:=by unfold aU;rw [hu]
   have h1:=aB h
   rw [h1] at hlen
   match cs,hlen with
   | [(k',a,b)],_=>
    simp only [kB,hag,vA,vB,Cn,Kt,List.headD_cons,Bq,if_false,mK,Ga]
    exact run_equalIn_int w (d+m) t k' k a b hu
  .rename_i n e hu
   simp only [Ad] at h
   obtain ⟨⟨h1,h2⟩,h3⟩:=h
   have hag:aU P t=true:=by unfold aU;rw [hu]
   obtain ⟨i,hi⟩:=Ct.1 h2
   have hc:=aB h3
   simp only [kB,hag,if_true]
   rw [show d+(m+1)=(d+m)+1 from rfl,run_equalIn_array w (d+m) _ _ hu hi,Eu,LT w h1 h2 (IH e h1) cs n 0 (by rw [Bk];omega)]
   rw [Ij,Db,Cs (by omega)]
  .rename_i fs hu
   simp only [Ad,Cb] at h
   obtain ⟨h1,h2⟩:=h
   have hag:aU P t=true:=by unfold aU;rw [hu]
   have hfs:P.fieldsOf t=fs:=by simp [Program.fieldsOf,hu]
   simp only [kB,hag,if_true]
   rw [<-hlen] at h2
   rw [show d+(m+1)=(d+m)+1 from rfl,run_equalIn_struct w (d+m) t _ _ (by rw [hfs];exact hu) h1,hfs]
   simpa using (GS w IH cs fs.toList 0 h2).1
  .cases h
theorem TZ:∀ {xs ys:List AVal} {c:Bool} {vs us:List Value},ceq xs ys=some c->cB (fun _ _ _=>False) [] vs xs->cB (fun _ _ _=>False) [] us ys->∃ cs:List C3,vs=vA cs/\us=vB cs/\c=mK cs
 | [],[],c,vs,us,h,h1,h2=>by
  cases h
  have e1:vs=[]:=by simpa using h1.1
  have e2:us=[]:=by simpa using h2.1
  exact ⟨[],by simp [vA,e1],by simp [vB,e2],rfl⟩
 | x::xs,y::ys,c,vs,us,h,h1,h2=>by
  cases x<;>first | (simp [ceq] at h;done) | skip
  cases y<;>first | (simp [ceq] at h;done) | skip
  rename_i k a k' b
  simp only [ceq] at h
  obtain ⟨hk,h3⟩:=dK h
  have:=rE hk
  subst this
  cases hr:ceq xs ys with
  | none=>rw [hr] at h3;cases h3
  | some c'=>
   rw [hr] at h3
   cases h3
   match vs,us,h1,h2 with
   | v::vs,u::us,h1,h2=>
    have hv:=(h1.2 0 v _ rfl rfl).int_inv.1
    have hu:=(h2.2 0 u _ rfl rfl).int_inv.1
    subst hv hu
    obtain ⟨cs,e1,e2,e3⟩:=TZ (vs:=vs) (us:=us) hr ⟨by simpa using h1.1,fun i v a hv ha=>h1.2 (i+1) v a (by simpa using hv) (by simpa using ha)⟩ ⟨by simpa using h2.1,fun i v a hv ha=>h2.2 (i+1) v a (by simpa using hv) (by simpa using ha)⟩
    exact ⟨(k,a,b)::cs,by simp [vA,e1],by simp [vB,e2],by simp [mK,e3]⟩
 | [],_::_,c,vs,us,h,_,_=>by cases h
 | x::_,[],c,vs,us,h,_,_=>by cases x<;>cases h
theorem GT {P:Program} (w:World) {em:Bool} {d m:Nat} (IH:∀ (e:TypeId),eC P m e=true->∀ (w:World) (cs:List C3),cs.length=P.cellsOf e->(Fw em d e (kB P e (vA cs))).run P w= .ok () w) (cs:List C3) {e:TypeId} (hf:eC P m e=true) (hi:(P.info? e).isSome=true):
  ∀ (is:List Nat),(∀ i∈is,(i+1)*P.cellsOf e<=cs.length)->
  (forIn (m:=Sem) is PUnit.unit fun i _=>(do Fw em d e (<-part e (vA cs).toArray (i*(<-sizeOf e)));Pure.pure (ForInStep.yield PUnit.unit))).run P w= .ok PUnit.unit w:=by
 intro is
 obtain ⟨i0,hi0⟩:=Ct.1 hi
 have hsz:(P.info? e).map (·.size)=some (P.cellsOf e):=by simp [Program.cellsOf,hi0]
 obtain ⟨hu,h1⟩:=mE hf
 induction is with
 | nil=>intro _;simp
 | cons j is ih=>
  intro h
  have hj:=h j (by simp)
  rw [Cc,Jf] at hj
  have p1:=gU w hu hi h1 (vA cs) (j*P.cellsOf e) (by rw [BK];exact hj)
  rw [GG] at p1
  have p2:=IH e hf w ((cs.drop (j*P.cellsOf e)).take (P.cellsOf e)) (by simp;omega)
  simp only [List.forIn_cons,Av,AW.run_sizeOf hsz,Ak,p1,p2,Az]
  exact ih fun i hi=>h i (by simp [hi])
theorem TW {P:Program} (em:Bool) (d:Nat):∀ (m:Nat) (t:TypeId),eC P m t=true->∀ (w:World) (cs:List C3),cs.length=P.cellsOf t->(Fw em (d+m) t (kB P t (vA cs))).run P w= .ok () w
 | 0,_,h=>by cases h
 | m+1,t,h=>by
  intro w cs hlen
  have IH:=TW (P:=P) em d m
  unfold eC at h
  rw [show d+(m+1)=(d+m)+1 from rfl,Fw]
  split at h
  .rename_i k hu
   have hag:aU P t=false:=by unfold aU;rw [hu]
   have h1:=aB h
   rw [h1] at hlen
   match cs,hlen with
   | [(k',a,b)],_=>
    simp [kB,hag,vA,run_underlying hu]
  .rename_i n e hu
   simp only [Ad] at h
   obtain ⟨⟨h1,h2⟩,h3⟩:=h
   have hag:aU P t=true:=by unfold aU;rw [hu]
   have hc:=aB h3
   simp only [kB,hag,if_true,Av,run_underlying hu,Ak]
   simp only [Std.Legacy.Range.forIn_eq_forIn_range',Std.Legacy.Range.size,Fy,Nat.add_one_sub_one,Ki]
   have:=GT w IH cs h1 h2 (Eh 0 n) (fun i hi=>by
    have:i<n:=by simpa using hi
    have:(i+1)*P.cellsOf e<=n*P.cellsOf e:=Bp _ this
    omega)
   simp at this⊢
   rw [this]
   rfl
  .rename_i fs hu
   simp only [Ad,Cb] at h
   obtain ⟨h1,h2⟩:=h
   have hag:aU P t=true:=by unfold aU;rw [hu]
   simp only [kB,hag,if_true,Av,run_underlying hu,Ak]
   rw [<-Array.forIn_toList]
   rw [<-hlen] at h2
   have key:∀ (L:List Field) (off:Nat),rY P (eC P m) off L cs.length=true→off≤cs.length∧∀ f∈L,f.name≠ "_" ∧eC P m f.type=true∧(P.info? f.type).isSome=true∧f.offset+P.cellsOf f.type≤cs.length:=by
    intro L
    induction L with
    | nil=>
     intro off h
     have:=aB h
     exact ⟨by omega,fun f hf=>by cases hf⟩
    | cons f L ih=>
     intro off h
     simp only [rY,Ad] at h
     obtain ⟨⟨g1,g2⟩,⟨g3,g4⟩,g5⟩:=h
     obtain ⟨i1,i2⟩:=ih _ g5
     have hoff:=aB g2
     refine ⟨by omega,fun f' hf'=>?_⟩
     rcases Bh.1 hf' with rfl | hf'
     .exact ⟨by simpa using g1,g3,g4,by omega⟩
     .exact i2 f' hf'
   have each:=(key fs.toList 0 h2).2
   clear key h2
   generalize fs.toList=L at each
   induction L with
   | nil=>simp
   | cons f L ih=>
    obtain ⟨g1,g2,g3,g4⟩:=each f (by simp)
    obtain ⟨hu',h1'⟩:=mE g2
    have p1:=gU w hu' g3 h1' (vA cs) f.offset (by rw [BK];exact g4)
    rw [GG] at p1
    have p2:=IH f.type g2 w ((cs.drop f.offset).take (P.cellsOf f.type)) (by simp;omega)
    simp only [List.forIn_cons,Av,g1,ne_eq,not_false_eq_true,if_true,Ak,p1,p2,Az]
    exact ih fun y hy=>each y (by simp [hy])
  .cases h
theorem aAH (a b:List Int) (h:a.length=b.length):∃ cs:List C3,cs.length=a.length/\eJ true a= .agg (vA cs).toArray/\eJ true b= .agg (vB cs).toArray/\mK cs=decide (a=b):=by
 refine ⟨(a.zip b).map fun p=>(.i64,p.1,p.2),by simp;omega,?_,?_,?_⟩
 .simp only [eJ,vA,if_true,Fb]
  congr 2
  have:(a.zip b).map Jn=a:=List.map_fst_zip (by omega)
  conv=>lhs;rw [<-this]
  simp [Kw]
 .simp only [eJ,vB,if_true,Fb]
  congr 2
  have:(a.zip b).map Prod.snd=b:=List.map_snd_zip (by omega)
  conv=>lhs;rw [<-this]
  simp [Kw]
 .induction a generalizing b with
  | nil=>
   cases b with
   | nil=>rfl
   | cons y b=>cases h
  | cons x a ih=>
   cases b with
   | nil=>cases h
   | cons y b=>
    simp only [List.zip_cons_cons,Cn,mK]
    rw [ih b (by simpa using h)]
    by_cases hx:x=y
    .subst hx;simp
    .simp [hx]
def SK (P:Program) (t n:Nat):Bool:=(aU P t&&eC P 8 t)&&(!P.eqGuardType P.depth t&&Ar (P.cellsOf t) n)
theorem SJ {P:Program} {t n:Nat} (h:SK P t n=true):IX P t n:=by
 simp only [SK,Ad,Cb] at h
 obtain ⟨⟨h1,h2⟩,h3,h4⟩:=h
 have hn:=aB h4
 refine And.symm ⟨fun w a b ha hb=>?_,?_⟩
 .obtain ⟨cs,e0,e1,e2,e3⟩:=aAH a b (by omega)
  have g1:=H4 9992 8 t h2 w cs (by omega)
  have g2:=fun em=>TW em 9992 8 t h2 w cs (by omega)
  simp only [kB,h1,if_true] at g1 g2
  rw [e1,e2,<-e3]
  exact ⟨g1,g2⟩
 intro w x y xs ys vs us c hq hlen hv hu
 obtain ⟨cs,rfl,rfl,rfl⟩:=TZ hq hv hu
 refine ⟨fun op=>run_eqGuard_agg w op t x y _ _ h3,?_⟩
 have hl:cs.length=P.cellsOf t:=by
  have:=hv.1
  rw [BK] at this
  omega
 have:=H4 9992 8 t h2 w cs hl
 simp only [kB,h1,if_true] at this
 exact this
def HY (P:Program):List (Nat×Nat)->Bool
 | []=>true
 | (t,n)::r=>SK P t n&&HY P r
theorem FI {P:Program}:∀ {l:List (Nat×Nat)},HY P l=true->∀ t,0<uQ l t->IX P t (uQ l t)
 | [],_,t,h=>by cases h
 | (i,n)::r,hb,t,h=>by
  simp only [HY,Ad] at hb
  simp only [uQ] at h⊢
  cases hx:Ar i t with
  | true=>
   rw [hx] at h
   rw [<-aB hx]
   exact SJ hb.1
  | false=>rw [hx] at h;exact FI hb.2 t h
def uI (P:Program) (mt:UF):Prop:=∀ t name g,Q9 mt t name=some g->∀ v w,(method (P.types.size+Made.depth) t v name).run P w= .ok (g,v) w
theorem uI.nil {P:Program}:uI P []:=fun t name g h=>by cases h
theorem uI.cons {P:Program} {i f:Nat} {s:String} {mt:UF} (h:∀ v w,(method (P.types.size+Made.depth) i v s).run P w= .ok (f,v) w) (k:uI P mt):uI P ((i,s,f)::mt):=by
 intro t name g hg
 simp only [Q9] at hg
 cases hq:(Ar i t&&s==name) with
 | false=>rw [hq] at hg;exact k t name g hg
 | true=>
  rw [hq] at hg
  cases hg
  obtain ⟨h1,h2⟩:=aS hq
  have h1:=aB h1
  have h2:s=name:=by simpa using h2
  subst h1 h2
  exact h
section
variable {E:Env} {fn:Func} {g:Goal} {M0:Imm} {ob0:Hs} {obs0:List AObj} {w0:World} {sz:Nat} {dfs:List (Nat×List AVal)} {fr:List (Nat×AVal)} {obs:List AObj} {a:Act} {w:World}
end
def strip:Nat->AVal->AVal
 | 0,v=>v
 | n+1,v=>match v with
  | .slice sz xs _=>.slice sz xs .no
  | .agg cs=>.agg (dC (strip n) cs)
  | .tup cs=>.tup (dC (strip n) cs)
  | .iface t v=>.iface t (strip n v)
  | v=>v
theorem rZ {M:Imm} {ob:Hs}:∀ (n:Nat) {v:Value} {a:AVal},Rep M ob v a->Rep M ob v (strip n a):=by
 intro n
 induction n with
 | zero=>intro v a h;exact h
 | succ n ih=>
  intro v a h
  cases h with
  | agg vs as hl hr=>
   obtain ⟨h1,h2⟩:=bR (fun v a=>ih) hl hr
   exact .agg vs _ h1 h2
  | tup vs as hl hr=>
   obtain ⟨h1,h2⟩:=bR (fun v a=>ih) hl hr
   exact .tup vs _ h1 h2
  | iface t v a hr=>exact .iface t v _ (ih hr)
  | slnil sz t ht=>exact .slnil sz .no trivial
  | slemp sz t a cap ht=>exact .slemp sz .no a cap trivial
  | sl sz b o n cap xs t hn hc hm hz hr ht=>exact .sl sz b o n cap xs .no hn hc hm hz hr trivial
  | undef v=>exact .undef v
  | bool b=>exact .bool b
  | int k n hr=>exact .int k n hr
  | str l hl=>exact .str l hl
  | ptr b o cs h=>exact .ptr b o cs h
  | ref k off b h=>exact .ref k off b h
  | eref k g i sz off b n c h=>exact .eref k g i sz off b n c h
  | csl k off len sz b h hm=>exact .csl k off len sz b h hm
  | row k g a n c h=>exact .row k g a n c h
  | sub k g lo len sz b n c h hl hn hc hm=>exact .sub k g lo len sz b n c h hl hn hc hm
  | sub0 k g lo sz a a' n c h hl hc=>exact .sub0 k g lo sz a a' n c h hl hc
  | rowc k g c a n h hm=>exact .rowc k g c a n h hm
  | pre k g n c sz b len h hc hn hl hm=>exact .pre k g n c sz b len h hc hn hl hm
  | mref k b h=>exact .mref k b h
  | nilptr=>exact .nilptr
  | nilslice=>exact .nilslice
  | nilmap=>exact .nilmap
  | nilfunc=>exact .nilfunc
  | nilif=>exact .nilif
  | hsl a n c=>exact .hsl a n c
  | func fn fs cs fa ca hf hc h1 h2=>exact .func fn fs cs fa ca hf hc h1 h2
theorem aA.strip {P:Program} {f:FuncId} {args:List AVal} {obs obs':List AObj} {r:Res} (h:aA P f (dC (strip 5) args) obs r obs'):aA P f args obs r obs':=
 fun M ob w vargs hm hr=>h M ob w vargs hm (by
  obtain ⟨h1,h2⟩:=bR (M':=M) (ob':=ob) (fun v a=>rZ (M:=M) (ob:=ob) 5) hr.1 hr.2
  exact ⟨h1,h2⟩)
def NO (n:Nat):List (Nat×List AVal)->Bool
 | []=>true
 | (_,l)::r=>yZ (bel n 5) l&&NO n r
theorem F7 {n:Nat}:∀ {l:List (Nat×List AVal)},NO n l=true->∀ (i:Nat) x,l[i]? =some x->yZ (bel n 5) x.2=true
 | [],_,i,x,h=>by simp at h
 | (f,y)::r,hb,i,x,h=>by
  simp only [NO,Ad] at hb
  cases i with
  | zero=>simp at h;subst h;exact hb.1
  | succ i=>exact F7 hb.2 i x (by simpa using h)
theorem T4 {w0 w:World} {M:Imm} {ob:Hs} {n:Nat} {ds:List Deferred} {dfs:List (Nat×List AVal)} (h:cK w0 w M ob ds dfs) (hb:NO n dfs=true):cK w0 w M (ob.take n) ds dfs:=
 let ⟨d1,d2,e,h,h2⟩:=h
 ⟨d1,d2,e,⟨h.1,fun i d x hd hx=>⟨(h.2 i d x hd hx).1,(h.2 i d x hd hx).2.1,fun j v a hv ha=>vI 5 ((h.2 i d x hd hx).2.2 j v a hv ha) (jR (F7 hb i x hx) j a ha)⟩⟩,h2⟩
theorem To.cut {E:Env} {fn:Func} {g:Goal} {ks:List KI} {fr:List (Nat×AVal)} {obs:List AObj} (l:List Nat) (n:Nat) (hg:Ea g.n0 n=true) (hf:T3 n (mP l fr)=true) (ho:zY n (kX n obs)=true) (hd:NO n E.df=true)
  (h:To E fn g (.head ks (mP l fr) (kX n obs))):To E fn g (.head ks fr obs):=
 .mk fun hok M0 ob0 obs0 w0 a w hst hs=>by
  refine h.rec fun h=>h hok M0 ob0 obs0 w0 a w hst ?_
  obtain ⟨M,ob,hx,hm,hfr,r1,r2,r3⟩:=hs
  rw [wX] at ho⊢
  obtain ⟨m1,m2⟩:=hm.cutO ho
  have h0:ob0.length<=n:=by rw [hst.1];exact Bw hg
  refine ⟨M,ob.take n,⟨hx.imm,hx.new,fun k hs hk=>?_,hx.os,hx.tape,hx.output,hx.size,hx.keep,fun k b ha=>hx.fresh k b (m2 ha)⟩,m1,fun t=>?_,r1,T4 r2 hd,by simp;omega⟩
  .obtain ⟨hs',e1,e2⟩:=hx.hs k hs hk
   have hlt:k<n:=by have:=(Ab.1 hk).1;omega
   exact ⟨hs',by rw [Bj hlt];exact e1,e2⟩
  .rcases F6 hf t with q | q
   .rcases mB fr t l with e | e
    .rw [e] at q⊢
     exact vI 5 (hfr t) q
    .rw [e];exact .undef _
   .rw [q];exact .undef _
open Go.RowKit Go.ChangeShapes Go.WideShapes Go.ChangeAt
theorem IR {P:Program} {f:FuncId} {args:List AVal} {vargs:List Value} {w:World} {M:Imm} (hbo:oG P f) (h:aA P f args [] (.ret (.bool true)) []) (hm:Mem M [] [] w) (hr:cB M [] vargs args):
  Calls P f vargs.toArray w fun e w'=>e= .returned (.bool true)/\Below w.heap.size w w':=by
 rcases h M [] w vargs hm hr with ⟨_,h⟩ | ⟨u,w',h,_⟩
 .refine h.mono fun e w' ⟨M',ob',h1,h2,h3⟩=>⟨?_,h1.below⟩
  cases e with
  | returned v=>rw [Rep.bool_inv h3]
  | panicked ch=>exact h3.elim
  | outgrown=>exact h3.elim
 .rw [hbo] at h
  cases h
section
variable {P:Program} {w:World} {r:Reach} {base:Nat} {t:TypeId} {v:Value}
theorem WE (ht:P.underlying t=some .string) (h:Cell.okWide P w r base t v):∃ l:List UInt8,v= .string ⟨l.toArray⟩/\(l.length:Int)<=9223372036854775807:=by
 unfold Cell.okWide at h
 rw [ht] at h
 unfold Cell.ok at h
 rw [ht] at h
 cases v<;>simp at h
 rename_i s
 obtain ⟨⟨l⟩⟩:=s
 exact ⟨l,rfl,h⟩
theorem QV (hag:aU P t=false) (h:Js P w r base t v):Cell.okWide P w r base t v:=by
 unfold Js at h
 unfold aU at hag
 split at h
 .rename_i hu;rw [hu] at hag;cases hag
 .rename_i hu;rw [hu] at hag;cases hag
 .exact h
theorem aBx {M:Imm} {ob:Hs} {v:Value} {a:AVal} (h:Rep M ob v a) {vs:List Value} {as:List AVal} (hs:cB M ob vs as):cB M ob (v::vs) (a::as):=cB.cons h hs
theorem aBy {M:Imm} {ob:Hs}:cB M ob [] []:=⟨rfl,fun i v a h=>by simp at h⟩
end
theorem aCB {args:Array Value} (h:args.toList.length=1):∃ a,args= #[a]:=by
 obtain ⟨l⟩:=args
 match l,h with
 | [a],_=>exact ⟨a,rfl⟩
section
variable {H:Type} {enc:TypeId×Value->H} {P:Program}
def JP (P:Program):List TypeId->Bool
 | []=>true
 | t::ts=>(P.readableRec t&&decide (t<P.types.size))&&JP P ts
theorem zJ (hl:laidOutB P=true) {W W':World} (hb:Below W.heap.size W W'):∀ {ts:List TypeId} {vs:List Value} {ds:List (DataW H)} {ps:List MemPlace},JP P ts=true->(∀ x∈ps,x.block<W.heap.size)->
  DataW.TrodAll enc P W 0 (fun _=>true) true ts vs ds ps->DataW.TrodAll enc P W' 0 (fun b=>decide (b<W.heap.size)) true ts vs ds ps:=by
 intro ts
 induction ts with
 | nil=>
  intro vs ds ps _ _ h
  obtain ⟨rfl,rfl,rfl⟩:=trodAll_nil h
  exact trodAll_mk0
 | cons t ts ih=>
  intro vs ds ps hr hlt h
  simp only [JP,Ad,decide_eq_true_eq] at hr
  obtain ⟨v,vs',d,ds',p,q,rfl,rfl,rfl,h0,h1⟩:=trodAll_cons h
  exact trodAll_cons_mk (Below.trod hl hr.1.1 hr.1.2 h0 hb fun x hx=>hlt x (by simp [hx])) (ih hr.2 (fun x hx=>hlt x (by simp [hx])) h1)
theorem tQ {W:World}:∀ {ts:List TypeId} {vs:List Value} {ds:List (DataW H)} {ps:List MemPlace},DataW.TrodAll enc P W 0 (fun _=>true) true ts vs ds ps->vs.length=ts.length/\ds.length=ts.length:=by
 intro ts
 induction ts with
 | nil=>
  intro vs ds ps h
  obtain ⟨rfl,rfl,rfl⟩:=trodAll_nil h
  exact ⟨rfl,rfl⟩
 | cons t ts ih=>
  intro vs ds ps h
  obtain ⟨v,vs',d,ds',p,q,rfl,rfl,rfl,h0,h1⟩:=trodAll_cons h
  obtain ⟨a,b⟩:=ih h1
  exact ⟨by simp [a],by simp [b]⟩
theorem MD {fn:Func} {s:ChangeSpec} {W W':World} {args:Array Value} {ds gs:List (DataW H)} {oD:List MemPlace} {tb:TypeId} (hl:laidOutB P=true) (hr:JP P fn.params.toList=true) (hv:s.vars=[])
  (hrt:fn.resultTypes= #[tb]) (hb:P.underlying tb=some .bool) (hW:DataW.Whole enc P fn.params.toList s.vars false W args.toList ds gs oD) (hbel:Below W.heap.size W W')
  (hfn:ds.length=fn.params.toList.length->(s.fn H ds).results=[.lit (.bool true)]/\(s.fn H ds).args=ds/\(s.fn H ds).vars=[]):s.post enc P fn false true false false W args (.bool true) W':=by
 have hlt:=hW.lt
 have hW':=hW
 obtain ⟨p,q,hA,hV,rfl,hfz,hnd⟩:=hW
 rw [hv] at hV
 obtain ⟨rfl,rfl⟩:=trodVars_none hV
 obtain ⟨f1,f2,f3⟩:=hfn (tQ hA).2
 refine ⟨ds,[],_,[],p,[],hW',?_,?_,?_,hbel.frame _,fun h=>by cases h⟩
 .rw [Ay,f1,hrt]
  exact trodAll_cons_mk (shut_bool hb _) trodAll_mk0
 .rw [Ay,f2]
  exact zJ hl hbel hr (fun x hx=>hlt x (by simp [hx])) hA
 .rw [Ay,f3,hv]
  exact rfl
end
inductive RepW (w:World):Value->AVal->Prop
 | bool (b):RepW w (.bool b) (.bool b)
 | int (k n) (h:inR k n):RepW w (.int k n) (.int k n)
 | str (l:List UInt8) (h:(l.length:Int)<=9223372036854775807):RepW w (.string ⟨l.toArray⟩) (.str l)
 | nilslice (sz:Nat):RepW w (.slice none 0 0) (.slice sz [] .no)
 | emptys (sz:Nat) (a:Addr) (cap:Nat):RepW w (.slice (some a) 0 cap) (.slice sz [] .no)
 | slice (sz b o n cap:Nat) (xs:List AVal) (us:Nat->Nat->Value) (hn:xs.length=n) (hc:n<=cap) (hm:(n:Int)<=9223372036854775807) (hz:∀ x∈xs,x.cells.length=sz)
   (h1:∀ (i j:Nat) x c,xs[i]? =some x->x.cells[j]? =some c->w.cell? ⟨b,o+i*sz+j,none⟩=some (us i j)) (h2:∀ (i j:Nat) x c,xs[i]? =some x->x.cells[j]? =some c->(us i j).oneCell'=true)
   (h3:∀ (i j:Nat) x c,xs[i]? =some x->x.cells[j]? =some c->RepW w (us i j) c):RepW w (.slice (some ⟨b,o,none⟩) n cap) (.slice sz xs .no)
def Mw (w:World):Imm:=fun b o x=>∃ v,w.cell? ⟨b,o,none⟩=some v/\v.oneCell'=true/\RepW w v x
theorem RepW.rep {w:World} {v:Value} {a:AVal} (h:RepW w v a):Rep (Mw w) [] v a:=by
 cases h with
 | bool b=>exact .bool b
 | int k n h=>exact .int k n h
 | str l h=>exact .str l h
 | nilslice sz=>exact .slnil sz .no trivial
 | emptys _ a cap=>exact .slemp _ _ _ _ trivial
 | slice sz b o n cap xs us hn hc hm hz h1 h2 h3=>exact .sl sz b o n cap xs .no hn hc hm hz (fun i j x c hx hj=>⟨us i j,h1 i j x c hx hj,h2 i j x c hx hj,h3 i j x c hx hj⟩) trivial
theorem aCw (w:World):Mem (Mw w) [] [] w where
 imm:=fun b o x ⟨v,h1,h2,h3⟩=>⟨v,h1,h2,h3.rep⟩
 len:=rfl
 obj k c h:=by simp at h
 lt k b h:=by obtain ⟨c,hs,e,_⟩:=h;simp at e
 inj k k' b h:=by obtain ⟨c,hs,e,_⟩:=h;simp at e
theorem RepW.one {w:World} {v:Value} {a:AVal} (h:RepW w v a):v.oneCell'=true:=by cases h<;>rfl
section
variable {H:Type} {enc:TypeId×Value->H} {P:Program} {w:World} {base:Nat} {spare:Nat->Bool} {held:Bool}
end
def vL (M:Imm) (ob:Hs) (u:FrameMode):Option AVal->Prop
 | none=>u= .returning
 | some v=>∃ x,u= .panicking [{v:=x,recovered:=false}]/\Rep M ob x v
def uK (P:Program) (f:FuncId) (args:List AVal) (obs:List AObj) (p:Option AVal) (obs':List AObj):Prop:=
 ∀ M ob w vargs u,Mem M ob obs w->cB M ob vargs args->vL M ob u p->
  (callFunc f vargs.toArray).run P w= .ok (.enter f vargs.toArray) w/\
   CallsD P f vargs.toArray u w fun e u' w'=>∃ v M' ob',e= .returned v/\settle u'= .returning/\Ext M ob obs w M' ob' obs' w'/\Mem M' ob' obs' w'
section
variable {P:Program}
theorem DN {o:Oper} {ats:Array TypeId} {ρ:Operand->Value} {w:World} (ho:o.op= .call {callee:=.builtin .recover,args:= #[],argTypes:=ats}):(execOp ρ o).run P w= .ok .recover w:=by
 obtain ⟨dst,op,ty,pos,after,gd⟩:=o
 subst ho
 rfl
theorem BX {M:Imm} {ob:Hs} {u:FrameMode} {p:Option AVal} (h:vL M ob u p) (c:Frame) (cs:List Frame) (hu:c.mode=u):
  ∃ v u',Rep M ob v (match p with | none=>.nilif | some a=>a)/\settle u'= .returning/\
   ((recoverD (c::cs)=some (v,{c with mode:=u'}::cs))\/(recoverD (c::cs)=none/\v= .nilIface/\({c with mode:=u'}:Frame)=c)):=by
 cases p with
 | none=>
  have h:u= .returning:=h
  subst h
  refine ⟨.nilIface,.returning,.nilif,rfl,.inr ⟨by simp [recoverD,hu],rfl,?_⟩⟩
  rw [<-hu]
 | some a=>
  obtain ⟨x,rfl,hr⟩:=h
  refine ⟨x,.panicking [{v:=x,recovered:=true}],hr,rfl,.inl ?_⟩
  simp [recoverD,hu]
end
def zC:Code->Code
 | .seq _ b=>b
 | c=>c
def aAi:Code->Bool
 | .seq (.region _ ops false) _=>(match ops.toList with
  | [o]=>(match o.op with
   | .call c=>(match c.callee with | .builtin .recover=>c.args.toList.isEmpty&&o.guard.isNone&&o.dst.isSome | _=>false)
   | _=>false)
  | _=>false)
 | _=>false
def L7:Code->Nat
 | .seq (.region _ ops _) _=>(match ops.toList with | [o]=>o.dst.getD 0 | _=>0)
 | _=>0
theorem L9 {c:Code} (h:aAi c=true):∃ id o ats rest,c= .seq (.region id #[o] false) rest/\o.op= .call {callee:=.builtin .recover,args:= #[],argTypes:=ats}/\o.guard=none/\o.dst=some (L7 c)/\zC c=rest:=by
 unfold aAi at h
 split at h
 .rename_i id ops rest
  split at h
  .rename_i o ho
   split at h
   .rename_i cl hop
    split at h
    .rename_i hcl
     simp only [Ad] at h
     obtain ⟨⟨h1,h2⟩,h3⟩:=h
     obtain ⟨cal,as,ats⟩:=cl
     have hcl:cal= .builtin .recover:=hcl
     subst hcl
     have e:ops= #[o]:=by cases ops;simp at ho;simp [ho]
     subst e
     have ha:as= #[]:=by cases as;simp at h1;simp [h1]
     subst ha
     obtain ⟨d,hd⟩:=Ct.1 h3
     refine ⟨id,o,ats,rest,rfl,hop,by simpa using h2,?_,rfl⟩
     simp [L7,hd]
    .cases h
   .cases h
  .cases h
 .cases h
theorem uK.of {E:Env} {f:FuncId} {fn:Func} {args:List AVal} {obs:List AObj} {n0:Nat} {r:AVal} {obs':List AObj} {p:Option AVal} (hdf:E.df=[]) (hf:E.P.funcs[f]? =some fn) (hb:fn.body=some (cR fn)) (hbo:oG E.P f)
  (hrec:aAi (cR fn)=true) (hco:cQ fn.ntmps (zC (cR fn))=true) (hn:Ea args.length fn.ntmps=true) (ht:Du (L7 (cR fn)) fn.ntmps=true) (hsb:pP obs=true) (hg:obs.length=n0)
  (h:okL args->To E fn (.full n0 (.ret r) obs') (.code [.code (zC (cR fn))] (cN (frA 0 args) (L7 (cR fn)) (match p with | none=>.nilif | some a=>a)) obs)) (hrd:E.rd=none:=by rfl):uK E.P f args obs p obs':=by
 intro M ob w vargs u hm hr hmode
 refine ⟨hbo _ _,?_⟩
 obtain ⟨id,o,ats,rest,hc,hop,hgd,hdst,haft⟩:=L9 hrec
 rw [haft] at h hco
 have hlen:vargs.length=args.length:=hr.1
 have hle:=Bw hn
 have htl:L7 (cR fn)<fn.ntmps:=by simpa [Ep] using ht
 generalize htt:L7 (cR fn)=t at *
 have hst:mU (.full n0 (.ret r) obs') ob:=by
  refine ⟨by rw [hm.len,hg];rfl,fun _ hs hmem=>?_⟩
  obtain ⟨k,hk⟩:=Cz hmem
  have hlt:k<obs.length:=by rw [<-hm.len];exact (Ab.1 hk).1
  obtain ⟨h1,h2⟩:=pM hsb k _ (Ac hlt)
  have e:=eR (Ac hlt)
  have:=hm.histLen (by rw [e];exact h1) hk
  rw [e,h2] at this
  exact this
 intro c cs hu
 obtain ⟨v,u',hv,hset,hrecD⟩:=BX hmode c cs hu
 let b:Frame:={(default:Frame) with fn:=f,kind:=.deferred}
 let a:Act:={tmps:=vargs.toArray++Dw (fn.ntmps-vargs.toArray.size) undef,defers:=[]}
 have hasz:a.tmps.size=fn.ntmps:=by simp [a];omega
 have henter:Frame.enter E.P f vargs.toArray .deferred=b.at a [.code (.seq (.region id #[o] false) rest)]:=by
  simp [Frame.enter,Frame.at,hf,hb,hc,b,a]
 have ha:∀ t,Rep M ob (a.tmps.getD t undef) (aX (frA 0 args) t):=fun t=>by
  rw [xT]
  simp only [Bm,if_true,Fy]
  by_cases ht:t<args.length
  .rw [Ac ht]
   have hv:t<vargs.length:=by omega
   have:a.tmps.getD t undef=vargs[t]:=by
    show (vargs.toArray++Dw (fn.ntmps-vargs.toArray.size) undef).getD t undef=_
    rw [Ap,Gl (by simpa using hv)]
    simp [hv]
   rw [this]
   exact hr.2 t _ _ (Ac hv) (Ac ht)
  .rw [Bf (by omega)]
   exact .undef _
 -- the region of recover
 have hreg:=wp_opsS (P:=E.P) (ops:= #[o]) (Q:=fun e a' cs' w'=>e= .normal/\a'=a.put o.dst v/\cs'={c with mode:=u'}::cs/\w'=w) [0] a (c::cs) w (by
  have e0:(#[o]:Array Oper)[0]? =some o:=rfl
  have hw:Cw o (yielded #[o] a.tmps)=true:=by unfold Cw;rw [hgd]
  simp only [wpOpsS,e0,hw,if_true,DN hop]
  rcases hrecD with h1 | ⟨h1,rfl,h2⟩
  .rw [h1]
   refine ⟨?_,?_,?_,?_⟩<;>first | trivial | rfl
  .rw [h1]
   refine ⟨?_,?_,?_,?_⟩<;>first | trivial | rfl | rw [h2]) b [.code rest] rfl rfl
 obtain ⟨e1,a1,cs1,w1,⟨rfl,rfl,rfl,rfl⟩,harr1⟩:=hreg
 -- the rest
 have hkw:KW none E.P (mL E fn M ob obs w1 (.full n0 (.ret r) obs')) [.code rest] (a.put o.dst v) w1:=by
  rw [<-hrd]
  obtain ⟨hh⟩:=h hr.okL
  refine hh (by simp [bC,KI.ok,hco]) M ob obs w1 _ w1 hst ⟨M,ob,Ext.refl _ _ _ _,hm,?_,(cY _ _ _).1.trans hasz,by rw [hdf];exact cK.put (a:=a) .nil,by rw [hm.len];exact Bc _⟩
  intro s
  have:=kK (d:=some t) ha hv (fun d' e=>by cases e;omega) s
  rw [hdst]
  rwa [show fO (aX (frA 0 args)) (some t) _ s=aX (cN (frA 0 args) t _) s from (congrFun (dI (frA 0 args) (some t) _) s).symm] at this
 obtain ⟨e2,a2,w2,hq,harr2⟩:=hkw.arrives b ({c with mode:=u'}::cs) rfl
 have hsteps0:Steps E.P (lone (b.at a [.code (.seq (.region id #[o] false) rest)]) (c::cs) w1) (lone (b.at (a.put o.dst v) [.code rest]) ({c with mode:=u'}::cs) w1):=
  .head step_seq (.head step_region harr1)
 have fin:∀ {e:Ending} {w':World},RR M ob obs w1 (.full n0 (.ret r) obs') e w'->∃ v M' ob',e= .returned v/\settle u'= .returning/\Ext M ob obs w1 M' ob' obs' w'/\Mem M' ob' obs' w':=fun {e w'} ⟨M',ob',x1,x2,x3⟩=>by
  cases e with
  | returned v=>exact ⟨v,M',ob',rfl,hset,x1,x2⟩
  | panicked ch=>exact x3.elim
  | outgrown=>exact x3.elim
 rw [henter]
 cases e2 with
 | normal=>
  unfold mL zG at hq
  rw [hrd] at hq
  obtain ⟨e',w'',fr',hR,hs,_,hk,hl⟩:=dZ a2.defers .returning w2 {b.at a2 [] with mode:=.returning} ({c with mode:=u'}::cs) rfl rfl rfl hf hq
  exact ⟨e',u',w'',fr',fin hR,Comes.of_steps (hsteps0.trans (Steps.trans harr2 (.one step_end))) hs,hk,hl⟩
 | ret=>
  obtain ⟨todo,hs₀⟩:=harr2
  unfold mL zG at hq
  rw [hrd] at hq
  obtain ⟨e',w'',fr',hR,hs,_,hk,hl⟩:=dZ a2.defers .returning w2 {b.at a2 todo with mode:=.returning} ({c with mode:=u'}::cs) rfl rfl rfl hf hq
  exact ⟨e',u',w'',fr',fin hR,Comes.of_steps (hsteps0.trans hs₀) hs,hk,hl⟩
 | panic dN=>
  obtain ⟨todo,hs₀⟩:=harr2
  unfold mL at hq
  rw [hrd] at hq
  obtain ⟨e',w'',fr',hR,hs,_,hk,hl⟩:=dZ a2.defers (.panicking dN) w2 {b.at a2 todo with mode:=.panicking dN} ({c with mode:=u'}::cs) rfl rfl rfl hf hq
  exact ⟨e',u',w'',fr',fin hR,Comes.of_steps (hsteps0.trans hs₀) hs,hk,hl⟩
 | exit id=>exact hq.elim
 | goto l=>exact hq.elim
 | outgrown=>exact hq.elim
def aBc (fr:List (Nat×AVal)):List Oper->Option (Nat×List AVal)
 | [p]=>(match p.guard,p.op with
  | none,.defer c=>(match c.callee with
   | .value (.func f)=>some (f,evO (ev fr) c.args.toList)
   | _=>none)
  | _,_=>none)
 | _=>none
theorem H1 (ρ:Operand->AVal):∀ (l:List Operand),evO ρ l=l.map ρ
 | []=>rfl
 | x::r=>by simp [evO,H1 ρ r]
def Q7 (ks:List Nat) (og:Nat->AObj):Option AVal->Option AVal
 | none=>none
 | some v=>some (cvtV 0 ks og 5 v)
section
variable {E:Env} {fn:Func} {g:Goal}
theorem FD {df:List (Nat×List AVal)} {id:Nat} {ops:Array Oper} {ks:List KI} {fr:List (Nat×AVal)} {obs:List AObj} {f:Nat} {args:List AVal} (hd:aBc fr ops.toList=some (f,args))
  (hdf:df=(f,args)::E.df)
  (hrd:E.rd=none) (h:cS {E with df:=df} fn g ks (match ops.toList with | [o]=>jD fr o.dst (.tup []) | _=>fr) obs):cS E fn g (.code (.region id ops false)::ks) fr obs:=by
 intro ho M0 ob0 obs0 w0 a w hst hs
 simp only [bC,KI.ok,cQ,Ad] at ho
 obtain ⟨⟨ho1,_⟩,ho3⟩:=ho
 have hdst:=lI ho1
 unfold aBc at hd
 split at hd
 .rename_i o hops
  split at hd
  .rename_i c hg hop
   split at hd
   .rename_i f' hcal
    cases hd
    rw [hops] at h hdst
    dsimp only at h
    refine KW.code (Q':=QR {E with df:=df} fn g M0 ob0 obs0 w0 ks) ?_ (fun a w h=>h) (fun ch a w h=>h) (fun e a w hh=>by
     cases e<;>first | exact .inl rfl | exact .inr ⟨_,rfl⟩ | exact hh.elim)
    refine wpIn_region_list ?_
    rw [hops]
    unfold wpListIn
    have hw:Cw o (yielded ops a.tmps)=true:=by unfold Cw;rw [hg]
    rw [if_pos hw]
    obtain ⟨dst,op,ty,pos,after,gd⟩:=o
    have hop:op= .defer c:=hop
    subst hop
    obtain ⟨cal,as,ats⟩:=c
    have hcal:cal= .value (.func f):=hcal
    subst hcal
    have hx:(execOp a.eval ⟨dst,.defer ⟨.value (.func f),as,ats⟩,ty,pos,after,gd⟩).run E.P w= .ok (.defer {target:=.fn (.func f) #[],args:= #[]++as.map a.eval}) w:=rfl
    refine ⟨fun _ _=>trivial,?_⟩
    rw [show (fen E.rd).round=none from hrd,Oper.semAt_none,hx,Oper.uponIn_defer]
    obtain ⟨M,ob,x1,x2,x3,x4,x5,x6⟩:=hs
    refine h ho3 M0 ob0 obs0 w0 _ w hst ⟨M,ob,x1,x2,?_,(cY _ _ _).1.trans x4,?_,x6⟩
    .rw [dI]
     exact kK (a:={a with defers:={target:=Target.fn (Fn.func f) #[],args:= #[]++Array.map a.eval as}::a.defers}) x3 sI fun d' e=>x4▸hdst _ (Df.2 rfl) d' e
    .rw [hdf]
     obtain ⟨d1,d2,ed,x5,x7⟩:=x5
     refine cK.put (a:={a with defers:=_}) ⟨_::d1,d2,by rw [ed];rfl,⟨by simp [x5.1],fun i d x hd hx=>?_⟩,x7⟩
     cases i with
     | zero=>
      simp at hd hx
      subst hd hx
      refine ⟨rfl,?_,fun j v b hv hb=>?_⟩
      .simp [H1]
      .rw [H1,Bb] at hb
       simp only [Array.empty_append,Gn,Bb] at hv
       cases hj:as.toList[j]? with
       | none=>rw [hj] at hb;cases hb
       | some y=>
        rw [hj] at hb hv
        cases hb
        cases hv
        exact yE x3 y
     | succ i=>exact x5.2 i d x (by simpa using hd) (by simpa using hx)
   .cases hd
  .cases hd
 .cases hd
theorem To.defer (df:List (Nat×List AVal)) {id:Nat} {ops:Array Oper} {ks:List KI} {fr:List (Nat×AVal)} {obs:List AObj} {f:Nat} {args:List AVal} (hd:aBc fr ops.toList=some (f,args)) (hdf:df=(f,args)::E.df)
  (h:To {E with df:=df} fn g (.code ks (match ops.toList with | [o]=>jD fr o.dst (.tup []) | _=>fr) obs)) (hrd:E.rd=none:=by rfl):To E fn g (.code (.code (.region id ops false)::ks) fr obs):=
 .mk (h.rec fun h=>FD hd hdf hrd h)
theorem xJ {M0:Imm} {ob0:Hs} {obs0:List AObj} {w0:World} {sz:Nat} {f:Nat} {args:List AVal} {rest:List (Nat×List AVal)} {M:Imm} {ob:Hs} {obs obs':List AObj} {w:World} {a:Act} {u:FrameMode} {p:Option AVal} (fz ks:List Nat)
  {fr:List (Nat×AVal)} (x1:Ext M0 ob0 obs0 w0 M ob obs w) (x2:Mem M ob obs w) (x3:∀ t,Rep M ob (a.tmps.getD t undef) (aX fr t)) (x4:a.tmps.size=sz) {ds:List Deferred} (x5:cK w0 w M ob ds ((f,args)::rest)) (x6:ob0.length<=obs.length)
  (hk:lE ks (frzs fz obs)=true) (hu:vL M ob u p)
  (h:uK E.P f (dC (cvtV 0 ks (aE (frzs fz obs)) 5) args) (gH 0 ks (frzs fz obs)) (Q7 ks (aE (frzs fz obs)) p) obs') {R:Ending->World->Prop}
  (hl:∀ (ds':List Deferred) w',SS M0 ob0 obs0 w0 sz rest fr (iJ ks (aO (frzs fz obs)) (frzs fz obs) 0 obs' (frzs fz obs)) {a with defers:=ds'} w'->dS E.P fn a.tmps R ds' .returning w'):dS E.P fn a.tmps R ds u w:=by
 obtain ⟨dsA,dsB,rfl,x5,x7⟩:=x5
 cases dsA with
 | nil=>have:=x5.1;simp at this
 | cons d ds=>
  obtain ⟨htar,hargs⟩:=x5.2 0 d _ rfl rfl
  obtain ⟨M1,g1,g2,_,_⟩:=Mem.frzs fz M obs x2
  obtain ⟨c1,_,_⟩:=g1.cvt (n0:=0) hk
  have hrepl:cB M1 _ d.args.toList (dC (cvtV 0 ks (aE (frzs fz obs)) 5) args):=sQ (fun v a=>g1.cvtV (n0:=0) hk 5 v a) ⟨hargs.1,fun i v a hv ha=>(hargs.2 i v a hv ha).monoM g2.imm⟩
  have hmode:vL M1 (dJ 0 ob (frzs fz obs) 0 ks) u (Q7 ks (aE (frzs fz obs)) p):=by
   cases p with
   | none=>exact hu
   | some v=>
    obtain ⟨x,e,hr⟩:=hu
    exact ⟨x,e,g1.cvtV hk 5 _ _ (hr.monoM g2.imm)⟩
  obtain ⟨h1,h2⟩:=h M1 _ w d.args.toList u c1 hrepl hmode
  have hne:u≠ .run:=by
   cases p with
   | none=>have:u= .returning:=hu;rw [this];intro h;cases h
   | some v=>obtain ⟨x,e,_⟩:=hu;rw [e];intro h;cases h
  obtain ⟨tgt,das⟩:=d
  have htar:tgt= .fn (.func f) #[]:=htar
  subst htar
  refine ⟨hne,.inr ⟨.func f,#[],f,das,rfl,?_,?_⟩⟩
  .show (callFunc f (das++ #[])).run E.P w=_
   rw [Array.append_empty]
   exact h1
  .refine h2.mono fun e u' w' ⟨v,M',obK,e1,e2,e3,e4⟩=>?_
   subst e1
   dsimp only
   rw [e2]
   obtain ⟨m1,m2,_⟩:=g1.emb hk e3 e4
   have ext:=g2.trans m2
   refine hl (ds++dsB) w' ?_
   rw [bI]
   refine ⟨M',_,x1.trans ext,m1,fun t=>(x3 t).mono ext.imm ext.hs,x4,?_,?_⟩
   .refine ⟨ds,dsB,rfl,⟨by have:=x5.1;simpa using this,fun i d x hd hx=>?_⟩,(cK.ext (M:=M) (ob:=ob) ⟨[],dsB,rfl,.nil,x7⟩ x2 ext).marks⟩
    have:=x5.2 (i+1) d x (by simpa using hd) (by simpa using hx)
    exact ⟨this.1,this.2.1,fun j v a hv ha=>(this.2.2 j v a hv ha).mono ext.imm ext.hs⟩
   .have:=ext.lens
    have:=m1.len
    have:=x2.len
    omega
theorem To.leave (df:List (Nat×List AVal)) {f:Nat} {args:List AVal} (hdf:E.df=(f,args)::df) (fz ks:List Nat) {p:Option AVal} {fr:List (Nat×AVal)} {obs obs':List AObj} (hk:lE ks (frzs fz obs)=true)
  (h:uK E.P f (dC (cvtV 0 ks (aE (frzs fz obs)) 5) args) (gH 0 ks (frzs fz obs)) (Q7 ks (aE (frzs fz obs)) p) obs')
  (hn:To {E with df:=df} fn g (.leave none fr (iJ ks (aO (frzs fz obs)) (frzs fz obs) 0 obs' (frzs fz obs)))):To E fn g (.leave p fr obs):=by
 obtain ⟨hn⟩:=hn
 have hn:UH {E with df:=df} fn g fr (iJ ks (aO (frzs fz obs)) (frzs fz obs) 0 obs' (frzs fz obs)):=hn
 refine .mk ?_
 cases p with
 | none=>
  intro M0 ob0 obs0 w0 a w hst ⟨M,ob,x1,x2,x3,x4,x5,x6⟩
  rw [hdf] at x5
  exact xJ (p:=none) fz ks x1 x2 x3 x4 x5 x6 hk rfl h fun ds' w' hs=>hn M0 ob0 obs0 w0 {a with defers:=ds'} w' hst hs
 | some v=>
  intro M0 ob0 obs0 w0 ch a w hst ⟨M,ob,x1,x2,⟨x,e,hr⟩,x3,x4,x5,x6⟩
  rw [hdf] at x5
  exact xJ (p:=some v) fz ks x1 x2 x3 x4 x5 x6 hk ⟨x,by rw [e],hr⟩ h fun ds' w' hs=>hn M0 ob0 obs0 w0 {a with defers:=ds'} w' hst hs
theorem To.left (hE:EnvOK E) (hdf:E.df=[]) {fr:List (Nat×AVal)} {obs:List AObj} {v:AVal} (hv:PK E obs fn.results.toList fr=some v) (h:FO g .ret v obs) (hrd:E.rd=none:=by rfl):To E fn g (.leave none fr obs):=
 .mk fun M0 ob0 obs0 w0 a w hst hs=>go_ret hE hdf hrd hv h hst hs
end
def jS (r:Nat):Code->List KI->Option (List KI)
 | .region id _ _,ks=>bif Ar id r then some ks else none
 | .seq a b,ks=>(match jS r a (.code b::ks) with | some x=>some x | none=>jS r b ks)
 | .cond _ a b,ks=>(match jS r a ks with | some x=>some x | none=>jS r b ks)
 | .block id b,ks=>jS r b (.inB id::ks)
 | .loop b,ks=>jS r b (.inL b::ks)
 | _,_=>none
def fG (fn:Func) (r:Nat):List KI:=match jS r (cR fn) [] with | some ks=>ks | none=>[]
theorem To.cutC {E:Env} {fn:Func} {g:Goal} {ks:List KI} {fr:List (Nat×AVal)} {obs:List AObj} (l:List Nat) (n:Nat) (hg:Ea g.n0 n=true) (hf:T3 n (mP l fr)=true) (ho:zY n (kX n obs)=true) (hd:NO n E.df=true)
  (h:To E fn g (.code ks (mP l fr) (kX n obs))):To E fn g (.code ks fr obs):=by
 have:=To.cut (E:=E) (fn:=fn) (g:=g) (ks:=ks) (fr:=fr) (obs:=obs) l n hg hf ho hd (h.rec fun h=>.mk h)
 exact this.rec fun h=>.mk h
def J2:St->Bool
 | .head _ _ _=>false
 | _=>true
theorem goN {E:Env} {fn:Func} {g:Goal} (hE:EnvOK E) (fuel:Nat) {st:St} (_hs:J2 st=true) (h:bN E fn g (To E fn g) fuel st):To E fn g st:=bW hE fuel h
theorem DI {w:World} {b:Nat} {u s q:Value} {T:TypeId} (h:w.heap[b]? =some (.cells #[u,s] T (0,0))):w.setCell ⟨b,0,none⟩ q=w.setRow b #[q,s]:=by
 unfold World.setCell Ii
 congr 1
 refine Array.ext_getElem? fun i=>?_
 by_cases hi:b=i
 .subst hi
  rw [Ek,Ek,if_pos rfl,if_pos rfl,h]
  rfl
 .rw [Ek,Ek,if_neg hi,if_neg hi]
theorem pG {P:Program} {f:FuncId} {T:TypeId} (hbo:oG P f)
  (hc:∀ (b:Nat) (w:World),w.cell? ⟨b,0,none⟩=some (.pointer none)->w.shape? b=some (T,2)->w.frozen? ⟨b,0,none⟩=false->Calls P f #[.pointer (some ⟨b,0,none⟩)] w fun e w'=>e= .returned (.tuple #[])/\w'=w.setCell ⟨b,0,none⟩ (.pointer (some ⟨b,0,none⟩)))
  (s:AVal):aA P f [.ref 0 0] [.cells T [.nilptr,s]] (.ret (.tup [])) [.cells T [.ref 0 0,s]]:=by
 intro M ob w vargs hm hr
 obtain ⟨hl,hr⟩:=hr
 match vargs,hl with
 | [v],_=>
 obtain ⟨b,rfl,hat⟩:=(hr 0 _ _ rfl rfl).ref_inv
 obtain ⟨hs,e1,b',rfl,hno,cv,hh,hcl,h1,hrep⟩:=hm.obj 0 _ rfl
 have hbb:b'=b:=by rw [bT e1] at hat;simpa using hat
 subst hbb
 match cv,hcl with
 | [u,t],_=>
 have hu:u= .pointer none:=by
  have:=hrep 0 u _ rfl rfl
  cases this;rfl
 subst hu
 have hh:w.heap[b']? =some (.cells #[.pointer none,t] T (0,0)):=hh
 have hone:=h1 t (by simp)
 refine .inl ⟨hbo _ _,(hc b' w (by simp [Jg,hh]) (by simp [Kr,hh]) (by simp [World.frozen?,hh])).mono ?_⟩
 rintro e w' ⟨rfl,rfl⟩
 rw [DI hh]
 have:=hm.cellsTurn (k:=0) (cs':=[.ref 0 0,s]) (cv':=[.pointer (some ⟨b',0,none⟩),t]) rfl hat rfl (fun x hx=>by
  rcases Bh.1 hx with rfl | hx
  .rfl
  .rcases Bh.1 hx with rfl | hx
   .exact hone
   .cases hx) (fun i v a hv ha=>by
  match i with
  | 0=>
   simp at hv ha
   subst hv ha
   exact .ref 0 0 b' hat
  | 1=>
   simp at hv ha
   subst hv ha
   exact hrep 1 _ _ rfl rfl
  | i+2=>simp at hv)
 exact ⟨M,ob,this.2.1,this.1,.tup [] [] rfl (fun i v a hv=>by simp at hv)⟩
def GD (g n:Nat) (w w':World):Prop:=w'.os=w.os/\w'.tape=w.tape/\w'.output=w.output/\w'.heap=(w.freeze ⟨g,0,none⟩ n).heap
theorem SH {w:World} {g n:Nat} (h:n≠0):GD g n w (w.drew.freeze ⟨g,0,none⟩ n):=by
 unfold GD Jw
 rw [if_neg h,if_neg h]
 exact ⟨rfl,rfl,rfl,rfl⟩
theorem A2 {w:World} {g n k:Nat} (h:g≠k):(w.freeze ⟨g,0,none⟩ n).heap[k]? =w.heap[k]?:=by
 unfold Jw
 split
 .rfl
 .simp only [Ek,if_neg h]
theorem SF {w:World} {g n:Nat}:(w.freeze ⟨g,0,none⟩ n).heap.size=w.heap.size:=by
 unfold Jw
 split
 .rfl
 .simp
theorem SG {w:World} {g n b o:Nat}:(w.freeze ⟨g,0,none⟩ n).cell? ⟨b,o,none⟩=w.cell? ⟨b,o,none⟩:=by
 by_cases h:g=b
 .subst h
  unfold Jw
  split
  .rfl
  .unfold Jg
   simp only [Ek,if_true]
   cases h:w.heap[g]? with
   | none=>rfl
   | some x=>cases x<;>rfl
 .exact Cg (w:=w) (a:=⟨b,o,none⟩) (A2 h)
theorem oB {P:Program} {f:FuncId} {T e:TypeId} (hbo:oG P f)
  (hc:∀ (b g cap:Nat) (p:Value) (cur:Array Value) (l:List UInt8) (w:World),w.heap[b]? =some (.cells #[p,.slice (some ⟨g,0,none⟩) l.length cap] T (0,0))->w.heap[g]? =some (.cells cur e (0,0))->l≠[]->
   l.length<=cap->cap<=maxLen->cur.size=cap->(∀ (j:Nat) x,l[j]? =some x->w.cell? ⟨g,j,none⟩=some (.int .u8 x.toNat))->
   Calls P f #[.pointer (some ⟨b,0,none⟩)] w fun e w'=>e= .returned (.string ⟨l.toArray⟩)/\GD g l.length w w')
  (l:List UInt8) (h0:l≠[]) (p:AVal):aA P f [.ref 0 0] [.cells T [p,.slice 1 (l.map ub) (.own 1 0)],.tail 0 1 e] (.ret (.str l)) [.dead,.dead]:=by
 intro M ob w vargs hm hr
 obtain ⟨hl,hr⟩:=hr
 match vargs,hl with
 | [v],_=>
 obtain ⟨b,rfl,hat⟩:=(hr 0 _ _ rfl rfl).ref_inv
 obtain ⟨hs,e1,b',rfl,hno,cv,hh,hcl,h1,hrep⟩:=hm.obj 0 _ rfl
 have hbb:b'=b:=by rw [bT e1] at hat;simpa using hat
 subst hbb
 match cv,hcl with
 | [u,t],_=>
 have hh:w.heap[b']? =some (.cells #[u,t] T (0,0)):=hh
 have ht:=hrep 1 t _ rfl rfl
 obtain ⟨ht,htk⟩:=ht.untok
 have htk:at' ob 1 0=some t:=htk
 obtain ⟨hs1,k1,k2,v1,k3,n,cw,k4,k5⟩:=hm.obj 1 _ rfl
 have hv1:v1=t:=by
  rw [bT k1,k3] at htk
  simpa using htk
 subst hv1
 have hn:n=(l.map ub).length:=tW ht k4
 have hlen:(l.map ub).length=l.length:=by simp
 have hlm:=ht.slice_inv
 obtain ⟨_,_,_,_,_,hmax⟩:=hlm
 rw [hlen] at hmax hn
 have hpos:0<l.length:=Fp.2 h0
 subst hn
 have k4':=k4
 obtain ⟨hcwl,hor⟩:=k4
 rcases hor with ⟨rfl,hz⟩ | ⟨g,cap,cur,rfl,_,hg,hnc,hcm,hcs,htake⟩
 .omega
 have hcells:∀ (j:Nat) x,l[j]? =some x->w.cell? ⟨g,j,none⟩=some (.int .u8 x.toNat):=fun j x hx=>by
  rcases ht.sl_inv with ⟨h1,_⟩ | ⟨_,_,_,h1⟩ | ⟨b2,o2,cap2,h1,_,_,_,h⟩
  .cases h1
  .exact absurd (List.map_eq_nil_iff.1 h1) h0
  .simp only [Value.slice.injEq,Cu,Addr.mk.injEq] at h1
   obtain ⟨⟨rfl,rfl,_⟩,_,_⟩:=h1
   have hM:=h j 0 (ub x) (ub x) (by simp [hx]) rfl
   obtain ⟨u',hu',_,hr'⟩:=hm.imm _ _ _ hM
   rw [show 0+j*1+0=j from by omega] at hu'
   rw [hu']
   have:=hr'.int_inv
   rw [this.1]
 refine .inl ⟨hbo _ _,(hc b' g cap u cur l w hh hg h0 hnc hcm (by omega) hcells).mono ?_⟩
 rintro e w' ⟨rfl,hos,htape,hout,hheap⟩
 have hcell:∀ b o,w'.cell? ⟨b,o,none⟩=w.cell? ⟨b,o,none⟩:=fun b o=>by
  have:w'.cell? ⟨b,o,none⟩=(w.freeze ⟨g,0,none⟩ l.length).cell? ⟨b,o,none⟩:=by unfold Jg;rw [hheap]
  rw [this,SG]
 have dead:∀ (k b:Nat),¬ aM ob [.dead,.dead] k b:=fun k b ⟨c,hs,h1,h2,_⟩=>by
  match k with
  | 0=>simp at h1;subst h1;cases h2
  | 1=>simp at h1;subst h1;cases h2
  | k+2=>simp at h1
 refine ⟨M,ob,?_,?_,.str l hmax⟩
 .refine ⟨fun _ _ _ h=>h,fun _ _ _ h=>.inl h,dD.refl _,hos,htape,hout,by rw [hheap,SF];exact Bc _,fun k hk hal=>?_,fun k b h=>absurd h (dead k b)⟩
  rw [hheap,A2]
  intro e
  subst e
  refine hal 1 ⟨_,hs1,rfl,rfl,k1,?_⟩
  rw [dU k2 k3]
  exact cZ.2 rfl
 .refine ⟨fun b o x hx=>?_,hm.len,fun k c hk=>?_,fun k b h=>absurd h (dead k b),fun k _ b h=>absurd h (dead k b)⟩
  .obtain ⟨v,h1,h2,h3⟩:=hm.imm b o x hx
   exact ⟨v,by rw [hcell];exact h1,h2,h3⟩
  .match k with
   | 0=>simp at hk;subst hk;exact ⟨_,e1,trivial⟩
   | 1=>simp at hk;subst hk;exact ⟨_,k1,trivial⟩
   | k+2=>simp at hk
theorem E0 (k:IntKind):∃ p,bF k+1=2 ^ p/\p<=k.bits:=by
 cases k
 .exact ⟨7,by decide,by decide⟩
 .exact ⟨15,by decide,by decide⟩
 .exact ⟨31,by decide,by decide⟩
 .exact ⟨63,by decide,by decide⟩
 .exact ⟨8,by decide,by decide⟩
 .exact ⟨16,by decide,by decide⟩
 .exact ⟨32,by decide,by decide⟩
 .exact ⟨64,by decide,by decide⟩
theorem WX (k:IntKind):cC k<=0:=by cases k<;>decide
theorem eS {k:IntKind} {a:Nat} (h:(a:Int)<=bF k):inR k a:=⟨Int.le_trans (WX k) (Int.natCast_nonneg a),h⟩
theorem oO (n a:Nat) (h:a<2 ^ n):(BitVec.ofInt n (a:Int)).toNat=a:=by
 rw [BitVec.ofInt_natCast,BitVec.toNat_ofNat,Dx h]
theorem CC {k:IntKind} {a p:Nat} (hp:bF k+1=2 ^ p) (h:(a:Int)<=bF k):a<2 ^ p:=by
 have h1:(a:Int)<2 ^ p:=by omega
 have:((2 ^ p:Nat):Int)=2 ^ p:=by simp
 omega
theorem RK {k:IntKind} {a p:Nat} (hp:bF k+1=2 ^ p) (h:a<2 ^ p):(a:Int)<=bF k:=by
 have:((2 ^ p:Nat):Int)=2 ^ p:=by simp
 omega
theorem yK (k:IntKind) (a b:Nat) (ha:(a:Int)<=bF k) (hb:(b:Int)<=bF k):iC .or k a b=((a ||| b:Nat):Int):=by
 obtain ⟨p,hp,hpk⟩:=E0 k
 have h1:=CC hp ha
 have h2:=CC hp hb
 have hle:2 ^ p<=2 ^ k.bits:=Dm (by decide) hpk
 simp only [iC,BitVec.toNat_or,oO k.bits a (by omega),oO k.bits b (by omega)]
 exact hC (eS (RK hp (Nat.or_lt_two_pow h1 h2)))
theorem NE (k:IntKind) (a b:Nat) (ha:(a:Int)<=bF k) (hb:(b:Int)<=bF k):iC .and k a b=((a &&& b:Nat):Int):=by
 obtain ⟨p,hp,hpk⟩:=E0 k
 have h1:=CC hp ha
 have h2:=CC hp hb
 have hle:2 ^ p<=2 ^ k.bits:=Dm (by decide) hpk
 simp only [iC,BitVec.toNat_and,oO k.bits a (by omega),oO k.bits b (by omega)]
 exact hC (eS (RK hp (Nat.and_lt_two_pow _ h2)))
theorem QS {a b i:Nat} (h:a<2 ^ i):a ||| (b*2 ^ i)=a+b*2 ^ i:=by
 have:=Nat.two_pow_add_eq_or_of_lt h b
 rw [Nat.or_comm,Dj b,<-this,Kv]
theorem YV (a p:Nat):a &&& (2 ^ p-1)=a % 2 ^ p:=Nat.and_two_pow_sub_one_eq_mod a p
theorem I3 (n:Nat):IntKind.u8.wrap (n:Int)=((n % 256:Nat):Int):=by
 simp [IntKind.wrap,IntKind.signed,IntKind.bits]
set_option maxRecDepth 8000 in
theorem aAv:∀ m:Fin 256,m.val ||| 128=128+m.val % 128:=by decide
theorem qI {m:Nat} (h:m<256):ub (Di m)= .int .u8 m:=by
 simp only [ub]
 rw [Fx,Dx (by simpa using h)]
def TM (n0:Nat) (ks:List Nat) (og:Nat->AObj):List (Nat×AVal)->List (Nat×AVal)
 | []=>[]
 | (i,v)::r=>(i,cvtV n0 ks og 5 v)::TM n0 ks og r
theorem sV (n0:Nat) (ks:List Nat) (og:Nat->AObj) (t:Nat):∀ (fr:List (Nat×AVal)),aX (TM n0 ks og fr) t=cvtV n0 ks og 5 (aX fr t)
 | []=>rfl
 | (i,v)::r=>by
  simp only [TM,aX]
  cases Ar i t with
  | true=>rfl
  | false=>exact sV n0 ks og t r
theorem To.part {E:Env} {fn:Func} {g:Goal} {st:List KI} {fr:List (Nat×AVal)} {obs:List AObj} (l:List Nat) (ks:List Nat) (hdf:E.df=[]) (hk:lE ks obs=true) (hb:lN g.n0 0 ks=true)
  (h:To E fn g (.head st (TM g.n0 ks (aE obs) (mP l fr)) (gH g.n0 ks obs))) (hstr:g.strict=true:=by rfl):To E fn g (.head st fr obs):=
 .mk fun hok M0 ob0 obs0 w0 a w hst hs=>by
  refine h.rec fun h=>h hok M0 ob0 obs0 w0 a w hst ?_
  obtain ⟨M,ob,hx,hm,hfr,r1,r2,r3⟩:=hs
  obtain ⟨c1,c2,_⟩:=hm.cvt (n0:=g.n0) hk
  have hn:ob0.length=g.n0:=hst.1
  have hlen:(gH g.n0 ks obs).length=ks.length:=by unfold gH;rw [kS]
  have hks:ob0.length<=ks.length:=by
   rw [hn]
   rcases Fz g.n0 with h0 | h0
   .omega
   .have:=iU hb (g.n0-1) (by omega)
    have:=(Ab.1 this).1
    omega
  refine ⟨M,_,⟨hx.imm,hx.new,fun j hs hj=>?_,hx.os,hx.tape,hx.output,hx.size,hx.keep,fun j b ha=>?_⟩,c1,fun t=>?_,r1,?_,by rw [hlen];exact hks⟩
  .have hlt:j<g.n0:=by rw [<-hn];exact (Ab.1 hj).1
   have hkj:=iU hb j hlt
   rw [Bk] at hkj
   obtain ⟨hs',e1,t,e2⟩:=hx.hs j hs hj
   have hl1:=hst.2 hstr hs (Aw hj)
   refine ⟨fY g.n0 j (aE obs j) hs',?_,?_⟩
   .rw [eZ,hkj]
    simp [e1]
   .unfold fY
    split
    .rw [<-e2]
     have:(hs++t).take 1=hs:=by rw [Dd (by omega),Cs (by omega)]
     rw [this]
     exact ⟨_,rfl⟩
    .exact ⟨t,e2⟩
  .obtain ⟨k,_,ha'⟩:=c2 j b ha
   exact hx.fresh k b ha'
  .rw [sV]
   have:Rep M ob (a.tmps.getD t undef) (aX (mP l fr) t):=by
    rcases mB fr t l with e | e
    .rw [e];exact hfr t
    .rw [e];exact .undef _
   exact hm.cvtV (n0:=g.n0) hk 5 _ _ this
  .rw [hdf] at r2⊢
   exact r2.bare
def LP:List AVal->Nat->AVal->List AVal
 | [],_,_=>[]
 | _::r,0,x=>x::r
 | c::r,n+1,x=>c::LP r n x
theorem JG:∀ (l:List AVal) (n:Nat) (x:AVal),LP l n x=l.set n x
 | [],_,_=>rfl
 | _::_,0,_=>rfl
 | c::r,n+1,x=>by simp [LP,JG r n x]
def jZ:List AObj->AObj->List AObj
 | [],x=>[x]
 | c::r,x=>c::jZ r x
theorem nF:∀ (l:List AObj) (x:AObj),jZ l x=l++[x]
 | [],_=>rfl
 | c::r,x=>by simp [jZ,nF r x]
theorem Mem.beginC {M:Imm} {ob:Hs} {obs:List AObj} {w:World} (hm:Mem M ob obs w) {k i sz:Nat} {T e:TypeId} {cs:List AVal} (hk:obs[k]? =some (.cells T cs)) (hi:cs[i]? =some (.slice sz [] .nil)):
  Mem M (ob++[[.slice none 0 0]]) (obs.set k (.cells T (cs.set i (.slice sz [] (.own obs.length 0))))++[.tail 0 sz e]) w/\
   Ext M ob obs w M (ob++[[.slice none 0 0]]) (obs.set k (.cells T (cs.set i (.slice sz [] (.own obs.length 0))))++[.tail 0 sz e]) w/\dD ob (ob++[[.slice none 0 0]]):=by
 have hle:dD ob (ob++[[.slice none 0 0]]):=fun j hs hj=>⟨hs,by rw [Ah (Ab.1 hj).1];exact hj,Cr _⟩
 have hkl:k<obs.length:=(Ab.1 hk).1
 have hnew:(ob++[[.slice none 0 0]])[obs.length]? =some [.slice none 0 0]:=by rw [<-hm.len];simp
 have hat:at' (ob++[[.slice none 0 0]]) obs.length 0=some (.slice none 0 0):=by rw [bT hnew];rfl
 have old:∀ {j:Nat} {c:AObj},(obs.set k (.cells T (cs.set i (.slice sz [] (.own obs.length 0))))++[.tail 0 sz e])[j]? =some c->
   (j=obs.length/\c= .tail 0 sz e)\/(j=k/\c= .cells T (cs.set i (.slice sz [] (.own obs.length 0))))\/(j≠k/\j<obs.length/\obs[j]? =some c):=fun {j c} hj=>by
  by_cases hjl:j<obs.length
  .rw [Ah (by simpa using hjl)] at hj
   by_cases hjk:j=k
   .subst hjk
    rw [Ax hjl] at hj
    cases hj
    exact .inr (.inl ⟨rfl,rfl⟩)
   .rw [Bd (Ds hjk)] at hj
    exact .inr (.inr ⟨hjk,hjl,hj⟩)
  .have h2:j=obs.length:=by
    have:=(Ab.1 hj).1
    simp at this
    omega
   subst h2
   rw [Aq (by simp)] at hj
   simp at hj
   exact .inl ⟨rfl,hj.symm⟩
 have al:∀ {j b:Nat},aM (ob++[[.slice none 0 0]]) (obs.set k (.cells T (cs.set i (.slice sz [] (.own obs.length 0))))++[.tail 0 sz e]) j b->aM ob obs j b:=fun {j b} ⟨c,hs,e1,e2,e3,e4⟩=>by
  rcases old e1 with ⟨rfl,rfl⟩ | ⟨rfl,rfl⟩ | ⟨h1,h2,h3⟩
  .rw [hnew] at e3
   cases e3
   cases e4
  .rw [Ah (by rw [hm.len];exact hkl)] at e3
   exact ⟨_,hs,hk,rfl,e3,e4⟩
  .rw [Ah (by rw [hm.len];exact h2)] at e3
   exact ⟨c,hs,h3,e2,e3,e4⟩
 have hok:∀ (j:Nat) c,(obs.set k (.cells T (cs.set i (.slice sz [] (.own obs.length 0))))++[.tail 0 sz e])[j]? =some c->∃ hs,(ob++[[.slice none 0 0]])[j]? =some hs/\gD M (ob++[[.slice none 0 0]]) w hs c:=fun j c hj=>by
  rcases old hj with ⟨rfl,rfl⟩ | ⟨rfl,rfl⟩ | ⟨h1,h2,h3⟩
  .exact ⟨_,hnew,rfl,_,rfl,0,[],Gg w 0 _ _,fun b hb=>by cases hb⟩
  .obtain ⟨hs,e1,b,q1,q2,cv,q3,q4,q5,q6⟩:=hm.obj _ _ hk
   refine ⟨hs,by rw [Ah (by rw [hm.len];exact hkl)];exact e1,b,q1,q2,cv,q3,by simpa using q4,q5,fun n v a hv ha=>?_⟩
   by_cases hn:n=i
   .subst hn
    have hlt:n<cs.length:=(Ab.1 hi).1
    rw [Ax hlt] at ha
    cases ha
    have:=q6 n v _ hv hi
    obtain ⟨_,ht⟩:=this.untok
    have ht:v= .slice none 0 0:=ht
    subst ht
    exact .slnil _ _ hat
   .rw [Bd (Ds hn)] at ha
    exact (q6 n v a hv ha).mono (fun _ _ _ h=>h) hle
  .obtain ⟨hs,e1,e2⟩:=hm.obj j c h3
   refine ⟨hs,by rw [Ah (by rw [hm.len];exact h2)];exact e1,?_⟩
   cases c with
   | cells T' cs'=>
    obtain ⟨b,q1,q2,cv,q3,q4,q5,q6⟩:=e2
    exact ⟨b,q1,q2,cv,q3,q4,q5,fun n v a hv ha=>(q6 n v a hv ha).mono (fun _ _ _ h=>h) hle⟩
   | _=>exact e2
 refine ⟨⟨hm.imm,by simp [hm.len],hok,fun j b ha=>hm.lt j b (al ha),fun j j' b h1 h2=>hm.inj j j' b (al h1) (al h2)⟩,⟨fun _ _ _ h=>h,fun _ _ _ h=>.inl h,hle,rfl,rfl,rfl,Bc _,fun _ _ _=>rfl,fun j b ha=>.inl ⟨j,al ha⟩⟩,hle⟩
theorem To.begin {E:Env} {fn:Func} {g:Goal} {st:List KI} {fr:List (Nat×AVal)} {obs:List AObj} (k i:Nat) (e:TypeId) {T:TypeId} {cs:List AVal} {sz:Nat} (hk:aE obs k= .cells T cs) (hi:nth cs i=some (.slice sz [] .nil))
  (h:To E fn g (.head st fr (jZ (bK obs k (.cells T (LP cs i (.slice sz [] (.own (aO obs) 0))))) (.tail 0 sz e)))):To E fn g (.head st fr obs):=
 .mk fun hok M0 ob0 obs0 w0 a w hst hs=>by
  refine h.rec fun h=>h hok M0 ob0 obs0 w0 a w hst ?_
  obtain ⟨M,ob,hx,hm,hfr,r1,r2,r3⟩:=hs
  have hk':=bP hk (by simp)
  obtain ⟨m1,m2,m3⟩:=hm.beginC (e:=e) hk' (fT hi)
  rw [nF,JG,bI,aP hk']
  exact ⟨M,_,hx.trans m2,m1,fun t=>(hfr t).mono (fun _ _ _ h=>h) m3,r1,r2.mono (fun _ _ _ h=>h) m3,by simp;omega⟩
def mapO (f:AVal->AVal):AObj->AObj
 | .cells T cs=>.cells T (dC f cs)
 | x=>x
def pF (f:AVal->AVal):List AObj->List AObj
 | []=>[]
 | x::r=>mapO f x::pF f r
theorem xF (f:AVal->AVal):∀ (l:List AObj),pF f l=l.map (mapO f)
 | []=>rfl
 | x::r=>by simp [pF,xF f r]
theorem aA.mapO {P:Program} {f:FuncId} {args:List AVal} {obs obs':List AObj} {r:Res} (g:AVal->AVal) (hg:∀ (M:Imm) (ob:Hs) v a,Rep M ob v a->Rep M ob v (g a)) (h:aA P f args obs r obs'):aA P f args obs r (pF g obs'):=by
 rw [xF]
 intro M ob w vargs hm hr
 have key:∀ {e:Ending} {w':World},(∃ M' ob',Ext M ob obs w M' ob' obs' w'/\Mem M' ob' obs' w'/\oF M' ob' e r)->∃ M' ob',Ext M ob obs w M' ob' (obs'.map (AW.mapO g)) w'/\Mem M' ob' (obs'.map (AW.mapO g)) w'/\oF M' ob' e r:=by
  rintro e w' ⟨M',ob',h1,h2,h3⟩
  have own:∀ x:AObj,(AW.mapO g x).owns=x.owns:=fun x=>by cases x<;>rfl
  have al:∀ {k b:Nat},aM ob' (obs'.map (AW.mapO g)) k b->aM ob' obs' k b:=fun {k b} ⟨c,hs,e1,e2,e3,e4⟩=>by
   rw [Bb] at e1
   cases hc:obs'[k]? with
   | none=>rw [hc] at e1;cases e1
   | some x=>
    rw [hc] at e1
    cases e1
    exact ⟨x,hs,hc,by rw [<-own];exact e2,e3,e4⟩
  refine ⟨M',ob',⟨h1.imm,h1.new,h1.hs,h1.os,h1.tape,h1.output,h1.size,h1.keep,fun k b ha=>h1.fresh k b (al ha)⟩,⟨h2.imm,by simpa using h2.len,fun k c hk=>?_,fun k b ha=>h2.lt k b (al ha),fun i j b ha hb=>h2.inj i j b (al ha) (al hb)⟩,h3⟩
  rw [Bb] at hk
  cases hc:obs'[k]? with
  | none=>rw [hc] at hk;cases hk
  | some x=>
   rw [hc] at hk
   cases hk
   obtain ⟨hs,e1,e2⟩:=h2.obj k x hc
   refine ⟨hs,e1,?_⟩
   cases x with
   | cells T cs=>
    obtain ⟨b,q1,q2,cv,q3,q4,q5,q6⟩:=e2
    refine ⟨b,q1,q2,cv,q3,by rw [rD];simpa using q4,q5,fun i v a hv ha=>?_⟩
    rw [rD,Bb] at ha
    cases hi:cs[i]? with
    | none=>rw [hi] at ha;cases ha
    | some y=>rw [hi] at ha;cases ha;exact hg _ _ _ _ (q6 i v y hv hi)
   | _=>exact e2
 rcases h M ob w vargs hm hr with ⟨h1,h2⟩ | ⟨u,w',h1,h2⟩
 .exact .inl ⟨h1,h2.mono fun e w' h=>key h⟩
 .exact .inr ⟨u,w',h1,key h2⟩
theorem aA.blur {P:Program} {f:FuncId} {args:List AVal} {obs obs':List AObj} {r:Res} (h:aA P f args obs r obs'):aA P f args obs r (pF (fun _=>.undef) obs'):=
 h.mapO _ fun _ _ _ _ _=>.undef _
theorem aA.loose {P:Program} {f:FuncId} {args:List AVal} {obs obs':List AObj} {r:Res} (h:aA P f args obs r obs'):aA P f args obs r (pF (AW.strip 5) obs'):=
 h.mapO _ fun _ _ _ _=>rZ 5
def uP (l:List Nat) (og:Nat->AObj):List (Nat×AVal)->List (Nat×AVal)
 | []=>[]
 | (i,v)::r=>(i,bif pA i l then pureV og 5 v else v)::uP l og r
theorem A0 (l:List Nat) (og:Nat->AObj) (t:Nat):∀ (fr:List (Nat×AVal)),aX (uP l og fr) t=aX fr t\/aX (uP l og fr) t=pureV og 5 (aX fr t)
 | []=>.inl rfl
 | (i,v)::r=>by
  simp only [uP,aX]
  cases Ar i t with
  | true=>
   simp only [cond_true]
   cases pA i l with
   | true=>exact .inr rfl
   | false=>exact .inl rfl
  | false=>exact A0 l og t r
theorem To.frz {E:Env} {fn:Func} {g:Goal} {st:List KI} {fr:List (Nat×AVal)} {obs:List AObj} (l fz:List Nat)
  (h:To E fn g (.code st (uP l (aE (AW.frzs fz obs)) fr) (AW.frzs fz obs))):To E fn g (.code st fr obs):=
 .mk fun hok M0 ob0 obs0 w0 a w hst hs=>by
  refine h.rec fun h=>h hok M0 ob0 obs0 w0 a w hst ?_
  obtain ⟨M,ob,hx,hm,hfr,r1,r2,r3⟩:=hs
  obtain ⟨M',g1,g2,_,g4⟩:=Mem.frzs fz M obs hm
  refine ⟨M',ob,hx.trans g2,g1,fun t=>?_,r1,r2.mono g2.imm (dD.refl _),by rw [g4];exact r3⟩
  rcases A0 l (aE (AW.frzs fz obs)) t fr with e | e
  .rw [e];exact (hfr t).monoM g2.imm
  .rw [e];exact (g1.pureV 5 _ _ ((hfr t).monoM g2.imm)).pure
structure Bulk (H:Type) (N:Nat) (G:DataW H->Prop):Prop where
 str:∀ (l:List UInt8),G (.lit (.string l))->l.length<=N
 sl:∀ (e r:List (DataW H)),G (.slice e r)->e.length<=N/\∀ d∈e,G d
 agg:∀ (l:List (DataW H)),G (.agg l)->∀ d∈l,G d
section
variable {H:Type} {N:Nat} {G:DataW H->Prop} {enc:TypeId×Value->H} {P:Program} {w:World} {base:Nat} {spare:Nat->Bool} {held:Bool}
end
open Go.RowKit Go.Sort
theorem MP (g:AVal->AVal) (x:AObj):(mapO g x).owns=x.owns:=by cases x<;>rfl
theorem oY {g:AVal->AVal} {ob:Hs} {obs:List AObj} {k b:Nat} (h:aM ob (obs.map (mapO g)) k b):aM ob obs k b:=by
 obtain ⟨c,hs,e1,e2,e3,e4⟩:=h
 rw [Bb] at e1
 cases hc:obs[k]? with
 | none=>rw [hc] at e1;cases e1
 | some x=>
  rw [hc] at e1
  cases e1
  exact ⟨x,hs,hc,by rw [<-MP g];exact e2,e3,e4⟩
theorem Mem.mapO {M:Imm} {ob:Hs} {obs:List AObj} {w:World} {g:AVal->AVal} (hg:∀ (M:Imm) (ob:Hs) v a,Rep M ob v a->Rep M ob v (g a)) (h2:Mem M ob obs w):Mem M ob (obs.map (AW.mapO g)) w:=by
 refine ⟨h2.imm,by simpa using h2.len,fun k c hk=>?_,fun k b ha=>h2.lt k b (oY ha),fun i j b ha hb=>h2.inj i j b (oY ha) (oY hb)⟩
 rw [Bb] at hk
 cases hc:obs[k]? with
 | none=>rw [hc] at hk;cases hk
 | some x=>
  rw [hc] at hk
  cases hk
  obtain ⟨hs,e1,e2⟩:=h2.obj k x hc
  refine ⟨hs,e1,?_⟩
  cases x with
  | cells T cs=>
   obtain ⟨b,q1,q2,cv,q3,q4,q5,q6⟩:=e2
   refine ⟨b,q1,q2,cv,q3,by rw [rD];simpa using q4,q5,fun i v a hv ha=>?_⟩
   rw [rD,Bb] at ha
   cases hi:cs[i]? with
   | none=>rw [hi] at ha;cases ha
   | some y=>rw [hi] at ha;cases ha;exact hg _ _ _ _ (q6 i v y hv hi)
  | _=>exact e2
theorem Ext.mapO {M M':Imm} {ob ob':Hs} {obs0 obs:List AObj} {w w':World} {g:AVal->AVal} (h1:Ext M ob obs0 w M' ob' obs w'):Ext M ob obs0 w M' ob' (obs.map (AW.mapO g)) w':=
 ⟨h1.imm,h1.new,h1.hs,h1.os,h1.tape,h1.output,h1.size,h1.keep,fun k b ha=>h1.fresh k b (oY ha)⟩
theorem To.mapO {E:Env} {fn:Func} {g:Goal} {st:List KI} {fr:List (Nat×AVal)} {obs:List AObj} (f:AVal->AVal) (hf:∀ (M:Imm) (ob:Hs) v a,Rep M ob v a->Rep M ob v (f a))
  (h:To E fn g (.code st fr (pF f obs))):To E fn g (.code st fr obs):=
 .mk fun hok M0 ob0 obs0 w0 a w hst hs=>by
  rw [xF] at h
  refine h.rec fun h=>h hok M0 ob0 obs0 w0 a w hst ?_
  obtain ⟨M,ob,hx,hm,hfr,r1,r2,r3⟩:=hs
  exact ⟨M,ob,hx.mapO,hm.mapO hf,hfr,r1,r2,by simpa using r3⟩
theorem To.loose {E:Env} {fn:Func} {g:Goal} {st:List KI} {fr:List (Nat×AVal)} {obs:List AObj} (h:To E fn g (.code st fr (pF (strip 5) obs))):To E fn g (.code st fr obs):=
 h.mapO _ fun _ _ _ _=>rZ 5
end Go.AW
