/-
  The engine, second make, third part: code, contracts, statements. Over any program.
-/
import Derived.Defers
import Derived.RangeFuncRecord
import Derived.ChangeKeysEq
import Derived.Lib.Overlaps
import Derived.WalkKit
import Derived.ProofKit
import Derived.OpenShut
import Derived.Recover
import Derived.Sort.Grow
import Derived.Test.YticlgfdibfobdaaGreatWBP
set_option linter.all false
open Array renaming getD_eq_getD_getElem?->Bd,getElem?_append_left->Hq,getElem?_eq_getElem->Fj,getElem?_eq_some_iff->Dt,getElem?_modify->Fm,getElem?_setIfInBounds_ne->Di,getElem?_setIfInBounds_self_of_lt->De,replicate->Fi,toList_map->Hv
open Bool renaming and_assoc->Gr,and_eq_true->Af,and_true->Hc,false_eq_true->Cv,not_eq_true'->Cm,or_eq_true->Eg
open Function renaming comp_def->Mr
open Go.Instr renaming checkKey->Gw
open Go.Region renaming binds->Ix,wanted->Dx
open Go.Result renaming andThen->Ey,andThen_ok->Ai
open Go.Sem renaming run_bind->Au,run_pure->Bi
open Go.Value renaming okWide->Ki
open Go.World renaming cell?->Ky,cell?_of_block->Co,freeze->Lp,ownsRow_nil->Hi,putObj_heap_other->Fx,setRow->Kh,shape?->Mm
open Int renaming le_trans->Fb
open List renaming all_eq_true->Cj,append_nil->Bo,drop_drop->Ir,drop_eq_getElem_cons->Ac,drop_zero->Cn,eq_nil_of_length_eq_zero->Aq,ext_getElem?->Fa,extract_eq_take_drop->Ku,getD_eq_getElem?_getD->Dv,getElem?_append_left->Ag,getElem?_append_right->Ak,getElem?_drop->Bx,getElem?_eq_getElem->Aa,getElem?_eq_none->Bj,getElem?_eq_some_iff->Ab,getElem?_map->Bc,getElem?_of_mem->Cp,getElem?_replicate->Ds,getElem?_set_ne->Bh,getElem?_set_self->Ax,getElem?_take_of_lt->Bl,getElem?_toArray->Mb,getElem_mem->Bf,length_append->Ar,length_map->Cw,length_pos_iff->Fz,length_singleton->Mc,map_cons->Bk,map_drop->Jp,map_map->Dm,map_take->Jo,mem_append->Ay,mem_cons->Ao,mem_filter->Dw,mem_map->Bu,mem_map_of_mem->Ci,mem_of_getElem?->Av,mem_singleton->Dd,prefix_refl->Cz,range'->Gz,range'_succ->Jh,range_eq_range'->Gj,replicate->Ah,size_toArray->Gl,take_append_drop->Dj,take_append_of_le_length->Ea,take_of_length_le->Cf
open Nat renaming add_comm->Mq,add_mul->Bv,add_zero->Df,and_one_is_mod->Kk,beq->Ap,ble->Ew,blt->Dy,blt_eq->Fe,div_one->Jt,eq_zero_or_pos->Fp,le_of_ble_eq_true->Ca,le_refl->Bg,le_trans->Cs,lor->Mp,mod_eq_of_lt->Jf,mul_comm->Dn,mul_le_mul_right->Bq,one_mul->Gb,pow_le_pow_right->Ep,strongRecOn->Lu,sub_self->Lq,sub_zero->Hu,two_pow_add_eq_or_of_lt->Ke,zero_add->Bp,zero_le->Bt,zero_mul->Hr
open Ne renaming symm->Eb
open Option renaming getD_some->Hw,isSome_iff_exists->Cx
open Option.some renaming injEq->Dr
open Prod renaming fst->Lh
open UInt8 renaming ofNat->Gk
namespace Go.AW
open Go.RowKit
open Classical
section
variable {P:Program} {M:Imm} {ob:Hs} {L obs:List AObj} {w:World} {a:Act}
theorem lK {g:Nat->AVal} (e:∀ t,Rep M ob (a.tmps.getD t undef) (g t)) {u:Value} {v:AVal} (i:Rep M ob u v) {d:Option Nat} (f:∀ c,d=some c->c<a.tmps.size):
  ∀ t,Rep M ob ((a.put d u).tmps.getD t undef) (hC g d v t):=by
 intro t
 unfold hC
 cases d with
 | none=>rw [if_neg s_];exact e t
 | some d=>
  have b:=f d rfl
  by_cases h:d=t
  .subst h
   simp only [if_true,Act.put]
   rw [Bd,De b]
   exact i
  .rw [if_neg (by simpa using h)]
   simp only [Act.put]
   rw [Bd,Di h,<-Bd]
   exact e t
theorem eI (a:Act) (d:Option Nat) (u:Value):(a.put d u).tmps.size=a.tmps.size/\(a.put d u).defers=a.defers:=by
 cases d<;>simp [Act.put]
theorem BO {fr:List (Nat×AVal)} (h:∀ t,Rep M ob (a.tmps.getD t undef) (aZ fr t)) (x:Operand):Rep M ob (a.eval x) (ev fr x):=by
 cases x with
 | tmp t=>exact h t
 | const v=>exact pH v
 | global g=>exact .undef _
 | func f=>exact .func (.func f) [] [] [] [] rfl rfl (fun i v a h=>by simp at h) (fun i v a h=>by simp at h)
theorem aDp {tab:List Nat} {all:List Oper} {j:Nat} {g:Nat->AVal} (h:∀ t,Rep M ob (a.tmps.getD t undef) (g t)) (x:Operand):Rep M ob (a.eval x) (evG tab all j g x):=by
 cases x with
 | tmp t=>
  simp only [evG]
  cases KB tab j t 0 all with
  | true=>exact .undef _
  | false=>exact h t
 | const v=>exact pH v
 | global g=>exact .undef _
 | func f=>exact .func (.func f) [] [] [] [] rfl rfl (fun i v a h=>by simp at h) (fun i v a h=>by simp at h)
def G (rd:Option Nat) (P:Program) (ops:Array Oper) (p:Oper) (a:Act) (w:World) (next:Act->World->Prop) (Q:Exit->Act->World->Prop):Prop:=
 if Dx p (yielded ops a.tmps) then p.wpIn (fen rd) 0 P a w next Q else next (a.put p.dst undef) w
theorem gA {ops:Array Oper} {p:Oper} {ρ:Operand->AVal} (v:∀ x,Rep M ob (a.eval x) (ρ x)) {b:Bool}
  (h:cC ops.toList ρ p.guard=some b):Dx p (yielded ops a.tmps)=b:=by
 unfold cC at h
 unfold Dx
 cases l:p.guard with
 | none=>rw [l] at h;simpa using h
 | some t=>
  obtain ⟨j,m⟩:=t
  rw [l] at h
  dsimp only at h⊢
  split at h
  .rename_i q r
   have f:ops[j]? =some q:=by simpa using lX r
   split at h
   .rename_i d s
    have e:=v (.tmp d)
    have n:∀ u,a.tmps.getD d undef=u->yielded ops a.tmps j=match u with | .bool b=>some b | _=>none:=by
     intro u c
     unfold yielded
     rw [f]
     simp only [Option.bind_some,s]
     rw [Bd] at c
     cases k:a.tmps[d]? with
     | none=>rw [k] at c;simp at c;subst c;rfl
     | some x=>rw [k] at c;simp at c;subst c;cases x<;>rfl
    split at h
    .rename_i o g
     rw [g] at e
     have i:a.tmps.getD d undef= .bool o:=e.bool_inv
     rw [n _ i]
     cases h
     simp
    .rename_i g
     rw [g] at e
     obtain ⟨us,c,hl,_⟩:=e.tup_inv
     have i:a.tmps.getD d undef= .tuple us.toArray:=c
     rw [n _ i]
     cases h
     simp
    .cases h
   .cases h
  .cases h
theorem uF:Rep M ob undef (.tup []):=.tup [] [] rfl fun i v a h=>by simp at h
theorem wD:∀ {L obs:List AObj},aE L=aE obs->L.length<=obs.length->obs=L++Ah (obs.length-L.length) .dead:=fun {L obs} hg hl=>by
 refine Fa fun k=>?_
 by_cases b:k<L.length
 .rw [Ag b,tB b,tB (show k<obs.length by omega),hg]
 .rw [Ak o_,Ds]
  by_cases a:k<obs.length
  .rw [if_pos o_,tB a,<-hg]
   rcases eB L k with ⟨h1,_⟩ | ⟨_,_,e⟩
   .omega
   .rw [e]
  .rw [if_neg o_,Bj o_]
theorem Mem.norm (h:Mem M ob L w) (d:aE L=aE obs) (p:∀ (k:Nat),obs.length<=k->∀ hs,ob[k]? =some hs->hs=[]):
  ∃ ob',Mem M ob' obs w/\(∀ (k g:Nat) v,at' ob k g=some v->at' ob' k g=some v)/\∀ {M0:Imm} {ob0:Hs} {obs0:List AObj} {w0:World},Ext M0 ob0 obs0 w0 M ob L w->ob0.length<=obs.length->Ext M0 ob0 obs0 w0 M ob' obs w:=by
 by_cases hl:L.length<=obs.length
 .have e:=wD d hl
  obtain ⟨c,b,_⟩:=h.extend (obs.length-L.length)
  rw [<-e] at c b
  exact ⟨_,c,fun k g v l=>b.hs.at l,fun a _=>a.trans b⟩
 .have e:=wD d.symm o_
  rw [e] at h
  obtain ⟨j,m,o⟩:=h.shrink fun i hs f=>p i f hs
  exact ⟨_,j,m,fun a n=>o (e▸a) n⟩
theorem iO {K d Kp:AVal->List AObj->Prop} (a:∀ v o,K v o->d v o):∀ {r:OR},orF P obs K Kp r->orF P obs d Kp r
 | .no,k=>k.elim
 | .val v,k=>a _ _ k
 | .mkf fn fs cs,k=>a _ _ k
 | .need p r,k=>⟨k.1,iO a k.2⟩
 | .alt p v w,k=>k.imp (fun h=>⟨h.1,a _ _ h.2⟩) (a _ _)
 | .idx n f,⟨i,hi,k⟩=>⟨i,hi,iO a k⟩
 | .elem xs i f,⟨x,hx,k⟩=>⟨x,hx,iO a k⟩
 | .byte l i,⟨c,hc,k⟩=>⟨c,hc,a _ _ k⟩
 | .text xs,⟨l,hl,hm,k⟩=>⟨l,hl,hm,a _ _ k⟩
 | .find es key f,⟨o,ho,k⟩=>⟨o,ho,iO a k⟩
 | .born x v,k=>a _ _ k
 | .upd i x v,k=>a _ _ k
 | .nilq xs neg,k=>fun b e=>a _ _ (k b e)
 | .call f args,k=>CallG.mono a k
 | .pan v,k=>k
theorem qG {a:List AObj} {base:Nat} {K Kp:AVal->List AObj->Prop} (b:base=aO obs) (hs:a=obs):∀ {r:OR},orD P true true false a obs base K Kp r->orF P obs K Kp r
 | .no,k=>k.elim
 | .val v,k=>k
 | .mkf fn fs cs,k=>k
 | .need p r,k=>⟨k.1,qG b hs k.2⟩
 | .alt p v w,k=>k
 | .idx n f,⟨i,hi,k⟩=>⟨i,hi,qG b hs k⟩
 | .elem xs i f,⟨x,hx,k⟩=>⟨x,hx,qG b hs k⟩
 | .byte l i,k=>k
 | .text xs,k=>k
 | .find es key f,⟨o,ho,k⟩=>⟨o,ho,qG b hs k⟩
 | .born x v,k=>by rw [b] at k;exact k
 | .upd i x v,k=>k
 | .nilq xs neg,k=>k
 | .call f args,k=>by
  have k:CallD P f args true a base obs K Kp:=k
  cases k with
  | pure r new h k=>subst b hs;exact .eff [] [] r new rfl h k
  | sole _ h=>exact h
 | .pan v,k=>k
end
section
variable {rd:Option Nat} {M0:Imm} {ob0:Hs} {obs0:List AObj} {w0:World} {sz:Nat} {dfs:List (Nat×List AVal)} {E:Env} {ops:Array Oper} {Q:Exit->Act->World->Prop} {K:List (Nat×AVal)->List AObj->Prop} {Kp:(Nat->AVal)->AVal->List AObj->Prop}
def CH (M:Imm) (ob:Hs) (a:List Deferred) (dfs:List (Nat×List AVal)):Prop:=
 a.length=dfs.length/\∀ (i:Nat) d x,a[i]? =some d->dfs[i]? =some x->d.target= .fn (.func x.1) #[]/\cD M ob d.args.toList x.2
theorem CH.nil {M:Imm} {ob:Hs}:CH M ob [] []:=⟨rfl,fun i d x h=>by simp at h⟩
theorem CH.nil_inv {M:Imm} {ob:Hs} {a:List Deferred} (h:CH M ob a []):a=[]:=Aq h.1
theorem CH.mono {M M':Imm} {ob ob':Hs} {f:List Deferred} {dfs:List (Nat×List AVal)} (l:∀ b o x,M b o x->M' b o x) (k:dL ob ob') (h:CH M ob f dfs):CH M' ob' f dfs:=
 ⟨h.1,fun i d x e c=>⟨(h.2 i d x e c).1,(h.2 i d x e c).2.1,fun j v a g m=>((h.2 i d x e c).2.2 j v a g m).mono l k⟩⟩
theorem CH.monoA {M:Imm} {ob ob':Hs} {e:List Deferred} {dfs:List (Nat×List AVal)} (l:∀ (k g:Nat) v,at' ob k g=some v->at' ob' k g=some v) (h:CH M ob e dfs):CH M ob' e dfs:=
 ⟨h.1,fun i d x c b=>⟨(h.2 i d x c b).1,(h.2 i d x c b).2.1,fun j v a f m=>((h.2 i d x c b).2.2 j v a f m).monoA l⟩⟩
def Mks (w0 w:World):List Deferred->Prop
 | []=>True
 | d::ds=>(∃ b,d.target= .collected b/\w0.heap.size<=b/\w.heap[b]? =some (.deferred (some []))/\∀ a∈ds,a.target≠ .collected b)/\Mks w0 w ds
theorem Mks.same {w0 w w':World}:∀ {a:List Deferred},(∀ d∈a,∀ b,d.target= .collected b->w.heap[b]? =some (.deferred (some []))->w'.heap[b]? =some (.deferred (some [])))->Mks w0 w a->Mks w0 w' a
 | [],_,_=>trivial
 | d::a,hb,⟨⟨b,h1,h2,h3,h4⟩,h5⟩=>⟨⟨b,h1,h2,hb d s_ b h1 h3,h4⟩,Mks.same (fun d c=>hb d (by simp [c])) h5⟩
def cQ (w0 w:World) (M:Imm) (ob:Hs) (c:List Deferred) (dfs:List (Nat×List AVal)):Prop:=∃ a b,c=a++b/\CH M ob a dfs/\Mks w0 w b
theorem Mem.alive_heap {M:Imm} {ob:Hs} {obs:List AObj} {w:World} (hm:Mem M ob obs w) {k b:Nat} (u:aH ob obs k b):∃ o,w.heap[b]? =some o/\AY o=false:=by
 obtain ⟨c,hs,p,h,r,f⟩:=u
 obtain ⟨hs',j,a⟩:=hm.obj k c p
 rw [r] at j
 cases j
 have row:∀ {v:Value} {n sz:Nat} {e:TypeId} {cv:List Value},w.ownsRow 0 e sz v n cv->blk hs=v.ownBlock.toList->∃ o,w.heap[b]? =some o/\AY o=false:=fun {v n sz e cv} ho hb=>by
  have i:=tA hb f
  rcases ho.2 with ⟨rfl,_⟩ | ⟨g,s,q,t,_,m,_⟩
  .cases i
  .rw [t] at i
   cases i
   exact ⟨_,m,rfl⟩
 cases c with
 | dead=>cases h
 | fcells cs=>cases h
 | frow g sz xs=>cases h
 | cells T cs=>
  obtain ⟨l,rfl,_,cv,d,_⟩:=a
  have:=dI.1 f
  subst this
  exact ⟨_,d,rfl⟩
 | row g sz e xs=>
  obtain ⟨h1,v,d,cv,h3,_⟩:=a
  exact row h3 ((eJ h1 d).trans (dX h3))
 | tail g sz e=>
  obtain ⟨h1,v,d,n,cv,h3,_⟩:=a
  exact row h3 ((eJ h1 d).trans (dX h3))
 | mp x es=>
  obtain ⟨l,rfl,_,y,z,d,_⟩:=a
  have:=dI.1 f
  subst this
  exact ⟨_,d,rfl⟩
 | bun g I=>
  obtain ⟨h1,bs,d,h3,_⟩:=a
  have e:blk hs=bs:=by rw [<-HF (hs:=[gH bs]) rfl];exact eJ h1 d
  rw [e] at f
  exact h3 b f
theorem cQ.nil {w0 w:World} {M:Imm} {ob:Hs}:cQ w0 w M ob [] []:=⟨[],[],rfl,.nil,trivial⟩
theorem cQ.marks {w0 w:World} {M:Imm} {ob:Hs} {a:List Deferred} (h:cQ w0 w M ob a []):Mks w0 w a:=by
 obtain ⟨c,d,rfl,h1,b⟩:=h
 rw [h1.nil_inv];exact b
theorem cQ.bare {w0 w:World} {M M':Imm} {ob ob':Hs} {a:List Deferred} (h:cQ w0 w M ob a []):cQ w0 w M' ob' a []:=⟨[],a,rfl,.nil,h.marks⟩
theorem cQ.mono {w0 w:World} {M M':Imm} {ob ob':Hs} {a:List Deferred} {dfs:List (Nat×List AVal)} (d:∀ b o x,M b o x->M' b o x) (c:dL ob ob') (h:cQ w0 w M ob a dfs):cQ w0 w M' ob' a dfs:=
 let ⟨d1,d2,e,h1,h2⟩:=h;⟨d1,d2,e,h1.mono d c,h2⟩
theorem cQ.monoA {w0 w:World} {M:Imm} {ob ob':Hs} {a:List Deferred} {dfs:List (Nat×List AVal)} (b:∀ (k g:Nat) v,at' ob k g=some v->at' ob' k g=some v) (h:cQ w0 w M ob a dfs):cQ w0 w M ob' a dfs:=
 let ⟨d1,d2,e,h1,h2⟩:=h;⟨d1,d2,e,h1.monoA b,h2⟩
theorem cQ.put {w0 w:World} {M:Imm} {ob:Hs} {a:Act} {d:Option Nat} {u:Value} {dfs:List (Nat×List AVal)} (h:cQ w0 w M ob a.defers dfs):cQ w0 w M ob (a.put d u).defers dfs:=by rw [(eI a d u).2];exact h
theorem cQ.same {w0 w w':World} {M:Imm} {ob:Hs} {a:List Deferred} {dfs:List (Nat×List AVal)} (c:w'.heap=w.heap) (h:cQ w0 w M ob a dfs):cQ w0 w' M ob a dfs:=
 let ⟨d1,d2,e,h1,h2⟩:=h;⟨d1,d2,e,h1,h2.same fun d _ b _ h=>by rw [c];exact h⟩
theorem cQ.ext {w0 w w':World} {M M':Imm} {ob ob':Hs} {obs obs':List AObj} {c:List Deferred} {dfs:List (Nat×List AVal)} (h:cQ w0 w M ob c dfs) (hm:Mem M ob obs w) (a:Ext M ob obs w M' ob' obs' w'):cQ w0 w' M' ob' c dfs:=
 let ⟨d1,d2,e,h1,h2⟩:=h
 ⟨d1,d2,e,h1.mono a.imm a.hs,h2.same fun d _ b _ h=>by
  rw [a.keep b (eY h) fun k i=>by
   obtain ⟨o,f,g⟩:=hm.alive_heap i
   rw [h] at f
   cases f
   cases g]
  exact h⟩
def SS (M0:Imm) (ob0:Hs) (obs0:List AObj) (w0:World) (sz:Nat) (dfs:List (Nat×List AVal)) (fr:List (Nat×AVal)) (obs:List AObj) (a:Act) (w:World):Prop:=
 ∃ M ob,Ext M0 ob0 obs0 w0 M ob obs w/\Mem M ob obs w/\(∀ t,Rep M ob (a.tmps.getD t undef) (aZ fr t))/\a.tmps.size=sz/\cQ w0 w M ob a.defers dfs/\ob0.length<=obs.length
def PP (M0:Imm) (ob0:Hs) (obs0:List AObj) (w0:World) (sz:Nat) (dfs:List (Nat×List AVal)) (b:Nat->AVal) (v:AVal) (obs:List AObj) (c:List PanicEntry) (a:Act) (w:World):Prop:=
 ∃ M ob,Ext M0 ob0 obs0 w0 M ob obs w/\Mem M ob obs w/\pU M ob (.panicked c) (.pan v)/\(∀ t,Rep M ob (a.tmps.getD t undef) (b t))/\a.tmps.size=sz/\cQ w0 w M ob a.defers dfs/\ob0.length<=obs.length
theorem Ext.lens {M M':Imm} {ob ob':Hs} {L L':List AObj} {w w':World} (a:Ext M ob L w M' ob' L' w'):ob.length<=ob'.length:=by
 rcases Fp ob.length with h | h
 .omega
 .obtain ⟨hs',e,_⟩:=a.hs (ob.length-1) _ (Aa o_)
  have:=(Ab.1 e).1
  omega
theorem kY {P:Program} {hint base:Nat} {obs:List AObj} {ρ:Operand->AVal} {op:Op} {ty:TypeId} {K Kp:AVal->List AObj->Prop} (h:orF P obs K Kp (eop E hint base (aE obs) ρ op ty)):∀ c,op≠ .defer c:=by
 intro c e
 subst e
 exact h.elim
theorem IE (hE:EnvOK E) {fr:List (Nat×AVal)} {obs:List AObj} {a:Act} {w:World} (hs:SS M0 ob0 obs0 w0 sz dfs fr obs a w) {p:Oper} (z:∀ d,p.dst=some d->d<sz) {hint:Nat}
  (h:match cC ops.toList (ev fr) p.guard with
   | none=>False
   | some false=>K (kO fr p.dst (.tup [])) obs
   | some true=>orF E.P obs (fun v obs=>K (kO fr p.dst v) obs) (Kp (aZ fr)) (eop E hint (aO obs) (aE obs) (ev fr) p.op p.type))
  (hp:∀ v obs j w,Kp (aZ fr) v obs->PP M0 ob0 obs0 w0 sz dfs (aZ fr) v obs j a w->Q (.panic j) a w):
  G rd E.P ops p a w (fun a w=>∃ fr obs,K fr obs/\SS M0 ob0 obs0 w0 sz dfs fr obs a w) Q:=by
 obtain ⟨M,ob,x,hm,m,f,i,C⟩:=hs
 have l:=BO m
 have hl:=hm.len
 unfold G
 cases q:cC ops.toList (ev fr) p.guard with
 | none=>rw [q] at h;exact h.elim
 | some b=>
  rw [q] at h
  rw [gA l q]
  cases b with
  | false=>
   rw [if_neg s_]
   refine ⟨_,obs,h,M,ob,x,hm,?_,(eI _ _ _).1.trans f,i.put,C⟩
   rw [eR]
   exact lK m uF fun n e=>f▸z n e
  | true=>
   rw [if_pos rfl]
   have o:∀ c,p.op≠ .defer c:=kY h
   refine (xK hE hm l h).wpIn o (fun u w' ⟨M',ob',L',g,k,r⟩=>?_) (fun j w' ⟨M',ob',L',g,k,r⟩=>?_)
   .rcases r with ⟨A,v,e,y,s⟩ | ⟨j,v,e,_⟩
    .cases e
     have:=g.lens
     have:=k.len
     refine ⟨_,L',s,M',ob',x.trans g,k,?_,(eI _ _ _).1.trans f,(i.ext hm g).put,by omega⟩
     rw [eR]
     exact lK (fun t=>(m t).mono g.imm g.hs) y fun n e=>f▸z n e
    .cases e
   .rcases r with ⟨A,v,e,_⟩ | ⟨B,v,e,y,s⟩
    .cases e
    .cases e
     have:=g.lens
     have:=k.len
     exact hp v L' j w' s ⟨M',ob',x.trans g,k,y,fun t=>(m t).mono g.imm g.hs,f,i.ext hm g,by omega⟩
theorem wk {l:List Oper} {p:Oper} {a:Act} {w:World} {next:Act->World->Prop} (b:G rd E.P ops p a w next Q) (d:∀ a w,next a w->wpListIn (fen rd) 0 E.P ops Q l a w):wpListIn (fen rd) 0 E.P ops Q (p::l) a w:=by
 unfold wpListIn
 unfold G at b
 split
 .rename_i c;rw [if_pos c] at b;exact Oper.wpIn_mono d b
 .rename_i c;rw [if_neg c] at b;exact ⟨fun _ _=>trivial,d _ _ b⟩
theorem pL (hE:EnvOK E) (hp:∀ g v obs c a w,Kp g v obs->PP M0 ob0 obs0 w0 sz dfs g v obs c a w->Q (.panic c) a w) (k:∀ fr obs a w,K fr obs->SS M0 ob0 obs0 w0 sz dfs fr obs a w->Q .normal a w):
  ∀ (l:List Oper) (n:Nat) (fr:List (Nat×AVal)) (obs:List AObj) (a:Act) (w:World),(∀ p∈l,∀ d,p.dst=some d->d<sz)->dZ E ops.toList K Kp n l fr obs->SS M0 ob0 obs0 w0 sz dfs fr obs a w->wpListIn (fen rd) 0 E.P ops Q l a w
 | [],n,fr,obs,a,w,_,h,hs=>k fr obs a w h hs
 | p::l,n,fr,obs,a,w,hd,h,hs=>by
  refine wk (IE (K:=fun fr obs=>dZ E ops.toList K Kp (n+1) l fr obs) (Kp:=Kp) (hint:=eD E p.dst) hE hs (hd p s_) ?_ fun v obs c w f e=>hp (aZ fr) v obs c a w f e) fun m w' ⟨i,obs',f,hs'⟩=>pL hE hp k l (n+1) i obs' m w' (fun p hp=>hd p (by simp [hp])) f hs'
  simp only [dZ] at h
  cases j:cC ops.toList (ev fr) p.guard with
  | none=>rw [j] at h;exact h.elim
  | some b=>
   rw [j] at h
   cases b with
   | false=>exact h
   | true=>
    exact iO (fun v o h=>sF h) h
end
section
variable {rd:Option Nat} {M0:Imm} {ob0:Hs} {obs0:List AObj} {w0:World} {sz:Nat} {dfs:List (Nat×List AVal)} {E:Env} {ops:Array Oper} {Q:Exit->Act->World->Prop} {K:AS->Prop} {Kp:(Nat->AVal)->AVal->List AObj->Prop} {L0:Nat} {tab:List Nat}
theorem CL {P:Program} {og b:Nat->AObj} {hint base a:Nat} {ρ:Operand->AVal} {op:Op} {ty:TypeId} {z:AVal} {bs:List AObj} (h:fK P b a z bs (eop E hint base og ρ op ty)):∀ c,op≠ .defer c:=by
 intro c e
 subst e
 exact h.elim
theorem FT {og:Nat->AObj} {hint base k:Nat} {ρ:Operand->AVal} {op:Op} {ty:TypeId} {z:AVal} {x:AObj} (h:FU z k x (eop E hint base og ρ op ty)):∀ c,op≠ .defer c:=by
 intro c e
 subst e
 exact h.elim
def DS (M0:Imm) (ob0:Hs) (obs0:List AObj) (w0:World) (sz:Nat) (dfs:List (Nat×List AVal)) (L0:Nat) (s:AS) (a:Act) (w:World):Prop:=
 ∃ M ob L,Ext M0 ob0 obs0 w0 M ob L w/\Mem M ob L w/\aE L=s.o/\(∀ t,Rep M ob (a.tmps.getD t undef) (s.g t))/\a.tmps.size=sz/\cQ w0 w M ob a.defers dfs/\ob0.length<=L0/\
  ∀ (k:Nat),L0<=k->(∀ i,¬ s.br i k)->∀ hs,ob[k]? =some hs->hs=[]
theorem aDE (hE:EnvOK E) (hd:∀ (i:Nat) p,ops[i]? =some p->∀ d,p.dst=some d->d<sz) (hp:∀ g v obs B a w,Kp g v obs->PP M0 ob0 obs0 w0 sz dfs g v obs B a w->Q (.panic B) a w)
  {s:AS} {a:Act} {w:World} (hs:DS M0 ob0 obs0 w0 sz dfs L0 s a w) {i:Nat} (h:aOp E ops tab L0 Kp i K s):wpOpIn (fen rd) 0 E.P ops Q i (fun a w=>∃ s',K s'/\DS M0 ob0 obs0 w0 sz dfs L0 s' a w) a w:=by
 obtain ⟨p,hi,h⟩:=h
 have r:=hd i p hi
 suffices hg:G rd E.P ops p a w (fun a w=>∃ s',K s'/\DS M0 ob0 obs0 w0 sz dfs L0 s' a w) Q by
  unfold wpOpIn
  rw [hi]
  dsimp only
  unfold G at hg
  split
  .rename_i n;rw [if_pos n] at hg;exact hg
  .rename_i n;rw [if_neg n] at hg;exact ⟨fun _ _=>trivial,hg⟩
 obtain ⟨M,ob,L,X,hm,H,I,j,q,Y,b⟩:=hs
 have l:∀ x,Rep M ob (a.eval x) (evG tab ops.toList i s.g x):=aDp I
 have skip:∀ {base:Nat},K (s.upd i p.dst (.tup []) base [])->Dx p (yielded ops a.tmps)=false->G rd E.P ops p a w (fun a w=>∃ s',K s'/\DS M0 ob0 obs0 w0 sz dfs L0 s' a w) Q:=fun {base} m n=>by
  unfold G
  rw [if_neg (by rw [n];simp)]
  refine ⟨_,m,?_⟩
  rw [xJ]
  exact ⟨M,ob,L,X,hm,H,lK I uF fun C e=>j▸r C e,(eI _ _ _).1.trans j,q.put,Y,b⟩
 rcases h with ⟨_,z,base,bs,⟨y,_,hy⟩,hfr,m⟩ | ⟨_,z,base,k,x,⟨⟨y,hbr⟩,n,R,c⟩,m⟩ | ⟨_,obs,hoo,hl0,T,hlt,hy⟩
 .rcases hy with ⟨n,rfl,rfl⟩ | ⟨n,c⟩
  .exact skip m (gA l n)
  .unfold G
   rw [gA l n,if_pos rfl]
   obtain ⟨hid,o⟩:∃ hid,aE (dC hid L)=jP E tab i p.dst s:=by
    cases N:blD E p.dst with
    | true=>exact ⟨fun _=>True,by rw [fB];unfold jP;rw [if_pos N];simp⟩
    | false=>exact ⟨KC tab i s.br,by rw [fB,H];unfold jP;rw [if_neg (by rw [N];simp)];rfl⟩
   rw [<-o] at c
   refine (aGv hE hm l (fun k m=>b k (Cs y m.1) (hfr k m)) c).wpIn (CL c) (fun u w' ⟨M',ob',L',J,e,f,A,F,x4,x5,x6⟩=>?_) (fun B w' ⟨M',ob',L',J,e,_⟩=>by cases e)
   cases e
   refine ⟨_,m,M',ob',L',X.trans f,A,?_,lK (fun t=>(I t).mono f.imm f.hs) x5 fun C e=>j▸r C e,(eI _ _ _).1.trans j,(q.ext hm f).put,Y,fun k h1 D hs V=>?_⟩
   .rw [F,H];rfl
   .have O:¬ inB base bs.length k:=fun h=>D i (.inr ⟨rfl,h⟩)
    exact x6 k O (b k h1 fun Z y=>D Z (.inl y)) hs V
 .unfold G
  rw [gA l n,if_pos rfl]
  have o:aE (dC (KC tab i s.br) L)=lT tab i s:=by
   rw [fB,H]
   rfl
  rw [<-o] at c R
  refine (aDF hE hm l (b base y hbr) R c).wpIn (FT c) (fun u w' ⟨M',ob',L',J,e,f,A,F,x4,x5,x6⟩=>?_) (fun B w' ⟨M',ob',L',J,e,_⟩=>by cases e)
  cases e
  refine ⟨_,m,M',ob',L',X.trans f,A,?_,lK (fun t=>(I t).mono f.imm f.hs) x5 fun C e=>j▸r C e,(eI _ _ _).1.trans j,(q.ext hm f).put,Y,fun k' h1 D hs V=>x6 k' (b k' h1 D) hs V⟩
  rw [F,H]
  rfl
 .rcases hy with ⟨n,m⟩ | ⟨n,S⟩
  .exact skip m (gA l n)
  .unfold G
   rw [gA l n,if_pos rfl]
   have hof:=bF obs
   obtain ⟨ob1,n1,n2,n3⟩:=hm.norm (obs:=obs) (H.trans hoo.symm) fun k m=>b k o_ fun i y=>by have:=hlt i k y;omega
   have U:∀ x,Rep M ob1 (a.eval x) (evG tab ops.toList i s.g x):=fun x=>(l x).monoA n2
   have W:=n3 X o_
   refine (xK hE n1 U (qG rfl rfl S)).wpIn (kY (qG rfl rfl S)) (fun u w' ⟨M',ob',L',f,A,F⟩=>?_) (fun B w' ⟨M',ob',L',f,A,F⟩=>?_)
   .rcases F with ⟨J,v,e,hr,m⟩ | ⟨B,v,e,_⟩
    .cases e
     have l1:=f.lens
     have l2:=A.len
     have l3:=n1.len
     have hle:aO obs<=aO L':=by rw [bF,bF];omega
     refine ⟨_,m hle,M',ob',L',W.trans f,A,rfl,lK (fun t=>((I t).monoA n2).mono f.imm f.hs) hr fun C e=>j▸r C e,(eI _ _ _).1.trans j,((q.monoA n2).ext n1 f).put,Y,fun k h1 D hs V=>?_⟩
     have hk1:k<aO L':=by rw [bF,<-l2];exact (Ab.1 V).1
     by_cases hk2:k<aO obs
     .obtain ⟨Z,y⟩:=T k h1 hk2
      exact absurd (.inl y) (D Z)
     .exact absurd (.inr ⟨rfl,by omega,hk1⟩) (D i)
    .cases e
   .rcases F with ⟨J,v,e,_⟩ | ⟨ch',v,e,hr,m⟩
    .cases e
    .cases e
     have l1:=f.lens
     have l2:=A.len
     have l3:=n1.len
     exact hp _ v L' B a w' m ⟨M',ob',W.trans f,A,hr,fun t=>((I t).monoA n2).mono f.imm f.hs,j,(q.monoA n2).ext n1 f,by omega⟩
theorem mQ (hE:EnvOK E) (k:∀ (i:Nat) p,ops[i]? =some p->∀ d,p.dst=some d->d<sz) (hp:∀ g v obs q a w,Kp g v obs->PP M0 ob0 obs0 w0 sz dfs g v obs q a w->Q (.panic q) a w) {m:AS->Prop}
  (e:∀ s a w,m s->DS M0 ob0 obs0 w0 sz dfs L0 s a w->Q .normal a w):
  ∀ (b:Nat) (c:Array Bool) (s:AS) (a:Act) (w:World),wpA E ops tab L0 Kp m b c s->DS M0 ob0 obs0 w0 sz dfs L0 s a w->wpAnyIn (fen rd) 0 E.P .any ops Q b c a w
 | 0,_,_,_,_,h,hs=>⟨h.1,e _ _ _ h.2 hs⟩
 | b+1,_,_,_,_,h,hs=>⟨fun t=>e _ _ _ (h.1 t) hs,fun i r=>by
   have:=aDE (rd:=rd) (K:=wpA E ops tab L0 Kp m b _) hE k hp hs (h.2 i r)
   unfold wpOpIn at this⊢
   cases n:ops[i]? with
   | none=>rw [n] at this;obtain ⟨s',f,j⟩:=this;exact mQ hE k hp e b _ s' _ _ f j
   | some o=>
    rw [n] at this
    dsimp only at this⊢
    split
    .rename_i l
     rw [if_pos l] at this
     exact Oper.wpIn_mono (fun a w ⟨s',f,j⟩=>mQ hE k hp e b _ s' a w f j) this
    .rename_i l
     rw [if_neg l] at this
     obtain ⟨_,s',f,j⟩:=this
     exact ⟨fun _ _=>trivial,mQ hE k hp e b _ s' _ _ f j⟩⟩
theorem DS.of {fr:List (Nat×AVal)} {obs:List AObj} {a:Act} {w:World} (h:SS M0 ob0 obs0 w0 sz dfs fr obs a w):DS M0 ob0 obs0 w0 sz dfs obs.length (iD fr obs []) a w:=by
 obtain ⟨M,ob,d,hm,g,c,b,f⟩:=h
 exact ⟨M,ob,obs,d,hm,rfl,g,c,b,f,fun k i _ hs e=>by
  have:=(Ab.1 e).1
  rw [hm.len] at this
  omega⟩
theorem DS.back {fr:List (Nat×AVal)} {obs:List AObj} {br:List (Nat×Nat)} {n:Nat} {a:Act} {w:World} (f:LI L0 n obs br) (h:DS M0 ob0 obs0 w0 sz dfs L0 (iD fr obs br) a w):SS M0 ob0 obs0 w0 sz dfs fr obs a w:=by
 obtain ⟨M,ob,L,m,hm,p,q,e,c,s,b⟩:=h
 have j:=bF obs
 have g:=f.low
 obtain ⟨d,n1,n2,o⟩:=hm.norm (obs:=obs) p fun k r=>b k o_ fun i l=>by have:=(f.lt i k l).1;omega
 exact ⟨M,d,o m o_,n1,fun t=>(q t).monoA n2,e,c.monoA n2,by omega⟩
theorem SS.draw {fr:List (Nat×AVal)} {obs:List AObj} {a:Act} {w:World} (h:SS M0 ob0 obs0 w0 sz dfs fr obs a w):SS M0 ob0 obs0 w0 sz dfs fr obs a {w with drawn:=w.drawn+1}:=by
 obtain ⟨M,ob,b,hm,f,d,c,e⟩:=h
 exact ⟨M,ob,⟨b.imm,b.new,b.hs,b.os,b.tape,b.output,b.size,b.keep,b.fresh⟩,hm.same (Bg _) fun _ _=>rfl,f,d,cQ.same (w:=w) rfl c,e⟩
theorem MT (hE:EnvOK E) {id:Nat} (y:TabSp ops tab) (z:∀ (i:Nat) p,ops[i]? =some p->∀ d,p.dst=some d->d<sz) {Kq:List (Nat×AVal)->List AObj->Prop}
  (hp:∀ g v obs q a w,Kp g v obs->PP M0 ob0 obs0 w0 sz dfs g v obs q a w->Q (.panic q) a w) (x:∀ fr obs a w,Kq fr obs->SS M0 ob0 obs0 w0 sz dfs fr obs a w->Q .normal a w)
  {fr:List (Nat×AVal)} {obs:List AObj} {a:Act} {w:World} (hs:SS M0 ob0 obs0 w0 sz dfs fr obs a w) (h:gU E ops.toList tab Kq Kp 0 ops.toList [] fr obs):(Code.region id ops true).wpIn (fen rd) 0 E.P Q a w:=by
 refine wpIn_region_any hE.mix ?_
 have b:∀ j,j<ops.size->(Fi ops.size false)[j]? =some (decide (j<0)):=by intro j u;simp [u]
 have o:(Fi ops.size false).size=ops.size:=by simp
 have c:ops.toList.length=ops.size:=by simp
 have t:LI obs.length 0 obs []:=⟨by rw [bF];exact Bg _,fun k h1 A=>by rw [bF] at A;omega,fun i k f=>by simp at f⟩
 have:=aCM y ops.toList 0 _ [] fr obs rfl b o t h
 rw [c] at this
 exact mQ hE z hp (fun s a w ⟨l,obs',r,B,e,n,f⟩ m=>x l obs' a w f (DS.back n (e▸m))) _ _ _ _ _ this (DS.of hs.draw)
end
def KI.item:KI->Item
 | .code c=>.code c
 | .inB id=>.inBlock id
 | .inL c=>.inLoop c
 | .beginR=>.beginRound
def fL (ks:List KI):List Item:=ks.map KI.item
theorem aAd (rd:Option Nat) (n:Nat):(fen rd).room n:=fun d h=>by cases h
theorem hO (P:Program) (rd:Option Nat) (m:Machine):m.fenced P (fen rd):=fenced_wide P m
def KW (rd:Option Nat) (P:Program) (Q:Exit->Act->World->Prop) (ks:List KI) (a:Act) (w:World):Prop:=
 ∀ (b:Frame) (cs:List Frame),b.roundOf=rd->∃ e c w',Q e c w'/\ArrivesIn (Machine.fenced P (fen rd)) P (lone (b.atR a (fL ks)) cs w) b [] cs e c w'
section
variable {rd:Option Nat} {P:Program} {Q:Exit->Act->World->Prop} {ks ks':List KI} {a:Act} {w:World}
theorem KW.nil (h:Q .normal a w):KW rd P Q [] a w:=fun _ _ _=>⟨.normal,a,w,h,.refl _⟩
theorem KW.step (hs:∀ (b:Frame) cs,Go.step P (lone (b.atR a (fL ks)) cs w)= .next (lone (b.atR a (fL ks')) cs w)) (h:KW rd P Q ks' a w):KW rd P Q ks a w:=
 fun b cs c=>let ⟨e,a',w',q,r⟩:=h b cs c;⟨e,a',w',q,.of_steps (.one (hO _ _ _) (hs b cs)) r⟩
theorem KW.ret (h:Q .ret a w):KW rd P Q (.code .ret::ks) a w:=fun b _ _=>⟨.ret,a,w,h,fun c=>⟨_,.one (hO _ _ _) (stepR_ret c)⟩,fun _=>⟨fL ks,.refl _⟩⟩
theorem KW.code {c:Code} {Q':Exit->Act->World->Prop} (h:c.wpIn (fen rd) 0 P Q' a w) (h1:∀ a w,Q' .normal a w->KW rd P Q ks a w) (n:∀ d a w,Q' (.panic d) a w->Q (.panic d) a w)
  (h3:∀ e a w,Q' e a w->e= .normal\/∃ d,e= .panic d):KW rd P Q (.code c::ks) a w:=by
 intro b cs g
 obtain ⟨e,f,w',q,r⟩:=h b (fL ks) cs g trivial (aAd _ _)
 rcases h3 e f w' q with rfl | ⟨d,rfl⟩
 .obtain ⟨j,m,i,l,k⟩:=h1 f w' q b cs g
  exact ⟨j,m,i,l,.of_steps r k⟩
 .exact ⟨.panic d,f,w',n d f w' q,r⟩
theorem KW.arrives (h:KW none P Q ks a w) (b:Frame) (cs:List Frame) (d:b.roundOf=none):∃ e c w',Q e c w'/\Arrives P (lone (b.at a (fL ks)) cs w) b [] cs e c w':=by
 obtain ⟨e,c,w',q,r⟩:=h b cs d
 rw [Frame.atR_of_none d] at r
 exact ⟨e,c,w',q,(arrivesIn_iff (I:=Machine.fenced P Fence.wide) (fun _ _=>stepsIn_wide) d).1 r⟩
theorem kB {id:Nat}:∀ (ks ks':List KI),BN id ks=some ks'->exitTo id (fL ks)=some (fL ks')
 | [],ks',h=>by cases h
 | .inB i::r,ks',h=>by
  simp only [BN] at h
  simp only [fL,Bk,KI.item,exitTo]
  cases a:Ap i id with
  | true=>
   rw [a] at h
   cases h
   rw [if_pos (by simpa using aB a)]
  | false=>
   rw [a] at h
   have b:¬ (i==id)=true:=fun e=>by
    have d:i=id:=by simpa using e
    rw [d] at a
    exact absurd a s_
   rw [if_neg b]
   exact kB r ks' h
 | .code c::r,ks',h=>kB r ks' h
 | .inL c::r,ks',h=>kB r ks' h
 | .beginR::r,ks',h=>kB r ks' h
end
def G8:Nat->List Oper->Bool
 | _,[]=>true
 | n,p::r=>(fV p).all (fun i=>Dy i n)&&G8 (n+1) r
def KZ (tab:List Nat) (i:Nat) (d:Nat):Nat->List Oper->Bool
 | _,[]=>true
 | j,q::r=>(match q.dst with | some e=>!Ap e d|| !loose tab i j | none=>true)&&KZ tab i d (j+1) r
def aDD (tab:List Nat) (all:List Oper):Nat->List Oper->Bool
 | _,[]=>true
 | i,p::r=>(match p.dst with | some d=>KZ tab i d 0 all | none=>true)&&aDD tab all (i+1) r
def IT (ops:Array Oper):Bool:=G8 0 ops.toList&&aDD (gY [] ops.toList) ops.toList 0 ops.toList
def aEI (sz:Nat) (l:List Oper):Bool:=l.all fun p=>match p.dst with | some d=>Dy d sz | none=>true
def cZ (sz:Nat):Code->Bool
 | .region _ ops dr=>aEI sz ops.toList&&(!dr||IT ops)
 | .seq a b=>cZ sz a&&cZ sz b
 | .cond _ a b=>cZ sz a&&cZ sz b
 | .block _ b=>cZ sz b
 | .loop b=>cZ sz b
 | _=>true
def KI.ok (sz:Nat):KI->Bool
 | .code c=>cZ sz c
 | .inL c=>cZ sz c
 | .inB _=>true
 | .beginR=>true
def bE (sz:Nat):List KI->Bool
 | []=>true
 | k::r=>k.ok sz&&bE sz r
theorem pE {sz id:Nat}:∀ (ks ks':List KI),BN id ks=some ks'->bE sz ks=true->bE sz ks'=true
 | [],ks',h,_=>by cases h
 | .inB i::r,ks',h,ho=>by
  simp only [BN] at h
  simp only [bE,Af] at ho
  cases a:Ap i id with
  | true=>rw [a] at h;cases h;exact ho.2
  | false=>rw [a] at h;exact pE r ks' h ho.2
 | .code c::r,ks',h,ho=>pE r ks' h (by simp only [bE,Af] at ho;exact ho.2)
 | .inL c::r,ks',h,ho=>pE r ks' h (by simp only [bE,Af] at ho;exact ho.2)
 | .beginR::r,ks',h,ho=>pE r ks' h (by simp only [bE,Af] at ho;exact ho.2)
def Goal.res:Goal->Res
 | .pure r=>r
 | .full _ r _=>r
 | .keep _ r _=>r
def Goal.obs:Goal->List AObj
 | .pure _=>[]
 | .full _ _ o=>o
 | .keep _ _ o=>o
def Goal.strict:Goal->Bool
 | .keep _ _ _=>false
 | _=>true
def RR (M0:Imm) (ob0:Hs) (obs0:List AObj) (w0:World) (g:Goal) (e:Ending) (w':World):Prop:=∃ M' ob',Ext M0 ob0 obs0 w0 M' ob' g.obs w'/\Mem M' ob' g.obs w'/\pU M' ob' e g.res
def eF (P:Program) (fn:Func) (tmps:Array Value) (R:Ending->World->Prop):List Deferred->FrameMode->World->Prop
 | [],u,w=>Leaves P fn tmps R [] u w
 | d::ds,u,w=>u≠ .run/\((∃ r w',d.target= .collected r/\(Instr.takeDeferred r).run P w= .ok [] w'/\eF P fn tmps R ds u w')\/
   ∃ fv a f args,d.target= .fn fv a/\(invoke d.target d.args).run P w= .ok (.enter f args) w/\
   CallsD P f args u w fun
    | .returned _,u',w'=>eF P fn tmps R ds (settle u') w'
    | .panicked dZ,u',w'=>eF P fn tmps R ds (raised u' dZ) w'
    | .outgrown,_,w'=>R .outgrown w')
theorem eO {P:Program} {fn:Func} {tmps:Array Value} {R:Ending->World->Prop}:∀ (k:List Deferred) (u:FrameMode) (w:World) (fr:Frame)
  (cs:List Frame),fr.mode=u->fr.defers=k->fr.tmps=tmps->P.funcs[fr.fn]? =some fn->eF P fn tmps R k u w->
  ∃ e w' a,R e w'/\Comes P (lone fr cs w) (lone a cs w') e/\a.fn=fr.fn/\a.kind=fr.kind/\a.going P w' e:=by
 intro k
 induction k with
 | nil=>
  intro u w fr cs q D C y h
  cases u with
  | run=>exact h.elim
  | returning=>
   obtain ⟨v,J,B⟩:=h
   exact ⟨.returned v,w,fr,B,Steps.refl P _,rfl,rfl,q,D,fn,y,C▸J⟩
  | panicking dZ=>exact ⟨.panicked dZ,w,fr,h,Steps.refl P _,rfl,rfl,q,D,fn,y⟩
 | cons d k G=>
  intro u w fr cs q D C y h
  obtain ⟨p,⟨r,w',n,x,s⟩ | ⟨fv,L,f,args,n,z,t⟩⟩:=h
  .have h1:=step_collected (cs:=cs) (q▸p) D n x
   obtain ⟨F,l,a,i,hs',g,j,m⟩:=G u w' {fr with defers:=[]++k} cs q rfl C y s
   exact ⟨F,l,a,i,Comes.of_steps (.one h1) hs',g,j,m⟩
  have h1:=step_defer (cs:=cs) (q▸p) D n z
  obtain ⟨e,o,w',K,B,b,H,A⟩:=t {fr with defers:=k} cs q
  cases e with
  | returned v=>
   have I:=step_going_returned (c:={{fr with defers:=k} with mode:=o}) (cs:=cs) H A
   obtain ⟨F,l,a,i,hs',g,j,m⟩:=G (settle o) w' {{{fr with defers:=k} with mode:=o} with mode:=settle o} cs rfl rfl C y B
   exact ⟨F,l,a,i,Comes.of_steps (.head h1 (Steps.trans b (.one I))) hs',g,j,m⟩
  | panicked dZ=>
   have I:=step_going_panicked (c:={{fr with defers:=k} with mode:=o}) (cs:=cs) A
   obtain ⟨F,l,a,i,hs',g,j,m⟩:=G (raised o dZ) w' {{{fr with defers:=k} with mode:=o} with mode:=raised o dZ} cs rfl rfl C y B
   exact ⟨F,l,a,i,Comes.of_steps (.head h1 (Steps.trans b (.one I))) hs',g,j,m⟩
  | outgrown=>exact ⟨.outgrown,w',fr,B,Outgrown.of_steps (.one h1) b,rfl,rfl,trivial⟩
theorem lJ {P:Program} {fr:Frame} {w:World} {e:Ending} (h:fr.going P w e) (a:fr.kind= .normal):fr.leaving P w e:=by
 cases e with
 | returned v=>exact ⟨h.1,h.2.1,a,h.2.2⟩
 | panicked b=>exact h
 | outgrown=>exact h
structure Shut (w0 w w':World):Prop where
 os:w'.os=w.os
 tape:w'.tape=w.tape
 output:w'.output=w.output
 size:w'.heap.size=w.heap.size
 heap:∀ b,w'.heap[b]? =w.heap[b]?\/(w0.heap.size<=b/\w.heap[b]? =some (.deferred (some [])))
theorem lI {P:Program} {fn:Func} {tmps:Array Value} {R:Ending->World->Prop} {w0:World} {u:FrameMode} (j:u≠ .run):∀ (f:List Deferred) (w:World),Mks w0 w f->(∀ w',Shut w0 w w'->Leaves P fn tmps R [] u w')->eF P fn tmps R f u w
 | [],w,_,h=>h w ⟨rfl,rfl,rfl,rfl,fun b=>.inl rfl⟩
 | d::f,w,⟨⟨b,h1,h2,h3,h4⟩,h5⟩,h=>by
  refine ⟨j,.inl ⟨b,_,h1,run_takeDeferred h3,?_⟩⟩
  refine lI j f _ (h5.same fun k g c a l=>?_) fun w' hs=>h w' ⟨hs.os,hs.tape,hs.output,hs.size.trans World.putObj_size,fun c=>?_⟩
  .have i:c≠b:=fun e=>by subst e;exact h4 k g a
   rw [Fx i];exact l
  .by_cases a:c=b
   .subst a;exact .inr ⟨h2,h3⟩
   .have:=hs.heap c
    rwa [Fx a] at this
theorem Mem.shut {w0 w w':World} {M:Imm} {ob:Hs} {obs:List AObj} (hm:Mem M ob obs w) (h:Shut w0 w w'):Mem M ob obs w':=by
 have e:∀ {b:Nat} {o:Obj},w.heap[b]? =some o->AY o=false->w'.heap[b]? =some o:=fun {b o} h1 h2=>by
  rcases h.heap b with q | ⟨_,q⟩
  .rw [q];exact h1
  .rw [h1] at q;cases q;cases h2
 refine ⟨fun b o x m=>?_,hm.len,fun k c j=>?_,fun k b t=>by rw [h.size];exact hm.lt k b t,hm.inj⟩
 .obtain ⟨v,a,p⟩:=hm.imm b o x m
  refine ⟨v,?_,p⟩
  unfold Ky at a⊢
  dsimp only at a⊢
  cases g:w.heap[b]? with
  | none=>rw [g] at a;cases a
  | some ob=>
   rw [g] at a
   cases ob with
   | cells c _ _=>rw [e g rfl];exact a
   | _=>cases a
 .obtain ⟨hs',f,i⟩:=hm.obj k c j
  refine ⟨hs',f,i.mono (fun _ _ _ h=>h) (dL.refl _) (fun _ _ _ _ h=>h) (fun b u n s d=>?_)⟩
  obtain ⟨o,l,r⟩:=hm.alive_heap ((cM j f).2 ⟨n,s⟩)
  rw [d] at l
  cases l
  exact e d r
theorem Ext.shut {w0 w w':World} {M0 M:Imm} {ob0 ob:Hs} {obs0 obs:List AObj} (a:Ext M0 ob0 obs0 w0 M ob obs w) (h:Shut w0 w w'):Ext M0 ob0 obs0 w0 M ob obs w':=
 ⟨a.imm,a.new,a.hs,h.os.trans a.os,h.tape.trans a.tape,h.output.trans a.output,by rw [h.size];exact a.size,fun b c d=>by
  rcases h.heap b with q | ⟨q,_⟩
  .rw [q];exact a.keep b c d
  .omega,a.fresh⟩
def CG (E:Env) (fn:Func) (M0:Imm) (ob0:Hs) (obs0:List AObj) (w0:World) (g:Goal) (b:Bool) (a:Act) (w:World):Prop:=match E.rd with
 | none=>eF E.P fn a.tmps (RR M0 ob0 obs0 w0 g) a.defers .returning w
 | some _=>RR M0 ob0 obs0 w0 g (.returned (.bool b)) w
def pS (E:Env) (fn:Func) (M0:Imm) (ob0:Hs) (obs0:List AObj) (w0:World) (g:Goal):Exit->Act->World->Prop
 | .normal,a,w=>CG E fn M0 ob0 obs0 w0 g true a w
 | .ret,a,w=>CG E fn M0 ob0 obs0 w0 g false a w
 | .panic ch,a,w=>(match E.rd with | none=>eF E.P fn a.tmps (RR M0 ob0 obs0 w0 g) a.defers (.panicking ch) w | some _=>False)
 | _,_,_=>False
def nW (g:Goal) (ob0:Hs):Prop:=ob0.length=g.n0/\(g.strict=true->∀ hs∈ob0,hs.length=1)
def dB (E:Env) (fn:Func) (g:Goal) (ks:List KI) (fr:List (Nat×AVal)) (obs:List AObj):Prop:=
 bE fn.ntmps ks=true->∀ M0 ob0 obs0 w0 a w,nW g ob0->SS M0 ob0 obs0 w0 fn.ntmps E.df fr obs a w->KW E.rd E.P (pS E fn M0 ob0 obs0 w0 g) ks a w
def aA7 (E:Env) (fn:Func) (g:Goal) (fr:List (Nat×AVal)) (obs:List AObj):Prop:=
 ∀ M0 ob0 obs0 w0 a w,nW g ob0->SS M0 ob0 obs0 w0 fn.ntmps E.df fr obs a w->eF E.P fn a.tmps (RR M0 ob0 obs0 w0 g) a.defers .returning w
def aA6 (E:Env) (fn:Func) (g:Goal) (c:Nat->AVal) (v:AVal) (obs:List AObj):Prop:=
 ∀ M0 ob0 obs0 w0 b a w,nW g ob0->PP M0 ob0 obs0 w0 fn.ntmps E.df c v obs b a w->eF E.P fn a.tmps (RR M0 ob0 obs0 w0 g) a.defers (.panicking b) w
def kF (E:Env) (fn:Func) (g:Goal) (a:Nat->AVal) (v:AVal) (obs:List AObj):Prop:=match E.rd with
 | some _=>False
 | none=>match E.df with
  | []=>KV g .pan v obs
  | _::_=>aA6 E fn g a v obs
def aFO (E:Env) (fn:Func) (g:Goal) (R:RI) (n:Nat) (rest:List Oper) (br:List (Nat×Nat)) (fr:List (Nat×AVal)) (obs:List AObj):Prop:=
 match R.dr with
 | false=>dZ E R.all (dB E fn g R.ks) (kF E fn g) n rest fr obs
 | true=>gU E R.all R.tab (dB E fn g R.ks) (kF E fn g) n rest br fr obs
def ZS (E:Env) (fn:Func) (g:Goal) (R:RI) (n:Nat) (d:Option Nat) (rest:List Oper) (br:List (Nat×Nat)) (fr:List (Nat×AVal)) (len:Nat) (obs:List AObj) (v:AVal):Prop:=
 wrP rest n d fr v fun fr=>aFO E fn g R (n+1) rest (bif R.dr then born n len (gB len obs) br else br) fr obs
def vN (E:Env) (fn:Func) (g:Goal):St->Prop
 | .code ks fr obs=>dB E fn g ks fr obs
 | .head ks fr obs=>dB E fn g ks fr obs
 | .mid R n rest br fr obs=>aFO E fn g R n rest br fr obs
 | .pend R n d rest br fr obs r=>(match R.dr with
  | false=>orF E.P obs (fun v obs'=>ZS E fn g R n d rest br fr (aO obs) obs' v) (kF E fn g (aZ fr)) r
  | true=>orD E.P (soN E R.tab R.all n d) (uoN E R.tab R.all n d) (blD E d) (nR E R.tab n br obs d) obs (aO obs) (fun v obs'=>ZS E fn g R n d rest br fr (aO obs) obs' v) (kF E fn g (aZ fr)) r)
 | .got R n d rest br fr len obs v=>ZS E fn g R n d rest br fr len obs v
 | .leave none fr obs=>aA7 E fn g fr obs
 | .leave (some v) fr obs=>aA6 E fn g (aZ fr) v obs
section
variable {E:Env} {M:Imm} {ob:Hs} {obs:List AObj} {w:World}
theorem MP (hE:EnvOK E) (hm:Mem M ob obs w) {fr:List (Nat×AVal)} {x:AVal} {tmps:Array Value} {r:ResultVar} (h:aFq E obs fr r=some x) (s:∀ t,Rep M ob (tmps.getD t undef) (aZ fr t)):
  ∃ v,(match r with | .tmp t=>(Pure.pure (tmps.getD t undef):Sem Value) | .cell a t=>(asAddr (tmps.getD a undef)) >>= loadVar t).run E.P w= .ok v w/\Rep M ob v x:=by
 cases r with
 | tmp t=>cases h;exact ⟨_,rfl,s t⟩
 | cell a t=>
  simp only [aFq] at h
  show ∃ v,((asAddr (tmps.getD a undef)) >>= loadVar t).run E.P w= .ok v w/\Rep M ob v x
  have q:=s a
  split at h
  .rename_i D k off C H
   rw [H] at q
   split at h
   .rename_i cs n
    split at h
    .rename_i l hl
     obtain ⟨b,hav,p⟩:=q.ref_inv
     obtain ⟨hs,h1,j,rfl,_,cv,z,g,_,f⟩:=hm.obj k _ (bX n s_)
     have m:j=b:=by rw [bW h1] at p;simpa using p
     subst m
     obtain ⟨A,G⟩:=iA hl
     obtain ⟨u,y,F⟩:=J2 (P:=E.P) (w:=w) (M:=M) (ob:=ob) (hE.tab t D C) (b:=j) (o:=off) h A fun i c B=>by
      have d:=G i c B
      rw [kI,Bx] at d
      have e:off+i<cv.length:=by rw [g];exact (Ab.1 d).1
      exact ⟨cv[off+i],by rw [cell_of_row w j _ _ _ (0,0) z];simp [e],f _ _ c (Aa e) d⟩
     refine ⟨u,?_,F⟩
     rw [hav]
     simp only [asAddr,Au,Bi,Ai]
     exact y
    .cases h
   .cases h
  .cases h
theorem zI (hE:EnvOK E) (hm:Mem M ob obs w) {fr:List (Nat×AVal)} {tmps:Array Value} (e:∀ t,Rep M ob (tmps.getD t undef) (aZ fr t)):
  ∀ (b:List ResultVar) {xs:List AVal},XD E obs fr b=some xs->∃ vs,(b.mapM fun (r:ResultVar)=>(match r with | .tmp t=>(Pure.pure (tmps.getD t undef):Sem Value) | .cell a t=>(asAddr (tmps.getD a undef)) >>= loadVar t)).run E.P w= .ok vs w/\cD M ob vs xs
 | [],xs,h=>by
  cases h
  exact ⟨[],by simp,rfl,fun i v a h=>by simp at h⟩
 | r::b,xs,h=>by
  simp only [XD] at h
  split at h
  .rename_i x l g hl
   cases h
   obtain ⟨v,f,j⟩:=MP hE hm g e
   obtain ⟨vs,d,c⟩:=zI hE hm e b hl
   refine ⟨v::vs,?_,cD.cons j c⟩
   rw [List.mapM_cons]
   simp only [Au]
   rw [f]
   simp only [Ai]
   rw [d]
   simp
  .cases h
theorem MQ (hE:EnvOK E) (hm:Mem M ob obs w) {fn:Func} {fr:List (Nat×AVal)} {x:AVal} {tmps:Array Value} (h:XE E obs fn.results.toList fr=some x)
  (j:∀ t,Rep M ob (tmps.getD t undef) (aZ fr t)):∃ v,(results fn tmps).run E.P w= .ok v w/\Rep M ob v x:=by
 have hl:∃ xs,XD E obs fr fn.results.toList=some xs/\((∃ y,xs=[y]/\x=y)\/(xs.length≠1/\x= .tup xs)):=by
  unfold XE at h
  split at h
  .rename_i y i;cases h;exact ⟨_,i,.inl ⟨_,rfl,rfl⟩⟩
  .rename_i l c hl
   cases h
   refine ⟨_,hl,.inr ⟨fun h1=>?_,rfl⟩⟩
   match l,h1 with
   | [y],_=>exact c y rfl
  .cases h
 obtain ⟨xs,f,d⟩:=hl
 obtain ⟨vs,e,b⟩:=zI hE hm j _ f
 have g:fn.results=fn.results.toList.toArray:=by simp
 have key:(results fn tmps).run E.P w= .ok (if h:vs.toArray.size=1 then vs.toArray[0] else .tuple vs.toArray) w:=by
  unfold results
  rw [g,List.mapM_toArray]
  simp only [Au,map_eq_pure_bind]
  have:(fn.results.toList.mapM fun (r:ResultVar)=>(match r with | .tmp t=>(Pure.pure (tmps.getD t undef):Sem Value) | .cell a t=>(asAddr (tmps.getD a undef)) >>= loadVar t)).run E.P w= .ok vs w:=e
  refine (congrArg (fun z=>Ey (Ey z _) _) this).trans ?_
  simp
 rw [key]
 rcases d with ⟨y,rfl,rfl⟩ | ⟨h1,rfl⟩
 .match vs,b with
  | [v],b=>exact ⟨v,by simp,b.2 0 v _ rfl rfl⟩
  | [],b=>have:=b.1;simp at this
  | _::_::_,b=>have:=b.1;simp at this
 .have c:¬ vs.toArray.size=1:=by rw [Gl,b.1];exact h1
  exact ⟨.tuple vs.toArray,by rw [dif_neg c],.tup vs xs b.1 b.2⟩
theorem jL:∀ {n j:Nat} {ks:List Nat},iS n j ks=true->∀ i,i<n->ks[i]? =some (j+i)
 | 0,_,_,_,i,hi=>by omega
 | n+1,j,[],h,_,_=>by cases h
 | n+1,j,k::r,h,i,hi=>by
  simp only [iS,Af] at h
  have:=aB h.1
  subst this
  cases i with
  | zero=>rfl
  | succ i=>
   have:=jL h.2 i o_
   rw [show k+(i+1)=k+1+i from by omega]
   simpa using this
theorem rZ {M0:Imm} {ob0:Hs} {obs0:List AObj} {w0:World} {g:Goal} {i:AVal->Res} {v:AVal} {u:Value} (hst:nW g ob0) (d:Ext M0 ob0 obs0 w0 M ob obs w) (hm:Mem M ob obs w) (D:Rep M ob u v) (h:KV g i v obs):
  ∃ M' ob' y,Ext M0 ob0 obs0 w0 M' ob' g.obs w/\Mem M' ob' g.obs w/\Rep M' ob' u y/\i y=g.res:=by
 cases g with
 | pure r=>
  obtain ⟨A,n,o,_,N⟩:=hm.frzL [v]
  have Q:ob0=[]:=Aq hst.1
  subst Q
  have a:=d.trans o
  have no:∀ k b,¬ aH ([]:Hs) [] k b:=fun k b ⟨c,hs,e,_⟩=>by simp at e
  exact ⟨A,[],_,⟨a.imm,a.new,dL.refl _,a.os,a.tape,a.output,a.size,a.keep,fun k b s=>(no k b s).elim⟩,n.bare,n.cvtV (n0:=0) (ks:=[]) rfl 5 u v (D.monoM o.imm),h⟩
 | full n0 r obs'=>
  obtain ⟨K,ks,⟨l,p⟩,h1,x⟩:=h
  obtain ⟨A,n,o,_,N⟩:=Mem.frzs K M obs hm
  obtain ⟨P,O,_⟩:=n.cvt (n0:=n0) l
  have a:=d.trans o
  have I:ob0.length=n0:=hst.1
  refine ⟨A,_,_,⟨a.imm,a.new,fun j hs C=>?_,a.os,a.tape,a.output,a.size,a.keep,fun j b s=>?_⟩,?_,n.cvtV (n0:=n0) l 5 u v (D.monoM o.imm),h1⟩
  .have f:j<n0:=by rw [<-I];exact (Ab.1 C).1
   have q:=jL p j f
   rw [Bp] at q
   obtain ⟨hs',B,t,z⟩:=a.hs j hs C
   have L:=hst.2 rfl hs (Av C)
   refine ⟨gT n0 j (aE (AW.frzs K obs) j) hs',?_,?_⟩
   .rw [fR,q]
    simp [B]
   .unfold gT
    split
    .rw [<-z]
     have:(hs++t).take 1=hs:=by rw [Ea o_,Cf o_]
     rw [this]
     exact ⟨_,rfl⟩
    .exact ⟨t,z⟩
  .obtain ⟨k,_,G⟩:=O j b (by rw [x];exact s)
   exact a.fresh k b G
  .show Mem A _ obs' w
   rw [<-x]
   exact P
 | keep n0 r obs'=>
  obtain ⟨⟨F,m⟩,h1,x⟩:=h
  rw [zZ] at m x
  obtain ⟨H,J⟩:=hm.cutO m
  have I:ob0.length=n0:=hst.1
  rw [x] at H J
  refine ⟨M,ob.take n0,v,⟨d.imm,d.new,fun k hs l=>?_,d.os,d.tape,d.output,d.size,d.keep,fun k b s=>d.fresh k b (J s)⟩,H,xY 5 D F,h1⟩
  obtain ⟨hs',B,z⟩:=d.hs k hs l
  have f:k<n0:=by have:=(Ab.1 l).1;omega
  exact ⟨hs',by rw [Bl f];exact B,z⟩
end
section
variable {E:Env} {fn:Func} {g:Goal}
theorem GR (hE:EnvOK E) (c:E.df=[]) (j:E.rd=none) {fr:List (Nat×AVal)} {obs:List AObj} {v:AVal} (k:XE E obs fn.results.toList fr=some v) (h:KV g .ret v obs) {M0:Imm} {ob0:Hs} {obs0:List AObj} {w0:World} {a:Act} {w:World}
  (hst:nW g ob0) (hs:SS M0 ob0 obs0 w0 fn.ntmps E.df fr obs a w):eF E.P fn a.tmps (RR M0 ob0 obs0 w0 g) a.defers .returning w:=by
 obtain ⟨M,ob,d,hm,p,o,e,r⟩:=hs
 rw [c] at e
 refine lI (w0:=w0) (by intro h;cases h) _ _ e.marks fun w' b=>?_
 have d:=d.shut b
 have hm:=hm.shut b
 obtain ⟨u,f,l⟩:=MQ hE hm k p
 obtain ⟨M',ob',y,q,m,i,n⟩:=rZ hst d hm l h
 refine ⟨u,f,M',ob',q,m,?_⟩
 rw [<-n]
 exact i
theorem QP (hE:EnvOK E) {b:Bool} {fr:List (Nat×AVal)} {obs:List AObj} (h:aB1 E fn g (vN E fn g) b fr obs) {M0:Imm} {ob0:Hs} {obs0:List AObj} {w0:World} {a:Act} {w:World}
  (hst:nW g ob0) (hs:SS M0 ob0 obs0 w0 fn.ntmps E.df fr obs a w):CG E fn M0 ob0 obs0 w0 g b a w:=by
 unfold aB1 at h
 unfold CG
 cases e:E.rd with
 | some l=>
  rw [e] at h
  dsimp only at h⊢
  rw [G1] at h
  obtain ⟨M,ob,j,hm,s,n,r,q⟩:=hs
  obtain ⟨M',ob',y,o,k,f,m⟩:=rZ hst j hm (.bool b) h
  exact ⟨M',ob',o,k,by rw [<-m];exact f⟩
 | none=>
 rw [e] at h
 dsimp only at h⊢
 cases c:E.df with
 | nil=>
  rw [c] at h
  dsimp only at h
  split at h
  .rename_i v i
   rw [lE,G1] at h
   exact GR hE c e i h hst hs
  .exact h.elim
 | cons d p=>
  rw [c] at h
  exact h M0 ob0 obs0 w0 a w hst hs
theorem aF5 (c:E.df=[]) {v:AVal} {obs:List AObj} (h:KV g .pan v obs) {M0:Imm} {ob0:Hs} {obs0:List AObj} {w0:World} {sz:Nat} {i:Nat->AVal} {d:List PanicEntry} {a:Act} {w:World}
  (hst:nW g ob0) (hs:PP M0 ob0 obs0 w0 sz E.df i v obs d a w):eF E.P fn a.tmps (RR M0 ob0 obs0 w0 g) a.defers (.panicking d) w:=by
 obtain ⟨M,ob,k,hm,⟨u,e,l⟩,_,_,f,_⟩:=hs
 rw [c] at f
 refine lI (w0:=w0) (by intro h;cases h) _ _ f.marks fun w' b=>?_
 obtain ⟨M',ob',y,o,m,j,n⟩:=rZ hst (k.shut b) (hm.shut b) l h
 refine ⟨M',ob',o,m,?_⟩
 rw [<-n]
 exact ⟨u,e,j⟩
theorem GS {f:Nat->AVal} {v:AVal} {obs:List AObj} (h:kF E fn g f v obs) {M0:Imm} {ob0:Hs} {obs0:List AObj} {w0:World} {e:List PanicEntry} {a:Act} {w:World}
  (hst:nW g ob0) (hs:PP M0 ob0 obs0 w0 fn.ntmps E.df f v obs e a w):pS E fn M0 ob0 obs0 w0 g (.panic e) a w:=by
 unfold kF at h
 unfold pS
 cases c:E.rd with
 | some l=>rw [c] at h;exact h.elim
 | none=>
 rw [c] at h
 dsimp only at h⊢
 cases b:E.df with
 | nil=>
  rw [b] at h
  exact aF5 b h hst hs
 | cons d i=>
  rw [b] at h
  exact h M0 ob0 obs0 w0 e a w hst hs
theorem qQ {sz:Nat} {l:List Oper} (h:aEI sz l=true):∀ p∈l,∀ d,p.dst=some d->d<sz:=fun p hp d a=>by
 have:=Cj.1 h p hp
 rw [a] at this
 simpa [Fe] using this
def QR (E:Env) (fn:Func) (g:Goal) (M0:Imm) (ob0:Hs) (obs0:List AObj) (w0:World) (ks:List KI):Exit->Act->World->Prop
 | .normal,a,w=>KW E.rd E.P (pS E fn M0 ob0 obs0 w0 g) ks a w
 | .panic ch,a,w=>pS E fn M0 ob0 obs0 w0 g (.panic ch) a w
 | _,_,_=>False
theorem T1 (hE:EnvOK E) (j:∀ ops:Array Oper,IT ops=true->TabSp ops (gY [] ops.toList)) {id:Nat} {ops:Array Oper} {dr:Bool} {ks:List KI} {fr:List (Nat×AVal)} {obs:List AObj}
  (h:aFO E fn g ⟨ops.toList,dr,gY [] ops.toList,ks⟩ 0 ops.toList [] fr obs):dB E fn g (.code (.region id ops dr)::ks) fr obs:=by
 intro r M0 ob0 obs0 w0 a w hst hs
 simp only [bE,KI.ok,cZ,Af] at r
 obtain ⟨⟨n,m⟩,l⟩:=r
 have s:=qQ n
 refine KW.code (Q':=QR E fn g M0 ob0 obs0 w0 ks) ?_ (fun a w h=>h) (fun b a w h=>h) (fun e a w t=>by
  cases e<;>first | exact .inl rfl | exact .inr ⟨_,rfl⟩ | exact t.elim)
 have hp:∀ c v obs b a w,kF E fn g c v obs->PP M0 ob0 obs0 w0 fn.ntmps E.df c v obs b a w->pS E fn M0 ob0 obs0 w0 g (.panic b) a w:=fun c v obs b a w u k=>GS u hst k
 have q:∀ fr obs a w,dB E fn g ks fr obs->SS M0 ob0 obs0 w0 fn.ntmps E.df fr obs a w->KW E.rd E.P (pS E fn M0 ob0 obs0 w0 g) ks a w:=fun fr obs a w x hs=>x l M0 ob0 obs0 w0 a w hst hs
 cases dr with
 | false=>
  refine wpIn_region_list ?_
  exact pL (rd:=E.rd) (Q:=QR E fn g M0 ob0 obs0 w0 ks) (K:=dB E fn g ks) (Kp:=kF E fn g) hE (fun c v obs b a w h1 f=>hp c v obs b a w h1 f) (fun fr obs a w h1 f=>q fr obs a w h1 f) ops.toList 0 fr obs a w s h hs
 | true=>
  exact MT (rd:=E.rd) (Q:=QR E fn g M0 ob0 obs0 w0 ks) (Kq:=dB E fn g ks) (Kp:=kF E fn g) hE (j ops (by simpa using m)) (fun i p y d o=>s p (Av (i:=i) (by simpa using y)) d o) (fun c v obs b a w h1 f=>hp c v obs b a w h1 f) (fun fr obs a w h1 f=>q fr obs a w h1 f) hs h
theorem dB.step {ks ks':List KI} {fr:List (Nat×AVal)} {obs:List AObj} (hs:∀ a w (b:Frame) cs,Go.step E.P (lone (b.atR a (fL ks)) cs w)= .next (lone (b.atR a (fL ks')) cs w)) (e:bE fn.ntmps ks=true->bE fn.ntmps ks'=true) (h:dB E fn g ks' fr obs):dB E fn g ks fr obs:=
 fun d M0 ob0 obs0 w0 a w hst c=>KW.step (hs a w) (h (e d) M0 ob0 obs0 w0 a w hst c)
theorem go (hE:EnvOK E) (G:∀ ops:Array Oper,IT ops=true->TabSp ops (gY [] ops.toList)):∀ (z:Nat) (st:St),bN E fn g (vN E fn g) z st->vN E fn g st:=by
 intro z
 induction z with
 | zero=>intro st h;exact h
 | succ n o=>
  intro st h
  cases st with
  | head ks fr obs=>exact o (.code ks fr obs) h
  | leave p fr obs=>exact h
  | code ks fr obs=>
   cases ks with
   | nil=>
    simp only [bN] at h
    exact fun _ M0 ob0 obs0 w0 a w hst hs=>KW.nil (QP (b:=true) hE h hst hs)
   | cons k ks=>
    cases k with
    | inB id=>exact dB.step (fun a w b cs=>stepR_inBlock) (fun j=>by simp only [bE,Af] at j;exact j.2) (o (.code ks fr obs) h)
    | inL b=>
     exact dB.step (ks':=.code b:: .inL b::ks) (fun a w b cs=>stepR_inLoop) (fun j=>by simp only [bE,KI.ok,Af] at j⊢;exact ⟨j.1,j.1,j.2⟩) h
    | beginR=>exact h
    | code q=>
     cases q with
     | rangeFunc x W as U=>exact h
     | skip=>exact dB.step (fun a w b cs=>stepR_skip) (fun j=>by simp only [bE,Af] at j;exact j.2) (o (.code ks fr obs) h)
     | seq x y=>exact dB.step (fun a w b cs=>stepR_seq) (fun j=>by simp only [bE,KI.ok,cZ,Af] at j⊢;exact ⟨j.1.1,j.1.2,j.2⟩) (o (.code (.code x:: .code y::ks) fr obs) h)
     | block id b=>exact dB.step (fun a w b cs=>stepR_block) (fun j=>by simp only [bE,KI.ok,cZ,Af] at j⊢;exact ⟨j.1,trivial,j.2⟩) (o (.code (.code b:: .inB id::ks) fr obs) h)
     | loop b=>exact dB.step (ks':=.code b:: .inL b::ks) (fun a w b cs=>stepR_loop) (fun j=>by simp only [bE,KI.ok,cZ,Af] at j⊢;exact ⟨j.1,j.1,j.2⟩) h
     | exit id=>
            simp only [bN] at h
            split at h
            .rename_i ks' I
             exact dB.step (fun a w b cs=>stepR_exit (kB _ _ I)) (fun j=>pE _ _ I (by simp only [bE,Af] at j;exact j.2)) (o (.code ks' fr obs) h)
            .exact h.elim
     | ret=>
            simp only [bN] at h
            exact fun _ M0 ob0 obs0 w0 a w hst hs=>KW.ret (QP (b:=false) hE h hst hs)
     | cond x c d=>
            simp only [bN] at h
            split at h
            .rename_i p hp
             intro j M0 ob0 obs0 w0 a w hst hs
             simp only [bE,KI.ok,cZ,Af] at j
             obtain ⟨M,ob,I,hm,Q,N,V,S⟩:=id hs
             have C:=BO (a:=a) Q x
             rw [hp] at C
             cases p with
             | true=>
              refine KW.step (ks':=.code c::ks) (fun b cs=>?_) (h.1 rfl (by simp only [bE,KI.ok,Af];exact ⟨j.1.1,j.2⟩) M0 ob0 obs0 w0 a w hst hs)
              exact stepR_cond (P:=E.P) (b:=b) (k:=fL ks) (cs:=cs) (w:=w) (x:=c) (y:=d) C.bool_inv
             | false=>
              refine KW.step (ks':=.code d::ks) (fun b cs=>?_) (h.2 rfl (by simp only [bE,KI.ok,Af];exact ⟨j.1.2,j.2⟩) M0 ob0 obs0 w0 a w hst hs)
              exact stepR_cond (P:=E.P) (b:=b) (k:=fL ks) (cs:=cs) (w:=w) (x:=c) (y:=d) C.bool_inv
            .exact h.elim
     | region id ops dr=>
            simp only [bN] at h
            cases u:aHm ops.toList with
            | true=>rw [u] at h;exact h
            | false=>
             rw [u] at h
             dsimp only at h
             refine T1 hE G ?_
             cases dr with
             | false=>
              have:=o (.mid ⟨ops.toList,false,[],ks⟩ 0 ops.toList [] fr obs) h
              exact this
             | true=>
              simp only [aAU] at h
              exact o (.mid ⟨ops.toList,true,gY [] ops.toList,ks⟩ 0 ops.toList [] fr obs) h
     | _=>exact h.elim
  | mid R i rest br fr obs=>
   cases rest with
   | nil=>
    have L:=o (.code R.ks fr obs) h
    obtain ⟨all,dr,tab,ks⟩:=R
    cases dr with
    | false=>exact L
    | true=>exact L
   | cons p rest=>
    obtain ⟨all,dr,tab,ks⟩:=R
    cases dr with
    | false=>
     simp only [bN] at h
     show dZ E all (dB E fn g ks) (kF E fn g) i (p::rest) fr obs
     simp only [dZ]
     cases F:cC all (ev fr) p.guard with
     | none=>rw [F] at h;exact h.elim
     | some b=>
            rw [F] at h
            cases b with
            | false=>
             cases s:p.dst with
             | none=>rw [s] at h;exact o _ h
             | some d=>
              rw [s] at h
              dsimp only at h
              rw [kV] at h
              exact o (.mid ⟨all,false,tab,ks⟩ (i+1) rest br (eZ fr d (.tup [])) obs) h
            | true=>exact o (.pend ⟨all,false,tab,ks⟩ i p.dst rest br fr obs _) h
    | true=>
     simp only [bN] at h
     show gU E all tab (dB E fn g ks) (kF E fn g) i (p::rest) br fr obs
     simp only [gU]
     cases F:cC all (evH tab all i fr) p.guard with
     | none=>rw [F] at h;exact h.elim
     | some b=>
            rw [F] at h
            cases b with
            | false=>
             cases s:p.dst with
             | none=>rw [s] at h;exact o _ h
             | some d=>
              rw [s] at h
              dsimp only at h
              rw [kV] at h
              exact o (.mid ⟨all,true,tab,ks⟩ (i+1) rest br (eZ fr d (.tup [])) obs) h
            | true=>
             dsimp only at h
             rw [pT] at h
             exact o (.pend ⟨all,true,tab,ks⟩ i p.dst rest br fr obs _) h
  | got R i d rest br fr len obs v=>
   simp only [bN,lE,pT] at h
   show ZS E fn g R i d rest br fr len obs v
   unfold ZS wrP
   cases d with
   | none=>exact o _ h
   | some d=>
    dsimp only at h⊢
    cases K:tI i rest with
    | false=>
     rw [K] at h
     simp only [cond_false,kV] at h
     exact o _ h
    | true=>
     rw [K] at h
     simp only [cond_true] at h⊢
     split at h
     .rw [kV,kV] at h
      exact h
     .exact h.elim
  | pend R i d rest br fr obs r=>
   obtain ⟨all,dr,tab,ks⟩:=R
   have J:∀ {q:Prop} {b:Bool},(match (!dr||b) with | true=>q | false=>False)->q/\(dr=true->b=true):=fun {q b} hq=>by
    cases dr with
    | false=>exact ⟨hq,fun e=>by cases e⟩
    | true=>
     cases b with
     | false=>exact hq.elim
     | true=>exact ⟨hq,fun _=>rfl⟩
   cases r with
   | no=>exact h.elim
   | val v=>
    simp only [bN,lE] at h
    have:=o _ h
    cases dr<;>exact this
   | mkf f X cs=>
    simp only [bN,HR (lE 3)] at h
    have:=o _ h
    cases dr<;>exact this
   | need p r=>
    simp only [bN] at h
    cases dr<;>exact h
   | alt p v T=>
    simp only [bN] at h
    cases dr<;>exact h
   | idx m f=>
    simp only [bN] at h
    cases dr<;>exact h
   | elem xs m f=>
    simp only [bN] at h
    cases dr<;>exact h
   | byte l m=>
    simp only [bN] at h
    cases dr<;>exact h
   | text xs=>
    simp only [bN] at h
    cases dr<;>exact h
   | find es key f=>
    simp only [bN] at h
    cases dr<;>exact h
   | born x v=>
    simp only [bN,aA4,pT,lE] at h
    cases dr with
    | false=>
     have:=o (.got _ _ _ _ _ _ _ _ _) h
     exact this
    | true=>
     cases t:blD E d with
     | true=>rw [t] at h;exact h.elim
     | false=>
            rw [t] at h
            have:=o (.got _ _ _ _ _ _ _ _ _) h
            simp only [vN]
            rw [t]
            exact this
   | upd k x v=>
    simp only [bN,aA4,pT,lE] at h
    obtain ⟨h,A⟩:=J h
    have:=o _ h
    cases dr with
    | false=>exact this
    | true=>
     simp only [vN,orD]
     rw [A rfl]
     exact this
   | nilq xs O=>
    simp only [bN] at h
    obtain ⟨h,A⟩:=J h
    cases dr with
    | false=>exact h
    | true=>
     simp only [vN]
     rw [A rfl]
     exact h
   | call f args=>
    have H:aCj E g (vN E fn g) fr=kF E fn g (aZ fr):=by
     funext v obs
     unfold aCj kF
     cases E.rd<;>cases E.df<;>rfl
    simp only [bN,HR (lE 5),H] at h
    cases dr with
    | false=>exact h
    | true=>
     dsimp only at h
     cases t:blD E d with
     | true=>rw [t] at h;exact h.elim
     | false=>
            rw [t] at h
            dsimp only at h
            rw [pT] at h
            simp only [vN]
            rw [t]
            exact h
   | pan v=>
    simp only [bN,lE] at h
    obtain ⟨B,A⟩:=J h
    have h3:kF E fn g (aZ fr) v obs:=by
     unfold kF
     cases D:E.rd with
     | some l=>rw [D] at B;exact B.elim
     | none=>
     rw [D] at B
     dsimp only at B⊢
     cases u:E.df with
     | nil=>rw [u] at B;dsimp only at B⊢;rw [G1] at B;exact B
     | cons d Y=>rw [u] at B;exact B
    cases dr with
    | false=>exact h3
    | true=>
     simp only [vN]
     rw [A rfl]
     exact h3
end
def pV (P:Program) (f:FuncId):Prop:=∀ (args:Array Value) (w:World),(callFunc f args).run P w= .ok (.enter f args) w
theorem A6:∀ (l:List AVal) (n t:Nat),aZ (frA n l) t=if n<=t then (l[t-n]?).getD .undef else .undef
 | [],n,t=>by simp [frA,aZ]
 | a::l,n,t=>by
  simp only [frA,aZ]
  cases h:Ap n t with
  | true=>have:=aB h;subst this;simp
  | false=>
   have c:n≠t:=fun e=>by subst e;simp at h
   simp only [cond_false]
   rw [A6 l (n+1) t]
   by_cases b:n+1<=t
   .rw [if_pos b,if_pos o_]
    have:t-n=(t-(n+1))+1:=o_
    rw [this];simp
   .rw [if_neg b,if_neg o_]
theorem LG {P:Program} {f:FuncId} {fn:Func} {c:Code} {args:Array Value} {w:World} {R:Ending->World->Prop} (t:P.funcs[f]? =some fn) (v:fn.body=some c)
  {Q:Exit->Act->World->Prop} (u:∀ e a w,Q e a w->(match e with | .normal | .ret=>eF P fn a.tmps R a.defers .returning w | .panic ch=>eF P fn a.tmps R a.defers (.panicking ch) w | _=>False)) (h:KW none P Q [.code c] {tmps:=args++Fi (fn.ntmps-args.size) undef,defers:=[]} w):Calls P f args w R:=by
 intro cs
 let b:Frame:={(default:Frame) with fn:=f,kind:=.normal}
 have m:Frame.enter P f args .normal=b.at {tmps:=args++Fi (fn.ntmps-args.size) undef,defers:=[]} [.code c]:=by
  simp [Frame.enter,Frame.at,t,v,b]
 obtain ⟨e,p,w',n,d⟩:=h.arrives b cs rfl
 have n:=u _ _ _ n
 rw [show fL [.code c]=[.code c] from rfl,<-m] at d
 cases e with
 | normal=>
  obtain ⟨s,k,j,q,hs,g,r,hl⟩:=eO p.defers .returning w' {b.at p [] with mode:=.returning} cs rfl rfl rfl t n
  exact ⟨s,k,j,q,Comes.of_steps (Steps.trans d (.one step_end)) hs,g,lJ hl r⟩
 | ret=>
  obtain ⟨i,o⟩:=d
  obtain ⟨s,k,j,q,hs,g,r,hl⟩:=eO p.defers .returning w' {b.at p i with mode:=.returning} cs rfl rfl rfl t n
  exact ⟨s,k,j,q,Comes.of_steps o hs,g,lJ hl r⟩
 | panic dZ=>
  obtain ⟨i,o⟩:=d
  obtain ⟨s,k,j,q,hs,g,r,hl⟩:=eO p.defers (.panicking dZ) w' {b.at p i with mode:=.panicking dZ} cs rfl rfl rfl t n
  exact ⟨s,k,j,q,Comes.of_steps o hs,g,lJ hl r⟩
 | exit id=>exact n.elim
 | goto l=>exact n.elim
 | outgrown=>exact n.elim
def okA:AVal->Prop
 | .int k n=>inR k n
 | .str l=>(l.length:Int)<=9223372036854775807
 | .slice _ xs _=>(xs.length:Int)<=9223372036854775807
 | _=>True
theorem Rep.okA {M:Imm} {ob:Hs} {v:Value} {a:AVal} (h:Rep M ob v a):okA a:=by
 cases a with
 | int k n=>exact h.int_inv.2
 | str l=>exact h.str_inv.2
 | slice sz xs t=>obtain ⟨_,_,_,_,_,h⟩:=h.slice_inv;exact h
 | _=>exact trivial
def okL:List AVal->Prop
 | []=>True
 | a::r=>okA a/\okL r
theorem cD.okL {M:Imm} {ob:Hs}:∀ {vs:List Value} {as:List AVal},cD M ob vs as->okL as
 | _,[],_=>trivial
 | [],a::r,h=>by have:=h.1;simp at this
 | v::vs,a::r,h=>⟨(h.2 0 v a rfl rfl).okA,cD.okL (vs:=vs) ⟨by simpa using h.1,fun i u b c d=>h.2 (i+1) u b (by simpa using c) (by simpa using d)⟩⟩
def rT:List AObj->Bool
 | []=>true
 | o::r=>o.owns&&Ap (dN o) 0&&rT r
theorem rS:∀ {l:List AObj},rT l=true->∀ (k:Nat) o,l[k]? =some o->o.owns=true/\dN o=0
 | [],_,k,o,h=>by simp at h
 | x::r,hb,k,o,h=>by
  simp only [rT,Af] at hb
  cases k with
  | zero=>simp at h;subst h;exact ⟨hb.1.1,aB hb.1.2⟩
  | succ k=>exact rS hb.2 k o (by simpa using h)
theorem aA.of {E:Env} {f:FuncId} {fn:Func} {args:List AVal} {obs:List AObj} {g:Goal} (j:E.df=[]) (A:E.P.funcs[f]? =some fn) (v:fn.body=some (dA fn)) (o:pV E.P f)
  (l:cZ fn.ntmps (dA fn)=true) (x:Ew args.length fn.ntmps=true) (m:rT obs=true) (y:obs.length=g.n0) (h:okL args->vN E fn g (.code [.code (dA fn)] (frA 0 args) obs)) (d:E.rd=none:=by rfl):aA E.P f args obs g.res g.obs:=by
 intro M ob w b hm p
 refine .inl ⟨o _ _,LG (Q:=pS E fn M ob obs w g) A v (fun e a w h=>?_) ?_⟩
 .cases e<;>(try unfold pS CG at h)<;>(try rw [d] at h)<;>exact h
 have r:b.length=args.length:=p.1
 have u:=Ca x
 have hst:nW g ob:=by
  refine ⟨by rw [hm.len,y],fun _ hs i=>?_⟩
  obtain ⟨k,q⟩:=Cp i
  have c:k<obs.length:=by rw [<-hm.len];exact (Ab.1 q).1
  obtain ⟨h1,z⟩:=rS m k _ (Aa c)
  have e:=fJ (Aa c)
  have:=hm.histLen (by rw [e];exact h1) q
  rw [e,z] at this
  exact this
 rw [<-d]
 refine h p.okL (by simp [bE,KI.ok,l]) M ob obs w {tmps:=b.toArray++Fi (fn.ntmps-b.toArray.size) undef,defers:=[]} w hst ⟨M,ob,Ext.refl _ _ _ _,hm,fun t=>?_,?_,by rw [j];exact cQ.nil,by rw [hm.len];exact Bg _⟩
 .rw [A6]
  simp only [Bt,if_true,Hu]
  by_cases s:t<args.length
  .rw [Aa s]
   have n:t<b.length:=o_
   have:(b.toArray++Fi (fn.ntmps-b.toArray.size) undef).getD t undef=b[t]:=by
    rw [Bd,Hq (by simpa using n)]
    simp [n]
   rw [this]
   exact p.2 t _ _ (Aa n) (Aa s)
  .rw [Bj o_]
   exact .undef _
 .simp
  omega
theorem oH (m i:Nat):cK m i=m.testBit i:=by
 unfold cK Nat.testBit
 have h1:Nat.land (Nat.shiftRight m i) 1=(m >>> i) % 2:=Kk _
 have a:(1 &&& (m >>> i))=(m >>> i) % 2:=by rw [Nat.and_comm];exact Kk _
 rw [h1,a]
 rcases Nat.mod_two_eq_zero_or_one (m >>> i) with h | h<;>rw [h]<;>rfl
theorem E4 {tab:List Nat} {i:Nat}:∀ {l:List Nat},cK (hJ tab l) i=true↔ ∃ e∈l,e=i\/cK (cV tab e) i=true
 | []=>by rw [oH];simp [hJ]
 | x::r=>by
  have b:=E4 (tab:=tab) (i:=i) (l:=r)
  rw [oH] at b⊢
  have e:hJ tab (x::r)=(1 <<< x ||| cV tab x) ||| hJ tab r:=rfl
  rw [e,Nat.testBit_or,Nat.testBit_or,Nat.one_shiftLeft,Nat.testBit_two_pow,Eg,Eg,b,decide_eq_true_eq]
  constructor
  .rintro ((h | h) | ⟨e,h1,a⟩)
   .exact ⟨x,by simp,.inl h⟩
   .exact ⟨x,by simp,.inr (by rw [oH];exact h)⟩
   .exact ⟨e,by simp [h1],a⟩
  .rintro ⟨e,h1,a⟩
   rcases Ao.1 h1 with rfl | h1
   .rcases a with a | a
    .exact .inl (.inl a)
    .rw [oH] at a;exact .inl (.inr a)
   .exact .inr ⟨e,h1,a⟩
theorem A7 {a b:List Nat} {j:Nat} (h:j<a.length):cV (a++b) j=cV a j:=by
 induction a generalizing j with
 | nil=>simp at h
 | cons x r c=>
  cases j with
  | zero=>rfl
  | succ j=>exact c (by simpa using h)
theorem ZW {a:List Nat} {m:Nat}:cV (a++[m]) a.length=m:=by
 induction a with
 | nil=>rfl
 | cons x r b=>exact b
theorem ZV {a:List Nat} {j:Nat} (h:a.length<=j):cV a j=0:=by
 induction a generalizing j with
 | nil=>rfl
 | cons x r b=>
  cases j with
  | zero=>simp at h
  | succ j=>exact b (by simpa using h)
theorem vL:∀ (l:List Oper) (tab:List Nat),∃ t,gY tab l=tab++t/\t.length=l.length
 | [],tab=>⟨[],by simp [gY],rfl⟩
 | p::r,tab=>by
  obtain ⟨t,h1,a⟩:=vL r (tab++[hJ tab (fV p)])
  exact ⟨hJ tab (fV p)::t,by simp [gY,h1],by simp [a]⟩
theorem wO {a b:List Nat}:∀ {l:List Nat},(∀ e∈l,cV a e=cV b e)->hJ a l=hJ b l
 | [],_=>rfl
 | x::r,h=>by
  have:=wO (l:=r) fun e c=>h e (by simp [c])
  show Mp (Mp _ (cV a x)) (hJ a r)=Mp (Mp _ (cV b x)) (hJ b r)
  rw [this,h x s_]
theorem LO:∀ (l:List Oper) (tab:List Nat),G8 tab.length l=true->∀ (i:Nat) p,l[i]? =some p->cV (gY tab l) (tab.length+i)=hJ (gY tab l) (fV p)/\∀ e∈fV p,e<tab.length+i
 | [],_,_,i,p,h=>by simp at h
 | q::r,tab,hb,i,p,h=>by
  simp only [G8,Af] at hb
  have a:∀ e∈fV q,e<tab.length:=fun e b=>by
   have:=Cj.1 hb.1 e b
   simpa [Fe] using this
  cases i with
  | zero=>
   simp at h
   subst h
   refine ⟨?_,fun e b=>by have:=a e b;omega⟩
   obtain ⟨t,h1,_⟩:=vL r (tab++[hJ tab (fV q)])
   have c:gY tab (q::r)=(tab++[hJ tab (fV q)])++t:=h1
   rw [Df,c,A7 s_,ZW]
   refine wO fun e b=>?_
   have:=a e b
   rw [A7 q_,A7 this]
  | succ i=>
   have:=LO r (tab++[hJ tab (fV q)]) (by simpa using hb.2) i p (by simpa using h)
   simp only [Ar,Mc] at this
   rw [show tab.length+(i+1)=tab.length+1+i from by omega]
   exact this
theorem JN {p:Oper} {i:Nat}:i∈fV p↔ ∃ e∈p.after,Ix .any e=true/\e.on=i:=by
 unfold fV
 simp only [Bu,Dw]
 constructor
 .rintro ⟨e,⟨h1,a⟩,h3⟩;exact ⟨e,by simpa using h1,a,h3⟩
 .rintro ⟨e,h1,a,h3⟩;exact ⟨e,⟨by simpa using h1,a⟩,h3⟩
theorem BY {tab:List Nat} {i d:Nat}:∀ {l:List Oper} {n:Nat},KZ tab i d n l=true->∀ (j:Nat) q,l[j]? =some q->loose tab i (n+j)=true->q.dst≠some d
 | [],_,_,j,q,h,_=>by simp at h
 | x::r,n,hb,j,q,h,hl=>by
  simp only [KZ,Af] at hb
  cases j with
  | zero=>
   simp at h
   subst h
   intro e
   have:=hb.1
   rw [e] at this
   rw [Df] at hl
   simp [hl] at this
  | succ j=>exact BY hb.2 j q (by simpa using h) (by rw [show n+1+j=n+(j+1) from by omega];exact hl)
theorem EW {tab:List Nat} {all:List Oper}:∀ {l:List Oper} {n:Nat},aDD tab all n l=true->∀ (i:Nat) p d,l[i]? =some p->p.dst=some d->KZ tab (n+i) d 0 all=true
 | [],_,_,i,p,d,h,_=>by simp at h
 | x::r,n,hb,i,p,d,h,hd=>by
  simp only [aDD,Af] at hb
  cases i with
  | zero=>
   simp at h
   subst h
   have:=hb.1
   rw [hd] at this
   exact this
  | succ i=>
   have:=EW hb.2 i p d (by simpa using h) hd
   rwa [show n+1+i=n+(i+1) from by omega] at this
theorem zJ (ops:Array Oper) (h:IT ops=true):TabSp ops (gY [] ops.toList):=by
 simp only [IT,Af] at h
 obtain ⟨h1,D⟩:=h
 have get:∀ (j:Nat) p,ops[j]? =some p->cV (gY [] ops.toList) j=hJ (gY [] ops.toList) (fV p)/\∀ e∈fV p,e<j:=fun j p hp=>by
  have:=LO ops.toList [] h1 j p (by simpa using hp)
  simpa using this
 have k:(gY [] ops.toList).length=ops.size:=by
  obtain ⟨t,u,z⟩:=vL ops.toList []
  rw [u]
  simpa using z
 have c:∀ j i,cK (cV (gY [] ops.toList) j) i=true->j<ops.size:=fun j i g=>by
  refine Nat.lt_of_not_le fun o=>?_
  rw [ZV (by rw [k];exact o),oH] at g
  simp at g
 have a:∀ (j:Nat) p,ops[j]? =some p->∀ e∈p.after,Ix .any e=true->e.on<j:=fun j p hp e f l=>(get j p hp).2 _ (JN.2 ⟨e,f,l,rfl⟩)
 have b:∀ (j:Nat) p,ops[j]? =some p->∀ i,cK (cV (gY [] ops.toList) j) i=true->∃ e∈p.after,Ix .any e=true/\(e.on=i\/cK (cV (gY [] ops.toList) e.on) i=true):=fun j p hp i s=>by
  rw [(get j p hp).1] at s
  obtain ⟨e,f,r⟩:=E4.1 s
  obtain ⟨B,w,y,C⟩:=JN.1 f
  subst C
  exact ⟨B,w,y,r⟩
 have d:∀ i j,cK (cV (gY [] ops.toList) i) j=true->j<i:=by
  intro i
  induction i using Lu with
  | ind i v=>
   intro j g
   have m:=c i j g
   have hp:ops[i]? =some ops[i]:=Fj m
   obtain ⟨e,f,l,h | h⟩:=b i _ hp j g
   .have:=a i _ hp e f l;omega
   .have h1:=a i _ hp e f l
    have:=v e.on h1 j h
    omega
 exact ⟨a,d,b,c,fun i j p q hp x hl t A=>by
  have:=EW (n:=0) D i p t (by simpa using hp) A
  rw [Bp] at this
  exact BY this j q (by simpa using x) (by rw [Bp];exact hl)⟩
inductive To (E:Env) (fn:Func) (g:Goal) (st:St):Prop
 | mk (h:vN E fn g st)
theorem aH6 (E:Env) (fn:Func) (g:Goal):To E fn g=vN E fn g:=funext fun st=>propext ⟨fun ⟨h⟩=>h,.mk⟩
theorem bV {E:Env} {fn:Func} {g:Goal} (hE:EnvOK E) (a:Nat) {st:St} (h:bN E fn g (To E fn g) a st):To E fn g st:=by
 rw [aH6] at h⊢
 exact go hE zJ a st h
theorem aA.to {E:Env} {f:FuncId} {fn:Func} {args:List AVal} {obs:List AObj} {g:Goal} (d:E.df=[]) (m:E.P.funcs[f]? =some fn) (i:fn.body=some (dA fn)) (e:pV E.P f)
  (a:cZ fn.ntmps (dA fn)=true) (j:Ew args.length fn.ntmps=true) (c:rT obs=true) (l:obs.length=g.n0) (h:okL args->To E fn g (.code [.code (dA fn)] (frA 0 args) obs)) (b:E.rd=none:=by rfl):aA E.P f args obs g.res g.obs:=
 aA.of d m i e a j c l (fun k=>(h k).rec fun h=>h) b
def zvL (f:Value->AVal):List Value->List AVal
 | []=>[]
 | v::r=>f v::zvL f r
def zv:Nat->Value->AVal
 | n+1,.agg vs=>.agg (zvL (zv n) vs.toList)
 | _,v=>aDO v
theorem OU {M:Imm} {ob:Hs} {f:Value->AVal} (d:∀ v,Rep M ob v (f v)):∀ (l:List Value),l.length=(zvL f l).length/\∀ (i:Nat) v a,l[i]? =some v->(zvL f l)[i]? =some a->Rep M ob v a
 | []=>⟨rfl,fun i v a h=>by simp at h⟩
 | x::l=>by
  obtain ⟨h1,e⟩:=OU d l
  refine ⟨by simp [zvL,h1],fun i v a b c=>?_⟩
  cases i with
  | zero=>simp [zvL] at b c;subst b c;exact d x
  | succ i=>exact e i v a (by simpa using b) (by simpa [zvL] using c)
theorem aEN {M:Imm} {ob:Hs}:∀ (n:Nat) (v:Value),Rep M ob v (zv n v):=by
 intro n
 induction n with
 | zero=>intro v;exact pH v
 | succ n b=>
  intro v
  cases v with
  | agg vs=>
   obtain ⟨h1,a⟩:=OU (M:=M) (ob:=ob) b vs.toList
   have:=Rep.agg vs.toList _ h1 a
   simpa [zv] using this
  | _=>exact pH _
def LF (P:Program):Nat->Nat->List (Option Nat)
 | 0,_=>[]
 | n+1,t=>match P.underlying t with
  | some (.struct fs)=>fs.toList.flatMap fun f=>LF P n f.type
  | some (.array len e)=>(Ah len (LF P n e)).flatten
  | some (.slice e)=>[some (((P.info? e).map (·.size)).getD 0)]
  | _=>[none]
def aBl:Option Nat->AVal->AVal
 | some sz,.nilslice=>.slice sz [] .nil
 | _,v=>v
def tyZ:List (Option Nat)->List AVal->List AVal
 | k::ks,c::cs=>aBl k c::tyZ ks cs
 | _,cs=>cs
def zT (P:Program) (t:Nat) (z:Value):AVal:=match zv 4 z with
 | .agg cs=>.agg (tyZ (LF P 6 t) cs)
 | v=>aBl (match LF P 6 t with | k::_=>k | []=>none) v
theorem H3 {M:Imm} {ob:Hs} {k:Option Nat} {v:Value} {a:AVal} (h:Rep M ob v a):Rep M ob v (aBl k a):=by
 unfold aBl
 split
 .cases h;exact .slnil _ _ rfl
 .exact h
theorem O5 {M:Imm} {ob:Hs}:∀ {ks:List (Option Nat)} {cs:List AVal} {vs:List Value},cD M ob vs cs->cD M ob vs (tyZ ks cs)
 | [],cs,vs,h=>by cases cs<;>exact h
 | k::ks,[],vs,h=>h
 | k::ks,c::cs,[],h=>by have:=h.1;simp at this
 | k::ks,c::cs,v::vs,h=>cD.cons (H3 (h.2 0 v c rfl rfl)) (O5 ⟨by simpa using h.1,fun i u b a d=>h.2 (i+1) u b (by simpa using a) (by simpa using d)⟩)
theorem aEO {M:Imm} {ob:Hs} {P:Program} {t:Nat} {z:Value}:Rep M ob z (zT P t z):=by
 have h:=aEN (M:=M) (ob:=ob) 4 z
 unfold zT
 split
 .rename_i cs a
  rw [a] at h
  obtain ⟨vs,rfl,h1,d⟩:=h.agg_inv
  obtain ⟨b,c⟩:=O5 (ks:=LF P 6 t) ⟨h1,d⟩
  exact .agg vs _ b c
 .exact H3 h
def oK (P:Program) (t:Nat):Nat:=((P.info? t).map (·.size)).getD 0
def mkF (P:Program) (f:Field):Nat×Nat×Bool:=(f.offset,oK P f.type,aP P f.type)
def aFN (P:Program):List Field->List (Nat×Nat×Bool)
 | []=>[]
 | f::r=>mkF P f::aFN P r
def GK (P:Program) (t:Nat):Bool:=(P.info? t).isSome&&(P.underlying t).isSome
def fsB (P:Program):List Field->Bool
 | []=>true
 | f::r=>GK P f.type&&fsB P r
def GB (P:Program) (t:Nat):TK:=match P.underlying t with
 | some (.int k)=>.int k
 | some .bool=>.bool
 | some .string=>.str
 | some (.struct fs)=>.strct (aFN P fs.toList)
 | some (.array n e)=>.arr n (oK P e) (aP P e)
 | some (.slice e)=>.slc e (oK P e) (((P.info? e).map (·.bytes)).getD 0)
 | some (.pointer e)=>.ptr e
 | some (.interface _)=>.iface
 | some (.map k e)=>.mp k e
 | _=>.other
def aCJ (P:Program) (t:Nat):TI:=match P.info? t with
 | some i=>⟨GB P t,i.size,aP P t,match i.zero with | some z=>zT P t z | none=>.undef⟩
 | none=>⟨.other,0,false,.undef⟩
def OV (P:Program) (t:Nat):Bool:=match P.info? t with
 | some i=>(match i.zero with
  | some z=>Ap z.cells.size i.size&&(z.cells.toList.all (·.oneCell')&&AG (zT P t z))
  | none=>false)
 | none=>false
def aHM (P:Program) (e:Nat):Bool:=OV P e
def okB (P:Program) (t:Nat):Bool:=OV P t&&match P.underlying t with
 | some (.int _) | some .bool | some .string | some (.pointer _) | some (.interface _) | some (.map _ _)=>Ap (oK P t) 1
 | some (.struct fs)=>fsB P fs.toList
 | some (.array _ e)=>GK P e
 | some (.slice e)=>Ap (oK P t) 1&&aHM P e
 | some _=>true
 | none=>false
theorem QC (P:Program):∀ (l:List Field),fsB P l=true->mP P l (aFN P l)
 | [],_=>trivial
 | f::r,h=>by
  simp only [fsB,Af,GK] at h
  obtain ⟨⟨h1,a⟩,h3⟩:=h
  obtain ⟨i,b⟩:=Cx.1 h1
  exact ⟨rfl,by simp [oK,b],a,rfl,QC P r h3⟩
theorem yE {P:Program} {t:Nat} (h:OV P t=true):∃ i z,P.info? t=some i/\i.zero=some z/\z.cells.size=i.size/\z.cells.toList.all (·.oneCell')=true/\zT P t z≠ .undef:=by
 unfold OV at h
 split at h
 .rename_i i b
  split at h
  .rename_i z hz
   simp only [Af] at h
   obtain ⟨h1,a,h3⟩:=h
   exact ⟨i,z,b,hz,aB h1,a,xO h3⟩
  .cases h
 .cases h
theorem aCI {P:Program} {t:Nat} (h:okB P t=true):TIOK P t (aCJ P t):=by
 simp only [okB,Af] at h
 obtain ⟨u,h1⟩:=h
 obtain ⟨i,z,g,hz,hs,f,m⟩:=yE u
 have hm:aCJ P t=⟨GB P t,i.size,aP P t,zT P t z⟩:=by simp [aCJ,g,hz]
 have hst:oK P t=i.size:=by simp [oK,g]
 rw [hm]
 refine ⟨⟨i,z,g,rfl,hz,hs,aEO,f,m⟩,?_⟩
 show sD P t (aP P t) i.size (GB P t)
 unfold GB
 have b:∀ d,P.underlying t=some d->aP P t=match d with | .struct _ | .array _ _=>true | _=>false:=fun d q=>by unfold aP;rw [q];cases d<;>rfl
 split at h1
 .rename_i k a;rw [a];exact ⟨a,b _ a,by rw [<-hst];exact aB h1⟩
 .rename_i a;rw [a];exact ⟨a,b _ a,by rw [<-hst];exact aB h1⟩
 .rename_i a;rw [a];exact ⟨a,b _ a,by rw [<-hst];exact aB h1⟩
 .rename_i e a;rw [a];exact ⟨a,b _ a,by rw [<-hst];exact aB h1⟩
 .rename_i p a;rw [a];exact ⟨⟨p,a⟩,b _ a,by rw [<-hst];exact aB h1⟩
 .rename_i mk D a;rw [a];exact ⟨a,b _ a,by rw [<-hst];exact aB h1⟩
 .rename_i r a;rw [a];exact ⟨⟨r,a,QC P _ h1⟩,b _ a⟩
 .rename_i n e a
  rw [a]
  simp only [GK,Af] at h1
  obtain ⟨j,c⟩:=Cx.1 h1.1
  exact ⟨⟨e,a,by simp [oK,c],h1.2,rfl⟩,b _ a⟩
 .rename_i e a
  rw [a]
  simp only [Af] at h1
  obtain ⟨j,y,c,s,o,l,_⟩:=yE h1.2
  exact ⟨⟨a,j,y,c,by simp [oK,c],by simp [c],s,by simp [oK,c,o],l⟩,b _ a,by rw [<-hst];exact aB h1.1⟩
 .rename_i d w C v B A G H F I a
  rw [a]
  have q:∀ (α:Type) (x y:α),True:=fun _ _ _=>trivial
  cases d<;>first
   | exact ⟨⟨_,a,fun p e=>by cases e⟩,rfl⟩
   | (exfalso;simp_all;done)
 .cases h1
def QB (P:Program):List Nat->Tab
 | []=>[]
 | t::r=>(t,aCJ P t)::QB P r
def aBt (P:Program):List Nat->Bool
 | []=>true
 | t::r=>okB P t&&aBt P r
def ZE:Tab->List Nat
 | []=>[]
 | (t,_)::r=>t::ZE r
theorem JV {P:Program}:∀ {l:List Nat},aBt P l=true->∀ t a,cR (QB P l) t=some a->TIOK P t a
 | [],_,t,a,h=>by cases h
 | x::r,hb,t,a,h=>by
  simp only [aBt,Af] at hb
  simp only [QB,cR] at h
  cases b:Ap x t with
  | true=>
   rw [b] at h
   cases h
   rw [<-aB b]
   exact aCI hb.1
  | false=>rw [b] at h;exact JV hb.2 t a h
theorem aE6 {P:Program} {T:Tab} (h1:QB P (ZE T)=T) (b:aBt P (ZE T)=true):∀ t a,cR T t=some a->TIOK P t a:=by
 intro t a h
 rw [<-h1] at h
 exact JV b t a h
theorem nK (fr:List (Nat×AVal)) (t:Nat):∀ (keep:List Nat),aZ (kW keep fr) t=aZ fr t\/aZ (kW keep fr) t= .undef
 | []=>.inr rfl
 | k::r=>by
  simp only [kW,aZ]
  cases h:Ap k t with
  | true=>left;rw [aB h];rfl
  | false=>exact nK fr t r
theorem SS.weak {M0:Imm} {ob0:Hs} {obs0:List AObj} {w0:World} {sz:Nat} {dfs:List (Nat×List AVal)} {fr b:List (Nat×AVal)} {obs:List AObj} {a:Act} {w:World} (c:∀ t,aZ b t=aZ fr t\/aZ b t= .undef) (h:SS M0 ob0 obs0 w0 sz dfs fr obs a w):
  SS M0 ob0 obs0 w0 sz dfs b obs a w:=by
 obtain ⟨M,ob,d,hm,f,r⟩:=h
 refine ⟨M,ob,d,hm,fun t=>?_,r⟩
 rcases c t with e | e
 .rw [e];exact f t
 .rw [e];exact .undef _
theorem dB.weak {E:Env} {fn:Func} {g:Goal} {ks:List KI} {fr b:List (Nat×AVal)} {obs:List AObj} (c:∀ t,aZ b t=aZ fr t\/aZ b t= .undef) (h:dB E fn g ks b obs):dB E fn g ks fr obs:=
 fun d M0 ob0 obs0 w0 a w hst hs=>h d M0 ob0 obs0 w0 a w hst (hs.weak c)
theorem dB.keep {E:Env} {fn:Func} {g:Goal} {ks:List KI} {fr:List (Nat×AVal)} {obs:List AObj} (l:List Nat) (h:dB E fn g ks (kW l fr) obs):dB E fn g ks fr obs:=h.weak fun t=>nK fr t l
theorem To.head {E:Env} {fn:Func} {g:Goal} {ks:List KI} {fr:List (Nat×AVal)} {obs:List AObj} (l:List Nat) (h:To E fn g (.head ks (kW l fr) obs)):To E fn g (.head ks fr obs):=h.rec fun h=>.mk (dB.keep l h)
abbrev C3:=IntKind×Int×Int
def vA (cs:List C3):List Value:=cs.map fun c=>.int c.1 c.2.1
def vB (cs:List C3):List Value:=cs.map fun c=>.int c.1 c.2.2
def nP:List C3->Bool
 | []=>true
 | c::r=>(c.2.1==c.2.2)&&nP r
theorem wP (a b:List C3):nP (a++b)=(nP a&&nP b):=by
 induction a with
 | nil=>simp [nP]
 | cons c r d=>simp [nP,d,Gr]
def kX (P:Program) (t:TypeId) (l:List Value):Value:=if aP P t then .agg l.toArray else l.headD undef
def tW (P:Program) (a:TypeId->Bool):Nat->List Field->Nat->Bool
 | off,[],total=>Ap off total
 | off,f::fs,total=>((f.name != "_")&&Ap f.offset off)&&((a f.type&&(P.info? f.type).isSome)&&tW P a (off+P.cellsOf f.type) fs total)
def eT (P:Program):Nat->TypeId->Bool
 | 0,_=>false
 | m+1,t=>match P.underlying t with
  | some (.int _)=>Ap (P.cellsOf t) 1
  | some (.array n e)=>(eT P m e&&(P.info? e).isSome)&&Ap (P.cellsOf t) (n*P.cellsOf e)
  | some (.struct fs)=>!P.stoodInHeld t&&tW P (eT P m) 0 fs.toList (P.cellsOf t)
  | _=>false
def EqI (P:Program) (d:Nat) (t:TypeId):Prop:=∀ (w:World) (cs:List C3),cs.length=P.cellsOf t->(Op.equalIn d t (kX P t (vA cs)) (kX P t (vB cs))).run P w= .ok (nP cs) w
section
variable {P:Program} (w:World)
theorem nL {m:Nat} {t:TypeId} (h:eT P m t=true):(P.underlying t).isSome=true/\(aP P t=false->P.cellsOf t=1):=by
 cases m with
 | zero=>cases h
 | succ m=>
  unfold eT at h
  unfold aP
  split at h
  .rename_i a;rw [a];exact ⟨rfl,fun _=>aB h⟩
  .rename_i a;rw [a];exact ⟨rfl,fun h=>by cases h⟩
  .rename_i a;rw [a];exact ⟨rfl,fun h=>by cases h⟩
  .cases h
theorem iG {e:TypeId} (f:(P.underlying e).isSome=true) (h:(P.info? e).isSome=true) (h1:aP P e=false->P.cellsOf e=1) (l:List Value) (off:Nat) (d:off+P.cellsOf e<=l.length):
  (part e l.toArray off).run P w= .ok (kX P e ((l.drop off).take (P.cellsOf e))) w:=by
 unfold part
 simp only [Au,uB f,Ai]
 unfold kX
 obtain ⟨i,c⟩:=Cx.1 h
 have b:(P.info? e).map (·.size)=some (P.cellsOf e):=by simp [Program.cellsOf,c]
 cases g:aP P e with
 | true=>
  simp only [if_true,Au,AW.run_sizeOf b,Ai,Bi]
  simp [Ku]
 | false=>
  have j:=h1 g
  have a:off<l.length:=o_
  simp only [Cv,if_false]
  simp only [Mb,Aa a,Bi]
  rw [j]
  congr 1
  rw [Ac a]
  rfl
theorem FB (cs:List C3):(vA cs).length=cs.length:=by simp [vA]
theorem aEQ (cs:List C3):(vB cs).length=cs.length:=by simp [vB]
theorem LV (cs:List C3) (o n:Nat):((vA cs).drop o).take n=vA ((cs.drop o).take n):=by simp [vA,Jp,Jo]
theorem aER (cs:List C3) (o n:Nat):((vB cs).drop o).take n=vB ((cs.drop o).take n):=by simp [vB,Jp,Jo]
theorem IG {d m:Nat} {e:TypeId} (i:eT P m e=true) (g:(P.info? e).isSome=true) (h:EqI P d e) (cs:List C3) (off:Nat) (c:off+P.cellsOf e<=cs.length):
  ∃ a b,(part e (vA cs).toArray off).run P w= .ok a w/\(part e (vB cs).toArray off).run P w= .ok b w/\(Op.equalIn d e a b).run P w= .ok (nP ((cs.drop off).take (P.cellsOf e))) w:=by
 obtain ⟨f,h1⟩:=nL i
 refine ⟨_,_,iG w f g h1 _ _ (by rw [FB];exact c),iG w f g h1 _ _ (by rw [aEQ];exact c),?_⟩
 rw [LV,aER]
 exact h w _ q_
theorem take_add (cs:List C3) (o a b:Nat):(cs.drop o).take (a+b)=(cs.drop o).take a++(cs.drop (o+a)).take b:=by
 rw [List.take_add,Ir]
theorem SF {d m:Nat} {e:TypeId} (r:eT P m e=true) (i:(P.info? e).isSome=true) (o:EqI P d e) (cs:List C3):∀ (n k:Nat),(k+n)*P.cellsOf e<=cs.length->
  (Op.eqItems d e (P.cellsOf e) (vA cs).toArray (vB cs).toArray (Gz k n)).run P w= .ok (nP ((cs.drop (k*P.cellsOf e)).take (n*P.cellsOf e))) w:=by
 intro n
 induction n with
 | zero=>intro k _;simp [Op.eqItems,nP]
 | succ n h=>
  intro k j
  have s:(k+1)*P.cellsOf e<=(k+(n+1))*P.cellsOf e:=Bq _ o_
  have f:(k+1)*P.cellsOf e=k*P.cellsOf e+P.cellsOf e:=by rw [Bv,Gb]
  obtain ⟨a,b,l,q,g⟩:=IG w r i o cs (k*P.cellsOf e) o_
  have c:=h (k+1) (by rw [show k+1+n=k+(n+1) from by omega];exact j)
  have p:(n+1)*P.cellsOf e=P.cellsOf e+n*P.cellsOf e:=by rw [Bv,Gb,Mq]
  rw [p,take_add,wP,<-f]
  simp only [Jh,Op.eqItems,Au,l,q,g,Ai]
  cases nP ((cs.drop (k*P.cellsOf e)).take (P.cellsOf e)) with
  | true=>simpa using c
  | false=>simp
theorem MB {d m:Nat} (n:∀ t,eT P m t=true->EqI P d t) (cs:List C3):∀ (e:List Field) (off:Nat),tW P (eT P m) off e cs.length=true->
  (Op.eqFields d (vA cs).toArray (vB cs).toArray e).run P w= .ok (nP (cs.drop off)) w/\off<=cs.length:=by
 intro e
 induction e with
 | nil=>
  intro off h
  have:=aB h
  subst this
  exact ⟨by simp [Op.eqFields,nP],Bg _⟩
 | cons f e k=>
  intro off h
  simp only [tW,Af] at h
  obtain ⟨⟨h1,u⟩,⟨h3,s⟩,o⟩:=h
  obtain ⟨g,q⟩:=k _ o
  have c:=aB u
  obtain ⟨a,b,l,p,j⟩:=IG w h3 s (n _ h3) cs f.offset o_
  refine ⟨?_,by omega⟩
  have r:cs.drop off=(cs.drop off).take (P.cellsOf f.type)++cs.drop (off+P.cellsOf f.type):=by rw [<-Ir,Dj]
  rw [r,wP]
  have i:f.name≠ "_" :=by simpa using h1
  simp only [Op.eqFields,i,ne_eq,not_false_eq_true,if_true,Au,l,p,j,Ai]
  rw [c] at *
  cases nP ((cs.drop off).take (P.cellsOf f.type)) with
  | true=>simpa using g
  | false=>simp
end
theorem NU {P:Program} (d:Nat):∀ (m:Nat) (t:TypeId),eT P m t=true->EqI P (d+m) t
 | 0,_,h=>by cases h
 | m+1,t,h=>by
  intro w cs c
  have o:∀ t,eT P m t=true->EqI P (d+m) t:=fun t h=>NU d m t h
  unfold eT at h
  split at h
  .rename_i k g
   have f:aP P t=false:=by unfold aP;rw [g]
   have h1:=aB h
   rw [h1] at c
   match cs,c with
   | [(k',a,b)],_=>
    simp only [kX,f,vA,vB,Bk,List.map_nil,List.headD_cons,Cv,if_false,nP,Hc]
    exact run_equalIn_int w (d+m) t k' k a b g
  .rename_i n e g
   simp only [Af] at h
   obtain ⟨⟨h1,l⟩,h3⟩:=h
   have f:aP P t=true:=by unfold aP;rw [g]
   obtain ⟨i,q⟩:=Cx.1 l
   have r:=aB h3
   simp only [kX,f,if_true]
   rw [show d+(m+1)=(d+m)+1 from rfl,run_equalIn_array w (d+m) _ _ g q,Gj,SF w h1 l (o e h1) cs n 0 (by rw [Bp];omega)]
   rw [Hr,Cn,Cf o_]
  .rename_i p g
   simp only [Af,Cm] at h
   obtain ⟨h1,l⟩:=h
   have f:aP P t=true:=by unfold aP;rw [g]
   have j:P.fieldsOf t=p:=by simp [Program.fieldsOf,g]
   simp only [kX,f,if_true]
   rw [<-c] at l
   rw [show d+(m+1)=(d+m)+1 from rfl,run_equalIn_struct w (d+m) t _ _ (by rw [j];exact g) h1,j]
   simpa using (MB w o cs p.toList 0 l).1
  .cases h
theorem aAO:∀ {xs ys:List AVal} {c:Bool} {vs us:List Value},ceq xs ys=some c->cD (fun _ _ _=>False) [] vs xs->cD (fun _ _ _=>False) [] us ys->∃ cs:List C3,vs=vA cs/\us=vB cs/\c=nP cs
 | [],[],c,vs,us,h,h1,h2=>by
  cases h
  have e:vs=[]:=by simpa using h1.1
  have f:us=[]:=by simpa using h2.1
  exact ⟨[],by simp [vA,e],by simp [vB,f],rfl⟩
 | x::xs,y::ys,c,vs,us,h,h1,h2=>by
  cases x<;>first | (simp [ceq] at h;done) | skip
  cases y<;>first | (simp [ceq] at h;done) | skip
  rename_i k a p b
  simp only [ceq] at h
  obtain ⟨m,h3⟩:=dW h
  have:=tH m
  subst this
  cases g:ceq xs ys with
  | none=>rw [g] at h3;cases h3
  | some o=>
   rw [g] at h3
   cases h3
   match vs,us,h1,h2 with
   | v::vs,u::us,h1,h2=>
    have d:=(h1.2 0 v _ rfl rfl).int_inv.1
    have l:=(h2.2 0 u _ rfl rfl).int_inv.1
    subst d l
    obtain ⟨cs,e,f,n⟩:=aAO (vs:=vs) (us:=us) g ⟨by simpa using h1.1,fun i v a d j=>h1.2 (i+1) v a (by simpa using d) (by simpa using j)⟩ ⟨by simpa using h2.1,fun i v a d j=>h2.2 (i+1) v a (by simpa using d) (by simpa using j)⟩
    exact ⟨(k,a,b)::cs,by simp [vA,e],by simp [vB,f],by simp [nP,n]⟩
 | [],_::_,c,vs,us,h,_,_=>by cases h
 | x::_,[],c,vs,us,h,_,_=>by cases x<;>cases h
theorem MC {P:Program} (w:World) {l:Bool} {d m:Nat} (q:∀ (e:TypeId),eT P m e=true->∀ (w:World) (cs:List C3),cs.length=P.cellsOf e->(Gw l d e (kX P e (vA cs))).run P w= .ok () w) (cs:List C3) {e:TypeId} (n:eT P m e=true) (b:(P.info? e).isSome=true):
  ∀ (a:List Nat),(∀ i∈a,(i+1)*P.cellsOf e<=cs.length)->
  (forIn (m:=Sem) a PUnit.unit fun i _=>(do Gw l d e (<-part e (vA cs).toArray (i*(<-sizeOf e)));Pure.pure (ForInStep.yield PUnit.unit))).run P w= .ok PUnit.unit w:=by
 intro a
 obtain ⟨s,c⟩:=Cx.1 b
 have f:(P.info? e).map (·.size)=some (P.cellsOf e):=by simp [Program.cellsOf,c]
 obtain ⟨o,h1⟩:=nL n
 induction a with
 | nil=>intro _;simp
 | cons j a p=>
  intro h
  have g:=h j s_
  rw [Bv,Gb] at g
  have k:=iG w o b h1 (vA cs) (j*P.cellsOf e) (by rw [FB];exact g)
  rw [LV] at k
  have r:=q e n w ((cs.drop (j*P.cellsOf e)).take (P.cellsOf e)) q_
  simp only [List.forIn_cons,Au,AW.run_sizeOf f,Ai,k,r,Bi]
  exact p fun i b=>h i (by simp [b])
theorem aAL {P:Program} (z:Bool) (d:Nat):∀ (m:Nat) (t:TypeId),eT P m t=true->∀ (w:World) (cs:List C3),cs.length=P.cellsOf t->(Gw z (d+m) t (kX P t (vA cs))).run P w= .ok () w
 | 0,_,h=>by cases h
 | m+1,t,h=>by
  intro w cs c
  have C:=aAL (P:=P) z d m
  unfold eT at h
  rw [show d+(m+1)=(d+m)+1 from rfl,Gw]
  split at h
  .rename_i k j
   have g:aP P t=false:=by unfold aP;rw [j]
   have h1:=aB h
   rw [h1] at c
   match cs,c with
   | [(k',a,b)],_=>
    simp [kX,g,vA,run_underlying j]
  .rename_i n e j
   simp only [Af] at h
   obtain ⟨⟨h1,o⟩,h3⟩:=h
   have g:aP P t=true:=by unfold aP;rw [j]
   have N:=aB h3
   simp only [kX,g,if_true,Au,run_underlying j,Ai]
   simp only [Std.Legacy.Range.forIn_eq_forIn_range',Std.Legacy.Range.size,Hu,Nat.add_one_sub_one,Jt]
   have:=MC w C cs h1 o (Gz 0 n) (fun i F=>by
    have:i<n:=by simpa using F
    have:(i+1)*P.cellsOf e<=n*P.cellsOf e:=Bq _ this
    omega)
   simp at this⊢
   rw [this]
   rfl
  .rename_i D j
   simp only [Af,Cm] at h
   obtain ⟨h1,o⟩:=h
   have g:aP P t=true:=by unfold aP;rw [j]
   simp only [kX,g,if_true,Au,run_underlying j,Ai]
   rw [<-Array.forIn_toList]
   rw [<-c] at o
   have key:∀ (L:List Field) (off:Nat),tW P (eT P m) off L cs.length=true→off≤cs.length∧∀ f∈L,f.name≠ "_" ∧eT P m f.type=true∧(P.info? f.type).isSome=true∧f.offset+P.cellsOf f.type≤cs.length:=by
    intro L
    induction L with
    | nil=>
     intro off h
     have:=aB h
     exact ⟨by omega,fun f M=>by cases M⟩
    | cons f L r=>
     intro off h
     simp only [tW,Af] at h
     obtain ⟨⟨s,p⟩,⟨x,u⟩,G⟩:=h
     obtain ⟨O,I⟩:=r _ G
     have A:=aB p
     refine ⟨by omega,fun H l=>?_⟩
     rcases Ao.1 l with rfl | l
     .exact ⟨by simpa using s,x,u,by omega⟩
     .exact I H l
   have each:=(key D.toList 0 o).2
   clear key o
   generalize D.toList=L at each
   induction L with
   | nil=>simp
   | cons f L r=>
    obtain ⟨s,p,x,u⟩:=each f s_
    obtain ⟨q,v⟩:=nL p
    have B:=iG w q x v (vA cs) f.offset (by rw [FB];exact u)
    rw [LV] at B
    have J:=C f.type p w ((cs.drop f.offset).take (P.cellsOf f.type)) q_
    simp only [List.forIn_cons,Au,s,ne_eq,not_false_eq_true,if_true,Ai,B,J,Bi]
    exact r fun y K=>each y (by simp [K])
  .cases h
theorem aFV (a b:List Int) (h:a.length=b.length):∃ cs:List C3,cs.length=a.length/\fA true a= .agg (vA cs).toArray/\fA true b= .agg (vB cs).toArray/\nP cs=decide (a=b):=by
 refine ⟨(a.zip b).map fun p=>(.i64,p.1,p.2),by simp;omega,?_,?_,?_⟩
 .simp only [fA,vA,if_true,Dm]
  congr 2
  have:(a.zip b).map Lh=a:=List.map_fst_zip o_
  conv=>lhs;rw [<-this]
  simp [Mr]
 .simp only [fA,vB,if_true,Dm]
  congr 2
  have:(a.zip b).map Prod.snd=b:=List.map_snd_zip o_
  conv=>lhs;rw [<-this]
  simp [Mr]
 .induction a generalizing b with
  | nil=>
   cases b with
   | nil=>rfl
   | cons y b=>cases h
  | cons x a d=>
   cases b with
   | nil=>cases h
   | cons y b=>
    simp only [List.zip_cons_cons,Bk,nP]
    rw [d b (by simpa using h)]
    by_cases c:x=y
    .subst c;simp
    .simp [c]
def Z7 (P:Program) (t n:Nat):Bool:=(aP P t&&eT P 8 t)&&(!P.eqGuardType P.depth t&&Ap (P.cellsOf t) n)
theorem Z6 {P:Program} {t n:Nat} (h:Z7 P t n=true):OS P t n:=by
 simp only [Z7,Af,Cm] at h
 obtain ⟨⟨h1,d⟩,h3,p⟩:=h
 have s:=aB p
 refine And.symm ⟨fun w a b v r=>?_,?_⟩
 .obtain ⟨cs,u,k,m,o⟩:=aFV a b o_
  have e:=NU 9992 8 t d w cs o_
  have g:=fun q=>aAL q 9992 8 t d w cs o_
  simp only [kX,h1,if_true] at e g
  rw [k,m,<-o]
  exact ⟨e,g⟩
 intro w x y xs ys vs us c l i f j
 obtain ⟨cs,rfl,rfl,rfl⟩:=aAO l f j
 refine ⟨fun op=>run_eqGuard_agg w op t x y _ _ h3,?_⟩
 have hl:cs.length=P.cellsOf t:=by
  have:=f.1
  rw [FB] at this
  omega
 have:=NU 9992 8 t d w cs hl
 simp only [kX,h1,if_true] at this
 exact this
def NP (P:Program):List (Nat×Nat)->Bool
 | []=>true
 | (t,n)::r=>Z7 P t n&&NP P r
theorem KL {P:Program}:∀ {l:List (Nat×Nat)},NP P l=true->∀ t,0<xB l t->OS P t (xB l t)
 | [],_,t,h=>by cases h
 | (i,n)::r,hb,t,h=>by
  simp only [NP,Af] at hb
  simp only [xB] at h⊢
  cases a:Ap i t with
  | true=>
   rw [a] at h
   rw [<-aB a]
   exact Z6 hb.1
  | false=>rw [a] at h;exact KL hb.2 t h
def wQ (P:Program) (mt:aA5):Prop:=∀ t a g,Y2 mt t a=some g->∀ v w,(method (P.types.size+Made.depth) t v a).run P w= .ok (g,v) w
theorem wQ.nil {P:Program}:wQ P []:=fun t a g h=>by cases h
theorem wQ.cons {P:Program} {i f:Nat} {s:String} {mt:aA5} (h:∀ v w,(method (P.types.size+Made.depth) i v s).run P w= .ok (f,v) w) (k:wQ P mt):wQ P ((i,s,f)::mt):=by
 intro t a g b
 simp only [Y2] at b
 cases c:(Ap i t&&s==a) with
 | false=>rw [c] at b;exact k t a g b
 | true=>
  rw [c] at b
  cases b
  obtain ⟨h1,d⟩:=aS c
  have h1:=aB h1
  have d:s=a:=by simpa using d
  subst h1 d
  exact h
section
variable {E:Env} {fn:Func} {g:Goal} {M0:Imm} {ob0:Hs} {obs0:List AObj} {w0:World} {sz:Nat} {dfs:List (Nat×List AVal)} {fr:List (Nat×AVal)} {obs:List AObj} {a:Act} {w:World}
end
def strip:Nat->AVal->AVal
 | 0,v=>v
 | n+1,v=>match v with
  | .slice sz xs _=>.slice sz xs .no
  | .agg cs=>.agg (dK (strip n) cs)
  | .tup cs=>.tup (dK (strip n) cs)
  | .iface t v=>.iface t (strip n v)
  | v=>v
theorem qA {M:Imm} {ob:Hs}:∀ (n:Nat) {v:Value} {a:AVal},Rep M ob v a->Rep M ob v (strip n a):=by
 intro n
 induction n with
 | zero=>intro v a h;exact h
 | succ n p=>
  intro v a h
  cases h with
  | agg vs as hl d=>
   obtain ⟨h1,m⟩:=bU (fun v a=>p) hl d
   exact .agg vs _ h1 m
  | tup vs as hl d=>
   obtain ⟨h1,m⟩:=bU (fun v a=>p) hl d
   exact .tup vs _ h1 m
  | iface t v a d=>exact .iface t v _ (p d)
  | slnil sz t q=>exact .slnil sz .no trivial
  | slemp sz t a f q=>exact .slemp sz .no a f trivial
  | sl sz b o n f xs t j e hm hz d q=>exact .sl sz b o n f xs .no j e hm hz d trivial
  | undef v=>exact .undef v
  | bool b=>exact .bool b
  | int k n d=>exact .int k n d
  | str l hl=>exact .str l hl
  | ptr b o cs h=>exact .ptr b o cs h
  | ref k off b h=>exact .ref k off b h
  | eref k g i sz off b n c h=>exact .eref k g i sz off b n c h
  | csl k off len sz b h hm=>exact .csl k off len sz b h hm
  | row k g a n c h=>exact .row k g a n c h
  | sub k g lo len sz b n c h hl j e hm=>exact .sub k g lo len sz b n c h hl j e hm
  | sub0 k g lo sz a s n c h hl e=>exact .sub0 k g lo sz a s n c h hl e
  | rowc k g c a n h hm=>exact .rowc k g c a n h hm
  | pre k g n c sz b len h e j hl hm=>exact .pre k g n c sz b len h e j hl hm
  | mref k b h=>exact .mref k b h
  | nilptr=>exact .nilptr
  | nilslice=>exact .nilslice
  | nilmap=>exact .nilmap
  | nilfunc=>exact .nilfunc
  | nilif=>exact .nilif
  | hsl a n c=>exact .hsl a n c
  | func fn u cs r w x e h1 m=>exact .func fn u cs r w x e h1 m
theorem aA.strip {P:Program} {f:FuncId} {args:List AVal} {obs obs':List AObj} {r:Res} (h:aA P f (dK (strip 5) args) obs r obs'):aA P f args obs r obs':=
 fun M ob w b hm c=>h M ob w b hm (by
  obtain ⟨h1,d⟩:=bU (M':=M) (ob':=ob) (fun v a=>qA (M:=M) (ob:=ob) 5) c.1 c.2
  exact ⟨h1,d⟩)
def UW (n:Nat):List (Nat×List AVal)->Bool
 | []=>true
 | (_,l)::r=>B8 (bel n 5) l&&UW n r
theorem LN {n:Nat}:∀ {l:List (Nat×List AVal)},UW n l=true->∀ (i:Nat) x,l[i]? =some x->B8 (bel n 5) x.2=true
 | [],_,i,x,h=>by simp at h
 | (f,y)::r,hb,i,x,h=>by
  simp only [UW,Af] at hb
  cases i with
  | zero=>simp at h;subst h;exact hb.1
  | succ i=>exact LN hb.2 i x (by simpa using h)
theorem aAT {w0 w:World} {M:Imm} {ob:Hs} {n:Nat} {f:List Deferred} {dfs:List (Nat×List AVal)} (h:cQ w0 w M ob f dfs) (k:UW n dfs=true):cQ w0 w M (ob.take n) f dfs:=
 let ⟨d1,d2,e,h,h2⟩:=h
 ⟨d1,d2,e,⟨h.1,fun i d x c b=>⟨(h.2 i d x c b).1,(h.2 i d x c b).2.1,fun j v a l g=>xY 5 ((h.2 i d x c b).2.2 j v a l g) (kK (LN k i x b) j a g)⟩⟩,h2⟩
theorem To.cut {E:Env} {fn:Func} {g:Goal} {ks:List KI} {fr:List (Nat×AVal)} {obs:List AObj} (l:List Nat) (n:Nat) (x:Ew g.n0 n=true) (A:aAS n (kW l fr)=true) (m:CZ n (lV n obs)=true) (z:UW n E.df=true)
  (h:To E fn g (.head ks (kW l fr) (lV n obs))):To E fn g (.head ks fr obs):=
 .mk fun i M0 ob0 obs0 w0 a w hst hs=>by
  refine h.rec fun h=>h i M0 ob0 obs0 w0 a w hst ?_
  obtain ⟨M,ob,c,hm,f,u,s,B⟩:=hs
  rw [zZ] at m⊢
  obtain ⟨p,y⟩:=hm.cutO m
  have C:ob0.length<=n:=by rw [hst.1];exact Ca x
  refine ⟨M,ob.take n,⟨c.imm,c.new,fun k hs j=>?_,c.os,c.tape,c.output,c.size,c.keep,fun k b v=>c.fresh k b (y v)⟩,p,fun t=>?_,u,aAT s z,by simp;omega⟩
  .obtain ⟨hs',o,r⟩:=c.hs k hs j
   have d:k<n:=by have:=(Ab.1 j).1;omega
   exact ⟨hs',by rw [Bl d];exact o,r⟩
  .rcases LM A t with q | q
   .rcases nK fr t l with e | e
    .rw [e] at q⊢
     exact xY 5 (f t) q
    .rw [e];exact .undef _
   .rw [q];exact .undef _
open Go.RowKit Go.ChangeShapes Go.WideShapes Go.ChangeAt
theorem OI {P:Program} {f:FuncId} {args:List AVal} {a:List Value} {w:World} {M:Imm} (b:pV P f) (h:aA P f args [] (.ret (.bool true)) []) (hm:Mem M [] [] w) (c:cD M [] a args):
  Calls P f a.toArray w fun e w'=>e= .returned (.bool true)/\Below w.heap.size w w':=by
 rcases h M [] w a hm c with ⟨_,h⟩ | ⟨u,w',h,_⟩
 .refine h.mono fun e w' ⟨M',ob',h1,g,h3⟩=>⟨?_,h1.below⟩
  cases e with
  | returned v=>rw [Rep.bool_inv h3]
  | panicked d=>exact h3.elim
  | outgrown=>exact h3.elim
 .rw [b] at h
  cases h
section
variable {P:Program} {w:World} {r:Reach} {base:Nat} {t:TypeId} {v:Value}
theorem QN {k:IntKind} {n:Int} (h:k.has n):inR k n:=by
 cases k<;>simpa [IntKind.has,IntKind.min,IntKind.max,IntKind.signed,IntKind.bits,inR,cL,bI] using h
theorem YL (a:aP P t=false) (h:Ki P w r base t v):Cell.okWide P w r base t v:=by
 unfold Ki at h
 unfold aP at a
 split at h
 .rename_i b;rw [b] at a;cases a
 .rename_i b;rw [b] at a;cases a
 .exact h
theorem aG8 {M:Imm} {ob:Hs} {v:Value} {a:AVal} (h:Rep M ob v a) {vs:List Value} {as:List AVal} (hs:cD M ob vs as):cD M ob (v::vs) (a::as):=cD.cons h hs
theorem aG9 {M:Imm} {ob:Hs}:cD M ob [] []:=⟨rfl,fun i v a h=>by simp at h⟩
end
theorem aIu {args:Array Value} (h:args.toList.length=1):∃ a,args= #[a]:=by
 obtain ⟨l⟩:=args
 match l,h with
 | [a],_=>exact ⟨a,rfl⟩
section
variable {H:Type} {enc:TypeId×Value->H} {P:Program}
def PX (P:Program):List TypeId->Bool
 | []=>true
 | t::ts=>(P.readableRec t&&decide (t<P.types.size))&&PX P ts
theorem CJ (hl:laidOutB P=true) {W j:World} (m:Below W.heap.size W j):∀ {a:List TypeId} {vs:List Value} {g:List (DataW H)} {c:List MemPlace},PX P a=true->(∀ x∈c,x.block<W.heap.size)->
  DataW.TrodAll enc P W 0 (fun _=>true) true a vs g c->DataW.TrodAll enc P j 0 (fun b=>decide (b<W.heap.size)) true a vs g c:=by
 intro a
 induction a with
 | nil=>
  intro vs g c _ _ h
  obtain ⟨rfl,rfl,rfl⟩:=trodAll_nil h
  exact trodAll_mk0
 | cons t a k=>
  intro vs g c f e h
  simp only [PX,Af,decide_eq_true_eq] at f
  obtain ⟨v,l,d,n,p,q,rfl,rfl,rfl,o,h1⟩:=trodAll_cons h
  exact trodAll_cons_mk (Below.trod hl f.1.1 f.1.2 o m fun x i=>e x (by simp [i])) (k f.2 (fun x i=>e x (by simp [i])) h1)
theorem vT {W:World}:∀ {c:List TypeId} {vs:List Value} {e:List (DataW H)} {f:List MemPlace},DataW.TrodAll enc P W 0 (fun _=>true) true c vs e f->vs.length=c.length/\e.length=c.length:=by
 intro c
 induction c with
 | nil=>
  intro vs e f h
  obtain ⟨rfl,rfl,rfl⟩:=trodAll_nil h
  exact ⟨rfl,rfl⟩
 | cons t c g=>
  intro vs e f h
  obtain ⟨v,i,d,j,p,q,rfl,rfl,rfl,k,h1⟩:=trodAll_cons h
  obtain ⟨a,b⟩:=g h1
  exact ⟨by simp [a],by simp [b]⟩
theorem S7 {fn:Func} {s:ChangeSpec} {W m:World} {args:Array Value} {b o:List (DataW H)} {pO:List MemPlace} {l:TypeId} (hl:laidOutB P=true) (w:PX P fn.params.toList=true) (i:s.vars=[])
  (e:fn.resultTypes= #[l]) (r:P.underlying l=some .bool) (f:DataW.Whole enc P fn.params.toList s.vars false W args.toList b o pO) (a:Below W.heap.size W m)
  (c:b.length=fn.params.toList.length->(s.fn H b).results=[.lit (.bool true)]/\(s.fn H b).args=b/\(s.fn H b).vars=[]):s.post enc P fn false true false false W args (.bool true) m:=by
 have d:=f.lt
 have g:=f
 obtain ⟨p,q,k,j,rfl,u,n⟩:=f
 rw [i] at j
 obtain ⟨rfl,rfl⟩:=trodVars_none j
 obtain ⟨y,t,z⟩:=c (vT k).2
 refine ⟨b,[],_,[],p,[],g,?_,?_,?_,a.frame _,fun h=>by cases h⟩
 .rw [Bo,y,e]
  exact trodAll_cons_mk (shut_bool r _) trodAll_mk0
 .rw [Bo,t]
  exact CJ hl a w (fun x v=>d x (by simp [v])) k
 .rw [Bo,z,i]
  exact rfl
end
inductive RepW (w:World):Value->AVal->Prop
 | bool (b):RepW w (.bool b) (.bool b)
 | int (k n) (h:inR k n):RepW w (.int k n) (.int k n)
 | str (l:List UInt8) (h:(l.length:Int)<=9223372036854775807):RepW w (.string ⟨l.toArray⟩) (.str l)
 | nilslice (sz:Nat):RepW w (.slice none 0 0) (.slice sz [] .no)
 | emptys (sz:Nat) (a:Addr) (cap:Nat):RepW w (.slice (some a) 0 cap) (.slice sz [] .no)
 | slice (sz b o n cap:Nat) (xs:List AVal) (us:Nat->Nat->Value) (hn:xs.length=n) (hc:n<=cap) (hm:(n:Int)<=9223372036854775807) (hz:∀ x∈xs,x.cells.length=sz)
   (h1:∀ (i j:Nat) x c,xs[i]? =some x->x.cells[j]? =some c->w.cell? ⟨b,o+i*sz+j,none⟩=some (us i j)) (h2:∀ (i j:Nat) x c,xs[i]? =some x->x.cells[j]? =some c->(us i j).oneCell'=true)
   (h3:∀ (i j:Nat) x c,xs[i]? =some x->x.cells[j]? =some c->RepW w (us i j) c):RepW w (.slice (some ⟨b,o,none⟩) n cap) (.slice sz xs .no)
def Mw (w:World):Imm:=fun b o x=>∃ v,w.cell? ⟨b,o,none⟩=some v/\v.oneCell'=true/\RepW w v x
theorem RepW.rep {w:World} {v:Value} {a:AVal} (h:RepW w v a):Rep (Mw w) [] v a:=by
 cases h with
 | bool b=>exact .bool b
 | int k n h=>exact .int k n h
 | str l h=>exact .str l h
 | nilslice sz=>exact .slnil sz .no trivial
 | emptys _ a d=>exact .slemp _ _ _ _ trivial
 | slice sz b o n d xs us m g hm hz h1 p h3=>exact .sl sz b o n d xs .no m g hm hz (fun i j x c f e=>⟨us i j,h1 i j x c f e,p i j x c f e,h3 i j x c f e⟩) trivial
theorem aIn (w:World):Mem (Mw w) [] [] w where
 imm:=fun b o x ⟨v,h1,h2,h3⟩=>⟨v,h1,h2,h3.rep⟩
 len:=rfl
 obj k c h:=by simp at h
 lt k b h:=by obtain ⟨c,hs,e,_⟩:=h;simp at e
 inj k k' b h:=by obtain ⟨c,hs,e,_⟩:=h;simp at e
def TyF (T:TypeId->List AVal->Prop):List Field->List AVal->Prop
 | [],cs=>cs=[]
 | f::fs,cs=>∃ a b,cs=a++b/\T f.type a/\TyF T fs b
theorem RepW.one {w:World} {v:Value} {a:AVal} (h:RepW w v a):v.oneCell'=true:=by cases h<;>rfl
def fF (w:World) (cs:List Value) (as:List AVal):Prop:=cs.length=as.length/\∀ (i:Nat) v a,cs[i]? =some v->as[i]? =some a->RepW w v a
theorem fF.append {w:World} {vs us:List Value} {as bs:List AVal} (h:fF w vs as) (k:fF w us bs):fF w (vs++us) (as++bs):=by
 refine ⟨by simp [h.1,k.1],fun i v a b c=>?_⟩
 by_cases d:i<vs.length
 .rw [Ag d] at b
  rw [Ag (by rw [<-h.1];exact d)] at c
  exact h.2 i v a b c
 .rw [Ak o_] at b
  rw [Ak (by rw [<-h.1];omega),<-h.1] at c
  exact k.2 _ v a b c
theorem fF.single {w:World} {v:Value} {a:AVal} (h:RepW w v a):fF w [v] [a]:=
 ⟨rfl,fun i u b c d=>by cases i with | zero=>simp at c d;subst c d;exact h | succ i=>simp at c⟩
theorem fF.nil {w:World}:fF w [] []:=⟨rfl,fun i v a h=>by simp at h⟩
def FG (P:Program) (a:TypeId->Bool):Nat->List Field->Nat->Bool
 | off,[],total=>Ap off total
 | off,f::fs,total=>(Ap f.offset off&&a f.type)&&FG P a (off+P.cellsOf f.type) fs total
def nS (P:Program):Nat->TypeId->Bool
 | 0,_=>false
 | n+1,t=>match P.underlying t with
  | some .bool=>true
  | some (.int _)=>true
  | some .string=>true
  | some (.struct fs)=>FG P (nS P n) 0 fs.toList (P.cellsOf t)
  | some (.array m e)=>nS P n e&&Ap (P.cellsOf t) (m*P.cellsOf e)
  | some (.slice e)=>nS P n e&&Dy 0 (P.cellsOf e)
  | _=>false
section
variable {H:Type} {enc:TypeId×Value->H} {P:Program} {w:World} {base:Nat} {spare:Nat->Bool} {held:Bool}
theorem TH {r:Reach} {d:Nat} {t e:TypeId} {v:Value} (b:P.underlying t=some (.slice e)) (h:Cell.okWide P w r d t v):∃ a n c,v= .slice a n c:=by
 unfold Cell.okWide at h
 rw [b] at h
 unfold Cell.ok at h
 rw [b] at h
 cases v<;>simp at h
 exact ⟨_,_,_,rfl⟩
end
def yD (M:Imm) (ob:Hs) (u:FrameMode):Option AVal->Prop
 | none=>u= .returning
 | some v=>∃ x,u= .panicking [{v:=x,recovered:=false}]/\Rep M ob x v
def wS (P:Program) (f:FuncId) (args:List AVal) (obs:List AObj) (p:Option AVal) (obs':List AObj):Prop:=
 ∀ M ob w a u,Mem M ob obs w->cD M ob a args->yD M ob u p->
  (callFunc f a.toArray).run P w= .ok (.enter f a.toArray) w/\
   CallsD P f a.toArray u w fun e b w'=>∃ v M' ob',e= .returned v/\settle b= .returning/\Ext M ob obs w M' ob' obs' w'/\Mem M' ob' obs' w'
section
variable {P:Program}
theorem II {o:Oper} {b:Array TypeId} {ρ:Operand->Value} {w:World} (c:o.op= .call {callee:=.builtin .recover,args:= #[],argTypes:=b}):(execOp ρ o).run P w= .ok .recover w:=by
 obtain ⟨dst,op,ty,pos,a,d⟩:=o
 subst c
 rfl
theorem FV {M:Imm} {ob:Hs} {u:FrameMode} {p:Option AVal} (h:yD M ob u p) (c:Frame) (cs:List Frame) (b:c.mode=u):
  ∃ v d,Rep M ob v (match p with | none=>.nilif | some a=>a)/\settle d= .returning/\
   ((recoverD (c::cs)=some (v,{c with mode:=d}::cs))\/(recoverD (c::cs)=none/\v= .nilIface/\({c with mode:=d}:Frame)=c)):=by
 cases p with
 | none=>
  have h:u= .returning:=h
  subst h
  refine ⟨.nilIface,.returning,.nilif,rfl,.inr ⟨by simp [recoverD,b],rfl,?_⟩⟩
  rw [<-b]
 | some a=>
  obtain ⟨x,rfl,e⟩:=h
  refine ⟨x,.panicking [{v:=x,recovered:=true}],e,rfl,.inl ?_⟩
  simp [recoverD,b]
end
def CC:Code->Code
 | .seq _ b=>b
 | c=>c
def aFt:Code->Bool
 | .seq (.region _ ops false) _=>(match ops.toList with
  | [o]=>(match o.op with
   | .call c=>(match c.callee with | .builtin .recover=>c.args.toList.isEmpty&&o.guard.isNone&&o.dst.isSome | _=>false)
   | _=>false)
  | _=>false)
 | _=>false
def SX:Code->Nat
 | .seq (.region _ ops _) _=>(match ops.toList with | [o]=>o.dst.getD 0 | _=>0)
 | _=>0
theorem SZ {c:Code} (h:aFt c=true):∃ id o b rest,c= .seq (.region id #[o] false) rest/\o.op= .call {callee:=.builtin .recover,args:= #[],argTypes:=b}/\o.guard=none/\o.dst=some (SX c)/\CC c=rest:=by
 unfold aFt at h
 split at h
 .rename_i id ops rest
  split at h
  .rename_i o i
   split at h
   .rename_i m g
    split at h
    .rename_i a
     simp only [Af] at h
     obtain ⟨⟨h1,k⟩,h3⟩:=h
     obtain ⟨f,as,b⟩:=m
     have a:f= .builtin .recover:=a
     subst a
     have e:ops= #[o]:=by cases ops;simp at i;simp [i]
     subst e
     have l:as= #[]:=by cases as;simp at h1;simp [h1]
     subst l
     obtain ⟨d,j⟩:=Cx.1 h3
     refine ⟨id,o,b,rest,rfl,g,by simpa using k,?_,rfl⟩
     simp [SX,j]
    .cases h
   .cases h
  .cases h
 .cases h
theorem wS.of {E:Env} {f:FuncId} {fn:Func} {args:List AVal} {obs:List AObj} {n0:Nat} {r:AVal} {obs':List AObj} {p:Option AVal} (hdf:E.df=[]) (Z:E.P.funcs[f]? =some fn) (hb:fn.body=some (dA fn)) (hbo:pV E.P f)
  (K:aFt (dA fn)=true) (S:cZ fn.ntmps (CC (dA fn))=true) (hn:Ew args.length fn.ntmps=true) (Y:Dy (SX (dA fn)) fn.ntmps=true) (hsb:rT obs=true) (hg:obs.length=n0)
  (h:okL args->To E fn (.full n0 (.ret r) obs') (.code [.code (CC (dA fn))] (eZ (frA 0 args) (SX (dA fn)) (match p with | none=>.nilif | some a=>a)) obs)) (z:E.rd=none:=by rfl):wS E.P f args obs p obs':=by
 intro M ob w g u hm hr G
 refine ⟨hbo _ _,?_⟩
 obtain ⟨id,o,ats,rest,hc,hop,hgd,U,O⟩:=SZ K
 rw [O] at h S
 have hlen:g.length=args.length:=hr.1
 have hle:=Ca hn
 have htl:SX (dA fn)<fn.ntmps:=by simpa [Fe] using Y
 generalize htt:SX (dA fn)=t at *
 have hst:nW (.full n0 (.ret r) obs') ob:=by
  refine ⟨by rw [hm.len,hg];rfl,fun _ hs W=>?_⟩
  obtain ⟨k,C⟩:=Cp W
  have R:k<obs.length:=by rw [<-hm.len];exact (Ab.1 C).1
  obtain ⟨h1,h2⟩:=rS hsb k _ (Aa R)
  have e:=fJ (Aa R)
  have:=hm.histLen (by rw [e];exact h1) C
  rw [e,h2] at this
  exact this
 intro c cs hu
 obtain ⟨v,y,X,L,D⟩:=FV G c cs hu
 let b:Frame:={(default:Frame) with fn:=f,kind:=.deferred}
 let a:Act:={tmps:=g.toArray++Fi (fn.ntmps-g.toArray.size) undef,defers:=[]}
 have N:a.tmps.size=fn.ntmps:=by simp [a];omega
 have A:Frame.enter E.P f g.toArray .deferred=b.at a [.code (.seq (.region id #[o] false) rest)]:=by
  simp [Frame.enter,Frame.at,Z,hb,hc,b,a]
 have ha:∀ t,Rep M ob (a.tmps.getD t undef) (aZ (frA 0 args) t):=fun t=>by
  rw [A6]
  simp only [Bt,if_true,Hu]
  by_cases Y:t<args.length
  .rw [Aa Y]
   have X:t<g.length:=o_
   have:a.tmps.getD t undef=g[t]:=by
    show (g.toArray++Fi (fn.ntmps-g.toArray.size) undef).getD t undef=_
    rw [Bd,Hq (by simpa using X)]
    simp [X]
   rw [this]
   exact hr.2 t _ _ (Aa X) (Aa Y)
  .rw [Bj o_]
   exact .undef _
 -- the region of recover
 have T:=wp_opsS (P:=E.P) (ops:= #[o]) (Q:=fun e a' cs' w'=>e= .normal/\a'=a.put o.dst v/\cs'={c with mode:=y}::cs/\w'=w) [0] a (c::cs) w (by
  have e0:(#[o]:Array Oper)[0]? =some o:=rfl
  have hw:Dx o (yielded #[o] a.tmps)=true:=by unfold Dx;rw [hgd]
  simp only [wpOpsS,e0,hw,if_true,II hop]
  rcases D with h1 | ⟨h1,rfl,h2⟩
  .rw [h1]
   refine ⟨?_,?_,?_,?_⟩<;>first | trivial | rfl
  .rw [h1]
   refine ⟨?_,?_,?_,?_⟩<;>first | trivial | rfl | rw [h2]) b [.code rest] rfl rfl
 obtain ⟨e1,a1,cs1,B,⟨rfl,rfl,rfl,rfl⟩,H⟩:=T
 -- the rest
 have hkw:KW none E.P (pS E fn M ob obs B (.full n0 (.ret r) obs')) [.code rest] (a.put o.dst v) B:=by
  rw [<-z]
  obtain ⟨hh⟩:=h hr.okL
  refine hh (by simp [bE,KI.ok,S]) M ob obs B _ B hst ⟨M,ob,Ext.refl _ _ _ _,hm,?_,(eI _ _ _).1.trans N,by rw [hdf];exact cQ.put (a:=a) .nil,by rw [hm.len];exact Bg _⟩
  intro s
  have:=lK (d:=some t) ha X (fun d' e=>by cases e;omega) s
  rw [U]
  rwa [show hC (aZ (frA 0 args)) (some t) _ s=aZ (eZ (frA 0 args) t _) s from (congrFun (eR (frA 0 args) (some t) _) s).symm] at this
 obtain ⟨e2,I,w2,m,j⟩:=hkw.arrives b ({c with mode:=y}::cs) rfl
 have i:Steps E.P (lone (b.at a [.code (.seq (.region id #[o] false) rest)]) (c::cs) B) (lone (b.at (a.put o.dst v) [.code rest]) ({c with mode:=y}::cs) B):=
  .head step_seq (.head step_region H)
 have fin:∀ {e:Ending} {w':World},RR M ob obs B (.full n0 (.ret r) obs') e w'->∃ v M' ob',e= .returned v/\settle y= .returning/\Ext M ob obs B M' ob' obs' w'/\Mem M' ob' obs' w':=fun {e w'} ⟨M',ob',x1,x2,x3⟩=>by
  cases e with
  | returned v=>exact ⟨v,M',ob',rfl,L,x1,x2⟩
  | panicked ch=>exact x3.elim
  | outgrown=>exact x3.elim
 rw [A]
 cases e2 with
 | normal=>
  unfold pS CG at m
  rw [z] at m
  obtain ⟨V,x,q,J,hs,_,C,hl⟩:=eO I.defers .returning w2 {b.at I [] with mode:=.returning} ({c with mode:=y}::cs) rfl rfl rfl Z m
  exact ⟨V,y,x,q,fin J,Comes.of_steps (i.trans (Steps.trans j (.one step_end))) hs,C,hl⟩
 | ret=>
  obtain ⟨n,F⟩:=j
  unfold pS CG at m
  rw [z] at m
  obtain ⟨V,x,q,J,hs,_,C,hl⟩:=eO I.defers .returning w2 {b.at I n with mode:=.returning} ({c with mode:=y}::cs) rfl rfl rfl Z m
  exact ⟨V,y,x,q,fin J,Comes.of_steps (i.trans F) hs,C,hl⟩
 | panic dZ=>
  obtain ⟨n,F⟩:=j
  unfold pS at m
  rw [z] at m
  obtain ⟨V,x,q,J,hs,_,C,hl⟩:=eO I.defers (.panicking dZ) w2 {b.at I n with mode:=.panicking dZ} ({c with mode:=y}::cs) rfl rfl rfl Z m
  exact ⟨V,y,x,q,fin J,Comes.of_steps (i.trans F) hs,C,hl⟩
 | exit id=>exact m.elim
 | goto l=>exact m.elim
 | outgrown=>exact m.elim
def aGw (fr:List (Nat×AVal)):List Oper->Option (Nat×List AVal)
 | [p]=>(match p.guard,p.op with
  | none,.defer c=>(match c.callee with
   | .value (.func f)=>some (f,evO (ev fr) c.args.toList)
   | _=>none)
  | _,_=>none)
 | _=>none
theorem NR (ρ:Operand->AVal):∀ (l:List Operand),evO ρ l=l.map ρ
 | []=>rfl
 | x::r=>by simp [evO,NR ρ r]
def Y0 (ks:List Nat) (og:Nat->AObj):Option AVal->Option AVal
 | none=>none
 | some v=>some (cvtV 0 ks og 5 v)
section
variable {E:Env} {fn:Func} {g:Goal}
theorem KF {df:List (Nat×List AVal)} {id:Nat} {ops:Array Oper} {ks:List KI} {fr:List (Nat×AVal)} {obs:List AObj} {f:Nat} {args:List AVal} (k:aGw fr ops.toList=some (f,args))
  (u:df=(f,args)::E.df)
  (z:E.rd=none) (h:dB {E with df:=df} fn g ks (match ops.toList with | [o]=>kO fr o.dst (.tup []) | _=>fr) obs):dB E fn g (.code (.region id ops false)::ks) fr obs:=by
 intro I M0 ob0 obs0 w0 a w hst hs
 simp only [bE,KI.ok,cZ,Af] at I
 obtain ⟨⟨D,_⟩,C⟩:=I
 have n:=qQ D
 unfold aGw at k
 split at k
 .rename_i o m
  split at k
  .rename_i c U q
   split at k
   .rename_i Z l
    cases k
    rw [m] at h n
    dsimp only at h
    refine KW.code (Q':=QR {E with df:=df} fn g M0 ob0 obs0 w0 ks) ?_ (fun a w h=>h) (fun Y a w h=>h) (fun e a w L=>by
     cases e<;>first | exact .inl rfl | exact .inr ⟨_,rfl⟩ | exact L.elim)
    refine wpIn_region_list ?_
    rw [m]
    unfold wpListIn
    have N:Dx o (yielded ops a.tmps)=true:=by unfold Dx;rw [U]
    rw [if_pos N]
    obtain ⟨dst,op,ty,pos,p,T⟩:=o
    have q:op= .defer c:=q
    subst q
    obtain ⟨B,as,F⟩:=c
    have l:B= .value (.func f):=l
    subst l
    have s:(execOp a.eval ⟨dst,.defer ⟨.value (.func f),as,F⟩,ty,pos,p,T⟩).run E.P w= .ok (.defer {target:=.fn (.func f) #[],args:= #[]++as.map a.eval}) w:=rfl
    refine ⟨fun _ _=>trivial,?_⟩
    rw [show (fen E.rd).round=none from z,Oper.semAt_none,s,Oper.uponIn_defer]
    obtain ⟨M,ob,X,Q,G,J,t,S⟩:=hs
    refine h C M0 ob0 obs0 w0 _ w hst ⟨M,ob,X,Q,?_,(eI _ _ _).1.trans J,?_,S⟩
    .rw [eR]
     exact lK (a:={a with defers:={target:=Target.fn (Fn.func f) #[],args:= #[]++Array.map a.eval as}::a.defers}) G uF fun K e=>J▸n _ (Dd.2 rfl) K e
    .rw [u]
     obtain ⟨O,W,V,t,R⟩:=t
     refine cQ.put (a:={a with defers:=_}) ⟨_::O,W,by rw [V];rfl,⟨by simp [t.1],fun i d x k s=>?_⟩,R⟩
     cases i with
     | zero=>
      simp at k s
      subst k s
      refine ⟨rfl,?_,fun j v b A r=>?_⟩
      .simp [NR]
      .rw [NR,Bc] at r
       simp only [Array.empty_append,Hv,Bc] at A
       cases H:as.toList[j]? with
       | none=>rw [H] at r;cases r
       | some y=>
        rw [H] at r A
        cases r
        cases A
        exact BO G y
     | succ i=>exact t.2 i d x (by simpa using k) (by simpa using s)
   .cases k
  .cases k
 .cases k
theorem To.defer (df:List (Nat×List AVal)) {id:Nat} {ops:Array Oper} {ks:List KI} {fr:List (Nat×AVal)} {obs:List AObj} {f:Nat} {args:List AVal} (c:aGw fr ops.toList=some (f,args)) (a:df=(f,args)::E.df)
  (h:To {E with df:=df} fn g (.code ks (match ops.toList with | [o]=>kO fr o.dst (.tup []) | _=>fr) obs)) (b:E.rd=none:=by rfl):To E fn g (.code (.code (.region id ops false)::ks) fr obs):=
 .mk (h.rec fun h=>KF c a b h)
theorem AN {M0:Imm} {ob0:Hs} {obs0:List AObj} {w0:World} {sz:Nat} {f:Nat} {args:List AVal} {rest:List (Nat×List AVal)} {M:Imm} {ob:Hs} {obs obs':List AObj} {w:World} {a:Act} {u:FrameMode} {p:Option AVal} (c ks:List Nat)
  {fr:List (Nat×AVal)} (x1:Ext M0 ob0 obs0 w0 M ob obs w) (D:Mem M ob obs w) (K:∀ t,Rep M ob (a.tmps.getD t undef) (aZ fr t)) (T:a.tmps.size=sz) {r:List Deferred} (n:cQ w0 w M ob r ((f,args)::rest)) (x6:ob0.length<=obs.length)
  (y:kP ks (frzs c obs)=true) (s:yD M ob u p)
  (h:wS E.P f (dK (cvtV 0 ks (aE (frzs c obs)) 5) args) (gK 0 ks (frzs c obs)) (Y0 ks (aE (frzs c obs)) p) obs') {R:Ending->World->Prop}
  (hl:∀ (q:List Deferred) w',SS M0 ob0 obs0 w0 sz rest fr (iX ks (aO (frzs c obs)) (frzs c obs) 0 obs' (frzs c obs)) {a with defers:=q} w'->eF E.P fn a.tmps R q .returning w'):eF E.P fn a.tmps R r u w:=by
 obtain ⟨A,l,rfl,n,S⟩:=n
 cases A with
 | nil=>have:=n.1;simp at this
 | cons d r=>
  obtain ⟨b,g⟩:=n.2 0 d _ rfl rfl
  obtain ⟨F,z,C,_,_⟩:=Mem.frzs c M obs D
  obtain ⟨U,_,_⟩:=z.cvt (n0:=0) y
  have k:cD F _ d.args.toList (dK (cvtV 0 ks (aE (frzs c obs)) 5) args):=uP (fun v a=>z.cvtV (n0:=0) y 5 v a) ⟨g.1,fun i v a B G=>(g.2 i v a B G).monoM C.imm⟩
  have m:yD F (dU 0 ob (frzs c obs) 0 ks) u (Y0 ks (aE (frzs c obs)) p):=by
   cases p with
   | none=>exact s
   | some v=>
    obtain ⟨x,e,Q⟩:=s
    exact ⟨x,e,z.cvtV y 5 _ _ (Q.monoM C.imm)⟩
  obtain ⟨h1,h2⟩:=h F _ w d.args.toList u U k m
  have H:u≠ .run:=by
   cases p with
   | none=>have:u= .returning:=s;rw [this];intro h;cases h
   | some v=>obtain ⟨x,e,_⟩:=s;rw [e];intro h;cases h
  obtain ⟨I,o⟩:=d
  have b:I= .fn (.func f) #[]:=b
  subst b
  refine ⟨H,.inr ⟨.func f,#[],f,o,rfl,?_,?_⟩⟩
  .show (callFunc f (o++ #[])).run E.P w=_
   rw [Array.append_empty]
   exact h1
  .refine h2.mono fun e u' w' ⟨v,M',V,L,N,Y,Z⟩=>?_
   subst L
   dsimp only
   rw [N]
   obtain ⟨J,W,_⟩:=z.emb y Y Z
   have ext:=C.trans W
   refine hl (r++l) w' ?_
   rw [bF]
   refine ⟨M',_,x1.trans ext,J,fun t=>(K t).mono ext.imm ext.hs,T,?_,?_⟩
   .refine ⟨r,l,rfl,⟨by have:=n.1;simpa using this,fun i d x X O=>?_⟩,(cQ.ext (M:=M) (ob:=ob) ⟨[],l,rfl,.nil,S⟩ D ext).marks⟩
    have:=n.2 (i+1) d x (by simpa using X) (by simpa using O)
    exact ⟨this.1,this.2.1,fun j v a B G=>(this.2.2 j v a B G).mono ext.imm ext.hs⟩
   .have:=ext.lens
    have:=J.len
    have:=D.len
    omega
theorem To.leave (df:List (Nat×List AVal)) {f:Nat} {args:List AVal} (i:E.df=(f,args)::df) (b ks:List Nat) {p:Option AVal} {fr:List (Nat×AVal)} {obs obs':List AObj} (q:kP ks (frzs b obs)=true)
  (h:wS E.P f (dK (cvtV 0 ks (aE (frzs b obs)) 5) args) (gK 0 ks (frzs b obs)) (Y0 ks (aE (frzs b obs)) p) obs')
  (d:To {E with df:=df} fn g (.leave none fr (iX ks (aO (frzs b obs)) (frzs b obs) 0 obs' (frzs b obs)))):To E fn g (.leave p fr obs):=by
 obtain ⟨d⟩:=d
 have d:aA7 {E with df:=df} fn g fr (iX ks (aO (frzs b obs)) (frzs b obs) 0 obs' (frzs b obs)):=d
 refine .mk ?_
 cases p with
 | none=>
  intro M0 ob0 obs0 w0 a w hst ⟨M,ob,o,l,k,n,j,m⟩
  rw [i] at j
  exact AN (p:=none) b ks o l k n j m q rfl h fun c w' hs=>d M0 ob0 obs0 w0 {a with defers:=c} w' hst hs
 | some v=>
  intro M0 ob0 obs0 w0 s a w hst ⟨M,ob,o,l,⟨x,e,r⟩,k,n,j,m⟩
  rw [i] at j
  exact AN (p:=some v) b ks o l k n j m q ⟨x,by rw [e],r⟩ h fun c w' hs=>d M0 ob0 obs0 w0 {a with defers:=c} w' hst hs
theorem To.left (hE:EnvOK E) (c:E.df=[]) {fr:List (Nat×AVal)} {obs:List AObj} {v:AVal} (d:XE E obs fn.results.toList fr=some v) (h:KV g .ret v obs) (b:E.rd=none:=by rfl):To E fn g (.leave none fr obs):=
 .mk fun M0 ob0 obs0 w0 a w hst hs=>GR hE c b d h hst hs
end
def kL (r:Nat):Code->List KI->Option (List KI)
 | .region id _ _,ks=>bif Ap id r then some ks else none
 | .seq a b,ks=>(match kL r a (.code b::ks) with | some x=>some x | none=>kL r b ks)
 | .cond _ a b,ks=>(match kL r a ks with | some x=>some x | none=>kL r b ks)
 | .block id b,ks=>kL r b (.inB id::ks)
 | .loop b,ks=>kL r b (.inL b::ks)
 | _,_=>none
def fY (fn:Func) (r:Nat):List KI:=match kL r (dA fn) [] with | some ks=>ks | none=>[]
theorem To.cutC {E:Env} {fn:Func} {g:Goal} {ks:List KI} {fr:List (Nat×AVal)} {obs:List AObj} (l:List Nat) (n:Nat) (c:Ew g.n0 n=true) (d:aAS n (kW l fr)=true) (b:CZ n (lV n obs)=true) (a:UW n E.df=true)
  (h:To E fn g (.code ks (kW l fr) (lV n obs))):To E fn g (.code ks fr obs):=by
 have:=To.cut (E:=E) (fn:=fn) (g:=g) (ks:=ks) (fr:=fr) (obs:=obs) l n c d b a (h.rec fun h=>.mk h)
 exact this.rec fun h=>.mk h
def P6:St->Bool
 | .head _ _ _=>false
 | _=>true
theorem goN {E:Env} {fn:Func} {g:Goal} (hE:EnvOK E) (a:Nat) {st:St} (_hs:P6 st=true) (h:bN E fn g (To E fn g) a st):To E fn g st:=bV hE a h
theorem ID {w:World} {b:Nat} {u s q:Value} {T:TypeId} (h:w.heap[b]? =some (.cells #[u,s] T (0,0))):w.setCell ⟨b,0,none⟩ q=w.setRow b #[q,s]:=by
 unfold World.setCell Kh
 congr 1
 refine Array.ext_getElem? fun i=>?_
 by_cases a:b=i
 .subst a
  rw [Fm,Fm,if_pos rfl,if_pos rfl,h]
  rfl
 .rw [Fm,Fm,if_neg a,if_neg a]
theorem rJ {P:Program} {f:FuncId} {T:TypeId} (q:pV P f)
  (B:∀ (b:Nat) (w:World),w.cell? ⟨b,0,none⟩=some (.pointer none)->w.shape? b=some (T,2)->w.frozen? ⟨b,0,none⟩=false->Calls P f #[.pointer (some ⟨b,0,none⟩)] w fun e w'=>e= .returned (.tuple #[])/\w'=w.setCell ⟨b,0,none⟩ (.pointer (some ⟨b,0,none⟩)))
  (s:AVal):aA P f [.ref 0 0] [.cells T [.nilptr,s]] (.ret (.tup [])) [.cells T [.ref 0 0,s]]:=by
 intro M ob w g hm r
 obtain ⟨hl,r⟩:=r
 match g,hl with
 | [v],_=>
 obtain ⟨b,rfl,c⟩:=(r 0 _ _ rfl rfl).ref_inv
 obtain ⟨hs,A,m,rfl,C,cv,j,y,h1,d⟩:=hm.obj 0 _ rfl
 have p:m=b:=by rw [bW A] at c;simpa using c
 subst p
 match cv,y with
 | [u,t],_=>
 have z:u= .pointer none:=by
  have:=d 0 u _ rfl rfl
  cases this;rfl
 subst z
 have j:w.heap[m]? =some (.cells #[.pointer none,t] T (0,0)):=j
 have l:=h1 t s_
 refine .inl ⟨q _ _,(B m w (by simp [Ky,j]) (by simp [Mm,j]) (by simp [World.frozen?,j])).mono ?_⟩
 rintro e w' ⟨rfl,rfl⟩
 rw [ID j]
 have:=hm.cellsTurn (k:=0) (cs':=[.ref 0 0,s]) (cv':=[.pointer (some ⟨m,0,none⟩),t]) rfl c rfl (fun x n=>by
  rcases Ao.1 n with rfl | n
  .rfl
  .rcases Ao.1 n with rfl | n
   .exact l
   .cases n) (fun i v a h o=>by
  match i with
  | 0=>
   simp at h o
   subst h o
   exact .ref 0 0 m c
  | 1=>
   simp at h o
   subst h o
   exact d 1 _ _ rfl rfl
  | i+2=>simp at h)
 exact ⟨M,ob,this.2.1,this.1,.tup [] [] rfl (fun i v a h=>by simp at h)⟩
def LS (g n:Nat) (w w':World):Prop:=w'.os=w.os/\w'.tape=w.tape/\w'.output=w.output/\w'.heap=(w.freeze ⟨g,0,none⟩ n).heap
theorem Z4 {w:World} {g n:Nat} (h:n≠0):LS g n w (w.drew.freeze ⟨g,0,none⟩ n):=by
 unfold LS Lp
 rw [if_neg h,if_neg h]
 exact ⟨rfl,rfl,rfl,rfl⟩
theorem EI {w:World} {g n k:Nat} (h:g≠k):(w.freeze ⟨g,0,none⟩ n).heap[k]? =w.heap[k]?:=by
 unfold Lp
 split
 .rfl
 .simp only [Fm,if_neg h]
theorem Z2 {w:World} {g n:Nat}:(w.freeze ⟨g,0,none⟩ n).heap.size=w.heap.size:=by
 unfold Lp
 split
 .rfl
 .simp
theorem Z3 {w:World} {g n b o:Nat}:(w.freeze ⟨g,0,none⟩ n).cell? ⟨b,o,none⟩=w.cell? ⟨b,o,none⟩:=by
 by_cases h:g=b
 .subst h
  unfold Lp
  split
  .rfl
  .unfold Ky
   simp only [Fm,if_true]
   cases h:w.heap[g]? with
   | none=>rfl
   | some x=>cases x<;>rfl
 .exact Co (w:=w) (a:=⟨b,o,none⟩) (EI h)
theorem pM {P:Program} {f:FuncId} {T e:TypeId} (Z:pV P f)
  (hc:∀ (b g d:Nat) (p:Value) (q:Array Value) (l:List UInt8) (w:World),w.heap[b]? =some (.cells #[p,.slice (some ⟨g,0,none⟩) l.length d] T (0,0))->w.heap[g]? =some (.cells q e (0,0))->l≠[]->
   l.length<=d->d<=maxLen->q.size=d->(∀ (j:Nat) x,l[j]? =some x->w.cell? ⟨g,j,none⟩=some (.int .u8 x.toNat))->
   Calls P f #[.pointer (some ⟨b,0,none⟩)] w fun e w'=>e= .returned (.string ⟨l.toArray⟩)/\LS g l.length w w')
  (l:List UInt8) (R:l≠[]) (p:AVal):aA P f [.ref 0 0] [.cells T [p,.slice 1 (l.map ub) (.own 1 0)],.tail 0 1 e] (.ret (.str l)) [.dead,.dead]:=by
 intro M ob w y hm N
 obtain ⟨hl,N⟩:=N
 match y,hl with
 | [v],_=>
 obtain ⟨b,rfl,G⟩:=(N 0 _ _ rfl rfl).ref_inv
 obtain ⟨hs,e1,U,rfl,hno,cv,hh,hcl,h1,D⟩:=hm.obj 0 _ rfl
 have J:U=b:=by rw [bW e1] at G;simpa using G
 subst J
 match cv,hcl with
 | [u,t],_=>
 have hh:w.heap[U]? =some (.cells #[u,t] T (0,0)):=hh
 have H:=D 1 t _ rfl rfl
 obtain ⟨H,m⟩:=H.untok
 have m:at' ob 1 0=some t:=m
 obtain ⟨Q,W,k2,v1,k3,n,cw,K,k5⟩:=hm.obj 1 _ rfl
 have V:v1=t:=by
  rw [bW W,k3] at m
  simpa using m
 subst V
 have hn:n=(l.map ub).length:=wA H K
 have B:(l.map ub).length=l.length:=by simp
 have hlm:=H.slice_inv
 obtain ⟨_,_,_,_,_,r⟩:=hlm
 rw [B] at r hn
 have hpos:0<l.length:=Fz.2 R
 subst hn
 have k4':=K
 obtain ⟨hcwl,O⟩:=K
 rcases O with ⟨rfl,hz⟩ | ⟨g,d,q,rfl,_,hg,S,hcm,hcs,htake⟩
 .omega
 have i:∀ (j:Nat) x,l[j]? =some x->w.cell? ⟨g,j,none⟩=some (.int .u8 x.toNat):=fun j x L=>by
  rcases H.sl_inv with ⟨h1,_⟩ | ⟨_,_,_,h1⟩ | ⟨b2,o2,cap2,h1,_,_,_,h⟩
  .cases h1
  .exact absurd (List.map_eq_nil_iff.1 h1) R
  .simp only [Value.slice.injEq,Dr,Addr.mk.injEq] at h1
   obtain ⟨⟨rfl,rfl,_⟩,_,_⟩:=h1
   have hM:=h j 0 (ub x) (ub x) (by simp [L]) rfl
   obtain ⟨u',C,_,Y⟩:=hm.imm _ _ _ hM
   rw [show 0+j*1+0=j from by omega] at C
   rw [C]
   have:=Y.int_inv
   rw [this.1]
 refine .inl ⟨Z _ _,(hc U g d u q l w hh hg R S hcm o_ i).mono ?_⟩
 rintro e w' ⟨rfl,hos,z,F,a⟩
 have s:∀ b o,w'.cell? ⟨b,o,none⟩=w.cell? ⟨b,o,none⟩:=fun b o=>by
  have:w'.cell? ⟨b,o,none⟩=(w.freeze ⟨g,0,none⟩ l.length).cell? ⟨b,o,none⟩:=by unfold Ky;rw [a]
  rw [this,Z3]
 have dead:∀ (k b:Nat),¬ aH ob [.dead,.dead] k b:=fun k b ⟨c,hs,h1,I,_⟩=>by
  match k with
  | 0=>simp at h1;subst h1;cases I
  | 1=>simp at h1;subst h1;cases I
  | k+2=>simp at h1
 refine ⟨M,ob,?_,?_,.str l r⟩
 .refine ⟨fun _ _ _ h=>h,fun _ _ _ h=>.inl h,dL.refl _,hos,z,F,by rw [a,Z2];exact Bg _,fun k A X=>?_,fun k b h=>absurd h (dead k b)⟩
  rw [a,EI]
  intro e
  subst e
  refine X 1 ⟨_,Q,rfl,rfl,W,?_⟩
  rw [eJ k2 k3]
  exact dI.2 rfl
 .refine ⟨fun b o x L=>?_,hm.len,fun k c A=>?_,fun k b h=>absurd h (dead k b),fun k _ b h=>absurd h (dead k b)⟩
  .obtain ⟨v,h1,I,h3⟩:=hm.imm b o x L
   exact ⟨v,by rw [s];exact h1,I,h3⟩
  .match k with
   | 0=>simp at A;subst A;exact ⟨_,e1,trivial⟩
   | 1=>simp at A;subst A;exact ⟨_,W,trivial⟩
   | k+2=>simp at A
theorem J7 (k:IntKind):∃ p,bI k+1=2 ^ p/\p<=k.bits:=by
 cases k
 .exact ⟨7,by decide,by decide⟩
 .exact ⟨15,by decide,by decide⟩
 .exact ⟨31,by decide,by decide⟩
 .exact ⟨63,by decide,by decide⟩
 .exact ⟨8,by decide,by decide⟩
 .exact ⟨16,by decide,by decide⟩
 .exact ⟨32,by decide,by decide⟩
 .exact ⟨64,by decide,by decide⟩
theorem aCP (k:IntKind):cL k<=0:=by cases k<;>decide
theorem qI {k:IntKind} {a:Nat} (h:(a:Int)<=bI k):inR k a:=⟨Fb (aCP k) (Int.natCast_nonneg a),h⟩
theorem qH (n a:Nat) (h:a<2 ^ n):(BitVec.ofInt n (a:Int)).toNat=a:=by
 rw [BitVec.ofInt_natCast,BitVec.toNat_ofNat,Jf h]
theorem GF {k:IntKind} {a p:Nat} (hp:bI k+1=2 ^ p) (h:(a:Int)<=bI k):a<2 ^ p:=by
 have h1:(a:Int)<2 ^ p:=o_
 have:((2 ^ p:Nat):Int)=2 ^ p:=by simp
 omega
theorem ZA {k:IntKind} {a p:Nat} (hp:bI k+1=2 ^ p) (h:a<2 ^ p):(a:Int)<=bI k:=by
 have:((2 ^ p:Nat):Int)=2 ^ p:=by simp
 omega
theorem tM (k:IntKind) (a b:Nat) (g:(a:Int)<=bI k) (d:(b:Int)<=bI k):fQ .or k a b=((a ||| b:Nat):Int):=by
 obtain ⟨p,hp,c⟩:=J7 k
 have h1:=GF hp g
 have f:=GF hp d
 have e:2 ^ p<=2 ^ k.bits:=Ep d_ c
 simp only [fQ,BitVec.toNat_or,qH k.bits a o_,qH k.bits b o_]
 exact iK (qI (ZA hp (Nat.or_lt_two_pow h1 f)))
theorem EU (k:IntKind) (a b:Nat) (g:(a:Int)<=bI k) (d:(b:Int)<=bI k):fQ .and k a b=((a &&& b:Nat):Int):=by
 obtain ⟨p,hp,c⟩:=J7 k
 have h1:=GF hp g
 have f:=GF hp d
 have e:2 ^ p<=2 ^ k.bits:=Ep d_ c
 simp only [fQ,BitVec.toNat_and,qH k.bits a o_,qH k.bits b o_]
 exact iK (qI (ZA hp (Nat.and_lt_two_pow _ f)))
theorem YH {a b i:Nat} (h:a<2 ^ i):a ||| (b*2 ^ i)=a+b*2 ^ i:=by
 have:=Ke h b
 rw [Nat.or_comm,Dn b,<-this,Mq]
theorem aD7 (a p:Nat):a &&& (2 ^ p-1)=a % 2 ^ p:=Nat.and_two_pow_sub_one_eq_mod a p
theorem OW (n:Nat):IntKind.u8.wrap (n:Int)=((n % 256:Nat):Int):=by
 simp [IntKind.wrap,IntKind.signed,IntKind.bits]
set_option maxRecDepth 8000 in
theorem aFE:∀ m:Fin 256,m.val ||| 128=128+m.val % 128:=by decide
theorem H2 {m:Nat} (h:m<256):ub (Gk m)= .int .u8 m:=by
 simp only [ub]
 rw [UInt8.toNat_ofNat',Jf (by simpa using h)]
def N7 (n0:Nat) (ks:List Nat) (og:Nat->AObj):List (Nat×AVal)->List (Nat×AVal)
 | []=>[]
 | (i,v)::r=>(i,cvtV n0 ks og 5 v)::N7 n0 ks og r
theorem uT (n0:Nat) (ks:List Nat) (og:Nat->AObj) (t:Nat):∀ (fr:List (Nat×AVal)),aZ (N7 n0 ks og fr) t=cvtV n0 ks og 5 (aZ fr t)
 | []=>rfl
 | (i,v)::r=>by
  simp only [N7,aZ]
  cases Ap i t with
  | true=>rfl
  | false=>exact uT n0 ks og t r
theorem To.part {E:Env} {fn:Func} {g:Goal} {st:List KI} {fr:List (Nat×AVal)} {obs:List AObj} (l:List Nat) (ks:List Nat) (n:E.df=[]) (u:kP ks obs=true) (v:iS g.n0 0 ks=true)
  (h:To E fn g (.head st (N7 g.n0 ks (aE obs) (kW l fr)) (gK g.n0 ks obs))) (d:g.strict=true:=by rfl):To E fn g (.head st fr obs):=
 .mk fun s M0 ob0 obs0 w0 a w hst hs=>by
  refine h.rec fun h=>h s M0 ob0 obs0 w0 a w hst ?_
  obtain ⟨M,ob,c,hm,q,D,y,I⟩:=hs
  obtain ⟨G,C,_⟩:=hm.cvt (n0:=g.n0) u
  have z:ob0.length=g.n0:=hst.1
  have f:(gK g.n0 ks obs).length=ks.length:=by unfold gK;rw [lS]
  have o:ob0.length<=ks.length:=by
   rw [z]
   rcases Fp g.n0 with H | H
   .omega
   .have:=jL v (g.n0-1) o_
    have:=(Ab.1 this).1
    omega
  refine ⟨M,_,⟨c.imm,c.new,fun j hs p=>?_,c.os,c.tape,c.output,c.size,c.keep,fun j b F=>?_⟩,G,fun t=>?_,D,?_,by rw [f];exact o⟩
  .have m:j<g.n0:=by rw [<-z];exact (Ab.1 p).1
   have i:=jL v j m
   rw [Bp] at i
   obtain ⟨hs',A,t,x⟩:=c.hs j hs p
   have B:=hst.2 d hs (Av p)
   refine ⟨gT g.n0 j (aE obs j) hs',?_,?_⟩
   .rw [fR,i]
    simp [A]
   .unfold gT
    split
    .rw [<-x]
     have:(hs++t).take 1=hs:=by rw [Ea o_,Cf o_]
     rw [this]
     exact ⟨_,rfl⟩
    .exact ⟨t,x⟩
  .obtain ⟨k,_,r⟩:=C j b F
   exact c.fresh k b r
  .rw [uT]
   have:Rep M ob (a.tmps.getD t undef) (aZ (kW l fr) t):=by
    rcases nK fr t l with e | e
    .rw [e];exact q t
    .rw [e];exact .undef _
   exact hm.cvtV (n0:=g.n0) u 5 _ _ this
  .rw [n] at y⊢
   exact y.bare
def R9:List AVal->Nat->AVal->List AVal
 | [],_,_=>[]
 | _::r,0,x=>x::r
 | c::r,n+1,x=>c::R9 r n x
theorem PG:∀ (l:List AVal) (n:Nat) (x:AVal),R9 l n x=l.set n x
 | [],_,_=>rfl
 | _::_,0,_=>rfl
 | c::r,n+1,x=>by simp [R9,PG r n x]
def kT:List AObj->AObj->List AObj
 | [],x=>[x]
 | c::r,x=>c::kT r x
theorem oJ:∀ (l:List AObj) (x:AObj),kT l x=l++[x]
 | [],_=>rfl
 | c::r,x=>by simp [kT,oJ r x]
theorem Mem.beginC {M:Imm} {ob:Hs} {obs:List AObj} {w:World} (hm:Mem M ob obs w) {k i sz:Nat} {T e:TypeId} {cs:List AVal} (C:obs[k]? =some (.cells T cs)) (K:cs[i]? =some (.slice sz [] .nil)):
  Mem M (ob++[[.slice none 0 0]]) (obs.set k (.cells T (cs.set i (.slice sz [] (.own obs.length 0))))++[.tail 0 sz e]) w/\
   Ext M ob obs w M (ob++[[.slice none 0 0]]) (obs.set k (.cells T (cs.set i (.slice sz [] (.own obs.length 0))))++[.tail 0 sz e]) w/\dL ob (ob++[[.slice none 0 0]]):=by
 have l:dL ob (ob++[[.slice none 0 0]]):=fun j hs d=>⟨hs,by rw [Ag (Ab.1 d).1];exact d,Cz _⟩
 have s:k<obs.length:=(Ab.1 C).1
 have f:(ob++[[.slice none 0 0]])[obs.length]? =some [.slice none 0 0]:=by rw [<-hm.len];simp
 have A:at' (ob++[[.slice none 0 0]]) obs.length 0=some (.slice none 0 0):=by rw [bW f];rfl
 have r:∀ {j:Nat} {c:AObj},(obs.set k (.cells T (cs.set i (.slice sz [] (.own obs.length 0))))++[.tail 0 sz e])[j]? =some c->
   (j=obs.length/\c= .tail 0 sz e)\/(j=k/\c= .cells T (cs.set i (.slice sz [] (.own obs.length 0))))\/(j≠k/\j<obs.length/\obs[j]? =some c):=fun {j c} d=>by
  by_cases m:j<obs.length
  .rw [Ag (by simpa using m)] at d
   by_cases o:j=k
   .subst o
    rw [Ax m] at d
    cases d
    exact .inr (.inl ⟨rfl,rfl⟩)
   .rw [Bh (Eb o)] at d
    exact .inr (.inr ⟨o,m,d⟩)
  .have p:j=obs.length:=by
    have:=(Ab.1 d).1
    simp at this
    omega
   subst p
   rw [Ak s_] at d
   simp at d
   exact .inl ⟨rfl,d.symm⟩
 have y:∀ {j b:Nat},aH (ob++[[.slice none 0 0]]) (obs.set k (.cells T (cs.set i (.slice sz [] (.own obs.length 0))))++[.tail 0 sz e]) j b->aH ob obs j b:=fun {j b} ⟨c,hs,q,x,e3,e4⟩=>by
  rcases r q with ⟨rfl,rfl⟩ | ⟨rfl,rfl⟩ | ⟨h1,p,h3⟩
  .rw [f] at e3
   cases e3
   cases e4
  .rw [Ag (by rw [hm.len];exact s)] at e3
   exact ⟨_,hs,C,rfl,e3,e4⟩
  .rw [Ag (by rw [hm.len];exact p)] at e3
   exact ⟨c,hs,h3,x,e3,e4⟩
 have H:∀ (j:Nat) c,(obs.set k (.cells T (cs.set i (.slice sz [] (.own obs.length 0))))++[.tail 0 sz e])[j]? =some c->∃ hs,(ob++[[.slice none 0 0]])[j]? =some hs/\gZ M (ob++[[.slice none 0 0]]) w hs c:=fun j c d=>by
  rcases r d with ⟨rfl,rfl⟩ | ⟨rfl,rfl⟩ | ⟨h1,p,h3⟩
  .exact ⟨_,f,rfl,_,rfl,0,[],Hi w 0 _ _,fun b O=>by cases O⟩
  .obtain ⟨hs,q,b,I,F,cv,B,D,J,t⟩:=hm.obj _ _ C
   refine ⟨hs,by rw [Ag (by rw [hm.len];exact s)];exact q,b,I,F,cv,B,by simpa using D,J,fun n v a u g=>?_⟩
   by_cases L:n=i
   .subst L
    have z:n<cs.length:=(Ab.1 K).1
    rw [Ax z] at g
    cases g
    have:=t n v _ u K
    obtain ⟨_,G⟩:=this.untok
    have G:v= .slice none 0 0:=G
    subst G
    exact .slnil _ _ A
   .rw [Bh (Eb L)] at g
    exact (t n v a u g).mono (fun _ _ _ h=>h) l
  .obtain ⟨hs,q,x⟩:=hm.obj j c h3
   refine ⟨hs,by rw [Ag (by rw [hm.len];exact p)];exact q,?_⟩
   cases c with
   | cells P cs'=>
    obtain ⟨b,I,F,cv,B,D,J,t⟩:=x
    exact ⟨b,I,F,cv,B,D,J,fun n v a u g=>(t n v a u g).mono (fun _ _ _ h=>h) l⟩
   | _=>exact x
 refine ⟨⟨hm.imm,by simp [hm.len],H,fun j b g=>hm.lt j b (y g),fun j N b h1 p=>hm.inj j N b (y h1) (y p)⟩,⟨fun _ _ _ h=>h,fun _ _ _ h=>.inl h,l,rfl,rfl,rfl,Bg _,fun _ _ _=>rfl,fun j b g=>.inl ⟨j,y g⟩⟩,l⟩
theorem To.begin {E:Env} {fn:Func} {g:Goal} {st:List KI} {fr:List (Nat×AVal)} {obs:List AObj} (k i:Nat) (e:TypeId) {T:TypeId} {cs:List AVal} {sz:Nat} (j:aE obs k= .cells T cs) (l:nth cs i=some (.slice sz [] .nil))
  (h:To E fn g (.head st fr (kT (bL obs k (.cells T (R9 cs i (.slice sz [] (.own (aO obs) 0))))) (.tail 0 sz e)))):To E fn g (.head st fr obs):=
 .mk fun d M0 ob0 obs0 w0 a w hst hs=>by
  refine h.rec fun h=>h d M0 ob0 obs0 w0 a w hst ?_
  obtain ⟨M,ob,n,hm,c,p,o,r⟩:=hs
  have b:=bS j s_
  obtain ⟨m,q,f⟩:=hm.beginC (e:=e) b (lX l)
  rw [oJ,PG,bF,aQ b]
  exact ⟨M,_,n.trans q,m,fun t=>(c t).mono (fun _ _ _ h=>h) f,p,o.mono (fun _ _ _ h=>h) f,by simp;omega⟩
def mapO (f:AVal->AVal):AObj->AObj
 | .cells T cs=>.cells T (dK f cs)
 | x=>x
def rD (f:AVal->AVal):List AObj->List AObj
 | []=>[]
 | x::r=>mapO f x::rD f r
theorem AJ (f:AVal->AVal):∀ (l:List AObj),rD f l=l.map (mapO f)
 | []=>rfl
 | x::r=>by simp [rD,AJ f r]
theorem aA.mapO {P:Program} {f:FuncId} {args:List AVal} {obs obs':List AObj} {r:Res} (g:AVal->AVal) (H:∀ (M:Imm) (ob:Hs) v a,Rep M ob v a->Rep M ob v (g a)) (h:aA P f args obs r obs'):aA P f args obs r (rD g obs'):=by
 rw [AJ]
 intro M ob w n hm F
 have key:∀ {e:Ending} {w':World},(∃ M' ob',Ext M ob obs w M' ob' obs' w'/\Mem M' ob' obs' w'/\pU M' ob' e r)->∃ M' ob',Ext M ob obs w M' ob' (obs'.map (AW.mapO g)) w'/\Mem M' ob' (obs'.map (AW.mapO g)) w'/\pU M' ob' e r:=by
  rintro e w' ⟨M',ob',h1,l,h3⟩
  have own:∀ x:AObj,(AW.mapO g x).owns=x.owns:=fun x=>by cases x<;>rfl
  have s:∀ {k b:Nat},aH ob' (obs'.map (AW.mapO g)) k b->aH ob' obs' k b:=fun {k b} ⟨c,hs,m,q,e3,e4⟩=>by
   rw [Bc] at m
   cases o:obs'[k]? with
   | none=>rw [o] at m;cases m
   | some x=>
    rw [o] at m
    cases m
    exact ⟨x,hs,o,by rw [<-own];exact q,e3,e4⟩
  refine ⟨M',ob',⟨h1.imm,h1.new,h1.hs,h1.os,h1.tape,h1.output,h1.size,h1.keep,fun k b d=>h1.fresh k b (s d)⟩,⟨l.imm,by simpa using l.len,fun k c p=>?_,fun k b d=>l.lt k b (s d),fun i j b d C=>l.inj i j b (s d) (s C)⟩,h3⟩
  rw [Bc] at p
  cases o:obs'[k]? with
  | none=>rw [o] at p;cases p
  | some x=>
   rw [o] at p
   cases p
   obtain ⟨hs,m,q⟩:=l.obj k x o
   refine ⟨hs,m,?_⟩
   cases x with
   | cells T cs=>
    obtain ⟨b,I,G,cv,A,B,J,z⟩:=q
    refine ⟨b,I,G,cv,A,by rw [tE];simpa using B,J,fun i v a D d=>?_⟩
    rw [tE,Bc] at d
    cases t:cs[i]? with
    | none=>rw [t] at d;cases d
    | some y=>rw [t] at d;cases d;exact H _ _ _ _ (z i v y D t)
   | _=>exact q
 rcases h M ob w n hm F with ⟨h1,l⟩ | ⟨u,w',h1,l⟩
 .exact .inl ⟨h1,l.mono fun e w' h=>key h⟩
 .exact .inr ⟨u,w',h1,key l⟩
theorem aA.blur {P:Program} {f:FuncId} {args:List AVal} {obs obs':List AObj} {r:Res} (h:aA P f args obs r obs'):aA P f args obs r (rD (fun _=>.undef) obs'):=
 h.mapO _ fun _ _ _ _ _=>.undef _
theorem aA.loose {P:Program} {f:FuncId} {args:List AVal} {obs obs':List AObj} {r:Res} (h:aA P f args obs r obs'):aA P f args obs r (rD (AW.strip 5) obs'):=
 h.mapO _ fun _ _ _ _=>qA 5
def xA (l:List Nat) (og:Nat->AObj):List (Nat×AVal)->List (Nat×AVal)
 | []=>[]
 | (i,v)::r=>(i,bif qU i l then pureV og 5 v else v)::xA l og r
theorem EF (l:List Nat) (og:Nat->AObj) (t:Nat):∀ (fr:List (Nat×AVal)),aZ (xA l og fr) t=aZ fr t\/aZ (xA l og fr) t=pureV og 5 (aZ fr t)
 | []=>.inl rfl
 | (i,v)::r=>by
  simp only [xA,aZ]
  cases Ap i t with
  | true=>
   simp only [cond_true]
   cases qU i l with
   | true=>exact .inr rfl
   | false=>exact .inl rfl
  | false=>exact EF l og t r
theorem To.frz {E:Env} {fn:Func} {g:Goal} {st:List KI} {fr:List (Nat×AVal)} {obs:List AObj} (l d:List Nat)
  (h:To E fn g (.code st (xA l (aE (AW.frzs d obs)) fr) (AW.frzs d obs))):To E fn g (.code st fr obs):=
 .mk fun f M0 ob0 obs0 w0 a w hst hs=>by
  refine h.rec fun h=>h f M0 ob0 obs0 w0 a w hst ?_
  obtain ⟨M,ob,m,hm,b,o,n,j⟩:=hs
  obtain ⟨M',i,c,_,k⟩:=Mem.frzs d M obs hm
  refine ⟨M',ob,m.trans c,i,fun t=>?_,o,n.mono c.imm (dL.refl _),by rw [k];exact j⟩
  rcases EF l (aE (AW.frzs d obs)) t fr with e | e
  .rw [e];exact (b t).monoM c.imm
  .rw [e];exact (i.pureV 5 _ _ ((b t).monoM c.imm)).pure
structure Bulk (H:Type) (N:Nat) (G:DataW H->Prop):Prop where
 str:∀ (l:List UInt8),G (.lit (.string l))->l.length<=N
 sl:∀ (e r:List (DataW H)),G (.slice e r)->e.length<=N/\∀ d∈e,G d
 agg:∀ (l:List (DataW H)),G (.agg l)->∀ d∈l,G d
def TyN (P:Program) (N:Nat):Nat->TypeId->List AVal->Prop
 | 0,_,_=>False
 | n+1,t,cs=>match P.underlying t with
  | some .bool=>∃ b,cs=[.bool b]
  | some (.int k)=>∃ m,cs=[.int k m]/\inR k m
  | some .string=>∃ l,cs=[.str l]/\l.length<=N
  | some (.struct fs)=>TyF (TyN P N n) fs.toList cs
  | some (.array m e)=>∃ xs:List (List AVal),xs.length=m/\(∀ x∈xs,TyN P N n e x)/\cs=xs.flatten
  | some (.slice e)=>∃ xs,cs=[.slice (P.cellsOf e) xs .no]/\xs.length<=N/\∀ x∈xs,TyN P N n e x.cells/\(aP P e=true->∃ l,x= .agg l)/\(aP P e=false->x.cells=[x])
  | _=>False
section
variable {H:Type} {N:Nat} {G:DataW H->Prop} {enc:TypeId×Value->H} {P:Program} {w:World} {base:Nat} {spare:Nat->Bool} {held:Bool}
theorem F6 {n m:Nat} (p:∀ t,nS P n t=true->∀ cs x,DataW.trod enc P w base spare held m t cs=some x->G x.1->∃ as,fF w cs as/\TyN P N n t as) (cs:List Value):
  ∀ (c:List Field) (off:Nat),(∀ f∈c,∃ y,DataW.trod enc P w base spare held m f.type ((cs.drop f.offset).take (P.cellsOf f.type))=some y/\G y.1)->FG P (nS P n) off c cs.length=true->
   ∃ as,fF w (cs.drop off) as/\TyF (TyN P N n) c as:=by
 intro c
 induction c with
 | nil=>
  intro off _ h
  have:=aB h
  subst this
  exact ⟨[],by simpa using fF.nil,rfl⟩
 | cons f c j=>
  intro off o h
  simp only [FG,Af] at h
  obtain ⟨⟨h1,u⟩,h3⟩:=h
  have d:=aB h1
  obtain ⟨y,v,k⟩:=o f s_
  obtain ⟨a,l,e⟩:=p f.type u _ y v k
  obtain ⟨b,q,i⟩:=j (off+P.cellsOf f.type) (fun g r=>o g (by simp [r])) h3
  refine ⟨a++b,?_,a,b,rfl,e,i⟩
  have s:cs.drop off=(cs.drop off).take (P.cellsOf f.type)++cs.drop (off+P.cellsOf f.type):=by rw [<-Ir,Dj]
  rw [s]
  rw [d] at l
  exact l.append q
theorem JL {n m:Nat} {e:TypeId} (j:nS P n e=true) (l:∀ t,nS P n t=true->∀ cs x,DataW.trod enc P w base spare held m t cs=some x->G x.1->∃ as,fF w cs as/\TyN P N n t as) (cs:List Value):
  ∀ (k:Nat),k*P.cellsOf e<=cs.length->(∀ i,i<k->∃ y,DataW.trod enc P w base spare held m e ((cs.drop (i*P.cellsOf e)).take (P.cellsOf e))=some y/\G y.1)->
   ∃ c:List (List AVal),c.length=k/\(∀ x∈c,TyN P N n e x)/\fF w (cs.take (k*P.cellsOf e)) c.flatten:=by
 intro k
 induction k with
 | zero=>intro _ _;exact ⟨[],rfl,fun x b=>by simp at b,by simpa using fF.nil⟩
 | succ k f=>
  intro o h
  rw [Bv,Gb] at o
  obtain ⟨c,l1,l2,q⟩:=f o_ (fun i s=>h i o_)
  obtain ⟨y,r,g⟩:=h k o_
  obtain ⟨a,p,d⟩:=l e j _ y r g
  refine ⟨c++[a],by simp [l1],fun x b=>?_,?_⟩
  .rcases Ay.1 b with b | b
   .exact l2 x b
   .simp at b;subst b;exact d
  .rw [Bv,Gb,List.take_add]
   simp only [List.flatten_append,List.flatten_cons,List.flatten_nil,Bo]
   exact q.append p
theorem TyN.pack {n:Nat} {t:TypeId} {as:List AVal} (h:TyN P N n t as):∃ x:AVal,x.cells=as/\(aP P t=true->∃ l,x= .agg l)/\(aP P t=false->x.cells=[x]):=by
 cases n with
 | zero=>exact h.elim
 | succ n=>
  unfold TyN at h
  cases a:aP P t with
  | true=>exact ⟨.agg as,rfl,(fun _=>⟨_,rfl⟩),fun h=>by cases h⟩
  | false=>
   unfold aP at a
   split at h
   .obtain ⟨b,rfl⟩:=h;exact ⟨.bool b,rfl,(fun h=>by cases h),fun _=>rfl⟩
   .rename_i k _;obtain ⟨m,rfl,_⟩:=h;exact ⟨.int k m,rfl,(fun h=>by cases h),fun _=>rfl⟩
   .obtain ⟨l,rfl,_⟩:=h;exact ⟨.str l,rfl,(fun h=>by cases h),fun _=>rfl⟩
   .rename_i c;rw [c] at a;cases a
   .rename_i c;rw [c] at a;cases a
   .rename_i e _;obtain ⟨xs,rfl,_⟩:=h;exact ⟨.slice (P.cellsOf e) xs .no,rfl,(fun h=>by cases h),fun _=>rfl⟩
   .exact h.elim
theorem JM {n m:Nat} {e:TypeId} (A:nS P n e=true) (B:∀ t,nS P n t=true->∀ cs x,DataW.trod enc P w base spare held m t cs=some x->G x.1->∃ as,fF w cs as/\TyN P N n t as) (a:Addr):
  ∀ (k:Nat),(∀ i,i<k->∃ y,((w.cells? base (a.add (i*P.cellsOf e)) (P.cellsOf e)).bind (DataW.trod enc P w base spare held m e))=some y/\G y.1)->
   ∃ (xs:List AVal) (us:List (List Value)),xs.length=k/\us.length=k/\∀ (i:Nat) x u,xs[i]? =some x->us[i]? =some u->x.cells.length=P.cellsOf e/\(∀ j,j<P.cellsOf e->w.cell? ((a.add (i*P.cellsOf e)).add j)=u[j]?)/\fF w u x.cells/\
    TyN P N n e x.cells/\(aP P e=true->∃ l,x= .agg l)/\(aP P e=false->x.cells=[x]):=by
 intro k
 induction k with
 | zero=>intro _;exact ⟨[],[],rfl,rfl,fun i x u c=>by simp at c⟩
 | succ k p=>
  intro s
  obtain ⟨xs,us,l1,l2,D⟩:=p fun i C=>s i o_
  obtain ⟨y,q,r⟩:=s k o_
  obtain ⟨u,v,q⟩:=Option.bind_eq_some_iff.1 q
  obtain ⟨_,g,d⟩:=World.cells?_some v
  obtain ⟨as,has,f⟩:=B e A _ y q r
  obtain ⟨x,rfl,o⟩:=f.pack
  refine ⟨xs++[x],us++[u],by simp [l1],by simp [l2],fun i x' z c b=>?_⟩
  by_cases C:i<k
  .rw [Ag o_] at c b
   exact D i x' z c b
  .have h:i=k:=by
    have:=(Ab.1 c).1
    simp at this
    omega
   subst h
   rw [Ak o_] at c b
   rw [l1,Lq] at c
   rw [l2,Lq] at b
   simp at c b
   subst c b
   exact ⟨by rw [<-has.1,g],d,has,f,o⟩
theorem NB (X:Bulk H N G):∀ (n:Nat) (t:TypeId),nS P n t=true->∀ (B:Nat) (cs:List Value) (x:DataW H×List MemPlace),DataW.trod enc P w base spare held B t cs=some x->G x.1->∃ as,fF w cs as/\TyN P N n t as:=by
 intro n
 induction n with
 | zero=>intro t h;cases h
 | succ n ih=>
  intro t h B cs x d I
  unfold nS at h
  unfold TyN
  split at h
  .rename_i g
   try rw [g]
   obtain ⟨b,rfl,_⟩:=DataW.trod_bool g d
   exact ⟨[.bool b],fF.single (.bool b),b,rfl⟩
  .rename_i k g
   try rw [g]
   obtain ⟨m,rfl,_,M⟩:=DataW.trod_int g d
   simp only [Lit.wf,Af,decide_eq_true_eq] at M
   exact ⟨[.int k m],fF.single (.int k m (QN M)),m,rfl,QN M⟩
  .rename_i g
   try rw [g]
   obtain ⟨s,rfl,r,hs⟩:=DataW.trod_string g d
   obtain ⟨⟨l⟩⟩:=s
   have hsN:=X.str _ (by rw [r] at I;exact I)
   exact ⟨[.str l],fF.single (.str l (by have:=gC;have F:l.length<=maxLen:=hs;omega)),l,rfl,hsN⟩
  .rename_i fs g
   try rw [g]
   obtain ⟨xs,m,rfl,r,C,hxl,W⟩:=DataW.trod_struct g d
   have y:=X.agg _ (by rw [r] at I;exact I)
   rw [<-C] at h
   have:=F6 (fun t V cs x d S=>ih t V m cs x d S) cs fs.toList 0 (fun f hf'=>by
    obtain ⟨i,z⟩:=Cp hf'
    have U:fs[i]? =some f:=by simpa using z
    have L:=(Dt.1 U).1
    exact ⟨xs[i]' o_,(W i f U).trans (Aa o_),y _ (Ci (Bf _))⟩) h
   simpa using this
  .rename_i m e g
   try rw [g]
   simp only [Af] at h
   obtain ⟨h1,F⟩:=h
   obtain ⟨xs,q,rfl,r,C,hxl,W⟩:=DataW.trod_array g d
   have y:=X.agg _ (by rw [r] at I;exact I)
   have hc:=aB F
   obtain ⟨Ls,l1,l2,K⟩:=JL h1 (fun t V cs x d S=>ih t V q cs x d S) cs m o_ (fun i z=>⟨xs[i]' o_,(W i z).trans (Aa o_),y _ (Ci (Bf _))⟩)
   rw [Cf o_] at K
   exact ⟨Ls.flatten,K,Ls,l1,l2,rfl⟩
  .rename_i e g
   try rw [g]
   simp only [Af] at h
   obtain ⟨h1,F⟩:=h
   have D:0<P.cellsOf e:=by simpa [Fe] using F
   rcases DataW.trod_slice g d with ⟨rfl,_⟩ | ⟨a,len,T,Q,rest,q,rfl,rfl,r,hb,Y,hcm,hel,W,_⟩
   .exact ⟨[.slice (P.cellsOf e) [] .no],fF.single (.nilslice _),[],rfl,Bt _,fun x d=>by simp at d⟩
   .have y:=X.sl _ _ (by rw [r] at I;exact I)
    obtain ⟨xs,us,l1,l2,K⟩:=JM h1 (fun t V cs x d S=>ih t V q cs x d S) a len (fun i z=>⟨Q[i]' o_,(W i z).trans (Aa o_),y.2 _ (Ci (Bf _))⟩)
    have Z:∀ x∈xs,TyN P N n e x.cells/\(aP P e=true->∃ l,x= .agg l)/\(aP P e=false->x.cells=[x]):=fun x d=>by
     obtain ⟨i,z⟩:=Cp d
     have L:=(Ab.1 z).1
     exact (K i x (us[i]' o_) z (Aa o_)).2.2.2
    by_cases h0:len=0
    .subst h0
     have:xs=[]:=Aq l1
     subst this
     exact ⟨[.slice (P.cellsOf e) [] .no],fF.single (.emptys _ a T),[],rfl,Bt _,fun x d=>by simp at d⟩
    .obtain ⟨b,o,sp⟩:=a
     have hx0:xs[0]? =some (xs[0]' o_):=Aa o_
     have hu0:us[0]? =some (us[0]' o_):=Aa o_
     obtain ⟨c1,c2,c3,_⟩:=K 0 _ _ hx0 hu0
     have u:=c2 0 D
     have R:0<(us[0]' o_).length:=by rw [c3.1,c1];exact D
     rw [Aa R] at u
     have hsp:sp=none:=by
      have:=World.cell?_spot u
      simpa [Addr.add] using this
     subst hsp
     have key:∀ (i j:Nat) x c,xs[i]? =some x->x.cells[j]? =some c->∃ v,(us.getD i []).getD j undef=v/\w.cell? ⟨b,o+i*P.cellsOf e+j,none⟩=some v/\RepW w v c:=by
      intro i j x c d J
      have L:=(Ab.1 d).1
      have O:us[i]? =some (us[i]' o_):=Aa o_
      obtain ⟨d1,d2,d3,_⟩:=K i x _ d O
      have hjl:=(Ab.1 J).1
      have A:j<(us[i]' o_).length:=by rw [d3.1];exact hjl
      have p:=d2 j o_
      rw [Aa A] at p
      refine ⟨_,rfl,?_,?_⟩
      .rw [Dv,Dv,O]
       simp only [Hw,Aa A]
       rw [bA,bA] at p
       exact p
      .rw [Dv,Dv,O]
       simp only [Hw,Aa A]
       exact d3.2 j _ c (Aa A) J
     refine ⟨[.slice (P.cellsOf e) xs .no],fF.single (.slice (P.cellsOf e) b o len T xs (fun i j=>(us.getD i []).getD j undef) l1 Y (by have:=gC;omega) (fun x d=>?_) (fun i j x c d J=>?_) (fun i j x c d J=>?_) (fun i j x c d J=>?_)),xs,rfl,by have h9:=y.1;simp only [Cw] at h9;omega,Z⟩
     .obtain ⟨i,z⟩:=Cp d
      have L:=(Ab.1 z).1
      exact (K i x (us[i]' o_) z (Aa o_)).1
     .obtain ⟨v,rfl,h1,_⟩:=key i j x c d J;exact h1
     .obtain ⟨v,rfl,_,F⟩:=key i j x c d J;exact F.one
     .obtain ⟨v,rfl,_,F⟩:=key i j x c d J;exact F
  .cases h
theorem OL (s:Bulk H N G) {r:Reach} {q:Nat} {n:Nat} {t e:TypeId} {v:Value} {d:DataW H} {j:List MemPlace} (f:P.underlying t=some (.slice e)) (g:nS P (n+1) t=true) (o:Ki P w r q t v) (h:DataW.Trod enc P w base spare held t v d j) (k:G d):
  ∃ xs,Rep (Mw w) [] v (.slice (P.cellsOf e) xs .no)/\xs.length<=N/\∀ x∈xs,TyN P N n e x.cells/\(aP P e=true->∃ l,x= .agg l)/\(aP P e=false->x.cells=[x]):=by
 obtain ⟨a,m,c,rfl⟩:=TH f (YL (by unfold aP;rw [f]) o)
 obtain ⟨b,h⟩:=h
 obtain ⟨as,h1,i⟩:=NB s (n+1) t g b _ _ h k
 unfold TyN at i
 rw [f] at i
 obtain ⟨xs,rfl,hl,p⟩:=i
 exact ⟨xs,(h1.2 0 _ _ rfl rfl).rep,hl,p⟩
end
open Go.RowKit Go.Sort
theorem TO (g:AVal->AVal) (x:AObj):(mapO g x).owns=x.owns:=by cases x<;>rfl
theorem qS {g:AVal->AVal} {ob:Hs} {obs:List AObj} {k b:Nat} (h:aH ob (obs.map (mapO g)) k b):aH ob obs k b:=by
 obtain ⟨c,hs,a,i,e,f⟩:=h
 rw [Bc] at a
 cases d:obs[k]? with
 | none=>rw [d] at a;cases a
 | some x=>
  rw [d] at a
  cases a
  exact ⟨x,hs,d,by rw [<-TO g];exact i,e,f⟩
theorem Mem.mapO {M:Imm} {ob:Hs} {obs:List AObj} {w:World} {g:AVal->AVal} (u:∀ (M:Imm) (ob:Hs) v a,Rep M ob v a->Rep M ob v (g a)) (f:Mem M ob obs w):Mem M ob (obs.map (AW.mapO g)) w:=by
 refine ⟨f.imm,by simpa using f.len,fun k c e=>?_,fun k b d=>f.lt k b (qS d),fun i j b d r=>f.inj i j b (qS d) (qS r)⟩
 rw [Bc] at e
 cases l:obs[k]? with
 | none=>rw [l] at e;cases e
 | some x=>
  rw [l] at e
  cases e
  obtain ⟨hs,p,m⟩:=f.obj k x l
  refine ⟨hs,p,?_⟩
  cases x with
  | cells T cs=>
   obtain ⟨b,z,t,cv,o,q,A,n⟩:=m
   refine ⟨b,z,t,cv,o,by rw [tE];simpa using q,A,fun i v a s d=>?_⟩
   rw [tE,Bc] at d
   cases h:cs[i]? with
   | none=>rw [h] at d;cases d
   | some y=>rw [h] at d;cases d;exact u _ _ _ _ (n i v y s h)
  | _=>exact m
theorem Ext.mapO {M M':Imm} {ob ob':Hs} {obs0 obs:List AObj} {w w':World} {g:AVal->AVal} (h1:Ext M ob obs0 w M' ob' obs w'):Ext M ob obs0 w M' ob' (obs.map (AW.mapO g)) w':=
 ⟨h1.imm,h1.new,h1.hs,h1.os,h1.tape,h1.output,h1.size,h1.keep,fun k b a=>h1.fresh k b (qS a)⟩
theorem To.mapO {E:Env} {fn:Func} {g:Goal} {st:List KI} {fr:List (Nat×AVal)} {obs:List AObj} (f:AVal->AVal) (k:∀ (M:Imm) (ob:Hs) v a,Rep M ob v a->Rep M ob v (f a))
  (h:To E fn g (.code st fr (rD f obs))):To E fn g (.code st fr obs):=
 .mk fun c M0 ob0 obs0 w0 a w hst hs=>by
  rw [AJ] at h
  refine h.rec fun h=>h c M0 ob0 obs0 w0 a w hst ?_
  obtain ⟨M,ob,e,hm,b,j,i,d⟩:=hs
  exact ⟨M,ob,e.mapO,hm.mapO k,b,j,i,by simpa using d⟩
theorem To.loose {E:Env} {fn:Func} {g:Goal} {st:List KI} {fr:List (Nat×AVal)} {obs:List AObj} (h:To E fn g (.code st fr (rD (strip 5) obs))):To E fn g (.code st fr obs):=
 h.mapO _ fun _ _ _ _=>qA 5
end Go.AW
