/-
  The engine, second make, third part: code, contracts, statements. Over any program.
-/
import Derived.Defers
import Derived.RangeFuncRecord
import Derived.ChangeKeysEq
import Derived.Lib.Overlaps
import Derived.WalkKit
import Derived.ProofKit
import Derived.OpenShut
import Derived.Recover
import Derived.Sort.Grow
import Derived.Test.YticlgfdibfobdaaGreatWB
set_option linter.all false
open Array renaming getD_eq_getD_getElem?->Bi,getElem?_append_left->Gz,getElem?_eq_getElem->Hb,getElem?_eq_some_iff->Fc,getElem?_setIfInBounds_ne->Ez,getElem?_setIfInBounds_self_of_lt->Es,replicate->Fw,toList_map->Jv
open Bool renaming and_assoc->Gw,and_eq_true->Ag,and_true->Iv,false_eq_true->Ct,not_eq_true'->Eb,or_eq_true->Hr
open Go.Instr renaming checkKey->Hl
open Go.Region renaming binds->Jm,wanted->Fg
open Go.Result renaming andThen->La,andThen_ok->Ao
open Go.Sem renaming run_bind->Bf,run_pure->Ca
open Go.Value renaming bool->Mn,int->Ea,okWide->Gd,ownBlock->Gf
open Go.World renaming block_lt_of_cell?->Cr,cell?_of_block->Cx,frozen?->Mm,ownsRow_nil->Hg,putObj_heap_other->Gl
open Int renaming le_trans->Ft
open List renaming all_eq_true->Cu,append_nil->Bc,drop_drop->Ig,drop_eq_getElem_cons->Ac,eq_nil_of_length_eq_zero->Av,ext_getElem?->Ek,getD_eq_getElem?_getD->Ff,getElem?_append_left->Af,getElem?_append_right->Ak,getElem?_drop->Bv,getElem?_eq_getElem->Ab,getElem?_eq_none->Bh,getElem?_eq_some_iff->Ad,getElem?_map->Bj,getElem?_of_mem->Cs,getElem?_replicate->Ew,getElem?_set_ne->Aw,getElem?_set_self->Ap,getElem?_take_of_lt->Bg,getElem?_toArray->Jq,getElem_mem->Bb,length_append->Ay,length_map->Ck,length_mergeSort->Mc,length_pos_iff->Gp,length_singleton->Md,map_cons->Bp,map_drop->Hu,map_map->Gq,map_take->Ht,mem_append->Az,mem_cons->Au,mem_map->Ce,mem_map_of_mem->Cw,mem_of_getElem?->Aq,mem_singleton->Du,mergeSort_perm->Ku,nil_append->Bm,prefix_refl->Cl,range'->Le,range'_succ->Ju,range_eq_range'->Ic,replicate->Ai,size_toArray->Gj,take_append_drop->Bk,take_append_of_le_length->Db,take_of_length_le->Cb,take_zero->Hi
open Nat renaming add_comm->Mo,add_mul->Bx,add_zero->Em,beq->Ar,ble->Fq,blt->Fi,blt_eq->Jt,div_one->Ho,eq_zero_or_pos->Fm,le_of_ble_eq_true->Ci,le_refl->Ba,le_trans->Co,lor->Mr,mod_one->Ki,mul_le_mul_right->Cd,one_mul->Ge,pow_le_pow_right->Hf,strongRecOn->Ly,sub_self->Lv,sub_zero->Jl,testBit_two_pow->Kt,zero_add->Bw,zero_le->Cn
open Ne renaming symm->Eg
open Option renaming getD_some->Jw,isSome_iff_exists->Da,map_some->Lz
open Prod renaming fst->Lo
namespace Go.AW
open Go.RowKit
open Classical
section
variable {P:Program} {M:Imm} {ob:Hs} {L obs:List AObj} {w:World} {a:Act}
theorem nD {g:Nat->AVal} (e:∀ t,Rep M ob (a.tmps.getD t undef) (g t)) {u:Value} {v:AVal} (i:Rep M ob u v) {d:Option Nat} (f:∀ c,d=some c->c<a.tmps.size):
  ∀ t,Rep M ob ((a.put d u).tmps.getD t undef) (iV g d v t):=by
 intro t
 unfold iV
 cases d with
 | none=>rw [if_neg s_];exact e t
 | some d=>
  have b:=f d rfl
  by_cases h:d=t
  .subst h
   simp only [if_true,Act.put]
   rw [Bi,Es b]
   exact i
  .rw [if_neg (by grind)]
   simp only [Act.put]
   rw [Bi,Ez h,<-Bi]
   exact e t
theorem eW (a:Act) (d:Option Nat) (u:Value):(a.put d u).tmps.size=a.tmps.size/\(a.put d u).defers=a.defers:=by
 cases d<;>simp [Act.put]
theorem DL {fr:List (Nat×AVal)} (h:∀ t,Rep M ob (a.tmps.getD t undef) (aW fr t)) (x:Operand):Rep M ob (a.eval x) (ev fr x):=by
 cases x with
 | tmp t=>exact h t
 | const v=>exact rA v
 | global g=>exact .undef _
 | func f=>exact .func (.func f) [] [] [] [] rfl rfl (fun i v a h=>by simp at h) (fun i v a h=>by simp at h)
theorem aGi {tab:List Nat} {all:List Oper} {j:Nat} {g:Nat->AVal} (h:∀ t,Rep M ob (a.tmps.getD t undef) (g t)) (x:Operand):Rep M ob (a.eval x) (evG tab all j g x):=by
 cases x with
 | tmp t=>
  simp only [evG]
  cases NF tab j t 0 all with
  | true=>exact .undef _
  | false=>exact h t
 | const v=>exact rA v
 | global g=>exact .undef _
 | func f=>exact .func (.func f) [] [] [] [] rfl rfl (fun i v a h=>by simp at h) (fun i v a h=>by simp at h)
def G (rd:Option Nat) (P:Program) (ops:Array Oper) (p:Oper) (a:Act) (w:World) (next:Act->World->Prop) (Q:Exit->Act->World->Prop):Prop:=
 if Fg p (yielded ops a.tmps) then p.wpIn (fen rd) 0 P a w next Q else next (a.put p.dst undef) w
theorem hC {ops:Array Oper} {p:Oper} {ρ:Operand->AVal} (s:∀ x,Rep M ob (a.eval x) (ρ x)) {b:Bool}
  (h:cC ops.toList ρ p.guard=some b):Fg p (yielded ops a.tmps)=b:=by
 unfold cC at h
 unfold Fg
 cases t:p.guard with
 | none=>simp_all
 | some n=>
  obtain ⟨j,l⟩:=n
  rw [t] at h
  dsimp only at h⊢
  split at h
  .rename_i q o
   have g:ops[j]? =some q:=by simpa using lK o
   split at h
   .rename_i d r
    have c:=s (.tmp d)
    have m:∀ u,a.tmps.getD d undef=u->yielded ops a.tmps j=match u with | .bool b=>some b | _=>none:=by
     intro u e
     unfold yielded
     rw [g]
     simp only [Option.bind_some,r]
     rw [Bi] at e
     cases k:a.tmps[d]? with
     | none=>rw [k] at e;simp at e;subst e;rfl
     | some x=>rw [k] at e;simp at e;subst e;cases x<;>rfl
    split at h
    .rename_i v f
     rw [f] at c
     have i:a.tmps.getD d undef= .bool v:=c.bool_inv
     rw [m _ i]
     cases h
     simp
    .rename_i f
     rw [f] at c
     obtain ⟨us,e,hl,_⟩:=c.tup_inv
     have i:a.tmps.getD d undef= .tuple us.toArray:=e
     rw [m _ i]
     cases h
     simp
    .cases h
   .cases h
  .cases h
theorem wU:Rep M ob undef (.tup []):=.tup [] [] rfl fun i v a h=>by simp at h
theorem yO:∀ {L obs:List AObj},aE L=aE obs->L.length<=obs.length->obs=L++Ai (obs.length-L.length) .dead:=fun {L obs} hg hl=>by
 refine Ek fun k=>?_
 by_cases b:k<L.length
 .rw [Af b,vG b,vG (show k<obs.length by omega),hg]
 .rw [Ak o_,Ew]
  by_cases a:k<obs.length
  .rw [if_pos o_,vG a,<-hg]
   rcases eS L k with ⟨h1,_⟩ | ⟨_,_,e⟩
   .omega
   .rw [e]
  simp_all
theorem Mem.norm (h:Mem M ob L w) (d:aE L=aE obs) (p:∀ (k:Nat),obs.length<=k->∀ hs,ob[k]? =some hs->hs=[]):
  ∃ ob',Mem M ob' obs w/\(∀ (k g:Nat) v,at' ob k g=some v->at' ob' k g=some v)/\∀ {M0:Imm} {ob0:Hs} {obs0:List AObj} {w0:World},Ext M0 ob0 obs0 w0 M ob L w->ob0.length<=obs.length->Ext M0 ob0 obs0 w0 M ob' obs w:=by
 by_cases hl:L.length<=obs.length
 .have e:=yO d hl
  obtain ⟨c,a,_⟩:=h.extend (obs.length-L.length)
  rw [<-e] at c a
  exact ⟨_,c,fun k g v o=>a.hs.at o,fun b _=>b.trans a⟩
 .have e:=yO d.symm o_
  rw [e] at h
  obtain ⟨m,f,l⟩:=h.shrink fun i hs n=>p i n hs
  exact ⟨_,m,f,fun b j=>l (e▸b) j⟩
theorem jT {K d Kp:AVal->List AObj->Prop} (a:∀ v o,K v o->d v o):∀ {r:OR},orF P obs K Kp r->orF P obs d Kp r
 | .no,k=>k.elim
 | .val v,k=>a _ _ k
 | .mkf fn fs cs,k=>a _ _ k
 | .need p r,k=>⟨k.1,jT a k.2⟩
 | .alt p v w,k=>k.imp (fun h=>⟨h.1,a _ _ h.2⟩) (a _ _)
 | .idx n f,⟨i,hi,k⟩=>⟨i,hi,jT a k⟩
 | .elem xs i f,⟨x,hx,k⟩=>⟨x,hx,jT a k⟩
 | .byte l i,⟨c,hc,k⟩=>⟨c,hc,a _ _ k⟩
 | .text xs,⟨l,hl,hm,k⟩=>⟨l,hl,hm,a _ _ k⟩
 | .find es key f,⟨o,ho,k⟩=>⟨o,ho,jT a k⟩
 | .born x v,k=>a _ _ k
 | .upd i x v,k=>a _ _ k
 | .nilq xs neg,k=>fun b e=>a _ _ (k b e)
 | .call f args,k=>CallG.mono a k
 | .pan v,k=>k
theorem rS {a:List AObj} {base:Nat} {K Kp:AVal->List AObj->Prop} (b:base=aP obs) (hs:a=obs):∀ {r:OR},orD P true true false a obs base K Kp r->orF P obs K Kp r
 | .no,k=>k.elim
 | .val v,k=>k
 | .mkf fn fs cs,k=>k
 | .need p r,k=>⟨k.1,rS b hs k.2⟩
 | .alt p v w,k=>k
 | .idx n f,⟨i,hi,k⟩=>⟨i,hi,rS b hs k⟩
 | .elem xs i f,⟨x,hx,k⟩=>⟨x,hx,rS b hs k⟩
 | .byte l i,k=>k
 | .text xs,k=>k
 | .find es key f,⟨o,ho,k⟩=>⟨o,ho,rS b hs k⟩
 | .born x v,k=>by rw [b] at k;exact k
 | .upd i x v,k=>k
 | .nilq xs neg,k=>k
 | .call f args,k=>by
  have k:CallD P f args true a base obs K Kp:=k
  cases k with
  | pure r new h k=>subst b hs;exact .eff [] [] r new rfl h k
  | sole _ h=>exact h
 | .pan v,k=>k
end
section
variable {rd:Option Nat} {M0:Imm} {ob0:Hs} {obs0:List AObj} {w0:World} {sz:Nat} {dfs:List (Nat×List AVal)} {E:Env} {ops:Array Oper} {Q:Exit->Act->World->Prop} {K:List (Nat×AVal)->List AObj->Prop} {Kp:(Nat->AVal)->AVal->List AObj->Prop}
def EK (M:Imm) (ob:Hs) (a:List Deferred) (dfs:List (Nat×List AVal)):Prop:=
 a.length=dfs.length/\∀ (i:Nat) d x,a[i]? =some d->dfs[i]? =some x->d.target= .fn (.func x.1) #[]/\cA M ob d.args.toList x.2
theorem EK.nil {M:Imm} {ob:Hs}:EK M ob [] []:=⟨rfl,fun i d x h=>by simp at h⟩
theorem EK.nil_inv {M:Imm} {ob:Hs} {a:List Deferred} (h:EK M ob a []):a=[]:=Av h.1
theorem EK.mono {M M':Imm} {ob ob':Hs} {f:List Deferred} {dfs:List (Nat×List AVal)} (k:∀ b o x,M b o x->M' b o x) (g:dE ob ob') (h:EK M ob f dfs):EK M' ob' f dfs:=
 ⟨h.1,fun i d x c e=>⟨(h.2 i d x c e).1,(h.2 i d x c e).2.1,fun j v a l m=>((h.2 i d x c e).2.2 j v a l m).mono k g⟩⟩
theorem EK.monoA {M:Imm} {ob ob':Hs} {e:List Deferred} {dfs:List (Nat×List AVal)} (f:∀ (k g:Nat) v,at' ob k g=some v->at' ob' k g=some v) (h:EK M ob e dfs):EK M ob' e dfs:=
 ⟨h.1,fun i d x b c=>⟨(h.2 i d x b c).1,(h.2 i d x b c).2.1,fun j v a l m=>((h.2 i d x b c).2.2 j v a l m).monoA f⟩⟩
def Mks (w0 w:World):List Deferred->Prop
 | []=>True
 | d::ds=>(∃ b,d.target= .collected b/\w0.heap.size<=b/\w.heap[b]? =some (.deferred (some []))/\∀ a∈ds,a.target≠ .collected b)/\Mks w0 w ds
theorem Mks.same {w0 w w':World}:∀ {a:List Deferred},(∀ d∈a,∀ b,d.target= .collected b->w.heap[b]? =some (.deferred (some []))->w'.heap[b]? =some (.deferred (some [])))->Mks w0 w a->Mks w0 w' a
 | [],_,_=>trivial
 | d::a,hb,⟨⟨b,h1,h2,h3,h4⟩,h5⟩=>⟨⟨b,h1,h2,hb d s_ b h1 h3,h4⟩,Mks.same (fun d c=>hb d (by simp [c])) h5⟩
def cQ (w0 w:World) (M:Imm) (ob:Hs) (c:List Deferred) (dfs:List (Nat×List AVal)):Prop:=∃ b a,c=b++a/\EK M ob b dfs/\Mks w0 w a
theorem Mem.alive_heap {M:Imm} {ob:Hs} {obs:List AObj} {w:World} (hm:Mem M ob obs w) {k b:Nat} (s:aM ob obs k b):∃ o,w.heap[b]? =some o/\CW o=false:=by
 obtain ⟨c,hs,t,i,q,f⟩:=s
 obtain ⟨hs',j,a⟩:=hm.obj k c t
 rw [q] at j
 cases j
 have row:∀ {v:Value} {n sz:Nat} {e:TypeId} {cv:List Value},w.ownsRow 0 e sz v n cv->blk hs=v.ownBlock.toList->∃ o,w.heap[b]? =some o/\CW o=false:=fun {v n sz e cv} ho hb=>by
  have h:=vF hb f
  rcases ho.2 with ⟨rfl,_⟩ | ⟨g,cap,m,p,_,l,_⟩
  .cases h
  .rw [p] at h
   cases h
   exact ⟨_,l,rfl⟩
 cases c with
 | dead=>cases i
 | fcells cs=>cases i
 | frow g sz xs=>cases i
 | cells T cs=>
  obtain ⟨r,rfl,_,cv,d,_⟩:=a
  have:=dX.1 f
  subst this
  exact ⟨_,d,rfl⟩
 | row g sz e xs=>
  obtain ⟨h1,v,d,cv,h3,_⟩:=a
  exact row h3 ((eB h1 d).trans (eG h3))
 | tail g sz e=>
  obtain ⟨h1,v,d,n,cv,h3,_⟩:=a
  exact row h3 ((eB h1 d).trans (eG h3))
 | mp x es=>
  obtain ⟨r,rfl,_,y,u,d,_⟩:=a
  have:=dX.1 f
  subst this
  exact ⟨_,d,rfl⟩
 | bun g I=>
  obtain ⟨h1,bs,d,h3,_⟩:=a
  have e:blk hs=bs:=by rw [<-AU (hs:=[eZ bs]) rfl];exact eB h1 d
  rw [e] at f
  exact h3 b f
theorem cQ.nil {w0 w:World} {M:Imm} {ob:Hs}:cQ w0 w M ob [] []:=⟨[],[],rfl,.nil,trivial⟩
theorem cQ.marks {w0 w:World} {M:Imm} {ob:Hs} {a:List Deferred} (h:cQ w0 w M ob a []):Mks w0 w a:=by
 obtain ⟨d,c,rfl,h1,b⟩:=h
 rw [h1.nil_inv];exact b
theorem cQ.bare {w0 w:World} {M M':Imm} {ob ob':Hs} {a:List Deferred} (h:cQ w0 w M ob a []):cQ w0 w M' ob' a []:=⟨[],a,rfl,.nil,h.marks⟩
theorem cQ.mono {w0 w:World} {M M':Imm} {ob ob':Hs} {a:List Deferred} {dfs:List (Nat×List AVal)} (d:∀ b o x,M b o x->M' b o x) (c:dE ob ob') (h:cQ w0 w M ob a dfs):cQ w0 w M' ob' a dfs:=
 let ⟨d1,d2,e,h1,h2⟩:=h;⟨d1,d2,e,h1.mono d c,h2⟩
theorem cQ.monoA {w0 w:World} {M:Imm} {ob ob':Hs} {a:List Deferred} {dfs:List (Nat×List AVal)} (b:∀ (k g:Nat) v,at' ob k g=some v->at' ob' k g=some v) (h:cQ w0 w M ob a dfs):cQ w0 w M ob' a dfs:=
 let ⟨d1,d2,e,h1,h2⟩:=h;⟨d1,d2,e,h1.monoA b,h2⟩
theorem cQ.put {w0 w:World} {M:Imm} {ob:Hs} {a:Act} {d:Option Nat} {u:Value} {dfs:List (Nat×List AVal)} (h:cQ w0 w M ob a.defers dfs):cQ w0 w M ob (a.put d u).defers dfs:=by rw [(eW a d u).2];exact h
theorem cQ.same {w0 w w':World} {M:Imm} {ob:Hs} {a:List Deferred} {dfs:List (Nat×List AVal)} (c:w'.heap=w.heap) (h:cQ w0 w M ob a dfs):cQ w0 w' M ob a dfs:=
 let ⟨d1,d2,e,h1,h2⟩:=h;⟨d1,d2,e,h1,h2.same fun d _ b _ h=>by grind⟩
theorem cQ.ext {w0 w w':World} {M M':Imm} {ob ob':Hs} {obs obs':List AObj} {f:List Deferred} {dfs:List (Nat×List AVal)} (h:cQ w0 w M ob f dfs) (hm:Mem M ob obs w) (a:Ext M ob obs w M' ob' obs' w'):cQ w0 w' M' ob' f dfs:=
 let ⟨d1,d2,e,h1,h2⟩:=h
 ⟨d1,d2,e,h1.mono a.imm a.hs,h2.same fun d _ b _ h=>by
  rw [a.keep b (eU h) fun k i=>by
   obtain ⟨o,c,g⟩:=hm.alive_heap i
   rw [h] at c
   cases c
   cases g]
  exact h⟩
def SS (M0:Imm) (ob0:Hs) (obs0:List AObj) (w0:World) (sz:Nat) (dfs:List (Nat×List AVal)) (fr:List (Nat×AVal)) (obs:List AObj) (a:Act) (w:World):Prop:=
 ∃ M ob,Ext M0 ob0 obs0 w0 M ob obs w/\Mem M ob obs w/\(∀ t,Rep M ob (a.tmps.getD t undef) (aW fr t))/\a.tmps.size=sz/\cQ w0 w M ob a.defers dfs/\ob0.length<=obs.length
def PP (M0:Imm) (ob0:Hs) (obs0:List AObj) (w0:World) (sz:Nat) (dfs:List (Nat×List AVal)) (b:Nat->AVal) (v:AVal) (obs:List AObj) (c:List PanicEntry) (a:Act) (w:World):Prop:=
 ∃ M ob,Ext M0 ob0 obs0 w0 M ob obs w/\Mem M ob obs w/\yD M ob (.panicked c) (.pan v)/\(∀ t,Rep M ob (a.tmps.getD t undef) (b t))/\a.tmps.size=sz/\cQ w0 w M ob a.defers dfs/\ob0.length<=obs.length
theorem Ext.lens {M M':Imm} {ob ob':Hs} {L L':List AObj} {w w':World} (a:Ext M ob L w M' ob' L' w'):ob.length<=ob'.length:=by
 rcases Fm ob.length with h | h
 .omega
 .obtain ⟨hs',e,_⟩:=a.hs (ob.length-1) _ (Ab o_)
  grind
theorem mQ {P:Program} {hint base:Nat} {obs:List AObj} {ρ:Operand->AVal} {op:Op} {ty:TypeId} {K Kp:AVal->List AObj->Prop} (h:orF P obs K Kp (eop E hint base (aE obs) ρ op ty)):∀ c,op≠ .defer c:=by
 intro c e
 subst e
 exact h.elim
theorem K5 (hE:EnvOK E) {fr:List (Nat×AVal)} {obs:List AObj} {a:Act} {w:World} (hs:SS M0 ob0 obs0 w0 sz dfs fr obs a w) {p:Oper} (y:∀ d,p.dst=some d->d<sz) {hint:Nat}
  (h:match cC ops.toList (ev fr) p.guard with
   | none=>False
   | some false=>K (mX fr p.dst (.tup [])) obs
   | some true=>orF E.P obs (fun v obs=>K (mX fr p.dst v) obs) (Kp (aW fr)) (eop E hint (aP obs) (aE obs) (ev fr) p.op p.type))
  (hp:∀ v obs j w,Kp (aW fr) v obs->PP M0 ob0 obs0 w0 sz dfs (aW fr) v obs j a w->Q (.panic j) a w):
  G rd E.P ops p a w (fun a w=>∃ fr obs,K fr obs/\SS M0 ob0 obs0 w0 sz dfs fr obs a w) Q:=by
 obtain ⟨M,ob,x,hm,m,f,i,A⟩:=hs
 have k:=DL m
 have hl:=hm.len
 unfold G
 cases z:cC ops.toList (ev fr) p.guard with
 | none=>simp_all
 | some b=>
  rw [z] at h
  rw [hC k z]
  cases b with
  | false=>
   rw [if_neg s_]
   refine ⟨_,obs,h,M,ob,x,hm,?_,(eW _ _ _).1.trans f,i.put,A⟩
   rw [fG]
   exact nD m wU fun q e=>f▸y q e
  | true=>
   rw [if_pos rfl]
   have s:∀ c,p.op≠ .defer c:=mQ h
   refine (AF hE hm k h).wpIn s (fun u w' ⟨M',ob',L',g,l,n⟩=>?_) (fun j w' ⟨M',ob',L',g,l,n⟩=>?_)
   .rcases n with ⟨C,v,e,r,o⟩ | ⟨j,v,e,_⟩
    .cases e
     have:=g.lens
     have:=l.len
     refine ⟨_,L',o,M',ob',x.trans g,l,?_,(eW _ _ _).1.trans f,(i.ext hm g).put,by omega⟩
     rw [fG]
     exact nD (fun t=>(m t).mono g.imm g.hs) r fun q e=>f▸y q e
    .cases e
   .rcases n with ⟨C,v,e,_⟩ | ⟨B,v,e,r,o⟩
    .cases e
    .cases e
     have:=g.lens
     have:=l.len
     exact hp v L' j w' o ⟨M',ob',x.trans g,l,r,fun t=>(m t).mono g.imm g.hs,f,i.ext hm g,by omega⟩
theorem wk {l:List Oper} {p:Oper} {a:Act} {w:World} {next:Act->World->Prop} (b:G rd E.P ops p a w next Q) (d:∀ a w,next a w->wpListIn (fen rd) 0 E.P ops Q l a w):wpListIn (fen rd) 0 E.P ops Q (p::l) a w:=by
 unfold wpListIn
 unfold G at b
 split
 .rename_i c;rw [if_pos c] at b;exact Oper.wpIn_mono d b
 .rename_i c;rw [if_neg c] at b;exact ⟨fun _ _=>trivial,d _ _ b⟩
theorem rD (hE:EnvOK E) (hp:∀ g v obs c a w,Kp g v obs->PP M0 ob0 obs0 w0 sz dfs g v obs c a w->Q (.panic c) a w) (j:∀ fr obs a w,K fr obs->SS M0 ob0 obs0 w0 sz dfs fr obs a w->Q .normal a w):
  ∀ (l:List Oper) (n:Nat) (fr:List (Nat×AVal)) (obs:List AObj) (a:Act) (w:World),(∀ p∈l,∀ d,p.dst=some d->d<sz)->eM E ops.toList K Kp n l fr obs->SS M0 ob0 obs0 w0 sz dfs fr obs a w->wpListIn (fen rd) 0 E.P ops Q l a w
 | [],n,fr,obs,a,w,_,h,hs=>j fr obs a w h hs
 | p::l,n,fr,obs,a,w,hd,h,hs=>by
  refine wk (K5 (K:=fun fr obs=>eM E ops.toList K Kp (n+1) l fr obs) (Kp:=Kp) (hint:=eT E p.dst) hE hs (hd p s_) ?_ fun v obs c w f i=>hp (aW fr) v obs c a w f i) fun m w' ⟨e,obs',f,hs'⟩=>rD hE hp j l (n+1) e obs' m w' (fun p hp=>hd p (by simp [hp])) f hs'
  simp only [eM] at h
  cases k:cC ops.toList (ev fr) p.guard with
  | none=>grind
  | some b=>
   rw [k] at h
   cases b with
   | false=>exact h
   | true=>
    exact jT (fun v o h=>uG h) h
end
section
variable {rd:Option Nat} {M0:Imm} {ob0:Hs} {obs0:List AObj} {w0:World} {sz:Nat} {dfs:List (Nat×List AVal)} {E:Env} {ops:Array Oper} {Q:Exit->Act->World->Prop} {K:AS->Prop} {Kp:(Nat->AVal)->AVal->List AObj->Prop} {L0:Nat} {tab:List Nat}
theorem EO {P:Program} {og b:Nat->AObj} {hint base a:Nat} {ρ:Operand->AVal} {op:Op} {ty:TypeId} {z:AVal} {bs:List AObj} (h:gC P b a z bs (eop E hint base og ρ op ty)):∀ c,op≠ .defer c:=by
 intro c e
 subst e
 exact h.elim
theorem H9 {og:Nat->AObj} {hint base k:Nat} {ρ:Operand->AVal} {op:Op} {ty:TypeId} {z:AVal} {x:AObj} (h:IA z k x (eop E hint base og ρ op ty)):∀ c,op≠ .defer c:=by
 intro c e
 subst e
 exact h.elim
def DS (M0:Imm) (ob0:Hs) (obs0:List AObj) (w0:World) (sz:Nat) (dfs:List (Nat×List AVal)) (L0:Nat) (s:AS) (a:Act) (w:World):Prop:=
 ∃ M ob L,Ext M0 ob0 obs0 w0 M ob L w/\Mem M ob L w/\aE L=s.o/\(∀ t,Rep M ob (a.tmps.getD t undef) (s.g t))/\a.tmps.size=sz/\cQ w0 w M ob a.defers dfs/\ob0.length<=L0/\
  ∀ (k:Nat),L0<=k->(∀ i,¬ s.br i k)->∀ hs,ob[k]? =some hs->hs=[]
theorem aGy (hE:EnvOK E) (hd:∀ (i:Nat) p,ops[i]? =some p->∀ d,p.dst=some d->d<sz) (hp:∀ g v obs D a w,Kp g v obs->PP M0 ob0 obs0 w0 sz dfs g v obs D a w->Q (.panic D) a w)
  {s:AS} {a:Act} {w:World} (hs:DS M0 ob0 obs0 w0 sz dfs L0 s a w) {i:Nat} (h:aOp E ops tab L0 Kp i K s):wpOpIn (fen rd) 0 E.P ops Q i (fun a w=>∃ s',K s'/\DS M0 ob0 obs0 w0 sz dfs L0 s' a w) a w:=by
 obtain ⟨p,hi,h⟩:=h
 have A:=hd i p hi
 suffices hg:G rd E.P ops p a w (fun a w=>∃ s',K s'/\DS M0 ob0 obs0 w0 sz dfs L0 s' a w) Q by
  unfold wpOpIn
  rw [hi]
  dsimp only
  unfold G at hg
  split
  .rename_i o;rw [if_pos o] at hg;exact hg
  .rename_i o;rw [if_neg o] at hg;exact ⟨fun _ _=>trivial,hg⟩
 obtain ⟨M,ob,L,X,hm,I,H,j,q,W,b⟩:=hs
 have l:∀ x,Rep M ob (a.eval x) (evG tab ops.toList i s.g x):=aGi H
 have skip:∀ {base:Nat},K (s.upd i p.dst (.tup []) base [])->Fg p (yielded ops a.tmps)=false->G rd E.P ops p a w (fun a w=>∃ s',K s'/\DS M0 ob0 obs0 w0 sz dfs L0 s' a w) Q:=fun {base} m o=>by
  unfold G
  rw [if_neg (by rw [o];simp)]
  refine ⟨_,m,?_⟩
  rw [AC]
  exact ⟨M,ob,L,X,hm,I,nD H wU fun F e=>j▸A F e,(eW _ _ _).1.trans j,q.put,W,b⟩
 rcases h with ⟨_,z,base,bs,⟨y,_,hy⟩,hfr,m⟩ | ⟨_,z,base,k,x,⟨⟨y,hbr⟩,o,N,c⟩,m⟩ | ⟨_,obs,hoo,hl0,R,hlt,hy⟩
 .rcases hy with ⟨o,rfl,rfl⟩ | ⟨o,c⟩
  .exact skip m (hC l o)
  .unfold G
   rw [hC l o,if_pos rfl]
   obtain ⟨hid,n⟩:∃ hid,aE (dH hid L)=lF E tab i p.dst s:=by
    cases hbl:blD E p.dst with
    | true=>exact ⟨fun _=>True,by rw [fR];unfold lF;rw [if_pos hbl];simp⟩
    | false=>exact ⟨QQ tab i s.br,by rw [fR,I];unfold lF;rw [if_neg q_];rfl⟩
   rw [<-n] at c
   refine (aJW hE hm l (fun k m=>b k (Co y m.1) (hfr k m)) c).wpIn (EO c) (fun u w' ⟨M',ob',L',S,e,f,r,B,x4,x5,x6⟩=>?_) (fun D w' ⟨M',ob',L',S,e,_⟩=>by cases e)
   cases e
   refine ⟨_,m,M',ob',L',X.trans f,r,?_,nD (fun t=>(H t).mono f.imm f.hs) x5 fun F e=>j▸A F e,(eW _ _ _).1.trans j,(q.ext hm f).put,W,fun k h1 C hs U=>?_⟩
   .rw [B,I];rfl
   .have T:¬ inB base bs.length k:=fun h=>C i (.inr ⟨rfl,h⟩)
    exact x6 k T (b k h1 fun i' y=>C i' (.inl y)) hs U
 .unfold G
  rw [hC l o,if_pos rfl]
  have n:aE (dH (QQ tab i s.br) L)=nO tab i s:=by
   rw [fR,I]
   rfl
  rw [<-n] at c N
  refine (aGz hE hm l (b base y hbr) N c).wpIn (H9 c) (fun u w' ⟨M',ob',L',S,e,f,r,B,x4,x5,x6⟩=>?_) (fun D w' ⟨M',ob',L',S,e,_⟩=>by cases e)
  cases e
  refine ⟨_,m,M',ob',L',X.trans f,r,?_,nD (fun t=>(H t).mono f.imm f.hs) x5 fun F e=>j▸A F e,(eW _ _ _).1.trans j,(q.ext hm f).put,W,fun k' h1 C hs U=>x6 k' (b k' h1 C) hs U⟩
  rw [B,I]
  rfl
 .rcases hy with ⟨o,m⟩ | ⟨o,O⟩
  .exact skip m (hC l o)
  .unfold G
   rw [hC l o,if_pos rfl]
   have hof:=bI obs
   obtain ⟨Y,n1,n2,n3⟩:=hm.norm (obs:=obs) (I.trans hoo.symm) fun k m=>b k o_ fun i y=>by have:=hlt i k y;omega
   have J:∀ x,Rep M Y (a.eval x) (evG tab ops.toList i s.g x):=fun x=>(l x).monoA n2
   have V:=n3 X o_
   refine (AF hE n1 J (rS rfl rfl O)).wpIn (mQ (rS rfl rfl O)) (fun u w' ⟨M',ob',L',f,r,B⟩=>?_) (fun D w' ⟨M',ob',L',f,r,B⟩=>?_)
   .rcases B with ⟨S,v,e,Z,m⟩ | ⟨D,v,e,_⟩
    .cases e
     have l1:=f.lens
     have l2:=r.len
     have l3:=n1.len
     have hle:aP obs<=aP L':=by rw [bI,bI];omega
     refine ⟨_,m hle,M',ob',L',V.trans f,r,rfl,nD (fun t=>((H t).monoA n2).mono f.imm f.hs) Z fun F e=>j▸A F e,(eW _ _ _).1.trans j,((q.monoA n2).ext n1 f).put,W,fun k h1 C hs U=>?_⟩
     have hk1:k<aP L':=by rw [bI,<-l2];exact (Ad.1 U).1
     by_cases hk2:k<aP obs
     .obtain ⟨i',y⟩:=R k h1 hk2
      exact absurd (.inl y) (C i')
     .exact absurd (.inr ⟨rfl,by omega,hk1⟩) (C i)
    .cases e
   .rcases B with ⟨S,v,e,_⟩ | ⟨ch',v,e,Z,m⟩
    .cases e
    .cases e
     have l1:=f.lens
     have l2:=r.len
     have l3:=n1.len
     exact hp _ v L' D a w' m ⟨M',ob',V.trans f,r,Z,fun t=>((H t).monoA n2).mono f.imm f.hs,j,(q.monoA n2).ext n1 f,by omega⟩
theorem oI (hE:EnvOK E) (k:∀ (i:Nat) p,ops[i]? =some p->∀ d,p.dst=some d->d<sz) (hp:∀ g v obs q a w,Kp g v obs->PP M0 ob0 obs0 w0 sz dfs g v obs q a w->Q (.panic q) a w) {m:AS->Prop}
  (e:∀ s a w,m s->DS M0 ob0 obs0 w0 sz dfs L0 s a w->Q .normal a w):
  ∀ (b:Nat) (c:Array Bool) (s:AS) (a:Act) (w:World),wpA E ops tab L0 Kp m b c s->DS M0 ob0 obs0 w0 sz dfs L0 s a w->wpAnyIn (fen rd) 0 E.P .any ops Q b c a w
 | 0,_,_,_,_,h,hs=>⟨h.1,e _ _ _ h.2 hs⟩
 | b+1,_,_,_,_,h,hs=>⟨fun r=>e _ _ _ (h.1 r) hs,fun i t=>by
   have:=aGy (rd:=rd) (K:=wpA E ops tab L0 Kp m b _) hE k hp hs (h.2 i t)
   unfold wpOpIn at this⊢
   cases n:ops[i]? with
   | none=>rw [n] at this;obtain ⟨s',j,f⟩:=this;exact oI hE k hp e b _ s' _ _ j f
   | some o=>
    rw [n] at this
    dsimp only at this⊢
    split
    .rename_i l
     rw [if_pos l] at this
     exact Oper.wpIn_mono (fun a w ⟨s',j,f⟩=>oI hE k hp e b _ s' a w j f) this
    .rename_i l
     rw [if_neg l] at this
     obtain ⟨_,s',j,f⟩:=this
     exact ⟨fun _ _=>trivial,oI hE k hp e b _ s' _ _ j f⟩⟩
theorem DS.of {fr:List (Nat×AVal)} {obs:List AObj} {a:Act} {w:World} (h:SS M0 ob0 obs0 w0 sz dfs fr obs a w):DS M0 ob0 obs0 w0 sz dfs obs.length (jE fr obs []) a w:=by
 obtain ⟨M,ob,e,hm,f,c,b,d⟩:=h
 exact ⟨M,ob,obs,e,hm,rfl,f,c,b,d,fun k i _ hs g=>by
  have:=(Ad.1 g).1
  rw [hm.len] at this
  omega⟩
theorem DS.back {fr:List (Nat×AVal)} {obs:List AObj} {br:List (Nat×Nat)} {n:Nat} {a:Act} {w:World} (f:LI L0 n obs br) (h:DS M0 ob0 obs0 w0 sz dfs L0 (jE fr obs br) a w):SS M0 ob0 obs0 w0 sz dfs fr obs a w:=by
 obtain ⟨M,ob,L,p,hm,l,m,e,c,r,b⟩:=h
 have o:=bI obs
 have g:=f.low
 obtain ⟨d,n1,n2,q⟩:=hm.norm (obs:=obs) l fun k s=>b k o_ fun i j=>by have:=(f.lt i k j).1;omega
 exact ⟨M,d,q p o_,n1,fun t=>(m t).monoA n2,e,c.monoA n2,by omega⟩
theorem SS.draw {fr:List (Nat×AVal)} {obs:List AObj} {a:Act} {w:World} (h:SS M0 ob0 obs0 w0 sz dfs fr obs a w):SS M0 ob0 obs0 w0 sz dfs fr obs a {w with drawn:=w.drawn+1}:=by
 obtain ⟨M,ob,b,hm,f,d,c,e⟩:=h
 exact ⟨M,ob,⟨b.imm,b.new,b.hs,b.os,b.tape,b.output,b.size,b.keep,b.fresh⟩,hm.same (Ba _) fun _ _=>rfl,f,d,cQ.same (w:=w) rfl c,e⟩
theorem PU (hE:EnvOK E) {id:Nat} (y:TabSp ops tab) (x:∀ (i:Nat) p,ops[i]? =some p->∀ d,p.dst=some d->d<sz) {Kq:List (Nat×AVal)->List AObj->Prop}
  (hp:∀ g v obs q a w,Kp g v obs->PP M0 ob0 obs0 w0 sz dfs g v obs q a w->Q (.panic q) a w) (r:∀ fr obs a w,Kq fr obs->SS M0 ob0 obs0 w0 sz dfs fr obs a w->Q .normal a w)
  {fr:List (Nat×AVal)} {obs:List AObj} {a:Act} {w:World} (hs:SS M0 ob0 obs0 w0 sz dfs fr obs a w) (h:iN E ops.toList tab Kq Kp 0 ops.toList [] fr obs):(Code.region id ops true).wpIn (fen rd) 0 E.P Q a w:=by
 refine wpIn_region_any hE.mix ?_
 have b:∀ j,j<ops.size->(Fw ops.size false)[j]? =some (decide (j<0)):=by intro j t;simp [t]
 have m:(Fw ops.size false).size=ops.size:=by simp
 have c:ops.toList.length=ops.size:=by simp
 have u:LI obs.length 0 obs []:=⟨by rw [bI];omega,fun k h1 z=>by rw [bI] at z;omega,fun i k n=>by simp at n⟩
 have:=aFC y ops.toList 0 _ [] fr obs rfl b m u h
 rw [c] at this
 exact oI hE x hp (fun s a w ⟨f,obs',A,B,e,o,n⟩ l=>r f obs' a w n (DS.back o (e▸l))) _ _ _ _ _ this (DS.of hs.draw)
end
def KI.item:KI->Item
 | .code c=>.code c
 | .inB id=>.inBlock id
 | .inL c=>.inLoop c
 | .beginR=>.beginRound
def gH (ks:List KI):List Item:=ks.map KI.item
theorem aCE (rd:Option Nat) (n:Nat):(fen rd).room n:=fun d h=>by cases h
theorem iY (P:Program) (rd:Option Nat) (m:Machine):m.fenced P (fen rd):=fenced_wide P m
def KW (rd:Option Nat) (P:Program) (Q:Exit->Act->World->Prop) (ks:List KI) (a:Act) (w:World):Prop:=
 ∀ (b:Frame) (cs:List Frame),b.roundOf=rd->∃ e c w',Q e c w'/\ArrivesIn (Machine.fenced P (fen rd)) P (lone (b.atR a (gH ks)) cs w) b [] cs e c w'
section
variable {rd:Option Nat} {P:Program} {Q:Exit->Act->World->Prop} {ks ks':List KI} {a:Act} {w:World}
theorem KW.nil (h:Q .normal a w):KW rd P Q [] a w:=fun _ _ _=>⟨.normal,a,w,h,.refl _⟩
theorem KW.step (hs:∀ (b:Frame) cs,Go.step P (lone (b.atR a (gH ks)) cs w)= .next (lone (b.atR a (gH ks')) cs w)) (h:KW rd P Q ks' a w):KW rd P Q ks a w:=
 fun b cs c=>let ⟨e,a',w',q,r⟩:=h b cs c;⟨e,a',w',q,.of_steps (.one (iY _ _ _) (hs b cs)) r⟩
theorem KW.ret (h:Q .ret a w):KW rd P Q (.code .ret::ks) a w:=fun b _ _=>⟨.ret,a,w,h,fun c=>⟨_,.one (iY _ _ _) (stepR_ret c)⟩,fun _=>⟨gH ks,.refl _⟩⟩
theorem KW.code {c:Code} {Q':Exit->Act->World->Prop} (h:c.wpIn (fen rd) 0 P Q' a w) (h1:∀ a w,Q' .normal a w->KW rd P Q ks a w) (i:∀ d a w,Q' (.panic d) a w->Q (.panic d) a w)
  (h3:∀ e a w,Q' e a w->e= .normal\/∃ d,e= .panic d):KW rd P Q (.code c::ks) a w:=by
 intro b cs g
 obtain ⟨e,f,w',q,r⟩:=h b (gH ks) cs g trivial (aCE _ _)
 rcases h3 e f w' q with rfl | ⟨d,rfl⟩
 .obtain ⟨m,j,n,k,l⟩:=h1 f w' q b cs g
  exact ⟨m,j,n,k,.of_steps r l⟩
 .exact ⟨.panic d,f,w',i d f w' q,r⟩
theorem KW.arrives (h:KW none P Q ks a w) (b:Frame) (cs:List Frame) (d:b.roundOf=none):∃ e c w',Q e c w'/\Arrives P (lone (b.at a (gH ks)) cs w) b [] cs e c w':=by
 obtain ⟨e,c,w',q,r⟩:=h b cs d
 rw [Frame.atR_of_none d] at r
 exact ⟨e,c,w',q,(arrivesIn_iff (I:=Machine.fenced P Fence.wide) (fun _ _=>stepsIn_wide) d).1 r⟩
theorem lT {id:Nat}:∀ (ks ks':List KI),DK id ks=some ks'->exitTo id (gH ks)=some (gH ks')
 | [],ks',h=>by cases h
 | .inB i::r,ks',h=>by
  simp only [DK] at h
  simp only [gH,Bp,KI.item,exitTo]
  cases b:Ar i id with
  | true=>
   simp_all
  | false=>
   rw [b] at h
   have a:¬ (i==id)=true:=fun e=>by
    simp_all
   rw [if_neg a]
   exact lT r ks' h
 | .code c::r,ks',h=>lT r ks' h
 | .inL c::r,ks',h=>lT r ks' h
 | .beginR::r,ks',h=>lT r ks' h
end
def JL:Nat->List Oper->Bool
 | _,[]=>true
 | n,p::r=>(gU p).all (fun i=>Fi i n)&&JL (n+1) r
def NW (tab:List Nat) (i:Nat) (d:Nat):Nat->List Oper->Bool
 | _,[]=>true
 | j,q::r=>(match q.dst with | some e=>!Ar e d|| !loose tab i j | none=>true)&&NW tab i d (j+1) r
def aGx (tab:List Nat) (all:List Oper):Nat->List Oper->Bool
 | _,[]=>true
 | i,p::r=>(match p.dst with | some d=>NW tab i d 0 all | none=>true)&&aGx tab all (i+1) r
def LL (ops:Array Oper):Bool:=JL 0 ops.toList&&aGx (iP [] ops.toList) ops.toList 0 ops.toList
def aHF (sz:Nat) (l:List Oper):Bool:=l.all fun p=>match p.dst with | some d=>Fi d sz | none=>true
def dB (sz:Nat):Code->Bool
 | .region _ ops dr=>aHF sz ops.toList&&(!dr||LL ops)
 | .seq a b=>dB sz a&&dB sz b
 | .cond _ a b=>dB sz a&&dB sz b
 | .block _ b=>dB sz b
 | .loop b=>dB sz b
 | _=>true
def KI.ok (sz:Nat):KI->Bool
 | .code c=>dB sz c
 | .inL c=>dB sz c
 | .inB _=>true
 | .beginR=>true
def bF (sz:Nat):List KI->Bool
 | []=>true
 | k::r=>k.ok sz&&bF sz r
theorem qX {sz id:Nat}:∀ (ks ks':List KI),DK id ks=some ks'->bF sz ks=true->bF sz ks'=true
 | [],ks',h,_=>by cases h
 | .inB i::r,ks',h,ho=>by
  simp only [DK] at h
  simp only [bF,Ag] at ho
  cases a:Ar i id with
  | true=>grind
  | false=>rw [a] at h;exact qX r ks' h ho.2
 | .code c::r,ks',h,ho=>qX r ks' h (by simp only [bF,Ag] at ho;exact ho.2)
 | .inL c::r,ks',h,ho=>qX r ks' h (by simp only [bF,Ag] at ho;exact ho.2)
 | .beginR::r,ks',h,ho=>qX r ks' h (by simp only [bF,Ag] at ho;exact ho.2)
def Goal.res:Goal->Res
 | .pure r=>r
 | .full _ r _=>r
 | .keep _ r _=>r
def Goal.obs:Goal->List AObj
 | .pure _=>[]
 | .full _ _ o=>o
 | .keep _ _ o=>o
def Goal.strict:Goal->Bool
 | .keep _ _ _=>false
 | _=>true
def RR (M0:Imm) (ob0:Hs) (obs0:List AObj) (w0:World) (g:Goal) (e:Ending) (w':World):Prop:=∃ M' ob',Ext M0 ob0 obs0 w0 M' ob' g.obs w'/\Mem M' ob' g.obs w'/\yD M' ob' e g.res
def eV (P:Program) (fn:Func) (tmps:Array Value) (R:Ending->World->Prop):List Deferred->FrameMode->World->Prop
 | [],u,w=>Leaves P fn tmps R [] u w
 | d::ds,u,w=>u≠ .run/\((∃ r w',d.target= .collected r/\(Instr.takeDeferred r).run P w= .ok [] w'/\eV P fn tmps R ds u w')\/
   ∃ fv cap f args,d.target= .fn fv cap/\(invoke d.target d.args).run P w= .ok (.enter f args) w/\
   CallsD P f args u w fun
    | .returned _,u',w'=>eV P fn tmps R ds (settle u') w'
    | .panicked eM,u',w'=>eV P fn tmps R ds (raised u' eM) w'
    | .outgrown,_,w'=>R .outgrown w')
theorem fF {P:Program} {fn:Func} {tmps:Array Value} {R:Ending->World->Prop}:∀ (n:List Deferred) (u:FrameMode) (w:World) (fr:Frame)
  (cs:List Frame),fr.mode=u->fr.defers=n->fr.tmps=tmps->P.funcs[fr.fn]? =some fn->eV P fn tmps R n u w->
  ∃ e w' a,R e w'/\Comes P (lone fr cs w) (lone a cs w') e/\a.fn=fr.fn/\a.kind=fr.kind/\a.going P w' e:=by
 intro n
 induction n with
 | nil=>
  intro u w fr cs t B C y h
  cases u with
  | run=>exact h.elim
  | returning=>
   obtain ⟨v,K,z⟩:=h
   exact ⟨.returned v,w,fr,z,Steps.refl P _,rfl,rfl,t,B,fn,y,C▸K⟩
  | panicking eM=>exact ⟨.panicked eM,w,fr,h,Steps.refl P _,rfl,rfl,t,B,fn,y⟩
 | cons d n I=>
  intro u w fr cs t B C y h
  obtain ⟨o,⟨r,w',l,q,s⟩ | ⟨fv,cap,f,args,l,F,x⟩⟩:=h
  .have h1:=step_collected (cs:=cs) (t▸o) B l q
   obtain ⟨D,k,a,m,hs',g,i,j⟩:=I u w' {fr with defers:=[]++n} cs t rfl C y s
   exact ⟨D,k,a,m,Comes.of_steps (.one h1) hs',g,i,j⟩
  have h1:=step_defer (cs:=cs) (t▸o) B l F
  obtain ⟨e,p,w',J,z,b,H,A⟩:=x {fr with defers:=n} cs t
  cases e with
  | returned v=>
   have G:=step_going_returned (c:={{fr with defers:=n} with mode:=p}) (cs:=cs) H A
   obtain ⟨D,k,a,m,hs',g,i,j⟩:=I (settle p) w' {{{fr with defers:=n} with mode:=p} with mode:=settle p} cs rfl rfl C y z
   exact ⟨D,k,a,m,Comes.of_steps (.head h1 (Steps.trans b (.one G))) hs',g,i,j⟩
  | panicked eM=>
   have G:=step_going_panicked (c:={{fr with defers:=n} with mode:=p}) (cs:=cs) A
   obtain ⟨D,k,a,m,hs',g,i,j⟩:=I (raised p eM) w' {{{fr with defers:=n} with mode:=p} with mode:=raised p eM} cs rfl rfl C y z
   exact ⟨D,k,a,m,Comes.of_steps (.head h1 (Steps.trans b (.one G))) hs',g,i,j⟩
  | outgrown=>exact ⟨.outgrown,w',fr,z,Outgrown.of_steps (.one h1) b,rfl,rfl,trivial⟩
theorem nC {P:Program} {fr:Frame} {w:World} {e:Ending} (h:fr.going P w e) (a:fr.kind= .normal):fr.leaving P w e:=by
 cases e with
 | returned v=>exact ⟨h.1,h.2.1,a,h.2.2⟩
 | panicked b=>exact h
 | outgrown=>exact h
structure Shut (w0 w w':World):Prop where
 os:w'.os=w.os
 tape:w'.tape=w.tape
 output:w'.output=w.output
 size:w'.heap.size=w.heap.size
 heap:∀ b,w'.heap[b]? =w.heap[b]?\/(w0.heap.size<=b/\w.heap[b]? =some (.deferred (some [])))
theorem nB {P:Program} {fn:Func} {tmps:Array Value} {R:Ending->World->Prop} {w0:World} {u:FrameMode} (g:u≠ .run):∀ (a:List Deferred) (w:World),Mks w0 w a->(∀ w',Shut w0 w w'->Leaves P fn tmps R [] u w')->eV P fn tmps R a u w
 | [],w,_,h=>h w ⟨rfl,rfl,rfl,rfl,fun b=>.inl rfl⟩
 | d::a,w,⟨⟨b,h1,h2,h3,h4⟩,h5⟩,h=>by
  refine ⟨g,.inl ⟨b,_,h1,run_takeDeferred h3,?_⟩⟩
  refine nB g a _ (h5.same fun l j c i k=>?_) fun w' hs=>h w' ⟨hs.os,hs.tape,hs.output,hs.size.trans World.putObj_size,fun c=>?_⟩
  .have f:c≠b:=fun e=>by simp_all
   rw [Gl f];exact k
  .by_cases i:c=b
   .grind
   .have:=hs.heap c
    rwa [Gl i] at this
theorem Mem.shut {w0 w w':World} {M:Imm} {ob:Hs} {obs:List AObj} (hm:Mem M ob obs w) (h:Shut w0 w w'):Mem M ob obs w':=by
 have e:∀ {b:Nat} {o:Obj},w.heap[b]? =some o->CW o=false->w'.heap[b]? =some o:=fun {b o} h1 h2=>by
  rcases h.heap b with q | ⟨_,q⟩
  .grind
  .rw [h1] at q;cases q;cases h2
 refine ⟨fun b o x n=>?_,hm.len,fun k c i=>?_,fun k b r=>by rw [h.size];exact hm.lt k b r,hm.inj⟩
 .obtain ⟨v,d,m⟩:=hm.imm b o x n
  refine ⟨v,?_,m⟩
  unfold World.cell? at d⊢
  dsimp only at d⊢
  cases g:w.heap[b]? with
  | none=>simp_all
  | some ob=>
   rw [g] at d
   cases ob with
   | cells c _ _=>rw [e g rfl];exact d
   | _=>cases d
 .obtain ⟨hs',a,f⟩:=hm.obj k c i
  refine ⟨hs',a,f.mono (fun _ _ _ h=>h) (dE.refl _) (fun _ _ _ _ h=>h) (fun b u p l j=>?_)⟩
  obtain ⟨o,s,t⟩:=hm.alive_heap ((cI i a).2 ⟨p,l⟩)
  grind
theorem Ext.shut {w0 w w':World} {M0 M:Imm} {ob0 ob:Hs} {obs0 obs:List AObj} (a:Ext M0 ob0 obs0 w0 M ob obs w) (h:Shut w0 w w'):Ext M0 ob0 obs0 w0 M ob obs w':=
 ⟨a.imm,a.new,a.hs,h.os.trans a.os,h.tape.trans a.tape,h.output.trans a.output,by rw [h.size];exact a.size,fun b c d=>by
  rcases h.heap b with q | ⟨q,_⟩
  .rw [q];exact a.keep b c d
  .omega,a.fresh⟩
def EJ (E:Env) (fn:Func) (M0:Imm) (ob0:Hs) (obs0:List AObj) (w0:World) (g:Goal) (b:Bool) (a:Act) (w:World):Prop:=match E.rd with
 | none=>eV E.P fn a.tmps (RR M0 ob0 obs0 w0 g) a.defers .returning w
 | some _=>RR M0 ob0 obs0 w0 g (.returned (.bool b)) w
def rJ (E:Env) (fn:Func) (M0:Imm) (ob0:Hs) (obs0:List AObj) (w0:World) (g:Goal):Exit->Act->World->Prop
 | .normal,a,w=>EJ E fn M0 ob0 obs0 w0 g true a w
 | .ret,a,w=>EJ E fn M0 ob0 obs0 w0 g false a w
 | .panic ch,a,w=>(match E.rd with | none=>eV E.P fn a.tmps (RR M0 ob0 obs0 w0 g) a.defers (.panicking ch) w | some _=>False)
 | _,_,_=>False
def pL (g:Goal) (ob0:Hs):Prop:=ob0.length=g.n0/\(g.strict=true->∀ hs∈ob0,hs.length=1)
def dF (E:Env) (fn:Func) (g:Goal) (ks:List KI) (fr:List (Nat×AVal)) (obs:List AObj):Prop:=
 bF fn.ntmps ks=true->∀ M0 ob0 obs0 w0 a w,pL g ob0->SS M0 ob0 obs0 w0 fn.ntmps E.df fr obs a w->KW E.rd E.P (rJ E fn M0 ob0 obs0 w0 g) ks a w
def aDZ (E:Env) (fn:Func) (g:Goal) (fr:List (Nat×AVal)) (obs:List AObj):Prop:=
 ∀ M0 ob0 obs0 w0 a w,pL g ob0->SS M0 ob0 obs0 w0 fn.ntmps E.df fr obs a w->eV E.P fn a.tmps (RR M0 ob0 obs0 w0 g) a.defers .returning w
def aDY (E:Env) (fn:Func) (g:Goal) (c:Nat->AVal) (v:AVal) (obs:List AObj):Prop:=
 ∀ M0 ob0 obs0 w0 b a w,pL g ob0->PP M0 ob0 obs0 w0 fn.ntmps E.df c v obs b a w->eV E.P fn a.tmps (RR M0 ob0 obs0 w0 g) a.defers (.panicking b) w
def mF (E:Env) (fn:Func) (g:Goal) (a:Nat->AVal) (v:AVal) (obs:List AObj):Prop:=match E.rd with
 | some _=>False
 | none=>match E.df with
  | []=>NT g .pan v obs
  | _::_=>aDY E fn g a v obs
def aI7 (E:Env) (fn:Func) (g:Goal) (R:RI) (n:Nat) (rest:List Oper) (br:List (Nat×Nat)) (fr:List (Nat×AVal)) (obs:List AObj):Prop:=
 match R.dr with
 | false=>eM E R.all (dF E fn g R.ks) (mF E fn g) n rest fr obs
 | true=>iN E R.all R.tab (dF E fn g R.ks) (mF E fn g) n rest br fr obs
def aCp (E:Env) (fn:Func) (g:Goal) (R:RI) (n:Nat) (d:Option Nat) (rest:List Oper) (br:List (Nat×Nat)) (fr:List (Nat×AVal)) (len:Nat) (obs:List AObj) (v:AVal):Prop:=
 wrP rest n d fr v fun fr=>aI7 E fn g R (n+1) rest (bif R.dr then born n len (hJ len obs) br else br) fr obs
def yC (E:Env) (fn:Func) (g:Goal):St->Prop
 | .code ks fr obs=>dF E fn g ks fr obs
 | .head ks fr obs=>dF E fn g ks fr obs
 | .mid R n rest br fr obs=>aI7 E fn g R n rest br fr obs
 | .pend R n d rest br fr obs r=>(match R.dr with
  | false=>orF E.P obs (fun v obs'=>aCp E fn g R n d rest br fr (aP obs) obs' v) (mF E fn g (aW fr)) r
  | true=>orD E.P (soN E R.tab R.all n d) (uoN E R.tab R.all n d) (blD E d) (pH E R.tab n br obs d) obs (aP obs) (fun v obs'=>aCp E fn g R n d rest br fr (aP obs) obs' v) (mF E fn g (aW fr)) r)
 | .got R n d rest br fr len obs v=>aCp E fn g R n d rest br fr len obs v
 | .leave none fr obs=>aDZ E fn g fr obs
 | .leave (some v) fr obs=>aDY E fn g (aW fr) v obs
section
variable {E:Env} {M:Imm} {ob:Hs} {obs:List AObj} {w:World}
theorem PO (hE:EnvOK E) (hm:Mem M ob obs w) {fr:List (Nat×AVal)} {x:AVal} {tmps:Array Value} {r:ResultVar} (h:aID E obs fr r=some x) (q:∀ t,Rep M ob (tmps.getD t undef) (aW fr t)):
  ∃ v,(match r with | .tmp t=>(Pure.pure (tmps.getD t undef):Sem Value) | .cell a t=>(asAddr (tmps.getD a undef)) >>= loadVar t).run E.P w= .ok v w/\Rep M ob v x:=by
 cases r with
 | tmp t=>cases h;exact ⟨_,rfl,q t⟩
 | cell a t=>
  simp only [aID] at h
  show ∃ v,((asAddr (tmps.getD a undef)) >>= loadVar t).run E.P w= .ok v w/\Rep M ob v x
  have s:=q a
  split at h
  .rename_i B k off D G
   rw [G] at s
   split at h
   .rename_i cs m
    split at h
    .rename_i l hl
     obtain ⟨b,hav,p⟩:=s.ref_inv
     obtain ⟨hs,h1,n,rfl,_,cv,H,f,_,g⟩:=hm.obj k _ (bW m s_)
     have j:n=b:=by rw [bZ h1] at p;simpa using p
     subst j
     obtain ⟨y,A⟩:=jC hl
     obtain ⟨u,z,C⟩:=M4 (P:=E.P) (w:=w) (M:=M) (ob:=ob) (hE.tab t B D) (b:=n) (o:=off) h y fun i c F=>by
      have d:=A i c F
      rw [lW,Bv] at d
      have e:off+i<cv.length:=by rw [f];exact (Ad.1 d).1
      exact ⟨cv[off+i],by rw [cell_of_row w n _ _ _ (0,0) H];simp [e],g _ _ c (Ab e) d⟩
     refine ⟨u,?_,C⟩
     rw [hav]
     simp only [asAddr,Bf,Ca,Ao]
     exact z
    .cases h
   .cases h
  .cases h
theorem BX (hE:EnvOK E) (hm:Mem M ob obs w) {fr:List (Nat×AVal)} {tmps:Array Value} (e:∀ t,Rep M ob (tmps.getD t undef) (aW fr t)):
  ∀ (b:List ResultVar) {xs:List AVal},aA1 E obs fr b=some xs->∃ vs,(b.mapM fun (r:ResultVar)=>(match r with | .tmp t=>(Pure.pure (tmps.getD t undef):Sem Value) | .cell a t=>(asAddr (tmps.getD a undef)) >>= loadVar t)).run E.P w= .ok vs w/\cA M ob vs xs
 | [],xs,h=>by
  cases h
  exact ⟨[],by simp,rfl,fun i v a h=>by simp at h⟩
 | r::b,xs,h=>by
  simp only [aA1] at h
  split at h
  .rename_i x l j hl
   cases h
   obtain ⟨v,g,f⟩:=PO hE hm j e
   obtain ⟨vs,d,c⟩:=BX hE hm e b hl
   refine ⟨v::vs,?_,cA.cons f c⟩
   rw [List.mapM_cons]
   simp only [Bf]
   rw [g]
   simp only [Ao]
   rw [d]
   simp
  .cases h
theorem PQ (hE:EnvOK E) (hm:Mem M ob obs w) {fn:Func} {fr:List (Nat×AVal)} {x:AVal} {tmps:Array Value} (h:aA2 E obs fn.results.toList fr=some x)
  (i:∀ t,Rep M ob (tmps.getD t undef) (aW fr t)):∃ v,(results fn tmps).run E.P w= .ok v w/\Rep M ob v x:=by
 have hl:∃ xs,aA1 E obs fr fn.results.toList=some xs/\((∃ y,xs=[y]/\x=y)\/(xs.length≠1/\x= .tup xs)):=by
  unfold aA2 at h
  split at h
  .simp_all
  .rename_i l c hl
   cases h
   refine ⟨_,hl,.inr ⟨fun h1=>?_,rfl⟩⟩
   match l,h1 with
   | [y],_=>grind
  .cases h
 obtain ⟨xs,e,d⟩:=hl
 obtain ⟨vs,f,b⟩:=BX hE hm i _ e
 have g:fn.results=fn.results.toList.toArray:=by simp
 have key:(results fn tmps).run E.P w= .ok (if h:vs.toArray.size=1 then vs.toArray[0] else .tuple vs.toArray) w:=by
  unfold results
  rw [g,List.mapM_toArray]
  simp only [Bf,map_eq_pure_bind]
  have:(fn.results.toList.mapM fun (r:ResultVar)=>(match r with | .tmp t=>(Pure.pure (tmps.getD t undef):Sem Value) | .cell a t=>(asAddr (tmps.getD a undef)) >>= loadVar t)).run E.P w= .ok vs w:=f
  refine (congrArg (fun z=>La (La z _) _) this).trans ?_
  simp
 rw [key]
 rcases d with ⟨y,rfl,rfl⟩ | ⟨h1,rfl⟩
 .match vs,b with
  | [v],b=>exact ⟨v,by simp,b.2 0 v _ rfl rfl⟩
  | [],b=>have:=b.1;simp at this
  | _::_::_,b=>have:=b.1;simp at this
 .have c:¬ vs.toArray.size=1:=by rw [Gj,b.1];exact h1
  exact ⟨.tuple vs.toArray,by rw [dif_neg c],.tup vs xs b.1 b.2⟩
theorem kV:∀ {n j:Nat} {ks:List Nat},jZ n j ks=true->∀ i,i<n->ks[i]? =some (j+i)
 | 0,_,_,_,i,hi=>by omega
 | n+1,j,[],h,_,_=>by cases h
 | n+1,j,k::r,h,i,hi=>by
  simp only [jZ,Ag] at h
  have:=aC h.1
  subst this
  cases i with
  | zero=>rfl
  | succ i=>
   have:=kV h.2 i o_
   rw [show k+(i+1)=k+1+i from by omega]
   simp_all
theorem tT {M0:Imm} {ob0:Hs} {obs0:List AObj} {w0:World} {g:Goal} {o:AVal->Res} {v:AVal} {u:Value} (hst:pL g ob0) (d:Ext M0 ob0 obs0 w0 M ob obs w) (hm:Mem M ob obs w) (D:Rep M ob u v) (h:NT g o v obs):
  ∃ M' ob' y,Ext M0 ob0 obs0 w0 M' ob' g.obs w/\Mem M' ob' g.obs w/\Rep M' ob' u y/\o y=g.res:=by
 cases g with
 | pure r=>
  obtain ⟨s,m,n,_,L⟩:=hm.frzL [v]
  have N:ob0=[]:=Av hst.1
  subst N
  have a:=d.trans n
  have no:∀ k b,¬ aM ([]:Hs) [] k b:=fun k b ⟨c,hs,e,_⟩=>by simp at e
  exact ⟨s,[],_,⟨a.imm,a.new,dE.refl _,a.os,a.tape,a.output,a.size,a.keep,fun k b p=>(no k b p).elim⟩,m.bare,m.cvtV (n0:=0) (ks:=[]) rfl 5 u v (D.monoM n.imm),h⟩
 | full n0 r obs'=>
  obtain ⟨I,ks,⟨z,q⟩,h1,x⟩:=h
  obtain ⟨s,m,n,_,L⟩:=Mem.frzs I M obs hm
  obtain ⟨Q,P,_⟩:=m.cvt (n0:=n0) z
  have a:=d.trans n
  have J:ob0.length=n0:=hst.1
  refine ⟨s,_,_,⟨a.imm,a.new,fun j hs C=>?_,a.os,a.tape,a.output,a.size,a.keep,fun j b p=>?_⟩,?_,m.cvtV (n0:=n0) z 5 u v (D.monoM n.imm),h1⟩
  .have i:j<n0:=by rw [<-J];exact (Ad.1 C).1
   have l:=kV q j i
   rw [Bw] at l
   obtain ⟨hs',K,t,A⟩:=a.hs j hs C
   have O:=hst.2 rfl hs (Aq C)
   refine ⟨iM n0 j (aE (AW.frzs I obs) j) hs',?_,?_⟩
   .rw [gI,l]
    simp [K]
   .unfold iM
    split
    .rw [<-A]
     have:(hs++t).take 1=hs:=by rw [Db o_,Cb o_]
     rw [this]
     simp
    .exact ⟨t,A⟩
  .obtain ⟨k,_,B⟩:=P j b (by rw [x];exact p)
   exact a.fresh k b B
  .show Mem s _ obs' w
   grind
 | keep n0 r obs'=>
  obtain ⟨⟨F,f⟩,h1,x⟩:=h
  rw [B9] at f x
  obtain ⟨G,H⟩:=hm.cutO f
  have J:ob0.length=n0:=hst.1
  rw [x] at G H
  refine ⟨M,ob.take n0,v,⟨d.imm,d.new,fun k hs z=>?_,d.os,d.tape,d.output,d.size,d.keep,fun k b p=>d.fresh k b (H p)⟩,G,AV 5 D F,h1⟩
  obtain ⟨hs',K,A⟩:=d.hs k hs z
  have i:k<n0:=by grind
  exact ⟨hs',by grind,A⟩
end
section
variable {E:Env} {fn:Func} {g:Goal}
theorem aCq (hE:EnvOK E) (c:E.df=[]) (l:E.rd=none) {fr:List (Nat×AVal)} {obs:List AObj} {v:AVal} (o:aA2 E obs fn.results.toList fr=some v) (h:NT g .ret v obs) {M0:Imm} {ob0:Hs} {obs0:List AObj} {w0:World} {a:Act} {w:World}
  (hst:pL g ob0) (hs:SS M0 ob0 obs0 w0 fn.ntmps E.df fr obs a w):eV E.P fn a.tmps (RR M0 ob0 obs0 w0 g) a.defers .returning w:=by
 obtain ⟨M,ob,d,hm,p,j,e,r⟩:=hs
 rw [c] at e
 refine nB (w0:=w0) s_ _ _ e.marks fun w' b=>?_
 have d:=d.shut b
 have hm:=hm.shut b
 obtain ⟨u,i,m⟩:=PQ hE hm o p
 obtain ⟨M',ob',y,n,q,f,k⟩:=tT hst d hm m h
 refine ⟨u,i,M',ob',n,q,?_⟩
 rw [<-k]
 exact f
theorem UT (hE:EnvOK E) {b:Bool} {fr:List (Nat×AVal)} {obs:List AObj} (h:aEY E fn g (yC E fn g) b fr obs) {M0:Imm} {ob0:Hs} {obs0:List AObj} {w0:World} {a:Act} {w:World}
  (hst:pL g ob0) (hs:SS M0 ob0 obs0 w0 fn.ntmps E.df fr obs a w):EJ E fn M0 ob0 obs0 w0 g b a w:=by
 unfold aEY at h
 unfold EJ
 cases e:E.rd with
 | some l=>
  rw [e] at h
  dsimp only at h⊢
  rw [JF] at h
  obtain ⟨M,ob,o,hm,r,i,p,q⟩:=hs
  obtain ⟨M',ob',y,k,n,f,j⟩:=tT hst o hm (.bool b) h
  exact ⟨M',ob',k,n,by rw [<-j];exact f⟩
 | none=>
 rw [e] at h
 dsimp only at h⊢
 cases c:E.df with
 | nil=>
  rw [c] at h
  dsimp only at h
  split at h
  .rename_i v m
   rw [mV,JF] at h
   exact aCq hE c e m h hst hs
  grind
 | cons d s=>
  rw [c] at h
  exact h M0 ob0 obs0 w0 a w hst hs
theorem aJn (c:E.df=[]) {v:AVal} {obs:List AObj} (h:NT g .pan v obs) {M0:Imm} {ob0:Hs} {obs0:List AObj} {w0:World} {sz:Nat} {l:Nat->AVal} {d:List PanicEntry} {a:Act} {w:World}
  (hst:pL g ob0) (hs:PP M0 ob0 obs0 w0 sz E.df l v obs d a w):eV E.P fn a.tmps (RR M0 ob0 obs0 w0 g) a.defers (.panicking d) w:=by
 obtain ⟨M,ob,o,hm,⟨u,e,k⟩,_,_,f,_⟩:=hs
 rw [c] at f
 refine nB (w0:=w0) s_ _ _ f.marks fun w' b=>?_
 obtain ⟨M',ob',y,m,n,i,j⟩:=tT hst (o.shut b) (hm.shut b) k h
 refine ⟨M',ob',m,n,?_⟩
 rw [<-j]
 exact ⟨u,e,i⟩
theorem I6 {f:Nat->AVal} {v:AVal} {obs:List AObj} (h:mF E fn g f v obs) {M0:Imm} {ob0:Hs} {obs0:List AObj} {w0:World} {e:List PanicEntry} {a:Act} {w:World}
  (hst:pL g ob0) (hs:PP M0 ob0 obs0 w0 fn.ntmps E.df f v obs e a w):rJ E fn M0 ob0 obs0 w0 g (.panic e) a w:=by
 unfold mF at h
 unfold rJ
 cases c:E.rd with
 | some l=>grind
 | none=>
 rw [c] at h
 dsimp only at h⊢
 cases b:E.df with
 | nil=>
  rw [b] at h
  exact aJn b h hst hs
 | cons d i=>
  rw [b] at h
  exact h M0 ob0 obs0 w0 e a w hst hs
theorem sE {sz:Nat} {l:List Oper} (h:aHF sz l=true):∀ p∈l,∀ d,p.dst=some d->d<sz:=fun p hp d a=>by
 have:=Cu.1 h p hp
 simp_all
def QR (E:Env) (fn:Func) (g:Goal) (M0:Imm) (ob0:Hs) (obs0:List AObj) (w0:World) (ks:List KI):Exit->Act->World->Prop
 | .normal,a,w=>KW E.rd E.P (rJ E fn M0 ob0 obs0 w0 g) ks a w
 | .panic ch,a,w=>rJ E fn M0 ob0 obs0 w0 g (.panic ch) a w
 | _,_,_=>False
theorem YC (hE:EnvOK E) (j:∀ ops:Array Oper,LL ops=true->TabSp ops (iP [] ops.toList)) {id:Nat} {ops:Array Oper} {dr:Bool} {ks:List KI} {fr:List (Nat×AVal)} {obs:List AObj}
  (h:aI7 E fn g ⟨ops.toList,dr,iP [] ops.toList,ks⟩ 0 ops.toList [] fr obs):dF E fn g (.code (.region id ops dr)::ks) fr obs:=by
 intro s M0 ob0 obs0 w0 a w hst hs
 simp only [bF,KI.ok,dB,Ag] at s
 obtain ⟨⟨k,o⟩,m⟩:=s
 have r:=sE k
 refine KW.code (Q':=QR E fn g M0 ob0 obs0 w0 ks) ?_ (fun a w h=>h) (fun b a w h=>h) (fun e a w x=>by
  cases e<;>first | exact .inl rfl | exact .inr ⟨_,rfl⟩ | exact x.elim)
 have hp:∀ f v obs b a w,mF E fn g f v obs->PP M0 ob0 obs0 w0 fn.ntmps E.df f v obs b a w->rJ E fn M0 ob0 obs0 w0 g (.panic b) a w:=fun f v obs b a w t n=>I6 t hst n
 have q:∀ fr obs a w,dF E fn g ks fr obs->SS M0 ob0 obs0 w0 fn.ntmps E.df fr obs a w->KW E.rd E.P (rJ E fn M0 ob0 obs0 w0 g) ks a w:=fun fr obs a w u hs=>u m M0 ob0 obs0 w0 a w hst hs
 cases dr with
 | false=>
  refine wpIn_region_list ?_
  exact rD (rd:=E.rd) (Q:=QR E fn g M0 ob0 obs0 w0 ks) (K:=dF E fn g ks) (Kp:=mF E fn g) hE (fun f v obs b a w h1 c=>hp f v obs b a w h1 c) (fun fr obs a w h1 c=>q fr obs a w h1 c) ops.toList 0 fr obs a w r h hs
 | true=>
  exact PU (rd:=E.rd) (Q:=QR E fn g M0 ob0 obs0 w0 ks) (Kq:=dF E fn g ks) (Kp:=mF E fn g) hE (j ops (by simpa using o)) (fun i p y d l=>r p (Aq (i:=i) q_) d l) (fun f v obs b a w h1 c=>hp f v obs b a w h1 c) (fun fr obs a w h1 c=>q fr obs a w h1 c) hs h
theorem dF.step {ks ks':List KI} {fr:List (Nat×AVal)} {obs:List AObj} (hs:∀ a w (b:Frame) cs,Go.step E.P (lone (b.atR a (gH ks)) cs w)= .next (lone (b.atR a (gH ks')) cs w)) (e:bF fn.ntmps ks=true->bF fn.ntmps ks'=true) (h:dF E fn g ks' fr obs):dF E fn g ks fr obs:=
 fun d M0 ob0 obs0 w0 a w hst c=>KW.step (hs a w) (h (e d) M0 ob0 obs0 w0 a w hst c)
theorem go (hE:EnvOK E) (D:∀ ops:Array Oper,LL ops=true->TabSp ops (iP [] ops.toList)):∀ (t:Nat) (st:St),bP E fn g (yC E fn g) t st->yC E fn g st:=by
 intro t
 induction t with
 | zero=>intro st h;exact h
 | succ n e=>
  intro st h
  cases st with
  | head ks fr obs=>exact e (.code ks fr obs) h
  | leave p fr obs=>exact h
  | code ks fr obs=>
   cases ks with
   | nil=>
    simp only [bP] at h
    exact fun _ M0 ob0 obs0 w0 a w hst hs=>KW.nil (UT (b:=true) hE h hst hs)
   | cons k ks=>
    cases k with
    | inB id=>exact dF.step (fun a w b cs=>stepR_inBlock) (fun j=>by simp only [bF,Ag] at j;exact j.2) (e (.code ks fr obs) h)
    | inL b=>
     exact dF.step (ks':=.code b:: .inL b::ks) (fun a w b cs=>stepR_inLoop) (fun j=>by simp only [bF,KI.ok,Ag] at j⊢;grind) h
    | beginR=>exact h
    | code q=>
     cases q with
     | rangeFunc x U as S=>exact h
     | skip=>exact dF.step (fun a w b cs=>stepR_skip) (fun j=>by simp only [bF,Ag] at j;exact j.2) (e (.code ks fr obs) h)
     | seq x y=>exact dF.step (fun a w b cs=>stepR_seq) (fun j=>by simp only [bF,KI.ok,dB,Ag] at j⊢;grind) (e (.code (.code x:: .code y::ks) fr obs) h)
     | block id b=>exact dF.step (fun a w b cs=>stepR_block) (fun j=>by simp only [bF,KI.ok,dB,Ag] at j⊢;grind) (e (.code (.code b:: .inB id::ks) fr obs) h)
     | loop b=>exact dF.step (ks':=.code b:: .inL b::ks) (fun a w b cs=>stepR_loop) (fun j=>by simp only [bF,KI.ok,dB,Ag] at j⊢;grind) h
     | exit id=>
            simp only [bP] at h
            split at h
            .rename_i ks' G
             exact dF.step (fun a w b cs=>stepR_exit (lT _ _ G)) (fun j=>qX _ _ G (by simp only [bF,Ag] at j;exact j.2)) (e (.code ks' fr obs) h)
            grind
     | ret=>
            simp only [bP] at h
            exact fun _ M0 ob0 obs0 w0 a w hst hs=>KW.ret (UT (b:=false) hE h hst hs)
     | cond x c d=>
            simp only [bP] at h
            split at h
            .rename_i p hp
             intro j M0 ob0 obs0 w0 a w hst hs
             simp only [bF,KI.ok,dB,Ag] at j
             obtain ⟨M,ob,G,hm,L,N,W,Q⟩:=id hs
             have B:=DL (a:=a) L x
             rw [hp] at B
             cases p with
             | true=>
              refine KW.step (ks':=.code c::ks) (fun b cs=>?_) (h.1 rfl (by simp only [bF,KI.ok,Ag];exact ⟨j.1.1,j.2⟩) M0 ob0 obs0 w0 a w hst hs)
              exact stepR_cond (P:=E.P) (b:=b) (k:=gH ks) (cs:=cs) (w:=w) (x:=c) (y:=d) B.bool_inv
             | false=>
              refine KW.step (ks':=.code d::ks) (fun b cs=>?_) (h.2 rfl (by simp only [bF,KI.ok,Ag];exact ⟨j.1.2,j.2⟩) M0 ob0 obs0 w0 a w hst hs)
              exact stepR_cond (P:=E.P) (b:=b) (k:=gH ks) (cs:=cs) (w:=w) (x:=c) (y:=d) B.bool_inv
            grind
     | region id ops dr=>
            simp only [bP] at h
            cases A:aKT ops.toList with
            | true=>grind
            | false=>
             rw [A] at h
             dsimp only at h
             refine YC hE D ?_
             cases dr with
             | false=>
              have:=e (.mid ⟨ops.toList,false,[],ks⟩ 0 ops.toList [] fr obs) h
              exact this
             | true=>
              simp only [aDH] at h
              exact e (.mid ⟨ops.toList,true,iP [] ops.toList,ks⟩ 0 ops.toList [] fr obs) h
     | _=>exact h.elim
  | mid R i rest br fr obs=>
   cases rest with
   | nil=>
    have J:=e (.code R.ks fr obs) h
    obtain ⟨all,dr,tab,ks⟩:=R
    cases dr with
    | false=>exact J
    | true=>exact J
   | cons p rest=>
    obtain ⟨all,dr,tab,ks⟩:=R
    cases dr with
    | false=>
     simp only [bP] at h
     show eM E all (dF E fn g ks) (mF E fn g) i (p::rest) fr obs
     simp only [eM]
     cases H:cC all (ev fr) p.guard with
     | none=>grind
     | some b=>
            rw [H] at h
            cases b with
            | false=>
             cases o:p.dst with
             | none=>rw [o] at h;exact e _ h
             | some d=>
              rw [o] at h
              dsimp only at h
              rw [mL] at h
              exact e (.mid ⟨all,false,tab,ks⟩ (i+1) rest br (gS fr d (.tup [])) obs) h
            | true=>exact e (.pend ⟨all,false,tab,ks⟩ i p.dst rest br fr obs _) h
    | true=>
     simp only [bP] at h
     show iN E all tab (dF E fn g ks) (mF E fn g) i (p::rest) br fr obs
     simp only [iN]
     cases H:cC all (evH tab all i fr) p.guard with
     | none=>grind
     | some b=>
            rw [H] at h
            cases b with
            | false=>
             cases o:p.dst with
             | none=>rw [o] at h;exact e _ h
             | some d=>
              rw [o] at h
              dsimp only at h
              rw [mL] at h
              exact e (.mid ⟨all,true,tab,ks⟩ (i+1) rest br (gS fr d (.tup [])) obs) h
            | true=>
             dsimp only at h
             rw [rK] at h
             exact e (.pend ⟨all,true,tab,ks⟩ i p.dst rest br fr obs _) h
  | got R i d rest br fr len obs v=>
   simp only [bP,mV,rK] at h
   show aCp E fn g R i d rest br fr len obs v
   unfold aCp wrP
   cases d with
   | none=>exact e _ h
   | some d=>
    dsimp only at h⊢
    cases K:vQ i rest with
    | false=>
     rw [K] at h
     simp only [cond_false,mL] at h
     exact e _ h
    | true=>
     rw [K] at h
     simp only [cond_true] at h⊢
     split at h
     .rw [mL,mL] at h
      exact h
     omega
  | pend R i d rest br fr obs r=>
   obtain ⟨all,dr,tab,ks⟩:=R
   have I:∀ {q:Prop} {b:Bool},(match (!dr||b) with | true=>q | false=>False)->q/\(dr=true->b=true):=fun {q b} hq=>by
    grind
   cases r with
   | no=>exact h.elim
   | val v=>
    simp only [bP,mV] at h
    have:=e _ h
    cases dr<;>exact this
   | mkf f T cs=>
    simp only [bP,J5 (mV 3)] at h
    have:=e _ h
    cases dr<;>exact this
   | need p r=>
    simp only [bP] at h
    cases dr<;>exact h
   | alt p v X=>
    simp only [bP] at h
    cases dr<;>exact h
   | idx m f=>
    simp only [bP] at h
    cases dr<;>exact h
   | elem xs m f=>
    simp only [bP] at h
    cases dr<;>exact h
   | byte l m=>
    simp only [bP] at h
    cases dr<;>exact h
   | text xs=>
    simp only [bP] at h
    cases dr<;>exact h
   | find es key f=>
    simp only [bP] at h
    cases dr<;>exact h
   | born x v=>
    simp only [bP,aDW,rK,mV] at h
    cases dr with
    | false=>
     have:=e (.got _ _ _ _ _ _ _ _ _) h
     exact this
    | true=>
     cases s:blD E d with
     | true=>rw [s] at h;exact h.elim
     | false=>
            rw [s] at h
            have:=e (.got _ _ _ _ _ _ _ _ _) h
            simp only [yC]
            rw [s]
            exact this
   | upd k x v=>
    simp only [bP,aDW,rK,mV] at h
    obtain ⟨h,u⟩:=I h
    have:=e _ h
    cases dr with
    | false=>exact this
    | true=>
     simp only [yC,orD]
     rw [u rfl]
     exact this
   | nilq xs O=>
    simp only [bP] at h
    obtain ⟨h,u⟩:=I h
    cases dr with
    | false=>exact h
    | true=>
     simp only [yC]
     rw [u rfl]
     exact h
   | call f args=>
    have F:aIT E g (yC E fn g) fr=mF E fn g (aW fr):=by
     rfl
    simp only [bP,J5 (mV 5),F] at h
    cases dr with
    | false=>exact h
    | true=>
     dsimp only at h
     cases s:blD E d with
     | true=>rw [s] at h;exact h.elim
     | false=>
            rw [s] at h
            dsimp only at h
            rw [rK] at h
            simp only [yC]
            rw [s]
            exact h
   | pan v=>
    simp only [bP,mV] at h
    obtain ⟨z,u⟩:=I h
    have h3:mF E fn g (aW fr) v obs:=by
     unfold mF
     cases C:E.rd with
     | some l=>rw [C] at z;omega
     | none=>
     rw [C] at z
     dsimp only at z⊢
     cases A:E.df with
     | nil=>rw [A] at z;dsimp only at z⊢;rw [JF] at z;exact z
     | cons d V=>rw [A] at z;exact z
    cases dr with
    | false=>exact h3
    | true=>
     simp only [yC]
     rw [u rfl]
     exact h3
end
def uF (P:Program) (f:FuncId):Prop:=∀ (args:Array Value) (w:World),(callFunc f args).run P w= .ok (.enter f args) w
theorem C4:∀ (l:List AVal) (n t:Nat),aW (frA n l) t=if n<=t then (l[t-n]?).getD .undef else .undef
 | [],n,t=>by simp [frA,aW]
 | a::l,n,t=>by
  simp only [frA,aW]
  cases h:Ar n t with
  | true=>simp_all
  | false=>
   have c:n≠t:=fun e=>by simp_all
   simp only [cond_false]
   rw [C4 l (n+1) t]
   by_cases b:n+1<=t
   .rw [if_pos b,if_pos o_]
    have:t-n=(t-(n+1))+1:=o_
    simp_all
   grind
theorem N9 {P:Program} {f:FuncId} {fn:Func} {c:Code} {args:Array Value} {w:World} {R:Ending->World->Prop} (t:P.funcs[f]? =some fn) (u:fn.body=some c)
  {Q:Exit->Act->World->Prop} (v:∀ e a w,Q e a w->(match e with | .normal | .ret=>eV P fn a.tmps R a.defers .returning w | .panic ch=>eV P fn a.tmps R a.defers (.panicking ch) w | _=>False)) (h:KW none P Q [.code c] {tmps:=args++Fw (fn.ntmps-args.size) undef,defers:=[]} w):Calls P f args w R:=by
 intro cs
 let b:Frame:={(default:Frame) with fn:=f,kind:=.normal}
 have m:Frame.enter P f args .normal=b.at {tmps:=args++Fw (fn.ntmps-args.size) undef,defers:=[]} [.code c]:=by
  simp [Frame.enter,Frame.at,t,u,b]
 obtain ⟨e,o,w',q,d⟩:=h.arrives b cs rfl
 have q:=v _ _ _ q
 rw [show gH [.code c]=[.code c] from rfl,<-m] at d
 cases e with
 | normal=>
  obtain ⟨r,i,g,p,hs,j,s,hl⟩:=fF o.defers .returning w' {b.at o [] with mode:=.returning} cs rfl rfl rfl t q
  exact ⟨r,i,g,p,Comes.of_steps (Steps.trans d (.one step_end)) hs,j,nC hl s⟩
 | ret=>
  obtain ⟨k,n⟩:=d
  obtain ⟨r,i,g,p,hs,j,s,hl⟩:=fF o.defers .returning w' {b.at o k with mode:=.returning} cs rfl rfl rfl t q
  exact ⟨r,i,g,p,Comes.of_steps n hs,j,nC hl s⟩
 | panic eM=>
  obtain ⟨k,n⟩:=d
  obtain ⟨r,i,g,p,hs,j,s,hl⟩:=fF o.defers (.panicking eM) w' {b.at o k with mode:=.panicking eM} cs rfl rfl rfl t q
  exact ⟨r,i,g,p,Comes.of_steps n hs,j,nC hl s⟩
 | exit id=>simp_all
 | goto l=>simp_all
 | outgrown=>simp_all
def okA:AVal->Prop
 | .int k n=>inR k n
 | .str l=>(l.length:Int)<=9223372036854775807
 | .slice _ xs _=>(xs.length:Int)<=9223372036854775807
 | _=>True
theorem Rep.okA {M:Imm} {ob:Hs} {v:Value} {a:AVal} (h:Rep M ob v a):okA a:=by
 cases a with
 | int k n=>exact h.int_inv.2
 | str l=>exact h.str_inv.2
 | slice sz xs t=>obtain ⟨_,_,_,_,_,h⟩:=h.slice_inv;exact h
 | _=>exact trivial
def okL:List AVal->Prop
 | []=>True
 | a::r=>okA a/\okL r
theorem cA.okL {M:Imm} {ob:Hs}:∀ {vs:List Value} {as:List AVal},cA M ob vs as->okL as
 | _,[],_=>trivial
 | [],a::r,h=>by have:=h.1;simp at this
 | v::vs,a::r,h=>⟨(h.2 0 v a rfl rfl).okA,cA.okL (vs:=vs) ⟨by simpa using h.1,fun i u b c d=>h.2 (i+1) u b (by simp_all) (by simp_all)⟩⟩
def tG:List AObj->Bool
 | []=>true
 | o::r=>o.owns&&Ar (eD o) 0&&tG r
theorem tF:∀ {l:List AObj},tG l=true->∀ (k:Nat) o,l[k]? =some o->o.owns=true/\eD o=0
 | [],_,k,o,h=>by simp at h
 | x::r,hb,k,o,h=>by
  simp only [tG,Ag] at hb
  cases k with
  | zero=>simp_all
  | succ k=>exact tF hb.2 k o (by simp_all)
theorem aA.of {E:Env} {f:FuncId} {fn:Func} {args:List AVal} {obs:List AObj} {g:Goal} (j:E.df=[]) (v:E.P.funcs[f]? =some fn) (s:fn.body=some (dC fn)) (n:uF E.P f)
  (l:dB fn.ntmps (dC fn)=true) (x:Fq args.length fn.ntmps=true) (o:tG obs=true) (y:obs.length=g.n0) (h:okL args->yC E fn g (.code [.code (dC fn)] (frA 0 args) obs)) (d:E.rd=none:=by rfl):aA E.P f args obs g.res g.obs:=by
 intro M ob w b hm m
 refine .inl ⟨n _ _,N9 (Q:=rJ E fn M ob obs w g) v s (fun e a w h=>?_) ?_⟩
 .cases e<;>(try unfold rJ EJ at h)<;>(try rw [d] at h)<;>exact h
 have q:b.length=args.length:=m.1
 have z:=Ci x
 have hst:pL g ob:=by
  refine ⟨by rw [hm.len,y],fun _ hs i=>?_⟩
  obtain ⟨k,u⟩:=Cs i
  have c:k<obs.length:=by rw [<-hm.len];grind
  obtain ⟨h1,A⟩:=tF o k _ (Ab c)
  have e:=fX (Ab c)
  have:=hm.histLen (by grind) u
  grind
 rw [<-d]
 refine h m.okL (by simp [bF,KI.ok,l]) M ob obs w {tmps:=b.toArray++Fw (fn.ntmps-b.toArray.size) undef,defers:=[]} w hst ⟨M,ob,Ext.refl _ _ _ _,hm,fun t=>?_,?_,by rw [j];exact cQ.nil,by rw [hm.len];omega⟩
 .rw [C4]
  simp only [Cn,if_true,Jl]
  by_cases p:t<args.length
  .rw [Ab p]
   have r:t<b.length:=o_
   have:(b.toArray++Fw (fn.ntmps-b.toArray.size) undef).getD t undef=b[t]:=by
    rw [Bi,Gz o_]
    simp [r]
   rw [this]
   exact m.2 t _ _ (Ab r) (Ab p)
  .rw [Bh o_]
   exact .undef _
 simp_all
theorem qB (m i:Nat):cL m i=m.testBit i:=by
 unfold cL Nat.testBit
 have h1:Nat.land (Nat.shiftRight m i) 1=(m >>> i) % 2:=Nat.and_one_is_mod _
 have a:(1 &&& (m >>> i))=(m >>> i) % 2:=by simp
 rw [h1,a]
 rcases Nat.mod_two_eq_zero_or_one (m >>> i) with h | h<;>rw [h]<;>rfl
theorem HE {tab:List Nat} {i:Nat}:∀ {l:List Nat},cL (iT tab l) i=true↔ ∃ e∈l,e=i\/cL (dG tab e) i=true
 | []=>by rw [qB];simp [iT]
 | x::r=>by
  have b:=HE (tab:=tab) (i:=i) (l:=r)
  rw [qB] at b⊢
  have e:iT tab (x::r)=(1 <<< x ||| dG tab x) ||| iT tab r:=rfl
  rw [e,Nat.testBit_or,Nat.testBit_or,Nat.one_shiftLeft,Kt,Hr,Hr,b,decide_eq_true_eq]
  constructor
  .rintro ((h | h) | ⟨e,h1,a⟩)
   .simp_all
   .exact ⟨x,by simp,.inr (by rw [qB];exact h)⟩
   .exact ⟨e,by simp [h1],a⟩
  .rintro ⟨e,h1,a⟩
   rcases Au.1 h1 with rfl | h1
   .rcases a with a | a
    .omega
    .rw [qB] at a;grind
   .exact .inr ⟨e,h1,a⟩
theorem C6 {a b:List Nat} {j:Nat} (h:j<a.length):dG (a++b) j=dG a j:=by
 induction a generalizing j with
 | nil=>simp at h
 | cons x r c=>
  cases j with
  | zero=>rfl
  | succ j=>exact c (by grind)
theorem aCs {a:List Nat} {m:Nat}:dG (a++[m]) a.length=m:=by
 induction a with
 | nil=>rfl
 | cons x r b=>exact b
theorem aCr {a:List Nat} {j:Nat} (h:a.length<=j):dG a j=0:=by
 induction a generalizing j with
 | nil=>rfl
 | cons x r b=>
  cases j with
  | zero=>simp at h
  | succ j=>exact b (by grind)
theorem yA:∀ (l:List Oper) (tab:List Nat),∃ t,iP tab l=tab++t/\t.length=l.length
 | [],tab=>⟨[],by simp [iP],rfl⟩
 | p::r,tab=>by
  obtain ⟨t,h1,a⟩:=yA r (tab++[iT tab (gU p)])
  exact ⟨iT tab (gU p)::t,by simp [iP,h1],by simp [a]⟩
theorem zC {a b:List Nat}:∀ {l:List Nat},(∀ e∈l,dG a e=dG b e)->iT a l=iT b l
 | [],_=>rfl
 | x::r,h=>by
  have:=zC (l:=r) fun e c=>h e (by simp [c])
  show Mr (Mr _ (dG a x)) (iT a r)=Mr (Mr _ (dG b x)) (iT b r)
  grind
theorem OJ:∀ (l:List Oper) (tab:List Nat),JL tab.length l=true->∀ (i:Nat) p,l[i]? =some p->dG (iP tab l) (tab.length+i)=iT (iP tab l) (gU p)/\∀ e∈gU p,e<tab.length+i
 | [],_,_,i,p,h=>by simp at h
 | q::r,tab,hb,i,p,h=>by
  simp only [JL,Ag] at hb
  have b:∀ e∈gU q,e<tab.length:=fun e a=>by
   simp_all
  cases i with
  | zero=>
   simp at h
   subst h
   refine ⟨?_,fun e a=>by grind⟩
   obtain ⟨t,h1,_⟩:=yA r (tab++[iT tab (gU q)])
   have c:iP tab (q::r)=(tab++[iT tab (gU q)])++t:=h1
   rw [Em,c,C6 s_,aCs]
   refine zC fun e a=>?_
   have:=b e a
   rw [C6 q_,C6 this]
  | succ i=>
   have:=OJ r (tab++[iT tab (gU q)]) (by simp_all) i p (by simp_all)
   simp only [Ay,Md] at this
   rw [show tab.length+(i+1)=tab.length+1+i from by omega]
   exact this
theorem MK {p:Oper} {i:Nat}:i∈gU p↔ ∃ e∈p.after,Jm .any e=true/\e.on=i:=by
 unfold gU
 grind
theorem DX {tab:List Nat} {i d:Nat}:∀ {l:List Oper} {n:Nat},NW tab i d n l=true->∀ (j:Nat) q,l[j]? =some q->loose tab i (n+j)=true->q.dst≠some d
 | [],_,_,j,q,h,_=>by simp at h
 | x::r,n,hb,j,q,h,hl=>by
  simp only [NW,Ag] at hb
  cases j with
  | zero=>
   simp at h
   subst h
   intro e
   simp_all
  | succ j=>exact DX hb.2 j q (by simp_all) (by grind)
theorem G4 {tab:List Nat} {all:List Oper}:∀ {l:List Oper} {n:Nat},aGx tab all n l=true->∀ (i:Nat) p d,l[i]? =some p->p.dst=some d->NW tab (n+i) d 0 all=true
 | [],_,_,i,p,d,h,_=>by simp at h
 | x::r,n,hb,i,p,d,h,hd=>by
  simp only [aGx,Ag] at hb
  cases i with
  | zero=>
   grind
  | succ i=>
   have:=G4 hb.2 i p d (by simp_all) hd
   grind
theorem BY (ops:Array Oper) (h:LL ops=true):TabSp ops (iP [] ops.toList):=by
 simp only [LL,Ag] at h
 obtain ⟨h1,v⟩:=h
 have get:∀ (j:Nat) p,ops[j]? =some p->dG (iP [] ops.toList) j=iT (iP [] ops.toList) (gU p)/\∀ e∈gU p,e<j:=fun j p hp=>by
  have:=OJ ops.toList [] h1 j p (by grind)
  simp_all
 have o:(iP [] ops.toList).length=ops.size:=by
  obtain ⟨t,B,D⟩:=yA ops.toList []
  rw [B]
  simp;omega
 have c:∀ j i,cL (dG (iP [] ops.toList) j) i=true->j<ops.size:=fun j i g=>by
  refine Nat.lt_of_not_le fun s=>?_
  rw [aCr o_,qB] at g
  simp at g
 have a:∀ (j:Nat) p,ops[j]? =some p->∀ e∈p.after,Jm .any e=true->e.on<j:=fun j p hp e f k=>(get j p hp).2 _ (MK.2 ⟨e,f,k,rfl⟩)
 have b:∀ (j:Nat) p,ops[j]? =some p->∀ i,cL (dG (iP [] ops.toList) j) i=true->∃ e∈p.after,Jm .any e=true/\(e.on=i\/cL (dG (iP [] ops.toList) e.on) i=true):=fun j p hp i r=>by
  rw [(get j p hp).1] at r
  obtain ⟨e,f,l⟩:=HE.1 r
  obtain ⟨A,y,z,w⟩:=MK.1 f
  subst w
  exact ⟨A,y,z,l⟩
 have d:∀ i j,cL (dG (iP [] ops.toList) i) j=true->j<i:=by
  intro i
  induction i using Ly with
  | ind i x=>
   intro j g
   have m:=c i j g
   have hp:ops[i]? =some ops[i]:=Hb m
   obtain ⟨e,f,k,h | h⟩:=b i _ hp j g
   .have:=a i _ hp e f k;omega
   .have h1:=a i _ hp e f k
    have:=x e.on h1 j h
    omega
 exact ⟨a,d,b,c,fun i j p q hp C hl t u=>by
  have:=G4 (n:=0) v i p t q_ u
  rw [Bw] at this
  exact DX this j q q_ q_⟩
inductive To (E:Env) (fn:Func) (g:Goal) (st:St):Prop
 | mk (h:yC E fn g st)
theorem aLJ (E:Env) (fn:Func) (g:Goal):To E fn g=yC E fn g:=funext fun st=>propext ⟨fun ⟨h⟩=>h,.mk⟩
theorem cD {E:Env} {fn:Func} {g:Goal} (hE:EnvOK E) (a:Nat) {st:St} (h:bP E fn g (To E fn g) a st):To E fn g st:=by
 rw [aLJ] at h⊢
 exact go hE BY a st h
theorem aA.to {E:Env} {f:FuncId} {fn:Func} {args:List AVal} {obs:List AObj} {g:Goal} (a:E.df=[]) (l:E.P.funcs[f]? =some fn) (j:fn.body=some (dC fn)) (b:uF E.P f)
  (c:dB fn.ntmps (dC fn)=true) (m:Fq args.length fn.ntmps=true) (d:tG obs=true) (i:obs.length=g.n0) (h:okL args->To E fn g (.code [.code (dC fn)] (frA 0 args) obs)) (e:E.rd=none:=by rfl):aA E.P f args obs g.res g.obs:=
 aA.of a l j b c m d i (fun k=>(h k).rec fun h=>h) e
def zvL (f:Value->AVal):List Value->List AVal
 | []=>[]
 | v::r=>f v::zvL f r
def zv:Nat->Value->AVal
 | n+1,.agg vs=>.agg (zvL (zv n) vs.toList)
 | _,v=>aGH v
theorem SJ {M:Imm} {ob:Hs} {f:Value->AVal} (e:∀ v,Rep M ob v (f v)):∀ (l:List Value),l.length=(zvL f l).length/\∀ (i:Nat) v a,l[i]? =some v->(zvL f l)[i]? =some a->Rep M ob v a
 | []=>⟨rfl,fun i v a h=>by simp at h⟩
 | x::l=>by
  obtain ⟨h1,d⟩:=SJ e l
  refine ⟨by simp [zvL,h1],fun i v a c b=>?_⟩
  cases i with
  | zero=>simp [zvL] at c b;grind
  | succ i=>exact d i v a (by simpa using c) (by simpa [zvL] using b)
theorem aHM {M:Imm} {ob:Hs}:∀ (n:Nat) (v:Value),Rep M ob v (zv n v):=by
 intro n
 induction n with
 | zero=>intro v;exact rA v
 | succ n b=>
  intro v
  cases v with
  | agg vs=>
   obtain ⟨h1,a⟩:=SJ (M:=M) (ob:=ob) b vs.toList
   have:=Rep.agg vs.toList _ h1 a
   simpa [zv] using this
  | _=>exact rA _
def N8 (P:Program):Nat->Nat->List (Option Nat)
 | 0,_=>[]
 | n+1,t=>match P.underlying t with
  | some (.struct fs)=>fs.toList.flatMap fun f=>N8 P n f.type
  | some (.array len e)=>(Ai len (N8 P n e)).flatten
  | some (.slice e)=>[some (((P.info? e).map (·.size)).getD 0)]
  | _=>[none]
def aEe:Option Nat->AVal->AVal
 | some sz,.nilslice=>.slice sz [] .nil
 | _,v=>v
def tyZ:List (Option Nat)->List AVal->List AVal
 | k::ks,c::cs=>aEe k c::tyZ ks cs
 | _,cs=>cs
def zT (P:Program) (t:Nat) (z:Value):AVal:=match zv 4 z with
 | .agg cs=>.agg (tyZ (N8 P 6 t) cs)
 | v=>aEe (match N8 P 6 t with | k::_=>k | []=>none) v
theorem KJ {M:Imm} {ob:Hs} {k:Option Nat} {v:Value} {a:AVal} (h:Rep M ob v a):Rep M ob v (aEe k a):=by
 unfold aEe
 split
 .cases h;exact .slnil _ _ rfl
 .exact h
theorem SW {M:Imm} {ob:Hs}:∀ {ks:List (Option Nat)} {cs:List AVal} {vs:List Value},cA M ob vs cs->cA M ob vs (tyZ ks cs)
 | [],cs,vs,h=>by cases cs<;>exact h
 | k::ks,[],vs,h=>h
 | k::ks,c::cs,[],h=>by have:=h.1;simp at this
 | k::ks,c::cs,v::vs,h=>cA.cons (KJ (h.2 0 v c rfl rfl)) (SW ⟨by simpa using h.1,fun i u b a d=>h.2 (i+1) u b (by simp_all) (by simp_all)⟩)
theorem aHN {M:Imm} {ob:Hs} {P:Program} {t:Nat} {z:Value}:Rep M ob z (zT P t z):=by
 have h:=aHM (M:=M) (ob:=ob) 4 z
 unfold zT
 split
 .rename_i cs a
  rw [a] at h
  obtain ⟨vs,rfl,h1,c⟩:=h.agg_inv
  obtain ⟨b,d⟩:=SW (ks:=N8 P 6 t) ⟨h1,c⟩
  exact .agg vs _ b d
 .exact KJ h
def qE (P:Program) (t:Nat):Nat:=((P.info? t).map (·.size)).getD 0
def mkF (P:Program) (f:Field):Nat×Nat×Bool:=(f.offset,qE P f.type,aO P f.type)
def aI6 (P:Program):List Field->List (Nat×Nat×Bool)
 | []=>[]
 | f::r=>mkF P f::aI6 P r
def I0 (P:Program) (t:Nat):Bool:=(P.info? t).isSome&&(P.underlying t).isSome
def fsB (P:Program):List Field->Bool
 | []=>true
 | f::r=>I0 P f.type&&fsB P r
def IT (P:Program) (t:Nat):TK:=match P.underlying t with
 | some (.int k)=>.int k
 | some .bool=>.bool
 | some .string=>.str
 | some (.struct fs)=>.strct (aI6 P fs.toList)
 | some (.array n e)=>.arr n (qE P e) (aO P e)
 | some (.slice e)=>.slc e (qE P e) (((P.info? e).map (·.bytes)).getD 0)
 | some (.pointer e)=>.ptr e
 | some (.interface _)=>.iface
 | some (.map k e)=>.mp k e
 | _=>.other
def aFy (P:Program) (t:Nat):TI:=match P.info? t with
 | some i=>⟨IT P t,i.size,aO P t,match i.zero with | some z=>zT P t z | none=>.undef⟩
 | none=>⟨.other,0,false,.undef⟩
def SN (P:Program) (t:Nat):Bool:=match P.info? t with
 | some i=>(match i.zero with
  | some z=>Ar z.cells.size i.size&&(z.cells.toList.all (·.oneCell')&&CK (zT P t z))
  | none=>false)
 | none=>false
def aLr (P:Program) (e:Nat):Bool:=SN P e
def okB (P:Program) (t:Nat):Bool:=SN P t&&match P.underlying t with
 | some (.int _) | some .bool | some .string | some (.pointer _) | some (.interface _) | some (.map _ _)=>Ar (qE P t) 1
 | some (.struct fs)=>fsB P fs.toList
 | some (.array _ e)=>I0 P e
 | some (.slice e)=>Ar (qE P t) 1&&aLr P e
 | some _=>true
 | none=>false
theorem T6 (P:Program):∀ (l:List Field),fsB P l=true->oH P l (aI6 P l)
 | [],_=>trivial
 | f::r,h=>by
  simp only [fsB,Ag,I0] at h
  obtain ⟨⟨h1,a⟩,h3⟩:=h
  obtain ⟨i,b⟩:=Da.1 h1
  exact ⟨rfl,by simp [qE,b],a,rfl,T6 P r h3⟩
theorem A4 {P:Program} {t:Nat} (h:SN P t=true):∃ i z,P.info? t=some i/\i.zero=some z/\z.cells.size=i.size/\z.cells.toList.all (·.oneCell')=true/\zT P t z≠ .undef:=by
 unfold SN at h
 split at h
 .rename_i i b
  split at h
  .rename_i z hz
   simp only [Ag] at h
   obtain ⟨h1,a,h3⟩:=h
   exact ⟨i,z,b,hz,aC h1,a,AK h3⟩
  .cases h
 .cases h
theorem aFx {P:Program} {t:Nat} (h:okB P t=true):TIOK P t (aFy P t):=by
 simp only [okB,Ag] at h
 obtain ⟨s,h1⟩:=h
 obtain ⟨i,z,o,hz,hs,f,m⟩:=A4 s
 have hm:aFy P t=⟨IT P t,i.size,aO P t,zT P t z⟩:=by simp [aFy,o,hz]
 have hst:qE P t=i.size:=by simp [qE,o]
 rw [hm]
 refine ⟨⟨i,z,o,rfl,hz,hs,aHN,f,m⟩,?_⟩
 show uD P t (aO P t) i.size (IT P t)
 unfold IT
 have b:∀ d,P.underlying t=some d->aO P t=match d with | .struct _ | .array _ _=>true | _=>false:=fun d p=>by unfold aO;rw [p];cases d<;>rfl
 split at h1
 .rename_i k a;rw [a];exact ⟨a,b _ a,by rw [<-hst];exact aC h1⟩
 .rename_i a;rw [a];exact ⟨a,b _ a,by rw [<-hst];exact aC h1⟩
 .rename_i a;rw [a];exact ⟨a,b _ a,by rw [<-hst];exact aC h1⟩
 .rename_i e a;rw [a];exact ⟨a,b _ a,by rw [<-hst];exact aC h1⟩
 .rename_i q a;rw [a];exact ⟨⟨q,a⟩,b _ a,by rw [<-hst];exact aC h1⟩
 .rename_i mk I a;rw [a];exact ⟨a,b _ a,by rw [<-hst];exact aC h1⟩
 .rename_i r a;rw [a];exact ⟨⟨r,a,T6 P _ h1⟩,b _ a⟩
 .rename_i n e a
  rw [a]
  simp only [I0,Ag] at h1
  obtain ⟨j,c⟩:=Da.1 h1.1
  exact ⟨⟨e,a,by simp [qE,c],h1.2,rfl⟩,b _ a⟩
 .rename_i e a
  rw [a]
  simp only [Ag] at h1
  obtain ⟨j,y,c,u,g,l,_⟩:=A4 h1.2
  exact ⟨⟨a,j,y,c,by simp [qE,c],by simp [c],u,by simp [qE,c,g],l⟩,b _ a,by rw [<-hst];exact aC h1.1⟩
 .rename_i d H C G F B v A w D a
  rw [a]
  have p:∀ (α:Type) (x y:α),True:=fun _ _ _=>trivial
  cases d<;>first
   | exact ⟨⟨_,a,fun q e=>by cases e⟩,rfl⟩
   | grind
 .cases h1
def T5 (P:Program):List Nat->Tab
 | []=>[]
 | t::r=>(t,aFy P t)::T5 P r
def aEn (P:Program):List Nat->Bool
 | []=>true
 | t::r=>okB P t&&aEn P r
def aCc:Tab->List Nat
 | []=>[]
 | (t,_)::r=>t::aCc r
theorem MU {P:Program}:∀ {l:List Nat},aEn P l=true->∀ t a,cR (T5 P l) t=some a->TIOK P t a
 | [],_,t,a,h=>by cases h
 | x::r,hb,t,a,h=>by
  simp only [aEn,Ag] at hb
  simp only [T5,cR] at h
  cases b:Ar x t with
  | true=>
   rw [b] at h
   cases h
   rw [<-aC b]
   exact aFx hb.1
  | false=>rw [b] at h;exact MU hb.2 t a h
theorem O0 {P:Program} {T:Tab} (h1:T5 P (aCc T)=T) (b:aEn P (aCc T)=true):∀ t a,cR T t=some a->TIOK P t a:=by
 intro t a h
 rw [<-h1] at h
 exact MU b t a h
theorem oX (fr:List (Nat×AVal)) (t:Nat):∀ (keep:List Nat),aW (mM keep fr) t=aW fr t\/aW (mM keep fr) t= .undef
 | []=>.inr rfl
 | k::r=>by
  simp only [mM,aW]
  cases h:Ar k t with
  | true=>simp_all
  | false=>exact oX fr t r
theorem SS.weak {M0:Imm} {ob0:Hs} {obs0:List AObj} {w0:World} {sz:Nat} {dfs:List (Nat×List AVal)} {fr b:List (Nat×AVal)} {obs:List AObj} {a:Act} {w:World} (c:∀ t,aW b t=aW fr t\/aW b t= .undef) (h:SS M0 ob0 obs0 w0 sz dfs fr obs a w):
  SS M0 ob0 obs0 w0 sz dfs b obs a w:=by
 obtain ⟨M,ob,d,hm,f,r⟩:=h
 refine ⟨M,ob,d,hm,fun t=>?_,r⟩
 rcases c t with e | e
 .simp_all
 .rw [e];exact .undef _
theorem dF.weak {E:Env} {fn:Func} {g:Goal} {ks:List KI} {fr b:List (Nat×AVal)} {obs:List AObj} (d:∀ t,aW b t=aW fr t\/aW b t= .undef) (h:dF E fn g ks b obs):dF E fn g ks fr obs:=
 fun c M0 ob0 obs0 w0 a w hst hs=>h c M0 ob0 obs0 w0 a w hst (hs.weak d)
theorem dF.keep {E:Env} {fn:Func} {g:Goal} {ks:List KI} {fr:List (Nat×AVal)} {obs:List AObj} (l:List Nat) (h:dF E fn g ks (mM l fr) obs):dF E fn g ks fr obs:=h.weak fun t=>oX fr t l
theorem To.head {E:Env} {fn:Func} {g:Goal} {ks:List KI} {fr:List (Nat×AVal)} {obs:List AObj} (l:List Nat) (h:To E fn g (.head ks (mM l fr) obs)):To E fn g (.head ks fr obs):=h.rec fun h=>.mk (dF.keep l h)
abbrev C3:=IntKind×Int×Int
def vA (cs:List C3):List Value:=cs.map fun c=>.int c.1 c.2.1
def vB (cs:List C3):List Value:=cs.map fun c=>.int c.1 c.2.2
def pF:List C3->Bool
 | []=>true
 | c::r=>(c.2.1==c.2.2)&&pF r
theorem zG (a b:List C3):pF (a++b)=(pF a&&pF b):=by
 induction a with
 | nil=>simp [pF]
 | cons c r d=>simp [pF,d,Gw]
def mN (P:Program) (t:TypeId) (l:List Value):Value:=if aO P t then .agg l.toArray else l.headD undef
def wK (P:Program) (a:TypeId->Bool):Nat->List Field->Nat->Bool
 | off,[],total=>Ar off total
 | off,f::fs,total=>((f.name != "_")&&Ar f.offset off)&&((a f.type&&(P.info? f.type).isSome)&&wK P a (off+P.cellsOf f.type) fs total)
def fJ (P:Program):Nat->TypeId->Bool
 | 0,_=>false
 | m+1,t=>match P.underlying t with
  | some (.int _)=>Ar (P.cellsOf t) 1
  | some (.array n e)=>(fJ P m e&&(P.info? e).isSome)&&Ar (P.cellsOf t) (n*P.cellsOf e)
  | some (.struct fs)=>!P.stoodInHeld t&&wK P (fJ P m) 0 fs.toList (P.cellsOf t)
  | _=>false
def EqI (P:Program) (d:Nat) (t:TypeId):Prop:=∀ (w:World) (cs:List C3),cs.length=P.cellsOf t->(Op.equalIn d t (mN P t (vA cs)) (mN P t (vB cs))).run P w= .ok (pF cs) w
section
variable {P:Program} (w:World)
theorem oY {m:Nat} {t:TypeId} (h:fJ P m t=true):(P.underlying t).isSome=true/\(aO P t=false->P.cellsOf t=1):=by
 cases m with
 | zero=>cases h
 | succ m=>
  unfold fJ at h
  unfold aO
  split at h
  .simp_all
  .grind
  .grind
  .cases h
theorem jJ {e:TypeId} (f:(P.underlying e).isSome=true) (h:(P.info? e).isSome=true) (h1:aO P e=false->P.cellsOf e=1) (l:List Value) (off:Nat) (d:off+P.cellsOf e<=l.length):
  (part e l.toArray off).run P w= .ok (mN P e ((l.drop off).take (P.cellsOf e))) w:=by
 unfold part
 simp only [Bf,wO f,Ao]
 unfold mN
 obtain ⟨i,b⟩:=Da.1 h
 have c:(P.info? e).map (·.size)=some (P.cellsOf e):=by simp [Program.cellsOf,b]
 cases j:aO P e with
 | true=>
  simp only [if_true,Bf,AW.run_sizeOf c,Ao,Ca]
  simp
 | false=>
  have g:=h1 j
  have a:off<l.length:=o_
  simp only [Ct,if_false]
  simp only [Jq,Ab a,Ca]
  rw [g]
  congr 1
  rw [Ac a]
  rfl
theorem HM (cs:List C3):(vA cs).length=cs.length:=by simp [vA]
theorem aHS (cs:List C3):(vB cs).length=cs.length:=by simp [vB]
theorem OU (cs:List C3) (o n:Nat):((vA cs).drop o).take n=vA ((cs.drop o).take n):=by simp [vA,Hu,Ht]
theorem aHT (cs:List C3) (o n:Nat):((vB cs).drop o).take n=vB ((cs.drop o).take n):=by simp [vB,Hu,Ht]
theorem K7 {d m:Nat} {e:TypeId} (i:fJ P m e=true) (g:(P.info? e).isSome=true) (h:EqI P d e) (cs:List C3) (off:Nat) (c:off+P.cellsOf e<=cs.length):
  ∃ a b,(part e (vA cs).toArray off).run P w= .ok a w/\(part e (vB cs).toArray off).run P w= .ok b w/\(Op.equalIn d e a b).run P w= .ok (pF ((cs.drop off).take (P.cellsOf e))) w:=by
 obtain ⟨f,h1⟩:=oY i
 refine ⟨_,_,jJ w f g h1 _ _ (by rw [HM];exact c),jJ w f g h1 _ _ (by rw [aHS];exact c),?_⟩
 rw [OU,aHT]
 exact h w _ q_
theorem take_add (cs:List C3) (o a b:Nat):(cs.drop o).take (a+b)=(cs.drop o).take a++(cs.drop (o+a)).take b:=by
 rw [List.take_add,Ig]
theorem WS {d m:Nat} {e:TypeId} (l:fJ P m e=true) (i:(P.info? e).isSome=true) (s:EqI P d e) (cs:List C3):∀ (n k:Nat),(k+n)*P.cellsOf e<=cs.length->
  (Op.eqItems d e (P.cellsOf e) (vA cs).toArray (vB cs).toArray (Le k n)).run P w= .ok (pF ((cs.drop (k*P.cellsOf e)).take (n*P.cellsOf e))) w:=by
 intro n
 induction n with
 | zero=>intro k _;simp [Op.eqItems,pF]
 | succ n j=>
  intro k g
  have r:(k+1)*P.cellsOf e<=(k+(n+1))*P.cellsOf e:=Cd _ o_
  have c:(k+1)*P.cellsOf e=k*P.cellsOf e+P.cellsOf e:=by grind
  obtain ⟨a,b,p,f,h⟩:=K7 w l i s cs (k*P.cellsOf e) o_
  have q:=j (k+1) (by rw [show k+1+n=k+(n+1) from by omega];exact g)
  have o:(n+1)*P.cellsOf e=P.cellsOf e+n*P.cellsOf e:=by rw [Bx,Ge,Mo]
  rw [o,take_add,zG,<-c]
  simp only [Ju,Op.eqItems,Bf,p,f,h,Ao]
  cases pF ((cs.drop (k*P.cellsOf e)).take (P.cellsOf e)) with
  | true=>simp;omega
  | false=>simp
theorem O9 {d m:Nat} (u:∀ t,fJ P m t=true->EqI P d t) (cs:List C3):∀ (c:List Field) (off:Nat),wK P (fJ P m) off c cs.length=true->
  (Op.eqFields d (vA cs).toArray (vB cs).toArray c).run P w= .ok (pF (cs.drop off)) w/\off<=cs.length:=by
 intro c
 induction c with
 | nil=>
  intro off h
  have:=aC h
  subst this
  exact ⟨by simp [Op.eqFields,pF],Ba _⟩
 | cons f c q=>
  intro off h
  simp only [wK,Ag] at h
  obtain ⟨⟨h1,n⟩,⟨h3,i⟩,j⟩:=h
  obtain ⟨r,o⟩:=q _ j
  have e:=aC n
  obtain ⟨a,b,s,l,p⟩:=K7 w h3 i (u _ h3) cs f.offset o_
  refine ⟨?_,by omega⟩
  have k:cs.drop off=(cs.drop off).take (P.cellsOf f.type)++cs.drop (off+P.cellsOf f.type):=by rw [<-Ig,Bk]
  rw [k,zG]
  have g:f.name≠ "_" :=by simpa using h1
  simp only [Op.eqFields,g,ne_eq,not_false_eq_true,if_true,Bf,s,l,p,Ao]
  rw [e] at *
  cases pF ((cs.drop off).take (P.cellsOf f.type)) with
  | true=>simp;omega
  | false=>simp
end
theorem Q1 {P:Program} (d:Nat):∀ (m:Nat) (t:TypeId),fJ P m t=true->EqI P (d+m) t
 | 0,_,h=>by cases h
 | m+1,t,h=>by
  intro w cs c
  have p:∀ t,fJ P m t=true->EqI P (d+m) t:=fun t h=>Q1 d m t h
  unfold fJ at h
  split at h
  .rename_i k g
   have f:aO P t=false:=by unfold aO;rw [g]
   have h1:=aC h
   rw [h1] at c
   match cs,c with
   | [(k',a,b)],_=>
    simp only [mN,f,vA,vB,Bp,List.map_nil,List.headD_cons,Ct,if_false,pF,Iv]
    exact run_equalIn_int w (d+m) t k' k a b g
  .rename_i n e g
   simp only [Ag] at h
   obtain ⟨⟨h1,j⟩,h3⟩:=h
   have f:aO P t=true:=by unfold aO;rw [g]
   obtain ⟨i,q⟩:=Da.1 j
   have r:=aC h3
   simp only [mN,f,if_true]
   rw [show d+(m+1)=(d+m)+1 from rfl,run_equalIn_array w (d+m) _ _ g q,Ic,WS w h1 j (p e h1) cs n 0 (by grind)]
   grind
  .rename_i o g
   simp only [Ag,Eb] at h
   obtain ⟨h1,j⟩:=h
   have f:aO P t=true:=by unfold aO;rw [g]
   have l:P.fieldsOf t=o:=by simp [Program.fieldsOf,g]
   simp only [mN,f,if_true]
   rw [<-c] at j
   rw [show d+(m+1)=(d+m)+1 from rfl,run_equalIn_struct w (d+m) t _ _ (by grind) h1,l]
   simpa using (O9 w p cs o.toList 0 j).1
  .cases h
theorem aDz:∀ {xs ys:List AVal} {c:Bool} {vs us:List Value},ceq xs ys=some c->cA (fun _ _ _=>False) [] vs xs->cA (fun _ _ _=>False) [] us ys->∃ cs:List C3,vs=vA cs/\us=vB cs/\c=pF cs
 | [],[],c,vs,us,h,h1,h2=>by
  cases h
  have f:vs=[]:=by simpa using h1.1
  have d:us=[]:=by simpa using h2.1
  exact ⟨[],by simp [vA,f],by simp [vB,d],rfl⟩
 | x::xs,y::ys,c,vs,us,h,h1,h2=>by
  cases x<;>first | (simp [ceq] at h;done) | skip
  cases y<;>first | (simp [ceq] at h;done) | skip
  rename_i k a p b
  simp only [ceq] at h
  obtain ⟨l,h3⟩:=dZ h
  have:=vP l
  subst this
  cases g:ceq xs ys with
  | none=>grind
  | some o=>
   rw [g] at h3
   cases h3
   match vs,us,h1,h2 with
   | v::vs,u::us,h1,h2=>
    have e:=(h1.2 0 v _ rfl rfl).int_inv.1
    have j:=(h2.2 0 u _ rfl rfl).int_inv.1
    subst e j
    obtain ⟨cs,f,d,m⟩:=aDz (vs:=vs) (us:=us) g ⟨by simpa using h1.1,fun i v a e n=>h1.2 (i+1) v a (by grind) (by grind)⟩ ⟨by simpa using h2.1,fun i v a e n=>h2.2 (i+1) v a (by grind) (by grind)⟩
    exact ⟨(k,a,b)::cs,by simp [vA,f],by simp [vB,d],by simp [pF,m]⟩
 | [],_::_,c,vs,us,h,_,_=>by cases h
 | x::_,[],c,vs,us,h,_,_=>by cases x<;>cases h
theorem PA {P:Program} (w:World) {n:Bool} {d m:Nat} (r:∀ (e:TypeId),fJ P m e=true->∀ (w:World) (cs:List C3),cs.length=P.cellsOf e->(Hl n d e (mN P e (vA cs))).run P w= .ok () w) (cs:List C3) {e:TypeId} (k:fJ P m e=true) (b:(P.info? e).isSome=true):
  ∀ (a:List Nat),(∀ i∈a,(i+1)*P.cellsOf e<=cs.length)->
  (forIn (m:=Sem) a PUnit.unit fun i _=>(do Hl n d e (<-part e (vA cs).toArray (i*(<-sizeOf e)));Pure.pure (ForInStep.yield PUnit.unit))).run P w= .ok PUnit.unit w:=by
 intro a
 obtain ⟨s,f⟩:=Da.1 b
 have c:(P.info? e).map (·.size)=some (P.cellsOf e):=by simp [Program.cellsOf,f]
 obtain ⟨p,h1⟩:=oY k
 induction a with
 | nil=>simp
 | cons j a q=>
  intro h
  have g:=h j s_
  rw [Bx,Ge] at g
  have l:=jJ w p b h1 (vA cs) (j*P.cellsOf e) (by rw [HM];exact g)
  rw [OU] at l
  have o:=r e k w ((cs.drop (j*P.cellsOf e)).take (P.cellsOf e)) q_
  simp only [List.forIn_cons,Bf,AW.run_sizeOf c,Ao,l,o,Ca]
  exact q fun i b=>h i (by simp [b])
theorem aDr {P:Program} (D:Bool) (d:Nat):∀ (m:Nat) (t:TypeId),fJ P m t=true->∀ (w:World) (cs:List C3),cs.length=P.cellsOf t->(Hl D (d+m) t (mN P t (vA cs))).run P w= .ok () w
 | 0,_,h=>by cases h
 | m+1,t,h=>by
  intro w cs c
  have C:=aDr (P:=P) D d m
  unfold fJ at h
  rw [show d+(m+1)=(d+m)+1 from rfl,Hl]
  split at h
  .rename_i k j
   have g:aO P t=false:=by unfold aO;rw [j]
   have h1:=aC h
   rw [h1] at c
   match cs,c with
   | [(k',a,b)],_=>
    simp [mN,g,vA,run_underlying j]
  .rename_i n e j
   simp only [Ag] at h
   obtain ⟨⟨h1,o⟩,h3⟩:=h
   have g:aO P t=true:=by unfold aO;rw [j]
   have M:=aC h3
   simp only [mN,g,if_true,Bf,run_underlying j,Ao]
   simp only [Std.Legacy.Range.forIn_eq_forIn_range',Std.Legacy.Range.size,Jl,Nat.add_one_sub_one,Ho]
   have:=PA w C cs h1 o (Le 0 n) (fun i K=>by
    have:i<n:=by grind
    have:(i+1)*P.cellsOf e<=n*P.cellsOf e:=Cd _ this
    omega)
   simp at this⊢
   simp_all
  .rename_i z j
   simp only [Ag,Eb] at h
   obtain ⟨h1,o⟩:=h
   have g:aO P t=true:=by unfold aO;rw [j]
   simp only [mN,g,if_true,Bf,run_underlying j,Ao]
   rw [<-Array.forIn_toList]
   rw [<-c] at o
   have key:∀ (L:List Field) (off:Nat),wK P (fJ P m) off L cs.length=true→off≤cs.length∧∀ f∈L,f.name≠ "_" ∧fJ P m f.type=true∧(P.info? f.type).isSome=true∧f.offset+P.cellsOf f.type≤cs.length:=by
    intro L
    induction L with
    | nil=>
     intro off h
     have:=aC h
     simp_all
    | cons f L v=>
     intro off h
     simp only [wK,Ag] at h
     obtain ⟨⟨x,p⟩,⟨r,q⟩,F⟩:=h
     obtain ⟨N,H⟩:=v _ F
     have A:=aC p
     refine ⟨by omega,fun J l=>?_⟩
     rcases Au.1 l with rfl | l
     .exact ⟨by simpa using x,r,q,by omega⟩
     .exact H J l
   have each:=(key z.toList 0 o).2
   clear key o
   generalize z.toList=L at each
   induction L with
   | nil=>simp
   | cons f L v=>
    obtain ⟨x,p,r,q⟩:=each f s_
    obtain ⟨s,u⟩:=oY p
    have B:=jJ w s r u (vA cs) f.offset (by rw [HM];exact q)
    rw [OU] at B
    have G:=C f.type p w ((cs.drop f.offset).take (P.cellsOf f.type)) q_
    simp only [List.forIn_cons,Bf,x,ne_eq,not_false_eq_true,if_true,Ao,B,G,Ca]
    exact v fun y I=>each y (by simp [I])
  .cases h
theorem aJf (a b:List Int) (h:a.length=b.length):∃ cs:List C3,cs.length=a.length/\fP true a= .agg (vA cs).toArray/\fP true b= .agg (vB cs).toArray/\pF cs=decide (a=b):=by
 refine ⟨(a.zip b).map fun p=>(.i64,p.1,p.2),by simp;omega,?_,?_,?_⟩
 .simp only [fP,vA,if_true,Gq]
  congr 2
  have:(a.zip b).map Lo=a:=List.map_fst_zip o_
  conv=>lhs;rw [<-this]
  simp
 .simp only [fP,vB,if_true,Gq]
  congr 2
  have:(a.zip b).map Prod.snd=b:=List.map_snd_zip o_
  conv=>lhs;rw [<-this]
  simp
 .induction a generalizing b with
  | nil=>
   cases b with
   | nil=>rfl
   | cons y b=>cases h
  | cons x a d=>
   cases b with
   | nil=>cases h
   | cons y b=>
    simp only [List.zip_cons_cons,Bp,pF]
    rw [d b (by grind)]
    by_cases c:x=y
    .simp_all
    .simp [c]
def aCz (P:Program) (t n:Nat):Bool:=(aO P t&&fJ P 8 t)&&(!P.eqGuardType P.depth t&&Ar (P.cellsOf t) n)
theorem aCy {P:Program} {t n:Nat} (h:aCz P t n=true):SH P t n:=by
 simp only [aCz,Ag,Eb] at h
 obtain ⟨⟨h1,d⟩,h3,j⟩:=h
 have u:=aC j
 refine And.symm ⟨fun w a b v r=>?_,?_⟩
 .obtain ⟨cs,s,q,m,o⟩:=aJf a b o_
  have g:=Q1 9992 8 t d w cs o_
  have i:=fun p=>aDr p 9992 8 t d w cs o_
  simp only [mN,h1,if_true] at g i
  rw [q,m,<-o]
  exact ⟨g,i⟩
 intro w x y xs ys vs us c k e f l
 obtain ⟨cs,rfl,rfl,rfl⟩:=aDz k f l
 refine ⟨fun op=>run_eqGuard_agg w op t x y _ _ h3,?_⟩
 have hl:cs.length=P.cellsOf t:=by
  have:=f.1
  rw [HM] at this
  omega
 have:=Q1 9992 8 t d w cs hl
 simp only [mN,h1,if_true] at this
 exact this
def QT (P:Program):List (Nat×Nat)->Bool
 | []=>true
 | (t,n)::r=>aCz P t n&&QT P r
theorem NO {P:Program}:∀ {l:List (Nat×Nat)},QT P l=true->∀ t,0<zV l t->SH P t (zV l t)
 | [],_,t,h=>by cases h
 | (i,n)::r,hb,t,h=>by
  simp only [QT,Ag] at hb
  simp only [zV] at h⊢
  cases a:Ar i t with
  | true=>
   rw [a] at h
   rw [<-aC a]
   exact aCy hb.1
  | false=>rw [a] at h;exact NO hb.2 t h
def zI (P:Program) (mt:aDX):Prop:=∀ t a g,aBW mt t a=some g->∀ v w,(method (P.types.size+Made.depth) t v a).run P w= .ok (g,v) w
theorem zI.nil {P:Program}:zI P []:=fun t a g h=>by cases h
theorem zI.cons {P:Program} {i f:Nat} {s:String} {mt:aDX} (h:∀ v w,(method (P.types.size+Made.depth) i v s).run P w= .ok (f,v) w) (k:zI P mt):zI P ((i,s,f)::mt):=by
 intro t a g b
 simp only [aBW] at b
 cases c:(Ar i t&&s==a) with
 | false=>rw [c] at b;exact k t a g b
 | true=>
  simp_all
section
variable {E:Env} {fn:Func} {g:Goal} {M0:Imm} {ob0:Hs} {obs0:List AObj} {w0:World} {sz:Nat} {dfs:List (Nat×List AVal)} {fr:List (Nat×AVal)} {obs:List AObj} {a:Act} {w:World}
theorem SS.cap {t k i es:Nat} {e:TypeId} {xs:List AVal} (h1:aW fr t= .row k i) (p:aE obs k= .row i es e xs) (h:SS M0 ob0 obs0 w0 sz dfs fr obs a w):
  ∃ c,xs.length<=c/\c<=maxLen/\SS M0 ob0 obs0 w0 sz dfs (gS fr t (.rowc k i c)) obs a w:=by
 obtain ⟨M,ob,y,hm,g,r⟩:=h
 have f:=g t
 rw [h1] at f
 obtain ⟨s,n,c,u,d⟩:=f.row_inv
 obtain ⟨hs',v,F,B,C,j,m,_⟩:=hm.rowOf (bG p s_)
 rw [d] at j
 cases j
 have l:xs.length<=c/\c<=maxLen:=by
  rcases m.len with ⟨q,rfl⟩ | ⟨b,A,o,_,z,D⟩
  .cases q;simp
  .cases o;omega
 refine ⟨c,l.1,l.2,M,ob,y,hm,fun x=>?_,r⟩
 rw [rY]
 split
 .rename_i e
  subst e
  rw [u]
  have:=fZ
  exact .rowc k i c s n d o_
 .exact g x
theorem To.cap {ks:List KI} {t k i es:Nat} {e:TypeId} {xs:List AVal} (h1:aW fr t= .row k i) (b:aE obs k= .row i es e xs)
  (h:∀ c,xs.length<=c->c<=maxLen->To E fn g (.code ks (gS fr t (.rowc k i c)) obs)):To E fn g (.code ks fr obs):=
 .mk fun d M0 ob0 obs0 w0 a w hst hs=>by
  obtain ⟨c,f,j,hs'⟩:=hs.cap h1 b
  exact (h c f j).rec fun h=>h d M0 ob0 obs0 w0 a w hst hs'
theorem Mem.become {M:Imm} {ob:Hs} (hm:Mem M ob obs w) {j k i es es':Nat} {e p:TypeId} {xs ys:List AVal} (F:j≠k) (h1:obs[j]? =some (.row i es e xs)) (H:obs[k]? =some (.row 0 es' p ys)) {v:Value} (hv:at' ob k 0=some v):
  ∃ ob',Mem M ob' ((obs.set j (.row (i+1) es' p ys)).set k .dead) w/\Ext M ob obs w M ob' ((obs.set j (.row (i+1) es' p ys)).set k .dead) w/\at' ob' j (i+1)=some v:=by
 obtain ⟨g,v0,W,Q,e3,e4,S,R⟩:=hm.rowOf h1
 obtain ⟨s,v1,O,Z,f3,T,u,I⟩:=hm.rowOf H
 rw [hv] at T
 cases T
 have D:j<ob.length:=(Ad.1 W).1
 have G:j<obs.length:=(Ad.1 h1).1
 have Y:k<obs.length:=(Ad.1 H).1
 have m:(ob.set j (g++[v]))[j]? =some (g++[v]):=Ap D
 have l:∀ {i:Nat},i≠j->(ob.set j (g++[v]))[i]? =ob[i]?:=fun {i} h=>Aw (Eg h)
 have A:dE ob (ob.set j (g++[v])):=fun d hs K=>by
  by_cases f:d=j
  .subst f
   rw [W] at K
   cases K
   exact ⟨_,m,_,rfl⟩
  .exact ⟨hs,(l f).trans K,Cl _⟩
 have z:(g++[v]).length=i+1+1:=by simp [Q]
 have t:(g++[v])[i+1]? =some v:=by rw [<-Q];simp
 have N:((obs.set j (.row (i+1) es' p ys)).set k .dead)[k]? =some .dead:=Ap q_
 have gj:((obs.set j (.row (i+1) es' p ys)).set k .dead)[j]? =some (.row (i+1) es' p ys):=by
  rw [Aw (Eg F),Ap G]
 have U:∀ {d},d≠j->d≠k->((obs.set j (.row (i+1) es' p ys)).set k .dead)[d]? =obs[d]?:=fun {d} a b=>by
  rw [Aw (Eg b),Aw (Eg a)]
 have alive:∀ {d b:Nat},aM (ob.set j (g++[v])) ((obs.set j (.row (i+1) es' p ys)).set k .dead) d b->(d=j/\aM ob obs k b)\/(d≠j/\d≠k/\aM ob obs d b):=by
  rintro d b ⟨c,hs,o,x,C,L⟩
  by_cases f:d=j
  .subst f
   rw [m] at C
   cases C
   have J:b∈blk s:=by
    rw [eB z t] at L
    rw [eB Z f3]
    exact L
   exact .inl ⟨rfl,_,s,H,rfl,O,J⟩
  .by_cases n:d=k
   .subst n
    rw [N] at o
    cases o
    cases x
   .rw [U f n] at o
    rw [l f] at C
    exact .inr ⟨f,n,c,hs,o,x,C,L⟩
 refine ⟨ob.set j (g++[v]),⟨hm.imm,by simp [hm.len],fun d c y=>?_,fun d b B=>?_,fun d P b B X=>?_⟩,⟨fun _ _ _ h=>h,fun _ _ _ h=>.inl h,A,rfl,rfl,rfl,Ba _,fun _ _ _=>rfl,fun d b B=>?_⟩,(bZ m).trans t⟩
 .by_cases f:d=j
  .subst f
   rw [gj] at y
   cases y
   exact ⟨_,m,z,v,t,u⟩
  .by_cases n:d=k
   .subst n
    rw [N] at y
    cases y
    exact ⟨s,(l f).trans O,trivial⟩
   .rw [U f n] at y
    obtain ⟨hs,o,x⟩:=hm.obj d c y
    exact ⟨hs,(l f).trans o,x.mono (fun _ _ _ h=>h) A (fun _ _ _ _ h=>h) (fun _ _ _ _ h=>h)⟩
 .rcases alive B with ⟨_,q⟩ | ⟨_,_,q⟩<;>exact hm.lt _ b q
 .rcases alive B with ⟨o,q⟩ | ⟨o,x,q⟩<;>rcases alive X with ⟨V,r⟩ | ⟨V,r2,r⟩
  .rw [o,V]
  .exact absurd (hm.inj k P b q r).symm r2
  .exact absurd (hm.inj d k b q r) x
  .exact hm.inj d P b q r
 .rcases alive B with ⟨_,q⟩ | ⟨_,_,q⟩
  .exact .inl ⟨k,q⟩
  .exact .inl ⟨d,q⟩
def IJ:List Nat->AVal->List (Nat×AVal)->List (Nat×AVal)
 | [],_,fr=>fr
 | t::r,v,fr=>IJ r v (gS fr t v)
def J0 (k:Nat) (fr:List (Nat×AVal)):List Nat->Bool
 | []=>true
 | t::r=>(match aW fr t with | .row j 0=>Ar j k | _=>false)&&J0 k fr r
theorem yU {v:AVal} {t:Nat}:∀ {l:List Nat} {fr:List (Nat×AVal)},aW (IJ l v fr) t=aW fr t\/(t∈l/\aW (IJ l v fr) t=v)
 | [],fr=>.inl rfl
 | x::r,fr=>by
  rcases yU (v:=v) (t:=t) (l:=r) (fr:=gS fr x v) with h | ⟨h1,a⟩
  .rw [rY] at h
   by_cases e:t=x
   .subst e
    rw [if_pos rfl] at h
    exact .inr ⟨by simp,h⟩
   .rw [if_neg e] at h
    exact .inl h
  .exact .inr ⟨by simp [h1],a⟩
theorem EE {k:Nat} {fr:List (Nat×AVal)}:∀ {l:List Nat},J0 k fr l=true->∀ t∈l,aW fr t= .row k 0
 | [],_,t,h=>by simp at h
 | x::r,h,t,a=>by
  simp only [J0,Ag] at h
  rcases Au.1 a with rfl | a
  .have:=h.1
   split at this
   .simp_all
   grind
  .exact EE h.2 t a
theorem To.become {ks:List KI} {j k i es es':Nat} {e d:TypeId} {xs ys:List AVal} (l:List Nat) (u:Ar j k=false) (h1:aE obs j= .row i es e xs) (z:aE obs k= .row 0 es' d ys) (hl:J0 k fr l=true)
  (h:To E fn g (.code ks (IJ l (.row j (i+1)) fr) (bJ (bJ obs j (.row (i+1) es' d ys)) k .dead))):To E fn g (.code ks fr obs):=
 .mk fun A M0 ob0 obs0 w0 a w hst hs=>by
  refine h.rec fun h=>h A M0 ob0 obs0 w0 a w hst ?_
  obtain ⟨M,ob,G,hm,F,J,B,K⟩:=hs
  have o:j≠k:=fun e=>by simp_all
  have r:=bG h1 s_
  have p:=bG z s_
  obtain ⟨H,v,P,N,O,s,_⟩:=hm.rowOf p
  obtain ⟨ob',x,f,I⟩:=hm.become o r p s
  have D:bJ (bJ obs j (.row (i+1) es' d ys)) k .dead=(obs.set j (.row (i+1) es' d ys)).set k .dead:=by
   rw [aR r]
   exact gG _ (by simpa using (Ad.1 p).1)
  rw [D]
  refine ⟨M,ob',G.trans f,x,fun t=>?_,J,B.mono (fun _ _ _ h=>h) f.hs,by simp;omega⟩
  have m:=F t
  rcases yU (v:=.row j (i+1)) (t:=t) (l:=l) (fr:=fr) with q | ⟨y,q⟩
  .rw [q];exact m.mono (fun _ _ _ h=>h) f.hs
  .rw [q]
   rw [EE hl t y] at m
   obtain ⟨L,n,c,C,b⟩:=m.row_inv
   rw [s] at b
   cases b
   rw [C]
   exact .row _ _ _ _ _ I
end
theorem aKG {M:Imm} {ob:Hs} {vs:List Value} {a b:AVal} (h:cA M ob vs [a,b]):∃ u v,vs=[u,v]/\Rep M ob u a/\Rep M ob v b:=by
 obtain ⟨hl,c⟩:=h
 match vs,hl with
 | [u,v],_=>exact ⟨u,v,rfl,c 0 _ _ rfl rfl,c 1 _ _ rfl rfl⟩
theorem MD {P:Program} {f:FuncId} {fn:Func} {tS tR e:TypeId} (X:P.funcs[f]? =some fn) (o:(fn.name== "runtime.NumGoroutine")=false) (hb:fn.body.isNone=true) (hn:Extern.findNext fn=none)
  (he:Extern.find fn=some (Extern.SlicesOverlaps.overlaps #[tS,tS] #[tR])) (F:P.underlying tS=some (.slice e)) {sz:Nat} (hz:(P.info? e).map (·.size)=some sz) (r:0<sz) {D z:TypeId} (xs ys:List AVal) (lo len:Nat):
  aA P f [.row 0 0,.sub 1 0 lo len sz] [.row 0 sz D xs,.row 0 sz z ys] (.ret (.bool false)) [.row 0 sz D xs,.row 0 sz z ys]:=by
 intro M ob w H hm W
 obtain ⟨u,v,rfl,hu,Y⟩:=aKG W
 have i:=fun w:World=>run_sizeOf (P:=P) hz w
 refine .inr ⟨.bool false,w,?_,M,ob,Ext.refl _ _ _ _,hm,.bool false⟩
 rw [run_callFunc_extern X o hb hn he]
 have key:(Extern.SlicesOverlaps.overlaps #[tS,tS] #[tR] #[u,v]).run P w= .ok (.bool false) w:=by
  obtain ⟨a,n,c,rfl,K⟩:=hu.row_inv
  obtain ⟨J,v1,p1,p2,p3,Q,C,B⟩:=hm.rowOf (k:=0) rfl
  obtain ⟨I,v2,q1,q2,q3,S,A,y⟩:=hm.rowOf (k:=1) rfl
  rw [K] at Q
  cases Q
  have g:∀ (a:Option Addr) (n c:Nat) (b:Option Addr) (m d:Nat),(a=none\/b=none\/n=0\/m=0)->(Extern.SlicesOverlaps.overlaps #[tS,tS] #[tR] #[.slice a n c,.slice b m d]).run P w= .ok (.bool false) w:=by
   intro a n c b m d h
   change Sem.run P (α:=Value) (do
    let some t:=(#[tS,tS]:Array TypeId)[0]? | stuck "slices.overlaps: no parameter types"
    let .slice elem ←underlying t | stuck "slices.overlaps: slice type expected"
    let size <-sizeOf elem
    match a,b with
    | some a,some b=>
     if n=0\/m=0\/size=0 then pure (Mn false)
     else if a.block !=b.block&&(<-frozen a)&&(<-frozen b) then unsupported .addressObserved
     else do
      if a.block !=b.block then do
           noView a;noView b
           if ←mayBeOne a b then return Mn ((←choose (.extern "sameAddr.stringBytes" 2))==1)
      pure (Mn (a.block==b.block&&a.off<b.off+m*size&&b.off<a.off+n*size))
    | _,_=>pure (Mn false)) w=_
   cases a with
   | none=>simp [run_underlying F,i]
   | some a=>
    cases b with
    | none=>simp [run_underlying F,i]
    | some b=>
     have U:n=0\/m=0\/sz=0:=by
      rcases h with h | h | h | h
      .cases h
      .cases h
      .exact .inl h
      omega
     simp [run_underlying F,i,U]
  cases Y with
  | sub0 _ _ _ _ N a' n2 R l hl hc=>exact g _ _ _ _ _ _ (.inr (.inr (.inr rfl)))
  | sub _ _ _ _ _ b n2 R l hl hn2 hc2 Z=>
   rw [l] at S
   cases S
   obtain ⟨cv,⟨r1,s⟩,_⟩:=C
   obtain ⟨cv2,⟨s1,x⟩,_⟩:=A
   rcases s with ⟨s,_⟩ | ⟨p,O,q,s,_,G,r4,r5,r6,_⟩
   .cases s;exact g _ _ _ _ _ _ (.inl rfl)
   .rcases x with ⟨x,_⟩ | ⟨b2,T,j,x,_,V,s4,s5,s6,_⟩
    .cases x
    .cases s
     cases x
     have L:p≠b:=by
      intro h
      subst h
      have a1:aM ob [.row 0 sz D xs,.row 0 sz z ys] 0 p:=⟨_,J,rfl,rfl,p1,mU B rfl⟩
      have N:aM ob [.row 0 sz D xs,.row 0 sz z ys] 1 p:=⟨_,I,rfl,rfl,q1,mU y rfl⟩
      have:=hm.inj 0 1 p a1 N
      cases this
     have hk:j.size≠0:=by
      rw [s6]
      have:=Nat.mul_pos (show 0<R by omega) r
      omega
     exact Lib.run_overlaps_apart w tS tR e F sz i ⟨p,0,none⟩ ⟨b,lo*sz,none⟩ _ _ _ _ L D z q.size j.size (by simp [World.shape?,G]) (by simp [World.shape?,V]) hk (by simp [Mm,G]) (by simp [Mm,G])
 have e0:(([u,v]:List Value)).toArray= #[u,v]:=rfl
 rw [e0,key]
 rfl
def strip:Nat->AVal->AVal
 | 0,v=>v
 | n+1,v=>match v with
  | .slice sz xs _=>.slice sz xs .no
  | .agg cs=>.agg (dP (strip n) cs)
  | .tup cs=>.tup (dP (strip n) cs)
  | .iface t v=>.iface t (strip n v)
  | v=>v
theorem wL {M:Imm} {ob:Hs}:∀ (n:Nat) {v:Value} {a:AVal},Rep M ob v a->Rep M ob v (strip n a):=by
 intro n
 induction n with
 | zero=>intro v a h;exact h
 | succ n m=>
  intro v a h
  cases h with
  | agg vs as hl d=>
   obtain ⟨h1,f⟩:=bT (fun v a=>m) hl d
   exact .agg vs _ h1 f
  | tup vs as hl d=>
   obtain ⟨h1,f⟩:=bT (fun v a=>m) hl d
   exact .tup vs _ h1 f
  | iface t v a d=>exact .iface t v _ (m d)
  | slnil sz t p=>exact .slnil sz .no trivial
  | slemp sz t a cap p=>exact .slemp sz .no a cap trivial
  | sl sz b o n cap xs t j e hm hz d p=>exact .sl sz b o n cap xs .no j e hm hz d trivial
  | undef v=>exact .undef v
  | bool b=>exact .bool b
  | int k n d=>exact .int k n d
  | str l hl=>exact .str l hl
  | ptr b o cs h=>exact .ptr b o cs h
  | ref k off b h=>exact .ref k off b h
  | eref k g i sz off b n c h=>exact .eref k g i sz off b n c h
  | csl k off len sz b h hm=>exact .csl k off len sz b h hm
  | row k g a n c h=>exact .row k g a n c h
  | sub k g lo len sz b n c h hl j e hm=>exact .sub k g lo len sz b n c h hl j e hm
  | sub0 k g lo sz a u n c h hl e=>exact .sub0 k g lo sz a u n c h hl e
  | rowc k g c a n h hm=>exact .rowc k g c a n h hm
  | pre k g n c sz b len h e j hl hm=>exact .pre k g n c sz b len h e j hl hm
  | mref k b h=>exact .mref k b h
  | nilptr=>exact .nilptr
  | nilslice=>exact .nilslice
  | nilmap=>exact .nilmap
  | nilfunc=>exact .nilfunc
  | nilif=>exact .nilif
  | hsl a n c=>exact .hsl a n c
  | func fn r cs q s w e h1 f=>exact .func fn r cs q s w e h1 f
theorem aA.strip {P:Program} {f:FuncId} {args:List AVal} {obs obs':List AObj} {r:Res} (h:aA P f (dP (strip 5) args) obs r obs'):aA P f args obs r obs':=
 fun M ob w b hm c=>h M ob w b hm (by
  obtain ⟨h1,d⟩:=bT (M':=M) (ob':=ob) (fun v a=>wL (M:=M) (ob:=ob) 5) c.1 c.2
  exact ⟨h1,d⟩)
def Y8 (n:Nat):List (Nat×List AVal)->Bool
 | []=>true
 | (_,l)::r=>EA (bel n 5) l&&Y8 n r
theorem OI {n:Nat}:∀ {l:List (Nat×List AVal)},Y8 n l=true->∀ (i:Nat) x,l[i]? =some x->EA (bel n 5) x.2=true
 | [],_,i,x,h=>by simp at h
 | (f,y)::r,hb,i,x,h=>by
  simp only [Y8,Ag] at hb
  cases i with
  | zero=>grind
  | succ i=>exact OI hb.2 i x (by simp_all)
theorem aDG {w0 w:World} {M:Imm} {ob:Hs} {n:Nat} {f:List Deferred} {dfs:List (Nat×List AVal)} (h:cQ w0 w M ob f dfs) (k:Y8 n dfs=true):cQ w0 w M (ob.take n) f dfs:=
 let ⟨d1,d2,e,h,h2⟩:=h
 ⟨d1,d2,e,⟨h.1,fun i d x c b=>⟨(h.2 i d x c b).1,(h.2 i d x c b).2.1,fun j v a l g=>AV 5 ((h.2 i d x c b).2.2 j v a l g) (lX (OI k i x b) j a g)⟩⟩,h2⟩
theorem To.cut {E:Env} {fn:Func} {g:Goal} {ks:List KI} {fr:List (Nat×AVal)} {obs:List AObj} (l:List Nat) (n:Nat) (C:Fq g.n0 n=true) (v:aDF n (mM l fr)=true) (j:E1 n (nT n obs)=true) (r:Y8 n E.df=true)
  (h:To E fn g (.head ks (mM l fr) (nT n obs))):To E fn g (.head ks fr obs):=
 .mk fun i M0 ob0 obs0 w0 a w hst hs=>by
  refine h.rec fun h=>h i M0 ob0 obs0 w0 a w hst ?_
  obtain ⟨M,ob,c,hm,d,x,s,A⟩:=hs
  rw [B9] at j⊢
  obtain ⟨o,p⟩:=hm.cutO j
  have B:ob0.length<=n:=by rw [hst.1];simp_all
  refine ⟨M,ob.take n,⟨c.imm,c.new,fun k hs m=>?_,c.os,c.tape,c.output,c.size,c.keep,fun k b y=>c.fresh k b (p y)⟩,o,fun t=>?_,x,aDG s r,by simp;omega⟩
  .obtain ⟨hs',z,u⟩:=c.hs k hs m
   have f:k<n:=by have:=(Ad.1 m).1;omega
   exact ⟨hs',by rw [Bg f];exact z,u⟩
  .rcases OH v t with q | q
   .rcases oX fr t l with e | e
    .rw [e] at q⊢
     exact AV 5 (d t) q
    .rw [e];exact .undef _
   .rw [q];exact .undef _
open Go.RowKit Go.ChangeShapes Go.WideShapes Go.ChangeAt
theorem D6 {P:Program} {f:FuncId} {args:List AVal} {a:List Value} {w:World} {M:Imm} (b:uF P f) (h:aA P f args [] (.ret (.bool true)) []) (hm:Mem M [] [] w) (c:cA M [] a args):
  Calls P f a.toArray w fun e w'=>e= .returned (.bool true)/\Below w.heap.size w w':=by
 rcases h M [] w a hm c with ⟨_,h⟩ | ⟨u,w',h,_⟩
 .refine h.mono fun e w' ⟨M',ob',h1,g,h3⟩=>⟨?_,h1.below⟩
  cases e with
  | returned v=>rw [Rep.bool_inv h3]
  | panicked d=>exact h3.elim
  | outgrown=>exact h3.elim
 .rw [b] at h
  cases h
section
variable {P:Program} {w:World} {r:Reach} {base:Nat} {t:TypeId} {v:Value}
theorem UR {k:IntKind} {n:Int} (h:k.has n):inR k n:=by
 cases k<;>simpa [IntKind.has,IntKind.min,IntKind.max,IntKind.signed,IntKind.bits,inR,bO,bA] using h
theorem aBF (a:aO P t=false) (h:Gd P w r base t v):Cell.okWide P w r base t v:=by
 unfold Gd at h
 unfold aO at a
 split at h
 .grind
 .grind
 .exact h
theorem aA6 {M:Imm} {ob:Hs} {v:Value} {a:AVal} (h:Rep M ob v a) {vs:List Value} {as:List AVal} (hs:cA M ob vs as):cA M ob (v::vs) (a::as):=cA.cons h hs
theorem aHj {M:Imm} {ob:Hs}:cA M ob [] []:=⟨rfl,fun i v a h=>by simp at h⟩
end
theorem aMb {args:Array Value} (h:args.toList.length=1):∃ a,args= #[a]:=by
 obtain ⟨l⟩:=args
 match l,h with
 | [a],_=>simp
theorem aMa {args:Array Value} (h:args.toList.length=2):∃ a b,args= #[a,b]:=by
 obtain ⟨l⟩:=args
 match l,h with
 | [a,b],_=>simp
section
variable {H:Type} {enc:TypeId×Value->H} {P:Program}
def TO (P:Program):List TypeId->Bool
 | []=>true
 | t::ts=>(P.readableRec t&&decide (t<P.types.size))&&TO P ts
theorem EM (hl:laidOutB P=true) {W j:World} (k:Below W.heap.size W j):∀ {a:List TypeId} {vs:List Value} {g:List (DataW H)} {e:List MemPlace},TO P a=true->(∀ x∈e,x.block<W.heap.size)->
  DataW.TrodAll enc P W 0 (fun _=>true) true a vs g e->DataW.TrodAll enc P j 0 (fun b=>decide (b<W.heap.size)) true a vs g e:=by
 intro a
 induction a with
 | nil=>
  intro vs g e _ _ h
  obtain ⟨rfl,rfl,rfl⟩:=trodAll_nil h
  rfl
 | cons t a o=>
  intro vs g e f c h
  simp only [TO,Ag,decide_eq_true_eq] at f
  obtain ⟨v,m,d,n,p,q,rfl,rfl,rfl,l,h1⟩:=trodAll_cons h
  exact trodAll_cons_mk (Below.trod hl f.1.1 f.1.2 l k fun x i=>c x (by simp [i])) (o f.2 (fun x i=>c x (by simp [i])) h1)
theorem pY {W:World}:∀ {c:List TypeId} {vs:List Value} {e:List (DataW H)} {f:List MemPlace},DataW.TrodAll enc P W 0 (fun _=>true) true c vs e f->vs.length=c.length/\e.length=c.length:=by
 intro c
 induction c with
 | nil=>
  intro vs e f h
  obtain ⟨rfl,rfl,rfl⟩:=trodAll_nil h
  omega
 | cons t c j=>
  intro vs e f h
  obtain ⟨v,g,d,i,p,q,rfl,rfl,rfl,k,h1⟩:=trodAll_cons h
  obtain ⟨a,b⟩:=j h1
  simp_all
theorem FQ {fn:Func} {s:ChangeSpec} {W j:World} {args:Array Value} {b t:List (DataW H)} {nG:List MemPlace} {m:TypeId} (hl:laidOutB P=true) (v:TO P fn.params.toList=true) (l:s.vars=[])
  (d:fn.resultTypes= #[m]) (n:P.underlying m=some .bool) (c:DataW.Whole enc P fn.params.toList s.vars false W args.toList b t nG) (a:Below W.heap.size W j)
  (f:b.length=fn.params.toList.length->(s.fn H b).results=[.lit (.bool true)]/\(s.fn H b).args=b/\(s.fn H b).vars=[]):s.post enc P fn false true false false W args (.bool true) j:=by
 have e:=c.lt
 have g:=c
 obtain ⟨p,q,i,k,rfl,y,w⟩:=c
 rw [l] at k
 obtain ⟨rfl,rfl⟩:=trodVars_none k
 obtain ⟨u,o,r⟩:=f (pY i).2
 refine ⟨b,[],_,[],p,[],g,?_,?_,?_,a.frame _,fun h=>by cases h⟩
 .rw [Bc,u,d]
  exact trodAll_cons_mk (shut_bool n _) trodAll_mk0
 .rw [Bc,o]
  exact EM hl a v (fun x z=>e x (by simp [z])) i
 .rw [Bc,r,l]
  exact rfl
end
inductive RepW (w:World):Value->AVal->Prop
 | bool (b):RepW w (.bool b) (.bool b)
 | int (k n) (h:inR k n):RepW w (.int k n) (.int k n)
 | str (l:List UInt8) (h:(l.length:Int)<=9223372036854775807):RepW w (.string ⟨l.toArray⟩) (.str l)
 | nilslice (sz:Nat):RepW w (.slice none 0 0) (.slice sz [] .no)
 | emptys (sz:Nat) (a:Addr) (cap:Nat):RepW w (.slice (some a) 0 cap) (.slice sz [] .no)
 | slice (sz b o n cap:Nat) (xs:List AVal) (us:Nat->Nat->Value) (hn:xs.length=n) (hc:n<=cap) (hm:(n:Int)<=9223372036854775807) (hz:∀ x∈xs,x.cells.length=sz)
   (h1:∀ (i j:Nat) x c,xs[i]? =some x->x.cells[j]? =some c->w.cell? ⟨b,o+i*sz+j,none⟩=some (us i j)) (h2:∀ (i j:Nat) x c,xs[i]? =some x->x.cells[j]? =some c->(us i j).oneCell'=true)
   (h3:∀ (i j:Nat) x c,xs[i]? =some x->x.cells[j]? =some c->RepW w (us i j) c):RepW w (.slice (some ⟨b,o,none⟩) n cap) (.slice sz xs .no)
def Mw (w:World):Imm:=fun b o x=>∃ v,w.cell? ⟨b,o,none⟩=some v/\v.oneCell'=true/\RepW w v x
theorem RepW.rep {w:World} {v:Value} {a:AVal} (h:RepW w v a):Rep (Mw w) [] v a:=by
 cases h with
 | bool b=>exact .bool b
 | int k n h=>exact .int k n h
 | str l h=>exact .str l h
 | nilslice sz=>exact .slnil sz .no trivial
 | emptys _ a cap=>exact .slemp _ _ _ _ trivial
 | slice sz b o n cap xs us g m hm hz h1 f h3=>exact .sl sz b o n cap xs .no g m hm hz (fun i j x c e d=>⟨us i j,h1 i j x c e d,f i j x c e d,h3 i j x c e d⟩) trivial
theorem aKN (w:World):Mem (Mw w) [] [] w where
 imm:=fun b o x ⟨v,h1,h2,h3⟩=>⟨v,h1,h2,h3.rep⟩
 len:=rfl
 obj k c h:=by simp at h
 lt k b h:=by obtain ⟨c,hs,e,_⟩:=h;simp at e
 inj k k' b h:=by obtain ⟨c,hs,e,_⟩:=h;simp at e
def TyF (T:TypeId->List AVal->Prop):List Field->List AVal->Prop
 | [],cs=>cs=[]
 | f::fs,cs=>∃ a b,cs=a++b/\T f.type a/\TyF T fs b
theorem RepW.one {w:World} {v:Value} {a:AVal} (h:RepW w v a):v.oneCell'=true:=by cases h<;>rfl
def fV (w:World) (cs:List Value) (as:List AVal):Prop:=cs.length=as.length/\∀ (i:Nat) v a,cs[i]? =some v->as[i]? =some a->RepW w v a
theorem fV.append {w:World} {vs us:List Value} {as bs:List AVal} (h:fV w vs as) (k:fV w us bs):fV w (vs++us) (as++bs):=by
 refine ⟨by simp [h.1,k.1],fun i v a b c=>?_⟩
 by_cases d:i<vs.length
 .rw [Af d] at b
  rw [Af (by rw [<-h.1];exact d)] at c
  exact h.2 i v a b c
 .rw [Ak o_] at b
  rw [Ak (by rw [<-h.1];omega),<-h.1] at c
  exact k.2 _ v a b c
theorem fV.single {w:World} {v:Value} {a:AVal} (h:RepW w v a):fV w [v] [a]:=
 ⟨rfl,fun i u b c d=>by cases i with | zero=>grind | succ i=>simp at c⟩
theorem fV.nil {w:World}:fV w [] []:=⟨rfl,fun i v a h=>by simp at h⟩
def HS (P:Program) (a:TypeId->Bool):Nat->List Field->Nat->Bool
 | off,[],total=>Ar off total
 | off,f::fs,total=>(Ar f.offset off&&a f.type)&&HS P a (off+P.cellsOf f.type) fs total
def nU (P:Program):Nat->TypeId->Bool
 | 0,_=>false
 | n+1,t=>match P.underlying t with
  | some .bool=>true
  | some (.int _)=>true
  | some .string=>true
  | some (.struct fs)=>HS P (nU P n) 0 fs.toList (P.cellsOf t)
  | some (.array m e)=>nU P n e&&Ar (P.cellsOf t) (m*P.cellsOf e)
  | some (.slice e)=>nU P n e&&Fi 0 (P.cellsOf e)
  | _=>false
section
variable {H:Type} {enc:TypeId×Value->H} {P:Program} {w:World} {base:Nat} {spare:Nat->Bool} {held:Bool}
theorem XR {r:Reach} {d:Nat} {t e:TypeId} {v:Value} (b:P.underlying t=some (.slice e)) (h:Cell.okWide P w r d t v):∃ a n c,v= .slice a n c:=by
 unfold Cell.okWide at h
 rw [b] at h
 unfold Cell.ok at h
 rw [b] at h
 cases v<;>simp at h
 simp
end
def A1 (M:Imm) (ob:Hs) (u:FrameMode):Option AVal->Prop
 | none=>u= .returning
 | some v=>∃ x,u= .panicking [{v:=x,recovered:=false}]/\Rep M ob x v
def zK (P:Program) (f:FuncId) (args:List AVal) (obs:List AObj) (p:Option AVal) (obs':List AObj):Prop:=
 ∀ M ob w a u,Mem M ob obs w->cA M ob a args->A1 M ob u p->
  (callFunc f a.toArray).run P w= .ok (.enter f a.toArray) w/\
   CallsD P f a.toArray u w fun e b w'=>∃ v M' ob',e= .returned v/\settle b= .returning/\Ext M ob obs w M' ob' obs' w'/\Mem M' ob' obs' w'
section
variable {P:Program}
theorem K8 {o:Oper} {b:Array TypeId} {ρ:Operand->Value} {w:World} (c:o.op= .call {callee:=.builtin .recover,args:= #[],argTypes:=b}):(execOp ρ o).run P w= .ok .recover w:=by
 obtain ⟨dst,op,ty,pos,a,d⟩:=o
 subst c
 rfl
theorem IB {M:Imm} {ob:Hs} {u:FrameMode} {p:Option AVal} (h:A1 M ob u p) (c:Frame) (cs:List Frame) (b:c.mode=u):
  ∃ v d,Rep M ob v (match p with | none=>.nilif | some a=>a)/\settle d= .returning/\
   ((recoverD (c::cs)=some (v,{c with mode:=d}::cs))\/(recoverD (c::cs)=none/\v= .nilIface/\({c with mode:=d}:Frame)=c)):=by
 cases p with
 | none=>
  have h:u= .returning:=h
  subst h
  refine ⟨.nilIface,.returning,.nilif,rfl,.inr ⟨by simp [recoverD,b],rfl,?_⟩⟩
  rw [<-b]
 | some a=>
  obtain ⟨x,rfl,e⟩:=h
  refine ⟨x,.panicking [{v:=x,recovered:=true}],e,rfl,.inl ?_⟩
  simp [recoverD,b]
end
def EF:Code->Code
 | .seq _ b=>b
 | c=>c
def aIG:Code->Bool
 | .seq (.region _ ops false) _=>(match ops.toList with
  | [o]=>(match o.op with
   | .call c=>(match c.callee with | .builtin .recover=>c.args.toList.isEmpty&&o.guard.isNone&&o.dst.isSome | _=>false)
   | _=>false)
  | _=>false)
 | _=>false
def XB:Code->Nat
 | .seq (.region _ ops _) _=>(match ops.toList with | [o]=>o.dst.getD 0 | _=>0)
 | _=>0
theorem XD {c:Code} (h:aIG c=true):∃ id o a rest,c= .seq (.region id #[o] false) rest/\o.op= .call {callee:=.builtin .recover,args:= #[],argTypes:=a}/\o.guard=none/\o.dst=some (XB c)/\EF c=rest:=by
 unfold aIG at h
 split at h
 .rename_i id ops rest
  split at h
  .rename_i o m
   split at h
   .rename_i i f
    split at h
    .rename_i b
     simp only [Ag] at h
     obtain ⟨⟨h1,l⟩,h3⟩:=h
     obtain ⟨g,as,a⟩:=i
     have b:g= .builtin .recover:=b
     subst b
     have e:ops= #[o]:=by cases ops;grind
     subst e
     have k:as= #[]:=by simp_all
     subst k
     obtain ⟨d,j⟩:=Da.1 h3
     refine ⟨id,o,a,rest,rfl,f,by simp_all,?_,rfl⟩
     simp [XB,j]
    .cases h
   .cases h
  .cases h
 .cases h
theorem zK.of {E:Env} {f:FuncId} {fn:Func} {args:List AVal} {obs:List AObj} {n0:Nat} {r:AVal} {obs':List AObj} {p:Option AVal} (hdf:E.df=[]) (Y:E.P.funcs[f]? =some fn) (hb:fn.body=some (dC fn)) (hbo:uF E.P f)
  (O:aIG (dC fn)=true) (N:dB fn.ntmps (EF (dC fn))=true) (hn:Fq args.length fn.ntmps=true) (Z:Fi (XB (dC fn)) fn.ntmps=true) (hsb:tG obs=true) (hg:obs.length=n0)
  (h:okL args->To E fn (.full n0 (.ret r) obs') (.code [.code (EF (dC fn))] (gS (frA 0 args) (XB (dC fn)) (match p with | none=>.nilif | some a=>a)) obs)) (z:E.rd=none:=by rfl):zK E.P f args obs p obs':=by
 intro M ob w g u hm hr F
 refine ⟨hbo _ _,?_⟩
 obtain ⟨id,o,ats,rest,hc,hop,hgd,U,K⟩:=XD O
 rw [K] at h N
 have hlen:g.length=args.length:=hr.1
 have hle:=Ci hn
 have htl:XB (dC fn)<fn.ntmps:=by simpa [Jt] using Z
 generalize htt:XB (dC fn)=t at *
 have hst:pL (.full n0 (.ret r) obs') ob:=by
  refine ⟨by rw [hm.len,hg];rfl,fun _ hs J=>?_⟩
  obtain ⟨k,C⟩:=Cs J
  have L:k<obs.length:=by rw [<-hm.len];exact (Ad.1 C).1
  obtain ⟨h1,h2⟩:=tF hsb k _ (Ab L)
  have e:=fX (Ab L)
  have:=hm.histLen (by rw [e];exact h1) C
  rw [e,h2] at this
  exact this
 intro c cs hu
 obtain ⟨v,y,X,W,H⟩:=IB F c cs hu
 let b:Frame:={(default:Frame) with fn:=f,kind:=.deferred}
 let a:Act:={tmps:=g.toArray++Fw (fn.ntmps-g.toArray.size) undef,defers:=[]}
 have R:a.tmps.size=fn.ntmps:=by simp [a];omega
 have A:Frame.enter E.P f g.toArray .deferred=b.at a [.code (.seq (.region id #[o] false) rest)]:=by
  simp [Frame.enter,Frame.at,Y,hb,hc,b,a]
 have ha:∀ t,Rep M ob (a.tmps.getD t undef) (aW (frA 0 args) t):=fun t=>by
  rw [C4]
  simp only [Cn,if_true,Jl]
  by_cases Z:t<args.length
  .rw [Ab Z]
   have X:t<g.length:=o_
   have:a.tmps.getD t undef=g[t]:=by
    show (g.toArray++Fw (fn.ntmps-g.toArray.size) undef).getD t undef=_
    rw [Bi,Gz o_]
    simp [X]
   rw [this]
   exact hr.2 t _ _ (Ab X) (Ab Z)
  .rw [Bh o_]
   exact .undef _
 -- the region of recover
 have S:=wp_opsS (P:=E.P) (ops:= #[o]) (Q:=fun e a' cs' w'=>e= .normal/\a'=a.put o.dst v/\cs'={c with mode:=y}::cs/\w'=w) [0] a (c::cs) w (by
  have e0:(#[o]:Array Oper)[0]? =some o:=rfl
  have hw:Fg o (yielded #[o] a.tmps)=true:=by unfold Fg;rw [hgd]
  simp only [wpOpsS,e0,hw,if_true,K8 hop]
  rcases H with h1 | ⟨h1,rfl,h2⟩
  .rw [h1]
   simp
  .rw [h1]
   refine ⟨?_,?_,?_,?_⟩<;>first | trivial | rfl | rw [h2]) b [.code rest] rfl rfl
 obtain ⟨e1,a1,cs1,B,⟨rfl,rfl,rfl,rfl⟩,D⟩:=S
 -- the rest
 have hkw:KW none E.P (rJ E fn M ob obs B (.full n0 (.ret r) obs')) [.code rest] (a.put o.dst v) B:=by
  rw [<-z]
  obtain ⟨hh⟩:=h hr.okL
  refine hh (by simp [bF,KI.ok,N]) M ob obs B _ B hst ⟨M,ob,Ext.refl _ _ _ _,hm,?_,(eW _ _ _).1.trans R,by rw [hdf];exact cQ.put (a:=a) .nil,by rw [hm.len];omega⟩
  intro s
  have:=nD (d:=some t) ha X (fun d' e=>by cases e;omega) s
  rw [U]
  rwa [show iV (aW (frA 0 args)) (some t) _ s=aW (gS (frA 0 args) t _) s from (congrFun (fG (frA 0 args) (some t) _) s).symm] at this
 obtain ⟨e2,I,w2,m,j⟩:=hkw.arrives b ({c with mode:=y}::cs) rfl
 have i:Steps E.P (lone (b.at a [.code (.seq (.region id #[o] false) rest)]) (c::cs) B) (lone (b.at (a.put o.dst v) [.code rest]) ({c with mode:=y}::cs) B):=
  .head step_seq (.head step_region D)
 have fin:∀ {e:Ending} {w':World},RR M ob obs B (.full n0 (.ret r) obs') e w'->∃ v M' ob',e= .returned v/\settle y= .returning/\Ext M ob obs B M' ob' obs' w'/\Mem M' ob' obs' w':=fun {e w'} ⟨M',ob',x1,x2,x3⟩=>by
  cases e with
  | returned v=>exact ⟨v,M',ob',rfl,W,x1,x2⟩
  | panicked ch=>exact x3.elim
  | outgrown=>exact x3.elim
 rw [A]
 cases e2 with
 | normal=>
  unfold rJ EJ at m
  rw [z] at m
  obtain ⟨T,x,q,V,hs,_,C,hl⟩:=fF I.defers .returning w2 {b.at I [] with mode:=.returning} ({c with mode:=y}::cs) rfl rfl rfl Y m
  exact ⟨T,y,x,q,fin V,Comes.of_steps (i.trans (Steps.trans j (.one step_end))) hs,C,hl⟩
 | ret=>
  obtain ⟨n,G⟩:=j
  unfold rJ EJ at m
  rw [z] at m
  obtain ⟨T,x,q,V,hs,_,C,hl⟩:=fF I.defers .returning w2 {b.at I n with mode:=.returning} ({c with mode:=y}::cs) rfl rfl rfl Y m
  exact ⟨T,y,x,q,fin V,Comes.of_steps (i.trans G) hs,C,hl⟩
 | panic eM=>
  obtain ⟨n,G⟩:=j
  unfold rJ at m
  rw [z] at m
  obtain ⟨T,x,q,V,hs,_,C,hl⟩:=fF I.defers (.panicking eM) w2 {b.at I n with mode:=.panicking eM} ({c with mode:=y}::cs) rfl rfl rfl Y m
  exact ⟨T,y,x,q,fin V,Comes.of_steps (i.trans G) hs,C,hl⟩
 | exit id=>exact m.elim
 | goto l=>exact m.elim
 | outgrown=>exact m.elim
def aJ0 (fr:List (Nat×AVal)):List Oper->Option (Nat×List AVal)
 | [p]=>(match p.guard,p.op with
  | none,.defer c=>(match c.callee with
   | .value (.func f)=>some (f,evO (ev fr) c.args.toList)
   | _=>none)
  | _,_=>none)
 | _=>none
theorem QY (ρ:Operand->AVal):∀ (l:List Operand),evO ρ l=l.map ρ
 | []=>rfl
 | x::r=>by simp [evO,QY ρ r]
def aBU (ks:List Nat) (og:Nat->AObj):Option AVal->Option AVal
 | none=>none
 | some v=>some (cvtV 0 ks og 5 v)
section
variable {E:Env} {fn:Func} {g:Goal}
theorem NH {df:List (Nat×List AVal)} {id:Nat} {ops:Array Oper} {ks:List KI} {fr:List (Nat×AVal)} {obs:List AObj} {f:Nat} {args:List AVal} (k:aJ0 fr ops.toList=some (f,args))
  (u:df=(f,args)::E.df)
  (B:E.rd=none) (h:dF {E with df:=df} fn g ks (match ops.toList with | [o]=>mX fr o.dst (.tup []) | _=>fr) obs):dF E fn g (.code (.region id ops false)::ks) fr obs:=by
 intro I M0 ob0 obs0 w0 a w hst hs
 simp only [bF,KI.ok,dB,Ag] at I
 obtain ⟨⟨z,_⟩,C⟩:=I
 have n:=sE z
 unfold aJ0 at k
 split at k
 .rename_i o m
  split at k
  .rename_i c U p
   split at k
   .rename_i Z l
    cases k
    rw [m] at h n
    dsimp only at h
    refine KW.code (Q':=QR {E with df:=df} fn g M0 ob0 obs0 w0 ks) ?_ (fun a w h=>h) (fun Y a w h=>h) (fun e a w W=>by
     cases e<;>first | exact .inl rfl | exact .inr ⟨_,rfl⟩ | exact W.elim)
    refine wpIn_region_list ?_
    rw [m]
    unfold wpListIn
    have O:Fg o (yielded ops a.tmps)=true:=by unfold Fg;rw [U]
    rw [if_pos O]
    obtain ⟨dst,op,ty,pos,q,N⟩:=o
    have p:op= .defer c:=p
    subst p
    obtain ⟨D,as,A⟩:=c
    have l:D= .value (.func f):=l
    subst l
    have s:(execOp a.eval ⟨dst,.defer ⟨.value (.func f),as,A⟩,ty,pos,q,N⟩).run E.P w= .ok (.defer {target:=.fn (.func f) #[],args:= #[]++as.map a.eval}) w:=rfl
    refine ⟨fun _ _=>trivial,?_⟩
    rw [show (fen E.rd).round=none from B,Oper.semAt_none,s,Oper.uponIn_defer]
    obtain ⟨M,ob,S,V,G,J,t,T⟩:=hs
    refine h C M0 ob0 obs0 w0 _ w hst ⟨M,ob,S,V,?_,(eW _ _ _).1.trans J,?_,T⟩
    .rw [fG]
     exact nD (a:={a with defers:={target:=Target.fn (Fn.func f) #[],args:= #[]++Array.map a.eval as}::a.defers}) G wU fun R e=>J▸n _ (Du.2 rfl) R e
    .rw [u]
     obtain ⟨K,L,X,t,Q⟩:=t
     refine cQ.put (a:={a with defers:=_}) ⟨_::K,L,by rw [X];rfl,⟨by simp [t.1],fun i d x k s=>?_⟩,Q⟩
     cases i with
     | zero=>
      simp at k s
      subst k s
      refine ⟨rfl,?_,fun j v b F r=>?_⟩
      .simp [QY]
      .rw [QY,Bj] at r
       simp only [Array.empty_append,Jv,Bj] at F
       cases H:as.toList[j]? with
       | none=>rw [H] at r;cases r
       | some y=>
        rw [H] at r F
        cases r
        cases F
        exact DL G y
     | succ i=>exact t.2 i d x (by simpa using k) (by simpa using s)
   .cases k
  .cases k
 .cases k
theorem To.defer (df:List (Nat×List AVal)) {id:Nat} {ops:Array Oper} {ks:List KI} {fr:List (Nat×AVal)} {obs:List AObj} {f:Nat} {args:List AVal} (c:aJ0 fr ops.toList=some (f,args)) (a:df=(f,args)::E.df)
  (h:To {E with df:=df} fn g (.code ks (match ops.toList with | [o]=>mX fr o.dst (.tup []) | _=>fr) obs)) (b:E.rd=none:=by rfl):To E fn g (.code (.code (.region id ops false)::ks) fr obs):=
 .mk (h.rec fun h=>NH c a b h)
theorem CP {M0:Imm} {ob0:Hs} {obs0:List AObj} {w0:World} {sz:Nat} {f:Nat} {args:List AVal} {rest:List (Nat×List AVal)} {M:Imm} {ob:Hs} {obs obs':List AObj} {w:World} {a:Act} {u:FrameMode} {p:Option AVal} (b ks:List Nat)
  {fr:List (Nat×AVal)} (V:Ext M0 ob0 obs0 w0 M ob obs w) (G:Mem M ob obs w) (K:∀ t,Rep M ob (a.tmps.getD t undef) (aW fr t)) (Q:a.tmps.size=sz) {r:List Deferred} (n:cQ w0 w M ob r ((f,args)::rest)) (x6:ob0.length<=obs.length)
  (y:mB ks (frzs b obs)=true) (s:A1 M ob u p)
  (h:zK E.P f (dP (cvtV 0 ks (aE (frzs b obs)) 5) args) (iE 0 ks (frzs b obs)) (aBU ks (aE (frzs b obs)) p) obs') {R:Ending->World->Prop}
  (hl:∀ (q:List Deferred) w',SS M0 ob0 obs0 w0 sz rest fr (kD ks (aP (frzs b obs)) (frzs b obs) 0 obs' (frzs b obs)) {a with defers:=q} w'->eV E.P fn a.tmps R q .returning w'):eV E.P fn a.tmps R r u w:=by
 obtain ⟨C,k,rfl,n,S⟩:=n
 cases C with
 | nil=>have:=n.1;simp at this
 | cons d r=>
  obtain ⟨c,g⟩:=n.2 0 d _ rfl rfl
  obtain ⟨A,z,H,_,_⟩:=Mem.frzs b M obs G
  obtain ⟨O,_,_⟩:=z.cvt (n0:=0) y
  have m:cA A _ d.args.toList (dP (cvtV 0 ks (aE (frzs b obs)) 5) args):=xF (fun v a=>z.cvtV (n0:=0) y 5 v a) ⟨g.1,fun i v a F I=>(g.2 i v a F I).monoM H.imm⟩
  have l:A1 A (dY 0 ob (frzs b obs) 0 ks) u (aBU ks (aE (frzs b obs)) p):=by
   cases p with
   | none=>exact s
   | some v=>
    obtain ⟨x,e,T⟩:=s
    exact ⟨x,e,z.cvtV y 5 _ _ (T.monoM H.imm)⟩
  obtain ⟨h1,N⟩:=h A _ w d.args.toList u O m l
  have D:u≠ .run:=by
   cases p with
   | none=>have:u= .returning:=s;rw [this];simp
   | some v=>obtain ⟨x,e,_⟩:=s;rw [e];simp
  obtain ⟨B,o⟩:=d
  have c:B= .fn (.func f) #[]:=c
  subst c
  refine ⟨D,.inr ⟨.func f,#[],f,o,rfl,?_,?_⟩⟩
  .show (callFunc f (o++ #[])).run E.P w=_
   simp;omega
  .refine N.mono fun e u' w' ⟨v,M',Y,Z,U,W,X⟩=>?_
   subst Z
   dsimp only
   rw [U]
   obtain ⟨J,L,_⟩:=z.emb y W X
   have ext:=H.trans L
   refine hl (r++k) w' ?_
   rw [bI]
   refine ⟨M',_,V.trans ext,J,fun t=>(K t).mono ext.imm ext.hs,Q,?_,?_⟩
   .refine ⟨r,k,rfl,⟨by have:=n.1;simpa using this,fun i d x hd hx=>?_⟩,(cQ.ext (M:=M) (ob:=ob) ⟨[],k,rfl,.nil,S⟩ G ext).marks⟩
    have:=n.2 (i+1) d x q_ q_
    exact ⟨this.1,this.2.1,fun j v a F I=>(this.2.2 j v a F I).mono ext.imm ext.hs⟩
   .have:=ext.lens
    have:=J.len
    have:=G.len
    omega
theorem To.leave (df:List (Nat×List AVal)) {f:Nat} {args:List AVal} (i:E.df=(f,args)::df) (b ks:List Nat) {p:Option AVal} {fr:List (Nat×AVal)} {obs obs':List AObj} (q:mB ks (frzs b obs)=true)
  (h:zK E.P f (dP (cvtV 0 ks (aE (frzs b obs)) 5) args) (iE 0 ks (frzs b obs)) (aBU ks (aE (frzs b obs)) p) obs')
  (d:To {E with df:=df} fn g (.leave none fr (kD ks (aP (frzs b obs)) (frzs b obs) 0 obs' (frzs b obs)))):To E fn g (.leave p fr obs):=by
 obtain ⟨d⟩:=d
 have d:aDZ {E with df:=df} fn g fr (kD ks (aP (frzs b obs)) (frzs b obs) 0 obs' (frzs b obs)):=d
 refine .mk ?_
 cases p with
 | none=>
  intro M0 ob0 obs0 w0 a w hst ⟨M,ob,m,o,k,l,j,n⟩
  rw [i] at j
  exact CP (p:=none) b ks m o k l j n q rfl h fun c w' hs=>d M0 ob0 obs0 w0 {a with defers:=c} w' hst hs
 | some v=>
  intro M0 ob0 obs0 w0 s a w hst ⟨M,ob,m,o,⟨x,e,r⟩,k,l,j,n⟩
  rw [i] at j
  exact CP (p:=some v) b ks m o k l j n q ⟨x,by rw [e],r⟩ h fun c w' hs=>d M0 ob0 obs0 w0 {a with defers:=c} w' hst hs
theorem To.left (hE:EnvOK E) (b:E.df=[]) {fr:List (Nat×AVal)} {obs:List AObj} {v:AVal} (d:aA2 E obs fn.results.toList fr=some v) (h:NT g .ret v obs) (c:E.rd=none:=by rfl):To E fn g (.leave none fr obs):=
 .mk fun M0 ob0 obs0 w0 a w hst hs=>aCq hE b c d h hst hs
end
def lY (r:Nat):Code->List KI->Option (List KI)
 | .region id _ _,ks=>bif Ar id r then some ks else none
 | .seq a b,ks=>(match lY r a (.code b::ks) with | some x=>some x | none=>lY r b ks)
 | .cond _ a b,ks=>(match lY r a ks with | some x=>some x | none=>lY r b ks)
 | .block id b,ks=>lY r b (.inB id::ks)
 | .loop b,ks=>lY r b (.inL b::ks)
 | _,_=>none
def gY (fn:Func) (r:Nat):List KI:=match lY r (dC fn) [] with | some ks=>ks | none=>[]
theorem To.cutC {E:Env} {fn:Func} {g:Goal} {ks:List KI} {fr:List (Nat×AVal)} {obs:List AObj} (l:List Nat) (n:Nat) (b:Fq g.n0 n=true) (d:aDF n (mM l fr)=true) (c:E1 n (nT n obs)=true) (a:Y8 n E.df=true)
  (h:To E fn g (.code ks (mM l fr) (nT n obs))):To E fn g (.code ks fr obs):=by
 have:=To.cut (E:=E) (fn:=fn) (g:=g) (ks:=ks) (fr:=fr) (obs:=obs) l n b d c a (h.rec fun h=>.mk h)
 exact this.rec fun h=>.mk h
def T1:St->Bool
 | .head _ _ _=>false
 | _=>true
theorem goN {E:Env} {fn:Func} {g:Goal} (hE:EnvOK E) (a:Nat) {st:St} (_hs:T1 st=true) (h:bP E fn g (To E fn g) a st):To E fn g st:=cD hE a h
theorem NA (k:IntKind):∃ p,bA k+1=2 ^ p/\p<=k.bits:=by
 cases k
 .exact ⟨7,by decide,by decide⟩
 .exact ⟨15,by decide,by decide⟩
 .exact ⟨31,by decide,by decide⟩
 .exact ⟨63,by decide,by decide⟩
 .exact ⟨8,by decide,by decide⟩
 .exact ⟨16,by decide,by decide⟩
 .exact ⟨32,by decide,by decide⟩
 .exact ⟨64,by decide,by decide⟩
theorem aFH (k:IntKind):bO k<=0:=by cases k<;>decide
theorem UN {k:IntKind} {a:Nat} (h:(a:Int)<=bA k):inR k a:=⟨Ft (aFH k) (Int.natCast_nonneg a),h⟩
theorem rT (n a:Nat) (h:a<2 ^ n):(BitVec.ofInt n (a:Int)).toNat=a:=by
 grind
theorem IY {k:IntKind} {a p:Nat} (hp:bA k+1=2 ^ p) (h:(a:Int)<=bA k):a<2 ^ p:=by
 grind
theorem aB5 {k:IntKind} {a p:Nat} (hp:bA k+1=2 ^ p) (h:a<2 ^ p):(a:Int)<=bA k:=by
 grind
theorem DQ (k:IntKind) (a b:Nat) (g:(a:Int)<=bA k) (f:(b:Int)<=bA k):eX .or k a b=((a ||| b:Nat):Int):=by
 obtain ⟨p,hp,c⟩:=NA k
 have h1:=IY hp g
 have d:=IY hp f
 have e:2 ^ p<=2 ^ k.bits:=Hf d_ c
 simp only [eX,BitVec.toNat_or,rT k.bits a o_,rT k.bits b o_]
 exact jP (UN (aB5 hp (Nat.or_lt_two_pow h1 d)))
theorem xS (k:IntKind) (a b:Nat) (g:(a:Int)<=bA k) (f:(b:Int)<=bA k):eX .and k a b=((a &&& b:Nat):Int):=by
 obtain ⟨p,hp,c⟩:=NA k
 have h1:=IY hp g
 have d:=IY hp f
 have e:2 ^ p<=2 ^ k.bits:=Hf d_ c
 simp only [eX,BitVec.toNat_and,rT k.bits a o_,rT k.bits b o_]
 exact jP (UN (aB5 hp (Nat.and_lt_two_pow _ d)))
def RN (n0:Nat) (ks:List Nat) (og:Nat->AObj):List (Nat×AVal)->List (Nat×AVal)
 | []=>[]
 | (i,v)::r=>(i,cvtV n0 ks og 5 v)::RN n0 ks og r
theorem xJ (n0:Nat) (ks:List Nat) (og:Nat->AObj) (t:Nat):∀ (fr:List (Nat×AVal)),aW (RN n0 ks og fr) t=cvtV n0 ks og 5 (aW fr t)
 | []=>rfl
 | (i,v)::r=>by
  simp only [RN,aW]
  cases Ar i t with
  | true=>rfl
  | false=>exact xJ n0 ks og t r
theorem To.part {E:Env} {fn:Func} {g:Goal} {st:List KI} {fr:List (Nat×AVal)} {obs:List AObj} (l:List Nat) (ks:List Nat) (i:E.df=[]) (u:mB ks obs=true) (r:jZ g.n0 0 ks=true)
  (h:To E fn g (.head st (RN g.n0 ks (aE obs) (mM l fr)) (iE g.n0 ks obs))) (f:g.strict=true:=by rfl):To E fn g (.head st fr obs):=
 .mk fun q M0 ob0 obs0 w0 a w hst hs=>by
  refine h.rec fun h=>h q M0 ob0 obs0 w0 a w hst ?_
  obtain ⟨M,ob,c,hm,o,F,v,I⟩:=hs
  obtain ⟨B,C,_⟩:=hm.cvt (n0:=g.n0) u
  have y:ob0.length=g.n0:=hst.1
  have s:(iE g.n0 ks obs).length=ks.length:=by unfold iE;rw [nK]
  have D:ob0.length<=ks.length:=by
   rw [y]
   rcases Fm g.n0 with z | z
   .omega
   .have:=kV r (g.n0-1) o_
    have:=(Ad.1 this).1
    omega
  refine ⟨M,_,⟨c.imm,c.new,fun j hs n=>?_,c.os,c.tape,c.output,c.size,c.keep,fun j b G=>?_⟩,B,fun t=>?_,F,?_,by omega⟩
  .have p:j<g.n0:=by rw [<-y];exact (Ad.1 n).1
   have d:=kV r j p
   rw [Bw] at d
   obtain ⟨hs',H,t,x⟩:=c.hs j hs n
   have A:=hst.2 f hs (Aq n)
   refine ⟨iM g.n0 j (aE obs j) hs',?_,?_⟩
   .rw [gI,d]
    simp [H]
   .unfold iM
    split
    .rw [<-x]
     have:(hs++t).take 1=hs:=by rw [Db o_,Cb o_]
     rw [this]
     simp
    .exact ⟨t,x⟩
  .obtain ⟨k,_,m⟩:=C j b G
   exact c.fresh k b m
  .rw [xJ]
   have:Rep M ob (a.tmps.getD t undef) (aW (mM l fr) t):=by
    rcases oX fr t l with e | e
    .rw [e];exact o t
    .rw [e];exact .undef _
   exact hm.cvtV (n0:=g.n0) u 5 _ _ this
  .rw [i] at v⊢
   exact v.bare
def K4:List AVal->Nat->AVal->List AVal
 | [],_,_=>[]
 | _::r,0,x=>x::r
 | c::r,n+1,x=>c::K4 r n x
theorem HY:∀ (l:List AVal) (n:Nat) (x:AVal),K4 l n x=l.set n x
 | [],_,_=>rfl
 | _::_,0,_=>rfl
 | c::r,n+1,x=>by simp [K4,HY r n x]
def kG:List AObj->AObj->List AObj
 | [],x=>[x]
 | c::r,x=>c::kG r x
theorem nN:∀ (l:List AObj) (x:AObj),kG l x=l++[x]
 | [],_=>rfl
 | c::r,x=>by simp [kG,nN r x]
theorem Mem.beginC {M:Imm} {ob:Hs} {obs:List AObj} {w:World} (hm:Mem M ob obs w) {k i sz:Nat} {T e:TypeId} {cs:List AVal} (F:obs[k]? =some (.cells T cs)) (J:cs[i]? =some (.slice sz [] .nil)):
  Mem M (ob++[[.slice none 0 0]]) (obs.set k (.cells T (cs.set i (.slice sz [] (.own obs.length 0))))++[.tail 0 sz e]) w/\
   Ext M ob obs w M (ob++[[.slice none 0 0]]) (obs.set k (.cells T (cs.set i (.slice sz [] (.own obs.length 0))))++[.tail 0 sz e]) w/\dE ob (ob++[[.slice none 0 0]]):=by
 have l:dE ob (ob++[[.slice none 0 0]]):=fun j hs d=>⟨hs,by rw [Af (Ad.1 d).1];exact d,Cl _⟩
 have p:k<obs.length:=(Ad.1 F).1
 have f:(ob++[[.slice none 0 0]])[obs.length]? =some [.slice none 0 0]:=by rw [<-hm.len];simp
 have G:at' (ob++[[.slice none 0 0]]) obs.length 0=some (.slice none 0 0):=by rw [bZ f];rfl
 have r:∀ {j:Nat} {c:AObj},(obs.set k (.cells T (cs.set i (.slice sz [] (.own obs.length 0))))++[.tail 0 sz e])[j]? =some c->
   (j=obs.length/\c= .tail 0 sz e)\/(j=k/\c= .cells T (cs.set i (.slice sz [] (.own obs.length 0))))\/(j≠k/\j<obs.length/\obs[j]? =some c):=fun {j c} d=>by
  by_cases z:j<obs.length
  .rw [Af q_] at d
   by_cases o:j=k
   .subst o
    rw [Ap z] at d
    grind
   .rw [Aw (Eg o)] at d
    grind
  .have m:j=obs.length:=by
    have:=(Ad.1 d).1
    simp at this
    omega
   subst m
   rw [Ak s_] at d
   simp at d
   grind
 have u:∀ {j b:Nat},aM (ob++[[.slice none 0 0]]) (obs.set k (.cells T (cs.set i (.slice sz [] (.own obs.length 0))))++[.tail 0 sz e]) j b->aM ob obs j b:=fun {j b} ⟨c,hs,q,s,e3,e4⟩=>by
  rcases r q with ⟨rfl,rfl⟩ | ⟨rfl,rfl⟩ | ⟨h1,m,h3⟩
  .rw [f] at e3
   cases e3
   cases e4
  .rw [Af (by rw [hm.len];exact p)] at e3
   exact ⟨_,hs,F,rfl,e3,e4⟩
  .rw [Af (by rw [hm.len];exact m)] at e3
   exact ⟨c,hs,h3,s,e3,e4⟩
 have I:∀ (j:Nat) c,(obs.set k (.cells T (cs.set i (.slice sz [] (.own obs.length 0))))++[.tail 0 sz e])[j]? =some c->∃ hs,(ob++[[.slice none 0 0]])[j]? =some hs/\gK M (ob++[[.slice none 0 0]]) w hs c:=fun j c d=>by
  rcases r d with ⟨rfl,rfl⟩ | ⟨rfl,rfl⟩ | ⟨h1,m,h3⟩
  .exact ⟨_,f,rfl,_,rfl,0,[],Hg w 0 _ _,fun b N=>by cases N⟩
  .obtain ⟨hs,q,b,C,D,cv,y,L,H,x⟩:=hm.obj _ _ F
   refine ⟨hs,by rw [Af (by rw [hm.len];exact p)];exact q,b,C,D,cv,y,by simp;omega,H,fun n v a t g=>?_⟩
   by_cases K:n=i
   .subst K
    have A:n<cs.length:=(Ad.1 J).1
    rw [Ap A] at g
    cases g
    have:=x n v _ t J
    obtain ⟨_,B⟩:=this.untok
    have B:v= .slice none 0 0:=B
    subst B
    exact .slnil _ _ G
   .rw [Aw (Eg K)] at g
    exact (x n v a t g).mono (fun _ _ _ h=>h) l
  .obtain ⟨hs,q,s⟩:=hm.obj j c h3
   refine ⟨hs,by rw [Af (by rw [hm.len];exact m)];exact q,?_⟩
   cases c with
   | cells P cs'=>
    obtain ⟨b,C,D,cv,y,L,H,x⟩:=s
    exact ⟨b,C,D,cv,y,L,H,fun n v a t g=>(x n v a t g).mono (fun _ _ _ h=>h) l⟩
   | _=>exact s
 refine ⟨⟨hm.imm,by simp [hm.len],I,fun j b g=>hm.lt j b (u g),fun j O b h1 m=>hm.inj j O b (u h1) (u m)⟩,⟨fun _ _ _ h=>h,fun _ _ _ h=>.inl h,l,rfl,rfl,rfl,Ba _,fun _ _ _=>rfl,fun j b g=>.inl ⟨j,u g⟩⟩,l⟩
theorem To.begin {E:Env} {fn:Func} {g:Goal} {st:List KI} {fr:List (Nat×AVal)} {obs:List AObj} (k i:Nat) (e:TypeId) {T:TypeId} {cs:List AVal} {sz:Nat} (m:aE obs k= .cells T cs) (o:nth cs i=some (.slice sz [] .nil))
  (h:To E fn g (.head st fr (kG (bJ obs k (.cells T (K4 cs i (.slice sz [] (.own (aP obs) 0))))) (.tail 0 sz e)))):To E fn g (.head st fr obs):=
 .mk fun d M0 ob0 obs0 w0 a w hst hs=>by
  refine h.rec fun h=>h d M0 ob0 obs0 w0 a w hst ?_
  obtain ⟨M,ob,p,hm,c,q,n,r⟩:=hs
  have b:=bG m s_
  obtain ⟨j,l,f⟩:=hm.beginC (e:=e) b (lK o)
  rw [nN,HY,bI,aR b]
  exact ⟨M,_,p.trans l,j,fun t=>(c t).mono (fun _ _ _ h=>h) f,q,n.mono (fun _ _ _ h=>h) f,by simp;omega⟩
def mapO (f:AVal->AVal):AObj->AObj
 | .cells T cs=>.cells T (dP f cs)
 | x=>x
def MW (f:AVal->AVal):List AObj->List AObj
 | []=>[]
 | x::r=>mapO f x::MW f r
theorem MV (f:AVal->AVal):∀ (l:List AObj),MW f l=l.map (mapO f)
 | []=>rfl
 | x::r=>by simp [MW,MV f r]
def EV (l:List Nat) (og:Nat->AObj):List (Nat×AVal)->List (Nat×AVal)
 | []=>[]
 | (i,v)::r=>(i,bif tL i l then pureV og 5 v else v)::EV l og r
theorem GJ (l:List Nat) (og:Nat->AObj) (t:Nat):∀ (fr:List (Nat×AVal)),aW (EV l og fr) t=aW fr t\/aW (EV l og fr) t=pureV og 5 (aW fr t)
 | []=>.inl rfl
 | (i,v)::r=>by
  simp only [EV,aW]
  cases Ar i t with
  | true=>
   grind
  | false=>exact GJ l og t r
theorem To.frz {E:Env} {fn:Func} {g:Goal} {st:List KI} {fr:List (Nat×AVal)} {obs:List AObj} (l c:List Nat)
  (h:To E fn g (.code st (EV l (aE (AW.frzs c obs)) fr) (AW.frzs c obs))):To E fn g (.code st fr obs):=
 .mk fun f M0 ob0 obs0 w0 a w hst hs=>by
  refine h.rec fun h=>h f M0 ob0 obs0 w0 a w hst ?_
  obtain ⟨M,ob,k,hm,b,m,j,n⟩:=hs
  obtain ⟨M',i,d,_,o⟩:=Mem.frzs c M obs hm
  refine ⟨M',ob,k.trans d,i,fun t=>?_,m,j.mono d.imm (dE.refl _),by omega⟩
  rcases GJ l (aE (AW.frzs c obs)) t fr with e | e
  .rw [e];exact (b t).monoM d.imm
  .rw [e];exact (i.pureV 5 _ _ ((b t).monoM d.imm)).pure
theorem QB {P:Program} {w:World} {r:Reach} {b:Nat} {t:TypeId} {v:Value} (a:aO P t=true) (h:Gd P w r b t v):∃ cs:Array Value,v= .agg cs:=by
 unfold Gd at h
 unfold aO at a
 split at h
 .grind
 .grind
 grind
structure Bulk (H:Type) (N:Nat) (G:DataW H->Prop):Prop where
 str:∀ (l:List UInt8),G (.lit (.string l))->l.length<=N
 sl:∀ (e r:List (DataW H)),G (.slice e r)->e.length<=N/\∀ d∈e,G d
 agg:∀ (l:List (DataW H)),G (.agg l)->∀ d∈l,G d
def TyN (P:Program) (N:Nat):Nat->TypeId->List AVal->Prop
 | 0,_,_=>False
 | n+1,t,cs=>match P.underlying t with
  | some .bool=>∃ b,cs=[.bool b]
  | some (.int k)=>∃ m,cs=[.int k m]/\inR k m
  | some .string=>∃ l,cs=[.str l]/\l.length<=N
  | some (.struct fs)=>TyF (TyN P N n) fs.toList cs
  | some (.array m e)=>∃ xs:List (List AVal),xs.length=m/\(∀ x∈xs,TyN P N n e x)/\cs=xs.flatten
  | some (.slice e)=>∃ xs,cs=[.slice (P.cellsOf e) xs .no]/\xs.length<=N/\∀ x∈xs,TyN P N n e x.cells/\(aO P e=true->∃ l,x= .agg l)/\(aO P e=false->x.cells=[x])
  | _=>False
section
variable {H:Type} {N:Nat} {G:DataW H->Prop} {enc:TypeId×Value->H} {P:Program} {w:World} {base:Nat} {spare:Nat->Bool} {held:Bool}
theorem IN {n m:Nat} (s:∀ t,nU P n t=true->∀ cs x,DataW.trod enc P w base spare held m t cs=some x->G x.1->∃ as,fV w cs as/\TyN P N n t as) (cs:List Value):
  ∀ (c:List Field) (off:Nat),(∀ f∈c,∃ y,DataW.trod enc P w base spare held m f.type ((cs.drop f.offset).take (P.cellsOf f.type))=some y/\G y.1)->HS P (nU P n) off c cs.length=true->
   ∃ as,fV w (cs.drop off) as/\TyF (TyN P N n) c as:=by
 intro c
 induction c with
 | nil=>
  intro off _ h
  have:=aC h
  subst this
  exact ⟨[],by simpa using fV.nil,rfl⟩
 | cons f c k=>
  intro off l h
  simp only [HS,Ag] at h
  obtain ⟨⟨h1,r⟩,h3⟩:=h
  have d:=aC h1
  obtain ⟨y,u,i⟩:=l f s_
  obtain ⟨a,o,e⟩:=s f.type r _ y u i
  obtain ⟨b,p,j⟩:=k (off+P.cellsOf f.type) (fun g v=>l g (by simp [v])) h3
  refine ⟨a++b,?_,a,b,rfl,e,j⟩
  have q:cs.drop off=(cs.drop off).take (P.cellsOf f.type)++cs.drop (off+P.cellsOf f.type):=by rw [<-Ig,Bk]
  rw [q]
  rw [d] at o
  exact o.append p
theorem MI {n m:Nat} {e:TypeId} (j:nU P n e=true) (p:∀ t,nU P n t=true->∀ cs x,DataW.trod enc P w base spare held m t cs=some x->G x.1->∃ as,fV w cs as/\TyN P N n t as) (cs:List Value):
  ∀ (k:Nat),k*P.cellsOf e<=cs.length->(∀ i,i<k->∃ y,DataW.trod enc P w base spare held m e ((cs.drop (i*P.cellsOf e)).take (P.cellsOf e))=some y/\G y.1)->
   ∃ c:List (List AVal),c.length=k/\(∀ x∈c,TyN P N n e x)/\fV w (cs.take (k*P.cellsOf e)) c.flatten:=by
 intro k
 induction k with
 | zero=>intro _ _;exact ⟨[],rfl,fun x b=>by simp at b,by simpa using fV.nil⟩
 | succ k g=>
  intro o h
  rw [Bx,Ge] at o
  obtain ⟨c,l1,l2,l⟩:=g o_ (fun i s=>h i o_)
  obtain ⟨y,q,f⟩:=h k o_
  obtain ⟨a,r,d⟩:=p e j _ y q f
  refine ⟨c++[a],by simp [l1],fun x b=>?_,?_⟩
  .rcases Az.1 b with b | b
   .exact l2 x b
   .simp at b;subst b;exact d
  .rw [Bx,Ge,List.take_add]
   simp only [List.flatten_append,List.flatten_cons,List.flatten_nil,Bc]
   exact l.append r
theorem TyN.pack {n:Nat} {t:TypeId} {as:List AVal} (h:TyN P N n t as):∃ x:AVal,x.cells=as/\(aO P t=true->∃ l,x= .agg l)/\(aO P t=false->x.cells=[x]):=by
 cases n with
 | zero=>exact h.elim
 | succ n=>
  unfold TyN at h
  cases a:aO P t with
  | true=>exact ⟨.agg as,rfl,(fun _=>⟨_,rfl⟩),fun h=>by cases h⟩
  | false=>
   unfold aO at a
   split at h
   .obtain ⟨b,rfl⟩:=h;exact ⟨.bool b,rfl,(fun h=>by cases h),fun _=>rfl⟩
   .rename_i k _;obtain ⟨m,rfl,_⟩:=h;exact ⟨.int k m,rfl,(fun h=>by cases h),fun _=>rfl⟩
   .obtain ⟨l,rfl,_⟩:=h;exact ⟨.str l,rfl,(fun h=>by cases h),fun _=>rfl⟩
   .grind
   .grind
   .rename_i e _;obtain ⟨xs,rfl,_⟩:=h;exact ⟨.slice (P.cellsOf e) xs .no,rfl,(fun h=>by cases h),fun _=>rfl⟩
   grind
theorem MJ {n m:Nat} {e:TypeId} (v:nU P n e=true) (B:∀ t,nU P n t=true->∀ cs x,DataW.trod enc P w base spare held m t cs=some x->G x.1->∃ as,fV w cs as/\TyN P N n t as) (a:Addr):
  ∀ (k:Nat),(∀ i,i<k->∃ y,((w.cells? base (a.add (i*P.cellsOf e)) (P.cellsOf e)).bind (DataW.trod enc P w base spare held m e))=some y/\G y.1)->
   ∃ (xs:List AVal) (us:List (List Value)),xs.length=k/\us.length=k/\∀ (i:Nat) x u,xs[i]? =some x->us[i]? =some u->x.cells.length=P.cellsOf e/\(∀ j,j<P.cellsOf e->w.cell? ((a.add (i*P.cellsOf e)).add j)=u[j]?)/\fV w u x.cells/\
    TyN P N n e x.cells/\(aO P e=true->∃ l,x= .agg l)/\(aO P e=false->x.cells=[x]):=by
 intro k
 induction k with
 | zero=>intro _;exact ⟨[],[],rfl,rfl,fun i x u c=>by simp at c⟩
 | succ k o=>
  intro s
  obtain ⟨xs,us,l1,l2,A⟩:=o fun i C=>s i o_
  obtain ⟨y,p,h⟩:=s k o_
  obtain ⟨u,z,p⟩:=Option.bind_eq_some_iff.1 p
  obtain ⟨_,g,d⟩:=World.cells?_some z
  obtain ⟨as,has,f⟩:=B e v _ y p h
  obtain ⟨x,rfl,q⟩:=f.pack
  refine ⟨xs++[x],us++[u],by simp [l1],by simp [l2],fun i x' D c b=>?_⟩
  by_cases C:i<k
  .rw [Af o_] at c b
   exact A i x' D c b
  .have r:i=k:=by
    have:=(Ad.1 c).1
    simp at this
    omega
   subst r
   rw [Ak o_] at c b
   rw [l1,Lv] at c
   rw [l2,Lv] at b
   simp at c b
   subst c b
   exact ⟨by rw [<-has.1,g],d,has,f,q⟩
theorem CD (W:Bulk H N G):∀ (n:Nat) (t:TypeId),nU P n t=true->∀ (D:Nat) (cs:List Value) (x:DataW H×List MemPlace),DataW.trod enc P w base spare held D t cs=some x->G x.1->∃ as,fV w cs as/\TyN P N n t as:=by
 intro n
 induction n with
 | zero=>intro t h;cases h
 | succ n X=>
  intro t h D cs x d J
  unfold nU at h
  unfold TyN
  split at h
  .rename_i g
   try rw [g]
   obtain ⟨b,rfl,_⟩:=DataW.trod_bool g d
   exact ⟨[.bool b],fV.single (.bool b),b,rfl⟩
  .rename_i k g
   try rw [g]
   obtain ⟨m,rfl,_,R⟩:=DataW.trod_int g d
   simp only [Lit.wf,Ag,decide_eq_true_eq] at R
   exact ⟨[.int k m],fV.single (.int k m (UR R)),m,rfl,UR R⟩
  .rename_i g
   try rw [g]
   obtain ⟨s,rfl,p,hs⟩:=DataW.trod_string g d
   obtain ⟨⟨l⟩⟩:=s
   have hsN:=W.str _ (by rw [p] at J;exact J)
   exact ⟨[.str l],fV.single (.str l (by have:=fZ;have B:l.length<=maxLen:=hs;omega)),l,rfl,hsN⟩
  .rename_i fs g
   try rw [g]
   obtain ⟨xs,m,rfl,p,I,Y,S⟩:=DataW.trod_struct g d
   have y:=W.agg _ (by rw [p] at J;exact J)
   rw [<-I] at h
   have:=IN (fun t U cs x d V=>X t U m cs x d V) cs fs.toList 0 (fun f hf'=>by
    obtain ⟨i,z⟩:=Cs hf'
    have T:fs[i]? =some f:=by simpa using z
    have L:=(Fc.1 T).1
    exact ⟨xs[i]' o_,(S i f T).trans (Ab o_),y _ (Cw (Bb _))⟩) h
   simpa using this
  .rename_i m e g
   try rw [g]
   simp only [Ag] at h
   obtain ⟨h1,B⟩:=h
   obtain ⟨xs,q,rfl,p,I,Y,S⟩:=DataW.trod_array g d
   have y:=W.agg _ (by rw [p] at J;exact J)
   have hc:=aC B
   obtain ⟨Ls,l1,l2,O⟩:=MI h1 (fun t U cs x d V=>X t U q cs x d V) cs m o_ (fun i z=>⟨xs[i]' o_,(S i z).trans (Ab o_),y _ (Cw (Bb _))⟩)
   rw [Cb o_] at O
   exact ⟨Ls.flatten,O,Ls,l1,l2,rfl⟩
  .rename_i e g
   try rw [g]
   simp only [Ag] at h
   obtain ⟨h1,B⟩:=h
   have C:0<P.cellsOf e:=by simpa [Jt] using B
   rcases DataW.trod_slice g d with ⟨rfl,_⟩ | ⟨a,len,cap,M,rest,q,rfl,rfl,p,hb,hlc,hcm,hel,S,_⟩
   .exact ⟨[.slice (P.cellsOf e) [] .no],fV.single (.nilslice _),[],rfl,Cn _,fun x d=>by simp at d⟩
   .have y:=W.sl _ _ (by rw [p] at J;exact J)
    obtain ⟨xs,us,l1,l2,O⟩:=MJ h1 (fun t U cs x d V=>X t U q cs x d V) a len (fun i z=>⟨M[i]' o_,(S i z).trans (Ab o_),y.2 _ (Cw (Bb _))⟩)
    have Z:∀ x∈xs,TyN P N n e x.cells/\(aO P e=true->∃ l,x= .agg l)/\(aO P e=false->x.cells=[x]):=fun x d=>by
     obtain ⟨i,z⟩:=Cs d
     have L:=(Ad.1 z).1
     exact (O i x (us[i]' o_) z (Ab o_)).2.2.2
    by_cases h0:len=0
    .subst h0
     have:xs=[]:=Av l1
     subst this
     exact ⟨[.slice (P.cellsOf e) [] .no],fV.single (.emptys _ a cap),[],rfl,Cn _,fun x d=>by simp at d⟩
    .obtain ⟨b,o,sp⟩:=a
     have hx0:xs[0]? =some (xs[0]' o_):=Ab o_
     have hu0:us[0]? =some (us[0]' o_):=Ab o_
     obtain ⟨c1,c2,c3,_⟩:=O 0 _ _ hx0 hu0
     have u:=c2 0 C
     have K:0<(us[0]' o_).length:=by rw [c3.1,c1];exact C
     rw [Ab K] at u
     have hsp:sp=none:=by
      have:=World.cell?_spot u
      simpa [Addr.add] using this
     subst hsp
     have key:∀ (i j:Nat) x c,xs[i]? =some x->x.cells[j]? =some c->∃ v,(us.getD i []).getD j undef=v/\w.cell? ⟨b,o+i*P.cellsOf e+j,none⟩=some v/\RepW w v c:=by
      intro i j x c d F
      have L:=(Ad.1 d).1
      have Q:us[i]? =some (us[i]' o_):=Ab o_
      obtain ⟨d1,d2,d3,_⟩:=O i x _ d Q
      have hjl:=(Ad.1 F).1
      have A:j<(us[i]' o_).length:=by rw [d3.1];exact hjl
      have r:=d2 j o_
      rw [Ab A] at r
      refine ⟨_,rfl,?_,?_⟩
      .rw [Ff,Ff,Q]
       simp only [Jw,Ab A]
       rw [bH,bH] at r
       exact r
      .rw [Ff,Ff,Q]
       simp only [Jw,Ab A]
       exact d3.2 j _ c (Ab A) F
     refine ⟨[.slice (P.cellsOf e) xs .no],fV.single (.slice (P.cellsOf e) b o len cap xs (fun i j=>(us.getD i []).getD j undef) l1 hlc (by have:=fZ;omega) (fun x d=>?_) (fun i j x c d F=>?_) (fun i j x c d F=>?_) (fun i j x c d F=>?_)),xs,rfl,by have h9:=y.1;simp only [Ck] at h9;omega,Z⟩
     .obtain ⟨i,z⟩:=Cs d
      have L:=(Ad.1 z).1
      exact (O i x (us[i]' o_) z (Ab o_)).1
     .obtain ⟨v,rfl,h1,_⟩:=key i j x c d F;exact h1
     .obtain ⟨v,rfl,_,B⟩:=key i j x c d F;exact B.one
     .obtain ⟨v,rfl,_,B⟩:=key i j x c d F;exact B
  .cases h
theorem SA (j:Bulk H N G) {r:Reach} {k:Nat} {n:Nat} {t e:TypeId} {v:Value} {d:DataW H} {o:List MemPlace} (f:P.underlying t=some (.slice e)) (i:nU P (n+1) t=true) (p:Gd P w r k t v) (h:DataW.Trod enc P w base spare held t v d o) (s:G d):
  ∃ xs,Rep (Mw w) [] v (.slice (P.cellsOf e) xs .no)/\xs.length<=N/\∀ x∈xs,TyN P N n e x.cells/\(aO P e=true->∃ l,x= .agg l)/\(aO P e=false->x.cells=[x]):=by
 obtain ⟨a,m,c,rfl⟩:=XR f (aBF (by unfold aO;rw [f]) p)
 obtain ⟨b,h⟩:=h
 obtain ⟨as,h1,g⟩:=CD j (n+1) t i b _ _ h s
 unfold TyN at g
 rw [f] at g
 obtain ⟨xs,rfl,hl,q⟩:=g
 exact ⟨xs,(h1.2 0 _ _ rfl rfl).rep,hl,q⟩
theorem OM (j:Bulk H N G) {r:Reach} {l:Nat} {n:Nat} {t:TypeId} {v:Value} {d:DataW H} {m:List MemPlace}
  (g:aO P t=true) (c:nU P n t=true) (f:Gd P w r l t v) (h:DataW.Trod enc P w base spare held t v d m) (p:G d):∃ as,Rep (Mw w) [] v (.agg as)/\TyN P N n t as:=by
 obtain ⟨cs,rfl⟩:=QB g f
 obtain ⟨b,h⟩:=h
 obtain ⟨as,h1,k⟩:=CD j n t c b _ _ h p
 have e:(Value.agg cs).cells.toList=cs.toList:=rfl
 rw [e] at h1
 refine ⟨as,?_,k⟩
 have:=Rep.agg (M:=Mw w) (ob:=[]) cs.toList as h1.1 (fun i v a f o=>(h1.2 i v a f o).rep)
 omega
end
open Go.RowKit Go.Sort
theorem LZ (d:List Int) (a:Array Value) (h:d.length<=a.size):
  putCells (Ea .i64) 0 d.toArray a=((a.toList.take 0++d.map (Ea .i64))++a.toList.drop (0+(d.map (Ea .i64)).length)).toArray:=by
 apply Array.ext_getElem?
 intro k
 simp only [putCells,Array.getElem?_mapIdx,Hi,Bm,Jq,Bw,Ck,Gj,Cn,true_and,Jl]
 by_cases c:k<d.length
 .have b:k<a.size:=o_
  simp_all
 .rw [Ak (by grind),Ck,Bv,show d.length+(k-d.length)=k from by omega]
  cases b:a[k]? with
  | none=>simp [b]
  | some y=>simp [b,c]
theorem LW {w:World} {b k:Nat} {d:List Int} {a:Array Value} {e:TypeId} {g:Nat×Nat} {n:Nat} {os:Array Obj} (f:w.heap[b]? =some (.cells a e g)) (h:d.length<=a.size) (i:k<w.heap.size):
  (grow (putRow (Ea .i64) (Sort.ahead w n) b 0 d.toArray) os).heap[k]? =(w.setRow b ((a.toList.take 0++d.map (Ea .i64))++a.toList.drop (0+(d.map (Ea .i64)).length)).toArray).heap[k]?:=by
 unfold grow putRow mapBlock World.setRow Sort.ahead
 dsimp only
 rw [Gz (by grind)]
 simp only [Array.getElem?_modify]
 by_cases c:b=k
 .subst c
  rw [if_pos rfl,if_pos rfl,f]
  simp only [Lz,onCells,LZ d a h]
 grind
theorem EN {P:Program} {f:FuncId} (R:uF P f)
  (G:∀ (p:Option Addr) (cap:Nat) (w:World),Calls P f #[.slice p 0 cap] w fun e w'=>e= .returned (.tuple #[])/\w'=w)
  (hs:∀ (blk off cap:Nat) (W:List Int) (w:World),Holds (Ea .i64) w blk off W.toArray->blk<w.heap.size->W.length<4611686018427387904->Calls P f #[.slice (some ⟨blk,off,none⟩) W.length cap] w fun e w'=>
   e= .returned (.tuple #[])/\∃ n os,w'=grow (putRow (Ea .i64) (Sort.ahead w n) blk off (W.mergeSort fun x y=>decide (x<=y)).toArray) os)
  (e:TypeId) (l:List Int) (hl:l.length<=1000000000):aA P f [.row 0 0] [.row 0 1 e (l.map (AVal.int .i64))] (.ret (.tup [])) [.row 0 1 e ((l.mergeSort fun x y=>decide (x<=y)).map (AVal.int .i64))]:=by
 intro M ob w F hm C
 obtain ⟨hln,C⟩:=C
 match F,hln with
 | [v],_=>
 obtain ⟨a,n,c,rfl,hat⟩:=(C 0 _ _ rfl rfl).row_inv
 obtain ⟨hs0,v0,e1,e2,e3,e4,B,hblk⟩:=hm.rowOf (k:=0) rfl
 rw [hat] at e4
 cases e4
 have D:=B
 obtain ⟨cv,d,h1,hz,hc,hno,hone⟩:=B
 have L:(l.map (AVal.int .i64)).length=l.length:=by simp
 have K:∀ {M':Imm} {ob':Hs},Rep M' ob' (.tuple #[]) (.tup []):=.tup [] [] rfl (fun i v a hv=>by simp at hv)
 by_cases h0:l=[]
 .subst h0
  have hn:n=0:=by
   rcases cZ d with ⟨q,_⟩ | ⟨b,cap,q,_⟩
   .cases q;rfl
   .cases q;rfl
  subst hn
  refine .inl ⟨R _ _,(G a c w).mono ?_⟩
  rintro e' w' ⟨rfl,rfl⟩
  have e0:(([]:List Int).mergeSort fun x y=>decide (x<=y))=[]:=by simp
  rw [e0]
  exact ⟨M,ob,Ext.refl _ _ _ _,hm,K⟩
 .have hpos:0<l.length:=Gp.2 h0
  have hcw:∀ q,q<l.length->∃ u,cv[q]? =some u/\u= .int .i64 (l[q]!):=fun q V=>by
   obtain ⟨u,A,C⟩:=hc q (.int .i64 l[q]) (by unfold aK;simp [V,AVal.cells,Ho,Ki])
   refine ⟨u,A,?_⟩
   rw [C.int_inv.1]
   simp [V]
  obtain ⟨Y,X⟩:=d
  rcases X with ⟨q1,q2⟩ | ⟨b,cap,g,q1,_,Q,q4,q5,q6,q7⟩
  .omega
  cases q1
  have d:w.ownsRow 0 e 1 (.slice (some ⟨b,0,none⟩) (l.map (AVal.int .i64)).length c) (l.map (AVal.int .i64)).length cv:=⟨Y,.inr ⟨b,c,g,rfl,Cn _,Q,q4,q5,q6,q7⟩⟩
  have T:b<w.heap.size:=eU Q
  have hH:Holds (Ea .i64) w b 0 l.toArray:=fun j I=>by
   have I:j<l.length:=o_
   obtain ⟨u,A,rfl⟩:=hcw j I
   refine ⟨?_,by simp [Mm,Q]⟩
   rw [Bw,fC d rfl A]
   simp [I]
  have hsl:(l.mergeSort fun x y=>decide (x<=y)).length=l.length:=Mc l
  rw [L]
  refine .inl ⟨R _ _,(hs b 0 c l w hH T o_).mono ?_⟩
  rintro e' w' ⟨rfl,k,os,rfl⟩
  generalize hS:(l.mergeSort fun x y=>decide (x<=y))=S at hsl⊢
  have J:∀ x∈S,inR .i64 x:=fun x s=>by
   have:x∈l:=by rw [<-hS] at s;exact (Ku l _).mem_iff.1 s
   obtain ⟨i,hi⟩:=Cs this
   have z:=(Ad.1 hi).1
   obtain ⟨u,A,C⟩:=hc i (.int .i64 x) (by unfold aK;simp [hi,AVal.cells,Ho,Ki])
   exact C.int_inv.2
  have hw:=D.write (p:=0) (news:=S.map (Ea .i64)) (xs':=S.map (AVal.int .i64)) rfl o_ (by simp [hsl]) (fun u A=>by
    obtain ⟨x,_,rfl⟩:=Ce.1 A
    rfl) (by simp [hsl]) (fun x s=>by
    obtain ⟨y,_,rfl⟩:=Ce.1 s
    rfl) (fun q c' V=>.inl (by
    obtain ⟨x,s,N⟩:=fS V
    rw [Ho] at s
    rw [Ki] at N
    rw [Bj] at s
    cases r:S[q]? with
    | none=>rw [r] at s;cases s
    | some y=>
     rw [r] at s
     cases s
     cases N
     have z:=(Ad.1 r).1
     exact ⟨Cn _,by simp;omega,.int .i64 y,by simp [r],.int _ _ (J y (Aq r))⟩))
  obtain ⟨cur',c1,c2,c3⟩:=hw
  rw [Q] at c1
  cases c1
  have U:S.length<=g.size:=o_
  have t:=hm.rowTurn (k:=0) (hs':=hs0) rfl e1 e3 (Cl _) e2 e3 c3 (fun H _ hn=>setRow_other w b H _ (fun e=>hn (by simp [Gf,e]))) rfl rfl rfl s_ (fun H Z=>.inl Z)
  rw [fQ e1] at t
  obtain ⟨t1,t2,_⟩:=t
  have hsz:(w.setRow b ((g.toList.take 0++S.map (Ea .i64))++g.toList.drop (0+(S.map (Ea .i64)).length)).toArray).heap.size=w.heap.size:=by simp
  have O:∀ j,j<w.heap.size->(grow (putRow (Ea .i64) (Sort.ahead w k) b 0 S.toArray) os).heap[j]? =(w.setRow b ((g.toList.take 0++S.map (Ea .i64))++g.toList.drop (0+(S.map (Ea .i64)).length)).toArray).heap[j]?:=
   fun j I=>LW Q U I
  have m:=t1.more (M':=M) (w':=grow (putRow (Ea .i64) (Sort.ahead w k) b 0 S.toArray) os) (fun _ _ _ h=>h) (fun _ _ _ h=>.inl h) (fun H o y hy=>by
    obtain ⟨u,A,r1,r2⟩:=t1.imm H o y hy
    have z:=Cr _ _ A
    rw [hsz] at z
    exact ⟨u,(Cx (a:=⟨H,o,none⟩) (O H z)).trans A,r1,r2⟩) (fun j I=>O j o_) rfl rfl rfl s_
  exact ⟨M,ob,t2.trans m.2,m.1,K⟩
theorem XY (g:AVal->AVal) (x:AObj):(mapO g x).owns=x.owns:=by cases x<;>rfl
theorem sG {g:AVal->AVal} {ob:Hs} {obs:List AObj} {k b:Nat} (h:aM ob (obs.map (mapO g)) k b):aM ob obs k b:=by
 obtain ⟨c,hs,a,f,i,e⟩:=h
 rw [Bj] at a
 cases d:obs[k]? with
 | none=>simp_all
 | some x=>
  rw [d] at a
  cases a
  exact ⟨x,hs,d,by rw [<-XY g];exact f,i,e⟩
theorem Mem.mapO {M:Imm} {ob:Hs} {obs:List AObj} {w:World} {g:AVal->AVal} (t:∀ (M:Imm) (ob:Hs) v a,Rep M ob v a->Rep M ob v (g a)) (e:Mem M ob obs w):Mem M ob (obs.map (AW.mapO g)) w:=by
 refine ⟨e.imm,by simpa using e.len,fun k c f=>?_,fun k b d=>e.lt k b (sG d),fun i j b d n=>e.inj i j b (sG d) (sG n)⟩
 rw [Bj] at f
 cases m:obs[k]? with
 | none=>grind
 | some x=>
  rw [m] at f
  cases f
  obtain ⟨hs,z,l⟩:=e.obj k x m
  refine ⟨hs,z,?_⟩
  cases x with
  | cells T cs=>
   obtain ⟨b,p,q,cv,o,A,r,u⟩:=l
   refine ⟨b,p,q,cv,o,by rw [IW];simp;omega,r,fun i v a s d=>?_⟩
   rw [IW,Bj] at d
   cases h:cs[i]? with
   | none=>rw [h] at d;cases d
   | some y=>rw [h] at d;cases d;exact t _ _ _ _ (u i v y s h)
  | _=>exact l
theorem Ext.mapO {M M':Imm} {ob ob':Hs} {obs0 obs:List AObj} {w w':World} {g:AVal->AVal} (h1:Ext M ob obs0 w M' ob' obs w'):Ext M ob obs0 w M' ob' (obs.map (AW.mapO g)) w':=
 ⟨h1.imm,h1.new,h1.hs,h1.os,h1.tape,h1.output,h1.size,h1.keep,fun k b a=>h1.fresh k b (sG a)⟩
theorem To.mapO {E:Env} {fn:Func} {g:Goal} {st:List KI} {fr:List (Nat×AVal)} {obs:List AObj} (f:AVal->AVal) (e:∀ (M:Imm) (ob:Hs) v a,Rep M ob v a->Rep M ob v (f a))
  (h:To E fn g (.code st fr (MW f obs))):To E fn g (.code st fr obs):=
 .mk fun c M0 ob0 obs0 w0 a w hst hs=>by
  rw [MV] at h
  refine h.rec fun h=>h c M0 ob0 obs0 w0 a w hst ?_
  obtain ⟨M,ob,i,hm,b,j,d,k⟩:=hs
  exact ⟨M,ob,i.mapO,hm.mapO e,b,j,d,by simp_all⟩
theorem To.loose {E:Env} {fn:Func} {g:Goal} {st:List KI} {fr:List (Nat×AVal)} {obs:List AObj} (h:To E fn g (.code st fr (MW (strip 5) obs))):To E fn g (.code st fr obs):=
 h.mapO _ fun _ _ _ _=>wL 5
end Go.AW
