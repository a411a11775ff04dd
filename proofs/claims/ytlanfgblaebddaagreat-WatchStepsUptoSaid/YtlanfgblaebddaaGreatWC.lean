/-
  The engine, second make, third part: code, contracts, statements. Over any program.
-/
import Derived.Defers
import Derived.RangeFuncRecord
import Derived.ChangeKeysEq
import Derived.Lib.Overlaps
import Derived.WalkKit
import Derived.ProofKit
import Derived.OpenShut
import Derived.Recover
import Derived.Sort.Grow
import Derived.Test.YtlanfgblaebddaaGreatWB
set_option linter.all false
open Array renaming getD_eq_getD_getElem?->Aw,getElem?_append_left->Hq,getElem?_eq_getElem->Fk,getElem?_setIfInBounds_ne->Dk,getElem?_setIfInBounds_self_of_lt->Cs,replicate->Ey,toList_map->Jf
open Bool renaming and_assoc->Ge,and_eq_true->Af,and_true->Kr,false_eq_true->Cv,not_eq_true'->Co,or_eq_true->Fy
open Go.Instr renaming checkKey->Gw
open Go.Region renaming binds->Iw,wanted->Ds
open Go.Result renaming andThen->Kh,andThen_ok->Au
open Go.Sem renaming run_bind->Bc,run_pure->Bv
open Go.World renaming ownsRow_nil->Hh,putObj_heap_other->Fx
open Int renaming le_trans->Es
open List renaming all_eq_true->Bq,append_nil->Bm,drop_drop->Im,drop_eq_getElem_cons->Ad,eq_nil_of_length_eq_zero->Al,ext_getElem?->Ek,getElem?_append_left->Ag,getElem?_append_right->Ar,getElem?_drop->Ci,getElem?_eq_getElem->Ab,getElem?_eq_none->Bj,getElem?_eq_some_iff->Ac,getElem?_map->Bd,getElem?_of_mem->Ch,getElem?_replicate->Ec,getElem?_set_ne->Bh,getElem?_set_self->Ba,getElem?_take_of_lt->Br,getElem?_toArray->Li,length_append->Bo,length_singleton->Lj,map_cons->Bk,map_drop->Jl,map_map->Cu,map_take->Jk,mem_cons->Aj,mem_of_getElem?->Az,mem_singleton->Bf,prefix_refl->Dd,range'->Gx,range'_succ->Jb,range_eq_range'->Gm,replicate->Ah,size_toArray->Fj,take_add->Lq,take_append_drop->De,take_append_of_le_length->Ej,take_of_length_le->Cn
open Nat renaming add_comm->Lr,add_mul->Bz,add_zero->Dy,beq->Av,ble->Ff,blt->Eg,blt_eq->Jc,div_one->Jp,eq_zero_or_pos->Gf,le_of_ble_eq_true->Cl,le_refl->Bi,le_trans->Cm,lor->Lu,mul_le_mul_right->Cg,one_mul->Ft,pow_le_pow_right->Hk,sub_zero->Kb,zero_add->Cb,zero_le->Cc
open Ne renaming symm->Eu
open Option renaming isSome_iff_exists->Db
open Prod renaming fst->Ky
namespace Go.AW
open Go.RowKit
open Classical
section
variable {P:Program} {M:Imm} {ob:Hs} {L obs:List AObj} {w:World} {a:Act}
theorem kW {g:Nat->AVal} (e:∀ t,Rep M ob (a.tmps.getD t undef) (g t)) {u:Value} {v:AVal} (f:Rep M ob u v) {d:Option Nat} (i:∀ c,d=some c->c<a.tmps.size):
  ∀ t,Rep M ob ((a.put d u).tmps.getD t undef) (gT g d v t):=by
 intro t
 unfold gT
 cases d with
 | none=>rw [if_neg s_];exact e t
 | some d=>
  have b:=i d rfl
  by_cases h:d=t
  .subst h
   simp only [if_true,Act.put]
   rw [Aw,Cs b]
   exact f
  .rw [if_neg (by grind)]
   simp only [Act.put]
   rw [Aw,Dk h,<-Aw]
   exact e t
theorem dD (a:Act) (d:Option Nat) (u:Value):(a.put d u).tmps.size=a.tmps.size/\(a.put d u).defers=a.defers:=by
 cases d<;>simp [Act.put]
theorem xD {fr:List (Nat×AVal)} (h:∀ t,Rep M ob (a.tmps.getD t undef) (aR fr t)) (x:Operand):Rep M ob (a.eval x) (ev fr x):=by
 cases x with
 | tmp t=>exact h t
 | const v=>exact nK v
 | global g=>exact .undef _
 | func f=>exact .func (.func f) [] [] [] [] rfl rfl (fun i v a h=>by simp at h) (fun i v a h=>by simp at h)
theorem aEn {tab:List Nat} {all:List Oper} {j:Nat} {g:Nat->AVal} (h:∀ t,Rep M ob (a.tmps.getD t undef) (g t)) (x:Operand):Rep M ob (a.eval x) (evG tab all j g x):=by
 cases x with
 | tmp t=>
  simp only [evG]
  cases L5 tab j t 0 all with
  | true=>exact .undef _
  | false=>exact h t
 | const v=>exact nK v
 | global g=>exact .undef _
 | func f=>exact .func (.func f) [] [] [] [] rfl rfl (fun i v a h=>by simp at h) (fun i v a h=>by simp at h)
def G (rd:Option Nat) (P:Program) (ops:Array Oper) (p:Oper) (a:Act) (w:World) (next:Act->World->Prop) (Q:Exit->Act->World->Prop):Prop:=
 if Ds p (yielded ops a.tmps) then p.wpIn (fen rd) 0 P a w next Q else next (a.put p.dst undef) w
theorem fY {ops:Array Oper} {p:Oper} {ρ:Operand->AVal} (t:∀ x,Rep M ob (a.eval x) (ρ x)) {b:Bool}
  (h:bZ ops.toList ρ p.guard=some b):Ds p (yielded ops a.tmps)=b:=by
 unfold bZ at h
 unfold Ds
 cases n:p.guard with
 | none=>simp_all
 | some v=>
  obtain ⟨j,m⟩:=v
  rw [n] at h
  dsimp only at h⊢
  split at h
  .rename_i q s
   have i:ops[j]? =some q:=by simpa using gJ s
   split at h
   .rename_i d o
    have c:=t (.tmp d)
    have k:∀ u,a.tmps.getD d undef=u->yielded ops a.tmps j=match u with | .bool b=>some b | _=>none:=by
     intro u e
     unfold yielded
     rw [i]
     simp only [Option.bind_some,o]
     rw [Aw] at e
     cases l:a.tmps[d]? with
     | none=>rw [l] at e;simp at e;subst e;rfl
     | some x=>rw [l] at e;simp at e;subst e;cases x<;>rfl
    split at h
    .rename_i r g
     rw [g] at c
     have f:a.tmps.getD d undef= .bool r:=c.bool_inv
     rw [k _ f]
     cases h
     simp
    .rename_i g
     rw [g] at c
     obtain ⟨us,e,hl,_⟩:=c.tup_inv
     have f:a.tmps.getD d undef= .tuple us.toArray:=e
     rw [k _ f]
     cases h
     simp
    .cases h
   .cases h
  .cases h
theorem rJ:Rep M ob undef (.tup []):=.tup [] [] rfl fun i v a h=>by simp at h
theorem yC:∀ {L obs:List AObj},aC L=aC obs->L.length<=obs.length->obs=L++Ah (obs.length-L.length) .dead:=fun {L obs} hg hl=>by
 refine Ek fun k=>?_
 by_cases b:k<L.length
 .rw [Ag b,mY b,mY (show k<obs.length by omega),hg]
 .rw [Ar o_,Ec]
  by_cases a:k<obs.length
  .rw [if_pos o_,mY a,<-hg]
   rcases eG L k with ⟨h1,_⟩ | ⟨_,_,e⟩
   .omega
   .rw [e]
  simp_all
theorem Mem.norm (h:Mem M ob L w) (c:aC L=aC obs) (m:∀ (k:Nat),obs.length<=k->∀ hs,ob[k]? =some hs->hs=[]):
  ∃ ob',Mem M ob' obs w/\(∀ (k g:Nat) v,at' ob k g=some v->at' ob' k g=some v)/\∀ {M0:Imm} {ob0:Hs} {obs0:List AObj} {w0:World},Ext M0 ob0 obs0 w0 M ob L w->ob0.length<=obs.length->Ext M0 ob0 obs0 w0 M ob' obs w:=by
 by_cases hl:L.length<=obs.length
 .have e:=yC c hl
  obtain ⟨d,b,_⟩:=h.extend (obs.length-L.length)
  rw [<-e] at d b
  exact ⟨_,d,fun k g v f=>b.hs.at f,fun a _=>a.trans b⟩
 .have e:=yC c.symm o_
  rw [e] at h
  obtain ⟨o,l,j⟩:=h.shrink fun i hs n=>m i n hs
  exact ⟨_,o,l,fun a p=>j (e▸a) p⟩
theorem gI {K d Kp:AVal->List AObj->Prop} (a:∀ v o,K v o->d v o):∀ {r:OR},orF P obs K Kp r->orF P obs d Kp r
 | .no,k=>k.elim
 | .val v,k=>a _ _ k
 | .mkf fn fs cs,k=>a _ _ k
 | .need p r,k=>⟨k.1,gI a k.2⟩
 | .alt p v w,k=>k.imp (fun h=>⟨h.1,a _ _ h.2⟩) (a _ _)
 | .idx n f,⟨i,hi,k⟩=>⟨i,hi,gI a k⟩
 | .elem xs i f,⟨x,hx,k⟩=>⟨x,hx,gI a k⟩
 | .byte l i,⟨c,hc,k⟩=>⟨c,hc,a _ _ k⟩
 | .text xs,⟨l,hl,hm,k⟩=>⟨l,hl,hm,a _ _ k⟩
 | .find es key f,⟨o,ho,k⟩=>⟨o,ho,gI a k⟩
 | .born x v,k=>a _ _ k
 | .upd i x v,k=>a _ _ k
 | .nilq xs neg,k=>fun b e=>a _ _ (k b e)
 | .call f args,k=>CallG.mono a k
 | .pan v,k=>k
theorem rM {e:List AObj} {base:Nat} {K Kp:AVal->List AObj->Prop} (g:base=aM obs) (hs:e=obs):∀ {r:OR},orD P true true false e obs base K Kp r->orF P obs K Kp r
 | .no,k=>k.elim
 | .val v,k=>k
 | .mkf fn fs cs,k=>k
 | .need p r,k=>⟨k.1,rM g hs k.2⟩
 | .alt p v w,k=>k
 | .idx n f,⟨i,hi,k⟩=>⟨i,hi,rM g hs k⟩
 | .elem xs i f,⟨x,hx,k⟩=>⟨x,hx,rM g hs k⟩
 | .byte l i,k=>k
 | .text xs,k=>k
 | .find es key f,⟨o,ho,k⟩=>⟨o,ho,rM g hs k⟩
 | .born x v,k=>by rw [g] at k;exact k
 | .upd i x v,k=>k
 | .nilq xs neg,k=>k
 | .call f args,k=>by
  have k:CallD P f args true e base obs K Kp:=k
  cases k with
  | pure r new h k=>subst g hs;exact .eff [] [] r new rfl h k
  | sole _ h=>exact h
  | look ks r o a l b c d q=>subst g hs;exact .eff [] ks r o a b (by show K (embV ks _ e 5 r) (fI ks _ e 0 o e);rw [c,d];exact q)
 | .pan v,k=>k
end
section
variable {rd:Option Nat} {M0:Imm} {ob0:Hs} {obs0:List AObj} {w0:World} {sz:Nat} {dfs:List (Nat×List AVal)} {E:Env} {ops:Array Oper} {Q:Exit->Act->World->Prop} {K:List (Nat×AVal)->List AObj->Prop} {Kp:(Nat->AVal)->AVal->List AObj->Prop}
def D1 (M:Imm) (ob:Hs) (a:List Deferred) (dfs:List (Nat×List AVal)):Prop:=
 a.length=dfs.length/\∀ (i:Nat) d x,a[i]? =some d->dfs[i]? =some x->d.target= .fn (.func x.1) #[]/\bT M ob d.args.toList x.2
theorem D1.nil {M:Imm} {ob:Hs}:D1 M ob [] []:=⟨rfl,fun i d x h=>by simp at h⟩
theorem D1.nil_inv {M:Imm} {ob:Hs} {a:List Deferred} (h:D1 M ob a []):a=[]:=Al h.1
theorem D1.mono {M M':Imm} {ob ob':Hs} {f:List Deferred} {dfs:List (Nat×List AVal)} (m:∀ b o x,M b o x->M' b o x) (g:dR ob ob') (h:D1 M ob f dfs):D1 M' ob' f dfs:=
 ⟨h.1,fun i d x e c=>⟨(h.2 i d x e c).1,(h.2 i d x e c).2.1,fun j v a k l=>((h.2 i d x e c).2.2 j v a k l).mono m g⟩⟩
theorem D1.monoA {M:Imm} {ob ob':Hs} {e:List Deferred} {dfs:List (Nat×List AVal)} (f:∀ (k g:Nat) v,at' ob k g=some v->at' ob' k g=some v) (h:D1 M ob e dfs):D1 M ob' e dfs:=
 ⟨h.1,fun i d x c b=>⟨(h.2 i d x c b).1,(h.2 i d x c b).2.1,fun j v a l m=>((h.2 i d x c b).2.2 j v a l m).monoA f⟩⟩
def Mks (w0 w:World):List Deferred->Prop
 | []=>True
 | d::ds=>(∃ b,d.target= .collected b/\w0.heap.size<=b/\w.heap[b]? =some (.deferred (some []))/\∀ a∈ds,a.target≠ .collected b)/\Mks w0 w ds
theorem Mks.same {w0 w w':World}:∀ {a:List Deferred},(∀ d∈a,∀ b,d.target= .collected b->w.heap[b]? =some (.deferred (some []))->w'.heap[b]? =some (.deferred (some [])))->Mks w0 w a->Mks w0 w' a
 | [],_,_=>trivial
 | d::a,hb,⟨⟨b,h1,h2,h3,h4⟩,h5⟩=>⟨⟨b,h1,h2,hb d s_ b h1 h3,h4⟩,Mks.same (fun d c=>hb d (by simp [c])) h5⟩
def cL (w0 w:World) (M:Imm) (ob:Hs) (c:List Deferred) (dfs:List (Nat×List AVal)):Prop:=∃ a b,c=a++b/\D1 M ob a dfs/\Mks w0 w b
theorem Mem.alive_heap {M:Imm} {ob:Hs} {obs:List AObj} {w:World} (hm:Mem M ob obs w) {k b:Nat} (q:aK ob obs k b):∃ o,w.heap[b]? =some o/\CC o=false:=by
 obtain ⟨c,hs,m,h,e3,f⟩:=q
 obtain ⟨hs',j,a⟩:=hm.obj k c m
 rw [e3] at j
 cases j
 have row:∀ {v:Value} {n sz:Nat} {e:TypeId} {cv:List Value},w.ownsRow 0 e sz v n cv->blk hs=v.ownBlock.toList->∃ o,w.heap[b]? =some o/\CC o=false:=fun {v n sz e cv} ho hb=>by
  have i:=uO hb f
  rcases ho.2 with ⟨rfl,_⟩ | ⟨g,cap,p,s,_,l,_⟩
  .cases i
  .rw [s] at i
   cases i
   exact ⟨_,l,rfl⟩
 cases c with
 | dead=>cases h
 | fcells cs=>cases h
 | frow g sz xs=>cases h
 | cells T cs=>
  obtain ⟨r,rfl,_,cv,d,_⟩:=a
  have:=dV.1 f
  subst this
  exact ⟨_,d,rfl⟩
 | row g sz e xs=>
  obtain ⟨h1,v,d,cv,h3,_⟩:=a
  exact row h3 ((fC h1 d).trans (eF h3))
 | tail g sz e=>
  obtain ⟨h1,v,d,n,cv,h3,_⟩:=a
  exact row h3 ((fC h1 d).trans (eF h3))
 | mp t es=>
  obtain ⟨r,rfl,_,x,u,d,_⟩:=a
  have:=dV.1 f
  subst this
  exact ⟨_,d,rfl⟩
 | bun g I=>
  obtain ⟨h1,bs,d,h3,_⟩:=a
  have e:blk hs=bs:=by rw [<-JF (hs:=[gF bs]) rfl];exact fC h1 d
  rw [e] at f
  exact h3 b f
theorem cL.nil {w0 w:World} {M:Imm} {ob:Hs}:cL w0 w M ob [] []:=⟨[],[],rfl,.nil,trivial⟩
theorem cL.marks {w0 w:World} {M:Imm} {ob:Hs} {a:List Deferred} (h:cL w0 w M ob a []):Mks w0 w a:=by
 obtain ⟨d,c,rfl,h1,b⟩:=h
 rw [h1.nil_inv];exact b
theorem cL.bare {w0 w:World} {M M':Imm} {ob ob':Hs} {a:List Deferred} (h:cL w0 w M ob a []):cL w0 w M' ob' a []:=⟨[],a,rfl,.nil,h.marks⟩
theorem cL.mono {w0 w:World} {M M':Imm} {ob ob':Hs} {a:List Deferred} {dfs:List (Nat×List AVal)} (d:∀ b o x,M b o x->M' b o x) (c:dR ob ob') (h:cL w0 w M ob a dfs):cL w0 w M' ob' a dfs:=
 let ⟨d1,d2,e,h1,h2⟩:=h;⟨d1,d2,e,h1.mono d c,h2⟩
theorem cL.monoA {w0 w:World} {M:Imm} {ob ob':Hs} {a:List Deferred} {dfs:List (Nat×List AVal)} (b:∀ (k g:Nat) v,at' ob k g=some v->at' ob' k g=some v) (h:cL w0 w M ob a dfs):cL w0 w M ob' a dfs:=
 let ⟨d1,d2,e,h1,h2⟩:=h;⟨d1,d2,e,h1.monoA b,h2⟩
theorem cL.put {w0 w:World} {M:Imm} {ob:Hs} {a:Act} {d:Option Nat} {u:Value} {dfs:List (Nat×List AVal)} (h:cL w0 w M ob a.defers dfs):cL w0 w M ob (a.put d u).defers dfs:=by rw [(dD a d u).2];exact h
theorem cL.same {w0 w w':World} {M:Imm} {ob:Hs} {a:List Deferred} {dfs:List (Nat×List AVal)} (c:w'.heap=w.heap) (h:cL w0 w M ob a dfs):cL w0 w' M ob a dfs:=
 let ⟨d1,d2,e,h1,h2⟩:=h;⟨d1,d2,e,h1,h2.same fun d _ b _ h=>by grind⟩
theorem cL.ext {w0 w w':World} {M M':Imm} {ob ob':Hs} {obs obs':List AObj} {f:List Deferred} {dfs:List (Nat×List AVal)} (h:cL w0 w M ob f dfs) (hm:Mem M ob obs w) (a:Ext M ob obs w M' ob' obs' w'):cL w0 w' M' ob' f dfs:=
 let ⟨d1,d2,e,h1,h2⟩:=h
 ⟨d1,d2,e,h1.mono a.imm a.hs,h2.same fun d _ b _ h=>by
  rw [a.keep b (eI h) fun k i=>by
   obtain ⟨o,c,g⟩:=hm.alive_heap i
   rw [h] at c
   cases c
   cases g]
  exact h⟩
def SS (M0:Imm) (ob0:Hs) (obs0:List AObj) (w0:World) (sz:Nat) (dfs:List (Nat×List AVal)) (fr:List (Nat×AVal)) (obs:List AObj) (a:Act) (w:World):Prop:=
 ∃ M ob,Ext M0 ob0 obs0 w0 M ob obs w/\Mem M ob obs w/\(∀ t,Rep M ob (a.tmps.getD t undef) (aR fr t))/\a.tmps.size=sz/\cL w0 w M ob a.defers dfs/\ob0.length<=obs.length
def PP (M0:Imm) (ob0:Hs) (obs0:List AObj) (w0:World) (sz:Nat) (dfs:List (Nat×List AVal)) (c:Nat->AVal) (v:AVal) (obs:List AObj) (b:List PanicEntry) (a:Act) (w:World):Prop:=
 ∃ M ob,Ext M0 ob0 obs0 w0 M ob obs w/\Mem M ob obs w/\rD M ob (.panicked b) (.pan v)/\(∀ t,Rep M ob (a.tmps.getD t undef) (c t))/\a.tmps.size=sz/\cL w0 w M ob a.defers dfs/\ob0.length<=obs.length
theorem Ext.lens {M M':Imm} {ob ob':Hs} {L L':List AObj} {w w':World} (a:Ext M ob L w M' ob' L' w'):ob.length<=ob'.length:=by
 rcases Gf ob.length with h | h
 .omega
 .obtain ⟨hs',e,_⟩:=a.hs (ob.length-1) _ (Ab o_)
  grind
theorem gC {P:Program} {hint base:Nat} {obs:List AObj} {ρ:Operand->AVal} {op:Op} {ty:TypeId} {K Kp:AVal->List AObj->Prop} (h:orF P obs K Kp (eop E hint base (aC obs) ρ op ty)):∀ c,op≠ .defer c:=by
 intro c e
 subst e
 exact h.elim
theorem J9 (hE:EnvOK E) {fr:List (Nat×AVal)} {obs:List AObj} {a:Act} {w:World} (hs:SS M0 ob0 obs0 w0 sz dfs fr obs a w) {p:Oper} (y:∀ d,p.dst=some d->d<sz) {hint:Nat}
  (h:match bZ ops.toList (ev fr) p.guard with
   | none=>False
   | some false=>K (jN fr p.dst (.tup [])) obs
   | some true=>orF E.P obs (fun v obs=>K (jN fr p.dst v) obs) (Kp (aR fr)) (eop E hint (aM obs) (aC obs) (ev fr) p.op p.type))
  (hp:∀ v obs j w,Kp (aR fr) v obs->PP M0 ob0 obs0 w0 sz dfs (aR fr) v obs j a w->Q (.panic j) a w):
  G rd E.P ops p a w (fun a w=>∃ fr obs,K fr obs/\SS M0 ob0 obs0 w0 sz dfs fr obs a w) Q:=by
 obtain ⟨M,ob,r,hm,m,g,i,C⟩:=hs
 have k:=xD m
 have hl:=hm.len
 unfold G
 cases z:bZ ops.toList (ev fr) p.guard with
 | none=>simp_all
 | some b=>
  rw [z] at h
  rw [fY k z]
  cases b with
  | false=>
   rw [if_neg s_]
   refine ⟨_,obs,h,M,ob,r,hm,?_,(dD _ _ _).1.trans g,i.put,C⟩
   rw [dK]
   exact kW m rJ fun q e=>g▸y q e
  | true=>
   rw [if_pos rfl]
   have n:∀ c,p.op≠ .defer c:=gC h
   refine (rI hE hm k h).wpIn n (fun u w' ⟨M',ob',L',f,l,x⟩=>?_) (fun j w' ⟨M',ob',L',f,l,x⟩=>?_)
   .rcases x with ⟨B,v,e,o,s⟩ | ⟨j,v,e,_⟩
    .cases e
     have:=f.lens
     have:=l.len
     refine ⟨_,L',s,M',ob',r.trans f,l,?_,(dD _ _ _).1.trans g,(i.ext hm f).put,by omega⟩
     rw [dK]
     exact kW (fun t=>(m t).mono f.imm f.hs) o fun q e=>g▸y q e
    .cases e
   .rcases x with ⟨B,v,e,_⟩ | ⟨A,v,e,o,s⟩
    .cases e
    .cases e
     have:=f.lens
     have:=l.len
     exact hp v L' j w' s ⟨M',ob',r.trans f,l,o,fun t=>(m t).mono f.imm f.hs,g,i.ext hm f,by omega⟩
theorem wk {l:List Oper} {p:Oper} {a:Act} {w:World} {next:Act->World->Prop} (b:G rd E.P ops p a w next Q) (d:∀ a w,next a w->wpListIn (fen rd) 0 E.P ops Q l a w):wpListIn (fen rd) 0 E.P ops Q (p::l) a w:=by
 unfold wpListIn
 unfold G at b
 split
 .rename_i c;rw [if_pos c] at b;exact Oper.wpIn_mono d b
 .rename_i c;rw [if_neg c] at b;exact ⟨fun _ _=>trivial,d _ _ b⟩
theorem qW (hE:EnvOK E) (hp:∀ g v obs c a w,Kp g v obs->PP M0 ob0 obs0 w0 sz dfs g v obs c a w->Q (.panic c) a w) (j:∀ fr obs a w,K fr obs->SS M0 ob0 obs0 w0 sz dfs fr obs a w->Q .normal a w):
  ∀ (l:List Oper) (n:Nat) (fr:List (Nat×AVal)) (obs:List AObj) (a:Act) (w:World),(∀ p∈l,∀ d,p.dst=some d->d<sz)->dF E ops.toList K Kp n l fr obs->SS M0 ob0 obs0 w0 sz dfs fr obs a w->wpListIn (fen rd) 0 E.P ops Q l a w
 | [],n,fr,obs,a,w,_,h,hs=>j fr obs a w h hs
 | p::l,n,fr,obs,a,w,hd,h,hs=>by
  refine wk (J9 (K:=fun fr obs=>dF E ops.toList K Kp (n+1) l fr obs) (Kp:=Kp) (hint:=cZ E p.dst) hE hs (hd p s_) ?_ fun v obs c w i f=>hp (aR fr) v obs c a w i f) fun k w' ⟨e,obs',i,hs'⟩=>qW hE hp j l (n+1) e obs' k w' (fun p hp=>hd p (by simp [hp])) i hs'
  simp only [dF] at h
  cases m:bZ ops.toList (ev fr) p.guard with
  | none=>grind
  | some b=>
   rw [m] at h
   cases b with
   | false=>exact h
   | true=>
    exact gI (fun v o h=>tR h) h
end
section
variable {rd:Option Nat} {M0:Imm} {ob0:Hs} {obs0:List AObj} {w0:World} {sz:Nat} {dfs:List (Nat×List AVal)} {E:Env} {ops:Array Oper} {Q:Exit->Act->World->Prop} {K:AS->Prop} {Kp:(Nat->AVal)->AVal->List AObj->Prop} {L0:Nat} {tab:List Nat}
theorem D4 {P:Program} {og b:Nat->AObj} {hint base a:Nat} {ρ:Operand->AVal} {op:Op} {ty:TypeId} {z:AVal} {bs:List AObj} (h:fK P b a z bs (eop E hint base og ρ op ty)):∀ c,op≠ .defer c:=by
 intro c e
 subst e
 exact h.elim
theorem HN {og:Nat->AObj} {hint base k:Nat} {ρ:Operand->AVal} {op:Op} {ty:TypeId} {z:AVal} {x:AObj} (h:HO z k x (eop E hint base og ρ op ty)):∀ c,op≠ .defer c:=by
 intro c e
 subst e
 exact h.elim
def DS (M0:Imm) (ob0:Hs) (obs0:List AObj) (w0:World) (sz:Nat) (dfs:List (Nat×List AVal)) (L0:Nat) (s:AS) (a:Act) (w:World):Prop:=
 ∃ M ob L,Ext M0 ob0 obs0 w0 M ob L w/\Mem M ob L w/\aC L=s.o/\(∀ t,Rep M ob (a.tmps.getD t undef) (s.g t))/\a.tmps.size=sz/\cL w0 w M ob a.defers dfs/\ob0.length<=L0/\
  ∀ (k:Nat),L0<=k->(∀ i,¬ s.br i k)->∀ hs,ob[k]? =some hs->hs=[]
theorem aEw (hE:EnvOK E) (hd:∀ (i:Nat) p,ops[i]? =some p->∀ d,p.dst=some d->d<sz) (hp:∀ g v obs F a w,Kp g v obs->PP M0 ob0 obs0 w0 sz dfs g v obs F a w->Q (.panic F) a w)
  {s:AS} {a:Act} {w:World} (hs:DS M0 ob0 obs0 w0 sz dfs L0 s a w) {i:Nat} (h:aOp E ops tab L0 Kp i K s):wpOpIn (fen rd) 0 E.P ops Q i (fun a w=>∃ s',K s'/\DS M0 ob0 obs0 w0 sz dfs L0 s' a w) a w:=by
 obtain ⟨p,hi,h⟩:=h
 have r:=hd i p hi
 suffices hg:G rd E.P ops p a w (fun a w=>∃ s',K s'/\DS M0 ob0 obs0 w0 sz dfs L0 s' a w) Q by
  unfold wpOpIn
  rw [hi]
  dsimp only
  unfold G at hg
  split
  .rename_i o;rw [if_pos o] at hg;exact hg
  .rename_i o;rw [if_neg o] at hg;exact ⟨fun _ _=>trivial,hg⟩
 obtain ⟨M,ob,L,W,hm,H,I,j,q,X,b⟩:=hs
 have l:∀ x,Rep M ob (a.eval x) (evG tab ops.toList i s.g x):=aEn I
 have skip:∀ {base:Nat},K (s.upd i p.dst (.tup []) base [])->Ds p (yielded ops a.tmps)=false->G rd E.P ops p a w (fun a w=>∃ s',K s'/\DS M0 ob0 obs0 w0 sz dfs L0 s' a w) Q:=fun {base} m o=>by
  unfold G
  rw [if_neg (by rw [o];simp)]
  refine ⟨_,m,?_⟩
  rw [zN]
  exact ⟨M,ob,L,W,hm,H,kW I rJ fun C e=>j▸r C e,(dD _ _ _).1.trans j,q.put,X,b⟩
 rcases h with ⟨_,z,base,bs,⟨y,_,hy⟩,hfr,m⟩ | ⟨_,z,base,k,x,⟨⟨y,hbr⟩,o,J,c⟩,m⟩ | ⟨_,obs,hoo,hl0,U,hlt,hy⟩
 .rcases hy with ⟨o,rfl,rfl⟩ | ⟨o,c⟩
  .exact skip m (fY l o)
  .unfold G
   rw [fY l o,if_pos rfl]
   obtain ⟨hid,n⟩:∃ hid,aC (bV hid L)=kD E tab i p.dst s:=by
    cases hbl:blD E p.dst with
    | true=>exact ⟨fun _=>True,by rw [fA];unfold kD;rw [if_pos hbl];simp⟩
    | false=>exact ⟨PG tab i s.br,by rw [fA,H];unfold kD;rw [if_neg q_];rfl⟩
   rw [<-n] at c
   refine (aG6 hE hm l (fun k m=>b k (Cm y m.1) (hfr k m)) c).wpIn (D4 c) (fun u w' ⟨M',ob',L',O,e,f,A,D,x4,x5,x6⟩=>?_) (fun F w' ⟨M',ob',L',O,e,_⟩=>by cases e)
   cases e
   refine ⟨_,m,M',ob',L',W.trans f,A,?_,kW (fun t=>(I t).mono f.imm f.hs) x5 fun C e=>j▸r C e,(dD _ _ _).1.trans j,(q.ext hm f).put,X,fun k h1 B hs V=>?_⟩
   .rw [D,H];rfl
   .have S:¬ inB base bs.length k:=fun h=>B i (.inr ⟨rfl,h⟩)
    exact x6 k S (b k h1 fun Z y=>B Z (.inl y)) hs V
 .unfold G
  rw [fY l o,if_pos rfl]
  have n:aC (bV (PG tab i s.br) L)=mP tab i s:=by
   rw [fA,H]
   rfl
  rw [<-n] at c J
  refine (aEx hE hm l (b base y hbr) J c).wpIn (HN c) (fun u w' ⟨M',ob',L',O,e,f,A,D,x4,x5,x6⟩=>?_) (fun F w' ⟨M',ob',L',O,e,_⟩=>by cases e)
  cases e
  refine ⟨_,m,M',ob',L',W.trans f,A,?_,kW (fun t=>(I t).mono f.imm f.hs) x5 fun C e=>j▸r C e,(dD _ _ _).1.trans j,(q.ext hm f).put,X,fun k' h1 B hs V=>x6 k' (b k' h1 B) hs V⟩
  rw [D,H]
  rfl
 .rcases hy with ⟨o,m⟩ | ⟨o,R⟩
  .exact skip m (fY l o)
  .unfold G
   rw [fY l o,if_pos rfl]
   have hof:=bD obs
   obtain ⟨ob1,n1,n2,n3⟩:=hm.norm (obs:=obs) (H.trans hoo.symm) fun k m=>b k o_ fun i y=>by have:=hlt i k y;omega
   have T:∀ x,Rep M ob1 (a.eval x) (evG tab ops.toList i s.g x):=fun x=>(l x).monoA n2
   have N:=n3 W o_
   refine (rI hE n1 T (rM rfl rfl R)).wpIn (gC (rM rfl rfl R)) (fun u w' ⟨M',ob',L',f,A,D⟩=>?_) (fun F w' ⟨M',ob',L',f,A,D⟩=>?_)
   .rcases D with ⟨O,v,e,Y,m⟩ | ⟨F,v,e,_⟩
    .cases e
     have l1:=f.lens
     have l2:=A.len
     have l3:=n1.len
     have hle:aM obs<=aM L':=by rw [bD,bD];omega
     refine ⟨_,m hle,M',ob',L',N.trans f,A,rfl,kW (fun t=>((I t).monoA n2).mono f.imm f.hs) Y fun C e=>j▸r C e,(dD _ _ _).1.trans j,((q.monoA n2).ext n1 f).put,X,fun k h1 B hs V=>?_⟩
     have hk1:k<aM L':=by rw [bD,<-l2];exact (Ac.1 V).1
     by_cases hk2:k<aM obs
     .obtain ⟨Z,y⟩:=U k h1 hk2
      exact absurd (.inl y) (B Z)
     .exact absurd (.inr ⟨rfl,by omega,hk1⟩) (B i)
    .cases e
   .rcases D with ⟨O,v,e,_⟩ | ⟨ch',v,e,Y,m⟩
    .cases e
    .cases e
     have l1:=f.lens
     have l2:=A.len
     have l3:=n1.len
     exact hp _ v L' F a w' m ⟨M',ob',N.trans f,A,Y,fun t=>((I t).monoA n2).mono f.imm f.hs,j,(q.monoA n2).ext n1 f,by omega⟩
theorem nU (hE:EnvOK E) (k:∀ (i:Nat) p,ops[i]? =some p->∀ d,p.dst=some d->d<sz) (hp:∀ g v obs n a w,Kp g v obs->PP M0 ob0 obs0 w0 sz dfs g v obs n a w->Q (.panic n) a w) {l:AS->Prop}
  (j:∀ s a w,l s->DS M0 ob0 obs0 w0 sz dfs L0 s a w->Q .normal a w):
  ∀ (b:Nat) (c:Array Bool) (s:AS) (a:Act) (w:World),wpA E ops tab L0 Kp l b c s->DS M0 ob0 obs0 w0 sz dfs L0 s a w->wpAnyIn (fen rd) 0 E.P .any ops Q b c a w
 | 0,_,_,_,_,h,hs=>⟨h.1,j _ _ _ h.2 hs⟩
 | b+1,_,_,_,_,h,hs=>⟨fun t=>j _ _ _ (h.1 t) hs,fun i r=>by
   have:=aEw (rd:=rd) (K:=wpA E ops tab L0 Kp l b _) hE k hp hs (h.2 i r)
   unfold wpOpIn at this⊢
   cases q:ops[i]? with
   | none=>rw [q] at this;obtain ⟨s',e,f⟩:=this;exact nU hE k hp j b _ s' _ _ e f
   | some o=>
    rw [q] at this
    dsimp only at this⊢
    split
    .rename_i m
     rw [if_pos m] at this
     exact Oper.wpIn_mono (fun a w ⟨s',e,f⟩=>nU hE k hp j b _ s' a w e f) this
    .rename_i m
     rw [if_neg m] at this
     obtain ⟨_,s',e,f⟩:=this
     exact ⟨fun _ _=>trivial,nU hE k hp j b _ s' _ _ e f⟩⟩
theorem DS.of {fr:List (Nat×AVal)} {obs:List AObj} {a:Act} {w:World} (h:SS M0 ob0 obs0 w0 sz dfs fr obs a w):DS M0 ob0 obs0 w0 sz dfs obs.length (iJ fr obs []) a w:=by
 obtain ⟨M,ob,f,hm,e,b,c,d⟩:=h
 exact ⟨M,ob,obs,f,hm,rfl,e,b,c,d,fun k i _ hs g=>by
  have:=(Ac.1 g).1
  rw [hm.len] at this
  omega⟩
theorem DS.back {fr:List (Nat×AVal)} {obs:List AObj} {br:List (Nat×Nat)} {n:Nat} {a:Act} {w:World} (f:LI L0 n obs br) (h:DS M0 ob0 obs0 w0 sz dfs L0 (iJ fr obs br) a w):SS M0 ob0 obs0 w0 sz dfs fr obs a w:=by
 obtain ⟨M,ob,L,m,hm,j,q,d,e,s,b⟩:=h
 have p:=bD obs
 have g:=f.low
 obtain ⟨c,n1,n2,o⟩:=hm.norm (obs:=obs) j fun k r=>b k o_ fun i l=>by have:=(f.lt i k l).1;omega
 exact ⟨M,c,o m o_,n1,fun t=>(q t).monoA n2,d,e.monoA n2,by omega⟩
theorem SS.draw {fr:List (Nat×AVal)} {obs:List AObj} {a:Act} {w:World} (h:SS M0 ob0 obs0 w0 sz dfs fr obs a w):SS M0 ob0 obs0 w0 sz dfs fr obs a {w with drawn:=w.drawn+1}:=by
 obtain ⟨M,ob,b,hm,f,c,d,e⟩:=h
 exact ⟨M,ob,⟨b.imm,b.new,b.hs,b.os,b.tape,b.output,b.size,b.keep,b.fresh⟩,hm.same (Bi _) fun _ _=>rfl,f,c,cL.same (w:=w) rfl d,e⟩
theorem OL (hE:EnvOK E) {id:Nat} (t:TabSp ops tab) (x:∀ (i:Nat) p,ops[i]? =some p->∀ d,p.dst=some d->d<sz) {Kq:List (Nat×AVal)->List AObj->Prop}
  (hp:∀ g v obs q a w,Kp g v obs->PP M0 ob0 obs0 w0 sz dfs g v obs q a w->Q (.panic q) a w) (z:∀ fr obs a w,Kq fr obs->SS M0 ob0 obs0 w0 sz dfs fr obs a w->Q .normal a w)
  {fr:List (Nat×AVal)} {obs:List AObj} {a:Act} {w:World} (hs:SS M0 ob0 obs0 w0 sz dfs fr obs a w) (h:gM E ops.toList tab Kq Kp 0 ops.toList [] fr obs):(Code.region id ops true).wpIn (fen rd) 0 E.P Q a w:=by
 refine wpIn_region_any hE.mix ?_
 have b:∀ j,j<ops.size->(Ey ops.size false)[j]? =some (decide (j<0)):=by intro j A;simp [A]
 have o:(Ey ops.size false).size=ops.size:=by simp
 have c:ops.toList.length=ops.size:=by simp
 have r:LI obs.length 0 obs []:=⟨by rw [bD];omega,fun k h1 y=>by rw [bD] at y;omega,fun i k m=>by simp at m⟩
 have:=aDI t ops.toList 0 _ [] fr obs rfl b o r h
 rw [c] at this
 exact nU hE x hp (fun s a w ⟨f,obs',u,B,e,n,m⟩ l=>z f obs' a w m (DS.back n (e▸l))) _ _ _ _ _ this (DS.of hs.draw)
end
def KI.item:KI->Item
 | .code c=>.code c
 | .inB id=>.inBlock id
 | .inL c=>.inLoop c
 | .beginR=>.beginRound
def fQ (ks:List KI):List Item:=ks.map KI.item
theorem aBb (rd:Option Nat) (n:Nat):(fen rd).room n:=fun d h=>by cases h
theorem hY (P:Program) (rd:Option Nat) (m:Machine):m.fenced P (fen rd):=fenced_wide P m
def KW (rd:Option Nat) (P:Program) (Q:Exit->Act->World->Prop) (ks:List KI) (a:Act) (w:World):Prop:=
 ∀ (b:Frame) (cs:List Frame),b.roundOf=rd->∃ e c w',Q e c w'/\ArrivesIn (Machine.fenced P (fen rd)) P (lone (b.atR a (fQ ks)) cs w) b [] cs e c w'
section
variable {rd:Option Nat} {P:Program} {Q:Exit->Act->World->Prop} {ks ks':List KI} {a:Act} {w:World}
theorem KW.nil (h:Q .normal a w):KW rd P Q [] a w:=fun _ _ _=>⟨.normal,a,w,h,.refl _⟩
theorem KW.step (hs:∀ (b:Frame) cs,Go.step P (lone (b.atR a (fQ ks)) cs w)= .next (lone (b.atR a (fQ ks')) cs w)) (h:KW rd P Q ks' a w):KW rd P Q ks a w:=
 fun b cs c=>let ⟨e,a',w',q,r⟩:=h b cs c;⟨e,a',w',q,.of_steps (.one (hY _ _ _) (hs b cs)) r⟩
theorem KW.ret (h:Q .ret a w):KW rd P Q (.code .ret::ks) a w:=fun b _ _=>⟨.ret,a,w,h,fun c=>⟨_,.one (hY _ _ _) (stepR_ret c)⟩,fun _=>⟨fQ ks,.refl _⟩⟩
theorem KW.code {c:Code} {Q':Exit->Act->World->Prop} (h:c.wpIn (fen rd) 0 P Q' a w) (h1:∀ a w,Q' .normal a w->KW rd P Q ks a w) (m:∀ d a w,Q' (.panic d) a w->Q (.panic d) a w)
  (h3:∀ e a w,Q' e a w->e= .normal\/∃ d,e= .panic d):KW rd P Q (.code c::ks) a w:=by
 intro b cs g
 obtain ⟨e,f,w',q,r⟩:=h b (fQ ks) cs g trivial (aBb _ _)
 rcases h3 e f w' q with rfl | ⟨d,rfl⟩
 .obtain ⟨i,n,l,j,k⟩:=h1 f w' q b cs g
  exact ⟨i,n,l,j,.of_steps r k⟩
 .exact ⟨.panic d,f,w',m d f w' q,r⟩
theorem KW.arrives (h:KW none P Q ks a w) (b:Frame) (cs:List Frame) (d:b.roundOf=none):∃ e c w',Q e c w'/\Arrives P (lone (b.at a (fQ ks)) cs w) b [] cs e c w':=by
 obtain ⟨e,c,w',q,r⟩:=h b cs d
 rw [Frame.atR_of_none d] at r
 exact ⟨e,c,w',q,(arrivesIn_iff (I:=Machine.fenced P Fence.wide) (fun _ _=>stepsIn_wide) d).1 r⟩
theorem kY {id:Nat}:∀ (ks ks':List KI),C5 id ks=some ks'->exitTo id (fQ ks)=some (fQ ks')
 | [],ks',h=>by cases h
 | .inB i::r,ks',h=>by
  simp only [C5] at h
  simp only [fQ,Bk,KI.item,exitTo]
  cases b:Av i id with
  | true=>
   simp_all
  | false=>
   rw [b] at h
   have a:¬ (i==id)=true:=fun e=>by
    simp_all
   rw [if_neg a]
   exact kY r ks' h
 | .code c::r,ks',h=>kY r ks' h
 | .inL c::r,ks',h=>kY r ks' h
 | .beginR::r,ks',h=>kY r ks' h
end
def I6:Nat->List Oper->Bool
 | _,[]=>true
 | n,p::r=>(fW p).all (fun i=>Eg i n)&&I6 (n+1) r
def ML (tab:List Nat) (i:Nat) (d:Nat):Nat->List Oper->Bool
 | _,[]=>true
 | j,q::r=>(match q.dst with | some e=>!Av e d|| !loose tab i j | none=>true)&&ML tab i d (j+1) r
def aEv (tab:List Nat) (all:List Oper):Nat->List Oper->Bool
 | _,[]=>true
 | i,p::r=>(match p.dst with | some d=>ML tab i d 0 all | none=>true)&&aEv tab all (i+1) r
def KP (ops:Array Oper):Bool:=I6 0 ops.toList&&aEv (fL [] ops.toList) ops.toList 0 ops.toList
def aFo (sz:Nat) (l:List Oper):Bool:=l.all fun p=>match p.dst with | some d=>Eg d sz | none=>true
def cS (sz:Nat):Code->Bool
 | .region _ ops dr=>aFo sz ops.toList&&(!dr||KP ops)
 | .seq a b=>cS sz a&&cS sz b
 | .cond _ a b=>cS sz a&&cS sz b
 | .block _ b=>cS sz b
 | .loop b=>cS sz b
 | _=>true
def KI.ok (sz:Nat):KI->Bool
 | .code c=>cS sz c
 | .inL c=>cS sz c
 | .inB _=>true
 | .beginR=>true
def aV (sz:Nat):List KI->Bool
 | []=>true
 | k::r=>k.ok sz&&aV sz r
theorem qR {sz id:Nat}:∀ (ks ks':List KI),C5 id ks=some ks'->aV sz ks=true->aV sz ks'=true
 | [],ks',h,_=>by cases h
 | .inB i::r,ks',h,ho=>by
  simp only [C5] at h
  simp only [aV,Af] at ho
  cases a:Av i id with
  | true=>grind
  | false=>rw [a] at h;exact qR r ks' h ho.2
 | .code c::r,ks',h,ho=>qR r ks' h (by simp only [aV,Af] at ho;exact ho.2)
 | .inL c::r,ks',h,ho=>qR r ks' h (by simp only [aV,Af] at ho;exact ho.2)
 | .beginR::r,ks',h,ho=>qR r ks' h (by simp only [aV,Af] at ho;exact ho.2)
def Goal.res:Goal->Res
 | .pure r=>r
 | .full _ r _=>r
 | .keep _ r _=>r
def Goal.obs:Goal->List AObj
 | .pure _=>[]
 | .full _ _ o=>o
 | .keep _ _ o=>o
def Goal.strict:Goal->Bool
 | .keep _ _ _=>false
 | _=>true
def RR (M0:Imm) (ob0:Hs) (obs0:List AObj) (w0:World) (g:Goal) (e:Ending) (w':World):Prop:=∃ M' ob',Ext M0 ob0 obs0 w0 M' ob' g.obs w'/\Mem M' ob' g.obs w'/\rD M' ob' e g.res
def eJ (P:Program) (fn:Func) (tmps:Array Value) (R:Ending->World->Prop):List Deferred->FrameMode->World->Prop
 | [],u,w=>Leaves P fn tmps R [] u w
 | d::ds,u,w=>u≠ .run/\((∃ r w',d.target= .collected r/\(Instr.takeDeferred r).run P w= .ok [] w'/\eJ P fn tmps R ds u w')\/
   ∃ fv cap f args,d.target= .fn fv cap/\(invoke d.target d.args).run P w= .ok (.enter f args) w/\
   CallsD P f args u w fun
    | .returned _,u',w'=>eJ P fn tmps R ds (settle u') w'
    | .panicked dF,u',w'=>eJ P fn tmps R ds (raised u' dF) w'
    | .outgrown,_,w'=>R .outgrown w')
theorem cN {P:Program} {fn:Func} {tmps:Array Value} {R:Ending->World->Prop}:∀ (n:List Deferred) (u:FrameMode) (w:World) (fr:Frame)
  (cs:List Frame),fr.mode=u->fr.defers=n->fr.tmps=tmps->P.funcs[fr.fn]? =some fn->eJ P fn tmps R n u w->
  ∃ e w' a,R e w'/\Comes P (lone fr cs w) (lone a cs w') e/\a.fn=fr.fn/\a.kind=fr.kind/\a.going P w' e:=by
 intro n
 induction n with
 | nil=>
  intro u w fr cs x B z y h
  cases u with
  | run=>exact h.elim
  | returning=>
   obtain ⟨v,J,C⟩:=h
   exact ⟨.returned v,w,fr,C,Steps.refl P _,rfl,rfl,x,B,fn,y,z▸J⟩
  | panicking dF=>exact ⟨.panicked dF,w,fr,h,Steps.refl P _,rfl,rfl,x,B,fn,y⟩
 | cons d n G=>
  intro u w fr cs x B z y h
  obtain ⟨o,⟨r,w',i,t,q⟩ | ⟨fv,cap,f,args,i,F,s⟩⟩:=h
  .have h1:=step_collected (cs:=cs) (x▸o) B i t
   obtain ⟨A,j,a,m,hs',g,k,l⟩:=G u w' {fr with defers:=[]++n} cs x rfl z y q
   exact ⟨A,j,a,m,Comes.of_steps (.one h1) hs',g,k,l⟩
  have h1:=step_defer (cs:=cs) (x▸o) B i F
  obtain ⟨e,p,w',K,C,b,I,D⟩:=s {fr with defers:=n} cs x
  cases e with
  | returned v=>
   have H:=step_going_returned (c:={{fr with defers:=n} with mode:=p}) (cs:=cs) I D
   obtain ⟨A,j,a,m,hs',g,k,l⟩:=G (settle p) w' {{{fr with defers:=n} with mode:=p} with mode:=settle p} cs rfl rfl z y C
   exact ⟨A,j,a,m,Comes.of_steps (.head h1 (Steps.trans b (.one H))) hs',g,k,l⟩
  | panicked dF=>
   have H:=step_going_panicked (c:={{fr with defers:=n} with mode:=p}) (cs:=cs) D
   obtain ⟨A,j,a,m,hs',g,k,l⟩:=G (raised p dF) w' {{{fr with defers:=n} with mode:=p} with mode:=raised p dF} cs rfl rfl z y C
   exact ⟨A,j,a,m,Comes.of_steps (.head h1 (Steps.trans b (.one H))) hs',g,k,l⟩
  | outgrown=>exact ⟨.outgrown,w',fr,C,Outgrown.of_steps (.one h1) b,rfl,rfl,trivial⟩
theorem mE {P:Program} {fr:Frame} {w:World} {e:Ending} (h:fr.going P w e) (a:fr.kind= .normal):fr.leaving P w e:=by
 cases e with
 | returned v=>exact ⟨h.1,h.2.1,a,h.2.2⟩
 | panicked b=>exact h
 | outgrown=>exact h
structure Shut (w0 w w':World):Prop where
 os:w'.os=w.os
 tape:w'.tape=w.tape
 output:w'.output=w.output
 size:w'.heap.size=w.heap.size
 heap:∀ b,w'.heap[b]? =w.heap[b]?\/(w0.heap.size<=b/\w.heap[b]? =some (.deferred (some [])))
theorem mD {P:Program} {fn:Func} {tmps:Array Value} {R:Ending->World->Prop} {w0:World} {u:FrameMode} (g:u≠ .run):∀ (a:List Deferred) (w:World),Mks w0 w a->(∀ w',Shut w0 w w'->Leaves P fn tmps R [] u w')->eJ P fn tmps R a u w
 | [],w,_,h=>h w ⟨rfl,rfl,rfl,rfl,fun b=>.inl rfl⟩
 | d::a,w,⟨⟨b,h1,h2,h3,h4⟩,h5⟩,h=>by
  refine ⟨g,.inl ⟨b,_,h1,run_takeDeferred h3,?_⟩⟩
  refine mD g a _ (h5.same fun l j c i k=>?_) fun w' hs=>h w' ⟨hs.os,hs.tape,hs.output,hs.size.trans World.putObj_size,fun c=>?_⟩
  .have f:c≠b:=fun e=>by simp_all
   rw [Fx f];exact k
  .by_cases i:c=b
   .grind
   .have:=hs.heap c
    rwa [Fx i] at this
theorem Mem.shut {w0 w w':World} {M:Imm} {ob:Hs} {obs:List AObj} (hm:Mem M ob obs w) (h:Shut w0 w w'):Mem M ob obs w':=by
 have f:∀ {b:Nat} {o:Obj},w.heap[b]? =some o->CC o=false->w'.heap[b]? =some o:=fun {b o} h1 h2=>by
  rcases h.heap b with q | ⟨_,q⟩
  .grind
  .rw [h1] at q;cases q;cases h2
 refine ⟨fun b o x m=>?_,hm.len,fun k c g=>?_,fun k b n=>by rw [h.size];exact hm.lt k b n,hm.inj⟩
 .obtain ⟨v,a,j⟩:=hm.imm b o x m
  refine ⟨v,?_,j⟩
  unfold World.cell? at a⊢
  dsimp only at a⊢
  cases i:w.heap[b]? with
  | none=>simp_all
  | some ob=>
   rw [i] at a
   cases ob with
   | cells c _ _=>rw [f i rfl];exact a
   | _=>cases a
 .obtain ⟨hs',d,e⟩:=hm.obj k c g
  refine ⟨hs',d,e.mono (fun _ _ _ h=>h) (dR.refl _) (fun _ _ _ _ h=>h) (fun b u r p l=>?_)⟩
  obtain ⟨o,t,s⟩:=hm.alive_heap ((cK g d).2 ⟨r,p⟩)
  grind
theorem Ext.shut {w0 w w':World} {M0 M:Imm} {ob0 ob:Hs} {obs0 obs:List AObj} (a:Ext M0 ob0 obs0 w0 M ob obs w) (h:Shut w0 w w'):Ext M0 ob0 obs0 w0 M ob obs w':=
 ⟨a.imm,a.new,a.hs,h.os.trans a.os,h.tape.trans a.tape,h.output.trans a.output,by rw [h.size];exact a.size,fun b c d=>by
  rcases h.heap b with q | ⟨q,_⟩
  .rw [q];exact a.keep b c d
  .omega,a.fresh⟩
def vW (E:Env) (fn:Func) (M0:Imm) (ob0:Hs) (obs0:List AObj) (w0:World) (g:Goal) (b:Bool) (a:Act) (w:World):Prop:=match E.rd with
 | none=>eJ E.P fn a.tmps (RR M0 ob0 obs0 w0 g) a.defers .returning w
 | some _=>RR M0 ob0 obs0 w0 g (.returned (.bool b)) w
def jV (E:Env) (fn:Func) (M0:Imm) (ob0:Hs) (obs0:List AObj) (w0:World) (g:Goal):Exit->Act->World->Prop
 | .normal,a,w=>vW E fn M0 ob0 obs0 w0 g true a w
 | .ret,a,w=>vW E fn M0 ob0 obs0 w0 g false a w
 | .panic ch,a,w=>(match E.rd with | none=>eJ E.P fn a.tmps (RR M0 ob0 obs0 w0 g) a.defers (.panicking ch) w | some _=>False)
 | _,_,_=>False
def nR (g:Goal) (ob0:Hs):Prop:=ob0.length=g.n0/\(g.strict=true->∀ hs∈ob0,hs.length=1)
def dE (E:Env) (fn:Func) (g:Goal) (ks:List KI) (fr:List (Nat×AVal)) (obs:List AObj):Prop:=
 aV fn.ntmps ks=true->∀ M0 ob0 obs0 w0 a w,nR g ob0->SS M0 ob0 obs0 w0 fn.ntmps E.df fr obs a w->KW E.rd E.P (jV E fn M0 ob0 obs0 w0 g) ks a w
def aCc (E:Env) (fn:Func) (g:Goal) (fr:List (Nat×AVal)) (obs:List AObj):Prop:=
 ∀ M0 ob0 obs0 w0 a w,nR g ob0->SS M0 ob0 obs0 w0 fn.ntmps E.df fr obs a w->eJ E.P fn a.tmps (RR M0 ob0 obs0 w0 g) a.defers .returning w
def aCb (E:Env) (fn:Func) (g:Goal) (c:Nat->AVal) (v:AVal) (obs:List AObj):Prop:=
 ∀ M0 ob0 obs0 w0 b a w,nR g ob0->PP M0 ob0 obs0 w0 fn.ntmps E.df c v obs b a w->eJ E.P fn a.tmps (RR M0 ob0 obs0 w0 g) a.defers (.panicking b) w
def iA (E:Env) (fn:Func) (g:Goal) (a:Nat->AVal) (v:AVal) (obs:List AObj):Prop:=match E.rd with
 | some _=>False
 | none=>match E.df with
  | []=>MH g .pan v obs
  | _::_=>aCb E fn g a v obs
def aGt (E:Env) (fn:Func) (g:Goal) (R:RI) (n:Nat) (rest:List Oper) (br:List (Nat×Nat)) (fr:List (Nat×AVal)) (obs:List AObj):Prop:=
 match R.dr with
 | false=>dF E R.all (dE E fn g R.ks) (iA E fn g) n rest fr obs
 | true=>gM E R.all R.tab (dE E fn g R.ks) (iA E fn g) n rest br fr obs
def aAT (E:Env) (fn:Func) (g:Goal) (R:RI) (n:Nat) (d:Option Nat) (rest:List Oper) (br:List (Nat×Nat)) (fr:List (Nat×AVal)) (len:Nat) (obs:List AObj) (v:AVal):Prop:=
 wrP rest n d fr v fun fr=>aGt E fn g R (n+1) rest (bif R.dr then born n len (gA len obs) br else br) fr obs
def xP (E:Env) (fn:Func) (g:Goal):St->Prop
 | .code ks fr obs=>dE E fn g ks fr obs
 | .head ks fr obs=>dE E fn g ks fr obs
 | .mid R n rest br fr obs=>aGt E fn g R n rest br fr obs
 | .pend R n d rest br fr obs r=>(match R.dr with
  | false=>orF E.P obs (fun v obs'=>aAT E fn g R n d rest br fr (aM obs) obs' v) (iA E fn g (aR fr)) r
  | true=>orD E.P (soN E R.tab R.all n d) (uoN E R.tab R.all n d) (blD E d) (pB E R.tab n br obs d) obs (aM obs) (fun v obs'=>aAT E fn g R n d rest br fr (aM obs) obs' v) (iA E fn g (aR fr)) r)
 | .got R n d rest br fr len obs v=>aAT E fn g R n d rest br fr len obs v
 | .leave none fr obs=>aCc E fn g fr obs
 | .leave (some v) fr obs=>aCb E fn g (aR fr) v obs
section
variable {E:Env} {M:Imm} {ob:Hs} {obs:List AObj} {w:World}
theorem OH (hE:EnvOK E) (hm:Mem M ob obs w) {fr:List (Nat×AVal)} {x:AVal} {tmps:Array Value} {r:ResultVar} (h:aF2 E obs fr r=some x) (s:∀ t,Rep M ob (tmps.getD t undef) (aR fr t)):
  ∃ v,(match r with | .tmp t=>(Pure.pure (tmps.getD t undef):Sem Value) | .cell a t=>(asAddr (tmps.getD a undef)) >>= loadVar t).run E.P w= .ok v w/\Rep M ob v x:=by
 cases r with
 | tmp t=>cases h;exact ⟨_,rfl,s t⟩
 | cell a t=>
  simp only [aF2] at h
  show ∃ v,((asAddr (tmps.getD a undef)) >>= loadVar t).run E.P w= .ok v w/\Rep M ob v x
  have q:=s a
  split at h
  .rename_i y k off G A
   rw [A] at q
   split at h
   .rename_i cs m
    split at h
    .rename_i l hl
     obtain ⟨b,hav,p⟩:=q.ref_inv
     obtain ⟨hs,h1,n,rfl,_,cv,B,g,_,f⟩:=hm.obj k _ (bQ m s_)
     have j:n=b:=by rw [cA h1] at p;simpa using p
     subst j
     obtain ⟨C,D⟩:=iF hl
     obtain ⟨u,F,z⟩:=LQ (P:=E.P) (w:=w) (M:=M) (ob:=ob) (hE.tab t y G) (b:=n) (o:=off) h C fun i c H=>by
      have d:=D i c H
      rw [lC,Ci] at d
      have e:off+i<cv.length:=by rw [g];exact (Ac.1 d).1
      exact ⟨cv[off+i],by rw [cell_of_row w n _ _ _ (0,0) B];simp [e],f _ _ c (Ab e) d⟩
     refine ⟨u,?_,z⟩
     rw [hav]
     simp only [asAddr,Bc,Bv,Au]
     exact F
    .cases h
   .cases h
  .cases h
theorem BB (hE:EnvOK E) (hm:Mem M ob obs w) {fr:List (Nat×AVal)} {tmps:Array Value} (e:∀ t,Rep M ob (tmps.getD t undef) (aR fr t)):
  ∀ (b:List ResultVar) {xs:List AVal},Y7 E obs fr b=some xs->∃ vs,(b.mapM fun (r:ResultVar)=>(match r with | .tmp t=>(Pure.pure (tmps.getD t undef):Sem Value) | .cell a t=>(asAddr (tmps.getD a undef)) >>= loadVar t)).run E.P w= .ok vs w/\bT M ob vs xs
 | [],xs,h=>by
  cases h
  exact ⟨[],by simp,rfl,fun i v a h=>by simp at h⟩
 | r::b,xs,h=>by
  simp only [Y7] at h
  split at h
  .rename_i x l j hl
   cases h
   obtain ⟨v,g,f⟩:=OH hE hm j e
   obtain ⟨vs,c,d⟩:=BB hE hm e b hl
   refine ⟨v::vs,?_,bT.cons f d⟩
   rw [List.mapM_cons]
   simp only [Bc]
   rw [g]
   simp only [Au]
   rw [c]
   simp
  .cases h
theorem OI (hE:EnvOK E) (hm:Mem M ob obs w) {fn:Func} {fr:List (Nat×AVal)} {x:AVal} {tmps:Array Value} (h:Y8 E obs fn.results.toList fr=some x)
  (i:∀ t,Rep M ob (tmps.getD t undef) (aR fr t)):∃ v,(results fn tmps).run E.P w= .ok v w/\Rep M ob v x:=by
 have hl:∃ xs,Y7 E obs fr fn.results.toList=some xs/\((∃ y,xs=[y]/\x=y)\/(xs.length≠1/\x= .tup xs)):=by
  unfold Y8 at h
  split at h
  .simp_all
  .rename_i l c hl
   cases h
   refine ⟨_,hl,.inr ⟨fun h1=>?_,rfl⟩⟩
   match l,h1 with
   | [y],_=>grind
  .cases h
 obtain ⟨xs,f,e⟩:=hl
 obtain ⟨vs,d,b⟩:=BB hE hm i _ f
 have g:fn.results=fn.results.toList.toArray:=by simp
 have key:(results fn tmps).run E.P w= .ok (if h:vs.toArray.size=1 then vs.toArray[0] else .tuple vs.toArray) w:=by
  unfold results
  rw [g,List.mapM_toArray]
  simp only [Bc,map_eq_pure_bind]
  have:(fn.results.toList.mapM fun (r:ResultVar)=>(match r with | .tmp t=>(Pure.pure (tmps.getD t undef):Sem Value) | .cell a t=>(asAddr (tmps.getD a undef)) >>= loadVar t)).run E.P w= .ok vs w:=d
  refine (congrArg (fun z=>Kh (Kh z _) _) this).trans ?_
  simp
 rw [key]
 rcases e with ⟨y,rfl,rfl⟩ | ⟨h1,rfl⟩
 .match vs,b with
  | [v],b=>exact ⟨v,by simp,b.2 0 v _ rfl rfl⟩
  | [],b=>have:=b.1;simp at this
  | _::_::_,b=>have:=b.1;simp at this
 .have c:¬ vs.toArray.size=1:=by rw [Fj,b.1];exact h1
  exact ⟨.tuple vs.toArray,by rw [dif_neg c],.tup vs xs b.1 b.2⟩
theorem jU:∀ {n j:Nat} {ks:List Nat},lF n j ks=true->∀ i,i<n->ks[i]? =some (j+i)
 | 0,_,_,_,i,hi=>by omega
 | n+1,j,[],h,_,_=>by cases h
 | n+1,j,k::r,h,i,hi=>by
  simp only [lF,Af] at h
  have:=aB h.1
  subst this
  cases i with
  | zero=>rfl
  | succ i=>
   have:=jU h.2 i o_
   rw [show k+(i+1)=k+1+i from by omega]
   simp_all
theorem tI {M0:Imm} {ob0:Hs} {obs0:List AObj} {w0:World} {g:Goal} {i:AVal->Res} {v:AVal} {u:Value} (hst:nR g ob0) (d:Ext M0 ob0 obs0 w0 M ob obs w) (hm:Mem M ob obs w) (B:Rep M ob u v) (h:MH g i v obs):
  ∃ M' ob' y,Ext M0 ob0 obs0 w0 M' ob' g.obs w/\Mem M' ob' g.obs w/\Rep M' ob' u y/\i y=g.res:=by
 cases g with
 | pure r=>
  obtain ⟨x,q,l,_,L⟩:=hm.frzL [v]
  have P:ob0=[]:=Al hst.1
  subst P
  have a:=d.trans l
  have no:∀ k b,¬ aK ([]:Hs) [] k b:=fun k b ⟨c,hs,e,_⟩=>by simp at e
  exact ⟨x,[],_,⟨a.imm,a.new,dR.refl _,a.os,a.tape,a.output,a.size,a.keep,fun k b o=>(no k b o).elim⟩,q.bare,q.cvtV (n0:=0) (ks:=[]) rfl 5 u v (B.monoM l.imm),h⟩
 | full n0 r obs'=>
  obtain ⟨H,ks,⟨z,m⟩,h1,A⟩:=h
  obtain ⟨x,q,l,_,L⟩:=Mem.frzs H M obs hm
  obtain ⟨Q,N,_⟩:=q.cvt (n0:=n0) z
  have a:=d.trans l
  have G:ob0.length=n0:=hst.1
  refine ⟨x,_,_,⟨a.imm,a.new,fun j hs F=>?_,a.os,a.tape,a.output,a.size,a.keep,fun j b o=>?_⟩,?_,q.cvtV (n0:=n0) z 5 u v (B.monoM l.imm),h1⟩
  .have p:j<n0:=by rw [<-G];exact (Ac.1 F).1
   have f:=jU m j p
   rw [Cb] at f
   obtain ⟨hs',I,t,s⟩:=a.hs j hs F
   have O:=hst.2 rfl hs (Az F)
   refine ⟨gL n0 j (aC (AW.frzs H obs) j) hs',?_,?_⟩
   .rw [fS,f]
    simp [I]
   .unfold gL
    split
    .rw [<-s]
     have:(hs++t).take 1=hs:=by rw [Ej o_,Cn o_]
     rw [this]
     simp
    .exact ⟨t,s⟩
  .obtain ⟨k,_,C⟩:=N j b (by rw [A];exact o)
   exact a.fresh k b C
  .show Mem x _ obs' w
   grind
 | keep n0 r obs'=>
  obtain ⟨⟨D,n⟩,h1,A⟩:=h
  rw [BP] at n A
  obtain ⟨J,K⟩:=hm.cutO n
  have G:ob0.length=n0:=hst.1
  rw [A] at J K
  refine ⟨M,ob.take n0,v,⟨d.imm,d.new,fun k hs z=>?_,d.os,d.tape,d.output,d.size,d.keep,fun k b o=>d.fresh k b (K o)⟩,J,AB 5 B D,h1⟩
  obtain ⟨hs',I,s⟩:=d.hs k hs z
  have p:k<n0:=by grind
  exact ⟨hs',by grind,s⟩
end
section
variable {E:Env} {fn:Func} {g:Goal}
theorem go_ret (hE:EnvOK E) (d:E.df=[]) (j:E.rd=none) {fr:List (Nat×AVal)} {obs:List AObj} {v:AVal} (i:Y8 E obs fn.results.toList fr=some v) (h:MH g .ret v obs) {M0:Imm} {ob0:Hs} {obs0:List AObj} {w0:World} {a:Act} {w:World}
  (hst:nR g ob0) (hs:SS M0 ob0 obs0 w0 fn.ntmps E.df fr obs a w):eJ E.P fn a.tmps (RR M0 ob0 obs0 w0 g) a.defers .returning w:=by
 obtain ⟨M,ob,c,hm,p,o,e,r⟩:=hs
 rw [d] at e
 refine mD (w0:=w0) s_ _ _ e.marks fun w' b=>?_
 have c:=c.shut b
 have hm:=hm.shut b
 obtain ⟨u,k,f⟩:=OI hE hm i p
 obtain ⟨M',ob',y,m,l,n,q⟩:=tI hst c hm f h
 refine ⟨u,k,M',ob',m,l,?_⟩
 rw [<-q]
 exact n
theorem SX (hE:EnvOK E) {b:Bool} {fr:List (Nat×AVal)} {obs:List AObj} (h:aC2 E fn g (xP E fn g) b fr obs) {M0:Imm} {ob0:Hs} {obs0:List AObj} {w0:World} {a:Act} {w:World}
  (hst:nR g ob0) (hs:SS M0 ob0 obs0 w0 fn.ntmps E.df fr obs a w):vW E fn M0 ob0 obs0 w0 g b a w:=by
 unfold aC2 at h
 unfold vW
 cases c:E.rd with
 | some l=>
  rw [c] at h
  dsimp only at h⊢
  rw [IX] at h
  obtain ⟨M,ob,i,hm,q,n,p,s⟩:=hs
  obtain ⟨M',ob',y,k,j,m,o⟩:=tI hst i hm (.bool b) h
  exact ⟨M',ob',k,j,by rw [<-o];exact m⟩
 | none=>
 rw [c] at h
 dsimp only at h⊢
 cases e:E.df with
 | nil=>
  rw [e] at h
  dsimp only at h
  split at h
  .rename_i v f
   rw [jI,IX] at h
   exact go_ret hE e c f h hst hs
  grind
 | cons d r=>
  rw [e] at h
  exact h M0 ob0 obs0 w0 a w hst hs
theorem aGK (c:E.df=[]) {v:AVal} {obs:List AObj} (h:MH g .pan v obs) {M0:Imm} {ob0:Hs} {obs0:List AObj} {w0:World} {sz:Nat} {j:Nat->AVal} {d:List PanicEntry} {a:Act} {w:World}
  (hst:nR g ob0) (hs:PP M0 ob0 obs0 w0 sz E.df j v obs d a w):eJ E.P fn a.tmps (RR M0 ob0 obs0 w0 g) a.defers (.panicking d) w:=by
 obtain ⟨M,ob,k,hm,⟨u,e,i⟩,_,_,f,_⟩:=hs
 rw [c] at f
 refine mD (w0:=w0) s_ _ _ f.marks fun w' b=>?_
 obtain ⟨M',ob',y,m,l,n,o⟩:=tI hst (k.shut b) (hm.shut b) i h
 refine ⟨M',ob',m,l,?_⟩
 rw [<-o]
 exact ⟨u,e,n⟩
theorem vE {f:Nat->AVal} {v:AVal} {obs:List AObj} (h:iA E fn g f v obs) {M0:Imm} {ob0:Hs} {obs0:List AObj} {w0:World} {c:List PanicEntry} {a:Act} {w:World}
  (hst:nR g ob0) (hs:PP M0 ob0 obs0 w0 fn.ntmps E.df f v obs c a w):jV E fn M0 ob0 obs0 w0 g (.panic c) a w:=by
 unfold iA at h
 unfold jV
 cases e:E.rd with
 | some l=>grind
 | none=>
 rw [e] at h
 dsimp only at h⊢
 cases b:E.df with
 | nil=>
  rw [b] at h
  exact aGK b h hst hs
 | cons d i=>
  rw [b] at h
  exact h M0 ob0 obs0 w0 c a w hst hs
theorem kA {sz:Nat} {l:List Oper} (h:aFo sz l=true):∀ p∈l,∀ d,p.dst=some d->d<sz:=fun p hp d a=>by
 have:=Bq.1 h p hp
 simp_all
def QR (E:Env) (fn:Func) (g:Goal) (M0:Imm) (ob0:Hs) (obs0:List AObj) (w0:World) (ks:List KI):Exit->Act->World->Prop
 | .normal,a,w=>KW E.rd E.P (jV E fn M0 ob0 obs0 w0 g) ks a w
 | .panic ch,a,w=>jV E fn M0 ob0 obs0 w0 g (.panic ch) a w
 | _,_,_=>False
theorem VV (hE:EnvOK E) (j:∀ ops:Array Oper,KP ops=true->TabSp ops (fL [] ops.toList)) {id:Nat} {ops:Array Oper} {dr:Bool} {ks:List KI} {fr:List (Nat×AVal)} {obs:List AObj}
  (h:aGt E fn g ⟨ops.toList,dr,fL [] ops.toList,ks⟩ 0 ops.toList [] fr obs):dE E fn g (.code (.region id ops dr)::ks) fr obs:=by
 intro q M0 ob0 obs0 w0 a w hst hs
 simp only [aV,KI.ok,cS,Af] at q
 obtain ⟨⟨l,o⟩,m⟩:=q
 have r:=kA l
 refine KW.code (Q':=QR E fn g M0 ob0 obs0 w0 ks) ?_ (fun a w h=>h) (fun b a w h=>h) (fun e a w t=>by
  cases e<;>first | exact .inl rfl | exact .inr ⟨_,rfl⟩ | exact t.elim)
 have hp:∀ c v obs b a w,iA E fn g c v obs->PP M0 ob0 obs0 w0 fn.ntmps E.df c v obs b a w->jV E fn M0 ob0 obs0 w0 g (.panic b) a w:=fun c v obs b a w x n=>vE x hst n
 have s:∀ fr obs a w,dE E fn g ks fr obs->SS M0 ob0 obs0 w0 fn.ntmps E.df fr obs a w->KW E.rd E.P (jV E fn M0 ob0 obs0 w0 g) ks a w:=fun fr obs a w u hs=>u m M0 ob0 obs0 w0 a w hst hs
 cases dr with
 | false=>
  refine wpIn_region_list ?_
  exact qW (rd:=E.rd) (Q:=QR E fn g M0 ob0 obs0 w0 ks) (K:=dE E fn g ks) (Kp:=iA E fn g) hE (fun c v obs b a w h1 f=>hp c v obs b a w h1 f) (fun fr obs a w h1 f=>s fr obs a w h1 f) ops.toList 0 fr obs a w r h hs
 | true=>
  exact OL (rd:=E.rd) (Q:=QR E fn g M0 ob0 obs0 w0 ks) (Kq:=dE E fn g ks) (Kp:=iA E fn g) hE (j ops (by simpa using o)) (fun i p y d k=>r p (Az (i:=i) q_) d k) (fun c v obs b a w h1 f=>hp c v obs b a w h1 f) (fun fr obs a w h1 f=>s fr obs a w h1 f) hs h
theorem dE.step {ks ks':List KI} {fr:List (Nat×AVal)} {obs:List AObj} (hs:∀ a w (b:Frame) cs,Go.step E.P (lone (b.atR a (fQ ks)) cs w)= .next (lone (b.atR a (fQ ks')) cs w)) (e:aV fn.ntmps ks=true->aV fn.ntmps ks'=true) (h:dE E fn g ks' fr obs):dE E fn g ks fr obs:=
 fun d M0 ob0 obs0 w0 a w hst c=>KW.step (hs a w) (h (e d) M0 ob0 obs0 w0 a w hst c)
theorem go (hE:EnvOK E) (C:∀ ops:Array Oper,KP ops=true->TabSp ops (fL [] ops.toList)):∀ (u:Nat) (st:St),bJ E fn g (xP E fn g) u st->xP E fn g st:=by
 intro u
 induction u with
 | zero=>intro st h;exact h
 | succ n j=>
  intro st h
  cases st with
  | head ks fr obs=>exact j (.code ks fr obs) h
  | leave p fr obs=>exact h
  | code ks fr obs=>
   cases ks with
   | nil=>
    simp only [bJ] at h
    exact fun _ M0 ob0 obs0 w0 a w hst hs=>KW.nil (SX (b:=true) hE h hst hs)
   | cons k ks=>
    cases k with
    | inB id=>exact dE.step (fun a w b cs=>stepR_inBlock) (fun e=>by simp only [aV,Af] at e;exact e.2) (j (.code ks fr obs) h)
    | inL b=>
     exact dE.step (ks':=.code b:: .inL b::ks) (fun a w b cs=>stepR_inLoop) (fun e=>by simp only [aV,KI.ok,Af] at e⊢;grind) h
    | beginR=>exact h
    | code q=>
     cases q with
     | rangeFunc x T as Q=>exact h
     | skip=>exact dE.step (fun a w b cs=>stepR_skip) (fun e=>by simp only [aV,Af] at e;exact e.2) (j (.code ks fr obs) h)
     | seq x y=>exact dE.step (fun a w b cs=>stepR_seq) (fun e=>by simp only [aV,KI.ok,cS,Af] at e⊢;grind) (j (.code (.code x:: .code y::ks) fr obs) h)
     | block id b=>exact dE.step (fun a w b cs=>stepR_block) (fun e=>by simp only [aV,KI.ok,cS,Af] at e⊢;grind) (j (.code (.code b:: .inB id::ks) fr obs) h)
     | loop b=>exact dE.step (ks':=.code b:: .inL b::ks) (fun a w b cs=>stepR_loop) (fun e=>by simp only [aV,KI.ok,cS,Af] at e⊢;grind) h
     | exit id=>
            simp only [bJ] at h
            split at h
            .rename_i ks' G
             exact dE.step (fun a w b cs=>stepR_exit (kY _ _ G)) (fun e=>qR _ _ G (by simp only [aV,Af] at e;exact e.2)) (j (.code ks' fr obs) h)
            grind
     | ret=>
            simp only [bJ] at h
            exact fun _ M0 ob0 obs0 w0 a w hst hs=>KW.ret (SX (b:=false) hE h hst hs)
     | cond x c d=>
            simp only [bJ] at h
            split at h
            .rename_i p hp
             intro e M0 ob0 obs0 w0 a w hst hs
             simp only [aV,KI.ok,cS,Af] at e
             obtain ⟨M,ob,G,hm,O,N,U,X⟩:=id hs
             have B:=xD (a:=a) O x
             rw [hp] at B
             cases p with
             | true=>
              refine KW.step (ks':=.code c::ks) (fun b cs=>?_) (h.1 rfl (by simp only [aV,KI.ok,Af];exact ⟨e.1.1,e.2⟩) M0 ob0 obs0 w0 a w hst hs)
              exact stepR_cond (P:=E.P) (b:=b) (k:=fQ ks) (cs:=cs) (w:=w) (x:=c) (y:=d) B.bool_inv
             | false=>
              refine KW.step (ks':=.code d::ks) (fun b cs=>?_) (h.2 rfl (by simp only [aV,KI.ok,Af];exact ⟨e.1.2,e.2⟩) M0 ob0 obs0 w0 a w hst hs)
              exact stepR_cond (P:=E.P) (b:=b) (k:=fQ ks) (cs:=cs) (w:=w) (x:=c) (y:=d) B.bool_inv
            grind
     | region id ops dr=>
            simp only [bJ] at h
            cases A:aHX ops.toList with
            | true=>grind
            | false=>
             rw [A] at h
             dsimp only at h
             refine VV hE C ?_
             cases dr with
             | false=>
              have:=j (.mid ⟨ops.toList,false,[],ks⟩ 0 ops.toList [] fr obs) h
              exact this
             | true=>
              simp only [aBY] at h
              exact j (.mid ⟨ops.toList,true,fL [] ops.toList,ks⟩ 0 ops.toList [] fr obs) h
     | _=>exact h.elim
  | mid R i rest br fr obs=>
   cases rest with
   | nil=>
    have J:=j (.code R.ks fr obs) h
    obtain ⟨all,dr,tab,ks⟩:=R
    cases dr with
    | false=>exact J
    | true=>exact J
   | cons p rest=>
    obtain ⟨all,dr,tab,ks⟩:=R
    cases dr with
    | false=>
     simp only [bJ] at h
     show dF E all (dE E fn g ks) (iA E fn g) i (p::rest) fr obs
     simp only [dF]
     cases I:bZ all (ev fr) p.guard with
     | none=>grind
     | some b=>
            rw [I] at h
            cases b with
            | false=>
             cases o:p.dst with
             | none=>rw [o] at h;exact j _ h
             | some d=>
              rw [o] at h
              dsimp only at h
              rw [jO] at h
              exact j (.mid ⟨all,false,tab,ks⟩ (i+1) rest br (gU fr d (.tup [])) obs) h
            | true=>exact j (.pend ⟨all,false,tab,ks⟩ i p.dst rest br fr obs _) h
    | true=>
     simp only [bJ] at h
     show gM E all tab (dE E fn g ks) (iA E fn g) i (p::rest) br fr obs
     simp only [gM]
     cases I:bZ all (evH tab all i fr) p.guard with
     | none=>grind
     | some b=>
            rw [I] at h
            cases b with
            | false=>
             cases o:p.dst with
             | none=>rw [o] at h;exact j _ h
             | some d=>
              rw [o] at h
              dsimp only at h
              rw [jO] at h
              exact j (.mid ⟨all,true,tab,ks⟩ (i+1) rest br (gU fr d (.tup [])) obs) h
            | true=>
             dsimp only at h
             rw [oZ] at h
             exact j (.pend ⟨all,true,tab,ks⟩ i p.dst rest br fr obs _) h
  | got R i d rest br fr len obs v=>
   simp only [bJ,jI,oZ] at h
   show aAT E fn g R i d rest br fr len obs v
   unfold aAT wrP
   cases d with
   | none=>exact j _ h
   | some d=>
    dsimp only at h⊢
    cases K:uY i rest with
    | false=>
     rw [K] at h
     simp only [cond_false,jO] at h
     exact j _ h
    | true=>
     rw [K] at h
     simp only [cond_true] at h⊢
     split at h
     .rw [jO,jO] at h
      exact h
     omega
  | pend R i d rest br fr obs r=>
   obtain ⟨all,dr,tab,ks⟩:=R
   have H:∀ {q:Prop} {b:Bool},(match (!dr||b) with | true=>q | false=>False)->q/\(dr=true->b=true):=fun {q b} hq=>by
    grind
   cases r with
   | no=>exact h.elim
   | val v=>
    simp only [bJ,jI] at h
    have:=j _ h
    cases dr<;>exact this
   | mkf f V cs=>
    simp only [bJ,JO (jI 3)] at h
    have:=j _ h
    cases dr<;>exact this
   | need p r=>
    simp only [bJ] at h
    cases dr<;>exact h
   | alt p v S=>
    simp only [bJ] at h
    cases dr<;>exact h
   | idx m f=>
    simp only [bJ] at h
    cases dr<;>exact h
   | elem xs m f=>
    simp only [bJ] at h
    cases dr<;>exact h
   | byte l m=>
    simp only [bJ] at h
    cases dr<;>exact h
   | text xs=>
    simp only [bJ] at h
    cases dr<;>exact h
   | find es key f=>
    simp only [bJ] at h
    cases dr<;>exact h
   | born x v=>
    simp only [bJ,aB9,oZ,jI] at h
    cases dr with
    | false=>
     have:=j (.got _ _ _ _ _ _ _ _ _) h
     exact this
    | true=>
     cases s:blD E d with
     | true=>rw [s] at h;exact h.elim
     | false=>
            rw [s] at h
            have:=j (.got _ _ _ _ _ _ _ _ _) h
            simp only [xP]
            rw [s]
            exact this
   | upd k x v=>
    simp only [bJ,aB9,oZ,jI] at h
    obtain ⟨h,t⟩:=H h
    have:=j _ h
    cases dr with
    | false=>exact this
    | true=>
     simp only [xP,orD]
     rw [t rfl]
     exact this
   | nilq xs L=>
    simp only [bJ] at h
    obtain ⟨h,t⟩:=H h
    cases dr with
    | false=>exact h
    | true=>
     simp only [xP]
     rw [t rfl]
     exact h
   | call f args=>
    have D:aGg E g (xP E fn g) fr=iA E fn g (aR fr):=by
     rfl
    simp only [bJ,JO (jI 5),D] at h
    cases dr with
    | false=>exact h
    | true=>
     dsimp only at h
     cases s:blD E d with
     | true=>rw [s] at h;exact h.elim
     | false=>
            rw [s] at h
            dsimp only at h
            rw [oZ] at h
            simp only [xP]
            rw [s]
            exact h
   | pan v=>
    simp only [bJ,jI] at h
    obtain ⟨z,t⟩:=H h
    have h3:iA E fn g (aR fr) v obs:=by
     unfold iA
     cases F:E.rd with
     | some l=>rw [F] at z;omega
     | none=>
     rw [F] at z
     dsimp only at z⊢
     cases A:E.df with
     | nil=>rw [A] at z;dsimp only at z⊢;rw [IX] at z;exact z
     | cons d W=>rw [A] at z;exact z
    cases dr with
    | false=>exact h3
    | true=>
     simp only [xP]
     rw [t rfl]
     exact h3
end
def pA (P:Program) (f:FuncId):Prop:=∀ (args:Array Value) (w:World),(callFunc f args).run P w= .ok (.enter f args) w
theorem vF:∀ (l:List AVal) (n t:Nat),aR (frA n l) t=if n<=t then (l[t-n]?).getD .undef else .undef
 | [],n,t=>by simp [frA,aR]
 | a::l,n,t=>by
  simp only [frA,aR]
  cases h:Av n t with
  | true=>simp_all
  | false=>
   have c:n≠t:=fun e=>by simp_all
   simp only [cond_false]
   rw [vF l (n+1) t]
   by_cases b:n+1<=t
   .rw [if_pos b,if_pos o_]
    have:t-n=(t-(n+1))+1:=o_
    simp_all
   grind
theorem MZ {P:Program} {f:FuncId} {fn:Func} {c:Code} {args:Array Value} {w:World} {R:Ending->World->Prop} (t:P.funcs[f]? =some fn) (u:fn.body=some c)
  {Q:Exit->Act->World->Prop} (v:∀ e a w,Q e a w->(match e with | .normal | .ret=>eJ P fn a.tmps R a.defers .returning w | .panic ch=>eJ P fn a.tmps R a.defers (.panicking ch) w | _=>False)) (h:KW none P Q [.code c] {tmps:=args++Ey (fn.ntmps-args.size) undef,defers:=[]} w):Calls P f args w R:=by
 intro cs
 let b:Frame:={(default:Frame) with fn:=f,kind:=.normal}
 have m:Frame.enter P f args .normal=b.at {tmps:=args++Ey (fn.ntmps-args.size) undef,defers:=[]} [.code c]:=by
  simp [Frame.enter,Frame.at,t,u,b]
 obtain ⟨e,o,w',s,d⟩:=h.arrives b cs rfl
 have s:=v _ _ _ s
 rw [show fQ [.code c]=[.code c] from rfl,<-m] at d
 cases e with
 | normal=>
  obtain ⟨p,j,i,r,hs,k,q,hl⟩:=cN o.defers .returning w' {b.at o [] with mode:=.returning} cs rfl rfl rfl t s
  exact ⟨p,j,i,r,Comes.of_steps (Steps.trans d (.one step_end)) hs,k,mE hl q⟩
 | ret=>
  obtain ⟨g,n⟩:=d
  obtain ⟨p,j,i,r,hs,k,q,hl⟩:=cN o.defers .returning w' {b.at o g with mode:=.returning} cs rfl rfl rfl t s
  exact ⟨p,j,i,r,Comes.of_steps n hs,k,mE hl q⟩
 | panic dF=>
  obtain ⟨g,n⟩:=d
  obtain ⟨p,j,i,r,hs,k,q,hl⟩:=cN o.defers (.panicking dF) w' {b.at o g with mode:=.panicking dF} cs rfl rfl rfl t s
  exact ⟨p,j,i,r,Comes.of_steps n hs,k,mE hl q⟩
 | exit id=>simp_all
 | goto l=>simp_all
 | outgrown=>simp_all
def okA:AVal->Prop
 | .int k n=>inR k n
 | .str l=>(l.length:Int)<=9223372036854775807
 | .slice _ xs _=>(xs.length:Int)<=9223372036854775807
 | _=>True
theorem Rep.okA {M:Imm} {ob:Hs} {v:Value} {a:AVal} (h:Rep M ob v a):okA a:=by
 cases a with
 | int k n=>exact h.int_inv.2
 | str l=>exact h.str_inv.2
 | slice sz xs t=>obtain ⟨_,_,_,_,_,h⟩:=h.slice_inv;exact h
 | _=>exact trivial
def okL:List AVal->Prop
 | []=>True
 | a::r=>okA a/\okL r
theorem bT.okL {M:Imm} {ob:Hs}:∀ {vs:List Value} {as:List AVal},bT M ob vs as->okL as
 | _,[],_=>trivial
 | [],a::r,h=>by have:=h.1;simp at this
 | v::vs,a::r,h=>⟨(h.2 0 v a rfl rfl).okA,bT.okL (vs:=vs) ⟨by simpa using h.1,fun i u b d c=>h.2 (i+1) u b (by simp_all) (by simp_all)⟩⟩
def pT:List AObj->Bool
 | []=>true
 | o::r=>o.owns&&Av (eB o) 0&&pT r
theorem nZ:∀ {l:List AObj},pT l=true->∀ (k:Nat) o,l[k]? =some o->o.owns=true/\eB o=0
 | [],_,k,o,h=>by simp at h
 | x::r,hb,k,o,h=>by
  simp only [pT,Af] at hb
  cases k with
  | zero=>simp_all
  | succ k=>exact nZ hb.2 k o (by simp_all)
theorem aA.of {E:Env} {f:FuncId} {fn:Func} {args:List AVal} {obs:List AObj} {g:Goal} (o:E.df=[]) (y:E.P.funcs[f]? =some fn) (v:fn.body=some (cC fn)) (l:pA E.P f)
  (n:cS fn.ntmps (cC fn)=true) (s:Ff args.length fn.ntmps=true) (m:pT obs=true) (u:obs.length=g.n0) (h:okL args->xP E fn g (.code [.code (cC fn)] (frA 0 args) obs)) (c:E.rd=none:=by rfl):aA E.P f args obs g.res g.obs:=by
 intro M ob w b hm j
 refine .inl ⟨l _ _,MZ (Q:=jV E fn M ob obs w g) y v (fun e a w h=>?_) ?_⟩
 .cases e<;>(try unfold jV vW at h)<;>(try rw [c] at h)<;>exact h
 have r:b.length=args.length:=j.1
 have z:=Cl s
 have hst:nR g ob:=by
  refine ⟨by rw [hm.len,u],fun _ hs d=>?_⟩
  obtain ⟨k,x⟩:=Ch d
  have i:k<obs.length:=by rw [<-hm.len];grind
  obtain ⟨h1,A⟩:=nZ m k _ (Ab i)
  have e:=eV (Ab i)
  have:=hm.histLen (by grind) x
  grind
 rw [<-c]
 refine h j.okL (by simp [aV,KI.ok,n]) M ob obs w {tmps:=b.toArray++Ey (fn.ntmps-b.toArray.size) undef,defers:=[]} w hst ⟨M,ob,Ext.refl _ _ _ _,hm,fun t=>?_,?_,by rw [o];exact cL.nil,by rw [hm.len];omega⟩
 .rw [vF]
  simp only [Cc,if_true,Kb]
  by_cases q:t<args.length
  .rw [Ab q]
   have p:t<b.length:=o_
   have:(b.toArray++Ey (fn.ntmps-b.toArray.size) undef).getD t undef=b[t]:=by
    rw [Aw,Hq o_]
    simp [p]
   rw [this]
   exact j.2 t _ _ (Ab p) (Ab q)
  .rw [Bj o_]
   exact .undef _
 simp_all
theorem pR (m i:Nat):cF m i=m.testBit i:=by
 unfold cF Nat.testBit
 have h1:Nat.land (Nat.shiftRight m i) 1=(m >>> i) % 2:=Nat.and_one_is_mod _
 have a:(1 &&& (m >>> i))=(m >>> i) % 2:=by simp
 rw [h1,a]
 rcases Nat.mod_two_eq_zero_or_one (m >>> i) with h | h<;>rw [h]<;>rfl
theorem GS {tab:List Nat} {i:Nat}:∀ {l:List Nat},cF (hD tab l) i=true↔ ∃ e∈l,e=i\/cF (dC tab e) i=true
 | []=>by rw [pR];simp [hD]
 | x::r=>by
  have b:=GS (tab:=tab) (i:=i) (l:=r)
  rw [pR] at b⊢
  have e:hD tab (x::r)=(1 <<< x ||| dC tab x) ||| hD tab r:=rfl
  rw [e,Nat.testBit_or,Nat.testBit_or,Nat.one_shiftLeft,Nat.testBit_two_pow,Fy,Fy,b,decide_eq_true_eq]
  constructor
  .rintro ((h | h) | ⟨e,h1,a⟩)
   .simp_all
   .exact ⟨x,by simp,.inr (by rw [pR];exact h)⟩
   .exact ⟨e,by simp [h1],a⟩
  .rintro ⟨e,h1,a⟩
   rcases Aj.1 h1 with rfl | h1
   .rcases a with a | a
    .omega
    .rw [pR] at a;grind
   .exact .inr ⟨e,h1,a⟩
theorem CO {a b:List Nat} {j:Nat} (h:j<a.length):dC (a++b) j=dC a j:=by
 induction a generalizing j with
 | nil=>simp at h
 | cons x r c=>
  cases j with
  | zero=>rfl
  | succ j=>exact c (by grind)
theorem aAV {a:List Nat} {m:Nat}:dC (a++[m]) a.length=m:=by
 induction a with
 | nil=>rfl
 | cons x r b=>exact b
theorem aAU {a:List Nat} {j:Nat} (h:a.length<=j):dC a j=0:=by
 induction a generalizing j with
 | nil=>rfl
 | cons x r b=>
  cases j with
  | zero=>simp at h
  | succ j=>exact b (by grind)
theorem xN:∀ (l:List Oper) (tab:List Nat),∃ t,fL tab l=tab++t/\t.length=l.length
 | [],tab=>⟨[],by simp [fL],rfl⟩
 | p::r,tab=>by
  obtain ⟨t,h1,a⟩:=xN r (tab++[hD tab (fW p)])
  exact ⟨hD tab (fW p)::t,by simp [fL,h1],by simp [a]⟩
theorem yN {a b:List Nat}:∀ {l:List Nat},(∀ e∈l,dC a e=dC b e)->hD a l=hD b l
 | [],_=>rfl
 | x::r,h=>by
  have:=yN (l:=r) fun e c=>h e (by simp [c])
  show Lu (Lu _ (dC a x)) (hD a r)=Lu (Lu _ (dC b x)) (hD b r)
  grind
theorem M8:∀ (l:List Oper) (tab:List Nat),I6 tab.length l=true->∀ (i:Nat) p,l[i]? =some p->dC (fL tab l) (tab.length+i)=hD (fL tab l) (fW p)/\∀ e∈fW p,e<tab.length+i
 | [],_,_,i,p,h=>by simp at h
 | q::r,tab,hb,i,p,h=>by
  simp only [I6,Af] at hb
  have a:∀ e∈fW q,e<tab.length:=fun e b=>by
   simp_all
  cases i with
  | zero=>
   simp at h
   subst h
   refine ⟨?_,fun e b=>by grind⟩
   obtain ⟨t,h1,_⟩:=xN r (tab++[hD tab (fW q)])
   have c:fL tab (q::r)=(tab++[hD tab (fW q)])++t:=h1
   rw [Dy,c,CO s_,aAV]
   refine yN fun e b=>?_
   have:=a e b
   rw [CO q_,CO this]
  | succ i=>
   have:=M8 r (tab++[hD tab (fW q)]) (by simp_all) i p (by simp_all)
   simp only [Bo,Lj] at this
   rw [show tab.length+(i+1)=tab.length+1+i from by omega]
   exact this
theorem LC {p:Oper} {i:Nat}:i∈fW p↔ ∃ e∈p.after,Iw .any e=true/\e.on=i:=by
 unfold fW
 grind
theorem DG {tab:List Nat} {i d:Nat}:∀ {l:List Oper} {n:Nat},ML tab i d n l=true->∀ (j:Nat) q,l[j]? =some q->loose tab i (n+j)=true->q.dst≠some d
 | [],_,_,j,q,h,_=>by simp at h
 | x::r,n,hb,j,q,h,hl=>by
  simp only [ML,Af] at hb
  cases j with
  | zero=>
   simp at h
   subst h
   intro e
   simp_all
  | succ j=>exact DG hb.2 j q (by simp_all) (by grind)
theorem GK {tab:List Nat} {all:List Oper}:∀ {l:List Oper} {n:Nat},aEv tab all n l=true->∀ (i:Nat) p d,l[i]? =some p->p.dst=some d->ML tab (n+i) d 0 all=true
 | [],_,_,i,p,d,h,_=>by simp at h
 | x::r,n,hb,i,p,d,h,hd=>by
  simp only [aEv,Af] at hb
  cases i with
  | zero=>
   grind
  | succ i=>
   have:=GK hb.2 i p d (by simp_all) hd
   grind
theorem sZ (ops:Array Oper) (h:KP ops=true):TabSp ops (fL [] ops.toList):=by
 simp only [KP,Af] at h
 obtain ⟨h1,z⟩:=h
 have get:∀ (j:Nat) p,ops[j]? =some p->dC (fL [] ops.toList) j=hD (fL [] ops.toList) (fW p)/\∀ e∈fW p,e<j:=fun j p hp=>by
  have:=M8 ops.toList [] h1 j p (by grind)
  simp_all
 have r:(fL [] ops.toList).length=ops.size:=by
  obtain ⟨t,s,C⟩:=xN ops.toList []
  rw [s]
  simp;omega
 have c:∀ j i,cF (dC (fL [] ops.toList) j) i=true->j<ops.size:=fun j i g=>by
  refine Nat.lt_of_not_le fun A=>?_
  rw [aAU o_,pR] at g
  simp at g
 have a:∀ (j:Nat) p,ops[j]? =some p->∀ e∈p.after,Iw .any e=true->e.on<j:=fun j p hp e f k=>(get j p hp).2 _ (LC.2 ⟨e,f,k,rfl⟩)
 have b:∀ (j:Nat) p,ops[j]? =some p->∀ i,cF (dC (fL [] ops.toList) j) i=true->∃ e∈p.after,Iw .any e=true/\(e.on=i\/cF (dC (fL [] ops.toList) e.on) i=true):=fun j p hp i o=>by
  rw [(get j p hp).1] at o
  obtain ⟨e,f,l⟩:=GS.1 o
  obtain ⟨v,B,x,u⟩:=LC.1 f
  subst u
  exact ⟨v,B,x,l⟩
 have d:∀ i j,cF (dC (fL [] ops.toList) i) j=true->j<i:=by
  intro i
  induction i using Nat.strongRecOn with
  | ind i y=>
   intro j g
   have m:=c i j g
   have hp:ops[i]? =some ops[i]:=Fk m
   obtain ⟨e,f,k,h | h⟩:=b i _ hp j g
   .have:=a i _ hp e f k;omega
   .have h1:=a i _ hp e f k
    have:=y e.on h1 j h
    omega
 exact ⟨a,d,b,c,fun i j p q hp D hl t w=>by
  have:=GK (n:=0) z i p t q_ w
  rw [Cb] at this
  exact DG this j q q_ q_⟩
inductive To (E:Env) (fn:Func) (g:Goal) (st:St):Prop
 | mk (h:xP E fn g st)
theorem aIB (E:Env) (fn:Func) (g:Goal):To E fn g=xP E fn g:=funext fun st=>propext ⟨fun ⟨h⟩=>h,.mk⟩
theorem cX {E:Env} {fn:Func} {g:Goal} (hE:EnvOK E) (a:Nat) {st:St} (h:bJ E fn g (To E fn g) a st):To E fn g st:=by
 rw [aIB] at h⊢
 exact go hE sZ a st h
theorem aA.to {E:Env} {f:FuncId} {fn:Func} {args:List AVal} {obs:List AObj} {g:Goal} (e:E.df=[]) (k:E.P.funcs[f]? =some fn) (l:fn.body=some (cC fn)) (b:pA E.P f)
  (a:cS fn.ntmps (cC fn)=true) (m:Ff args.length fn.ntmps=true) (c:pT obs=true) (i:obs.length=g.n0) (h:okL args->To E fn g (.code [.code (cC fn)] (frA 0 args) obs)) (d:E.rd=none:=by rfl):aA E.P f args obs g.res g.obs:=
 aA.of e k l b a m c i (fun j=>(h j).rec fun h=>h) d
def zvL (f:Value->AVal):List Value->List AVal
 | []=>[]
 | v::r=>f v::zvL f r
def zv:Nat->Value->AVal
 | n+1,.agg vs=>.agg (zvL (zv n) vs.toList)
 | _,v=>aEB v
theorem QW {M:Imm} {ob:Hs} {f:Value->AVal} (d:∀ v,Rep M ob v (f v)):∀ (l:List Value),l.length=(zvL f l).length/\∀ (i:Nat) v a,l[i]? =some v->(zvL f l)[i]? =some a->Rep M ob v a
 | []=>⟨rfl,fun i v a h=>by simp at h⟩
 | x::l=>by
  obtain ⟨h1,e⟩:=QW d l
  refine ⟨by simp [zvL,h1],fun i v a b c=>?_⟩
  cases i with
  | zero=>simp [zvL] at b c;grind
  | succ i=>exact e i v a (by simpa using b) (by simpa [zvL] using c)
theorem aFs {M:Imm} {ob:Hs}:∀ (n:Nat) (v:Value),Rep M ob v (zv n v):=by
 intro n
 induction n with
 | zero=>intro v;exact nK v
 | succ n a=>
  intro v
  cases v with
  | agg vs=>
   obtain ⟨h1,b⟩:=QW (M:=M) (ob:=ob) a vs.toList
   have:=Rep.agg vs.toList _ h1 b
   simpa [zv] using this
  | _=>exact nK _
def MY (P:Program):Nat->Nat->List (Option Nat)
 | 0,_=>[]
 | n+1,t=>match P.underlying t with
  | some (.struct fs)=>fs.toList.flatMap fun f=>MY P n f.type
  | some (.array len e)=>(Ah len (MY P n e)).flatten
  | some (.slice e)=>[some (((P.info? e).map (·.size)).getD 0)]
  | _=>[none]
def aCv:Option Nat->AVal->AVal
 | some sz,.nilslice=>.slice sz [] .nil
 | _,v=>v
def tyZ:List (Option Nat)->List AVal->List AVal
 | k::ks,c::cs=>aCv k c::tyZ ks cs
 | _,cs=>cs
def zT (P:Program) (t:Nat) (z:Value):AVal:=match zv 4 z with
 | .agg cs=>.agg (tyZ (MY P 6 t) cs)
 | v=>aCv (match MY P 6 t with | k::_=>k | []=>none) v
theorem JY {M:Imm} {ob:Hs} {k:Option Nat} {v:Value} {a:AVal} (h:Rep M ob v a):Rep M ob v (aCv k a):=by
 unfold aCv
 split
 .cases h;exact .slnil _ _ rfl
 .exact h
theorem RB {M:Imm} {ob:Hs}:∀ {ks:List (Option Nat)} {cs:List AVal} {vs:List Value},bT M ob vs cs->bT M ob vs (tyZ ks cs)
 | [],cs,vs,h=>by cases cs<;>exact h
 | k::ks,[],vs,h=>h
 | k::ks,c::cs,[],h=>by have:=h.1;simp at this
 | k::ks,c::cs,v::vs,h=>bT.cons (JY (h.2 0 v c rfl rfl)) (RB ⟨by simpa using h.1,fun i u b d a=>h.2 (i+1) u b (by simp_all) (by simp_all)⟩)
theorem aFt {M:Imm} {ob:Hs} {P:Program} {t:Nat} {z:Value}:Rep M ob z (zT P t z):=by
 have h:=aFs (M:=M) (ob:=ob) 4 z
 unfold zT
 split
 .rename_i cs a
  rw [a] at h
  obtain ⟨vs,rfl,h1,d⟩:=h.agg_inv
  obtain ⟨c,b⟩:=RB (ks:=MY P 6 t) ⟨h1,d⟩
  exact .agg vs _ c b
 .exact JY h
def pX (P:Program) (t:Nat):Nat:=((P.info? t).map (·.size)).getD 0
def mkF (P:Program) (f:Field):Nat×Nat×Bool:=(f.offset,pX P f.type,aG P f.type)
def aGs (P:Program):List Field->List (Nat×Nat×Bool)
 | []=>[]
 | f::r=>mkF P f::aGs P r
def IB (P:Program) (t:Nat):Bool:=(P.info? t).isSome&&(P.underlying t).isSome
def fsB (P:Program):List Field->Bool
 | []=>true
 | f::r=>IB P f.type&&fsB P r
def H6 (P:Program) (t:Nat):TK:=match P.underlying t with
 | some (.int k)=>.int k
 | some .bool=>.bool
 | some .string=>.str
 | some (.struct fs)=>.strct (aGs P fs.toList)
 | some (.array n e)=>.arr n (pX P e) (aG P e)
 | some (.slice e)=>.slc e (pX P e) (((P.info? e).map (·.bytes)).getD 0)
 | some (.pointer e)=>.ptr e
 | some (.interface _)=>.iface
 | some (.map k e)=>.mp k e
 | _=>.other
def aDE (P:Program) (t:Nat):TI:=match P.info? t with
 | some i=>⟨H6 P t,i.size,aG P t,match i.zero with | some z=>zT P t z | none=>.undef⟩
 | none=>⟨.other,0,false,.undef⟩
def QX (P:Program) (t:Nat):Bool:=match P.info? t with
 | some i=>(match i.zero with
  | some z=>Av z.cells.size i.size&&(z.cells.toList.all (·.oneCell')&&BV (zT P t z))
  | none=>false)
 | none=>false
def aIs (P:Program) (e:Nat):Bool:=QX P e
def okB (P:Program) (t:Nat):Bool:=QX P t&&match P.underlying t with
 | some (.int _) | some .bool | some .string | some (.pointer _) | some (.interface _) | some (.map _ _)=>Av (pX P t) 1
 | some (.struct fs)=>fsB P fs.toList
 | some (.array _ e)=>IB P e
 | some (.slice e)=>Av (pX P t) 1&&aIs P e
 | some _=>true
 | none=>false
theorem SF (P:Program):∀ (l:List Field),fsB P l=true->nT P l (aGs P l)
 | [],_=>trivial
 | f::r,h=>by
  simp only [fsB,Af,IB] at h
  obtain ⟨⟨h1,b⟩,h3⟩:=h
  obtain ⟨i,a⟩:=Db.1 h1
  exact ⟨rfl,by simp [pX,a],b,rfl,SF P r h3⟩
theorem AH {P:Program} {t:Nat} (h:QX P t=true):∃ i z,P.info? t=some i/\i.zero=some z/\z.cells.size=i.size/\z.cells.toList.all (·.oneCell')=true/\zT P t z≠ .undef:=by
 unfold QX at h
 split at h
 .rename_i i a
  split at h
  .rename_i z hz
   simp only [Af] at h
   obtain ⟨h1,b,h3⟩:=h
   exact ⟨i,z,a,hz,aB h1,b,zP h3⟩
  .cases h
 .cases h
theorem aDD {P:Program} {t:Nat} (h:okB P t=true):TIOK P t (aDE P t):=by
 simp only [okB,Af] at h
 obtain ⟨u,h1⟩:=h
 obtain ⟨i,z,m,hz,hs,f,o⟩:=AH u
 have hm:aDE P t=⟨H6 P t,i.size,aG P t,zT P t z⟩:=by simp [aDE,m,hz]
 have hst:pX P t=i.size:=by simp [pX,m]
 rw [hm]
 refine ⟨⟨i,z,m,rfl,hz,hs,aFt,f,o⟩,?_⟩
 show tQ P t (aG P t) i.size (H6 P t)
 unfold H6
 have b:∀ d,P.underlying t=some d->aG P t=match d with | .struct _ | .array _ _=>true | _=>false:=fun d p=>by unfold aG;rw [p];cases d<;>rfl
 split at h1
 .rename_i k a;rw [a];exact ⟨a,b _ a,by rw [<-hst];exact aB h1⟩
 .rename_i a;rw [a];exact ⟨a,b _ a,by rw [<-hst];exact aB h1⟩
 .rename_i a;rw [a];exact ⟨a,b _ a,by rw [<-hst];exact aB h1⟩
 .rename_i e a;rw [a];exact ⟨a,b _ a,by rw [<-hst];exact aB h1⟩
 .rename_i q a;rw [a];exact ⟨⟨q,a⟩,b _ a,by rw [<-hst];exact aB h1⟩
 .rename_i mk G a;rw [a];exact ⟨a,b _ a,by rw [<-hst];exact aB h1⟩
 .rename_i s a;rw [a];exact ⟨⟨s,a,SF P _ h1⟩,b _ a⟩
 .rename_i n e a
  rw [a]
  simp only [IB,Af] at h1
  obtain ⟨j,c⟩:=Db.1 h1.1
  exact ⟨⟨e,a,by simp [pX,c],h1.2,rfl⟩,b _ a⟩
 .rename_i e a
  rw [a]
  simp only [Af] at h1
  obtain ⟨j,y,c,r,g,l,_⟩:=AH h1.2
  exact ⟨⟨a,j,y,c,by simp [pX,c],by simp [c],r,by simp [pX,c,g],l⟩,b _ a,by rw [<-hst];exact aB h1.1⟩
 .rename_i d A H C B I v w D F a
  rw [a]
  have p:∀ (α:Type) (x y:α),True:=fun _ _ _=>trivial
  cases d<;>first
   | exact ⟨⟨_,a,fun q e=>by cases e⟩,rfl⟩
   | grind
 .cases h1
def SE (P:Program):List Nat->Tab
 | []=>[]
 | t::r=>(t,aDE P t)::SE P r
def aCA (P:Program):List Nat->Bool
 | []=>true
 | t::r=>okB P t&&aCA P r
def aAF:Tab->List Nat
 | []=>[]
 | (t,_)::r=>t::aAF r
theorem LH {P:Program}:∀ {l:List Nat},aCA P l=true->∀ t a,cU (SE P l) t=some a->TIOK P t a
 | [],_,t,a,h=>by cases h
 | x::r,hb,t,a,h=>by
  simp only [aCA,Af] at hb
  simp only [SE,cU] at h
  cases b:Av x t with
  | true=>
   rw [b] at h
   cases h
   rw [<-aB b]
   exact aDD hb.1
  | false=>rw [b] at h;exact LH hb.2 t a h
theorem aFK {P:Program} {T:Tab} (h1:SE P (aAF T)=T) (b:aCA P (aAF T)=true):∀ t a,cU T t=some a->TIOK P t a:=by
 intro t a h
 rw [<-h1] at h
 exact LH b t a h
theorem oQ (fr:List (Nat×AVal)) (t:Nat):∀ (keep:List Nat),aR (mT keep fr) t=aR fr t\/aR (mT keep fr) t= .undef
 | []=>.inr rfl
 | k::r=>by
  simp only [mT,aR]
  cases h:Av k t with
  | true=>simp_all
  | false=>exact oQ fr t r
theorem SS.weak {M0:Imm} {ob0:Hs} {obs0:List AObj} {w0:World} {sz:Nat} {dfs:List (Nat×List AVal)} {fr b:List (Nat×AVal)} {obs:List AObj} {a:Act} {w:World} (d:∀ t,aR b t=aR fr t\/aR b t= .undef) (h:SS M0 ob0 obs0 w0 sz dfs fr obs a w):
  SS M0 ob0 obs0 w0 sz dfs b obs a w:=by
 obtain ⟨M,ob,c,hm,f,r⟩:=h
 refine ⟨M,ob,c,hm,fun t=>?_,r⟩
 rcases d t with e | e
 .simp_all
 .rw [e];exact .undef _
theorem dE.weak {E:Env} {fn:Func} {g:Goal} {ks:List KI} {fr b:List (Nat×AVal)} {obs:List AObj} (d:∀ t,aR b t=aR fr t\/aR b t= .undef) (h:dE E fn g ks b obs):dE E fn g ks fr obs:=
 fun c M0 ob0 obs0 w0 a w hst hs=>h c M0 ob0 obs0 w0 a w hst (hs.weak d)
theorem dE.keep {E:Env} {fn:Func} {g:Goal} {ks:List KI} {fr:List (Nat×AVal)} {obs:List AObj} (l:List Nat) (h:dE E fn g ks (mT l fr) obs):dE E fn g ks fr obs:=h.weak fun t=>oQ fr t l
theorem To.head {E:Env} {fn:Func} {g:Goal} {ks:List KI} {fr:List (Nat×AVal)} {obs:List AObj} (l:List Nat) (h:To E fn g (.head ks (mT l fr) obs)):To E fn g (.head ks fr obs):=h.rec fun h=>.mk (dE.keep l h)
abbrev C3:=IntKind×Int×Int
def vA (cs:List C3):List Value:=cs.map fun c=>.int c.1 c.2.1
def vB (cs:List C3):List Value:=cs.map fun c=>.int c.1 c.2.2
def oX:List C3->Bool
 | []=>true
 | c::r=>(c.2.1==c.2.2)&&oX r
theorem yO (a b:List C3):oX (a++b)=(oX a&&oX b):=by
 induction a with
 | nil=>simp [oX]
 | cons c r d=>simp [oX,d,Ge]
def lS (P:Program) (t:TypeId) (l:List Value):Value:=if aG P t then .agg l.toArray else l.headD undef
def wE (P:Program) (a:TypeId->Bool):Nat->List Field->Nat->Bool
 | off,[],total=>Av off total
 | off,f::fs,total=>((f.name != "_")&&Av f.offset off)&&((a f.type&&(P.info? f.type).isSome)&&wE P a (off+P.cellsOf f.type) fs total)
def eS (P:Program):Nat->TypeId->Bool
 | 0,_=>false
 | m+1,t=>match P.underlying t with
  | some (.int _)=>Av (P.cellsOf t) 1
  | some (.array n e)=>(eS P m e&&(P.info? e).isSome)&&Av (P.cellsOf t) (n*P.cellsOf e)
  | some (.struct fs)=>!P.stoodInHeld t&&wE P (eS P m) 0 fs.toList (P.cellsOf t)
  | _=>false
def EqI (P:Program) (d:Nat) (t:TypeId):Prop:=∀ (w:World) (cs:List C3),cs.length=P.cellsOf t->(Op.equalIn d t (lS P t (vA cs)) (lS P t (vB cs))).run P w= .ok (oX cs) w
section
variable {P:Program} (w:World)
theorem oR {m:Nat} {t:TypeId} (h:eS P m t=true):(P.underlying t).isSome=true/\(aG P t=false->P.cellsOf t=1):=by
 cases m with
 | zero=>cases h
 | succ m=>
  unfold eS at h
  unfold aG
  split at h
  .simp_all
  .grind
  .grind
  .cases h
theorem iL {e:TypeId} (h:(P.underlying e).isSome=true) (f:(P.info? e).isSome=true) (h1:aG P e=false->P.cellsOf e=1) (l:List Value) (off:Nat) (d:off+P.cellsOf e<=l.length):
  (part e l.toArray off).run P w= .ok (lS P e ((l.drop off).take (P.cellsOf e))) w:=by
 unfold part
 simp only [Bc,wH h,Au]
 unfold lS
 obtain ⟨i,b⟩:=Db.1 f
 have c:(P.info? e).map (·.size)=some (P.cellsOf e):=by simp [Program.cellsOf,b]
 cases j:aG P e with
 | true=>
  simp only [if_true,Bc,AW.run_sizeOf c,Au,Bv]
  simp
 | false=>
  have g:=h1 j
  have a:off<l.length:=o_
  simp only [Cv,if_false]
  simp only [Li,Ab a,Bv]
  rw [g]
  congr 1
  rw [Ad a]
  rfl
theorem GZ (cs:List C3):(vA cs).length=cs.length:=by simp [vA]
theorem aFz (cs:List C3):(vB cs).length=cs.length:=by simp [vB]
theorem NH (cs:List C3) (o n:Nat):((vA cs).drop o).take n=vA ((cs.drop o).take n):=by simp [vA,Jl,Jk]
theorem aFA (cs:List C3) (o n:Nat):((vB cs).drop o).take n=vB ((cs.drop o).take n):=by simp [vB,Jl,Jk]
theorem KC {d m:Nat} {e:TypeId} (i:eS P m e=true) (f:(P.info? e).isSome=true) (h:EqI P d e) (cs:List C3) (off:Nat) (c:off+P.cellsOf e<=cs.length):
  ∃ a b,(part e (vA cs).toArray off).run P w= .ok a w/\(part e (vB cs).toArray off).run P w= .ok b w/\(Op.equalIn d e a b).run P w= .ok (oX ((cs.drop off).take (P.cellsOf e))) w:=by
 obtain ⟨g,h1⟩:=oR i
 refine ⟨_,_,iL w g f h1 _ _ (by rw [GZ];exact c),iL w g f h1 _ _ (by rw [aFz];exact c),?_⟩
 rw [NH,aFA]
 exact h w _ q_
theorem take_add (cs:List C3) (o a b:Nat):(cs.drop o).take (a+b)=(cs.drop o).take a++(cs.drop (o+a)).take b:=by
 rw [Lq,Im]
theorem UJ {d m:Nat} {e:TypeId} (p:eS P m e=true) (q:(P.info? e).isSome=true) (h:EqI P d e) (cs:List C3):∀ (n k:Nat),(k+n)*P.cellsOf e<=cs.length->
  (Op.eqItems d e (P.cellsOf e) (vA cs).toArray (vB cs).toArray (Gx k n)).run P w= .ok (oX ((cs.drop (k*P.cellsOf e)).take (n*P.cellsOf e))) w:=by
 intro n
 induction n with
 | zero=>intro k _;simp [Op.eqItems,oX]
 | succ n l=>
  intro k o
  have r:(k+1)*P.cellsOf e<=(k+(n+1))*P.cellsOf e:=Cg _ o_
  have c:(k+1)*P.cellsOf e=k*P.cellsOf e+P.cellsOf e:=by grind
  obtain ⟨a,b,s,j,i⟩:=KC w p q h cs (k*P.cellsOf e) o_
  have g:=l (k+1) (by rw [show k+1+n=k+(n+1) from by omega];exact o)
  have f:(n+1)*P.cellsOf e=P.cellsOf e+n*P.cellsOf e:=by rw [Bz,Ft,Lr]
  rw [f,take_add,yO,<-c]
  simp only [Jb,Op.eqItems,Bc,s,j,i,Au]
  cases oX ((cs.drop (k*P.cellsOf e)).take (P.cellsOf e)) with
  | true=>simp;omega
  | false=>simp
theorem N1 {d m:Nat} (i:∀ t,eS P m t=true->EqI P d t) (cs:List C3):∀ (c:List Field) (off:Nat),wE P (eS P m) off c cs.length=true->
  (Op.eqFields d (vA cs).toArray (vB cs).toArray c).run P w= .ok (oX (cs.drop off)) w/\off<=cs.length:=by
 intro c
 induction c with
 | nil=>
  intro off h
  have:=aB h
  subst this
  exact ⟨by simp [Op.eqFields,oX],Bi _⟩
 | cons f c o=>
  intro off h
  simp only [wE,Af] at h
  obtain ⟨⟨h1,q⟩,⟨h3,s⟩,r⟩:=h
  obtain ⟨j,p⟩:=o _ r
  have e:=aB q
  obtain ⟨a,b,u,n,k⟩:=KC w h3 s (i _ h3) cs f.offset o_
  refine ⟨?_,by omega⟩
  have l:cs.drop off=(cs.drop off).take (P.cellsOf f.type)++cs.drop (off+P.cellsOf f.type):=by rw [<-Im,De]
  rw [l,yO]
  have g:f.name≠ "_" :=by simpa using h1
  simp only [Op.eqFields,g,ne_eq,not_false_eq_true,if_true,Bc,u,n,k,Au]
  rw [e] at *
  cases oX ((cs.drop off).take (P.cellsOf f.type)) with
  | true=>simp;omega
  | false=>simp
end
theorem P0 {P:Program} (d:Nat):∀ (m:Nat) (t:TypeId),eS P m t=true->EqI P (d+m) t
 | 0,_,h=>by cases h
 | m+1,t,h=>by
  intro w cs f
  have o:∀ t,eS P m t=true->EqI P (d+m) t:=fun t h=>P0 d m t h
  unfold eS at h
  split at h
  .rename_i k g
   have c:aG P t=false:=by unfold aG;rw [g]
   have h1:=aB h
   rw [h1] at f
   match cs,f with
   | [(k',a,b)],_=>
    simp only [lS,c,vA,vB,Bk,List.map_nil,List.headD_cons,Cv,if_false,oX,Kr]
    exact run_equalIn_int w (d+m) t k' k a b g
  .rename_i n e g
   simp only [Af] at h
   obtain ⟨⟨h1,j⟩,h3⟩:=h
   have c:aG P t=true:=by unfold aG;rw [g]
   obtain ⟨i,q⟩:=Db.1 j
   have r:=aB h3
   simp only [lS,c,if_true]
   rw [show d+(m+1)=(d+m)+1 from rfl,run_equalIn_array w (d+m) _ _ g q,Gm,UJ w h1 j (o e h1) cs n 0 (by grind)]
   grind
  .rename_i p g
   simp only [Af,Co] at h
   obtain ⟨h1,j⟩:=h
   have c:aG P t=true:=by unfold aG;rw [g]
   have l:P.fieldsOf t=p:=by simp [Program.fieldsOf,g]
   simp only [lS,c,if_true]
   rw [<-f] at j
   rw [show d+(m+1)=(d+m)+1 from rfl,run_equalIn_struct w (d+m) t _ _ (by grind) h1,l]
   simpa using (N1 w o cs p.toList 0 j).1
  .cases h
theorem aBT:∀ {xs ys:List AVal} {c:Bool} {vs us:List Value},ceq xs ys=some c->bT (fun _ _ _=>False) [] vs xs->bT (fun _ _ _=>False) [] us ys->∃ cs:List C3,vs=vA cs/\us=vB cs/\c=oX cs
 | [],[],c,vs,us,h,h1,h2=>by
  cases h
  have f:vs=[]:=by simpa using h1.1
  have d:us=[]:=by simpa using h2.1
  exact ⟨[],by simp [vA,f],by simp [vB,d],rfl⟩
 | x::xs,y::ys,c,vs,us,h,h1,h2=>by
  cases x<;>first | (simp [ceq] at h;done) | skip
  cases y<;>first | (simp [ceq] at h;done) | skip
  rename_i k a n b
  simp only [ceq] at h
  obtain ⟨m,h3⟩:=dZ h
  have:=uX m
  subst this
  cases g:ceq xs ys with
  | none=>grind
  | some o=>
   rw [g] at h3
   cases h3
   match vs,us,h1,h2 with
   | v::vs,u::us,h1,h2=>
    have e:=(h1.2 0 v _ rfl rfl).int_inv.1
    have j:=(h2.2 0 u _ rfl rfl).int_inv.1
    subst e j
    obtain ⟨cs,f,d,e3⟩:=aBT (vs:=vs) (us:=us) g ⟨by simpa using h1.1,fun i v a e l=>h1.2 (i+1) v a (by grind) (by grind)⟩ ⟨by simpa using h2.1,fun i v a e l=>h2.2 (i+1) v a (by grind) (by grind)⟩
    exact ⟨(k,a,b)::cs,by simp [vA,f],by simp [vB,d],by simp [oX,e3]⟩
 | [],_::_,c,vs,us,h,_,_=>by cases h
 | x::_,[],c,vs,us,h,_,_=>by cases x<;>cases h
theorem N2 {P:Program} (w:World) {l:Bool} {d m:Nat} (o:∀ (e:TypeId),eS P m e=true->∀ (w:World) (cs:List C3),cs.length=P.cellsOf e->(Gw l d e (lS P e (vA cs))).run P w= .ok () w) (cs:List C3) {e:TypeId} (g:eS P m e=true) (b:(P.info? e).isSome=true):
  ∀ (a:List Nat),(∀ i∈a,(i+1)*P.cellsOf e<=cs.length)->
  (forIn (m:=Sem) a PUnit.unit fun i _=>(do Gw l d e (<-part e (vA cs).toArray (i*(<-sizeOf e)));Pure.pure (ForInStep.yield PUnit.unit))).run P w= .ok PUnit.unit w:=by
 intro a
 obtain ⟨s,c⟩:=Db.1 b
 have f:(P.info? e).map (·.size)=some (P.cellsOf e):=by simp [Program.cellsOf,c]
 obtain ⟨p,h1⟩:=oR g
 induction a with
 | nil=>simp
 | cons j a r=>
  intro h
  have k:=h j s_
  rw [Bz,Ft] at k
  have n:=iL w p b h1 (vA cs) (j*P.cellsOf e) (by rw [GZ];exact k)
  rw [NH] at n
  have q:=o e g w ((cs.drop (j*P.cellsOf e)).take (P.cellsOf e)) q_
  simp only [List.forIn_cons,Bc,AW.run_sizeOf f,Au,n,q,Bv]
  exact r fun i b=>h i (by simp [b])
theorem aBL {P:Program} (C:Bool) (d:Nat):∀ (m:Nat) (t:TypeId),eS P m t=true->∀ (w:World) (cs:List C3),cs.length=P.cellsOf t->(Gw C (d+m) t (lS P t (vA cs))).run P w= .ok () w
 | 0,_,h=>by cases h
 | m+1,t,h=>by
  intro w cs g
  have z:=aBL (P:=P) C d m
  unfold eS at h
  rw [show d+(m+1)=(d+m)+1 from rfl,Gw]
  split at h
  .rename_i k j
   have c:aG P t=false:=by unfold aG;rw [j]
   have h1:=aB h
   rw [h1] at g
   match cs,g with
   | [(k',a,b)],_=>
    simp [lS,c,vA,run_underlying j]
  .rename_i n e j
   simp only [Af] at h
   obtain ⟨⟨h1,o⟩,h3⟩:=h
   have c:aG P t=true:=by unfold aG;rw [j]
   have M:=aB h3
   simp only [lS,c,if_true,Bc,run_underlying j,Au]
   simp only [Std.Legacy.Range.forIn_eq_forIn_range',Std.Legacy.Range.size,Kb,Nat.add_one_sub_one,Jp]
   have:=N2 w z cs h1 o (Gx 0 n) (fun i N=>by
    have:i<n:=by grind
    have:(i+1)*P.cellsOf e<=n*P.cellsOf e:=Cg _ this
    omega)
   simp at this⊢
   simp_all
  .rename_i A j
   simp only [Af,Co] at h
   obtain ⟨h1,o⟩:=h
   have c:aG P t=true:=by unfold aG;rw [j]
   simp only [lS,c,if_true,Bc,run_underlying j,Au]
   rw [<-Array.forIn_toList]
   rw [<-g] at o
   have key:∀ (L:List Field) (off:Nat),wE P (eS P m) off L cs.length=true→off≤cs.length∧∀ f∈L,f.name≠ "_" ∧eS P m f.type=true∧(P.info? f.type).isSome=true∧f.offset+P.cellsOf f.type≤cs.length:=by
    intro L
    induction L with
    | nil=>
     intro off h
     have:=aB h
     simp_all
    | cons f L s=>
     intro off h
     simp only [wE,Af] at h
     obtain ⟨⟨v,p⟩,⟨r,q⟩,I⟩:=h
     obtain ⟨K,J⟩:=s _ I
     have B:=aB p
     refine ⟨by omega,fun H l=>?_⟩
     rcases Aj.1 l with rfl | l
     .exact ⟨by simpa using v,r,q,by omega⟩
     .exact J H l
   have each:=(key A.toList 0 o).2
   clear key o
   generalize A.toList=L at each
   induction L with
   | nil=>simp
   | cons f L s=>
    obtain ⟨v,p,r,q⟩:=each f s_
    obtain ⟨u,x⟩:=oR p
    have D:=iL w u r x (vA cs) f.offset (by rw [GZ];exact q)
    rw [NH] at D
    have G:=z f.type p w ((cs.drop f.offset).take (P.cellsOf f.type)) q_
    simp only [List.forIn_cons,Bc,v,ne_eq,not_false_eq_true,if_true,Au,D,G,Bv]
    exact s fun y F=>each y (by simp [F])
  .cases h
theorem aGA (a b:List Int) (h:a.length=b.length):∃ cs:List C3,cs.length=a.length/\eX true a= .agg (vA cs).toArray/\eX true b= .agg (vB cs).toArray/\oX cs=decide (a=b):=by
 refine ⟨(a.zip b).map fun p=>(.i64,p.1,p.2),by simp;omega,?_,?_,?_⟩
 .simp only [eX,vA,if_true,Cu]
  congr 2
  have:(a.zip b).map Ky=a:=List.map_fst_zip o_
  conv=>lhs;rw [<-this]
  simp
 .simp only [eX,vB,if_true,Cu]
  congr 2
  have:(a.zip b).map Prod.snd=b:=List.map_snd_zip o_
  conv=>lhs;rw [<-this]
  simp
 .induction a generalizing b with
  | nil=>
   cases b with
   | nil=>rfl
   | cons y b=>cases h
  | cons x a c=>
   cases b with
   | nil=>cases h
   | cons y b=>
    simp only [List.zip_cons_cons,Bk,oX]
    rw [c b (by grind)]
    by_cases d:x=y
    .simp_all
    .simp [d]
def aA4 (P:Program) (t n:Nat):Bool:=(aG P t&&eS P 8 t)&&(!P.eqGuardType P.depth t&&Av (P.cellsOf t) n)
theorem aA3 {P:Program} {t n:Nat} (h:aA4 P t n=true):QU P t n:=by
 simp only [aA4,Af,Co] at h
 obtain ⟨⟨h1,d⟩,h3,o⟩:=h
 have q:=aB o
 refine And.symm ⟨fun w a b s r=>?_,?_⟩
 .obtain ⟨cs,u,k,j,e3⟩:=aGA a b o_
  have g:=P0 9992 8 t d w cs o_
  have f:=fun p=>aBL p 9992 8 t d w cs o_
  simp only [lS,h1,if_true] at g f
  rw [k,j,<-e3]
  exact ⟨g,f⟩
 intro w x y xs ys vs us c m i e l
 obtain ⟨cs,rfl,rfl,rfl⟩:=aBT m e l
 refine ⟨fun op=>run_eqGuard_agg w op t x y _ _ h3,?_⟩
 have hl:cs.length=P.cellsOf t:=by
  have:=e.1
  rw [GZ] at this
  omega
 have:=P0 9992 8 t d w cs hl
 simp only [lS,h1,if_true] at this
 exact this
def PJ (P:Program):List (Nat×Nat)->Bool
 | []=>true
 | (t,n)::r=>aA4 P t n&&PJ P r
theorem MC {P:Program}:∀ {l:List (Nat×Nat)},PJ P l=true->∀ t,0<yY l t->QU P t (yY l t)
 | [],_,t,h=>by cases h
 | (i,n)::r,hb,t,h=>by
  simp only [PJ,Af] at hb
  simp only [yY] at h⊢
  cases a:Av i t with
  | true=>
   rw [a] at h
   rw [<-aB a]
   exact aA3 hb.1
  | false=>rw [a] at h;exact MC hb.2 t h
def yP (P:Program) (mt:aCa):Prop:=∀ t a g,aAr mt t a=some g->∀ v w,(method (P.types.size+Made.depth) t v a).run P w= .ok (g,v) w
theorem yP.nil {P:Program}:yP P []:=fun t a g h=>by cases h
theorem yP.cons {P:Program} {i f:Nat} {s:String} {mt:aCa} (h:∀ v w,(method (P.types.size+Made.depth) i v s).run P w= .ok (f,v) w) (k:yP P mt):yP P ((i,s,f)::mt):=by
 intro t a g b
 simp only [aAr] at b
 cases c:(Av i t&&s==a) with
 | false=>rw [c] at b;exact k t a g b
 | true=>
  simp_all
section
variable {E:Env} {fn:Func} {g:Goal} {M0:Imm} {ob0:Hs} {obs0:List AObj} {w0:World} {sz:Nat} {dfs:List (Nat×List AVal)} {fr:List (Nat×AVal)} {obs:List AObj} {a:Act} {w:World}
theorem SS.cap {t k i es:Nat} {e:TypeId} {xs:List AVal} (h1:aR fr t= .row k i) (y:aC obs k= .row i es e xs) (h:SS M0 ob0 obs0 w0 sz dfs fr obs a w):
  ∃ c,xs.length<=c/\c<=maxLen/\SS M0 ob0 obs0 w0 sz dfs (gU fr t (.rowc k i c)) obs a w:=by
 obtain ⟨M,ob,p,hm,l,r⟩:=h
 have f:=l t
 rw [h1] at f
 obtain ⟨x,n,c,m,d⟩:=f.row_inv
 obtain ⟨hs',v,C,z,e3,g,o,_⟩:=hm.rowOf (bL y s_)
 rw [d] at g
 cases g
 have j:xs.length<=c/\c<=maxLen:=by
  rcases o.len with ⟨q,rfl⟩ | ⟨b,D,u,_,B,A⟩
  .cases q;simp
  .cases u;omega
 refine ⟨c,j.1,j.2,M,ob,p,hm,fun s=>?_,r⟩
 rw [rS]
 split
 .rename_i e
  subst e
  rw [m]
  have:=dW
  exact .rowc k i c x n d o_
 .exact l s
theorem To.cap {ks:List KI} {t k i es:Nat} {e:TypeId} {xs:List AVal} (h1:aR fr t= .row k i) (f:aC obs k= .row i es e xs)
  (h:∀ c,xs.length<=c->c<=maxLen->To E fn g (.code ks (gU fr t (.rowc k i c)) obs)):To E fn g (.code ks fr obs):=
 .mk fun b M0 ob0 obs0 w0 a w hst hs=>by
  obtain ⟨c,j,d,hs'⟩:=hs.cap h1 f
  exact (h c j d).rec fun h=>h b M0 ob0 obs0 w0 a w hst hs'
end
def strip:Nat->AVal->AVal
 | 0,v=>v
 | n+1,v=>match v with
  | .slice sz xs _=>.slice sz xs .no
  | .agg cs=>.agg (dH (strip n) cs)
  | .tup cs=>.tup (dH (strip n) cs)
  | .iface t v=>.iface t (strip n v)
  | v=>v
theorem mO {M:Imm} {ob:Hs}:∀ (n:Nat) {v:Value} {a:AVal},Rep M ob v a->Rep M ob v (strip n a):=by
 intro n
 induction n with
 | zero=>intro v a h;exact h
 | succ n m=>
  intro v a h
  cases h with
  | agg vs as hl d=>
   obtain ⟨h1,j⟩:=bO (fun v a=>m) hl d
   exact .agg vs _ h1 j
  | tup vs as hl d=>
   obtain ⟨h1,j⟩:=bO (fun v a=>m) hl d
   exact .tup vs _ h1 j
  | iface t v a d=>exact .iface t v _ (m d)
  | slnil sz t p=>exact .slnil sz .no trivial
  | slemp sz t a cap p=>exact .slemp sz .no a cap trivial
  | sl sz b o n cap xs t f e hm hz d p=>exact .sl sz b o n cap xs .no f e hm hz d trivial
  | undef v=>exact .undef v
  | bool b=>exact .bool b
  | int k n d=>exact .int k n d
  | str l hl=>exact .str l hl
  | ptr b o cs h=>exact .ptr b o cs h
  | ref k off b h=>exact .ref k off b h
  | eref k g i sz off b n c h=>exact .eref k g i sz off b n c h
  | csl k off len sz b h hm=>exact .csl k off len sz b h hm
  | row k g a n c h=>exact .row k g a n c h
  | sub k g lo len sz b n c h hl f e hm=>exact .sub k g lo len sz b n c h hl f e hm
  | sub0 k g lo sz a r n c h hl e=>exact .sub0 k g lo sz a r n c h hl e
  | rowc k g c a n h hm=>exact .rowc k g c a n h hm
  | pre k g n c sz b len h e f hl hm=>exact .pre k g n c sz b len h e f hl hm
  | mref k b h=>exact .mref k b h
  | nilptr=>exact .nilptr
  | nilslice=>exact .nilslice
  | nilmap=>exact .nilmap
  | nilfunc=>exact .nilfunc
  | nilif=>exact .nilif
  | hsl a n c=>exact .hsl a n c
  | func fn s cs q u w e h1 j=>exact .func fn s cs q u w e h1 j
theorem aA.strip {P:Program} {f:FuncId} {args:List AVal} {obs obs':List AObj} {r:Res} (h:aA P f (dH (strip 5) args) obs r obs'):aA P f args obs r obs':=
 fun M ob w b hm c=>h M ob w b hm (by
  obtain ⟨h1,d⟩:=bO (M':=M) (ob':=ob) (fun v a=>mO (M:=M) (ob:=ob) 5) c.1 c.2
  exact ⟨h1,d⟩)
theorem aA.less {P:Program} {f:FuncId} {args:List AVal} {obs obs':List AObj} {v:AVal} (h:aA P f args obs (.ret v) obs'):aA P f args obs (.ret (AW.strip 5 v)) obs':=
 fun M ob w a hm c=>cE.mono (fun e w' ⟨M',ob',g,d,b⟩=>⟨M',ob',g,d,by
  cases e with
  | returned u=>exact mO 5 b
  | panicked i=>exact b.elim
  | outgrown=>exact b.elim⟩) (h M ob w a hm c)
def WU (n:Nat):List (Nat×List AVal)->Bool
 | []=>true
 | (_,l)::r=>DP (bel n 5) l&&WU n r
theorem M7 {n:Nat}:∀ {l:List (Nat×List AVal)},WU n l=true->∀ (i:Nat) x,l[i]? =some x->DP (bel n 5) x.2=true
 | [],_,i,x,h=>by simp at h
 | (f,y)::r,hb,i,x,h=>by
  simp only [WU,Af] at hb
  cases i with
  | zero=>grind
  | succ i=>exact M7 hb.2 i x (by simp_all)
theorem aBX {w0 w:World} {M:Imm} {ob:Hs} {n:Nat} {g:List Deferred} {dfs:List (Nat×List AVal)} (h:cL w0 w M ob g dfs) (l:WU n dfs=true):cL w0 w M (ob.take n) g dfs:=
 let ⟨d1,d2,e,h,h2⟩:=h
 ⟨d1,d2,e,⟨h.1,fun i d x c b=>⟨(h.2 i d x c b).1,(h.2 i d x c b).2.1,fun j v a k f=>AB 5 ((h.2 i d x c b).2.2 j v a k f) (lD (M7 l i x b) j a f)⟩⟩,h2⟩
theorem To.cut {E:Env} {fn:Func} {g:Goal} {ks:List KI} {fr:List (Nat×AVal)} {obs:List AObj} (l:List Nat) (n:Nat) (A:Ff g.n0 n=true) (z:aBW n (mT l fr)=true) (j:EK n (mW n obs)=true) (v:WU n E.df=true)
  (h:To E fn g (.head ks (mT l fr) (mW n obs))):To E fn g (.head ks fr obs):=
 .mk fun i M0 ob0 obs0 w0 a w hst hs=>by
  refine h.rec fun h=>h i M0 ob0 obs0 w0 a w hst ?_
  obtain ⟨M,ob,c,hm,d,x,s,B⟩:=hs
  rw [BP] at j⊢
  obtain ⟨r,y⟩:=hm.cutO j
  have C:ob0.length<=n:=by rw [hst.1];simp_all
  refine ⟨M,ob.take n,⟨c.imm,c.new,fun k hs m=>?_,c.os,c.tape,c.output,c.size,c.keep,fun k b u=>c.fresh k b (y u)⟩,r,fun t=>?_,x,aBX s v,by simp;omega⟩
  .obtain ⟨hs',p,o⟩:=c.hs k hs m
   have f:k<n:=by have:=(Ac.1 m).1;omega
   exact ⟨hs',by rw [Br f];exact p,o⟩
  .rcases M6 z t with q | q
   .rcases oQ fr t l with e | e
    .rw [e] at q⊢
     exact AB 5 (d t) q
    .rw [e];exact .undef _
   .rw [q];exact .undef _
open Go.RowKit Go.ChangeShapes Go.WideShapes Go.ChangeAt
theorem tO {P:Program} {f:FuncId} {args:List AVal} {a:List Value} {w:World} {M:Imm} (b:pA P f) (h:aA P f args [] (.ret (.bool true)) []) (hm:Mem M [] [] w) (c:bT M [] a args):
  Calls P f a.toArray w fun e w'=>e= .returned (.bool true)/\Below w.heap.size w w':=by
 rcases h M [] w a hm c with ⟨_,h⟩ | ⟨u,w',h,_⟩
 .refine h.mono fun e w' ⟨M',ob',h1,g,h3⟩=>⟨?_,h1.below⟩
  cases e with
  | returned v=>rw [Rep.bool_inv h3]
  | panicked d=>exact h3.elim
  | outgrown=>exact h3.elim
 .rw [b] at h
  cases h
section
variable {P:Program} {w:World} {r:Reach} {base:Nat} {t:TypeId} {v:Value}
theorem vD {k:IntKind} {n:Int} (h:k.has n):inR k n:=by
 cases k<;>simpa [IntKind.has,IntKind.min,IntKind.max,IntKind.signed,IntKind.bits,inR,bW,bI] using h
theorem KN {M:Imm} {ob:Hs} {v:Value} {a:AVal} (h:Rep M ob v a) {vs:List Value} {as:List AVal} (hs:bT M ob vs as):bT M ob (v::vs) (a::as):=bT.cons h hs
theorem ZB {M:Imm} {ob:Hs}:bT M ob [] []:=⟨rfl,fun i v a h=>by simp at h⟩
end
section
variable {H:Type} {enc:TypeId×Value->H} {P:Program}
def R1 (P:Program):List TypeId->Bool
 | []=>true
 | t::ts=>(P.readableRec t&&decide (t<P.types.size))&&R1 P ts
theorem D3 (hl:laidOutB P=true) {W j:World} (k:Below W.heap.size W j):∀ {a:List TypeId} {vs:List Value} {g:List (DataW H)} {c:List MemPlace},R1 P a=true->(∀ x∈c,x.block<W.heap.size)->
  DataW.TrodAll enc P W 0 (fun _=>true) true a vs g c->DataW.TrodAll enc P j 0 (fun b=>decide (b<W.heap.size)) true a vs g c:=by
 intro a
 induction a with
 | nil=>
  intro vs g c _ _ h
  obtain ⟨rfl,rfl,rfl⟩:=trodAll_nil h
  rfl
 | cons t a n=>
  intro vs g c f e h
  simp only [R1,Af,decide_eq_true_eq] at f
  obtain ⟨v,l,d,m,p,q,rfl,rfl,rfl,o,h1⟩:=trodAll_cons h
  exact trodAll_cons_mk (Below.trod hl f.1.1 f.1.2 o k fun x i=>e x (by simp [i])) (n f.2 (fun x i=>e x (by simp [i])) h1)
theorem lN {W:World}:∀ {c:List TypeId} {vs:List Value} {e:List (DataW H)} {f:List MemPlace},DataW.TrodAll enc P W 0 (fun _=>true) true c vs e f->vs.length=c.length/\e.length=c.length:=by
 intro c
 induction c with
 | nil=>
  intro vs e f h
  obtain ⟨rfl,rfl,rfl⟩:=trodAll_nil h
  omega
 | cons t c j=>
  intro vs e f h
  obtain ⟨v,g,d,i,p,q,rfl,rfl,rfl,k,h1⟩:=trodAll_cons h
  obtain ⟨a,b⟩:=j h1
  simp_all
theorem wM {fn:Func} {s:ChangeSpec} {W m:World} {args:Array Value} {b y:List (DataW H)} {gQ:List MemPlace} {i:TypeId} (hl:laidOutB P=true) (o:R1 P fn.params.toList=true) (j:s.vars=[])
  (d:fn.resultTypes= #[i]) (u:P.underlying i=some .bool) (c:DataW.Whole enc P fn.params.toList s.vars false W args.toList b y gQ) (a:Below W.heap.size W m)
  (g:b.length=fn.params.toList.length->(s.fn H b).results=[.lit (.bool true)]/\(s.fn H b).args=b/\(s.fn H b).vars=[]):s.post enc P fn false true false false W args (.bool true) m:=by
 have f:=c.lt
 have e:=c
 obtain ⟨p,q,l,k,rfl,w,n⟩:=c
 rw [j] at k
 obtain ⟨rfl,rfl⟩:=trodVars_none k
 obtain ⟨z,t,r⟩:=g (lN l).2
 refine ⟨b,[],_,[],p,[],e,?_,?_,?_,a.frame _,fun h=>by cases h⟩
 .rw [Bm,z,d]
  exact trodAll_cons_mk (shut_bool u _) trodAll_mk0
 .rw [Bm,t]
  exact D3 hl a o (fun x v=>f x (by simp [v])) l
 .rw [Bm,r,j]
  exact rfl
end
inductive RepW (w:World):Value->AVal->Prop
 | bool (b):RepW w (.bool b) (.bool b)
 | int (k n) (h:inR k n):RepW w (.int k n) (.int k n)
 | str (l:List UInt8) (h:(l.length:Int)<=9223372036854775807):RepW w (.string ⟨l.toArray⟩) (.str l)
 | nilslice (sz:Nat):RepW w (.slice none 0 0) (.slice sz [] .no)
 | emptys (sz:Nat) (a:Addr) (cap:Nat):RepW w (.slice (some a) 0 cap) (.slice sz [] .no)
 | slice (sz b o n cap:Nat) (xs:List AVal) (us:Nat->Nat->Value) (hn:xs.length=n) (hc:n<=cap) (hm:(n:Int)<=9223372036854775807) (hz:∀ x∈xs,x.cells.length=sz)
   (h1:∀ (i j:Nat) x c,xs[i]? =some x->x.cells[j]? =some c->w.cell? ⟨b,o+i*sz+j,none⟩=some (us i j)) (h2:∀ (i j:Nat) x c,xs[i]? =some x->x.cells[j]? =some c->(us i j).oneCell'=true)
   (h3:∀ (i j:Nat) x c,xs[i]? =some x->x.cells[j]? =some c->RepW w (us i j) c):RepW w (.slice (some ⟨b,o,none⟩) n cap) (.slice sz xs .no)
def Mw (w:World):Imm:=fun b o x=>∃ v,w.cell? ⟨b,o,none⟩=some v/\v.oneCell'=true/\RepW w v x
theorem RepW.rep {w:World} {v:Value} {a:AVal} (h:RepW w v a):Rep (Mw w) [] v a:=by
 cases h with
 | bool b=>exact .bool b
 | int k n h=>exact .int k n h
 | str l h=>exact .str l h
 | nilslice sz=>exact .slnil sz .no trivial
 | emptys _ a cap=>exact .slemp _ _ _ _ trivial
 | slice sz b o n cap xs us f g hm hz h1 m h3=>exact .sl sz b o n cap xs .no f g hm hz (fun i j x c d e=>⟨us i j,h1 i j x c d e,m i j x c d e,h3 i j x c d e⟩) trivial
theorem aGu (w:World):Mem (Mw w) [] [] w where
 imm:=fun b o x ⟨v,h1,h2,h3⟩=>⟨v,h1,h2,h3.rep⟩
 len:=rfl
 obj k c h:=by simp at h
 lt k b h:=by obtain ⟨c,hs,e,_⟩:=h;simp at e
 inj k k' b h:=by obtain ⟨c,hs,e,_⟩:=h;simp at e
def TyF (T:TypeId->List AVal->Prop):List Field->List AVal->Prop
 | [],cs=>cs=[]
 | f::fs,cs=>∃ a b,cs=a++b/\T f.type a/\TyF T fs b
def TyC (P:Program):Nat->TypeId->List AVal->Prop
 | 0,_,_=>False
 | n+1,t,cs=>match P.underlying t with
  | some .bool=>∃ b,cs=[.bool b]
  | some (.int k)=>∃ m,cs=[.int k m]/\inR k m
  | some .string=>∃ l,cs=[.str l]/\l.length<=maxLen
  | some (.struct fs)=>TyF (TyC P n) fs.toList cs
  | some (.array m e)=>∃ xs:List (List AVal),xs.length=m/\(∀ x∈xs,TyC P n e x)/\cs=xs.flatten
  | some (.slice e)=>∃ xs,cs=[.slice (P.cellsOf e) xs .no]/\xs.length<=maxLen/\∀ x∈xs,TyC P n e x.cells/\(aG P e=true->∃ l,x= .agg l)
  | _=>False
theorem RepW.one {w:World} {v:Value} {a:AVal} (h:RepW w v a):v.oneCell'=true:=by cases h<;>rfl
def cI (w:World) (cs:List Value) (as:List AVal):Prop:=cs.length=as.length/\∀ (i:Nat) v a,cs[i]? =some v->as[i]? =some a->RepW w v a
theorem cI.append {w:World} {vs us:List Value} {as bs:List AVal} (h:cI w vs as) (k:cI w us bs):cI w (vs++us) (as++bs):=by
 refine ⟨by simp [h.1,k.1],fun i v a b c=>?_⟩
 by_cases d:i<vs.length
 .rw [Ag d] at b
  rw [Ag (by rw [<-h.1];exact d)] at c
  exact h.2 i v a b c
 .rw [Ar o_] at b
  rw [Ar (by rw [<-h.1];omega),<-h.1] at c
  exact k.2 _ v a b c
theorem cI.single {w:World} {v:Value} {a:AVal} (h:RepW w v a):cI w [v] [a]:=
 ⟨rfl,fun i u b c d=>by cases i with | zero=>grind | succ i=>simp at c⟩
theorem cI.nil {w:World}:cI w [] []:=⟨rfl,fun i v a h=>by simp at h⟩
section
variable {H:Type} {enc:TypeId×Value->H} {P:Program} {w:World} {base:Nat} {spare:Nat->Bool} {held:Bool}
theorem TyC.pack {n:Nat} {t:TypeId} {as:List AVal} (h:TyC P n t as):∃ x:AVal,x.cells=as/\(aG P t=true->∃ l,x= .agg l):=by
 cases n with
 | zero=>exact h.elim
 | succ n=>
  unfold TyC at h
  cases a:aG P t with
  | true=>exact ⟨.agg as,rfl,fun _=>⟨_,rfl⟩⟩
  | false=>
   unfold aG at a
   split at h
   .obtain ⟨b,rfl⟩:=h;exact ⟨.bool b,rfl,fun h=>by cases h⟩
   .rename_i k _;obtain ⟨m,rfl,_⟩:=h;exact ⟨.int k m,rfl,fun h=>by cases h⟩
   .obtain ⟨l,rfl,_⟩:=h;exact ⟨.str l,rfl,fun h=>by cases h⟩
   .grind
   .grind
   .rename_i e _;obtain ⟨xs,rfl,_⟩:=h;exact ⟨.slice (P.cellsOf e) xs .no,rfl,fun h=>by cases h⟩
   grind
end
def AG (M:Imm) (ob:Hs) (u:FrameMode):Option AVal->Prop
 | none=>u= .returning
 | some v=>∃ x,u= .panicking [{v:=x,recovered:=false}]/\Rep M ob x v
def sS (P:Program) (f:FuncId) (args:List AVal) (obs:List AObj) (p:Option AVal) (obs':List AObj):Prop:=
 ∀ M ob w a u,Mem M ob obs w->bT M ob a args->AG M ob u p->
  (callFunc f a.toArray).run P w= .ok (.enter f a.toArray) w/\
   CallsD P f a.toArray u w fun e b w'=>∃ v M' ob',e= .returned v/\settle b= .returning/\Ext M ob obs w M' ob' obs' w'/\Mem M' ob' obs' w'
section
variable {P:Program}
theorem KE {o:Oper} {a:Array TypeId} {ρ:Operand->Value} {w:World} (c:o.op= .call {callee:=.builtin .recover,args:= #[],argTypes:=a}):(execOp ρ o).run P w= .ok .recover w:=by
 obtain ⟨dst,op,ty,pos,b,d⟩:=o
 subst c
 rfl
theorem HQ {M:Imm} {ob:Hs} {u:FrameMode} {p:Option AVal} (h:AG M ob u p) (c:Frame) (cs:List Frame) (b:c.mode=u):
  ∃ v d,Rep M ob v (match p with | none=>.nilif | some a=>a)/\settle d= .returning/\
   ((recoverD (c::cs)=some (v,{c with mode:=d}::cs))\/(recoverD (c::cs)=none/\v= .nilIface/\({c with mode:=d}:Frame)=c)):=by
 cases p with
 | none=>
  have h:u= .returning:=h
  subst h
  refine ⟨.nilIface,.returning,.nilif,rfl,.inr ⟨by simp [recoverD,b],rfl,?_⟩⟩
  rw [<-b]
 | some a=>
  obtain ⟨x,rfl,e⟩:=h
  refine ⟨x,.panicking [{v:=x,recovered:=true}],e,rfl,.inl ?_⟩
  simp [recoverD,b]
end
def DV:Code->Code
 | .seq _ b=>b
 | c=>c
def aF5:Code->Bool
 | .seq (.region _ ops false) _=>(match ops.toList with
  | [o]=>(match o.op with
   | .call c=>(match c.callee with | .builtin .recover=>c.args.toList.isEmpty&&o.guard.isNone&&o.dst.isSome | _=>false)
   | _=>false)
  | _=>false)
 | _=>false
def UZ:Code->Nat
 | .seq (.region _ ops _) _=>(match ops.toList with | [o]=>o.dst.getD 0 | _=>0)
 | _=>0
theorem U1 {c:Code} (h:aF5 c=true):∃ id o a rest,c= .seq (.region id #[o] false) rest/\o.op= .call {callee:=.builtin .recover,args:= #[],argTypes:=a}/\o.guard=none/\o.dst=some (UZ c)/\DV c=rest:=by
 unfold aF5 at h
 split at h
 .rename_i id ops rest
  split at h
  .rename_i o l
   split at h
   .rename_i k g
    split at h
    .rename_i b
     simp only [Af] at h
     obtain ⟨⟨h1,m⟩,h3⟩:=h
     obtain ⟨f,as,a⟩:=k
     have b:f= .builtin .recover:=b
     subst b
     have e:ops= #[o]:=by cases ops;grind
     subst e
     have i:as= #[]:=by simp_all
     subst i
     obtain ⟨d,j⟩:=Db.1 h3
     refine ⟨id,o,a,rest,rfl,g,by simp_all,?_,rfl⟩
     simp [UZ,j]
    .cases h
   .cases h
  .cases h
 .cases h
theorem sS.of {E:Env} {f:FuncId} {fn:Func} {args:List AVal} {obs:List AObj} {n0:Nat} {r:AVal} {obs':List AObj} {p:Option AVal} (hdf:E.df=[]) (Z:E.P.funcs[f]? =some fn) (hb:fn.body=some (cC fn)) (hbo:pA E.P f)
  (T:aF5 (cC fn)=true) (U:cS fn.ntmps (DV (cC fn))=true) (hn:Ff args.length fn.ntmps=true) (Y:Eg (UZ (cC fn)) fn.ntmps=true) (hsb:pT obs=true) (hg:obs.length=n0)
  (h:okL args->To E fn (.full n0 (.ret r) obs') (.code [.code (DV (cC fn))] (gU (frA 0 args) (UZ (cC fn)) (match p with | none=>.nilif | some a=>a)) obs)) (z:E.rd=none:=by rfl):sS E.P f args obs p obs':=by
 intro M ob w g u hm hr G
 refine ⟨hbo _ _,?_⟩
 obtain ⟨id,o,ats,rest,hc,hop,hgd,R,V⟩:=U1 T
 rw [V] at h U
 have hlen:g.length=args.length:=hr.1
 have hle:=Cl hn
 have htl:UZ (cC fn)<fn.ntmps:=by simpa [Jc] using Y
 generalize htt:UZ (cC fn)=t at *
 have hst:nR (.full n0 (.ret r) obs') ob:=by
  refine ⟨by rw [hm.len,hg];rfl,fun _ hs O=>?_⟩
  obtain ⟨k,B⟩:=Ch O
  have L:k<obs.length:=by rw [<-hm.len];exact (Ac.1 B).1
  obtain ⟨h1,h2⟩:=nZ hsb k _ (Ab L)
  have e:=eV (Ab L)
  have:=hm.histLen (by rw [e];exact h1) B
  rw [e,h2] at this
  exact this
 intro c cs hu
 obtain ⟨v,y,X,S,F⟩:=HQ G c cs hu
 let b:Frame:={(default:Frame) with fn:=f,kind:=.deferred}
 let a:Act:={tmps:=g.toArray++Ey (fn.ntmps-g.toArray.size) undef,defers:=[]}
 have W:a.tmps.size=fn.ntmps:=by simp [a];omega
 have A:Frame.enter E.P f g.toArray .deferred=b.at a [.code (.seq (.region id #[o] false) rest)]:=by
  simp [Frame.enter,Frame.at,Z,hb,hc,b,a]
 have ha:∀ t,Rep M ob (a.tmps.getD t undef) (aR (frA 0 args) t):=fun t=>by
  rw [vF]
  simp only [Cc,if_true,Kb]
  by_cases Y:t<args.length
  .rw [Ab Y]
   have X:t<g.length:=o_
   have:a.tmps.getD t undef=g[t]:=by
    show (g.toArray++Ey (fn.ntmps-g.toArray.size) undef).getD t undef=_
    rw [Aw,Hq o_]
    simp [X]
   rw [this]
   exact hr.2 t _ _ (Ab X) (Ab Y)
  .rw [Bj o_]
   exact .undef _
 -- the region of recover
 have J:=wp_opsS (P:=E.P) (ops:= #[o]) (Q:=fun e a' cs' w'=>e= .normal/\a'=a.put o.dst v/\cs'={c with mode:=y}::cs/\w'=w) [0] a (c::cs) w (by
  have e0:(#[o]:Array Oper)[0]? =some o:=rfl
  have hw:Ds o (yielded #[o] a.tmps)=true:=by unfold Ds;rw [hgd]
  simp only [wpOpsS,e0,hw,if_true,KE hop]
  rcases F with h1 | ⟨h1,rfl,h2⟩
  .rw [h1]
   simp
  .rw [h1]
   refine ⟨?_,?_,?_,?_⟩<;>first | trivial | rfl | rw [h2]) b [.code rest] rfl rfl
 obtain ⟨e1,a1,cs1,C,⟨rfl,rfl,rfl,rfl⟩,D⟩:=J
 -- the rest
 have hkw:KW none E.P (jV E fn M ob obs C (.full n0 (.ret r) obs')) [.code rest] (a.put o.dst v) C:=by
  rw [<-z]
  obtain ⟨hh⟩:=h hr.okL
  refine hh (by simp [aV,KI.ok,U]) M ob obs C _ C hst ⟨M,ob,Ext.refl _ _ _ _,hm,?_,(dD _ _ _).1.trans W,by rw [hdf];exact cL.put (a:=a) .nil,by rw [hm.len];omega⟩
  intro s
  have:=kW (d:=some t) ha X (fun d' e=>by cases e;omega) s
  rw [R]
  rwa [show gT (aR (frA 0 args)) (some t) _ s=aR (gU (frA 0 args) t _) s from (congrFun (dK (frA 0 args) (some t) _) s).symm] at this
 obtain ⟨e2,I,w2,m,j⟩:=hkw.arrives b ({c with mode:=y}::cs) rfl
 have i:Steps E.P (lone (b.at a [.code (.seq (.region id #[o] false) rest)]) (c::cs) C) (lone (b.at (a.put o.dst v) [.code rest]) ({c with mode:=y}::cs) C):=
  .head step_seq (.head step_region D)
 have fin:∀ {e:Ending} {w':World},RR M ob obs C (.full n0 (.ret r) obs') e w'->∃ v M' ob',e= .returned v/\settle y= .returning/\Ext M ob obs C M' ob' obs' w'/\Mem M' ob' obs' w':=fun {e w'} ⟨M',ob',x1,x2,x3⟩=>by
  cases e with
  | returned v=>exact ⟨v,M',ob',rfl,S,x1,x2⟩
  | panicked ch=>exact x3.elim
  | outgrown=>exact x3.elim
 rw [A]
 cases e2 with
 | normal=>
  unfold jV vW at m
  rw [z] at m
  obtain ⟨K,x,n,N,hs,_,B,hl⟩:=cN I.defers .returning w2 {b.at I [] with mode:=.returning} ({c with mode:=y}::cs) rfl rfl rfl Z m
  exact ⟨K,y,x,n,fin N,Comes.of_steps (i.trans (Steps.trans j (.one step_end))) hs,B,hl⟩
 | ret=>
  obtain ⟨q,H⟩:=j
  unfold jV vW at m
  rw [z] at m
  obtain ⟨K,x,n,N,hs,_,B,hl⟩:=cN I.defers .returning w2 {b.at I q with mode:=.returning} ({c with mode:=y}::cs) rfl rfl rfl Z m
  exact ⟨K,y,x,n,fin N,Comes.of_steps (i.trans H) hs,B,hl⟩
 | panic dF=>
  obtain ⟨q,H⟩:=j
  unfold jV at m
  rw [z] at m
  obtain ⟨K,x,n,N,hs,_,B,hl⟩:=cN I.defers (.panicking dF) w2 {b.at I q with mode:=.panicking dF} ({c with mode:=y}::cs) rfl rfl rfl Z m
  exact ⟨K,y,x,n,fin N,Comes.of_steps (i.trans H) hs,B,hl⟩
 | exit id=>exact m.elim
 | goto l=>exact m.elim
 | outgrown=>exact m.elim
def aG9 (fr:List (Nat×AVal)):List Oper->Option (Nat×List AVal)
 | [p]=>(match p.guard,p.op with
  | none,.defer c=>(match c.callee with
   | .value (.func f)=>some (f,evO (ev fr) c.args.toList)
   | _=>none)
  | _,_=>none)
 | _=>none
theorem C6 (ρ:Operand->AVal):∀ (l:List Operand),evO ρ l=l.map ρ
 | []=>rfl
 | x::r=>by simp [evO,C6 ρ r]
def aAo (ks:List Nat) (og:Nat->AObj):Option AVal->Option AVal
 | none=>none
 | some v=>some (cvtV 0 ks og 5 v)
section
variable {E:Env} {fn:Func} {g:Goal}
theorem L8 {df:List (Nat×List AVal)} {id:Nat} {ops:Array Oper} {ks:List KI} {fr:List (Nat×AVal)} {obs:List AObj} {f:Nat} {args:List AVal} (k:aG9 fr ops.toList=some (f,args))
  (F:df=(f,args)::E.df)
  (B:E.rd=none) (h:dE {E with df:=df} fn g ks (match ops.toList with | [o]=>jN fr o.dst (.tup []) | _=>fr) obs):dE E fn g (.code (.region id ops false)::ks) fr obs:=by
 intro G M0 ob0 obs0 w0 a w hst hs
 simp only [aV,KI.ok,cS,Af] at G
 obtain ⟨⟨A,_⟩,C⟩:=G
 have m:=kA A
 unfold aG9 at k
 split at k
 .rename_i o n
  split at k
  .rename_i c L q
   split at k
   .rename_i Z l
    cases k
    rw [n] at h m
    dsimp only at h
    refine KW.code (Q':=QR {E with df:=df} fn g M0 ob0 obs0 w0 ks) ?_ (fun a w h=>h) (fun Y a w h=>h) (fun e a w N=>by
     cases e<;>first | exact .inl rfl | exact .inr ⟨_,rfl⟩ | exact N.elim)
    refine wpIn_region_list ?_
    rw [n]
    unfold wpListIn
    have V:Ds o (yielded ops a.tmps)=true:=by unfold Ds;rw [L]
    rw [if_pos V]
    obtain ⟨dst,op,ty,pos,p,X⟩:=o
    have q:op= .defer c:=q
    subst q
    obtain ⟨D,as,u⟩:=c
    have l:D= .value (.func f):=l
    subst l
    have s:(execOp a.eval ⟨dst,.defer ⟨.value (.func f),as,u⟩,ty,pos,p,X⟩).run E.P w= .ok (.defer {target:=.fn (.func f) #[],args:= #[]++as.map a.eval}) w:=rfl
    refine ⟨fun _ _=>trivial,?_⟩
    rw [show (fen E.rd).round=none from B,Oper.semAt_none,s,Oper.uponIn_defer]
    obtain ⟨M,ob,S,R,H,J,t,T⟩:=hs
    refine h C M0 ob0 obs0 w0 _ w hst ⟨M,ob,S,R,?_,(dD _ _ _).1.trans J,?_,T⟩
    .rw [dK]
     exact kW (a:={a with defers:={target:=Target.fn (Fn.func f) #[],args:= #[]++Array.map a.eval as}::a.defers}) H rJ fun K e=>J▸m _ (Bf.2 rfl) K e
    .rw [F]
     obtain ⟨Q,W,O,t,U⟩:=t
     refine cL.put (a:={a with defers:=_}) ⟨_::Q,W,by rw [O];rfl,⟨by simp [t.1],fun i d x k s=>?_⟩,U⟩
     cases i with
     | zero=>
      simp at k s
      subst k s
      refine ⟨rfl,?_,fun j v b z r=>?_⟩
      .simp [C6]
      .rw [C6,Bd] at r
       simp only [Array.empty_append,Jf,Bd] at z
       cases I:as.toList[j]? with
       | none=>rw [I] at r;cases r
       | some y=>
        rw [I] at r z
        cases r
        cases z
        exact xD H y
     | succ i=>exact t.2 i d x (by simpa using k) (by simpa using s)
   .cases k
  .cases k
 .cases k
theorem To.defer (df:List (Nat×List AVal)) {id:Nat} {ops:Array Oper} {ks:List KI} {fr:List (Nat×AVal)} {obs:List AObj} {f:Nat} {args:List AVal} (c:aG9 fr ops.toList=some (f,args)) (b:df=(f,args)::E.df)
  (h:To {E with df:=df} fn g (.code ks (match ops.toList with | [o]=>jN fr o.dst (.tup []) | _=>fr) obs)) (a:E.rd=none:=by rfl):To E fn g (.code (.code (.region id ops false)::ks) fr obs):=
 .mk (h.rec fun h=>L8 c b a h)
theorem B4 {M0:Imm} {ob0:Hs} {obs0:List AObj} {w0:World} {sz:Nat} {f:Nat} {args:List AVal} {rest:List (Nat×List AVal)} {M:Imm} {ob:Hs} {obs obs':List AObj} {w:World} {a:Act} {u:FrameMode} {p:Option AVal} (c ks:List Nat)
  {fr:List (Nat×AVal)} (S:Ext M0 ob0 obs0 w0 M ob obs w) (H:Mem M ob obs w) (T:∀ t,Rep M ob (a.tmps.getD t undef) (aR fr t)) (Y:a.tmps.size=sz) {r:List Deferred} (n:cL w0 w M ob r ((f,args)::rest)) (x6:ob0.length<=obs.length)
  (y:iV ks (frzs c obs)=true) (s:AG M ob u p)
  (h:sS E.P f (dH (cvtV 0 ks (aC (frzs c obs)) 5) args) (fN 0 ks (frzs c obs)) (aAo ks (aC (frzs c obs)) p) obs') {R:Ending->World->Prop}
  (hl:∀ (o:List Deferred) w',SS M0 ob0 obs0 w0 sz rest fr (fI ks (aM (frzs c obs)) (frzs c obs) 0 obs' (frzs c obs)) {a with defers:=o} w'->eJ E.P fn a.tmps R o .returning w'):eJ E.P fn a.tmps R r u w:=by
 obtain ⟨C,k,rfl,n,U⟩:=n
 cases C with
 | nil=>have:=n.1;simp at this
 | cons d r=>
  obtain ⟨g,b⟩:=n.2 0 d _ rfl rfl
  obtain ⟨B,z,D,_,_⟩:=Mem.frzs c M obs H
  obtain ⟨W,_,_⟩:=z.cvt (n0:=0) y
  have l:bT B _ d.args.toList (dH (cvtV 0 ks (aC (frzs c obs)) 5) args):=rQ (fun v a=>z.cvtV (n0:=0) y 5 v a) ⟨b.1,fun i v a A F=>(b.2 i v a A F).monoM D.imm⟩
  have m:AG B (dY 0 ob (frzs c obs) 0 ks) u (aAo ks (aC (frzs c obs)) p):=by
   cases p with
   | none=>exact s
   | some v=>
    obtain ⟨x,e,L⟩:=s
    exact ⟨x,e,z.cvtV y 5 _ _ (L.monoM D.imm)⟩
  obtain ⟨h1,V⟩:=h B _ w d.args.toList u W l m
  have I:u≠ .run:=by
   cases p with
   | none=>have:u= .returning:=s;rw [this];simp
   | some v=>obtain ⟨x,e,_⟩:=s;rw [e];simp
  obtain ⟨G,q⟩:=d
  have g:G= .fn (.func f) #[]:=g
  subst g
  refine ⟨I,.inr ⟨.func f,#[],f,q,rfl,?_,?_⟩⟩
  .show (callFunc f (q++ #[])).run E.P w=_
   simp;omega
  .refine V.mono fun e u' w' ⟨v,M',N,Q,K,e3,O⟩=>?_
   subst Q
   dsimp only
   rw [K]
   obtain ⟨J,X,_⟩:=z.emb y e3 O
   have ext:=D.trans X
   refine hl (r++k) w' ?_
   rw [bD]
   refine ⟨M',_,S.trans ext,J,fun t=>(T t).mono ext.imm ext.hs,Y,?_,?_⟩
   .refine ⟨r,k,rfl,⟨by have:=n.1;simpa using this,fun i d x hd Z=>?_⟩,(cL.ext (M:=M) (ob:=ob) ⟨[],k,rfl,.nil,U⟩ H ext).marks⟩
    have:=n.2 (i+1) d x q_ q_
    exact ⟨this.1,this.2.1,fun j v a A F=>(this.2.2 j v a A F).mono ext.imm ext.hs⟩
   .have:=ext.lens
    have:=J.len
    have:=H.len
    omega
theorem To.leave (df:List (Nat×List AVal)) {f:Nat} {args:List AVal} (j:E.df=(f,args)::df) (b ks:List Nat) {p:Option AVal} {fr:List (Nat×AVal)} {obs obs':List AObj} (q:iV ks (frzs b obs)=true)
  (h:sS E.P f (dH (cvtV 0 ks (aC (frzs b obs)) 5) args) (fN 0 ks (frzs b obs)) (aAo ks (aC (frzs b obs)) p) obs')
  (d:To {E with df:=df} fn g (.leave none fr (fI ks (aM (frzs b obs)) (frzs b obs) 0 obs' (frzs b obs)))):To E fn g (.leave p fr obs):=by
 obtain ⟨d⟩:=d
 have d:aCc {E with df:=df} fn g fr (fI ks (aM (frzs b obs)) (frzs b obs) 0 obs' (frzs b obs)):=d
 refine .mk ?_
 cases p with
 | none=>
  intro M0 ob0 obs0 w0 a w hst ⟨M,ob,l,k,m,o,i,n⟩
  rw [j] at i
  exact B4 (p:=none) b ks l k m o i n q rfl h fun c w' hs=>d M0 ob0 obs0 w0 {a with defers:=c} w' hst hs
 | some v=>
  intro M0 ob0 obs0 w0 s a w hst ⟨M,ob,l,k,⟨x,e,r⟩,m,o,i,n⟩
  rw [j] at i
  exact B4 (p:=some v) b ks l k m o i n q ⟨x,by rw [e],r⟩ h fun c w' hs=>d M0 ob0 obs0 w0 {a with defers:=c} w' hst hs
theorem To.left (hE:EnvOK E) (c:E.df=[]) {fr:List (Nat×AVal)} {obs:List AObj} {v:AVal} (d:Y8 E obs fn.results.toList fr=some v) (h:MH g .ret v obs) (b:E.rd=none:=by rfl):To E fn g (.leave none fr obs):=
 .mk fun M0 ob0 obs0 w0 a w hst hs=>go_ret hE c b d h hst hs
end
def lE (r:Nat):Code->List KI->Option (List KI)
 | .region id _ _,ks=>bif Av id r then some ks else none
 | .seq a b,ks=>(match lE r a (.code b::ks) with | some x=>some x | none=>lE r b ks)
 | .cond _ a b,ks=>(match lE r a ks with | some x=>some x | none=>lE r b ks)
 | .block id b,ks=>lE r b (.inB id::ks)
 | .loop b,ks=>lE r b (.inL b::ks)
 | _,_=>none
def oU (fn:Func) (r:Nat):List KI:=match lE r (cC fn) [] with | some ks=>ks | none=>[]
theorem To.cutC {E:Env} {fn:Func} {g:Goal} {ks:List KI} {fr:List (Nat×AVal)} {obs:List AObj} (l:List Nat) (n:Nat) (a:Ff g.n0 n=true) (c:aBW n (mT l fr)=true) (b:EK n (mW n obs)=true) (d:WU n E.df=true)
  (h:To E fn g (.code ks (mT l fr) (mW n obs))):To E fn g (.code ks fr obs):=by
 have:=To.cut (E:=E) (fn:=fn) (g:=g) (ks:=ks) (fr:=fr) (obs:=obs) l n a c b d (h.rec fun h=>.mk h)
 exact this.rec fun h=>.mk h
def SB:St->Bool
 | .head _ _ _=>false
 | _=>true
theorem goN {E:Env} {fn:Func} {g:Goal} (hE:EnvOK E) (a:Nat) {st:St} (_hs:SB st=true) (h:bJ E fn g (To E fn g) a st):To E fn g st:=cX hE a h
theorem LW (k:IntKind):∃ p,bI k+1=2 ^ p/\p<=k.bits:=by
 cases k
 .exact ⟨7,by decide,by decide⟩
 .exact ⟨15,by decide,by decide⟩
 .exact ⟨31,by decide,by decide⟩
 .exact ⟨63,by decide,by decide⟩
 .exact ⟨8,by decide,by decide⟩
 .exact ⟨16,by decide,by decide⟩
 .exact ⟨32,by decide,by decide⟩
 .exact ⟨64,by decide,by decide⟩
theorem aDL (k:IntKind):bW k<=0:=by cases k<;>decide
theorem SQ {k:IntKind} {a:Nat} (h:(a:Int)<=bI k):inR k a:=⟨Es (aDL k) (Int.natCast_nonneg a),h⟩
theorem rO (n a:Nat) (h:a<2 ^ n):(BitVec.ofInt n (a:Int)).toNat=a:=by
 grind
theorem H9 {k:IntKind} {a p:Nat} (hp:bI k+1=2 ^ p) (h:(a:Int)<=bI k):a<2 ^ p:=by
 grind
theorem aAC {k:IntKind} {a p:Nat} (hp:bI k+1=2 ^ p) (h:a<2 ^ p):(a:Int)<=bI k:=by
 grind
theorem aBD (k:IntKind) (a b:Nat) (g:(a:Int)<=bI k) (e:(b:Int)<=bI k):iX .or k a b=((a ||| b:Nat):Int):=by
 obtain ⟨p,hp,c⟩:=LW k
 have h1:=H9 hp g
 have f:=H9 hp e
 have d:2 ^ p<=2 ^ k.bits:=Hk d_ c
 simp only [iX,BitVec.toNat_or,rO k.bits a o_,rO k.bits b o_]
 exact iT (SQ (aAC hp (Nat.or_lt_two_pow h1 f)))
theorem WI (k:IntKind) (a b:Nat) (g:(a:Int)<=bI k) (e:(b:Int)<=bI k):iX .and k a b=((a &&& b:Nat):Int):=by
 obtain ⟨p,hp,c⟩:=LW k
 have h1:=H9 hp g
 have f:=H9 hp e
 have d:2 ^ p<=2 ^ k.bits:=Hk d_ c
 simp only [iX,BitVec.toNat_and,rO k.bits a o_,rO k.bits b o_]
 exact iT (SQ (aAC hp (Nat.and_lt_two_pow _ f)))
def WN (n0:Nat) (ks:List Nat) (og:Nat->AObj):List (Nat×AVal)->List (Nat×AVal)
 | []=>[]
 | (i,v)::r=>(i,cvtV n0 ks og 5 v)::WN n0 ks og r
theorem wW (n0:Nat) (ks:List Nat) (og:Nat->AObj) (t:Nat):∀ (fr:List (Nat×AVal)),aR (WN n0 ks og fr) t=cvtV n0 ks og 5 (aR fr t)
 | []=>rfl
 | (i,v)::r=>by
  simp only [WN,aR]
  cases Av i t with
  | true=>rfl
  | false=>exact wW n0 ks og t r
theorem To.part {E:Env} {fn:Func} {g:Goal} {st:List KI} {fr:List (Nat×AVal)} {obs:List AObj} (l:List Nat) (ks:List Nat) (q:E.df=[]) (x:iV ks obs=true) (u:lF g.n0 0 ks=true)
  (h:To E fn g (.head st (WN g.n0 ks (aC obs) (mT l fr)) (fN g.n0 ks obs))) (f:g.strict=true:=by rfl):To E fn g (.head st fr obs):=
 .mk fun o M0 ob0 obs0 w0 a w hst hs=>by
  refine h.rec fun h=>h o M0 ob0 obs0 w0 a w hst ?_
  obtain ⟨M,ob,c,hm,i,F,v,I⟩:=hs
  obtain ⟨G,C,_⟩:=hm.cvt (n0:=g.n0) x
  have s:ob0.length=g.n0:=hst.1
  have y:(fN g.n0 ks obs).length=ks.length:=by unfold fN;rw [mN]
  have H:ob0.length<=ks.length:=by
   rw [s]
   rcases Gf g.n0 with z | z
   .omega
   .have:=jU u (g.n0-1) o_
    have:=(Ac.1 this).1
    omega
  refine ⟨M,_,⟨c.imm,c.new,fun j hs p=>?_,c.os,c.tape,c.output,c.size,c.keep,fun j b D=>?_⟩,G,fun t=>?_,F,?_,by omega⟩
  .have n:j<g.n0:=by rw [<-s];exact (Ac.1 p).1
   have d:=jU u j n
   rw [Cb] at d
   obtain ⟨hs',A,t,r⟩:=c.hs j hs p
   have B:=hst.2 f hs (Az p)
   refine ⟨gL g.n0 j (aC obs j) hs',?_,?_⟩
   .rw [fS,d]
    simp [A]
   .unfold gL
    split
    .rw [<-r]
     have:(hs++t).take 1=hs:=by rw [Ej o_,Cn o_]
     rw [this]
     simp
    .exact ⟨t,r⟩
  .obtain ⟨k,_,m⟩:=C j b D
   exact c.fresh k b m
  .rw [wW]
   have:Rep M ob (a.tmps.getD t undef) (aR (mT l fr) t):=by
    rcases oQ fr t l with e | e
    .rw [e];exact i t
    .rw [e];exact .undef _
   exact hm.cvtV (n0:=g.n0) x 5 _ _ this
  .rw [q] at v⊢
   exact v.bare
def UE:List AVal->Nat->AVal->List AVal
 | [],_,_=>[]
 | _::r,0,x=>x::r
 | c::r,n+1,x=>c::UE r n x
theorem RP:∀ (l:List AVal) (n:Nat) (x:AVal),UE l n x=l.set n x
 | [],_,_=>rfl
 | _::_,0,_=>rfl
 | c::r,n+1,x=>by simp [UE,RP r n x]
def lP:List AObj->AObj->List AObj
 | [],x=>[x]
 | c::r,x=>c::lP r x
theorem pW:∀ (l:List AObj) (x:AObj),lP l x=l++[x]
 | [],_=>rfl
 | c::r,x=>by simp [lP,pW r x]
theorem Mem.beginC {M:Imm} {ob:Hs} {obs:List AObj} {w:World} (hm:Mem M ob obs w) {k i sz:Nat} {T e:TypeId} {cs:List AVal} (F:obs[k]? =some (.cells T cs)) (L:cs[i]? =some (.slice sz [] .nil)):
  Mem M (ob++[[.slice none 0 0]]) (obs.set k (.cells T (cs.set i (.slice sz [] (.own obs.length 0))))++[.tail 0 sz e]) w/\
   Ext M ob obs w M (ob++[[.slice none 0 0]]) (obs.set k (.cells T (cs.set i (.slice sz [] (.own obs.length 0))))++[.tail 0 sz e]) w/\dR ob (ob++[[.slice none 0 0]]):=by
 have l:dR ob (ob++[[.slice none 0 0]]):=fun j hs f=>⟨hs,by rw [Ag (Ac.1 f).1];exact f,Dd _⟩
 have p:k<obs.length:=(Ac.1 F).1
 have d:(ob++[[.slice none 0 0]])[obs.length]? =some [.slice none 0 0]:=by rw [<-hm.len];simp
 have y:at' (ob++[[.slice none 0 0]]) obs.length 0=some (.slice none 0 0):=by rw [cA d];rfl
 have r:∀ {j:Nat} {c:AObj},(obs.set k (.cells T (cs.set i (.slice sz [] (.own obs.length 0))))++[.tail 0 sz e])[j]? =some c->
   (j=obs.length/\c= .tail 0 sz e)\/(j=k/\c= .cells T (cs.set i (.slice sz [] (.own obs.length 0))))\/(j≠k/\j<obs.length/\obs[j]? =some c):=fun {j c} f=>by
  by_cases I:j<obs.length
  .rw [Ag q_] at f
   by_cases q:j=k
   .subst q
    rw [Ba I] at f
    grind
   .rw [Bh (Eu q)] at f
    grind
  .have m:j=obs.length:=by
    have:=(Ac.1 f).1
    simp at this
    omega
   subst m
   rw [Ar s_] at f
   simp at f
   grind
 have u:∀ {j b:Nat},aK (ob++[[.slice none 0 0]]) (obs.set k (.cells T (cs.set i (.slice sz [] (.own obs.length 0))))++[.tail 0 sz e]) j b->aK ob obs j b:=fun {j b} ⟨c,hs,o,s,e3,e4⟩=>by
  rcases r o with ⟨rfl,rfl⟩ | ⟨rfl,rfl⟩ | ⟨h1,m,h3⟩
  .rw [d] at e3
   cases e3
   cases e4
  .rw [Ag (by rw [hm.len];exact p)] at e3
   exact ⟨_,hs,F,rfl,e3,e4⟩
  .rw [Ag (by rw [hm.len];exact m)] at e3
   exact ⟨c,hs,h3,s,e3,e4⟩
 have G:∀ (j:Nat) c,(obs.set k (.cells T (cs.set i (.slice sz [] (.own obs.length 0))))++[.tail 0 sz e])[j]? =some c->∃ hs,(ob++[[.slice none 0 0]])[j]? =some hs/\gR M (ob++[[.slice none 0 0]]) w hs c:=fun j c f=>by
  rcases r f with ⟨rfl,rfl⟩ | ⟨rfl,rfl⟩ | ⟨h1,m,h3⟩
  .exact ⟨_,d,rfl,_,rfl,0,[],Hh w 0 _ _,fun b N=>by cases N⟩
  .obtain ⟨hs,o,b,D,A,cv,z,J,H,x⟩:=hm.obj _ _ F
   refine ⟨hs,by rw [Ag (by rw [hm.len];exact p)];exact o,b,D,A,cv,z,by simp;omega,H,fun n v a t g=>?_⟩
   by_cases K:n=i
   .subst K
    have C:n<cs.length:=(Ac.1 L).1
    rw [Ba C] at g
    cases g
    have:=x n v _ t L
    obtain ⟨_,B⟩:=this.untok
    have B:v= .slice none 0 0:=B
    subst B
    exact .slnil _ _ y
   .rw [Bh (Eu K)] at g
    exact (x n v a t g).mono (fun _ _ _ h=>h) l
  .obtain ⟨hs,o,s⟩:=hm.obj j c h3
   refine ⟨hs,by rw [Ag (by rw [hm.len];exact m)];exact o,?_⟩
   cases c with
   | cells P cs'=>
    obtain ⟨b,D,A,cv,z,J,H,x⟩:=s
    exact ⟨b,D,A,cv,z,J,H,fun n v a t g=>(x n v a t g).mono (fun _ _ _ h=>h) l⟩
   | _=>exact s
 refine ⟨⟨hm.imm,by simp [hm.len],G,fun j b g=>hm.lt j b (u g),fun j O b h1 m=>hm.inj j O b (u h1) (u m)⟩,⟨fun _ _ _ h=>h,fun _ _ _ h=>.inl h,l,rfl,rfl,rfl,Bi _,fun _ _ _=>rfl,fun j b g=>.inl ⟨j,u g⟩⟩,l⟩
theorem To.begin {E:Env} {fn:Func} {g:Goal} {st:List KI} {fr:List (Nat×AVal)} {obs:List AObj} (k i:Nat) (e:TypeId) {T:TypeId} {cs:List AVal} {sz:Nat} (o:aC obs k= .cells T cs) (q:nth cs i=some (.slice sz [] .nil))
  (h:To E fn g (.head st fr (lP (bH obs k (.cells T (UE cs i (.slice sz [] (.own (aM obs) 0))))) (.tail 0 sz e)))):To E fn g (.head st fr obs):=
 .mk fun d M0 ob0 obs0 w0 a w hst hs=>by
  refine h.rec fun h=>h d M0 ob0 obs0 w0 a w hst ?_
  obtain ⟨M,ob,l,hm,c,n,m,r⟩:=hs
  have b:=bL o s_
  obtain ⟨j,p,f⟩:=hm.beginC (e:=e) b (gJ q)
  rw [pW,RP,bD,aO b]
  exact ⟨M,_,l.trans p,j,fun t=>(c t).mono (fun _ _ _ h=>h) f,n,m.mono (fun _ _ _ h=>h) f,by simp;omega⟩
def mapO (f:AVal->AVal):AObj->AObj
 | .cells T cs=>.cells T (dH f cs)
 | x=>x
def BZ (f:AVal->AVal):List AObj->List AObj
 | []=>[]
 | x::r=>mapO f x::BZ f r
theorem BY (f:AVal->AVal):∀ (l:List AObj),BZ f l=l.map (mapO f)
 | []=>rfl
 | x::r=>by simp [BZ,BY f r]
theorem aA.mapO {P:Program} {f:FuncId} {args:List AVal} {obs obs':List AObj} {r:Res} (g:AVal->AVal) (B:∀ (M:Imm) (ob:Hs) v a,Rep M ob v a->Rep M ob v (g a)) (h:aA P f args obs r obs'):aA P f args obs r (BZ g obs'):=by
 rw [BY]
 intro M ob w m hm z
 have key:∀ {e:Ending} {w':World},(∃ M' ob',Ext M ob obs w M' ob' obs' w'/\Mem M' ob' obs' w'/\rD M' ob' e r)->∃ M' ob',Ext M ob obs w M' ob' (obs'.map (AW.mapO g)) w'/\Mem M' ob' (obs'.map (AW.mapO g)) w'/\rD M' ob' e r:=by
  rintro e w' ⟨M',ob',h1,l,h3⟩
  have own:∀ x:AObj,(AW.mapO g x).owns=x.owns:=fun x=>by cases x<;>rfl
  have p:∀ {k b:Nat},aK ob' (obs'.map (AW.mapO g)) k b->aK ob' obs' k b:=fun {k b} ⟨c,hs,n,q,e3,e4⟩=>by
   rw [Bd] at n
   cases o:obs'[k]? with
   | none=>simp_all
   | some x=>
    rw [o] at n
    cases n
    exact ⟨x,hs,o,by grind,e3,e4⟩
  refine ⟨M',ob',⟨h1.imm,h1.new,h1.hs,h1.os,h1.tape,h1.output,h1.size,h1.keep,fun k b d=>h1.fresh k b (p d)⟩,⟨l.imm,by simpa using l.len,fun k c s=>?_,fun k b d=>l.lt k b (p d),fun i j b d F=>l.inj i j b (p d) (p F)⟩,h3⟩
  rw [Bd] at s
  cases o:obs'[k]? with
  | none=>grind
  | some x=>
   rw [o] at s
   cases s
   obtain ⟨hs,n,q⟩:=l.obj k x o
   refine ⟨hs,n,?_⟩
   cases x with
   | cells T cs=>
    obtain ⟨b,G,D,cv,C,J,H,I⟩:=q
    refine ⟨b,G,D,cv,C,by rw [uU];simp;omega,H,fun i v a A d=>?_⟩
    rw [uU,Bd] at d
    cases t:cs[i]? with
    | none=>rw [t] at d;cases d
    | some y=>rw [t] at d;cases d;exact B _ _ _ _ (I i v y A t)
   | _=>exact q
 rcases h M ob w m hm z with ⟨h1,l⟩ | ⟨u,w',h1,l⟩
 .exact .inl ⟨h1,l.mono fun e w' h=>key h⟩
 .exact .inr ⟨u,w',h1,key l⟩
theorem aA.loose {P:Program} {f:FuncId} {args:List AVal} {obs obs':List AObj} {r:Res} (h:aA P f args obs r obs'):aA P f args obs r (BZ (AW.strip 5) obs'):=
 h.mapO _ fun _ _ _ _=>mO 5
def CR (l:List Nat) (og:Nat->AObj):List (Nat×AVal)->List (Nat×AVal)
 | []=>[]
 | (i,v)::r=>(i,bif sB i l then pureV og 5 v else v)::CR l og r
theorem FZ (l:List Nat) (og:Nat->AObj) (t:Nat):∀ (fr:List (Nat×AVal)),aR (CR l og fr) t=aR fr t\/aR (CR l og fr) t=pureV og 5 (aR fr t)
 | []=>.inl rfl
 | (i,v)::r=>by
  simp only [CR,aR]
  cases Av i t with
  | true=>
   grind
  | false=>exact FZ l og t r
theorem To.frz {E:Env} {fn:Func} {g:Goal} {st:List KI} {fr:List (Nat×AVal)} {obs:List AObj} (l c:List Nat)
  (h:To E fn g (.code st (CR l (aC (AW.frzs c obs)) fr) (AW.frzs c obs))):To E fn g (.code st fr obs):=
 .mk fun f M0 ob0 obs0 w0 a w hst hs=>by
  refine h.rec fun h=>h f M0 ob0 obs0 w0 a w hst ?_
  obtain ⟨M,ob,j,hm,b,m,k,o⟩:=hs
  obtain ⟨M',i,d,_,n⟩:=Mem.frzs c M obs hm
  refine ⟨M',ob,j.trans d,i,fun t=>?_,m,k.mono d.imm (dR.refl _),by omega⟩
  rcases FZ l (aC (AW.frzs c obs)) t fr with e | e
  .rw [e];exact (b t).monoM d.imm
  .rw [e];exact (i.pureV 5 _ _ ((b t).monoM d.imm)).pure
structure Bulk (H:Type) (N:Nat) (G:DataW H->Prop):Prop where
 str:∀ (l:List UInt8),G (.lit (.string l))->l.length<=N
 sl:∀ (e r:List (DataW H)),G (.slice e r)->e.length<=N/\∀ d∈e,G d
 agg:∀ (l:List (DataW H)),G (.agg l)->∀ d∈l,G d
def TyN (P:Program) (N:Nat):Nat->TypeId->List AVal->Prop
 | 0,_,_=>False
 | n+1,t,cs=>match P.underlying t with
  | some .bool=>∃ b,cs=[.bool b]
  | some (.int k)=>∃ m,cs=[.int k m]/\inR k m
  | some .string=>∃ l,cs=[.str l]/\l.length<=N
  | some (.struct fs)=>TyF (TyN P N n) fs.toList cs
  | some (.array m e)=>∃ xs:List (List AVal),xs.length=m/\(∀ x∈xs,TyN P N n e x)/\cs=xs.flatten
  | some (.slice e)=>∃ xs,cs=[.slice (P.cellsOf e) xs .no]/\xs.length<=N/\∀ x∈xs,TyN P N n e x.cells/\(aG P e=true->∃ l,x= .agg l)/\(aG P e=false->x.cells=[x])
  | _=>False
section
variable {H:Type} {N:Nat} {G:DataW H->Prop} {enc:TypeId×Value->H} {P:Program} {w:World} {base:Nat} {spare:Nat->Bool} {held:Bool}
theorem TyN.pack {n:Nat} {t:TypeId} {as:List AVal} (h:TyN P N n t as):∃ x:AVal,x.cells=as/\(aG P t=true->∃ l,x= .agg l)/\(aG P t=false->x.cells=[x]):=by
 cases n with
 | zero=>exact h.elim
 | succ n=>
  unfold TyN at h
  cases a:aG P t with
  | true=>exact ⟨.agg as,rfl,(fun _=>⟨_,rfl⟩),fun h=>by cases h⟩
  | false=>
   unfold aG at a
   split at h
   .obtain ⟨b,rfl⟩:=h;exact ⟨.bool b,rfl,(fun h=>by cases h),fun _=>rfl⟩
   .rename_i k _;obtain ⟨m,rfl,_⟩:=h;exact ⟨.int k m,rfl,(fun h=>by cases h),fun _=>rfl⟩
   .obtain ⟨l,rfl,_⟩:=h;exact ⟨.str l,rfl,(fun h=>by cases h),fun _=>rfl⟩
   .grind
   .grind
   .rename_i e _;obtain ⟨xs,rfl,_⟩:=h;exact ⟨.slice (P.cellsOf e) xs .no,rfl,(fun h=>by cases h),fun _=>rfl⟩
   grind
end
open Go.RowKit Go.Sort
theorem VI (g:AVal->AVal) (x:AObj):(mapO g x).owns=x.owns:=by cases x<;>rfl
theorem rZ {g:AVal->AVal} {ob:Hs} {obs:List AObj} {k b:Nat} (h:aK ob (obs.map (mapO g)) k b):aK ob obs k b:=by
 obtain ⟨c,hs,a,f,e3,e⟩:=h
 rw [Bd] at a
 cases d:obs[k]? with
 | none=>simp_all
 | some x=>
  rw [d] at a
  cases a
  exact ⟨x,hs,d,by rw [<-VI g];exact f,e3,e⟩
theorem Mem.mapO {M:Imm} {ob:Hs} {obs:List AObj} {w:World} {g:AVal->AVal} (o:∀ (M:Imm) (ob:Hs) v a,Rep M ob v a->Rep M ob v (g a)) (e:Mem M ob obs w):Mem M ob (obs.map (AW.mapO g)) w:=by
 refine ⟨e.imm,by simpa using e.len,fun k c f=>?_,fun k b d=>e.lt k b (rZ d),fun i j b d s=>e.inj i j b (rZ d) (rZ s)⟩
 rw [Bd] at f
 cases m:obs[k]? with
 | none=>grind
 | some x=>
  rw [m] at f
  cases f
  obtain ⟨hs,q,l⟩:=e.obj k x m
  refine ⟨hs,q,?_⟩
  cases x with
  | cells T cs=>
   obtain ⟨b,t,r,cv,p,A,u,z⟩:=l
   refine ⟨b,t,r,cv,p,by rw [uU];simp;omega,u,fun i v a n d=>?_⟩
   rw [uU,Bd] at d
   cases h:cs[i]? with
   | none=>rw [h] at d;cases d
   | some y=>rw [h] at d;cases d;exact o _ _ _ _ (z i v y n h)
  | _=>exact l
theorem Ext.mapO {M M':Imm} {ob ob':Hs} {obs0 obs:List AObj} {w w':World} {g:AVal->AVal} (h1:Ext M ob obs0 w M' ob' obs w'):Ext M ob obs0 w M' ob' (obs.map (AW.mapO g)) w':=
 ⟨h1.imm,h1.new,h1.hs,h1.os,h1.tape,h1.output,h1.size,h1.keep,fun k b a=>h1.fresh k b (rZ a)⟩
theorem To.mapO {E:Env} {fn:Func} {g:Goal} {st:List KI} {fr:List (Nat×AVal)} {obs:List AObj} (f:AVal->AVal) (j:∀ (M:Imm) (ob:Hs) v a,Rep M ob v a->Rep M ob v (f a))
  (h:To E fn g (.code st fr (BZ f obs))):To E fn g (.code st fr obs):=
 .mk fun c M0 ob0 obs0 w0 a w hst hs=>by
  rw [BY] at h
  refine h.rec fun h=>h c M0 ob0 obs0 w0 a w hst ?_
  obtain ⟨M,ob,d,hm,b,i,e,k⟩:=hs
  exact ⟨M,ob,d.mapO,hm.mapO j,b,i,e,by simp_all⟩
theorem To.loose {E:Env} {fn:Func} {g:Goal} {st:List KI} {fr:List (Nat×AVal)} {obs:List AObj} (h:To E fn g (.code st fr (BZ (strip 5) obs))):To E fn g (.code st fr obs):=
 h.mapO _ fun _ _ _ _=>mO 5
end Go.AW
