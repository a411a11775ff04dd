/-
  The engine, second make, fourth part: ranges over functions, families of rows, regions whose order is drawn. Over any program.
-/
import Derived.Test.YtmalnhgopkfdaaaGreatWCD
set_option linter.all false
open And renaming intro->Aa
open Array renaming getD_eq_getD_getElem?->Ap,getElem?_eq_getElem->Dt,getElem?_eq_none->Hd,getElem?_eq_some_iff->Ef,getElem?_setIfInBounds_ne->Ci,getElem?_setIfInBounds_self_of_lt->Ca,replicate->Dw
open Bool renaming and_eq_true->Ad,and_false->Bo,and_true->Ga,not_eq_true'->Cb,or_eq_false_iff->Km,or_eq_true->Dg,true_and->Bt
open Go.Builtin renaming append_->Cd
open Go.Region renaming ready->Da,wanted->Cw
open Go.Value renaming int->Hl
open Go.World renaming block_lt_of_cell?->Cj,cell?->Jg,cell?_of_block->Cg,ownsRow_nil->Gg,putObj_heap_other->Ey,putObj_heap_same->Jx
open List renaming all_eq_true->Cl,drop_eq_getElem_cons->Ae,eq_nil_iff_forall_not_mem->Es,eq_nil_of_length_eq_zero->Au,getElem?_append_left->Ah,getElem?_append_right->Aq,getElem?_eq_none->Bf,getElem?_eq_some_iff->Ab,getElem?_map->Bb,getElem?_of_mem->Cz,getElem?_set_ne->Bd,getElem?_set_self->Ax,length_append->Ag,length_erase_of_mem->Gt,length_pos_of_mem->Hf,length_take->Cq,map_append->Cf,mem_append->Ba,mem_append_left->Hw,mem_append_right->Hh,mem_cons->Bh,mem_cons_of_mem->Co,mem_cons_self->Bl,mem_filter->Jz,mem_map->Cy,mem_of_getElem?->Aw,mem_range->Gj,mem_singleton->Df,nodup_append->Ck,nodup_cons->Dr,not_mem_nil->Fs,prefix_refl->Cr,range->Dc,replicate->Ai,take_append_drop->Fj,take_append_of_le_length->Dd,take_of_length_le->Cs
open List.Sublist renaming refl->Kx
open Nat renaming beq->Ar,beq_refl->Jt,ble->Ea,blt->Du,blt_eq->Ep,div_one->Ki,eq_of_beq_eq_true->Hi,le_of_ble_eq_true->Bw,le_refl->Bc,le_trans->Cx,lt_of_lt_of_le->Dn,min_eq_left->Ei,mod_one->Kh,zero_add->Bk
open Ne renaming symm->Ds
open Option renaming map_eq_some_iff->Bx
open Option.some renaming inj->Fl
namespace Go.AW
open Go.RowKit
open Classical
def cA (l:Nat) (R:Loop):BInv where
 inv _ bs w:=bs=[l]/\w.heap[l]? =some (.loop R)
 mono:=fun _ _ hb ⟨h1,h2⟩=>⟨h1,hb _ _ (by rw [h1];simp) h2⟩
theorem dW (bs:List Nat):C5 (fM bs)=bs:=C4 (hs:=[fM bs]) rfl
theorem fL {hs:List Value} {g:Nat} {I:BInv} {k b:Nat}:aM [hs] [.bun g I] k b↔k=0/\b∈blk hs:=by
 constructor
 .rintro ⟨c,hs',e1,e2,e3,e4⟩
  cases k with
  | zero=>simp at e3;subst e3;exact ⟨rfl,e4⟩
  | succ k=>simp at e1
 .rintro ⟨rfl,h⟩
  exact ⟨_,hs,rfl,rfl,rfl,h⟩
section
variable {M:Imm} {ob:Hs} {obs:List AObj} {w:World}
theorem Mem.recAt (h:Mem M ob obs w) {k l g:Nat} {R:Loop} (hx:obs[k]? =some (.bun g (cA l R))):∃ hs,ob[k]? =some hs/\hs.length=g+1/\hs[g]? =some (fM [l])/\blk hs=[l]/\w.heap[l]? =some (.loop R):=by
 obtain ⟨hs,hh,hl,bs,hv,hd,rfl,hR⟩:=h.obj k _ hx
 exact ⟨hs,hh,hl,hv,(dU hl hv).trans (dW _),hR⟩
theorem Mem.recTurn (h:Mem M ob obs w) {k l g:Nat} {R:Loop} (hx:obs[k]? =some (.bun g (cA l R))) (R':Loop):
  Mem M ob (obs.set k (.bun g (cA l R'))) (w.putObj l (.loop R'))/\Ext M ob obs w M ob (obs.set k (.bun g (cA l R'))) (w.putObj l (.loop R')):=by
 obtain ⟨hs,hh,hl,hv,hb,hR⟩:=h.recAt hx
 have hlt:=eI hR
 have:=h.turn (M':=M) (w':=w.putObj l (.loop R')) (x':=.bun g (cA l R')) (hs':=hs) hx hh (Cr _) (fun e=>by cases e) (fun _ _ _ h=>h) (fun _ _ _ h=>.inl h) (fun c o y hy=>by
   obtain ⟨u,hu,h4,h5⟩:=h.imm c o y hy
   have hne:c≠l:=fun e=>by subst e;unfold Jg at hu;dsimp only at hu;rw [hR] at hu;cases hu
   exact ⟨u,(Cg (w:=w) (a:=⟨c,o,none⟩) (Ey hne)).trans hu,h4,h5⟩)
  (fun c _ hn=>Ey fun e=>hn ⟨rfl,by rw [hb,e];simp⟩) rfl rfl rfl (by simp) (fun _=>⟨hl,[l],hv,fun b hb=>by
   rw [Df.1 hb]
   exact ⟨_,Jx hlt,rfl⟩,rfl,Jx hlt⟩)
  (fun _ c hc=>⟨.inl ⟨rfl,hc⟩,by
   rw [hb] at hc
   rw [Df.1 hc]
   simpa using hlt⟩)
 rw [eY hh] at this
 exact ⟨this.1,this.2.1⟩
theorem Mem.drop (h:Mem M ob obs w) (k:Nat):Mem M ob (obs.set k .dead) w/\∀ {i b:Nat},aM ob (obs.set k .dead) i b->aM ob obs i b:=by
 have hw:IU (obs.set k .dead) obs:=⟨by simp,fun i=>by
  by_cases hi:i=k
  .subst hi
   by_cases hl:i<obs.length
   .exact .inr (Ax hl)
   .left;rw [Bf (by simp;omega),Bf (by omega)]
  .exact .inl (Bd (Ds hi))⟩
 exact ⟨h.weak hw,fun ha=>hw.alive ha⟩
end
section
variable {E:Env} {fn:Func} {g:Goal}
theorem To.beginR {l k gg:Nat} {R:Loop} {ks:List KI} {fr:List (Nat×AVal)} {obs:List AObj} (hrd:E.rd=some l) (hk:aE obs k= .bun gg (cA l R)) (hR:R.state= .ready)
  (h:To E fn g (.code ks fr (bK obs k (.bun gg (cA l {R with state:=.busy}))))):To E fn g (.code (.beginR::ks) fr obs):=
 .mk fun hok M0 ob0 obs0 w0 a w hst hs=>by
  obtain ⟨M,ob,hx,hm,hfr,r1,r2,r3⟩:=hs
  have hk':=bP hk (by simp)
  obtain ⟨m1,m2⟩:=hm.recTurn hk' {R with state:=.busy}
  obtain ⟨_,_,_,_,_,hloop⟩:=hm.recAt hk'
  rw [aP hk'] at h
  have key:=(h.rec (motive:=fun _=>tM E fn g _) fun h=>h) (by simpa [bC,KI.ok] using hok) M0 ob0 obs0 w0 a _ hst ⟨M,ob,hx.trans m2,m1,hfr,r1,r2.ext hm m2,by simpa using r3⟩
  intro b cs hb
  obtain ⟨e,a',w',q,r⟩:=key b cs hb
  exact ⟨e,a',w',q,.of_steps (.one (gK _ _ _) (stepR_beginRound (hb.trans hrd) (run_beginRound hloop hR))) r⟩
end
def iE (ob0:Hs) (fr:List (Nat×AVal)) (R:Loop) (L:List AObj):BInv where
 inv M bs w:=∃ ob,dD ob0 ob/\ob.length=L.length/\(∀ (k:Nat) c,L[k]? =some c->∃ hs,ob[k]? =some hs/\gD M ob w hs c)/\(∀ k k' b,aM ob L k b->aM ob L k' b->k=k')/\
  (∀ b,b∈bs↔ ∃ k,aM ob L k b)/\∀ t,Rep M ob (R.tmps.getD t undef) (aX fr t)
 mono:=fun hM hn hb ⟨ob,h1,h2,h3,h4,h5,h6⟩=>⟨ob,h1,h2,fun k c hc=>by
  obtain ⟨hs,hh,hok⟩:=h3 k c hc
  exact ⟨hs,hh,hok.mono hM (dD.refl _) (fun b p1 p2=>hn b ((h5 b).2 ⟨k,(cI hc hh).2 ⟨p1,p2⟩⟩)) (fun b c' p1 p2=>hb b c' ((h5 b).2 ⟨k,(cI hc hh).2 ⟨p1,p2⟩⟩))⟩,h4,h5,fun t=>(h6 t).monoM hM⟩
theorem Mem.unpack {M:Imm} {ob:Hs} {obs:List AObj} {w:World} {k g:Nat} {ob0:Hs} {fr:List (Nat×AVal)} {R:Loop} {L:List AObj} (hm:Mem M ob obs w) (hk:obs[k]? =some (.bun g (iE ob0 fr R L))):
  ∃ hs obC,ob[k]? =some hs/\hs.length=g+1/\dD ob0 obC/\Mem M obC L w/\(∀ b,b∈blk hs↔ ∃ k,aM obC L k b)/\∀ t,Rep M obC (R.tmps.getD t undef) (aX fr t):=by
 obtain ⟨hs,hh,hl,bs,hv,hd,obC,h1,h2,h3,h4,h5,h6⟩:=hm.obj k _ hk
 have hb:blk hs=bs:=(dU hl hv).trans (dW _)
 refine ⟨hs,obC,hh,hl,h1,⟨hm.imm,h2,h3,fun i b ha=>?_,h4⟩,fun b=>by rw [hb];exact h5 b,h6⟩
 obtain ⟨o,q,_⟩:=hd b ((h5 b).2 ⟨i,ha⟩)
 exact eI q
theorem Mem.pack {M:Imm} {obC:Hs} {L:List AObj} {w:World} {ob0:Hs} {fr:List (Nat×AVal)} {R:Loop} (hm:Mem M obC L w) (hle:dD ob0 obC) (hfr:∀ t,Rep M obC (R.tmps.getD t undef) (aX fr t)):
  ∃ bs,(∀ b,b∈bs↔ ∃ k,aM obC L k b)/\∀ (ob:Hs) (hs:List Value),gD M ob w (hs++[fM bs]) (.bun hs.length (iE ob0 fr R L)):=by
 let bs:=(Dc w.heap.size).filter fun b=>decide (∃ k,aM obC L k b)
 have hbs:∀ b,b∈bs↔ ∃ k,aM obC L k b:=fun b=>by
  simp only [bs,Jz,Gj,decide_eq_true_eq]
  exact ⟨fun h=>h.2,fun ⟨k,h⟩=>⟨hm.lt k b h,k,h⟩⟩
 refine ⟨bs,hbs,fun ob hs=>⟨by simp,bs,by simp,fun b hb=>?_,obC,hle,hm.len,hm.obj,hm.inj,hbs,hfr⟩⟩
 obtain ⟨k,ha⟩:=(hbs b).1 hb
 exact hm.alive_heap ha
theorem lM (hs:List Value) (v:Value):blk (hs++[v])=C5 v:=by unfold blk;simp
theorem PL {M:Imm} {ob:Hs} {tmps:Array Value} {fr:List (Nat×AVal)} {p:Nat} {v:Value} {x:AVal} (h:∀ t,Rep M ob (tmps.getD t undef) (aX fr t)) (hv:Rep M ob v x) (hp:p<tmps.size):
  ∀ t,Rep M ob ((tmps.setIfInBounds p v).getD t undef) (aX (cN fr p x) t):=by
 intro t
 have:=kK (a:={tmps:=tmps,defers:=[]}) (d:=some p) h hv (fun d' e=>by cases e;exact hp) t
 rw [show aX (cN fr p x) t=fO (aX fr) (some p) x t from congrFun (dI fr (some p) x) t]
 exact this
def jA (R:Loop) (b:Bool):Loop:=if b then R else {R with state:=.done,pending:=some .ret}
theorem L8 {R:Loop} (h1:R.state= .ready) (h2:R.pending=none):({{R with state:=.busy} with state:=if (none:Option Code).isNone then .ready else .done,pending:=none}:Loop)=jA R true:=by
 obtain ⟨a,b,c,d,e,f,g,i⟩:=R
 have h1:a= .ready:=h1
 have h2:b=none:=h2
 subst h1 h2
 rfl
theorem fN {E:Env} {fn:Func} {ob0:Hs} {l k n p gg:Nat} {R:Loop} {as bd:Code} {fr:List (Nat×AVal)} {L L':List AObj} {x:Int} {b:Bool} (hps:R.params= #[p]) (hrdy:R.state= .ready) (hpe:R.pending=none) (has:R.assign=as) (hbd:R.body=bd) (hsz:R.tmps.size=fn.ntmps)
  (hp:Du p fn.ntmps=true) (hdf:E.df=[]) (hco:(cQ fn.ntmps as&&cQ fn.ntmps bd)=true) (hk:aE L k= .bun gg (cA l R)) (hn:L.length=n) (hn':L'.length=n) (hk':aE L' k= .bun gg (cA l {R with state:=.busy}))
  (h:inR .i64 x->To {E with rd:=some l} fn (.keep n (.ret (.bool b)) L') (.code [.code as,.beginR,.code bd] (cN fr p (.int .i64 x)) L)):
  bM E.P (.yield l) [.int .i64 x] [.bun 0 (iE ob0 fr R L)] (.ret (.bool b)) [.bun 1 (iE ob0 fr R (L'.set k (.bun gg (cA l (jA R b)))))]:=by
 intro M ob w vargs hm hr
 obtain ⟨hs,obC,hh,hl,hle,hmC,hal,hfr⟩:=hm.unpack (k:=0) rfl
 have hob:ob=[hs]:=by
  have:=hm.len
  match ob,this,hh with
  | [y],_,hh=>simp at hh;rw [hh]
 subst hob
 obtain ⟨v,rfl⟩:∃ v,vargs=[v]:=by
  have:=hr.1
  match vargs,this with
  | [v],_=>exact ⟨v,rfl⟩
 have hv:Rep M [hs] v (.int .i64 x):=hr.2 0 v _ rfl rfl
 obtain ⟨rfl,hin⟩:=hv.int_inv
 obtain ⟨_,_,_,_,_,hloop⟩:=hmC.recAt (bP hk (by simp))
 have hpl:p<R.tmps.size:=by rw [hsz];simpa [Ep] using hp
 have hfold:(R.params.zip #[Hl .i64 x]).foldl (fun tmps (t,a)=>tmps.setIfInBounds t a) R.tmps=R.tmps.setIfInBounds p (.int .i64 x):=by rw [hps];simp
 refine ⟨R.fn,R.tmps.setIfInBounds p (.int .i64 x),as,bd,?_,trivial,fun c cs _=>?_⟩
 .have:=run_yield (P:=E.P) (args:= #[Hl .i64 x]) hloop (by rw [hps];rfl)
  rw [hfold,has,hbd] at this
  exact this
 let b0:Frame:={(default:Frame) with fn:=R.fn,kind:=.normal,roundOf:=some l}
 let a0:Act:={tmps:=R.tmps.setIfInBounds p (.int .i64 x),defers:=[]}
 have hb0:Frame.round l R.fn (R.tmps.setIfInBounds p (.int .i64 x)) as bd .normal=b0.atR a0 (eU [.code as,.beginR,.code bd]):=by
  simp [Frame.round,Frame.atR,b0,a0,eU,KI.item]
 rw [hb0]
 have hst:mU (.keep n (.ret (.bool b)) L') obC:=⟨by rw [hmC.len];exact hn,fun h=>by cases h⟩
 have hok:bC fn.ntmps [.code as,.beginR,.code bd]=true:=by
  simp only [bC,KI.ok,Ga,Bt]
  simpa using hco
 obtain ⟨h0⟩:=h hin
 obtain ⟨e,a',w',hq,harr⟩:=h0 hok M obC L w a0 w hst ⟨M,obC,Ext.refl _ _ _ _,hmC,PL hfr (.int _ _ hin) hpl,by show (R.tmps.setIfInBounds p _).size=_;simpa using hsz,by show cK w w M obC [] E.df;rw [hdf];exact .nil,by rw [hmC.len];exact Bc _⟩ b0 (c::cs) rfl
 -- fG the body
 have fin:∀ {bb:Bool} {w':World} {st:LoopState} {jump:Option Code},(jump.isNone=bb)->({{R with state:=.busy} with state:=if jump.isNone then .ready else .done,pending:=jump}:Loop)=jA R bb->RR M obC L w (.keep n (.ret (.bool b)) L') (.returned (.bool bb)) w'->
   bb=b/\∃ w4,(Instr.endRound l jump).run E.P w'= .ok (.bool bb) w4/\∃ M' ob',Ext M [hs] [.bun 0 (iE ob0 fr R L)] w M' ob' [.bun 1 (iE ob0 fr R (L'.set k (.bun gg (cA l (jA R b)))))] w4/\Mem M' ob' [.bun 1 (iE ob0 fr R (L'.set k (.bun gg (cA l (jA R b)))))] w4:=by
  intro bb w' st jump hj hR ⟨M',obC',x1,x2,x3⟩
  have e:bb=b:=by
   have:=Rep.bool_inv (M:=M') (ob:=obC') (b:=b) x3
   simpa using this
  subst e
  refine ⟨rfl,?_⟩
  have x2:Mem M' obC' L' w':=x2
  have x1:Ext M obC L w M' obC' L' w':=x1
  have hk2:=bP hk' (by simp)
  obtain ⟨_,_,_,_,_,hloop'⟩:=x2.recAt hk2
  obtain ⟨m1,m2⟩:=x2.recTurn hk2 (jA R bb)
  have hrun:=run_endRound (P:=E.P) jump hloop'
  rw [hR,hj] at hrun
  refine ⟨_,hrun,M',?_⟩
  have X:=x1.trans m2
  obtain ⟨bs,hbs,hpk⟩:=m1.pack (fr:=fr) (R:=R) (hle.trans X.hs) fun t=>(hfr t).mono X.imm X.hs
  have hal':∀ {k b},aM [hs++[fM bs]] [.bun 1 (iE ob0 fr R (L'.set k (.bun gg (cA l (jA R bb)))))] k b->b∈bs:=fun {k b} ha=>by
   have:=(fL.1 ha).2
   rwa [lM,dW] at this
  have h1:hs.length=1:=hl
  refine ⟨[hs++[fM bs]],⟨X.imm,fun b o y hy=>?_,fun i hs' hi=>?_,X.os,X.tape,X.output,X.size,fun b hb hn=>X.keep b hb fun i ha=>hn 0 (fL.2 ⟨rfl,(hal b).2 ⟨i,ha⟩⟩),fun i b ha=>?_⟩,⟨m1.imm,rfl,fun i c hc=>?_,fun i b ha=>?_,fun i j b ha hb=>?_⟩⟩
  .rcases X.new b o y hy with q | q | q
   .exact .inl q
   .exact .inr (.inl q)
   .exact .inr (.inr ⟨0,fL.2 ⟨rfl,(hal b).2 q⟩⟩)
  .cases i with
   | zero=>simp at hi;subst hi;exact ⟨_,rfl,⟨_,rfl⟩⟩
   | succ i=>simp at hi
  .have hb:b∈bs:=by
    have:=(fL.1 ha).2
    rwa [lM,dW] at this
   obtain ⟨j,hj⟩:=(hbs b).1 hb
   rcases X.fresh j b hj with q | q
   .exact .inl ⟨0,fL.2 ⟨rfl,(hal b).2 q⟩⟩
   .exact .inr q
  .cases i with
   | zero=>
    simp at hc
    subst hc
    refine ⟨_,rfl,?_⟩
    have:=hpk [hs++[fM bs]] hs
    rwa [h1] at this
   | succ i=>simp at hc
  .have hb:b∈bs:=by
    have:=(fL.1 ha).2
    rwa [lM,dW] at this
   obtain ⟨j,hj⟩:=(hbs b).1 hb
   exact m1.lt j b hj
  .rw [(fL.1 ha).1,(fL.1 hb).1]
 cases e with
 | normal=>
  obtain ⟨rfl,w4,hrun,M',ob',x1,x2⟩:=fin (st:=.ready) (jump:=none) rfl (L8 hrdy hpe) hq
  exact ⟨.returned (.bool true),w4,⟨M',ob',x1,x2,.bool _⟩,StepsIn.trans harr (.one (gK _ _ _) (stepR_round_end rfl rfl hrun))⟩
 | ret=>
  obtain ⟨rfl,w4,hrun,M',ob',x1,x2⟩:=fin (st:=.ready) (jump:=some .ret) rfl rfl hq
  obtain ⟨k₁,hs'⟩:=harr.2 rfl
  exact ⟨.returned (.bool false),w4,⟨M',ob',x1,x2,.bool _⟩,StepsIn.trans hs' (.one (gK _ _ _) (stepR_round_ret rfl rfl hrun))⟩
 | panic ch=>exact hq.elim
 | exit id=>exact hq.elim
 | goto t=>exact hq.elim
 | outgrown=>exact hq.elim
def DU:Code->Option (Code×Code)
 | .rangeFunc _ _ as bd=>some (as,bd)
 | .seq a b=>(match DU a with | some x=>some x | none=>DU b)
 | .cond _ a b=>(match DU a with | some x=>some x | none=>DU b)
 | .block _ b=>DU b
 | .loop b=>DU b
 | _=>none
def rfA (fn:Func):Code:=match DU (cR fn) with | some p=>p.1 | none=>.skip
def rfB (fn:Func):Code:=match DU (cR fn) with | some p=>p.2 | none=>.skip
theorem KW.range {rd:Option Nat} {P:Program} {Q:Exit->Act->World->Prop} {ks:List KI} {a:Act} {w:World} {x:Operand} {ps:Array Tmp} {as bd:Code}
  (h:∀ fn,∃ (l:Nat) (mark:List Deferred) (w₁:World) (d:Deferred) (f:FuncId) (args:Array Value),
   (Instr.enterLoop fn a.tmps ps as bd rd).run P w= .ok (l,mark) w₁/\(resolve a.eval (rangeCall x l) 0).run P w₁= .ok d w₁/\(invoke d.target d.args).run P w₁= .ok (.enter f args) w₁/\
   Calls P f args w₁ fun e w₃=>∃ v,e= .returned v/\∃ jump w₄,(Instr.endLoop l).run P w₃= .ok jump w₄/\KW rd P Q ((jump.map KI.code).toList++ks) {a with defers:=mark++a.defers} w₄):
  KW rd P Q (.code (.rangeFunc x ps as bd)::ks) a w:=by
 intro b cs hro
 obtain ⟨l,mark,w₁,d,f,args,he,hres,hinv,hcall⟩:=h b.fn
 rw [<-hro] at he
 have henter:=stepR_rangeFunc (P:=P) (b:=b) (a:=a) (k:=eU ks) (cs:=cs) (w:=w) he hres hinv
 obtain ⟨e,w₃,fr,⟨v,rfl,jump,w₄,hend,hk⟩,hsteps,hfn,hleave⟩:=hcall (b.atR {a with defers:=mark++a.defers} (.inRangeFunc l::eU ks)::cs)
 obtain ⟨e',a',w',q,r⟩:=hk b cs hro
 refine ⟨e',a',w',q,?_⟩
 have hit:eU ((jump.map KI.code).toList++ks)=(jump.map Item.code).toList++eU ks:=by cases jump<;>rfl
 rw [hit] at r
 have sback:Steps P (lone (b.atR a (.code (.rangeFunc x ps as bd)::eU ks)) cs w) (lone (b.atR {a with defers:=mark++a.defers} ((jump.map Item.code).toList++eU ks)) cs w₄):=by
  refine .head henter (Steps.trans hsteps (.head ?_ (.one (stepR_endRangeFunc hend))))
  rw [<-finish_atR_inRangeFunc l v];exact step_leave_returned hleave
 exact .of_steps ((StepsIn.of_steps sback).mono fun m _=>gK _ _ m) r
section
variable {M:Imm} {ob:Hs} {obs:List AObj} {w:World}
theorem Mem.layRec (hm:Mem M ob obs w) (R:Loop):
  Mem M (ob++[[fM [w.heap.size+1]]]) (jZ obs (.bun 0 (cA (w.heap.size+1) R))) ((w.alloc (.deferred (some []))).alloc (.loop R))/\
  Ext M ob obs w M (ob++[[fM [w.heap.size+1]]]) (jZ obs (.bun 0 (cA (w.heap.size+1) R))) ((w.alloc (.deferred (some []))).alloc (.loop R)):=by
 rw [nF]
 have hm1:Mem M ob obs (w.alloc (.deferred (some []))):=hm.same (by rw [bX];omega) fun b hb=>heap_alloc_old w _ hb
 have hx1:Ext M ob obs w M ob obs (w.alloc (.deferred (some []))):=⟨fun _ _ _ h=>h,fun _ _ _ h=>.inl h,dD.refl _,rfl,rfl,rfl,by rw [bX];omega,fun b hb _=>heap_alloc_old w _ hb,fun k b ha=>.inl ⟨k,ha⟩⟩
 obtain ⟨m1,m2,_⟩:=hm1.extend 1
 have h1:(obs++Ai 1 AObj.dead)[obs.length]? =some .dead:=by simp
 have h2:(ob++Ai 1 ([]:List Value))[obs.length]? =some []:=by rw [<-hm.len];simp
 have hsz:(w.alloc (.deferred (some []))).heap.size=w.heap.size+1:=bX ..
 have t:=m1.turn (M':=M) (w':=(w.alloc (.deferred (some []))).alloc (.loop R)) (x':=.bun 0 (cA (w.heap.size+1) R)) (hs':=[fM [w.heap.size+1]]) h1 h2 ⟨_,rfl⟩ (fun _=>rfl) (fun _ _ _ h=>h) (fun _ _ _ h=>.inl h) (fun b o y hy=>by
   obtain ⟨u,hu,h4,h5⟩:=m1.imm b o y hy
   exact ⟨u,(Cg (w:=w.alloc (.deferred (some []))) (a:=⟨b,o,none⟩) (heap_alloc_old _ _ (Cj _ _ hu))).trans hu,h4,h5⟩)
  (fun b hb _=>heap_alloc_old _ _ hb) rfl rfl rfl (by rw [bX _ (Obj.loop R)];omega) (fun _=>⟨rfl,[w.heap.size+1],rfl,fun b hb=>by
   rw [Df.1 hb,<-hsz]
   exact ⟨_,heap_alloc_new _ _,rfl⟩,rfl,by rw [<-hsz];exact heap_alloc_new _ _⟩)
  (fun _ b hb=>by
   have:blk [fM [w.heap.size+1]]=[w.heap.size+1]:=dW _
   rw [this] at hb
   rw [Df.1 hb,bX _ (Obj.loop R),hsz]
   exact ⟨.inr (Bc _),by omega⟩)
 have e1:(ob++Ai 1 ([]:List Value)).set obs.length [fM [w.heap.size+1]]=ob++[[fM [w.heap.size+1]]]:=by
  rw [<-hm.len];simp
 have e2:(obs++Ai 1 AObj.dead).set obs.length (.bun 0 (cA (w.heap.size+1) R))=obs++[.bun 0 (cA (w.heap.size+1) R)]:=by simp
 rw [e1,e2] at t
 exact ⟨t.1,hx1.trans (m2.trans t.2.1)⟩
theorem AC:∀ (ks:List Nat) (obs:List AObj),(∀ k∈ks,k<obs.length)->IU (mW ks obs) obs/\∀ k∈ks,(mW ks obs)[k]? =some .dead
 | [],obs,_=>⟨⟨rfl,fun _=>.inl rfl⟩,fun k h=>by simp at h⟩
 | x::r,obs,hlt=>by
  have hx:x<obs.length:=hlt x (by simp)
  have e:bK obs x .dead=obs.set x .dead:=fS _ hx
  obtain ⟨⟨h1,h2⟩,h3⟩:=AC r (bK obs x .dead) (fun k hk=>by rw [e];simpa using hlt k (by simp [hk]))
  have h2':∀ k:Nat,(mW (x::r) obs)[k]? =obs[k]?\/(mW (x::r) obs)[k]? =some AObj.dead:=fun k=>by
   rcases h2 k with q | q
   .by_cases hk:k=x
    .subst hk
     right
     show (mW r (bK obs k .dead))[k]? =_
     rw [q,e,Ax hx]
    .left
     show (mW r (bK obs x .dead))[k]? =_
     rw [q,e,Bd (Ds hk)]
   .exact .inr q
  refine ⟨⟨by show (mW r (bK obs x .dead)).length=_;rw [h1,e];simp,h2'⟩,fun k hk=>?_⟩
  rcases Bh.1 hk with rfl | hk
  .show (mW r (bK obs k AObj.dead))[k]? =some AObj.dead
   rcases h2 k with q | q
   .rw [q,e,Ax hx]
   .exact q
  .exact h3 k hk
theorem Mem.snoc {A:List AObj} {obA:Hs} {c:AObj} {hs:List Value} (hm:Mem M obA A w) (hc:∀ ob,dD obA ob->gD M ob w hs c) (hlt:∀ b∈blk hs,b<w.heap.size) (hdis:∀ k b,aM obA A k b->b∉blk hs):
  Mem M (obA++[hs]) (A++[c]) w/\∀ k b,aM (obA++[hs]) (A++[c]) k b->(k<A.length/\aM obA A k b)\/(k=A.length/\b∈blk hs):=by
 have hle:dD obA (obA++[hs]):=fun j l hj=>⟨l,by rw [Ah (Ab.1 hj).1];exact hj,Cr _⟩
 have old:∀ {j:Nat} {x:AObj},(A++[c])[j]? =some x->(j<A.length/\A[j]? =some x/\(obA++[hs])[j]? =obA[j]?)\/(j=A.length/\x=c/\(obA++[hs])[j]? =some hs):=fun {j x} hj=>by
  by_cases h:j<A.length
  .rw [Ah h] at hj
   exact .inl ⟨h,hj,Ah (by rw [hm.len];exact h)⟩
  .have h2:j=A.length:=by have:=(Ab.1 hj).1;simp at this;omega
   subst h2
   rw [Aq (by simp)] at hj
   simp at hj
   exact .inr ⟨rfl,hj.symm,by rw [<-hm.len];simp⟩
 have al:∀ k b,aM (obA++[hs]) (A++[c]) k b->(k<A.length/\aM obA A k b)\/(k=A.length/\b∈blk hs):=by
  rintro k b ⟨x,l,e1,e2,e3,e4⟩
  rcases old e1 with ⟨h1,h2,h3⟩ | ⟨h1,h2,h3⟩
  .rw [h3] at e3;exact .inl ⟨h1,x,l,h2,e2,e3,e4⟩
  .rw [h3] at e3;cases e3;exact .inr ⟨h1,e4⟩
 refine ⟨⟨hm.imm,by simp [hm.len],fun k x hk=>?_,fun k b ha=>?_,fun i j b ha hb=>?_⟩,al⟩
 .rcases old hk with ⟨h1,h2,h3⟩ | ⟨h1,rfl,h3⟩
  .obtain ⟨l,q1,q2⟩:=hm.obj k x h2
   exact ⟨l,by rw [h3];exact q1,q2.mono (fun _ _ _ h=>h) hle (fun _ _ _ _ h=>h) (fun _ _ _ _ h=>h)⟩
  .exact ⟨hs,h3,hc _ hle⟩
 .rcases al k b ha with ⟨_,h⟩ | ⟨_,h⟩
  .exact hm.lt k b h
  .exact hlt b h
 .rcases al i b ha with ⟨h1,h2⟩ | ⟨h1,h2⟩<;>rcases al j b hb with ⟨h3,h4⟩ | ⟨h3,h4⟩
  .exact hm.inj i j b h2 h4
  .exact absurd h4 (hdis i b h2)
  .exact absurd h2 (hdis j b h4)
  .rw [h1,h3]
end
theorem bM.bunTo {P:Program} {f:Fn} {args:List AVal} {obs:List AObj} {r:Res} {gg:Nat} {I I':BInv} (h:bM P f args obs r [.bun gg I])
  (hI:∀ (M:Imm) (bs:List Nat) (w:World),(∀ b o x,M b o x->∃ v,w.cell? ⟨b,o,none⟩=some v/\v.oneCell'=true/\Rep M [] v x)->(∀ b,b∈bs->b<w.heap.size)->I.inv M bs w->I'.inv M bs w):bM P f args obs r [.bun gg I']:=
 fun M ob w vargs hm hr=>cM.mono (fun e w' ⟨M',ob',x1,x2,x3⟩=>by
  have al:∀ {k b},aM ob' [.bun gg I'] k b->aM ob' [.bun gg I] k b:=fun {k b} ⟨c,hs,e1,e2,e3,e4⟩=>by
   cases k with
   | zero=>exact ⟨_,hs,rfl,rfl,e3,e4⟩
   | succ k=>simp at e1
  refine ⟨M',ob',⟨x1.imm,x1.new,x1.hs,x1.os,x1.tape,x1.output,x1.size,x1.keep,fun k b ha=>x1.fresh k b (al ha)⟩,⟨x2.imm,x2.len,fun k c hc=>?_,fun k b ha=>x2.lt k b (al ha),fun k k' b h1 h2=>x2.inj k k' b (al h1) (al h2)⟩,x3⟩
  cases k with
  | zero=>
   simp at hc
   subst hc
   obtain ⟨hs,h1,h2,bs,h3,h4,h5⟩:=x2.obj 0 _ rfl
   exact ⟨hs,h1,h2,bs,h3,h4,hI _ _ _ x2.imm (fun b hb=>by obtain ⟨o,q,_⟩:=h4 b hb;exact eI q) h5⟩
  | succ k=>simp at hc) (h M ob w vargs hm hr)
theorem vV:∀ (n j i:Nat),i<n->(GK j n)[i]? =some (j+i)
 | 0,_,_,h=>by omega
 | n+1,j,0,_=>rfl
 | n+1,j,i+1,h=>by
  show (GK (j+1) n)[i]? =_
  rw [vV n (j+1) i (by omega),show j+1+i=j+(i+1) from by omega]
theorem TV {ob0:Hs} {fr:List (Nat×AVal)} {R:Loop} {L L':List AObj} {n:Nat} (hn:L.length=n) (h1:∀ hs∈ob0,hs.length=1) (hl:ob0.length<=n) (hk:lE (GK 0 n) L=true) (hfr:TM n (GK 0 n) (aE L) fr=fr) (hL:gH n (GK 0 n) L=L'):
  ∀ (M:Imm) (bs:List Nat) (w:World),(∀ b o x,M b o x->∃ v,w.cell? ⟨b,o,none⟩=some v/\v.oneCell'=true/\Rep M [] v x)->(∀ b,b∈bs->b<w.heap.size)->(iE ob0 fr R L).inv M bs w->(iE ob0 fr R L').inv M bs w:=by
 rintro M bs w him hlt ⟨ob,q1,q2,q3,q4,q5,q6⟩
 subst hL
 have hm:Mem M ob L w:=⟨him,q2,q3,fun k b ha=>hlt b ((q5 b).2 ⟨k,ha⟩),q4⟩
 obtain ⟨c1,c2,c3⟩:=hm.cvt (n0:=n) hk
 refine ⟨dJ n ob L 0 (GK 0 n),fun j hs hj=>?_,c1.len,c1.obj,c1.inj,fun b=>(q5 b).trans ⟨fun ⟨k,ha⟩=>?_,fun ⟨j,ha⟩=>?_⟩,fun t=>?_⟩
 .have hjl:j<n:=Dn (Ab.1 hj).1 hl
  obtain ⟨hs',e1,t,e2⟩:=q1 j hs hj
  have hone:=h1 hs (Aw hj)
  refine ⟨fY n j (aE L j) hs',?_,?_⟩
  .rw [eZ,vV n 0 j hjl]
   simp [e1]
  .unfold fY
   split
   .rw [<-e2]
    have:(hs++t).take 1=hs:=by rw [Dd (by omega),Cs (by omega)]
    rw [this]
    exact ⟨_,rfl⟩
   .exact ⟨t,e2⟩
 .have hkl:k<n:=by
   obtain ⟨c,_,e1,_⟩:=ha
   rw [<-hn]
   exact (Ab.1 e1).1
  exact ⟨k,c3 k k b (by rw [vV n 0 k hkl,Bk]) ha⟩
 .obtain ⟨k,_,h⟩:=c2 j b ha
  exact ⟨k,h⟩
 .have:=hm.cvtV (n0:=n) hk 5 _ _ (q6 t)
  rw [<-sV,hfr] at this
  exact this
structure RecOK (fn:Func) (p:Nat) (as bd:Code) (R:Loop):Prop where
 params:R.params= #[p]
 ready:R.state= .ready
 pend:R.pending=none
 assign:R.assign=as
 body:R.body=bd
 size:R.tmps.size=fn.ntmps
theorem To.range {E:Env} {fn:Func} {g:Goal} {x:Operand} {p:Nat} {as bd:Code} {ks:List KI} {fr:List (Nat×AVal)} {obs:List AObj} {f:FuncId} {caps:List AVal} (ks1:List Nat) (hrd:E.rd=none) (hdf:E.df=[]) (hbo:oG E.P f)
  (hx:ev fr x= .func (.func f) [] caps) (hk:∀ l R,lE ks1 (jZ obs (.bun 0 (cA l R)))=true) (hlt:(ks1.all fun k=>Du k (aO obs))=true)
  (h:∀ (l:Nat) (ob0:Hs) (R:Loop),mU g ob0->RecOK fn p as bd R->∃ (L':List AObj) (b:Bool) (r:AVal) (objs':List AObj) (gg:Nat),
   aA E.P f (.func (.yield l) [] []::dC (cvtV 0 ks1 (aE (jZ obs (.bun 0 (cA l R)))) 5) caps) (gH 0 ks1 (jZ obs (.bun 0 (cA l R)))++[.bun 0 (iE ob0 fr R (mW ks1 (jZ obs (.bun 0 (cA l R)))))]) (.ret r) (objs'++[.bun gg (iE ob0 fr R L')])/\
   aE L' (aO obs)= .bun 0 (cA l (jA R b))/\objs'.length=ks1.length/\To E fn g (.code (if b then ks else .code .ret::ks) fr (bK L' (aO obs) .dead))):
  To E fn g (.code (.code (.rangeFunc x #[p] as bd)::ks) fr obs):=by
 refine .mk fun hok M0 ob00 obs0 w0 a w hst hs=>?_
 obtain ⟨M,ob,hx0,hm,hfr,hsz,hds,hlen⟩:=hs
 rw [hrd]
 refine KW.range fun fid=>?_
 obtain ⟨l,hl⟩:∃ l,l=w.heap.size+1:=⟨_,rfl⟩
 obtain ⟨R,hR⟩:∃ R:Loop,R={state:=.ready,pending:=none,fn:=fid,tmps:=a.tmps,params:= #[p],assign:=as,body:=bd,defers:=w.heap.size}:=⟨_,rfl⟩
 have hrec:RecOK fn p as bd R:=by subst hR;exact ⟨rfl,rfl,rfl,rfl,rfl,hsz⟩
 have htm:R.tmps=a.tmps:=by subst hR;rfl
 obtain ⟨w1,hw1⟩:∃ w1,w1=(w.alloc (.deferred (some []))).alloc (.loop R):=⟨_,rfl⟩
 obtain ⟨m1,x1⟩:=hm.layRec R
 rw [<-hl,<-hw1] at m1 x1
 obtain ⟨ob1,hob1⟩:∃ ob1,ob1=ob++[[fM [l]]]:=⟨_,rfl⟩
 rw [<-hob1] at m1 x1
 obtain ⟨L',b,r,objs',gg,hcall,hLk,hol,hto⟩:=h l ob00 R hst hrec
 generalize hobs1:jZ obs (.bun 0 (cA l R))=obs1 at *
 have hobs1l:obs1.length=obs.length+1:=by rw [<-hobs1,nF];simp
 have hk1:lE ks1 obs1=true:=by rw [<-hobs1];exact hk l R
 have hltk:∀ k∈ks1,k<obs1.length:=fun k hk=>by
  have:=Cl.1 hlt k hk
  have:k<aO obs:=by simpa [Ep] using this
  rw [bI] at this
  omega
 obtain ⟨hwk,hdead⟩:=AC ks1 obs1 hltk
 have mC:=m1.weak hwk
 obtain ⟨c1,c2,c3⟩:=m1.cvt (n0:=0) hk1
 have hfr1:∀ t,Rep M ob1 (R.tmps.getD t undef) (aX fr t):=fun t=>by rw [htm];exact (hfr t).mono x1.imm x1.hs
 obtain ⟨bs,hbs,hpk⟩:=mC.pack (hx0.hs.trans x1.hs) hfr1
 have hcl:(dJ 0 ob1 obs1 0 ks1).length=ks1.length:=nY
 have hsl:(gH 0 ks1 obs1).length=ks1.length:=kS
 have hblk:blk ([]++[fM bs])=bs:=by rw [lM,dW]
 obtain ⟨mI,aI⟩:=c1.snoc (c:=.bun 0 (iE ob00 fr R (mW ks1 obs1))) (hs:=[]++[fM bs]) (fun ob _=>hpk ob []) (fun b hb=>by
   rw [hblk] at hb
   obtain ⟨j,hj⟩:=(hbs b).1 hb
   exact mC.lt j b hj) (fun j b ha hb=>by
   rw [hblk] at hb
   obtain ⟨i,hi⟩:=(hbs b).1 hb
   obtain ⟨k,e1,e2⟩:=c2 j b ha
   have:=m1.inj k i b e2 (hwk.alive hi)
   subst this
   obtain ⟨c,_,q1,q2,_⟩:=hi
   rw [hdead k (Aw e1)] at q1
   cases q1
   cases q2)
 -- the call
 have hev:=yE hfr x
 rw [hx] at hev
 obtain ⟨vcaps,hax,hcl1,hcr⟩:∃ vcaps:List Value,a.eval x= .func (.func f) #[] vcaps.toArray/\vcaps.length=caps.length/\∀ (i:Nat) v y,vcaps[i]? =some v->caps[i]? =some y->Rep M ob v y:=by
  generalize a.eval x=va at hev
  cases hev with
  | func _ vfs vcs _ _ hl1 hl2 hr1 hr2=>
   have:vfs=[]:=Au (by simpa using hl1)
   subst this
   exact ⟨vcs,rfl,hl2,hr2⟩
 have hargs:cB M (dJ 0 ob1 obs1 0 ks1++[[]++[fM bs]]) (.func (.yield l) #[] #[]::vcaps) (.func (.yield l) [] []::dC (cvtV 0 ks1 (aE obs1) 5) caps):=by
  have hle:dD (dJ 0 ob1 obs1 0 ks1) (dJ 0 ob1 obs1 0 ks1++[[]++[fM bs]]):=fun j l hj=>⟨l,by rw [Ah (Ab.1 hj).1];exact hj,Cr _⟩
  have h2:cB M (dJ 0 ob1 obs1 0 ks1) vcaps (dC (cvtV 0 ks1 (aE obs1) 5) caps):=bR (fun v a hva=>m1.cvtV (n0:=0) hk1 5 v a (hva.mono x1.imm x1.hs)) hcl1 hcr
  refine cB.cons (.func (.yield l) [] [] [] [] rfl rfl (fun i v a h=>by simp at h) (fun i v a h=>by simp at h)) ⟨h2.1,fun i v a hv ha=>(h2.2 i v a hv ha).mono (fun _ _ _ h=>h) hle⟩
 have hrun:=hcall M _ w1 _ mI hargs
 have hcalls:Calls E.P f (Value.func (.yield l) #[] #[]::vcaps).toArray w1 fun e w'=>∃ M' ob',Ext M (dJ 0 ob1 obs1 0 ks1++[[]++[fM bs]]) (gH 0 ks1 obs1++[.bun 0 (iE ob00 fr R (mW ks1 obs1))]) w1 M' ob' (objs'++[.bun gg (iE ob00 fr R L')]) w'/\Mem M' ob' (objs'++[.bun gg (iE ob00 fr R L')]) w'/\oF M' ob' e (.ret r):=by
  rcases hrun with ⟨_,q⟩ | ⟨u,w',q,_⟩
  .exact q
  .rw [hbo] at q;cases q
 have hent:(Instr.enterLoop fid a.tmps #[p] as bd none).run E.P w= .ok (l,[{target:=.collected w.heap.size,args:= #[]}]) w1:=by
  rw [hl,hw1,hR];exact run_enterLoop_outer ..
 refine ⟨l,[{target:=.collected w.heap.size,args:= #[]}],w1,{target:=.fn (.func f) vcaps.toArray,args:= #[.func (.yield l) #[] #[]]},f,_,hent,?_,?_,hcalls.mono fun e w3 ⟨M',obI,y1,y2,y3⟩=>?_⟩
 .have:resolve a.eval (rangeCall x l) 0=Deferred.ofValue (a.eval x) #[.func (.yield l) #[] #[]]:=by simp [resolve,rangeCall,Act.eval]
  rw [this,hax]
  rfl
 .show (callFunc f (#[Value.func (.yield l) #[] #[]]++vcaps.toArray)).run E.P w1=_
  rw [hbo]
  simp
 -- fG the call
 obtain ⟨v,rfl⟩:∃ v,e= .returned v:=by
  cases e with
  | returned v=>exact ⟨v,rfl⟩
  | panicked ch=>exact y3.elim
  | outgrown=>exact y3.elim
 refine ⟨v,rfl,?_⟩
 have hbk:(objs'++[AObj.bun gg (iE ob00 fr R L')])[objs'.length]? =some (.bun gg (iE ob00 fr R L')):=by simp
 obtain ⟨hs',obC,hh',hl',hle',mC',hal',hfr'⟩:=y2.unpack hbk
 have hLk':=bP hLk (by simp)
 have hkl:aO obs=obs.length:=bI obs
 obtain ⟨_,_,_,_,_,hloop⟩:=mC'.recAt hLk'
 -- the client's memory,from the statement on
 have inI:∀ {k b},aM (dJ 0 ob1 obs1 0 ks1++[[]++[fM bs]]) (gH 0 ks1 obs1++[.bun 0 (iE ob00 fr R (mW ks1 obs1))]) k b->∃ k',aM ob1 obs1 k' b:=fun {k b} ha=>by
  rcases aI k b ha with ⟨_,h⟩ | ⟨_,h⟩
  .obtain ⟨k',_,h⟩:=c2 k b h;exact ⟨k',h⟩
  .rw [hblk] at h
   obtain ⟨j,hj⟩:=(hbs b).1 h
   exact ⟨j,hwk.alive hj⟩
 have xnew:∀ b o y,M' b o y->M b o y\/w1.heap.size<=b\/∃ k,aM ob1 obs1 k b:=fun b o y hy=>by
  rcases y1.new b o y hy with q | q | ⟨k,q⟩
  .exact .inl q
  .exact .inr (.inl q)
  .exact .inr (.inr (inI q))
 have xkeep:∀ b,b<w1.heap.size->(∀ k,¬ aM ob1 obs1 k b)->w3.heap[b]? =w1.heap[b]?:=fun b hb hn=>y1.keep b hb fun k ha=>by
  obtain ⟨k',hk'⟩:=inI ha
  exact hn k' hk'
 have xfresh:∀ k b,aM obC L' k b->(∃ k',aM ob1 obs1 k' b)\/w1.heap.size<=b:=fun k b ha=>by
  have hb:b∈blk hs':=(hal' b).2 ⟨k,ha⟩
  have:aM obI (objs'++[AObj.bun gg (iE ob00 fr R L')]) objs'.length b:=⟨_,hs',hbk,rfl,hh',hb⟩
  rcases y1.fresh _ b this with ⟨k',q⟩ | q
  .exact .inl (inI q)
  .exact .inr q
 have xx0:=hx0.trans x1
 -- from the function's start to here
 have X:Ext M0 ob00 obs0 w0 M' obC L' w3:=⟨fun b o y h=>y1.imm _ _ _ (xx0.imm _ _ _ h),fun b o y hy=>by
   rcases xnew b o y hy with h1 | h1 | ⟨i,hi⟩
   .exact xx0.new b o y h1
   .exact .inr (.inl (Cx xx0.size h1))
   .rcases xx0.fresh i b hi with h2 | h2
    .exact .inr (.inr h2)
    .exact .inr (.inl h2),hle',y1.os.trans xx0.os,y1.tape.trans xx0.tape,y1.output.trans xx0.output,Cx xx0.size y1.size,fun b hb ho=>by
   rw [<-xx0.keep b hb ho]
   refine xkeep b (Dn hb xx0.size) fun i hi=>?_
   rcases xx0.fresh i b hi with ⟨j,hj⟩ | h2
   .exact ho j hj
   .omega,fun i b hi=>by
   rcases xfresh i b hi with ⟨j,hj⟩ | h1
   .exact xx0.fresh j b hj
   .exact .inr (Cx xx0.size h1)⟩
 have hnb:(jA R b).state≠ .busy:=by
  unfold jA
  cases b with
  | true=>rw [if_pos rfl,hrec.ready];intro h;cases h
  | false=>intro h;cases h
 have hend:=run_endLoop (P:=E.P) hloop hnb
 obtain ⟨t1,t2⟩:=mC'.recTurn hLk' {jA R b with state:=.exhausted}
 obtain ⟨d1,d2⟩:=t1.drop (aO obs)
 have hfin:bK L' (aO obs) .dead=(L'.set (aO obs) (.bun 0 (cA l {jA R b with state:=.exhausted}))).set (aO obs) .dead:=by
  rw [aP hLk',List.set_set]
 rw [<-hfin] at d1 d2
 have X2:Ext M0 ob00 obs0 w0 M' obC (bK L' (aO obs) .dead) (w3.putObj l (.loop {jA R b with state:=.exhausted})):=by
  have:=X.trans t2
  exact ⟨this.imm,this.new,this.hs,this.os,this.tape,this.output,this.size,this.keep,fun k b ha=>this.fresh k b (d2 ha)⟩
 refine ⟨(jA R b).pending,_,hend,?_⟩
 obtain ⟨hto⟩:=hto
 have hds0:=hds
 rw [hdf] at hds
 -- the marks
 have hw1d:w1.heap[w.heap.size]? =some (.deferred (some [])):=by
  rw [hw1,heap_alloc_old _ _ (by rw [bX];omega)]
  exact heap_alloc_new w _
 have keepD:∀ c:Nat,w1.heap[c]? =some (Obj.deferred (some []))->(w3.putObj l (.loop {jA R b with state:=.exhausted})).heap[c]? =some (Obj.deferred (some [])):=fun c hc=>by
  have h3:w3.heap[c]? =some (Obj.deferred (some [])):=by
   rw [xkeep c (eI hc) fun k ha=>by
    obtain ⟨o,q1,q2⟩:=m1.alive_heap ha
    rw [hc] at q1
    cases q1
    cases q2]
   exact hc
  rw [Ey fun e=>by subst e;rw [hloop] at h3;cases h3]
  exact h3
 have hmk:Mks w0 (w3.putObj l (.loop {jA R b with state:=.exhausted})) ({target:=.collected w.heap.size,args:= #[]}::a.defers):=by
  refine ⟨⟨w.heap.size,rfl,hx0.size,keepD _ hw1d,fun d hd e=>?_⟩,hds.marks.same fun d _ c _ hc=>keepD c ?_⟩
  .have:∀ {ds:List Deferred},Mks w0 w ds->∀ d∈ds,∀ c,d.target= .collected c->c<w.heap.size:=by
    intro ds
    induction ds with
    | nil=>intro _ d hd;simp at hd
    | cons d0 ds ih=>
     rintro ⟨⟨b0,q1,q2,q3,q4⟩,q5⟩ d hd c hc
     rcases Bh.1 hd with rfl | hd
     .rw [q1] at hc;cases hc;exact eI q3
     .exact ih q5 d hd c hc
   have:=this hds.marks d hd _ e
   omega
  .rw [hw1,heap_alloc_old _ _ (by rw [bX];have:=eI hc;omega),heap_alloc_old _ _ (eI hc)]
   exact hc
 have hss:SS M0 ob00 obs0 w0 fn.ntmps E.df fr (bK L' (aO obs) .dead) {a with defers:=[{target:=.collected w.heap.size,args:= #[]}]++a.defers} (w3.putObj l (.loop {jA R b with state:=.exhausted})):=by
  refine ⟨M',obC,X2,d1,fun t=>?_,hsz,?_,?_⟩
  .have:=hfr' t
   rw [htm] at this
   exact this
  .rw [hdf];exact ⟨[],_,rfl,.nil,hmk⟩
  .have h1:=X2.lens
   have h2:=d1.len
   omega
 have hok2:bC fn.ntmps (if b then ks else .code .ret::ks)=true:=by
  have:bC fn.ntmps ks=true:=by
   simp only [bC,Ad] at hok
   exact hok.2
  cases b with
  | true=>exact this
  | false=>simpa [bC,KI.ok,cQ] using this
 have key:=hto hok2 M0 ob00 obs0 w0 _ _ hst hss
 rw [hrd] at key
 have hjump:((jA R b).pending.map KI.code).toList++ks=(if b then ks else .code .ret::ks):=by
  unfold jA
  cases b with
  | true=>rw [if_pos rfl,hrec.pend];rfl
  | false=>rfl
 rw [hjump]
 exact key
def aAy (sz:Nat):AVal->AVal
 | .nilslice=>.slice sz [] .nil
 | v=>v
theorem Q1 (sz:Nat) (M:Imm) (ob:Hs) (v:Value) (a:AVal) (h:Rep M ob v a):Rep M ob v (aAy sz a):=by
 unfold aAy
 split
 .cases h;exact .slnil _ _ rfl
 .exact h
theorem To.beginC {E:Env} {fn:Func} {g:Goal} {st:List KI} {fr:List (Nat×AVal)} {obs:List AObj} (k i:Nat) (e:TypeId) {T:TypeId} {cs:List AVal} {sz:Nat} (hk:aE obs k= .cells T cs) (hi:nth cs i=some (.slice sz [] .nil))
  (h:To E fn g (.code st fr (jZ (bK obs k (.cells T (LP cs i (.slice sz [] (.own (aO obs) 0))))) (.tail 0 sz e)))):To E fn g (.code st fr obs):=by
 have h2:To E fn g (.head st fr (jZ (bK obs k (.cells T (LP cs i (.slice sz [] (.own (aO obs) 0))))) (.tail 0 sz e))):=h.rec fun h=>.mk h
 exact (To.begin k i e hk hi h2).rec fun h=>.mk h
abbrev Hm:=Option Addr×Nat×List AVal
def hmV (m:Hm):Value:=.slice m.1 m.2.2.length m.2.1
def hmA (m:Hm):AVal:=.hsl m.1 m.2.2.length m.2.1
theorem aAL (M:Imm) (ob:Hs) (m:Hm):Rep M ob (hmV m) (hmA m):=.hsl _ _ _
def jX (sz:Nat) (e:TypeId) (ms:List Hm):BInv where
 inv M bs w:=(∀ (i:Nat) m,ms[i]? =some m->cV M w (hmV m) sz e m.2.2)/\(∀ (i j:Nat) m m' b,ms[i]? =some m->ms[j]? =some m'->(hmV m).ownBlock=some b->(hmV m').ownBlock=some b->i=j)/\
  ∀ b,b∈bs↔ ∃ (i:Nat) (m:Hm),ms[i]? =some m/\(hmV m).ownBlock=some b
 mono:=fun hM hn hb ⟨h1,h2,h3⟩=>⟨fun i m hm=>(h1 i m hm).mono hM (fun b e ho o=>hn b ((h3 b).2 ⟨i,m,hm,e⟩) o (ho o)) (fun b c e=>hb b c ((h3 b).2 ⟨i,m,hm,e⟩)),h2,h3⟩
section
variable {M:Imm} {ob:Hs} {obs:List AObj} {w:World}
theorem cV.blockAt {v:Value} {sz:Nat} {e:TypeId} {xs:List AVal} (h:cV M w v sz e xs) {b:Nat} (hb:v.ownBlock=some b):∃ o,w.heap[b]? =some o/\xO o=false:=by
 obtain ⟨cv,⟨_,h2⟩,_⟩:=h
 rcases h2 with ⟨rfl,_⟩ | ⟨g,cap,cur,e1,_,e3,_⟩
 .cases hb
 .rw [e1] at hb;cases hb;exact ⟨_,e3,rfl⟩
theorem cV.nil (sz:Nat) (e:TypeId):cV M w (.slice none 0 0) sz e []:=
 ⟨[],Gg w 0 e sz,fun u h=>by simp at h,fun u h=>by simp at h,fun q c h=>by simp [aH] at h,fun b h=>(by cases h),wZ w⟩
theorem cV.append {P:Program} (hm:Mem M ob obs w) {t tx ty e:TypeId} {i:TypeInfo} {z:Value} (ht:P.underlying t=some (.slice e)) (hi:P.info? e=some i) (hz:i.zero=some z) (hz1:z.cells.toList.all (·.oneCell')=true)
  (hzs:z.cells.size=i.size) (hpos:0<i.size) {xs ys:List AVal} {v x:Value} (hrow:cV M w v i.size e xs) (hs:SrcA P M w i.size tx x ys)
  (h63:xs.length+ys.length<=maxLen) (hbytes:(xs.length+ys.length)*i.bytes<=140737488355328):
  ∃ v' w',(Cd #[t,tx] ty #[v,x]).run P w= .ok v' w'/\cV M w' v' i.size e (xs++ys)/\w'.os=w.os/\w'.tape=w.tape/\w'.output=w.output/\w.heap.size<=w'.heap.size/\
   (∀ b,v'.ownBlock=some b->v.ownBlock=some b\/w.heap.size<=b)/\∀ b,b<w.heap.size->v.ownBlock≠some b->w'.heap[b]? =w.heap[b]?:=by
 obtain ⟨cv,o1,o2,o3,o4,o5,o6⟩:=hrow
 obtain ⟨⟨news,s1,s2⟩,s3⟩:=hs
 obtain ⟨v',w',hr,hown',hos,htape,hout,hsize,hcase,honeb⟩:=fP (P:=P) w t tx ty e i z ht hi hz hz1 hzs v xs.length cv o1 o2 x ys.length news s1 h63 hbytes
 have hpick:∀ b,v'.ownBlock=some b->v.ownBlock=some b\/w.heap.size<=b:=fun b hb=>by
  rcases hcase with ⟨q,_⟩ | ⟨q,_⟩
  .exact .inl (q▸hb)
  .rw [q] at hb;cases hb;exact .inr (Bc _)
 refine ⟨v',w',hr,⟨cv++news,by rw [Ag];exact hown',fun u hu=>?_,fun y hy=>?_,fun q c hq=>?_,fun b hb o=>?_,honeb o6⟩,hos,htape,hout,hsize,hpick,fun b hlt hn=>?_⟩
 .rcases Ba.1 hu with hu | hu
  .exact o2 u hu
  .exact s1.one u hu
 .rcases Ba.1 hy with hy | hy
  .exact o3 y hy
  .exact s3 y hy
 .by_cases hlt:q<xs.length*i.size
  .rw [cE hpos hlt] at hq
   rw [Ah (by rw [o1.1];exact hlt)]
   exact o4 q c hq
  .rw [bY hpos (by omega)] at hq
   rw [Aq (by rw [o1.1];omega),o1.1]
   exact s2 _ c hq
 .rcases hpick b hb with q | q
  .exact o5 b q o
  .exact hm.noImm q o
 .rcases hcase with ⟨_,q⟩ | ⟨_,q⟩
  .exact q b hn
  .exact q b hlt
theorem cV.hm {v:Value} {sz:Nat} {e:TypeId} {xs:List AVal} (h:cV M w v sz e xs):∃ a c,v=hmV (a,c,xs):=by
 obtain ⟨cv,o1,_⟩:=h
 rcases cW o1 with ⟨q,hn⟩ | ⟨b,cap,q,_⟩
 .exact ⟨none,0,by rw [q,hmV];simp only [hn]⟩
 .exact ⟨_,cap,q⟩
theorem Mem.famAppend {P:Program} (h:Mem M ob obs w) {t tx ty e:TypeId} {i:TypeInfo} {z:Value} (ht:P.underlying t=some (.slice e)) (hi:P.info? e=some i) (hz:i.zero=some z) (hz1:z.cells.toList.all (·.oneCell')=true)
  (hzs:z.cells.size=i.size) (hpos:0<i.size) {k g j:Nat} {ms:List Hm} {m:Hm} {ys:List AVal} (hx:obs[k]? =some (.bun g (jX i.size e ms))) (hj:ms[j]? =some m) {x:Value} (hs:SrcA P M w i.size tx x ys)
  (h63:m.2.2.length+ys.length<=maxLen) (hbytes:(m.2.2.length+ys.length)*i.bytes<=140737488355328):
  ∃ a c w' ob',(Cd #[t,tx] ty #[hmV m,x]).run P w= .ok (hmV (a,c,m.2.2++ys)) w'/\Mem M ob' (obs.set k (.bun (g+1) (jX i.size e (ms.set j (a,c,m.2.2++ys))))) w'/\
   Ext M ob obs w M ob' (obs.set k (.bun (g+1) (jX i.size e (ms.set j (a,c,m.2.2++ys))))) w':=by
 obtain ⟨hs0,hh,hl,bs,hv,hd,h1,h2,h3⟩:=h.obj k _ hx
 have hb:blk hs0=bs:=(dU hl hv).trans (dW _)
 obtain ⟨v',w',hr,hrow,hos,htape,hout,hsize,hpick,hkeep⟩:=cV.append (P:=P) (ty:=ty) h ht hi hz hz1 hzs hpos (h1 j m hj) hs h63 hbytes
 obtain ⟨a,c,rfl⟩:=hrow.hm
 have hjl:j<ms.length:=(Ab.1 hj).1
 have get:∀ {q:Nat} {m':Hm},(ms.set j (a,c,m.2.2++ys))[q]? =some m'->(q=j/\m'=(a,c,m.2.2++ys))\/(q≠j/\ms[q]? =some m'):=fun {q m'} hq=>by
  by_cases hqj:q=j
  .subst hqj;rw [Ax hjl] at hq;cases hq;exact .inl ⟨rfl,rfl⟩
  .rw [Bd (Ds hqj)] at hq;exact .inr ⟨hqj,hq⟩
 have inb:∀ {q:Nat} {m':Hm} {b:Nat},ms[q]? =some m'->(hmV m').ownBlock=some b->b∈bs/\b<w.heap.size:=fun {q m' b} hq hb=>by
  have:=(h3 b).2 ⟨q,m',hq,hb⟩
  obtain ⟨o,ho,_⟩:=hd b this
  exact ⟨this,eI ho⟩
 have rows:∀ (q:Nat) m',(ms.set j (a,c,m.2.2++ys))[q]? =some m'->cV M w' (hmV m') i.size e m'.2.2:=fun q m' hq=>by
  rcases get hq with ⟨_,rfl⟩ | ⟨hne,hq⟩
  .exact hrow
  .refine (h1 q m' hq).mono (fun _ _ _ h=>h) (fun _ _ h=>h) fun b c' hb hc=>?_
   rw [hkeep b (inb hq hb).2 fun e=>hne (h2 q j m' m b hq hj hb e)]
   exact hc
 let bs':=(ms.set j (a,c,m.2.2++ys)).filterMap fun m=>(hmV m).ownBlock
 have hbs':∀ b,b∈bs'↔ ∃ (i:Nat) (m':Hm),(ms.set j (a,c,m.2.2++ys))[i]? =some m'/\(hmV m').ownBlock=some b:=fun b=>by
  simp only [bs',List.mem_filterMap]
  constructor
  .rintro ⟨m',h4,h5⟩
   obtain ⟨q,hq⟩:=Cz h4
   exact ⟨q,m',hq,h5⟩
  .rintro ⟨q,m',h4,h5⟩
   exact ⟨m',Aw h4,h5⟩
 have hno:∀ {b o y},M b o y->(hmV m).ownBlock≠some b:=fun {b o y} hy e=>by
  obtain ⟨_,_,_,_,_,o5,_⟩:=h1 j m hj
  exact o5 b e o y hy
 have main:=h.turn (M':=M) (w':=w') (x':=.bun (g+1) (jX i.size e (ms.set j (a,c,m.2.2++ys)))) (hs':=hs0++[fM bs']) hx hh ⟨_,rfl⟩ (fun e=>by cases e) (fun _ _ _ h=>h) (fun _ _ _ h=>.inl h) (fun b o y hy=>by
   obtain ⟨u,hu,h4,h5⟩:=h.imm b o y hy
   have hlt:b<w.heap.size:=by simpa using Cj w _ hu
   exact ⟨u,(Cg (w:=w) (a:=⟨b,o,none⟩) (hkeep b hlt (hno hy))).trans hu,h4,h5⟩)
  (fun b hlt hn=>hkeep b hlt fun e=>hn ⟨rfl,by rw [hb];exact (inb hj e).1⟩) hos htape hout hsize
  (fun _=>⟨by simp [hl],bs',by rw [<-hl];simp,fun b hb=>by
   obtain ⟨q,m',hq,hb⟩:=(hbs' b).1 hb
   exact (rows q m' hq).blockAt hb,rows,fun q q' m1 m2 b hq hq' e1 e2=>by
   rcases get hq with ⟨r1,rfl⟩ | ⟨r1,hq⟩<;>rcases get hq' with ⟨r2,rfl⟩ | ⟨r2,hq'⟩
   .rw [r1,r2]
   .rcases hpick b e1 with p | p
    .exact absurd (h2 j q' m m2 b hj hq' p e2) (fun e=>r2 e.symm)
    .have:=(inb hq' e2).2;omega
   .rcases hpick b e2 with p | p
    .exact absurd (h2 q j m1 m b hq hj e1 p) r1
    .have:=(inb hq e1).2;omega
   .exact h2 q q' m1 m2 b hq hq' e1 e2,hbs'⟩)
  (fun _ b hb'=>by
   rw [lM,dW] at hb'
   obtain ⟨q,m',hq,hb1⟩:=(hbs' b).1 hb'
   refine ⟨?_,by obtain ⟨o,ho,_⟩:=(rows q m' hq).blockAt hb1;exact eI ho⟩
   rw [hb]
   rcases get hq with ⟨_,rfl⟩ | ⟨_,hq⟩
   .rcases hpick b hb1 with p | p
    .exact .inl ⟨rfl,(inb hj p).1⟩
    .exact .inr p
   .exact .inl ⟨rfl,(inb hq hb1).1⟩)
 exact ⟨a,c,w',_,hr,main.1,main.2.1⟩
end
section
variable {E:Env} {fn:Func} {g:Goal}
inductive HandA (E:Env) (fn:Func) (g:Goal) (all:List Oper) (tab:List Nat) (ks:List KI) (n:Nat) (d:Option Nat) (s x:Operand) (t t2:TypeId) (l2:List Oper) (fr:List (Nat×AVal)) (obs:List AObj):Prop
 | mk (k gg j:Nat) (ms:List Hm) (m:Hm) (ys:List AVal) (e esz eb sz:Nat) (ag:Bool) (z:AVal) (hk:aE obs k= .bun gg (jX esz e ms)) (hj:ms[j]? =some m) (hs:ev fr s=hmA m) (hT:cL E.T t=some {kind:=.slc e esz eb,size:=sz,agg:=ag,zero:=z})
   (hp:Ea 1 esz=true) (hx:OL E (aE obs) esz t2 (ev fr x)=some ys) (hf:HZ (m.2.2.length+ys.length) eb)
   (h:∀ a c,To E fn g (.mid ⟨all,false,tab,ks⟩ (n+1) l2 [] (jD fr d (hmA (a,c,m.2.2++ys))) (bK obs k (.bun (gg+1) (jX esz e (ms.set j (a,c,m.2.2++ys)))))))
theorem KK {M:Imm} {ob:Hs} {v:Value} {m:Hm} (h:Rep M ob v (hmA m)):v=hmV m:=by cases h;rfl
theorem yT {rd:Option Nat} {ops:Array Oper} {M0:Imm} {ob0:Hs} {obs0:List AObj} {w0:World} {sz:Nat} {dfs:List (Nat×List AVal)} {Q:Exit->Act->World->Prop} {K:List (Nat×AVal)->List AObj->Prop} {Kp:(Nat->AVal)->AVal->List AObj->Prop} {rest:List Oper}
  (hE:EnvOK E) (hp:∀ g v obs ch a w,Kp g v obs->PP M0 ob0 obs0 w0 sz dfs g v obs ch a w->Q (.panic ch) a w) (hq:∀ fr obs a w,K fr obs->SS M0 ob0 obs0 w0 sz dfs fr obs a w->wpListIn (fen rd) 0 E.P ops Q rest a w):
  ∀ (l:List Oper) (n:Nat) (fr:List (Nat×AVal)) (obs:List AObj) (a:Act) (w:World),(∀ p∈l,∀ d,p.dst=some d->d<sz)->dN E ops.toList K Kp n l fr obs->SS M0 ob0 obs0 w0 sz dfs fr obs a w->wpListIn (fen rd) 0 E.P ops Q (l++rest) a w
 | [],n,fr,obs,a,w,_,h,hs=>hq fr obs a w h hs
 | p::l,n,fr,obs,a,w,hd,h,hs=>by
  refine wk (DJ (K:=fun fr obs=>dN E ops.toList K Kp (n+1) l fr obs) (Kp:=Kp) (hint:=cP E p.dst) hE hs (hd p (by simp)) ?_ fun v obs ch w hk hpp=>hp (aX fr) v obs ch a w hk hpp) fun a' w' ⟨fr',obs',hk,hs'⟩=>yT hE hp hq l (n+1) fr' obs' a' w' (fun p hp=>hd p (by simp [hp])) hk hs'
  simp only [dN] at h
  cases hw:bZ ops.toList (ev fr) p.guard with
  | none=>rw [hw] at h;exact h.elim
  | some b=>
   rw [hw] at h
   cases b with
   | false=>exact h
   | true=>
    exact fR (fun v o h=>qE h) h
theorem BS {P:Program} {s x:Operand} {t t2:TypeId} {p:Oper} (hp:p.op= .call {callee:=.builtin .append,args:= #[s,x],argTypes:= #[t,t2]}) {ρ:Operand->Value} {w w':World} {v:Value}
  (h:(Cd #[t,t2] p.type #[ρ s,ρ x]).run P w= .ok v w'):(execOp ρ p).run P w= .ok (.value v) w':=by
 obtain ⟨d,op,ty,pos,after,gd⟩:=p
 dsimp only at hp
 subst hp
 simp [execOp,resolve,invoke,builtin,h]
theorem To.handA (hE:EnvOK E) {id:Nat} {ops:Array Oper} {tab:List Nat} {ks:List KI} {fr:List (Nat×AVal)} {obs:List AObj} {l1 l2:List Oper} {p:Oper} {s x:Operand} {t t2:TypeId} (hops:ops.toList=l1++p::l2)
  (hp:p.op= .call {callee:=.builtin .append,args:= #[s,x],argTypes:= #[t,t2]}) (hg:p.guard=none)
  (h:dN E ops.toList (HandA E fn g ops.toList tab ks l1.length p.dst s x t t2 l2) (iI E fn g) 0 l1 fr obs):To E fn g (.code (.code (.region id ops false)::ks) fr obs):=
 .mk fun ho M0 ob0 obs0 w0 a w hst hs=>by
  simp only [bC,KI.ok,cQ,Ad] at ho
  obtain ⟨⟨ho1,ho2⟩,ho3⟩:=ho
  have hd:=lI ho1
  refine KW.code (Q':=QR E fn g M0 ob0 obs0 w0 ks) ?_ (fun a w h=>h) (fun ch a w h=>h) (fun e a w hh=>by
   cases e<;>first | exact .inl rfl | exact .inr ⟨_,rfl⟩ | exact hh.elim)
  have hpp:∀ gf v obs ch a w,iI E fn g gf v obs->PP M0 ob0 obs0 w0 fn.ntmps E.df gf v obs ch a w->mL E fn M0 ob0 obs0 w0 g (.panic ch) a w:=fun gf v obs ch a w he hpp=>vD he hst hpp
  have hq:∀ fr obs a w,cS E fn g ks fr obs->SS M0 ob0 obs0 w0 fn.ntmps E.df fr obs a w->KW E.rd E.P (mL E fn M0 ob0 obs0 w0 g) ks a w:=fun fr obs a w hk hs=>hk ho3 M0 ob0 obs0 w0 a w hst hs
  refine wpIn_region_list ?_
  have main:∀ fr obs a w,HandA E fn g ops.toList tab ks l1.length p.dst s x t t2 l2 fr obs->SS M0 ob0 obs0 w0 fn.ntmps E.df fr obs a w->wpListIn (fen E.rd) 0 E.P ops (QR E fn g M0 ob0 obs0 w0 ks) (p::l2) a w:=by
   rintro fr obs a w ⟨k,gg,j,ms,m,ys,e,esz,eb,sz,ag,z0,hk,hj,hs1,hT,hpos,hx1,hf,hth⟩ hs
   obtain ⟨M,ob,hx,hm,hfr,hsz,hdf,h0⟩:=hs
   obtain ⟨⟨hu,i,z,hi,hsi,heb,hz,hzs,hz1⟩,_⟩:=(hE.tab t _ hT).kind
   subst hsi heb
   have hpos:=Bw hpos
   have hev:=yE (a:=a) hfr
   have hsrc:=GP hE hm (hev x) hx1 hpos
   have hk':=bP hk (by simp)
   have hsv:a.eval s=hmV m:=by
    have:=hev s
    rw [hs1] at this
    exact KK this
   obtain ⟨a1,c1,w',ob',hrun,m1,m2⟩:=hm.famAppend (P:=E.P) (ty:=p.type) hu hi hz hz1 hzs hpos hk' hj hsrc hf.1 hf.2
   have hop:mM E.P p a.eval w (fun e w2=>e= .returned (hmV (a1,c1,m.2.2++ys))/\w2=w'):=.inl ⟨_,_,BS hp (by rw [hsv];exact hrun),rfl,rfl⟩
   refine wk (next:=fun a w=>SS M0 ob0 obs0 w0 fn.ntmps E.df (jD fr p.dst (hmA (a1,c1,m.2.2++ys))) (bK obs k (.bun (gg+1) (jX i.size e (ms.set j (a1,c1,m.2.2++ys))))) a w) ?_ fun a w hs=>?_
   .unfold G
    rw [if_pos (by simp [Cw,hg])]
    refine hop.wpIn (by intro c;rw [hp];simp) (fun v w2 ⟨e1,e2⟩=>?_) (fun ch w2 ⟨e1,_⟩=>by cases e1)
    cases e1
    subst e2
    rw [aP hk']
    have:=m2.lens
    have:=m1.len
    refine ⟨M,ob',hx.trans m2,m1,?_,(cY _ _ _).1.trans hsz,(hdf.ext hm m2).put,by have h1:=hm.len;omega⟩
    rw [dI]
    exact kK (fun t=>(hfr t).mono m2.imm m2.hs) (aAL M ob' (a1,c1,m.2.2++ys)) fun d' e=>hsz▸hd p (by rw [hops];simp) d' e
   .obtain ⟨hth⟩:=hth a1 c1
    exact oA (rd:=E.rd) (Q:=QR E fn g M0 ob0 obs0 w0 ks) (K:=cS E fn g ks) (Kp:=iI E fn g) hE (fun gf v obs ch a w h1 h2=>hpp gf v obs ch a w h1 h2) (fun fr obs a w h1 h2=>hq fr obs a w h1 h2) l2 (l1.length+1) _ _ a w (fun p hp=>hd p (by rw [hops];simp [hp])) hth hs
  rw [hops]
  exact yT (rd:=E.rd) (Q:=QR E fn g M0 ob0 obs0 w0 ks) (Kp:=iI E fn g) hE (fun gf v obs ch a w h1 h2=>hpp gf v obs ch a w h1 h2) main l1 0 fr obs a w (fun p hp=>hd p (by rw [hops];simp [hp])) h hs
theorem To.objTo {st:List KI} {fr:List (Nat×AVal)} {obs:List AObj} (k:Nat) {x x':AObj} (hk:aE obs k=x) (hx:x≠ .dead) (how:x.owns=true) (ho:∀ M ob w hs,(∀ b,b∈blk hs->b<w.heap.size)->gD M ob w hs x->gD M ob w hs x')
  (h:To E fn g (.code st fr (bK obs k x'))):To E fn g (.code st fr obs):=
 .mk fun hok M0 ob0 obs0 w0 a w hst hs=>by
  obtain ⟨M,ob,hxx,hm,hfr,r1,r2,r3⟩:=hs
  have hk':=bP hk hx
  refine h.rec fun h=>h hok M0 ob0 obs0 w0 a w hst ?_
  rw [aP hk']
  have hlt:=(Ab.1 hk').1
  have al:∀ {i b},aM ob (obs.set k x') i b->aM ob obs i b:=fun {i b} ⟨c,hs,e1,e2,e3,e4⟩=>by
   by_cases hi:i=k
   .subst hi;exact ⟨x,hs,hk',how,e3,e4⟩
   .rw [Bd (Ds hi)] at e1;exact ⟨c,hs,e1,e2,e3,e4⟩
  refine ⟨M,ob,⟨hxx.imm,hxx.new,hxx.hs,hxx.os,hxx.tape,hxx.output,hxx.size,hxx.keep,fun i b ha=>hxx.fresh i b (al ha)⟩,⟨hm.imm,by simpa using hm.len,fun i c hc=>?_,fun i b ha=>hm.lt i b (al ha),fun i j b h1 h2=>hm.inj i j b (al h1) (al h2)⟩,hfr,r1,r2,by simpa using r3⟩
  by_cases hi:i=k
  .subst hi
   rw [Ax hlt] at hc
   cases hc
   obtain ⟨hs,h1,h2⟩:=hm.obj i x hk'
   exact ⟨hs,h1,ho _ _ _ _ (fun b hb=>hm.lt i b ⟨x,hs,hk',how,h1,hb⟩) h2⟩
  .rw [Bd (Ds hi)] at hc
   exact hm.obj i c hc
theorem To.beginF {st:List KI} {fr:List (Nat×AVal)} {obs:List AObj} (sz:Nat) (e:TypeId) (h:To E fn g (.code st fr (jZ obs (.bun 0 (jX sz e []))))):To E fn g (.code st fr obs):=
 .mk fun hok M0 ob0 obs0 w0 a w hst hs=>by
  obtain ⟨M,ob,hxx,hm,hfr,r1,r2,r3⟩:=hs
  refine h.rec fun h=>h hok M0 ob0 obs0 w0 a w hst ?_
  rw [nF]
  have hb:blk [fM []]=[]:=dW _
  obtain ⟨m1,m2⟩:=hm.snoc (c:=.bun 0 (jX sz e [])) (hs:=[fM []]) (fun ob _=>⟨rfl,[],rfl,fun b hb=>by simp at hb,fun i m h=>by simp at h,fun i j m m' b h=>by simp at h,fun b=>⟨fun h=>by simp at h,fun ⟨i,m,h,_⟩=>by simp at h⟩⟩) (fun b h=>by rw [hb] at h;simp at h) (fun k b _=>by rw [hb];simp)
  have hle:dD ob (ob++[[fM []]]):=fun j l hj=>⟨l,by rw [Ah (Ab.1 hj).1];exact hj,Cr _⟩
  have hx1:Ext M ob obs w M (ob++[[fM []]]) (obs++[.bun 0 (jX sz e [])]) w:=⟨fun _ _ _ h=>h,fun _ _ _ h=>.inl h,hle,rfl,rfl,rfl,Bc _,fun _ _ _=>rfl,fun k b ha=>by
   rcases m2 k b ha with ⟨_,q⟩ | ⟨_,q⟩
   .exact .inl ⟨k,q⟩
   .rw [hb] at q;simp at q⟩
  exact ⟨M,_,hxx.trans hx1,m1,fun t=>(hfr t).mono (fun _ _ _ h=>h) hle,r1,r2.ext hm hx1,by simp;omega⟩
theorem XL {M:Imm} {ob:Hs} {w:World} {hs:List Value} {gg sz:Nat} {e:TypeId} {ms:List Hm} (h:gD M ob w hs (.bun gg (jX sz e ms))):gD M ob w hs (.bun gg (jX sz e (ms++[(none,0,[])]))):=by
 obtain ⟨h1,bs,h2,h3,i1,i2,i3⟩:=h
 have get:∀ {i:Nat} {m:Hm},(ms++[((none,0,[]):Hm)])[i]? =some m->ms[i]? =some m\/(i=ms.length/\m=(none,0,[])):=fun {i m} hi=>by
  by_cases hl:i<ms.length
  .rw [Ah hl] at hi;exact .inl hi
  .have h2:i=ms.length:=by have:=(Ab.1 hi).1;simp at this;omega
   subst h2
   rw [Aq (by simp)] at hi
   simp at hi
   exact .inr ⟨rfl,hi.symm⟩
 refine ⟨h1,bs,h2,h3,fun i m hi=>?_,fun i j m m' b hi hj e1 e2=>?_,fun b=>⟨fun hb=>?_,fun ⟨i,m,hi,e1⟩=>?_⟩⟩
 .rcases get hi with hi | ⟨_,rfl⟩
  .exact i1 i m hi
  .exact cV.nil sz e
 .rcases get hi with hi | ⟨_,rfl⟩
  .rcases get hj with hj | ⟨_,rfl⟩
   .exact i2 i j m m' b hi hj e1 e2
   .cases e2
  .cases e1
 .obtain ⟨i,m,hi,e1⟩:=(i3 b).1 hb
  exact ⟨i,m,by rw [Ah (Ab.1 hi).1];exact hi,e1⟩
 .rcases get hi with hi | ⟨_,rfl⟩
  .exact (i3 b).2 ⟨i,m,hi,e1⟩
  .cases e1
theorem VD {M:Imm} {ob:Hs} {w:World} {hs:List Value} {gg:Nat} {e:TypeId} {ms:List Hm} (h:gD M ob w hs (.row gg 1 e (ms.map hmA++[.nilslice]))):gD M ob w hs (.row gg 1 e ((ms++[(none,0,[])]).map hmA)):=by
 obtain ⟨h1,v,h2,cv,r1,r2,r3,r4,r5,r6⟩:=h
 refine ⟨h1,v,h2,cv,by simpa using r1,r2,fun x hx=>?_,fun q c hc=>?_,r5,r6⟩
 .simp only [Cy] at hx
  obtain ⟨m,_,rfl⟩:=hx
  rfl
 .have one:∀ {l:List AVal} {q:Nat} {c:AVal},(∀ x∈l,x.cells=[x])->(aH 1 l q=some c↔l[q]? =some c):=fun {l q c} hl=>by
   unfold aH
   rw [Ki,Kh]
   cases hq:l[q]? with
   | none=>simp
   | some x=>simp [hl x (Aw hq)]
  have hc1:=(one (fun x hx=>by simp only [Cy] at hx;obtain ⟨m,_,rfl⟩:=hx;rfl)).1 hc
  rw [Cf] at hc1
  by_cases hl:q<ms.length
  .rw [Ah (by simpa using hl)] at hc1
   exact r4 q c ((one (fun x hx=>by
    simp only [Ba,Cy,Df] at hx
    rcases hx with ⟨m,_,rfl⟩ | rfl<;>rfl)).2 (by rw [Ah (by simpa using hl)];exact hc1))
  .have hq:q=ms.length:=by have:=(Ab.1 hc1).1;simp at this;omega
   subst hq
   rw [Aq (by simp)] at hc1
   simp at hc1
   obtain ⟨u,hu,hr⟩:=r4 ms.length .nilslice ((one (fun x hx=>by
    simp only [Ba,Cy,Df] at hx
    rcases hx with ⟨m,_,rfl⟩ | rfl<;>rfl)).2 (by rw [Aq (by simp)];simp))
   refine ⟨u,hu,?_⟩
   subst hc1
   cases hr
   exact .hsl _ _ _
end
section
variable {M:Imm} {ob:Hs} {obs:List AObj} {w:World}
theorem Mem.famFreeze (h:Mem M ob obs w) {k gg sz:Nat} {e:TypeId} {ms:List Hm} (hx:obs[k]? =some (.bun gg (jX sz e ms))):
  ∃ M' ob',Mem M' ob' (obs.set k (.bun (gg+1) (jX sz e []))) w/\Ext M ob obs w M' ob' (obs.set k (.bun (gg+1) (jX sz e []))) w/\∀ (i:Nat) m,ms[i]? =some m->Rep M' [] (hmV m) (.slice sz m.2.2 .no):=by
 obtain ⟨hs0,hh,hl,bs,hv,hd,h1,h2,h3⟩:=h.obj k _ hx
 have hb:blk hs0=bs:=(dU hl hv).trans (dW _)
 let M':Imm:=fun b o y=>M b o y\/∃ (i:Nat) (m:Hm),ms[i]? =some m/\(hmV m).ownBlock=some b/\aH sz m.2.2 o=some y
 have hM:∀ b o y,M b o y->M' b o y:=fun _ _ _ h=>.inl h
 have main:=h.turn (M':=M') (w':=w) (x':=.bun (gg+1) (jX sz e [])) (hs':=hs0++[fM []]) hx hh ⟨_,rfl⟩ (fun e=>by cases e) hM (fun b o y hy=>by
   rcases hy with hy | ⟨i,m,h4,h5,_⟩
   .exact .inl hy
   .exact .inr (.inl ⟨rfl,by rw [hb];exact (h3 b).2 ⟨i,m,h4,h5⟩⟩)) (fun b o y hy=>by
   rcases hy with hy | ⟨i,m,h4,h5,h6⟩
   .obtain ⟨u,q1,q2,q3⟩:=h.imm b o y hy
    exact ⟨u,q1,q2,q3.monoM hM⟩
   .obtain ⟨cv,o1,o2,o3,o4,_⟩:=h1 i m h4
    obtain ⟨u,hu,hr⟩:=o4 o y h6
    exact ⟨u,eQ o1 h5 hu,o2 u (Aw hu),hr.monoM hM⟩) (fun _ _ _=>rfl) rfl rfl rfl (Bc _)
  (fun _=>⟨by simp [hl],[],by rw [<-hl];simp,fun b hb=>by simp at hb,fun i m h=>by simp at h,fun i j m m' b h=>by simp at h,fun b=>⟨fun h=>by simp at h,fun ⟨i,m,h,_⟩=>by simp at h⟩⟩)
  (fun _ b hb'=>by
   rw [lM,dW] at hb'
   simp at hb')
 refine ⟨M',_,main.1,main.2.1,fun i m hm=>?_⟩
 obtain ⟨cv,o1,o2,o3,o4,_⟩:=h1 i m hm
 exact (hD (M:=M) (ob:=[]) o1 o3 (t:=.no) trivial).monoM fun b o y hy=>by
  rcases hy with hy | ⟨h5,h6⟩
  .exact .inl hy
  .exact .inr ⟨i,m,hm,h5,h6⟩
theorem Mem.objTo (hm:Mem M ob obs w) {k:Nat} {x x':AObj} (hk':obs[k]? =some x) (how:x.owns=true) (ho:∀ hs,ob[k]? =some hs->gD M ob w hs x->gD M ob w hs x'):Mem M ob (obs.set k x') w/\Ext M ob obs w M ob (obs.set k x') w:=by
 have hlt:=(Ab.1 hk').1
 have al:∀ {i b},aM ob (obs.set k x') i b->aM ob obs i b:=fun {i b} ⟨c,hs,e1,e2,e3,e4⟩=>by
  by_cases hi:i=k
  .subst hi;exact ⟨x,hs,hk',how,e3,e4⟩
  .rw [Bd (Ds hi)] at e1;exact ⟨c,hs,e1,e2,e3,e4⟩
 refine ⟨⟨hm.imm,by simpa using hm.len,fun i c hc=>?_,fun i b ha=>hm.lt i b (al ha),fun i j b h1 h2=>hm.inj i j b (al h1) (al h2)⟩,⟨fun _ _ _ h=>h,fun _ _ _ h=>.inl h,dD.refl _,rfl,rfl,rfl,Bc _,fun _ _ _=>rfl,fun i b ha=>.inl ⟨i,al ha⟩⟩⟩
 by_cases hi:i=k
 .subst hi
  rw [Ax hlt] at hc
  cases hc
  obtain ⟨hs,h1,h2⟩:=hm.obj i x hk'
  exact ⟨hs,h1,ho _ h1 h2⟩
 .rw [Bd (Ds hi)] at hc
  exact hm.obj i c hc
end
theorem yV {l:List AVal} {q:Nat} {c:AVal} (hl:∀ x∈l,x.cells=[x]):aH 1 l q=some c↔l[q]? =some c:=by
 unfold aH
 rw [Ki,Kh]
 cases hq:l[q]? with
 | none=>simp
 | some x=>simp [hl x (Aw hq)]
theorem To.famFrz {E:Env} {fn:Func} {g:Goal} {st:List KI} {fr:List (Nat×AVal)} {obs:List AObj} (k k2:Nat) {gg g2 sz:Nat} {e e2:TypeId} {ms:List Hm} (hk:aE obs k= .bun gg (jX sz e ms)) (hk2:aE obs k2= .row g2 1 e2 (ms.map hmA))
  (h:To E fn g (.code st fr (bK (bK obs k (.bun (gg+1) (jX sz e []))) k2 (.row g2 1 e2 (ms.map fun m=>.slice sz m.2.2 .no))))):To E fn g (.code st fr obs):=
 .mk fun hok M0 ob0 obs0 w0 a w hst hs=>by
  obtain ⟨M,ob,hxx,hm,hfr,r1,r2,r3⟩:=hs
  have hk':=bP hk (by simp)
  have hk2':=bP hk2 (by simp)
  have hne:k≠k2:=fun e=>by rw [e,hk2'] at hk';cases hk'
  refine h.rec fun h=>h hok M0 ob0 obs0 w0 a w hst ?_
  rw [aP hk']
  have hk3:(obs.set k (.bun (gg+1) (jX sz e [])))[k2]? =some (.row g2 1 e2 (ms.map hmA)):=by rw [Bd hne];exact hk2'
  rw [aP hk3]
  obtain ⟨M',ob',m1,m2,m3⟩:=hm.famFreeze hk'
  obtain ⟨m4,m5⟩:=m1.objTo (x':=.row g2 1 e2 (ms.map fun m=>.slice sz m.2.2 .no)) hk3 rfl fun hs _ ⟨h1,v,h2,cv,s1,s2,s3,s4,s5,s6⟩=>by
   refine ⟨h1,v,h2,cv,by simpa using s1,s2,fun x hx=>?_,fun q c hc=>?_,s5,s6⟩
   .simp only [Cy] at hx
    obtain ⟨m,_,rfl⟩:=hx
    rfl
   .have hc1:=(yV (fun x hx=>by simp only [Cy] at hx;obtain ⟨m,_,rfl⟩:=hx;rfl)).1 hc
    rw [Bb] at hc1
    obtain ⟨m,hm1,rfl⟩:=Bx.1 hc1
    obtain ⟨u,hu,hr⟩:=s4 q (hmA m) ((yV (fun x hx=>by simp only [Cy] at hx;obtain ⟨m,_,rfl⟩:=hx;rfl)).2 (by rw [Bb,hm1];rfl))
    exact ⟨u,hu,by rw [KK hr];exact m3 q m hm1⟩
  have X:=m2.trans m5
  have:=X.lens
  have:=m4.len
  exact ⟨M',ob',hxx.trans X,m4,fun t=>(hfr t).mono X.imm X.hs,r1,r2.ext hm X,by have h1:=hm.len;omega⟩
theorem To.handAt {E:Env} {fn:Func} {g:Goal} (hE:EnvOK E) (n:Nat) {id:Nat} {ops:Array Oper} (tab:List Nat) {ks:List KI} {fr:List (Nat×AVal)} {obs:List AObj} {p:Oper} {s x:Operand} {t t2:TypeId} (hn:ops.toList[n]? =some p)
  (hp:p.op= .call {callee:=.builtin .append,args:= #[s,x],argTypes:= #[t,t2]}) (hg:p.guard=none)
  (h:dN E ops.toList (HandA E fn g ops.toList tab ks n p.dst s x t t2 (ops.toList.drop (n+1))) (iI E fn g) 0 (ops.toList.take n) fr obs):To E fn g (.code (.code (.region id ops false)::ks) fr obs):=by
 have hlt:=(Ab.1 hn).1
 refine To.handA hE (tab:=tab) (l1:=ops.toList.take n) (l2:=ops.toList.drop (n+1)) (p:=p) ?_ hp hg ?_
 .conv=>lhs;rw [<-Fj n ops.toList,Ae hlt]
  rw [(Ab.1 hn).2]
 .rw [Cq,Ei (Nat.le_of_lt hlt)]
  exact h
def wL (r:Nat):Code->Option Code
 | .region id ops dr=>bif Ar id r then some (.region id ops dr) else none
 | .seq a b=>(match wL r a with | some x=>some x | none=>wL r b)
 | .cond _ a b=>(match wL r a with | some x=>some x | none=>wL r b)
 | .block _ b=>wL r b
 | .loop b=>wL r b
 | _=>none
def YS (fn:Func) (r:Nat):List KI:=.code (match wL r (cR fn) with | some c=>c | none=>.skip)::fG fn r
theorem To.ofC {E:Env} {fn:Func} {g:Goal} {ks:List KI} {fr:List (Nat×AVal)} {obs:List AObj} (h:To E fn g (.code ks fr obs)):To E fn g (.head ks fr obs):=h.rec fun h=>.mk h
theorem To.toC {E:Env} {fn:Func} {g:Goal} {ks:List KI} {fr:List (Nat×AVal)} {obs:List AObj} (h:To E fn g (.head ks fr obs)):To E fn g (.code ks fr obs):=h.rec fun h=>.mk h
section
variable {E:Env} {all:List Oper} {tab:List Nat} {L0:Nat}
end
section
variable {E:Env} {ops:Array Oper} {tab:List Nat} {tl L0:Nat} {Kp:(Nat->AVal)->AVal->List AObj->Prop} {Q:AS->Prop}
end
section
variable {E:Env} {ops:Array Oper} {tab:List Nat} {tl L0:Nat} {Kp:(Nat->AVal)->AVal->List AObj->Prop} {Kq:List (Nat×AVal)->List AObj->Prop} {Q:AS->Prop}
end
section
variable {rd:Option Nat} {M0:Imm} {ob0:Hs} {obs0:List AObj} {w0:World} {sz:Nat} {dfs:List (Nat×List AVal)} {E:Env} {ops:Array Oper} {Q:Exit->Act->World->Prop} {K:AS->Prop} {Kp:(Nat->AVal)->AVal->List AObj->Prop} {tl L0:Nat} {tab:List Nat}
end
section
variable {E:Env} {ops:Array Oper} {tab:List Nat} {tl L0:Nat} {Kp:(Nat->AVal)->AVal->List AObj->Prop} {Kg:List (Nat×AVal)->List AObj->Prop}
end
def E9 (A tab:List Nat) (n t:Nat):Nat->List Oper->Bool
 | _,[]=>false
 | i,p::r=>(match p.dst with | some d=>Ar d t&&(pA i A&& !cD (cH tab n) i) | none=>false)||E9 A tab n t (i+1) r
def evP (A tab:List Nat) (all:List Oper) (n:Nat) (fr:List (Nat×AVal)):Operand->AVal
 | .tmp t=>bif E9 A tab n t 0 all then .undef else aX fr t
 | x=>ev fr x
def uS (A:List Nat) (t:Nat):Nat->List Oper->Bool
 | _,[]=>false
 | i,p::r=>(match p.dst with | some d=>Ar d t&&pA i A | none=>false)||uS A t (i+1) r
def gP (A:List Nat) (all:List Oper) (fr:List (Nat×AVal)):Nat->AVal:=fun t=>bif uS A t 0 all then .undef else aX fr t
def xH (E:Env) (A tab:List Nat) (all:List Oper) (fr:List (Nat×AVal)) (obs:List AObj):List Nat->Prop
 | []=>True
 | i::r=>(match nth all i with
   | some p=>(match p.guard with
    | none=>(match p.dst with
     | some d=>eop E (cP E p.dst) (aO obs) (aE obs) (evP A tab all i fr) p.op p.type= .val (aX fr d)
     | none=>False)
    | some _=>False)
   | none=>False)/\xH E A tab all fr obs r
def mT (tab:List Nat) (n:Nat):List Nat->List Nat
 | []=>[]
 | i::r=>bif cD (cH tab n) i then mT tab n r else i::mT tab n r
def D6 (fr:List (Nat×AVal)) (d:Option Nat) (v:AVal) (k:List (Nat×AVal)->Prop):Prop:=
 match d with
 | none=>k fr
 | some d=>wS fr d v k
theorem wQ (fr:List (Nat×AVal)) (d:Option Nat) (v:AVal) (k:List (Nat×AVal)->Prop):D6 fr d v k=k (jD fr d v):=by
 cases d with
 | none=>rfl
 | some d=>exact iR fr d v k
def IQ (E:Env) (A tab:List Nat) (all:List Oper) (K:List (Nat×AVal)->List AObj->Prop) (Kp:(Nat->AVal)->AVal->List AObj->Prop):List Nat->List Nat->List (Nat×AVal)->List AObj->Prop
 | [],U,fr,obs=>xH E A tab all fr obs U/\K fr obs
 | n::rest,U,fr,obs=>xH E A tab all fr obs U/\(match nth all n with
   | none=>False
   | some p=>(match p.guard with
    | some _=>False
    | none=>orF E.P obs (fun v obs'=>KD 5 v fun v=>ODL obs' fun obs'=>D6 fr p.dst v fun fr=>IQ E A tab all K Kp rest (mT tab n U) fr obs') (Kp (gP A all fr))
            (eop E (cP E p.dst) (aO obs) (aE obs) (evP A tab all n fr) p.op p.type)))
def tP (E:Env) (A tab:List Nat) (all:List Oper) (obs:List AObj):List Nat->List (Nat×AVal)->(List (Nat×AVal)->Prop)->Prop
 | [],fr,k=>k fr
 | i::r,fr,k=>match nth all i with
  | some p=>(match p.dst with
   | some d=>(match eop E (cP E p.dst) (aO obs) (aE obs) (evP A tab all i fr) p.op p.type with
    | .val v=>KD 5 v fun v=>wS fr d v fun fr=>tP E A tab all obs r fr k
    | _=>False)
   | none=>False)
  | none=>False
def chB (tab:List Nat):List Nat->Bool
 | []=>true
 | n::r=>(r.all fun j=>cD (cH tab j) n)&&chB tab r
def TN (A B:List Nat):Nat->Bool
 | 0=>true
 | n+1=>(pA n A||pA n B)&&TN A B n
def Q0 (sz:Nat):List Nat->Bool
 | []=>true
 | n::r=>(Du n sz&& !pA n r)&&Q0 sz r
def JZ (A B tab:List Nat) (sz:Nat):Bool:=((Q0 sz (A++B)&&TN A B sz)&&chB tab B)
def nT (tab:List Nat) (n:Nat):List Nat->Bool
 | []=>true
 | j::r=>!(cD (cH tab n) j)&&nT tab n r
def DW (n:Nat):List Nat->List Nat
 | []=>[]
 | j::r=>bif Ar j n then r else j::DW n r
def rM (tab Bs:List Nat) (f:Nat->Prop):List Nat->Prop
 | []=>True
 | n::r=>bif nT tab n Bs then f n/\rM tab Bs f r else rM tab Bs f r
def vX (E:Env) (A tab:List Nat) (all:List Oper) (K:List (Nat×AVal)->List AObj->Prop) (Kp:(Nat->AVal)->AVal->List AObj->Prop):List Nat->List Nat->List Nat->List (Nat×AVal)->List AObj->Prop
 | [],_,U,fr,obs=>xH E A tab all fr obs U/\K fr obs
 | _::F,Bs,U,fr,obs=>xH E A tab all fr obs U/\rM tab Bs (fun n=>match nth all n with
   | none=>False
   | some p=>(match p.guard with
    | some _=>False
    | none=>orF E.P obs (fun v obs'=>KD 5 v fun v=>ODL obs' fun obs'=>D6 fr p.dst v fun fr=>vX E A tab all K Kp F (DW n Bs) (mT tab n U) fr obs') (Kp (gP A all fr))
      (eop E (cP E p.dst) (aO obs) (aE obs) (evP A tab all n fr) p.op p.type))) Bs
def Y3 (A B tab:List Nat) (sz:Nat):Bool:=Q0 sz (A++B)&&TN A B sz
theorem FH {tab:List Nat} {n:Nat}:∀ {l:List Nat},(∀ j∈l,cD (cH tab n) j=false)->nT tab n l=true
 | [],_=>rfl
 | j::r,h=>by
  unfold nT
  rw [h j (Bl ..),FH fun k hk=>h k (Co _ hk)]
  rfl
theorem JO (n:Nat):∀ l:List Nat,DW n l=l.erase n
 | []=>rfl
 | j::r=>by
  unfold DW
  rw [List.erase_cons,JO n r]
  by_cases e:j=n
  .subst e;simp
  .have:Ar j n=false:=by cases h:Ar j n with
    | false=>rfl
    | true=>exact absurd (Hi h) e
   rw [this]
   simp [e]
theorem yO {tab Bs:List Nat} {f:Nat->Prop} {n:Nat} (hf:nT tab n Bs=true):∀ {l:List Nat},rM tab Bs f l->n∈l->f n
 | [],_,h=>by cases h
 | j::r,h,hn=>by
  unfold rM at h
  by_cases e:n=j
  .subst e
   rw [hf] at h
   exact h.1
  .have hn:=(Bh.1 hn).resolve_left e
   cases hq:nT tab j Bs with
   | true=>rw [hq] at h;exact yO hf h.2 hn
   | false=>rw [hq] at h;exact yO hf h hn
theorem yN {tab Bs:List Nat} {f:Nat->Prop}:∀ {l:List Nat},(∀ j∈l,nT tab j Bs=false)->rM tab Bs f l
 | [],_=>trivial
 | j::r,h=>by
  unfold rM
  rw [h j (Bl ..)]
  exact yN fun k hk=>h k (Co _ hk)
theorem tE {A B:List Nat}:∀ {n:Nat},TN A B n=true->∀ i,i<n->i∈A\/i∈B
 | 0,_,i,hi=>by omega
 | n+1,h,i,hi=>by
  simp only [TN,Ad,Dg,jH] at h
  by_cases e:i=n
  .subst e;exact h.1
  .exact tE h.2 i (by omega)
theorem sP {sz:Nat}:∀ {l:List Nat},Q0 sz l=true->l.Nodup/\∀ i∈l,i<sz
 | [],_=>⟨List.nodup_nil,fun i h=>by cases h⟩
 | n::r,h=>by
  simp only [Q0,Ad,Cb,Ep] at h
  obtain ⟨h1,h2⟩:=sP h.2
  refine ⟨Dr.2 ⟨fun hm=>?_,h1⟩,fun i hi=>?_⟩
  .have:=jH.2 hm
   rw [h.1.2] at this
   cases this
  .rcases Bh.1 hi with rfl | hi
   .exact h.1.1
   .exact h2 i hi
theorem sT {A tab:List Nat} {n t:Nat}:∀ {l:List Oper} {k:Nat},E9 A tab n t k l=false->∀ (i:Nat) p,l[i]? =some p->p.dst=some t->(k+i)∈A->cD (cH tab n) (k+i)=true
 | [],_,_,i,p,hi,_,_=>by simp at hi
 | q::r,k,h,i,p,hi,hd,ha=>by
  simp only [E9,Km] at h
  cases i with
  | zero=>
   simp at hi
   subst hi
   have h1:=h.1
   rw [hd] at h1
   dsimp only at h1
   rw [Jt,Bt,show pA k A=true from jH.2 ha,Bt] at h1
   simpa using h1
  | succ i=>
   have:=sT (k:=k+1) h.2 i p (by simpa using hi) hd (by rwa [show k+1+i=k+(i+1) from by omega])
   rwa [show k+1+i=k+(i+1) from by omega] at this
theorem lJ {A:List Nat} {t:Nat}:∀ {l:List Oper} {k:Nat},uS A t k l=false->∀ (i:Nat) p,l[i]? =some p->(k+i)∈A->p.dst≠some t
 | [],_,_,i,p,hi,_=>by simp at hi
 | q::r,k,h,i,p,hi,ha=>by
  simp only [uS,Km] at h
  cases i with
  | zero=>
   simp at hi
   subst hi
   intro hd
   have h1:=h.1
   rw [hd] at h1
   dsimp only at h1
   rw [Jt,Bt] at h1
   have:=jH.2 (show k∈A from ha)
   rw [h1] at this
   cases this
  | succ i=>exact lJ (k:=k+1) h.2 i p (by simpa using hi) (by rwa [show k+1+i=k+(i+1) from by omega])
theorem CW {A:List Nat} {t:Nat}:∀ {l:List Oper} {k:Nat},uS A t k l=true->∃ (i:Nat) (p:Oper),l[i]? =some p/\(k+i)∈A/\p.dst=some t
 | [],_,h=>by cases h
 | q::r,k,h=>by
  simp only [uS,Dg] at h
  rcases h with h | h
  .split at h
   .rename_i d hd
    rw [Ad,jH,Nat.beq_eq] at h
    exact ⟨0,q,rfl,h.2,by rw [hd,h.1]⟩
   .cases h
  .obtain ⟨i,p,h1,h2,h3⟩:=CW h
   exact ⟨i+1,p,by simpa using h1,by rwa [show k+1+i=k+(i+1) from by omega] at h2,h3⟩
theorem EU {E:Env} {A tab:List Nat} {all:List Oper} {fr:List (Nat×AVal)} {obs:List AObj}:∀ {U:List Nat},xH E A tab all fr obs U->∀ i∈U,∃ p d,all[i]? =some p/\p.guard=none/\p.dst=some d/\
  eop E (cP E p.dst) (aO obs) (aE obs) (evP A tab all i fr) p.op p.type= .val (aX fr d)
 | [],_,i,hi=>by cases hi
 | j::r,h,i,hi=>by
  rcases Bh.1 hi with rfl | hi
  .have h1:=h.1
   split at h1
   .rename_i p hp
    split at h1
    .rename_i hg
     split at h1
     .rename_i d hd
      exact ⟨p,d,fT hp,hg,hd,h1⟩
     .exact h1.elim
    .exact h1.elim
   .exact h1.elim
  .exact EU h.2 i hi
theorem tC {tab:List Nat} {n i:Nat}:∀ {U:List Nat},i∈U->cD (cH tab n) i=false->i∈mT tab n U
 | [],h,_=>by cases h
 | j::r,h,ht=>by
  unfold mT
  rcases Bh.1 h with rfl | h
  .rw [ht];exact Bl ..
  .have:=tC h ht
   cases cD (cH tab n) j with
   | true=>exact this
   | false=>exact Co _ this
theorem OC {E:Env} {A tab:List Nat} {all:List Oper} {K:List (Nat×AVal)->List AObj->Prop} {Kp:(Nat->AVal)->AVal->List AObj->Prop} {F Bs U:List Nat} {fr:List (Nat×AVal)} {obs:List AObj} (h:vX E A tab all K Kp F Bs U fr obs):xH E A tab all fr obs U:=by
 cases F with
 | nil=>exact h.1
 | cons n r=>exact h.1
theorem A3 {tab:List Nat} {n j:Nat} (hj:cD (cH tab n) j=true):∀ {l:List Nat},j∈l->nT tab n l=false
 | k::r,h=>by
  unfold nT
  rcases Bh.1 h with e | h
  .subst e
   rw [hj]
   rfl
  .rw [A3 hj h,Bo]
theorem DE {E:Env} {A tab:List Nat} {all:List Oper} {K:List (Nat×AVal)->List AObj->Prop} {Kp:(Nat->AVal)->AVal->List AObj->Prop}:∀ {B U:List Nat} {fr:List (Nat×AVal)} {obs:List AObj},chB tab B=true->IQ E A tab all K Kp B U fr obs->vX E A tab all K Kp B B U fr obs
 | [],_,_,_,_,h=>h
 | n::r,U,fr,obs,hb,h=>by
  simp only [chB,Ad,Cl] at hb
  refine ⟨h.1,?_⟩
  have rest:rM tab (n::r) (fun n'=>match nth all n' with
   | none=>False
   | some p=>(match p.guard with
    | some _=>False
    | none=>orF E.P obs (fun v obs'=>KD 5 v fun v=>ODL obs' fun obs'=>D6 fr p.dst v fun fr=>vX E A tab all K Kp r (DW n' (n::r)) (mT tab n' U) fr obs') (Kp (gP A all fr))
      (eop E (cP E p.dst) (aO obs) (aE obs) (evP A tab all n' fr) p.op p.type))) r:=yN fun j hj=>A3 (hb.1 j hj) (Bl ..)
  unfold rM
  cases nT tab n (n::r) with
  | false=>exact rest
  | true=>
   refine ⟨?_,rest⟩
   have h:=h.2
   split at h
   .exact h.elim
   .rename_i p hp
    split at h
    .exact h.elim
    .rename_i hg
     try rw [hg]
     try dsimp only
     refine fR (fun v o h=>?_) h
     rw [iO,mN,wQ] at h⊢
     have e:DW n (n::r)=r:=by unfold DW;rw [Jt];rfl
     rw [e]
     exact DE hb.2 h
section
variable {rd:Option Nat} {M0:Imm} {ob0:Hs} {obs0:List AObj} {w0:World} {sz:Nat} {dfs:List (Nat×List AVal)} {E:Env} {ops:Array Oper} {Q:Exit->Act->World->Prop} {K:List (Nat×AVal)->List AObj->Prop} {Kp:(Nat->AVal)->AVal->List AObj->Prop} {A tab:List Nat}
def SM (M0:Imm) (ob0:Hs) (obs0:List AObj) (w0:World) (sz:Nat) (dfs:List (Nat×List AVal)) (ops:Array Oper) (UA:List Nat) (fr:List (Nat×AVal)) (obs:List AObj) (a:Act) (w:World):Prop:=
 ∃ M ob,Ext M0 ob0 obs0 w0 M ob obs w/\Mem M ob obs w/\(∀ t,(∀ i∈UA,∀ p,ops[i]? =some p->p.dst≠some t)->Rep M ob (a.tmps.getD t undef) (aX fr t))/\a.tmps.size=sz/\cK w0 w M ob a.defers dfs/\ob0.length<=obs.length
theorem qH {listed:Array Bool} {j:Nat} (h:j∈Da .any ops listed) (hsz:listed.size=ops.size):j<ops.size/\listed.getD j false=false:=by
 obtain ⟨h0,q,hq,_⟩:=mem_ready.1 h
 have hlt:=(Ef.1 hq).1
 rw [Ap,Dt (by omega)] at h0⊢
 exact ⟨hlt,by simpa using h0⟩
theorem jB (ht:TabSp ops tab) {listed:Array Bool} (hsz:listed.size=ops.size):∀ (n j:Nat),j<n->j<ops.size->listed.getD j false=false->Da .any ops listed≠[]
 | 0,j,h,_,_=>by omega
 | n+1,j,h,hj,hl=>fun hr=>by
  obtain ⟨p,hp⟩:∃ p,ops[j]? =some p:=⟨ops[j],Dt hj⟩
  have:j∈Da .any ops listed:=mem_ready.2 ⟨by
   rw [Ap,Dt (by omega)] at hl⊢
   simpa using hl,p,hp,fun e he hb=>by
    have hb2:=ht.back j p hp e he hb
    cases hq:listed.getD e.on false with
    | true=>rfl
    | false=>exact absurd hr (jB ht hsz n e.on (by omega) (by omega) hq)⟩
  rw [hr] at this
  cases this
theorem MH (hE:EnvOK E) (ht:TabSp ops tab) (hd:∀ (i:Nat) p,ops[i]? =some p->∀ d,p.dst=some d->d<sz)
  (hp:∀ g v obs ch a w,Kp g v obs->PP M0 ob0 obs0 w0 sz dfs g v obs ch a w->Q (.panic ch) a w) (hq:∀ fr obs a w,K fr obs->SS M0 ob0 obs0 w0 sz dfs fr obs a w->Q .normal a w):
  ∀ (fuel:Nat) (listed:Array Bool) (F Bs UA U:List Nat) (fr:List (Nat×AVal)) (obs:List AObj) (a:Act) (w:World),F.length=Bs.length->fuel=Bs.length+UA.length->listed.size=ops.size->jV tab listed->
   (∀ i,i<ops.size->(listed.getD i false=false↔i∈Bs\/i∈UA))->(Bs++UA).Nodup->(∀ i∈Bs,i<ops.size)->(∀ i∈UA,i∈A/\i∈U/\i<ops.size)->
   vX E A tab ops.toList K Kp F Bs U fr obs->SM M0 ob0 obs0 w0 sz dfs ops UA fr obs a w->wpAnyIn (fen rd) 0 E.P .any ops Q fuel listed a w:=by
 intro fuel
 induction fuel with
 | zero=>
  intro listed F Bs UA U fr obs a w hF hf hsz hc hlist hnd hBs hUA h hs
  have e1:Bs=[]:=Au (by omega)
  have e2:UA=[]:=Au (by omega)
  subst e1 e2
  obtain rfl:=Au hF
  refine ⟨Es.2 fun j hj=>?_,hq fr obs a w h.2 ?_⟩
  .obtain ⟨h1,h2⟩:=qH hj hsz
   rcases (hlist j h1).1 h2 with q | q<;>cases q
  .obtain ⟨M,ob,hx,hm,hfr,r⟩:=hs
   exact ⟨M,ob,hx,hm,fun t=>hfr t (fun i hi=>absurd hi Fs),r⟩
 | succ fuel ih=>
  intro listed F Bs UA U fr obs a w hF hf hsz hc hlist hnd hBs hUA h hs
  refine ⟨fun h0=>?_,fun i hi=>?_⟩
  .exfalso
   cases Bs with
   | cons n r=>
    have hn:=hBs n (Bl ..)
    exact jB ht hsz (n+1) n (by omega) hn ((hlist n hn).2 (.inl (Bl ..))) h0
   | nil=>
    cases UA with
    | nil=>simp at hf
    | cons n r=>
     have hn:=(hUA n (Bl ..)).2.2
     exact jB ht hsz (n+1) n (by omega) hn ((hlist n hn).2 (.inr (Bl ..))) h0
  .obtain ⟨hilt,hil⟩:=qH hi hsz
   obtain ⟨hc',hkey⟩:=hc.step ht hi
   obtain ⟨M,ob,hx,hm,hfr,hsza,hdf,h0⟩:=hs
   have hl:=hm.len
   have hev:∀ x,Rep M ob (a.eval x) (evP A tab ops.toList i fr x):=fun x=>by
    cases x with
    | const v=>exact lK v
    | global g=>exact .undef _
    | func f=>exact .func (.func f) [] [] [] [] rfl rfl (fun i v a h=>by simp at h) (fun i v a h=>by simp at h)
    | tmp t=>
     show Rep M ob _ (bif E9 A tab i t 0 ops.toList then .undef else aX fr t)
     cases hh:E9 A tab i t 0 ops.toList with
     | true=>exact .undef _
     | false=>
      refine hfr t fun j hj p hp hdt=>?_
      have h1:=sT hh j p (by simpa using hp) hdt (by rw [Bk];exact (hUA j hj).1)
      rw [Bk] at h1
      have h2:=hkey j h1
      rw [(hlist j (hUA j hj).2.2).2 (.inr hj)] at h2
      cases h2
   have hlist':∀ (Bs' UA':List Nat),(∀ j,(j∈Bs'\/j∈UA')↔(j∈Bs\/j∈UA)/\j≠i)->∀ j,j<ops.size->((listed.setIfInBounds i true).getD j false=false↔j∈Bs'\/j∈UA'):=fun Bs' UA' he j hj=>by
    rw [he j]
    by_cases e:j=i
    .subst e
     rw [Ap,Ca (by omega)]
     simp
    .rw [getD_set_ne false (Ds e),hlist j hj]
     simp [e]
   have hsz':(listed.setIfInBounds i true).size=ops.size:=by simpa using hsz
   rcases (hlist i hilt).1 hil with hB | hA
   .
    cases F with
    | nil=>rw [Au hF.symm] at hB;cases hB
    | cons n0 F=>
     have hfree:nT tab i Bs=true:=FH fun j hj=>by
      cases hq2:cD (cH tab i) j with
      | false=>rfl
      | true=>
       have h2:=hkey j hq2
       rw [(hlist j (hBs j hj)).2 (.inl hj)] at h2
       cases h2
     obtain ⟨hok,h⟩:=h
     have h:=yO hfree h hB
     split at h
     .exact h.elim
     .rename_i p hnp
      have hip:ops[i]? =some p:=by simpa using fT hnp
      split at h
      .exact h.elim
      .rename_i hg
       have h:orF E.P obs (fun v obs'=>vX E A tab ops.toList K Kp F (DW i Bs) (mT tab i U) (jD fr p.dst v) obs') (Kp (gP A ops.toList fr)) (eop E (cP E p.dst) (aO obs) (aE obs) (evP A tab ops.toList i fr) p.op p.type):=
        fR (fun v o h=>by rw [iO,mN,wQ] at h;exact h) h
       have hw:Cw p (yielded ops a.tmps)=true:=by unfold Cw;rw [hg]
       unfold wpOpIn
       rw [hip]
       dsimp only
       rw [if_pos hw]
       refine (oK hE hm hev h).wpIn (fJ h) (fun u w' ⟨M',ob',L',x1,x2,x3⟩=>?_) (fun ch w' ⟨M',ob',L',x1,x2,x3⟩=>?_)
       .rcases x3 with ⟨u',v,e,hr,hk⟩ | ⟨ch,v,e,_⟩
        .cases e
         have:=x1.lens
         have:=x2.len
         have hndB:Bs.Nodup:=(Ck.1 hnd).1
         have hmem:∀ j,j∈Bs.erase i↔j≠i/\j∈Bs:=fun j=>hndB.mem_erase_iff
         have hlen:(Bs.erase i).length+1=Bs.length:=by
          rw [Gt hB]
          have:=Hf hB
          omega
         have hdis:i∉UA:=fun hb=>(Ck.1 hnd).2.2 i hB i hb rfl
         rw [JO] at hk
         refine ih (listed.setIfInBounds i true) F (Bs.erase i) UA (mT tab i U) _ L' _ w' (by simp at hF;omega) (by omega) hsz' hc' (hlist' (Bs.erase i) UA fun j=>?_) ?_ (fun j hj=>hBs j ((hmem j).1 hj).2) (fun j hj=>?_) hk
          ⟨M',ob',hx.trans x1,x2,fun t hmt=>?_,(cY _ _ _).1.trans hsza,(hdf.ext hm x1).put,by omega⟩
         .rw [hmem j]
          constructor
          .rintro (⟨hne,hj⟩ | hj)
           .exact ⟨.inl hj,hne⟩
           .exact ⟨.inr hj,fun e=>hdis (e▸hj)⟩
          .rintro ⟨hj | hj,hne⟩
           .exact .inl ⟨hne,hj⟩
           .exact .inr hj
         .refine Ck.2 ⟨hndB.erase i,(Ck.1 hnd).2.1,fun x hx y hy=>?_⟩
          exact (Ck.1 hnd).2.2 x ((hmem x).1 hx).2 y hy
         .obtain ⟨k1,k2,k3⟩:=hUA j hj
          refine ⟨k1,tC k2 ?_,k3⟩
          cases hq2:cD (cH tab i) j with
          | false=>rfl
          | true=>
           have h2:=hkey j hq2
           rw [(hlist j k3).2 (.inr hj)] at h2
           cases h2
         .rw [dI]
          unfold fO
          by_cases hdt:p.dst=some t
          .rw [if_pos hdt]
           have hlt:t<a.tmps.size:=hsza▸hd i p hip t hdt
           rw [hdt]
           simp only [Act.put]
           rw [Ap,Ca hlt]
           exact hr
          .rw [if_neg hdt]
           have hold:=(hfr t hmt).mono x1.imm x1.hs
           cases hpd:p.dst with
           | none=>exact hold
           | some d=>
            have hne:d≠t:=fun e=>hdt (by rw [hpd,e])
            simp only [Act.put]
            rw [Ap,Ci hne,<-Ap]
            exact hold
        .cases e
       .rcases x3 with ⟨u',v,e,_⟩ | ⟨ch',v,e,hr,hk⟩
        .cases e
        .cases e
         have:=x1.lens
         have:=x2.len
         refine hp _ v L' ch a w' hk ⟨M',ob',hx.trans x1,x2,hr,fun t=>?_,hsza,hdf.ext hm x1,by omega⟩
         unfold gP
         cases hda:uS A t 0 ops.toList with
         | true=>exact .undef _
         | false=>
          exact (hfr t fun j hj q hjq=>lJ hda j q (by simpa using hjq) (by rw [Bk];exact (hUA j hj).1)).mono x1.imm x1.hs
   .
    obtain ⟨k1,k2,k3⟩:=hUA i hA
    obtain ⟨p,d,hip,hg,hpd,hev2⟩:=EU (OC h) i k2
    have hip:ops[i]? =some p:=by simpa using hip
    have hor:orF E.P obs (fun v obs'=>v=aX fr d/\obs'=obs) (fun _ _=>False) (eop E (cP E p.dst) (aO obs) (aE obs) (evP A tab ops.toList i fr) p.op p.type):=by
     rw [hev2];exact ⟨rfl,rfl⟩
    have hw:Cw p (yielded ops a.tmps)=true:=by unfold Cw;rw [hg]
    unfold wpOpIn
    rw [hip]
    dsimp only
    rw [if_pos hw]
    refine (oK hE hm hev hor).wpIn (fJ hor) (fun u w' ⟨M',ob',L',x1,x2,x3⟩=>?_) (fun ch w' ⟨M',ob',L',x1,x2,x3⟩=>?_)
    .rcases x3 with ⟨u',v,e,hr,hk1,hk2⟩ | ⟨ch,v,e,_⟩
     .cases e
      subst hk1 hk2
      have hlt:d<a.tmps.size:=hsza▸hd i p hip d hpd
      have hnod:UA.Nodup:=(Ck.1 hnd).2.1
      have hmem:∀ j,j∈UA.erase i↔j≠i/\j∈UA:=fun j=>hnod.mem_erase_iff
      have hlen:(UA.erase i).length+1=UA.length:=by
       rw [Gt hA]
       have:=Hf hA
       omega
      have hdis:i∉Bs:=fun hb=>(Ck.1 hnd).2.2 i hb i hA rfl
      refine ih (listed.setIfInBounds i true) F Bs (UA.erase i) U fr L' _ w' hF (by omega) hsz' hc' (hlist' Bs (UA.erase i) fun j=>?_) ?_ hBs (fun j hj=>hUA j ((hmem j).1 hj).2) h
       ⟨M',ob',hx.trans x1,x2,fun t hmt=>?_,(cY _ _ _).1.trans hsza,(hdf.ext hm x1).put,h0⟩
      .rw [hmem j]
       constructor
       .rintro (hj | ⟨hne,hj⟩)
        .exact ⟨.inl hj,fun e=>hdis (e▸hj)⟩
        .exact ⟨.inr hj,hne⟩
       .rintro ⟨hj | hj,hne⟩
        .exact .inl hj
        .exact .inr ⟨hne,hj⟩
      .refine Ck.2 ⟨(Ck.1 hnd).1,hnod.erase i,fun x hx y hy=>?_⟩
       exact (Ck.1 hnd).2.2 x hx y ((hmem y).1 hy).2
      .rw [hpd]
       simp only [Act.put]
       by_cases hdt:d=t
       .subst hdt
        rw [Ap,Ca hlt]
        exact hr
       .rw [Ap,Ci hdt,<-Ap]
        refine (hfr t fun j hj q hjq=>?_).mono x1.imm x1.hs
        by_cases hji:j=i
        .subst hji
         rw [hip] at hjq
         cases hjq
         rw [hpd]
         exact fun e=>hdt (Fl e)
        .exact hmt j ((hmem j).2 ⟨hji,hj⟩) q hjq
     .cases e
    .rcases x3 with ⟨u',v,e,_⟩ | ⟨ch',v,e,hr,hk⟩
     .cases e
     .exact hk.elim
theorem vR {all:List Oper} {obs:List AObj}:∀ {l:List Nat} {fr:List (Nat×AVal)} {k:List (Nat×AVal)->Prop},tP E A tab all obs l fr k->(∀ i∈l,i∈A)->∃ fr',k fr'/\∀ t,uS A t 0 all=false->aX fr' t=aX fr t
 | [],fr,k,h,_=>⟨fr,h,fun t _=>rfl⟩
 | i::r,fr,k,h,hA=>by
  unfold tP at h
  split at h
  .rename_i p hp
   split at h
   .rename_i d hd
    split at h
    .rename_i v hv
     rw [iO,iR] at h
     obtain ⟨fr',h1,h2⟩:=vR h fun j hj=>hA j (Co _ hj)
     refine ⟨fr',h1,fun t ht=>?_⟩
     rw [h2 t ht,sU]
     have:=lJ ht i p (by simpa using fT hp) (by rw [Bk];exact hA i (Bl ..))
     rw [if_neg fun e=>this (by rw [hd,e])]
    .exact h.elim
   .exact h.elim
  .exact h.elim
end
theorem To.permT {E:Env} {fn:Func} {g:Goal} (hE:EnvOK E) (A B:List Nat) {id:Nat} {ops:Array Oper} {ks:List KI} {fr:List (Nat×AVal)} {obs:List AObj} (hst:Y3 A B (eW [] ops.toList) ops.size=true)
  (h:tP E A (eW [] ops.toList) ops.toList obs A fr fun fr=>vX E A (eW [] ops.toList) ops.toList (fun fr obs=>To E fn g (.code ks fr obs)) (iI E fn g) B B A fr obs):To E fn g (.code (.code (.region id ops true)::ks) fr obs):=
 .mk fun ho M0 ob0 obs0 w0 a w hst0 hs=>by
  simp only [bC,KI.ok,cQ,Ad] at ho
  obtain ⟨⟨ho1,ho2⟩,ho3⟩:=ho
  have hd:=lI ho1
  refine KW.code (Q':=QR E fn g M0 ob0 obs0 w0 ks) ?_ (fun a w h=>h) (fun ch a w h=>h) (fun e a w hh=>by
   cases e<;>first | exact .inl rfl | exact .inr ⟨_,rfl⟩ | exact hh.elim)
  have hpp:∀ gf v obs ch a w,iI E fn g gf v obs->PP M0 ob0 obs0 w0 fn.ntmps E.df gf v obs ch a w->mL E fn M0 ob0 obs0 w0 g (.panic ch) a w:=fun gf v obs ch a w he hpp=>vD he hst0 hpp
  have hqq:∀ fr obs a w,To E fn g (.code ks fr obs)->SS M0 ob0 obs0 w0 fn.ntmps E.df fr obs a w->KW E.rd E.P (mL E fn M0 ob0 obs0 w0 g) ks a w:=fun fr obs a w hk hs=>hk.rec fun hk=>hk ho3 M0 ob0 obs0 w0 a w hst0 hs
  have ht:TabSp ops (eW [] ops.toList):=pS ops (by simpa using ho2)
  refine wpIn_region_any hE.mix ?_
  simp only [Y3,Ad] at hst
  obtain ⟨s1,s2⟩:=hst
  obtain ⟨s4,s5⟩:=sP s1
  have s6:=tE s2
  obtain ⟨fr1,h1,h2⟩:=vR h fun i hi=>hi
  have hnd:(B++A).Nodup:=List.perm_append_comm.nodup_iff.1 s4
  have hlenAB:ops.size=B.length+A.length:=by
   have e1:(B++A).length<=ops.size:=by
    have:=(hnd.sublist (Kx _))
    have h3:(B++A).Subset (Dc ops.size):=fun i hi=>Gj.2 (s5 i (by rw [Ba] at hi⊢;exact hi.symm))
    have:=hnd.length_le_of_subset h3
    simpa using this
   have e2:ops.size<=(B++A).length:=by
    have h3:(Dc ops.size).Subset (B++A):=fun i hi=>by
     rw [Ba]
     exact (s6 i (Gj.1 hi)).symm
    have:=List.nodup_range.length_le_of_subset h3
    simpa using this
   simp at e1 e2
   omega
  obtain ⟨M,ob,hx,hm,hf,hr⟩:=hs.draw
  have hrep:∀ i,i<ops.size->(Dw ops.size false).getD i false=false:=fun i hi=>by
   rw [Ap,Dt (by simpa using hi)]
   simp
  refine MH (Q:=QR E fn g M0 ob0 obs0 w0 ks) hE ht (fun i p hi d hd'=>hd p (Aw (i:=i) (by simpa using hi)) d hd') (fun gf v obs ch a w h1 h2=>hpp gf v obs ch a w h1 h2) (fun fr obs a w h1 h2=>hqq fr obs a w h1 h2) ops.size _ B B A A fr1 obs a _ rfl hlenAB (by simp) (fun j i q1 _=>?_)
   (fun i hi=>⟨fun _=>(s6 i hi).symm,fun _=>hrep i hi⟩) hnd (fun i hi=>s5 i (Hh _ hi)) (fun i hi=>⟨hi,hi,s5 i (Hw _ hi)⟩) h1 ⟨M,ob,hx,hm,fun t hmt=>?_,hr⟩
  .by_cases hj:j<ops.size
   .rw [hrep j hj] at q1;cases q1
   .rw [Ap,Hd (by simpa using hj)] at q1
    cases q1
  .rw [h2 t ?_]
   .exact hf t
   .cases hda:uS A t 0 ops.toList with
    | false=>rfl
    | true=>
     obtain ⟨i,p,e1,e2,e3⟩:=CW hda
     rw [Bk] at e2
     exact absurd e3 (hmt i e2 p (by simpa using e1))
theorem vS {E:Env} {A tab:List Nat} {all:List Oper} {obs:List AObj} {k k':List (Nat×AVal)->Prop} (hk:∀ fr,k fr->k' fr):∀ {l:List Nat} {fr:List (Nat×AVal)},tP E A tab all obs l fr k->tP E A tab all obs l fr k'
 | [],fr,h=>hk fr h
 | i::r,fr,h=>by
  unfold tP at h⊢
  split at h
  .rename_i p hp
   split at h
   .rename_i d hd
    split at h
    .rename_i v hv
     simp only [hd,hv,iO,iR] at h⊢
     exact vS hk h
    .exact h.elim
   .exact h.elim
  .exact h.elim
theorem To.permAt {E:Env} {fn:Func} {g:Goal} (hE:EnvOK E) (A B:List Nat) {id:Nat} {ops:Array Oper} {ks:List KI} {fr:List (Nat×AVal)} {obs:List AObj} (hst:JZ A B (eW [] ops.toList) ops.size=true)
  (h:tP E A (eW [] ops.toList) ops.toList obs A fr fun fr=>IQ E A (eW [] ops.toList) ops.toList (fun fr obs=>To E fn g (.code ks fr obs)) (iI E fn g) B A fr obs):To E fn g (.code (.code (.region id ops true)::ks) fr obs):=by
 unfold JZ at hst
 rw [Ad] at hst
 exact To.permT hE A B hst.1 (vS (fun fr h=>DE hst.2 h) h)
theorem aY {p q:Prop} (h:p):(true=true->p)/\(true=false->q):=⟨fun _=>h,fun h=>absurd h (by decide)⟩
theorem aN {p q:Prop} (h:q):(false=true->p)/\(false=false->q):=⟨fun h=>absurd h (by decide),fun _=>h⟩
theorem aT {a p q:Prop} [Decidable a] (h:decide a=true->p) (ha:a:=by omega):(decide a=true->p)/\(decide a=false->q):=⟨h,fun h=>absurd ha (of_decide_eq_false h)⟩
theorem aF {a p q:Prop} [Decidable a] (h:decide a=false->q) (ha:¬ a:=by omega):(decide a=true->p)/\(decide a=false->q):=⟨fun h=>absurd (of_decide_eq_true h) ha,h⟩
theorem aD {p q:Prop} (h:q) (hp:p:=by first | decide | omega):p/\q:=⟨hp,h⟩
theorem aL {p q:Prop} (h:q) (hp:p:=by repeat (first | exact trivial | refine Aa rfl ?_)):p/\q:=⟨hp,h⟩
theorem aJ {k:IntKind} {n:Int} {p q:Prop} (h:p) (h1:cC k<=n:=by simp only [cC];omega) (h2:n<=bF k:=by simp only [bF];omega):(inR k n/\p)\/q:=.inl ⟨⟨h1,h2⟩,h⟩
theorem gW {E:Env} {fn:Func} {g:Goal} {st:St} (hE:EnvOK E) (h:bN E fn g (To E fn g) 100 st):To E fn g st:=bW hE 100 h
theorem gN {E:Env} {fn:Func} {g:Goal} {st:St} (hE:EnvOK E) (h:bN E fn g (To E fn g) 100 st) (hs:J2 st=true:=by rfl):To E fn g st:=goN hE 100 hs h
theorem cT {E:Env} {f:FuncId} {fn:Func} {args:List AVal} {obs:List AObj} {g:Goal} (h:okL args->To E fn g (.code [.code (cR fn)] (frA 0 args) obs)) (hdf:E.df=[]:=by rfl) (hf:E.P.funcs[f]? =some fn:=by rfl) (hb:fn.body=some (cR fn):=by rfl)
  (hbo:oG E.P f:=by exact fun _ _=>by rfl) (hco:cQ fn.ntmps (cR fn)=true:=by decide+kernel) (hn:Ea args.length fn.ntmps=true:=by rfl) (hsb:pP obs=true:=by rfl) (hg:obs.length=g.n0:=by rfl) (hrd:E.rd=none:=by rfl):aA E.P f args obs g.res g.obs:=
 aA.to hdf hf hb hbo hco hn hsb hg h hrd
def xG (z:AVal):OR->Prop
 | .val v=>v=z
 | .need p r=>p/\xG z r
 | .idx n f=>∃ i:Nat,n=(i:Int)/\xG z (f i)
 | .elem xs i f=>∃ x,xs[i]? =some x/\xG z (f x)
 | .find es key f=>xG z (f (bL es key))
 | _=>False
def AM (k:AVal->Prop):OR->Prop
 | .val v=>k v
 | .need p r=>p/\AM k r
 | .idx n f=>∃ i:Nat,n=(i:Int)/\AM k (f i)
 | .elem xs i f=>∃ x,xs[i]? =some x/\AM k (f x)
 | .find es key f=>∃ o,bL es key=o/\AM k (f o)
 | _=>False
theorem lC {P:Program} {obs:List AObj} {Kp:AVal->List AObj->Prop} {z:AVal}:∀ {r:OR},xG z r->orF P obs (fun v obs'=>v=z/\obs'=obs) Kp r
 | .val v,h=>⟨h,rfl⟩
 | .need p r,h=>⟨h.1,lC h.2⟩
 | .idx n f,⟨i,hi,h⟩=>⟨i,hi,lC h⟩
 | .elem xs i f,⟨x,hx,h⟩=>⟨x,hx,lC h⟩
 | .find es key f,h=>⟨_,rfl,lC h⟩
 | .no,h=>h.elim
 | .mkf _ _ _,h=>h.elim
 | .alt _ _ _,h=>h.elim
 | .byte _ _,h=>h.elim
 | .text _,h=>h.elim
 | .born _ _,h=>h.elim
 | .upd _ _ _,h=>h.elim
 | .nilq _ _,h=>h.elim
 | .call _ _,h=>h.elim
 | .pan _,h=>h.elim
theorem nR {k:AVal->Prop}:∀ {r:OR},AM k r->∃ v,k v
 | .val v,h=>⟨v,h⟩
 | .need p r,h=>nR h.2
 | .idx n f,⟨i,hi,h⟩=>nR h
 | .elem xs i f,⟨x,hx,h⟩=>nR h
 | .find es key f,⟨o,ho,h⟩=>nR h
 | .no,h=>h.elim
 | .mkf _ _ _,h=>h.elim
 | .alt _ _ _,h=>h.elim
 | .byte _ _,h=>h.elim
 | .text _,h=>h.elim
 | .born _ _,h=>h.elim
 | .upd _ _ _,h=>h.elim
 | .nilq _ _,h=>h.elim
 | .call _ _,h=>h.elim
 | .pan _,h=>h.elim
def ET (E:Env) (A tab:List Nat) (all:List Oper) (fr:List (Nat×AVal)) (obs:List AObj):List Nat->Prop
 | []=>True
 | i::r=>(match nth all i with
   | some p=>(match p.guard with
    | none=>(match p.dst with
     | some d=>xG (aX fr d) (eop E (cP E p.dst) (aO obs) (aE obs) (evP A tab all i fr) p.op p.type)
     | none=>False)
    | some _=>False)
   | none=>False)/\ET E A tab all fr obs r
def yU (E:Env) (A tab:List Nat) (all:List Oper) (K:List (Nat×AVal)->List AObj->Prop) (Kp:(Nat->AVal)->AVal->List AObj->Prop):List Nat->List Nat->List (Nat×AVal)->List AObj->Prop
 | [],U,fr,obs=>ET E A tab all fr obs U/\K fr obs
 | n::rest,U,fr,obs=>ET E A tab all fr obs U/\(match nth all n with
   | none=>False
   | some p=>(match p.guard with
    | some _=>False
    | none=>orF E.P obs (fun v obs'=>KD 5 v fun v=>ODL obs' fun obs'=>D6 fr p.dst v fun fr=>yU E A tab all K Kp rest (mT tab n U) fr obs') (Kp (gP A all fr))
            (eop E (cP E p.dst) (aO obs) (aE obs) (evP A tab all n fr) p.op p.type)))
def kN (E:Env) (A tab:List Nat) (all:List Oper) (obs:List AObj):List Nat->List (Nat×AVal)->(List (Nat×AVal)->Prop)->Prop
 | [],fr,k=>k fr
 | i::r,fr,k=>match nth all i with
  | some p=>(match p.dst with
   | some d=>AM (fun v=>KD 5 v fun v=>wS fr d v fun fr=>kN E A tab all obs r fr k) (eop E (cP E p.dst) (aO obs) (aE obs) (evP A tab all i fr) p.op p.type)
   | none=>False)
  | none=>False
theorem ES {E:Env} {A tab:List Nat} {all:List Oper} {fr:List (Nat×AVal)} {obs:List AObj}:∀ {U:List Nat},ET E A tab all fr obs U->∀ i∈U,∃ p d,all[i]? =some p/\p.guard=none/\p.dst=some d/\
  xG (aX fr d) (eop E (cP E p.dst) (aO obs) (aE obs) (evP A tab all i fr) p.op p.type)
 | [],_,i,hi=>by cases hi
 | j::r,h,i,hi=>by
  rcases Bh.1 hi with rfl | hi
  .have h1:=h.1
   split at h1
   .rename_i p hp
    split at h1
    .rename_i hg
     split at h1
     .rename_i d hd
      exact ⟨p,d,fT hp,hg,hd,h1⟩
     .exact h1.elim
    .exact h1.elim
   .exact h1.elim
  .exact ES h.2 i hi
theorem NN {E:Env} {A tab:List Nat} {all:List Oper} {K:List (Nat×AVal)->List AObj->Prop} {Kp:(Nat->AVal)->AVal->List AObj->Prop} {B U:List Nat} {fr:List (Nat×AVal)} {obs:List AObj} (h:yU E A tab all K Kp B U fr obs):ET E A tab all fr obs U:=by
 cases B with
 | nil=>exact h.1
 | cons n r=>exact h.1
section
variable {rd:Option Nat} {M0:Imm} {ob0:Hs} {obs0:List AObj} {w0:World} {sz:Nat} {dfs:List (Nat×List AVal)} {E:Env} {ops:Array Oper} {Q:Exit->Act->World->Prop} {K:List (Nat×AVal)->List AObj->Prop} {Kp:(Nat->AVal)->AVal->List AObj->Prop} {A tab:List Nat}
theorem QK (hE:EnvOK E) (ht:TabSp ops tab) (hd:∀ (i:Nat) p,ops[i]? =some p->∀ d,p.dst=some d->d<sz)
  (hp:∀ g v obs ch a w,Kp g v obs->PP M0 ob0 obs0 w0 sz dfs g v obs ch a w->Q (.panic ch) a w) (hq:∀ fr obs a w,K fr obs->SS M0 ob0 obs0 w0 sz dfs fr obs a w->Q .normal a w):
  ∀ (fuel:Nat) (listed:Array Bool) (Bs UA U:List Nat) (fr:List (Nat×AVal)) (obs:List AObj) (a:Act) (w:World),fuel=Bs.length+UA.length->listed.size=ops.size->jV tab listed->
   (∀ i,i<ops.size->(listed.getD i false=false↔i∈Bs\/i∈UA))->(Bs++UA).Nodup->(∀ i∈Bs,i<ops.size)->(∀ i∈UA,i∈A/\i∈U/\i<ops.size)->chB tab Bs=true->
   yU E A tab ops.toList K Kp Bs U fr obs->SM M0 ob0 obs0 w0 sz dfs ops UA fr obs a w->wpAnyIn (fen rd) 0 E.P .any ops Q fuel listed a w:=by
 intro fuel
 induction fuel with
 | zero=>
  intro listed Bs UA U fr obs a w hf hsz hc hlist hnd hBs hUA hch h hs
  have e1:Bs=[]:=Au (by omega)
  have e2:UA=[]:=Au (by omega)
  subst e1 e2
  refine ⟨Es.2 fun j hj=>?_,hq fr obs a w h.2 ?_⟩
  .obtain ⟨h1,h2⟩:=qH hj hsz
   rcases (hlist j h1).1 h2 with q | q<;>cases q
  .obtain ⟨M,ob,hx,hm,hfr,r⟩:=hs
   exact ⟨M,ob,hx,hm,fun t=>hfr t (fun i hi=>absurd hi Fs),r⟩
 | succ fuel ih=>
  intro listed Bs UA U fr obs a w hf hsz hc hlist hnd hBs hUA hch h hs
  refine ⟨fun h0=>?_,fun i hi=>?_⟩
  .exfalso
   cases Bs with
   | cons n r=>
    have hn:=hBs n (Bl ..)
    exact jB ht hsz (n+1) n (by omega) hn ((hlist n hn).2 (.inl (Bl ..))) h0
   | nil=>
    cases UA with
    | nil=>simp at hf
    | cons n r=>
     have hn:=(hUA n (Bl ..)).2.2
     exact jB ht hsz (n+1) n (by omega) hn ((hlist n hn).2 (.inr (Bl ..))) h0
  .obtain ⟨hilt,hil⟩:=qH hi hsz
   obtain ⟨hc',hkey⟩:=hc.step ht hi
   obtain ⟨M,ob,hx,hm,hfr,hsza,hdf,h0⟩:=hs
   have hl:=hm.len
   have hev:∀ x,Rep M ob (a.eval x) (evP A tab ops.toList i fr x):=fun x=>by
    cases x with
    | const v=>exact lK v
    | global g=>exact .undef _
    | func f=>exact .func (.func f) [] [] [] [] rfl rfl (fun i v a h=>by simp at h) (fun i v a h=>by simp at h)
    | tmp t=>
     show Rep M ob _ (bif E9 A tab i t 0 ops.toList then .undef else aX fr t)
     cases hh:E9 A tab i t 0 ops.toList with
     | true=>exact .undef _
     | false=>
      refine hfr t fun j hj p hp hdt=>?_
      have h1:=sT hh j p (by simpa using hp) hdt (by rw [Bk];exact (hUA j hj).1)
      rw [Bk] at h1
      have h2:=hkey j h1
      rw [(hlist j (hUA j hj).2.2).2 (.inr hj)] at h2
      cases h2
   have hlist':∀ (Bs' UA':List Nat),(∀ j,(j∈Bs'\/j∈UA')↔(j∈Bs\/j∈UA)/\j≠i)->∀ j,j<ops.size->((listed.setIfInBounds i true).getD j false=false↔j∈Bs'\/j∈UA'):=fun Bs' UA' he j hj=>by
    rw [he j]
    by_cases e:j=i
    .subst e
     rw [Ap,Ca (by omega)]
     simp
    .rw [getD_set_ne false (Ds e),hlist j hj]
     simp [e]
   have hsz':(listed.setIfInBounds i true).size=ops.size:=by simpa using hsz
   rcases (hlist i hilt).1 hil with hB | hA
   .
    cases Bs with
    | nil=>cases hB
    | cons n rest=>
     have hn:i=n:=by
      rcases Bh.1 hB with e | e
      .exact e
      .simp only [chB,Ad,Cl] at hch
       have h2:=hkey n (hch.1 i e)
       rw [(hlist n (hBs n (Bl ..))).2 (.inl (Bl ..))] at h2
       cases h2
     subst hn
     obtain ⟨hok,h⟩:=h
     split at h
     .exact h.elim
     .rename_i p hnp
      have hip:ops[i]? =some p:=by simpa using fT hnp
      split at h
      .exact h.elim
      .rename_i hg
       have h:orF E.P obs (fun v obs'=>yU E A tab ops.toList K Kp rest (mT tab i U) (jD fr p.dst v) obs') (Kp (gP A ops.toList fr)) (eop E (cP E p.dst) (aO obs) (aE obs) (evP A tab ops.toList i fr) p.op p.type):=
        fR (fun v o h=>by rw [iO,mN,wQ] at h;exact h) h
       have hw:Cw p (yielded ops a.tmps)=true:=by unfold Cw;rw [hg]
       unfold wpOpIn
       rw [hip]
       dsimp only
       rw [if_pos hw]
       refine (oK hE hm hev h).wpIn (fJ h) (fun u w' ⟨M',ob',L',x1,x2,x3⟩=>?_) (fun ch w' ⟨M',ob',L',x1,x2,x3⟩=>?_)
       .rcases x3 with ⟨u',v,e,hr,hk⟩ | ⟨ch,v,e,_⟩
        .cases e
         have:=x1.lens
         have:=x2.len
         have hnod:(rest++UA).Nodup/\i∉rest++UA:=by
          have:=Dr.1 hnd
          exact ⟨this.2,this.1⟩
         refine ih (listed.setIfInBounds i true) rest UA (mT tab i U) _ L' _ w' (by simp at hf;omega) hsz' hc' (hlist' rest UA fun j=>?_) hnod.1 (fun j hj=>hBs j (Co _ hj)) (fun j hj=>?_) ?_ hk
          ⟨M',ob',hx.trans x1,x2,fun t hmt=>?_,(cY _ _ _).1.trans hsza,(hdf.ext hm x1).put,by omega⟩
         .constructor
          .intro hj
           exact ⟨hj.imp (Co _) id,fun e=>hnod.2 (by subst e;exact Ba.2 hj)⟩
          .rintro ⟨hj,hne⟩
           rcases hj with hj | hj
           .rcases Bh.1 hj with e | hj
            .exact absurd e hne
            .exact .inl hj
           .exact .inr hj
         .obtain ⟨k1,k2,k3⟩:=hUA j hj
          refine ⟨k1,tC k2 ?_,k3⟩
          cases hq2:cD (cH tab i) j with
          | false=>rfl
          | true=>
           have h2:=hkey j hq2
           rw [(hlist j k3).2 (.inr hj)] at h2
           cases h2
         .simp only [chB,Ad] at hch
          exact hch.2
         .rw [dI]
          unfold fO
          by_cases hdt:p.dst=some t
          .rw [if_pos hdt]
           have hlt:t<a.tmps.size:=hsza▸hd i p hip t hdt
           rw [hdt]
           simp only [Act.put]
           rw [Ap,Ca hlt]
           exact hr
          .rw [if_neg hdt]
           have hold:=(hfr t hmt).mono x1.imm x1.hs
           cases hpd:p.dst with
           | none=>exact hold
           | some d=>
            have hne:d≠t:=fun e=>hdt (by rw [hpd,e])
            simp only [Act.put]
            rw [Ap,Ci hne,<-Ap]
            exact hold
        .cases e
       .rcases x3 with ⟨u',v,e,_⟩ | ⟨ch',v,e,hr,hk⟩
        .cases e
        .cases e
         have:=x1.lens
         have:=x2.len
         refine hp _ v L' ch a w' hk ⟨M',ob',hx.trans x1,x2,hr,fun t=>?_,hsza,hdf.ext hm x1,by omega⟩
         unfold gP
         cases hda:uS A t 0 ops.toList with
         | true=>exact .undef _
         | false=>
          exact (hfr t fun j hj q hjq=>lJ hda j q (by simpa using hjq) (by rw [Bk];exact (hUA j hj).1)).mono x1.imm x1.hs
   .
    obtain ⟨k1,k2,k3⟩:=hUA i hA
    obtain ⟨p,d,hip,hg,hpd,hev2⟩:=ES (NN h) i k2
    have hip:ops[i]? =some p:=by simpa using hip
    have hor:orF E.P obs (fun v obs'=>v=aX fr d/\obs'=obs) (fun _ _=>False) (eop E (cP E p.dst) (aO obs) (aE obs) (evP A tab ops.toList i fr) p.op p.type):=lC hev2
    have hw:Cw p (yielded ops a.tmps)=true:=by unfold Cw;rw [hg]
    unfold wpOpIn
    rw [hip]
    dsimp only
    rw [if_pos hw]
    refine (oK hE hm hev hor).wpIn (fJ hor) (fun u w' ⟨M',ob',L',x1,x2,x3⟩=>?_) (fun ch w' ⟨M',ob',L',x1,x2,x3⟩=>?_)
    .rcases x3 with ⟨u',v,e,hr,hk1,hk2⟩ | ⟨ch,v,e,_⟩
     .cases e
      subst hk1 hk2
      have hlt:d<a.tmps.size:=hsza▸hd i p hip d hpd
      have hnod:UA.Nodup:=(Ck.1 hnd).2.1
      have hmem:∀ j,j∈UA.erase i↔j≠i/\j∈UA:=fun j=>hnod.mem_erase_iff
      have hlen:(UA.erase i).length+1=UA.length:=by
       rw [Gt hA]
       have:=Hf hA
       omega
      have hdis:i∉Bs:=fun hb=>(Ck.1 hnd).2.2 i hb i hA rfl
      refine ih (listed.setIfInBounds i true) Bs (UA.erase i) U fr L' _ w' (by omega) hsz' hc' (hlist' Bs (UA.erase i) fun j=>?_) ?_ hBs (fun j hj=>hUA j ((hmem j).1 hj).2) hch h
       ⟨M',ob',hx.trans x1,x2,fun t hmt=>?_,(cY _ _ _).1.trans hsza,(hdf.ext hm x1).put,h0⟩
      .rw [hmem j]
       constructor
       .rintro (hj | ⟨hne,hj⟩)
        .exact ⟨.inl hj,fun e=>hdis (e▸hj)⟩
        .exact ⟨.inr hj,hne⟩
       .rintro ⟨hj | hj,hne⟩
        .exact .inl hj
        .exact .inr ⟨hne,hj⟩
      .refine Ck.2 ⟨(Ck.1 hnd).1,hnod.erase i,fun x hx y hy=>?_⟩
       exact (Ck.1 hnd).2.2 x hx y ((hmem y).1 hy).2
      .rw [hpd]
       simp only [Act.put]
       by_cases hdt:d=t
       .subst hdt
        rw [Ap,Ca hlt]
        exact hr
       .rw [Ap,Ci hdt,<-Ap]
        refine (hfr t fun j hj q hjq=>?_).mono x1.imm x1.hs
        by_cases hji:j=i
        .subst hji
         rw [hip] at hjq
         cases hjq
         rw [hpd]
         exact fun e=>hdt (Fl e)
        .exact hmt j ((hmem j).2 ⟨hji,hj⟩) q hjq
     .cases e
    .rcases x3 with ⟨u',v,e,_⟩ | ⟨ch',v,e,hr,hk⟩
     .cases e
     .exact hk.elim
theorem vQ {all:List Oper} {obs:List AObj}:∀ {l:List Nat} {fr:List (Nat×AVal)} {k:List (Nat×AVal)->Prop},kN E A tab all obs l fr k->(∀ i∈l,i∈A)->∃ fr',k fr'/\∀ t,uS A t 0 all=false->aX fr' t=aX fr t
 | [],fr,k,h,_=>⟨fr,h,fun t _=>rfl⟩
 | i::r,fr,k,h,hA=>by
  unfold kN at h
  split at h
  .rename_i p hp
   split at h
   .rename_i d hd
    obtain ⟨v,h⟩:=nR h
    .rw [iO,iR] at h
     obtain ⟨fr',h1,h2⟩:=vQ h fun j hj=>hA j (Co _ hj)
     refine ⟨fr',h1,fun t ht=>?_⟩
     rw [h2 t ht,sU]
     have:=lJ ht i p (by simpa using fT hp) (by rw [Bk];exact hA i (Bl ..))
     rw [if_neg fun e=>this (by rw [hd,e])]
   .exact h.elim
  .exact h.elim
end
theorem To.permV {E:Env} {fn:Func} {g:Goal} (hE:EnvOK E) (A B:List Nat) {id:Nat} {ops:Array Oper} {ks:List KI} {fr:List (Nat×AVal)} {obs:List AObj} (hst:JZ A B (eW [] ops.toList) ops.size=true)
  (h:kN E A (eW [] ops.toList) ops.toList obs A fr fun fr=>yU E A (eW [] ops.toList) ops.toList (fun fr obs=>To E fn g (.code ks fr obs)) (iI E fn g) B A fr obs):To E fn g (.code (.code (.region id ops true)::ks) fr obs):=
 .mk fun ho M0 ob0 obs0 w0 a w hst0 hs=>by
  simp only [bC,KI.ok,cQ,Ad] at ho
  obtain ⟨⟨ho1,ho2⟩,ho3⟩:=ho
  have hd:=lI ho1
  refine KW.code (Q':=QR E fn g M0 ob0 obs0 w0 ks) ?_ (fun a w h=>h) (fun ch a w h=>h) (fun e a w hh=>by
   cases e<;>first | exact .inl rfl | exact .inr ⟨_,rfl⟩ | exact hh.elim)
  have hpp:∀ gf v obs ch a w,iI E fn g gf v obs->PP M0 ob0 obs0 w0 fn.ntmps E.df gf v obs ch a w->mL E fn M0 ob0 obs0 w0 g (.panic ch) a w:=fun gf v obs ch a w he hpp=>vD he hst0 hpp
  have hqq:∀ fr obs a w,To E fn g (.code ks fr obs)->SS M0 ob0 obs0 w0 fn.ntmps E.df fr obs a w->KW E.rd E.P (mL E fn M0 ob0 obs0 w0 g) ks a w:=fun fr obs a w hk hs=>hk.rec fun hk=>hk ho3 M0 ob0 obs0 w0 a w hst0 hs
  have ht:TabSp ops (eW [] ops.toList):=pS ops (by simpa using ho2)
  refine wpIn_region_any hE.mix ?_
  simp only [JZ,Ad] at hst
  obtain ⟨⟨s1,s2⟩,s3⟩:=hst
  obtain ⟨s4,s5⟩:=sP s1
  have s6:=tE s2
  obtain ⟨fr1,h1,h2⟩:=vQ h fun i hi=>hi
  have hnd:(B++A).Nodup:=List.perm_append_comm.nodup_iff.1 s4
  have hlenAB:ops.size=B.length+A.length:=by
   have e1:(B++A).length<=ops.size:=by
    have:=(hnd.sublist (Kx _))
    have h3:(B++A).Subset (Dc ops.size):=fun i hi=>Gj.2 (s5 i (by rw [Ba] at hi⊢;exact hi.symm))
    have:=hnd.length_le_of_subset h3
    simpa using this
   have e2:ops.size<=(B++A).length:=by
    have h3:(Dc ops.size).Subset (B++A):=fun i hi=>by
     rw [Ba]
     exact (s6 i (Gj.1 hi)).symm
    have:=List.nodup_range.length_le_of_subset h3
    simpa using this
   simp at e1 e2
   omega
  obtain ⟨M,ob,hx,hm,hf,hr⟩:=hs.draw
  have hrep:∀ i,i<ops.size->(Dw ops.size false).getD i false=false:=fun i hi=>by
   rw [Ap,Dt (by simpa using hi)]
   simp
  refine QK (Q:=QR E fn g M0 ob0 obs0 w0 ks) hE ht (fun i p hi d hd'=>hd p (Aw (i:=i) (by simpa using hi)) d hd') (fun gf v obs ch a w h1 h2=>hpp gf v obs ch a w h1 h2) (fun fr obs a w h1 h2=>hqq fr obs a w h1 h2) ops.size _ B A A fr1 obs a _ hlenAB (by simp) (fun j i q1 _=>?_)
   (fun i hi=>⟨fun _=>(s6 i hi).symm,fun _=>hrep i hi⟩) hnd (fun i hi=>s5 i (Hh _ hi)) (fun i hi=>⟨hi,hi,s5 i (Hw _ hi)⟩) s3 h1 ⟨M,ob,hx,hm,fun t hmt=>?_,hr⟩
  .by_cases hj:j<ops.size
   .rw [hrep j hj] at q1;cases q1
   .rw [Ap,Hd (by simpa using hj)] at q1
    cases q1
  .rw [h2 t ?_]
   .exact hf t
   .cases hda:uS A t 0 ops.toList with
    | false=>rfl
    | true=>
     obtain ⟨i,p,e1,e2,e3⟩:=CW hda
     rw [Bk] at e2
     exact absurd e3 (hmt i e2 p (by simpa using e1))
end Go.AW
