/-
  The engine, second make, fourth part: ranges over functions, families of rows, regions whose order is drawn. Over any program.
-/
import Derived.Test.YticlgfdibfobdaaGreatWC
set_option linter.all false
open And renaming intro->Aa
open Array renaming getD_eq_getD_getElem?->Bi,getElem?_eq_getElem->Hb,getElem?_eq_none->Lu,getElem?_eq_some_iff->Fc,getElem?_setIfInBounds_ne->Ez,getElem?_setIfInBounds_self_of_lt->Es,replicate->Fw
open Bool renaming and_eq_true->Ag,and_false->Bt,and_true->Iv,not_eq_true'->Eb,or_eq_false_iff->Ie,or_eq_true->Hr,true_and->Bo
open Go.Builtin renaming append_->Cq
open Go.Region renaming ready->Dx,wanted->Fg
open Go.Value renaming int->Ea
open Go.World renaming block_lt_of_cell?->Cr,cell?_of_block->Cx,ownsRow_nil->Hg,putObj_heap_other->Gl,putObj_heap_same->Lw
open List renaming all_eq_true->Cu,drop_eq_getElem_cons->Ac,eq_nil_iff_forall_not_mem->Hn,eq_nil_of_length_eq_zero->Av,getElem?_append_left->Af,getElem?_append_right->Ak,getElem?_eq_some_iff->Ad,getElem?_map->Bj,getElem?_of_mem->Cs,getElem?_set_ne->Aw,getElem?_set_self->Ap,length_erase_of_mem->Lm,length_pos_of_mem->Lx,length_take->Fz,map_append->Cc,mem_append->Az,mem_append_left->Dr,mem_append_right->De,mem_cons->Au,mem_cons_of_mem->Bd,mem_cons_self->Ax,mem_filter->Fk,mem_map->Ce,mem_of_getElem?->Aq,mem_range->Ji,mem_singleton->Du,nodup_append->Bu,nodup_cons->Cg,nodup_nil->Gg,not_mem_nil->Ln,prefix_refl->Cl,range->Dh,replicate->Ai,take_append_drop->Bk,take_append_of_le_length->Db,take_of_length_le->Cb
open List.Sublist renaming refl->Lf
open Nat renaming beq->Ar,beq_refl->Ms,ble->Fq,blt->Fi,blt_eq->Jt,div_one->Ho,le_of_ble_eq_true->Ci,le_refl->Ba,le_trans->Co,lt_of_lt_of_le->Ef,min_eq_left->Hq,mod_one->Ki,zero_add->Bw
open Ne renaming symm->Eg
open Option renaming map_eq_some_iff->Cp
namespace Go.AW
open Go.RowKit
open Classical
def bV (l:Nat) (R:Loop):BInv where
 inv _ bs w:=bs=[l]/\w.heap[l]? =some (.loop R)
 mono:=fun _ _ hb ⟨h1,h2⟩=>⟨h1,hb _ _ (by rw [h1];simp) h2⟩
theorem fA (bs:List Nat):JV (eZ bs)=bs:=AU (hs:=[eZ bs]) rfl
theorem iB {hs:List Value} {g:Nat} {I:BInv} {k b:Nat}:aM [hs] [.bun g I] k b↔k=0/\b∈blk hs:=by
 constructor
 .rintro ⟨c,hs',a,e,f,d⟩
  cases k with
  | zero=>grind
  | succ k=>simp at a
 .rintro ⟨rfl,h⟩
  exact ⟨_,hs,rfl,rfl,rfl,h⟩
section
variable {M:Imm} {ob:Hs} {obs:List AObj} {w:World}
theorem Mem.recAt (h:Mem M ob obs w) {k l g:Nat} {R:Loop} (b:obs[k]? =some (.bun g (bV l R))):∃ hs,ob[k]? =some hs/\hs.length=g+1/\hs[g]? =some (eZ [l])/\blk hs=[l]/\w.heap[l]? =some (.loop R):=by
 obtain ⟨hs,c,hl,bs,a,e,rfl,d⟩:=h.obj k _ b
 exact ⟨hs,c,hl,a,(eB hl a).trans (fA _),d⟩
theorem Mem.recTurn (h:Mem M ob obs w) {k l g:Nat} {R:Loop} (p:obs[k]? =some (.bun g (bV l R))) (d:Loop):
  Mem M ob (obs.set k (.bun g (bV l d))) (w.putObj l (.loop d))/\Ext M ob obs w M ob (obs.set k (.bun g (bV l d))) (w.putObj l (.loop d)):=by
 obtain ⟨hs,q,hl,t,m,n⟩:=h.recAt p
 have f:=eU n
 have:=h.turn (M':=M) (w':=w.putObj l (.loop d)) (x':=.bun g (bV l d)) (hs':=hs) p q (Cl _) (fun e=>by cases e) (fun _ _ _ h=>h) (fun _ _ _ h=>.inl h) (fun c o y v=>by
   obtain ⟨u,i,r,s⟩:=h.imm c o y v
   have j:c≠l:=fun e=>by subst e;unfold World.cell? at i;dsimp only at i;rw [n] at i;cases i
   exact ⟨u,(Cx (w:=w) (a:=⟨c,o,none⟩) (Gl j)).trans i,r,s⟩)
  (fun c _ x=>Gl fun e=>x ⟨rfl,by simp_all⟩) rfl rfl rfl s_ (fun _=>⟨hl,[l],t,fun b m=>by
   rw [Du.1 m]
   exact ⟨_,Lw f,rfl⟩,rfl,Lw f⟩)
  (fun _ c z=>⟨.inl ⟨rfl,z⟩,by
   simp_all⟩)
 rw [fQ q] at this
 grind
theorem Mem.drop (h:Mem M ob obs w) (k:Nat):Mem M ob (obs.set k .dead) w/\∀ {i b:Nat},aM ob (obs.set k .dead) i b->aM ob obs i b:=by
 have a:SD (obs.set k .dead) obs:=⟨by simp,fun i=>by
  by_cases c:i=k
  .subst c
   grind
  grind⟩
 exact ⟨h.weak a,fun d=>a.alive d⟩
end
section
variable {E:Env} {fn:Func} {g:Goal}
theorem To.beginR {l k gg:Nat} {R:Loop} {ks:List KI} {fr:List (Nat×AVal)} {obs:List AObj} (i:E.rd=some l) (s:aE obs k= .bun gg (bV l R)) (o:R.state= .ready)
  (h:To E fn g (.code ks fr (bJ obs k (.bun gg (bV l {R with state:=.busy}))))):To E fn g (.code (.beginR::ks) fr obs):=
 .mk fun j M0 ob0 obs0 w0 a w hst hs=>by
  obtain ⟨M,ob,v,hm,f,x,t,y⟩:=hs
  have c:=bG s s_
  obtain ⟨p,n⟩:=hm.recTurn c {R with state:=.busy}
  obtain ⟨_,_,_,_,_,d⟩:=hm.recAt c
  rw [aR c] at h
  have key:=(h.rec (motive:=fun _=>yC E fn g _) fun h=>h) (by simpa [bF,KI.ok] using j) M0 ob0 obs0 w0 a _ hst ⟨M,ob,v.trans n,p,f,x,t.ext hm n,by simp;omega⟩
  intro b cs m
  obtain ⟨e,u,w',q,r⟩:=key b cs m
  exact ⟨e,u,w',q,.of_steps (.one (iY _ _ _) (stepR_beginRound (m.trans i) (run_beginRound d o))) r⟩
end
def jD (ob0:Hs) (fr:List (Nat×AVal)) (R:Loop) (L:List AObj):BInv where
 inv M bs w:=∃ ob,dE ob0 ob/\ob.length=L.length/\(∀ (k:Nat) c,L[k]? =some c->∃ hs,ob[k]? =some hs/\gK M ob w hs c)/\(∀ k k' b,aM ob L k b->aM ob L k' b->k=k')/\
  (∀ b,b∈bs↔ ∃ k,aM ob L k b)/\∀ t,Rep M ob (R.tmps.getD t undef) (aW fr t)
 mono:=fun hM hn hb ⟨ob,h1,h2,h3,h4,h5,h6⟩=>⟨ob,h1,h2,fun k c hc=>by
  obtain ⟨hs,hh,hok⟩:=h3 k c hc
  exact ⟨hs,hh,hok.mono hM (dE.refl _) (fun b p1 p2=>hn b ((h5 b).2 ⟨k,(cI hc hh).2 ⟨p1,p2⟩⟩)) (fun b c' p1 p2=>hb b c' ((h5 b).2 ⟨k,(cI hc hh).2 ⟨p1,p2⟩⟩))⟩,h4,h5,fun t=>(h6 t).monoM hM⟩
theorem Mem.unpack {M:Imm} {ob:Hs} {obs:List AObj} {w:World} {k g:Nat} {ob0:Hs} {fr:List (Nat×AVal)} {R:Loop} {L:List AObj} (hm:Mem M ob obs w) (j:obs[k]? =some (.bun g (jD ob0 fr R L))):
  ∃ hs a,ob[k]? =some hs/\hs.length=g+1/\dE ob0 a/\Mem M a L w/\(∀ b,b∈blk hs↔ ∃ k,aM a L k b)/\∀ t,Rep M a (R.tmps.getD t undef) (aW fr t):=by
 obtain ⟨hs,n,hl,bs,l,f,a,h1,h,h3,e,c,m⟩:=hm.obj k _ j
 have d:blk hs=bs:=(eB hl l).trans (fA _)
 refine ⟨hs,a,n,hl,h1,⟨hm.imm,h,h3,fun i b p=>?_,e⟩,fun b=>by rw [d];exact c b,m⟩
 obtain ⟨o,q,_⟩:=f b ((c b).2 ⟨i,p⟩)
 exact eU q
theorem Mem.pack {M:Imm} {a:Hs} {L:List AObj} {w:World} {ob0:Hs} {fr:List (Nat×AVal)} {R:Loop} (hm:Mem M a L w) (e:dE ob0 a) (d:∀ t,Rep M a (R.tmps.getD t undef) (aW fr t)):
  ∃ bs,(∀ b,b∈bs↔ ∃ k,aM a L k b)/\∀ (ob:Hs) (hs:List Value),gK M ob w (hs++[eZ bs]) (.bun hs.length (jD ob0 fr R L)):=by
 let bs:=(Dh w.heap.size).filter fun b=>decide (∃ k,aM a L k b)
 have c:∀ b,b∈bs↔ ∃ k,aM a L k b:=fun b=>by
  simp only [bs,Fk,Ji,decide_eq_true_eq]
  exact ⟨fun h=>h.2,fun ⟨k,h⟩=>⟨hm.lt k b h,k,h⟩⟩
 refine ⟨bs,c,fun ob hs=>⟨by simp,bs,by simp,fun b f=>?_,a,e,hm.len,hm.obj,hm.inj,c,d⟩⟩
 obtain ⟨k,g⟩:=(c b).1 f
 exact hm.alive_heap g
theorem oE (hs:List Value) (v:Value):blk (hs++[v])=JV v:=by unfold blk;simp
theorem aA4 {M:Imm} {ob:Hs} {tmps:Array Value} {fr:List (Nat×AVal)} {p:Nat} {v:Value} {x:AVal} (h:∀ t,Rep M ob (tmps.getD t undef) (aW fr t)) (b:Rep M ob v x) (hp:p<tmps.size):
  ∀ t,Rep M ob ((tmps.setIfInBounds p v).getD t undef) (aW (gS fr p x) t):=by
 intro t
 have:=nD (a:={tmps:=tmps,defers:=[]}) (d:=some p) h b (fun c e=>by grind) t
 rw [show aW (gS fr p x) t=iV (aW fr) (some p) x t from congrFun (fG fr (some p) x) t]
 exact this
def lH (R:Loop) (b:Bool):Loop:=if b then R else {R with state:=.done,pending:=some .ret}
theorem XC {R:Loop} (h1:R.state= .ready) (h:R.pending=none):({{R with state:=.busy} with state:=if (none:Option Code).isNone then .ready else .done,pending:=none}:Loop)=lH R true:=by
 obtain ⟨a,b,c,d,e,f,g,i⟩:=R
 have h1:a= .ready:=h1
 have h:b=none:=h
 subst h1 h
 rfl
theorem gE {E:Env} {fn:Func} {ob0:Hs} {l k n p gg:Nat} {R:Loop} {as C:Code} {fr:List (Nat×AVal)} {L L':List AObj} {x:Int} {b:Bool} (V:R.params= #[p]) (Q:R.state= .ready) (hpe:R.pending=none) (has:R.assign=as) (hbd:R.body=C) (hsz:R.tmps.size=fn.ntmps)
  (hp:Fi p fn.ntmps=true) (Z:E.df=[]) (hco:(dB fn.ntmps as&&dB fn.ntmps C)=true) (hk:aE L k= .bun gg (bV l R)) (hn:L.length=n) (hn':L'.length=n) (hk':aE L' k= .bun gg (bV l {R with state:=.busy}))
  (h:inR .i64 x->To {E with rd:=some l} fn (.keep n (.ret (.bool b)) L') (.code [.code as,.beginR,.code C] (gS fr p (.int .i64 x)) L)):
  bM E.P (.yield l) [.int .i64 x] [.bun 0 (jD ob0 fr R L)] (.ret (.bool b)) [.bun 1 (jD ob0 fr R (L'.set k (.bun gg (bV l (lH R b)))))]:=by
 intro M ob w m hm hr
 obtain ⟨hs,f,W,hl,hle,u,I,T⟩:=hm.unpack (k:=0) rfl
 have hob:ob=[hs]:=by
  have:=hm.len
  match ob,this,W with
  | [y],_,W=>simp at W;rw [W]
 subst hob
 obtain ⟨v,rfl⟩:∃ v,m=[v]:=by
  have:=hr.1
  match m,this with
  | [v],_=>simp
 have hv:Rep M [hs] v (.int .i64 x):=hr.2 0 v _ rfl rfl
 obtain ⟨rfl,N⟩:=hv.int_inv
 obtain ⟨_,_,_,_,_,D⟩:=u.recAt (bG hk s_)
 have hpl:p<R.tmps.size:=by rw [hsz];simpa [Jt] using hp
 have G:(R.params.zip #[Ea .i64 x]).foldl (fun tmps (t,a)=>tmps.setIfInBounds t a) R.tmps=R.tmps.setIfInBounds p (.int .i64 x):=by rw [V];simp
 refine ⟨R.fn,R.tmps.setIfInBounds p (.int .i64 x),as,C,?_,trivial,fun c cs _=>?_⟩
 .have:=run_yield (P:=E.P) (args:= #[Ea .i64 x]) D (by rw [V];rfl)
  rw [G,has,hbd] at this
  exact this
 let b0:Frame:={(default:Frame) with fn:=R.fn,kind:=.normal,roundOf:=some l}
 let a0:Act:={tmps:=R.tmps.setIfInBounds p (.int .i64 x),defers:=[]}
 have hb0:Frame.round l R.fn (R.tmps.setIfInBounds p (.int .i64 x)) as C .normal=b0.atR a0 (gH [.code as,.beginR,.code C]):=by
  rfl
 rw [hb0]
 have hst:pL (.keep n (.ret (.bool b)) L') f:=⟨by rw [u.len];exact hn,fun h=>by cases h⟩
 have hok:bF fn.ntmps [.code as,.beginR,.code C]=true:=by
  simp only [bF,KI.ok,Iv,Bo]
  omega
 obtain ⟨h0⟩:=h N
 obtain ⟨e,a',w',K,B⟩:=h0 hok M f L w a0 w hst ⟨M,f,Ext.refl _ _ _ _,u,aA4 T (.int _ _ N) hpl,by show (R.tmps.setIfInBounds p _).size=_;simp;omega,by show cQ w w M f [] E.df;rw [Z];exact .nil,by rw [u.len];omega⟩ b0 (c::cs) rfl
 -- gY the body
 have fin:∀ {s:Bool} {w':World} {st:LoopState} {jump:Option Code},(jump.isNone=s)->({{R with state:=.busy} with state:=if jump.isNone then .ready else .done,pending:=jump}:Loop)=lH R s->RR M f L w (.keep n (.ret (.bool b)) L') (.returned (.bool s)) w'->
   s=b/\∃ J,(Instr.endRound l jump).run E.P w'= .ok (.bool s) J/\∃ M' ob',Ext M [hs] [.bun 0 (jD ob0 fr R L)] w M' ob' [.bun 1 (jD ob0 fr R (L'.set k (.bun gg (bV l (lH R b)))))] J/\Mem M' ob' [.bun 1 (jD ob0 fr R (L'.set k (.bun gg (bV l (lH R b)))))] J:=by
  intro s w' st jump O hR ⟨M',g,H,A,x3⟩
  have e:s=b:=by
   have:=Rep.bool_inv (M:=M') (ob:=g) (b:=b) x3
   simpa using this
  subst e
  refine ⟨rfl,?_⟩
  have A:Mem M' g L' w':=A
  have H:Ext M f L w M' g L' w':=H
  have S:=bG hk' s_
  obtain ⟨_,_,_,_,_,r⟩:=A.recAt S
  obtain ⟨m1,m2⟩:=A.recTurn S (lH R s)
  have d:=run_endRound (P:=E.P) jump r
  rw [hR,O] at d
  refine ⟨_,d,M',?_⟩
  have X:=H.trans m2
  obtain ⟨bs,U,hpk⟩:=m1.pack (fr:=fr) (R:=R) (hle.trans X.hs) fun t=>(T t).mono X.imm X.hs
  have hal':∀ {k b},aM [hs++[eZ bs]] [.bun 1 (jD ob0 fr R (L'.set k (.bun gg (bV l (lH R s)))))] k b->b∈bs:=fun {k b} z=>by
   have:=(iB.1 z).2
   rwa [oE,fA] at this
  have h1:hs.length=1:=hl
  refine ⟨[hs++[eZ bs]],⟨X.imm,fun b o y hy=>?_,fun i hs' hi=>?_,X.os,X.tape,X.output,X.size,fun b F hn=>X.keep b F fun i z=>hn 0 (iB.2 ⟨rfl,(I b).2 ⟨i,z⟩⟩),fun i b z=>?_⟩,⟨m1.imm,rfl,fun i c Y=>?_,fun i b z=>?_,fun i j b z F=>?_⟩⟩
  .rcases X.new b o y hy with q | q | q
   .exact .inl q
   .omega
   .exact .inr (.inr ⟨0,iB.2 ⟨rfl,(I b).2 q⟩⟩)
  .cases i with
   | zero=>simp at hi;subst hi;simp
   | succ i=>simp at hi
  .have F:b∈bs:=by
    have:=(iB.1 z).2
    rwa [oE,fA] at this
   obtain ⟨j,O⟩:=(U b).1 F
   rcases X.fresh j b O with q | q
   .exact .inl ⟨0,iB.2 ⟨rfl,(I b).2 q⟩⟩
   omega
  .cases i with
   | zero=>
    simp at Y
    subst Y
    refine ⟨_,rfl,?_⟩
    have:=hpk [hs++[eZ bs]] hs
    rwa [h1] at this
   | succ i=>simp at Y
  .have F:b∈bs:=by
    have:=(iB.1 z).2
    rwa [oE,fA] at this
   obtain ⟨j,O⟩:=(U b).1 F
   exact m1.lt j b O
  .rw [(iB.1 z).1,(iB.1 F).1]
 cases e with
 | normal=>
  obtain ⟨rfl,J,d,M',ob',H,A⟩:=fin (st:=.ready) (jump:=none) rfl (XC Q hpe) K
  exact ⟨.returned (.bool true),J,⟨M',ob',H,A,.bool _⟩,StepsIn.trans B (.one (iY _ _ _) (stepR_round_end rfl rfl d))⟩
 | ret=>
  obtain ⟨rfl,J,d,M',ob',H,A⟩:=fin (st:=.ready) (jump:=some .ret) rfl rfl K
  obtain ⟨k₁,hs'⟩:=B.2 rfl
  exact ⟨.returned (.bool false),J,⟨M',ob',H,A,.bool _⟩,StepsIn.trans hs' (.one (iY _ _ _) (stepR_round_ret rfl rfl d))⟩
 | panic ch=>exact K.elim
 | exit id=>exact K.elim
 | goto t=>exact K.elim
 | outgrown=>exact K.elim
def LF:Code->Option (Code×Code)
 | .rangeFunc _ _ as c=>some (as,c)
 | .seq a b=>(match LF a with | some x=>some x | none=>LF b)
 | .cond _ a b=>(match LF a with | some x=>some x | none=>LF b)
 | .block _ b=>LF b
 | .loop b=>LF b
 | _=>none
def rfA (fn:Func):Code:=match LF (dC fn) with | some p=>p.1 | none=>.skip
def rfB (fn:Func):Code:=match LF (dC fn) with | some p=>p.2 | none=>.skip
theorem KW.range {rd:Option Nat} {P:Program} {Q:Exit->Act->World->Prop} {ks:List KI} {a:Act} {w:World} {x:Operand} {B:Array Tmp} {as A:Code}
  (h:∀ fn,∃ (l:Nat) (c:List Deferred) (o:World) (d:Deferred) (f:FuncId) (args:Array Value),
   (Instr.enterLoop fn a.tmps B as A rd).run P w= .ok (l,c) o/\(resolve a.eval (rangeCall x l) 0).run P o= .ok d o/\(invoke d.target d.args).run P o= .ok (.enter f args) o/\
   Calls P f args o fun e F=>∃ v,e= .returned v/\∃ jump z,(Instr.endLoop l).run P F= .ok jump z/\KW rd P Q ((jump.map KI.code).toList++ks) {a with defers:=c++a.defers} z):
  KW rd P Q (.code (.rangeFunc x B as A)::ks) a w:=by
 intro b cs t
 obtain ⟨l,c,o,d,f,args,D,u,y,p⟩:=h b.fn
 rw [<-t] at D
 have i:=stepR_rangeFunc (P:=P) (b:=b) (a:=a) (k:=gH ks) (cs:=cs) (w:=w) D u y
 obtain ⟨e,F,fr,⟨v,rfl,jump,z,s,H⟩,g,I,j⟩:=p (b.atR {a with defers:=c++a.defers} (.inRangeFunc l::gH ks)::cs)
 obtain ⟨G,J,w',q,r⟩:=H b cs t
 refine ⟨G,J,w',q,?_⟩
 have C:gH ((jump.map KI.code).toList++ks)=(jump.map Item.code).toList++gH ks:=by cases jump<;>rfl
 rw [C] at r
 have n:Steps P (lone (b.atR a (.code (.rangeFunc x B as A)::gH ks)) cs w) (lone (b.atR {a with defers:=c++a.defers} ((jump.map Item.code).toList++gH ks)) cs z):=by
  refine .head i (Steps.trans g (.head ?_ (.one (stepR_endRangeFunc s))))
  rw [<-finish_atR_inRangeFunc l v];exact step_leave_returned j
 exact .of_steps ((StepsIn.of_steps n).mono fun m _=>iY _ _ m) r
section
variable {M:Imm} {ob:Hs} {obs:List AObj} {w:World}
theorem Mem.layRec (hm:Mem M ob obs w) (R:Loop):
  Mem M (ob++[[eZ [w.heap.size+1]]]) (kG obs (.bun 0 (bV (w.heap.size+1) R))) ((w.alloc (.deferred (some []))).alloc (.loop R))/\
  Ext M ob obs w M (ob++[[eZ [w.heap.size+1]]]) (kG obs (.bun 0 (bV (w.heap.size+1) R))) ((w.alloc (.deferred (some []))).alloc (.loop R)):=by
 rw [nN]
 have e:Mem M ob obs (w.alloc (.deferred (some []))):=hm.same s_ fun b c=>heap_alloc_old w _ c
 have f:Ext M ob obs w M ob obs (w.alloc (.deferred (some []))):=⟨fun _ _ _ h=>h,fun _ _ _ h=>.inl h,dE.refl _,rfl,rfl,rfl,by simp,fun b c _=>heap_alloc_old w _ c,fun k b r=>.inl ⟨k,r⟩⟩
 obtain ⟨g,l,_⟩:=e.extend 1
 have h1:(obs++Ai 1 AObj.dead)[obs.length]? =some .dead:=by simp
 have n:(ob++Ai 1 ([]:List Value))[obs.length]? =some []:=by rw [<-hm.len];simp
 have d:(w.alloc (.deferred (some []))).heap.size=w.heap.size+1:=tZ ..
 have t:=g.turn (M':=M) (w':=(w.alloc (.deferred (some []))).alloc (.loop R)) (x':=.bun 0 (bV (w.heap.size+1) R)) (hs':=[eZ [w.heap.size+1]]) h1 n ⟨_,rfl⟩ (fun _=>rfl) (fun _ _ _ h=>h) (fun _ _ _ h=>.inl h) (fun b o y q=>by
   obtain ⟨u,i,j,m⟩:=g.imm b o y q
   exact ⟨u,(Cx (w:=w.alloc (.deferred (some []))) (a:=⟨b,o,none⟩) (heap_alloc_old _ _ (Cr _ _ i))).trans i,j,m⟩)
  (fun b c _=>heap_alloc_old _ _ c) rfl rfl rfl s_ (fun _=>⟨rfl,[w.heap.size+1],rfl,fun b c=>by
   rw [Du.1 c,<-d]
   exact ⟨_,heap_alloc_new _ _,rfl⟩,rfl,by rw [<-d];exact heap_alloc_new _ _⟩)
  (fun _ b c=>by
   have:blk [eZ [w.heap.size+1]]=[w.heap.size+1]:=fA _
   rw [this] at c
   rw [Du.1 c,tZ _ (Obj.loop R),d]
   omega)
 have s:(ob++Ai 1 ([]:List Value)).set obs.length [eZ [w.heap.size+1]]=ob++[[eZ [w.heap.size+1]]]:=by
  rw [<-hm.len];simp
 have p:(obs++Ai 1 AObj.dead).set obs.length (.bun 0 (bV (w.heap.size+1) R))=obs++[.bun 0 (bV (w.heap.size+1) R)]:=by simp
 rw [s,p] at t
 exact ⟨t.1,f.trans (l.trans t.2.1)⟩
theorem E6:∀ (ks:List Nat) (obs:List AObj),(∀ k∈ks,k<obs.length)->SD (pR ks obs) obs/\∀ k∈ks,(pR ks obs)[k]? =some .dead
 | [],obs,_=>⟨⟨rfl,fun _=>.inl rfl⟩,fun k h=>by simp at h⟩
 | x::r,obs,hlt=>by
  have b:x<obs.length:=hlt x s_
  have e:bJ obs x .dead=obs.set x .dead:=gG _ b
  obtain ⟨⟨h1,d⟩,h3⟩:=E6 r (bJ obs x .dead) (fun k a=>by grind)
  have c:∀ k:Nat,(pR (x::r) obs)[k]? =obs[k]?\/(pR (x::r) obs)[k]? =some AObj.dead:=fun k=>by
   rcases d k with q | q
   .by_cases a:k=x
    .subst a
     right
     show (pR r (bJ obs k .dead))[k]? =_
     rw [q,e,Ap b]
    .left
     show (pR r (bJ obs x .dead))[k]? =_
     rw [q,e,Aw (Eg a)]
   .exact .inr q
  refine ⟨⟨by show (pR r (bJ obs x .dead)).length=_;rw [h1,e];simp,c⟩,fun k a=>?_⟩
  rcases Au.1 a with rfl | a
  .show (pR r (bJ obs k AObj.dead))[k]? =some AObj.dead
   rcases d k with q | q
   .rw [q,e,Ap b]
   .exact q
  .exact h3 k a
theorem Mem.snoc {A:List AObj} {a:Hs} {c:AObj} {hs:List Value} (hm:Mem M a A w) (B:∀ ob,dE a ob->gK M ob w hs c) (q:∀ b∈blk hs,b<w.heap.size) (f:∀ k b,aM a A k b->b∉blk hs):
  Mem M (a++[hs]) (A++[c]) w/\∀ k b,aM (a++[hs]) (A++[c]) k b->(k<A.length/\aM a A k b)\/(k=A.length/\b∈blk hs):=by
 have m:dE a (a++[hs]):=fun j l e=>⟨l,by rw [Af (Ad.1 e).1];exact e,Cl _⟩
 have g:∀ {j:Nat} {x:AObj},(A++[c])[j]? =some x->(j<A.length/\A[j]? =some x/\(a++[hs])[j]? =a[j]?)\/(j=A.length/\x=c/\(a++[hs])[j]? =some hs):=fun {j x} e=>by
  by_cases h:j<A.length
  .rw [Af h] at e
   exact .inl ⟨h,e,Af (by rw [hm.len];exact h)⟩
  .have d:j=A.length:=by have:=(Ad.1 e).1;simp at this;omega
   subst d
   rw [Ak s_] at e
   simp at e
   exact .inr ⟨rfl,e.symm,by rw [<-hm.len];simp⟩
 have p:∀ k b,aM (a++[hs]) (A++[c]) k b->(k<A.length/\aM a A k b)\/(k=A.length/\b∈blk hs):=by
  rintro k b ⟨x,l,C,z,o,s⟩
  rcases g C with ⟨h1,d,h3⟩ | ⟨h1,d,h3⟩
  .rw [h3] at o;exact .inl ⟨h1,x,l,d,z,o,s⟩
  .rw [h3] at o;cases o;exact .inr ⟨h1,s⟩
 refine ⟨⟨hm.imm,by simp [hm.len],fun k x y=>?_,fun k b r=>?_,fun i j b r t=>?_⟩,p⟩
 .rcases g y with ⟨h1,d,h3⟩ | ⟨h1,rfl,h3⟩
  .obtain ⟨l,u,v⟩:=hm.obj k x d
   exact ⟨l,by rw [h3];exact u,v.mono (fun _ _ _ h=>h) m (fun _ _ _ _ h=>h) (fun _ _ _ _ h=>h)⟩
  .exact ⟨hs,h3,B _ m⟩
 .rcases p k b r with ⟨_,h⟩ | ⟨_,h⟩
  .exact hm.lt k b h
  .exact q b h
 .rcases p i b r with ⟨h1,d⟩ | ⟨h1,d⟩<;>rcases p j b t with ⟨h3,n⟩ | ⟨h3,n⟩
  .exact hm.inj i j b d n
  .exact absurd n (f i b d)
  .exact absurd d (f j b n)
  omega
end
theorem bM.bunTo {P:Program} {f:Fn} {args:List AVal} {obs:List AObj} {r:Res} {gg:Nat} {I l:BInv} (h:bM P f args obs r [.bun gg I])
  (u:∀ (M:Imm) (bs:List Nat) (w:World),(∀ b o x,M b o x->∃ v,w.cell? ⟨b,o,none⟩=some v/\v.oneCell'=true/\Rep M [] v x)->(∀ b,b∈bs->b<w.heap.size)->I.inv M bs w->l.inv M bs w):bM P f args obs r [.bun gg l]:=
 fun M ob w d hm z=>cW.mono (fun e w' ⟨M',ob',a,g,t⟩=>by
  have i:∀ {k b},aM ob' [.bun gg l] k b->aM ob' [.bun gg I] k b:=fun {k b} ⟨c,hs,e1,e2,e3,e4⟩=>by
   cases k with
   | zero=>exact ⟨_,hs,rfl,rfl,e3,e4⟩
   | succ k=>simp at e1
  refine ⟨M',ob',⟨a.imm,a.new,a.hs,a.os,a.tape,a.output,a.size,a.keep,fun k b n=>a.fresh k b (i n)⟩,⟨g.imm,g.len,fun k c m=>?_,fun k b n=>g.lt k b (i n),fun k A b h1 j=>g.inj k A b (i h1) (i j)⟩,t⟩
  cases k with
  | zero=>
   simp at m
   subst m
   obtain ⟨hs,h1,j,bs,h3,p,y⟩:=g.obj 0 _ rfl
   exact ⟨hs,h1,j,bs,h3,p,u _ _ _ g.imm (fun b s=>by obtain ⟨o,q,_⟩:=p b s;exact eU q) y⟩
  | succ k=>simp at m) (h M ob w d hm z)
theorem BB:∀ (n j i:Nat),i<n->(upto j n)[i]? =some (j+i)
 | 0,_,_,h=>by omega
 | n+1,j,0,_=>rfl
 | n+1,j,i+1,h=>by
  show (upto (j+1) n)[i]? =_
  rw [BB n (j+1) i o_,show j+1+i=j+(i+1) from by omega]
theorem aDq {ob0:Hs} {fr:List (Nat×AVal)} {R:Loop} {L L':List AObj} {n:Nat} (D:L.length=n) (h1:∀ hs∈ob0,hs.length=1) (hl:ob0.length<=n) (q:mB (upto 0 n) L=true) (e:RN n (upto 0 n) (aE L) fr=fr) (H:iE n (upto 0 n) L=L'):
  ∀ (M:Imm) (bs:List Nat) (w:World),(∀ b o x,M b o x->∃ v,w.cell? ⟨b,o,none⟩=some v/\v.oneCell'=true/\Rep M [] v x)->(∀ b,b∈bs->b<w.heap.size)->(jD ob0 fr R L).inv M bs w->(jD ob0 fr R L').inv M bs w:=by
 rintro M bs w i g ⟨ob,z,A,y,F,s,G⟩
 subst H
 have hm:Mem M ob L w:=⟨i,A,y,fun k b a=>g b ((s b).2 ⟨k,a⟩),F⟩
 obtain ⟨l,B,C⟩:=hm.cvt (n0:=n) q
 refine ⟨dY n ob L 0 (upto 0 n),fun j hs f=>?_,l.len,l.obj,l.inj,fun b=>(s b).trans ⟨fun ⟨k,a⟩=>?_,fun ⟨j,a⟩=>?_⟩,fun t=>?_⟩
 .have d:j<n:=Ef (Ad.1 f).1 hl
  obtain ⟨hs',p,t,r⟩:=z j hs f
  have u:=h1 hs (Aq f)
  refine ⟨iM n j (aE L j) hs',?_,?_⟩
  .rw [gI,BB n 0 j d]
   simp [p]
  .unfold iM
   split
   .rw [<-r]
    have:(hs++t).take 1=hs:=by rw [Db o_,Cb o_]
    rw [this]
    simp
   .exact ⟨t,r⟩
 .have m:k<n:=by
   obtain ⟨c,_,p,_⟩:=a
   rw [<-D]
   exact (Ad.1 p).1
  exact ⟨k,C k k b (by rw [BB n 0 k m,Bw]) a⟩
 .obtain ⟨k,_,h⟩:=B j b a
  exact ⟨k,h⟩
 .have:=hm.cvtV (n0:=n) q 5 _ _ (G t)
  rw [<-xJ,e] at this
  exact this
structure RecOK (fn:Func) (p:Nat) (as bd:Code) (R:Loop):Prop where
 params:R.params= #[p]
 ready:R.state= .ready
 pend:R.pending=none
 assign:R.assign=as
 body:R.body=bd
 size:R.tmps.size=fn.ntmps
theorem To.range {E:Env} {fn:Func} {g:Goal} {x:Operand} {p:Nat} {as bd:Code} {ks:List KI} {fr:List (Nat×AVal)} {obs:List AObj} {f:FuncId} {C:List AVal} (m:List Nat) (hrd:E.rd=none) (hdf:E.df=[]) (hbo:uF E.P f)
  (hx:ev fr x= .func (.func f) [] C) (hk:∀ l R,mB m (kG obs (.bun 0 (bV l R)))=true) (hlt:(m.all fun k=>Fi k (aP obs))=true)
  (h:∀ (l:Nat) (ob0:Hs) (R:Loop),pL g ob0->RecOK fn p as bd R->∃ (L':List AObj) (b:Bool) (r:AVal) (z:List AObj) (gg:Nat),
   aA E.P f (.func (.yield l) [] []::dP (cvtV 0 m (aE (kG obs (.bun 0 (bV l R)))) 5) C) (iE 0 m (kG obs (.bun 0 (bV l R)))++[.bun 0 (jD ob0 fr R (pR m (kG obs (.bun 0 (bV l R)))))]) (.ret r) (z++[.bun gg (jD ob0 fr R L')])/\
   aE L' (aP obs)= .bun 0 (bV l (lH R b))/\z.length=m.length/\To E fn g (.code (if b then ks else .code .ret::ks) fr (bJ L' (aP obs) .dead))):
  To E fn g (.code (.code (.rangeFunc x #[p] as bd)::ks) fr obs):=by
 refine .mk fun hok M0 n obs0 w0 a w hst hs=>?_
 obtain ⟨M,ob,hx0,hm,hfr,hsz,Y,hlen⟩:=hs
 rw [hrd]
 refine KW.range fun fid=>?_
 obtain ⟨l,hl⟩:∃ l,l=w.heap.size+1:=⟨_,rfl⟩
 obtain ⟨R,hR⟩:∃ R:Loop,R={state:=.ready,pending:=none,fn:=fid,tmps:=a.tmps,params:= #[p],assign:=as,body:=bd,defers:=w.heap.size}:=⟨_,rfl⟩
 have N:RecOK fn p as bd R:=by subst hR;exact ⟨rfl,rfl,rfl,rfl,rfl,hsz⟩
 have htm:R.tmps=a.tmps:=by subst hR;rfl
 obtain ⟨D,T⟩:∃ D,D=(w.alloc (.deferred (some []))).alloc (.loop R):=⟨_,rfl⟩
 obtain ⟨m1,x1⟩:=hm.layRec R
 rw [<-hl,<-T] at m1 x1
 obtain ⟨A,hob1⟩:∃ A,A=ob++[[eZ [l]]]:=⟨_,rfl⟩
 rw [<-hob1] at m1 x1
 obtain ⟨L',b,r,z,gg,hcall,hLk,hol,hto⟩:=h l n R hst N
 generalize O:kG obs (.bun 0 (bV l R))=obs1 at *
 have hobs1l:obs1.length=obs.length+1:=by rw [<-O,nN];simp
 have hk1:mB m obs1=true:=by rw [<-O];exact hk l R
 have hltk:∀ k∈m,k<obs1.length:=fun k hk=>by
  have:=Cu.1 hlt k hk
  have:k<aP obs:=by simpa [Jt] using this
  rw [bI] at this
  omega
 obtain ⟨hwk,hdead⟩:=E6 m obs1 hltk
 have mC:=m1.weak hwk
 obtain ⟨c1,c2,c3⟩:=m1.cvt (n0:=0) hk1
 have hfr1:∀ t,Rep M A (R.tmps.getD t undef) (aW fr t):=fun t=>by rw [htm];exact (hfr t).mono x1.imm x1.hs
 obtain ⟨bs,hbs,hpk⟩:=mC.pack (hx0.hs.trans x1.hs) hfr1
 have hcl:(dY 0 A obs1 0 m).length=m.length:=rB
 have hsl:(iE 0 m obs1).length=m.length:=nK
 have I:blk ([]++[eZ bs])=bs:=by rw [oE,fA]
 obtain ⟨mI,aI⟩:=c1.snoc (c:=.bun 0 (jD n fr R (pR m obs1))) (hs:=[]++[eZ bs]) (fun ob _=>hpk ob []) (fun b G=>by
   rw [I] at G
   obtain ⟨j,S⟩:=(hbs b).1 G
   exact mC.lt j b S) (fun j b F G=>by
   rw [I] at G
   obtain ⟨i,hi⟩:=(hbs b).1 G
   obtain ⟨k,e1,e2⟩:=c2 j b F
   have:=m1.inj k i b e2 (hwk.alive hi)
   subst this
   obtain ⟨c,_,q1,q2,_⟩:=hi
   rw [hdead k (Aq e1)] at q1
   cases q1
   cases q2)
 -- the call
 have hev:=DL hfr x
 rw [hx] at hev
 obtain ⟨s,hax,hcl1,hcr⟩:∃ s:List Value,a.eval x= .func (.func f) #[] s.toArray/\s.length=C.length/\∀ (i:Nat) v y,s[i]? =some v->C[i]? =some y->Rep M ob v y:=by
  generalize a.eval x=va at hev
  cases hev with
  | func _ vfs vcs _ _ hl1 hl2 hr1 hr2=>
   have:vfs=[]:=Av o_
   subst this
   exact ⟨vcs,rfl,hl2,hr2⟩
 have hargs:cA M (dY 0 A obs1 0 m++[[]++[eZ bs]]) (.func (.yield l) #[] #[]::s) (.func (.yield l) [] []::dP (cvtV 0 m (aE obs1) 5) C):=by
  have hle:dE (dY 0 A obs1 0 m) (dY 0 A obs1 0 m++[[]++[eZ bs]]):=fun j l S=>⟨l,by rw [Af (Ad.1 S).1];exact S,Cl _⟩
  have h2:cA M (dY 0 A obs1 0 m) s (dP (cvtV 0 m (aE obs1) 5) C):=bT (fun v a hva=>m1.cvtV (n0:=0) hk1 5 v a (hva.mono x1.imm x1.hs)) hcl1 hcr
  refine cA.cons (.func (.yield l) [] [] [] [] rfl rfl (fun i v a h=>by simp at h) (fun i v a h=>by simp at h)) ⟨h2.1,fun i v a hv F=>(h2.2 i v a hv F).mono (fun _ _ _ h=>h) hle⟩
 have hrun:=hcall M _ D _ mI hargs
 have V:Calls E.P f (Value.func (.yield l) #[] #[]::s).toArray D fun e w'=>∃ M' ob',Ext M (dY 0 A obs1 0 m++[[]++[eZ bs]]) (iE 0 m obs1++[.bun 0 (jD n fr R (pR m obs1))]) D M' ob' (z++[.bun gg (jD n fr R L')]) w'/\Mem M' ob' (z++[.bun gg (jD n fr R L')]) w'/\yD M' ob' e (.ret r):=by
  rcases hrun with ⟨_,q⟩ | ⟨u,w',q,_⟩
  .exact q
  .rw [hbo] at q;cases q
 have hent:(Instr.enterLoop fid a.tmps #[p] as bd none).run E.P w= .ok (l,[{target:=.collected w.heap.size,args:= #[]}]) D:=by
  rw [hl,T,hR];exact run_enterLoop_outer ..
 refine ⟨l,[{target:=.collected w.heap.size,args:= #[]}],D,{target:=.fn (.func f) s.toArray,args:= #[.func (.yield l) #[] #[]]},f,_,hent,?_,?_,V.mono fun e w3 ⟨M',obI,Z,y2,y3⟩=>?_⟩
 .have:resolve a.eval (rangeCall x l) 0=Deferred.ofValue (a.eval x) #[.func (.yield l) #[] #[]]:=by simp [resolve,rangeCall,Act.eval]
  rw [this,hax]
  rfl
 .show (callFunc f (#[Value.func (.yield l) #[] #[]]++s.toArray)).run E.P D=_
  rw [hbo]
  simp
 -- gY the call
 obtain ⟨v,rfl⟩:∃ v,e= .returned v:=by
  cases e with
  | returned v=>simp
  | panicked ch=>exact y3.elim
  | outgrown=>exact y3.elim
 refine ⟨v,rfl,?_⟩
 have hbk:(z++[AObj.bun gg (jD n fr R L')])[z.length]? =some (.bun gg (jD n fr R L')):=by simp
 obtain ⟨hs',W,hh',hl',hle',mC',hal',hfr'⟩:=y2.unpack hbk
 have H:=bG hLk s_
 have hkl:aP obs=obs.length:=bI obs
 obtain ⟨_,_,_,_,_,J⟩:=mC'.recAt H
 -- the client's memory,from the statement on
 have inI:∀ {k b},aM (dY 0 A obs1 0 m++[[]++[eZ bs]]) (iE 0 m obs1++[.bun 0 (jD n fr R (pR m obs1))]) k b->∃ k',aM A obs1 k' b:=fun {k b} F=>by
  rcases aI k b F with ⟨_,h⟩ | ⟨_,h⟩
  .obtain ⟨k',_,h⟩:=c2 k b h;exact ⟨k',h⟩
  .rw [I] at h
   obtain ⟨j,S⟩:=(hbs b).1 h
   exact ⟨j,hwk.alive S⟩
 have xnew:∀ b o y,M' b o y->M b o y\/D.heap.size<=b\/∃ k,aM A obs1 k b:=fun b o y hy=>by
  rcases Z.new b o y hy with q | q | ⟨k,q⟩
  .exact .inl q
  .omega
  .exact .inr (.inr (inI q))
 have L:∀ b,b<D.heap.size->(∀ k,¬ aM A obs1 k b)->w3.heap[b]? =D.heap[b]?:=fun b G hn=>Z.keep b G fun k F=>by
  obtain ⟨k',hk'⟩:=inI F
  exact hn k' hk'
 have U:∀ k b,aM W L' k b->(∃ k',aM A obs1 k' b)\/D.heap.size<=b:=fun k b F=>by
  have G:b∈blk hs':=(hal' b).2 ⟨k,F⟩
  have:aM obI (z++[AObj.bun gg (jD n fr R L')]) z.length b:=⟨_,hs',hbk,rfl,hh',G⟩
  rcases Z.fresh _ b this with ⟨k',q⟩ | q
  .exact .inl (inI q)
  omega
 have B:=hx0.trans x1
 -- from the function's start to here
 have X:Ext M0 n obs0 w0 M' W L' w3:=⟨fun b o y h=>Z.imm _ _ _ (B.imm _ _ _ h),fun b o y hy=>by
   rcases xnew b o y hy with h1 | h1 | ⟨i,hi⟩
   .exact B.new b o y h1
   .exact .inr (.inl (Co B.size h1))
   .rcases B.fresh i b hi with h2 | h2
    .exact .inr (.inr h2)
    omega,hle',Z.os.trans B.os,Z.tape.trans B.tape,Z.output.trans B.output,Co B.size Z.size,fun b G ho=>by
   rw [<-B.keep b G ho]
   refine L b (Ef G B.size) fun i hi=>?_
   rcases B.fresh i b hi with ⟨j,S⟩ | h2
   .exact ho j S
   .omega,fun i b hi=>by
   rcases U i b hi with ⟨j,S⟩ | h1
   .exact B.fresh j b S
   .exact .inr (Co B.size h1)⟩
 have hnb:(lH R b).state≠ .busy:=by
  unfold lH
  cases b with
  | true=>rw [if_pos rfl,N.ready];simp
  | false=>simp
 have hend:=run_endLoop (P:=E.P) J hnb
 obtain ⟨t1,t2⟩:=mC'.recTurn H {lH R b with state:=.exhausted}
 obtain ⟨d1,d2⟩:=t1.drop (aP obs)
 have hfin:bJ L' (aP obs) .dead=(L'.set (aP obs) (.bun 0 (bV l {lH R b with state:=.exhausted}))).set (aP obs) .dead:=by
  rw [aR H,List.set_set]
 rw [<-hfin] at d1 d2
 have X2:Ext M0 n obs0 w0 M' W (bJ L' (aP obs) .dead) (w3.putObj l (.loop {lH R b with state:=.exhausted})):=by
  have:=X.trans t2
  exact ⟨this.imm,this.new,this.hs,this.os,this.tape,this.output,this.size,this.keep,fun k b F=>this.fresh k b (d2 F)⟩
 refine ⟨(lH R b).pending,_,hend,?_⟩
 obtain ⟨hto⟩:=hto
 have hds0:=Y
 rw [hdf] at Y
 -- the marks
 have hw1d:D.heap[w.heap.size]? =some (.deferred (some [])):=by
  rw [T,heap_alloc_old _ _ s_]
  exact heap_alloc_new w _
 have Q:∀ c:Nat,D.heap[c]? =some (Obj.deferred (some []))->(w3.putObj l (.loop {lH R b with state:=.exhausted})).heap[c]? =some (Obj.deferred (some [])):=fun c K=>by
  have h3:w3.heap[c]? =some (Obj.deferred (some [])):=by
   rw [L c (eU K) fun k F=>by
    obtain ⟨o,q1,q2⟩:=m1.alive_heap F
    rw [K] at q1
    cases q1
    cases q2]
   exact K
  rw [Gl fun e=>by subst e;rw [J] at h3;cases h3]
  exact h3
 have hmk:Mks w0 (w3.putObj l (.loop {lH R b with state:=.exhausted})) ({target:=.collected w.heap.size,args:= #[]}::a.defers):=by
  refine ⟨⟨w.heap.size,rfl,hx0.size,Q _ hw1d,fun d hd e=>?_⟩,Y.marks.same fun d _ c _ K=>Q c ?_⟩
  .have:∀ {ds:List Deferred},Mks w0 w ds->∀ d∈ds,∀ c,d.target= .collected c->c<w.heap.size:=by
    intro ds
    induction ds with
    | nil=>simp
    | cons d0 ds ih=>
     rintro ⟨⟨b0,q1,q2,q3,q4⟩,q5⟩ d hd c K
     rcases Au.1 hd with rfl | hd
     .rw [q1] at K;cases K;exact eU q3
     .exact ih q5 d hd c K
   have:=this Y.marks d hd _ e
   omega
  .rw [T,heap_alloc_old _ _ (by rw [tZ];have:=eU K;omega),heap_alloc_old _ _ (eU K)]
   exact K
 have hss:SS M0 n obs0 w0 fn.ntmps E.df fr (bJ L' (aP obs) .dead) {a with defers:=[{target:=.collected w.heap.size,args:= #[]}]++a.defers} (w3.putObj l (.loop {lH R b with state:=.exhausted})):=by
  refine ⟨M',W,X2,d1,fun t=>?_,hsz,?_,?_⟩
  .have:=hfr' t
   rw [htm] at this
   exact this
  .rw [hdf];exact ⟨[],_,rfl,.nil,hmk⟩
  .have h1:=X2.lens
   have h2:=d1.len
   omega
 have hok2:bF fn.ntmps (if b then ks else .code .ret::ks)=true:=by
  have:bF fn.ntmps ks=true:=by
   simp only [bF,Ag] at hok
   exact hok.2
  cases b with
  | true=>exact this
  | false=>simpa [bF,KI.ok,dB] using this
 have key:=hto hok2 M0 n obs0 w0 _ _ hst hss
 rw [hrd] at key
 have hjump:((lH R b).pending.map KI.code).toList++ks=(if b then ks else .code .ret::ks):=by
  unfold lH
  cases b with
  | true=>rw [if_pos rfl,N.pend];rfl
  | false=>rfl
 rw [hjump]
 exact key
def aFm (sz:Nat):AVal->AVal
 | .nilslice=>.slice sz [] .nil
 | v=>v
theorem MP (sz:Nat) (M:Imm) (ob:Hs) (v:Value) (a:AVal) (h:Rep M ob v a):Rep M ob v (aFm sz a):=by
 unfold aFm
 split
 .cases h;exact .slnil _ _ rfl
 .exact h
theorem To.beginC {E:Env} {fn:Func} {g:Goal} {st:List KI} {fr:List (Nat×AVal)} {obs:List AObj} (k i:Nat) (e:TypeId) {T:TypeId} {cs:List AVal} {sz:Nat} (a:aE obs k= .cells T cs) (b:nth cs i=some (.slice sz [] .nil))
  (h:To E fn g (.code st fr (kG (bJ obs k (.cells T (K4 cs i (.slice sz [] (.own (aP obs) 0))))) (.tail 0 sz e)))):To E fn g (.code st fr obs):=by
 have c:To E fn g (.head st fr (kG (bJ obs k (.cells T (K4 cs i (.slice sz [] (.own (aP obs) 0))))) (.tail 0 sz e))):=h.rec fun h=>.mk h
 exact (To.begin k i e a b c).rec fun h=>.mk h
abbrev Hm:=Option Addr×Nat×List AVal
def hmV (m:Hm):Value:=.slice m.1 m.2.2.length m.2.1
def hmA (m:Hm):AVal:=.hsl m.1 m.2.2.length m.2.1
theorem aJk (M:Imm) (ob:Hs) (m:Hm):Rep M ob (hmV m) (hmA m):=.hsl _ _ _
def mE (sz:Nat) (e:TypeId) (ms:List Hm):BInv where
 inv M bs w:=(∀ (i:Nat) m,ms[i]? =some m->dD M w (hmV m) sz e m.2.2)/\(∀ (i j:Nat) m m' b,ms[i]? =some m->ms[j]? =some m'->(hmV m).ownBlock=some b->(hmV m').ownBlock=some b->i=j)/\
  ∀ b,b∈bs↔ ∃ (i:Nat) (m:Hm),ms[i]? =some m/\(hmV m).ownBlock=some b
 mono:=fun hM hn hb ⟨h1,h2,h3⟩=>⟨fun i m hm=>(h1 i m hm).mono hM (fun b e ho o=>hn b ((h3 b).2 ⟨i,m,hm,e⟩) o (ho o)) (fun b c e=>hb b c ((h3 b).2 ⟨i,m,hm,e⟩)),h2,h3⟩
section
variable {M:Imm} {ob:Hs} {obs:List AObj} {w:World}
theorem dD.blockAt {v:Value} {sz:Nat} {e:TypeId} {xs:List AVal} (h:dD M w v sz e xs) {b:Nat} (a:v.ownBlock=some b):∃ o,w.heap[b]? =some o/\CW o=false:=by
 obtain ⟨cv,⟨_,c⟩,_⟩:=h
 rcases c with ⟨rfl,_⟩ | ⟨g,cap,d,i,_,f,_⟩
 .cases a
 .rw [i] at a;cases a;exact ⟨_,f,rfl⟩
theorem dD.nil (sz:Nat) (e:TypeId):dD M w (.slice none 0 0) sz e []:=
 ⟨[],Hg w 0 e sz,fun u h=>by simp at h,fun u h=>by simp at h,fun q c h=>by simp [aK] at h,fun b h=>(by cases h),CF w⟩
theorem dD.append {P:Program} (hm:Mem M ob obs w) {t H ty e:TypeId} {i:TypeInfo} {z:Value} (N:P.underlying t=some (.slice e)) (U:P.info? e=some i) (hz:i.zero=some z) (hz1:z.cells.toList.all (·.oneCell')=true)
  (F:z.cells.size=i.size) (h:0<i.size) {xs ys:List AVal} {v x:Value} (r:dD M w v i.size e xs) (hs:SrcA P M w i.size H x ys)
  (D:xs.length+ys.length<=maxLen) (g:(xs.length+ys.length)*i.bytes<=140737488355328):
  ∃ m w',(Cq #[t,H] ty #[v,x]).run P w= .ok m w'/\dD M w' m i.size e (xs++ys)/\w'.os=w.os/\w'.tape=w.tape/\w'.output=w.output/\w.heap.size<=w'.heap.size/\
   (∀ b,m.ownBlock=some b->v.ownBlock=some b\/w.heap.size<=b)/\∀ b,b<w.heap.size->v.ownBlock≠some b->w'.heap[b]? =w.heap[b]?:=by
 obtain ⟨cv,C,J,O,V,Q,R⟩:=r
 obtain ⟨⟨news,K,L⟩,S⟩:=hs
 obtain ⟨m,w',T,I,G,l,A,j,a,k⟩:=iF (P:=P) w t H ty e i z N U hz hz1 F v xs.length cv C J x ys.length news K D g
 have d:∀ b,m.ownBlock=some b->v.ownBlock=some b\/w.heap.size<=b:=fun b n=>by
  rcases a with ⟨q,_⟩ | ⟨q,_⟩
  .exact .inl (q▸n)
  .rw [q] at n;cases n;omega
 refine ⟨m,w',T,⟨cv++news,by simp;omega,fun u p=>?_,fun y s=>?_,fun q c B=>?_,fun b n o=>?_,k R⟩,G,l,A,j,d,fun b f W=>?_⟩
 .rcases Az.1 p with p | p
  .exact J u p
  .exact K.one u p
 .rcases Az.1 s with s | s
  .exact O y s
  .exact S y s
 .by_cases f:q<xs.length*i.size
  .rw [cG h f] at B
   rw [Af (by rw [C.1];exact f)]
   exact V q c B
  .rw [cB h o_] at B
   rw [Ak (by rw [C.1];omega),C.1]
   exact L _ c B
 .rcases d b n with q | q
  .exact Q b q o
  .exact hm.noImm q o
 .rcases a with ⟨_,q⟩ | ⟨_,q⟩
  .exact q b W
  .exact q b f
theorem dD.hm {v:Value} {sz:Nat} {e:TypeId} {xs:List AVal} (h:dD M w v sz e xs):∃ a c,v=hmV (a,c,xs):=by
 obtain ⟨cv,d,_⟩:=h
 rcases cZ d with ⟨q,f⟩ | ⟨b,cap,q,_⟩
 .exact ⟨none,0,by rw [q,hmV];grind⟩
 .exact ⟨_,cap,q⟩
theorem Mem.famAppend {P:Program} (h:Mem M ob obs w) {t tx ty e:TypeId} {i:TypeInfo} {z:Value} (ht:P.underlying t=some (.slice e)) (hi:P.info? e=some i) (hz:i.zero=some z) (hz1:z.cells.toList.all (·.oneCell')=true)
  (hzs:z.cells.size=i.size) (R:0<i.size) {k g j:Nat} {s:List Hm} {m:Hm} {ys:List AVal} (hx:obs[k]? =some (.bun g (mE i.size e s))) (G:s[j]? =some m) {x:Value} (hs:SrcA P M w i.size tx x ys)
  (h63:m.2.2.length+ys.length<=maxLen) (F:(m.2.2.length+ys.length)*i.bytes<=140737488355328):
  ∃ a c w' ob',(Cq #[t,tx] ty #[hmV m,x]).run P w= .ok (hmV (a,c,m.2.2++ys)) w'/\Mem M ob' (obs.set k (.bun (g+1) (mE i.size e (s.set j (a,c,m.2.2++ys))))) w'/\
   Ext M ob obs w M ob' (obs.set k (.bun (g+1) (mE i.size e (s.set j (a,c,m.2.2++ys))))) w':=by
 obtain ⟨V,hh,hl,bs,hv,hd,h1,W,h3⟩:=h.obj k _ hx
 have A:blk V=bs:=(eB hl hv).trans (fA _)
 obtain ⟨v',w',hr,H,hos,N,T,J,n,l⟩:=dD.append (P:=P) (ty:=ty) h ht hi hz hz1 hzs R (h1 j m G) hs h63 F
 obtain ⟨a,c,rfl⟩:=H.hm
 have hjl:j<s.length:=(Ad.1 G).1
 have get:∀ {q:Nat} {f:Hm},(s.set j (a,c,m.2.2++ys))[q]? =some f->(q=j/\f=(a,c,m.2.2++ys))\/(q≠j/\s[q]? =some f):=fun {q f} d=>by
  by_cases L:q=j
  .subst L;rw [Ap hjl] at d;cases d;simp
  .rw [Aw (Eg L)] at d;exact .inr ⟨L,d⟩
 have r:∀ {q:Nat} {f:Hm} {b:Nat},s[q]? =some f->(hmV f).ownBlock=some b->b∈bs/\b<w.heap.size:=fun {q f b} d A=>by
  have:=(h3 b).2 ⟨q,f,d,A⟩
  obtain ⟨o,ho,_⟩:=hd b this
  exact ⟨this,eU ho⟩
 have C:∀ (q:Nat) f,(s.set j (a,c,m.2.2++ys))[q]? =some f->dD M w' (hmV f) i.size e f.2.2:=fun q f d=>by
  rcases get d with ⟨_,rfl⟩ | ⟨hne,d⟩
  .exact H
  .refine (h1 q f d).mono (fun _ _ _ h=>h) (fun _ _ h=>h) fun b c' A hc=>?_
   rw [l b (r d A).2 fun e=>hne (W q j f m b d G A e)]
   exact hc
 let D:=(s.set j (a,c,m.2.2++ys)).filterMap fun m=>(hmV m).ownBlock
 have v:∀ b,b∈D↔ ∃ (i:Nat) (f:Hm),(s.set j (a,c,m.2.2++ys))[i]? =some f/\(hmV f).ownBlock=some b:=fun b=>by
  simp only [D,List.mem_filterMap]
  constructor
  .rintro ⟨f,S,Q⟩
   obtain ⟨q,d⟩:=Cs S
   exact ⟨q,f,d,Q⟩
  .rintro ⟨q,f,S,Q⟩
   exact ⟨f,Aq S,Q⟩
 have hno:∀ {b o y},M b o y->(hmV m).ownBlock≠some b:=fun {b o y} Y e=>by
  obtain ⟨_,_,_,_,_,o5,_⟩:=h1 j m G
  exact o5 b e o y Y
 have I:=h.turn (M':=M) (w':=w') (x':=.bun (g+1) (mE i.size e (s.set j (a,c,m.2.2++ys)))) (hs':=V++[eZ D]) hx hh ⟨_,rfl⟩ (fun e=>by cases e) (fun _ _ _ h=>h) (fun _ _ _ h=>.inl h) (fun b o y Y=>by
   obtain ⟨u,hu,S,Q⟩:=h.imm b o y Y
   have K:b<w.heap.size:=by simpa using Cr w _ hu
   exact ⟨u,(Cx (w:=w) (a:=⟨b,o,none⟩) (l b K (hno Y))).trans hu,S,Q⟩)
  (fun b K hn=>l b K fun e=>hn ⟨rfl,by rw [A];exact (r G e).1⟩) hos N T J
  (fun _=>⟨by simp [hl],D,by rw [<-hl];simp,fun b A=>by
   obtain ⟨q,f,d,A⟩:=(v b).1 A
   exact (C q f d).blockAt A,C,fun q q' m1 m2 b d B Z X=>by
   rcases get d with ⟨r1,rfl⟩ | ⟨r1,d⟩<;>rcases get B with ⟨r2,rfl⟩ | ⟨r2,B⟩
   .rw [r1,r2]
   .rcases n b Z with p | p
    .exact absurd (W j q' m m2 b G B p X) (fun e=>r2 e.symm)
    .have:=(r B X).2;omega
   .rcases n b X with p | p
    .exact absurd (W q j m1 m b d G Z p) r1
    .have:=(r d Z).2;omega
   .exact W q q' m1 m2 b d B Z X,v⟩)
  (fun _ b U=>by
   rw [oE,fA] at U
   obtain ⟨q,f,d,O⟩:=(v b).1 U
   refine ⟨?_,by obtain ⟨o,ho,_⟩:=(C q f d).blockAt O;exact eU ho⟩
   rw [A]
   rcases get d with ⟨_,rfl⟩ | ⟨_,d⟩
   .rcases n b O with p | p
    .exact .inl ⟨rfl,(r G p).1⟩
    omega
   .exact .inl ⟨rfl,(r d O).1⟩)
 exact ⟨a,c,w',_,hr,I.1,I.2.1⟩
end
section
variable {E:Env} {fn:Func} {g:Goal}
inductive HandA (E:Env) (fn:Func) (g:Goal) (all:List Oper) (tab:List Nat) (ks:List KI) (n:Nat) (d:Option Nat) (s x:Operand) (t t2:TypeId) (l2:List Oper) (fr:List (Nat×AVal)) (obs:List AObj):Prop
 | mk (k gg j:Nat) (ms:List Hm) (m:Hm) (ys:List AVal) (e esz eb sz:Nat) (ag:Bool) (z:AVal) (hk:aE obs k= .bun gg (mE esz e ms)) (hj:ms[j]? =some m) (hs:ev fr s=hmA m) (hT:cR E.T t=some {kind:=.slc e esz eb,size:=sz,agg:=ag,zero:=z})
   (hp:Fq 1 esz=true) (hx:aAg E (aE obs) esz t2 (ev fr x)=some ys) (hf:zU (m.2.2.length+ys.length) eb)
   (h:∀ a c,To E fn g (.mid ⟨all,false,tab,ks⟩ (n+1) l2 [] (mX fr d (hmA (a,c,m.2.2++ys))) (bJ obs k (.bun (gg+1) (mE esz e (ms.set j (a,c,m.2.2++ys)))))))
theorem UQ {M:Imm} {ob:Hs} {v:Value} {m:Hm} (h:Rep M ob v (hmA m)):v=hmV m:=by cases h;rfl
theorem D4 {rd:Option Nat} {ops:Array Oper} {M0:Imm} {ob0:Hs} {obs0:List AObj} {w0:World} {sz:Nat} {dfs:List (Nat×List AVal)} {Q:Exit->Act->World->Prop} {K:List (Nat×AVal)->List AObj->Prop} {Kp:(Nat->AVal)->AVal->List AObj->Prop} {rest:List Oper}
  (hE:EnvOK E) (hp:∀ g v obs c a w,Kp g v obs->PP M0 ob0 obs0 w0 sz dfs g v obs c a w->Q (.panic c) a w) (j:∀ fr obs a w,K fr obs->SS M0 ob0 obs0 w0 sz dfs fr obs a w->wpListIn (fen rd) 0 E.P ops Q rest a w):
  ∀ (l:List Oper) (n:Nat) (fr:List (Nat×AVal)) (obs:List AObj) (a:Act) (w:World),(∀ p∈l,∀ d,p.dst=some d->d<sz)->eM E ops.toList K Kp n l fr obs->SS M0 ob0 obs0 w0 sz dfs fr obs a w->wpListIn (fen rd) 0 E.P ops Q (l++rest) a w
 | [],n,fr,obs,a,w,_,h,hs=>j fr obs a w h hs
 | p::l,n,fr,obs,a,w,hd,h,hs=>by
  refine wk (K5 (K:=fun fr obs=>eM E ops.toList K Kp (n+1) l fr obs) (Kp:=Kp) (hint:=eT E p.dst) hE hs (hd p s_) ?_ fun v obs c w f i=>hp (aW fr) v obs c a w f i) fun m w' ⟨e,obs',f,hs'⟩=>D4 hE hp j l (n+1) e obs' m w' (fun p hp=>hd p (by simp [hp])) f hs'
  simp only [eM] at h
  cases k:cC ops.toList (ev fr) p.guard with
  | none=>rw [k] at h;exact h.elim
  | some b=>
   rw [k] at h
   cases b with
   | false=>exact h
   | true=>
    exact jT (fun v o h=>uG h) h
theorem H4 {P:Program} {s x:Operand} {t b:TypeId} {p:Oper} (hp:p.op= .call {callee:=.builtin .append,args:= #[s,x],argTypes:= #[t,b]}) {ρ:Operand->Value} {w w':World} {v:Value}
  (h:(Cq #[t,b] p.type #[ρ s,ρ x]).run P w= .ok v w'):(execOp ρ p).run P w= .ok (.value v) w':=by
 obtain ⟨d,op,ty,pos,a,c⟩:=p
 dsimp only at hp
 subst hp
 simp [execOp,resolve,invoke,builtin,h]
theorem To.handA (hE:EnvOK E) {id:Nat} {ops:Array Oper} {tab:List Nat} {ks:List KI} {fr:List (Nat×AVal)} {obs:List AObj} {l1 l2:List Oper} {p:Oper} {s x:Operand} {t U:TypeId} (b:ops.toList=l1++p::l2)
  (hp:p.op= .call {callee:=.builtin .append,args:= #[s,x],argTypes:= #[t,U]}) (hg:p.guard=none)
  (h:eM E ops.toList (HandA E fn g ops.toList tab ks l1.length p.dst s x t U l2) (mF E fn g) 0 l1 fr obs):To E fn g (.code (.code (.region id ops false)::ks) fr obs):=
 .mk fun ho M0 ob0 obs0 w0 a w hst hs=>by
  simp only [bF,KI.ok,dB,Ag] at ho
  obtain ⟨⟨W,ho2⟩,L⟩:=ho
  have T:=sE W
  refine KW.code (Q':=QR E fn g M0 ob0 obs0 w0 ks) ?_ (fun a w h=>h) (fun l a w h=>h) (fun e a w hh=>by
   cases e<;>first | exact .inl rfl | exact .inr ⟨_,rfl⟩ | exact hh.elim)
  have f:∀ o v obs l a w,mF E fn g o v obs->PP M0 ob0 obs0 w0 fn.ntmps E.df o v obs l a w->rJ E fn M0 ob0 obs0 w0 g (.panic l) a w:=fun o v obs l a w he f=>I6 he hst f
  have hq:∀ fr obs a w,dF E fn g ks fr obs->SS M0 ob0 obs0 w0 fn.ntmps E.df fr obs a w->KW E.rd E.P (rJ E fn M0 ob0 obs0 w0 g) ks a w:=fun fr obs a w O hs=>O L M0 ob0 obs0 w0 a w hst hs
  refine wpIn_region_list ?_
  have A:∀ fr obs a w,HandA E fn g ops.toList tab ks l1.length p.dst s x t U l2 fr obs->SS M0 ob0 obs0 w0 fn.ntmps E.df fr obs a w->wpListIn (fen E.rd) 0 E.P ops (QR E fn g M0 ob0 obs0 w0 ks) (p::l2) a w:=by
   rintro fr obs a w ⟨k,gg,j,ms,m,ys,e,esz,eb,sz,ag,z0,O,hj,X,hT,d,Y,hf,n⟩ hs
   obtain ⟨M,ob,hx,hm,y,I,S,h0⟩:=hs
   obtain ⟨⟨hu,i,z,hi,hsi,R,hz,V,hz1⟩,_⟩:=(hE.tab t _ hT).kind
   subst hsi R
   have d:=Ci d
   have D:=DL (a:=a) y
   have u:=O6 hE hm (D x) Y d
   have C:=bG O s_
   have N:a.eval s=hmV m:=by
    have:=D s
    rw [X] at this
    exact UQ this
   obtain ⟨H,B,w',ob',r,m1,F⟩:=hm.famAppend (P:=E.P) (ty:=p.type) hu hi hz hz1 V d C hj u hf.1 hf.2
   have J:pG E.P p a.eval w (fun e Z=>e= .returned (hmV (H,B,m.2.2++ys))/\Z=w'):=.inl ⟨_,_,H4 hp (by rw [N];exact r),rfl,rfl⟩
   refine wk (next:=fun a w=>SS M0 ob0 obs0 w0 fn.ntmps E.df (mX fr p.dst (hmA (H,B,m.2.2++ys))) (bJ obs k (.bun (gg+1) (mE i.size e (ms.set j (H,B,m.2.2++ys))))) a w) ?_ fun a w hs=>?_
   .unfold G
    rw [if_pos (by simp [Fg,hg])]
    refine J.wpIn (by intro c;rw [hp];simp) (fun v Z ⟨e1,e2⟩=>?_) (fun l Z ⟨e1,_⟩=>by cases e1)
    cases e1
    subst e2
    rw [aR C]
    have:=F.lens
    have:=m1.len
    refine ⟨M,ob',hx.trans F,m1,?_,(eW _ _ _).1.trans I,(S.ext hm F).put,by simp;omega⟩
    rw [fG]
    exact nD (fun t=>(y t).mono F.imm F.hs) (aJk M ob' (H,B,m.2.2++ys)) fun d' e=>I▸T p (by rw [b];simp) d' e
   .obtain ⟨n⟩:=n H B
    exact rD (rd:=E.rd) (Q:=QR E fn g M0 ob0 obs0 w0 ks) (K:=dF E fn g ks) (Kp:=mF E fn g) hE (fun o v obs l a w h1 q=>f o v obs l a w h1 q) (fun fr obs a w h1 q=>hq fr obs a w h1 q) l2 (l1.length+1) _ _ a w (fun p hp=>T p (by rw [b];simp [hp])) n hs
  rw [b]
  exact D4 (rd:=E.rd) (Q:=QR E fn g M0 ob0 obs0 w0 ks) (Kp:=mF E fn g) hE (fun o v obs l a w h1 q=>f o v obs l a w h1 q) A l1 0 fr obs a w (fun p hp=>T p (by rw [b];simp [hp])) h hs
theorem To.objTo {st:List KI} {fr:List (Nat×AVal)} {obs:List AObj} (k:Nat) {x x':AObj} (v:aE obs k=x) (z:x≠ .dead) (l:x.owns=true) (u:∀ M ob w hs,(∀ b,b∈blk hs->b<w.heap.size)->gK M ob w hs x->gK M ob w hs x')
  (h:To E fn g (.code st fr (bJ obs k x'))):To E fn g (.code st fr obs):=
 .mk fun s M0 ob0 obs0 w0 a w hst hs=>by
  obtain ⟨M,ob,d,hm,o,A,y,B⟩:=hs
  have e:=bG v z
  refine h.rec fun h=>h s M0 ob0 obs0 w0 a w hst ?_
  rw [aR e]
  have p:=(Ad.1 e).1
  have m:∀ {i b},aM ob (obs.set k x') i b->aM ob obs i b:=fun {i b} ⟨c,hs,e1,e2,e3,e4⟩=>by
   by_cases f:i=k
   .subst f;exact ⟨x,hs,e,l,e3,e4⟩
   .rw [Aw (Eg f)] at e1;exact ⟨c,hs,e1,e2,e3,e4⟩
  refine ⟨M,ob,⟨d.imm,d.new,d.hs,d.os,d.tape,d.output,d.size,d.keep,fun i b r=>d.fresh i b (m r)⟩,⟨hm.imm,by simpa using hm.len,fun i c n=>?_,fun i b r=>hm.lt i b (m r),fun i j b h1 q=>hm.inj i j b (m h1) (m q)⟩,o,A,y,by simp;omega⟩
  by_cases f:i=k
  .subst f
   rw [Ap p] at n
   cases n
   obtain ⟨hs,h1,q⟩:=hm.obj i x e
   exact ⟨hs,h1,u _ _ _ _ (fun b t=>hm.lt i b ⟨x,hs,e,l,h1,t⟩) q⟩
  .rw [Aw (Eg f)] at n
   exact hm.obj i c n
theorem To.beginF {st:List KI} {fr:List (Nat×AVal)} {obs:List AObj} (sz:Nat) (e:TypeId) (h:To E fn g (.code st fr (kG obs (.bun 0 (mE sz e []))))):To E fn g (.code st fr obs):=
 .mk fun r M0 ob0 obs0 w0 a w hst hs=>by
  obtain ⟨M,ob,p,hm,o,y,x,A⟩:=hs
  refine h.rec fun h=>h r M0 ob0 obs0 w0 a w hst ?_
  rw [nN]
  have n:blk [eZ []]=[]:=fA _
  obtain ⟨u,v⟩:=hm.snoc (c:=.bun 0 (mE sz e [])) (hs:=[eZ []]) (fun ob _=>⟨rfl,[],rfl,fun b n=>by simp at n,fun i m h=>by simp at h,fun i j m B b h=>by simp at h,fun b=>⟨fun h=>by simp at h,fun ⟨i,m,h,_⟩=>by simp at h⟩⟩) (fun b h=>by simp_all) (fun k b _=>by simp_all)
  have f:dE ob (ob++[[eZ []]]):=fun j l s=>⟨l,by rw [Af (Ad.1 s).1];exact s,Cl _⟩
  have d:Ext M ob obs w M (ob++[[eZ []]]) (obs++[.bun 0 (mE sz e [])]) w:=⟨fun _ _ _ h=>h,fun _ _ _ h=>.inl h,f,rfl,rfl,rfl,Ba _,fun _ _ _=>rfl,fun k b z=>by
   rcases v k b z with ⟨_,q⟩ | ⟨_,q⟩
   .exact .inl ⟨k,q⟩
   .rw [n] at q;simp at q⟩
  exact ⟨M,_,p.trans d,u,fun t=>(o t).mono (fun _ _ _ h=>h) f,y,x.ext hm d,by simp;omega⟩
theorem aF5 {M:Imm} {ob:Hs} {w:World} {hs:List Value} {gg sz:Nat} {e:TypeId} {c:List Hm} (h:gK M ob w hs (.bun gg (mE sz e c))):gK M ob w hs (.bun gg (mE sz e (c++[(none,0,[])]))):=by
 obtain ⟨h1,bs,g,h3,o,p,k⟩:=h
 have get:∀ {i:Nat} {m:Hm},(c++[((none,0,[]):Hm)])[i]? =some m->c[i]? =some m\/(i=c.length/\m=(none,0,[])):=fun {i m} a=>by
  by_cases hl:i<c.length
  .rw [Af hl] at a;exact .inl a
  .have g:i=c.length:=by have:=(Ad.1 a).1;simp at this;omega
   subst g
   rw [Ak s_] at a
   simp at a
   exact .inr ⟨rfl,a.symm⟩
 refine ⟨h1,bs,g,h3,fun i m a=>?_,fun i j m q b a f d l=>?_,fun b=>⟨fun n=>?_,fun ⟨i,m,a,d⟩=>?_⟩⟩
 .rcases get a with a | ⟨_,rfl⟩
  .exact o i m a
  .exact dD.nil sz e
 .rcases get a with a | ⟨_,rfl⟩
  .rcases get f with f | ⟨_,rfl⟩
   .exact p i j m q b a f d l
   .cases l
  .cases d
 .obtain ⟨i,m,a,d⟩:=(k b).1 n
  exact ⟨i,m,by rw [Af (Ad.1 a).1];exact a,d⟩
 .rcases get a with a | ⟨_,rfl⟩
  .exact (k b).2 ⟨i,m,a,d⟩
  .cases d
theorem aEL {M:Imm} {ob:Hs} {w:World} {hs:List Value} {gg:Nat} {e:TypeId} {d:List Hm} (h:gK M ob w hs (.row gg 1 e (d.map hmA++[.nilslice]))):gK M ob w hs (.row gg 1 e ((d++[(none,0,[])]).map hmA)):=by
 obtain ⟨h1,v,j,cv,s,n,t,g,r,k⟩:=h
 refine ⟨h1,v,j,cv,by simpa using s,n,fun x b=>?_,fun q c p=>?_,r,k⟩
 .simp only [Ce] at b
  obtain ⟨m,_,rfl⟩:=b
  rfl
 .have one:∀ {l:List AVal} {q:Nat} {c:AVal},(∀ x∈l,x.cells=[x])->(aK 1 l q=some c↔l[q]? =some c):=fun {l q c} hl=>by
   unfold aK
   rw [Ho,Ki]
   cases f:l[q]? with
   | none=>simp
   | some x=>simp [hl x (Aq f)]
  have a:=(one (fun x b=>by simp only [Ce] at b;obtain ⟨m,_,rfl⟩:=b;rfl)).1 p
  rw [Cc] at a
  by_cases hl:q<d.length
  .rw [Af q_] at a
   exact g q c ((one (fun x b=>by
    simp only [Az,Ce,Du] at b
    rcases b with ⟨m,_,rfl⟩ | rfl<;>rfl)).2 (by rw [Af q_];exact a))
  .have f:q=d.length:=by have:=(Ad.1 a).1;simp at this;omega
   subst f
   rw [Ak s_] at a
   simp at a
   obtain ⟨u,i,o⟩:=g d.length .nilslice ((one (fun x b=>by
    simp only [Az,Ce,Du] at b
    rcases b with ⟨m,_,rfl⟩ | rfl<;>rfl)).2 s_)
   refine ⟨u,i,?_⟩
   subst a
   cases o
   exact .hsl _ _ _
end
section
variable {M:Imm} {ob:Hs} {obs:List AObj} {w:World}
theorem Mem.famFreeze (h:Mem M ob obs w) {k gg sz:Nat} {e:TypeId} {q:List Hm} (B:obs[k]? =some (.bun gg (mE sz e q))):
  ∃ M' ob',Mem M' ob' (obs.set k (.bun (gg+1) (mE sz e []))) w/\Ext M ob obs w M' ob' (obs.set k (.bun (gg+1) (mE sz e []))) w/\∀ (i:Nat) m,q[i]? =some m->Rep M' [] (hmV m) (.slice sz m.2.2 .no):=by
 obtain ⟨g,I,hl,bs,H,J,h1,K,h3⟩:=h.obj k _ B
 have l:blk g=bs:=(eB hl H).trans (fA _)
 let M':Imm:=fun b o y=>M b o y\/∃ (i:Nat) (m:Hm),q[i]? =some m/\(hmV m).ownBlock=some b/\aK sz m.2.2 o=some y
 have p:∀ b o y,M b o y->M' b o y:=fun _ _ _ h=>.inl h
 have c:=h.turn (M':=M') (w':=w) (x':=.bun (gg+1) (mE sz e [])) (hs':=g++[eZ []]) B I ⟨_,rfl⟩ (fun e=>by cases e) p (fun b o y a=>by
   rcases a with a | ⟨i,m,n,d,_⟩
   .exact .inl a
   .exact .inr (.inl ⟨rfl,by rw [l];exact (h3 b).2 ⟨i,m,n,d⟩⟩)) (fun b o y a=>by
   rcases a with a | ⟨i,m,n,d,r⟩
   .obtain ⟨u,D,F,C⟩:=h.imm b o y a
    exact ⟨u,D,F,C.monoM p⟩
   .obtain ⟨cv,s,z,v,A,_⟩:=h1 i m n
    obtain ⟨u,x,G⟩:=A o y r
    exact ⟨u,fC s d x,z u (Aq x),G.monoM p⟩) (fun _ _ _=>rfl) rfl rfl rfl (Ba _)
  (fun _=>⟨by simp [hl],[],by rw [<-hl];simp,fun b l=>by simp at l,fun i m h=>by simp at h,fun i j m L b h=>by simp at h,fun b=>⟨fun h=>by simp at h,fun ⟨i,m,h,_⟩=>by simp at h⟩⟩)
  (fun _ b f=>by
   rw [oE,fA] at f
   simp at f)
 refine ⟨M',_,c.1,c.2.1,fun i m hm=>?_⟩
 obtain ⟨cv,s,z,v,A,_⟩:=h1 i m hm
 exact (jS (M:=M) (ob:=[]) s v (t:=.no) trivial).monoM fun b o y a=>by
  rcases a with a | ⟨d,r⟩
  .exact .inl a
  .exact .inr ⟨i,m,hm,d,r⟩
theorem Mem.objTo (hm:Mem M ob obs w) {k:Nat} {x x':AObj} (a:obs[k]? =some x) (m:x.owns=true) (o:∀ hs,ob[k]? =some hs->gK M ob w hs x->gK M ob w hs x'):Mem M ob (obs.set k x') w/\Ext M ob obs w M ob (obs.set k x') w:=by
 have g:=(Ad.1 a).1
 have e:∀ {i b},aM ob (obs.set k x') i b->aM ob obs i b:=fun {i b} ⟨c,hs,e1,e2,e3,e4⟩=>by
  by_cases d:i=k
  .subst d;exact ⟨x,hs,a,m,e3,e4⟩
  .rw [Aw (Eg d)] at e1;exact ⟨c,hs,e1,e2,e3,e4⟩
 refine ⟨⟨hm.imm,by simpa using hm.len,fun i c f=>?_,fun i b n=>hm.lt i b (e n),fun i j b h1 l=>hm.inj i j b (e h1) (e l)⟩,⟨fun _ _ _ h=>h,fun _ _ _ h=>.inl h,dE.refl _,rfl,rfl,rfl,Ba _,fun _ _ _=>rfl,fun i b n=>.inl ⟨i,e n⟩⟩⟩
 by_cases d:i=k
 .subst d
  rw [Ap g] at f
  cases f
  obtain ⟨hs,h1,l⟩:=hm.obj i x a
  exact ⟨hs,h1,o _ h1 l⟩
 .rw [Aw (Eg d)] at f
  exact hm.obj i c f
end
theorem D5 {l:List AVal} {q:Nat} {c:AVal} (hl:∀ x∈l,x.cells=[x]):aK 1 l q=some c↔l[q]? =some c:=by
 unfold aK
 rw [Ho,Ki]
 cases a:l[q]? with
 | none=>simp
 | some x=>simp [hl x (Aq a)]
theorem To.famFrz {E:Env} {fn:Func} {g:Goal} {st:List KI} {fr:List (Nat×AVal)} {obs:List AObj} (k o:Nat) {gg r sz:Nat} {e p:TypeId} {l:List Hm} (O:aE obs k= .bun gg (mE sz e l)) (s:aE obs o= .row r 1 p (l.map hmA))
  (h:To E fn g (.code st fr (bJ (bJ obs k (.bun (gg+1) (mE sz e []))) o (.row r 1 p (l.map fun m=>.slice sz m.2.2 .no))))):To E fn g (.code st fr obs):=
 .mk fun B M0 ob0 obs0 w0 a w hst hs=>by
  obtain ⟨M,ob,z,hm,y,U,P,V⟩:=hs
  have d:=bG O s_
  have n:=bG s s_
  have A:k≠o:=fun e=>by simp_all
  refine h.rec fun h=>h B M0 ob0 obs0 w0 a w hst ?_
  rw [aR d]
  have i:(obs.set k (.bun (gg+1) (mE sz e [])))[o]? =some (.row r 1 p (l.map hmA)):=by rw [Aw A];exact n
  rw [aR i]
  obtain ⟨M',ob',G,H,T⟩:=hm.famFreeze d
  obtain ⟨C,F⟩:=G.objTo (x':=.row r 1 p (l.map fun m=>.slice sz m.2.2 .no)) i rfl fun hs _ ⟨h1,v,I,cv,Q,D,W,L,K,N⟩=>by
   refine ⟨h1,v,I,cv,by simpa using Q,D,fun x b=>?_,fun q c S=>?_,K,N⟩
   .simp only [Ce] at b
    obtain ⟨m,_,rfl⟩:=b
    rfl
   .have f:=(D5 (fun x b=>by simp only [Ce] at b;obtain ⟨m,_,rfl⟩:=b;rfl)).1 S
    rw [Bj] at f
    obtain ⟨m,j,rfl⟩:=Cp.1 f
    obtain ⟨u,J,R⟩:=L q (hmA m) ((D5 (fun x b=>by simp only [Ce] at b;obtain ⟨m,_,rfl⟩:=b;rfl)).2 (by rw [Bj,j];rfl))
    exact ⟨u,J,by rw [UQ R];exact T q m j⟩
  have X:=H.trans F
  have:=X.lens
  have:=C.len
  exact ⟨M',ob',z.trans X,C,fun t=>(y t).mono X.imm X.hs,U,P.ext hm X,by simp;omega⟩
theorem To.handAt {E:Env} {fn:Func} {g:Goal} (hE:EnvOK E) (n:Nat) {id:Nat} {ops:Array Oper} (tab:List Nat) {ks:List KI} {fr:List (Nat×AVal)} {obs:List AObj} {p:Oper} {s x:Operand} {t b:TypeId} (c:ops.toList[n]? =some p)
  (hp:p.op= .call {callee:=.builtin .append,args:= #[s,x],argTypes:= #[t,b]}) (d:p.guard=none)
  (h:eM E ops.toList (HandA E fn g ops.toList tab ks n p.dst s x t b (ops.toList.drop (n+1))) (mF E fn g) 0 (ops.toList.take n) fr obs):To E fn g (.code (.code (.region id ops false)::ks) fr obs):=by
 have a:=(Ad.1 c).1
 refine To.handA hE (tab:=tab) (l1:=ops.toList.take n) (l2:=ops.toList.drop (n+1)) (p:=p) ?_ hp d ?_
 .conv=>lhs;rw [<-Bk n ops.toList,Ac a]
  grind
 .rw [Fz,Hq (Nat.le_of_lt a)]
  exact h
def BZ (r:Nat):Code->Option Code
 | .region id ops dr=>bif Ar id r then some (.region id ops dr) else none
 | .seq a b=>(match BZ r a with | some x=>some x | none=>BZ r b)
 | .cond _ a b=>(match BZ r a with | some x=>some x | none=>BZ r b)
 | .block _ b=>BZ r b
 | .loop b=>BZ r b
 | _=>none
def gQ (fn:Func) (r:Nat):List KI:=.code (match BZ r (dC fn) with | some c=>c | none=>.skip)::gY fn r
theorem To.ofC {E:Env} {fn:Func} {g:Goal} {ks:List KI} {fr:List (Nat×AVal)} {obs:List AObj} (h:To E fn g (.code ks fr obs)):To E fn g (.head ks fr obs):=h.rec fun h=>.mk h
theorem To.toC {E:Env} {fn:Func} {g:Goal} {ks:List KI} {fr:List (Nat×AVal)} {obs:List AObj} (h:To E fn g (.head ks fr obs)):To E fn g (.code ks fr obs):=h.rec fun h=>.mk h
section
variable {E:Env} {all:List Oper} {tab:List Nat} {L0:Nat}
end
section
variable {E:Env} {ops:Array Oper} {tab:List Nat} {tl L0:Nat} {Kp:(Nat->AVal)->AVal->List AObj->Prop} {Q:AS->Prop}
end
section
variable {E:Env} {ops:Array Oper} {tab:List Nat} {tl L0:Nat} {Kp:(Nat->AVal)->AVal->List AObj->Prop} {Kq:List (Nat×AVal)->List AObj->Prop} {Q:AS->Prop}
end
section
variable {rd:Option Nat} {M0:Imm} {ob0:Hs} {obs0:List AObj} {w0:World} {sz:Nat} {dfs:List (Nat×List AVal)} {E:Env} {ops:Array Oper} {Q:Exit->Act->World->Prop} {K:AS->Prop} {Kp:(Nat->AVal)->AVal->List AObj->Prop} {tl L0:Nat} {tab:List Nat}
end
section
variable {E:Env} {ops:Array Oper} {tab:List Nat} {tl L0:Nat} {Kp:(Nat->AVal)->AVal->List AObj->Prop} {Kg:List (Nat×AVal)->List AObj->Prop}
end
def X9 (A tab:List Nat) (n t:Nat):Nat->List Oper->Bool
 | _,[]=>false
 | i,p::r=>(match p.dst with | some d=>Ar d t&&(tL i A&& !cL (dG tab n) i) | none=>false)||X9 A tab n t (i+1) r
def evP (A tab:List Nat) (all:List Oper) (n:Nat) (fr:List (Nat×AVal)):Operand->AVal
 | .tmp t=>bif X9 A tab n t 0 all then .undef else aW fr t
 | x=>ev fr x
def JM (A:List Nat) (t:Nat):Nat->List Oper->Bool
 | _,[]=>false
 | i,p::r=>(match p.dst with | some d=>Ar d t&&tL i A | none=>false)||JM A t (i+1) r
def gP (A:List Nat) (all:List Oper) (fr:List (Nat×AVal)):Nat->AVal:=fun t=>bif JM A t 0 all then .undef else aW fr t
def vM (E:Env) (A tab:List Nat) (all:List Oper) (fr:List (Nat×AVal)) (obs:List AObj):List Nat->Prop
 | []=>True
 | i::r=>(match nth all i with
   | some p=>(match p.guard with
    | none=>(match p.dst with
     | some d=>eop E (eT E p.dst) (aP obs) (aE obs) (evP A tab all i fr) p.op p.type= .val (aW fr d)
     | none=>False)
    | some _=>False)
   | none=>False)/\vM E A tab all fr obs r
def vZ (tab:List Nat) (n:Nat):List Nat->List Nat
 | []=>[]
 | i::r=>bif cL (dG tab n) i then vZ tab n r else i::vZ tab n r
def TR (fr:List (Nat×AVal)) (d:Option Nat) (v:AVal) (k:List (Nat×AVal)->Prop):Prop:=
 match d with
 | none=>k fr
 | some d=>B2 fr d v k
theorem LY (fr:List (Nat×AVal)) (d:Option Nat) (v:AVal) (k:List (Nat×AVal)->Prop):TR fr d v k=k (mX fr d v):=by
 cases d with
 | none=>rfl
 | some d=>exact mL fr d v k
def R5 (E:Env) (A tab:List Nat) (all:List Oper) (K:List (Nat×AVal)->List AObj->Prop) (Kp:(Nat->AVal)->AVal->List AObj->Prop):List Nat->List Nat->List (Nat×AVal)->List AObj->Prop
 | [],U,fr,obs=>vM E A tab all fr obs U/\K fr obs
 | n::rest,U,fr,obs=>vM E A tab all fr obs U/\(match nth all n with
   | none=>False
   | some p=>(match p.guard with
    | some _=>False
    | none=>orF E.P obs (fun v obs'=>KD 5 v fun v=>ODL obs' fun obs'=>TR fr p.dst v fun fr=>R5 E A tab all K Kp rest (vZ tab n U) fr obs') (Kp (gP A all fr))
            (eop E (eT E p.dst) (aP obs) (aE obs) (evP A tab all n fr) p.op p.type)))
def yF (E:Env) (A tab:List Nat) (all:List Oper) (obs:List AObj):List Nat->List (Nat×AVal)->(List (Nat×AVal)->Prop)->Prop
 | [],fr,k=>k fr
 | i::r,fr,k=>match nth all i with
  | some p=>(match p.dst with
   | some d=>(match eop E (eT E p.dst) (aP obs) (aE obs) (evP A tab all i fr) p.op p.type with
    | .val v=>KD 5 v fun v=>B2 fr d v fun fr=>yF E A tab all obs r fr k
    | _=>False)
   | none=>False)
  | none=>False
def chB (tab:List Nat):List Nat->Bool
 | []=>true
 | n::r=>(r.all fun j=>cL (dG tab j) n)&&chB tab r
def aDj (A B:List Nat):Nat->Bool
 | 0=>true
 | n+1=>(tL n A||tL n B)&&aDj A B n
def aBP (sz:Nat):List Nat->Bool
 | []=>true
 | n::r=>(Fi n sz&& !tL n r)&&aBP sz r
def aHm (A B tab:List Nat) (sz:Nat):Bool:=((aBP sz (A++B)&&aDj A B sz)&&chB tab B)
def qV (tab:List Nat) (n:Nat):List Nat->Bool
 | []=>true
 | j::r=>!(cL (dG tab n) j)&&qV tab n r
def LK (n:Nat):List Nat->List Nat
 | []=>[]
 | j::r=>bif Ar j n then r else j::LK n r
def vY (tab a:List Nat) (f:Nat->Prop):List Nat->Prop
 | []=>True
 | n::r=>bif qV tab n a then f n/\vY tab a f r else vY tab a f r
def BD (E:Env) (A tab:List Nat) (all:List Oper) (K:List (Nat×AVal)->List AObj->Prop) (Kp:(Nat->AVal)->AVal->List AObj->Prop):List Nat->List Nat->List Nat->List (Nat×AVal)->List AObj->Prop
 | [],_,U,fr,obs=>vM E A tab all fr obs U/\K fr obs
 | _::F,Bs,U,fr,obs=>vM E A tab all fr obs U/\vY tab Bs (fun n=>match nth all n with
   | none=>False
   | some p=>(match p.guard with
    | some _=>False
    | none=>orF E.P obs (fun v obs'=>KD 5 v fun v=>ODL obs' fun obs'=>TR fr p.dst v fun fr=>BD E A tab all K Kp F (LK n Bs) (vZ tab n U) fr obs') (Kp (gP A all fr))
      (eop E (eT E p.dst) (aP obs) (aE obs) (evP A tab all n fr) p.op p.type))) Bs
def aHc (A B tab:List Nat) (sz:Nat):Bool:=aBP sz (A++B)&&aDj A B sz
theorem NL {tab:List Nat} {n:Nat}:∀ {l:List Nat},(∀ j∈l,cL (dG tab n) j=false)->qV tab n l=true
 | [],_=>rfl
 | j::r,h=>by
  unfold qV
  rw [h j (Ax ..),NL fun k a=>h k (Bd _ a)]
  rfl
theorem TN (n:Nat):∀ l:List Nat,LK n l=l.erase n
 | []=>rfl
 | j::r=>by
  unfold LK
  rw [List.erase_cons,TN n r]
  simp
theorem DW {tab b:List Nat} {f:Nat->Prop} {n:Nat} (d:qV tab n b=true):∀ {l:List Nat},vY tab b f l->n∈l->f n
 | [],_,h=>by cases h
 | j::r,h,a=>by
  unfold vY at h
  by_cases e:n=j
  .grind
  .have a:=(Au.1 a).resolve_left e
   cases c:qV tab j b with
   | true=>rw [c] at h;exact DW d h.2 a
   | false=>rw [c] at h;exact DW d h a
theorem DV {tab a:List Nat} {f:Nat->Prop}:∀ {l:List Nat},(∀ j∈l,qV tab j a=false)->vY tab a f l
 | [],_=>trivial
 | j::r,h=>by
  unfold vY
  rw [h j (Ax ..)]
  exact DV fun k b=>h k (Bd _ b)
theorem G9 {A B:List Nat}:∀ {n:Nat},aDj A B n=true->∀ i,i<n->i∈A\/i∈B
 | 0,_,i,hi=>by omega
 | n+1,h,i,hi=>by
  simp only [aDj,Ag,Hr,lM] at h
  by_cases e:i=n
  .grind
  .exact G9 h.2 i o_
theorem FX {sz:Nat}:∀ {l:List Nat},aBP sz l=true->l.Nodup/\∀ i∈l,i<sz
 | [],_=>⟨Gg,fun i h=>by cases h⟩
 | n::r,h=>by
  simp only [aBP,Ag,Eb,Jt] at h
  obtain ⟨h1,a⟩:=FX h.2
  refine ⟨Cg.2 ⟨fun hm=>?_,h1⟩,fun i b=>?_⟩
  .have:=lM.2 hm
   grind
  grind
theorem GE {A tab:List Nat} {n t:Nat}:∀ {l:List Oper} {k:Nat},X9 A tab n t k l=false->∀ (i:Nat) p,l[i]? =some p->p.dst=some t->(k+i)∈A->cL (dG tab n) (k+i)=true
 | [],_,_,i,p,hi,_,_=>by simp at hi
 | q::r,k,h,i,p,hi,hd,ha=>by
  simp only [X9,Ie] at h
  cases i with
  | zero=>
   simp at hi
   subst hi
   have h1:=h.1
   rw [hd] at h1
   dsimp only at h1
   rw [Ms,Bo,show tL k A=true from lM.2 ha,Bo] at h1
   grind
  | succ i=>
   have:=GE (k:=k+1) h.2 i p (by simp_all) hd (by grind)
   grind
theorem xT {A:List Nat} {t:Nat}:∀ {l:List Oper} {k:Nat},JM A t k l=false->∀ (i:Nat) p,l[i]? =some p->(k+i)∈A->p.dst≠some t
 | [],_,_,i,p,hi,_=>by simp at hi
 | q::r,k,h,i,p,hi,ha=>by
  simp only [JM,Ie] at h
  cases i with
  | zero=>
   simp at hi
   subst hi
   intro a
   have h1:=h.1
   rw [a] at h1
   dsimp only at h1
   rw [Ms,Bo] at h1
   have:=lM.2 (show k∈A from ha)
   grind
  | succ i=>exact xT (k:=k+1) h.2 i p (by simp_all) (by grind)
theorem VI {A:List Nat} {t:Nat}:∀ {l:List Oper} {k:Nat},JM A t k l=true->∃ (i:Nat) (p:Oper),l[i]? =some p/\(k+i)∈A/\p.dst=some t
 | [],_,h=>by cases h
 | q::r,k,h=>by
  simp only [JM,Hr] at h
  rcases h with h | h
  .split at h
   .rename_i d a
    rw [Ag,lM,Nat.beq_eq] at h
    exact ⟨0,q,rfl,h.2,by rw [a,h.1]⟩
   .cases h
  .obtain ⟨i,p,h1,b,h3⟩:=VI h
   exact ⟨i+1,p,by simp_all,by grind,h3⟩
theorem M3 {E:Env} {A tab:List Nat} {all:List Oper} {fr:List (Nat×AVal)} {obs:List AObj}:∀ {U:List Nat},vM E A tab all fr obs U->∀ i∈U,∃ p d,all[i]? =some p/\p.guard=none/\p.dst=some d/\
  eop E (eT E p.dst) (aP obs) (aE obs) (evP A tab all i fr) p.op p.type= .val (aW fr d)
 | [],_,i,a=>by cases a
 | j::r,h,i,a=>by
  rcases Au.1 a with rfl | a
  .have h1:=h.1
   split at h1
   .rename_i p hp
    split at h1
    .rename_i c
     split at h1
     .rename_i d b
      exact ⟨p,d,lK hp,c,b,h1⟩
     grind
    grind
   grind
  .exact M3 h.2 i a
theorem G5 {tab:List Nat} {n i:Nat}:∀ {U:List Nat},i∈U->cL (dG tab n) i=false->i∈vZ tab n U
 | [],h,_=>by cases h
 | j::r,h,ht=>by
  unfold vZ
  rcases Au.1 h with rfl | h
  .grind
  .have:=G5 h ht
   grind
theorem ZX {E:Env} {A tab:List Nat} {all:List Oper} {K:List (Nat×AVal)->List AObj->Prop} {Kp:(Nat->AVal)->AVal->List AObj->Prop} {F a U:List Nat} {fr:List (Nat×AVal)} {obs:List AObj} (h:BD E A tab all K Kp F a U fr obs):vM E A tab all fr obs U:=by
 cases F with
 | nil=>exact h.1
 | cons n r=>exact h.1
theorem GN {tab:List Nat} {n j:Nat} (a:cL (dG tab n) j=true):∀ {l:List Nat},j∈l->qV tab n l=false
 | k::r,h=>by
  unfold qV
  rcases Au.1 h with e | h
  .grind
  .rw [GN a h,Bt]
theorem KK {E:Env} {A tab:List Nat} {all:List Oper} {K:List (Nat×AVal)->List AObj->Prop} {Kp:(Nat->AVal)->AVal->List AObj->Prop}:∀ {B U:List Nat} {fr:List (Nat×AVal)} {obs:List AObj},chB tab B=true->R5 E A tab all K Kp B U fr obs->BD E A tab all K Kp B B U fr obs
 | [],_,_,_,_,h=>h
 | n::r,U,fr,obs,hb,h=>by
  simp only [chB,Ag,Cu] at hb
  refine ⟨h.1,?_⟩
  have rest:vY tab (n::r) (fun a=>match nth all a with
   | none=>False
   | some p=>(match p.guard with
    | some _=>False
    | none=>orF E.P obs (fun v obs'=>KD 5 v fun v=>ODL obs' fun obs'=>TR fr p.dst v fun fr=>BD E A tab all K Kp r (LK a (n::r)) (vZ tab a U) fr obs') (Kp (gP A all fr))
      (eop E (eT E p.dst) (aP obs) (aE obs) (evP A tab all a fr) p.op p.type))) r:=DV fun j b=>GN (hb.1 j b) (Ax ..)
  unfold vY
  cases qV tab n (n::r) with
  | false=>exact rest
  | true=>
   refine ⟨?_,rest⟩
   have h:=h.2
   split at h
   .exact h.elim
   .rename_i p hp
    split at h
    .exact h.elim
    .rename_i c
     try rw [c]
     try dsimp only
     refine jT (fun v o h=>?_) h
     rw [mV,rK,LY] at h⊢
     have e:LK n (n::r)=r:=by unfold LK;simp
     rw [e]
     exact KK hb.2 h
section
variable {rd:Option Nat} {M0:Imm} {ob0:Hs} {obs0:List AObj} {w0:World} {sz:Nat} {dfs:List (Nat×List AVal)} {E:Env} {ops:Array Oper} {Q:Exit->Act->World->Prop} {K:List (Nat×AVal)->List AObj->Prop} {Kp:(Nat->AVal)->AVal->List AObj->Prop} {A tab:List Nat}
def SM (M0:Imm) (ob0:Hs) (obs0:List AObj) (w0:World) (sz:Nat) (dfs:List (Nat×List AVal)) (ops:Array Oper) (b:List Nat) (fr:List (Nat×AVal)) (obs:List AObj) (a:Act) (w:World):Prop:=
 ∃ M ob,Ext M0 ob0 obs0 w0 M ob obs w/\Mem M ob obs w/\(∀ t,(∀ i∈b,∀ p,ops[i]? =some p->p.dst≠some t)->Rep M ob (a.tmps.getD t undef) (aW fr t))/\a.tmps.size=sz/\cQ w0 w M ob a.defers dfs/\ob0.length<=obs.length
theorem KH {a:Array Bool} {j:Nat} (h:j∈Dx .any ops a) (d:a.size=ops.size):j<ops.size/\a.getD j false=false:=by
 obtain ⟨c,q,e,_⟩:=mem_ready.1 h
 have b:=(Fc.1 e).1
 rw [Bi,Hb o_] at c⊢
 exact ⟨b,by simpa using c⟩
theorem tI (c:TabSp ops tab) {a:Array Bool} (b:a.size=ops.size):∀ (n j:Nat),j<n->j<ops.size->a.getD j false=false->Dx .any ops a≠[]
 | 0,j,h,_,_=>by omega
 | n+1,j,h,hj,hl=>fun d=>by
  obtain ⟨p,hp⟩:∃ p,ops[j]? =some p:=⟨ops[j],Hb hj⟩
  have:j∈Dx .any ops a:=mem_ready.2 ⟨by
   grind,p,hp,fun e k f=>by
    have i:=c.back j p hp e k f
    cases g:a.getD e.on false with
    | true=>rfl
    | false=>exact absurd d (tI c b n e.on o_ o_ g)⟩
  grind
theorem XN (hE:EnvOK E) (ht:TabSp ops tab) (hd:∀ (i:Nat) p,ops[i]? =some p->∀ d,p.dst=some d->d<sz)
  (hp:∀ g v obs ch a w,Kp g v obs->PP M0 ob0 obs0 w0 sz dfs g v obs ch a w->Q (.panic ch) a w) (hq:∀ fr obs a w,K fr obs->SS M0 ob0 obs0 w0 sz dfs fr obs a w->Q .normal a w):
  ∀ (D:Nat) (b:Array Bool) (F m z U:List Nat) (fr:List (Nat×AVal)) (obs:List AObj) (a:Act) (w:World),F.length=m.length->D=m.length+z.length->b.size=ops.size->nH tab b->
   (∀ i,i<ops.size->(b.getD i false=false↔i∈m\/i∈z))->(m++z).Nodup->(∀ i∈m,i<ops.size)->(∀ i∈z,i∈A/\i∈U/\i<ops.size)->
   BD E A tab ops.toList K Kp F m U fr obs->SM M0 ob0 obs0 w0 sz dfs ops z fr obs a w->wpAnyIn (fen rd) 0 E.P .any ops Q D b a w:=by
 intro D
 induction D with
 | zero=>
  intro b F m z U fr obs a w hF hf V hc k B T G h hs
  have e1:m=[]:=Av o_
  have e2:z=[]:=Av o_
  subst e1 e2
  obtain rfl:=Av hF
  refine ⟨Hn.2 fun j c=>?_,hq fr obs a w h.2 ?_⟩
  .obtain ⟨h1,W⟩:=KH c V
   rcases (k j h1).1 W with q | q<;>cases q
  .obtain ⟨M,ob,Y,hm,N,r⟩:=hs
   exact ⟨M,ob,Y,hm,fun t=>N t (fun i hi=>absurd hi Ln),r⟩
 | succ D ih=>
  intro b F m z U fr obs a w hF hf V hc k B T G h hs
  refine ⟨fun h0=>?_,fun i hi=>?_⟩
  .exfalso
   cases m with
   | cons n r=>
    have hn:=T n (Ax ..)
    exact tI ht V (n+1) n o_ hn ((k n hn).2 (.inl (Ax ..))) h0
   | nil=>
    cases z with
    | nil=>simp at hf
    | cons n r=>
     have hn:=(G n (Ax ..)).2.2
     exact tI ht V (n+1) n o_ hn ((k n hn).2 (.inr (Ax ..))) h0
  .obtain ⟨hilt,hil⟩:=KH hi V
   obtain ⟨hc',S⟩:=hc.step ht hi
   obtain ⟨M,ob,Y,hm,N,H,hdf,h0⟩:=hs
   have hl:=hm.len
   have hev:∀ x,Rep M ob (a.eval x) (evP A tab ops.toList i fr x):=fun x=>by
    cases x with
    | const v=>exact rA v
    | global g=>exact .undef _
    | func f=>exact .func (.func f) [] [] [] [] rfl rfl (fun i v a h=>by simp at h) (fun i v a h=>by simp at h)
    | tmp t=>
     show Rep M ob _ (bif X9 A tab i t 0 ops.toList then .undef else aW fr t)
     cases hh:X9 A tab i t 0 ops.toList with
     | true=>exact .undef _
     | false=>
      refine N t fun j c p hp s=>?_
      have h1:=GE hh j p q_ s (by rw [Bw];exact (G j c).1)
      rw [Bw] at h1
      have W:=S j h1
      rw [(k j (G j c).2.2).2 (.inr c)] at W
      cases W
   have L:∀ (Bs' UA':List Nat),(∀ j,(j∈Bs'\/j∈UA')↔(j∈m\/j∈z)/\j≠i)->∀ j,j<ops.size->((b.setIfInBounds i true).getD j false=false↔j∈Bs'\/j∈UA'):=fun Bs' UA' he j c=>by
    rw [he j]
    by_cases e:j=i
    .subst e
     simp;omega
    .rw [getD_set_ne false (Eg e),k j c]
     simp [e]
   have hsz':(b.setIfInBounds i true).size=ops.size:=by simp;omega
   rcases (k i hilt).1 hil with hB | hA
   .
    cases F with
    | nil=>rw [Av hF.symm] at hB;cases hB
    | cons n0 F=>
     have hfree:qV tab i m=true:=NL fun j c=>by
      cases hq2:cL (dG tab i) j with
      | false=>rfl
      | true=>
       have W:=S j hq2
       rw [(k j (T j c)).2 (.inl c)] at W
       cases W
     obtain ⟨hok,h⟩:=h
     have h:=DW hfree h hB
     split at h
     .exact h.elim
     .rename_i p hnp
      have J:ops[i]? =some p:=by simpa using lK hnp
      split at h
      .exact h.elim
      .rename_i hg
       have h:orF E.P obs (fun v obs'=>BD E A tab ops.toList K Kp F (LK i m) (vZ tab i U) (mX fr p.dst v) obs') (Kp (gP A ops.toList fr)) (eop E (eT E p.dst) (aP obs) (aE obs) (evP A tab ops.toList i fr) p.op p.type):=
        jT (fun v o h=>by rw [mV,rK,LY] at h;exact h) h
       have hw:Fg p (yielded ops a.tmps)=true:=by unfold Fg;rw [hg]
       unfold wpOpIn
       rw [J]
       dsimp only
       rw [if_pos hw]
       refine (AF hE hm hev h).wpIn (mQ h) (fun u w' ⟨M',ob',L',I,Z,x3⟩=>?_) (fun ch w' ⟨M',ob',L',I,Z,x3⟩=>?_)
       .rcases x3 with ⟨u',v,e,hr,hk⟩ | ⟨ch,v,e,_⟩
        .cases e
         have:=I.lens
         have:=Z.len
         have hndB:m.Nodup:=(Bu.1 B).1
         have l:∀ j,j∈m.erase i↔j≠i/\j∈m:=fun j=>hndB.mem_erase_iff
         have hlen:(m.erase i).length+1=m.length:=by
          rw [Lm hB]
          have:=Lx hB
          omega
         have O:i∉z:=fun hb=>(Bu.1 B).2.2 i hB i hb rfl
         rw [TN] at hk
         refine ih (b.setIfInBounds i true) F (m.erase i) z (vZ tab i U) _ L' _ w' (by simp at hF;omega) o_ hsz' hc' (L (m.erase i) z fun j=>?_) ?_ (fun j c=>T j ((l j).1 c).2) (fun j c=>?_) hk
          ⟨M',ob',Y.trans I,Z,fun t hmt=>?_,(eW _ _ _).1.trans H,(hdf.ext hm I).put,by omega⟩
         .rw [l j]
          constructor
          .rintro (⟨C,c⟩ | c)
           .exact ⟨.inl c,C⟩
           .exact ⟨.inr c,fun e=>O (e▸c)⟩
          .rintro ⟨c | c,C⟩
           .exact .inl ⟨C,c⟩
           .exact .inr c
         .refine Bu.2 ⟨hndB.erase i,(Bu.1 B).2.1,fun x Y y hy=>?_⟩
          exact (Bu.1 B).2.2 x ((l x).1 Y).2 y hy
         .obtain ⟨k1,k2,k3⟩:=G j c
          refine ⟨k1,G5 k2 ?_,k3⟩
          cases hq2:cL (dG tab i) j with
          | false=>rfl
          | true=>
           have W:=S j hq2
           rw [(k j k3).2 (.inr c)] at W
           cases W
         .rw [fG]
          unfold iV
          by_cases s:p.dst=some t
          .rw [if_pos s]
           have hlt:t<a.tmps.size:=H▸hd i p J t s
           rw [s]
           simp only [Act.put]
           rw [Bi,Es hlt]
           exact hr
          .rw [if_neg s]
           have hold:=(N t hmt).mono I.imm I.hs
           cases R:p.dst with
           | none=>exact hold
           | some d=>
            have C:d≠t:=fun e=>s (by rw [R,e])
            simp only [Act.put]
            rw [Bi,Ez C,<-Bi]
            exact hold
        .cases e
       .rcases x3 with ⟨u',v,e,_⟩ | ⟨ch',v,e,hr,hk⟩
        .cases e
        .cases e
         have:=I.lens
         have:=Z.len
         refine hp _ v L' ch a w' hk ⟨M',ob',Y.trans I,Z,hr,fun t=>?_,H,hdf.ext hm I,by omega⟩
         unfold gP
         cases hda:JM A t 0 ops.toList with
         | true=>exact .undef _
         | false=>
          exact (N t fun j c q X=>xT hda j q q_ (by rw [Bw];exact (G j c).1)).mono I.imm I.hs
   .
    obtain ⟨k1,k2,k3⟩:=G i hA
    obtain ⟨p,d,J,hg,R,hev2⟩:=M3 (ZX h) i k2
    have J:ops[i]? =some p:=by simpa using J
    have hor:orF E.P obs (fun v obs'=>v=aW fr d/\obs'=obs) (fun _ _=>False) (eop E (eT E p.dst) (aP obs) (aE obs) (evP A tab ops.toList i fr) p.op p.type):=by
     rw [hev2];exact ⟨rfl,rfl⟩
    have hw:Fg p (yielded ops a.tmps)=true:=by unfold Fg;rw [hg]
    unfold wpOpIn
    rw [J]
    dsimp only
    rw [if_pos hw]
    refine (AF hE hm hev hor).wpIn (mQ hor) (fun u w' ⟨M',ob',L',I,Z,x3⟩=>?_) (fun ch w' ⟨M',ob',L',I,Z,x3⟩=>?_)
    .rcases x3 with ⟨u',v,e,hr,hk1,hk2⟩ | ⟨ch,v,e,_⟩
     .cases e
      subst hk1 hk2
      have hlt:d<a.tmps.size:=H▸hd i p J d R
      have hnod:z.Nodup:=(Bu.1 B).2.1
      have l:∀ j,j∈z.erase i↔j≠i/\j∈z:=fun j=>hnod.mem_erase_iff
      have hlen:(z.erase i).length+1=z.length:=by
       rw [Lm hA]
       have:=Lx hA
       omega
      have O:i∉m:=fun hb=>(Bu.1 B).2.2 i hb i hA rfl
      refine ih (b.setIfInBounds i true) F m (z.erase i) U fr L' _ w' hF o_ hsz' hc' (L m (z.erase i) fun j=>?_) ?_ T (fun j c=>G j ((l j).1 c).2) h
       ⟨M',ob',Y.trans I,Z,fun t hmt=>?_,(eW _ _ _).1.trans H,(hdf.ext hm I).put,h0⟩
      .rw [l j]
       constructor
       .rintro (c | ⟨C,c⟩)
        .exact ⟨.inl c,fun e=>O (e▸c)⟩
        .exact ⟨.inr c,C⟩
       .rintro ⟨c | c,C⟩
        .exact .inl c
        .exact .inr ⟨C,c⟩
      .refine Bu.2 ⟨(Bu.1 B).1,hnod.erase i,fun x Y y hy=>?_⟩
       exact (Bu.1 B).2.2 x Y y ((l y).1 hy).2
      .rw [R]
       simp only [Act.put]
       by_cases s:d=t
       .subst s
        rw [Bi,Es hlt]
        exact hr
       .rw [Bi,Ez s,<-Bi]
        refine (N t fun j c q X=>?_).mono I.imm I.hs
        by_cases hji:j=i
        .subst hji
         rw [J] at X
         cases X
         rw [R]
         simp;omega
        .exact hmt j ((l j).2 ⟨hji,c⟩) q X
     .cases e
    .rcases x3 with ⟨u',v,e,_⟩ | ⟨ch',v,e,hr,hk⟩
     .cases e
     .exact hk.elim
theorem A8 {all:List Oper} {obs:List AObj}:∀ {l:List Nat} {fr:List (Nat×AVal)} {k:List (Nat×AVal)->Prop},yF E A tab all obs l fr k->(∀ i∈l,i∈A)->∃ a,k a/\∀ t,JM A t 0 all=false->aW a t=aW fr t
 | [],fr,k,h,_=>⟨fr,h,fun t _=>rfl⟩
 | i::r,fr,k,h,hA=>by
  unfold yF at h
  split at h
  .rename_i p hp
   split at h
   .rename_i d f
    split at h
    .rename_i v g
     rw [mV,mL] at h
     obtain ⟨a,h1,e⟩:=A8 h fun j c=>hA j (Bd _ c)
     refine ⟨a,h1,fun t b=>?_⟩
     rw [e t b,rY]
     have:=xT b i p (by simpa using lK hp) (by grind)
     grind
    grind
   grind
  grind
end
theorem To.permT {E:Env} {fn:Func} {g:Goal} (hE:EnvOK E) (A B:List Nat) {id:Nat} {ops:Array Oper} {ks:List KI} {fr:List (Nat×AVal)} {obs:List AObj} (hst:aHc A B (iP [] ops.toList) ops.size=true)
  (h:yF E A (iP [] ops.toList) ops.toList obs A fr fun fr=>BD E A (iP [] ops.toList) ops.toList (fun fr obs=>To E fn g (.code ks fr obs)) (mF E fn g) B B A fr obs):To E fn g (.code (.code (.region id ops true)::ks) fr obs):=
 .mk fun J M0 ob0 obs0 w0 a w f hs=>by
  simp only [bF,KI.ok,dB,Ag] at J
  obtain ⟨⟨u,ho2⟩,F⟩:=J
  have R:=sE u
  refine KW.code (Q':=QR E fn g M0 ob0 obs0 w0 ks) ?_ (fun a w h=>h) (fun n a w h=>h) (fun e a w Z=>by
   cases e<;>first | exact .inl rfl | exact .inr ⟨_,rfl⟩ | exact Z.elim)
  have m:∀ q v obs n a w,mF E fn g q v obs->PP M0 ob0 obs0 w0 fn.ntmps E.df q v obs n a w->rJ E fn M0 ob0 obs0 w0 g (.panic n) a w:=fun q v obs n a w N m=>I6 N f m
  have I:∀ fr obs a w,To E fn g (.code ks fr obs)->SS M0 ob0 obs0 w0 fn.ntmps E.df fr obs a w->KW E.rd E.P (rJ E fn M0 ob0 obs0 w0 g) ks a w:=fun fr obs a w D hs=>D.rec fun D=>D F M0 ob0 obs0 w0 a w f hs
  have S:TabSp ops (iP [] ops.toList):=BY ops (by grind)
  refine wpIn_region_any hE.mix ?_
  simp only [aHc,Ag] at hst
  obtain ⟨U,L⟩:=hst
  obtain ⟨T,y⟩:=FX U
  have K:=G9 L
  obtain ⟨G,h1,o⟩:=A8 h fun i b=>b
  have l:(B++A).Nodup:=List.perm_append_comm.nodup_iff.1 T
  have c:ops.size=B.length+A.length:=by
   have H:(B++A).length<=ops.size:=by
    have:=(l.sublist (Lf _))
    have h3:(B++A).Subset (Dh ops.size):=fun i b=>Ji.2 (y i (by rw [Az] at b⊢;exact b.symm))
    have:=l.length_le_of_subset h3
    simpa using this
   have s:ops.size<=(B++A).length:=by
    have h3:(Dh ops.size).Subset (B++A):=fun i b=>by
     rw [Az]
     exact (K i (Ji.1 b)).symm
    have:=List.nodup_range.length_le_of_subset h3
    simpa using this
   simp at H s
   omega
  obtain ⟨M,ob,Y,hm,X,V⟩:=hs.draw
  have k:∀ i,i<ops.size->(Fw ops.size false).getD i false=false:=fun i b=>by
   rw [Bi,Hb q_]
   simp
  refine XN (Q:=QR E fn g M0 ob0 obs0 w0 ks) hE S (fun i p b d x=>R p (Aq (i:=i) q_) d x) (fun q v obs n a w h1 o=>m q v obs n a w h1 o) (fun fr obs a w h1 o=>I fr obs a w h1 o) ops.size _ B B A A G obs a _ rfl c s_ (fun j i r _=>?_)
   (fun i b=>⟨fun _=>(K i b).symm,fun _=>k i b⟩) l (fun i b=>y i (De _ b)) (fun i b=>⟨b,b,y i (Dr _ b)⟩) h1 ⟨M,ob,Y,hm,fun t C=>?_,V⟩
  .by_cases O:j<ops.size
   .rw [k j O] at r;cases r
   .rw [Bi,Lu q_] at r
    cases r
  .rw [o t ?_]
   .exact X t
   .cases z:JM A t 0 ops.toList with
    | false=>rfl
    | true=>
     obtain ⟨i,p,H,s,W⟩:=VI z
     rw [Bw] at s
     exact absurd W (C i s p (by simpa using H))
theorem A9 {E:Env} {A tab:List Nat} {all:List Oper} {obs:List AObj} {k b:List (Nat×AVal)->Prop} (a:∀ fr,k fr->b fr):∀ {l:List Nat} {fr:List (Nat×AVal)},yF E A tab all obs l fr k->yF E A tab all obs l fr b
 | [],fr,h=>a fr h
 | i::r,fr,h=>by
  unfold yF at h⊢
  split at h
  .rename_i p hp
   split at h
   .rename_i d c
    split at h
    .rename_i v e
     simp only [c,e,mV,mL] at h⊢
     exact A9 a h
    omega
   omega
  omega
theorem To.permAt {E:Env} {fn:Func} {g:Goal} (hE:EnvOK E) (A B:List Nat) {id:Nat} {ops:Array Oper} {ks:List KI} {fr:List (Nat×AVal)} {obs:List AObj} (hst:aHm A B (iP [] ops.toList) ops.size=true)
  (h:yF E A (iP [] ops.toList) ops.toList obs A fr fun fr=>R5 E A (iP [] ops.toList) ops.toList (fun fr obs=>To E fn g (.code ks fr obs)) (mF E fn g) B A fr obs):To E fn g (.code (.code (.region id ops true)::ks) fr obs):=by
 unfold aHm at hst
 rw [Ag] at hst
 exact To.permT hE A B hst.1 (A9 (fun fr h=>KK hst.2 h) h)
theorem aY {p q:Prop} (h:p):(true=true->p)/\(true=false->q):=⟨fun _=>h,fun h=>absurd h d_⟩
theorem aN {p q:Prop} (h:q):(false=true->p)/\(false=false->q):=⟨fun h=>absurd h d_,fun _=>h⟩
theorem aT {a p q:Prop} [Decidable a] (h:decide a=true->p) (b:a:=by omega):(decide a=true->p)/\(decide a=false->q):=⟨h,fun h=>absurd b (of_decide_eq_false h)⟩
theorem aF {a p q:Prop} [Decidable a] (h:decide a=false->q) (b:¬ a:=by omega):(decide a=true->p)/\(decide a=false->q):=⟨fun h=>absurd (of_decide_eq_true h) b,h⟩
theorem aD {p q:Prop} (h:q) (hp:p:=by first | decide | omega):p/\q:=⟨hp,h⟩
theorem aL {p q:Prop} (h:q) (hp:p:=by repeat (first | exact trivial | refine Aa rfl ?_)):p/\q:=⟨hp,h⟩
theorem aJ {k:IntKind} {n:Int} {p q:Prop} (h:p) (h1:bO k<=n:=by simp only [bO];omega) (a:n<=bA k:=by simp only [bA];omega):(inR k n/\p)\/q:=.inl ⟨⟨h1,a⟩,h⟩
theorem gW {E:Env} {fn:Func} {g:Goal} {st:St} (hE:EnvOK E) (h:bP E fn g (To E fn g) 100 st):To E fn g st:=cD hE 100 h
theorem gN {E:Env} {fn:Func} {g:Goal} {st:St} (hE:EnvOK E) (h:bP E fn g (To E fn g) 100 st) (hs:T1 st=true:=by rfl):To E fn g st:=goN hE 100 hs h
theorem cT {E:Env} {f:FuncId} {fn:Func} {args:List AVal} {obs:List AObj} {g:Goal} (h:okL args->To E fn g (.code [.code (dC fn)] (frA 0 args) obs)) (a:E.df=[]:=by rfl) (l:E.P.funcs[f]? =some fn:=by rfl) (j:fn.body=some (dC fn):=by rfl)
  (b:uF E.P f:=by exact fun _ _=>by rfl) (c:dB fn.ntmps (dC fn)=true:=by decide+kernel) (k:Fq args.length fn.ntmps=true:=by rfl) (d:tG obs=true:=by rfl) (i:obs.length=g.n0:=by rfl) (e:E.rd=none:=by rfl):aA E.P f args obs g.res g.obs:=
 aA.to a l j b c k d i h e
def CN (z:AVal):OR->Prop
 | .val v=>v=z
 | .need p r=>p/\CN z r
 | .idx n f=>∃ i:Nat,n=(i:Int)/\CN z (f i)
 | .elem xs i f=>∃ x,xs[i]? =some x/\CN z (f x)
 | .find es key f=>CN z (f (dQ es key))
 | _=>False
def MZ (k:AVal->Prop):OR->Prop
 | .val v=>k v
 | .need p r=>p/\MZ k r
 | .idx n f=>∃ i:Nat,n=(i:Int)/\MZ k (f i)
 | .elem xs i f=>∃ x,xs[i]? =some x/\MZ k (f x)
 | .find es key f=>∃ o,dQ es key=o/\MZ k (f o)
 | _=>False
def J9 (E:Env) (A tab:List Nat) (all:List Oper) (obs:List AObj):List Nat->List (Nat×AVal)->(List (Nat×AVal)->Prop)->Prop
 | [],fr,k=>k fr
 | i::r,fr,k=>match nth all i with
  | some p=>(match p.dst with
   | some d=>MZ (fun v=>KD 5 v fun v=>B2 fr d v fun fr=>J9 E A tab all obs r fr k) (eop E (eT E p.dst) (aP obs) (aE obs) (evP A tab all i fr) p.op p.type)
   | none=>False)
  | none=>False
section
variable {rd:Option Nat} {M0:Imm} {ob0:Hs} {obs0:List AObj} {w0:World} {sz:Nat} {dfs:List (Nat×List AVal)} {E:Env} {ops:Array Oper} {Q:Exit->Act->World->Prop} {K:List (Nat×AVal)->List AObj->Prop} {Kp:(Nat->AVal)->AVal->List AObj->Prop} {A tab:List Nat}
end
end Go.AW
