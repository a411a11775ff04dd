/-
  The engine, second make, fourth part: ranges over functions, families of rows, regions whose order is drawn. Over any program.
-/
import Derived.Test.YticlgfdibfobdaaGreatWCP
set_option linter.all false
open And renaming intro->Ad
open Array renaming getD_eq_getD_getElem?->Bd,getElem?_eq_getElem->Fj,getElem?_eq_none->Lo,getElem?_eq_some_iff->Dt,getElem?_setIfInBounds_ne->Di,getElem?_setIfInBounds_self_of_lt->De,replicate->Fi
open Bool renaming and_eq_true->Af,and_false->Bn,and_true->Hc,not_eq_true'->Cm,or_eq_false_iff->Mj,or_eq_true->Eg,true_and->Cd
open Go.Builtin renaming append_->Cg
open Go.Region renaming ready->Dk,wanted->Dx
open Go.Value renaming int->Ji
open Go.World renaming block_lt_of_cell?->Cr,cell?->Ky,cell?_of_block->Co,ownsRow_nil->Hi,putObj_heap_other->Fx,putObj_heap_same->Lr
open List renaming all_eq_true->Cj,drop_eq_getElem_cons->Ac,eq_nil_iff_forall_not_mem->Gx,eq_nil_of_length_eq_zero->Aq,getElem?_append_left->Ag,getElem?_append_right->Ak,getElem?_eq_none->Bj,getElem?_eq_some_iff->Ab,getElem?_map->Bc,getElem?_of_mem->Cp,getElem?_set_ne->Bh,getElem?_set_self->Ax,length_append->Ar,length_erase_of_mem->Lg,length_pos_of_mem->Lt,length_take->Es,map_append->Bm,mem_append->Ay,mem_append_left->Dh,mem_append_right->Cu,mem_cons->Ao,mem_cons_of_mem->Bb,mem_cons_self->Az,mem_filter->Dw,mem_map->Bu,mem_of_getElem?->Av,mem_range->Gt,mem_singleton->Dd,nodup_append->Br,nodup_cons->Bw,nodup_nil->Hn,not_mem_nil->Gs,prefix_refl->Cz,range->Db,replicate->Ah,take_append_drop->Dj,take_append_of_le_length->Ea,take_of_length_le->Cf
open List.Sublist renaming refl->Kv
open Nat renaming beq->Ap,beq_refl->Ll,ble->Ew,blt->Dy,blt_eq->Fe,div_one->Jt,eq_of_beq_eq_true->Jd,le_of_ble_eq_true->Ca,le_refl->Bg,le_trans->Cs,lt_of_lt_of_le->Dp,min_eq_left->Fh,zero_add->Bp
open Ne renaming symm->Eb
open Option renaming map_eq_some_iff->Cb
namespace Go.AW
open Go.RowKit
open Classical
def cF (l:Nat) (R:Loop):BInv where
 inv _ bs w:=bs=[l]/\w.heap[l]? =some (.loop R)
 mono:=fun _ _ hb ⟨h1,h2⟩=>⟨h1,hb _ _ (by rw [h1];simp) h2⟩
theorem eL (bs:List Nat):HG (gH bs)=bs:=HF (hs:=[gH bs]) rfl
theorem gF {hs:List Value} {g:Nat} {I:BInv} {k b:Nat}:aH [hs] [.bun g I] k b↔k=0/\b∈blk hs:=by
 constructor
 .rintro ⟨c,hs',e,f,a,d⟩
  cases k with
  | zero=>simp at a;subst a;exact ⟨rfl,d⟩
  | succ k=>simp at e
 .rintro ⟨rfl,h⟩
  exact ⟨_,hs,rfl,rfl,rfl,h⟩
section
variable {M:Imm} {ob:Hs} {obs:List AObj} {w:World}
theorem Mem.recAt (h:Mem M ob obs w) {k l g:Nat} {R:Loop} (d:obs[k]? =some (.bun g (cF l R))):∃ hs,ob[k]? =some hs/\hs.length=g+1/\hs[g]? =some (gH [l])/\blk hs=[l]/\w.heap[l]? =some (.loop R):=by
 obtain ⟨hs,c,hl,bs,a,e,rfl,b⟩:=h.obj k _ d
 exact ⟨hs,c,hl,a,(eJ hl a).trans (eL _),b⟩
theorem Mem.recTurn (h:Mem M ob obs w) {k l g:Nat} {R:Loop} (r:obs[k]? =some (.bun g (cF l R))) (f:Loop):
  Mem M ob (obs.set k (.bun g (cF l f))) (w.putObj l (.loop f))/\Ext M ob obs w M ob (obs.set k (.bun g (cF l f))) (w.putObj l (.loop f)):=by
 obtain ⟨hs,q,hl,s,j,p⟩:=h.recAt r
 have d:=eY p
 have:=h.turn (M':=M) (w':=w.putObj l (.loop f)) (x':=.bun g (cF l f)) (hs':=hs) r q (Cz _) (fun e=>by cases e) (fun _ _ _ h=>h) (fun _ _ _ h=>.inl h) (fun c o y z=>by
   obtain ⟨u,i,x,t⟩:=h.imm c o y z
   have n:c≠l:=fun e=>by subst e;unfold Ky at i;dsimp only at i;rw [p] at i;cases i
   exact ⟨u,(Co (w:=w) (a:=⟨c,o,none⟩) (Fx n)).trans i,x,t⟩)
  (fun c _ v=>Fx fun e=>v ⟨rfl,by rw [j,e];simp⟩) rfl rfl rfl s_ (fun _=>⟨hl,[l],s,fun b j=>by
   rw [Dd.1 j]
   exact ⟨_,Lr d,rfl⟩,rfl,Lr d⟩)
  (fun _ c m=>⟨.inl ⟨rfl,m⟩,by
   rw [j] at m
   rw [Dd.1 m]
   simpa using d⟩)
 rw [fP q] at this
 exact ⟨this.1,this.2.1⟩
theorem Mem.drop (h:Mem M ob obs w) (k:Nat):Mem M ob (obs.set k .dead) w/\∀ {i b:Nat},aH ob (obs.set k .dead) i b->aH ob obs i b:=by
 have a:ON (obs.set k .dead) obs:=⟨by simp,fun i=>by
  by_cases c:i=k
  .subst c
   by_cases hl:i<obs.length
   .exact .inr (Ax hl)
   .left;rw [Bj q_,Bj o_]
  .exact .inl (Bh (Eb c))⟩
 exact ⟨h.weak a,fun d=>a.alive d⟩
end
section
variable {E:Env} {fn:Func} {g:Goal}
theorem To.beginR {l k gg:Nat} {R:Loop} {ks:List KI} {fr:List (Nat×AVal)} {obs:List AObj} (f:E.rd=some l) (s:aE obs k= .bun gg (cF l R)) (o:R.state= .ready)
  (h:To E fn g (.code ks fr (bL obs k (.bun gg (cF l {R with state:=.busy}))))):To E fn g (.code (.beginR::ks) fr obs):=
 .mk fun j M0 ob0 obs0 w0 a w hst hs=>by
  obtain ⟨M,ob,v,hm,i,y,x,t⟩:=hs
  have c:=bS s s_
  obtain ⟨u,n⟩:=hm.recTurn c {R with state:=.busy}
  obtain ⟨_,_,_,_,_,d⟩:=hm.recAt c
  rw [aQ c] at h
  have key:=(h.rec (motive:=fun _=>vN E fn g _) fun h=>h) (by simpa [bE,KI.ok] using j) M0 ob0 obs0 w0 a _ hst ⟨M,ob,v.trans n,u,i,y,x.ext hm n,by simpa using t⟩
  intro b cs m
  obtain ⟨e,p,w',q,r⟩:=key b cs m
  exact ⟨e,p,w',q,.of_steps (.one (hO _ _ _) (stepR_beginRound (m.trans f) (run_beginRound d o))) r⟩
end
def iR (ob0:Hs) (fr:List (Nat×AVal)) (R:Loop) (L:List AObj):BInv where
 inv M bs w:=∃ ob,dL ob0 ob/\ob.length=L.length/\(∀ (k:Nat) c,L[k]? =some c->∃ hs,ob[k]? =some hs/\gZ M ob w hs c)/\(∀ k k' b,aH ob L k b->aH ob L k' b->k=k')/\
  (∀ b,b∈bs↔ ∃ k,aH ob L k b)/\∀ t,Rep M ob (R.tmps.getD t undef) (aZ fr t)
 mono:=fun hM hn hb ⟨ob,h1,h2,h3,h4,h5,h6⟩=>⟨ob,h1,h2,fun k c hc=>by
  obtain ⟨hs,hh,hok⟩:=h3 k c hc
  exact ⟨hs,hh,hok.mono hM (dL.refl _) (fun b p1 p2=>hn b ((h5 b).2 ⟨k,(cM hc hh).2 ⟨p1,p2⟩⟩)) (fun b c' p1 p2=>hb b c' ((h5 b).2 ⟨k,(cM hc hh).2 ⟨p1,p2⟩⟩))⟩,h4,h5,fun t=>(h6 t).monoM hM⟩
theorem Mem.unpack {M:Imm} {ob:Hs} {obs:List AObj} {w:World} {k g:Nat} {ob0:Hs} {fr:List (Nat×AVal)} {R:Loop} {L:List AObj} (hm:Mem M ob obs w) (e:obs[k]? =some (.bun g (iR ob0 fr R L))):
  ∃ hs a,ob[k]? =some hs/\hs.length=g+1/\dL ob0 a/\Mem M a L w/\(∀ b,b∈blk hs↔ ∃ k,aH a L k b)/\∀ t,Rep M a (R.tmps.getD t undef) (aZ fr t):=by
 obtain ⟨hs,d,hl,bs,h,j,a,h1,n,h3,l,c,m⟩:=hm.obj k _ e
 have f:blk hs=bs:=(eJ hl h).trans (eL _)
 refine ⟨hs,a,d,hl,h1,⟨hm.imm,n,h3,fun i b p=>?_,l⟩,fun b=>by rw [f];exact c b,m⟩
 obtain ⟨o,q,_⟩:=j b ((c b).2 ⟨i,p⟩)
 exact eY q
theorem Mem.pack {M:Imm} {a:Hs} {L:List AObj} {w:World} {ob0:Hs} {fr:List (Nat×AVal)} {R:Loop} (hm:Mem M a L w) (d:dL ob0 a) (e:∀ t,Rep M a (R.tmps.getD t undef) (aZ fr t)):
  ∃ bs,(∀ b,b∈bs↔ ∃ k,aH a L k b)/\∀ (ob:Hs) (hs:List Value),gZ M ob w (hs++[gH bs]) (.bun hs.length (iR ob0 fr R L)):=by
 let bs:=(Db w.heap.size).filter fun b=>decide (∃ k,aH a L k b)
 have c:∀ b,b∈bs↔ ∃ k,aH a L k b:=fun b=>by
  simp only [bs,Dw,Gt,decide_eq_true_eq]
  exact ⟨fun h=>h.2,fun ⟨k,h⟩=>⟨hm.lt k b h,k,h⟩⟩
 refine ⟨bs,c,fun ob hs=>⟨by simp,bs,by simp,fun b f=>?_,a,d,hm.len,hm.obj,hm.inj,c,e⟩⟩
 obtain ⟨k,g⟩:=(c b).1 f
 exact hm.alive_heap g
theorem mL (hs:List Value) (v:Value):blk (hs++[v])=HG v:=by unfold blk;simp
theorem XF {M:Imm} {ob:Hs} {tmps:Array Value} {fr:List (Nat×AVal)} {p:Nat} {v:Value} {x:AVal} (h:∀ t,Rep M ob (tmps.getD t undef) (aZ fr t)) (b:Rep M ob v x) (hp:p<tmps.size):
  ∀ t,Rep M ob ((tmps.setIfInBounds p v).getD t undef) (aZ (eZ fr p x) t):=by
 intro t
 have:=lK (a:={tmps:=tmps,defers:=[]}) (d:=some p) h b (fun c e=>by cases e;exact hp) t
 rw [show aZ (eZ fr p x) t=hC (aZ fr) (some p) x t from congrFun (eR fr (some p) x) t]
 exact this
def jR (R:Loop) (b:Bool):Loop:=if b then R else {R with state:=.done,pending:=some .ret}
theorem SY {R:Loop} (h1:R.state= .ready) (h:R.pending=none):({{R with state:=.busy} with state:=if (none:Option Code).isNone then .ready else .done,pending:=none}:Loop)=jR R true:=by
 obtain ⟨a,b,c,d,e,f,g,i⟩:=R
 have h1:a= .ready:=h1
 have h:b=none:=h
 subst h1 h
 rfl
theorem gI {E:Env} {fn:Func} {ob0:Hs} {l k n p gg:Nat} {R:Loop} {as H:Code} {fr:List (Nat×AVal)} {L L':List AObj} {x:Int} {b:Bool} (S:R.params= #[p]) (O:R.state= .ready) (hpe:R.pending=none) (has:R.assign=as) (hbd:R.body=H) (U:R.tmps.size=fn.ntmps)
  (hp:Dy p fn.ntmps=true) (Z:E.df=[]) (hco:(cZ fn.ntmps as&&cZ fn.ntmps H)=true) (hk:aE L k= .bun gg (cF l R)) (hn:L.length=n) (hn':L'.length=n) (hk':aE L' k= .bun gg (cF l {R with state:=.busy}))
  (h:inR .i64 x->To {E with rd:=some l} fn (.keep n (.ret (.bool b)) L') (.code [.code as,.beginR,.code H] (eZ fr p (.int .i64 x)) L)):
  bM E.P (.yield l) [.int .i64 x] [.bun 0 (iR ob0 fr R L)] (.ret (.bool b)) [.bun 1 (iR ob0 fr R (L'.set k (.bun gg (cF l (jR R b)))))]:=by
 intro M ob w m hm hr
 obtain ⟨hs,f,Y,hl,hle,z,I,T⟩:=hm.unpack (k:=0) rfl
 have hob:ob=[hs]:=by
  have:=hm.len
  match ob,this,Y with
  | [y],_,Y=>simp at Y;rw [Y]
 subst hob
 obtain ⟨v,rfl⟩:∃ v,m=[v]:=by
  have:=hr.1
  match m,this with
  | [v],_=>exact ⟨v,rfl⟩
 have hv:Rep M [hs] v (.int .i64 x):=hr.2 0 v _ rfl rfl
 obtain ⟨rfl,N⟩:=hv.int_inv
 obtain ⟨_,_,_,_,_,D⟩:=z.recAt (bS hk s_)
 have hpl:p<R.tmps.size:=by rw [U];simpa [Fe] using hp
 have J:(R.params.zip #[Ji .i64 x]).foldl (fun tmps (t,a)=>tmps.setIfInBounds t a) R.tmps=R.tmps.setIfInBounds p (.int .i64 x):=by rw [S];simp
 refine ⟨R.fn,R.tmps.setIfInBounds p (.int .i64 x),as,H,?_,trivial,fun c cs _=>?_⟩
 .have:=run_yield (P:=E.P) (args:= #[Ji .i64 x]) D (by rw [S];rfl)
  rw [J,has,hbd] at this
  exact this
 let b0:Frame:={(default:Frame) with fn:=R.fn,kind:=.normal,roundOf:=some l}
 let a0:Act:={tmps:=R.tmps.setIfInBounds p (.int .i64 x),defers:=[]}
 have hb0:Frame.round l R.fn (R.tmps.setIfInBounds p (.int .i64 x)) as H .normal=b0.atR a0 (fL [.code as,.beginR,.code H]):=by
  simp [Frame.round,Frame.atR,b0,a0,fL,KI.item]
 rw [hb0]
 have hst:nW (.keep n (.ret (.bool b)) L') f:=⟨by rw [z.len];exact hn,fun h=>by cases h⟩
 have hok:bE fn.ntmps [.code as,.beginR,.code H]=true:=by
  simp only [bE,KI.ok,Hc,Cd]
  simpa using hco
 obtain ⟨h0⟩:=h N
 obtain ⟨e,a',w',K,A⟩:=h0 hok M f L w a0 w hst ⟨M,f,Ext.refl _ _ _ _,z,XF T (.int _ _ N) hpl,by show (R.tmps.setIfInBounds p _).size=_;simpa using U,by show cQ w w M f [] E.df;rw [Z];exact .nil,by rw [z.len];exact Bg _⟩ b0 (c::cs) rfl
 -- fY the body
 have fin:∀ {s:Bool} {w':World} {st:LoopState} {jump:Option Code},(jump.isNone=s)->({{R with state:=.busy} with state:=if jump.isNone then .ready else .done,pending:=jump}:Loop)=jR R s->RR M f L w (.keep n (.ret (.bool b)) L') (.returned (.bool s)) w'->
   s=b/\∃ F,(Instr.endRound l jump).run E.P w'= .ok (.bool s) F/\∃ M' ob',Ext M [hs] [.bun 0 (iR ob0 fr R L)] w M' ob' [.bun 1 (iR ob0 fr R (L'.set k (.bun gg (cF l (jR R b)))))] F/\Mem M' ob' [.bun 1 (iR ob0 fr R (L'.set k (.bun gg (cF l (jR R b)))))] F:=by
  intro s w' st jump W hR ⟨M',g,G,B,x3⟩
  have e:s=b:=by
   have:=Rep.bool_inv (M:=M') (ob:=g) (b:=b) x3
   simpa using this
  subst e
  refine ⟨rfl,?_⟩
  have B:Mem M' g L' w':=B
  have G:Ext M f L w M' g L' w':=G
  have V:=bS hk' s_
  obtain ⟨_,_,_,_,_,r⟩:=B.recAt V
  obtain ⟨m1,m2⟩:=B.recTurn V (jR R s)
  have d:=run_endRound (P:=E.P) jump r
  rw [hR,W] at d
  refine ⟨_,d,M',?_⟩
  have X:=G.trans m2
  obtain ⟨bs,Q,hpk⟩:=m1.pack (fr:=fr) (R:=R) (hle.trans X.hs) fun t=>(T t).mono X.imm X.hs
  have hal':∀ {k b},aH [hs++[gH bs]] [.bun 1 (iR ob0 fr R (L'.set k (.bun gg (cF l (jR R s)))))] k b->b∈bs:=fun {k b} u=>by
   have:=(gF.1 u).2
   rwa [mL,eL] at this
  have h1:hs.length=1:=hl
  refine ⟨[hs++[gH bs]],⟨X.imm,fun b o y hy=>?_,fun i hs' hi=>?_,X.os,X.tape,X.output,X.size,fun b C hn=>X.keep b C fun i u=>hn 0 (gF.2 ⟨rfl,(I b).2 ⟨i,u⟩⟩),fun i b u=>?_⟩,⟨m1.imm,rfl,fun i c hc=>?_,fun i b u=>?_,fun i j b u C=>?_⟩⟩
  .rcases X.new b o y hy with q | q | q
   .exact .inl q
   .exact .inr (.inl q)
   .exact .inr (.inr ⟨0,gF.2 ⟨rfl,(I b).2 q⟩⟩)
  .cases i with
   | zero=>simp at hi;subst hi;exact ⟨_,rfl,⟨_,rfl⟩⟩
   | succ i=>simp at hi
  .have C:b∈bs:=by
    have:=(gF.1 u).2
    rwa [mL,eL] at this
   obtain ⟨j,W⟩:=(Q b).1 C
   rcases X.fresh j b W with q | q
   .exact .inl ⟨0,gF.2 ⟨rfl,(I b).2 q⟩⟩
   .exact .inr q
  .cases i with
   | zero=>
    simp at hc
    subst hc
    refine ⟨_,rfl,?_⟩
    have:=hpk [hs++[gH bs]] hs
    rwa [h1] at this
   | succ i=>simp at hc
  .have C:b∈bs:=by
    have:=(gF.1 u).2
    rwa [mL,eL] at this
   obtain ⟨j,W⟩:=(Q b).1 C
   exact m1.lt j b W
  .rw [(gF.1 u).1,(gF.1 C).1]
 cases e with
 | normal=>
  obtain ⟨rfl,F,d,M',ob',G,B⟩:=fin (st:=.ready) (jump:=none) rfl (SY O hpe) K
  exact ⟨.returned (.bool true),F,⟨M',ob',G,B,.bool _⟩,StepsIn.trans A (.one (hO _ _ _) (stepR_round_end rfl rfl d))⟩
 | ret=>
  obtain ⟨rfl,F,d,M',ob',G,B⟩:=fin (st:=.ready) (jump:=some .ret) rfl rfl K
  obtain ⟨k₁,hs'⟩:=A.2 rfl
  exact ⟨.returned (.bool false),F,⟨M',ob',G,B,.bool _⟩,StepsIn.trans hs' (.one (hO _ _ _) (stepR_round_ret rfl rfl d))⟩
 | panic ch=>exact K.elim
 | exit id=>exact K.elim
 | goto t=>exact K.elim
 | outgrown=>exact K.elim
def IP:Code->Option (Code×Code)
 | .rangeFunc _ _ as c=>some (as,c)
 | .seq a b=>(match IP a with | some x=>some x | none=>IP b)
 | .cond _ a b=>(match IP a with | some x=>some x | none=>IP b)
 | .block _ b=>IP b
 | .loop b=>IP b
 | _=>none
def rfA (fn:Func):Code:=match IP (dA fn) with | some p=>p.1 | none=>.skip
def rfB (fn:Func):Code:=match IP (dA fn) with | some p=>p.2 | none=>.skip
theorem KW.range {rd:Option Nat} {P:Program} {Q:Exit->Act->World->Prop} {ks:List KI} {a:Act} {w:World} {x:Operand} {A:Array Tmp} {as B:Code}
  (h:∀ fn,∃ (l:Nat) (c:List Deferred) (p:World) (d:Deferred) (f:FuncId) (args:Array Value),
   (Instr.enterLoop fn a.tmps A as B rd).run P w= .ok (l,c) p/\(resolve a.eval (rangeCall x l) 0).run P p= .ok d p/\(invoke d.target d.args).run P p= .ok (.enter f args) p/\
   Calls P f args p fun e F=>∃ v,e= .returned v/\∃ jump z,(Instr.endLoop l).run P F= .ok jump z/\KW rd P Q ((jump.map KI.code).toList++ks) {a with defers:=c++a.defers} z):
  KW rd P Q (.code (.rangeFunc x A as B)::ks) a w:=by
 intro b cs u
 obtain ⟨l,c,p,d,f,args,D,y,s,n⟩:=h b.fn
 rw [<-u] at D
 have i:=stepR_rangeFunc (P:=P) (b:=b) (a:=a) (k:=fL ks) (cs:=cs) (w:=w) D y s
 obtain ⟨e,F,fr,⟨v,rfl,jump,z,t,I⟩,j,G,g⟩:=n (b.atR {a with defers:=c++a.defers} (.inRangeFunc l::fL ks)::cs)
 obtain ⟨J,H,w',q,r⟩:=I b cs u
 refine ⟨J,H,w',q,?_⟩
 have C:fL ((jump.map KI.code).toList++ks)=(jump.map Item.code).toList++fL ks:=by cases jump<;>rfl
 rw [C] at r
 have o:Steps P (lone (b.atR a (.code (.rangeFunc x A as B)::fL ks)) cs w) (lone (b.atR {a with defers:=c++a.defers} ((jump.map Item.code).toList++fL ks)) cs z):=by
  refine .head i (Steps.trans j (.head ?_ (.one (stepR_endRangeFunc t))))
  rw [<-finish_atR_inRangeFunc l v];exact step_leave_returned g
 exact .of_steps ((StepsIn.of_steps o).mono fun m _=>hO _ _ m) r
section
variable {M:Imm} {ob:Hs} {obs:List AObj} {w:World}
theorem Mem.layRec (hm:Mem M ob obs w) (R:Loop):
  Mem M (ob++[[gH [w.heap.size+1]]]) (kT obs (.bun 0 (cF (w.heap.size+1) R))) ((w.alloc (.deferred (some []))).alloc (.loop R))/\
  Ext M ob obs w M (ob++[[gH [w.heap.size+1]]]) (kT obs (.bun 0 (cF (w.heap.size+1) R))) ((w.alloc (.deferred (some []))).alloc (.loop R)):=by
 rw [oJ]
 have f:Mem M ob obs (w.alloc (.deferred (some []))):=hm.same (by rw [cA];omega) fun b c=>heap_alloc_old w _ c
 have e:Ext M ob obs w M ob obs (w.alloc (.deferred (some []))):=⟨fun _ _ _ h=>h,fun _ _ _ h=>.inl h,dL.refl _,rfl,rfl,rfl,by rw [cA];omega,fun b c _=>heap_alloc_old w _ c,fun k b s=>.inl ⟨k,s⟩⟩
 obtain ⟨i,p,_⟩:=f.extend 1
 have h1:(obs++Ah 1 AObj.dead)[obs.length]? =some .dead:=by simp
 have r:(ob++Ah 1 ([]:List Value))[obs.length]? =some []:=by rw [<-hm.len];simp
 have d:(w.alloc (.deferred (some []))).heap.size=w.heap.size+1:=cA ..
 have t:=i.turn (M':=M) (w':=(w.alloc (.deferred (some []))).alloc (.loop R)) (x':=.bun 0 (cF (w.heap.size+1) R)) (hs':=[gH [w.heap.size+1]]) h1 r ⟨_,rfl⟩ (fun _=>rfl) (fun _ _ _ h=>h) (fun _ _ _ h=>.inl h) (fun b o y n=>by
   obtain ⟨u,g,q,m⟩:=i.imm b o y n
   exact ⟨u,(Co (w:=w.alloc (.deferred (some []))) (a:=⟨b,o,none⟩) (heap_alloc_old _ _ (Cr _ _ g))).trans g,q,m⟩)
  (fun b c _=>heap_alloc_old _ _ c) rfl rfl rfl (by rw [cA _ (Obj.loop R)];omega) (fun _=>⟨rfl,[w.heap.size+1],rfl,fun b c=>by
   rw [Dd.1 c,<-d]
   exact ⟨_,heap_alloc_new _ _,rfl⟩,rfl,by rw [<-d];exact heap_alloc_new _ _⟩)
  (fun _ b c=>by
   have:blk [gH [w.heap.size+1]]=[w.heap.size+1]:=eL _
   rw [this] at c
   rw [Dd.1 c,cA _ (Obj.loop R),d]
   exact ⟨.inr (Bg _),by omega⟩)
 have j:(ob++Ah 1 ([]:List Value)).set obs.length [gH [w.heap.size+1]]=ob++[[gH [w.heap.size+1]]]:=by
  rw [<-hm.len];simp
 have l:(obs++Ah 1 AObj.dead).set obs.length (.bun 0 (cF (w.heap.size+1) R))=obs++[.bun 0 (cF (w.heap.size+1) R)]:=by simp
 rw [j,l] at t
 exact ⟨t.1,e.trans (p.trans t.2.1)⟩
theorem C5:∀ (ks:List Nat) (obs:List AObj),(∀ k∈ks,k<obs.length)->ON (nY ks obs) obs/\∀ k∈ks,(nY ks obs)[k]? =some .dead
 | [],obs,_=>⟨⟨rfl,fun _=>.inl rfl⟩,fun k h=>by simp at h⟩
 | x::r,obs,hlt=>by
  have b:x<obs.length:=hlt x s_
  have e:bL obs x .dead=obs.set x .dead:=gM _ b
  obtain ⟨⟨h1,d⟩,h3⟩:=C5 r (bL obs x .dead) (fun k a=>by rw [e];simpa using hlt k (by simp [a]))
  have c:∀ k:Nat,(nY (x::r) obs)[k]? =obs[k]?\/(nY (x::r) obs)[k]? =some AObj.dead:=fun k=>by
   rcases d k with q | q
   .by_cases a:k=x
    .subst a
     right
     show (nY r (bL obs k .dead))[k]? =_
     rw [q,e,Ax b]
    .left
     show (nY r (bL obs x .dead))[k]? =_
     rw [q,e,Bh (Eb a)]
   .exact .inr q
  refine ⟨⟨by show (nY r (bL obs x .dead)).length=_;rw [h1,e];simp,c⟩,fun k a=>?_⟩
  rcases Ao.1 a with rfl | a
  .show (nY r (bL obs k AObj.dead))[k]? =some AObj.dead
   rcases d k with q | q
   .rw [q,e,Ax b]
   .exact q
  .exact h3 k a
theorem Mem.snoc {A:List AObj} {a:Hs} {c:AObj} {hs:List Value} (hm:Mem M a A w) (z:∀ ob,dL a ob->gZ M ob w hs c) (q:∀ b∈blk hs,b<w.heap.size) (f:∀ k b,aH a A k b->b∉blk hs):
  Mem M (a++[hs]) (A++[c]) w/\∀ k b,aH (a++[hs]) (A++[c]) k b->(k<A.length/\aH a A k b)\/(k=A.length/\b∈blk hs):=by
 have g:dL a (a++[hs]):=fun j l e=>⟨l,by rw [Ag (Ab.1 e).1];exact e,Cz _⟩
 have m:∀ {j:Nat} {x:AObj},(A++[c])[j]? =some x->(j<A.length/\A[j]? =some x/\(a++[hs])[j]? =a[j]?)\/(j=A.length/\x=c/\(a++[hs])[j]? =some hs):=fun {j x} e=>by
  by_cases h:j<A.length
  .rw [Ag h] at e
   exact .inl ⟨h,e,Ag (by rw [hm.len];exact h)⟩
  .have d:j=A.length:=by have:=(Ab.1 e).1;simp at this;omega
   subst d
   rw [Ak s_] at e
   simp at e
   exact .inr ⟨rfl,e.symm,by rw [<-hm.len];simp⟩
 have n:∀ k b,aH (a++[hs]) (A++[c]) k b->(k<A.length/\aH a A k b)\/(k=A.length/\b∈blk hs):=by
  rintro k b ⟨x,l,t,y,o,s⟩
  rcases m t with ⟨h1,d,h3⟩ | ⟨h1,d,h3⟩
  .rw [h3] at o;exact .inl ⟨h1,x,l,d,y,o,s⟩
  .rw [h3] at o;cases o;exact .inr ⟨h1,s⟩
 refine ⟨⟨hm.imm,by simp [hm.len],fun k x u=>?_,fun k b r=>?_,fun i j b r v=>?_⟩,n⟩
 .rcases m u with ⟨h1,d,h3⟩ | ⟨h1,rfl,h3⟩
  .obtain ⟨l,C,B⟩:=hm.obj k x d
   exact ⟨l,by rw [h3];exact C,B.mono (fun _ _ _ h=>h) g (fun _ _ _ _ h=>h) (fun _ _ _ _ h=>h)⟩
  .exact ⟨hs,h3,z _ g⟩
 .rcases n k b r with ⟨_,h⟩ | ⟨_,h⟩
  .exact hm.lt k b h
  .exact q b h
 .rcases n i b r with ⟨h1,d⟩ | ⟨h1,d⟩<;>rcases n j b v with ⟨h3,p⟩ | ⟨h3,p⟩
  .exact hm.inj i j b d p
  .exact absurd p (f i b d)
  .exact absurd d (f j b p)
  .rw [h1,h3]
end
theorem bM.bunTo {P:Program} {f:Fn} {args:List AVal} {obs:List AObj} {r:Res} {gg:Nat} {I l:BInv} (h:bM P f args obs r [.bun gg I])
  (t:∀ (M:Imm) (bs:List Nat) (w:World),(∀ b o x,M b o x->∃ v,w.cell? ⟨b,o,none⟩=some v/\v.oneCell'=true/\Rep M [] v x)->(∀ b,b∈bs->b<w.heap.size)->I.inv M bs w->l.inv M bs w):bM P f args obs r [.bun gg l]:=
 fun M ob w d hm z=>cU.mono (fun e w' ⟨M',ob',a,g,s⟩=>by
  have i:∀ {k b},aH ob' [.bun gg l] k b->aH ob' [.bun gg I] k b:=fun {k b} ⟨c,hs,e1,e2,e3,e4⟩=>by
   cases k with
   | zero=>exact ⟨_,hs,rfl,rfl,e3,e4⟩
   | succ k=>simp at e1
  refine ⟨M',ob',⟨a.imm,a.new,a.hs,a.os,a.tape,a.output,a.size,a.keep,fun k b n=>a.fresh k b (i n)⟩,⟨g.imm,g.len,fun k c j=>?_,fun k b n=>g.lt k b (i n),fun k u b h1 m=>g.inj k u b (i h1) (i m)⟩,s⟩
  cases k with
  | zero=>
   simp at j
   subst j
   obtain ⟨hs,h1,m,bs,h3,p,A⟩:=g.obj 0 _ rfl
   exact ⟨hs,h1,m,bs,h3,p,t _ _ _ g.imm (fun b y=>by obtain ⟨o,q,_⟩:=p b y;exact eY q) A⟩
  | succ k=>simp at j) (h M ob w d hm z)
theorem yL:∀ (n j i:Nat),i<n->(upto j n)[i]? =some (j+i)
 | 0,_,_,h=>by omega
 | n+1,j,0,_=>rfl
 | n+1,j,i+1,h=>by
  show (upto (j+1) n)[i]? =_
  rw [yL n (j+1) i o_,show j+1+i=j+(i+1) from by omega]
theorem aAK {ob0:Hs} {fr:List (Nat×AVal)} {R:Loop} {L L':List AObj} {n:Nat} (F:L.length=n) (h1:∀ hs∈ob0,hs.length=1) (hl:ob0.length<=n) (r:kP (upto 0 n) L=true) (i:N7 n (upto 0 n) (aE L) fr=fr) (y:gK n (upto 0 n) L=L'):
  ∀ (M:Imm) (bs:List Nat) (w:World),(∀ b o x,M b o x->∃ v,w.cell? ⟨b,o,none⟩=some v/\v.oneCell'=true/\Rep M [] v x)->(∀ b,b∈bs->b<w.heap.size)->(iR ob0 fr R L).inv M bs w->(iR ob0 fr R L').inv M bs w:=by
 rintro M bs w l e ⟨ob,H,D,A,B,u,z⟩
 subst y
 have hm:Mem M ob L w:=⟨l,D,A,fun k b a=>e b ((u b).2 ⟨k,a⟩),B⟩
 obtain ⟨p,C,G⟩:=hm.cvt (n0:=n) r
 refine ⟨dU n ob L 0 (upto 0 n),fun j hs g=>?_,p.len,p.obj,p.inj,fun b=>(u b).trans ⟨fun ⟨k,a⟩=>?_,fun ⟨j,a⟩=>?_⟩,fun t=>?_⟩
 .have d:j<n:=Dp (Ab.1 g).1 hl
  obtain ⟨hs',f,t,s⟩:=H j hs g
  have q:=h1 hs (Av g)
  refine ⟨gT n j (aE L j) hs',?_,?_⟩
  .rw [fR,yL n 0 j d]
   simp [f]
  .unfold gT
   split
   .rw [<-s]
    have:(hs++t).take 1=hs:=by rw [Ea o_,Cf o_]
    rw [this]
    exact ⟨_,rfl⟩
   .exact ⟨t,s⟩
 .have m:k<n:=by
   obtain ⟨c,_,f,_⟩:=a
   rw [<-F]
   exact (Ab.1 f).1
  exact ⟨k,G k k b (by rw [yL n 0 k m,Bp]) a⟩
 .obtain ⟨k,_,h⟩:=C j b a
  exact ⟨k,h⟩
 .have:=hm.cvtV (n0:=n) r 5 _ _ (z t)
  rw [<-uT,i] at this
  exact this
structure RecOK (fn:Func) (p:Nat) (as bd:Code) (R:Loop):Prop where
 params:R.params= #[p]
 ready:R.state= .ready
 pend:R.pending=none
 assign:R.assign=as
 body:R.body=bd
 size:R.tmps.size=fn.ntmps
theorem To.range {E:Env} {fn:Func} {g:Goal} {x:Operand} {p:Nat} {as bd:Code} {ks:List KI} {fr:List (Nat×AVal)} {obs:List AObj} {f:FuncId} {C:List AVal} (m:List Nat) (hrd:E.rd=none) (hdf:E.df=[]) (hbo:pV E.P f)
  (hx:ev fr x= .func (.func f) [] C) (hk:∀ l R,kP m (kT obs (.bun 0 (cF l R)))=true) (hlt:(m.all fun k=>Dy k (aO obs))=true)
  (h:∀ (l:Nat) (ob0:Hs) (R:Loop),nW g ob0->RecOK fn p as bd R->∃ (L':List AObj) (b:Bool) (r:AVal) (s:List AObj) (gg:Nat),
   aA E.P f (.func (.yield l) [] []::dK (cvtV 0 m (aE (kT obs (.bun 0 (cF l R)))) 5) C) (gK 0 m (kT obs (.bun 0 (cF l R)))++[.bun 0 (iR ob0 fr R (nY m (kT obs (.bun 0 (cF l R)))))]) (.ret r) (s++[.bun gg (iR ob0 fr R L')])/\
   aE L' (aO obs)= .bun 0 (cF l (jR R b))/\s.length=m.length/\To E fn g (.code (if b then ks else .code .ret::ks) fr (bL L' (aO obs) .dead))):
  To E fn g (.code (.code (.rangeFunc x #[p] as bd)::ks) fr obs):=by
 refine .mk fun hok M0 n obs0 w0 a w hst hs=>?_
 obtain ⟨M,ob,hx0,hm,hfr,hsz,U,hlen⟩:=hs
 rw [hrd]
 refine KW.range fun fid=>?_
 obtain ⟨l,hl⟩:∃ l,l=w.heap.size+1:=⟨_,rfl⟩
 obtain ⟨R,hR⟩:∃ R:Loop,R={state:=.ready,pending:=none,fn:=fid,tmps:=a.tmps,params:= #[p],assign:=as,body:=bd,defers:=w.heap.size}:=⟨_,rfl⟩
 have J:RecOK fn p as bd R:=by subst hR;exact ⟨rfl,rfl,rfl,rfl,rfl,hsz⟩
 have htm:R.tmps=a.tmps:=by subst hR;rfl
 obtain ⟨D,Y⟩:∃ D,D=(w.alloc (.deferred (some []))).alloc (.loop R):=⟨_,rfl⟩
 obtain ⟨m1,x1⟩:=hm.layRec R
 rw [<-hl,<-Y] at m1 x1
 obtain ⟨A,hob1⟩:∃ A,A=ob++[[gH [l]]]:=⟨_,rfl⟩
 rw [<-hob1] at m1 x1
 obtain ⟨L',b,r,s,gg,hcall,hLk,hol,hto⟩:=h l n R hst J
 generalize H:kT obs (.bun 0 (cF l R))=obs1 at *
 have hobs1l:obs1.length=obs.length+1:=by rw [<-H,oJ];simp
 have hk1:kP m obs1=true:=by rw [<-H];exact hk l R
 have hltk:∀ k∈m,k<obs1.length:=fun k hk=>by
  have:=Cj.1 hlt k hk
  have:k<aO obs:=by simpa [Fe] using this
  rw [bF] at this
  omega
 obtain ⟨hwk,hdead⟩:=C5 m obs1 hltk
 have mC:=m1.weak hwk
 obtain ⟨c1,c2,c3⟩:=m1.cvt (n0:=0) hk1
 have hfr1:∀ t,Rep M A (R.tmps.getD t undef) (aZ fr t):=fun t=>by rw [htm];exact (hfr t).mono x1.imm x1.hs
 obtain ⟨bs,hbs,hpk⟩:=mC.pack (hx0.hs.trans x1.hs) hfr1
 have hcl:(dU 0 A obs1 0 m).length=m.length:=pI
 have hsl:(gK 0 m obs1).length=m.length:=lS
 have I:blk ([]++[gH bs])=bs:=by rw [mL,eL]
 obtain ⟨mI,aI⟩:=c1.snoc (c:=.bun 0 (iR n fr R (nY m obs1))) (hs:=[]++[gH bs]) (fun ob _=>hpk ob []) (fun b G=>by
   rw [I] at G
   obtain ⟨j,S⟩:=(hbs b).1 G
   exact mC.lt j b S) (fun j b F G=>by
   rw [I] at G
   obtain ⟨i,hi⟩:=(hbs b).1 G
   obtain ⟨k,e1,e2⟩:=c2 j b F
   have:=m1.inj k i b e2 (hwk.alive hi)
   subst this
   obtain ⟨c,_,q1,q2,_⟩:=hi
   rw [hdead k (Av e1)] at q1
   cases q1
   cases q2)
 -- the call
 have hev:=BO hfr x
 rw [hx] at hev
 obtain ⟨z,hax,hcl1,hcr⟩:∃ z:List Value,a.eval x= .func (.func f) #[] z.toArray/\z.length=C.length/\∀ (i:Nat) v y,z[i]? =some v->C[i]? =some y->Rep M ob v y:=by
  generalize a.eval x=va at hev
  cases hev with
  | func _ vfs vcs _ _ hl1 hl2 hr1 hr2=>
   have:vfs=[]:=Aq (by simpa using hl1)
   subst this
   exact ⟨vcs,rfl,hl2,hr2⟩
 have hargs:cD M (dU 0 A obs1 0 m++[[]++[gH bs]]) (.func (.yield l) #[] #[]::z) (.func (.yield l) [] []::dK (cvtV 0 m (aE obs1) 5) C):=by
  have hle:dL (dU 0 A obs1 0 m) (dU 0 A obs1 0 m++[[]++[gH bs]]):=fun j l S=>⟨l,by rw [Ag (Ab.1 S).1];exact S,Cz _⟩
  have h2:cD M (dU 0 A obs1 0 m) z (dK (cvtV 0 m (aE obs1) 5) C):=bU (fun v a hva=>m1.cvtV (n0:=0) hk1 5 v a (hva.mono x1.imm x1.hs)) hcl1 hcr
  refine cD.cons (.func (.yield l) [] [] [] [] rfl rfl (fun i v a h=>by simp at h) (fun i v a h=>by simp at h)) ⟨h2.1,fun i v a hv F=>(h2.2 i v a hv F).mono (fun _ _ _ h=>h) hle⟩
 have hrun:=hcall M _ D _ mI hargs
 have V:Calls E.P f (Value.func (.yield l) #[] #[]::z).toArray D fun e w'=>∃ M' ob',Ext M (dU 0 A obs1 0 m++[[]++[gH bs]]) (gK 0 m obs1++[.bun 0 (iR n fr R (nY m obs1))]) D M' ob' (s++[.bun gg (iR n fr R L')]) w'/\Mem M' ob' (s++[.bun gg (iR n fr R L')]) w'/\pU M' ob' e (.ret r):=by
  rcases hrun with ⟨_,q⟩ | ⟨u,w',q,_⟩
  .exact q
  .rw [hbo] at q;cases q
 have hent:(Instr.enterLoop fid a.tmps #[p] as bd none).run E.P w= .ok (l,[{target:=.collected w.heap.size,args:= #[]}]) D:=by
  rw [hl,Y,hR];exact run_enterLoop_outer ..
 refine ⟨l,[{target:=.collected w.heap.size,args:= #[]}],D,{target:=.fn (.func f) z.toArray,args:= #[.func (.yield l) #[] #[]]},f,_,hent,?_,?_,V.mono fun e w3 ⟨M',obI,Z,y2,y3⟩=>?_⟩
 .have:resolve a.eval (rangeCall x l) 0=Deferred.ofValue (a.eval x) #[.func (.yield l) #[] #[]]:=by simp [resolve,rangeCall,Act.eval]
  rw [this,hax]
  rfl
 .show (callFunc f (#[Value.func (.yield l) #[] #[]]++z.toArray)).run E.P D=_
  rw [hbo]
  simp
 -- fY the call
 obtain ⟨v,rfl⟩:∃ v,e= .returned v:=by
  cases e with
  | returned v=>exact ⟨v,rfl⟩
  | panicked ch=>exact y3.elim
  | outgrown=>exact y3.elim
 refine ⟨v,rfl,?_⟩
 have hbk:(s++[AObj.bun gg (iR n fr R L')])[s.length]? =some (.bun gg (iR n fr R L')):=by simp
 obtain ⟨hs',W,hh',hl',hle',mC',hal',hfr'⟩:=y2.unpack hbk
 have K:=bS hLk s_
 have hkl:aO obs=obs.length:=bF obs
 obtain ⟨_,_,_,_,_,L⟩:=mC'.recAt K
 -- the client's memory,from the statement on
 have inI:∀ {k b},aH (dU 0 A obs1 0 m++[[]++[gH bs]]) (gK 0 m obs1++[.bun 0 (iR n fr R (nY m obs1))]) k b->∃ k',aH A obs1 k' b:=fun {k b} F=>by
  rcases aI k b F with ⟨_,h⟩ | ⟨_,h⟩
  .obtain ⟨k',_,h⟩:=c2 k b h;exact ⟨k',h⟩
  .rw [I] at h
   obtain ⟨j,S⟩:=(hbs b).1 h
   exact ⟨j,hwk.alive S⟩
 have xnew:∀ b o y,M' b o y->M b o y\/D.heap.size<=b\/∃ k,aH A obs1 k b:=fun b o y hy=>by
  rcases Z.new b o y hy with q | q | ⟨k,q⟩
  .exact .inl q
  .exact .inr (.inl q)
  .exact .inr (.inr (inI q))
 have O:∀ b,b<D.heap.size->(∀ k,¬ aH A obs1 k b)->w3.heap[b]? =D.heap[b]?:=fun b G hn=>Z.keep b G fun k F=>by
  obtain ⟨k',hk'⟩:=inI F
  exact hn k' hk'
 have T:∀ k b,aH W L' k b->(∃ k',aH A obs1 k' b)\/D.heap.size<=b:=fun k b F=>by
  have G:b∈blk hs':=(hal' b).2 ⟨k,F⟩
  have:aH obI (s++[AObj.bun gg (iR n fr R L')]) s.length b:=⟨_,hs',hbk,rfl,hh',G⟩
  rcases Z.fresh _ b this with ⟨k',q⟩ | q
  .exact .inl (inI q)
  .exact .inr q
 have B:=hx0.trans x1
 -- from the function's start to here
 have X:Ext M0 n obs0 w0 M' W L' w3:=⟨fun b o y h=>Z.imm _ _ _ (B.imm _ _ _ h),fun b o y hy=>by
   rcases xnew b o y hy with h1 | h1 | ⟨i,hi⟩
   .exact B.new b o y h1
   .exact .inr (.inl (Cs B.size h1))
   .rcases B.fresh i b hi with h2 | h2
    .exact .inr (.inr h2)
    .exact .inr (.inl h2),hle',Z.os.trans B.os,Z.tape.trans B.tape,Z.output.trans B.output,Cs B.size Z.size,fun b G ho=>by
   rw [<-B.keep b G ho]
   refine O b (Dp G B.size) fun i hi=>?_
   rcases B.fresh i b hi with ⟨j,S⟩ | h2
   .exact ho j S
   .omega,fun i b hi=>by
   rcases T i b hi with ⟨j,S⟩ | h1
   .exact B.fresh j b S
   .exact .inr (Cs B.size h1)⟩
 have hnb:(jR R b).state≠ .busy:=by
  unfold jR
  cases b with
  | true=>rw [if_pos rfl,J.ready];intro h;cases h
  | false=>intro h;cases h
 have hend:=run_endLoop (P:=E.P) L hnb
 obtain ⟨t1,t2⟩:=mC'.recTurn K {jR R b with state:=.exhausted}
 obtain ⟨d1,d2⟩:=t1.drop (aO obs)
 have hfin:bL L' (aO obs) .dead=(L'.set (aO obs) (.bun 0 (cF l {jR R b with state:=.exhausted}))).set (aO obs) .dead:=by
  rw [aQ K,List.set_set]
 rw [<-hfin] at d1 d2
 have X2:Ext M0 n obs0 w0 M' W (bL L' (aO obs) .dead) (w3.putObj l (.loop {jR R b with state:=.exhausted})):=by
  have:=X.trans t2
  exact ⟨this.imm,this.new,this.hs,this.os,this.tape,this.output,this.size,this.keep,fun k b F=>this.fresh k b (d2 F)⟩
 refine ⟨(jR R b).pending,_,hend,?_⟩
 obtain ⟨hto⟩:=hto
 have hds0:=U
 rw [hdf] at U
 -- the marks
 have hw1d:D.heap[w.heap.size]? =some (.deferred (some [])):=by
  rw [Y,heap_alloc_old _ _ (by rw [cA];omega)]
  exact heap_alloc_new w _
 have N:∀ c:Nat,D.heap[c]? =some (Obj.deferred (some []))->(w3.putObj l (.loop {jR R b with state:=.exhausted})).heap[c]? =some (Obj.deferred (some [])):=fun c Q=>by
  have h3:w3.heap[c]? =some (Obj.deferred (some [])):=by
   rw [O c (eY Q) fun k F=>by
    obtain ⟨o,q1,q2⟩:=m1.alive_heap F
    rw [Q] at q1
    cases q1
    cases q2]
   exact Q
  rw [Fx fun e=>by subst e;rw [L] at h3;cases h3]
  exact h3
 have hmk:Mks w0 (w3.putObj l (.loop {jR R b with state:=.exhausted})) ({target:=.collected w.heap.size,args:= #[]}::a.defers):=by
  refine ⟨⟨w.heap.size,rfl,hx0.size,N _ hw1d,fun d hd e=>?_⟩,U.marks.same fun d _ c _ Q=>N c ?_⟩
  .have:∀ {ds:List Deferred},Mks w0 w ds->∀ d∈ds,∀ c,d.target= .collected c->c<w.heap.size:=by
    intro ds
    induction ds with
    | nil=>intro _ d hd;simp at hd
    | cons d0 ds ih=>
     rintro ⟨⟨b0,q1,q2,q3,q4⟩,q5⟩ d hd c Q
     rcases Ao.1 hd with rfl | hd
     .rw [q1] at Q;cases Q;exact eY q3
     .exact ih q5 d hd c Q
   have:=this U.marks d hd _ e
   omega
  .rw [Y,heap_alloc_old _ _ (by rw [cA];have:=eY Q;omega),heap_alloc_old _ _ (eY Q)]
   exact Q
 have hss:SS M0 n obs0 w0 fn.ntmps E.df fr (bL L' (aO obs) .dead) {a with defers:=[{target:=.collected w.heap.size,args:= #[]}]++a.defers} (w3.putObj l (.loop {jR R b with state:=.exhausted})):=by
  refine ⟨M',W,X2,d1,fun t=>?_,hsz,?_,?_⟩
  .have:=hfr' t
   rw [htm] at this
   exact this
  .rw [hdf];exact ⟨[],_,rfl,.nil,hmk⟩
  .have h1:=X2.lens
   have h2:=d1.len
   omega
 have hok2:bE fn.ntmps (if b then ks else .code .ret::ks)=true:=by
  have:bE fn.ntmps ks=true:=by
   simp only [bE,Af] at hok
   exact hok.2
  cases b with
  | true=>exact this
  | false=>simpa [bE,KI.ok,cZ] using this
 have key:=hto hok2 M0 n obs0 w0 _ _ hst hss
 rw [hrd] at key
 have hjump:((jR R b).pending.map KI.code).toList++ks=(if b then ks else .code .ret::ks):=by
  unfold jR
  cases b with
  | true=>rw [if_pos rfl,J.pend];rfl
  | false=>rfl
 rw [hjump]
 exact key
def aFK (sz:Nat):AVal->AVal
 | .nilslice=>.slice sz [] .nil
 | v=>v
theorem YV (sz:Nat) (M:Imm) (ob:Hs) (v:Value) (a:AVal) (h:Rep M ob v a):Rep M ob v (aFK sz a):=by
 unfold aFK
 split
 .cases h;exact .slnil _ _ rfl
 .exact h
theorem To.beginC {E:Env} {fn:Func} {g:Goal} {st:List KI} {fr:List (Nat×AVal)} {obs:List AObj} (k i:Nat) (e:TypeId) {T:TypeId} {cs:List AVal} {sz:Nat} (b:aE obs k= .cells T cs) (c:nth cs i=some (.slice sz [] .nil))
  (h:To E fn g (.code st fr (kT (bL obs k (.cells T (R9 cs i (.slice sz [] (.own (aO obs) 0))))) (.tail 0 sz e)))):To E fn g (.code st fr obs):=by
 have a:To E fn g (.head st fr (kT (bL obs k (.cells T (R9 cs i (.slice sz [] (.own (aO obs) 0))))) (.tail 0 sz e))):=h.rec fun h=>.mk h
 exact (To.begin k i e b c a).rec fun h=>.mk h
abbrev Hm:=Option Addr×Nat×List AVal
def hmV (m:Hm):Value:=.slice m.1 m.2.2.length m.2.1
def hmA (m:Hm):AVal:=.hsl m.1 m.2.2.length m.2.1
theorem aF3 (M:Imm) (ob:Hs) (m:Hm):Rep M ob (hmV m) (hmA m):=.hsl _ _ _
def kQ (sz:Nat) (e:TypeId) (ms:List Hm):BInv where
 inv M bs w:=(∀ (i:Nat) m,ms[i]? =some m->dD M w (hmV m) sz e m.2.2)/\(∀ (i j:Nat) m m' b,ms[i]? =some m->ms[j]? =some m'->(hmV m).ownBlock=some b->(hmV m').ownBlock=some b->i=j)/\
  ∀ b,b∈bs↔ ∃ (i:Nat) (m:Hm),ms[i]? =some m/\(hmV m).ownBlock=some b
 mono:=fun hM hn hb ⟨h1,h2,h3⟩=>⟨fun i m hm=>(h1 i m hm).mono hM (fun b e ho o=>hn b ((h3 b).2 ⟨i,m,hm,e⟩) o (ho o)) (fun b c e=>hb b c ((h3 b).2 ⟨i,m,hm,e⟩)),h2,h3⟩
section
variable {M:Imm} {ob:Hs} {obs:List AObj} {w:World}
theorem dD.blockAt {v:Value} {sz:Nat} {e:TypeId} {xs:List AVal} (h:dD M w v sz e xs) {b:Nat} (a:v.ownBlock=some b):∃ o,w.heap[b]? =some o/\AY o=false:=by
 obtain ⟨cv,⟨_,f⟩,_⟩:=h
 rcases f with ⟨rfl,_⟩ | ⟨g,d,i,j,_,c,_⟩
 .cases a
 .rw [j] at a;cases a;exact ⟨_,c,rfl⟩
theorem dD.nil (sz:Nat) (e:TypeId):dD M w (.slice none 0 0) sz e []:=
 ⟨[],Hi w 0 e sz,fun u h=>by simp at h,fun u h=>by simp at h,fun q c h=>by simp [aG] at h,fun b h=>(by cases h),AC w⟩
theorem dD.append {P:Program} (hm:Mem M ob obs w) {t I ty e:TypeId} {i:TypeInfo} {z:Value} (T:P.underlying t=some (.slice e)) (N:P.info? e=some i) (hz:i.zero=some z) (hz1:z.cells.toList.all (·.oneCell')=true)
  (F:z.cells.size=i.size) (h:0<i.size) {xs ys:List AVal} {v x:Value} (s:dD M w v i.size e xs) (hs:SrcA P M w i.size I x ys)
  (G:xs.length+ys.length<=maxLen) (g:(xs.length+ys.length)*i.bytes<=140737488355328):
  ∃ n w',(Cg #[t,I] ty #[v,x]).run P w= .ok n w'/\dD M w' n i.size e (xs++ys)/\w'.os=w.os/\w'.tape=w.tape/\w'.output=w.output/\w.heap.size<=w'.heap.size/\
   (∀ b,n.ownBlock=some b->v.ownBlock=some b\/w.heap.size<=b)/\∀ b,b<w.heap.size->v.ownBlock≠some b->w'.heap[b]? =w.heap[b]?:=by
 obtain ⟨cv,C,K,O,Q,L,R⟩:=s
 obtain ⟨⟨news,J,V⟩,W⟩:=hs
 obtain ⟨n,w',S,m,H,k,B,l,d,j⟩:=gL (P:=P) w t I ty e i z T N hz hz1 F v xs.length cv C K x ys.length news J G g
 have a:∀ b,n.ownBlock=some b->v.ownBlock=some b\/w.heap.size<=b:=fun b r=>by
  rcases d with ⟨q,_⟩ | ⟨q,_⟩
  .exact .inl (q▸r)
  .rw [q] at r;cases r;exact .inr (Bg _)
 refine ⟨n,w',S,⟨cv++news,by rw [Ar];exact m,fun u p=>?_,fun y A=>?_,fun q c D=>?_,fun b r o=>?_,j R⟩,H,k,B,l,a,fun b f U=>?_⟩
 .rcases Ay.1 p with p | p
  .exact K u p
  .exact J.one u p
 .rcases Ay.1 A with A | A
  .exact O y A
  .exact W y A
 .by_cases f:q<xs.length*i.size
  .rw [cI h f] at D
   rw [Ag (by rw [C.1];exact f)]
   exact Q q c D
  .rw [cB h o_] at D
   rw [Ak (by rw [C.1];omega),C.1]
   exact V _ c D
 .rcases a b r with q | q
  .exact L b q o
  .exact hm.noImm q o
 .rcases d with ⟨_,q⟩ | ⟨_,q⟩
  .exact q b U
  .exact q b f
theorem dD.hm {v:Value} {sz:Nat} {e:TypeId} {xs:List AVal} (h:dD M w v sz e xs):∃ a c,v=hmV (a,c,xs):=by
 obtain ⟨cv,g,_⟩:=h
 rcases dE g with ⟨q,f⟩ | ⟨b,d,q,_⟩
 .exact ⟨none,0,by rw [q,hmV];simp only [f]⟩
 .exact ⟨_,d,q⟩
theorem Mem.famAppend {P:Program} (h:Mem M ob obs w) {t tx ty e:TypeId} {i:TypeInfo} {z:Value} (ht:P.underlying t=some (.slice e)) (hi:P.info? e=some i) (hz:i.zero=some z) (hz1:z.cells.toList.all (·.oneCell')=true)
  (hzs:z.cells.size=i.size) (S:0<i.size) {k g j:Nat} {s:List Hm} {m:Hm} {ys:List AVal} (hx:obs[k]? =some (.bun g (kQ i.size e s))) (H:s[j]? =some m) {x:Value} (hs:SrcA P M w i.size tx x ys)
  (h63:m.2.2.length+ys.length<=maxLen) (F:(m.2.2.length+ys.length)*i.bytes<=140737488355328):
  ∃ a c w' ob',(Cg #[t,tx] ty #[hmV m,x]).run P w= .ok (hmV (a,c,m.2.2++ys)) w'/\Mem M ob' (obs.set k (.bun (g+1) (kQ i.size e (s.set j (a,c,m.2.2++ys))))) w'/\
   Ext M ob obs w M ob' (obs.set k (.bun (g+1) (kQ i.size e (s.set j (a,c,m.2.2++ys))))) w':=by
 obtain ⟨Q,hh,hl,bs,hv,hd,h1,X,h3⟩:=h.obj k _ hx
 have v:blk Q=bs:=(eJ hl hv).trans (eL _)
 obtain ⟨v',w',hr,G,hos,L,U,J,n,l⟩:=dD.append (P:=P) (ty:=ty) h ht hi hz hz1 hzs S (h1 j m H) hs h63 F
 obtain ⟨a,c,rfl⟩:=G.hm
 have hjl:j<s.length:=(Ab.1 H).1
 have get:∀ {q:Nat} {f:Hm},(s.set j (a,c,m.2.2++ys))[q]? =some f->(q=j/\f=(a,c,m.2.2++ys))\/(q≠j/\s[q]? =some f):=fun {q f} d=>by
  by_cases O:q=j
  .subst O;rw [Ax hjl] at d;cases d;exact .inl ⟨rfl,rfl⟩
  .rw [Bh (Eb O)] at d;exact .inr ⟨O,d⟩
 have r:∀ {q:Nat} {f:Hm} {b:Nat},s[q]? =some f->(hmV f).ownBlock=some b->b∈bs/\b<w.heap.size:=fun {q f b} d v=>by
  have:=(h3 b).2 ⟨q,f,d,v⟩
  obtain ⟨o,ho,_⟩:=hd b this
  exact ⟨this,eY ho⟩
 have C:∀ (q:Nat) f,(s.set j (a,c,m.2.2++ys))[q]? =some f->dD M w' (hmV f) i.size e f.2.2:=fun q f d=>by
  rcases get d with ⟨_,rfl⟩ | ⟨hne,d⟩
  .exact G
  .refine (h1 q f d).mono (fun _ _ _ h=>h) (fun _ _ h=>h) fun b c' v hc=>?_
   rw [l b (r d v).2 fun e=>hne (X q j f m b d H v e)]
   exact hc
 let D:=(s.set j (a,c,m.2.2++ys)).filterMap fun m=>(hmV m).ownBlock
 have B:∀ b,b∈D↔ ∃ (i:Nat) (f:Hm),(s.set j (a,c,m.2.2++ys))[i]? =some f/\(hmV f).ownBlock=some b:=fun b=>by
  simp only [D,List.mem_filterMap]
  constructor
  .rintro ⟨f,R,T⟩
   obtain ⟨q,d⟩:=Cp R
   exact ⟨q,f,d,T⟩
  .rintro ⟨q,f,R,T⟩
   exact ⟨f,Av R,T⟩
 have hno:∀ {b o y},M b o y->(hmV m).ownBlock≠some b:=fun {b o y} Z e=>by
  obtain ⟨_,_,_,_,_,o5,_⟩:=h1 j m H
  exact o5 b e o y Z
 have I:=h.turn (M':=M) (w':=w') (x':=.bun (g+1) (kQ i.size e (s.set j (a,c,m.2.2++ys)))) (hs':=Q++[gH D]) hx hh ⟨_,rfl⟩ (fun e=>by cases e) (fun _ _ _ h=>h) (fun _ _ _ h=>.inl h) (fun b o y Z=>by
   obtain ⟨u,hu,R,T⟩:=h.imm b o y Z
   have K:b<w.heap.size:=by simpa using Cr w _ hu
   exact ⟨u,(Co (w:=w) (a:=⟨b,o,none⟩) (l b K (hno Z))).trans hu,R,T⟩)
  (fun b K hn=>l b K fun e=>hn ⟨rfl,by rw [v];exact (r H e).1⟩) hos L U J
  (fun _=>⟨by simp [hl],D,by rw [<-hl];simp,fun b v=>by
   obtain ⟨q,f,d,v⟩:=(B b).1 v
   exact (C q f d).blockAt v,C,fun q q' m1 m2 b d A Y W=>by
   rcases get d with ⟨r1,rfl⟩ | ⟨r1,d⟩<;>rcases get A with ⟨r2,rfl⟩ | ⟨r2,A⟩
   .rw [r1,r2]
   .rcases n b Y with p | p
    .exact absurd (X j q' m m2 b H A p W) (fun e=>r2 e.symm)
    .have:=(r A W).2;omega
   .rcases n b W with p | p
    .exact absurd (X q j m1 m b d H Y p) r1
    .have:=(r d Y).2;omega
   .exact X q q' m1 m2 b d A Y W,B⟩)
  (fun _ b V=>by
   rw [mL,eL] at V
   obtain ⟨q,f,d,N⟩:=(B b).1 V
   refine ⟨?_,by obtain ⟨o,ho,_⟩:=(C q f d).blockAt N;exact eY ho⟩
   rw [v]
   rcases get d with ⟨_,rfl⟩ | ⟨_,d⟩
   .rcases n b N with p | p
    .exact .inl ⟨rfl,(r H p).1⟩
    .exact .inr p
   .exact .inl ⟨rfl,(r d N).1⟩)
 exact ⟨a,c,w',_,hr,I.1,I.2.1⟩
end
section
variable {E:Env} {fn:Func} {g:Goal}
inductive HandA (E:Env) (fn:Func) (g:Goal) (all:List Oper) (tab:List Nat) (ks:List KI) (n:Nat) (d:Option Nat) (s x:Operand) (t t2:TypeId) (l2:List Oper) (fr:List (Nat×AVal)) (obs:List AObj):Prop
 | mk (k gg j:Nat) (ms:List Hm) (m:Hm) (ys:List AVal) (e esz eb sz:Nat) (ag:Bool) (z:AVal) (hk:aE obs k= .bun gg (kQ esz e ms)) (hj:ms[j]? =some m) (hs:ev fr s=hmA m) (hT:cR E.T t=some {kind:=.slc e esz eb,size:=sz,agg:=ag,zero:=z})
   (hp:Ew 1 esz=true) (hx:VY E (aE obs) esz t2 (ev fr x)=some ys) (hf:BE (m.2.2.length+ys.length) eb)
   (h:∀ a c,To E fn g (.mid ⟨all,false,tab,ks⟩ (n+1) l2 [] (kO fr d (hmA (a,c,m.2.2++ys))) (bL obs k (.bun (gg+1) (kQ esz e (ms.set j (a,c,m.2.2++ys)))))))
theorem QM {M:Imm} {ob:Hs} {v:Value} {m:Hm} (h:Rep M ob v (hmA m)):v=hmV m:=by cases h;rfl
theorem B3 {rd:Option Nat} {ops:Array Oper} {M0:Imm} {ob0:Hs} {obs0:List AObj} {w0:World} {sz:Nat} {dfs:List (Nat×List AVal)} {Q:Exit->Act->World->Prop} {K:List (Nat×AVal)->List AObj->Prop} {Kp:(Nat->AVal)->AVal->List AObj->Prop} {rest:List Oper}
  (hE:EnvOK E) (hp:∀ g v obs c a w,Kp g v obs->PP M0 ob0 obs0 w0 sz dfs g v obs c a w->Q (.panic c) a w) (k:∀ fr obs a w,K fr obs->SS M0 ob0 obs0 w0 sz dfs fr obs a w->wpListIn (fen rd) 0 E.P ops Q rest a w):
  ∀ (l:List Oper) (n:Nat) (fr:List (Nat×AVal)) (obs:List AObj) (a:Act) (w:World),(∀ p∈l,∀ d,p.dst=some d->d<sz)->dZ E ops.toList K Kp n l fr obs->SS M0 ob0 obs0 w0 sz dfs fr obs a w->wpListIn (fen rd) 0 E.P ops Q (l++rest) a w
 | [],n,fr,obs,a,w,_,h,hs=>k fr obs a w h hs
 | p::l,n,fr,obs,a,w,hd,h,hs=>by
  refine wk (IE (K:=fun fr obs=>dZ E ops.toList K Kp (n+1) l fr obs) (Kp:=Kp) (hint:=eD E p.dst) hE hs (hd p s_) ?_ fun v obs c w f e=>hp (aZ fr) v obs c a w f e) fun m w' ⟨i,obs',f,hs'⟩=>B3 hE hp k l (n+1) i obs' m w' (fun p hp=>hd p (by simp [hp])) f hs'
  simp only [dZ] at h
  cases j:cC ops.toList (ev fr) p.guard with
  | none=>rw [j] at h;exact h.elim
  | some b=>
   rw [j] at h
   cases b with
   | false=>exact h
   | true=>
    exact iO (fun v o h=>sF h) h
theorem FP {P:Program} {s x:Operand} {t b:TypeId} {p:Oper} (hp:p.op= .call {callee:=.builtin .append,args:= #[s,x],argTypes:= #[t,b]}) {ρ:Operand->Value} {w w':World} {v:Value}
  (h:(Cg #[t,b] p.type #[ρ s,ρ x]).run P w= .ok v w'):(execOp ρ p).run P w= .ok (.value v) w':=by
 obtain ⟨d,op,ty,pos,a,c⟩:=p
 dsimp only at hp
 subst hp
 simp [execOp,resolve,invoke,builtin,h]
theorem To.handA (hE:EnvOK E) {id:Nat} {ops:Array Oper} {tab:List Nat} {ks:List KI} {fr:List (Nat×AVal)} {obs:List AObj} {l1 l2:List Oper} {p:Oper} {s x:Operand} {t S:TypeId} (b:ops.toList=l1++p::l2)
  (hp:p.op= .call {callee:=.builtin .append,args:= #[s,x],argTypes:= #[t,S]}) (hg:p.guard=none)
  (h:dZ E ops.toList (HandA E fn g ops.toList tab ks l1.length p.dst s x t S l2) (kF E fn g) 0 l1 fr obs):To E fn g (.code (.code (.region id ops false)::ks) fr obs):=
 .mk fun ho M0 ob0 obs0 w0 a w hst hs=>by
  simp only [bE,KI.ok,cZ,Af] at ho
  obtain ⟨⟨ho1,ho2⟩,L⟩:=ho
  have W:=qQ ho1
  refine KW.code (Q':=QR E fn g M0 ob0 obs0 w0 ks) ?_ (fun a w h=>h) (fun f a w h=>h) (fun e a w hh=>by
   cases e<;>first | exact .inl rfl | exact .inr ⟨_,rfl⟩ | exact hh.elim)
  have l:∀ n v obs f a w,kF E fn g n v obs->PP M0 ob0 obs0 w0 fn.ntmps E.df n v obs f a w->pS E fn M0 ob0 obs0 w0 g (.panic f) a w:=fun n v obs f a w he l=>GS he hst l
  have hq:∀ fr obs a w,dB E fn g ks fr obs->SS M0 ob0 obs0 w0 fn.ntmps E.df fr obs a w->KW E.rd E.P (pS E fn M0 ob0 obs0 w0 g) ks a w:=fun fr obs a w Y hs=>Y L M0 ob0 obs0 w0 a w hst hs
  refine wpIn_region_list ?_
  have I:∀ fr obs a w,HandA E fn g ops.toList tab ks l1.length p.dst s x t S l2 fr obs->SS M0 ob0 obs0 w0 fn.ntmps E.df fr obs a w->wpListIn (fen E.rd) 0 E.P ops (QR E fn g M0 ob0 obs0 w0 ks) (p::l2) a w:=by
   rintro fr obs a w ⟨k,gg,j,ms,m,ys,e,esz,eb,sz,ag,z0,Y,hj,T,hT,d,hx1,hf,o⟩ hs
   obtain ⟨M,ob,hx,hm,u,A,J,h0⟩:=hs
   obtain ⟨⟨hu,i,z,hi,Z,R,hz,U,hz1⟩,_⟩:=(hE.tab t _ hT).kind
   subst Z R
   have d:=Ca d
   have D:=BO (a:=a) u
   have r:=L5 hE hm (D x) hx1 d
   have y:=bS Y s_
   have V:a.eval s=hmV m:=by
    have:=D s
    rw [T] at this
    exact QM this
   obtain ⟨H,C,w',ob',q,m1,B⟩:=hm.famAppend (P:=E.P) (ty:=p.type) hu hi hz hz1 U d y hj r hf.1 hf.2
   have N:nQ E.P p a.eval w (fun e O=>e= .returned (hmV (H,C,m.2.2++ys))/\O=w'):=.inl ⟨_,_,FP hp (by rw [V];exact q),rfl,rfl⟩
   refine wk (next:=fun a w=>SS M0 ob0 obs0 w0 fn.ntmps E.df (kO fr p.dst (hmA (H,C,m.2.2++ys))) (bL obs k (.bun (gg+1) (kQ i.size e (ms.set j (H,C,m.2.2++ys))))) a w) ?_ fun a w hs=>?_
   .unfold G
    rw [if_pos (by simp [Dx,hg])]
    refine N.wpIn (by intro c;rw [hp];simp) (fun v O ⟨X,e2⟩=>?_) (fun f O ⟨X,_⟩=>by cases X)
    cases X
    subst e2
    rw [aQ y]
    have:=B.lens
    have:=m1.len
    refine ⟨M,ob',hx.trans B,m1,?_,(eI _ _ _).1.trans A,(J.ext hm B).put,by have h1:=hm.len;omega⟩
    rw [eR]
    exact lK (fun t=>(u t).mono B.imm B.hs) (aF3 M ob' (H,C,m.2.2++ys)) fun d' e=>A▸W p (by rw [b];simp) d' e
   .obtain ⟨o⟩:=o H C
    exact pL (rd:=E.rd) (Q:=QR E fn g M0 ob0 obs0 w0 ks) (K:=dB E fn g ks) (Kp:=kF E fn g) hE (fun n v obs f a w h1 F=>l n v obs f a w h1 F) (fun fr obs a w h1 F=>hq fr obs a w h1 F) l2 (l1.length+1) _ _ a w (fun p hp=>W p (by rw [b];simp [hp])) o hs
  rw [b]
  exact B3 (rd:=E.rd) (Q:=QR E fn g M0 ob0 obs0 w0 ks) (Kp:=kF E fn g) hE (fun n v obs f a w h1 F=>l n v obs f a w h1 F) I l1 0 fr obs a w (fun p hp=>W p (by rw [b];simp [hp])) h hs
theorem To.objTo {st:List KI} {fr:List (Nat×AVal)} {obs:List AObj} (k:Nat) {x x':AObj} (t:aE obs k=x) (y:x≠ .dead) (f:x.owns=true) (z:∀ M ob w hs,(∀ b,b∈blk hs->b<w.heap.size)->gZ M ob w hs x->gZ M ob w hs x')
  (h:To E fn g (.code st fr (bL obs k x'))):To E fn g (.code st fr obs):=
 .mk fun q M0 ob0 obs0 w0 a w hst hs=>by
  obtain ⟨M,ob,d,hm,p,B,A,u⟩:=hs
  have e:=bS t y
  refine h.rec fun h=>h q M0 ob0 obs0 w0 a w hst ?_
  rw [aQ e]
  have o:=(Ab.1 e).1
  have n:∀ {i b},aH ob (obs.set k x') i b->aH ob obs i b:=fun {i b} ⟨c,hs,e1,e2,e3,e4⟩=>by
   by_cases l:i=k
   .subst l;exact ⟨x,hs,e,f,e3,e4⟩
   .rw [Bh (Eb l)] at e1;exact ⟨c,hs,e1,e2,e3,e4⟩
  refine ⟨M,ob,⟨d.imm,d.new,d.hs,d.os,d.tape,d.output,d.size,d.keep,fun i b s=>d.fresh i b (n s)⟩,⟨hm.imm,by simpa using hm.len,fun i c m=>?_,fun i b s=>hm.lt i b (n s),fun i j b h1 r=>hm.inj i j b (n h1) (n r)⟩,p,B,A,by simpa using u⟩
  by_cases l:i=k
  .subst l
   rw [Ax o] at m
   cases m
   obtain ⟨hs,h1,r⟩:=hm.obj i x e
   exact ⟨hs,h1,z _ _ _ _ (fun b v=>hm.lt i b ⟨x,hs,e,f,h1,v⟩) r⟩
  .rw [Bh (Eb l)] at m
   exact hm.obj i c m
theorem To.beginF {st:List KI} {fr:List (Nat×AVal)} {obs:List AObj} (sz:Nat) (e:TypeId) (h:To E fn g (.code st fr (kT obs (.bun 0 (kQ sz e []))))):To E fn g (.code st fr obs):=
 .mk fun r M0 ob0 obs0 w0 a w hst hs=>by
  obtain ⟨M,ob,o,hm,p,x,v,A⟩:=hs
  refine h.rec fun h=>h r M0 ob0 obs0 w0 a w hst ?_
  rw [oJ]
  have f:blk [gH []]=[]:=eL _
  obtain ⟨u,y⟩:=hm.snoc (c:=.bun 0 (kQ sz e [])) (hs:=[gH []]) (fun ob _=>⟨rfl,[],rfl,fun b f=>by simp at f,fun i m h=>by simp at h,fun i j m B b h=>by simp at h,fun b=>⟨fun h=>by simp at h,fun ⟨i,m,h,_⟩=>by simp at h⟩⟩) (fun b h=>by rw [f] at h;simp at h) (fun k b _=>by rw [f];simp)
  have d:dL ob (ob++[[gH []]]):=fun j l s=>⟨l,by rw [Ag (Ab.1 s).1];exact s,Cz _⟩
  have n:Ext M ob obs w M (ob++[[gH []]]) (obs++[.bun 0 (kQ sz e [])]) w:=⟨fun _ _ _ h=>h,fun _ _ _ h=>.inl h,d,rfl,rfl,rfl,Bg _,fun _ _ _=>rfl,fun k b z=>by
   rcases y k b z with ⟨_,q⟩ | ⟨_,q⟩
   .exact .inl ⟨k,q⟩
   .rw [f] at q;simp at q⟩
  exact ⟨M,_,o.trans n,u,fun t=>(p t).mono (fun _ _ _ h=>h) d,x,v.ext hm n,by simp;omega⟩
theorem aDf {M:Imm} {ob:Hs} {w:World} {hs:List Value} {gg sz:Nat} {e:TypeId} {d:List Hm} (h:gZ M ob w hs (.bun gg (kQ sz e d))):gZ M ob w hs (.bun gg (kQ sz e (d++[(none,0,[])]))):=by
 obtain ⟨h1,bs,g,h3,o,q,k⟩:=h
 have get:∀ {i:Nat} {m:Hm},(d++[((none,0,[]):Hm)])[i]? =some m->d[i]? =some m\/(i=d.length/\m=(none,0,[])):=fun {i m} a=>by
  by_cases hl:i<d.length
  .rw [Ag hl] at a;exact .inl a
  .have g:i=d.length:=by have:=(Ab.1 a).1;simp at this;omega
   subst g
   rw [Ak s_] at a
   simp at a
   exact .inr ⟨rfl,a.symm⟩
 refine ⟨h1,bs,g,h3,fun i m a=>?_,fun i j m p b a f c l=>?_,fun b=>⟨fun n=>?_,fun ⟨i,m,a,c⟩=>?_⟩⟩
 .rcases get a with a | ⟨_,rfl⟩
  .exact o i m a
  .exact dD.nil sz e
 .rcases get a with a | ⟨_,rfl⟩
  .rcases get f with f | ⟨_,rfl⟩
   .exact q i j m p b a f c l
   .cases l
  .cases c
 .obtain ⟨i,m,a,c⟩:=(k b).1 n
  exact ⟨i,m,by rw [Ag (Ab.1 a).1];exact a,c⟩
 .rcases get a with a | ⟨_,rfl⟩
  .exact (k b).2 ⟨i,m,a,c⟩
  .cases c
theorem aBO {M:Imm} {ob:Hs} {w:World} {hs:List Value} {gg:Nat} {e:TypeId} {d:List Hm} (h:gZ M ob w hs (.row gg 1 e (d.map hmA++[.nilslice]))):gZ M ob w hs (.row gg 1 e ((d++[(none,0,[])]).map hmA)):=by
 obtain ⟨h1,v,r,cv,p,n,t,g,s,j⟩:=h
 refine ⟨h1,v,r,cv,by simpa using p,n,fun x b=>?_,fun q c o=>?_,s,j⟩
 .simp only [Bu] at b
  obtain ⟨m,_,rfl⟩:=b
  rfl
 .have one:∀ {l:List AVal} {q:Nat} {c:AVal},(∀ x∈l,x.cells=[x])->(aG 1 l q=some c↔l[q]? =some c):=fun {l q c} hl=>by
   unfold aG
   rw [Jt,Nat.mod_one]
   cases f:l[q]? with
   | none=>simp
   | some x=>simp [hl x (Av f)]
  have a:=(one (fun x b=>by simp only [Bu] at b;obtain ⟨m,_,rfl⟩:=b;rfl)).1 o
  rw [Bm] at a
  by_cases hl:q<d.length
  .rw [Ag (by simpa using hl)] at a
   exact g q c ((one (fun x b=>by
    simp only [Ay,Bu,Dd] at b
    rcases b with ⟨m,_,rfl⟩ | rfl<;>rfl)).2 (by rw [Ag (by simpa using hl)];exact a))
  .have f:q=d.length:=by have:=(Ab.1 a).1;simp at this;omega
   subst f
   rw [Ak s_] at a
   simp at a
   obtain ⟨u,i,k⟩:=g d.length .nilslice ((one (fun x b=>by
    simp only [Ay,Bu,Dd] at b
    rcases b with ⟨m,_,rfl⟩ | rfl<;>rfl)).2 (by rw [Ak s_];simp))
   refine ⟨u,i,?_⟩
   subst a
   cases k
   exact .hsl _ _ _
end
section
variable {M:Imm} {ob:Hs} {obs:List AObj} {w:World}
theorem Mem.famFreeze (h:Mem M ob obs w) {k gg sz:Nat} {e:TypeId} {p:List Hm} (B:obs[k]? =some (.bun gg (kQ sz e p))):
  ∃ M' ob',Mem M' ob' (obs.set k (.bun (gg+1) (kQ sz e []))) w/\Ext M ob obs w M' ob' (obs.set k (.bun (gg+1) (kQ sz e []))) w/\∀ (i:Nat) m,p[i]? =some m->Rep M' [] (hmV m) (.slice sz m.2.2 .no):=by
 obtain ⟨d,C,hl,bs,F,K,h1,L,h3⟩:=h.obj k _ B
 have n:blk d=bs:=(eJ hl F).trans (eL _)
 let M':Imm:=fun b o y=>M b o y\/∃ (i:Nat) (m:Hm),p[i]? =some m/\(hmV m).ownBlock=some b/\aG sz m.2.2 o=some y
 have s:∀ b o y,M b o y->M' b o y:=fun _ _ _ h=>.inl h
 have c:=h.turn (M':=M') (w':=w) (x':=.bun (gg+1) (kQ sz e [])) (hs':=d++[gH []]) B C ⟨_,rfl⟩ (fun e=>by cases e) s (fun b o y a=>by
   rcases a with a | ⟨i,m,q,g,_⟩
   .exact .inl a
   .exact .inr (.inl ⟨rfl,by rw [n];exact (h3 b).2 ⟨i,m,q,g⟩⟩)) (fun b o y a=>by
   rcases a with a | ⟨i,m,q,g,r⟩
   .obtain ⟨u,I,H,D⟩:=h.imm b o y a
    exact ⟨u,I,H,D.monoM s⟩
   .obtain ⟨cv,l,z,x,A,_⟩:=h1 i m q
    obtain ⟨u,v,G⟩:=A o y r
    exact ⟨u,fI l g v,z u (Av v),G.monoM s⟩) (fun _ _ _=>rfl) rfl rfl rfl (Bg _)
  (fun _=>⟨by simp [hl],[],by rw [<-hl];simp,fun b n=>by simp at n,fun i m h=>by simp at h,fun i j m J b h=>by simp at h,fun b=>⟨fun h=>by simp at h,fun ⟨i,m,h,_⟩=>by simp at h⟩⟩)
  (fun _ b f=>by
   rw [mL,eL] at f
   simp at f)
 refine ⟨M',_,c.1,c.2.1,fun i m hm=>?_⟩
 obtain ⟨cv,l,z,x,A,_⟩:=h1 i m hm
 exact (iN (M:=M) (ob:=[]) l x (t:=.no) trivial).monoM fun b o y a=>by
  rcases a with a | ⟨g,r⟩
  .exact .inl a
  .exact .inr ⟨i,m,hm,g,r⟩
theorem Mem.objTo (hm:Mem M ob obs w) {k:Nat} {x x':AObj} (a:obs[k]? =some x) (g:x.owns=true) (o:∀ hs,ob[k]? =some hs->gZ M ob w hs x->gZ M ob w hs x'):Mem M ob (obs.set k x') w/\Ext M ob obs w M ob (obs.set k x') w:=by
 have l:=(Ab.1 a).1
 have f:∀ {i b},aH ob (obs.set k x') i b->aH ob obs i b:=fun {i b} ⟨c,hs,e1,e2,e3,e4⟩=>by
  by_cases d:i=k
  .subst d;exact ⟨x,hs,a,g,e3,e4⟩
  .rw [Bh (Eb d)] at e1;exact ⟨c,hs,e1,e2,e3,e4⟩
 refine ⟨⟨hm.imm,by simpa using hm.len,fun i c e=>?_,fun i b n=>hm.lt i b (f n),fun i j b h1 m=>hm.inj i j b (f h1) (f m)⟩,⟨fun _ _ _ h=>h,fun _ _ _ h=>.inl h,dL.refl _,rfl,rfl,rfl,Bg _,fun _ _ _=>rfl,fun i b n=>.inl ⟨i,f n⟩⟩⟩
 by_cases d:i=k
 .subst d
  rw [Ax l] at e
  cases e
  obtain ⟨hs,h1,m⟩:=hm.obj i x a
  exact ⟨hs,h1,o _ h1 m⟩
 .rw [Bh (Eb d)] at e
  exact hm.obj i c e
end
theorem B4 {l:List AVal} {q:Nat} {c:AVal} (hl:∀ x∈l,x.cells=[x]):aG 1 l q=some c↔l[q]? =some c:=by
 unfold aG
 rw [Jt,Nat.mod_one]
 cases a:l[q]? with
 | none=>simp
 | some x=>simp [hl x (Av a)]
theorem To.famFrz {E:Env} {fn:Func} {g:Goal} {st:List KI} {fr:List (Nat×AVal)} {obs:List AObj} (k r:Nat) {gg o sz:Nat} {e p:TypeId} {i:List Hm} (G:aE obs k= .bun gg (kQ sz e i)) (B:aE obs r= .row o 1 p (i.map hmA))
  (h:To E fn g (.code st fr (bL (bL obs k (.bun (gg+1) (kQ sz e []))) r (.row o 1 p (i.map fun m=>.slice sz m.2.2 .no))))):To E fn g (.code st fr obs):=
 .mk fun z M0 ob0 obs0 w0 a w hst hs=>by
  obtain ⟨M,ob,s,hm,y,O,L,V⟩:=hs
  have b:=bS G s_
  have f:=bS B s_
  have A:k≠r:=fun e=>by rw [e,f] at b;cases b
  refine h.rec fun h=>h z M0 ob0 obs0 w0 a w hst ?_
  rw [aQ b]
  have l:(obs.set k (.bun (gg+1) (kQ sz e [])))[r]? =some (.row o 1 p (i.map hmA)):=by rw [Bh A];exact f
  rw [aQ l]
  obtain ⟨M',ob',J,T,P⟩:=hm.famFreeze b
  obtain ⟨C,Q⟩:=J.objTo (x':=.row o 1 p (i.map fun m=>.slice sz m.2.2 .no)) l rfl fun hs _ ⟨h1,v,U,cv,H,R,W,I,S,F⟩=>by
   refine ⟨h1,v,U,cv,by simpa using H,R,fun x d=>?_,fun q c N=>?_,S,F⟩
   .simp only [Bu] at d
    obtain ⟨m,_,rfl⟩:=d
    rfl
   .have n:=(B4 (fun x d=>by simp only [Bu] at d;obtain ⟨m,_,rfl⟩:=d;rfl)).1 N
    rw [Bc] at n
    obtain ⟨m,j,rfl⟩:=Cb.1 n
    obtain ⟨u,D,K⟩:=I q (hmA m) ((B4 (fun x d=>by simp only [Bu] at d;obtain ⟨m,_,rfl⟩:=d;rfl)).2 (by rw [Bc,j];rfl))
    exact ⟨u,D,by rw [QM K];exact P q m j⟩
  have X:=T.trans Q
  have:=X.lens
  have:=C.len
  exact ⟨M',ob',s.trans X,C,fun t=>(y t).mono X.imm X.hs,O,L.ext hm X,by have h1:=hm.len;omega⟩
theorem To.handAt {E:Env} {fn:Func} {g:Goal} (hE:EnvOK E) (n:Nat) {id:Nat} {ops:Array Oper} (tab:List Nat) {ks:List KI} {fr:List (Nat×AVal)} {obs:List AObj} {p:Oper} {s x:Operand} {t b:TypeId} (c:ops.toList[n]? =some p)
  (hp:p.op= .call {callee:=.builtin .append,args:= #[s,x],argTypes:= #[t,b]}) (d:p.guard=none)
  (h:dZ E ops.toList (HandA E fn g ops.toList tab ks n p.dst s x t b (ops.toList.drop (n+1))) (kF E fn g) 0 (ops.toList.take n) fr obs):To E fn g (.code (.code (.region id ops false)::ks) fr obs):=by
 have a:=(Ab.1 c).1
 refine To.handA hE (tab:=tab) (l1:=ops.toList.take n) (l2:=ops.toList.drop (n+1)) (p:=p) ?_ hp d ?_
 .conv=>lhs;rw [<-Dj n ops.toList,Ac a]
  rw [(Ab.1 c).2]
 .rw [Es,Fh (Nat.le_of_lt a)]
  exact h
def zK (r:Nat):Code->Option Code
 | .region id ops dr=>bif Ap id r then some (.region id ops dr) else none
 | .seq a b=>(match zK r a with | some x=>some x | none=>zK r b)
 | .cond _ a b=>(match zK r a with | some x=>some x | none=>zK r b)
 | .block _ b=>zK r b
 | .loop b=>zK r b
 | _=>none
def tS (fn:Func) (r:Nat):List KI:=.code (match zK r (dA fn) with | some c=>c | none=>.skip)::fY fn r
theorem To.ofC {E:Env} {fn:Func} {g:Goal} {ks:List KI} {fr:List (Nat×AVal)} {obs:List AObj} (h:To E fn g (.code ks fr obs)):To E fn g (.head ks fr obs):=h.rec fun h=>.mk h
theorem To.toC {E:Env} {fn:Func} {g:Goal} {ks:List KI} {fr:List (Nat×AVal)} {obs:List AObj} (h:To E fn g (.head ks fr obs)):To E fn g (.code ks fr obs):=h.rec fun h=>.mk h
section
variable {E:Env} {all:List Oper} {tab:List Nat} {L0:Nat}
end
section
variable {E:Env} {ops:Array Oper} {tab:List Nat} {tl L0:Nat} {Kp:(Nat->AVal)->AVal->List AObj->Prop} {Q:AS->Prop}
end
section
variable {E:Env} {ops:Array Oper} {tab:List Nat} {tl L0:Nat} {Kp:(Nat->AVal)->AVal->List AObj->Prop} {Kq:List (Nat×AVal)->List AObj->Prop} {Q:AS->Prop}
end
section
variable {rd:Option Nat} {M0:Imm} {ob0:Hs} {obs0:List AObj} {w0:World} {sz:Nat} {dfs:List (Nat×List AVal)} {E:Env} {ops:Array Oper} {Q:Exit->Act->World->Prop} {K:AS->Prop} {Kp:(Nat->AVal)->AVal->List AObj->Prop} {tl L0:Nat} {tab:List Nat}
end
section
variable {E:Env} {ops:Array Oper} {tab:List Nat} {tl L0:Nat} {Kp:(Nat->AVal)->AVal->List AObj->Prop} {Kg:List (Nat×AVal)->List AObj->Prop}
end
def TZ (A tab:List Nat) (n t:Nat):Nat->List Oper->Bool
 | _,[]=>false
 | i,p::r=>(match p.dst with | some d=>Ap d t&&(qU i A&& !cK (cV tab n) i) | none=>false)||TZ A tab n t (i+1) r
def evP (A tab:List Nat) (all:List Oper) (n:Nat) (fr:List (Nat×AVal)):Operand->AVal
 | .tmp t=>bif TZ A tab n t 0 all then .undef else aZ fr t
 | x=>ev fr x
def G9 (A:List Nat) (t:Nat):Nat->List Oper->Bool
 | _,[]=>false
 | i,p::r=>(match p.dst with | some d=>Ap d t&&qU i A | none=>false)||G9 A t (i+1) r
def gP (A:List Nat) (all:List Oper) (fr:List (Nat×AVal)):Nat->AVal:=fun t=>bif G9 A t 0 all then .undef else aZ fr t
def AK (E:Env) (A tab:List Nat) (all:List Oper) (fr:List (Nat×AVal)) (obs:List AObj):List Nat->Prop
 | []=>True
 | i::r=>(match nth all i with
   | some p=>(match p.guard with
    | none=>(match p.dst with
     | some d=>eop E (eD E p.dst) (aO obs) (aE obs) (evP A tab all i fr) p.op p.type= .val (aZ fr d)
     | none=>False)
    | some _=>False)
   | none=>False)/\AK E A tab all fr obs r
def tO (tab:List Nat) (n:Nat):List Nat->List Nat
 | []=>[]
 | i::r=>bif cK (cV tab n) i then tO tab n r else i::tO tab n r
def P0 (fr:List (Nat×AVal)) (d:Option Nat) (v:AVal) (k:List (Nat×AVal)->Prop):Prop:=
 match d with
 | none=>k fr
 | some d=>zO fr d v k
theorem JA (fr:List (Nat×AVal)) (d:Option Nat) (v:AVal) (k:List (Nat×AVal)->Prop):P0 fr d v k=k (kO fr d v):=by
 cases d with
 | none=>rfl
 | some d=>exact kV fr d v k
def OG (E:Env) (A tab:List Nat) (all:List Oper) (K:List (Nat×AVal)->List AObj->Prop) (Kp:(Nat->AVal)->AVal->List AObj->Prop):List Nat->List Nat->List (Nat×AVal)->List AObj->Prop
 | [],U,fr,obs=>AK E A tab all fr obs U/\K fr obs
 | n::rest,U,fr,obs=>AK E A tab all fr obs U/\(match nth all n with
   | none=>False
   | some p=>(match p.guard with
    | some _=>False
    | none=>orF E.P obs (fun v obs'=>KD 5 v fun v=>ODL obs' fun obs'=>P0 fr p.dst v fun fr=>OG E A tab all K Kp rest (tO tab n U) fr obs') (Kp (gP A all fr))
            (eop E (eD E p.dst) (aO obs) (aE obs) (evP A tab all n fr) p.op p.type)))
def vR (E:Env) (A tab:List Nat) (all:List Oper) (obs:List AObj):List Nat->List (Nat×AVal)->(List (Nat×AVal)->Prop)->Prop
 | [],fr,k=>k fr
 | i::r,fr,k=>match nth all i with
  | some p=>(match p.dst with
   | some d=>(match eop E (eD E p.dst) (aO obs) (aE obs) (evP A tab all i fr) p.op p.type with
    | .val v=>KD 5 v fun v=>zO fr d v fun fr=>vR E A tab all obs r fr k
    | _=>False)
   | none=>False)
  | none=>False
def chB (tab:List Nat):List Nat->Bool
 | []=>true
 | n::r=>(r.all fun j=>cK (cV tab j) n)&&chB tab r
def aAF (A B:List Nat):Nat->Bool
 | 0=>true
 | n+1=>(qU n A||qU n B)&&aAF A B n
def YU (sz:Nat):List Nat->Bool
 | []=>true
 | n::r=>(Dy n sz&& !qU n r)&&YU sz r
def aEp (A B tab:List Nat) (sz:Nat):Bool:=((YU sz (A++B)&&aAF A B sz)&&chB tab B)
def pB (tab:List Nat) (n:Nat):List Nat->Bool
 | []=>true
 | j::r=>!(cK (cV tab n) j)&&pB tab n r
def IS (n:Nat):List Nat->List Nat
 | []=>[]
 | j::r=>bif Ap j n then r else j::IS n r
def tN (tab a:List Nat) (f:Nat->Prop):List Nat->Prop
 | []=>True
 | n::r=>bif pB tab n a then f n/\tN tab a f r else tN tab a f r
def yN (E:Env) (A tab:List Nat) (all:List Oper) (K:List (Nat×AVal)->List AObj->Prop) (Kp:(Nat->AVal)->AVal->List AObj->Prop):List Nat->List Nat->List Nat->List (Nat×AVal)->List AObj->Prop
 | [],_,U,fr,obs=>AK E A tab all fr obs U/\K fr obs
 | _::F,Bs,U,fr,obs=>AK E A tab all fr obs U/\tN tab Bs (fun n=>match nth all n with
   | none=>False
   | some p=>(match p.guard with
    | some _=>False
    | none=>orF E.P obs (fun v obs'=>KD 5 v fun v=>ODL obs' fun obs'=>P0 fr p.dst v fun fr=>yN E A tab all K Kp F (IS n Bs) (tO tab n U) fr obs') (Kp (gP A all fr))
      (eop E (eD E p.dst) (aO obs) (aE obs) (evP A tab all n fr) p.op p.type))) Bs
def aEi (A B tab:List Nat) (sz:Nat):Bool:=YU sz (A++B)&&aAF A B sz
theorem KJ {tab:List Nat} {n:Nat}:∀ {l:List Nat},(∀ j∈l,cK (cV tab n) j=false)->pB tab n l=true
 | [],_=>rfl
 | j::r,h=>by
  unfold pB
  rw [h j (Az ..),KJ fun k a=>h k (Bb _ a)]
  rfl
theorem PW (n:Nat):∀ l:List Nat,IS n l=l.erase n
 | []=>rfl
 | j::r=>by
  unfold IS
  rw [List.erase_cons,PW n r]
  by_cases e:j=n
  .subst e;simp
  .have:Ap j n=false:=by cases h:Ap j n with
    | false=>rfl
    | true=>exact absurd (Jd h) e
   rw [this]
   simp [e]
theorem BX {tab c:List Nat} {f:Nat->Prop} {n:Nat} (b:pB tab n c=true):∀ {l:List Nat},tN tab c f l->n∈l->f n
 | [],_,h=>by cases h
 | j::r,h,a=>by
  unfold tN at h
  by_cases e:n=j
  .subst e
   rw [b] at h
   exact h.1
  .have a:=(Ao.1 a).resolve_left e
   cases d:pB tab j c with
   | true=>rw [d] at h;exact BX b h.2 a
   | false=>rw [d] at h;exact BX b h a
theorem BW {tab a:List Nat} {f:Nat->Prop}:∀ {l:List Nat},(∀ j∈l,pB tab j a=false)->tN tab a f l
 | [],_=>trivial
 | j::r,h=>by
  unfold tN
  rw [h j (Az ..)]
  exact BW fun k b=>h k (Bb _ b)
theorem E1 {A B:List Nat}:∀ {n:Nat},aAF A B n=true->∀ i,i<n->i∈A\/i∈B
 | 0,_,i,hi=>by omega
 | n+1,h,i,hi=>by
  simp only [aAF,Af,Eg,jX] at h
  by_cases e:i=n
  .subst e;exact h.1
  .exact E1 h.2 i o_
theorem DV {sz:Nat}:∀ {l:List Nat},YU sz l=true->l.Nodup/\∀ i∈l,i<sz
 | [],_=>⟨Hn,fun i h=>by cases h⟩
 | n::r,h=>by
  simp only [YU,Af,Cm,Fe] at h
  obtain ⟨h1,b⟩:=DV h.2
  refine ⟨Bw.2 ⟨fun hm=>?_,h1⟩,fun i a=>?_⟩
  .have:=jX.2 hm
   rw [h.1.2] at this
   cases this
  .rcases Ao.1 a with rfl | a
   .exact h.1.1
   .exact b i a
theorem EB {A tab:List Nat} {n t:Nat}:∀ {l:List Oper} {k:Nat},TZ A tab n t k l=false->∀ (i:Nat) p,l[i]? =some p->p.dst=some t->(k+i)∈A->cK (cV tab n) (k+i)=true
 | [],_,_,i,p,hi,_,_=>by simp at hi
 | q::r,k,h,i,p,hi,hd,ha=>by
  simp only [TZ,Mj] at h
  cases i with
  | zero=>
   simp at hi
   subst hi
   have h1:=h.1
   rw [hd] at h1
   dsimp only at h1
   rw [Ll,Cd,show qU k A=true from jX.2 ha,Cd] at h1
   simpa using h1
  | succ i=>
   have:=EB (k:=k+1) h.2 i p (by simpa using hi) hd (by rwa [show k+1+i=k+(i+1) from by omega])
   rwa [show k+1+i=k+(i+1) from by omega] at this
theorem uY {A:List Nat} {t:Nat}:∀ {l:List Oper} {k:Nat},G9 A t k l=false->∀ (i:Nat) p,l[i]? =some p->(k+i)∈A->p.dst≠some t
 | [],_,_,i,p,hi,_=>by simp at hi
 | q::r,k,h,i,p,hi,ha=>by
  simp only [G9,Mj] at h
  cases i with
  | zero=>
   simp at hi
   subst hi
   intro a
   have h1:=h.1
   rw [a] at h1
   dsimp only at h1
   rw [Ll,Cd] at h1
   have:=jX.2 (show k∈A from ha)
   rw [h1] at this
   cases this
  | succ i=>exact uY (k:=k+1) h.2 i p (by simpa using hi) (by rwa [show k+1+i=k+(i+1) from by omega])
theorem RF {A:List Nat} {t:Nat}:∀ {l:List Oper} {k:Nat},G9 A t k l=true->∃ (i:Nat) (p:Oper),l[i]? =some p/\(k+i)∈A/\p.dst=some t
 | [],_,h=>by cases h
 | q::r,k,h=>by
  simp only [G9,Eg] at h
  rcases h with h | h
  .split at h
   .rename_i d a
    rw [Af,jX,Nat.beq_eq] at h
    exact ⟨0,q,rfl,h.2,by rw [a,h.1]⟩
   .cases h
  .obtain ⟨i,p,h1,b,h3⟩:=RF h
   exact ⟨i+1,p,by simpa using h1,by rwa [show k+1+i=k+(i+1) from by omega] at b,h3⟩
theorem J0 {E:Env} {A tab:List Nat} {all:List Oper} {fr:List (Nat×AVal)} {obs:List AObj}:∀ {U:List Nat},AK E A tab all fr obs U->∀ i∈U,∃ p d,all[i]? =some p/\p.guard=none/\p.dst=some d/\
  eop E (eD E p.dst) (aO obs) (aE obs) (evP A tab all i fr) p.op p.type= .val (aZ fr d)
 | [],_,i,a=>by cases a
 | j::r,h,i,a=>by
  rcases Ao.1 a with rfl | a
  .have h1:=h.1
   split at h1
   .rename_i p hp
    split at h1
    .rename_i c
     split at h1
     .rename_i d b
      exact ⟨p,d,lX hp,c,b,h1⟩
     .exact h1.elim
    .exact h1.elim
   .exact h1.elim
  .exact J0 h.2 i a
theorem EX {tab:List Nat} {n i:Nat}:∀ {U:List Nat},i∈U->cK (cV tab n) i=false->i∈tO tab n U
 | [],h,_=>by cases h
 | j::r,h,ht=>by
  unfold tO
  rcases Ao.1 h with rfl | h
  .rw [ht];exact Az ..
  .have:=EX h ht
   cases cK (cV tab n) j with
   | true=>exact this
   | false=>exact Bb _ this
theorem VI {E:Env} {A tab:List Nat} {all:List Oper} {K:List (Nat×AVal)->List AObj->Prop} {Kp:(Nat->AVal)->AVal->List AObj->Prop} {F a U:List Nat} {fr:List (Nat×AVal)} {obs:List AObj} (h:yN E A tab all K Kp F a U fr obs):AK E A tab all fr obs U:=by
 cases F with
 | nil=>exact h.1
 | cons n r=>exact h.1
theorem EJ {tab:List Nat} {n j:Nat} (a:cK (cV tab n) j=true):∀ {l:List Nat},j∈l->pB tab n l=false
 | k::r,h=>by
  unfold pB
  rcases Ao.1 h with e | h
  .subst e
   rw [a]
   rfl
  .rw [EJ a h,Bn]
theorem H4 {E:Env} {A tab:List Nat} {all:List Oper} {K:List (Nat×AVal)->List AObj->Prop} {Kp:(Nat->AVal)->AVal->List AObj->Prop}:∀ {B U:List Nat} {fr:List (Nat×AVal)} {obs:List AObj},chB tab B=true->OG E A tab all K Kp B U fr obs->yN E A tab all K Kp B B U fr obs
 | [],_,_,_,_,h=>h
 | n::r,U,fr,obs,hb,h=>by
  simp only [chB,Af,Cj] at hb
  refine ⟨h.1,?_⟩
  have rest:tN tab (n::r) (fun a=>match nth all a with
   | none=>False
   | some p=>(match p.guard with
    | some _=>False
    | none=>orF E.P obs (fun v obs'=>KD 5 v fun v=>ODL obs' fun obs'=>P0 fr p.dst v fun fr=>yN E A tab all K Kp r (IS a (n::r)) (tO tab a U) fr obs') (Kp (gP A all fr))
      (eop E (eD E p.dst) (aO obs) (aE obs) (evP A tab all a fr) p.op p.type))) r:=BW fun j b=>EJ (hb.1 j b) (Az ..)
  unfold tN
  cases pB tab n (n::r) with
  | false=>exact rest
  | true=>
   refine ⟨?_,rest⟩
   have h:=h.2
   split at h
   .exact h.elim
   .rename_i p hp
    split at h
    .exact h.elim
    .rename_i c
     try rw [c]
     try dsimp only
     refine iO (fun v o h=>?_) h
     rw [lE,pT,JA] at h⊢
     have e:IS n (n::r)=r:=by unfold IS;rw [Ll];rfl
     rw [e]
     exact H4 hb.2 h
section
variable {rd:Option Nat} {M0:Imm} {ob0:Hs} {obs0:List AObj} {w0:World} {sz:Nat} {dfs:List (Nat×List AVal)} {E:Env} {ops:Array Oper} {Q:Exit->Act->World->Prop} {K:List (Nat×AVal)->List AObj->Prop} {Kp:(Nat->AVal)->AVal->List AObj->Prop} {A tab:List Nat}
def SM (M0:Imm) (ob0:Hs) (obs0:List AObj) (w0:World) (sz:Nat) (dfs:List (Nat×List AVal)) (ops:Array Oper) (b:List Nat) (fr:List (Nat×AVal)) (obs:List AObj) (a:Act) (w:World):Prop:=
 ∃ M ob,Ext M0 ob0 obs0 w0 M ob obs w/\Mem M ob obs w/\(∀ t,(∀ i∈b,∀ p,ops[i]? =some p->p.dst≠some t)->Rep M ob (a.tmps.getD t undef) (aZ fr t))/\a.tmps.size=sz/\cQ w0 w M ob a.defers dfs/\ob0.length<=obs.length
theorem H1 {a:Array Bool} {j:Nat} (h:j∈Dk .any ops a) (e:a.size=ops.size):j<ops.size/\a.getD j false=false:=by
 obtain ⟨c,q,d,_⟩:=mem_ready.1 h
 have b:=(Dt.1 d).1
 rw [Bd,Fj o_] at c⊢
 exact ⟨b,by simpa using c⟩
theorem rV (c:TabSp ops tab) {a:Array Bool} (b:a.size=ops.size):∀ (n j:Nat),j<n->j<ops.size->a.getD j false=false->Dk .any ops a≠[]
 | 0,j,h,_,_=>by omega
 | n+1,j,h,hj,hl=>fun d=>by
  obtain ⟨p,hp⟩:∃ p,ops[j]? =some p:=⟨ops[j],Fj hj⟩
  have:j∈Dk .any ops a:=mem_ready.2 ⟨by
   rw [Bd,Fj o_] at hl⊢
   simpa using hl,p,hp,fun e i g=>by
    have k:=c.back j p hp e i g
    cases f:a.getD e.on false with
    | true=>rfl
    | false=>exact absurd d (rV c b n e.on o_ o_ f)⟩
  rw [d] at this
  cases this
theorem TB (hE:EnvOK E) (ht:TabSp ops tab) (hd:∀ (i:Nat) p,ops[i]? =some p->∀ d,p.dst=some d->d<sz)
  (hp:∀ g v obs ch a w,Kp g v obs->PP M0 ob0 obs0 w0 sz dfs g v obs ch a w->Q (.panic ch) a w) (hq:∀ fr obs a w,K fr obs->SS M0 ob0 obs0 w0 sz dfs fr obs a w->Q .normal a w):
  ∀ (D:Nat) (b:Array Bool) (F s z U:List Nat) (fr:List (Nat×AVal)) (obs:List AObj) (a:Act) (w:World),F.length=s.length->D=s.length+z.length->b.size=ops.size->lN tab b->
   (∀ i,i<ops.size->(b.getD i false=false↔i∈s\/i∈z))->(s++z).Nodup->(∀ i∈s,i<ops.size)->(∀ i∈z,i∈A/\i∈U/\i<ops.size)->
   yN E A tab ops.toList K Kp F s U fr obs->SM M0 ob0 obs0 w0 sz dfs ops z fr obs a w->wpAnyIn (fen rd) 0 E.P .any ops Q D b a w:=by
 intro D
 induction D with
 | zero=>
  intro b F s z U fr obs a w hF hf O hc c C R J h hs
  have e1:s=[]:=Aq o_
  have e2:z=[]:=Aq o_
  subst e1 e2
  obtain rfl:=Aq hF
  refine ⟨Gx.2 fun j k=>?_,hq fr obs a w h.2 ?_⟩
  .obtain ⟨h1,X⟩:=H1 k O
   rcases (c j h1).1 X with q | q<;>cases q
  .obtain ⟨M,ob,Y,hm,N,r⟩:=hs
   exact ⟨M,ob,Y,hm,fun t=>N t (fun i hi=>absurd hi Gs),r⟩
 | succ D ih=>
  intro b F s z U fr obs a w hF hf O hc c C R J h hs
  refine ⟨fun h0=>?_,fun i hi=>?_⟩
  .exfalso
   cases s with
   | cons n r=>
    have hn:=R n (Az ..)
    exact rV ht O (n+1) n o_ hn ((c n hn).2 (.inl (Az ..))) h0
   | nil=>
    cases z with
    | nil=>simp at hf
    | cons n r=>
     have hn:=(J n (Az ..)).2.2
     exact rV ht O (n+1) n o_ hn ((c n hn).2 (.inr (Az ..))) h0
  .obtain ⟨hilt,hil⟩:=H1 hi O
   obtain ⟨hc',V⟩:=hc.step ht hi
   obtain ⟨M,ob,Y,hm,N,G,hdf,h0⟩:=hs
   have hl:=hm.len
   have hev:∀ x,Rep M ob (a.eval x) (evP A tab ops.toList i fr x):=fun x=>by
    cases x with
    | const v=>exact pH v
    | global g=>exact .undef _
    | func f=>exact .func (.func f) [] [] [] [] rfl rfl (fun i v a h=>by simp at h) (fun i v a h=>by simp at h)
    | tmp t=>
     show Rep M ob _ (bif TZ A tab i t 0 ops.toList then .undef else aZ fr t)
     cases hh:TZ A tab i t 0 ops.toList with
     | true=>exact .undef _
     | false=>
      refine N t fun j k p hp m=>?_
      have h1:=EB hh j p (by simpa using hp) m (by rw [Bp];exact (J j k).1)
      rw [Bp] at h1
      have X:=V j h1
      rw [(c j (J j k).2.2).2 (.inr k)] at X
      cases X
   have L:∀ (Bs' UA':List Nat),(∀ j,(j∈Bs'\/j∈UA')↔(j∈s\/j∈z)/\j≠i)->∀ j,j<ops.size->((b.setIfInBounds i true).getD j false=false↔j∈Bs'\/j∈UA'):=fun Bs' UA' he j k=>by
    rw [he j]
    by_cases e:j=i
    .subst e
     rw [Bd,De o_]
     simp
    .rw [getD_set_ne false (Eb e),c j k]
     simp [e]
   have Z:(b.setIfInBounds i true).size=ops.size:=by simpa using O
   rcases (c i hilt).1 hil with hB | hA
   .
    cases F with
    | nil=>rw [Aq hF.symm] at hB;cases hB
    | cons n0 F=>
     have hfree:pB tab i s=true:=KJ fun j k=>by
      cases hq2:cK (cV tab i) j with
      | false=>rfl
      | true=>
       have X:=V j hq2
       rw [(c j (R j k)).2 (.inl k)] at X
       cases X
     obtain ⟨hok,h⟩:=h
     have h:=BX hfree h hB
     split at h
     .exact h.elim
     .rename_i p hnp
      have I:ops[i]? =some p:=by simpa using lX hnp
      split at h
      .exact h.elim
      .rename_i hg
       have h:orF E.P obs (fun v obs'=>yN E A tab ops.toList K Kp F (IS i s) (tO tab i U) (kO fr p.dst v) obs') (Kp (gP A ops.toList fr)) (eop E (eD E p.dst) (aO obs) (aE obs) (evP A tab ops.toList i fr) p.op p.type):=
        iO (fun v o h=>by rw [lE,pT,JA] at h;exact h) h
       have hw:Dx p (yielded ops a.tmps)=true:=by unfold Dx;rw [hg]
       unfold wpOpIn
       rw [I]
       dsimp only
       rw [if_pos hw]
       refine (xK hE hm hev h).wpIn (kY h) (fun u w' ⟨M',ob',L',H,x2,x3⟩=>?_) (fun ch w' ⟨M',ob',L',H,x2,x3⟩=>?_)
       .rcases x3 with ⟨u',v,e,hr,hk⟩ | ⟨ch,v,e,_⟩
        .cases e
         have:=H.lens
         have:=x2.len
         have hndB:s.Nodup:=(Br.1 C).1
         have l:∀ j,j∈s.erase i↔j≠i/\j∈s:=fun j=>hndB.mem_erase_iff
         have hlen:(s.erase i).length+1=s.length:=by
          rw [Lg hB]
          have:=Lt hB
          omega
         have T:i∉z:=fun hb=>(Br.1 C).2.2 i hB i hb rfl
         rw [PW] at hk
         refine ih (b.setIfInBounds i true) F (s.erase i) z (tO tab i U) _ L' _ w' (by simp at hF;omega) o_ Z hc' (L (s.erase i) z fun j=>?_) ?_ (fun j k=>R j ((l j).1 k).2) (fun j k=>?_) hk
          ⟨M',ob',Y.trans H,x2,fun t hmt=>?_,(eI _ _ _).1.trans G,(hdf.ext hm H).put,by omega⟩
         .rw [l j]
          constructor
          .rintro (⟨B,k⟩ | k)
           .exact ⟨.inl k,B⟩
           .exact ⟨.inr k,fun e=>T (e▸k)⟩
          .rintro ⟨k | k,B⟩
           .exact .inl ⟨B,k⟩
           .exact .inr k
         .refine Br.2 ⟨hndB.erase i,(Br.1 C).2.1,fun x Y y hy=>?_⟩
          exact (Br.1 C).2.2 x ((l x).1 Y).2 y hy
         .obtain ⟨k1,k2,k3⟩:=J j k
          refine ⟨k1,EX k2 ?_,k3⟩
          cases hq2:cK (cV tab i) j with
          | false=>rfl
          | true=>
           have X:=V j hq2
           rw [(c j k3).2 (.inr k)] at X
           cases X
         .rw [eR]
          unfold hC
          by_cases m:p.dst=some t
          .rw [if_pos m]
           have hlt:t<a.tmps.size:=G▸hd i p I t m
           rw [m]
           simp only [Act.put]
           rw [Bd,De hlt]
           exact hr
          .rw [if_neg m]
           have hold:=(N t hmt).mono H.imm H.hs
           cases W:p.dst with
           | none=>exact hold
           | some d=>
            have B:d≠t:=fun e=>m (by rw [W,e])
            simp only [Act.put]
            rw [Bd,Di B,<-Bd]
            exact hold
        .cases e
       .rcases x3 with ⟨u',v,e,_⟩ | ⟨ch',v,e,hr,hk⟩
        .cases e
        .cases e
         have:=H.lens
         have:=x2.len
         refine hp _ v L' ch a w' hk ⟨M',ob',Y.trans H,x2,hr,fun t=>?_,G,hdf.ext hm H,by omega⟩
         unfold gP
         cases hda:G9 A t 0 ops.toList with
         | true=>exact .undef _
         | false=>
          exact (N t fun j k q S=>uY hda j q (by simpa using S) (by rw [Bp];exact (J j k).1)).mono H.imm H.hs
   .
    obtain ⟨k1,k2,k3⟩:=J i hA
    obtain ⟨p,d,I,hg,W,hev2⟩:=J0 (VI h) i k2
    have I:ops[i]? =some p:=by simpa using I
    have hor:orF E.P obs (fun v obs'=>v=aZ fr d/\obs'=obs) (fun _ _=>False) (eop E (eD E p.dst) (aO obs) (aE obs) (evP A tab ops.toList i fr) p.op p.type):=by
     rw [hev2];exact ⟨rfl,rfl⟩
    have hw:Dx p (yielded ops a.tmps)=true:=by unfold Dx;rw [hg]
    unfold wpOpIn
    rw [I]
    dsimp only
    rw [if_pos hw]
    refine (xK hE hm hev hor).wpIn (kY hor) (fun u w' ⟨M',ob',L',H,x2,x3⟩=>?_) (fun ch w' ⟨M',ob',L',H,x2,x3⟩=>?_)
    .rcases x3 with ⟨u',v,e,hr,hk1,hk2⟩ | ⟨ch,v,e,_⟩
     .cases e
      subst hk1 hk2
      have hlt:d<a.tmps.size:=G▸hd i p I d W
      have hnod:z.Nodup:=(Br.1 C).2.1
      have l:∀ j,j∈z.erase i↔j≠i/\j∈z:=fun j=>hnod.mem_erase_iff
      have hlen:(z.erase i).length+1=z.length:=by
       rw [Lg hA]
       have:=Lt hA
       omega
      have T:i∉s:=fun hb=>(Br.1 C).2.2 i hb i hA rfl
      refine ih (b.setIfInBounds i true) F s (z.erase i) U fr L' _ w' hF o_ Z hc' (L s (z.erase i) fun j=>?_) ?_ R (fun j k=>J j ((l j).1 k).2) h
       ⟨M',ob',Y.trans H,x2,fun t hmt=>?_,(eI _ _ _).1.trans G,(hdf.ext hm H).put,h0⟩
      .rw [l j]
       constructor
       .rintro (k | ⟨B,k⟩)
        .exact ⟨.inl k,fun e=>T (e▸k)⟩
        .exact ⟨.inr k,B⟩
       .rintro ⟨k | k,B⟩
        .exact .inl k
        .exact .inr ⟨B,k⟩
      .refine Br.2 ⟨(Br.1 C).1,hnod.erase i,fun x Y y hy=>?_⟩
       exact (Br.1 C).2.2 x Y y ((l y).1 hy).2
      .rw [W]
       simp only [Act.put]
       by_cases m:d=t
       .subst m
        rw [Bd,De hlt]
        exact hr
       .rw [Bd,Di m,<-Bd]
        refine (N t fun j k q S=>?_).mono H.imm H.hs
        by_cases hji:j=i
        .subst hji
         rw [I] at S
         cases S
         rw [W]
         exact fun e=>m (Option.some.inj e)
        .exact hmt j ((l j).2 ⟨hji,k⟩) q S
     .cases e
    .rcases x3 with ⟨u',v,e,_⟩ | ⟨ch',v,e,hr,hk⟩
     .cases e
     .exact hk.elim
theorem yH {all:List Oper} {obs:List AObj}:∀ {l:List Nat} {fr:List (Nat×AVal)} {k:List (Nat×AVal)->Prop},vR E A tab all obs l fr k->(∀ i∈l,i∈A)->∃ a,k a/\∀ t,G9 A t 0 all=false->aZ a t=aZ fr t
 | [],fr,k,h,_=>⟨fr,h,fun t _=>rfl⟩
 | i::r,fr,k,h,hA=>by
  unfold vR at h
  split at h
  .rename_i p hp
   split at h
   .rename_i d f
    split at h
    .rename_i v m
     rw [lE,kV] at h
     obtain ⟨a,h1,g⟩:=yH h fun j c=>hA j (Bb _ c)
     refine ⟨a,h1,fun t b=>?_⟩
     rw [g t b,EE]
     have:=uY b i p (by simpa using lX hp) (by rw [Bp];exact hA i (Az ..))
     rw [if_neg fun e=>this (by rw [f,e])]
    .exact h.elim
   .exact h.elim
  .exact h.elim
end
theorem To.permT {E:Env} {fn:Func} {g:Goal} (hE:EnvOK E) (A B:List Nat) {id:Nat} {ops:Array Oper} {ks:List KI} {fr:List (Nat×AVal)} {obs:List AObj} (hst:aEi A B (gY [] ops.toList) ops.size=true)
  (h:vR E A (gY [] ops.toList) ops.toList obs A fr fun fr=>yN E A (gY [] ops.toList) ops.toList (fun fr obs=>To E fn g (.code ks fr obs)) (kF E fn g) B B A fr obs):To E fn g (.code (.code (.region id ops true)::ks) fr obs):=
 .mk fun N M0 ob0 obs0 w0 a w k hs=>by
  simp only [bE,KI.ok,cZ,Af] at N
  obtain ⟨⟨G,F⟩,D⟩:=N
  have Y:=qQ G
  refine KW.code (Q':=QR E fn g M0 ob0 obs0 w0 ks) ?_ (fun a w h=>h) (fun n a w h=>h) (fun e a w O=>by
   cases e<;>first | exact .inl rfl | exact .inr ⟨_,rfl⟩ | exact O.elim)
  have l:∀ o v obs n a w,kF E fn g o v obs->PP M0 ob0 obs0 w0 fn.ntmps E.df o v obs n a w->pS E fn M0 ob0 obs0 w0 g (.panic n) a w:=fun o v obs n a w R l=>GS R k l
  have y:∀ fr obs a w,To E fn g (.code ks fr obs)->SS M0 ob0 obs0 w0 fn.ntmps E.df fr obs a w->KW E.rd E.P (pS E fn M0 ob0 obs0 w0 g) ks a w:=fun fr obs a w x hs=>x.rec fun x=>x D M0 ob0 obs0 w0 a w k hs
  have W:TabSp ops (gY [] ops.toList):=zJ ops (by simpa using F)
  refine wpIn_region_any hE.mix ?_
  simp only [aEi,Af] at hst
  obtain ⟨S,X⟩:=hst
  obtain ⟨T,J⟩:=DV S
  have K:=E1 X
  obtain ⟨I,h1,q⟩:=yH h fun i b=>b
  have m:(B++A).Nodup:=List.perm_append_comm.nodup_iff.1 T
  have c:ops.size=B.length+A.length:=by
   have u:(B++A).length<=ops.size:=by
    have:=(m.sublist (Kv _))
    have h3:(B++A).Subset (Db ops.size):=fun i b=>Gt.2 (J i (by rw [Ay] at b⊢;exact b.symm))
    have:=m.length_le_of_subset h3
    simpa using this
   have r:ops.size<=(B++A).length:=by
    have h3:(Db ops.size).Subset (B++A):=fun i b=>by
     rw [Ay]
     exact (K i (Gt.1 b)).symm
    have:=List.nodup_range.length_le_of_subset h3
    simpa using this
   simp at u r
   omega
  obtain ⟨M,ob,U,hm,hf,V⟩:=hs.draw
  have f:∀ i,i<ops.size->(Fi ops.size false).getD i false=false:=fun i b=>by
   rw [Bd,Fj (by simpa using b)]
   simp
  refine TB (Q:=QR E fn g M0 ob0 obs0 w0 ks) hE W (fun i p b d H=>Y p (Av (i:=i) (by simpa using b)) d H) (fun o v obs n a w h1 q=>l o v obs n a w h1 q) (fun fr obs a w h1 q=>y fr obs a w h1 q) ops.size _ B B A A I obs a _ rfl c s_ (fun j i s _=>?_)
   (fun i b=>⟨fun _=>(K i b).symm,fun _=>f i b⟩) m (fun i b=>J i (Cu _ b)) (fun i b=>⟨b,b,J i (Dh _ b)⟩) h1 ⟨M,ob,U,hm,fun t C=>?_,V⟩
  .by_cases L:j<ops.size
   .rw [f j L] at s;cases s
   .rw [Bd,Lo (by simpa using L)] at s
    cases s
  .rw [q t ?_]
   .exact hf t
   .cases z:G9 A t 0 ops.toList with
    | false=>rfl
    | true=>
     obtain ⟨i,p,u,r,Z⟩:=RF z
     rw [Bp] at r
     exact absurd Z (C i r p (by simpa using u))
theorem yI {E:Env} {A tab:List Nat} {all:List Oper} {obs:List AObj} {k a:List (Nat×AVal)->Prop} (b:∀ fr,k fr->a fr):∀ {l:List Nat} {fr:List (Nat×AVal)},vR E A tab all obs l fr k->vR E A tab all obs l fr a
 | [],fr,h=>b fr h
 | i::r,fr,h=>by
  unfold vR at h⊢
  split at h
  .rename_i p hp
   split at h
   .rename_i d c
    split at h
    .rename_i v e
     simp only [c,e,lE,kV] at h⊢
     exact yI b h
    .exact h.elim
   .exact h.elim
  .exact h.elim
theorem To.permAt {E:Env} {fn:Func} {g:Goal} (hE:EnvOK E) (A B:List Nat) {id:Nat} {ops:Array Oper} {ks:List KI} {fr:List (Nat×AVal)} {obs:List AObj} (hst:aEp A B (gY [] ops.toList) ops.size=true)
  (h:vR E A (gY [] ops.toList) ops.toList obs A fr fun fr=>OG E A (gY [] ops.toList) ops.toList (fun fr obs=>To E fn g (.code ks fr obs)) (kF E fn g) B A fr obs):To E fn g (.code (.code (.region id ops true)::ks) fr obs):=by
 unfold aEp at hst
 rw [Af] at hst
 exact To.permT hE A B hst.1 (yI (fun fr h=>H4 hst.2 h) h)
theorem aY {p q:Prop} (h:p):(true=true->p)/\(true=false->q):=⟨fun _=>h,fun h=>absurd h d_⟩
theorem aN {p q:Prop} (h:q):(false=true->p)/\(false=false->q):=⟨fun h=>absurd h d_,fun _=>h⟩
theorem aT {a p q:Prop} [Decidable a] (h:decide a=true->p) (b:a:=by omega):(decide a=true->p)/\(decide a=false->q):=⟨h,fun h=>absurd b (of_decide_eq_false h)⟩
theorem aF {a p q:Prop} [Decidable a] (h:decide a=false->q) (b:¬ a:=by omega):(decide a=true->p)/\(decide a=false->q):=⟨fun h=>absurd (of_decide_eq_true h) b,h⟩
theorem aD {p q:Prop} (h:q) (hp:p:=by first | decide | omega):p/\q:=⟨hp,h⟩
theorem aL {p q:Prop} (h:q) (hp:p:=by repeat (first | exact trivial | refine Ad rfl ?_)):p/\q:=⟨hp,h⟩
theorem aJ {k:IntKind} {n:Int} {p q:Prop} (h:p) (h1:cL k<=n:=by simp only [cL];omega) (a:n<=bI k:=by simp only [bI];omega):(inR k n/\p)\/q:=.inl ⟨⟨h1,a⟩,h⟩
theorem gW {E:Env} {fn:Func} {g:Goal} {st:St} (hE:EnvOK E) (h:bN E fn g (To E fn g) 100 st):To E fn g st:=bV hE 100 h
theorem gN {E:Env} {fn:Func} {g:Goal} {st:St} (hE:EnvOK E) (h:bN E fn g (To E fn g) 100 st) (hs:P6 st=true:=by rfl):To E fn g st:=goN hE 100 hs h
theorem cT {E:Env} {f:FuncId} {fn:Func} {args:List AVal} {obs:List AObj} {g:Goal} (h:okL args->To E fn g (.code [.code (dA fn)] (frA 0 args) obs)) (d:E.df=[]:=by rfl) (l:E.P.funcs[f]? =some fn:=by rfl) (i:fn.body=some (dA fn):=by rfl)
  (e:pV E.P f:=by exact fun _ _=>by rfl) (a:cZ fn.ntmps (dA fn)=true:=by decide+kernel) (j:Ew args.length fn.ntmps=true:=by rfl) (c:rT obs=true:=by rfl) (k:obs.length=g.n0:=by rfl) (b:E.rd=none:=by rfl):aA E.P f args obs g.res g.obs:=
 aA.to d l i e a j c k h b
def JZ (k:AVal->Prop):OR->Prop
 | .val v=>k v
 | .need p r=>p/\JZ k r
 | .idx n f=>∃ i:Nat,n=(i:Int)/\JZ k (f i)
 | .elem xs i f=>∃ x,xs[i]? =some x/\JZ k (f x)
 | .find es key f=>∃ o,bO es key=o/\JZ k (f o)
 | _=>False
def C4 (E:Env) (A tab:List Nat) (all:List Oper) (obs:List AObj):List Nat->List (Nat×AVal)->(List (Nat×AVal)->Prop)->Prop
 | [],fr,k=>k fr
 | i::r,fr,k=>match nth all i with
  | some p=>(match p.dst with
   | some d=>JZ (fun v=>KD 5 v fun v=>zO fr d v fun fr=>C4 E A tab all obs r fr k) (eop E (eD E p.dst) (aO obs) (aE obs) (evP A tab all i fr) p.op p.type)
   | none=>False)
  | none=>False
section
variable {rd:Option Nat} {M0:Imm} {ob0:Hs} {obs0:List AObj} {w0:World} {sz:Nat} {dfs:List (Nat×List AVal)} {E:Env} {ops:Array Oper} {Q:Exit->Act->World->Prop} {K:List (Nat×AVal)->List AObj->Prop} {Kp:(Nat->AVal)->AVal->List AObj->Prop} {A tab:List Nat}
end
end Go.AW
