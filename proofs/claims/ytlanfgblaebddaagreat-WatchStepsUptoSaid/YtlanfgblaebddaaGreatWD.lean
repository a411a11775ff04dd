/-
  The engine, second make, fourth part: ranges over functions, families of rows, regions whose order is drawn. Over any program.
-/
import Derived.Test.YtlanfgblaebddaaGreatWC
set_option linter.all false
open And renaming intro->Aa
open Array renaming getD_eq_getD_getElem?->Aw,getElem?_eq_getElem->Fk,getElem?_eq_none->Iq,getElem?_eq_some_iff->Dw,getElem?_setIfInBounds_ne->Dk,getElem?_setIfInBounds_self_of_lt->Cs,replicate->Ey
open Bool renaming and_eq_true->Af,and_false->Ct,and_true->Kr,not_eq_true'->Co,or_eq_false_iff->Hl,or_eq_true->Fy,true_and->Bw
open Go.Builtin renaming append_->Cr
open Go.Region renaming ready->Dv,wanted->Ds
open Go.Value renaming int->Je
open Go.World renaming block_lt_of_cell?->Cy,cell?_of_block->Dc,ownsRow_nil->Hh,putObj_heap_other->Fx,putObj_heap_same->Le
open List renaming all_eq_true->Bq,drop_eq_getElem_cons->Ad,eq_nil_iff_forall_not_mem->Eh,eq_nil_of_length_eq_zero->Al,getElem?_append_left->Ag,getElem?_append_right->Ar,getElem?_eq_some_iff->Ac,getElem?_map->Bd,getElem?_of_mem->Ch,getElem?_set_ne->Bh,getElem?_set_self->Ba,length_erase_of_mem->Gq,length_pos_of_mem->Gz,length_take->Fc,map_append->Bl,mem_append->Ao,mem_append_left->Cd,mem_append_right->Cp,mem_cons->Aj,mem_cons_of_mem->Ap,mem_cons_self->Ak,mem_filter->Dt,mem_map->Bb,mem_of_getElem?->Az,mem_range->Fu,mem_singleton->Bf,nodup_append->Ax,nodup_cons->Bp,nodup_nil->Gh,not_mem_nil->Hr,prefix_refl->Dd,range->Df,replicate->Ah,take_append_drop->De,take_append_of_le_length->Ej,take_of_length_le->Cn
open List.Sublist renaming refl->Hg
open Nat renaming beq->Av,beq_refl->Lv,ble->Ff,blt->Eg,blt_eq->Jc,div_one->Jp,le_of_ble_eq_true->Cl,le_refl->Bi,le_trans->Cm,lt_of_lt_of_le->Dz,min_eq_left->Ic,zero_add->Cb
open Ne renaming symm->Eu
open Option renaming map_eq_some_iff->Cq
namespace Go.AW
open Go.RowKit
open Classical
def cB (l:Nat) (R:Loop):BInv where
 inv _ bs w:=bs=[l]/\w.heap[l]? =some (.loop R)
 mono:=fun _ _ hb ⟨h1,h2⟩=>⟨h1,hb _ _ (by rw [h1];simp) h2⟩
theorem eM (bs:List Nat):JG (gF bs)=bs:=JF (hs:=[gF bs]) rfl
theorem gD {hs:List Value} {g:Nat} {I:BInv} {k b:Nat}:aK [hs] [.bun g I] k b↔k=0/\b∈blk hs:=by
 constructor
 .rintro ⟨c,hs',a,e,e3,d⟩
  cases k with
  | zero=>grind
  | succ k=>simp at a
 .rintro ⟨rfl,h⟩
  exact ⟨_,hs,rfl,rfl,rfl,h⟩
section
variable {M:Imm} {ob:Hs} {obs:List AObj} {w:World}
theorem Mem.recAt (h:Mem M ob obs w) {k l g:Nat} {R:Loop} (c:obs[k]? =some (.bun g (cB l R))):∃ hs,ob[k]? =some hs/\hs.length=g+1/\hs[g]? =some (gF [l])/\blk hs=[l]/\w.heap[l]? =some (.loop R):=by
 obtain ⟨hs,b,hl,bs,a,e,rfl,d⟩:=h.obj k _ c
 exact ⟨hs,b,hl,a,(fC hl a).trans (eM _),d⟩
theorem Mem.recTurn (h:Mem M ob obs w) {k l g:Nat} {R:Loop} (p:obs[k]? =some (.bun g (cB l R))) (d:Loop):
  Mem M ob (obs.set k (.bun g (cB l d))) (w.putObj l (.loop d))/\Ext M ob obs w M ob (obs.set k (.bun g (cB l d))) (w.putObj l (.loop d)):=by
 obtain ⟨hs,m,hl,r,n,q⟩:=h.recAt p
 have i:=eI q
 have:=h.turn (M':=M) (w':=w.putObj l (.loop d)) (x':=.bun g (cB l d)) (hs':=hs) p m (Dd _) (fun e=>by cases e) (fun _ _ _ h=>h) (fun _ _ _ h=>.inl h) (fun c o y t=>by
   obtain ⟨u,f,x,z⟩:=h.imm c o y t
   have j:c≠l:=fun e=>by subst e;unfold World.cell? at f;dsimp only at f;rw [q] at f;cases f
   exact ⟨u,(Dc (w:=w) (a:=⟨c,o,none⟩) (Fx j)).trans f,x,z⟩)
  (fun c _ s=>Fx fun e=>s ⟨rfl,by simp_all⟩) rfl rfl rfl s_ (fun _=>⟨hl,[l],r,fun b n=>by
   rw [Bf.1 n]
   exact ⟨_,Le i,rfl⟩,rfl,Le i⟩)
  (fun _ c v=>⟨.inl ⟨rfl,v⟩,by
   simp_all⟩)
 rw [eY m] at this
 grind
theorem Mem.drop (h:Mem M ob obs w) (k:Nat):Mem M ob (obs.set k .dead) w/\∀ {i b:Nat},aK ob (obs.set k .dead) i b->aK ob obs i b:=by
 have a:QP (obs.set k .dead) obs:=⟨by simp,fun i=>by
  by_cases c:i=k
  .subst c
   grind
  grind⟩
 exact ⟨h.weak a,fun d=>a.alive d⟩
end
section
variable {E:Env} {fn:Func} {g:Goal}
theorem To.beginR {l k gg:Nat} {R:Loop} {ks:List KI} {fr:List (Nat×AVal)} {obs:List AObj} (i:E.rd=some l) (v:aC obs k= .bun gg (cB l R)) (x:R.state= .ready)
  (h:To E fn g (.code ks fr (bH obs k (.bun gg (cB l {R with state:=.busy}))))):To E fn g (.code (.beginR::ks) fr obs):=
 .mk fun j M0 ob0 obs0 w0 a w hst hs=>by
  obtain ⟨M,ob,p,hm,f,u,s,y⟩:=hs
  have d:=bL v s_
  obtain ⟨o,n⟩:=hm.recTurn d {R with state:=.busy}
  obtain ⟨_,_,_,_,_,c⟩:=hm.recAt d
  rw [aO d] at h
  have key:=(h.rec (motive:=fun _=>xP E fn g _) fun h=>h) (by simpa [aV,KI.ok] using j) M0 ob0 obs0 w0 a _ hst ⟨M,ob,p.trans n,o,f,u,s.ext hm n,by simp;omega⟩
  intro b cs m
  obtain ⟨e,t,w',q,r⟩:=key b cs m
  exact ⟨e,t,w',q,.of_steps (.one (hY _ _ _) (stepR_beginRound (m.trans i) (run_beginRound c x))) r⟩
end
def iZ (ob0:Hs) (fr:List (Nat×AVal)) (R:Loop) (L:List AObj):BInv where
 inv M bs w:=∃ ob,dR ob0 ob/\ob.length=L.length/\(∀ (k:Nat) c,L[k]? =some c->∃ hs,ob[k]? =some hs/\gR M ob w hs c)/\(∀ k k' b,aK ob L k b->aK ob L k' b->k=k')/\
  (∀ b,b∈bs↔ ∃ k,aK ob L k b)/\∀ t,Rep M ob (R.tmps.getD t undef) (aR fr t)
 mono:=fun hM hn hb ⟨ob,h1,h2,h3,h4,h5,h6⟩=>⟨ob,h1,h2,fun k c hc=>by
  obtain ⟨hs,hh,hok⟩:=h3 k c hc
  exact ⟨hs,hh,hok.mono hM (dR.refl _) (fun b p1 p2=>hn b ((h5 b).2 ⟨k,(cK hc hh).2 ⟨p1,p2⟩⟩)) (fun b c' p1 p2=>hb b c' ((h5 b).2 ⟨k,(cK hc hh).2 ⟨p1,p2⟩⟩))⟩,h4,h5,fun t=>(h6 t).monoM hM⟩
theorem Mem.unpack {M:Imm} {ob:Hs} {obs:List AObj} {w:World} {k g:Nat} {ob0:Hs} {fr:List (Nat×AVal)} {R:Loop} {L:List AObj} (hm:Mem M ob obs w) (m:obs[k]? =some (.bun g (iZ ob0 fr R L))):
  ∃ hs a,ob[k]? =some hs/\hs.length=g+1/\dR ob0 a/\Mem M a L w/\(∀ b,b∈blk hs↔ ∃ k,aK a L k b)/\∀ t,Rep M a (R.tmps.getD t undef) (aR fr t):=by
 obtain ⟨hs,e,hl,bs,d,l,a,h1,n,h3,p,c,f⟩:=hm.obj k _ m
 have h:blk hs=bs:=(fC hl d).trans (eM _)
 refine ⟨hs,a,e,hl,h1,⟨hm.imm,n,h3,fun i b j=>?_,p⟩,fun b=>by rw [h];exact c b,f⟩
 obtain ⟨o,q,_⟩:=l b ((c b).2 ⟨i,j⟩)
 exact eI q
theorem Mem.pack {M:Imm} {a:Hs} {L:List AObj} {w:World} {ob0:Hs} {fr:List (Nat×AVal)} {R:Loop} (hm:Mem M a L w) (e:dR ob0 a) (d:∀ t,Rep M a (R.tmps.getD t undef) (aR fr t)):
  ∃ bs,(∀ b,b∈bs↔ ∃ k,aK a L k b)/\∀ (ob:Hs) (hs:List Value),gR M ob w (hs++[gF bs]) (.bun hs.length (iZ ob0 fr R L)):=by
 let bs:=(Df w.heap.size).filter fun b=>decide (∃ k,aK a L k b)
 have c:∀ b,b∈bs↔ ∃ k,aK a L k b:=fun b=>by
  simp only [bs,Dt,Fu,decide_eq_true_eq]
  exact ⟨fun h=>h.2,fun ⟨k,h⟩=>⟨hm.lt k b h,k,h⟩⟩
 refine ⟨bs,c,fun ob hs=>⟨by simp,bs,by simp,fun b f=>?_,a,e,hm.len,hm.obj,hm.inj,c,d⟩⟩
 obtain ⟨k,g⟩:=(c b).1 f
 exact hm.alive_heap g
theorem nN (hs:List Value) (v:Value):blk (hs++[v])=JG v:=by unfold blk;simp
theorem Y9 {M:Imm} {ob:Hs} {tmps:Array Value} {fr:List (Nat×AVal)} {p:Nat} {v:Value} {x:AVal} (h:∀ t,Rep M ob (tmps.getD t undef) (aR fr t)) (b:Rep M ob v x) (hp:p<tmps.size):
  ∀ t,Rep M ob ((tmps.setIfInBounds p v).getD t undef) (aR (gU fr p x) t):=by
 intro t
 have:=kW (a:={tmps:=tmps,defers:=[]}) (d:=some p) h b (fun c e=>by grind) t
 rw [show aR (gU fr p x) t=gT (aR fr) (some p) x t from congrFun (dK fr (some p) x) t]
 exact this
def kG (R:Loop) (b:Bool):Loop:=if b then R else {R with state:=.done,pending:=some .ret}
theorem U0 {R:Loop} (h1:R.state= .ready) (h:R.pending=none):({{R with state:=.busy} with state:=if (none:Option Code).isNone then .ready else .done,pending:=none}:Loop)=kG R true:=by
 obtain ⟨a,b,c,d,e,f,g,i⟩:=R
 have h1:a= .ready:=h1
 have h:b=none:=h
 subst h1 h
 rfl
theorem gG {E:Env} {fn:Func} {ob0:Hs} {l k n p gg:Nat} {R:Loop} {as D:Code} {fr:List (Nat×AVal)} {L L':List AObj} {x:Int} {b:Bool} (N:R.params= #[p]) (U:R.state= .ready) (hpe:R.pending=none) (has:R.assign=as) (hbd:R.body=D) (hsz:R.tmps.size=fn.ntmps)
  (hp:Eg p fn.ntmps=true) (hdf:E.df=[]) (hco:(cS fn.ntmps as&&cS fn.ntmps D)=true) (hk:aC L k= .bun gg (cB l R)) (hn:L.length=n) (hn':L'.length=n) (Y:aC L' k= .bun gg (cB l {R with state:=.busy}))
  (h:inR .i64 x->To {E with rd:=some l} fn (.keep n (.ret (.bool b)) L') (.code [.code as,.beginR,.code D] (gU fr p (.int .i64 x)) L)):
  bE E.P (.yield l) [.int .i64 x] [.bun 0 (iZ ob0 fr R L)] (.ret (.bool b)) [.bun 1 (iZ ob0 fr R (L'.set k (.bun gg (cB l (kG R b)))))]:=by
 intro M ob w g hm hr
 obtain ⟨hs,f,W,hl,hle,r,H,Q⟩:=hm.unpack (k:=0) rfl
 have hob:ob=[hs]:=by
  have:=hm.len
  match ob,this,W with
  | [y],_,W=>simp at W;rw [W]
 subst hob
 obtain ⟨v,rfl⟩:∃ v,g=[v]:=by
  have:=hr.1
  match g,this with
  | [v],_=>simp
 have hv:Rep M [hs] v (.int .i64 x):=hr.2 0 v _ rfl rfl
 obtain ⟨rfl,T⟩:=hv.int_inv
 obtain ⟨_,_,_,_,_,C⟩:=r.recAt (bL hk s_)
 have hpl:p<R.tmps.size:=by rw [hsz];simpa [Jc] using hp
 have F:(R.params.zip #[Je .i64 x]).foldl (fun tmps (t,a)=>tmps.setIfInBounds t a) R.tmps=R.tmps.setIfInBounds p (.int .i64 x):=by rw [N];simp
 refine ⟨R.fn,R.tmps.setIfInBounds p (.int .i64 x),as,D,?_,trivial,fun c cs _=>?_⟩
 .have:=run_yield (P:=E.P) (args:= #[Je .i64 x]) C (by rw [N];rfl)
  rw [F,has,hbd] at this
  exact this
 let b0:Frame:={(default:Frame) with fn:=R.fn,kind:=.normal,roundOf:=some l}
 let a0:Act:={tmps:=R.tmps.setIfInBounds p (.int .i64 x),defers:=[]}
 have hb0:Frame.round l R.fn (R.tmps.setIfInBounds p (.int .i64 x)) as D .normal=b0.atR a0 (fQ [.code as,.beginR,.code D]):=by
  rfl
 rw [hb0]
 have hst:nR (.keep n (.ret (.bool b)) L') f:=⟨by rw [r.len];exact hn,fun h=>by cases h⟩
 have hok:aV fn.ntmps [.code as,.beginR,.code D]=true:=by
  simp only [aV,KI.ok,Kr,Bw]
  omega
 obtain ⟨h0⟩:=h T
 obtain ⟨e,a',w',K,A⟩:=h0 hok M f L w a0 w hst ⟨M,f,Ext.refl _ _ _ _,r,Y9 Q (.int _ _ T) hpl,by show (R.tmps.setIfInBounds p _).size=_;simp;omega,by show cL w w M f [] E.df;rw [hdf];exact .nil,by rw [r.len];omega⟩ b0 (c::cs) rfl
 -- oU the body
 have fin:∀ {z:Bool} {w':World} {st:LoopState} {jump:Option Code},(jump.isNone=z)->({{R with state:=.busy} with state:=if jump.isNone then .ready else .done,pending:=jump}:Loop)=kG R z->RR M f L w (.keep n (.ret (.bool b)) L') (.returned (.bool z)) w'->
   z=b/\∃ G,(Instr.endRound l jump).run E.P w'= .ok (.bool z) G/\∃ M' ob',Ext M [hs] [.bun 0 (iZ ob0 fr R L)] w M' ob' [.bun 1 (iZ ob0 fr R (L'.set k (.bun gg (cB l (kG R b)))))] G/\Mem M' ob' [.bun 1 (iZ ob0 fr R (L'.set k (.bun gg (cB l (kG R b)))))] G:=by
  intro z w' st jump O hR ⟨M',m,J,B,x3⟩
  have e:z=b:=by
   have:=Rep.bool_inv (M:=M') (ob:=m) (b:=b) x3
   simpa using this
  subst e
  refine ⟨rfl,?_⟩
  have B:Mem M' m L' w':=B
  have J:Ext M f L w M' m L' w':=J
  have S:=bL Y s_
  obtain ⟨_,_,_,_,_,u⟩:=B.recAt S
  obtain ⟨m1,m2⟩:=B.recTurn S (kG R z)
  have d:=run_endRound (P:=E.P) jump u
  rw [hR,O] at d
  refine ⟨_,d,M',?_⟩
  have X:=J.trans m2
  obtain ⟨bs,V,hpk⟩:=m1.pack (fr:=fr) (R:=R) (hle.trans X.hs) fun t=>(Q t).mono X.imm X.hs
  have hal':∀ {k b},aK [hs++[gF bs]] [.bun 1 (iZ ob0 fr R (L'.set k (.bun gg (cB l (kG R z)))))] k b->b∈bs:=fun {k b} s=>by
   have:=(gD.1 s).2
   rwa [nN,eM] at this
  have h1:hs.length=1:=hl
  refine ⟨[hs++[gF bs]],⟨X.imm,fun b o y hy=>?_,fun i hs' Z=>?_,X.os,X.tape,X.output,X.size,fun b I hn=>X.keep b I fun i s=>hn 0 (gD.2 ⟨rfl,(H b).2 ⟨i,s⟩⟩),fun i b s=>?_⟩,⟨m1.imm,rfl,fun i c hc=>?_,fun i b s=>?_,fun i j b s I=>?_⟩⟩
  .rcases X.new b o y hy with q | q | q
   .exact .inl q
   .omega
   .exact .inr (.inr ⟨0,gD.2 ⟨rfl,(H b).2 q⟩⟩)
  .cases i with
   | zero=>simp at Z;subst Z;simp
   | succ i=>simp at Z
  .have I:b∈bs:=by
    have:=(gD.1 s).2
    rwa [nN,eM] at this
   obtain ⟨j,O⟩:=(V b).1 I
   rcases X.fresh j b O with q | q
   .exact .inl ⟨0,gD.2 ⟨rfl,(H b).2 q⟩⟩
   omega
  .cases i with
   | zero=>
    simp at hc
    subst hc
    refine ⟨_,rfl,?_⟩
    have:=hpk [hs++[gF bs]] hs
    rwa [h1] at this
   | succ i=>simp at hc
  .have I:b∈bs:=by
    have:=(gD.1 s).2
    rwa [nN,eM] at this
   obtain ⟨j,O⟩:=(V b).1 I
   exact m1.lt j b O
  .rw [(gD.1 s).1,(gD.1 I).1]
 cases e with
 | normal=>
  obtain ⟨rfl,G,d,M',ob',J,B⟩:=fin (st:=.ready) (jump:=none) rfl (U0 U hpe) K
  exact ⟨.returned (.bool true),G,⟨M',ob',J,B,.bool _⟩,StepsIn.trans A (.one (hY _ _ _) (stepR_round_end rfl rfl d))⟩
 | ret=>
  obtain ⟨rfl,G,d,M',ob',J,B⟩:=fin (st:=.ready) (jump:=some .ret) rfl rfl K
  obtain ⟨k₁,hs'⟩:=A.2 rfl
  exact ⟨.returned (.bool false),G,⟨M',ob',J,B,.bool _⟩,StepsIn.trans hs' (.one (hY _ _ _) (stepR_round_ret rfl rfl d))⟩
 | panic ch=>exact K.elim
 | exit id=>exact K.elim
 | goto t=>exact K.elim
 | outgrown=>exact K.elim
def KL:Code->Option (Code×Code)
 | .rangeFunc _ _ as c=>some (as,c)
 | .seq a b=>(match KL a with | some x=>some x | none=>KL b)
 | .cond _ a b=>(match KL a with | some x=>some x | none=>KL b)
 | .block _ b=>KL b
 | .loop b=>KL b
 | _=>none
def rfA (fn:Func):Code:=match KL (cC fn) with | some p=>p.1 | none=>.skip
def rfB (fn:Func):Code:=match KL (cC fn) with | some p=>p.2 | none=>.skip
theorem KW.range {rd:Option Nat} {P:Program} {Q:Exit->Act->World->Prop} {ks:List KI} {a:Act} {w:World} {x:Operand} {A:Array Tmp} {as C:Code}
  (h:∀ fn,∃ (l:Nat) (c:List Deferred) (o:World) (d:Deferred) (f:FuncId) (args:Array Value),
   (Instr.enterLoop fn a.tmps A as C rd).run P w= .ok (l,c) o/\(resolve a.eval (rangeCall x l) 0).run P o= .ok d o/\(invoke d.target d.args).run P o= .ok (.enter f args) o/\
   Calls P f args o fun e D=>∃ v,e= .returned v/\∃ jump z,(Instr.endLoop l).run P D= .ok jump z/\KW rd P Q ((jump.map KI.code).toList++ks) {a with defers:=c++a.defers} z):
  KW rd P Q (.code (.rangeFunc x A as C)::ks) a w:=by
 intro b cs t
 obtain ⟨l,c,o,d,f,args,F,y,u,n⟩:=h b.fn
 rw [<-t] at F
 have i:=stepR_rangeFunc (P:=P) (b:=b) (a:=a) (k:=fQ ks) (cs:=cs) (w:=w) F y u
 obtain ⟨e,D,fr,⟨v,rfl,jump,z,s,I⟩,j,J,g⟩:=n (b.atR {a with defers:=c++a.defers} (.inRangeFunc l::fQ ks)::cs)
 obtain ⟨G,H,w',q,r⟩:=I b cs t
 refine ⟨G,H,w',q,?_⟩
 have B:fQ ((jump.map KI.code).toList++ks)=(jump.map Item.code).toList++fQ ks:=by cases jump<;>rfl
 rw [B] at r
 have p:Steps P (lone (b.atR a (.code (.rangeFunc x A as C)::fQ ks)) cs w) (lone (b.atR {a with defers:=c++a.defers} ((jump.map Item.code).toList++fQ ks)) cs z):=by
  refine .head i (Steps.trans j (.head ?_ (.one (stepR_endRangeFunc s))))
  rw [<-finish_atR_inRangeFunc l v];exact step_leave_returned g
 exact .of_steps ((StepsIn.of_steps p).mono fun m _=>hY _ _ m) r
section
variable {M:Imm} {ob:Hs} {obs:List AObj} {w:World}
theorem Mem.layRec (hm:Mem M ob obs w) (R:Loop):
  Mem M (ob++[[gF [w.heap.size+1]]]) (lP obs (.bun 0 (cB (w.heap.size+1) R))) ((w.alloc (.deferred (some []))).alloc (.loop R))/\
  Ext M ob obs w M (ob++[[gF [w.heap.size+1]]]) (lP obs (.bun 0 (cB (w.heap.size+1) R))) ((w.alloc (.deferred (some []))).alloc (.loop R)):=by
 rw [pW]
 have e:Mem M ob obs (w.alloc (.deferred (some []))):=hm.same s_ fun b c=>heap_alloc_old w _ c
 have f:Ext M ob obs w M ob obs (w.alloc (.deferred (some []))):=⟨fun _ _ _ h=>h,fun _ _ _ h=>.inl h,dR.refl _,rfl,rfl,rfl,by simp,fun b c _=>heap_alloc_old w _ c,fun k b n=>.inl ⟨k,n⟩⟩
 obtain ⟨g,q,_⟩:=e.extend 1
 have h1:(obs++Ah 1 AObj.dead)[obs.length]? =some .dead:=by simp
 have p:(ob++Ah 1 ([]:List Value))[obs.length]? =some []:=by rw [<-hm.len];simp
 have d:(w.alloc (.deferred (some []))).heap.size=w.heap.size+1:=tP ..
 have t:=g.turn (M':=M) (w':=(w.alloc (.deferred (some []))).alloc (.loop R)) (x':=.bun 0 (cB (w.heap.size+1) R)) (hs':=[gF [w.heap.size+1]]) h1 p ⟨_,rfl⟩ (fun _=>rfl) (fun _ _ _ h=>h) (fun _ _ _ h=>.inl h) (fun b o y m=>by
   obtain ⟨u,i,s,r⟩:=g.imm b o y m
   exact ⟨u,(Dc (w:=w.alloc (.deferred (some []))) (a:=⟨b,o,none⟩) (heap_alloc_old _ _ (Cy _ _ i))).trans i,s,r⟩)
  (fun b c _=>heap_alloc_old _ _ c) rfl rfl rfl s_ (fun _=>⟨rfl,[w.heap.size+1],rfl,fun b c=>by
   rw [Bf.1 c,<-d]
   exact ⟨_,heap_alloc_new _ _,rfl⟩,rfl,by rw [<-d];exact heap_alloc_new _ _⟩)
  (fun _ b c=>by
   have:blk [gF [w.heap.size+1]]=[w.heap.size+1]:=eM _
   rw [this] at c
   rw [Bf.1 c,tP _ (Obj.loop R),d]
   omega)
 have l:(ob++Ah 1 ([]:List Value)).set obs.length [gF [w.heap.size+1]]=ob++[[gF [w.heap.size+1]]]:=by
  rw [<-hm.len];simp
 have j:(obs++Ah 1 AObj.dead).set obs.length (.bun 0 (cB (w.heap.size+1) R))=obs++[.bun 0 (cB (w.heap.size+1) R)]:=by simp
 rw [l,j] at t
 exact ⟨t.1,f.trans (q.trans t.2.1)⟩
theorem EP:∀ (ks:List Nat) (obs:List AObj),(∀ k∈ks,k<obs.length)->QP (pK ks obs) obs/\∀ k∈ks,(pK ks obs)[k]? =some .dead
 | [],obs,_=>⟨⟨rfl,fun _=>.inl rfl⟩,fun k h=>by simp at h⟩
 | x::r,obs,hlt=>by
  have c:x<obs.length:=hlt x s_
  have e:bH obs x .dead=obs.set x .dead:=fP _ c
  obtain ⟨⟨h1,d⟩,h3⟩:=EP r (bH obs x .dead) (fun k a=>by grind)
  have b:∀ k:Nat,(pK (x::r) obs)[k]? =obs[k]?\/(pK (x::r) obs)[k]? =some AObj.dead:=fun k=>by
   rcases d k with q | q
   .by_cases a:k=x
    .subst a
     right
     show (pK r (bH obs k .dead))[k]? =_
     rw [q,e,Ba c]
    .left
     show (pK r (bH obs x .dead))[k]? =_
     rw [q,e,Bh (Eu a)]
   .exact .inr q
  refine ⟨⟨by show (pK r (bH obs x .dead)).length=_;rw [h1,e];simp,b⟩,fun k a=>?_⟩
  rcases Aj.1 a with rfl | a
  .show (pK r (bH obs k AObj.dead))[k]? =some AObj.dead
   rcases d k with q | q
   .rw [q,e,Ba c]
   .exact q
  .exact h3 k a
theorem Mem.snoc {A:List AObj} {a:Hs} {c:AObj} {hs:List Value} (hm:Mem M a A w) (B:∀ ob,dR a ob->gR M ob w hs c) (q:∀ b∈blk hs,b<w.heap.size) (f:∀ k b,aK a A k b->b∉blk hs):
  Mem M (a++[hs]) (A++[c]) w/\∀ k b,aK (a++[hs]) (A++[c]) k b->(k<A.length/\aK a A k b)\/(k=A.length/\b∈blk hs):=by
 have m:dR a (a++[hs]):=fun j l e=>⟨l,by rw [Ag (Ac.1 e).1];exact e,Dd _⟩
 have g:∀ {j:Nat} {x:AObj},(A++[c])[j]? =some x->(j<A.length/\A[j]? =some x/\(a++[hs])[j]? =a[j]?)\/(j=A.length/\x=c/\(a++[hs])[j]? =some hs):=fun {j x} e=>by
  by_cases h:j<A.length
  .rw [Ag h] at e
   exact .inl ⟨h,e,Ag (by rw [hm.len];exact h)⟩
  .have d:j=A.length:=by have:=(Ac.1 e).1;simp at this;omega
   subst d
   rw [Ar s_] at e
   simp at e
   exact .inr ⟨rfl,e.symm,by rw [<-hm.len];simp⟩
 have n:∀ k b,aK (a++[hs]) (A++[c]) k b->(k<A.length/\aK a A k b)\/(k=A.length/\b∈blk hs):=by
  rintro k b ⟨x,l,t,s,e3,r⟩
  rcases g t with ⟨h1,d,h3⟩ | ⟨h1,d,h3⟩
  .rw [h3] at e3;exact .inl ⟨h1,x,l,d,s,e3,r⟩
  .rw [h3] at e3;cases e3;exact .inr ⟨h1,r⟩
 refine ⟨⟨hm.imm,by simp [hm.len],fun k x z=>?_,fun k b p=>?_,fun i j b p v=>?_⟩,n⟩
 .rcases g z with ⟨h1,d,h3⟩ | ⟨h1,rfl,h3⟩
  .obtain ⟨l,y,u⟩:=hm.obj k x d
   exact ⟨l,by rw [h3];exact y,u.mono (fun _ _ _ h=>h) m (fun _ _ _ _ h=>h) (fun _ _ _ _ h=>h)⟩
  .exact ⟨hs,h3,B _ m⟩
 .rcases n k b p with ⟨_,h⟩ | ⟨_,h⟩
  .exact hm.lt k b h
  .exact q b h
 .rcases n i b p with ⟨h1,d⟩ | ⟨h1,d⟩<;>rcases n j b v with ⟨h3,o⟩ | ⟨h3,o⟩
  .exact hm.inj i j b d o
  .exact absurd o (f i b d)
  .exact absurd d (f j b o)
  omega
end
theorem bE.bunTo {P:Program} {f:Fn} {args:List AVal} {obs:List AObj} {r:Res} {gg:Nat} {I n:BInv} (h:bE P f args obs r [.bun gg I])
  (t:∀ (M:Imm) (bs:List Nat) (w:World),(∀ b o x,M b o x->∃ v,w.cell? ⟨b,o,none⟩=some v/\v.oneCell'=true/\Rep M [] v x)->(∀ b,b∈bs->b<w.heap.size)->I.inv M bs w->n.inv M bs w):bE P f args obs r [.bun gg n]:=
 fun M ob w d hm s=>cE.mono (fun e w' ⟨M',ob',a,g,y⟩=>by
  have i:∀ {k b},aK ob' [.bun gg n] k b->aK ob' [.bun gg I] k b:=fun {k b} ⟨c,hs,e1,e2,e3,e4⟩=>by
   cases k with
   | zero=>exact ⟨_,hs,rfl,rfl,e3,e4⟩
   | succ k=>simp at e1
  refine ⟨M',ob',⟨a.imm,a.new,a.hs,a.os,a.tape,a.output,a.size,a.keep,fun k b j=>a.fresh k b (i j)⟩,⟨g.imm,g.len,fun k c l=>?_,fun k b j=>g.lt k b (i j),fun k z b h1 m=>g.inj k z b (i h1) (i m)⟩,y⟩
  cases k with
  | zero=>
   simp at l
   subst l
   obtain ⟨hs,h1,m,bs,h3,p,A⟩:=g.obj 0 _ rfl
   exact ⟨hs,h1,m,bs,h3,p,t _ _ _ g.imm (fun b u=>by obtain ⟨o,q,_⟩:=p b u;exact eI q) A⟩
  | succ k=>simp at l) (h M ob w d hm s)
theorem AQ:∀ (n j i:Nat),i<n->(upto j n)[i]? =some (j+i)
 | 0,_,_,h=>by omega
 | n+1,j,0,_=>rfl
 | n+1,j,i+1,h=>by
  show (upto (j+1) n)[i]? =_
  rw [AQ n (j+1) i o_,show j+1+i=j+(i+1) from by omega]
theorem aBK {ob0:Hs} {fr:List (Nat×AVal)} {R:Loop} {L L':List AObj} {n:Nat} (z:L.length=n) (h1:∀ hs∈ob0,hs.length=1) (hl:ob0.length<=n) (s:iV (upto 0 n) L=true) (d:WN n (upto 0 n) (aC L) fr=fr) (B:fN n (upto 0 n) L=L'):
  ∀ (M:Imm) (bs:List Nat) (w:World),(∀ b o x,M b o x->∃ v,w.cell? ⟨b,o,none⟩=some v/\v.oneCell'=true/\Rep M [] v x)->(∀ b,b∈bs->b<w.heap.size)->(iZ ob0 fr R L).inv M bs w->(iZ ob0 fr R L').inv M bs w:=by
 rintro M bs w g f ⟨ob,F,C,A,y,u,H⟩
 subst B
 have hm:Mem M ob L w:=⟨g,C,A,fun k b a=>f b ((u b).2 ⟨k,a⟩),y⟩
 obtain ⟨l,D,G⟩:=hm.cvt (n0:=n) s
 refine ⟨dY n ob L 0 (upto 0 n),fun j hs p=>?_,l.len,l.obj,l.inj,fun b=>(u b).trans ⟨fun ⟨k,a⟩=>?_,fun ⟨j,a⟩=>?_⟩,fun t=>?_⟩
 .have m:j<n:=Dz (Ac.1 p).1 hl
  obtain ⟨hs',e,t,q⟩:=F j hs p
  have r:=h1 hs (Az p)
  refine ⟨gL n j (aC L j) hs',?_,?_⟩
  .rw [fS,AQ n 0 j m]
   simp [e]
  .unfold gL
   split
   .rw [<-q]
    have:(hs++t).take 1=hs:=by rw [Ej o_,Cn o_]
    rw [this]
    simp
   .exact ⟨t,q⟩
 .have i:k<n:=by
   obtain ⟨c,_,e,_⟩:=a
   rw [<-z]
   exact (Ac.1 e).1
  exact ⟨k,G k k b (by rw [AQ n 0 k i,Cb]) a⟩
 .obtain ⟨k,_,h⟩:=D j b a
  exact ⟨k,h⟩
 .have:=hm.cvtV (n0:=n) s 5 _ _ (H t)
  rw [<-wW,d] at this
  exact this
structure RecOK (fn:Func) (p:Nat) (as bd:Code) (R:Loop):Prop where
 params:R.params= #[p]
 ready:R.state= .ready
 pend:R.pending=none
 assign:R.assign=as
 body:R.body=bd
 size:R.tmps.size=fn.ntmps
theorem To.range {E:Env} {fn:Func} {g:Goal} {x:Operand} {p:Nat} {as bd:Code} {ks:List KI} {fr:List (Nat×AVal)} {obs:List AObj} {f:FuncId} {C:List AVal} (m:List Nat) (hrd:E.rd=none) (hdf:E.df=[]) (hbo:pA E.P f)
  (hx:ev fr x= .func (.func f) [] C) (hk:∀ l R,iV m (lP obs (.bun 0 (cB l R)))=true) (hlt:(m.all fun k=>Eg k (aM obs))=true)
  (h:∀ (l:Nat) (ob0:Hs) (R:Loop),nR g ob0->RecOK fn p as bd R->∃ (L':List AObj) (b:Bool) (r:AVal) (s:List AObj) (gg:Nat),
   aA E.P f (.func (.yield l) [] []::dH (cvtV 0 m (aC (lP obs (.bun 0 (cB l R)))) 5) C) (fN 0 m (lP obs (.bun 0 (cB l R)))++[.bun 0 (iZ ob0 fr R (pK m (lP obs (.bun 0 (cB l R)))))]) (.ret r) (s++[.bun gg (iZ ob0 fr R L')])/\
   aC L' (aM obs)= .bun 0 (cB l (kG R b))/\s.length=m.length/\To E fn g (.code (if b then ks else .code .ret::ks) fr (bH L' (aM obs) .dead))):
  To E fn g (.code (.code (.rangeFunc x #[p] as bd)::ks) fr obs):=by
 refine .mk fun hok M0 n obs0 w0 a w hst hs=>?_
 obtain ⟨M,ob,hx0,hm,hfr,hsz,Y,hlen⟩:=hs
 rw [hrd]
 refine KW.range fun fid=>?_
 obtain ⟨l,hl⟩:∃ l,l=w.heap.size+1:=⟨_,rfl⟩
 obtain ⟨R,hR⟩:∃ R:Loop,R={state:=.ready,pending:=none,fn:=fid,tmps:=a.tmps,params:= #[p],assign:=as,body:=bd,defers:=w.heap.size}:=⟨_,rfl⟩
 have Q:RecOK fn p as bd R:=by subst hR;exact ⟨rfl,rfl,rfl,rfl,rfl,hsz⟩
 have htm:R.tmps=a.tmps:=by subst hR;rfl
 obtain ⟨D,T⟩:∃ D,D=(w.alloc (.deferred (some []))).alloc (.loop R):=⟨_,rfl⟩
 obtain ⟨m1,x1⟩:=hm.layRec R
 rw [<-hl,<-T] at m1 x1
 obtain ⟨A,hob1⟩:∃ A,A=ob++[[gF [l]]]:=⟨_,rfl⟩
 rw [<-hob1] at m1 x1
 obtain ⟨L',b,r,s,gg,hcall,hLk,hol,hto⟩:=h l n R hst Q
 generalize J:lP obs (.bun 0 (cB l R))=obs1 at *
 have hobs1l:obs1.length=obs.length+1:=by rw [<-J,pW];simp
 have hk1:iV m obs1=true:=by rw [<-J];exact hk l R
 have hltk:∀ k∈m,k<obs1.length:=fun k hk=>by
  have:=Bq.1 hlt k hk
  have:k<aM obs:=by simpa [Jc] using this
  rw [bD] at this
  omega
 obtain ⟨hwk,hdead⟩:=EP m obs1 hltk
 have mC:=m1.weak hwk
 obtain ⟨c1,c2,c3⟩:=m1.cvt (n0:=0) hk1
 have hfr1:∀ t,Rep M A (R.tmps.getD t undef) (aR fr t):=fun t=>by rw [htm];exact (hfr t).mono x1.imm x1.hs
 obtain ⟨bs,hbs,hpk⟩:=mC.pack (hx0.hs.trans x1.hs) hfr1
 have hcl:(dY 0 A obs1 0 m).length=m.length:=nL
 have hsl:(fN 0 m obs1).length=m.length:=mN
 have L:blk ([]++[gF bs])=bs:=by rw [nN,eM]
 obtain ⟨mI,aI⟩:=c1.snoc (c:=.bun 0 (iZ n fr R (pK m obs1))) (hs:=[]++[gF bs]) (fun ob _=>hpk ob []) (fun b G=>by
   rw [L] at G
   obtain ⟨j,S⟩:=(hbs b).1 G
   exact mC.lt j b S) (fun j b F G=>by
   rw [L] at G
   obtain ⟨i,Z⟩:=(hbs b).1 G
   obtain ⟨k,e1,e2⟩:=c2 j b F
   have:=m1.inj k i b e2 (hwk.alive Z)
   subst this
   obtain ⟨c,_,q1,q2,_⟩:=Z
   rw [hdead k (Az e1)] at q1
   cases q1
   cases q2)
 -- the call
 have hev:=xD hfr x
 rw [hx] at hev
 obtain ⟨z,hax,hcl1,hcr⟩:∃ z:List Value,a.eval x= .func (.func f) #[] z.toArray/\z.length=C.length/\∀ (i:Nat) v y,z[i]? =some v->C[i]? =some y->Rep M ob v y:=by
  generalize a.eval x=va at hev
  cases hev with
  | func _ vfs vcs _ _ hl1 hl2 hr1 hr2=>
   have:vfs=[]:=Al o_
   subst this
   exact ⟨vcs,rfl,hl2,hr2⟩
 have hargs:bT M (dY 0 A obs1 0 m++[[]++[gF bs]]) (.func (.yield l) #[] #[]::z) (.func (.yield l) [] []::dH (cvtV 0 m (aC obs1) 5) C):=by
  have hle:dR (dY 0 A obs1 0 m) (dY 0 A obs1 0 m++[[]++[gF bs]]):=fun j l S=>⟨l,by rw [Ag (Ac.1 S).1];exact S,Dd _⟩
  have h2:bT M (dY 0 A obs1 0 m) z (dH (cvtV 0 m (aC obs1) 5) C):=bO (fun v a hva=>m1.cvtV (n0:=0) hk1 5 v a (hva.mono x1.imm x1.hs)) hcl1 hcr
  refine bT.cons (.func (.yield l) [] [] [] [] rfl rfl (fun i v a h=>by simp at h) (fun i v a h=>by simp at h)) ⟨h2.1,fun i v a hv F=>(h2.2 i v a hv F).mono (fun _ _ _ h=>h) hle⟩
 have hrun:=hcall M _ D _ mI hargs
 have V:Calls E.P f (Value.func (.yield l) #[] #[]::z).toArray D fun e w'=>∃ M' ob',Ext M (dY 0 A obs1 0 m++[[]++[gF bs]]) (fN 0 m obs1++[.bun 0 (iZ n fr R (pK m obs1))]) D M' ob' (s++[.bun gg (iZ n fr R L')]) w'/\Mem M' ob' (s++[.bun gg (iZ n fr R L')]) w'/\rD M' ob' e (.ret r):=by
  rcases hrun with ⟨_,q⟩ | ⟨u,w',q,_⟩
  .exact q
  .rw [hbo] at q;cases q
 have hent:(Instr.enterLoop fid a.tmps #[p] as bd none).run E.P w= .ok (l,[{target:=.collected w.heap.size,args:= #[]}]) D:=by
  rw [hl,T,hR];exact run_enterLoop_outer ..
 refine ⟨l,[{target:=.collected w.heap.size,args:= #[]}],D,{target:=.fn (.func f) z.toArray,args:= #[.func (.yield l) #[] #[]]},f,_,hent,?_,?_,V.mono fun e w3 ⟨M',obI,y1,y2,y3⟩=>?_⟩
 .have:resolve a.eval (rangeCall x l) 0=Deferred.ofValue (a.eval x) #[.func (.yield l) #[] #[]]:=by simp [resolve,rangeCall,Act.eval]
  rw [this,hax]
  rfl
 .show (callFunc f (#[Value.func (.yield l) #[] #[]]++z.toArray)).run E.P D=_
  rw [hbo]
  simp
 -- oU the call
 obtain ⟨v,rfl⟩:∃ v,e= .returned v:=by
  cases e with
  | returned v=>simp
  | panicked ch=>exact y3.elim
  | outgrown=>exact y3.elim
 refine ⟨v,rfl,?_⟩
 have hbk:(s++[AObj.bun gg (iZ n fr R L')])[s.length]? =some (.bun gg (iZ n fr R L')):=by simp
 obtain ⟨hs',U,hh',hl',hle',mC',hal',hfr'⟩:=y2.unpack hbk
 have N:=bL hLk s_
 have hkl:aM obs=obs.length:=bD obs
 obtain ⟨_,_,_,_,_,H⟩:=mC'.recAt N
 -- the client's memory,from the statement on
 have inI:∀ {k b},aK (dY 0 A obs1 0 m++[[]++[gF bs]]) (fN 0 m obs1++[.bun 0 (iZ n fr R (pK m obs1))]) k b->∃ k',aK A obs1 k' b:=fun {k b} F=>by
  rcases aI k b F with ⟨_,h⟩ | ⟨_,h⟩
  .obtain ⟨k',_,h⟩:=c2 k b h;exact ⟨k',h⟩
  .rw [L] at h
   obtain ⟨j,S⟩:=(hbs b).1 h
   exact ⟨j,hwk.alive S⟩
 have xnew:∀ b o y,M' b o y->M b o y\/D.heap.size<=b\/∃ k,aK A obs1 k b:=fun b o y hy=>by
  rcases y1.new b o y hy with q | q | ⟨k,q⟩
  .exact .inl q
  .omega
  .exact .inr (.inr (inI q))
 have K:∀ b,b<D.heap.size->(∀ k,¬ aK A obs1 k b)->w3.heap[b]? =D.heap[b]?:=fun b G hn=>y1.keep b G fun k F=>by
  obtain ⟨k',hk'⟩:=inI F
  exact hn k' hk'
 have W:∀ k b,aK U L' k b->(∃ k',aK A obs1 k' b)\/D.heap.size<=b:=fun k b F=>by
  have G:b∈blk hs':=(hal' b).2 ⟨k,F⟩
  have:aK obI (s++[AObj.bun gg (iZ n fr R L')]) s.length b:=⟨_,hs',hbk,rfl,hh',G⟩
  rcases y1.fresh _ b this with ⟨k',q⟩ | q
  .exact .inl (inI q)
  omega
 have B:=hx0.trans x1
 -- from the function's start to here
 have X:Ext M0 n obs0 w0 M' U L' w3:=⟨fun b o y h=>y1.imm _ _ _ (B.imm _ _ _ h),fun b o y hy=>by
   rcases xnew b o y hy with h1 | h1 | ⟨i,Z⟩
   .exact B.new b o y h1
   .exact .inr (.inl (Cm B.size h1))
   .rcases B.fresh i b Z with h2 | h2
    .exact .inr (.inr h2)
    omega,hle',y1.os.trans B.os,y1.tape.trans B.tape,y1.output.trans B.output,Cm B.size y1.size,fun b G ho=>by
   rw [<-B.keep b G ho]
   refine K b (Dz G B.size) fun i Z=>?_
   rcases B.fresh i b Z with ⟨j,S⟩ | h2
   .exact ho j S
   .omega,fun i b Z=>by
   rcases W i b Z with ⟨j,S⟩ | h1
   .exact B.fresh j b S
   .exact .inr (Cm B.size h1)⟩
 have hnb:(kG R b).state≠ .busy:=by
  unfold kG
  cases b with
  | true=>rw [if_pos rfl,Q.ready];simp
  | false=>simp
 have hend:=run_endLoop (P:=E.P) H hnb
 obtain ⟨t1,t2⟩:=mC'.recTurn N {kG R b with state:=.exhausted}
 obtain ⟨d1,d2⟩:=t1.drop (aM obs)
 have hfin:bH L' (aM obs) .dead=(L'.set (aM obs) (.bun 0 (cB l {kG R b with state:=.exhausted}))).set (aM obs) .dead:=by
  rw [aO N,List.set_set]
 rw [<-hfin] at d1 d2
 have X2:Ext M0 n obs0 w0 M' U (bH L' (aM obs) .dead) (w3.putObj l (.loop {kG R b with state:=.exhausted})):=by
  have:=X.trans t2
  exact ⟨this.imm,this.new,this.hs,this.os,this.tape,this.output,this.size,this.keep,fun k b F=>this.fresh k b (d2 F)⟩
 refine ⟨(kG R b).pending,_,hend,?_⟩
 obtain ⟨hto⟩:=hto
 have hds0:=Y
 rw [hdf] at Y
 -- the marks
 have hw1d:D.heap[w.heap.size]? =some (.deferred (some [])):=by
  rw [T,heap_alloc_old _ _ s_]
  exact heap_alloc_new w _
 have I:∀ c:Nat,D.heap[c]? =some (Obj.deferred (some []))->(w3.putObj l (.loop {kG R b with state:=.exhausted})).heap[c]? =some (Obj.deferred (some [])):=fun c O=>by
  have h3:w3.heap[c]? =some (Obj.deferred (some [])):=by
   rw [K c (eI O) fun k F=>by
    obtain ⟨o,q1,q2⟩:=m1.alive_heap F
    rw [O] at q1
    cases q1
    cases q2]
   exact O
  rw [Fx fun e=>by subst e;rw [H] at h3;cases h3]
  exact h3
 have hmk:Mks w0 (w3.putObj l (.loop {kG R b with state:=.exhausted})) ({target:=.collected w.heap.size,args:= #[]}::a.defers):=by
  refine ⟨⟨w.heap.size,rfl,hx0.size,I _ hw1d,fun d hd e=>?_⟩,Y.marks.same fun d _ c _ O=>I c ?_⟩
  .have:∀ {ds:List Deferred},Mks w0 w ds->∀ d∈ds,∀ c,d.target= .collected c->c<w.heap.size:=by
    intro ds
    induction ds with
    | nil=>simp
    | cons d0 ds ih=>
     rintro ⟨⟨b0,q1,q2,q3,q4⟩,q5⟩ d hd c O
     rcases Aj.1 hd with rfl | hd
     .rw [q1] at O;cases O;exact eI q3
     .exact ih q5 d hd c O
   have:=this Y.marks d hd _ e
   omega
  .rw [T,heap_alloc_old _ _ (by rw [tP];have:=eI O;omega),heap_alloc_old _ _ (eI O)]
   exact O
 have hss:SS M0 n obs0 w0 fn.ntmps E.df fr (bH L' (aM obs) .dead) {a with defers:=[{target:=.collected w.heap.size,args:= #[]}]++a.defers} (w3.putObj l (.loop {kG R b with state:=.exhausted})):=by
  refine ⟨M',U,X2,d1,fun t=>?_,hsz,?_,?_⟩
  .have:=hfr' t
   rw [htm] at this
   exact this
  .rw [hdf];exact ⟨[],_,rfl,.nil,hmk⟩
  .have h1:=X2.lens
   have h2:=d1.len
   omega
 have hok2:aV fn.ntmps (if b then ks else .code .ret::ks)=true:=by
  have:aV fn.ntmps ks=true:=by
   simp only [aV,Af] at hok
   exact hok.2
  cases b with
  | true=>exact this
  | false=>simpa [aV,KI.ok,cS] using this
 have key:=hto hok2 M0 n obs0 w0 _ _ hst hss
 rw [hrd] at key
 have hjump:((kG R b).pending.map KI.code).toList++ks=(if b then ks else .code .ret::ks):=by
  unfold kG
  cases b with
  | true=>rw [if_pos rfl,Q.pend];rfl
  | false=>rfl
 rw [hjump]
 exact key
def aGp (sz:Nat):AVal->AVal
 | .nilslice=>.slice sz [] .nil
 | v=>v
theorem aAj (sz:Nat) (M:Imm) (ob:Hs) (v:Value) (a:AVal) (h:Rep M ob v a):Rep M ob v (aGp sz a):=by
 unfold aGp
 split
 .cases h;exact .slnil _ _ rfl
 .exact h
theorem To.beginC {E:Env} {fn:Func} {g:Goal} {st:List KI} {fr:List (Nat×AVal)} {obs:List AObj} (k i:Nat) (e:TypeId) {T:TypeId} {cs:List AVal} {sz:Nat} (a:aC obs k= .cells T cs) (b:nth cs i=some (.slice sz [] .nil))
  (h:To E fn g (.code st fr (lP (bH obs k (.cells T (UE cs i (.slice sz [] (.own (aM obs) 0))))) (.tail 0 sz e)))):To E fn g (.code st fr obs):=by
 have c:To E fn g (.head st fr (lP (bH obs k (.cells T (UE cs i (.slice sz [] (.own (aM obs) 0))))) (.tail 0 sz e))):=h.rec fun h=>.mk h
 exact (To.begin k i e a b c).rec fun h=>.mk h
abbrev Hm:=Option Addr×Nat×List AVal
def hmV (m:Hm):Value:=.slice m.1 m.2.2.length m.2.1
def hmA (m:Hm):AVal:=.hsl m.1 m.2.2.length m.2.1
theorem aGI (M:Imm) (ob:Hs) (m:Hm):Rep M ob (hmV m) (hmA m):=.hsl _ _ _
def lK (sz:Nat) (e:TypeId) (ms:List Hm):BInv where
 inv M bs w:=(∀ (i:Nat) m,ms[i]? =some m->dG M w (hmV m) sz e m.2.2)/\(∀ (i j:Nat) m m' b,ms[i]? =some m->ms[j]? =some m'->(hmV m).ownBlock=some b->(hmV m').ownBlock=some b->i=j)/\
  ∀ b,b∈bs↔ ∃ (i:Nat) (m:Hm),ms[i]? =some m/\(hmV m).ownBlock=some b
 mono:=fun hM hn hb ⟨h1,h2,h3⟩=>⟨fun i m hm=>(h1 i m hm).mono hM (fun b e ho o=>hn b ((h3 b).2 ⟨i,m,hm,e⟩) o (ho o)) (fun b c e=>hb b c ((h3 b).2 ⟨i,m,hm,e⟩)),h2,h3⟩
section
variable {M:Imm} {ob:Hs} {obs:List AObj} {w:World}
theorem dG.blockAt {v:Value} {sz:Nat} {e:TypeId} {xs:List AVal} (h:dG M w v sz e xs) {b:Nat} (a:v.ownBlock=some b):∃ o,w.heap[b]? =some o/\CC o=false:=by
 obtain ⟨cv,⟨_,f⟩,_⟩:=h
 rcases f with ⟨rfl,_⟩ | ⟨g,cap,d,c,_,e3,_⟩
 .cases a
 .rw [c] at a;cases a;exact ⟨_,e3,rfl⟩
theorem dG.nil (sz:Nat) (e:TypeId):dG M w (.slice none 0 0) sz e []:=
 ⟨[],Hh w 0 e sz,fun u h=>by simp at h,fun u h=>by simp at h,fun q c h=>by simp [cellAt] at h,fun b h=>(by cases h),BS w⟩
theorem dG.append {P:Program} (hm:Mem M ob obs w) {t D ty e:TypeId} {i:TypeInfo} {z:Value} (R:P.underlying t=some (.slice e)) (V:P.info? e=some i) (hz:i.zero=some z) (hz1:z.cells.toList.all (·.oneCell')=true)
  (H:z.cells.size=i.size) (h:0<i.size) {xs ys:List AVal} {v x:Value} (n:dG M w v i.size e xs) (hs:SrcA P M w i.size D x ys)
  (I:xs.length+ys.length<=maxLen) (g:(xs.length+ys.length)*i.bytes<=140737488355328):
  ∃ m w',(Cr #[t,D] ty #[v,x]).run P w= .ok m w'/\dG M w' m i.size e (xs++ys)/\w'.os=w.os/\w'.tape=w.tape/\w'.output=w.output/\w.heap.size<=w'.heap.size/\
   (∀ b,m.ownBlock=some b->v.ownBlock=some b\/w.heap.size<=b)/\∀ b,b<w.heap.size->v.ownBlock≠some b->w'.heap[b]? =w.heap[b]?:=by
 obtain ⟨cv,B,J,W,U,O,T⟩:=n
 obtain ⟨⟨news,K,S⟩,Q⟩:=hs
 obtain ⟨m,w',L,G,F,l,p,j,a,k⟩:=gH (P:=P) w t D ty e i z R V hz hz1 H v xs.length cv B J x ys.length news K I g
 have d:∀ b,m.ownBlock=some b->v.ownBlock=some b\/w.heap.size<=b:=fun b s=>by
  rcases a with ⟨q,_⟩ | ⟨q,_⟩
  .exact .inl (q▸s)
  .rw [q] at s;cases s;omega
 refine ⟨m,w',L,⟨cv++news,by simp;omega,fun u A=>?_,fun y r=>?_,fun q c C=>?_,fun b s o=>?_,k T⟩,F,l,p,j,d,fun b f N=>?_⟩
 .rcases Ao.1 A with A | A
  .exact J u A
  .exact K.one u A
 .rcases Ao.1 r with r | r
  .exact W y r
  .exact Q y r
 .by_cases f:q<xs.length*i.size
  .rw [cH h f] at C
   rw [Ag (by rw [B.1];exact f)]
   exact U q c C
  .rw [bY h o_] at C
   rw [Ar (by rw [B.1];omega),B.1]
   exact S _ c C
 .rcases d b s with q | q
  .exact O b q o
  .exact hm.noImm q o
 .rcases a with ⟨_,q⟩ | ⟨_,q⟩
  .exact q b N
  .exact q b f
theorem dG.hm {v:Value} {sz:Nat} {e:TypeId} {xs:List AVal} (h:dG M w v sz e xs):∃ a c,v=hmV (a,c,xs):=by
 obtain ⟨cv,d,_⟩:=h
 rcases dB d with ⟨q,f⟩ | ⟨b,cap,q,_⟩
 .exact ⟨none,0,by rw [q,hmV];grind⟩
 .exact ⟨_,cap,q⟩
theorem Mem.famAppend {P:Program} (h:Mem M ob obs w) {t tx ty e:TypeId} {i:TypeInfo} {z:Value} (ht:P.underlying t=some (.slice e)) (hi:P.info? e=some i) (hz:i.zero=some z) (hz1:z.cells.toList.all (·.oneCell')=true)
  (hzs:z.cells.size=i.size) (S:0<i.size) {k g j:Nat} {s:List Hm} {m:Hm} {ys:List AVal} (hx:obs[k]? =some (.bun g (lK i.size e s))) (G:s[j]? =some m) {x:Value} (hs:SrcA P M w i.size tx x ys)
  (h63:m.2.2.length+ys.length<=maxLen) (D:(m.2.2.length+ys.length)*i.bytes<=140737488355328):
  ∃ a c w' ob',(Cr #[t,tx] ty #[hmV m,x]).run P w= .ok (hmV (a,c,m.2.2++ys)) w'/\Mem M ob' (obs.set k (.bun (g+1) (lK i.size e (s.set j (a,c,m.2.2++ys))))) w'/\
   Ext M ob obs w M ob' (obs.set k (.bun (g+1) (lK i.size e (s.set j (a,c,m.2.2++ys))))) w':=by
 obtain ⟨V,hh,hl,bs,hv,hd,h1,X,h3⟩:=h.obj k _ hx
 have C:blk V=bs:=(fC hl hv).trans (eM _)
 obtain ⟨v',w',hr,I,hos,L,Q,N,n,l⟩:=dG.append (P:=P) (ty:=ty) h ht hi hz hz1 hzs S (h1 j m G) hs h63 D
 obtain ⟨a,c,rfl⟩:=I.hm
 have hjl:j<s.length:=(Ac.1 G).1
 have get:∀ {q:Nat} {d:Hm},(s.set j (a,c,m.2.2++ys))[q]? =some d->(q=j/\d=(a,c,m.2.2++ys))\/(q≠j/\s[q]? =some d):=fun {q d} f=>by
  by_cases K:q=j
  .subst K;rw [Ba hjl] at f;cases f;simp
  .rw [Bh (Eu K)] at f;exact .inr ⟨K,f⟩
 have r:∀ {q:Nat} {d:Hm} {b:Nat},s[q]? =some d->(hmV d).ownBlock=some b->b∈bs/\b<w.heap.size:=fun {q d b} f C=>by
  have:=(h3 b).2 ⟨q,d,f,C⟩
  obtain ⟨o,ho,_⟩:=hd b this
  exact ⟨this,eI ho⟩
 have A:∀ (q:Nat) d,(s.set j (a,c,m.2.2++ys))[q]? =some d->dG M w' (hmV d) i.size e d.2.2:=fun q d f=>by
  rcases get f with ⟨_,rfl⟩ | ⟨hne,f⟩
  .exact I
  .refine (h1 q d f).mono (fun _ _ _ h=>h) (fun _ _ h=>h) fun b c' C hc=>?_
   rw [l b (r f C).2 fun e=>hne (X q j d m b f G C e)]
   exact hc
 let F:=(s.set j (a,c,m.2.2++ys)).filterMap fun m=>(hmV m).ownBlock
 have v:∀ b,b∈F↔ ∃ (i:Nat) (d:Hm),(s.set j (a,c,m.2.2++ys))[i]? =some d/\(hmV d).ownBlock=some b:=fun b=>by
  simp only [F,List.mem_filterMap]
  constructor
  .rintro ⟨d,R,T⟩
   obtain ⟨q,f⟩:=Ch R
   exact ⟨q,d,f,T⟩
  .rintro ⟨q,d,R,T⟩
   exact ⟨d,Az R,T⟩
 have hno:∀ {b o y},M b o y->(hmV m).ownBlock≠some b:=fun {b o y} W e=>by
  obtain ⟨_,_,_,_,_,o5,_⟩:=h1 j m G
  exact o5 b e o y W
 have H:=h.turn (M':=M) (w':=w') (x':=.bun (g+1) (lK i.size e (s.set j (a,c,m.2.2++ys)))) (hs':=V++[gF F]) hx hh ⟨_,rfl⟩ (fun e=>by cases e) (fun _ _ _ h=>h) (fun _ _ _ h=>.inl h) (fun b o y W=>by
   obtain ⟨u,hu,R,T⟩:=h.imm b o y W
   have J:b<w.heap.size:=by simpa using Cy w _ hu
   exact ⟨u,(Dc (w:=w) (a:=⟨b,o,none⟩) (l b J (hno W))).trans hu,R,T⟩)
  (fun b J hn=>l b J fun e=>hn ⟨rfl,by rw [C];exact (r G e).1⟩) hos L Q N
  (fun _=>⟨by simp [hl],F,by rw [<-hl];simp,fun b C=>by
   obtain ⟨q,d,f,C⟩:=(v b).1 C
   exact (A q d f).blockAt C,A,fun q q' m1 m2 b f B Z Y=>by
   rcases get f with ⟨r1,rfl⟩ | ⟨r1,f⟩<;>rcases get B with ⟨r2,rfl⟩ | ⟨r2,B⟩
   .rw [r1,r2]
   .rcases n b Z with p | p
    .exact absurd (X j q' m m2 b G B p Y) (fun e=>r2 e.symm)
    .have:=(r B Y).2;omega
   .rcases n b Y with p | p
    .exact absurd (X q j m1 m b f G Z p) r1
    .have:=(r f Z).2;omega
   .exact X q q' m1 m2 b f B Z Y,v⟩)
  (fun _ b U=>by
   rw [nN,eM] at U
   obtain ⟨q,d,f,O⟩:=(v b).1 U
   refine ⟨?_,by obtain ⟨o,ho,_⟩:=(A q d f).blockAt O;exact eI ho⟩
   rw [C]
   rcases get f with ⟨_,rfl⟩ | ⟨_,f⟩
   .rcases n b O with p | p
    .exact .inl ⟨rfl,(r G p).1⟩
    omega
   .exact .inl ⟨rfl,(r f O).1⟩)
 exact ⟨a,c,w',_,hr,H.1,H.2.1⟩
end
section
variable {E:Env} {fn:Func} {g:Goal}
inductive HandA (E:Env) (fn:Func) (g:Goal) (all:List Oper) (tab:List Nat) (ks:List KI) (n:Nat) (d:Option Nat) (s x:Operand) (t t2:TypeId) (l2:List Oper) (fr:List (Nat×AVal)) (obs:List AObj):Prop
 | mk (k gg j:Nat) (ms:List Hm) (m:Hm) (ys:List AVal) (e esz eb sz:Nat) (ag:Bool) (z:AVal) (hk:aC obs k= .bun gg (lK esz e ms)) (hj:ms[j]? =some m) (hs:ev fr s=hmA m) (hT:cU E.T t=some {kind:=.slc e esz eb,size:=sz,agg:=ag,zero:=z})
   (hp:Ff 1 esz=true) (hx:XZ E (aC obs) esz t2 (ev fr x)=some ys) (hf:yX (m.2.2.length+ys.length) eb)
   (h:∀ a c,To E fn g (.mid ⟨all,false,tab,ks⟩ (n+1) l2 [] (jN fr d (hmA (a,c,m.2.2++ys))) (bH obs k (.bun (gg+1) (lK esz e (ms.set j (a,c,m.2.2++ys)))))))
theorem SU {M:Imm} {ob:Hs} {v:Value} {m:Hm} (h:Rep M ob v (hmA m)):v=hmV m:=by cases h;rfl
theorem tN {rd:Option Nat} {ops:Array Oper} {M0:Imm} {ob0:Hs} {obs0:List AObj} {w0:World} {sz:Nat} {dfs:List (Nat×List AVal)} {Q:Exit->Act->World->Prop} {K:List (Nat×AVal)->List AObj->Prop} {Kp:(Nat->AVal)->AVal->List AObj->Prop} {rest:List Oper}
  (hE:EnvOK E) (hp:∀ g v obs c a w,Kp g v obs->PP M0 ob0 obs0 w0 sz dfs g v obs c a w->Q (.panic c) a w) (j:∀ fr obs a w,K fr obs->SS M0 ob0 obs0 w0 sz dfs fr obs a w->wpListIn (fen rd) 0 E.P ops Q rest a w):
  ∀ (l:List Oper) (n:Nat) (fr:List (Nat×AVal)) (obs:List AObj) (a:Act) (w:World),(∀ p∈l,∀ d,p.dst=some d->d<sz)->dF E ops.toList K Kp n l fr obs->SS M0 ob0 obs0 w0 sz dfs fr obs a w->wpListIn (fen rd) 0 E.P ops Q (l++rest) a w
 | [],n,fr,obs,a,w,_,h,hs=>j fr obs a w h hs
 | p::l,n,fr,obs,a,w,hd,h,hs=>by
  refine wk (J9 (K:=fun fr obs=>dF E ops.toList K Kp (n+1) l fr obs) (Kp:=Kp) (hint:=cZ E p.dst) hE hs (hd p s_) ?_ fun v obs c w i f=>hp (aR fr) v obs c a w i f) fun m w' ⟨e,obs',i,hs'⟩=>tN hE hp j l (n+1) e obs' m w' (fun p hp=>hd p (by simp [hp])) i hs'
  simp only [dF] at h
  cases k:bZ ops.toList (ev fr) p.guard with
  | none=>rw [k] at h;exact h.elim
  | some b=>
   rw [k] at h
   cases b with
   | false=>exact h
   | true=>
    exact gI (fun v o h=>tR h) h
theorem HI {P:Program} {s x:Operand} {t b:TypeId} {p:Oper} (hp:p.op= .call {callee:=.builtin .append,args:= #[s,x],argTypes:= #[t,b]}) {ρ:Operand->Value} {w w':World} {v:Value}
  (h:(Cr #[t,b] p.type #[ρ s,ρ x]).run P w= .ok v w'):(execOp ρ p).run P w= .ok (.value v) w':=by
 obtain ⟨d,op,ty,pos,a,c⟩:=p
 dsimp only at hp
 subst hp
 simp [execOp,resolve,invoke,builtin,h]
theorem To.handA (hE:EnvOK E) {id:Nat} {ops:Array Oper} {tab:List Nat} {ks:List KI} {fr:List (Nat×AVal)} {obs:List AObj} {l1 l2:List Oper} {p:Oper} {s x:Operand} {t L:TypeId} (d:ops.toList=l1++p::l2)
  (hp:p.op= .call {callee:=.builtin .append,args:= #[s,x],argTypes:= #[t,L]}) (hg:p.guard=none)
  (h:dF E ops.toList (HandA E fn g ops.toList tab ks l1.length p.dst s x t L l2) (iA E fn g) 0 l1 fr obs):To E fn g (.code (.code (.region id ops false)::ks) fr obs):=
 .mk fun ho M0 ob0 obs0 w0 a w hst hs=>by
  simp only [aV,KI.ok,cS,Af] at ho
  obtain ⟨⟨J,ho2⟩,V⟩:=ho
  have hd:=kA J
  refine KW.code (Q':=QR E fn g M0 ob0 obs0 w0 ks) ?_ (fun a w h=>h) (fun l a w h=>h) (fun e a w hh=>by
   cases e<;>first | exact .inl rfl | exact .inr ⟨_,rfl⟩ | exact hh.elim)
  have f:∀ o v obs l a w,iA E fn g o v obs->PP M0 ob0 obs0 w0 fn.ntmps E.df o v obs l a w->jV E fn M0 ob0 obs0 w0 g (.panic l) a w:=fun o v obs l a w he f=>vE he hst f
  have hq:∀ fr obs a w,dE E fn g ks fr obs->SS M0 ob0 obs0 w0 fn.ntmps E.df fr obs a w->KW E.rd E.P (jV E fn M0 ob0 obs0 w0 g) ks a w:=fun fr obs a w X hs=>X V M0 ob0 obs0 w0 a w hst hs
  refine wpIn_region_list ?_
  have y:∀ fr obs a w,HandA E fn g ops.toList tab ks l1.length p.dst s x t L l2 fr obs->SS M0 ob0 obs0 w0 fn.ntmps E.df fr obs a w->wpListIn (fen E.rd) 0 E.P ops (QR E fn g M0 ob0 obs0 w0 ks) (p::l2) a w:=by
   rintro fr obs a w ⟨k,gg,j,ms,m,ys,e,esz,eb,sz,ag,z0,X,hj,W,hT,b,N,hf,n⟩ hs
   obtain ⟨M,ob,hx,hm,u,H,Y,h0⟩:=hs
   obtain ⟨⟨hu,i,z,hi,T,O,hz,S,hz1⟩,_⟩:=(hE.tab t _ hT).kind
   subst T O
   have b:=Cl b
   have r:=xD (a:=a) u
   have F:=NU hE hm (r x) N b
   have q:=bL X s_
   have U:a.eval s=hmV m:=by
    have:=r s
    rw [W] at this
    exact SU this
   obtain ⟨D,C,w',ob',A,m1,I⟩:=hm.famAppend (P:=E.P) (ty:=p.type) hu hi hz hz1 S b q hj F hf.1 hf.2
   have hop:oY E.P p a.eval w (fun e R=>e= .returned (hmV (D,C,m.2.2++ys))/\R=w'):=.inl ⟨_,_,HI hp (by rw [U];exact A),rfl,rfl⟩
   refine wk (next:=fun a w=>SS M0 ob0 obs0 w0 fn.ntmps E.df (jN fr p.dst (hmA (D,C,m.2.2++ys))) (bH obs k (.bun (gg+1) (lK i.size e (ms.set j (D,C,m.2.2++ys))))) a w) ?_ fun a w hs=>?_
   .unfold G
    rw [if_pos (by simp [Ds,hg])]
    refine hop.wpIn (by intro c;rw [hp];simp) (fun v R ⟨Z,e2⟩=>?_) (fun l R ⟨Z,_⟩=>by cases Z)
    cases Z
    subst e2
    rw [aO q]
    have:=I.lens
    have:=m1.len
    refine ⟨M,ob',hx.trans I,m1,?_,(dD _ _ _).1.trans H,(Y.ext hm I).put,by simp;omega⟩
    rw [dK]
    exact kW (fun t=>(u t).mono I.imm I.hs) (aGI M ob' (D,C,m.2.2++ys)) fun d' e=>H▸hd p (by rw [d];simp) d' e
   .obtain ⟨n⟩:=n D C
    exact qW (rd:=E.rd) (Q:=QR E fn g M0 ob0 obs0 w0 ks) (K:=dE E fn g ks) (Kp:=iA E fn g) hE (fun o v obs l a w h1 B=>f o v obs l a w h1 B) (fun fr obs a w h1 B=>hq fr obs a w h1 B) l2 (l1.length+1) _ _ a w (fun p hp=>hd p (by rw [d];simp [hp])) n hs
  rw [d]
  exact tN (rd:=E.rd) (Q:=QR E fn g M0 ob0 obs0 w0 ks) (Kp:=iA E fn g) hE (fun o v obs l a w h1 B=>f o v obs l a w h1 B) y l1 0 fr obs a w (fun p hp=>hd p (by rw [d];simp [hp])) h hs
theorem To.objTo {st:List KI} {fr:List (Nat×AVal)} {obs:List AObj} (k:Nat) {x x':AObj} (A:aC obs k=x) (v:x≠ .dead) (l:x.owns=true) (t:∀ M ob w hs,(∀ b,b∈blk hs->b<w.heap.size)->gR M ob w hs x->gR M ob w hs x')
  (h:To E fn g (.code st fr (bH obs k x'))):To E fn g (.code st fr obs):=
 .mk fun r M0 ob0 obs0 w0 a w hst hs=>by
  obtain ⟨M,ob,d,hm,o,z,y,B⟩:=hs
  have e:=bL A v
  refine h.rec fun h=>h r M0 ob0 obs0 w0 a w hst ?_
  rw [aO e]
  have q:=(Ac.1 e).1
  have m:∀ {i b},aK ob (obs.set k x') i b->aK ob obs i b:=fun {i b} ⟨c,hs,e1,e2,e3,e4⟩=>by
   by_cases f:i=k
   .subst f;exact ⟨x,hs,e,l,e3,e4⟩
   .rw [Bh (Eu f)] at e1;exact ⟨c,hs,e1,e2,e3,e4⟩
  refine ⟨M,ob,⟨d.imm,d.new,d.hs,d.os,d.tape,d.output,d.size,d.keep,fun i b p=>d.fresh i b (m p)⟩,⟨hm.imm,by simpa using hm.len,fun i c n=>?_,fun i b p=>hm.lt i b (m p),fun i j b h1 s=>hm.inj i j b (m h1) (m s)⟩,o,z,y,by simp;omega⟩
  by_cases f:i=k
  .subst f
   rw [Ba q] at n
   cases n
   obtain ⟨hs,h1,s⟩:=hm.obj i x e
   exact ⟨hs,h1,t _ _ _ _ (fun b u=>hm.lt i b ⟨x,hs,e,l,h1,u⟩) s⟩
  .rw [Bh (Eu f)] at n
   exact hm.obj i c n
theorem To.beginF {st:List KI} {fr:List (Nat×AVal)} {obs:List AObj} (sz:Nat) (e:TypeId) (h:To E fn g (.code st fr (lP obs (.bun 0 (lK sz e []))))):To E fn g (.code st fr obs):=
 .mk fun p M0 ob0 obs0 w0 a w hst hs=>by
  obtain ⟨M,ob,r,hm,n,y,v,B⟩:=hs
  refine h.rec fun h=>h p M0 ob0 obs0 w0 a w hst ?_
  rw [pW]
  have o:blk [gF []]=[]:=eM _
  obtain ⟨u,z⟩:=hm.snoc (c:=.bun 0 (lK sz e [])) (hs:=[gF []]) (fun ob _=>⟨rfl,[],rfl,fun b o=>by simp at o,fun i m h=>by simp at h,fun i j m A b h=>by simp at h,fun b=>⟨fun h=>by simp at h,fun ⟨i,m,h,_⟩=>by simp at h⟩⟩) (fun b h=>by simp_all) (fun k b _=>by simp_all)
  have f:dR ob (ob++[[gF []]]):=fun j l s=>⟨l,by rw [Ag (Ac.1 s).1];exact s,Dd _⟩
  have d:Ext M ob obs w M (ob++[[gF []]]) (obs++[.bun 0 (lK sz e [])]) w:=⟨fun _ _ _ h=>h,fun _ _ _ h=>.inl h,f,rfl,rfl,rfl,Bi _,fun _ _ _=>rfl,fun k b x=>by
   rcases z k b x with ⟨_,q⟩ | ⟨_,q⟩
   .exact .inl ⟨k,q⟩
   .rw [o] at q;simp at q⟩
  exact ⟨M,_,r.trans d,u,fun t=>(n t).mono (fun _ _ _ h=>h) f,y,v.ext hm d,by simp;omega⟩
theorem aEe {M:Imm} {ob:Hs} {w:World} {hs:List Value} {gg sz:Nat} {e:TypeId} {d:List Hm} (h:gR M ob w hs (.bun gg (lK sz e d))):gR M ob w hs (.bun gg (lK sz e (d++[(none,0,[])]))):=by
 obtain ⟨h1,bs,f,h3,p,q,l⟩:=h
 have get:∀ {i:Nat} {m:Hm},(d++[((none,0,[]):Hm)])[i]? =some m->d[i]? =some m\/(i=d.length/\m=(none,0,[])):=fun {i m} a=>by
  by_cases hl:i<d.length
  .rw [Ag hl] at a;exact .inl a
  .have f:i=d.length:=by have:=(Ac.1 a).1;simp at this;omega
   subst f
   rw [Ar s_] at a
   simp at a
   exact .inr ⟨rfl,a.symm⟩
 refine ⟨h1,bs,f,h3,fun i m a=>?_,fun i j m n b a g c k=>?_,fun b=>⟨fun o=>?_,fun ⟨i,m,a,c⟩=>?_⟩⟩
 .rcases get a with a | ⟨_,rfl⟩
  .exact p i m a
  .exact dG.nil sz e
 .rcases get a with a | ⟨_,rfl⟩
  .rcases get g with g | ⟨_,rfl⟩
   .exact q i j m n b a g c k
   .cases k
  .cases c
 .obtain ⟨i,m,a,c⟩:=(l b).1 o
  exact ⟨i,m,by rw [Ag (Ac.1 a).1];exact a,c⟩
 .rcases get a with a | ⟨_,rfl⟩
  .exact (l b).2 ⟨i,m,a,c⟩
  .cases c
theorem aCR {M:Imm} {ob:Hs} {w:World} {hs:List Value} {gg:Nat} {e:TypeId} {d:List Hm} (h:gR M ob w hs (.row gg 1 e (d.map hmA++[.nilslice]))):gR M ob w hs (.row gg 1 e ((d++[(none,0,[])]).map hmA)):=by
 obtain ⟨h1,v,s,cv,p,o,t,g,j,n⟩:=h
 refine ⟨h1,v,s,cv,by simpa using p,o,fun x b=>?_,fun q c r=>?_,j,n⟩
 .simp only [Bb] at b
  obtain ⟨m,_,rfl⟩:=b
  rfl
 .have one:∀ {l:List AVal} {q:Nat} {c:AVal},(∀ x∈l,x.cells=[x])->(cellAt 1 l q=some c↔l[q]? =some c):=fun {l q c} hl=>by
   unfold cellAt
   rw [Jp,Nat.mod_one]
   cases f:l[q]? with
   | none=>simp
   | some x=>simp [hl x (Az f)]
  have a:=(one (fun x b=>by simp only [Bb] at b;obtain ⟨m,_,rfl⟩:=b;rfl)).1 r
  rw [Bl] at a
  by_cases hl:q<d.length
  .rw [Ag q_] at a
   exact g q c ((one (fun x b=>by
    simp only [Ao,Bb,Bf] at b
    rcases b with ⟨m,_,rfl⟩ | rfl<;>rfl)).2 (by rw [Ag q_];exact a))
  .have f:q=d.length:=by have:=(Ac.1 a).1;simp at this;omega
   subst f
   rw [Ar s_] at a
   simp at a
   obtain ⟨u,k,i⟩:=g d.length .nilslice ((one (fun x b=>by
    simp only [Ao,Bb,Bf] at b
    rcases b with ⟨m,_,rfl⟩ | rfl<;>rfl)).2 s_)
   refine ⟨u,k,?_⟩
   subst a
   cases i
   exact .hsl _ _ _
end
section
variable {M:Imm} {ob:Hs} {obs:List AObj} {w:World}
theorem Mem.famFreeze (h:Mem M ob obs w) {k gg sz:Nat} {e:TypeId} {r:List Hm} (x:obs[k]? =some (.bun gg (lK sz e r))):
  ∃ M' ob',Mem M' ob' (obs.set k (.bun (gg+1) (lK sz e []))) w/\Ext M ob obs w M' ob' (obs.set k (.bun (gg+1) (lK sz e []))) w/\∀ (i:Nat) m,r[i]? =some m->Rep M' [] (hmV m) (.slice sz m.2.2 .no):=by
 obtain ⟨d,G,hl,bs,D,K,h1,L,h3⟩:=h.obj k _ x
 have n:blk d=bs:=(fC hl D).trans (eM _)
 let M':Imm:=fun b o y=>M b o y\/∃ (i:Nat) (m:Hm),r[i]? =some m/\(hmV m).ownBlock=some b/\cellAt sz m.2.2 o=some y
 have q:∀ b o y,M b o y->M' b o y:=fun _ _ _ h=>.inl h
 have c:=h.turn (M':=M') (w':=w) (x':=.bun (gg+1) (lK sz e [])) (hs':=d++[gF []]) x G ⟨_,rfl⟩ (fun e=>by cases e) q (fun b o y a=>by
   rcases a with a | ⟨i,m,s,f,_⟩
   .exact .inl a
   .exact .inr (.inl ⟨rfl,by rw [n];exact (h3 b).2 ⟨i,m,s,f⟩⟩)) (fun b o y a=>by
   rcases a with a | ⟨i,m,s,f,l⟩
   .obtain ⟨u,I,H,F⟩:=h.imm b o y a
    exact ⟨u,I,H,F.monoM q⟩
   .obtain ⟨cv,p,z,B,A,_⟩:=h1 i m s
    obtain ⟨u,v,C⟩:=A o y l
    exact ⟨u,eO p f v,z u (Az v),C.monoM q⟩) (fun _ _ _=>rfl) rfl rfl rfl (Bi _)
  (fun _=>⟨by simp [hl],[],by rw [<-hl];simp,fun b n=>by simp at n,fun i m h=>by simp at h,fun i j m J b h=>by simp at h,fun b=>⟨fun h=>by simp at h,fun ⟨i,m,h,_⟩=>by simp at h⟩⟩)
  (fun _ b g=>by
   rw [nN,eM] at g
   simp at g)
 refine ⟨M',_,c.1,c.2.1,fun i m hm=>?_⟩
 obtain ⟨cv,p,z,B,A,_⟩:=h1 i m hm
 exact (iU (M:=M) (ob:=[]) p B (t:=.no) trivial).monoM fun b o y a=>by
  rcases a with a | ⟨f,l⟩
  .exact .inl a
  .exact .inr ⟨i,m,hm,f,l⟩
theorem Mem.objTo (hm:Mem M ob obs w) {k:Nat} {x x':AObj} (a:obs[k]? =some x) (n:x.owns=true) (o:∀ hs,ob[k]? =some hs->gR M ob w hs x->gR M ob w hs x'):Mem M ob (obs.set k x') w/\Ext M ob obs w M ob (obs.set k x') w:=by
 have l:=(Ac.1 a).1
 have e:∀ {i b},aK ob (obs.set k x') i b->aK ob obs i b:=fun {i b} ⟨c,hs,e1,e2,e3,e4⟩=>by
  by_cases d:i=k
  .subst d;exact ⟨x,hs,a,n,e3,e4⟩
  .rw [Bh (Eu d)] at e1;exact ⟨c,hs,e1,e2,e3,e4⟩
 refine ⟨⟨hm.imm,by simpa using hm.len,fun i c f=>?_,fun i b g=>hm.lt i b (e g),fun i j b h1 m=>hm.inj i j b (e h1) (e m)⟩,⟨fun _ _ _ h=>h,fun _ _ _ h=>.inl h,dR.refl _,rfl,rfl,rfl,Bi _,fun _ _ _=>rfl,fun i b g=>.inl ⟨i,e g⟩⟩⟩
 by_cases d:i=k
 .subst d
  rw [Ba l] at f
  cases f
  obtain ⟨hs,h1,m⟩:=hm.obj i x a
  exact ⟨hs,h1,o _ h1 m⟩
 .rw [Bh (Eu d)] at f
  exact hm.obj i c f
end
theorem DJ {l:List AVal} {q:Nat} {c:AVal} (hl:∀ x∈l,x.cells=[x]):cellAt 1 l q=some c↔l[q]? =some c:=by
 unfold cellAt
 rw [Jp,Nat.mod_one]
 cases a:l[q]? with
 | none=>simp
 | some x=>simp [hl x (Az a)]
theorem To.famFrz {E:Env} {fn:Func} {g:Goal} {st:List KI} {fr:List (Nat×AVal)} {obs:List AObj} (k r:Nat) {gg p sz:Nat} {e o:TypeId} {l:List Hm} (O:aC obs k= .bun gg (lK sz e l)) (y:aC obs r= .row p 1 o (l.map hmA))
  (h:To E fn g (.code st fr (bH (bH obs k (.bun (gg+1) (lK sz e []))) r (.row p 1 o (l.map fun m=>.slice sz m.2.2 .no))))):To E fn g (.code st fr obs):=
 .mk fun z M0 ob0 obs0 w0 a w hst hs=>by
  obtain ⟨M,ob,B,hm,s,N,K,W⟩:=hs
  have f:=bL O s_
  have i:=bL y s_
  have A:k≠r:=fun e=>by simp_all
  refine h.rec fun h=>h z M0 ob0 obs0 w0 a w hst ?_
  rw [aO f]
  have n:(obs.set k (.bun (gg+1) (lK sz e [])))[r]? =some (.row p 1 o (l.map hmA)):=by rw [Bh A];exact i
  rw [aO n]
  obtain ⟨M',ob',H,S,F⟩:=hm.famFreeze f
  obtain ⟨C,T⟩:=H.objTo (x':=.row p 1 o (l.map fun m=>.slice sz m.2.2 .no)) n rfl fun hs _ ⟨h1,v,R,cv,U,J,V,G,P,I⟩=>by
   refine ⟨h1,v,R,cv,by simpa using U,J,fun x b=>?_,fun q c Q=>?_,P,I⟩
   .simp only [Bb] at b
    obtain ⟨m,_,rfl⟩:=b
    rfl
   .have j:=(DJ (fun x b=>by simp only [Bb] at b;obtain ⟨m,_,rfl⟩:=b;rfl)).1 Q
    rw [Bd] at j
    obtain ⟨m,d,rfl⟩:=Cq.1 j
    obtain ⟨u,L,D⟩:=G q (hmA m) ((DJ (fun x b=>by simp only [Bb] at b;obtain ⟨m,_,rfl⟩:=b;rfl)).2 (by rw [Bd,d];rfl))
    exact ⟨u,L,by rw [SU D];exact F q m d⟩
  have X:=S.trans T
  have:=X.lens
  have:=C.len
  exact ⟨M',ob',B.trans X,C,fun t=>(s t).mono X.imm X.hs,N,K.ext hm X,by simp;omega⟩
theorem To.handAt {E:Env} {fn:Func} {g:Goal} (hE:EnvOK E) (n:Nat) {id:Nat} {ops:Array Oper} (tab:List Nat) {ks:List KI} {fr:List (Nat×AVal)} {obs:List AObj} {p:Oper} {s x:Operand} {t b:TypeId} (c:ops.toList[n]? =some p)
  (hp:p.op= .call {callee:=.builtin .append,args:= #[s,x],argTypes:= #[t,b]}) (d:p.guard=none)
  (h:dF E ops.toList (HandA E fn g ops.toList tab ks n p.dst s x t b (ops.toList.drop (n+1))) (iA E fn g) 0 (ops.toList.take n) fr obs):To E fn g (.code (.code (.region id ops false)::ks) fr obs):=by
 have a:=(Ac.1 c).1
 refine To.handA hE (tab:=tab) (l1:=ops.toList.take n) (l2:=ops.toList.drop (n+1)) (p:=p) ?_ hp d ?_
 .conv=>lhs;rw [<-De n ops.toList,Ad a]
  grind
 .rw [Fc,Ic (Nat.le_of_lt a)]
  exact h
def yA (r:Nat):Code->Option Code
 | .region id ops dr=>bif Av id r then some (.region id ops dr) else none
 | .seq a b=>(match yA r a with | some x=>some x | none=>yA r b)
 | .cond _ a b=>(match yA r a with | some x=>some x | none=>yA r b)
 | .block _ b=>yA r b
 | .loop b=>yA r b
 | _=>none
def vT (fn:Func) (r:Nat):List KI:=.code (match yA r (cC fn) with | some c=>c | none=>.skip)::oU fn r
theorem To.ofC {E:Env} {fn:Func} {g:Goal} {ks:List KI} {fr:List (Nat×AVal)} {obs:List AObj} (h:To E fn g (.code ks fr obs)):To E fn g (.head ks fr obs):=h.rec fun h=>.mk h
theorem To.toC {E:Env} {fn:Func} {g:Goal} {ks:List KI} {fr:List (Nat×AVal)} {obs:List AObj} (h:To E fn g (.head ks fr obs)):To E fn g (.code ks fr obs):=h.rec fun h=>.mk h
section
variable {E:Env} {all:List Oper} {tab:List Nat} {L0:Nat}
end
section
variable {E:Env} {ops:Array Oper} {tab:List Nat} {tl L0:Nat} {Kp:(Nat->AVal)->AVal->List AObj->Prop} {Q:AS->Prop}
end
section
variable {E:Env} {ops:Array Oper} {tab:List Nat} {tl L0:Nat} {Kp:(Nat->AVal)->AVal->List AObj->Prop} {Kq:List (Nat×AVal)->List AObj->Prop} {Q:AS->Prop}
end
section
variable {rd:Option Nat} {M0:Imm} {ob0:Hs} {obs0:List AObj} {w0:World} {sz:Nat} {dfs:List (Nat×List AVal)} {E:Env} {ops:Array Oper} {Q:Exit->Act->World->Prop} {K:AS->Prop} {Kp:(Nat->AVal)->AVal->List AObj->Prop} {tl L0:Nat} {tab:List Nat}
end
section
variable {E:Env} {ops:Array Oper} {tab:List Nat} {tl L0:Nat} {Kp:(Nat->AVal)->AVal->List AObj->Prop} {Kg:List (Nat×AVal)->List AObj->Prop}
theorem LI.up {n m:Nat} {obs:List AObj} {br:List (Nat×Nat)} (h:LI L0 n obs br) (b:n<=m):LI L0 m obs br:=⟨h.low,h.all,fun i k a=>by have:=h.lt i k a;omega⟩
end
def L6 (A tab:List Nat) (n t:Nat):Nat->List Oper->Bool
 | _,[]=>false
 | i,p::r=>(match p.dst with | some d=>Av d t&&(sB i A&& !cF (dC tab n) i) | none=>false)||L6 A tab n t (i+1) r
def evP (A tab:List Nat) (all:List Oper) (n:Nat) (fr:List (Nat×AVal)):Operand->AVal
 | .tmp t=>bif L6 A tab n t 0 all then .undef else aR fr t
 | x=>ev fr x
def zG (A:List Nat) (t:Nat):Nat->List Oper->Bool
 | _,[]=>false
 | i,p::r=>(match p.dst with | some d=>Av d t&&sB i A | none=>false)||zG A t (i+1) r
def gP (A:List Nat) (all:List Oper) (fr:List (Nat×AVal)):Nat->AVal:=fun t=>bif zG A t 0 all then .undef else aR fr t
def B1 (E:Env) (A tab:List Nat) (all:List Oper) (fr:List (Nat×AVal)) (obs:List AObj):List Nat->Prop
 | []=>True
 | i::r=>(match nth all i with
   | some p=>(match p.guard with
    | none=>(match p.dst with
     | some d=>eop E (cZ E p.dst) (aM obs) (aC obs) (evP A tab all i fr) p.op p.type= .val (aR fr d)
     | none=>False)
    | some _=>False)
   | none=>False)/\B1 E A tab all fr obs r
def pI (tab:List Nat) (n:Nat):List Nat->List Nat
 | []=>[]
 | i::r=>bif cF (dC tab n) i then pI tab n r else i::pI tab n r
def K0 (fr:List (Nat×AVal)) (d:Option Nat) (v:AVal) (k:List (Nat×AVal)->Prop):Prop:=
 match d with
 | none=>k fr
 | some d=>BG fr d v k
theorem BF (fr:List (Nat×AVal)) (d:Option Nat) (v:AVal) (k:List (Nat×AVal)->Prop):K0 fr d v k=k (jN fr d v):=by
 cases d with
 | none=>rfl
 | some d=>exact jO fr d v k
def QL (E:Env) (A tab:List Nat) (all:List Oper) (K:List (Nat×AVal)->List AObj->Prop) (Kp:(Nat->AVal)->AVal->List AObj->Prop):List Nat->List Nat->List (Nat×AVal)->List AObj->Prop
 | [],U,fr,obs=>B1 E A tab all fr obs U/\K fr obs
 | n::rest,U,fr,obs=>B1 E A tab all fr obs U/\(match nth all n with
   | none=>False
   | some p=>(match p.guard with
    | some _=>False
    | none=>orF E.P obs (fun v obs'=>KD 5 v fun v=>ODL obs' fun obs'=>K0 fr p.dst v fun fr=>QL E A tab all K Kp rest (pI tab n U) fr obs') (Kp (gP A all fr))
            (eop E (cZ E p.dst) (aM obs) (aC obs) (evP A tab all n fr) p.op p.type)))
def xT (E:Env) (A tab:List Nat) (all:List Oper) (obs:List AObj):List Nat->List (Nat×AVal)->(List (Nat×AVal)->Prop)->Prop
 | [],fr,k=>k fr
 | i::r,fr,k=>match nth all i with
  | some p=>(match p.dst with
   | some d=>(match eop E (cZ E p.dst) (aM obs) (aC obs) (evP A tab all i fr) p.op p.type with
    | .val v=>KD 5 v fun v=>BG fr d v fun fr=>xT E A tab all obs r fr k
    | _=>False)
   | none=>False)
  | none=>False
def chB (tab:List Nat):List Nat->Bool
 | []=>true
 | n::r=>(r.all fun j=>cF (dC tab j) n)&&chB tab r
def aBH (A B:List Nat):Nat->Bool
 | 0=>true
 | n+1=>(sB n A||sB n B)&&aBH A B n
def aAi (sz:Nat):List Nat->Bool
 | []=>true
 | n::r=>(Eg n sz&& !sB n r)&&aAi sz r
def aE8 (A B tab:List Nat) (sz:Nat):Bool:=((aAi sz (A++B)&&aBH A B sz)&&chB tab B)
def pG (tab:List Nat) (n:Nat):List Nat->Bool
 | []=>true
 | j::r=>!(cF (dC tab n) j)&&pG tab n r
def D5 (n:Nat):List Nat->List Nat
 | []=>[]
 | j::r=>bif Av j n then r else j::D5 n r
def sN (tab a:List Nat) (f:Nat->Prop):List Nat->Prop
 | []=>True
 | n::r=>bif pG tab n a then f n/\sN tab a f r else sN tab a f r
def AU (E:Env) (A tab:List Nat) (all:List Oper) (K:List (Nat×AVal)->List AObj->Prop) (Kp:(Nat->AVal)->AVal->List AObj->Prop):List Nat->List Nat->List Nat->List (Nat×AVal)->List AObj->Prop
 | [],_,U,fr,obs=>B1 E A tab all fr obs U/\K fr obs
 | _::F,Bs,U,fr,obs=>B1 E A tab all fr obs U/\sN tab Bs (fun n=>match nth all n with
   | none=>False
   | some p=>(match p.guard with
    | some _=>False
    | none=>orF E.P obs (fun v obs'=>KD 5 v fun v=>ODL obs' fun obs'=>K0 fr p.dst v fun fr=>AU E A tab all K Kp F (D5 n Bs) (pI tab n U) fr obs') (Kp (gP A all fr))
      (eop E (cZ E p.dst) (aM obs) (aC obs) (evP A tab all n fr) p.op p.type))) Bs
def RC (A B tab:List Nat) (sz:Nat):Bool:=aAi sz (A++B)&&aBH A B sz
theorem CU {tab:List Nat} {n:Nat}:∀ {l:List Nat},(∀ j∈l,cF (dC tab n) j=false)->pG tab n l=true
 | [],_=>rfl
 | j::r,h=>by
  unfold pG
  rw [h j (Ak ..),CU fun k a=>h k (Ap _ a)]
  rfl
theorem HP (n:Nat):∀ l:List Nat,D5 n l=l.erase n
 | []=>rfl
 | j::r=>by
  unfold D5
  rw [List.erase_cons,HP n r]
  simp
theorem vP {tab b:List Nat} {f:Nat->Prop} {n:Nat} (c:pG tab n b=true):∀ {l:List Nat},sN tab b f l->n∈l->f n
 | [],_,h=>by cases h
 | j::r,h,a=>by
  unfold sN at h
  by_cases e:n=j
  .grind
  .have a:=(Aj.1 a).resolve_left e
   cases d:pG tab j b with
   | true=>rw [d] at h;exact vP c h.2 a
   | false=>rw [d] at h;exact vP c h a
theorem DF {tab a:List Nat} {f:Nat->Prop}:∀ {l:List Nat},(∀ j∈l,pG tab j a=false)->sN tab a f l
 | [],_=>trivial
 | j::r,h=>by
  unfold sN
  rw [h j (Ak ..)]
  exact DF fun k b=>h k (Ap _ b)
theorem xH {A B:List Nat}:∀ {n:Nat},aBH A B n=true->∀ i,i<n->i∈A\/i∈B
 | 0,_,i,hi=>by omega
 | n+1,h,i,hi=>by
  simp only [aBH,Af,Fy,kL] at h
  by_cases e:i=n
  .grind
  .exact xH h.2 i o_
theorem wQ {sz:Nat}:∀ {l:List Nat},aAi sz l=true->l.Nodup/\∀ i∈l,i<sz
 | [],_=>⟨Gh,fun i h=>by cases h⟩
 | n::r,h=>by
  simp only [aAi,Af,Co,Jc] at h
  obtain ⟨h1,b⟩:=wQ h.2
  refine ⟨Bp.2 ⟨fun hm=>?_,h1⟩,fun i a=>?_⟩
  .have:=kL.2 hm
   grind
  grind
theorem wV {A tab:List Nat} {n t:Nat}:∀ {l:List Oper} {k:Nat},L6 A tab n t k l=false->∀ (i:Nat) p,l[i]? =some p->p.dst=some t->(k+i)∈A->cF (dC tab n) (k+i)=true
 | [],_,_,i,p,hi,_,_=>by simp at hi
 | q::r,k,h,i,p,hi,hd,ha=>by
  simp only [L6,Hl] at h
  cases i with
  | zero=>
   simp at hi
   subst hi
   have h1:=h.1
   rw [hd] at h1
   dsimp only at h1
   rw [Lv,Bw,show sB k A=true from kL.2 ha,Bw] at h1
   grind
  | succ i=>
   have:=wV (k:=k+1) h.2 i p (by simp_all) hd (by grind)
   grind
theorem nI {A:List Nat} {t:Nat}:∀ {l:List Oper} {k:Nat},zG A t k l=false->∀ (i:Nat) p,l[i]? =some p->(k+i)∈A->p.dst≠some t
 | [],_,_,i,p,hi,_=>by simp at hi
 | q::r,k,h,i,p,hi,ha=>by
  simp only [zG,Hl] at h
  cases i with
  | zero=>
   simp at hi
   subst hi
   intro a
   have h1:=h.1
   rw [a] at h1
   dsimp only at h1
   rw [Lv,Bw] at h1
   have:=kL.2 (show k∈A from ha)
   grind
  | succ i=>exact nI (k:=k+1) h.2 i p (by simp_all) (by grind)
theorem I7 {A:List Nat} {t:Nat}:∀ {l:List Oper} {k:Nat},zG A t k l=true->∃ (i:Nat) (p:Oper),l[i]? =some p/\(k+i)∈A/\p.dst=some t
 | [],_,h=>by cases h
 | q::r,k,h=>by
  simp only [zG,Fy] at h
  rcases h with h | h
  .split at h
   .rename_i d a
    rw [Af,kL,Nat.beq_eq] at h
    exact ⟨0,q,rfl,h.2,by rw [a,h.1]⟩
   .cases h
  .obtain ⟨i,p,h1,b,h3⟩:=I7 h
   exact ⟨i+1,p,by simp_all,by grind,h3⟩
theorem LP {E:Env} {A tab:List Nat} {all:List Oper} {fr:List (Nat×AVal)} {obs:List AObj}:∀ {U:List Nat},B1 E A tab all fr obs U->∀ i∈U,∃ p d,all[i]? =some p/\p.guard=none/\p.dst=some d/\
  eop E (cZ E p.dst) (aM obs) (aC obs) (evP A tab all i fr) p.op p.type= .val (aR fr d)
 | [],_,i,a=>by cases a
 | j::r,h,i,a=>by
  rcases Aj.1 a with rfl | a
  .have h1:=h.1
   split at h1
   .rename_i p hp
    split at h1
    .rename_i b
     split at h1
     .rename_i d c
      exact ⟨p,d,gJ hp,b,c,h1⟩
     grind
    grind
   grind
  .exact LP h.2 i a
theorem xF {tab:List Nat} {n i:Nat}:∀ {U:List Nat},i∈U->cF (dC tab n) i=false->i∈pI tab n U
 | [],h,_=>by cases h
 | j::r,h,ht=>by
  unfold pI
  rcases Aj.1 h with rfl | h
  .grind
  .have:=xF h ht
   grind
theorem XK {E:Env} {A tab:List Nat} {all:List Oper} {K:List (Nat×AVal)->List AObj->Prop} {Kp:(Nat->AVal)->AVal->List AObj->Prop} {F a U:List Nat} {fr:List (Nat×AVal)} {obs:List AObj} (h:AU E A tab all K Kp F a U fr obs):B1 E A tab all fr obs U:=by
 cases F with
 | nil=>exact h.1
 | cons n r=>exact h.1
theorem F4 {tab:List Nat} {n j:Nat} (a:cF (dC tab n) j=true):∀ {l:List Nat},j∈l->pG tab n l=false
 | k::r,h=>by
  unfold pG
  rcases Aj.1 h with e | h
  .grind
  .rw [F4 a h,Ct]
theorem J0 {E:Env} {A tab:List Nat} {all:List Oper} {K:List (Nat×AVal)->List AObj->Prop} {Kp:(Nat->AVal)->AVal->List AObj->Prop}:∀ {B U:List Nat} {fr:List (Nat×AVal)} {obs:List AObj},chB tab B=true->QL E A tab all K Kp B U fr obs->AU E A tab all K Kp B B U fr obs
 | [],_,_,_,_,h=>h
 | n::r,U,fr,obs,hb,h=>by
  simp only [chB,Af,Bq] at hb
  refine ⟨h.1,?_⟩
  have rest:sN tab (n::r) (fun a=>match nth all a with
   | none=>False
   | some p=>(match p.guard with
    | some _=>False
    | none=>orF E.P obs (fun v obs'=>KD 5 v fun v=>ODL obs' fun obs'=>K0 fr p.dst v fun fr=>AU E A tab all K Kp r (D5 a (n::r)) (pI tab a U) fr obs') (Kp (gP A all fr))
      (eop E (cZ E p.dst) (aM obs) (aC obs) (evP A tab all a fr) p.op p.type))) r:=DF fun j c=>F4 (hb.1 j c) (Ak ..)
  unfold sN
  cases pG tab n (n::r) with
  | false=>exact rest
  | true=>
   refine ⟨?_,rest⟩
   have h:=h.2
   split at h
   .exact h.elim
   .rename_i p hp
    split at h
    .exact h.elim
    .rename_i b
     try rw [b]
     try dsimp only
     refine gI (fun v o h=>?_) h
     rw [jI,oZ,BF] at h⊢
     have e:D5 n (n::r)=r:=by unfold D5;simp
     rw [e]
     exact J0 hb.2 h
section
variable {rd:Option Nat} {M0:Imm} {ob0:Hs} {obs0:List AObj} {w0:World} {sz:Nat} {dfs:List (Nat×List AVal)} {E:Env} {ops:Array Oper} {Q:Exit->Act->World->Prop} {K:List (Nat×AVal)->List AObj->Prop} {Kp:(Nat->AVal)->AVal->List AObj->Prop} {A tab:List Nat}
def SM (M0:Imm) (ob0:Hs) (obs0:List AObj) (w0:World) (sz:Nat) (dfs:List (Nat×List AVal)) (ops:Array Oper) (b:List Nat) (fr:List (Nat×AVal)) (obs:List AObj) (a:Act) (w:World):Prop:=
 ∃ M ob,Ext M0 ob0 obs0 w0 M ob obs w/\Mem M ob obs w/\(∀ t,(∀ i∈b,∀ p,ops[i]? =some p->p.dst≠some t)->Rep M ob (a.tmps.getD t undef) (aR fr t))/\a.tmps.size=sz/\cL w0 w M ob a.defers dfs/\ob0.length<=obs.length
theorem uB {a:Array Bool} {j:Nat} (h:j∈Dv .any ops a) (d:a.size=ops.size):j<ops.size/\a.getD j false=false:=by
 obtain ⟨c,q,e,_⟩:=mem_ready.1 h
 have b:=(Dw.1 e).1
 rw [Aw,Fk o_] at c⊢
 exact ⟨b,by simpa using c⟩
theorem kH (c:TabSp ops tab) {a:Array Bool} (b:a.size=ops.size):∀ (n j:Nat),j<n->j<ops.size->a.getD j false=false->Dv .any ops a≠[]
 | 0,j,h,_,_=>by omega
 | n+1,j,h,hj,hl=>fun d=>by
  obtain ⟨p,hp⟩:∃ p,ops[j]? =some p:=⟨ops[j],Fk hj⟩
  have:j∈Dv .any ops a:=mem_ready.2 ⟨by
   grind,p,hp,fun e i f=>by
    have g:=c.back j p hp e i f
    cases k:a.getD e.on false with
    | true=>rfl
    | false=>exact absurd d (kH c b n e.on o_ o_ k)⟩
  grind
theorem U9 (hE:EnvOK E) (ht:TabSp ops tab) (hd:∀ (i:Nat) p,ops[i]? =some p->∀ d,p.dst=some d->d<sz)
  (hp:∀ g v obs ch a w,Kp g v obs->PP M0 ob0 obs0 w0 sz dfs g v obs ch a w->Q (.panic ch) a w) (hq:∀ fr obs a w,K fr obs->SS M0 ob0 obs0 w0 sz dfs fr obs a w->Q .normal a w):
  ∀ (J:Nat) (b:Array Bool) (F m z U:List Nat) (fr:List (Nat×AVal)) (obs:List AObj) (a:Act) (w:World),F.length=m.length->J=m.length+z.length->b.size=ops.size->lJ tab b->
   (∀ i,i<ops.size->(b.getD i false=false↔i∈m\/i∈z))->(m++z).Nodup->(∀ i∈m,i<ops.size)->(∀ i∈z,i∈A/\i∈U/\i<ops.size)->
   AU E A tab ops.toList K Kp F m U fr obs->SM M0 ob0 obs0 w0 sz dfs ops z fr obs a w->wpAnyIn (fen rd) 0 E.P .any ops Q J b a w:=by
 intro J
 induction J with
 | zero=>
  intro b F m z U fr obs a w hF hf V hc c B R H h hs
  have e1:m=[]:=Al o_
  have e2:z=[]:=Al o_
  subst e1 e2
  obtain rfl:=Al hF
  refine ⟨Eh.2 fun j k=>?_,hq fr obs a w h.2 ?_⟩
  .obtain ⟨h1,W⟩:=uB k V
   rcases (c j h1).1 W with q | q<;>cases q
  .obtain ⟨M,ob,X,hm,N,r⟩:=hs
   exact ⟨M,ob,X,hm,fun t=>N t (fun i hi=>absurd hi Hr),r⟩
 | succ J ih=>
  intro b F m z U fr obs a w hF hf V hc c B R H h hs
  refine ⟨fun h0=>?_,fun i hi=>?_⟩
  .exfalso
   cases m with
   | cons n r=>
    have hn:=R n (Ak ..)
    exact kH ht V (n+1) n o_ hn ((c n hn).2 (.inl (Ak ..))) h0
   | nil=>
    cases z with
    | nil=>simp at hf
    | cons n r=>
     have hn:=(H n (Ak ..)).2.2
     exact kH ht V (n+1) n o_ hn ((c n hn).2 (.inr (Ak ..))) h0
  .obtain ⟨hilt,hil⟩:=uB hi V
   obtain ⟨hc',O⟩:=hc.step ht hi
   obtain ⟨M,ob,X,hm,N,G,hdf,h0⟩:=hs
   have hl:=hm.len
   have hev:∀ x,Rep M ob (a.eval x) (evP A tab ops.toList i fr x):=fun x=>by
    cases x with
    | const v=>exact nK v
    | global g=>exact .undef _
    | func f=>exact .func (.func f) [] [] [] [] rfl rfl (fun i v a h=>by simp at h) (fun i v a h=>by simp at h)
    | tmp t=>
     show Rep M ob _ (bif L6 A tab i t 0 ops.toList then .undef else aR fr t)
     cases hh:L6 A tab i t 0 ops.toList with
     | true=>exact .undef _
     | false=>
      refine N t fun j k p hp s=>?_
      have h1:=wV hh j p q_ s (by rw [Cb];exact (H j k).1)
      rw [Cb] at h1
      have W:=O j h1
      rw [(c j (H j k).2.2).2 (.inr k)] at W
      cases W
   have L:∀ (Bs' UA':List Nat),(∀ j,(j∈Bs'\/j∈UA')↔(j∈m\/j∈z)/\j≠i)->∀ j,j<ops.size->((b.setIfInBounds i true).getD j false=false↔j∈Bs'\/j∈UA'):=fun Bs' UA' he j k=>by
    rw [he j]
    by_cases e:j=i
    .subst e
     simp;omega
    .rw [getD_set_ne false (Eu e),c j k]
     simp [e]
   have hsz':(b.setIfInBounds i true).size=ops.size:=by simp;omega
   rcases (c i hilt).1 hil with hB | hA
   .
    cases F with
    | nil=>rw [Al hF.symm] at hB;cases hB
    | cons n0 F=>
     have hfree:pG tab i m=true:=CU fun j k=>by
      cases hq2:cF (dC tab i) j with
      | false=>rfl
      | true=>
       have W:=O j hq2
       rw [(c j (R j k)).2 (.inl k)] at W
       cases W
     obtain ⟨hok,h⟩:=h
     have h:=vP hfree h hB
     split at h
     .exact h.elim
     .rename_i p hnp
      have D:ops[i]? =some p:=by simpa using gJ hnp
      split at h
      .exact h.elim
      .rename_i hg
       have h:orF E.P obs (fun v obs'=>AU E A tab ops.toList K Kp F (D5 i m) (pI tab i U) (jN fr p.dst v) obs') (Kp (gP A ops.toList fr)) (eop E (cZ E p.dst) (aM obs) (aC obs) (evP A tab ops.toList i fr) p.op p.type):=
        gI (fun v o h=>by rw [jI,oZ,BF] at h;exact h) h
       have hw:Ds p (yielded ops a.tmps)=true:=by unfold Ds;rw [hg]
       unfold wpOpIn
       rw [D]
       dsimp only
       rw [if_pos hw]
       refine (rI hE hm hev h).wpIn (gC h) (fun u w' ⟨M',ob',L',I,x2,x3⟩=>?_) (fun ch w' ⟨M',ob',L',I,x2,x3⟩=>?_)
       .rcases x3 with ⟨u',v,e,hr,hk⟩ | ⟨ch,v,e,_⟩
        .cases e
         have:=I.lens
         have:=x2.len
         have Z:m.Nodup:=(Ax.1 B).1
         have l:∀ j,j∈m.erase i↔j≠i/\j∈m:=fun j=>Z.mem_erase_iff
         have hlen:(m.erase i).length+1=m.length:=by
          rw [Gq hB]
          have:=Gz hB
          omega
         have T:i∉z:=fun hb=>(Ax.1 B).2.2 i hB i hb rfl
         rw [HP] at hk
         refine ih (b.setIfInBounds i true) F (m.erase i) z (pI tab i U) _ L' _ w' (by simp at hF;omega) o_ hsz' hc' (L (m.erase i) z fun j=>?_) ?_ (fun j k=>R j ((l j).1 k).2) (fun j k=>?_) hk
          ⟨M',ob',X.trans I,x2,fun t hmt=>?_,(dD _ _ _).1.trans G,(hdf.ext hm I).put,by omega⟩
         .rw [l j]
          constructor
          .rintro (⟨C,k⟩ | k)
           .exact ⟨.inl k,C⟩
           .exact ⟨.inr k,fun e=>T (e▸k)⟩
          .rintro ⟨k | k,C⟩
           .exact .inl ⟨C,k⟩
           .exact .inr k
         .refine Ax.2 ⟨Z.erase i,(Ax.1 B).2.1,fun x X y hy=>?_⟩
          exact (Ax.1 B).2.2 x ((l x).1 X).2 y hy
         .obtain ⟨k1,k2,k3⟩:=H j k
          refine ⟨k1,xF k2 ?_,k3⟩
          cases hq2:cF (dC tab i) j with
          | false=>rfl
          | true=>
           have W:=O j hq2
           rw [(c j k3).2 (.inr k)] at W
           cases W
         .rw [dK]
          unfold gT
          by_cases s:p.dst=some t
          .rw [if_pos s]
           have hlt:t<a.tmps.size:=G▸hd i p D t s
           rw [s]
           simp only [Act.put]
           rw [Aw,Cs hlt]
           exact hr
          .rw [if_neg s]
           have hold:=(N t hmt).mono I.imm I.hs
           cases S:p.dst with
           | none=>exact hold
           | some d=>
            have C:d≠t:=fun e=>s (by rw [S,e])
            simp only [Act.put]
            rw [Aw,Dk C,<-Aw]
            exact hold
        .cases e
       .rcases x3 with ⟨u',v,e,_⟩ | ⟨ch',v,e,hr,hk⟩
        .cases e
        .cases e
         have:=I.lens
         have:=x2.len
         refine hp _ v L' ch a w' hk ⟨M',ob',X.trans I,x2,hr,fun t=>?_,G,hdf.ext hm I,by omega⟩
         unfold gP
         cases hda:zG A t 0 ops.toList with
         | true=>exact .undef _
         | false=>
          exact (N t fun j k q Y=>nI hda j q q_ (by rw [Cb];exact (H j k).1)).mono I.imm I.hs
   .
    obtain ⟨k1,k2,k3⟩:=H i hA
    obtain ⟨p,d,D,hg,S,hev2⟩:=LP (XK h) i k2
    have D:ops[i]? =some p:=by simpa using D
    have hor:orF E.P obs (fun v obs'=>v=aR fr d/\obs'=obs) (fun _ _=>False) (eop E (cZ E p.dst) (aM obs) (aC obs) (evP A tab ops.toList i fr) p.op p.type):=by
     rw [hev2];exact ⟨rfl,rfl⟩
    have hw:Ds p (yielded ops a.tmps)=true:=by unfold Ds;rw [hg]
    unfold wpOpIn
    rw [D]
    dsimp only
    rw [if_pos hw]
    refine (rI hE hm hev hor).wpIn (gC hor) (fun u w' ⟨M',ob',L',I,x2,x3⟩=>?_) (fun ch w' ⟨M',ob',L',I,x2,x3⟩=>?_)
    .rcases x3 with ⟨u',v,e,hr,hk1,hk2⟩ | ⟨ch,v,e,_⟩
     .cases e
      subst hk1 hk2
      have hlt:d<a.tmps.size:=G▸hd i p D d S
      have hnod:z.Nodup:=(Ax.1 B).2.1
      have l:∀ j,j∈z.erase i↔j≠i/\j∈z:=fun j=>hnod.mem_erase_iff
      have hlen:(z.erase i).length+1=z.length:=by
       rw [Gq hA]
       have:=Gz hA
       omega
      have T:i∉m:=fun hb=>(Ax.1 B).2.2 i hb i hA rfl
      refine ih (b.setIfInBounds i true) F m (z.erase i) U fr L' _ w' hF o_ hsz' hc' (L m (z.erase i) fun j=>?_) ?_ R (fun j k=>H j ((l j).1 k).2) h
       ⟨M',ob',X.trans I,x2,fun t hmt=>?_,(dD _ _ _).1.trans G,(hdf.ext hm I).put,h0⟩
      .rw [l j]
       constructor
       .rintro (k | ⟨C,k⟩)
        .exact ⟨.inl k,fun e=>T (e▸k)⟩
        .exact ⟨.inr k,C⟩
       .rintro ⟨k | k,C⟩
        .exact .inl k
        .exact .inr ⟨C,k⟩
      .refine Ax.2 ⟨(Ax.1 B).1,hnod.erase i,fun x X y hy=>?_⟩
       exact (Ax.1 B).2.2 x X y ((l y).1 hy).2
      .rw [S]
       simp only [Act.put]
       by_cases s:d=t
       .subst s
        rw [Aw,Cs hlt]
        exact hr
       .rw [Aw,Dk s,<-Aw]
        refine (N t fun j k q Y=>?_).mono I.imm I.hs
        by_cases hji:j=i
        .subst hji
         rw [D] at Y
         cases Y
         rw [S]
         simp;omega
        .exact hmt j ((l j).2 ⟨hji,k⟩) q Y
     .cases e
    .rcases x3 with ⟨u',v,e,_⟩ | ⟨ch',v,e,hr,hk⟩
     .cases e
     .exact hk.elim
theorem AM {all:List Oper} {obs:List AObj}:∀ {l:List Nat} {fr:List (Nat×AVal)} {k:List (Nat×AVal)->Prop},xT E A tab all obs l fr k->(∀ i∈l,i∈A)->∃ a,k a/\∀ t,zG A t 0 all=false->aR a t=aR fr t
 | [],fr,k,h,_=>⟨fr,h,fun t _=>rfl⟩
 | i::r,fr,k,h,hA=>by
  unfold xT at h
  split at h
  .rename_i p hp
   split at h
   .rename_i d g
    split at h
    .rename_i v f
     rw [jI,jO] at h
     obtain ⟨a,h1,c⟩:=AM h fun j e=>hA j (Ap _ e)
     refine ⟨a,h1,fun t b=>?_⟩
     rw [c t b,rS]
     have:=nI b i p (by simpa using gJ hp) (by grind)
     grind
    grind
   grind
  grind
end
theorem To.permT {E:Env} {fn:Func} {g:Goal} (hE:EnvOK E) (A B:List Nat) {id:Nat} {ops:Array Oper} {ks:List KI} {fr:List (Nat×AVal)} {obs:List AObj} (hst:RC A B (fL [] ops.toList) ops.size=true)
  (h:xT E A (fL [] ops.toList) ops.toList obs A fr fun fr=>AU E A (fL [] ops.toList) ops.toList (fun fr obs=>To E fn g (.code ks fr obs)) (iA E fn g) B B A fr obs):To E fn g (.code (.code (.region id ops true)::ks) fr obs):=
 .mk fun J M0 ob0 obs0 w0 a w k hs=>by
  simp only [aV,KI.ok,cS,Af] at J
  obtain ⟨⟨y,V⟩,C⟩:=J
  have U:=kA y
  refine KW.code (Q':=QR E fn g M0 ob0 obs0 w0 ks) ?_ (fun a w h=>h) (fun n a w h=>h) (fun e a w N=>by
   cases e<;>first | exact .inl rfl | exact .inr ⟨_,rfl⟩ | exact N.elim)
  have m:∀ o v obs n a w,iA E fn g o v obs->PP M0 ob0 obs0 w0 fn.ntmps E.df o v obs n a w->jV E fn M0 ob0 obs0 w0 g (.panic n) a w:=fun o v obs n a w W m=>vE W k m
  have D:∀ fr obs a w,To E fn g (.code ks fr obs)->SS M0 ob0 obs0 w0 fn.ntmps E.df fr obs a w->KW E.rd E.P (jV E fn M0 ob0 obs0 w0 g) ks a w:=fun fr obs a w F hs=>F.rec fun F=>F C M0 ob0 obs0 w0 a w k hs
  have R:TabSp ops (fL [] ops.toList):=sZ ops (by grind)
  refine wpIn_region_any hE.mix ?_
  simp only [RC,Af] at hst
  obtain ⟨Z,S⟩:=hst
  obtain ⟨O,G⟩:=wQ Z
  have K:=xH S
  obtain ⟨H,h1,q⟩:=AM h fun i b=>b
  have l:(B++A).Nodup:=List.perm_append_comm.nodup_iff.1 O
  have c:ops.size=B.length+A.length:=by
   have z:(B++A).length<=ops.size:=by
    have:=(l.sublist (Hg _))
    have h3:(B++A).Subset (Df ops.size):=fun i b=>Fu.2 (G i (by rw [Ao] at b⊢;exact b.symm))
    have:=l.length_le_of_subset h3
    simpa using this
   have r:ops.size<=(B++A).length:=by
    have h3:(Df ops.size).Subset (B++A):=fun i b=>by
     rw [Ao]
     exact (K i (Fu.1 b)).symm
    have:=List.nodup_range.length_le_of_subset h3
    simpa using this
   simp at z r
   omega
  obtain ⟨M,ob,T,hm,X,L⟩:=hs.draw
  have f:∀ i,i<ops.size->(Ey ops.size false).getD i false=false:=fun i b=>by
   rw [Aw,Fk q_]
   simp
  refine U9 (Q:=QR E fn g M0 ob0 obs0 w0 ks) hE R (fun i p b d x=>U p (Az (i:=i) q_) d x) (fun o v obs n a w h1 q=>m o v obs n a w h1 q) (fun fr obs a w h1 q=>D fr obs a w h1 q) ops.size _ B B A A H obs a _ rfl c s_ (fun j i s _=>?_)
   (fun i b=>⟨fun _=>(K i b).symm,fun _=>f i b⟩) l (fun i b=>G i (Cp _ b)) (fun i b=>⟨b,b,G i (Cd _ b)⟩) h1 ⟨M,ob,T,hm,fun t I=>?_,L⟩
  .by_cases Y:j<ops.size
   .rw [f j Y] at s;cases s
   .rw [Aw,Iq q_] at s
    cases s
  .rw [q t ?_]
   .exact X t
   .cases u:zG A t 0 ops.toList with
    | false=>rfl
    | true=>
     obtain ⟨i,p,z,r,e3⟩:=I7 u
     rw [Cb] at r
     exact absurd e3 (I i r p (by simpa using z))
theorem AN {E:Env} {A tab:List Nat} {all:List Oper} {obs:List AObj} {k b:List (Nat×AVal)->Prop} (a:∀ fr,k fr->b fr):∀ {l:List Nat} {fr:List (Nat×AVal)},xT E A tab all obs l fr k->xT E A tab all obs l fr b
 | [],fr,h=>a fr h
 | i::r,fr,h=>by
  unfold xT at h⊢
  split at h
  .rename_i p hp
   split at h
   .rename_i d e
    split at h
    .rename_i v c
     simp only [e,c,jI,jO] at h⊢
     exact AN a h
    omega
   omega
  omega
theorem To.permAt {E:Env} {fn:Func} {g:Goal} (hE:EnvOK E) (A B:List Nat) {id:Nat} {ops:Array Oper} {ks:List KI} {fr:List (Nat×AVal)} {obs:List AObj} (hst:aE8 A B (fL [] ops.toList) ops.size=true)
  (h:xT E A (fL [] ops.toList) ops.toList obs A fr fun fr=>QL E A (fL [] ops.toList) ops.toList (fun fr obs=>To E fn g (.code ks fr obs)) (iA E fn g) B A fr obs):To E fn g (.code (.code (.region id ops true)::ks) fr obs):=by
 unfold aE8 at hst
 rw [Af] at hst
 exact To.permT hE A B hst.1 (AN (fun fr h=>J0 hst.2 h) h)
theorem aY {p q:Prop} (h:p):(true=true->p)/\(true=false->q):=⟨fun _=>h,fun h=>absurd h d_⟩
theorem aN {p q:Prop} (h:q):(false=true->p)/\(false=false->q):=⟨fun h=>absurd h d_,fun _=>h⟩
theorem aT {a p q:Prop} [Decidable a] (h:decide a=true->p) (b:a:=by omega):(decide a=true->p)/\(decide a=false->q):=⟨h,fun h=>absurd b (of_decide_eq_false h)⟩
theorem aF {a p q:Prop} [Decidable a] (h:decide a=false->q) (b:¬ a:=by omega):(decide a=true->p)/\(decide a=false->q):=⟨fun h=>absurd (of_decide_eq_true h) b,h⟩
theorem aD {p q:Prop} (h:q) (hp:p:=by first | decide | omega):p/\q:=⟨hp,h⟩
theorem aL {p q:Prop} (h:q) (hp:p:=by repeat (first | exact trivial | refine Aa rfl ?_)):p/\q:=⟨hp,h⟩
theorem aJ {k:IntKind} {n:Int} {p q:Prop} (h:p) (h1:bW k<=n:=by simp only [bW];omega) (a:n<=bI k:=by simp only [bI];omega):(inR k n/\p)\/q:=.inl ⟨⟨h1,a⟩,h⟩
theorem gW {E:Env} {fn:Func} {g:Goal} {st:St} (hE:EnvOK E) (h:bJ E fn g (To E fn g) 100 st):To E fn g st:=cX hE 100 h
theorem gN {E:Env} {fn:Func} {g:Goal} {st:St} (hE:EnvOK E) (h:bJ E fn g (To E fn g) 100 st) (hs:SB st=true:=by rfl):To E fn g st:=goN hE 100 hs h
theorem cT {E:Env} {f:FuncId} {fn:Func} {args:List AVal} {obs:List AObj} {g:Goal} (h:okL args->To E fn g (.code [.code (cC fn)] (frA 0 args) obs)) (e:E.df=[]:=by rfl) (j:E.P.funcs[f]? =some fn:=by rfl) (k:fn.body=some (cC fn):=by rfl)
  (b:pA E.P f:=by exact fun _ _=>by rfl) (a:cS fn.ntmps (cC fn)=true:=by decide+kernel) (l:Ff args.length fn.ntmps=true:=by rfl) (c:pT obs=true:=by rfl) (i:obs.length=g.n0:=by rfl) (d:E.rd=none:=by rfl):aA E.P f args obs g.res g.obs:=
 aA.to e j k b a l c i h d
def FH (k:AVal->Prop):OR->Prop
 | .val v=>k v
 | .need p r=>p/\FH k r
 | .idx n f=>∃ i:Nat,n=(i:Int)/\FH k (f i)
 | .elem xs i f=>∃ x,xs[i]? =some x/\FH k (f x)
 | .find es key f=>∃ o,aZ es key=o/\FH k (f o)
 | _=>False
def tU (E:Env) (A tab:List Nat) (all:List Oper) (obs:List AObj):List Nat->List (Nat×AVal)->(List (Nat×AVal)->Prop)->Prop
 | [],fr,k=>k fr
 | i::r,fr,k=>match nth all i with
  | some p=>(match p.dst with
   | some d=>FH (fun v=>KD 5 v fun v=>BG fr d v fun fr=>tU E A tab all obs r fr k) (eop E (cZ E p.dst) (aM obs) (aC obs) (evP A tab all i fr) p.op p.type)
   | none=>False)
  | none=>False
section
variable {rd:Option Nat} {M0:Imm} {ob0:Hs} {obs0:List AObj} {w0:World} {sz:Nat} {dfs:List (Nat×List AVal)} {E:Env} {ops:Array Oper} {Q:Exit->Act->World->Prop} {K:List (Nat×AVal)->List AObj->Prop} {Kp:(Nat->AVal)->AVal->List AObj->Prop} {A tab:List Nat}
end
end Go.AW
