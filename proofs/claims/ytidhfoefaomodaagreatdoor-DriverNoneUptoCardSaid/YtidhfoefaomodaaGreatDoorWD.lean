/- Part 4 of what the statement rests on. -/
import Derived.Test.YtidhfoefaomodaaGreatDoorWC
set_option linter.all false
open And renaming intro->Ac
open Array renaming getD_eq_getD_getElem?->Bj,getElem?_eq_getElem->Ha,getElem?_eq_none->Mk,getElem?_eq_some_iff->Ez,getElem?_setIfInBounds_ne->Eu,getElem?_setIfInBounds_self_of_lt->Ep,replicate->Fz
open Bool renaming and_eq_true->Ad,and_false->Db,and_true->Hz,not_eq_true'->Cx,or_eq_false_iff->Kl,or_eq_true->Fc,true_and->Cy
open Go.Builtin renaming append_->Co
open Go.Region renaming ready->Dz,wanted->Fe
open Go.Value renaming int->Eb
open Go.World renaming block_lt_of_cell?->Cs,cell?->Km,cell?_of_block->Cr,ownsRow_nil->Hf,putObj_heap_other->Gn,putObj_heap_same->Mn
open List renaming all_eq_true->Cq,drop_eq_getElem_cons->Ae,eq_nil_iff_forall_not_mem->Hu,eq_nil_of_length_eq_zero->Ax,getElem?_append_left->Ag,getElem?_append_right->Ak,getElem?_eq_some_iff->Ab,getElem?_map->Bf,getElem?_of_mem->Ct,getElem?_set_ne->Ay,getElem?_set_self->Ar,length_erase_of_mem->Lw,length_pos_of_mem->Mo,length_take->Dp,map_append->Bm,mem_append->Az,mem_append_left->Dd,mem_append_right->Cu,mem_cons->Bb,mem_cons_of_mem->Bd,mem_cons_self->Ap,mem_filter->Fm,mem_map->Ca,mem_of_getElem?->Au,mem_range->Hn,mem_singleton->Dj,nodup_append->Bz,nodup_cons->Ce,nodup_nil->Hr,not_mem_nil->Ju,prefix_refl->Cn,range->Di,replicate->Aj,take_append_drop->Bq,take_append_of_le_length->Dc,take_of_length_le->Cf
open List.Sublist renaming refl->Lo
open Nat renaming beq->Aw,beq_refl->Nk,ble->Fw,blt->Ff,blt_eq->Jw,div_one->Ip,le_of_ble_eq_true->Ck,le_refl->Bc,le_trans->Cz,lt_of_lt_of_le->Ey,min_eq_left->Gp,mod_one->Jd,zero_add->Bo
open Ne renaming symm->Em
open Option renaming map_eq_some_iff->Cd
namespace Go.AW
open Go.RowKit
open Classical
def bY (l:Nat) (R:Loop):BInv where
 inv _ bs w:=bs=[l]/\w.heap[l]? =some (.loop R)
 mono:=λ_ _ hb ⟨h1,h2⟩=>⟨h1,hb _ _ (by rw [h1];simp) h2⟩
def dU (bs:List Nat):JU (dR bs)=bs:=A0 (hs:=[dR bs]) rfl
def hZ {hs:List Value} {g:Nat} {I:BInv} {k b:Nat}:aG [hs] [.bun g I] k b↔k=0/\b∈blk hs:=by
 constructor
 .rintro ⟨c,hs',a,d,e,f⟩;cases k with
  | zero=>grind
  | succ k=>simp at a
 .rintro ⟨rfl,h⟩;exact ⟨_,hs,rfl,rfl,rfl,h⟩
section
variable {M:Imm} {ob:Hs} {ac:List ab} {w:World}
def Mem.recAt (h:Mem M ob ac w) {k l g:Nat} {R:Loop} (b:ac[k]? =some (.bun g (bY l R))):∃ hs,ob[k]? =some hs/\hs.length=g+1/\hs[g]? =some (dR [l])/\blk hs=[l]/\w.heap[l]? =some (.loop R):=by obtain ⟨hs,d,hl,bs,a,e,rfl,c⟩:=h.obj k _ b;exact ⟨hs,d,hl,a,(dT hl a).trans (dU _),c⟩
def Mem.recTurn (h:Mem M ob ac w) {k l g:Nat} {R:Loop} (q:ac[k]? =some (.bun g (bY l R))) (d:Loop):
  Mem M ob (ac.set k (.bun g (bY l d))) (w.putObj l (.loop d))/\Ext M ob ac w M ob (ac.set k (.bun g (bY l d))) (w.putObj l (.loop d)):=by
 obtain ⟨hs,n,hl,v,m,p⟩:=h.recAt q;have i:=eX p
 have:=h.turn (M':=M) (w':=w.putObj l (.loop d)) (x':=.bun g (bY l d)) (hs':=hs) q n (Cn _) (λ e=>by cases e) (λ_ _ _ h=>h) (λ_ _ _ h=>.inl h) (λ c o y z=>by
   obtain ⟨u,f,t,x⟩:=h.imm c o y z;have j:c≠l:=λ e=>by subst e;unfold Km at f;dsimp only at f;rw [p] at f;cases f
   exact ⟨u,(Cr (w:=w) (a:=⟨c,o,none⟩) (Gn j)).trans f,t,x⟩)
  (λ c _ r=>Gn λ e=>r ⟨rfl,by simp_all⟩) rfl rfl rfl s_ (λ_=>⟨hl,[l],v,λ b m=>by
   rw [Dj.1 m]
   exact ⟨_,Mn i,rfl⟩,rfl,Mn i⟩)
  (λ_ c s=>⟨.inl ⟨rfl,s⟩,by simp_all⟩)
 rw [fR n] at this
 grind
def Mem.drop (h:Mem M ob ac w) (k:Nat):Mem M ob (ac.set k .dead) w/\∀ {i b:Nat},aG ob (ac.set k .dead) i b->aG ob ac i b:=by
 have a:R7 (ac.set k .dead) ac:=⟨by simp,λ i=>by
  by_cases d:i=k
  .subst d
   grind
  grind⟩
 exact ⟨h.weak a,λ c=>a.alive c⟩
end
section
variable {E:Env} {fn:Func} {g:Goal}
def To.beginR {l k gg:Nat} {R:Loop} {ks:List KI} {fr:List (Nat×aa)} {ac:List ab} (i:E.rd=some l) (p:aC ac k= .bun gg (bY l R)) (s:R.state= .ready)
  (h:To E fn g (.code ks fr (bJ ac k (.bun gg (bY l {R with state:=.busy}))))):To E fn g (.code (.beginR::ks) fr ac):=
 .mk λ j M0 ob0 aq w0 a w hst hs=>by obtain ⟨M,ob,v,hm,f,x,u,y⟩:=hs;have d:=bD p s_;obtain ⟨o,n⟩:=hm.recTurn d {R with state:=.busy};obtain ⟨_,_,_,_,_,c⟩:=hm.recAt d;rw [aO d] at h;have key:=(h.rec (motive:=λ_=>yJ E fn g _) λ h=>h) (by simpa [bC,KI.ok] using j) M0 ob0 aq w0 a _ hst ⟨M,ob,v.trans n,o,f,x,u.ext hm n,by simp;omega⟩;intro b cs m;obtain ⟨e,t,w',q,r⟩:=key b cs m;exact ⟨e,t,w',q,.of_steps (.one (iU _ _ _) (stepR_beginRound (m.trans i) (run_beginRound c s))) r⟩
end
def iZ (ob0:Hs) (fr:List (Nat×aa)) (R:Loop) (L:List ab):BInv where
 inv M bs w:=∃ ob,dE ob0 ob/\ob.length=L.length/\(∀ (k:Nat) c,L[k]? =some c->∃ hs,ob[k]? =some hs/\gQ M ob w hs c)/\(∀ k k' b,aG ob L k b->aG ob L k' b->k=k')/\
  (∀ b,b∈bs↔ ∃ k,aG ob L k b)/\∀ t,Rep M ob (R.tmps.getD t undef) (aX fr t)
 mono:=λ hM hn hb ⟨ob,h1,h2,h3,h4,h5,h6⟩=>⟨ob,h1,h2,λ k c hc=>by
  obtain ⟨hs,hh,hok⟩:=h3 k c hc
  exact ⟨hs,hh,hok.mono hM (dE.refl _) (λ b p1 p2=>hn b ((h5 b).2 ⟨k,(cN hc hh).2 ⟨p1,p2⟩⟩)) (λ b c' p1 p2=>hb b c' ((h5 b).2 ⟨k,(cN hc hh).2 ⟨p1,p2⟩⟩))⟩,h4,h5,λ t=>(h6 t).monoM hM⟩
def Mem.unpack {M:Imm} {ob:Hs} {ac:List ab} {w:World} {k g:Nat} {ob0:Hs} {fr:List (Nat×aa)} {R:Loop} {L:List ab} (hm:Mem M ob ac w) (h:ac[k]? =some (.bun g (iZ ob0 fr R L))):
  ∃ hs a,ob[k]? =some hs/\hs.length=g+1/\dE ob0 a/\Mem M a L w/\(∀ b,b∈blk hs↔ ∃ k,aG a L k b)/\∀ t,Rep M a (R.tmps.getD t undef) (aX fr t):=by
 obtain ⟨hs,l,hl,bs,m,n,a,h1,d,h3,f,c,j⟩:=hm.obj k _ h;have e:blk hs=bs:=(dT hl m).trans (dU _);refine ⟨hs,a,l,hl,h1,⟨hm.imm,d,h3,λ i b p=>?_,f⟩,λ b=>by rw [e];exact c b,j⟩;obtain ⟨o,q,_⟩:=n b ((c b).2 ⟨i,p⟩);exact eX q
def Mem.pack {M:Imm} {a:Hs} {L:List ab} {w:World} {ob0:Hs} {fr:List (Nat×aa)} {R:Loop} (hm:Mem M a L w) (d:dE ob0 a) (e:∀ t,Rep M a (R.tmps.getD t undef) (aX fr t)):
  ∃ bs,(∀ b,b∈bs↔ ∃ k,aG a L k b)/\∀ (ob:Hs) (hs:List Value),gQ M ob w (hs++[dR bs]) (.bun hs.length (iZ ob0 fr R L)):=by
 let bs:=(Di w.heap.size).filter λ b=>decide (∃ k,aG a L k b)
 have c:∀ b,b∈bs↔ ∃ k,aG a L k b:=λ b=>by simp only [bs,Fm,Hn,decide_eq_true_eq];exact ⟨λ h=>h.2,λ⟨k,h⟩=>⟨hm.lt k b h,k,h⟩⟩
 refine ⟨bs,c,λ ob hs=>⟨by simp,bs,by simp,λ b f=>?_,a,d,hm.len,hm.obj,hm.inj,c,e⟩⟩;obtain ⟨k,g⟩:=(c b).1 f;exact hm.alive_heap g
def oE (hs:List Value) (v:Value):blk (hs++[v])=JU v:=by unfold blk;simp
def aAU {M:Imm} {ob:Hs} {tmps:Array Value} {fr:List (Nat×aa)} {p:Nat} {v:Value} {x:aa} (h:∀ t,Rep M ob (tmps.getD t undef) (aX fr t)) (b:Rep M ob v x) (hp:p<tmps.size):
  ∀ t,Rep M ob ((tmps.setIfInBounds p v).getD t undef) (aX (bW fr p x) t):=by
 intro t;have:=lG (a:={tmps:=tmps,defers:=[]}) (d:=some p) h b (λ c e=>by grind) t;rw [show aX (bW fr p x) t=iS (aX fr) (some p) x t from congrFun (eK fr (some p) x) t];exact this
def kV (R:Loop) (b:Bool):Loop:=if b then R else {R with state:=.done,pending:=some .ret}
def W7 {R:Loop} (h1:R.state= .ready) (h:R.pending=none):({{R with state:=.busy} with state:=if (none:Option Code).isNone then .ready else .done,pending:=none}:Loop)=kV R true:=by obtain ⟨a,b,c,d,e,f,g,i⟩:=R;have h1:a= .ready:=h1;have h:b=none:=h;subst h1 h;rfl
def gI {E:Env} {fn:Func} {ob0:Hs} {l k n p gg:Nat} {R:Loop} {as H:Code} {fr:List (Nat×aa)} {L L':List ab} {x:Int} {b:Bool} (S:R.params= #[p]) (T:R.state= .ready) (Z:R.pending=none) (has:R.assign=as) (hbd:R.body=H) (hsz:R.tmps.size=fn.ntmps)
  (hp:Ff p fn.ntmps=true) (hdf:E.df=[]) (hco:(dC fn.ntmps as&&dC fn.ntmps H)=true) (hk:aC L k= .bun gg (bY l R)) (hn:L.length=n) (hn':L'.length=n) (hk':aC L' k= .bun gg (bY l {R with state:=.busy}))
  (h:inR .i64 x->To {E with rd:=some l} fn (.keep n (.ret (.bool b)) L') (.code [.code as,.beginR,.code H] (bW fr p (.int .i64 x)) L)):
  bN E.P (.yield l) [.int .i64 x] [.bun 0 (iZ ob0 fr R L)] (.ret (.bool b)) [.bun 1 (iZ ob0 fr R (L'.set k (.bun gg (bY l (kV R b)))))]:=by
 intro M ob w g hm hr;obtain ⟨hs,f,W,hl,hle,r,D,Q⟩:=hm.unpack (k:=0) rfl;have Y:ob=[hs]:=by
  have:=hm.len
  match ob,this,W with
  | [y],_,W=>simp at W;rw [W]
 subst Y;obtain ⟨v,rfl⟩:∃ v,g=[v]:=by
  have:=hr.1
  match g,this with
  | [v],_=>simp
 have hv:Rep M [hs] v (.int .i64 x):=hr.2 0 v _ rfl rfl;obtain ⟨rfl,U⟩:=hv.int_inv;obtain ⟨_,_,_,_,_,J⟩:=r.recAt (bD hk s_);have hpl:p<R.tmps.size:=by rw [hsz];simpa [Jw] using hp
 have I:(R.params.zip #[Eb .i64 x]).foldl (λ tmps (t,a)=>tmps.setIfInBounds t a) R.tmps=R.tmps.setIfInBounds p (.int .i64 x):=by rw [S];simp
 refine ⟨R.fn,R.tmps.setIfInBounds p (.int .i64 x),as,H,?_,trivial,λ c cs _=>?_⟩
 .have:=run_yield (P:=E.P) (args:= #[Eb .i64 x]) J (by rw [S];rfl);rw [I,has,hbd] at this;exact this
 let b0:Frame:={(default:Frame) with fn:=R.fn,kind:=.normal,roundOf:=some l}
 let a0:Act:={tmps:=R.tmps.setIfInBounds p (.int .i64 x),defers:=[]}
 have hb0:Frame.round l R.fn (R.tmps.setIfInBounds p (.int .i64 x)) as H .normal=b0.atR a0 (gL [.code as,.beginR,.code H]):=by rfl
 rw [hb0]
 have hst:pQ (.keep n (.ret (.bool b)) L') f:=⟨by rw [r.len];exact hn,λ h=>by cases h⟩
 have hok:bC fn.ntmps [.code as,.beginR,.code H]=true:=by simp only [bC,KI.ok,Hz,Cy];omega
 obtain ⟨h0⟩:=h U;obtain ⟨e,a',w',K,A⟩:=h0 hok M f L w a0 w hst ⟨M,f,Ext.refl _ _ _ _,r,aAU Q (.int _ _ U) hpl,by show (R.tmps.setIfInBounds p _).size=_;simp;omega,by show cS w w M f [] E.df;rw [hdf];exact .nil,by rw [r.len];omega⟩ b0 (c::cs) rfl
 -- iM the body
 have fin:∀ {s:Bool} {w':World} {st:LoopState} {jump:Option Code},(jump.isNone=s)->({{R with state:=.busy} with state:=if jump.isNone then .ready else .done,pending:=jump}:Loop)=kV R s->RR M f L w (.keep n (.ret (.bool b)) L') (.returned (.bool s)) w'->
   s=b/\∃ F,(Instr.endRound l jump).run E.P w'= .ok (.bool s) F/\∃ M' ob',Ext M [hs] [.bun 0 (iZ ob0 fr R L)] w M' ob' [.bun 1 (iZ ob0 fr R (L'.set k (.bun gg (bY l (kV R b)))))] F/\Mem M' ob' [.bun 1 (iZ ob0 fr R (L'.set k (.bun gg (bY l (kV R b)))))] F:=by
  intro s w' st jump O hR ⟨M',m,G,B,x3⟩;have e:s=b:=by have:=Rep.bool_inv (M:=M') (ob:=m) (b:=b) x3;simpa using this
  subst e;refine ⟨rfl,?_⟩;have B:Mem M' m L' w':=B;have G:Ext M f L w M' m L' w':=G;have V:=bD hk' s_;obtain ⟨_,_,_,_,_,u⟩:=B.recAt V;obtain ⟨m1,m2⟩:=B.recTurn V (kV R s);have d:=run_endRound (P:=E.P) jump u;rw [hR,O] at d;refine ⟨_,d,M',?_⟩;have X:=G.trans m2;obtain ⟨bs,N,hpk⟩:=m1.pack (fr:=fr) (R:=R) (hle.trans X.hs) λ t=>(Q t).mono X.imm X.hs;have hal':∀ {k b},aG [hs++[dR bs]] [.bun 1 (iZ ob0 fr R (L'.set k (.bun gg (bY l (kV R s)))))] k b->b∈bs:=λ{k b} z=>by have:=(hZ.1 z).2;rwa [oE,dU] at this
  have h1:hs.length=1:=hl;refine ⟨[hs++[dR bs]],⟨X.imm,λ b o y hy=>?_,λ i hs' hi=>?_,X.os,X.tape,X.output,X.size,λ b C hn=>X.keep b C λ i z=>hn 0 (hZ.2 ⟨rfl,(D b).2 ⟨i,z⟩⟩),λ i b z=>?_⟩,⟨m1.imm,rfl,λ i c hc=>?_,λ i b z=>?_,λ i j b z C=>?_⟩⟩
  .rcases X.new b o y hy with q | q | q
   .exact .inl q
   .omega
   .exact .inr (.inr ⟨0,hZ.2 ⟨rfl,(D b).2 q⟩⟩)
  .cases i with
   | zero=>simp at hi;subst hi;simp
   | succ i=>simp at hi
  .have C:b∈bs:=by have:=(hZ.1 z).2;rwa [oE,dU] at this
   obtain ⟨j,O⟩:=(N b).1 C;rcases X.fresh j b O with q | q
   .exact .inl ⟨0,hZ.2 ⟨rfl,(D b).2 q⟩⟩
   omega
  .cases i with
   | zero=>
    simp at hc;subst hc;refine ⟨_,rfl,?_⟩;have:=hpk [hs++[dR bs]] hs;rwa [h1] at this
   | succ i=>simp at hc
  .have C:b∈bs:=by have:=(hZ.1 z).2;rwa [oE,dU] at this
   obtain ⟨j,O⟩:=(N b).1 C;exact m1.lt j b O
  .rw [(hZ.1 z).1,(hZ.1 C).1]
 cases e with
 | normal=>
  obtain ⟨rfl,F,d,M',ob',G,B⟩:=fin (st:=.ready) (jump:=none) rfl (W7 T Z) K;exact ⟨.returned (.bool true),F,⟨M',ob',G,B,.bool _⟩,StepsIn.trans A (.one (iU _ _ _) (stepR_round_end rfl rfl d))⟩
 | ret=>
  obtain ⟨rfl,F,d,M',ob',G,B⟩:=fin (st:=.ready) (jump:=some .ret) rfl rfl K;obtain ⟨k₁,hs'⟩:=A.2 rfl;exact ⟨.returned (.bool false),F,⟨M',ob',G,B,.bool _⟩,StepsIn.trans hs' (.one (iU _ _ _) (stepR_round_ret rfl rfl d))⟩
 | panic ch=>exact K.elim
 | exit id=>exact K.elim
 | goto t=>exact K.elim
 | outgrown=>exact K.elim
def LF:Code->Option (Code×Code)
 | .rangeFunc _ _ as c=>some (as,c)
 | .seq a b=>(match LF a with | some x=>some x | none=>LF b)
 | .cond _ a b=>(match LF a with | some x=>some x | none=>LF b)
 | .block _ b=>LF b
 | .loop b=>LF b
 | _=>none
def rfA (fn:Func):Code:=match LF (dG fn) with | some p=>p.1 | none=>.skip
def rfB (fn:Func):Code:=match LF (dG fn) with | some p=>p.2 | none=>.skip
def KW.range {rd:Option Nat} {P:Program} {Q:Exit->Act->World->Prop} {ks:List KI} {a:Act} {w:World} {x:Operand} {B:Array Tmp} {as C:Code}
  (h:∀ fn,∃ (l:Nat) (c:List Deferred) (n:World) (d:Deferred) (f:FuncId) (args:Array Value),
   (Instr.enterLoop fn a.tmps B as C rd).run P w= .ok (l,c) n/\(resolve a.eval (rangeCall x l) 0).run P n= .ok d n/\(invoke d.target d.args).run P n= .ok (.enter f args) n/\
   Calls P f args n λ e F=>∃ v,e= .returned v/\∃ jump z,(Instr.endLoop l).run P F= .ok jump z/\KW rd P Q ((jump.map KI.code).toList++ks) {a with defers:=c++a.defers} z):
  KW rd P Q (.code (.rangeFunc x B as C)::ks) a w:=by
 intro b cs s;obtain ⟨l,c,n,d,f,args,D,u,t,o⟩:=h b.fn;rw [<-s] at D;have i:=stepR_rangeFunc (P:=P) (b:=b) (a:=a) (k:=gL ks) (cs:=cs) (w:=w) D u t;obtain ⟨e,F,fr,⟨v,rfl,jump,z,y,G⟩,g,H,j⟩:=o (b.atR {a with defers:=c++a.defers} (.inRangeFunc l::gL ks)::cs);obtain ⟨J,I,w',q,r⟩:=G b cs s;refine ⟨J,I,w',q,?_⟩;have A:gL ((jump.map KI.code).toList++ks)=(jump.map Item.code).toList++gL ks:=by cases jump<;>rfl
 rw [A] at r;have p:Steps P (lone (b.atR a (.code (.rangeFunc x B as C)::gL ks)) cs w) (lone (b.atR {a with defers:=c++a.defers} ((jump.map Item.code).toList++gL ks)) cs z):=by refine .head i (Steps.trans g (.head ?_ (.one (stepR_endRangeFunc y))));rw [<-finish_atR_inRangeFunc l v];exact step_leave_returned j
 exact .of_steps ((StepsIn.of_steps p).mono λ m _=>iU _ _ m) r
section
variable {M:Imm} {ob:Hs} {ac:List ab} {w:World}
def Mem.layRec (hm:Mem M ob ac w) (R:Loop):
  Mem M (ob++[[dR [w.heap.size+1]]]) (kF ac (.bun 0 (bY (w.heap.size+1) R))) ((w.alloc (.deferred (some []))).alloc (.loop R))/\
  Ext M ob ac w M (ob++[[dR [w.heap.size+1]]]) (kF ac (.bun 0 (bY (w.heap.size+1) R))) ((w.alloc (.deferred (some []))).alloc (.loop R)):=by
 rw [nJ];have f:Mem M ob ac (w.alloc (.deferred (some []))):=hm.same s_ λ b c=>heap_alloc_old w _ c
 have e:Ext M ob ac w M ob ac (w.alloc (.deferred (some []))):=⟨λ_ _ _ h=>h,λ_ _ _ h=>.inl h,dE.refl _,rfl,rfl,rfl,by simp,λ b c _=>heap_alloc_old w _ c,λ k b s=>.inl ⟨k,s⟩⟩
 obtain ⟨g,p,_⟩:=f.extend 1;have h1:(ac++Aj 1 ab.dead)[ac.length]? =some .dead:=by simp
 have j:(ob++Aj 1 ([]:List Value))[ac.length]? =some []:=by rw [<-hm.len];simp
 have d:(w.alloc (.deferred (some []))).heap.size=w.heap.size+1:=tW ..
 have t:=g.turn (M':=M) (w':=(w.alloc (.deferred (some []))).alloc (.loop R)) (x':=.bun 0 (bY (w.heap.size+1) R)) (hs':=[dR [w.heap.size+1]]) h1 j ⟨_,rfl⟩ (λ_=>rfl) (λ_ _ _ h=>h) (λ_ _ _ h=>.inl h) (λ b o y q=>by
   obtain ⟨u,i,l,n⟩:=g.imm b o y q
   exact ⟨u,(Cr (w:=w.alloc (.deferred (some []))) (a:=⟨b,o,none⟩) (heap_alloc_old _ _ (Cs _ _ i))).trans i,l,n⟩)
  (λ b c _=>heap_alloc_old _ _ c) rfl rfl rfl s_ (λ_=>⟨rfl,[w.heap.size+1],rfl,λ b c=>by
   rw [Dj.1 c,<-d]
   exact ⟨_,heap_alloc_new _ _,rfl⟩,rfl,by rw [<-d];exact heap_alloc_new _ _⟩)
  (λ_ b c=>by
   have:blk [dR [w.heap.size+1]]=[w.heap.size+1]:=dU _;rw [this] at c;rw [Dj.1 c,tW _ (Obj.loop R),d]
   omega)
 have m:(ob++Aj 1 ([]:List Value)).set ac.length [dR [w.heap.size+1]]=ob++[[dR [w.heap.size+1]]]:=by rw [<-hm.len];simp
 have r:(ac++Aj 1 ab.dead).set ac.length (.bun 0 (bY (w.heap.size+1) R))=ac++[.bun 0 (bY (w.heap.size+1) R)]:=by simp
 rw [m,r] at t;exact ⟨t.1,e.trans (p.trans t.2.1)⟩
def E5:∀ (ks:List Nat) (ac:List ab),(∀ k∈ks,k<ac.length)->R7 (pS ks ac) ac/\∀ k∈ks,(pS ks ac)[k]? =some .dead
 | [],ac,_=>⟨⟨rfl,λ_=>.inl rfl⟩,λ k h=>by simp at h⟩
 | x::r,ac,hlt=>by
  have c:x<ac.length:=hlt x s_;have e:bJ ac x .dead=ac.set x .dead:=gK _ c;obtain ⟨⟨h1,d⟩,h3⟩:=E5 r (bJ ac x .dead) (λ k a=>by grind);have b:∀ k:Nat,(pS (x::r) ac)[k]? =ac[k]?\/(pS (x::r) ac)[k]? =some ab.dead:=λ k=>by
   rcases d k with q | q
   .by_cases a:k=x
    .subst a;right;show (pS r (bJ ac k .dead))[k]? =_;rw [q,e,Ar c]
    .left;show (pS r (bJ ac x .dead))[k]? =_;rw [q,e,Ay (Em a)]
   .exact .inr q
  refine ⟨⟨by show (pS r (bJ ac x .dead)).length=_;rw [h1,e];simp,b⟩,λ k a=>?_⟩;rcases Bb.1 a with rfl | a
  .show (pS r (bJ ac k ab.dead))[k]? =some ab.dead;rcases d k with q | q
   .rw [q,e,Ar c]
   .exact q
  .exact h3 k a
def Mem.snoc {A:List ab} {a:Hs} {c:ab} {hs:List Value} (hm:Mem M a A w) (u:∀ ob,dE a ob->gQ M ob w hs c) (q:∀ b∈blk hs,b<w.heap.size) (f:∀ k b,aG a A k b->b∉blk hs):
  Mem M (a++[hs]) (A++[c]) w/\∀ k b,aG (a++[hs]) (A++[c]) k b->(k<A.length/\aG a A k b)\/(k=A.length/\b∈blk hs):=by
 have g:dE a (a++[hs]):=λ j l e=>⟨l,by rw [Ag (Ab.1 e).1];exact e,Cn _⟩
 have m:∀ {j:Nat} {x:ab},(A++[c])[j]? =some x->(j<A.length/\A[j]? =some x/\(a++[hs])[j]? =a[j]?)\/(j=A.length/\x=c/\(a++[hs])[j]? =some hs):=λ{j x} e=>by
  by_cases h:j<A.length
  .rw [Ag h] at e;exact .inl ⟨h,e,Ag (by rw [hm.len];exact h)⟩
  .have d:j=A.length:=by have:=(Ab.1 e).1;simp at this;omega
   subst d;rw [Ak s_] at e;simp at e;exact .inr ⟨rfl,e.symm,by rw [<-hm.len];simp⟩
 have p:∀ k b,aG (a++[hs]) (A++[c]) k b->(k<A.length/\aG a A k b)\/(k=A.length/\b∈blk hs):=by
  rintro k b ⟨x,l,C,z,n,s⟩;rcases m C with ⟨h1,d,h3⟩ | ⟨h1,d,h3⟩
  .rw [h3] at n;exact .inl ⟨h1,x,l,d,z,n,s⟩
  .rw [h3] at n;cases n;exact .inr ⟨h1,s⟩
 refine ⟨⟨hm.imm,by simp [hm.len],λ k x y=>?_,λ k b r=>?_,λ i j b r v=>?_⟩,p⟩
 .rcases m y with ⟨h1,d,h3⟩ | ⟨h1,rfl,h3⟩
  .obtain ⟨l,t,B⟩:=hm.obj k x d;exact ⟨l,by rw [h3];exact t,B.mono (λ_ _ _ h=>h) g (λ_ _ _ _ h=>h) (λ_ _ _ _ h=>h)⟩
  .exact ⟨hs,h3,u _ g⟩
 .rcases p k b r with ⟨_,h⟩ | ⟨_,h⟩
  .exact hm.lt k b h
  .exact q b h
 .rcases p i b r with ⟨h1,d⟩ | ⟨h1,d⟩<;>rcases p j b v with ⟨h3,o⟩ | ⟨h3,o⟩
  .exact hm.inj i j b d o
  .exact absurd o (f i b d)
  .exact absurd d (f j b o)
  omega
end
def bN.bunTo {P:Program} {f:Fn} {args:List aa} {ac:List ab} {r:Res} {gg:Nat} {I j:BInv} (h:bN P f args ac r [.bun gg I])
  (t:∀ (M:Imm) (bs:List Nat) (w:World),(∀ b o x,M b o x->∃ v,w.cell? ⟨b,o,none⟩=some v/\v.oneCell'=true/\Rep M [] v x)->(∀ b,b∈bs->b<w.heap.size)->I.inv M bs w->j.inv M bs w):bN P f args ac r [.bun gg j]:=
 λ M ob w d hm z=>cI.mono (λ e w' ⟨M',ob',a,g,A⟩=>by
  have i:∀ {k b},aG ob' [.bun gg j] k b->aG ob' [.bun gg I] k b:=λ{k b} ⟨c,hs,e1,e2,e3,e4⟩=>by
   cases k with
   | zero=>exact ⟨_,hs,rfl,rfl,e3,e4⟩
   | succ k=>simp at e1
  refine ⟨M',ob',⟨a.imm,a.new,a.hs,a.os,a.tape,a.output,a.size,a.keep,λ k b n=>a.fresh k b (i n)⟩,⟨g.imm,g.len,λ k c l=>?_,λ k b n=>g.lt k b (i n),λ k u b h1 m=>g.inj k u b (i h1) (i m)⟩,A⟩;cases k with
  | zero=>
   simp at l;subst l;obtain ⟨hs,h1,m,bs,h3,p,y⟩:=g.obj 0 _ rfl;exact ⟨hs,h1,m,bs,h3,p,t _ _ _ g.imm (λ b s=>by obtain ⟨o,q,_⟩:=p b s;exact eX q) y⟩
  | succ k=>simp at l) (h M ob w d hm z)
def BD:∀ (n j i:Nat),i<n->(upto j n)[i]? =some (j+i)
 | 0,_,_,h=>by omega
 | n+1,j,0,_=>rfl
 | n+1,j,i+1,h=>by show (upto (j+1) n)[i]? =_;rw [BD n (j+1) i o_,show j+1+i=j+(i+1) from by omega]
def aDy {ob0:Hs} {fr:List (Nat×aa)} {R:Loop} {L L':List ab} {n:Nat} (z:L.length=n) (h1:∀ hs∈ob0,hs.length=1) (hl:ob0.length<=n) (s:lT (upto 0 n) L=true) (g:RF n (upto 0 n) (aC L) fr=fr) (A:iD n (upto 0 n) L=L'):
  ∀ (M:Imm) (bs:List Nat) (w:World),(∀ b o x,M b o x->∃ v,w.cell? ⟨b,o,none⟩=some v/\v.oneCell'=true/\Rep M [] v x)->(∀ b,b∈bs->b<w.heap.size)->(iZ ob0 fr R L).inv M bs w->(iZ ob0 fr R L').inv M bs w:=by
 rintro M bs w m i ⟨ob,y,F,H,G,q,B⟩;subst A
 have hm:Mem M ob L w:=⟨m,F,H,λ k b a=>i b ((q b).2 ⟨k,a⟩),G⟩
 obtain ⟨f,D,C⟩:=hm.cvt (n0:=n) s;refine ⟨eO n ob L 0 (upto 0 n),λ j hs d=>?_,f.len,f.obj,f.inj,λ b=>(q b).trans ⟨λ⟨k,a⟩=>?_,λ⟨j,a⟩=>?_⟩,λ t=>?_⟩
 .have e:j<n:=Ey (Ab.1 d).1 hl;obtain ⟨hs',p,t,u⟩:=y j hs d;have r:=h1 hs (Au d);refine ⟨iI n j (aC L j) hs',?_,?_⟩
  .rw [gM,BD n 0 j e];simp [p]
  .unfold iI;split
   .rw [<-u];have:(hs++t).take 1=hs:=by rw [Dc o_,Cf o_]
    rw [this];simp
   .exact ⟨t,u⟩
 .have l:k<n:=by obtain ⟨c,_,p,_⟩:=a;rw [<-z];exact (Ab.1 p).1
  exact ⟨k,C k k b (by rw [BD n 0 k l,Bo]) a⟩
 .obtain ⟨k,_,h⟩:=D j b a;exact ⟨k,h⟩
 .have:=hm.cvtV (n0:=n) s 5 _ _ (B t);rw [<-xO,g] at this;exact this
structure RecOK (fn:Func) (p:Nat) (as bd:Code) (R:Loop):Prop where
 params:R.params= #[p]
 ready:R.state= .ready
 pend:R.pending=none
 assign:R.assign=as
 body:R.body=bd
 size:R.tmps.size=fn.ntmps
def To.range {E:Env} {fn:Func} {g:Goal} {x:Operand} {p:Nat} {as bd:Code} {ks:List KI} {fr:List (Nat×aa)} {ac:List ab} {f:FuncId} {C:List aa} (m:List Nat) (hrd:E.rd=none) (hdf:E.df=[]) (hbo:nC E.P f)
  (hx:ev fr x= .func (.func f) [] C) (hk:∀ l R,lT m (kF ac (.bun 0 (bY l R)))=true) (hlt:(m.all λ k=>Ff k (aM ac))=true)
  (h:∀ (l:Nat) (ob0:Hs) (R:Loop),pQ g ob0->RecOK fn p as bd R->∃ (L':List ab) (b:Bool) (r:aa) (s:List ab) (gg:Nat),
   aA E.P f (.func (.yield l) [] []::dX (cvtV 0 m (aC (kF ac (.bun 0 (bY l R)))) 5) C) (iD 0 m (kF ac (.bun 0 (bY l R)))++[.bun 0 (iZ ob0 fr R (pS m (kF ac (.bun 0 (bY l R)))))]) (.ret r) (s++[.bun gg (iZ ob0 fr R L')])/\
   aC L' (aM ac)= .bun 0 (bY l (kV R b))/\s.length=m.length/\To E fn g (.code (if b then ks else .code .ret::ks) fr (bJ L' (aM ac) .dead))):
  To E fn g (.code (.code (.rangeFunc x #[p] as bd)::ks) fr ac):=by
 refine .mk λ hok M0 n aq w0 a w hst hs=>?_;obtain ⟨M,ob,hx0,hm,hfr,hsz,U,hlen⟩:=hs;rw [hrd];refine KW.range λ fid=>?_
 obtain ⟨l,hl⟩:∃ l,l=w.heap.size+1:=⟨_,rfl⟩
 obtain ⟨R,hR⟩:∃ R:Loop,R={state:=.ready,pending:=none,fn:=fid,tmps:=a.tmps,params:= #[p],assign:=as,body:=bd,defers:=w.heap.size}:=⟨_,rfl⟩
 have H:RecOK fn p as bd R:=by subst hR;exact ⟨rfl,rfl,rfl,rfl,rfl,hsz⟩
 have htm:R.tmps=a.tmps:=by subst hR;rfl
 obtain ⟨D,W⟩:∃ D,D=(w.alloc (.deferred (some []))).alloc (.loop R):=⟨_,rfl⟩
 obtain ⟨m1,x1⟩:=hm.layRec R;rw [<-hl,<-W] at m1 x1
 obtain ⟨A,hob1⟩:∃ A,A=ob++[[dR [l]]]:=⟨_,rfl⟩
 rw [<-hob1] at m1 x1;obtain ⟨L',b,r,s,gg,hcall,hLk,hol,hto⟩:=h l n R hst H;generalize I:kF ac (.bun 0 (bY l R))=obs1 at *
 have hobs1l:obs1.length=ac.length+1:=by rw [<-I,nJ];simp
 have hk1:lT m obs1=true:=by rw [<-I];exact hk l R
 have hltk:∀ k∈m,k<obs1.length:=λ k hk=>by
  have:=Cq.1 hlt k hk;have:k<aM ac:=by simpa [Jw] using this
  rw [bG] at this;omega
 obtain ⟨hwk,hdead⟩:=E5 m obs1 hltk;have mC:=m1.weak hwk;obtain ⟨c1,c2,c3⟩:=m1.cvt (n0:=0) hk1;have hfr1:∀ t,Rep M A (R.tmps.getD t undef) (aX fr t):=λ t=>by rw [htm];exact (hfr t).mono x1.imm x1.hs
 obtain ⟨bs,hbs,hpk⟩:=mC.pack (hx0.hs.trans x1.hs) hfr1;have hcl:(eO 0 A obs1 0 m).length=m.length:=rC;have hsl:(iD 0 m obs1).length=m.length:=nF;have J:blk ([]++[dR bs])=bs:=by rw [oE,dU]
 obtain ⟨mI,aI⟩:=c1.snoc (c:=.bun 0 (iZ n fr R (pS m obs1))) (hs:=[]++[dR bs]) (λ ob _=>hpk ob []) (λ b G=>by
   rw [J] at G;obtain ⟨j,S⟩:=(hbs b).1 G
   exact mC.lt j b S) (λ j b F G=>by
   rw [J] at G;obtain ⟨i,hi⟩:=(hbs b).1 G;obtain ⟨k,e1,e2⟩:=c2 j b F;have:=m1.inj k i b e2 (hwk.alive hi);subst this;obtain ⟨c,_,q1,q2,_⟩:=hi;rw [hdead k (Au e1)] at q1;cases q1
   cases q2)
 -- the call
 have hev:=DL hfr x;rw [hx] at hev;obtain ⟨z,hax,hcl1,hcr⟩:∃ z:List Value,a.eval x= .func (.func f) #[] z.toArray/\z.length=C.length/\∀ (i:Nat) v y,z[i]? =some v->C[i]? =some y->Rep M ob v y:=by
  generalize a.eval x=va at hev;cases hev with
  | func _ vfs vcs _ _ hl1 hl2 hr1 hr2=>
   have:vfs=[]:=Ax o_;subst this;exact ⟨vcs,rfl,hl2,hr2⟩
 have hargs:cA M (eO 0 A obs1 0 m++[[]++[dR bs]]) (.func (.yield l) #[] #[]::z) (.func (.yield l) [] []::dX (cvtV 0 m (aC obs1) 5) C):=by
  have hle:dE (eO 0 A obs1 0 m) (eO 0 A obs1 0 m++[[]++[dR bs]]):=λ j l S=>⟨l,by rw [Ag (Ab.1 S).1];exact S,Cn _⟩
  have h2:cA M (eO 0 A obs1 0 m) z (dX (cvtV 0 m (aC obs1) 5) C):=bX (λ v a hva=>m1.cvtV (n0:=0) hk1 5 v a (hva.mono x1.imm x1.hs)) hcl1 hcr;refine cA.cons (.func (.yield l) [] [] [] [] rfl rfl (λ i v a h=>by simp at h) (λ i v a h=>by simp at h)) ⟨h2.1,λ i v a hv F=>(h2.2 i v a hv F).mono (λ_ _ _ h=>h) hle⟩
 have hrun:=hcall M _ D _ mI hargs;have T:Calls E.P f (Value.func (.yield l) #[] #[]::z).toArray D λ e w'=>∃ M' ob',Ext M (eO 0 A obs1 0 m++[[]++[dR bs]]) (iD 0 m obs1++[.bun 0 (iZ n fr R (pS m obs1))]) D M' ob' (s++[.bun gg (iZ n fr R L')]) w'/\Mem M' ob' (s++[.bun gg (iZ n fr R L')]) w'/\rK M' ob' e (.ret r):=by
  rcases hrun with ⟨_,q⟩ | ⟨u,w',q,_⟩
  .exact q
  .rw [hbo] at q;cases q
 have hent:(Instr.enterLoop fid a.tmps #[p] as bd none).run E.P w= .ok (l,[{target:=.collected w.heap.size,args:= #[]}]) D:=by rw [hl,W,hR];exact run_enterLoop_outer ..
 refine ⟨l,[{target:=.collected w.heap.size,args:= #[]}],D,{target:=.fn (.func f) z.toArray,args:= #[.func (.yield l) #[] #[]]},f,_,hent,?_,?_,T.mono λ e w3 ⟨M',obI,Z,y2,y3⟩=>?_⟩
 .have:resolve a.eval (rangeCall x l) 0=Deferred.ofValue (a.eval x) #[.func (.yield l) #[] #[]]:=by simp [resolve,rangeCall,Act.eval]
  rw [this,hax];rfl
 .show (callFunc f (#[Value.func (.yield l) #[] #[]]++z.toArray)).run E.P D=_;rw [hbo];simp
 -- iM the call
 obtain ⟨v,rfl⟩:∃ v,e= .returned v:=by
  cases e with
  | returned v=>simp
  | panicked ch=>exact y3.elim
  | outgrown=>exact y3.elim
 refine ⟨v,rfl,?_⟩;have hbk:(s++[ab.bun gg (iZ n fr R L')])[s.length]? =some (.bun gg (iZ n fr R L')):=by simp
 obtain ⟨hs',V,hh',hl',hle',mC',hal',hfr'⟩:=y2.unpack hbk;have L:=bD hLk s_;have hkl:aM ac=ac.length:=bG ac;obtain ⟨_,_,_,_,_,Q⟩:=mC'.recAt L
 -- the client's memory,from the statement on
 have inI:∀ {k b},aG (eO 0 A obs1 0 m++[[]++[dR bs]]) (iD 0 m obs1++[.bun 0 (iZ n fr R (pS m obs1))]) k b->∃ k',aG A obs1 k' b:=λ{k b} F=>by
  rcases aI k b F with ⟨_,h⟩ | ⟨_,h⟩
  .obtain ⟨k',_,h⟩:=c2 k b h;exact ⟨k',h⟩
  .rw [J] at h;obtain ⟨j,S⟩:=(hbs b).1 h;exact ⟨j,hwk.alive S⟩
 have xnew:∀ b o y,M' b o y->M b o y\/D.heap.size<=b\/∃ k,aG A obs1 k b:=λ b o y hy=>by
  rcases Z.new b o y hy with q | q | ⟨k,q⟩
  .exact .inl q
  .omega
  .exact .inr (.inr (inI q))
 have O:∀ b,b<D.heap.size->(∀ k,¬ aG A obs1 k b)->w3.heap[b]? =D.heap[b]?:=λ b G hn=>Z.keep b G λ k F=>by obtain ⟨k',hk'⟩:=inI F;exact hn k' hk'
 have Y:∀ k b,aG V L' k b->(∃ k',aG A obs1 k' b)\/D.heap.size<=b:=λ k b F=>by
  have G:b∈blk hs':=(hal' b).2 ⟨k,F⟩
  have:aG obI (s++[ab.bun gg (iZ n fr R L')]) s.length b:=⟨_,hs',hbk,rfl,hh',G⟩
  rcases Z.fresh _ b this with ⟨k',q⟩ | q
  .exact .inl (inI q)
  omega
 have B:=hx0.trans x1
 -- from the function's start to here
 have X:Ext M0 n aq w0 M' V L' w3:=⟨λ b o y h=>Z.imm _ _ _ (B.imm _ _ _ h),λ b o y hy=>by
   rcases xnew b o y hy with h1 | h1 | ⟨i,hi⟩
   .exact B.new b o y h1
   .exact .inr (.inl (Cz B.size h1))
   .rcases B.fresh i b hi with h2 | h2
    .exact .inr (.inr h2)
    omega,hle',Z.os.trans B.os,Z.tape.trans B.tape,Z.output.trans B.output,Cz B.size Z.size,λ b G ho=>by
   rw [<-B.keep b G ho];refine O b (Ey G B.size) λ i hi=>?_;rcases B.fresh i b hi with ⟨j,S⟩ | h2
   .exact ho j S
   .omega,λ i b hi=>by
   rcases Y i b hi with ⟨j,S⟩ | h1
   .exact B.fresh j b S
   .exact .inr (Cz B.size h1)⟩
 have hnb:(kV R b).state≠ .busy:=by
  unfold kV;cases b with
  | true=>rw [if_pos rfl,H.ready];simp
  | false=>simp
 have hend:=run_endLoop (P:=E.P) Q hnb;obtain ⟨t1,t2⟩:=mC'.recTurn L {kV R b with state:=.exhausted};obtain ⟨d1,d2⟩:=t1.drop (aM ac);have hfin:bJ L' (aM ac) .dead=(L'.set (aM ac) (.bun 0 (bY l {kV R b with state:=.exhausted}))).set (aM ac) .dead:=by rw [aO L,List.set_set]
 rw [<-hfin] at d1 d2;have X2:Ext M0 n aq w0 M' V (bJ L' (aM ac) .dead) (w3.putObj l (.loop {kV R b with state:=.exhausted})):=by have:=X.trans t2;exact ⟨this.imm,this.new,this.hs,this.os,this.tape,this.output,this.size,this.keep,λ k b F=>this.fresh k b (d2 F)⟩
 refine ⟨(kV R b).pending,_,hend,?_⟩;obtain ⟨hto⟩:=hto;have hds0:=U;rw [hdf] at U
 -- the marks
 have hw1d:D.heap[w.heap.size]? =some (.deferred (some [])):=by rw [W,heap_alloc_old _ _ s_];exact heap_alloc_new w _
 have N:∀ c:Nat,D.heap[c]? =some (Obj.deferred (some []))->(w3.putObj l (.loop {kV R b with state:=.exhausted})).heap[c]? =some (Obj.deferred (some [])):=λ c K=>by
  have h3:w3.heap[c]? =some (Obj.deferred (some [])):=by
   rw [O c (eX K) λ k F=>by
    obtain ⟨o,q1,q2⟩:=m1.alive_heap F;rw [K] at q1;cases q1
    cases q2]
   exact K
  rw [Gn λ e=>by subst e;rw [Q] at h3;cases h3];exact h3
 have hmk:Mks w0 (w3.putObj l (.loop {kV R b with state:=.exhausted})) ({target:=.collected w.heap.size,args:= #[]}::a.defers):=by
  refine ⟨⟨w.heap.size,rfl,hx0.size,N _ hw1d,λ d hd e=>?_⟩,U.marks.same λ d _ c _ K=>N c ?_⟩
  .have:∀ {ds:List Deferred},Mks w0 w ds->∀ d∈ds,∀ c,d.target= .collected c->c<w.heap.size:=by
    intro ds;induction ds with
    | nil=>simp
    | cons d0 ds ih=>
     rintro ⟨⟨b0,q1,q2,q3,q4⟩,q5⟩ d hd c K;rcases Bb.1 hd with rfl | hd
     .rw [q1] at K;cases K;exact eX q3
     .exact ih q5 d hd c K
   have:=this U.marks d hd _ e;omega
  .rw [W,heap_alloc_old _ _ (by rw [tW];have:=eX K;omega),heap_alloc_old _ _ (eX K)];exact K
 have hss:SS M0 n aq w0 fn.ntmps E.df fr (bJ L' (aM ac) .dead) {a with defers:=[{target:=.collected w.heap.size,args:= #[]}]++a.defers} (w3.putObj l (.loop {kV R b with state:=.exhausted})):=by
  refine ⟨M',V,X2,d1,λ t=>?_,hsz,?_,?_⟩
  .have:=hfr' t;rw [htm] at this;exact this
  .rw [hdf];exact ⟨[],_,rfl,.nil,hmk⟩
  .have h1:=X2.lens;have h2:=d1.len;omega
 have hok2:bC fn.ntmps (if b then ks else .code .ret::ks)=true:=by
  have:bC fn.ntmps ks=true:=by simp only [bC,Ad] at hok;exact hok.2
  cases b with
  | true=>exact this
  | false=>simpa [bC,KI.ok,dC] using this
 have key:=hto hok2 M0 n aq w0 _ _ hst hss;rw [hrd] at key;have hjump:((kV R b).pending.map KI.code).toList++ks=(if b then ks else .code .ret::ks):=by
  unfold kV;cases b with
  | true=>rw [if_pos rfl,H.pend];rfl
  | false=>rfl
 rw [hjump];exact key
def aFK (sz:Nat):aa->aa
 | .nilslice=>.slice sz [] .nil
 | v=>v
def MJ (sz:Nat) (M:Imm) (ob:Hs) (v:Value) (a:aa) (h:Rep M ob v a):Rep M ob v (aFK sz a):=by
 unfold aFK;split
 .cases h;exact .slnil _ _ rfl
 .exact h
def To.beginC {E:Env} {fn:Func} {g:Goal} {st:List KI} {fr:List (Nat×aa)} {ac:List ab} (k i:Nat) (e:TypeId) {T:TypeId} {cs:List aa} {sz:Nat} (a:aC ac k= .cells T cs) (c:nth cs i=some (.slice sz [] .nil))
  (h:To E fn g (.code st fr (kF (bJ ac k (.cells T (K6 cs i (.slice sz [] (.own (aM ac) 0))))) (.tail 0 sz e)))):To E fn g (.code st fr ac):=by
 have b:To E fn g (.head st fr (kF (bJ ac k (.cells T (K6 cs i (.slice sz [] (.own (aM ac) 0))))) (.tail 0 sz e))):=h.rec λ h=>.mk h;exact (To.begin k i e a c b).rec λ h=>.mk h
abbrev Hm:=Option Addr×Nat×List aa
def hmV (m:Hm):Value:=.slice m.1 m.2.2.length m.2.1
def hmA (m:Hm):aa:=.hsl m.1 m.2.2.length m.2.1
def aJV (M:Imm) (ob:Hs) (m:Hm):Rep M ob (hmV m) (hmA m):=.hsl _ _ _
def lU (sz:Nat) (e:TypeId) (ms:List Hm):BInv where
 inv M bs w:=(∀ (i:Nat) m,ms[i]? =some m->dH M w (hmV m) sz e m.2.2)/\(∀ (i j:Nat) m m' b,ms[i]? =some m->ms[j]? =some m'->(hmV m).ownBlock=some b->(hmV m').ownBlock=some b->i=j)/\
  ∀ b,b∈bs↔ ∃ (i:Nat) (m:Hm),ms[i]? =some m/\(hmV m).ownBlock=some b
 mono:=λ hM hn hb ⟨h1,h2,h3⟩=>⟨λ i m hm=>(h1 i m hm).mono hM (λ b e ho o=>hn b ((h3 b).2 ⟨i,m,hm,e⟩) o (ho o)) (λ b c e=>hb b c ((h3 b).2 ⟨i,m,hm,e⟩)),h2,h3⟩
section
variable {M:Imm} {ob:Hs} {ac:List ab} {w:World}
def dH.blockAt {v:Value} {sz:Nat} {e:TypeId} {xs:List aa} (h:dH M w v sz e xs) {b:Nat} (a:v.ownBlock=some b):∃ o,w.heap[b]? =some o/\CZ o=false:=by
 obtain ⟨cv,⟨_,f⟩,_⟩:=h;rcases f with ⟨rfl,_⟩ | ⟨g,cap,d,i,_,c,_⟩
 .cases a
 .rw [i] at a;cases a;exact ⟨_,c,rfl⟩
def dH.nil (sz:Nat) (e:TypeId):dH M w (.slice none 0 0) sz e []:=
 ⟨[],Hf w 0 e sz,λ u h=>by simp at h,λ u h=>by simp at h,λ q c h=>by simp [aH] at h,λ b h=>(by cases h),CE w⟩
def dH.append {P:Program} (hm:Mem M ob ac w) {t G ty e:TypeId} {i:TypeInfo} {z:Value} (Q:P.underlying t=some (.slice e)) (V:P.info? e=some i) (hz:i.zero=some z) (hz1:z.cells.toList.all (·.oneCell')=true)
  (H:z.cells.size=i.size) (h:0<i.size) {xs ys:List aa} {v x:Value} (r:dH M w v i.size e xs) (hs:SrcA P M w i.size G x ys)
  (D:xs.length+ys.length<=maxLen) (f:(xs.length+ys.length)*i.bytes<=140737488355328):
  ∃ m w',(Co #[t,G] ty #[v,x]).run P w= .ok m w'/\dH M w' m i.size e (xs++ys)/\w'.os=w.os/\w'.tape=w.tape/\w'.output=w.output/\w.heap.size<=w'.heap.size/\
   (∀ b,m.ownBlock=some b->v.ownBlock=some b\/w.heap.size<=b)/\∀ b,b<w.heap.size->v.ownBlock≠some b->w'.heap[b]? =w.heap[b]?:=by
 obtain ⟨cv,B,K,W,R,N,U⟩:=r;obtain ⟨⟨news,J,O⟩,S⟩:=hs;obtain ⟨m,w',T,F,I,l,p,j,d,k⟩:=iE (P:=P) w t G ty e i z Q V hz hz1 H v xs.length cv B K x ys.length news J D f;have a:∀ b,m.ownBlock=some b->v.ownBlock=some b\/w.heap.size<=b:=λ b n=>by
  rcases d with ⟨q,_⟩ | ⟨q,_⟩
  .exact .inl (q▸n)
  .rw [q] at n;cases n;omega
 refine ⟨m,w',T,⟨cv++news,by simp;omega,λ u A=>?_,λ y s=>?_,λ q c C=>?_,λ b n o=>?_,k U⟩,I,l,p,j,a,λ b g L=>?_⟩
 .rcases Az.1 A with A | A
  .exact K u A
  .exact J.one u A
 .rcases Az.1 s with s | s
  .exact W y s
  .exact S y s
 .by_cases g:q<xs.length*i.size
  .rw [cL h g] at C;rw [Ag (by rw [B.1];exact g)];exact R q c C
  .rw [cE h o_] at C;rw [Ak (by rw [B.1];omega),B.1];exact O _ c C
 .rcases a b n with q | q
  .exact N b q o
  .exact hm.noImm q o
 .rcases d with ⟨_,q⟩ | ⟨_,q⟩
  .exact q b L
  .exact q b g
def dH.hm {v:Value} {sz:Nat} {e:TypeId} {xs:List aa} (h:dH M w v sz e xs):∃ a c,v=hmV (a,c,xs):=by
 obtain ⟨cv,d,_⟩:=h;rcases dD d with ⟨q,f⟩ | ⟨b,cap,q,_⟩
 .exact ⟨none,0,by rw [q,hmV];grind⟩
 .exact ⟨_,cap,q⟩
def Mem.famAppend {P:Program} (h:Mem M ob ac w) {t tx ty e:TypeId} {i:TypeInfo} {z:Value} (ht:P.underlying t=some (.slice e)) (hi:P.info? e=some i) (hz:i.zero=some z) (hz1:z.cells.toList.all (·.oneCell')=true)
  (hzs:z.cells.size=i.size) (R:0<i.size) {k g j:Nat} {s:List Hm} {m:Hm} {ys:List aa} (hx:ac[k]? =some (.bun g (lU i.size e s))) (H:s[j]? =some m) {x:Value} (hs:SrcA P M w i.size tx x ys)
  (h63:m.2.2.length+ys.length<=maxLen) (D:(m.2.2.length+ys.length)*i.bytes<=140737488355328):
  ∃ a c w' ob',(Co #[t,tx] ty #[hmV m,x]).run P w= .ok (hmV (a,c,m.2.2++ys)) w'/\Mem M ob' (ac.set k (.bun (g+1) (lU i.size e (s.set j (a,c,m.2.2++ys))))) w'/\
   Ext M ob ac w M ob' (ac.set k (.bun (g+1) (lU i.size e (s.set j (a,c,m.2.2++ys))))) w':=by
 obtain ⟨S,hh,hl,bs,hv,hd,h1,W,h3⟩:=h.obj k _ hx;have B:blk S=bs:=(dT hl hv).trans (dU _);obtain ⟨v',w',hr,I,hos,J,U,L,l,n⟩:=dH.append (P:=P) (ty:=ty) h ht hi hz hz1 hzs R (h1 j m H) hs h63 D;obtain ⟨a,c,rfl⟩:=I.hm;have hjl:j<s.length:=(Ab.1 H).1;have get:∀ {q:Nat} {d:Hm},(s.set j (a,c,m.2.2++ys))[q]? =some d->(q=j/\d=(a,c,m.2.2++ys))\/(q≠j/\s[q]? =some d):=λ{q d} f=>by
  by_cases K:q=j
  .subst K;rw [Ar hjl] at f;cases f;simp
  .rw [Ay (Em K)] at f;exact .inr ⟨K,f⟩
 have r:∀ {q:Nat} {d:Hm} {b:Nat},s[q]? =some d->(hmV d).ownBlock=some b->b∈bs/\b<w.heap.size:=λ{q d b} f B=>by have:=(h3 b).2 ⟨q,d,f,B⟩;obtain ⟨o,ho,_⟩:=hd b this;exact ⟨this,eX ho⟩
 have v:∀ (q:Nat) d,(s.set j (a,c,m.2.2++ys))[q]? =some d->dH M w' (hmV d) i.size e d.2.2:=λ q d f=>by
  rcases get f with ⟨_,rfl⟩ | ⟨hne,f⟩
  .exact I
  .refine (h1 q d f).mono (λ_ _ _ h=>h) (λ_ _ h=>h) λ b c' B hc=>?_;rw [n b (r f B).2 λ e=>hne (W q j d m b f H B e)];exact hc
 let F:=(s.set j (a,c,m.2.2++ys)).filterMap λ m=>(hmV m).ownBlock
 have C:∀ b,b∈F↔ ∃ (i:Nat) (d:Hm),(s.set j (a,c,m.2.2++ys))[i]? =some d/\(hmV d).ownBlock=some b:=λ b=>by
  simp only [F,List.mem_filterMap];constructor
  .rintro ⟨d,Q,T⟩;obtain ⟨q,f⟩:=Ct Q;exact ⟨q,d,f,T⟩
  .rintro ⟨q,d,Q,T⟩;exact ⟨d,Au Q,T⟩
 have hno:∀ {b o y},M b o y->(hmV m).ownBlock≠some b:=λ{b o y} Z e=>by obtain ⟨_,_,_,_,_,o5,_⟩:=h1 j m H;exact o5 b e o y Z
 have G:=h.turn (M':=M) (w':=w') (x':=.bun (g+1) (lU i.size e (s.set j (a,c,m.2.2++ys)))) (hs':=S++[dR F]) hx hh ⟨_,rfl⟩ (λ e=>by cases e) (λ_ _ _ h=>h) (λ_ _ _ h=>.inl h) (λ b o y Z=>by
   obtain ⟨u,hu,Q,T⟩:=h.imm b o y Z;have N:b<w.heap.size:=by simpa using Cs w _ hu
   exact ⟨u,(Cr (w:=w) (a:=⟨b,o,none⟩) (n b N (hno Z))).trans hu,Q,T⟩)
  (λ b N hn=>n b N λ e=>hn ⟨rfl,by rw [B];exact (r H e).1⟩) hos J U L
  (λ_=>⟨by simp [hl],F,by rw [<-hl];simp,λ b B=>by
   obtain ⟨q,d,f,B⟩:=(C b).1 B
   exact (v q d f).blockAt B,v,λ q q' m1 m2 b f A Y X=>by
   rcases get f with ⟨r1,rfl⟩ | ⟨r1,f⟩<;>rcases get A with ⟨r2,rfl⟩ | ⟨r2,A⟩
   .rw [r1,r2]
   .rcases l b Y with p | p
    .exact absurd (W j q' m m2 b H A p X) (λ e=>r2 e.symm)
    .have:=(r A X).2;omega
   .rcases l b X with p | p
    .exact absurd (W q j m1 m b f H Y p) r1
    .have:=(r f Y).2;omega
   .exact W q q' m1 m2 b f A Y X,C⟩)
  (λ_ b V=>by
   rw [oE,dU] at V;obtain ⟨q,d,f,O⟩:=(C b).1 V;refine ⟨?_,by obtain ⟨o,ho,_⟩:=(v q d f).blockAt O;exact eX ho⟩;rw [B];rcases get f with ⟨_,rfl⟩ | ⟨_,f⟩
   .rcases l b O with p | p
    .exact .inl ⟨rfl,(r H p).1⟩
    omega
   .exact .inl ⟨rfl,(r f O).1⟩)
 exact ⟨a,c,w',_,hr,G.1,G.2.1⟩
end
section
variable {E:Env} {fn:Func} {g:Goal}
inductive HandA (E:Env) (fn:Func) (g:Goal) (all:List Oper) (tab:List Nat) (ks:List KI) (n:Nat) (d:Option Nat) (s x:Operand) (t t2:TypeId) (l2:List Oper) (fr:List (Nat×aa)) (ac:List ab):Prop
 | mk (k gg j:Nat) (ms:List Hm) (m:Hm) (ys:List aa) (e esz eb sz:Nat) (ag:Bool) (z:aa) (hk:aC ac k= .bun gg (lU esz e ms)) (hj:ms[j]? =some m) (hs:ev fr s=hmA m) (hT:cU E.T t=some {kind:=.slc e esz eb,size:=sz,agg:=ag,zero:=z})
   (hp:Fw 1 esz=true) (hx:aAn E (aC ac) esz t2 (ev fr x)=some ys) (hf:zX (m.2.2.length+ys.length) eb)
   (h:∀ a c,To E fn g (.mid ⟨all,false,tab,ks⟩ (n+1) l2 [] (kW fr d (hmA (a,c,m.2.2++ys))) (bJ ac k (.bun (gg+1) (lU esz e (ms.set j (a,c,m.2.2++ys)))))))
def UO {M:Imm} {ob:Hs} {v:Value} {m:Hm} (h:Rep M ob v (hmA m)):v=hmV m:=by cases h;rfl
def tT {rd:Option Nat} {ops:Array Oper} {M0:Imm} {ob0:Hs} {aq:List ab} {w0:World} {sz:Nat} {dfs:List (Nat×List aa)} {Q:Exit->Act->World->Prop} {K:List (Nat×aa)->List ab->Prop} {Kp:(Nat->aa)->aa->List ab->Prop} {rest:List Oper}
  (hE:ae E) (hp:∀ g v ac c a w,Kp g v ac->PP M0 ob0 aq w0 sz dfs g v ac c a w->Q (.panic c) a w) (k:∀ fr ac a w,K fr ac->SS M0 ob0 aq w0 sz dfs fr ac a w->wpListIn (fen rd) 0 E.P ops Q rest a w):
  ∀ (l:List Oper) (n:Nat) (fr:List (Nat×aa)) (ac:List ab) (a:Act) (w:World),(∀ p∈l,∀ d,p.dst=some d->d<sz)->eQ E ops.toList K Kp n l fr ac->SS M0 ob0 aq w0 sz dfs fr ac a w->wpListIn (fen rd) 0 E.P ops Q (l++rest) a w
 | [],n,fr,ac,a,w,_,h,hs=>k fr ac a w h hs
 | p::l,n,fr,ac,a,w,hd,h,hs=>by
  refine wk (K7 (K:=λ fr ac=>eQ E ops.toList K Kp (n+1) l fr ac) (Kp:=Kp) (hint:=eW E p.dst) hE hs (hd p s_) ?_ λ v ac c w e f=>hp (aX fr) v ac c a w e f) λ m w' ⟨i,ap,e,hs'⟩=>tT hE hp k l (n+1) i ap m w' (λ p hp=>hd p (by simp [hp])) e hs';simp only [eQ] at h;cases j:cF ops.toList (ev fr) p.guard with
  | none=>rw [j] at h;exact h.elim
  | some b=>
   rw [j] at h;cases b with
   | false=>exact h
   | true=>
    exact jP (λ v o h=>uC h) h
def H9 {P:Program} {s x:Operand} {t b:TypeId} {p:Oper} (hp:p.op= .call {callee:=.builtin .append,args:= #[s,x],argTypes:= #[t,b]}) {ρ:Operand->Value} {w w':World} {v:Value}
  (h:(Co #[t,b] p.type #[ρ s,ρ x]).run P w= .ok v w'):(execOp ρ p).run P w= .ok (.value v) w':=by
 obtain ⟨d,op,ty,pos,a,c⟩:=p;dsimp only at hp;subst hp;simp [execOp,resolve,invoke,builtin,h]
def To.handA (hE:ae E) {id:Nat} {ops:Array Oper} {tab:List Nat} {ks:List KI} {fr:List (Nat×aa)} {ac:List ab} {l1 l2:List Oper} {p:Oper} {s x:Operand} {t S:TypeId} (b:ops.toList=l1++p::l2)
  (hp:p.op= .call {callee:=.builtin .append,args:= #[s,x],argTypes:= #[t,S]}) (hg:p.guard=none)
  (h:eQ E ops.toList (HandA E fn g ops.toList tab ks l1.length p.dst s x t S l2) (jU E fn g) 0 l1 fr ac):To E fn g (.code (.code (.region id ops false)::ks) fr ac):=
 .mk λ ho M0 ob0 aq w0 a w hst hs=>by
  simp only [bC,KI.ok,dC,Ad] at ho;obtain ⟨⟨V,ho2⟩,X⟩:=ho;have R:=oB V
  refine KW.code (Q':=QR E fn g M0 ob0 aq w0 ks) ?_ (λ a w h=>h) (λ f a w h=>h) (λ e a w hh=>by cases e<;>first | exact .inl rfl | exact .inr ⟨_,rfl⟩ | exact hh.elim)
  have l:∀ o v ac f a w,jU E fn g o v ac->PP M0 ob0 aq w0 fn.ntmps E.df o v ac f a w->pI E fn M0 ob0 aq w0 g (.panic f) a w:=λ o v ac f a w he l=>AT he hst l;have hq:∀ fr ac a w,cY E fn g ks fr ac->SS M0 ob0 aq w0 fn.ntmps E.df fr ac a w->KW E.rd E.P (pI E fn M0 ob0 aq w0 g) ks a w:=λ fr ac a w L hs=>L X M0 ob0 aq w0 a w hst hs;refine wpIn_region_list ?_;have r:∀ fr ac a w,HandA E fn g ops.toList tab ks l1.length p.dst s x t S l2 fr ac->SS M0 ob0 aq w0 fn.ntmps E.df fr ac a w->wpListIn (fen E.rd) 0 E.P ops (QR E fn g M0 ob0 aq w0 ks) (p::l2) a w:=by
   rintro fr ac a w ⟨k,gg,j,ms,m,ys,e,esz,eb,sz,ag,z0,L,hj,hs1,hT,d,U,hf,n⟩ hs;obtain ⟨M,ob,hx,hm,y,H,O,h0⟩:=hs;obtain ⟨⟨hu,i,z,hi,hsi,J,hz,Z,hz1⟩,_⟩:=(hE.tab t _ hT).kind;subst hsi J;have d:=Ck d;have B:=DL (a:=a) y;have u:=PA hE hm (B x) U d;have C:=bD L s_;have N:a.eval s=hmV m:=by have:=B s;rw [hs1] at this;exact UO this
   obtain ⟨A,D,w',ob',I,m1,F⟩:=hm.famAppend (P:=E.P) (ty:=p.type) hu hi hz hz1 Z d C hj u hf.1 hf.2;have Y:nA E.P p a.eval w (λ e T=>e= .returned (hmV (A,D,m.2.2++ys))/\T=w'):=.inl ⟨_,_,H9 hp (by rw [N];exact I),rfl,rfl⟩;refine wk (ao:=λ a w=>SS M0 ob0 aq w0 fn.ntmps E.df (kW fr p.dst (hmA (A,D,m.2.2++ys))) (bJ ac k (.bun (gg+1) (lU i.size e (ms.set j (A,D,m.2.2++ys))))) a w) ?_ λ a w hs=>?_
   .unfold G;rw [if_pos (by simp [Fe,hg])];refine Y.wpIn (by intro c;rw [hp];simp) (λ v T ⟨W,e2⟩=>?_) (λ f T ⟨W,_⟩=>by cases W);cases W;subst e2;rw [aO C];have:=F.lens;have:=m1.len;refine ⟨M,ob',hx.trans F,m1,?_,(eJ _ _ _).1.trans H,(O.ext hm F).put,by simp;omega⟩;rw [eK];exact lG (λ t=>(y t).mono F.imm F.hs) (aJV M ob' (A,D,m.2.2++ys)) λ d' e=>H▸R p (by rw [b];simp) d' e
   .obtain ⟨n⟩:=n A D;exact mM (rd:=E.rd) (Q:=QR E fn g M0 ob0 aq w0 ks) (K:=cY E fn g ks) (Kp:=jU E fn g) hE (λ o v ac f a w h1 q=>l o v ac f a w h1 q) (λ fr ac a w h1 q=>hq fr ac a w h1 q) l2 (l1.length+1) _ _ a w (λ p hp=>R p (by rw [b];simp [hp])) n hs
  rw [b];exact tT (rd:=E.rd) (Q:=QR E fn g M0 ob0 aq w0 ks) (Kp:=jU E fn g) hE (λ o v ac f a w h1 q=>l o v ac f a w h1 q) r l1 0 fr ac a w (λ p hp=>R p (by rw [b];simp [hp])) h hs
def To.objTo {st:List KI} {fr:List (Nat×aa)} {ac:List ab} (k:Nat) {x x':ab} (v:aC ac k=x) (z:x≠ .dead) (f:x.owns=true) (u:∀ M ob w hs,(∀ b,b∈blk hs->b<w.heap.size)->gQ M ob w hs x->gQ M ob w hs x')
  (h:To E fn g (.code st fr (bJ ac k x'))):To E fn g (.code st fr ac):=
 .mk λ s M0 ob0 aq w0 a w hst hs=>by
  obtain ⟨M,ob,d,hm,p,A,y,B⟩:=hs;have e:=bD v z;refine h.rec λ h=>h s M0 ob0 aq w0 a w hst ?_;rw [aO e];have q:=(Ab.1 e).1;have n:∀ {i b},aG ob (ac.set k x') i b->aG ob ac i b:=λ{i b} ⟨c,hs,e1,e2,e3,e4⟩=>by
   by_cases l:i=k
   .subst l;exact ⟨x,hs,e,f,e3,e4⟩
   .rw [Ay (Em l)] at e1;exact ⟨c,hs,e1,e2,e3,e4⟩
  refine ⟨M,ob,⟨d.imm,d.new,d.hs,d.os,d.tape,d.output,d.size,d.keep,λ i b r=>d.fresh i b (n r)⟩,⟨hm.imm,by simpa using hm.len,λ i c m=>?_,λ i b r=>hm.lt i b (n r),λ i j b h1 o=>hm.inj i j b (n h1) (n o)⟩,p,A,y,by simp;omega⟩;by_cases l:i=k
  .subst l;rw [Ar q] at m;cases m;obtain ⟨hs,h1,o⟩:=hm.obj i x e;exact ⟨hs,h1,u _ _ _ _ (λ b t=>hm.lt i b ⟨x,hs,e,f,h1,t⟩) o⟩
  .rw [Ay (Em l)] at m;exact hm.obj i c m
def To.beginF {st:List KI} {fr:List (Nat×aa)} {ac:List ab} (sz:Nat) (e:TypeId) (h:To E fn g (.code st fr (kF ac (.bun 0 (lU sz e []))))):To E fn g (.code st fr ac):=
 .mk λ r M0 ob0 aq w0 a w hst hs=>by
  obtain ⟨M,ob,o,hm,p,z,x,A⟩:=hs;refine h.rec λ h=>h r M0 ob0 aq w0 a w hst ?_;rw [nJ];have n:blk [dR []]=[]:=dU _;obtain ⟨u,v⟩:=hm.snoc (c:=.bun 0 (lU sz e [])) (hs:=[dR []]) (λ ob _=>⟨rfl,[],rfl,λ b n=>by simp at n,λ i m h=>by simp at h,λ i j m B b h=>by simp at h,λ b=>⟨λ h=>by simp at h,λ⟨i,m,h,_⟩=>by simp at h⟩⟩) (λ b h=>by simp_all) (λ k b _=>by simp_all)
  have f:dE ob (ob++[[dR []]]):=λ j l s=>⟨l,by rw [Ag (Ab.1 s).1];exact s,Cn _⟩
  have d:Ext M ob ac w M (ob++[[dR []]]) (ac++[.bun 0 (lU sz e [])]) w:=⟨λ_ _ _ h=>h,λ_ _ _ h=>.inl h,f,rfl,rfl,rfl,Bc _,λ_ _ _=>rfl,λ k b y=>by
   rcases v k b y with ⟨_,q⟩ | ⟨_,q⟩
   .exact .inl ⟨k,q⟩
   .rw [n] at q;simp at q⟩
  exact ⟨M,_,o.trans d,u,λ t=>(p t).mono (λ_ _ _ h=>h) f,z,x.ext hm d,by simp;omega⟩
def aGC {M:Imm} {ob:Hs} {w:World} {hs:List Value} {gg sz:Nat} {e:TypeId} {c:List Hm} (h:gQ M ob w hs (.bun gg (lU sz e c))):gQ M ob w hs (.bun gg (lU sz e (c++[(none,0,[])]))):=by
 obtain ⟨h1,bs,g,h3,q,n,k⟩:=h;have get:∀ {i:Nat} {m:Hm},(c++[((none,0,[]):Hm)])[i]? =some m->c[i]? =some m\/(i=c.length/\m=(none,0,[])):=λ{i m} a=>by
  by_cases hl:i<c.length
  .rw [Ag hl] at a;exact .inl a
  .have g:i=c.length:=by have:=(Ab.1 a).1;simp at this;omega
   subst g;rw [Ak s_] at a;simp at a;exact .inr ⟨rfl,a.symm⟩
 refine ⟨h1,bs,g,h3,λ i m a=>?_,λ i j m p b a f d l=>?_,λ b=>⟨λ o=>?_,λ⟨i,m,a,d⟩=>?_⟩⟩
 .rcases get a with a | ⟨_,rfl⟩
  .exact q i m a
  .exact dH.nil sz e
 .rcases get a with a | ⟨_,rfl⟩
  .rcases get f with f | ⟨_,rfl⟩
   .exact n i j m p b a f d l
   .cases l
  .cases d
 .obtain ⟨i,m,a,d⟩:=(k b).1 o;exact ⟨i,m,by rw [Ag (Ab.1 a).1];exact a,d⟩
 .rcases get a with a | ⟨_,rfl⟩
  .exact (k b).2 ⟨i,m,a,d⟩
  .cases d
def aE4 {M:Imm} {ob:Hs} {w:World} {hs:List Value} {gg:Nat} {e:TypeId} {d:List Hm} (h:gQ M ob w hs (.row gg 1 e (d.map hmA++[.nilslice]))):gQ M ob w hs (.row gg 1 e ((d++[(none,0,[])]).map hmA)):=by
 obtain ⟨h1,v,j,cv,s,r,t,g,p,k⟩:=h;refine ⟨h1,v,j,cv,by simpa using s,r,λ x b=>?_,λ q c i=>?_,p,k⟩
 .simp only [Ca] at b;obtain ⟨m,_,rfl⟩:=b;rfl
 .have one:∀ {l:List aa} {q:Nat} {c:aa},(∀ x∈l,x.cells=[x])->(aH 1 l q=some c↔l[q]? =some c):=λ{l q c} hl=>by
   unfold aH;rw [Ip,Jd];cases f:l[q]? with
   | none=>simp
   | some x=>simp [hl x (Au f)]
  have a:=(one (λ x b=>by simp only [Ca] at b;obtain ⟨m,_,rfl⟩:=b;rfl)).1 i;rw [Bm] at a;by_cases hl:q<d.length
  .rw [Ag q_] at a
   exact g q c ((one (λ x b=>by
    simp only [Az,Ca,Dj] at b
    rcases b with ⟨m,_,rfl⟩ | rfl<;>rfl)).2 (by rw [Ag q_];exact a))
  .have f:q=d.length:=by have:=(Ab.1 a).1;simp at this;omega
   subst f;rw [Ak s_] at a;simp at a
   obtain ⟨u,o,n⟩:=g d.length .nilslice ((one (λ x b=>by
    simp only [Az,Ca,Dj] at b
    rcases b with ⟨m,_,rfl⟩ | rfl<;>rfl)).2 s_)
   refine ⟨u,o,?_⟩;subst a;cases n;exact .hsl _ _ _
end
section
variable {M:Imm} {ob:Hs} {ac:List ab} {w:World}
def Mem.famFreeze (h:Mem M ob ac w) {k gg sz:Nat} {e:TypeId} {p:List Hm} (B:ac[k]? =some (.bun gg (lU sz e p))):
  ∃ M' ob',Mem M' ob' (ac.set k (.bun (gg+1) (lU sz e []))) w/\Ext M ob ac w M' ob' (ac.set k (.bun (gg+1) (lU sz e []))) w/\∀ (i:Nat) m,p[i]? =some m->Rep M' [] (hmV m) (.slice sz m.2.2 .no):=by
 obtain ⟨f,D,hl,bs,F,L,h1,J,h3⟩:=h.obj k _ B;have l:blk f=bs:=(dT hl F).trans (dU _)
 let M':Imm:=λ b o y=>M b o y\/∃ (i:Nat) (m:Hm),p[i]? =some m/\(hmV m).ownBlock=some b/\aH sz m.2.2 o=some y
 have r:∀ b o y,M b o y->M' b o y:=λ_ _ _ h=>.inl h
 have c:=h.turn (M':=M') (w':=w) (x':=.bun (gg+1) (lU sz e [])) (hs':=f++[dR []]) B D ⟨_,rfl⟩ (λ e=>by cases e) r (λ b o y a=>by
   rcases a with a | ⟨i,m,n,d,_⟩
   .exact .inl a
   .exact .inr (.inl ⟨rfl,by rw [l];exact (h3 b).2 ⟨i,m,n,d⟩⟩)) (λ b o y a=>by
   rcases a with a | ⟨i,m,n,d,q⟩
   .obtain ⟨u,C,H,I⟩:=h.imm b o y a;exact ⟨u,C,H,I.monoM r⟩
   .obtain ⟨cv,s,x,A,v,_⟩:=h1 i m n;obtain ⟨u,z,G⟩:=v o y q
    exact ⟨u,fF s d z,x u (Au z),G.monoM r⟩) (λ_ _ _=>rfl) rfl rfl rfl (Bc _)
  (λ_=>⟨by simp [hl],[],by rw [<-hl];simp,λ b l=>by simp at l,λ i m h=>by simp at h,λ i j m K b h=>by simp at h,λ b=>⟨λ h=>by simp at h,λ⟨i,m,h,_⟩=>by simp at h⟩⟩)
  (λ_ b g=>by
   rw [oE,dU] at g
   simp at g)
 refine ⟨M',_,c.1,c.2.1,λ i m hm=>?_⟩;obtain ⟨cv,s,x,A,v,_⟩:=h1 i m hm;exact (jM (M:=M) (ob:=[]) s A (t:=.no) trivial).monoM λ b o y a=>by
  rcases a with a | ⟨d,q⟩
  .exact .inl a
  .exact .inr ⟨i,m,hm,d,q⟩
def Mem.objTo (hm:Mem M ob ac w) {k:Nat} {x x':ab} (a:ac[k]? =some x) (l:x.owns=true) (o:∀ hs,ob[k]? =some hs->gQ M ob w hs x->gQ M ob w hs x'):Mem M ob (ac.set k x') w/\Ext M ob ac w M ob (ac.set k x') w:=by
 have m:=(Ab.1 a).1;have f:∀ {i b},aG ob (ac.set k x') i b->aG ob ac i b:=λ{i b} ⟨c,hs,e1,e2,e3,e4⟩=>by
  by_cases d:i=k
  .subst d;exact ⟨x,hs,a,l,e3,e4⟩
  .rw [Ay (Em d)] at e1;exact ⟨c,hs,e1,e2,e3,e4⟩
 refine ⟨⟨hm.imm,by simpa using hm.len,λ i c e=>?_,λ i b n=>hm.lt i b (f n),λ i j b h1 g=>hm.inj i j b (f h1) (f g)⟩,⟨λ_ _ _ h=>h,λ_ _ _ h=>.inl h,dE.refl _,rfl,rfl,rfl,Bc _,λ_ _ _=>rfl,λ i b n=>.inl ⟨i,f n⟩⟩⟩;by_cases d:i=k
 .subst d;rw [Ar m] at e;cases e;obtain ⟨hs,h1,g⟩:=hm.obj i x a;exact ⟨hs,h1,o _ h1 g⟩
 .rw [Ay (Em d)] at e;exact hm.obj i c e
end
def D1 {l:List aa} {q:Nat} {c:aa} (hl:∀ x∈l,x.cells=[x]):aH 1 l q=some c↔l[q]? =some c:=by
 unfold aH;rw [Ip,Jd];cases a:l[q]? with
 | none=>simp
 | some x=>simp [hl x (Au a)]
def To.famFrz {E:Env} {fn:Func} {g:Goal} {st:List KI} {fr:List (Nat×aa)} {ac:List ab} (k r:Nat) {gg o sz:Nat} {e p:TypeId} {i:List Hm} (K:aC ac k= .bun gg (lU sz e i)) (s:aC ac r= .row o 1 p (i.map hmA))
  (h:To E fn g (.code st fr (bJ (bJ ac k (.bun (gg+1) (lU sz e []))) r (.row o 1 p (i.map λ m=>.slice sz m.2.2 .no))))):To E fn g (.code st fr ac):=
 .mk λ B M0 ob0 aq w0 a w hst hs=>by
  obtain ⟨M,ob,y,hm,z,U,R,W⟩:=hs;have n:=bD K s_;have j:=bD s s_;have A:k≠r:=λ e=>by simp_all
  refine h.rec λ h=>h B M0 ob0 aq w0 a w hst ?_;rw [aO n];have l:(ac.set k (.bun (gg+1) (lU sz e [])))[r]? =some (.row o 1 p (i.map hmA)):=by rw [Ay A];exact j
  rw [aO l];obtain ⟨M',ob',F,N,S⟩:=hm.famFreeze n;obtain ⟨C,T⟩:=F.objTo (x':=.row o 1 p (i.map λ m=>.slice sz m.2.2 .no)) l rfl λ hs _ ⟨h1,v,G,cv,D,I,V,J,Q,L⟩=>by
   refine ⟨h1,v,G,cv,by simpa using D,I,λ x b=>?_,λ q c H=>?_,Q,L⟩
   .simp only [Ca] at b;obtain ⟨m,_,rfl⟩:=b;rfl
   .have f:=(D1 (λ x b=>by simp only [Ca] at b;obtain ⟨m,_,rfl⟩:=b;rfl)).1 H;rw [Bf] at f;obtain ⟨m,d,rfl⟩:=Cd.1 f;obtain ⟨u,P,O⟩:=J q (hmA m) ((D1 (λ x b=>by simp only [Ca] at b;obtain ⟨m,_,rfl⟩:=b;rfl)).2 (by rw [Bf,d];rfl));exact ⟨u,P,by rw [UO O];exact S q m d⟩
  have X:=N.trans T;have:=X.lens;have:=C.len;exact ⟨M',ob',y.trans X,C,λ t=>(z t).mono X.imm X.hs,U,R.ext hm X,by simp;omega⟩
def To.handAt {E:Env} {fn:Func} {g:Goal} (hE:ae E) (n:Nat) {id:Nat} {ops:Array Oper} (tab:List Nat) {ks:List KI} {fr:List (Nat×aa)} {ac:List ab} {p:Oper} {s x:Operand} {t b:TypeId} (c:ops.toList[n]? =some p)
  (hp:p.op= .call {callee:=.builtin .append,args:= #[s,x],argTypes:= #[t,b]}) (d:p.guard=none)
  (h:eQ E ops.toList (HandA E fn g ops.toList tab ks n p.dst s x t b (ops.toList.drop (n+1))) (jU E fn g) 0 (ops.toList.take n) fr ac):To E fn g (.code (.code (.region id ops false)::ks) fr ac):=by
 have a:=(Ab.1 c).1;refine To.handA hE (tab:=tab) (l1:=ops.toList.take n) (l2:=ops.toList.drop (n+1)) (p:=p) ?_ hp d ?_
 .conv=>lhs;rw [<-Bq n ops.toList,Ae a]
  grind
 .rw [Dp,Gp (Nat.le_of_lt a)];exact h
def BU (r:Nat):Code->Option Code
 | .region id ops dr=>bif Aw id r then some (.region id ops dr) else none
 | .seq a b=>(match BU r a with | some x=>some x | none=>BU r b)
 | .cond _ a b=>(match BU r a with | some x=>some x | none=>BU r b)
 | .block _ b=>BU r b
 | .loop b=>BU r b
 | _=>none
def mQ (fn:Func) (r:Nat):List KI:=.code (match BU r (dG fn) with | some c=>c | none=>.skip)::iM fn r
def To.ofC {E:Env} {fn:Func} {g:Goal} {ks:List KI} {fr:List (Nat×aa)} {ac:List ab} (h:To E fn g (.code ks fr ac)):To E fn g (.head ks fr ac):=h.rec λ h=>.mk h
def To.toC {E:Env} {fn:Func} {g:Goal} {ks:List KI} {fr:List (Nat×aa)} {ac:List ab} (h:To E fn g (.head ks fr ac)):To E fn g (.code ks fr ac):=h.rec λ h=>.mk h
section
variable {E:Env} {all:List Oper} {tab:List Nat} {L0:Nat}
end
section
variable {E:Env} {ops:Array Oper} {tab:List Nat} {tl L0:Nat} {Kp:(Nat->aa)->aa->List ab->Prop} {Q:AS->Prop}
end
section
variable {E:Env} {ops:Array Oper} {tab:List Nat} {tl L0:Nat} {Kp:(Nat->aa)->aa->List ab->Prop} {Kq:List (Nat×aa)->List ab->Prop} {Q:AS->Prop}
end
section
variable {rd:Option Nat} {M0:Imm} {ob0:Hs} {aq:List ab} {w0:World} {sz:Nat} {dfs:List (Nat×List aa)} {E:Env} {ops:Array Oper} {Q:Exit->Act->World->Prop} {K:AS->Prop} {Kp:(Nat->aa)->aa->List ab->Prop} {tl L0:Nat} {tab:List Nat}
end
section
variable {E:Env} {ops:Array Oper} {tab:List Nat} {tl L0:Nat} {Kp:(Nat->aa)->aa->List ab->Prop} {Kg:List (Nat×aa)->List ab->Prop}
end
def X0 (A tab:List Nat) (n t:Nat):Nat->List Oper->Bool
 | _,[]=>false
 | i,p::r=>(match p.dst with | some d=>Aw d t&&(sL i A&& !cP (cV tab n) i) | none=>false)||X0 A tab n t (i+1) r
def evP (A tab:List Nat) (all:List Oper) (n:Nat) (fr:List (Nat×aa)):Operand->aa
 | .tmp t=>bif X0 A tab n t 0 all then .undef else aX fr t
 | x=>ev fr x
def JM (A:List Nat) (t:Nat):Nat->List Oper->Bool
 | _,[]=>false
 | i,p::r=>(match p.dst with | some d=>Aw d t&&sL i A | none=>false)||JM A t (i+1) r
def gP (A:List Nat) (all:List Oper) (fr:List (Nat×aa)):Nat->aa:=λ t=>bif JM A t 0 all then .undef else aX fr t
def vP (E:Env) (A tab:List Nat) (all:List Oper) (fr:List (Nat×aa)) (ac:List ab):List Nat->Prop
 | []=>True
 | i::r=>(match nth all i with
   | some p=>(match p.guard with
    | none=>(match p.dst with
     | some d=>eop E (eW E p.dst) (aM ac) (aC ac) (evP A tab all i fr) p.op p.type= .val (aX fr d)
     | none=>False)
    | some _=>False)
   | none=>False)/\vP E A tab all fr ac r
def wJ (tab:List Nat) (n:Nat):List Nat->List Nat
 | []=>[]
 | i::r=>bif cP (cV tab n) i then wJ tab n r else i::wJ tab n r
def TT (fr:List (Nat×aa)) (d:Option Nat) (v:aa) (k:List (Nat×aa)->Prop):Prop:=
 match d with
 | none=>k fr
 | some d=>BX fr d v k
def LS (fr:List (Nat×aa)) (d:Option Nat) (v:aa) (k:List (Nat×aa)->Prop):TT fr d v k=k (kW fr d v):=by
 cases d with
 | none=>rfl
 | some d=>exact mD fr d v k
def R0 (E:Env) (A tab:List Nat) (all:List Oper) (K:List (Nat×aa)->List ab->Prop) (Kp:(Nat->aa)->aa->List ab->Prop):List Nat->List Nat->List (Nat×aa)->List ab->Prop
 | [],U,fr,ac=>vP E A tab all fr ac U/\K fr ac
 | n::rest,U,fr,ac=>vP E A tab all fr ac U/\(match nth all n with
   | none=>False
   | some p=>(match p.guard with
    | some _=>False
    | none=>orF E.P ac (λ v ap=>KD 5 v λ v=>ODL ap λ ap=>TT fr p.dst v λ fr=>R0 E A tab all K Kp rest (wJ tab n U) fr ap) (Kp (gP A all fr))
            (eop E (eW E p.dst) (aM ac) (aC ac) (evP A tab all n fr) p.op p.type)))
def yL (E:Env) (A tab:List Nat) (all:List Oper) (ac:List ab):List Nat->List (Nat×aa)->(List (Nat×aa)->Prop)->Prop
 | [],fr,k=>k fr
 | i::r,fr,k=>match nth all i with
  | some p=>(match p.dst with
   | some d=>(match eop E (eW E p.dst) (aM ac) (aC ac) (evP A tab all i fr) p.op p.type with
    | .val v=>KD 5 v λ v=>BX fr d v λ fr=>yL E A tab all ac r fr k
    | _=>False)
   | none=>False)
  | none=>False
def chB (tab:List Nat):List Nat->Bool
 | []=>true
 | n::r=>(r.all λ j=>cP (cV tab j) n)&&chB tab r
def aDp (A B:List Nat):Nat->Bool
 | 0=>true
 | n+1=>(sL n A||sL n B)&&aDp A B n
def aBF (sz:Nat):List Nat->Bool
 | []=>true
 | n::r=>(Ff n sz&& !sL n r)&&aBF sz r
def aH8 (A B tab:List Nat) (sz:Nat):Bool:=((aBF sz (A++B)&&aDp A B sz)&&chB tab B)
def qW (tab:List Nat) (n:Nat):List Nat->Bool
 | []=>true
 | j::r=>!(cP (cV tab n) j)&&qW tab n r
def LH (n:Nat):List Nat->List Nat
 | []=>[]
 | j::r=>bif Aw j n then r else j::LH n r
def wI (tab a:List Nat) (f:Nat->Prop):List Nat->Prop
 | []=>True
 | n::r=>bif qW tab n a then f n/\wI tab a f r else wI tab a f r
def BF (E:Env) (A tab:List Nat) (all:List Oper) (K:List (Nat×aa)->List ab->Prop) (Kp:(Nat->aa)->aa->List ab->Prop):List Nat->List Nat->List Nat->List (Nat×aa)->List ab->Prop
 | [],_,U,fr,ac=>vP E A tab all fr ac U/\K fr ac
 | _::F,Bs,U,fr,ac=>vP E A tab all fr ac U/\wI tab Bs (λ n=>match nth all n with
   | none=>False
   | some p=>(match p.guard with
    | some _=>False
    | none=>orF E.P ac (λ v ap=>KD 5 v λ v=>ODL ap λ ap=>TT fr p.dst v λ fr=>BF E A tab all K Kp F (LH n Bs) (wJ tab n U) fr ap) (Kp (gP A all fr))
      (eop E (eW E p.dst) (aM ac) (aC ac) (evP A tab all n fr) p.op p.type))) Bs
def aH4 (A B tab:List Nat) (sz:Nat):Bool:=aBF sz (A++B)&&aDp A B sz
def NJ {tab:List Nat} {n:Nat}:∀ {l:List Nat},(∀ j∈l,cP (cV tab n) j=false)->qW tab n l=true
 | [],_=>rfl
 | j::r,h=>by unfold qW;rw [h j (Ap ..),NJ λ k a=>h k (Bd _ a)];rfl
def TP (n:Nat):∀ l:List Nat,LH n l=l.erase n
 | []=>rfl
 | j::r=>by unfold LH;rw [List.erase_cons,TP n r];simp
def DU {tab b:List Nat} {f:Nat->Prop} {n:Nat} (d:qW tab n b=true):∀ {l:List Nat},wI tab b f l->n∈l->f n
 | [],_,h=>by cases h
 | j::r,h,a=>by
  unfold wI at h;by_cases e:n=j
  .grind
  .have a:=(Bb.1 a).resolve_left e;cases c:qW tab j b with
   | true=>rw [c] at h;exact DU d h.2 a
   | false=>rw [c] at h;exact DU d h a
def DT {tab a:List Nat} {f:Nat->Prop}:∀ {l:List Nat},(∀ j∈l,qW tab j a=false)->wI tab a f l
 | [],_=>trivial
 | j::r,h=>by unfold wI;rw [h j (Ap ..)];exact DT λ k b=>h k (Bd _ b)
def HB {A B:List Nat}:∀ {n:Nat},aDp A B n=true->∀ i,i<n->i∈A\/i∈B
 | 0,_,i,hi=>by omega
 | n+1,h,i,hi=>by
  simp only [aDp,Ad,Fc,lD] at h;by_cases e:i=n
  .grind
  .exact HB h.2 i o_
def FT {sz:Nat}:∀ {l:List Nat},aBF sz l=true->l.Nodup/\∀ i∈l,i<sz
 | [],_=>⟨Hr,λ i h=>by cases h⟩
 | n::r,h=>by
  simp only [aBF,Ad,Cx,Jw] at h;obtain ⟨h1,a⟩:=FT h.2;refine ⟨Ce.2 ⟨λ hm=>?_,h1⟩,λ i b=>?_⟩
  .have:=lD.2 hm
   grind
  grind
def GA {A tab:List Nat} {n t:Nat}:∀ {l:List Oper} {k:Nat},X0 A tab n t k l=false->∀ (i:Nat) p,l[i]? =some p->p.dst=some t->(k+i)∈A->cP (cV tab n) (k+i)=true
 | [],_,_,i,p,hi,_,_=>by simp at hi
 | q::r,k,h,i,p,hi,hd,ha=>by
  simp only [X0,Kl] at h;cases i with
  | zero=>
   simp at hi;subst hi;have h1:=h.1;rw [hd] at h1;dsimp only at h1;rw [Nk,Cy,show sL k A=true from lD.2 ha,Cy] at h1
   grind
  | succ i=>
   have:=GA (k:=k+1) h.2 i p (by simp_all) hd (by grind)
   grind
def xT {A:List Nat} {t:Nat}:∀ {l:List Oper} {k:Nat},JM A t k l=false->∀ (i:Nat) p,l[i]? =some p->(k+i)∈A->p.dst≠some t
 | [],_,_,i,p,hi,_=>by simp at hi
 | q::r,k,h,i,p,hi,ha=>by
  simp only [JM,Kl] at h;cases i with
  | zero=>
   simp at hi;subst hi;intro a;have h1:=h.1;rw [a] at h1;dsimp only at h1;rw [Nk,Cy] at h1;have:=lD.2 (show k∈A from ha)
   grind
  | succ i=>exact xT (k:=k+1) h.2 i p (by simp_all) (by grind)
def VK {A:List Nat} {t:Nat}:∀ {l:List Oper} {k:Nat},JM A t k l=true->∃ (i:Nat) (p:Oper),l[i]? =some p/\(k+i)∈A/\p.dst=some t
 | [],_,h=>by cases h
 | q::r,k,h=>by
  simp only [JM,Fc] at h;rcases h with h | h
  .split at h
   .rename_i d a;rw [Ad,lD,Nat.beq_eq] at h;exact ⟨0,q,rfl,h.2,by rw [a,h.1]⟩
   .cases h
  .obtain ⟨i,p,h1,b,h3⟩:=VK h;exact ⟨i+1,p,by simp_all,by grind,h3⟩
def MU {E:Env} {A tab:List Nat} {all:List Oper} {fr:List (Nat×aa)} {ac:List ab}:∀ {U:List Nat},vP E A tab all fr ac U->∀ i∈U,∃ p d,all[i]? =some p/\p.guard=none/\p.dst=some d/\
  eop E (eW E p.dst) (aM ac) (aC ac) (evP A tab all i fr) p.op p.type= .val (aX fr d)
 | [],_,i,a=>by cases a
 | j::r,h,i,a=>by
  rcases Bb.1 a with rfl | a
  .have h1:=h.1;split at h1
   .rename_i p hp;split at h1
    .rename_i b;split at h1
     .rename_i d c;exact ⟨p,d,kY hp,b,c,h1⟩
     grind
    grind
   grind
  .exact MU h.2 i a
def G3 {tab:List Nat} {n i:Nat}:∀ {U:List Nat},i∈U->cP (cV tab n) i=false->i∈wJ tab n U
 | [],h,_=>by cases h
 | j::r,h,ht=>by
  unfold wJ;rcases Bb.1 h with rfl | h
  .grind
  .have:=G3 h ht
   grind
def ZZ {E:Env} {A tab:List Nat} {all:List Oper} {K:List (Nat×aa)->List ab->Prop} {Kp:(Nat->aa)->aa->List ab->Prop} {F a U:List Nat} {fr:List (Nat×aa)} {ac:List ab} (h:BF E A tab all K Kp F a U fr ac):vP E A tab all fr ac U:=by
 cases F with
 | nil=>exact h.1
 | cons n r=>exact h.1
def GG {tab:List Nat} {n j:Nat} (a:cP (cV tab n) j=true):∀ {l:List Nat},j∈l->qW tab n l=false
 | k::r,h=>by
  unfold qW;rcases Bb.1 h with e | h
  .grind
  .rw [GG a h,Db]
def KO {E:Env} {A tab:List Nat} {all:List Oper} {K:List (Nat×aa)->List ab->Prop} {Kp:(Nat->aa)->aa->List ab->Prop}:∀ {B U:List Nat} {fr:List (Nat×aa)} {ac:List ab},chB tab B=true->R0 E A tab all K Kp B U fr ac->BF E A tab all K Kp B B U fr ac
 | [],_,_,_,_,h=>h
 | n::r,U,fr,ac,hb,h=>by
  simp only [chB,Ad,Cq] at hb;refine ⟨h.1,?_⟩
  have rest:wI tab (n::r) (λ a=>match nth all a with
   | none=>False
   | some p=>(match p.guard with
    | some _=>False
    | none=>orF E.P ac (λ v ap=>KD 5 v λ v=>ODL ap λ ap=>TT fr p.dst v λ fr=>BF E A tab all K Kp r (LH a (n::r)) (wJ tab a U) fr ap) (Kp (gP A all fr))
      (eop E (eW E p.dst) (aM ac) (aC ac) (evP A tab all a fr) p.op p.type))) r:=DT λ j b=>GG (hb.1 j b) (Ap ..)
  unfold wI;cases qW tab n (n::r) with
  | false=>exact rest
  | true=>
   refine ⟨?_,rest⟩;have h:=h.2;split at h
   .exact h.elim
   .rename_i p hp;split at h
    .exact h.elim
    .rename_i c
     try rw [c]
     try dsimp only
     refine jP (λ v o h=>?_) h;rw [mR,rJ,LS] at h⊢;have e:LH n (n::r)=r:=by unfold LH;simp
     rw [e];exact KO hb.2 h
section
variable {rd:Option Nat} {M0:Imm} {ob0:Hs} {aq:List ab} {w0:World} {sz:Nat} {dfs:List (Nat×List aa)} {E:Env} {ops:Array Oper} {Q:Exit->Act->World->Prop} {K:List (Nat×aa)->List ab->Prop} {Kp:(Nat->aa)->aa->List ab->Prop} {A tab:List Nat}
def SM (M0:Imm) (ob0:Hs) (aq:List ab) (w0:World) (sz:Nat) (dfs:List (Nat×List aa)) (ops:Array Oper) (b:List Nat) (fr:List (Nat×aa)) (ac:List ab) (a:Act) (w:World):Prop:=
 ∃ M ob,Ext M0 ob0 aq w0 M ob ac w/\Mem M ob ac w/\(∀ t,(∀ i∈b,∀ p,ops[i]? =some p->p.dst≠some t)->Rep M ob (a.tmps.getD t undef) (aX fr t))/\a.tmps.size=sz/\cS w0 w M ob a.defers dfs/\ob0.length<=ac.length
def KJ {a:Array Bool} {j:Nat} (h:j∈Dz .any ops a) (e:a.size=ops.size):j<ops.size/\a.getD j false=false:=by obtain ⟨c,q,d,_⟩:=mem_ready.1 h;have b:=(Ez.1 d).1;rw [Bj,Ha o_] at c⊢;exact ⟨b,by simpa using c⟩
def tF (c:TabSp ops tab) {a:Array Bool} (b:a.size=ops.size):∀ (n j:Nat),j<n->j<ops.size->a.getD j false=false->Dz .any ops a≠[]
 | 0,j,h,_,_=>by omega
 | n+1,j,h,hj,hl=>λ g=>by
  obtain ⟨p,hp⟩:∃ p,ops[j]? =some p:=⟨ops[j],Ha hj⟩
  have:j∈Dz .any ops a:=mem_ready.2 ⟨by
   grind,p,hp,λ e d k=>by
    have i:=c.back j p hp e d k;cases f:a.getD e.on false with
    | true=>rfl
    | false=>exact absurd g (tF c b n e.on o_ o_ f)⟩
  grind
def XH (hE:ae E) (ht:TabSp ops tab) (hd:∀ (i:Nat) p,ops[i]? =some p->∀ d,p.dst=some d->d<sz)
  (hp:∀ g v ac ch a w,Kp g v ac->PP M0 ob0 aq w0 sz dfs g v ac ch a w->Q (.panic ch) a w) (hq:∀ fr ac a w,K fr ac->SS M0 ob0 aq w0 sz dfs fr ac a w->Q .normal a w):
  ∀ (H:Nat) (b:Array Bool) (F m z U:List Nat) (fr:List (Nat×aa)) (ac:List ab) (a:Act) (w:World),F.length=m.length->H=m.length+z.length->b.size=ops.size->nB tab b->
   (∀ i,i<ops.size->(b.getD i false=false↔i∈m\/i∈z))->(m++z).Nodup->(∀ i∈m,i<ops.size)->(∀ i∈z,i∈A/\i∈U/\i<ops.size)->
   BF E A tab ops.toList K Kp F m U fr ac->SM M0 ob0 aq w0 sz dfs ops z fr ac a w->wpAnyIn (fen rd) 0 E.P .any ops Q H b a w:=by
 intro H;induction H with
 | zero=>
  intro b F m z U fr ac a w hF hf V hc k B R D h hs;have e1:m=[]:=Ax o_;have e2:z=[]:=Ax o_;subst e1 e2;obtain rfl:=Ax hF;refine ⟨Hu.2 λ j c=>?_,hq fr ac a w h.2 ?_⟩
  .obtain ⟨h1,W⟩:=KJ c V;rcases (k j h1).1 W with q | q<;>cases q
  .obtain ⟨M,ob,Y,hm,N,r⟩:=hs;exact ⟨M,ob,Y,hm,λ t=>N t (λ i hi=>absurd hi Ju),r⟩
 | succ H ih=>
  intro b F m z U fr ac a w hF hf V hc k B R D h hs;refine ⟨λ h0=>?_,λ i hi=>?_⟩
  .exfalso;cases m with
   | cons n r=>
    have hn:=R n (Ap ..);exact tF ht V (n+1) n o_ hn ((k n hn).2 (.inl (Ap ..))) h0
   | nil=>
    cases z with
    | nil=>simp at hf
    | cons n r=>
     have hn:=(D n (Ap ..)).2.2;exact tF ht V (n+1) n o_ hn ((k n hn).2 (.inr (Ap ..))) h0
  .obtain ⟨hilt,hil⟩:=KJ hi V;obtain ⟨hc',T⟩:=hc.step ht hi;obtain ⟨M,ob,Y,hm,N,I,hdf,h0⟩:=hs;have hl:=hm.len;have hev:∀ x,Rep M ob (a.eval x) (evP A tab ops.toList i fr x):=λ x=>by
    cases x with
    | const v=>exact rA v
    | global g=>exact .undef _
    | func f=>exact .func (.func f) [] [] [] [] rfl rfl (λ i v a h=>by simp at h) (λ i v a h=>by simp at h)
    | tmp t=>
     show Rep M ob _ (bif X0 A tab i t 0 ops.toList then .undef else aX fr t);cases hh:X0 A tab i t 0 ops.toList with
     | true=>exact .undef _
     | false=>
      refine N t λ j c p hp s=>?_;have h1:=GA hh j p q_ s (by rw [Bo];exact (D j c).1);rw [Bo] at h1;have W:=T j h1;rw [(k j (D j c).2.2).2 (.inr c)] at W;cases W
   have L:∀ (Bs' UA':List Nat),(∀ j,(j∈Bs'\/j∈UA')↔(j∈m\/j∈z)/\j≠i)->∀ j,j<ops.size->((b.setIfInBounds i true).getD j false=false↔j∈Bs'\/j∈UA'):=λ Bs' UA' he j c=>by
    rw [he j];by_cases e:j=i
    .subst e;simp;omega
    .rw [getD_set_ne false (Em e),k j c];simp [e]
   have hsz':(b.setIfInBounds i true).size=ops.size:=by simp;omega
   rcases (k i hilt).1 hil with hB | hA
   .-- one of the row
    cases F with
    | nil=>rw [Ax hF.symm] at hB;cases hB
    | cons n0 F=>
     have hfree:qW tab i m=true:=NJ λ j c=>by
      cases hq2:cP (cV tab i) j with
      | false=>rfl
      | true=>
       have W:=T j hq2;rw [(k j (R j c)).2 (.inl c)] at W;cases W
     obtain ⟨hok,h⟩:=h;have h:=DU hfree h hB;split at h
     .exact h.elim
     .rename_i p hnp;have J:ops[i]? =some p:=by simpa using kY hnp
      split at h
      .exact h.elim
      .rename_i hg
       have h:orF E.P ac (λ v ap=>BF E A tab ops.toList K Kp F (LH i m) (wJ tab i U) (kW fr p.dst v) ap) (Kp (gP A ops.toList fr)) (eop E (eW E p.dst) (aM ac) (aC ac) (evP A tab ops.toList i fr) p.op p.type):=
        jP (λ v o h=>by rw [mR,rJ,LS] at h;exact h) h
       have hw:Fe p (yielded ops a.tmps)=true:=by unfold Fe;rw [hg]
       unfold wpOpIn;rw [J];dsimp only;rw [if_pos hw];refine (AJ hE hm hev h).wpIn (mK h) (λ u w' ⟨M',ob',L',G,x2,x3⟩=>?_) (λ ch w' ⟨M',ob',L',G,x2,x3⟩=>?_)
       .rcases x3 with ⟨u',v,e,hr,hk⟩ | ⟨ch,v,e,_⟩
        .cases e;have:=G.lens;have:=x2.len;have Z:m.Nodup:=(Bz.1 B).1;have l:∀ j,j∈m.erase i↔j≠i/\j∈m:=λ j=>Z.mem_erase_iff;have hlen:(m.erase i).length+1=m.length:=by rw [Lw hB];have:=Mo hB;omega
         have O:i∉z:=λ hb=>(Bz.1 B).2.2 i hB i hb rfl;rw [TP] at hk
         refine ih (b.setIfInBounds i true) F (m.erase i) z (wJ tab i U) _ L' _ w' (by simp at hF;omega) o_ hsz' hc' (L (m.erase i) z λ j=>?_) ?_ (λ j c=>R j ((l j).1 c).2) (λ j c=>?_) hk
          ⟨M',ob',Y.trans G,x2,λ t hmt=>?_,(eJ _ _ _).1.trans I,(hdf.ext hm G).put,by omega⟩
         .rw [l j];constructor
          .rintro (⟨C,c⟩ | c)
           .exact ⟨.inl c,C⟩
           .exact ⟨.inr c,λ e=>O (e▸c)⟩
          .rintro ⟨c | c,C⟩
           .exact .inl ⟨C,c⟩
           .exact .inr c
         .refine Bz.2 ⟨Z.erase i,(Bz.1 B).2.1,λ x Y y hy=>?_⟩;exact (Bz.1 B).2.2 x ((l x).1 Y).2 y hy
         .obtain ⟨k1,k2,k3⟩:=D j c;refine ⟨k1,G3 k2 ?_,k3⟩;cases hq2:cP (cV tab i) j with
          | false=>rfl
          | true=>
           have W:=T j hq2;rw [(k j k3).2 (.inr c)] at W;cases W
         .rw [eK];unfold iS;by_cases s:p.dst=some t
          .rw [if_pos s];have hlt:t<a.tmps.size:=I▸hd i p J t s;rw [s];simp only [Act.put];rw [Bj,Ep hlt];exact hr
          .rw [if_neg s];have hold:=(N t hmt).mono G.imm G.hs;cases S:p.dst with
           | none=>exact hold
           | some d=>
            have C:d≠t:=λ e=>s (by rw [S,e]);simp only [Act.put];rw [Bj,Eu C,<-Bj];exact hold
        .cases e
       .rcases x3 with ⟨u',v,e,_⟩ | ⟨ch',v,e,hr,hk⟩
        .cases e
        .cases e;have:=G.lens;have:=x2.len;refine hp _ v L' ch a w' hk ⟨M',ob',Y.trans G,x2,hr,λ t=>?_,I,hdf.ext hm G,by omega⟩;unfold gP;cases hda:JM A t 0 ops.toList with
         | true=>exact .undef _
         | false=>
          exact (N t λ j c q X=>xT hda j q q_ (by rw [Bo];exact (D j c).1)).mono G.imm G.hs
   .-- one that looks
    obtain ⟨k1,k2,k3⟩:=D i hA;obtain ⟨p,d,J,hg,S,hev2⟩:=MU (ZZ h) i k2;have J:ops[i]? =some p:=by simpa using J
    have hor:orF E.P ac (λ v ap=>v=aX fr d/\ap=ac) (λ_ _=>False) (eop E (eW E p.dst) (aM ac) (aC ac) (evP A tab ops.toList i fr) p.op p.type):=by rw [hev2];exact ⟨rfl,rfl⟩
    have hw:Fe p (yielded ops a.tmps)=true:=by unfold Fe;rw [hg]
    unfold wpOpIn;rw [J];dsimp only;rw [if_pos hw];refine (AJ hE hm hev hor).wpIn (mK hor) (λ u w' ⟨M',ob',L',G,x2,x3⟩=>?_) (λ ch w' ⟨M',ob',L',G,x2,x3⟩=>?_)
    .rcases x3 with ⟨u',v,e,hr,hk1,hk2⟩ | ⟨ch,v,e,_⟩
     .cases e;subst hk1 hk2;have hlt:d<a.tmps.size:=I▸hd i p J d S;have hnod:z.Nodup:=(Bz.1 B).2.1;have l:∀ j,j∈z.erase i↔j≠i/\j∈z:=λ j=>hnod.mem_erase_iff;have hlen:(z.erase i).length+1=z.length:=by rw [Lw hA];have:=Mo hA;omega
      have O:i∉m:=λ hb=>(Bz.1 B).2.2 i hb i hA rfl
      refine ih (b.setIfInBounds i true) F m (z.erase i) U fr L' _ w' hF o_ hsz' hc' (L m (z.erase i) λ j=>?_) ?_ R (λ j c=>D j ((l j).1 c).2) h
       ⟨M',ob',Y.trans G,x2,λ t hmt=>?_,(eJ _ _ _).1.trans I,(hdf.ext hm G).put,h0⟩
      .rw [l j];constructor
       .rintro (c | ⟨C,c⟩)
        .exact ⟨.inl c,λ e=>O (e▸c)⟩
        .exact ⟨.inr c,C⟩
       .rintro ⟨c | c,C⟩
        .exact .inl c
        .exact .inr ⟨C,c⟩
      .refine Bz.2 ⟨(Bz.1 B).1,hnod.erase i,λ x Y y hy=>?_⟩;exact (Bz.1 B).2.2 x Y y ((l y).1 hy).2
      .rw [S];simp only [Act.put];by_cases s:d=t
       .subst s;rw [Bj,Ep hlt];exact hr
       .rw [Bj,Eu s,<-Bj];refine (N t λ j c q X=>?_).mono G.imm G.hs;by_cases hji:j=i
        .subst hji;rw [J] at X;cases X;rw [S];simp;omega
        .exact hmt j ((l j).2 ⟨hji,c⟩) q X
     .cases e
    .rcases x3 with ⟨u',v,e,_⟩ | ⟨ch',v,e,hr,hk⟩
     .cases e
     .exact hk.elim
def BA {all:List Oper} {ac:List ab}:∀ {l:List Nat} {fr:List (Nat×aa)} {k:List (Nat×aa)->Prop},yL E A tab all ac l fr k->(∀ i∈l,i∈A)->∃ a,k a/\∀ t,JM A t 0 all=false->aX a t=aX fr t
 | [],fr,k,h,_=>⟨fr,h,λ t _=>rfl⟩
 | i::r,fr,k,h,hA=>by
  unfold yL at h;split at h
  .rename_i p hp;split at h
   .rename_i d g;split at h
    .rename_i v f;rw [mR,mD] at h;obtain ⟨a,h1,e⟩:=BA h λ j c=>hA j (Bd _ c);refine ⟨a,h1,λ t b=>?_⟩;rw [e t b,sA];have:=xT b i p (by simpa using kY hp) (by grind)
     grind
    grind
   grind
  grind
end
def To.permT {E:Env} {fn:Func} {g:Goal} (hE:ae E) (A B:List Nat) {id:Nat} {ops:Array Oper} {ks:List KI} {fr:List (Nat×aa)} {ac:List ab} (hst:aH4 A B (iN [] ops.toList) ops.size=true)
  (h:yL E A (iN [] ops.toList) ops.toList ac A fr λ fr=>BF E A (iN [] ops.toList) ops.toList (λ fr ac=>To E fn g (.code ks fr ac)) (jU E fn g) B B A fr ac):To E fn g (.code (.code (.region id ops true)::ks) fr ac):=
 .mk λ J M0 ob0 aq w0 a w f hs=>by
  simp only [bC,KI.ok,dC,Ad] at J;obtain ⟨⟨D,X⟩,x⟩:=J;have Z:=oB D
  refine KW.code (Q':=QR E fn g M0 ob0 aq w0 ks) ?_ (λ a w h=>h) (λ n a w h=>h) (λ e a w V=>by cases e<;>first | exact .inl rfl | exact .inr ⟨_,rfl⟩ | exact V.elim)
  have m:∀ q v ac n a w,jU E fn g q v ac->PP M0 ob0 aq w0 fn.ntmps E.df q v ac n a w->pI E fn M0 ob0 aq w0 g (.panic n) a w:=λ q v ac n a w L m=>AT L f m;have u:∀ fr ac a w,To E fn g (.code ks fr ac)->SS M0 ob0 aq w0 fn.ntmps E.df fr ac a w->KW E.rd E.P (pI E fn M0 ob0 aq w0 g) ks a w:=λ fr ac a w C hs=>C.rec λ C=>C x M0 ob0 aq w0 a w f hs;have R:TabSp ops (iN [] ops.toList):=BT ops (by grind);refine wpIn_region_any hE.mix ?_;simp only [aH4,Ad] at hst;obtain ⟨S,O⟩:=hst;obtain ⟨T,F⟩:=FT S;have K:=HB O;obtain ⟨G,h1,o⟩:=BA h λ i b=>b;have l:(B++A).Nodup:=List.perm_append_comm.nodup_iff.1 T;have c:ops.size=B.length+A.length:=by
   have I:(B++A).length<=ops.size:=by
    have:=(l.sublist (Lo _))
    have h3:(B++A).Subset (Di ops.size):=λ i b=>Hn.2 (F i (by rw [Az] at b⊢;exact b.symm));have:=l.length_le_of_subset h3;simpa using this
   have s:ops.size<=(B++A).length:=by
    have h3:(Di ops.size).Subset (B++A):=λ i b=>by rw [Az];exact (K i (Hn.1 b)).symm
    have:=List.nodup_range.length_le_of_subset h3;simpa using this
   simp at I s;omega
  obtain ⟨M,ob,hx,hm,W,Y⟩:=hs.draw;have k:∀ i,i<ops.size->(Fz ops.size false).getD i false=false:=λ i b=>by rw [Bj,Ha q_];simp
  refine XH (Q:=QR E fn g M0 ob0 aq w0 ks) hE R (λ i p b d H=>Z p (Au (i:=i) q_) d H) (λ q v ac n a w h1 o=>m q v ac n a w h1 o) (λ fr ac a w h1 o=>u fr ac a w h1 o) ops.size _ B B A A G ac a _ rfl c s_ (λ j i r _=>?_)
   (λ i b=>⟨λ_=>(K i b).symm,λ_=>k i b⟩) l (λ i b=>F i (Cu _ b)) (λ i b=>⟨b,b,F i (Dd _ b)⟩) h1 ⟨M,ob,hx,hm,λ t y=>?_,Y⟩
  .by_cases N:j<ops.size
   .rw [k j N] at r;cases r
   .rw [Bj,Mk q_] at r;cases r
  .rw [o t ?_]
   .exact W t
   .cases z:JM A t 0 ops.toList with
    | false=>rfl
    | true=>
     obtain ⟨i,p,I,s,U⟩:=VK z;rw [Bo] at s;exact absurd U (y i s p (by simpa using I))
def BB {E:Env} {A tab:List Nat} {all:List Oper} {ac:List ab} {k b:List (Nat×aa)->Prop} (a:∀ fr,k fr->b fr):∀ {l:List Nat} {fr:List (Nat×aa)},yL E A tab all ac l fr k->yL E A tab all ac l fr b
 | [],fr,h=>a fr h
 | i::r,fr,h=>by
  unfold yL at h⊢;split at h
  .rename_i p hp;split at h
   .rename_i d e;split at h
    .rename_i v c;simp only [e,c,mR,mD] at h⊢;exact BB a h
    omega
   omega
  omega
def To.permAt {E:Env} {fn:Func} {g:Goal} (hE:ae E) (A B:List Nat) {id:Nat} {ops:Array Oper} {ks:List KI} {fr:List (Nat×aa)} {ac:List ab} (hst:aH8 A B (iN [] ops.toList) ops.size=true)
  (h:yL E A (iN [] ops.toList) ops.toList ac A fr λ fr=>R0 E A (iN [] ops.toList) ops.toList (λ fr ac=>To E fn g (.code ks fr ac)) (jU E fn g) B A fr ac):To E fn g (.code (.code (.region id ops true)::ks) fr ac):=by
 unfold aH8 at hst;rw [Ad] at hst;exact To.permT hE A B hst.1 (BB (λ fr h=>KO hst.2 h) h)
def aY {p q:Prop} (h:p):(true=true->p)/\(true=false->q):=⟨λ_=>h,λ h=>absurd h d_⟩
def aN {p q:Prop} (h:q):(false=true->p)/\(false=false->q):=⟨λ h=>absurd h d_,λ_=>h⟩
def aT {a p q:Prop} [Decidable a] (h:decide a=true->p) (b:a:=by omega):(decide a=true->p)/\(decide a=false->q):=⟨h,λ h=>absurd b (of_decide_eq_false h)⟩
def aF {a p q:Prop} [Decidable a] (h:decide a=false->q) (b:¬ a:=by omega):(decide a=true->p)/\(decide a=false->q):=⟨λ h=>absurd (of_decide_eq_true h) b,h⟩
def aD {p q:Prop} (h:q) (hp:p:=by first | decide | omega):p/\q:=⟨hp,h⟩
def aL {p q:Prop} (h:q) (hp:p:=by repeat (first | exact trivial | refine Ac rfl ?_)):p/\q:=⟨hp,h⟩
def aJ {k:IntKind} {n:Int} {p q:Prop} (h:p) (h1:cJ k<=n:=by simp only [cJ];omega) (a:n<=bE k:=by simp only [bE];omega):(inR k n/\p)\/q:=.inl ⟨⟨h1,a⟩,h⟩
def gW {E:Env} {fn:Func} {g:Goal} {st:St} (hE:ae E) (h:bS E fn g (To E fn g) 100 st):To E fn g st:=cO hE 100 h
def gN {E:Env} {fn:Func} {g:Goal} {st:St} (hE:ae E) (h:bS E fn g (To E fn g) 100 st) (hs:T3 st=true:=by rfl):To E fn g st:=goN hE 100 hs h
def cT {E:Env} {f:FuncId} {fn:Func} {args:List aa} {ac:List ab} {g:Goal} (h:okL args->To E fn g (.code [.code (dG fn)] (frA 0 args) ac)) (b:E.df=[]:=by rfl) (l:E.P.funcs[f]? =some fn:=by rfl) (k:fn.body=some (dG fn):=by rfl)
  (d:nC E.P f:=by exact λ_ _=>by rfl) (e:dC fn.ntmps (dG fn)=true:=by decide+kernel) (i:Fw args.length fn.ntmps=true:=by rfl) (a:tC ac=true:=by rfl) (j:ac.length=g.n0:=by rfl) (c:E.rd=none:=by rfl):aA E.P f args ac g.res g.obs:=
 aA.to b l k d e i a j h c
def CM (z:aa):OR->Prop
 | .val v=>v=z
 | .need p r=>p/\CM z r
 | .idx n f=>∃ i:Nat,n=(i:Int)/\CM z (f i)
 | .elem xs i f=>∃ x,xs[i]? =some x/\CM z (f x)
 | .find es key f=>CM z (f (bR es key))
 | _=>False
def MT (k:aa->Prop):OR->Prop
 | .val v=>k v
 | .need p r=>p/\MT k r
 | .idx n f=>∃ i:Nat,n=(i:Int)/\MT k (f i)
 | .elem xs i f=>∃ x,xs[i]? =some x/\MT k (f x)
 | .find es key f=>∃ o,bR es key=o/\MT k (f o)
 | _=>False
def E4 (E:Env) (A tab:List Nat) (all:List Oper) (ac:List ab):List Nat->List (Nat×aa)->(List (Nat×aa)->Prop)->Prop
 | [],fr,k=>k fr
 | i::r,fr,k=>match nth all i with
  | some p=>(match p.dst with
   | some d=>MT (λ v=>KD 5 v λ v=>BX fr d v λ fr=>E4 E A tab all ac r fr k) (eop E (eW E p.dst) (aM ac) (aC ac) (evP A tab all i fr) p.op p.type)
   | none=>False)
  | none=>False
section
variable {rd:Option Nat} {M0:Imm} {ob0:Hs} {aq:List ab} {w0:World} {sz:Nat} {dfs:List (Nat×List aa)} {E:Env} {ops:Array Oper} {Q:Exit->Act->World->Prop} {K:List (Nat×aa)->List ab->Prop} {Kp:(Nat->aa)->aa->List ab->Prop} {A tab:List Nat}
end
end Go.AW
