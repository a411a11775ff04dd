/- Part 4 of what the statement rests on. -/
import Derived.Test.YtidhfoefaomodaaGreatDoorMWC
set_option linter.all false
open And renaming intro->Ae
open Array renaming getD_eq_getD_getElem?->Bo,getElem?_eq_getElem->Hk,getElem?_eq_none->Mm,getElem?_eq_some_iff->Fi,getElem?_setIfInBounds_ne->Ff,getElem?_setIfInBounds_self_of_lt->Fb,replicate->Gh
open Bool renaming and_eq_true->Af,and_false->Bl,and_true->Em,not_eq_true'->Df,or_eq_false_iff->Ks,or_eq_true->Fl,true_and->Bw
open Go.Builtin renaming append_->Cx
open Go.Region renaming ready->Eh,wanted->Fo
open Go.Value renaming int->Ej
open Go.World renaming block_lt_of_cell?->Cz,cell?->Kt,cell?_of_block->Cy,ownsRow_nil->Hp,putObj_heap_other->Gx,putObj_heap_same->Mp
open List renaming all_eq_true->Cb,drop_eq_getElem_cons->Aa,eq_nil_iff_forall_not_mem->Ib,eq_nil_of_length_eq_zero->Bc,getElem?_append_left->Ah,getElem?_append_right->Al,getElem?_eq_some_iff->Ad,getElem?_map->Bi,getElem?_of_mem->Da,getElem?_set_ne->Bf,getElem?_set_self->Ay,length_erase_of_mem->Ly,length_pos_of_mem->Mq,length_take->Dw,map_append->Bq,mem_append->Bd,mem_append_left->Cf,mem_append_right->Ct,mem_cons->Aw,mem_cons_of_mem->Av,mem_cons_self->Ao,mem_filter->Fm,mem_map->Ce,mem_of_getElem?->Az,mem_range->Hx,mem_singleton->Dp,nodup_append->Cd,nodup_cons->Cl,nodup_nil->Hz,not_mem_nil->Hu,prefix_refl->Cw,range->Du,replicate->Aj,take_append_drop->Bv,take_append_of_le_length->Dm,take_of_length_le->Cn
open List.Sublist renaming refl->Ju
open Nat renaming beq->Ba,beq_refl->Nm,ble->Gd,blt->Fp,blt_eq->Kb,div_one->Iw,le_of_ble_eq_true->Cu,le_refl->Bh,le_trans->Dh,lt_of_lt_of_le->Fh,min_eq_left->Gy,mod_one->Ji,zero_add->Bx
open Ne renaming symm->Fa
open Option renaming map_eq_some_iff->Co
namespace Go.AW
open Go.RowKit
open Classical
def cQ(l:Nat)(R:Loop):BInv where
 inv _ bs w:=bs=[l]/\w.heap[l]? =some (.loop R)
 mono:=λ_ _ hb ⟨h1,h2⟩=>⟨h1,hb _ _ (by rw [h1];simp) h2⟩
def fG(bs:az):P4 (fC bs)=bs:=FX (hs:=[fC bs]) rfl
def kN{hs:ba}{g:Nat}{I:BInv}{k b:Nat}:aM [hs] [.bun g I] k b↔k=0/\b∈blk hs:=by
 constructor
 .rintro ⟨c,hs',a,e,f,d⟩;cases k with
  | zero=>grind
  | succ k=>simp at a
 .rintro ⟨rfl,h⟩;exact ⟨_,hs,rfl,rfl,rfl,h⟩
section
variable {M:Imm} {ob:Hs} {ac:au} {w:World}
def Mem.recAt(h:Mem M ob ac w){k l g:Nat}{R:Loop}(d:ac[k]? =some (.bun g (cQ l R))):∃ hs,ob[k]? =some hs/\hs.length=g+1/\hs[g]? =some (fC [l])/\blk hs=[l]/\w.heap[l]? =some (.loop R):=by obtain ⟨hs,b,hl,bs,a,hd,rfl,c⟩:=h.obj k _ d;exact ⟨hs,b,hl,a,(fF hl a).trans (fG _),c⟩
def Mem.recTurn(h:Mem M ob ac w){k l g:Nat}{R:Loop}(m:ac[k]? =some (.bun g (cQ l R)))(d:Loop):
  Mem M ob (ac.set k (.bun g (cQ l d))) (w.putObj l (.loop d))/\Ext M ob ac w M ob (ac.set k (.bun g (cQ l d))) (w.putObj l (.loop d)):=by
 obtain ⟨hs,q,hl,z,n,p⟩:=h.recAt m;have f:=gL p
 have:=h.turn (M':=M) (w':=w.putObj l (.loop d)) (x':=.bun g (cQ l d)) (hs':=hs) m q (Cw _) (λ e=>by cases e) (λ_ _ _ h=>h) (λ_ _ _ h=>.inl h) (λ c o y t=>by
   obtain ⟨u,i,v,r⟩:=h.imm c o y t;have j:c≠l:=λ e=>by subst e;unfold Kt at i;dsimp only at i;rw [p] at i;cases i
   exact ⟨u,(Cy (w:=w) (a:=⟨c,o,none⟩) (Gx j)).trans i,v,r⟩)
  (λ c _ x=>Gx λ e=>x ⟨rfl,by simp_all⟩) rfl rfl rfl s_ (λ_=>⟨hl,[l],z,λ b n=>by
   rw [Dp.1 n]
   exact ⟨_,Mp f,rfl⟩,rfl,Mp f⟩)
  (λ_ c s=>⟨.inl ⟨rfl,s⟩,by simp_all⟩)
 rw [iM q] at this
 grind
def Mem.drop(h:Mem M ob ac w)(k:Nat):Mem M ob (ac.set k .dead) w/\∀ {i b:Nat},aM ob (ac.set k .dead) i b->aM ob ac i b:=by
 have a:YR (ac.set k .dead) ac:=⟨by simp,λ i=>by
  by_cases c:i=k
  .subst c
   grind
  grind⟩
 exact ⟨h.weak a,λ d=>a.alive d⟩
end
section
variable {E:Env} {fn:Func} {g:Goal}
def To.beginR{l k gg:Nat}{R:Loop}{ks:bh}{fr:ar}{ac:au}(f:E.rd=some l)(s:aB ac k= .bun gg (cQ l R))(u:R.state= .ready)
  (h:To E fn g (.code ks fr (bX ac k (.bun gg (cQ l {R with state:=.busy}))))):To E fn g (.code (.beginR::ks) fr ac):=
 .mk λ j M0 ob0 ap w0 a w hst hs=>by obtain ⟨M,ob,p,hm,i,x,o,y⟩:=hs;have c:=bP s s_;obtain ⟨v,m⟩:=hm.recTurn c {R with state:=.busy};obtain ⟨_,_,_,_,_,d⟩:=hm.recAt c;rw [aU c] at h;have key:=(h.rec (motive:=λ_=>DW E fn g _) λ h=>h) (by simpa [bO,KI.ok] using j) M0 ob0 ap w0 a _ hst ⟨M,ob,p.trans m,v,i,x,o.ext hm m,by simp;omega⟩;intro b cs n;obtain ⟨e,t,w',q,r⟩:=key b cs n;exact ⟨e,t,w',q,.of_steps (.one (mD _ _ _) (stepR_beginRound (n.trans f) (run_beginRound d u))) r⟩
end
def mL(ob0:Hs)(fr:ar)(R:Loop)(L:au):BInv where
 inv M bs w:=∃ ob,dY ob0 ob/\ob.length=L.length/\(∀ (k:Nat) c,L[k]? =some c->∃ hs,ob[k]? =some hs/\jT M ob w hs c)/\(∀ k k' b,aM ob L k b->aM ob L k' b->k=k')/\
  (∀ b,b∈bs↔ ∃ k,aM ob L k b)/\∀ t,Rep M ob (R.tmps.getD t undef) (bG fr t)
 mono:=λ hM hn hb ⟨ob,h1,h2,h3,h4,h5,h6⟩=>⟨ob,h1,h2,λ k c hc=>by
  obtain ⟨hs,hh,hok⟩:=h3 k c hc
  exact ⟨hs,hh,hok.mono hM (dY.refl _) (λ b p1 p2=>hn b ((h5 b).2 ⟨k,(dG hc hh).2 ⟨p1,p2⟩⟩)) (λ b c' p1 p2=>hb b c' ((h5 b).2 ⟨k,(dG hc hh).2 ⟨p1,p2⟩⟩))⟩,h4,h5,λ t=>(h6 t).monoM hM⟩
def Mem.unpack{M:Imm}{ob:Hs}{ac:au}{w:World}{k g:Nat}{ob0:Hs}{fr:ar}{R:Loop}{L:au}(hm:Mem M ob ac w)(f:ac[k]? =some (.bun g (mL ob0 fr R L))):
  ∃ hs a,ob[k]? =some hs/\hs.length=g+1/\dY ob0 a/\Mem M a L w/\(∀ b,b∈blk hs↔ ∃ k,aM a L k b)/\∀ t,Rep M a (R.tmps.getD t undef) (bG fr t):=by
 obtain ⟨hs,m,hl,bs,h,hd,a,h1,l,h3,e,c,d⟩:=hm.obj k _ f;have j:blk hs=bs:=(fF hl h).trans (fG _);refine ⟨hs,a,m,hl,h1,⟨hm.imm,l,h3,λ i b n=>?_,e⟩,λ b=>by rw [j];exact c b,d⟩;obtain ⟨o,q,_⟩:=hd b ((c b).2 ⟨i,n⟩);exact gL q
def Mem.pack{M:Imm}{a:Hs}{L:au}{w:World}{ob0:Hs}{fr:ar}{R:Loop}(hm:Mem M a L w)(d:dY ob0 a)(e:∀ t,Rep M a (R.tmps.getD t undef) (bG fr t)):
  ∃ bs,(∀ b,b∈bs↔ ∃ k,aM a L k b)/\∀ (ob:Hs) (hs:ba),jT M ob w (hs++[fC bs]) (.bun hs.length (mL ob0 fr R L)):=by
 let bs:=(Du w.heap.size).filter λ b=>decide (∃ k,aM a L k b)
 have c:∀ b,b∈bs↔ ∃ k,aM a L k b:=λ b=>by simp only [bs,Fm,Hx,decide_eq_true_eq];exact ⟨λ h=>h.2,λ⟨k,h⟩=>⟨hm.lt k b h,k,h⟩⟩
 refine ⟨bs,c,λ ob hs=>⟨by simp,bs,by simp,λ b f=>?_,a,d,hm.len,hm.obj,hm.inj,c,e⟩⟩;obtain ⟨k,g⟩:=(c b).1 f;exact hm.alive_heap g
def sI(hs:ba)(v:Value):blk (hs++[v])=P4 v:=by unfold blk;simp
def aEs{M:Imm}{ob:Hs}{tmps:Array Value}{fr:ar}{p:Nat}{v:Value}{x:aa}(h:∀ t,Rep M ob (tmps.getD t undef) (bG fr t))(b:Rep M ob v x)(hp:p<tmps.size):
  ∀ t,Rep M ob ((tmps.setIfInBounds p v).getD t undef) (bG (kC fr p x) t):=by
 intro t;have:=oN (a:={tmps:=tmps,defers:=[]}) (d:=some p) h b (λ c e=>by grind) t;rw [show bG (kC fr p x) t=lW (bG fr) (some p) x t from congrFun (fT fr (some p) x) t];exact this
def oD(R:Loop)(b:Bool):Loop:=if b then R else {R with state:=.done,pending:=some .ret}
def aBN{R:Loop}(h1:R.state= .ready)(h:R.pending=none):({{R with state:=.busy} with state:=if (none:Option Code).isNone then .ready else .done,pending:=none}:Loop)=oD R true:=by obtain ⟨a,b,c,d,e,f,g,i⟩:=R;have h1:a= .ready:=h1;have h:b=none:=h;subst h1 h;rfl
def jN{E:Env}{fn:Func}{ob0:Hs}{l k n p gg:Nat}{R:Loop}{as D:Code}{fr:ar}{L L':au}{x:Int}{b:Bool}(O:R.params= #[p])(Q:R.state= .ready)(hpe:R.pending=none)(has:R.assign=as)(hbd:R.body=D)(Y:R.tmps.size=fn.ntmps)
  (hp:Fp p fn.ntmps=true) (hdf:E.df=[]) (hco:(dU fn.ntmps as&&dU fn.ntmps D)=true) (hk:aB L k= .bun gg (cQ l R)) (hn:L.length=n) (hn':L'.length=n) (Z:aB L' k= .bun gg (cQ l {R with state:=.busy}))
  (h:inR .i64 x->To {E with rd:=some l} fn (.keep n (.ret (.bool b)) L') (.code [.code as,.beginR,.code D] (kC fr p (.int .i64 x)) L)):
  bT E.P (.yield l) [.int .i64 x] [.bun 0 (mL ob0 fr R L)] (.ret (.bool b)) [.bun 1 (mL ob0 fr R (L'.set k (.bun gg (cQ l (oD R b)))))]:=by
 intro M ob w m hm hr;obtain ⟨hs,f,W,hl,hle,s,C,U⟩:=hm.unpack (k:=0) rfl;have hob:ob=[hs]:=by
  have:=hm.len
  match ob,this,W with
  | [y],_,W=>simp at W;rw [W]
 subst hob;obtain ⟨v,rfl⟩:∃ v,m=[v]:=by
  have:=hr.1
  match m,this with
  | [v],_=>simp
 have hv:Rep M [hs] v (.int .i64 x):=hr.2 0 v _ rfl rfl;obtain ⟨rfl,V⟩:=hv.int_inv;obtain ⟨_,_,_,_,_,G⟩:=s.recAt (bP hk s_);have hpl:p<R.tmps.size:=by rw [Y];simpa [Kb] using hp
 have H:(R.params.zip #[Ej .i64 x]).foldl (λ tmps (t,a)=>tmps.setIfInBounds t a) R.tmps=R.tmps.setIfInBounds p (.int .i64 x):=by rw [O];simp
 refine ⟨R.fn,R.tmps.setIfInBounds p (.int .i64 x),as,D,?_,trivial,λ c cs _=>?_⟩
 .have:=run_yield (P:=E.P) (args:= #[Ej .i64 x]) G (by rw [O];rfl);rw [H,has,hbd] at this;exact this
 let b0:Frame:={(default:Frame) with fn:=R.fn,kind:=.normal,roundOf:=some l}
 let a0:Act:={tmps:=R.tmps.setIfInBounds p (.int .i64 x),defers:=[]}
 have hb0:Frame.round l R.fn (R.tmps.setIfInBounds p (.int .i64 x)) as D .normal=b0.atR a0 (jR [.code as,.beginR,.code D]):=by rfl
 rw [hb0]
 have hst:uG (.keep n (.ret (.bool b)) L') f:=⟨by rw [s.len];exact hn,λ h=>by cases h⟩
 have hok:bO fn.ntmps [.code as,.beginR,.code D]=true:=by simp only [bO,KI.ok,Em,Bw];omega
 obtain ⟨h0⟩:=h V;obtain ⟨e,a',w',K,B⟩:=h0 hok M f L w a0 w hst ⟨M,f,Ext.refl _ _ _ _,s,aEs U (.int _ _ V) hpl,by show (R.tmps.setIfInBounds p _).size=_;simp;omega,by show dK w w M f [] E.df;rw [hdf];exact .nil,by rw [s.len];omega⟩ b0 (c::cs) rfl
 -- eM the body
 have fin:∀ {r:Bool} {w':World} {st:LoopState} {jump:Option Code},(jump.isNone=r)->({{R with state:=.busy} with state:=if jump.isNone then .ready else .done,pending:=jump}:Loop)=oD R r->RR M f L w (.keep n (.ret (.bool b)) L') (.returned (.bool r)) w'->
   r=b/\∃ I,(Instr.endRound l jump).run E.P w'= .ok (.bool r) I/\∃ M' ob',Ext M [hs] [.bun 0 (mL ob0 fr R L)] w M' ob' [.bun 1 (mL ob0 fr R (L'.set k (.bun gg (cQ l (oD R b)))))] I/\Mem M' ob' [.bun 1 (mL ob0 fr R (L'.set k (.bun gg (cQ l (oD R b)))))] I:=by
  intro r w' st jump S hR ⟨M',g,F,A,x3⟩;have e:r=b:=by have:=Rep.bool_inv (M:=M') (ob:=g) (b:=b) x3;simpa using this
  subst e;refine ⟨rfl,?_⟩;have A:Mem M' g L' w':=A;have F:Ext M f L w M' g L' w':=F;have T:=bP Z s_;obtain ⟨_,_,_,_,_,u⟩:=A.recAt T;obtain ⟨m1,m2⟩:=A.recTurn T (oD R r);have d:=run_endRound (P:=E.P) jump u;rw [hR,S] at d;refine ⟨_,d,M',?_⟩;have X:=F.trans m2;obtain ⟨bs,N,hpk⟩:=m1.pack (fr:=fr) (R:=R) (hle.trans X.hs) λ t=>(U t).mono X.imm X.hs;have hal':∀ {k b},aM [hs++[fC bs]] [.bun 1 (mL ob0 fr R (L'.set k (.bun gg (cQ l (oD R r)))))] k b->b∈bs:=λ{k b} z=>by have:=(kN.1 z).2;rwa [sI,fG] at this
  have h1:hs.length=1:=hl;refine ⟨[hs++[fC bs]],⟨X.imm,λ b o y hy=>?_,λ i hs' hi=>?_,X.os,X.tape,X.output,X.size,λ b J hn=>X.keep b J λ i z=>hn 0 (kN.2 ⟨rfl,(C b).2 ⟨i,z⟩⟩),λ i b z=>?_⟩,⟨m1.imm,rfl,λ i c hc=>?_,λ i b z=>?_,λ i j b z J=>?_⟩⟩
  .rcases X.new b o y hy with q | q | q
   .exact .inl q
   .omega
   .exact .inr (.inr ⟨0,kN.2 ⟨rfl,(C b).2 q⟩⟩)
  .cases i with
   | zero=>simp at hi;subst hi;simp
   | succ i=>simp at hi
  .have J:b∈bs:=by have:=(kN.1 z).2;rwa [sI,fG] at this
   obtain ⟨j,S⟩:=(N b).1 J;rcases X.fresh j b S with q | q
   .exact .inl ⟨0,kN.2 ⟨rfl,(C b).2 q⟩⟩
   omega
  .cases i with
   | zero=>
    simp at hc;subst hc;refine ⟨_,rfl,?_⟩;have:=hpk [hs++[fC bs]] hs;rwa [h1] at this
   | succ i=>simp at hc
  .have J:b∈bs:=by have:=(kN.1 z).2;rwa [sI,fG] at this
   obtain ⟨j,S⟩:=(N b).1 J;exact m1.lt j b S
  .rw [(kN.1 z).1,(kN.1 J).1]
 cases e with
 | normal=>
  obtain ⟨rfl,I,d,M',ob',F,A⟩:=fin (st:=.ready) (jump:=none) rfl (aBN Q hpe) K;exact ⟨.returned (.bool true),I,⟨M',ob',F,A,.bool _⟩,StepsIn.trans B (.one (mD _ _ _) (stepR_round_end rfl rfl d))⟩
 | ret=>
  obtain ⟨rfl,I,d,M',ob',F,A⟩:=fin (st:=.ready) (jump:=some .ret) rfl rfl K;obtain ⟨k₁,hs'⟩:=B.2 rfl;exact ⟨.returned (.bool false),I,⟨M',ob',F,A,.bool _⟩,StepsIn.trans hs' (.one (mD _ _ _) (stepR_round_ret rfl rfl d))⟩
 | panic ch=>exact K.elim
 | exit id=>exact K.elim
 | goto t=>exact K.elim
 | outgrown=>exact K.elim
def RF:Code->Option (Code×Code)
 | .rangeFunc _ _ as c=>some (as,c)
 | .seq a b=>(match RF a with | some x=>some x | none=>RF b)
 | .cond _ a b=>(match RF a with | some x=>some x | none=>RF b)
 | .block _ b=>RF b
 | .loop b=>RF b
 | _=>none
def rfA(fn:Func):Code:=match RF (eK fn) with | some p=>p.1 | none=>.skip
def rfB(fn:Func):Code:=match RF (eK fn) with | some p=>p.2 | none=>.skip
def KW.range{rd:Option Nat}{P:Program}{Q:Exit->Act->World->Prop}{ks:bh}{a:Act}{w:World}{x:Operand}{C:Array Tmp}{as A:Code}
  (h:∀ fn,∃ (l:Nat) (c:List Deferred) (o:World) (d:Deferred) (f:FuncId) (args:Array Value),
   (Instr.enterLoop fn a.tmps C as A rd).run P w= .ok (l,c) o/\(resolve a.eval (rangeCall x l) 0).run P o= .ok d o/\(invoke d.target d.args).run P o= .ok (.enter f args) o/\
   Calls P f args o λ e D=>∃ v,e= .returned v/\∃ jump z,(Instr.endLoop l).run P D= .ok jump z/\KW rd P Q ((jump.map KI.code).toList++ks) {a with defers:=c++a.defers} z):
  KW rd P Q (.code (.rangeFunc x C as A)::ks) a w:=by
 intro b cs y;obtain ⟨l,c,o,d,f,args,F,s,u,p⟩:=h b.fn;rw [<-y] at F;have g:=stepR_rangeFunc (P:=P) (b:=b) (a:=a) (k:=jR ks) (cs:=cs) (w:=w) F s u;obtain ⟨e,D,fr,⟨v,rfl,jump,z,t,G⟩,i,J,j⟩:=p (b.atR {a with defers:=c++a.defers} (.inRangeFunc l::jR ks)::cs);obtain ⟨I,H,w',q,r⟩:=G b cs y;refine ⟨I,H,w',q,?_⟩;have B:jR ((jump.map KI.code).toList++ks)=(jump.map Item.code).toList++jR ks:=by cases jump<;>rfl
 rw [B] at r;have n:Steps P (lone (b.atR a (.code (.rangeFunc x C as A)::jR ks)) cs w) (lone (b.atR {a with defers:=c++a.defers} ((jump.map Item.code).toList++jR ks)) cs z):=by refine .head g (Steps.trans i (.head ?_ (.one (stepR_endRangeFunc t))));rw [<-finish_atR_inRangeFunc l v];exact step_leave_returned j
 exact .of_steps ((StepsIn.of_steps n).mono λ m _=>mD _ _ m) r
section
variable {M:Imm} {ob:Hs} {ac:au} {w:World}
def Mem.layRec(hm:Mem M ob ac w)(R:Loop):
  Mem M (ob++[[fC [w.heap.size+1]]]) (nM ac (.bun 0 (cQ (w.heap.size+1) R))) ((w.alloc (.deferred (some []))).alloc (.loop R))/\
  Ext M ob ac w M (ob++[[fC [w.heap.size+1]]]) (nM ac (.bun 0 (cQ (w.heap.size+1) R))) ((w.alloc (.deferred (some []))).alloc (.loop R)):=by
 rw [rG];have e:Mem M ob ac (w.alloc (.deferred (some []))):=hm.same s_ λ b c=>heap_alloc_old w _ c
 have f:Ext M ob ac w M ob ac (w.alloc (.deferred (some []))):=⟨λ_ _ _ h=>h,λ_ _ _ h=>.inl h,dY.refl _,rfl,rfl,rfl,by simp,λ b c _=>heap_alloc_old w _ c,λ k b s=>.inl ⟨k,s⟩⟩
 obtain ⟨g,p,_⟩:=e.extend 1;have h1:(ac++Aj 1 ab.dead)[ac.length]? =some .dead:=by simp
 have q:(ob++Aj 1 ([]:ba))[ac.length]? =some []:=by rw [<-hm.len];simp
 have d:(w.alloc (.deferred (some []))).heap.size=w.heap.size+1:=zO ..
 have t:=g.turn (M':=M) (w':=(w.alloc (.deferred (some []))).alloc (.loop R)) (x':=.bun 0 (cQ (w.heap.size+1) R)) (hs':=[fC [w.heap.size+1]]) h1 q ⟨_,rfl⟩ (λ_=>rfl) (λ_ _ _ h=>h) (λ_ _ _ h=>.inl h) (λ b o y m=>by
   obtain ⟨u,i,n,l⟩:=g.imm b o y m
   exact ⟨u,(Cy (w:=w.alloc (.deferred (some []))) (a:=⟨b,o,none⟩) (heap_alloc_old _ _ (Cz _ _ i))).trans i,n,l⟩)
  (λ b c _=>heap_alloc_old _ _ c) rfl rfl rfl s_ (λ_=>⟨rfl,[w.heap.size+1],rfl,λ b c=>by
   rw [Dp.1 c,<-d]
   exact ⟨_,heap_alloc_new _ _,rfl⟩,rfl,by rw [<-d];exact heap_alloc_new _ _⟩)
  (λ_ b c=>by
   have:blk [fC [w.heap.size+1]]=[w.heap.size+1]:=fG _;rw [this] at c;rw [Dp.1 c,zO _ (Obj.loop R),d]
   omega)
 have j:(ob++Aj 1 ([]:ba)).set ac.length [fC [w.heap.size+1]]=ob++[[fC [w.heap.size+1]]]:=by rw [<-hm.len];simp
 have r:(ac++Aj 1 ab.dead).set ac.length (.bun 0 (cQ (w.heap.size+1) R))=ac++[.bun 0 (cQ (w.heap.size+1) R)]:=by simp
 rw [j,r] at t;exact ⟨t.1,f.trans (p.trans t.2.1)⟩
def K4:∀ (ks:az) (ac:au),(∀ k∈ks,k<ac.length)->YR (uK ks ac) ac/\∀ k∈ks,(uK ks ac)[k]? =some .dead
 | [],ac,_=>⟨⟨rfl,λ_=>.inl rfl⟩,λ k h=>by simp at h⟩
 | x::r,ac,hlt=>by
  have c:x<ac.length:=hlt x s_;have e:bX ac x .dead=ac.set x .dead:=iR _ c;obtain ⟨⟨h1,d⟩,h3⟩:=K4 r (bX ac x .dead) (λ k a=>by grind);have b:∀ k:Nat,(uK (x::r) ac)[k]? =ac[k]?\/(uK (x::r) ac)[k]? =some ab.dead:=λ k=>by
   rcases d k with q | q
   .by_cases a:k=x
    .subst a;right;show (uK r (bX ac k .dead))[k]? =_;rw [q,e,Ay c]
    .left;show (uK r (bX ac x .dead))[k]? =_;rw [q,e,Bf (Fa a)]
   .exact .inr q
  refine ⟨⟨by show (uK r (bX ac x .dead)).length=_;rw [h1,e];simp,b⟩,λ k a=>?_⟩;rcases Aw.1 a with rfl | a
  .show (uK r (bX ac k ab.dead))[k]? =some ab.dead;rcases d k with q | q
   .rw [q,e,Ay c]
   .exact q
  .exact h3 k a
def Mem.snoc{A:au}{a:Hs}{c:ab}{hs:ba}(hm:Mem M a A w)(u:∀ ob,dY a ob->jT M ob w hs c)(q:∀ b∈blk hs,b<w.heap.size)(f:∀ k b,aM a A k b->b∉blk hs):
  Mem M (a++[hs]) (A++[c]) w/\∀ k b,aM (a++[hs]) (A++[c]) k b->(k<A.length/\aM a A k b)\/(k=A.length/\b∈blk hs):=by
 have g:dY a (a++[hs]):=λ j l e=>⟨l,by rw [Ah (Ad.1 e).1];exact e,Cw _⟩
 have m:∀ {j:Nat} {x:ab},(A++[c])[j]? =some x->(j<A.length/\A[j]? =some x/\(a++[hs])[j]? =a[j]?)\/(j=A.length/\x=c/\(a++[hs])[j]? =some hs):=λ{j x} e=>by
  by_cases h:j<A.length
  .rw [Ah h] at e;exact .inl ⟨h,e,Ah (by rw [hm.len];exact h)⟩
  .have d:j=A.length:=by have:=(Ad.1 e).1;simp at this;omega
   subst d;rw [Al s_] at e;simp at e;exact .inr ⟨rfl,e.symm,by rw [<-hm.len];simp⟩
 have n:∀ k b,aM (a++[hs]) (A++[c]) k b->(k<A.length/\aM a A k b)\/(k=A.length/\b∈blk hs):=by
  rintro k b ⟨x,l,t,C,p,s⟩;rcases m t with ⟨h1,d,h3⟩ | ⟨h1,d,h3⟩
  .rw [h3] at p;exact .inl ⟨h1,x,l,d,C,p,s⟩
  .rw [h3] at p;cases p;exact .inr ⟨h1,s⟩
 refine ⟨⟨hm.imm,by simp [hm.len],λ k x v=>?_,λ k b r=>?_,λ i j b r z=>?_⟩,n⟩
 .rcases m v with ⟨h1,d,h3⟩ | ⟨h1,rfl,h3⟩
  .obtain ⟨l,y,B⟩:=hm.obj k x d;exact ⟨l,by rw [h3];exact y,B.mono (λ_ _ _ h=>h) g (λ_ _ _ _ h=>h) (λ_ _ _ _ h=>h)⟩
  .exact ⟨hs,h3,u _ g⟩
 .rcases n k b r with ⟨_,h⟩ | ⟨_,h⟩
  .exact hm.lt k b h
  .exact q b h
 .rcases n i b r with ⟨h1,d⟩ | ⟨h1,d⟩<;>rcases n j b z with ⟨h3,o⟩ | ⟨h3,o⟩
  .exact hm.inj i j b d o
  .exact absurd o (f i b d)
  .exact absurd d (f j b o)
  omega
end
def bT.bunTo{P:Program}{f:Fn}{args:ay}{ac:au}{r:Res}{gg:Nat}{I l:BInv}(h:bT P f args ac r [.bun gg I])
  (z:∀ (M:Imm) (bs:az) (w:World),(∀ b o x,M b o x->∃ v,w.cell? ⟨b,o,none⟩=some v/\v.oneCell'=true/\Rep M [] v x)->(∀ b,b∈bs->b<w.heap.size)->I.inv M bs w->l.inv M bs w):bT P f args ac r [.bun gg l]:=
 λ M ob w d hm y=>cX.mono (λ e w' ⟨M',ob',a,g,A⟩=>by
  have i:∀ {k b},aM ob' [.bun gg l] k b->aM ob' [.bun gg I] k b:=λ{k b} ⟨c,hs,e1,e2,e3,e4⟩=>by
   cases k with
   | zero=>exact ⟨_,hs,rfl,rfl,e3,e4⟩
   | succ k=>simp at e1
  refine ⟨M',ob',⟨a.imm,a.new,a.hs,a.os,a.tape,a.output,a.size,a.keep,λ k b n=>a.fresh k b (i n)⟩,⟨g.imm,g.len,λ k c j=>?_,λ k b n=>g.lt k b (i n),λ k t b h1 m=>g.inj k t b (i h1) (i m)⟩,A⟩;cases k with
  | zero=>
   simp at j;subst j;obtain ⟨hs,h1,m,bs,h3,p,s⟩:=g.obj 0 _ rfl;exact ⟨hs,h1,m,bs,h3,p,z _ _ _ g.imm (λ b u=>by obtain ⟨o,q,_⟩:=p b u;exact gL q) s⟩
  | succ k=>simp at j) (h M ob w d hm y)
def GB:∀ (n j i:Nat),i<n->(upto j n)[i]? =some (j+i)
 | 0,_,_,h=>by omega
 | n+1,j,0,_=>rfl
 | n+1,j,i+1,h=>by show (upto (j+1) n)[i]? =_;rw [GB n (j+1) i o_,show j+1+i=j+(i+1) from by omega]
def aHf{ob0:Hs}{fr:ar}{R:Loop}{L L':au}{n:Nat}(D:L.length=n)(h1:∀ hs∈ob0,hs.length=1)(hl:ob0.length<=n)(r:jQ (upto 0 n) L=true)(i:E2 n (upto 0 n) (aB L) fr=fr)(y:gQ n (upto 0 n) L=L'):
  ∀ (M:Imm) (bs:az) (w:World),(∀ b o x,M b o x->∃ v,w.cell? ⟨b,o,none⟩=some v/\v.oneCell'=true/\Rep M [] v x)->(∀ b,b∈bs->b<w.heap.size)->(mL ob0 fr R L).inv M bs w->(mL ob0 fr R L').inv M bs w:=by
 rintro M bs w g l ⟨ob,C,G,H,z,s,F⟩;subst y
 have hm:Mem M ob L w:=⟨g,G,H,λ k b a=>l b ((s b).2 ⟨k,a⟩),z⟩
 obtain ⟨p,B,A⟩:=hm.cvt (n0:=n) r;refine ⟨fV n ob L 0 (upto 0 n),λ j hs e=>?_,p.len,p.obj,p.inj,λ b=>(s b).trans ⟨λ⟨k,a⟩=>?_,λ⟨j,a⟩=>?_⟩,λ t=>?_⟩
 .have f:j<n:=Fh (Ad.1 e).1 hl;obtain ⟨hs',d,t,u⟩:=C j hs e;have q:=h1 hs (Az e);refine ⟨lI n j (aB L j) hs',?_,?_⟩
  .rw [jS,GB n 0 j f];simp [d]
  .unfold lI;split
   .rw [<-u];have:(hs++t).take 1=hs:=by rw [Dm o_,Cn o_]
    rw [this];simp
   .exact ⟨t,u⟩
 .have m:k<n:=by obtain ⟨c,_,d,_⟩:=a;rw [<-D];exact (Ad.1 d).1
  exact ⟨k,A k k b (by rw [GB n 0 k m,Bx]) a⟩
 .obtain ⟨k,_,h⟩:=B j b a;exact ⟨k,h⟩
 .have:=hm.cvtV (n0:=n) r 5 _ _ (F t);rw [<-C6,i] at this;exact this
structure RecOK(fn:Func)(p:Nat)(as bd:Code)(R:Loop):Prop where
 params:R.params= #[p]
 ready:R.state= .ready
 pend:R.pending=none
 assign:R.assign=as
 body:R.body=bd
 size:R.tmps.size=fn.ntmps
def To.range{E:Env}{fn:Func}{g:Goal}{x:Operand}{p:Nat}{as bd:Code}{ks:bh}{fr:ar}{ac:au}{f:FuncId}{C:ay}(m:az)(hrd:E.rd=none)(hdf:E.df=[])(hbo:qS E.P f)
  (hx:ev fr x= .func (.func f) [] C) (hk:∀ l R,jQ m (nM ac (.bun 0 (cQ l R)))=true) (hlt:(m.all λ k=>Fp k (aR ac))=true)
  (h:∀ (l:Nat) (ob0:Hs) (R:Loop),uG g ob0->RecOK fn p as bd R->∃ (L':au) (b:Bool) (r:aa) (s:au) (gg:Nat),
   aA E.P f (.func (.yield l) [] []::eQ (cvtV 0 m (aB (nM ac (.bun 0 (cQ l R)))) 5) C) (gQ 0 m (nM ac (.bun 0 (cQ l R)))++[.bun 0 (mL ob0 fr R (uK m (nM ac (.bun 0 (cQ l R)))))]) (.ret r) (s++[.bun gg (mL ob0 fr R L')])/\
   aB L' (aR ac)= .bun 0 (cQ l (oD R b))/\s.length=m.length/\To E fn g (.code (if b then ks else .code .ret::ks) fr (bX L' (aR ac) .dead))):
  To E fn g (.code (.code (.rangeFunc x #[p] as bd)::ks) fr ac):=by
 refine .mk λ hok M0 n ap w0 a w hst hs=>?_;obtain ⟨M,ob,hx0,hm,hfr,hsz,U,hlen⟩:=hs;rw [hrd];refine KW.range λ fid=>?_
 obtain ⟨l,hl⟩:∃ l,l=w.heap.size+1:=⟨_,rfl⟩
 obtain ⟨R,hR⟩:∃ R:Loop,R={state:=.ready,pending:=none,fn:=fid,tmps:=a.tmps,params:= #[p],assign:=as,body:=bd,defers:=w.heap.size}:=⟨_,rfl⟩
 have N:RecOK fn p as bd R:=by subst hR;exact ⟨rfl,rfl,rfl,rfl,rfl,hsz⟩
 have htm:R.tmps=a.tmps:=by subst hR;rfl
 obtain ⟨D,W⟩:∃ D,D=(w.alloc (.deferred (some []))).alloc (.loop R):=⟨_,rfl⟩
 obtain ⟨m1,x1⟩:=hm.layRec R;rw [<-hl,<-W] at m1 x1
 obtain ⟨A,hob1⟩:∃ A,A=ob++[[fC [l]]]:=⟨_,rfl⟩
 rw [<-hob1] at m1 x1;obtain ⟨L',b,r,s,gg,hcall,hLk,hol,hto⟩:=h l n R hst N;generalize L:nM ac (.bun 0 (cQ l R))=obs1 at *
 have hobs1l:obs1.length=ac.length+1:=by rw [<-L,rG];simp
 have hk1:jQ m obs1=true:=by rw [<-L];exact hk l R
 have hltk:∀ k∈m,k<obs1.length:=λ k hk=>by
  have:=Cb.1 hlt k hk;have:k<aR ac:=by simpa [Kb] using this
  rw [bW] at this;omega
 obtain ⟨hwk,hdead⟩:=K4 m obs1 hltk;have mC:=m1.weak hwk;obtain ⟨c1,c2,c3⟩:=m1.cvt (n0:=0) hk1;have hfr1:∀ t,Rep M A (R.tmps.getD t undef) (bG fr t):=λ t=>by rw [htm];exact (hfr t).mono x1.imm x1.hs
 obtain ⟨bs,hbs,hpk⟩:=mC.pack (hx0.hs.trans x1.hs) hfr1;have hcl:(fV 0 A obs1 0 m).length=m.length:=sG;have hsl:(gQ 0 m obs1).length=m.length:=rA;have K:blk ([]++[fC bs])=bs:=by rw [sI,fG]
 obtain ⟨mI,aI⟩:=c1.snoc (c:=.bun 0 (mL n fr R (uK m obs1))) (hs:=[]++[fC bs]) (λ ob _=>hpk ob []) (λ b G=>by
   rw [K] at G;obtain ⟨j,S⟩:=(hbs b).1 G
   exact mC.lt j b S) (λ j b F G=>by
   rw [K] at G;obtain ⟨i,hi⟩:=(hbs b).1 G;obtain ⟨k,e1,e2⟩:=c2 j b F;have:=m1.inj k i b e2 (hwk.alive hi);subst this;obtain ⟨c,_,q1,q2,_⟩:=hi;rw [hdead k (Az e1)] at q1;cases q1
   cases q2)
 -- the call
 have hev:=IT hfr x;rw [hx] at hev;obtain ⟨z,hax,hcl1,hcr⟩:∃ z:ba,a.eval x= .func (.func f) #[] z.toArray/\z.length=C.length/\∀ (i:Nat) v y,z[i]? =some v->C[i]? =some y->Rep M ob v y:=by
  generalize a.eval x=va at hev;cases hev with
  | func _ vfs vcs _ _ hl1 hl2 hr1 hr2=>
   have:vfs=[]:=Bc o_;subst this;exact ⟨vcs,rfl,hl2,hr2⟩
 have hargs:cM M (fV 0 A obs1 0 m++[[]++[fC bs]]) (.func (.yield l) #[] #[]::z) (.func (.yield l) [] []::eQ (cvtV 0 m (aB obs1) 5) C):=by
  have hle:dY (fV 0 A obs1 0 m) (fV 0 A obs1 0 m++[[]++[fC bs]]):=λ j l S=>⟨l,by rw [Ah (Ad.1 S).1];exact S,Cw _⟩
  have h2:cM M (fV 0 A obs1 0 m) z (eQ (cvtV 0 m (aB obs1) 5) C):=cP (λ v a hva=>m1.cvtV (n0:=0) hk1 5 v a (hva.mono x1.imm x1.hs)) hcl1 hcr;refine cM.cons (.func (.yield l) [] [] [] [] rfl rfl (λ i v a h=>by simp at h) (λ i v a h=>by simp at h)) ⟨h2.1,λ i v a hv F=>(h2.2 i v a hv F).mono (λ_ _ _ h=>h) hle⟩
 have hrun:=hcall M _ D _ mI hargs;have Y:Calls E.P f (Value.func (.yield l) #[] #[]::z).toArray D λ e w'=>∃ M' ob',Ext M (fV 0 A obs1 0 m++[[]++[fC bs]]) (gQ 0 m obs1++[.bun 0 (mL n fr R (uK m obs1))]) D M' ob' (s++[.bun gg (mL n fr R L')]) w'/\Mem M' ob' (s++[.bun gg (mL n fr R L')]) w'/\wP M' ob' e (.ret r):=by
  rcases hrun with ⟨_,q⟩ | ⟨u,w',q,_⟩
  .exact q
  .rw [hbo] at q;cases q
 have hent:(Instr.enterLoop fid a.tmps #[p] as bd none).run E.P w= .ok (l,[{target:=.collected w.heap.size,args:= #[]}]) D:=by rw [hl,W,hR];exact run_enterLoop_outer ..
 refine ⟨l,[{target:=.collected w.heap.size,args:= #[]}],D,{target:=.fn (.func f) z.toArray,args:= #[.func (.yield l) #[] #[]]},f,_,hent,?_,?_,Y.mono λ e w3 ⟨M',obI,Z,y2,y3⟩=>?_⟩
 .have:resolve a.eval (rangeCall x l) 0=Deferred.ofValue (a.eval x) #[.func (.yield l) #[] #[]]:=by simp [resolve,rangeCall,Act.eval]
  rw [this,hax];rfl
 .show (callFunc f (#[Value.func (.yield l) #[] #[]]++z.toArray)).run E.P D=_;rw [hbo];simp
 -- eM the call
 obtain ⟨v,rfl⟩:∃ v,e= .returned v:=by
  cases e with
  | returned v=>simp
  | panicked ch=>exact y3.elim
  | outgrown=>exact y3.elim
 refine ⟨v,rfl,?_⟩;have hbk:(s++[ab.bun gg (mL n fr R L')])[s.length]? =some (.bun gg (mL n fr R L')):=by simp
 obtain ⟨hs',V,hh',hl',hle',mC',hal',hfr'⟩:=y2.unpack hbk;have O:=bP hLk s_;have hkl:aR ac=ac.length:=bW ac;obtain ⟨_,_,_,_,_,H⟩:=mC'.recAt O
 -- the client's memory,from the statement on
 have inI:∀ {k b},aM (fV 0 A obs1 0 m++[[]++[fC bs]]) (gQ 0 m obs1++[.bun 0 (mL n fr R (uK m obs1))]) k b->∃ k',aM A obs1 k' b:=λ{k b} F=>by
  rcases aI k b F with ⟨_,h⟩ | ⟨_,h⟩
  .obtain ⟨k',_,h⟩:=c2 k b h;exact ⟨k',h⟩
  .rw [K] at h;obtain ⟨j,S⟩:=(hbs b).1 h;exact ⟨j,hwk.alive S⟩
 have xnew:∀ b o y,M' b o y->M b o y\/D.heap.size<=b\/∃ k,aM A obs1 k b:=λ b o y hy=>by
  rcases Z.new b o y hy with q | q | ⟨k,q⟩
  .exact .inl q
  .omega
  .exact .inr (.inr (inI q))
 have I:∀ b,b<D.heap.size->(∀ k,¬ aM A obs1 k b)->w3.heap[b]? =D.heap[b]?:=λ b G hn=>Z.keep b G λ k F=>by obtain ⟨k',hk'⟩:=inI F;exact hn k' hk'
 have T:∀ k b,aM V L' k b->(∃ k',aM A obs1 k' b)\/D.heap.size<=b:=λ k b F=>by
  have G:b∈blk hs':=(hal' b).2 ⟨k,F⟩
  have:aM obI (s++[ab.bun gg (mL n fr R L')]) s.length b:=⟨_,hs',hbk,rfl,hh',G⟩
  rcases Z.fresh _ b this with ⟨k',q⟩ | q
  .exact .inl (inI q)
  omega
 have B:=hx0.trans x1
 -- from the function's start to here
 have X:Ext M0 n ap w0 M' V L' w3:=⟨λ b o y h=>Z.imm _ _ _ (B.imm _ _ _ h),λ b o y hy=>by
   rcases xnew b o y hy with h1 | h1 | ⟨i,hi⟩
   .exact B.new b o y h1
   .exact .inr (.inl (Dh B.size h1))
   .rcases B.fresh i b hi with h2 | h2
    .exact .inr (.inr h2)
    omega,hle',Z.os.trans B.os,Z.tape.trans B.tape,Z.output.trans B.output,Dh B.size Z.size,λ b G ho=>by
   rw [<-B.keep b G ho];refine I b (Fh G B.size) λ i hi=>?_;rcases B.fresh i b hi with ⟨j,S⟩ | h2
   .exact ho j S
   .omega,λ i b hi=>by
   rcases T i b hi with ⟨j,S⟩ | h1
   .exact B.fresh j b S
   .exact .inr (Dh B.size h1)⟩
 have hnb:(oD R b).state≠ .busy:=by
  unfold oD;cases b with
  | true=>rw [if_pos rfl,N.ready];simp
  | false=>simp
 have hend:=run_endLoop (P:=E.P) H hnb;obtain ⟨t1,t2⟩:=mC'.recTurn O {oD R b with state:=.exhausted};obtain ⟨d1,d2⟩:=t1.drop (aR ac);have hfin:bX L' (aR ac) .dead=(L'.set (aR ac) (.bun 0 (cQ l {oD R b with state:=.exhausted}))).set (aR ac) .dead:=by rw [aU O,List.set_set]
 rw [<-hfin] at d1 d2;have X2:Ext M0 n ap w0 M' V (bX L' (aR ac) .dead) (w3.putObj l (.loop {oD R b with state:=.exhausted})):=by have:=X.trans t2;exact ⟨this.imm,this.new,this.hs,this.os,this.tape,this.output,this.size,this.keep,λ k b F=>this.fresh k b (d2 F)⟩
 refine ⟨(oD R b).pending,_,hend,?_⟩;obtain ⟨hto⟩:=hto;have hds0:=U;rw [hdf] at U
 -- the marks
 have hw1d:D.heap[w.heap.size]? =some (.deferred (some [])):=by rw [W,heap_alloc_old _ _ s_];exact heap_alloc_new w _
 have Q:∀ c:Nat,D.heap[c]? =some (Obj.deferred (some []))->(w3.putObj l (.loop {oD R b with state:=.exhausted})).heap[c]? =some (Obj.deferred (some [])):=λ c J=>by
  have h3:w3.heap[c]? =some (Obj.deferred (some [])):=by
   rw [I c (gL J) λ k F=>by
    obtain ⟨o,q1,q2⟩:=m1.alive_heap F;rw [J] at q1;cases q1
    cases q2]
   exact J
  rw [Gx λ e=>by subst e;rw [H] at h3;cases h3];exact h3
 have hmk:Mks w0 (w3.putObj l (.loop {oD R b with state:=.exhausted})) ({target:=.collected w.heap.size,args:= #[]}::a.defers):=by
  refine ⟨⟨w.heap.size,rfl,hx0.size,Q _ hw1d,λ d hd e=>?_⟩,U.marks.same λ d _ c _ J=>Q c ?_⟩
  .have:∀ {ds:List Deferred},Mks w0 w ds->∀ d∈ds,∀ c,d.target= .collected c->c<w.heap.size:=by
    intro ds;induction ds with
    | nil=>simp
    | cons d0 ds ih=>
     rintro ⟨⟨b0,q1,q2,q3,q4⟩,q5⟩ d hd c J;rcases Aw.1 hd with rfl | hd
     .rw [q1] at J;cases J;exact gL q3
     .exact ih q5 d hd c J
   have:=this U.marks d hd _ e;omega
  .rw [W,heap_alloc_old _ _ (by rw [zO];have:=gL J;omega),heap_alloc_old _ _ (gL J)];exact J
 have hss:SS M0 n ap w0 fn.ntmps E.df fr (bX L' (aR ac) .dead) {a with defers:=[{target:=.collected w.heap.size,args:= #[]}]++a.defers} (w3.putObj l (.loop {oD R b with state:=.exhausted})):=by
  refine ⟨M',V,X2,d1,λ t=>?_,hsz,?_,?_⟩
  .have:=hfr' t;rw [htm] at this;exact this
  .rw [hdf];exact ⟨[],_,rfl,.nil,hmk⟩
  .have h1:=X2.lens;have h2:=d1.len;omega
 have hok2:bO fn.ntmps (if b then ks else .code .ret::ks)=true:=by
  have:bO fn.ntmps ks=true:=by simp only [bO,Af] at hok;exact hok.2
  cases b with
  | true=>exact this
  | false=>simpa [bO,KI.ok,dU] using this
 have key:=hto hok2 M0 n ap w0 _ _ hst hss;rw [hrd] at key;have hjump:((oD R b).pending.map KI.code).toList++ks=(if b then ks else .code .ret::ks):=by
  unfold oD;cases b with
  | true=>rw [if_pos rfl,N.pend];rfl
  | false=>rfl
 rw [hjump];exact key
def aJq(sz:Nat):aa->aa
 | .nilslice=>.slice sz [] .nil
 | v=>v
def SN(sz:Nat)(M:Imm)(ob:Hs)(v:Value)(a:aa)(h:Rep M ob v a):Rep M ob v (aJq sz a):=by
 unfold aJq;split
 .cases h;exact .slnil _ _ rfl
 .exact h
def To.beginC{E:Env}{fn:Func}{g:Goal}{st:bh}{fr:ar}{ac:au}(k i:Nat)(e:TypeId){T:TypeId}{cs:ay}{sz:Nat}(c:aB ac k= .cells T cs)(a:nth cs i=some (.slice sz [] .nil))
  (h:To E fn g (.code st fr (nM (bX ac k (.cells T (Q5 cs i (.slice sz [] (.own (aR ac) 0))))) (.tail 0 sz e)))):To E fn g (.code st fr ac):=by
 have b:To E fn g (.head st fr (nM (bX ac k (.cells T (Q5 cs i (.slice sz [] (.own (aR ac) 0))))) (.tail 0 sz e))):=h.rec λ h=>.mk h;exact (To.begin k i e c a b).rec λ h=>.mk h
abbrev Hm:=Option Addr×Nat×ay
def hmV(m:Hm):Value:=.slice m.1 m.2.2.length m.2.1
def hmA(m:Hm):aa:=.hsl m.1 m.2.2.length m.2.1
def aNG(M:Imm)(ob:Hs)(m:Hm):Rep M ob (hmV m) (hmA m):=.hsl _ _ _
def pH(sz:Nat)(e:TypeId)(ms:List Hm):BInv where
 inv M bs w:=(∀ (i:Nat) m,ms[i]? =some m->eP M w (hmV m) sz e m.2.2)/\(∀ (i j:Nat) m m' b,ms[i]? =some m->ms[j]? =some m'->(hmV m).ownBlock=some b->(hmV m').ownBlock=some b->i=j)/\
  ∀ b,b∈bs↔ ∃ (i:Nat) (m:Hm),ms[i]? =some m/\(hmV m).ownBlock=some b
 mono:=λ hM hn hb ⟨h1,h2,h3⟩=>⟨λ i m hm=>(h1 i m hm).mono hM (λ b e ho o=>hn b ((h3 b).2 ⟨i,m,hm,e⟩) o (ho o)) (λ b c e=>hb b c ((h3 b).2 ⟨i,m,hm,e⟩)),h2,h3⟩
section
variable {M:Imm} {ob:Hs} {ac:au} {w:World}
def eP.blockAt{v:Value}{sz:Nat}{e:TypeId}{xs:ay}(h:eP M w v sz e xs){b:Nat}(a:v.ownBlock=some b):∃ o,w.heap[b]? =some o/\H8 o=false:=by
 obtain ⟨cv,⟨_,d⟩,_⟩:=h;rcases d with ⟨rfl,_⟩ | ⟨g,cap,f,c,_,i,_⟩
 .cases a
 .rw [c] at a;cases a;exact ⟨_,i,rfl⟩
def eP.nil(sz:Nat)(e:TypeId):eP M w (.slice none 0 0) sz e []:=
 ⟨[],Hp w 0 e sz,λ u h=>by simp at h,λ u h=>by simp at h,λ q c h=>by simp [aP] at h,λ b h=>(by cases h),HP w⟩
def eP.append{P:Program}(hm:Mem M ob ac w){t D ty e:TypeId}{i:TypeInfo}{z:Value}(N:P.underlying t=some (.slice e))(O:P.info? e=some i)(hz:i.zero=some z)(hz1:z.cells.toList.all (·.oneCell')=true)
  (G:z.cells.size=i.size) (h:0<i.size) {xs ys:ay} {v x:Value} (n:eP M w v i.size e xs) (hs:SrcA P M w i.size D x ys)
  (H:xs.length+ys.length<=maxLen) (f:(xs.length+ys.length)*i.bytes<=140737488355328):
  ∃ m w',(Cx #[t,D] ty #[v,x]).run P w= .ok m w'/\eP M w' m i.size e (xs++ys)/\w'.os=w.os/\w'.tape=w.tape/\w'.output=w.output/\w.heap.size<=w'.heap.size/\
   (∀ b,m.ownBlock=some b->v.ownBlock=some b\/w.heap.size<=b)/\∀ b,b<w.heap.size->v.ownBlock≠some b->w'.heap[b]? =w.heap[b]?:=by
 obtain ⟨cv,B,J,S,U,V,W⟩:=n;obtain ⟨⟨news,K,L⟩,Q⟩:=hs;obtain ⟨m,w',T,F,I,k,s,j,a,l⟩:=kV (P:=P) w t D ty e i z N O hz hz1 G v xs.length cv B J x ys.length news K H f;have d:∀ b,m.ownBlock=some b->v.ownBlock=some b\/w.heap.size<=b:=λ b r=>by
  rcases a with ⟨q,_⟩ | ⟨q,_⟩
  .exact .inl (q▸r)
  .rw [q] at r;cases r;omega
 refine ⟨m,w',T,⟨cv++news,by simp;omega,λ u A=>?_,λ y p=>?_,λ q c C=>?_,λ b r o=>?_,l W⟩,I,k,s,j,d,λ b g R=>?_⟩
 .rcases Bd.1 A with A | A
  .exact J u A
  .exact K.one u A
 .rcases Bd.1 p with p | p
  .exact S y p
  .exact Q y p
 .by_cases g:q<xs.length*i.size
  .rw [dD h g] at C;rw [Ah (by rw [B.1];exact g)];exact U q c C
  .rw [cW h o_] at C;rw [Al (by rw [B.1];omega),B.1];exact L _ c C
 .rcases d b r with q | q
  .exact V b q o
  .exact hm.noImm q o
 .rcases a with ⟨_,q⟩ | ⟨_,q⟩
  .exact q b R
  .exact q b g
def eP.hm{v:Value}{sz:Nat}{e:TypeId}{xs:ay}(h:eP M w v sz e xs):∃ a c,v=hmV (a,c,xs):=by
 obtain ⟨cv,d,_⟩:=h;rcases dX d with ⟨q,f⟩ | ⟨b,cap,q,_⟩
 .exact ⟨none,0,by rw [q,hmV];grind⟩
 .exact ⟨_,cap,q⟩
def Mem.famAppend{P:Program}(h:Mem M ob ac w){t tx ty e:TypeId}{i:TypeInfo}{z:Value}(ht:P.underlying t=some (.slice e))(hi:P.info? e=some i)(hz:i.zero=some z)(hz1:z.cells.toList.all (·.oneCell')=true)
  (hzs:z.cells.size=i.size) (V:0<i.size) {k g j:Nat} {s:List Hm} {m:Hm} {ys:ay} (hx:ac[k]? =some (.bun g (pH i.size e s))) (H:s[j]? =some m) {x:Value} (hs:SrcA P M w i.size tx x ys)
  (h63:m.2.2.length+ys.length<=maxLen) (F:(m.2.2.length+ys.length)*i.bytes<=140737488355328):
  ∃ a c w' ob',(Cx #[t,tx] ty #[hmV m,x]).run P w= .ok (hmV (a,c,m.2.2++ys)) w'/\Mem M ob' (ac.set k (.bun (g+1) (pH i.size e (s.set j (a,c,m.2.2++ys))))) w'/\
   Ext M ob ac w M ob' (ac.set k (.bun (g+1) (pH i.size e (s.set j (a,c,m.2.2++ys))))) w':=by
 obtain ⟨Q,hh,hl,bs,hv,hd,h1,W,h3⟩:=h.obj k _ hx;have C:blk Q=bs:=(fF hl hv).trans (fG _);obtain ⟨v',w',hr,G,hos,K,R,L,n,l⟩:=eP.append (P:=P) (ty:=ty) h ht hi hz hz1 hzs V (h1 j m H) hs h63 F;obtain ⟨a,c,rfl⟩:=G.hm;have hjl:j<s.length:=(Ad.1 H).1;have get:∀ {q:Nat} {f:Hm},(s.set j (a,c,m.2.2++ys))[q]? =some f->(q=j/\f=(a,c,m.2.2++ys))\/(q≠j/\s[q]? =some f):=λ{q f} d=>by
  by_cases O:q=j
  .subst O;rw [Ay hjl] at d;cases d;simp
  .rw [Bf (Fa O)] at d;exact .inr ⟨O,d⟩
 have r:∀ {q:Nat} {f:Hm} {b:Nat},s[q]? =some f->(hmV f).ownBlock=some b->b∈bs/\b<w.heap.size:=λ{q f b} d C=>by have:=(h3 b).2 ⟨q,f,d,C⟩;obtain ⟨o,ho,_⟩:=hd b this;exact ⟨this,gL ho⟩
 have A:∀ (q:Nat) f,(s.set j (a,c,m.2.2++ys))[q]? =some f->eP M w' (hmV f) i.size e f.2.2:=λ q f d=>by
  rcases get d with ⟨_,rfl⟩ | ⟨hne,d⟩
  .exact G
  .refine (h1 q f d).mono (λ_ _ _ h=>h) (λ_ _ h=>h) λ b c' C hc=>?_;rw [l b (r d C).2 λ e=>hne (W q j f m b d H C e)];exact hc
 let D:=(s.set j (a,c,m.2.2++ys)).filterMap λ m=>(hmV m).ownBlock
 have v:∀ b,b∈D↔ ∃ (i:Nat) (f:Hm),(s.set j (a,c,m.2.2++ys))[i]? =some f/\(hmV f).ownBlock=some b:=λ b=>by
  simp only [D,List.mem_filterMap];constructor
  .rintro ⟨f,S,T⟩;obtain ⟨q,d⟩:=Da S;exact ⟨q,f,d,T⟩
  .rintro ⟨q,f,S,T⟩;exact ⟨f,Az S,T⟩
 have hno:∀ {b o y},M b o y->(hmV m).ownBlock≠some b:=λ{b o y} Z e=>by obtain ⟨_,_,_,_,_,o5,_⟩:=h1 j m H;exact o5 b e o y Z
 have I:=h.turn (M':=M) (w':=w') (x':=.bun (g+1) (pH i.size e (s.set j (a,c,m.2.2++ys)))) (hs':=Q++[fC D]) hx hh ⟨_,rfl⟩ (λ e=>by cases e) (λ_ _ _ h=>h) (λ_ _ _ h=>.inl h) (λ b o y Z=>by
   obtain ⟨u,hu,S,T⟩:=h.imm b o y Z;have N:b<w.heap.size:=by simpa using Cz w _ hu
   exact ⟨u,(Cy (w:=w) (a:=⟨b,o,none⟩) (l b N (hno Z))).trans hu,S,T⟩)
  (λ b N hn=>l b N λ e=>hn ⟨rfl,by rw [C];exact (r H e).1⟩) hos K R L
  (λ_=>⟨by simp [hl],D,by rw [<-hl];simp,λ b C=>by
   obtain ⟨q,f,d,C⟩:=(v b).1 C
   exact (A q f d).blockAt C,A,λ q q' m1 m2 b d B Y X=>by
   rcases get d with ⟨r1,rfl⟩ | ⟨r1,d⟩<;>rcases get B with ⟨r2,rfl⟩ | ⟨r2,B⟩
   .rw [r1,r2]
   .rcases n b Y with p | p
    .exact absurd (W j q' m m2 b H B p X) (λ e=>r2 e.symm)
    .have:=(r B X).2;omega
   .rcases n b X with p | p
    .exact absurd (W q j m1 m b d H Y p) r1
    .have:=(r d Y).2;omega
   .exact W q q' m1 m2 b d B Y X,v⟩)
  (λ_ b U=>by
   rw [sI,fG] at U;obtain ⟨q,f,d,J⟩:=(v b).1 U;refine ⟨?_,by obtain ⟨o,ho,_⟩:=(A q f d).blockAt J;exact gL ho⟩;rw [C];rcases get d with ⟨_,rfl⟩ | ⟨_,d⟩
   .rcases n b J with p | p
    .exact .inl ⟨rfl,(r H p).1⟩
    omega
   .exact .inl ⟨rfl,(r d J).1⟩)
 exact ⟨a,c,w',_,hr,I.1,I.2.1⟩
end
section
variable {E:Env} {fn:Func} {g:Goal}
inductive HandA(E:Env)(fn:Func)(g:Goal)(all:bg)(tab:az)(ks:bh)(n:Nat)(d:Option Nat)(s x:Operand)(t t2:TypeId)(l2:bg)(fr:ar)(ac:au):Prop
 | mk (k gg j:Nat) (ms:List Hm) (m:Hm) (ys:ay) (e esz eb sz:Nat) (ag:Bool) (z:aa) (hk:aB ac k= .bun gg (pH esz e ms)) (hj:ms[j]? =some m) (hs:ev fr s=hmA m) (hT:dL E.T t=some {kind:=.slc e esz eb,size:=sz,agg:=ag,zero:=z})
   (hp:Gd 1 esz=true) (hx:aDY E (aB ac) esz t2 (ev fr x)=some ys) (hf:EY (m.2.2.length+ys.length) eb)
   (h:∀ a c,To E fn g (.mid ⟨all,false,tab,ks⟩ (n+1) l2 [] (oE fr d (hmA (a,c,m.2.2++ys))) (bX ac k (.bun (gg+1) (pH esz e (ms.set j (a,c,m.2.2++ys)))))))
def aAA{M:Imm}{ob:Hs}{v:Value}{m:Hm}(h:Rep M ob v (hmA m)):v=hmV m:=by cases h;rfl
def zN{rd:Option Nat}{ops:Array Oper}{M0:Imm}{ob0:Hs}{ap:au}{w0:World}{sz:Nat}{dfs:List (Nat×ay)}{Q:Exit->Act->World->Prop}{K:ar->au->Prop}{Kp:(Nat->aa)->aa->au->Prop}{rest:bg}
  (hE:ae E) (hp:∀ g v ac c a w,Kp g v ac->PP M0 ob0 ap w0 sz dfs g v ac c a w->Q (.panic c) a w) (j:∀ fr ac a w,K fr ac->SS M0 ob0 ap w0 sz dfs fr ac a w->wpListIn (fen rd) 0 E.P ops Q rest a w):
  ∀ (l:bg) (n:Nat) (fr:ar) (ac:au) (a:Act) (w:World),(∀ p∈l,∀ d,p.dst=some d->d<sz)->fX E ops.toList K Kp n l fr ac->SS M0 ob0 ap w0 sz dfs fr ac a w->wpListIn (fen rd) 0 E.P ops Q (l++rest) a w
 | [],n,fr,ac,a,w,_,h,hs=>j fr ac a w h hs
 | p::l,n,fr,ac,a,w,hd,h,hs=>by
  refine wk (Q6 (K:=λ fr ac=>fX E ops.toList K Kp (n+1) l fr ac) (Kp:=Kp) (hint:=gK E p.dst) hE hs (hd p s_) ?_ λ v ac c w f e=>hp (bG fr) v ac c a w f e) λ m w' ⟨i,ao,f,hs'⟩=>zN hE hp j l (n+1) i ao m w' (λ p hp=>hd p (by simp [hp])) f hs';simp only [fX] at h;cases k:cY ops.toList (ev fr) p.guard with
  | none=>rw [k] at h;exact h.elim
  | some b=>
   rw [k] at h;cases b with
   | false=>exact h
   | true=>
    exact nB (λ v o h=>zU h) h
def N8{P:Program}{s x:Operand}{t b:TypeId}{p:Oper}(hp:p.op= .call {callee:=.builtin .append,args:= #[s,x],argTypes:= #[t,b]}){ρ:Operand->Value}{w w':World}{v:Value}
  (h:(Cx #[t,b] p.type #[ρ s,ρ x]).run P w= .ok v w'):(execOp ρ p).run P w= .ok (.value v) w':=by
 obtain ⟨d,op,ty,pos,a,c⟩:=p;dsimp only at hp;subst hp;simp [execOp,resolve,invoke,builtin,h]
def To.handA(hE:ae E){id:Nat}{ops:Array Oper}{tab:az}{ks:bh}{fr:ar}{ac:au}{l1 l2:bg}{p:Oper}{s x:Operand}{t t2:TypeId}(b:ops.toList=l1++p::l2)
  (hp:p.op= .call {callee:=.builtin .append,args:= #[s,x],argTypes:= #[t,t2]}) (hg:p.guard=none)
  (h:fX E ops.toList (HandA E fn g ops.toList tab ks l1.length p.dst s x t t2 l2) (nH E fn g) 0 l1 fr ac):To E fn g (.code (.code (.region id ops false)::ks) fr ac):=
 .mk λ ho M0 ob0 ap w0 a w hst hs=>by
  simp only [bO,KI.ok,dU,Af] at ho;obtain ⟨⟨N,ho2⟩,L⟩:=ho;have hd:=sE N
  refine KW.code (Q':=QR E fn g M0 ob0 ap w0 ks) ?_ (λ a w h=>h) (λ f a w h=>h) (λ e a w hh=>by cases e<;>first | exact .inl rfl | exact .inr ⟨_,rfl⟩ | exact hh.elim)
  have l:∀ n v ac f a w,nH E fn g n v ac->PP M0 ob0 ap w0 fn.ntmps E.df n v ac f a w->tQ E fn M0 ob0 ap w0 g (.panic f) a w:=λ n v ac f a w he l=>FQ he hst l;have hq:∀ fr ac a w,dR E fn g ks fr ac->SS M0 ob0 ap w0 fn.ntmps E.df fr ac a w->KW E.rd E.P (tQ E fn M0 ob0 ap w0 g) ks a w:=λ fr ac a w W hs=>W L M0 ob0 ap w0 a w hst hs;refine wpIn_region_list ?_;have D:∀ fr ac a w,HandA E fn g ops.toList tab ks l1.length p.dst s x t t2 l2 fr ac->SS M0 ob0 ap w0 fn.ntmps E.df fr ac a w->wpListIn (fen E.rd) 0 E.P ops (QR E fn g M0 ob0 ap w0 ks) (p::l2) a w:=by
   rintro fr ac a w ⟨k,gg,j,ms,m,ys,e,esz,eb,sz,ag,z0,W,hj,V,hT,d,Z,hf,o⟩ hs;obtain ⟨M,ob,hx,hm,F,r,O,h0⟩:=hs;obtain ⟨⟨hu,i,z,hi,T,S,hz,R,hz1⟩,_⟩:=(hE.tab t _ hT).kind;subst T S;have d:=Cu d;have A:=IT (a:=a) F;have H:=VO hE hm (A x) Z d;have u:=bP W s_;have X:a.eval s=hmV m:=by have:=A s;rw [V] at this;exact aAA this
   obtain ⟨q,I,w',ob',C,m1,B⟩:=hm.famAppend (P:=E.P) (ty:=p.type) hu hi hz hz1 R d u hj H hf.1 hf.2;have Y:qQ E.P p a.eval w (λ e J=>e= .returned (hmV (q,I,m.2.2++ys))/\J=w'):=.inl ⟨_,_,N8 hp (by rw [X];exact C),rfl,rfl⟩;refine wk (next:=λ a w=>SS M0 ob0 ap w0 fn.ntmps E.df (oE fr p.dst (hmA (q,I,m.2.2++ys))) (bX ac k (.bun (gg+1) (pH i.size e (ms.set j (q,I,m.2.2++ys))))) a w) ?_ λ a w hs=>?_
   .unfold G;rw [if_pos (by simp [Fo,hg])];refine Y.wpIn (by intro c;rw [hp];simp) (λ v J ⟨U,e2⟩=>?_) (λ f J ⟨U,_⟩=>by cases U);cases U;subst e2;rw [aU u];have:=B.lens;have:=m1.len;refine ⟨M,ob',hx.trans B,m1,?_,(fQ _ _ _).1.trans r,(O.ext hm B).put,by simp;omega⟩;rw [fT];exact oN (λ t=>(F t).mono B.imm B.hs) (aNG M ob' (q,I,m.2.2++ys)) λ d' e=>r▸hd p (by rw [b];simp) d' e
   .obtain ⟨o⟩:=o q I;exact pY (rd:=E.rd) (Q:=QR E fn g M0 ob0 ap w0 ks) (K:=dR E fn g ks) (Kp:=nH E fn g) hE (λ n v ac f a w h1 y=>l n v ac f a w h1 y) (λ fr ac a w h1 y=>hq fr ac a w h1 y) l2 (l1.length+1) _ _ a w (λ p hp=>hd p (by rw [b];simp [hp])) o hs
  rw [b];exact zN (rd:=E.rd) (Q:=QR E fn g M0 ob0 ap w0 ks) (Kp:=nH E fn g) hE (λ n v ac f a w h1 y=>l n v ac f a w h1 y) D l1 0 fr ac a w (λ p hp=>hd p (by rw [b];simp [hp])) h hs
def To.objTo{st:bh}{fr:ar}{ac:au}(k:Nat){x x':ab}(v:aB ac k=x)(u:x≠ .dead)(f:x.owns=true)(y:∀ M ob w hs,(∀ b,b∈blk hs->b<w.heap.size)->jT M ob w hs x->jT M ob w hs x')
  (h:To E fn g (.code st fr (bX ac k x'))):To E fn g (.code st fr ac):=
 .mk λ s M0 ob0 ap w0 a w hst hs=>by
  obtain ⟨M,ob,d,hm,o,A,t,B⟩:=hs;have e:=bP v u;refine h.rec λ h=>h s M0 ob0 ap w0 a w hst ?_;rw [aU e];have p:=(Ad.1 e).1;have n:∀ {i b},aM ob (ac.set k x') i b->aM ob ac i b:=λ{i b} ⟨c,hs,e1,e2,e3,e4⟩=>by
   by_cases l:i=k
   .subst l;exact ⟨x,hs,e,f,e3,e4⟩
   .rw [Bf (Fa l)] at e1;exact ⟨c,hs,e1,e2,e3,e4⟩
  refine ⟨M,ob,⟨d.imm,d.new,d.hs,d.os,d.tape,d.output,d.size,d.keep,λ i b r=>d.fresh i b (n r)⟩,⟨hm.imm,by simpa using hm.len,λ i c m=>?_,λ i b r=>hm.lt i b (n r),λ i j b h1 q=>hm.inj i j b (n h1) (n q)⟩,o,A,t,by simp;omega⟩;by_cases l:i=k
  .subst l;rw [Ay p] at m;cases m;obtain ⟨hs,h1,q⟩:=hm.obj i x e;exact ⟨hs,h1,y _ _ _ _ (λ b z=>hm.lt i b ⟨x,hs,e,f,h1,z⟩) q⟩
  .rw [Bf (Fa l)] at m;exact hm.obj i c m
def To.beginF{st:bh}{fr:ar}{ac:au}(sz:Nat)(e:TypeId)(h:To E fn g (.code st fr (nM ac (.bun 0 (pH sz e []))))):To E fn g (.code st fr ac):=
 .mk λ r M0 ob0 ap w0 a w hst hs=>by
  obtain ⟨M,ob,p,hm,n,z,u,A⟩:=hs;refine h.rec λ h=>h r M0 ob0 ap w0 a w hst ?_;rw [rG];have o:blk [fC []]=[]:=fG _;obtain ⟨x,v⟩:=hm.snoc (c:=.bun 0 (pH sz e [])) (hs:=[fC []]) (λ ob _=>⟨rfl,[],rfl,λ b o=>by simp at o,λ i m h=>by simp at h,λ i j m B b h=>by simp at h,λ b=>⟨λ h=>by simp at h,λ⟨i,m,h,_⟩=>by simp at h⟩⟩) (λ b h=>by simp_all) (λ k b _=>by simp_all)
  have d:dY ob (ob++[[fC []]]):=λ j l s=>⟨l,by rw [Ah (Ad.1 s).1];exact s,Cw _⟩
  have f:Ext M ob ac w M (ob++[[fC []]]) (ac++[.bun 0 (pH sz e [])]) w:=⟨λ_ _ _ h=>h,λ_ _ _ h=>.inl h,d,rfl,rfl,rfl,Bh _,λ_ _ _=>rfl,λ k b y=>by
   rcases v k b y with ⟨_,q⟩ | ⟨_,q⟩
   .exact .inl ⟨k,q⟩
   .rw [o] at q;simp at q⟩
  exact ⟨M,_,p.trans f,x,λ t=>(n t).mono (λ_ _ _ h=>h) d,z,u.ext hm f,by simp;omega⟩
def aKo{M:Imm}{ob:Hs}{w:World}{hs:ba}{gg sz:Nat}{e:TypeId}{d:List Hm}(h:jT M ob w hs (.bun gg (pH sz e d))):jT M ob w hs (.bun gg (pH sz e (d++[(none,0,[])]))):=by
 obtain ⟨h1,bs,g,h3,q,n,k⟩:=h;have get:∀ {i:Nat} {m:Hm},(d++[((none,0,[]):Hm)])[i]? =some m->d[i]? =some m\/(i=d.length/\m=(none,0,[])):=λ{i m} a=>by
  by_cases hl:i<d.length
  .rw [Ah hl] at a;exact .inl a
  .have g:i=d.length:=by have:=(Ad.1 a).1;simp at this;omega
   subst g;rw [Al s_] at a;simp at a;exact .inr ⟨rfl,a.symm⟩
 refine ⟨h1,bs,g,h3,λ i m a=>?_,λ i j m p b a f c l=>?_,λ b=>⟨λ o=>?_,λ⟨i,m,a,c⟩=>?_⟩⟩
 .rcases get a with a | ⟨_,rfl⟩
  .exact q i m a
  .exact eP.nil sz e
 .rcases get a with a | ⟨_,rfl⟩
  .rcases get f with f | ⟨_,rfl⟩
   .exact n i j m p b a f c l
   .cases l
  .cases c
 .obtain ⟨i,m,a,c⟩:=(k b).1 o;exact ⟨i,m,by rw [Ah (Ad.1 a).1];exact a,c⟩
 .rcases get a with a | ⟨_,rfl⟩
  .exact (k b).2 ⟨i,m,a,c⟩
  .cases c
def aIQ{M:Imm}{ob:Hs}{w:World}{hs:ba}{gg:Nat}{e:TypeId}{d:List Hm}(h:jT M ob w hs (.row gg 1 e (d.map hmA++[.nilslice]))):jT M ob w hs (.row gg 1 e ((d++[(none,0,[])]).map hmA)):=by
 obtain ⟨h1,v,o,cv,r,i,t,g,k,p⟩:=h;refine ⟨h1,v,o,cv,by simpa using r,i,λ x b=>?_,λ q c j=>?_,k,p⟩
 .simp only [Ce] at b;obtain ⟨m,_,rfl⟩:=b;rfl
 .have one:∀ {l:ay} {q:Nat} {c:aa},(∀ x∈l,x.cells=[x])->(aP 1 l q=some c↔l[q]? =some c):=λ{l q c} hl=>by
   unfold aP;rw [Iw,Ji];cases f:l[q]? with
   | none=>simp
   | some x=>simp [hl x (Az f)]
  have a:=(one (λ x b=>by simp only [Ce] at b;obtain ⟨m,_,rfl⟩:=b;rfl)).1 j;rw [Bq] at a;by_cases hl:q<d.length
  .rw [Ah q_] at a
   exact g q c ((one (λ x b=>by
    simp only [Bd,Ce,Dp] at b
    rcases b with ⟨m,_,rfl⟩ | rfl<;>rfl)).2 (by rw [Ah q_];exact a))
  .have f:q=d.length:=by have:=(Ad.1 a).1;simp at this;omega
   subst f;rw [Al s_] at a;simp at a
   obtain ⟨u,s,n⟩:=g d.length .nilslice ((one (λ x b=>by
    simp only [Bd,Ce,Dp] at b
    rcases b with ⟨m,_,rfl⟩ | rfl<;>rfl)).2 s_)
   refine ⟨u,s,?_⟩;subst a;cases n;exact .hsl _ _ _
end
section
variable {M:Imm} {ob:Hs} {ac:au} {w:World}
def Mem.famFreeze(h:Mem M ob ac w){k gg sz:Nat}{e:TypeId}{r:List Hm}(v:ac[k]? =some (.bun gg (pH sz e r))):
  ∃ M' ob',Mem M' ob' (ac.set k (.bun (gg+1) (pH sz e []))) w/\Ext M ob ac w M' ob' (ac.set k (.bun (gg+1) (pH sz e []))) w/\∀ (i:Nat) m,r[i]? =some m->Rep M' [] (hmV m) (.slice sz m.2.2 .no):=by
 obtain ⟨g,H,hl,bs,D,hd,h1,J,h3⟩:=h.obj k _ v;have q:blk g=bs:=(fF hl D).trans (fG _)
 let M':Imm:=λ b o y=>M b o y\/∃ (i:Nat) (m:Hm),r[i]? =some m/\(hmV m).ownBlock=some b/\aP sz m.2.2 o=some y
 have s:∀ b o y,M b o y->M' b o y:=λ_ _ _ h=>.inl h
 have c:=h.turn (M':=M') (w':=w) (x':=.bun (gg+1) (pH sz e [])) (hs':=g++[fC []]) v H ⟨_,rfl⟩ (λ e=>by cases e) s (λ b o y a=>by
   rcases a with a | ⟨i,m,p,d,_⟩
   .exact .inl a
   .exact .inr (.inl ⟨rfl,by rw [q];exact (h3 b).2 ⟨i,m,p,d⟩⟩)) (λ b o y a=>by
   rcases a with a | ⟨i,m,p,d,l⟩
   .obtain ⟨u,C,G,I⟩:=h.imm b o y a;exact ⟨u,C,G,I.monoM s⟩
   .obtain ⟨cv,n,A,z,B,_⟩:=h1 i m p;obtain ⟨u,x,F⟩:=B o y l
    exact ⟨u,gX n d x,A u (Az x),F.monoM s⟩) (λ_ _ _=>rfl) rfl rfl rfl (Bh _)
  (λ_=>⟨by simp [hl],[],by rw [<-hl];simp,λ b q=>by simp at q,λ i m h=>by simp at h,λ i j m K b h=>by simp at h,λ b=>⟨λ h=>by simp at h,λ⟨i,m,h,_⟩=>by simp at h⟩⟩)
  (λ_ b f=>by
   rw [sI,fG] at f
   simp at f)
 refine ⟨M',_,c.1,c.2.1,λ i m hm=>?_⟩;obtain ⟨cv,n,A,z,B,_⟩:=h1 i m hm;exact (mY (M:=M) (ob:=[]) n z (t:=.no) trivial).monoM λ b o y a=>by
  rcases a with a | ⟨d,l⟩
  .exact .inl a
  .exact .inr ⟨i,m,hm,d,l⟩
def Mem.objTo(hm:Mem M ob ac w){k:Nat}{x x':ab}(a:ac[k]? =some x)(g:x.owns=true)(o:∀ hs,ob[k]? =some hs->jT M ob w hs x->jT M ob w hs x'):Mem M ob (ac.set k x') w/\Ext M ob ac w M ob (ac.set k x') w:=by
 have l:=(Ad.1 a).1;have f:∀ {i b},aM ob (ac.set k x') i b->aM ob ac i b:=λ{i b} ⟨c,hs,e1,e2,e3,e4⟩=>by
  by_cases d:i=k
  .subst d;exact ⟨x,hs,a,g,e3,e4⟩
  .rw [Bf (Fa d)] at e1;exact ⟨c,hs,e1,e2,e3,e4⟩
 refine ⟨⟨hm.imm,by simpa using hm.len,λ i c e=>?_,λ i b n=>hm.lt i b (f n),λ i j b h1 m=>hm.inj i j b (f h1) (f m)⟩,⟨λ_ _ _ h=>h,λ_ _ _ h=>.inl h,dY.refl _,rfl,rfl,rfl,Bh _,λ_ _ _=>rfl,λ i b n=>.inl ⟨i,f n⟩⟩⟩;by_cases d:i=k
 .subst d;rw [Ay l] at e;cases e;obtain ⟨hs,h1,m⟩:=hm.obj i x a;exact ⟨hs,h1,o _ h1 m⟩
 .rw [Bf (Fa d)] at e;exact hm.obj i c e
end
def JI{l:ay}{q:Nat}{c:aa}(hl:∀ x∈l,x.cells=[x]):aP 1 l q=some c↔l[q]? =some c:=by
 unfold aP;rw [Iw,Ji];cases a:l[q]? with
 | none=>simp
 | some x=>simp [hl x (Az a)]
def To.famFrz{E:Env}{fn:Func}{g:Goal}{st:bh}{fr:ar}{ac:au}(k r:Nat){gg o sz:Nat}{e p:TypeId}{n:List Hm}(I:aB ac k= .bun gg (pH sz e n))(y:aB ac r= .row o 1 p (n.map hmA))
  (h:To E fn g (.code st fr (bX (bX ac k (.bun (gg+1) (pH sz e []))) r (.row o 1 p (n.map λ m=>.slice sz m.2.2 .no))))):To E fn g (.code st fr ac):=
 .mk λ B M0 ob0 ap w0 a w hst hs=>by
  obtain ⟨M,ob,A,hm,z,R,D,W⟩:=hs;have i:=bP I s_;have j:=bP y s_;have s:k≠r:=λ e=>by simp_all
  refine h.rec λ h=>h B M0 ob0 ap w0 a w hst ?_;rw [aU i];have d:(ac.set k (.bun (gg+1) (pH sz e [])))[r]? =some (.row o 1 p (n.map hmA)):=by rw [Bf s];exact j
  rw [aU d];obtain ⟨M',ob',P,J,Q⟩:=hm.famFreeze i;obtain ⟨C,S⟩:=P.objTo (x':=.row o 1 p (n.map λ m=>.slice sz m.2.2 .no)) d rfl λ hs _ ⟨h1,v,O,cv,U,H,V,K,L,G⟩=>by
   refine ⟨h1,v,O,cv,by simpa using U,H,λ x b=>?_,λ q c F=>?_,L,G⟩
   .simp only [Ce] at b;obtain ⟨m,_,rfl⟩:=b;rfl
   .have l:=(JI (λ x b=>by simp only [Ce] at b;obtain ⟨m,_,rfl⟩:=b;rfl)).1 F;rw [Bi] at l;obtain ⟨m,f,rfl⟩:=Co.1 l;obtain ⟨u,T,N⟩:=K q (hmA m) ((JI (λ x b=>by simp only [Ce] at b;obtain ⟨m,_,rfl⟩:=b;rfl)).2 (by rw [Bi,f];rfl));exact ⟨u,T,by rw [aAA N];exact Q q m f⟩
  have X:=J.trans S;have:=X.lens;have:=C.len;exact ⟨M',ob',A.trans X,C,λ t=>(z t).mono X.imm X.hs,R,D.ext hm X,by simp;omega⟩
def To.handAt{E:Env}{fn:Func}{g:Goal}(hE:ae E)(n:Nat){id:Nat}{ops:Array Oper}(tab:az){ks:bh}{fr:ar}{ac:au}{p:Oper}{s x:Operand}{t b:TypeId}(d:ops.toList[n]? =some p)
  (hp:p.op= .call {callee:=.builtin .append,args:= #[s,x],argTypes:= #[t,b]}) (c:p.guard=none)
  (h:fX E ops.toList (HandA E fn g ops.toList tab ks n p.dst s x t b (ops.toList.drop (n+1))) (nH E fn g) 0 (ops.toList.take n) fr ac):To E fn g (.code (.code (.region id ops false)::ks) fr ac):=by
 have a:=(Ad.1 d).1;refine To.handA hE (tab:=tab) (l1:=ops.toList.take n) (l2:=ops.toList.drop (n+1)) (p:=p) ?_ hp c ?_
 .conv=>lhs;rw [<-Bv n ops.toList,Aa a]
  grind
 .rw [Dw,Gy (Nat.le_of_lt a)];exact h
def G6(r:Nat):Code->Option Code
 | .region id ops dr=>bif Ba id r then some (.region id ops dr) else none
 | .seq a b=>(match G6 r a with | some x=>some x | none=>G6 r b)
 | .cond _ a b=>(match G6 r a with | some x=>some x | none=>G6 r b)
 | .block _ b=>G6 r b
 | .loop b=>G6 r b
 | _=>none
def qC(fn:Func)(r:Nat):bh:=.code (match G6 r (eK fn) with | some c=>c | none=>.skip)::eM fn r
def To.ofC{E:Env}{fn:Func}{g:Goal}{ks:bh}{fr:ar}{ac:au}(h:To E fn g (.code ks fr ac)):To E fn g (.head ks fr ac):=h.rec λ h=>.mk h
def To.toC{E:Env}{fn:Func}{g:Goal}{ks:bh}{fr:ar}{ac:au}(h:To E fn g (.head ks fr ac)):To E fn g (.code ks fr ac):=h.rec λ h=>.mk h
section
variable {E:Env} {all:bg} {tab:az} {L0:Nat}
end
section
variable {E:Env} {ops:Array Oper} {tab:az} {tl L0:Nat} {Kp:(Nat->aa)->aa->au->Prop} {Q:AS->Prop}
end
section
variable {E:Env} {ops:Array Oper} {tab:az} {tl L0:Nat} {Kp:(Nat->aa)->aa->au->Prop} {Kq:ar->au->Prop} {Q:AS->Prop}
end
section
variable {rd:Option Nat} {M0:Imm} {ob0:Hs} {ap:au} {w0:World} {sz:Nat} {dfs:List (Nat×ay)} {E:Env} {ops:Array Oper} {Q:Exit->Act->World->Prop} {K:AS->Prop} {Kp:(Nat->aa)->aa->au->Prop} {tl L0:Nat} {tab:az}
end
section
variable {E:Env} {ops:Array Oper} {tab:az} {tl L0:Nat} {Kp:(Nat->aa)->aa->au->Prop} {Kg:ar->au->Prop}
def LI.up{n m:Nat}{ac:au}{br:List (Nat×Nat)}(h:LI L0 n ac br)(b:n<=m):LI L0 m ac br:=⟨h.low,h.all,λ i k a=>by have:=h.lt i k a;omega⟩
end
def aCh(A tab:az)(n t:Nat):Nat->bg->Bool
 | _,[]=>false
 | i,p::r=>(match p.dst with | some d=>Ba d t&&(xT i A&& !dH (dM tab n) i) | none=>false)||aCh A tab n t (i+1) r
def evP(A tab:az)(all:bg)(n:Nat)(fr:ar):Operand->aa
 | .tmp t=>bif aCh A tab n t 0 all then .undef else bG fr t
 | x=>ev fr x
def PX(A:az)(t:Nat):Nat->bg->Bool
 | _,[]=>false
 | i,p::r=>(match p.dst with | some d=>Ba d t&&xT i A | none=>false)||PX A t (i+1) r
def gP(A:az)(all:bg)(fr:ar):Nat->aa:=λ t=>bif PX A t 0 all then .undef else bG fr t
def A7(E:Env)(A tab:az)(all:bg)(fr:ar)(ac:au):az->Prop
 | []=>True
 | i::r=>(match nth all i with
   | some p=>(match p.guard with
    | none=>(match p.dst with
     | some d=>eop E (gK E p.dst) (aR ac) (aB ac) (evP A tab all i fr) p.op p.type= .val (bG fr d)
     | none=>False)
    | some _=>False)
   | none=>False)/\A7 E A tab all fr ac r
def BV(tab:az)(n:Nat):az->az
 | []=>[]
 | i::r=>bif dH (dM tab n) i then BV tab n r else i::BV tab n r
def Z5(fr:ar)(d:Option Nat)(v:aa)(k:ar->Prop):Prop:=
 match d with
 | none=>k fr
 | some d=>HC fr d v k
def RV(fr:ar)(d:Option Nat)(v:aa)(k:ar->Prop):Z5 fr d v k=k (oE fr d v):=by
 cases d with
 | none=>rfl
 | some d=>exact pP fr d v k
def YL(E:Env)(A tab:az)(all:bg)(K:ar->au->Prop)(Kp:(Nat->aa)->aa->au->Prop):az->az->ar->au->Prop
 | [],U,fr,ac=>A7 E A tab all fr ac U/\K fr ac
 | n::rest,U,fr,ac=>A7 E A tab all fr ac U/\(match nth all n with
   | none=>False
   | some p=>(match p.guard with
    | some _=>False
    | none=>orF E.P ac (λ v ao=>KD 5 v λ v=>ODL ao λ ao=>Z5 fr p.dst v λ fr=>YL E A tab all K Kp rest (BV tab n U) fr ao) (Kp (gP A all fr))
            (eop E (gK E p.dst) (aR ac) (aB ac) (evP A tab all n fr) p.op p.type)))
def DY(E:Env)(A tab:az)(all:bg)(ac:au):az->ar->(ar->Prop)->Prop
 | [],fr,k=>k fr
 | i::r,fr,k=>match nth all i with
  | some p=>(match p.dst with
   | some d=>(match eop E (gK E p.dst) (aR ac) (aB ac) (evP A tab all i fr) p.op p.type with
    | .val v=>KD 5 v λ v=>HC fr d v λ fr=>DY E A tab all ac r fr k
    | _=>False)
   | none=>False)
  | none=>False
def chB(tab:az):az->Bool
 | []=>true
 | n::r=>(r.all λ j=>dH (dM tab j) n)&&chB tab r
def aG8(A B:az):Nat->Bool
 | 0=>true
 | n+1=>(xT n A||xT n B)&&aG8 A B n
def aFh(sz:Nat):az->Bool
 | []=>true
 | n::r=>(Fp n sz&& !xT n r)&&aFh sz r
def aLR(A B tab:az)(sz:Nat):Bool:=((aFh sz (A++B)&&aG8 A B sz)&&chB tab B)
def wB(tab:az)(n:Nat):az->Bool
 | []=>true
 | j::r=>!(dH (dM tab n) j)&&wB tab n r
def RH(n:Nat):az->az
 | []=>[]
 | j::r=>bif Ba j n then r else j::RH n r
def BT(tab a:az)(f:Nat->Prop):az->Prop
 | []=>True
 | n::r=>bif wB tab n a then f n/\BT tab a f r else BT tab a f r
def GD(E:Env)(A tab:az)(all:bg)(K:ar->au->Prop)(Kp:(Nat->aa)->aa->au->Prop):az->az->az->ar->au->Prop
 | [],_,U,fr,ac=>A7 E A tab all fr ac U/\K fr ac
 | _::F,Bs,U,fr,ac=>A7 E A tab all fr ac U/\BT tab Bs (λ n=>match nth all n with
   | none=>False
   | some p=>(match p.guard with
    | some _=>False
    | none=>orF E.P ac (λ v ao=>KD 5 v λ v=>ODL ao λ ao=>Z5 fr p.dst v λ fr=>GD E A tab all K Kp F (RH n Bs) (BV tab n U) fr ao) (Kp (gP A all fr))
      (eop E (gK E p.dst) (aR ac) (aB ac) (evP A tab all n fr) p.op p.type))) Bs
def aLM(A B tab:az)(sz:Nat):Bool:=aFh sz (A++B)&&aG8 A B sz
def TR{tab:az}{n:Nat}:∀ {l:az},(∀ j∈l,dH (dM tab n) j=false)->wB tab n l=true
 | [],_=>rfl
 | j::r,h=>by unfold wB;rw [h j (Ao ..),TR λ k a=>h k (Av _ a)];rfl
def Z1(n:Nat):∀ l:az,RH n l=l.erase n
 | []=>rfl
 | j::r=>by unfold RH;rw [List.erase_cons,Z1 n r];simp
def I9{tab b:az}{f:Nat->Prop}{n:Nat}(d:wB tab n b=true):∀ {l:az},BT tab b f l->n∈l->f n
 | [],_,h=>by cases h
 | j::r,h,a=>by
  unfold BT at h;by_cases e:n=j
  .grind
  .have a:=(Aw.1 a).resolve_left e;cases c:wB tab j b with
   | true=>rw [c] at h;exact I9 d h.2 a
   | false=>rw [c] at h;exact I9 d h a
def I8{tab a:az}{f:Nat->Prop}:∀ {l:az},(∀ j∈l,wB tab j a=false)->BT tab a f l
 | [],_=>trivial
 | j::r,h=>by unfold BT;rw [h j (Ao ..)];exact I8 λ k b=>h k (Av _ b)
def M8{A B:az}:∀ {n:Nat},aG8 A B n=true->∀ i,i<n->i∈A\/i∈B
 | 0,_,i,hi=>by omega
 | n+1,h,i,hi=>by
  simp only [aG8,Af,Fl,oK] at h;by_cases e:i=n
  .grind
  .exact M8 h.2 i o_
def LN{sz:Nat}:∀ {l:az},aFh sz l=true->l.Nodup/\∀ i∈l,i<sz
 | [],_=>⟨Hz,λ i h=>by cases h⟩
 | n::r,h=>by
  simp only [aFh,Af,Df,Kb] at h;obtain ⟨h1,b⟩:=LN h.2;refine ⟨Cl.2 ⟨λ hm=>?_,h1⟩,λ i a=>?_⟩
  .have:=oK.2 hm
   grind
  grind
def L9{A tab:az}{n t:Nat}:∀ {l:bg} {k:Nat},aCh A tab n t k l=false->∀ (i:Nat) p,l[i]? =some p->p.dst=some t->(k+i)∈A->dH (dM tab n) (k+i)=true
 | [],_,_,i,p,hi,_,_=>by simp at hi
 | q::r,k,h,i,p,hi,hd,ha=>by
  simp only [aCh,Ks] at h;cases i with
  | zero=>
   simp at hi;subst hi;have h1:=h.1;rw [hd] at h1;dsimp only at h1;rw [Nm,Bw,show xT k A=true from oK.2 ha,Bw] at h1
   grind
  | succ i=>
   have:=L9 (k:=k+1) h.2 i p (by simp_all) hd (by grind)
   grind
def DF{A:az}{t:Nat}:∀ {l:bg} {k:Nat},PX A t k l=false->∀ (i:Nat) p,l[i]? =some p->(k+i)∈A->p.dst≠some t
 | [],_,_,i,p,hi,_=>by simp at hi
 | q::r,k,h,i,p,hi,ha=>by
  simp only [PX,Ks] at h;cases i with
  | zero=>
   simp at hi;subst hi;intro hd;have h1:=h.1;rw [hd] at h1;dsimp only at h1;rw [Nm,Bw] at h1;have:=oK.2 (show k∈A from ha)
   grind
  | succ i=>exact DF (k:=k+1) h.2 i p (by simp_all) (by grind)
def aA5{A:az}{t:Nat}:∀ {l:bg} {k:Nat},PX A t k l=true->∃ (i:Nat) (p:Oper),l[i]? =some p/\(k+i)∈A/\p.dst=some t
 | [],_,h=>by cases h
 | q::r,k,h=>by
  simp only [PX,Fl] at h;rcases h with h | h
  .split at h
   .rename_i d hd;rw [Af,oK,Nat.beq_eq] at h;exact ⟨0,q,rfl,h.2,by rw [hd,h.1]⟩
   .cases h
  .obtain ⟨i,p,h1,a,h3⟩:=aA5 h;exact ⟨i+1,p,by simp_all,by grind,h3⟩
def S0{E:Env}{A tab:az}{all:bg}{fr:ar}{ac:au}:∀ {U:az},A7 E A tab all fr ac U->∀ i∈U,∃ p d,all[i]? =some p/\p.guard=none/\p.dst=some d/\
  eop E (gK E p.dst) (aR ac) (aB ac) (evP A tab all i fr) p.op p.type= .val (bG fr d)
 | [],_,i,a=>by cases a
 | j::r,h,i,a=>by
  rcases Aw.1 a with rfl | a
  .have h1:=h.1;split at h1
   .rename_i p hp;split at h1
    .rename_i b;split at h1
     .rename_i d hd;exact ⟨p,d,oH hp,b,hd,h1⟩
     grind
    grind
   grind
  .exact S0 h.2 i a
def MZ{tab:az}{n i:Nat}:∀ {U:az},i∈U->dH (dM tab n) i=false->i∈BV tab n U
 | [],h,_=>by cases h
 | j::r,h,ht=>by
  unfold BV;rcases Aw.1 h with rfl | h
  .grind
  .have:=MZ h ht
   grind
def aDs{E:Env}{A tab:az}{all:bg}{K:ar->au->Prop}{Kp:(Nat->aa)->aa->au->Prop}{F a U:az}{fr:ar}{ac:au}(h:GD E A tab all K Kp F a U fr ac):A7 E A tab all fr ac U:=by
 cases F with
 | nil=>exact h.1
 | cons n r=>exact h.1
def MG{tab:az}{n j:Nat}(a:dH (dM tab n) j=true):∀ {l:az},j∈l->wB tab n l=false
 | k::r,h=>by
  unfold wB;rcases Aw.1 h with e | h
  .grind
  .rw [MG a h,Bl]
def QP{E:Env}{A tab:az}{all:bg}{K:ar->au->Prop}{Kp:(Nat->aa)->aa->au->Prop}:∀ {B U:az} {fr:ar} {ac:au},chB tab B=true->YL E A tab all K Kp B U fr ac->GD E A tab all K Kp B B U fr ac
 | [],_,_,_,_,h=>h
 | n::r,U,fr,ac,hb,h=>by
  simp only [chB,Af,Cb] at hb;refine ⟨h.1,?_⟩
  have rest:BT tab (n::r) (λ a=>match nth all a with
   | none=>False
   | some p=>(match p.guard with
    | some _=>False
    | none=>orF E.P ac (λ v ao=>KD 5 v λ v=>ODL ao λ ao=>Z5 fr p.dst v λ fr=>GD E A tab all K Kp r (RH a (n::r)) (BV tab a U) fr ao) (Kp (gP A all fr))
      (eop E (gK E p.dst) (aR ac) (aB ac) (evP A tab all a fr) p.op p.type))) r:=I8 λ j c=>MG (hb.1 j c) (Ao ..)
  unfold BT;cases wB tab n (n::r) with
  | false=>exact rest
  | true=>
   refine ⟨?_,rest⟩;have h:=h.2;split at h
   .exact h.elim
   .rename_i p hp;split at h
    .exact h.elim
    .rename_i b
     try rw [b]
     try dsimp only
     refine nB (λ v o h=>?_) h;rw [qD,wO,RV] at h⊢;have e:RH n (n::r)=r:=by unfold RH;simp
     rw [e];exact QP hb.2 h
section
variable {rd:Option Nat} {M0:Imm} {ob0:Hs} {ap:au} {w0:World} {sz:Nat} {dfs:List (Nat×ay)} {E:Env} {ops:Array Oper} {Q:Exit->Act->World->Prop} {K:ar->au->Prop} {Kp:(Nat->aa)->aa->au->Prop} {A tab:az}
def SM(M0:Imm)(ob0:Hs)(ap:au)(w0:World)(sz:Nat)(dfs:List (Nat×ay))(ops:Array Oper)(b:az)(fr:ar)(ac:au)(a:Act)(w:World):Prop:=
 ∃ M ob,Ext M0 ob0 ap w0 M ob ac w/\Mem M ob ac w/\(∀ t,(∀ i∈b,∀ p,ops[i]? =some p->p.dst≠some t)->Rep M ob (a.tmps.getD t undef) (bG fr t))/\a.tmps.size=sz/\dK w0 w M ob a.defers dfs/\ob0.length<=ac.length
def QK{a:Array Bool}{j:Nat}(h:j∈Eh .any ops a)(e:a.size=ops.size):j<ops.size/\a.getD j false=false:=by obtain ⟨c,q,d,_⟩:=mem_ready.1 h;have b:=(Fi.1 d).1;rw [Bo,Hk o_] at c⊢;exact ⟨b,by simpa using c⟩
def yR(c:TabSp ops tab){a:Array Bool}(b:a.size=ops.size):∀ (n j:Nat),j<n->j<ops.size->a.getD j false=false->Eh .any ops a≠[]
 | 0,j,h,_,_=>by omega
 | n+1,j,h,hj,hl=>λ f=>by
  obtain ⟨p,hp⟩:∃ p,ops[j]? =some p:=⟨ops[j],Hk hj⟩
  have:j∈Eh .any ops a:=mem_ready.2 ⟨by
   grind,p,hp,λ e i d=>by
    have k:=c.back j p hp e i d;cases g:a.getD e.on false with
    | true=>rfl
    | false=>exact absurd f (yR c b n e.on o_ o_ g)⟩
  grind
def aBX(hE:ae E)(ht:TabSp ops tab)(hd:∀ (i:Nat) p,ops[i]? =some p->∀ d,p.dst=some d->d<sz)
  (hp:∀ g v ac ch a w,Kp g v ac->PP M0 ob0 ap w0 sz dfs g v ac ch a w->Q (.panic ch) a w) (hq:∀ fr ac a w,K fr ac->SS M0 ob0 ap w0 sz dfs fr ac a w->Q .normal a w):
  ∀ (H:Nat) (b:Array Bool) (F m z U:az) (fr:ar) (ac:au) (a:Act) (w:World),F.length=m.length->H=m.length+z.length->b.size=ops.size->qR tab b->
   (∀ i,i<ops.size->(b.getD i false=false↔i∈m\/i∈z))->(m++z).Nodup->(∀ i∈m,i<ops.size)->(∀ i∈z,i∈A/\i∈U/\i<ops.size)->
   GD E A tab ops.toList K Kp F m U fr ac->SM M0 ob0 ap w0 sz dfs ops z fr ac a w->wpAnyIn (fen rd) 0 E.P .any ops Q H b a w:=by
 intro H;induction H with
 | zero=>
  intro b F m z U fr ac a w hF hf O hc c B T G h hs;have e1:m=[]:=Bc o_;have e2:z=[]:=Bc o_;subst e1 e2;obtain rfl:=Bc hF;refine ⟨Ib.2 λ j k=>?_,hq fr ac a w h.2 ?_⟩
  .obtain ⟨h1,W⟩:=QK k O;rcases (c j h1).1 W with q | q<;>cases q
  .obtain ⟨M,ob,Y,hm,N,r⟩:=hs;exact ⟨M,ob,Y,hm,λ t=>N t (λ i hi=>absurd hi Hu),r⟩
 | succ H ih=>
  intro b F m z U fr ac a w hF hf O hc c B T G h hs;refine ⟨λ h0=>?_,λ i hi=>?_⟩
  .exfalso;cases m with
   | cons n r=>
    have hn:=T n (Ao ..);exact yR ht O (n+1) n o_ hn ((c n hn).2 (.inl (Ao ..))) h0
   | nil=>
    cases z with
    | nil=>simp at hf
    | cons n r=>
     have hn:=(G n (Ao ..)).2.2;exact yR ht O (n+1) n o_ hn ((c n hn).2 (.inr (Ao ..))) h0
  .obtain ⟨hilt,hil⟩:=QK hi O;obtain ⟨hc',V⟩:=hc.step ht hi;obtain ⟨M,ob,Y,hm,N,J,hdf,h0⟩:=hs;have hl:=hm.len;have hev:∀ x,Rep M ob (a.eval x) (evP A tab ops.toList i fr x):=λ x=>by
    cases x with
    | const v=>exact wI v
    | global g=>exact .undef _
    | func f=>exact .func (.func f) [] [] [] [] rfl rfl (λ i v a h=>by simp at h) (λ i v a h=>by simp at h)
    | tmp t=>
     show Rep M ob _ (bif aCh A tab i t 0 ops.toList then .undef else bG fr t);cases hh:aCh A tab i t 0 ops.toList with
     | true=>exact .undef _
     | false=>
      refine N t λ j k p hp s=>?_;have h1:=L9 hh j p q_ s (by rw [Bx];exact (G j k).1);rw [Bx] at h1;have W:=V j h1;rw [(c j (G j k).2.2).2 (.inr k)] at W;cases W
   have L:∀ (Bs' UA':az),(∀ j,(j∈Bs'\/j∈UA')↔(j∈m\/j∈z)/\j≠i)->∀ j,j<ops.size->((b.setIfInBounds i true).getD j false=false↔j∈Bs'\/j∈UA'):=λ Bs' UA' he j k=>by
    rw [he j];by_cases e:j=i
    .subst e;simp;omega
    .rw [getD_set_ne false (Fa e),c j k];simp [e]
   have Z:(b.setIfInBounds i true).size=ops.size:=by simp;omega
   rcases (c i hilt).1 hil with hB | hA
   .-- one of the row
    cases F with
    | nil=>rw [Bc hF.symm] at hB;cases hB
    | cons n0 F=>
     have hfree:wB tab i m=true:=TR λ j k=>by
      cases hq2:dH (dM tab i) j with
      | false=>rfl
      | true=>
       have W:=V j hq2;rw [(c j (T j k)).2 (.inl k)] at W;cases W
     obtain ⟨hok,h⟩:=h;have h:=I9 hfree h hB;split at h
     .exact h.elim
     .rename_i p hnp;have I:ops[i]? =some p:=by simpa using oH hnp
      split at h
      .exact h.elim
      .rename_i hg
       have h:orF E.P ac (λ v ao=>GD E A tab ops.toList K Kp F (RH i m) (BV tab i U) (oE fr p.dst v) ao) (Kp (gP A ops.toList fr)) (eop E (gK E p.dst) (aR ac) (aB ac) (evP A tab ops.toList i fr) p.op p.type):=
        nB (λ v o h=>by rw [qD,wO,RV] at h;exact h) h
       have hw:Fo p (yielded ops a.tmps)=true:=by unfold Fo;rw [hg]
       unfold wpOpIn;rw [I];dsimp only;rw [if_pos hw];refine (FF hE hm hev h).wpIn (pT h) (λ u w' ⟨M',ob',L',D,x2,x3⟩=>?_) (λ ch w' ⟨M',ob',L',D,x2,x3⟩=>?_)
       .rcases x3 with ⟨u',v,e,hr,hk⟩ | ⟨ch,v,e,_⟩
        .cases e;have:=D.lens;have:=x2.len;have hndB:m.Nodup:=(Cd.1 B).1;have l:∀ j,j∈m.erase i↔j≠i/\j∈m:=λ j=>hndB.mem_erase_iff;have hlen:(m.erase i).length+1=m.length:=by rw [Ly hB];have:=Mq hB;omega
         have S:i∉z:=λ hb=>(Cd.1 B).2.2 i hB i hb rfl;rw [Z1] at hk
         refine ih (b.setIfInBounds i true) F (m.erase i) z (BV tab i U) _ L' _ w' (by simp at hF;omega) o_ Z hc' (L (m.erase i) z λ j=>?_) ?_ (λ j k=>T j ((l j).1 k).2) (λ j k=>?_) hk
          ⟨M',ob',Y.trans D,x2,λ t hmt=>?_,(fQ _ _ _).1.trans J,(hdf.ext hm D).put,by omega⟩
         .rw [l j];constructor
          .rintro (⟨C,k⟩ | k)
           .exact ⟨.inl k,C⟩
           .exact ⟨.inr k,λ e=>S (e▸k)⟩
          .rintro ⟨k | k,C⟩
           .exact .inl ⟨C,k⟩
           .exact .inr k
         .refine Cd.2 ⟨hndB.erase i,(Cd.1 B).2.1,λ x Y y hy=>?_⟩;exact (Cd.1 B).2.2 x ((l x).1 Y).2 y hy
         .obtain ⟨k1,k2,k3⟩:=G j k;refine ⟨k1,MZ k2 ?_,k3⟩;cases hq2:dH (dM tab i) j with
          | false=>rfl
          | true=>
           have W:=V j hq2;rw [(c j k3).2 (.inr k)] at W;cases W
         .rw [fT];unfold lW;by_cases s:p.dst=some t
          .rw [if_pos s];have hlt:t<a.tmps.size:=J▸hd i p I t s;rw [s];simp only [Act.put];rw [Bo,Fb hlt];exact hr
          .rw [if_neg s];have hold:=(N t hmt).mono D.imm D.hs;cases R:p.dst with
           | none=>exact hold
           | some d=>
            have C:d≠t:=λ e=>s (by rw [R,e]);simp only [Act.put];rw [Bo,Ff C,<-Bo];exact hold
        .cases e
       .rcases x3 with ⟨u',v,e,_⟩ | ⟨ch',v,e,hr,hk⟩
        .cases e
        .cases e;have:=D.lens;have:=x2.len;refine hp _ v L' ch a w' hk ⟨M',ob',Y.trans D,x2,hr,λ t=>?_,J,hdf.ext hm D,by omega⟩;unfold gP;cases hda:PX A t 0 ops.toList with
         | true=>exact .undef _
         | false=>
          exact (N t λ j k q X=>DF hda j q q_ (by rw [Bx];exact (G j k).1)).mono D.imm D.hs
   .-- one that looks
    obtain ⟨k1,k2,k3⟩:=G i hA;obtain ⟨p,d,I,hg,R,hev2⟩:=S0 (aDs h) i k2;have I:ops[i]? =some p:=by simpa using I
    have hor:orF E.P ac (λ v ao=>v=bG fr d/\ao=ac) (λ_ _=>False) (eop E (gK E p.dst) (aR ac) (aB ac) (evP A tab ops.toList i fr) p.op p.type):=by rw [hev2];exact ⟨rfl,rfl⟩
    have hw:Fo p (yielded ops a.tmps)=true:=by unfold Fo;rw [hg]
    unfold wpOpIn;rw [I];dsimp only;rw [if_pos hw];refine (FF hE hm hev hor).wpIn (pT hor) (λ u w' ⟨M',ob',L',D,x2,x3⟩=>?_) (λ ch w' ⟨M',ob',L',D,x2,x3⟩=>?_)
    .rcases x3 with ⟨u',v,e,hr,hk1,hk2⟩ | ⟨ch,v,e,_⟩
     .cases e;subst hk1 hk2;have hlt:d<a.tmps.size:=J▸hd i p I d R;have hnod:z.Nodup:=(Cd.1 B).2.1;have l:∀ j,j∈z.erase i↔j≠i/\j∈z:=λ j=>hnod.mem_erase_iff;have hlen:(z.erase i).length+1=z.length:=by rw [Ly hA];have:=Mq hA;omega
      have S:i∉m:=λ hb=>(Cd.1 B).2.2 i hb i hA rfl
      refine ih (b.setIfInBounds i true) F m (z.erase i) U fr L' _ w' hF o_ Z hc' (L m (z.erase i) λ j=>?_) ?_ T (λ j k=>G j ((l j).1 k).2) h
       ⟨M',ob',Y.trans D,x2,λ t hmt=>?_,(fQ _ _ _).1.trans J,(hdf.ext hm D).put,h0⟩
      .rw [l j];constructor
       .rintro (k | ⟨C,k⟩)
        .exact ⟨.inl k,λ e=>S (e▸k)⟩
        .exact ⟨.inr k,C⟩
       .rintro ⟨k | k,C⟩
        .exact .inl k
        .exact .inr ⟨C,k⟩
      .refine Cd.2 ⟨(Cd.1 B).1,hnod.erase i,λ x Y y hy=>?_⟩;exact (Cd.1 B).2.2 x Y y ((l y).1 hy).2
      .rw [R];simp only [Act.put];by_cases s:d=t
       .subst s;rw [Bo,Fb hlt];exact hr
       .rw [Bo,Ff s,<-Bo];refine (N t λ j k q X=>?_).mono D.imm D.hs;by_cases hji:j=i
        .subst hji;rw [I] at X;cases X;rw [R];simp;omega
        .exact hmt j ((l j).2 ⟨hji,k⟩) q X
     .cases e
    .rcases x3 with ⟨u',v,e,_⟩ | ⟨ch',v,e,hr,hk⟩
     .cases e
     .exact hk.elim
def F8{all:bg}{ac:au}:∀ {l:az} {fr:ar} {k:ar->Prop},DY E A tab all ac l fr k->(∀ i∈l,i∈A)->∃ a,k a/\∀ t,PX A t 0 all=false->bG a t=bG fr t
 | [],fr,k,h,_=>⟨fr,h,λ t _=>rfl⟩
 | i::r,fr,k,h,hA=>by
  unfold DY at h;split at h
  .rename_i p hp;split at h
   .rename_i d hd;split at h
    .rename_i v f;rw [qD,pP] at h;obtain ⟨a,h1,e⟩:=F8 h λ j c=>hA j (Av _ c);refine ⟨a,h1,λ t b=>?_⟩;rw [e t b,xH];have:=DF b i p (by simpa using oH hp) (by grind)
     grind
    grind
   grind
  grind
end
def To.permT{E:Env}{fn:Func}{g:Goal}(hE:ae E)(A B:az){id:Nat}{ops:Array Oper}{ks:bh}{fr:ar}{ac:au}(hst:aLM A B (lN [] ops.toList) ops.size=true)
  (h:DY E A (lN [] ops.toList) ops.toList ac A fr λ fr=>GD E A (lN [] ops.toList) ops.toList (λ fr ac=>To E fn g (.code ks fr ac)) (nH E fn g) B B A fr ac):To E fn g (.code (.code (.region id ops true)::ks) fr ac):=
 .mk λ K M0 ob0 ap w0 a w f hs=>by
  simp only [bO,KI.ok,dU,Af] at K;obtain ⟨⟨F,X⟩,G⟩:=K;have hd:=sE F
  refine KW.code (Q':=QR E fn g M0 ob0 ap w0 ks) ?_ (λ a w h=>h) (λ n a w h=>h) (λ e a w V=>by cases e<;>first | exact .inl rfl | exact .inr ⟨_,rfl⟩ | exact V.elim)
  have l:∀ o v ac n a w,nH E fn g o v ac->PP M0 ob0 ap w0 fn.ntmps E.df o v ac n a w->tQ E fn M0 ob0 ap w0 g (.panic n) a w:=λ o v ac n a w Y l=>FQ Y f l;have I:∀ fr ac a w,To E fn g (.code ks fr ac)->SS M0 ob0 ap w0 fn.ntmps E.df fr ac a w->KW E.rd E.P (tQ E fn M0 ob0 ap w0 g) ks a w:=λ fr ac a w y hs=>y.rec λ y=>y G M0 ob0 ap w0 a w f hs;have R:TabSp ops (lN [] ops.toList):=G5 ops (by grind);refine wpIn_region_any hE.mix ?_;simp only [aLM,Af] at hst;obtain ⟨Z,N⟩:=hst;obtain ⟨S,C⟩:=LN Z;have J:=M8 N;obtain ⟨z,h1,q⟩:=F8 h λ i b=>b;have m:(B++A).Nodup:=List.perm_append_comm.nodup_iff.1 S;have c:ops.size=B.length+A.length:=by
   have u:(B++A).length<=ops.size:=by
    have:=(m.sublist (Ju _))
    have h3:(B++A).Subset (Du ops.size):=λ i b=>Hx.2 (C i (by rw [Bd] at b⊢;exact b.symm));have:=m.length_le_of_subset h3;simpa using this
   have s:ops.size<=(B++A).length:=by
    have h3:(Du ops.size).Subset (B++A):=λ i b=>by rw [Bd];exact (J i (Hx.1 b)).symm
    have:=List.nodup_range.length_le_of_subset h3;simpa using this
   simp at u s;omega
  obtain ⟨M,ob,O,hm,U,T⟩:=hs.draw;have k:∀ i,i<ops.size->(Gh ops.size false).getD i false=false:=λ i b=>by rw [Bo,Hk q_];simp
  refine aBX (Q:=QR E fn g M0 ob0 ap w0 ks) hE R (λ i p b d x=>hd p (Az (i:=i) q_) d x) (λ o v ac n a w h1 q=>l o v ac n a w h1 q) (λ fr ac a w h1 q=>I fr ac a w h1 q) ops.size _ B B A A z ac a _ rfl c s_ (λ j i r _=>?_)
   (λ i b=>⟨λ_=>(J i b).symm,λ_=>k i b⟩) m (λ i b=>C i (Ct _ b)) (λ i b=>⟨b,b,C i (Cf _ b)⟩) h1 ⟨M,ob,O,hm,λ t D=>?_,T⟩
  .by_cases L:j<ops.size
   .rw [k j L] at r;cases r
   .rw [Bo,Mm q_] at r;cases r
  .rw [q t ?_]
   .exact U t
   .cases H:PX A t 0 ops.toList with
    | false=>rfl
    | true=>
     obtain ⟨i,p,u,s,W⟩:=aA5 H;rw [Bx] at s;exact absurd W (D i s p (by simpa using u))
def F9{E:Env}{A tab:az}{all:bg}{ac:au}{k b:ar->Prop}(a:∀ fr,k fr->b fr):∀ {l:az} {fr:ar},DY E A tab all ac l fr k->DY E A tab all ac l fr b
 | [],fr,h=>a fr h
 | i::r,fr,h=>by
  unfold DY at h⊢;split at h
  .rename_i p hp;split at h
   .rename_i d hd;split at h
    .rename_i v c;simp only [hd,c,qD,pP] at h⊢;exact F9 a h
    omega
   omega
  omega
def To.permAt{E:Env}{fn:Func}{g:Goal}(hE:ae E)(A B:az){id:Nat}{ops:Array Oper}{ks:bh}{fr:ar}{ac:au}(hst:aLR A B (lN [] ops.toList) ops.size=true)
  (h:DY E A (lN [] ops.toList) ops.toList ac A fr λ fr=>YL E A (lN [] ops.toList) ops.toList (λ fr ac=>To E fn g (.code ks fr ac)) (nH E fn g) B A fr ac):To E fn g (.code (.code (.region id ops true)::ks) fr ac):=by
 unfold aLR at hst;rw [Af] at hst;exact To.permT hE A B hst.1 (F9 (λ fr h=>QP hst.2 h) h)
def aY{p q:Prop}(h:p):(true=true->p)/\(true=false->q):=⟨λ_=>h,λ h=>absurd h d_⟩
def aN{p q:Prop}(h:q):(false=true->p)/\(false=false->q):=⟨λ h=>absurd h d_,λ_=>h⟩
def aT{a p q:Prop}[Decidable a](h:decide a=true->p)(b:a:=by omega):(decide a=true->p)/\(decide a=false->q):=⟨h,λ h=>absurd b (of_decide_eq_false h)⟩
def aF{a p q:Prop}[Decidable a](h:decide a=false->q)(b:¬ a:=by omega):(decide a=true->p)/\(decide a=false->q):=⟨λ h=>absurd (of_decide_eq_true h) b,h⟩
def aD{p q:Prop}(h:q)(hp:p:=by first | decide | omega):p/\q:=⟨hp,h⟩
def aL{p q:Prop}(h:q)(hp:p:=by repeat (first | exact trivial | refine Ae rfl ?_)):p/\q:=⟨hp,h⟩
def aJ{k:IntKind}{n:Int}{p q:Prop}(h:p)(h1:dA k<=n:=by simp only [dA];omega)(a:n<=bN k:=by simp only [bN];omega):(inR k n/\p)\/q:=.inl ⟨⟨h1,a⟩,h⟩
def gW{E:Env}{fn:Func}{g:Goal}{st:St}(hE:ae E)(h:cH E fn g (To E fn g) 100 st):To E fn g st:=dF hE 100 h
def gN{E:Env}{fn:Func}{g:Goal}{st:St}(hE:ae E)(h:cH E fn g (To E fn g) 100 st)(hs:aAf st=true:=by rfl):To E fn g st:=goN hE 100 hs h
def cT{E:Env}{f:FuncId}{fn:Func}{args:ay}{ac:au}{g:Goal}(h:okL args->To E fn g (.code [.code (eK fn)] (frA 0 args) ac))(e:E.df=[]:=by rfl)(k:E.P.funcs[f]? =some fn:=by rfl)(i:fn.body=some (eK fn):=by rfl)
  (a:qS E.P f:=by exact λ_ _=>by rfl) (b:dU fn.ntmps (eK fn)=true:=by decide+kernel) (l:Gd args.length fn.ntmps=true:=by rfl) (d:yO ac=true:=by rfl) (j:ac.length=g.n0:=by rfl) (c:E.rd=none:=by rfl):aA E.P f args ac g.res g.obs:=
 aA.to e k i a b l d j h c
def HY(z:aa):OR->Prop
 | .val v=>v=z
 | .need p r=>p/\HY z r
 | .idx n f=>∃ i:Nat,n=(i:Int)/\HY z (f i)
 | .elem xs i f=>∃ x,xs[i]? =some x/\HY z (f x)
 | .find es key f=>HY z (f (cG es key))
 | _=>False
def SZ(k:aa->Prop):OR->Prop
 | .val v=>k v
 | .need p r=>p/\SZ k r
 | .idx n f=>∃ i:Nat,n=(i:Int)/\SZ k (f i)
 | .elem xs i f=>∃ x,xs[i]? =some x/\SZ k (f x)
 | .find es key f=>∃ o,cG es key=o/\SZ k (f o)
 | _=>False
def KZ(E:Env)(A tab:az)(all:bg)(ac:au):az->ar->(ar->Prop)->Prop
 | [],fr,k=>k fr
 | i::r,fr,k=>match nth all i with
  | some p=>(match p.dst with
   | some d=>SZ (λ v=>KD 5 v λ v=>HC fr d v λ fr=>KZ E A tab all ac r fr k) (eop E (gK E p.dst) (aR ac) (aB ac) (evP A tab all i fr) p.op p.type)
   | none=>False)
  | none=>False
section
variable {rd:Option Nat} {M0:Imm} {ob0:Hs} {ap:au} {w0:World} {sz:Nat} {dfs:List (Nat×ay)} {E:Env} {ops:Array Oper} {Q:Exit->Act->World->Prop} {K:ar->au->Prop} {Kp:(Nat->aa)->aa->au->Prop} {A tab:az}
end
end Go.AW
