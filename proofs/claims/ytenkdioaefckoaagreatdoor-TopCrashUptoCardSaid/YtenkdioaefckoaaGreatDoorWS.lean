/- Part 4 of what the statement rests on. -/
import Derived.Test.YtenkdioaefckoaaGreatDoorWR
set_option linter.all false
open List renaming length->Z
open Bool renaming true->O,false->S
open Option renaming some->X,none->U
open Array renaming getElem?_eq_getElem->Im
open Bool renaming and_eq_true->Af,or_eq_false_iff->Kt,or_eq_true->Fg,true_and->Bt
open Go.Builtin renaming append_->Cr
open Go.Region renaming ready->Dy,wanted->Gv
open Go.World renaming block_lt_of_cell?->Ct,cell?->Ku,cell?_of_block->Cs,ownsRow_nil->Hh,putObj_heap_other->Gi,putObj_heap_same->Ml
open List renaming getElem?_append_left->Ai,getElem?_append_right->Ar,getElem?_eq_some_iff->Ad,getElem?_map->Bw,getElem?_set_ne->Bf,getElem?_set_self->Ay,mem_append->Bx,mem_cons->Ba,mem_map->Co,mem_of_getElem?->Ax,mem_singleton->Dl,prefix_refl->Cp,replicate->Ak
open Nat renaming beq->Au,beq_refl->Ng,ble->Fv,blt->Fl,blt_eq->Ka,le_refl->Bc,le_trans->Cl,lt_of_lt_of_le->Ep
namespace Go.AW
open Go.RowKit
open Classical
def cJ(l:Nat)(R:Loop):BInv where
 inv _ bs w:=bs=[l]/\w.heap[l]? =X (.loop R)
 mono:=λ_ _ hb ⟨h1,h2⟩=>⟨h1,hb _ _ (by rw[h1];simp) h2⟩
theorem eU(bs:a6):OK (fA bs)=bs:=D0 (hs:=[fA bs]) rfl
theorem iX{hs:bb}{g:Nat}{I:BInv}{k b:Nat}:aK [hs] [.bun g I] k b↔k=0/\b∈blk hs:=by
 constructor
 .rintro ⟨c,hs',a,f,d,e⟩;cases k with
  |zero=>grind
  |succ k=>simp at a
 .rintro ⟨rfl,h⟩;exact⟨_,hs,rfl,rfl,rfl,h⟩
section
variable {M:Imm} {ob:Hs} {ac:aw} {w:World}
def Mem.recAt(h:Mem M ob ac w){k l g:Nat}{R:Loop}(a:ac[k]? =X (.bun g (cJ l R))):∃hs,ob[k]? =X hs/\Z hs=g+1/\hs[g]? =X (fA [l])/\blk hs=[l]/\w.heap[l]? =X (.loop R):=by
 obtain⟨hs,d,hl,bs,c,b,rfl,e⟩:=h.obj k _ a
 grind[eT,eU]
def Mem.recTurn(h:Mem M ob ac w){k l g:Nat}{R:Loop}(i:ac[k]? =X (.bun g (cJ l R)))(a:Loop):
  Mem M ob (ac.set k (.bun g (cJ l a))) (w.putObj l (.loop a))/\Ext M ob ac w M ob (ac.set k (.bun g (cJ l a))) (w.putObj l (.loop a)):=by
 obtain⟨hs,j,hl,s,m,n⟩:=h.recAt i;have d:=gD n
 have:=h.turn (M':=M) (w':=w.putObj l (.loop a)) (x':=.bun g (cJ l a)) (hs':=hs) i j (Cp _) (λe=>by cases e) (λ_ _ _ h=>h) (λ_ _ _ h=>.inl h) (λc o y p=>by
   obtain⟨u,f,x,v⟩:=h.imm c o y p;have q:c≠l:=λe=>by subst e;unfold Ku at f;dsimp only at f;rw[n]at f;cases f
   grind[Cs,Gi])
  (λc _ r=>Gi λe=>r ⟨rfl,by simp_all⟩) rfl rfl rfl s_ (λ_=>⟨hl,[l],s,λb m=>by
   rw[Dl.1 m]
   exact⟨_,Ml d,rfl⟩,rfl,Ml d⟩)
  (λ_ c t=>⟨.inl ⟨rfl,t⟩,by simp_all⟩)
 rw[gF j]at this
 grind
def Mem.drop(h:Mem M ob ac w)(k:Nat):Mem M ob (ac.set k .dead) w/\∀{i b:Nat},aK ob (ac.set k .dead) i b->aK ob ac i b:=by
 have a:YT (ac.set k .dead) ac:=⟨by simp,λi=>by
  by_cases d:i=k
  .subst d
   grind
  grind⟩
 exact⟨h.weak a,λc=>a.alive c⟩
end
section
variable {E:Env} {fn:Func} {g:Goal}
def To.beginR{l k gg:Nat}{R:Loop}{ks:bg}{fr:au}{ac:aw}(i:E.rd=X l)(s:aC ac k= .bun gg (cJ l R))(x:R.state= .ready)
  (h:To E fn g (.code ks fr (bQ ac k (.bun gg (cJ l {R with state:=.busy}))))):To E fn g (.code (.beginR::ks) fr ac):=
 .mk λj M0 ob0 aq w0 a w hst hs=>by obtain⟨M,ob,o,hm,f,p,v,y⟩:=hs;have c:=bK s s_;obtain⟨t,n⟩:=hm.recTurn c {R with state:=.busy};obtain⟨_,_,_,_,_,d⟩:=hm.recAt c;rw[aQ c]at h;have key:=(h.rec (motive:=λ_=>BT E fn g _) λh=>h) (by simpa[bJ,KI.ok]using j) M0 ob0 aq w0 a _ hst ⟨M,ob,o.trans n,t,f,p,v.ext hm n,by simp;omega⟩;intro b cs m;obtain⟨e,u,w',q,r⟩:=key b cs m;exact⟨e,u,w',q,.of_steps (.one (kC _ _ _) (stepR_beginRound (m.trans i) (run_beginRound d x))) r⟩
end
def kJ(ob0:Hs)(fr:au)(R:Loop)(L:aw):BInv where
 inv M bs w:=∃ob,dH ob0 ob/\Z ob=Z L/\(∀(k:Nat) c,L[k]? =X c->∃hs,ob[k]? =X hs/\iM M ob w hs c)/\(∀k k' b,aK ob L k b->aK ob L k' b->k=k')/\
  (∀b,b∈bs↔ ∃k,aK ob L k b)/\∀t,Rep M ob (R.tmps.getD t undef) (aX fr t)
 mono:=λhM hn hb ⟨ob,h1,h2,h3,h4,h5,h6⟩=>⟨ob,h1,h2,λk c hc=>by
  obtain⟨hs,hh,hok⟩:=h3 k c hc
  exact⟨hs,hh,hok.mono hM (dH.refl _) (λb p1 p2=>hn b ((h5 b).2 ⟨k,(cW hc hh).2 ⟨p1,p2⟩⟩)) (λb c' p1 p2=>hb b c' ((h5 b).2 ⟨k,(cW hc hh).2 ⟨p1,p2⟩⟩))⟩,h4,h5,λt=>(h6 t).monoM hM⟩
def Mem.unpack{M:Imm}{ob:Hs}{ac:aw}{w:World}{k g:Nat}{ob0:Hs}{fr:au}{R:Loop}{L:aw}(hm:Mem M ob ac w)(f:ac[k]? =X (.bun g (kJ ob0 fr R L))):
  ∃hs a,ob[k]? =X hs/\Z hs=g+1/\dH ob0 a/\Mem M a L w/\(∀b,b∈blk hs↔ ∃k,aK a L k b)/\∀t,Rep M a (R.tmps.getD t undef) (aX fr t):=by
 obtain⟨hs,e,hl,bs,h,d,a,h1,j,h3,p,c,m⟩:=hm.obj k _ f;have l:blk hs=bs:=(eT hl h).trans (eU _);refine⟨hs,a,e,hl,h1,⟨hm.imm,j,h3,λi b n=>?_,p⟩,λb=>by rw[l];exact c b,m⟩;obtain⟨o,q,_⟩:=d b ((c b).2 ⟨i,n⟩);exact gD q
def Mem.pack{M:Imm}{a:Hs}{L:aw}{w:World}{ob0:Hs}{fr:au}{R:Loop}(hm:Mem M a L w)(e:dH ob0 a)(d:∀t,Rep M a (R.tmps.getD t undef) (aX fr t)):
  ∃bs,(∀b,b∈bs↔ ∃k,aK a L k b)/\∀(ob:Hs) (hs:bb),iM M ob w (hs++[fA bs]) (.bun (Z hs) (kJ ob0 fr R L)):=by
 let bs:=(List.range w.heap.size).filter λb=>decide (∃k,aK a L k b)
 have c:∀b,b∈bs↔ ∃k,aK a L k b:=λb=>by simp only[bs,List.mem_filter,List.mem_range,bo];exact⟨λh=>h.2,λ⟨k,h⟩=>⟨hm.lt k b h,k,h⟩⟩
 refine⟨bs,c,λob hs=>⟨by simp,bs,by simp,λb f=>?_,a,e,hm.len,hm.obj,hm.inj,c,d⟩⟩;obtain⟨k,g⟩:=(c b).1 f;exact hm.alive_heap g
theorem qM(hs:bb)(v:Value):blk (hs++[v])=OK v:=by unfold blk;simp
def aFu{M:Imm}{ob:Hs}{tmps:Array Value}{fr:au}{p:Nat}{v:Value}{x:aa}(h:∀t,Rep M ob (tmps.getD t undef) (aX fr t))(b:Rep M ob v x)(hp:p<tmps.size):
  ∀t,Rep M ob ((tmps.setIfInBounds p v).getD t undef) (aX (iI fr p x) t):=by
 intro t;have:=nG (a:={tmps:=tmps,defers:=[]}) (d:=X p) h b (λc e=>by grind) t;rw[show aX (iI fr p x) t=jZ (aX fr) (X p) x t from congrFun (fH fr (X p) x) t];exact this
def mU(R:Loop)(b:Bool):Loop:=if b then R else {R with state:=.done,pending:=X .ret}
def aCr{R:Loop}(h1:R.state= .ready)(h:R.pending=U):({{R with state:=.busy} with state:=if(U:Option Code).isNone then .ready else .done,pending:=U}:Loop)=mU R true:=by obtain⟨a,b,c,d,e,f,g,i⟩:=R;have h1:a= .ready:=h1;have h:b=none:=h;subst h1 h;rfl
def iF{E:Env}{fn:Func}{ob0:Hs}{l k n p gg:Nat}{R:Loop}{as F:Code}{fr:au}{L L':aw}{x:Int}{b:Bool}(Y:R.params= #[p])(At:R.state= .ready)(V:R.pending=U)(has:R.assign=as)(hbd:R.body=F)(Be:R.tmps.size=fn.ntmps)
  (hp:Fl p fn.ntmps=O) (hdf:E.df=[]) (hco:(dR fn.ntmps as&&dR fn.ntmps F)=O) (hk:aC L k= .bun gg (cJ l R)) (hn:Z L=n) (hn':Z L'=n) (hk':aC L' k= .bun gg (cJ l {R with state:=.busy}))
  (h:inR .i64 x->To {E with rd:=X l} fn (.keep n (.ret (.bool b)) L') (.code [.code as,.beginR,.code F] (iI fr p (.int .i64 x)) L)):
  bN E.P (.yield l) [.int .i64 x] [.bun 0 (kJ ob0 fr R L)] (.ret (.bool b)) [.bun 1 (kJ ob0 fr R (L'.set k (.bun gg (cJ l (mU R b)))))]:=by
 intro M ob w g hm hr;obtain⟨hs,f,T,hl,hle,r,G,As⟩:=hm.unpack (k:=0) rfl;have hob:ob=[hs]:=by
  have:=hm.len
  match ob,this,T with
  |[y],_,T=>simp at T;rw[T]
 subst hob;obtain⟨v,rfl⟩:∃v,g=[v]:=by
  have:=hr.1
  match g,this with
  |[v],_=>simp
 have hv:Rep M [hs] v (.int .i64 x):=hr.2 0 v _ rfl rfl;obtain⟨rfl,N⟩:=hv.int_inv;obtain⟨_,_,_,_,_,hloop⟩:=r.recAt (bK hk s_);have hpl:p<R.tmps.size:=by rw[Be];simpa[Ka]using hp
 have Am:(R.params.zip #[Go.Value.int .i64 x]).foldl (λtmps (t,a)=>tmps.setIfInBounds t a) R.tmps=R.tmps.setIfInBounds p (.int .i64 x):=by rw[Y];simp
 refine⟨R.fn,R.tmps.setIfInBounds p (.int .i64 x),as,F,?_,trivial,λc cs _=>?_⟩
 .grind [run_yield]
 let b0:Frame:={(default:Frame)with fn:=R.fn,kind:=.normal,roundOf:=X l}
 let a0:Act:={tmps:=R.tmps.setIfInBounds p (.int .i64 x),defers:=[]}
 have W:Frame.round l R.fn (R.tmps.setIfInBounds p (.int .i64 x)) as F .normal=b0.atR a0 (iJ [.code as,.beginR,.code F]):=by rfl
 rw[W]
 have hst:sD (.keep n (.ret (.bool b)) L') f:=⟨by rw[r.len];exact hn,λh=>by cases h⟩
 have hok:bJ fn.ntmps [.code as,.beginR,.code F]=true:=by simp only[bJ,KI.ok,Bool.and_true,Bt];omega
 obtain⟨h0⟩:=h N;obtain⟨e,a',w',I,A⟩:=h0 hok M f L w a0 w hst ⟨M,f,Ext.refl _ _ _ _,r,aFu As (.int _ _ N) hpl,by show(R.tmps.setIfInBounds p _).size=_;simp;omega,by show dD w w M f [] E.df;rw[hdf];exact .nil,by rw[r.len];omega⟩ b0 (c::cs) rfl
 have fin:∀{s:Bool} {w':World} {st:LoopState} {jump:Option Code},(jump.isNone=s)->({{R with state:=.busy} with state:=if jump.isNone then .ready else .done,pending:=jump}:Loop)=mU R s->RR M f L w (.keep n (.ret (.bool b)) L') (.returned (.bool s)) w'->
   s=b/\∃D,(Instr.endRound l jump).run E.P w'= .ok (.bool s) D/\∃M' ob',Ext M [hs] [.bun 0 (kJ ob0 fr R L)] w M' ob' [.bun 1 (kJ ob0 fr R (L'.set k (.bun gg (cJ l (mU R b)))))] D/\Mem M' ob' [.bun 1 (kJ ob0 fr R (L'.set k (.bun gg (cJ l (mU R b)))))] D:=by
  intro s w' st jump K hR ⟨M',m,C,z,x3⟩;have e:s=b:=by have:=Rep.bool_inv (M:=M') (ob:=m) (b:=b) x3;simpa using this
  subst e;refine⟨rfl,?_⟩;have z:Mem M' m L' w':=z;have C:Ext M f L w M' m L' w':=C;have J:=bK hk' s_;obtain⟨_,_,_,_,_,u⟩:=z.recAt J;obtain⟨m1,m2⟩:=z.recTurn J (mU R s);have d:=run_endRound (P:=E.P) jump u;rw[hR,K]at d;refine⟨_,d,M',?_⟩;have An:=C.trans m2;obtain⟨bs,Q,hpk⟩:=m1.pack (fr:=fr) (R:=R) (hle.trans An.hs) λt=>(As t).mono An.imm An.hs;have hal':∀{k b},aK [hs++[fA bs]] [.bun 1 (kJ ob0 fr R (L'.set k (.bun gg (cJ l (mU R s)))))] k b->b∈bs:=λ{k b} H=>by grind[iX,qM,eU]
  have h1:Z hs=1:=hl;refine⟨[hs++[fA bs]],⟨An.imm,λb o y hy=>?_,λi hs' hi=>?_,An.os,An.tape,An.output,An.size,λb B hn=>An.keep b B λi H=>hn 0 (iX.2 ⟨rfl,(G b).2 ⟨i,H⟩⟩),λi b H=>?_⟩,⟨m1.imm,rfl,λi c hc=>?_,λi b H=>?_,λi j b H B=>?_⟩⟩
  .rcases An.new b o y hy with q|q|q
   .exact .inl q
   .omega
   .exact .inr (.inr ⟨0,iX.2 ⟨rfl,(G b).2 q⟩⟩)
  .grind
  .have B:b∈bs:=by grind[iX,qM,eU]
   obtain⟨j,K⟩:=(Q b).1 B;rcases An.fresh j b K with q|q
   .exact .inl ⟨0,iX.2 ⟨rfl,(G b).2 q⟩⟩
   omega
  .grind
  .have B:b∈bs:=by grind[iX,qM,eU]
   obtain⟨j,K⟩:=(Q b).1 B;exact m1.lt j b K
  .rw [(iX.1 H).1,(iX.1 B).1]
 cases e with
 |normal=>
  obtain⟨rfl,D,d,M',ob',C,z⟩:=fin (st:=.ready) (jump:=U) rfl (aCr At V) I;exact⟨.returned (.bool O),D,⟨M',ob',C,z,.bool _⟩,StepsIn.trans A (.one (kC _ _ _) (stepR_round_end rfl rfl d))⟩
 |ret=>
  obtain⟨rfl,D,d,M',ob',C,z⟩:=fin (st:=.ready) (jump:=X .ret) rfl rfl I;obtain⟨k₁,hs'⟩:=A.2 rfl;exact⟨.returned (.bool S),D,⟨M',ob',C,z,.bool _⟩,StepsIn.trans hs' (.one (kC _ _ _) (stepR_round_ret rfl rfl d))⟩
 |panic ch=>exact I.elim
 |exit id=>exact I.elim
 |goto t=>exact I.elim
 |outgrown=>exact I.elim
def P8:Code->Option (Code×Code)
 |.rangeFunc _ _ as c=>X (as,c)
 |.seq a b=>(match P8 a with|some x=>X x|none=>P8 b)
 |.cond _ a b=>(match P8 a with|some x=>X x|none=>P8 b)
 |.block _ b=>P8 b
 |.loop b=>P8 b
 |_=>U
def rfA(fn:Func):Code:=match P8 (dS fn)with|some p=>p.1|none=>.skip
def rfB(fn:Func):Code:=match P8 (dS fn)with|some p=>p.2|none=>.skip
def KW.range{rd:Option Nat}{P:Program}{Q:Exit->Act->World->Prop}{ks:bg}{a:Act}{w:World}{x:Operand}{C:Array Tmp}{as B:Code}
  (h:∀fn,∃(l:Nat) (c:List Deferred) (n:World) (d:Deferred) (f:FuncId) (args:Array Value),
   (Instr.enterLoop fn a.tmps C as B rd).run P w= .ok (l,c) n/\(resolve a.eval (rangeCall x l) 0).run P n= .ok d n/\(invoke d.target d.args).run P n= .ok (.enter f args) n/\
   Calls P f args n λe D=>∃v,e= .returned v/\∃jump z,(Instr.endLoop l).run P D= .ok jump z/\KW rd P Q ((jump.map KI.code).toList++ks) {a with defers:=c++a.defers} z):
  KW rd P Q (.code (.rangeFunc x C as B)::ks) a w:=by
 intro b cs t;obtain⟨l,c,n,d,f,args,F,y,u,p⟩:=h b.fn;rw[<-t]at F;have i:=stepR_rangeFunc (P:=P) (b:=b) (a:=a) (k:=iJ ks) (cs:=cs) (w:=w) F y u;obtain⟨e,D,fr,⟨v,rfl,jump,z,s,I⟩,j,H,g⟩:=p (b.atR {a with defers:=c++a.defers} (.inRangeFunc l::iJ ks)::cs);obtain⟨G,J,w',q,r⟩:=I b cs t;refine⟨G,J,w',q,?_⟩;have A:iJ ((jump.map KI.code).toList++ks)=(jump.map Item.code).toList++iJ ks:=by cases jump<;>rfl
 rw[A]at r;have o:Steps P (lone (b.atR a (.code (.rangeFunc x C as B)::iJ ks)) cs w) (lone (b.atR {a with defers:=c++a.defers} ((jump.map Item.code).toList++iJ ks)) cs z):=by refine .head i (Steps.trans j (.head ?_ (.one (stepR_endRangeFunc s))));rw[<-finish_atR_inRangeFunc l v];exact step_leave_returned g
 exact .of_steps ((StepsIn.of_steps o).mono λm _=>kC _ _ m) r
section
variable {M:Imm} {ob:Hs} {ac:aw} {w:World}
def Mem.layRec(hm:Mem M ob ac w)(R:Loop):
  Mem M (ob++[[fA [w.heap.size+1]]]) (lN ac (.bun 0 (cJ (w.heap.size+1) R))) ((w.alloc (.deferred (X []))).alloc (.loop R))/\
  Ext M ob ac w M (ob++[[fA [w.heap.size+1]]]) (lN ac (.bun 0 (cJ (w.heap.size+1) R))) ((w.alloc (.deferred (X []))).alloc (.loop R)):=by
 rw[pK];have e:Mem M ob ac (w.alloc (.deferred (X []))):=hm.same s_ λb c=>heap_alloc_old w _ c
 have f:Ext M ob ac w M ob ac (w.alloc (.deferred (X []))):=⟨λ_ _ _ h=>h,λ_ _ _ h=>.inl h,dH.refl _,rfl,rfl,rfl,by simp,λb c _=>heap_alloc_old w _ c,λk b p=>.inl ⟨k,p⟩⟩
 obtain⟨g,q,_⟩:=e.extend 1;have h1:(ac++Ak 1 ab.dead)[Z ac]? =X .dead:=by simp
 have m:(ob++Ak 1 ([]:bb))[Z ac]? =X []:=by rw[<-hm.len];simp
 have d:(w.alloc (.deferred (X []))).heap.size=w.heap.size+1:=xP ..
 have t:=g.turn (M':=M) (w':=(w.alloc (.deferred (X []))).alloc (.loop R)) (x':=.bun 0 (cJ (w.heap.size+1) R)) (hs':=[fA [w.heap.size+1]]) h1 m ⟨_,rfl⟩ (λ_=>rfl) (λ_ _ _ h=>h) (λ_ _ _ h=>.inl h) (λb o y j=>by
   obtain⟨u,i,s,l⟩:=g.imm b o y j
   exact⟨u,(Cs (w:=w.alloc (.deferred (X []))) (a:=⟨b,o,U⟩) (heap_alloc_old _ _ (Ct _ _ i))).trans i,s,l⟩)
  (λb c _=>heap_alloc_old _ _ c) rfl rfl rfl s_ (λ_=>⟨rfl,[w.heap.size+1],rfl,λb c=>by
   rw[Dl.1 c,<-d]
   exact⟨_,heap_alloc_new _ _,rfl⟩,rfl,by rw[<-d];exact heap_alloc_new _ _⟩)
  (λ_ b c=>by
   have:blk [fA [w.heap.size+1]]=[w.heap.size+1]:=eU _
   grind[Dl,xP])
 have r:(ob++Ak 1 ([]:bb)).set (Z ac) [fA [w.heap.size+1]]=ob++[[fA [w.heap.size+1]]]:=by rw[<-hm.len];simp
 have n:(ac++Ak 1 ab.dead).set (Z ac) (.bun 0 (cJ (w.heap.size+1) R))=ac++[.bun 0 (cJ (w.heap.size+1) R)]:=by simp
 rw[r,n]at t;exact⟨t.1,f.trans (q.trans t.2.1)⟩
def IP:∀(ks:a6) (ac:aw),(∀k∈ks,k<Z ac)->YT (sK ks ac) ac/\∀k∈ks,(sK ks ac)[k]? =X .dead
 |[],ac,_=>⟨⟨rfl,λ_=>.inl rfl⟩,λk h=>by simp at h⟩
 |x::r,ac,hlt=>by
  have c:x<Z ac:=hlt x s_;have e:bQ ac x .dead=ac.set x .dead:=gJ _ c;obtain⟨⟨h1,d⟩,h3⟩:=IP r (bQ ac x .dead) (λk a=>by grind);have b:∀k:Nat,(sK (x::r) ac)[k]? =ac[k]?\/(sK (x::r) ac)[k]? =X ab.dead:=λk=>by
   rcases d k with q|q
   .by_cases a:k=x
    .subst a;right;show(sK r (bQ ac k .dead))[k]? =_;rw[q,e,Ay c]
    .left;show(sK r (bQ ac x .dead))[k]? =_;rw[q,e,Bf (Ne.symm a)]
   .exact .inr q
  refine⟨⟨by show Z (sK r (bQ ac x .dead))=_;rw[h1,e];simp,b⟩,λk a=>?_⟩;rcases Ba.1 a with rfl|a
  .show (sK r (bQ ac k ab.dead))[k]? =X ab.dead
   grind[Ay]
  .exact h3 k a
def Mem.snoc{A:aw}{a:Hs}{c:ab}{hs:bb}(hm:Mem M a A w)(B:∀ob,dH a ob->iM M ob w hs c)(q:∀b∈blk hs,b<w.heap.size)(e:∀k b,aK a A k b->b∉blk hs):
  Mem M (a++[hs]) (A++[c]) w/\∀k b,aK (a++[hs]) (A++[c]) k b->(k<Z A/\aK a A k b)\/(k=Z A/\b∈blk hs):=by
 have m:dH a (a++[hs]):=λj l f=>⟨l,by grind[Ai,Ad],Cp _⟩
 have g:∀{j:Nat} {x:ab},(A++[c])[j]? =X x->(j<Z A/\A[j]? =X x/\(a++[hs])[j]? =a[j]?)\/(j=Z A/\x=c/\(a++[hs])[j]? =X hs):=λ{j x} f=>by
  by_cases h:j<Z A
  .rw [Ai h]at f;exact .inl ⟨h,f,Ai (by rw[hm.len];exact h)⟩
  .have d:j=Z A:=by grind[Ad]
   subst d;rw[Ar s_]at f;simp at f;exact .inr ⟨rfl,f.symm,by rw[<-hm.len];simp⟩
 have p:∀k b,aK (a++[hs]) (A++[c]) k b->(k<Z A/\aK a A k b)\/(k=Z A/\b∈blk hs):=by
  rintro k b ⟨x,l,C,z,o,s⟩;rcases g C with⟨h1,d,h3⟩|⟨h1,d,h3⟩
  .rw [h3]at o;exact .inl ⟨h1,x,l,d,z,o,s⟩
  .rw [h3]at o;cases o;exact .inr ⟨h1,s⟩
 refine⟨⟨hm.imm,by simp[hm.len],λk x u=>?_,λk b r=>?_,λi j b r y=>?_⟩,p⟩
 .rcases g u with⟨h1,d,h3⟩|⟨h1,rfl,h3⟩
  .obtain ⟨l,t,v⟩:=hm.obj k x d;exact⟨l,by rw[h3];exact t,v.mono (λ_ _ _ h=>h) m (λ_ _ _ _ h=>h) (λ_ _ _ _ h=>h)⟩
  .exact ⟨hs,h3,B _ m⟩
 .rcases p k b r with⟨_,h⟩|⟨_,h⟩
  .exact hm.lt k b h
  .exact q b h
 .rcases p i b r with⟨h1,d⟩|⟨h1,d⟩<;>rcases p j b y with⟨h3,n⟩|⟨h3,n⟩
  .exact hm.inj i j b d n
  .exact bv n (e i b d)
  .exact bv d (e j b n)
  omega
end
def bN.bunTo{P:Program}{f:Fn}{args:az}{ac:aw}{r:Res}{gg:Nat}{I l:BInv}(h:bN P f args ac r [.bun gg I])
  (u:∀(M:Imm) (bs:a6) (w:World),(∀b o x,M b o x->∃v,w.cell? ⟨b,o,U⟩=X v/\v.oneCell'=O/\Rep M [] v x)->(∀b,b∈bs->b<w.heap.size)->I.inv M bs w->l.inv M bs w):bN P f args ac r [.bun gg l]:=
 λM ob w d hm s=>cP.mono (λe w' ⟨M',ob',a,g,A⟩=>by
  have i:∀{k b},aK ob' [.bun gg l] k b->aK ob' [.bun gg I] k b:=λ{k b} ⟨c,hs,e1,e2,e3,e4⟩=>by
   cases k with
   |zero=>exact⟨_,hs,rfl,rfl,e3,e4⟩
   |succ k=>simp at e1
  refine⟨M',ob',⟨a.imm,a.new,a.hs,a.os,a.tape,a.output,a.size,a.keep,λk b m=>a.fresh k b (i m)⟩,⟨g.imm,g.len,λk c n=>?_,λk b m=>g.lt k b (i m),λk z b h1 j=>g.inj k z b (i h1) (i j)⟩,A⟩;cases k with
  |zero=>
   simp at n;subst n;obtain⟨hs,h1,j,bs,h3,p,t⟩:=g.obj 0 _ rfl;exact⟨hs,h1,j,bs,h3,p,u _ _ _ g.imm (λb y=>by obtain⟨o,q,_⟩:=p b y;exact gD q) t⟩
  |succ k=>simp at n) (h M ob w d hm s)
def EI:∀(n j i:Nat),i<n->(upto j n)[i]? =X (j+i)
 |0,_,_,h=>by omega
 |n+1,j,0,_=>rfl
 |n+1,j,i+1,h=>by show(upto (j+1) n)[i]? =_;rw[EI n (j+1) i o_,show j+1+i=j+(i+1)from by omega]
def aIt{ob0:Hs}{fr:au}{R:Loop}{L L':aw}{n:Nat}(y:Z L=n)(h1:∀hs∈ob0,Z hs=1)(hl:Z ob0<=n)(q:jS (upto 0 n) L=O)(g:TP n (upto 0 n) (aC L) fr=fr)(C:gT n (upto 0 n) L=L'):
  ∀(M:Imm) (bs:a6) (w:World),(∀b o x,M b o x->∃v,w.cell? ⟨b,o,U⟩=X v/\v.oneCell'=O/\Rep M [] v x)->(∀b,b∈bs->b<w.heap.size)->(kJ ob0 fr R L).inv M bs w->(kJ ob0 fr R L').inv M bs w:=by
 rintro M bs w d l ⟨ob,u,B,z,D,s,A⟩;subst C
 have hm:Mem M ob L w:=⟨d,B,z,λk b a=>l b ((s b).2 ⟨k,a⟩),D⟩
 obtain⟨m,G,F⟩:=hm.cvt (n0:=n) q;refine⟨fJ n ob L 0 (upto 0 n),λj hs i=>?_,m.len,m.obj,m.inj,λb=>(s b).trans ⟨λ⟨k,a⟩=>?_,λ⟨j,a⟩=>?_⟩,λt=>?_⟩
 .have e:j<n:=Ep (Ad.1 i).1 hl;obtain⟨hs',p,t,H⟩:=u j hs i;have r:=h1 hs (Ax i);refine⟨jL n j (aC L j) hs',?_,?_⟩
  .rw [iK,EI n 0 j e];simp[p]
  .unfold jL
   grind[List.take_of_length_le]
 .have f:k<n:=by obtain⟨c,_,p,_⟩:=a;rw[<-y];exact(Ad.1 p).1
  exact⟨k,F k k b (by rw[EI n 0 k f,Nat.zero_add]) a⟩
 .obtain ⟨k,_,h⟩:=G j b a;exact⟨k,h⟩
 .have:=hm.cvtV (n0:=n) q 5 _ _ (A t);rw[<-A6,g]at this;exact this
structure RecOK(fn:Func)(p:Nat)(as bd:Code)(R:Loop):Prop where
 params:R.params= #[p]
 ready:R.state= .ready
 pend:R.pending=U
 assign:R.assign=as
 body:R.body=bd
 size:R.tmps.size=fn.ntmps
def To.range{E:Env}{fn:Func}{g:Goal}{x:Operand}{p:Nat}{as bd:Code}{ks:bg}{fr:au}{ac:aw}{f:FuncId}{C:az}(m:a6)(hrd:E.rd=U)(hdf:E.df=[])(hbo:pD E.P f)
  (hx:ev fr x= .func (.func f) [] C) (hk:∀l R,jS m (lN ac (.bun 0 (cJ l R)))=O) (hlt:(m.all λk=>Fl k (aS ac))=O)
  (h:∀(l:Nat) (ob0:Hs) (R:Loop),sD g ob0->RecOK fn p as bd R->∃(L':aw) (b:Bool) (r:aa) (s:aw) (gg:Nat),
   aA E.P f (.func (.yield l) [] []::eF (cvtV 0 m (aC (lN ac (.bun 0 (cJ l R)))) 5) C) (gT 0 m (lN ac (.bun 0 (cJ l R)))++[.bun 0 (kJ ob0 fr R (sK m (lN ac (.bun 0 (cJ l R)))))]) (.ret r) (s++[.bun gg (kJ ob0 fr R L')])/\
   aC L' (aS ac)= .bun 0 (cJ l (mU R b))/\Z s=Z m/\To E fn g (.code (if b then ks else .code .ret::ks) fr (bQ L' (aS ac) .dead))):
  To E fn g (.code (.code (.rangeFunc x #[p] as bd)::ks) fr ac):=by
 refine .mk λhok M0 n aq w0 a w hst hs=>?_;obtain⟨M,ob,hx0,hm,hfr,hsz,N,hlen⟩:=hs;rw[hrd];refine KW.range λfid=>?_
 obtain⟨l,hl⟩:∃l,l=w.heap.size+1:=⟨_,rfl⟩
 obtain⟨R,hR⟩:∃R:Loop,R={state:=.ready,pending:=U,fn:=fid,tmps:=a.tmps,params:= #[p],assign:=as,body:=bd,defers:=w.heap.size}:=⟨_,rfl⟩
 have hrec:RecOK fn p as bd R:=by subst hR;exact⟨rfl,rfl,rfl,rfl,rfl,hsz⟩
 have htm:R.tmps=a.tmps:=by subst hR;rfl
 obtain⟨D,hw1⟩:∃D,D=(w.alloc (.deferred (X []))).alloc (.loop R):=⟨_,rfl⟩
 obtain⟨m1,Be⟩:=hm.layRec R;rw[<-hl,<-hw1]at m1 Be
 obtain⟨A,hob1⟩:∃A,A=ob++[[fA [l]]]:=⟨_,rfl⟩
 rw[<-hob1]at m1 Be;obtain⟨L',b,r,s,gg,hcall,hLk,hol,hto⟩:=h l n R hst hrec;generalize K:lN ac (.bun 0 (cJ l R))=obs1 at*
 have hobs1l:Z obs1=Z ac+1:=by rw[<-K,pK];simp
 have hk1:jS m obs1=true:=by rw[<-K];exact hk l R
 have hltk:∀k∈m,k<Z obs1:=λk hk=>by grind[List.all_eq_true,Ka,bX]
 obtain⟨Am,hdead⟩:=IP m obs1 hltk;have mC:=m1.weak Am;obtain⟨c1,c2,c3⟩:=m1.cvt (n0:=0) hk1;have hfr1:∀t,Rep M A (R.tmps.getD t undef) (aX fr t):=λt=>by rw[htm];exact(hfr t).mono Be.imm Be.hs
 obtain⟨bs,hbs,hpk⟩:=mC.pack (hx0.hs.trans Be.hs) hfr1;have hcl:Z (fJ 0 A obs1 0 m)=Z m:=qK;have hsl:Z (gT 0 m obs1)=Z m:=pE;have J:blk ([]++[fA bs])=bs:=by rw[qM,eU]
 obtain⟨mI,aI⟩:=c1.snoc (c:=.bun 0 (kJ n fr R (sK m obs1))) (hs:=[]++[fA bs]) (λob _=>hpk ob []) (λb G=>by
   rw[J]at G;obtain⟨j,T⟩:=(hbs b).1 G
   exact mC.lt j b T) (λj b F G=>by
   rw[J]at G;obtain⟨i,W⟩:=(hbs b).1 G;obtain⟨k,e1,e2⟩:=c2 j b F;have:=m1.inj k i b e2 (Am.alive W);subst this;obtain⟨c,_,q1,q2,_⟩:=W;rw[hdead k (Ax e1)]at q1;cases q1
   cases q2)
 have hev:=GV hfr x;rw[hx]at hev;obtain⟨z,hax,hcl1,hcr⟩:∃z:bb,a.eval x= .func (.func f) #[] z.toArray/\Z z=Z C/\∀(i:Nat) v y,z[i]? =X v->C[i]? =X y->Rep M ob v y:=by
  generalize a.eval x=va at hev;cases hev with
  |func _ vfs vcs _ _ hl1 hl2 hr1 hr2=>
   grind[List.eq_nil_of_length_eq_zero]
 have hargs:cL M (fJ 0 A obs1 0 m++[[]++[fA bs]]) (.func (.yield l) #[] #[]::z) (.func (.yield l) [] []::eF (cvtV 0 m (aC obs1) 5) C):=by
  have hle:dH (fJ 0 A obs1 0 m) (fJ 0 A obs1 0 m++[[]++[fA bs]]):=λj l T=>⟨l,by grind[Ai,Ad],Cp _⟩
  have h2:cL M (fJ 0 A obs1 0 m) z (eF (cvtV 0 m (aC obs1) 5) C):=cI (λv a hva=>m1.cvtV (n0:=0) hk1 5 v a (hva.mono Be.imm Be.hs)) hcl1 hcr;refine cL.cons (.func (.yield l) [] [] [] [] rfl rfl (λi v a h=>by simp at h) (λi v a h=>by simp at h)) ⟨h2.1,λi v a hv F=>(h2.2 i v a hv F).mono (λ_ _ _ h=>h) hle⟩
 have hrun:=hcall M _ D _ mI hargs;have Q:Calls E.P f (Value.func (.yield l) #[] #[]::z).toArray D λe w'=>∃M' ob',Ext M (fJ 0 A obs1 0 m++[[]++[fA bs]]) (gT 0 m obs1++[.bun 0 (kJ n fr R (sK m obs1))]) D M' ob' (s++[.bun gg (kJ n fr R L')]) w'/\Mem M' ob' (s++[.bun gg (kJ n fr R L')]) w'/\uN M' ob' e (.ret r):=by
  rcases hrun with⟨_,q⟩|⟨u,w',q,_⟩
  .exact q
  .rw [hbo]at q;cases q
 have hent:(Instr.enterLoop fid a.tmps #[p] as bd U).run E.P w= .ok (l,[{target:=.collected w.heap.size,args:= #[]}]) D:=by rw[hl,hw1,hR];exact run_enterLoop_outer ..
 refine⟨l,[{target:=.collected w.heap.size,args:= #[]}],D,{target:=.fn (.func f) z.toArray,args:= #[.func (.yield l) #[] #[]]},f,_,hent,?_,?_,Q.mono λe w3 ⟨M',obI,V,y2,y3⟩=>?_⟩
 .have:resolve a.eval (rangeCall x l) 0=Deferred.ofValue (a.eval x) #[.func (.yield l) #[] #[]]:=by simp[resolve,rangeCall,Act.eval]
  rw[this,hax];rfl
 .show (callFunc f (#[Value.func (.yield l) #[] #[]]++z.toArray)).run E.P D=_;rw[hbo];simp
 obtain⟨v,rfl⟩:∃v,e= .returned v:=by
  cases e with
  |returned v=>simp
  |panicked ch=>exact y3.elim
  |outgrown=>exact y3.elim
 refine⟨v,rfl,?_⟩;have hbk:(s++[ab.bun gg (kJ n fr R L')])[Z s]? =X (.bun gg (kJ n fr R L')):=by simp
 obtain⟨hs',As,hh',hl',hle',mC',hal',hfr'⟩:=y2.unpack hbk;have I:=bK hLk s_;have hkl:aS ac=Z ac:=bX ac;obtain⟨_,_,_,_,_,hloop⟩:=mC'.recAt I
 have inI:∀{k b},aK (fJ 0 A obs1 0 m++[[]++[fA bs]]) (gT 0 m obs1++[.bun 0 (kJ n fr R (sK m obs1))]) k b->∃Y,aK A obs1 Y b:=λ{k b} F=>by
  rcases aI k b F with⟨_,h⟩|⟨_,h⟩
  .obtain ⟨Y,_,h⟩:=c2 k b h;exact⟨Y,h⟩
  .rw [J]at h;obtain⟨j,T⟩:=(hbs b).1 h;exact⟨j,Am.alive T⟩
 have xnew:∀b o y,M' b o y->M b o y\/D.heap.size<=b\/∃k,aK A obs1 k b:=λb o y hy=>by
  rcases V.new b o y hy with q|q|⟨k,q⟩
  .exact .inl q
  .omega
  .exact .inr (.inr (inI q))
 have H:∀b,b<D.heap.size->(∀k,¬ aK A obs1 k b)->w3.heap[b]? =D.heap[b]?:=λb G hn=>V.keep b G λk F=>by obtain⟨Y,hk'⟩:=inI F;exact hn Y hk'
 have At:∀k b,aK As L' k b->(∃Y,aK A obs1 Y b)\/D.heap.size<=b:=λk b F=>by
  have G:b∈blk hs':=(hal' b).2 ⟨k,F⟩
  have:aK obI (s++[ab.bun gg (kJ n fr R L')]) (Z s) b:=⟨_,hs',hbk,rfl,hh',G⟩
  rcases V.fresh _ b this with⟨Y,q⟩|q
  .exact .inl (inI q)
  omega
 have B:=hx0.trans Be
 have An:Ext M0 n aq w0 M' As L' w3:=⟨λb o y h=>V.imm _ _ _ (B.imm _ _ _ h),λb o y hy=>by
   rcases xnew b o y hy with h1|h1|⟨i,W⟩
   .exact B.new b o y h1
   .exact .inr (.inl (Cl B.size h1))
   .rcases B.fresh i b W with h2|h2
    .exact .inr (.inr h2)
    omega,hle',V.os.trans B.os,V.tape.trans B.tape,V.output.trans B.output,Cl B.size V.size,λb G ho=>by
   rw[<-B.keep b G ho];refine H b (Ep G B.size) λi W=>?_;rcases B.fresh i b W with⟨j,T⟩|h2
   .exact ho j T
   .omega,λi b W=>by
   rcases At i b W with⟨j,T⟩|h1
   .exact B.fresh j b T
   .exact .inr (Cl B.size h1)⟩
 have hnb:(mU R b).state≠ .busy:=by
  unfold mU
  grind
 have hend:=run_endLoop (P:=E.P) hloop hnb;obtain⟨t1,t2⟩:=mC'.recTurn I {mU R b with state:=.exhausted};obtain⟨d1,d2⟩:=t1.drop (aS ac);have hfin:bQ L' (aS ac) .dead=(L'.set (aS ac) (.bun 0 (cJ l {mU R b with state:=.exhausted}))).set (aS ac) .dead:=by rw[aQ I,List.set_set]
 rw[<-hfin]at d1 d2;have X2:Ext M0 n aq w0 M' As (bQ L' (aS ac) .dead) (w3.putObj l (.loop {mU R b with state:=.exhausted})):=by have:=An.trans t2;exact⟨this.imm,this.new,this.hs,this.os,this.tape,this.output,this.size,this.keep,λk b F=>this.fresh k b (d2 F)⟩
 refine⟨(mU R b).pending,_,hend,?_⟩;obtain⟨hto⟩:=hto;have hds0:=N;rw[hdf]at N
 have hw1d:D.heap[w.heap.size]? =X (.deferred (X [])):=by grind[heap_alloc_old,heap_alloc_new]
 have L:∀c:Nat,D.heap[c]? =X (Obj.deferred (X []))->(w3.putObj l (.loop {mU R b with state:=.exhausted})).heap[c]? =X (Obj.deferred (X [])):=λc hc=>by
  have h3:w3.heap[c]? =X (Obj.deferred (X [])):=by
   rw[H c (gD hc) λk F=>by
    obtain⟨o,q1,q2⟩:=m1.alive_heap F;rw[hc]at q1;cases q1
    cases q2]
   exact hc
  grind[Gi]
 have hmk:Mks w0 (w3.putObj l (.loop {mU R b with state:=.exhausted})) ({target:=.collected w.heap.size,args:= #[]}::a.defers):=by
  refine⟨⟨w.heap.size,rfl,hx0.size,L _ hw1d,λd hd e=>?_⟩,N.marks.same λd _ c _ hc=>L c ?_⟩
  .have:∀{ds:List Deferred},Mks w0 w ds->∀d∈ds,∀c,d.target= .collected c->c<w.heap.size:=by
    intro ds;induction ds with
    |nil=>simp
    |cons d0 ds ih=>
     rintro⟨⟨b0,q1,q2,q3,q4⟩,q5⟩ d hd c hc
     grind[gD]
   have:=this N.marks d hd _ e;omega
  grind[heap_alloc_old,xP,gD]
 have hss:SS M0 n aq w0 fn.ntmps E.df fr (bQ L' (aS ac) .dead) {a with defers:=[{target:=.collected w.heap.size,args:= #[]}]++a.defers} (w3.putObj l (.loop {mU R b with state:=.exhausted})):=by
  refine⟨M',As,X2,d1,λt=>?_,hsz,?_,?_⟩
  .have:=hfr' t;rw[htm]at this;exact this
  .rw [hdf];exact⟨[],_,rfl,.nil,hmk⟩
  .have h1:=X2.lens;have h2:=d1.len;omega
 have hok2:bJ fn.ntmps (if b then ks else .code .ret::ks)=true:=by
  have:bJ fn.ntmps ks=true:=by simp only[bJ,Af]at hok;exact hok.2
  cases b with
  |true=>exact this
  |false=>simpa[bJ,KI.ok,dR]using this
 have key:=hto hok2 M0 n aq w0 _ _ hst hss;rw[hrd]at key;have hjump:((mU R b).pending.map KI.code).toList++ks=(if b then ks else .code .ret::ks):=by
  unfold mU
  grind
 rw[hjump];exact key
def aK0(sz:Nat):aa->aa
 |.nilslice=>.slice sz [] .nil
 |v=>v
def RO(sz:Nat)(M:Imm)(ob:Hs)(v:Value)(a:aa)(h:Rep M ob v a):Rep M ob v (aK0 sz a):=by
 unfold aK0;split
 .cases h;exact .slnil _ _ rfl
 .exact h
def To.beginC{E:Env}{fn:Func}{g:Goal}{st:bg}{fr:au}{ac:aw}(k i:Nat)(e:TypeId){T:TypeId}{cs:az}{sz:Nat}(a:aC ac k= .cells T cs)(b:nth cs i=X (.slice sz [] .nil))
  (h:To E fn g (.code st fr (lN (bQ ac k (.cells T (PQ cs i (.slice sz [] (.own (aS ac) 0))))) (.tail 0 sz e)))):To E fn g (.code st fr ac):=by
 have c:To E fn g (.head st fr (lN (bQ ac k (.cells T (PQ cs i (.slice sz [] (.own (aS ac) 0))))) (.tail 0 sz e))):=h.rec λh=>.mk h;exact(To.begin k i e a b c).rec λh=>.mk h
abbrev Hm:=Option Addr×Nat×az
def hmV(m:Hm):Value:=.slice m.1 (Z m.2.2) m.2.1
def hmA(m:Hm):aa:=.hsl m.1 (Z m.2.2) m.2.1
def aPI(M:Imm)(ob:Hs)(m:Hm):Rep M ob (hmV m) (hmA m):=.hsl _ _ _
def nY(sz:Nat)(e:TypeId)(ms:List Hm):BInv where
 inv M bs w:=(∀(i:Nat) m,ms[i]? =X m->dY M w (hmV m) sz e m.2.2)/\(∀(i j:Nat) m m' b,ms[i]? =X m->ms[j]? =X m'->(hmV m).ownBlock=X b->(hmV m').ownBlock=X b->i=j)/\
  ∀b,b∈bs↔ ∃(i:Nat) (m:Hm),ms[i]? =X m/\(hmV m).ownBlock=X b
 mono:=λhM hn hb ⟨h1,h2,h3⟩=>⟨λi m hm=>(h1 i m hm).mono hM (λb e ho o=>hn b ((h3 b).2 ⟨i,m,hm,e⟩) o (ho o)) (λb c e=>hb b c ((h3 b).2 ⟨i,m,hm,e⟩)),h2,h3⟩
section
variable {M:Imm} {ob:Hs} {ac:aw} {w:World}
def dY.blockAt{v:Value}{sz:Nat}{e:TypeId}{xs:az}(h:dY M w v sz e xs){b:Nat}(a:v.ownBlock=X b):∃o,w.heap[b]? =X o/\F5 o=false:=by
 obtain⟨cv,⟨_,d⟩,_⟩:=h;rcases d with⟨rfl,_⟩|⟨g,cap,f,i,_,c,_⟩
 .cases a
 .rw [i]at a;cases a;exact⟨_,c,rfl⟩
def dY.nil(sz:Nat)(e:TypeId):dY M w (.slice U 0 0) sz e []:=
 ⟨[],Hh w 0 e sz,λu h=>by simp at h,λu h=>by simp at h,λq c h=>by simp[aM]at h,λb h=>(by cases h),FL w⟩
def dY.append{P:Program}(hm:Mem M ob ac w){t B ty e:TypeId}{i:TypeInfo}{z:Value}(As:P.underlying t=X (.slice e))(N:P.info? e=X i)(hz:i.zero=X z)(hz1:z.cells.toList.all (·.oneCell')=O)
  (p:z.cells.size=i.size) (n:0<i.size) {xs ys:az} {v x:Value} (m:dY M w v i.size e xs) (hs:SrcA P M w i.size B x ys)
  (C:Z xs+Z ys<=maxLen) (d:(Z xs+Z ys)*i.bytes<=140737488355328):
  ∃j w',(Cr #[t,B] ty #[v,x]).run P w= .ok j w'/\dY M w' j i.size e (xs++ys)/\w'.os=w.os/\w'.tape=w.tape/\w'.output=w.output/\w.heap.size<=w'.heap.size/\
   (∀b,j.ownBlock=X b->v.ownBlock=X b\/w.heap.size<=b)/\∀b,b<w.heap.size->v.ownBlock≠X b->w'.heap[b]? =w.heap[b]?:=by
 obtain⟨cv,D,H,Be,V,L,Q⟩:=m;obtain⟨⟨news,G,R⟩,W⟩:=hs;obtain⟨j,w',K,s,A,g,l,f,r,h⟩:=jD (P:=P) w t B ty e i z As N hz hz1 p v (Z xs) cv D H x (Z ys) news G C d;have a:∀b,j.ownBlock=X b->v.ownBlock=X b\/w.heap.size<=b:=λb I=>by grind
 refine⟨j,w',K,⟨cv++news,by simp;omega,λu k=>?_,λy At=>?_,λq c J=>?_,λb I o=>?_,h Q⟩,A,g,l,f,a,λb F T=>?_⟩
 .rcases Bx.1 k with k|k
  .exact H u k
  .exact G.one u k
 .grind
 .by_cases F:q<Z xs*i.size
  .grind [cU,Ai]
  .rw [cO n o_]at J;rw[Ar (by rw[D.1];omega),D.1];exact R _ c J
 .rcases a b I with q|q
  .exact L b q o
  .exact hm.noImm q o
 grind
def dY.hm{v:Value}{sz:Nat}{e:TypeId}{xs:az}(h:dY M w v sz e xs):∃a c,v=hmV (a,c,xs):=by
 obtain⟨cv,d,_⟩:=h;rcases dW d with⟨q,f⟩|⟨b,cap,q,_⟩
 .exact ⟨U,0,by rw[q,hmV];grind⟩
 .exact ⟨_,cap,q⟩
def Mem.famAppend{P:Program}(h:Mem M ob ac w){t An ty e:TypeId}{i:TypeInfo}{z:Value}(ht:P.underlying t=X (.slice e))(hi:P.info? e=X i)(hz:i.zero=X z)(hz1:z.cells.toList.all (·.oneCell')=O)
  (Be:z.cells.size=i.size) (Q:0<i.size) {k g j:Nat} {l:List Hm} {m:Hm} {ys:az} (W:ac[k]? =X (.bun g (nY i.size e l))) (L:l[j]? =X m) {x:Value} (hs:SrcA P M w i.size An x ys)
  (At:Z m.2.2+Z ys<=maxLen) (s:(Z m.2.2+Z ys)*i.bytes<=140737488355328):
  ∃a c w' ob',(Cr #[t,An] ty #[hmV m,x]).run P w= .ok (hmV (a,c,m.2.2++ys)) w'/\Mem M ob' (ac.set k (.bun (g+1) (nY i.size e (l.set j (a,c,m.2.2++ys))))) w'/\
   Ext M ob ac w M ob' (ac.set k (.bun (g+1) (nY i.size e (l.set j (a,c,m.2.2++ys))))) w':=by
 obtain⟨As,hh,hl,bs,hv,hd,h1,h2,h3⟩:=h.obj k _ W;have v:blk As=bs:=(eT hl hv).trans (eU _);obtain⟨v',w',Am,A,V,I,K,G,D,H⟩:=dY.append (P:=P) (ty:=ty) h ht hi hz hz1 Be Q (h1 j m L) hs At s;obtain⟨a,c,rfl⟩:=A.hm;have hjl:j<Z l:=(Ad.1 L).1;have get:∀{q:Nat} {d:Hm},(l.set j (a,c,m.2.2++ys))[q]? =X d->(q=j/\d=(a,c,m.2.2++ys))\/(q≠j/\l[q]? =X d):=λ{q d} f=>by grind
 have J:∀{q:Nat} {d:Hm} {b:Nat},l[q]? =X d->(hmV d).ownBlock=X b->b∈bs/\b<w.heap.size:=λ{q d b} f v=>by grind[gD]
 have n:∀(q:Nat) d,(l.set j (a,c,m.2.2++ys))[q]? =X d->dY M w' (hmV d) i.size e d.2.2:=λq d f=>by
  rcases get f with⟨_,rfl⟩|⟨hne,f⟩
  .exact A
  .refine (h1 q d f).mono (λ_ _ _ h=>h) (λ_ _ h=>h) λb c' v hc=>?_
   grind
 let F:=(l.set j (a,c,m.2.2++ys)).filterMap λm=>(hmV m).ownBlock
 have r:∀b,b∈F↔ ∃(i:Nat) (d:Hm),(l.set j (a,c,m.2.2++ys))[i]? =X d/\(hmV d).ownBlock=X b:=λb=>by grind[List.getElem?_of_mem,Ax]
 have hno:∀{b o y},M b o y->(hmV m).ownBlock≠X b:=λ{b o y} T e=>by obtain⟨_,_,_,_,_,o5,_⟩:=h1 j m L;exact o5 b e o y T
 have B:=h.turn (M':=M) (w':=w') (x':=.bun (g+1) (nY i.size e (l.set j (a,c,m.2.2++ys)))) (hs':=As++[fA F]) W hh ⟨_,rfl⟩ (λe=>by cases e) (λ_ _ _ h=>h) (λ_ _ _ h=>.inl h) (λb o y T=>by
   obtain⟨u,hu,h4,h5⟩:=h.imm b o y T;have N:b<w.heap.size:=by simpa using Ct w _ hu
   grind[Cs])
  (λb N hn=>H b N λe=>hn ⟨rfl,by rw[v];exact(J L e).1⟩) V I K G
  (λ_=>⟨by simp[hl],F,by rw[<-hl];simp,λb v=>by
   obtain⟨q,d,f,v⟩:=(r b).1 v
   exact(n q d f).blockAt v,n,λq q' m1 m2 b f Y e1 e2=>by
   grind,r⟩)
  (λ_ b R=>by
   rw[qM,eU]at R;obtain⟨q,d,f,C⟩:=(r b).1 R;refine⟨?_,by obtain⟨o,ho,_⟩:=(n q d f).blockAt C;exact gD ho⟩;rw[v];rcases get f with⟨_,rfl⟩|⟨_,f⟩
   .rcases D b C with p|p
    .exact .inl ⟨rfl,(J L p).1⟩
    omega
   .exact .inl ⟨rfl,(J f C).1⟩)
 exact⟨a,c,w',_,Am,B.1,B.2.1⟩
end
section
variable {E:Env} {fn:Func} {g:Goal}
inductive HandA(E:Env)(fn:Func)(g:Goal)(all:bf)(tab:a6)(ks:bg)(n:Nat)(d:Option Nat)(s x:Operand)(t t2:TypeId)(l2:bf)(fr:au)(ac:aw):Prop
 |mk (k gg j:Nat) (ms:List Hm) (m:Hm) (ys:az) (e esz eb sz:Nat) (ag:Bool) (z:aa) (hk:aC ac k= .bun gg (nY esz e ms)) (hj:ms[j]? =X m) (hs:ev fr s=hmA m) (hT:dE E.T t=X {kind:=.slc e esz eb,size:=sz,agg:=ag,zero:=z})
   (hp:Fv 1 esz=O) (hx:aEz E (aC ac) esz t2 (ev fr x)=X ys) (hf:A8 (Z m.2.2+Z ys) eb)
   (h:∀a c,To E fn g (.mid ⟨all,S,tab,ks⟩ (n+1) l2 [] (lC fr d (hmA (a,c,m.2.2++ys))) (bQ ac k (.bun (gg+1) (nY esz e (ms.set j (a,c,m.2.2++ys)))))))
theorem aAM{M:Imm}{ob:Hs}{v:Value}{m:Hm}(h:Rep M ob v (hmA m)):v=hmV m:=by cases h;rfl
def xN{rd:Option Nat}{ops:Array Oper}{M0:Imm}{ob0:Hs}{aq:aw}{w0:World}{sz:Nat}{dfs:List (Nat×az)}{Q:Exit->Act->World->Prop}{K:au->aw->Prop}{Kp:(Nat->aa)->aa->aw->Prop}{rest:bf}
  (hE:ae E) (hp:∀g v ac b a w,Kp g v ac->PP M0 ob0 aq w0 sz dfs g v ac b a w->Q (.panic b) a w) (i:∀fr ac a w,K fr ac->SS M0 ob0 aq w0 sz dfs fr ac a w->wpListIn (fen rd) 0 E.P ops Q rest a w):
  ∀(l:bf) (n:Nat) (fr:au) (ac:aw) (a:Act) (w:World),(∀p∈l,∀d,p.dst=X d->d<sz)->fL E ops.toList K Kp n l fr ac->SS M0 ob0 aq w0 sz dfs fr ac a w->wpListIn (fen rd) 0 E.P ops Q (l++rest) a w
 |[],n,fr,ac,a,w,_,h,hs=>i fr ac a w h hs
 |p::l,n,fr,ac,a,w,hd,h,hs=>by
  refine wk (PR (K:=λfr ac=>fL E ops.toList K Kp (n+1) l fr ac) (Kp:=Kp) (hint:=gK E p.dst) hE hs (hd p s_) ?_ λv ac b w c f=>hp (aX fr) v ac b a w c f) λj w' ⟨e,ap,c,hs'⟩=>xN hE hp i l (n+1) e ap j w' (λp hp=>hd p (by simp[hp])) c hs';simp only[fL]at h
  grind[mX,xU]
def MP{P:Program}{s x:Operand}{t b:TypeId}{p:Oper}(hp:p.op= .call {callee:=.builtin .append,args:= #[s,x],argTypes:= #[t,b]}){ρ:Operand->Value}{w w':World}{v:Value}
  (h:(Cr #[t,b] p.type #[ρ s,ρ x]).run P w= .ok v w'):(execOp ρ p).run P w= .ok (.value v) w':=by
 obtain⟨d,op,ty,pos,a,c⟩:=p;dsimp only at hp;subst hp;simp[execOp,resolve,invoke,builtin,h]
theorem To.handA(hE:ae E){id:Nat}{ops:Array Oper}{tab:a6}{ks:bg}{fr:au}{ac:aw}{q C:bf}{p:Oper}{s x:Operand}{t At:TypeId}(b:ops.toList=q++p::C)
  (hp:p.op= .call {callee:=.builtin .append,args:= #[s,x],argTypes:= #[t,At]}) (hg:p.guard=U)
  (h:fL E ops.toList (HandA E fn g ops.toList tab ks (Z q) p.dst s x t At C) (kD E fn g) 0 q fr ac):To E fn g (.code (.code (.region id ops S)::ks) fr ac):=
 .mk λho M0 ob0 aq w0 a w hst hs=>by
  simp only[bJ,KI.ok,dR,Af]at ho;obtain⟨⟨V,ho2⟩,Am⟩:=ho;have As:=qI V
  refine KW.code (Q':=QR E fn g M0 ob0 aq w0 ks) ?_ (λa w h=>h) (λf a w h=>h) (λe a w hh=>by cases e<;>first|exact .inl rfl|exact .inr ⟨_,rfl⟩|exact hh.elim)
  have l:∀n v ac f a w,kD E fn g n v ac->PP M0 ob0 aq w0 fn.ntmps E.df n v ac f a w->rW E fn M0 ob0 aq w0 g (.panic f) a w:=λn v ac f a w he l=>DV he hst l;have hq:∀fr ac a w,dP E fn g ks fr ac->SS M0 ob0 aq w0 fn.ntmps E.df fr ac a w->KW E.rd E.P (rW E fn M0 ob0 aq w0 g) ks a w:=λfr ac a w L hs=>L Am M0 ob0 aq w0 a w hst hs;refine wpIn_region_list ?_;have D:∀fr ac a w,HandA E fn g ops.toList tab ks (Z q) p.dst s x t At C fr ac->SS M0 ob0 aq w0 fn.ntmps E.df fr ac a w->wpListIn (fen E.rd) 0 E.P ops (QR E fn g M0 ob0 aq w0 ks) (p::C) a w:=by
   rintro fr ac a w ⟨k,gg,j,ms,m,ys,e,esz,eb,sz,ag,z0,L,hj,hs1,hT,d,hx1,hf,o⟩ hs;obtain⟨M,ob,hx,hm,B,r,W,h0⟩:=hs;obtain⟨⟨hu,i,z,hi,hsi,T,hz,An,hz1⟩,_⟩:=(hE.tab t _ hT).kind;subst hsi T;have d:=Nat.le_of_ble_eq_true d;have hev:=GV (a:=a) B;have J:=U4 hE hm (hev x) hx1 d;have y:=bK L s_;have Be:a.eval s=hmV m:=by grind[aAM]
   obtain⟨u,F,w',ob',A,m1,I⟩:=hm.famAppend (P:=E.P) (ty:=p.type) hu hi hz hz1 An d y hj J hf.1 hf.2;have Y:pC E.P p a.eval w (λe R=>e= .returned (hmV (u,F,m.2.2++ys))/\R=w'):=.inl ⟨_,_,MP hp (by rw[Be];exact A),rfl,rfl⟩;refine wk (next:=λa w=>SS M0 ob0 aq w0 fn.ntmps E.df (lC fr p.dst (hmA (u,F,m.2.2++ys))) (bQ ac k (.bun (gg+1) (nY i.size e (ms.set j (u,F,m.2.2++ys))))) a w) ?_ λa w hs=>?_
   .unfold G;rw[bu (by simp[Gv,hg])];refine Y.wpIn (by intro c;rw[hp];simp) (λv R ⟨N,e2⟩=>?_) (λf R ⟨N,_⟩=>by cases N);cases N;subst e2;rw[aQ y];have:=I.lens;have:=m1.len;refine⟨M,ob',hx.trans I,m1,?_,(dX _ _ _).1.trans r,(W.ext hm I).put,by simp;omega⟩;rw[fH];exact nG (λt=>(B t).mono I.imm I.hs) (aPI M ob' (u,F,m.2.2++ys)) λd' e=>r▸As p (by rw[b];simp) d' e
   .obtain ⟨o⟩:=o u F;exact oL (rd:=E.rd) (Q:=QR E fn g M0 ob0 aq w0 ks) (K:=dP E fn g ks) (Kp:=kD E fn g) hE (λn v ac f a w h1 H=>l n v ac f a w h1 H) (λfr ac a w h1 H=>hq fr ac a w h1 H) C (Z q+1) _ _ a w (λp hp=>As p (by rw[b];simp[hp])) o hs
  rw[b];exact xN (rd:=E.rd) (Q:=QR E fn g M0 ob0 aq w0 ks) (Kp:=kD E fn g) hE (λn v ac f a w h1 H=>l n v ac f a w h1 H) D q 0 fr ac a w (λp hp=>As p (by rw[b];simp[hp])) h hs
def To.objTo{st:bg}{fr:au}{ac:aw}(k:Nat){x x':ab}(v:aC ac k=x)(t:x≠ .dead)(f:x.owns=O)(y:∀M ob w hs,(∀b,b∈blk hs->b<w.heap.size)->iM M ob w hs x->iM M ob w hs x')
  (h:To E fn g (.code st fr (bQ ac k x'))):To E fn g (.code st fr ac):=
 .mk λr M0 ob0 aq w0 a w hst hs=>by
  obtain⟨M,ob,d,hm,o,u,z,B⟩:=hs;have e:=bK v t;refine h.rec λh=>h r M0 ob0 aq w0 a w hst ?_;rw[aQ e];have p:=(Ad.1 e).1;have m:∀{i b},aK ob (ac.set k x') i b->aK ob ac i b:=λ{i b} ⟨c,hs,e1,e2,e3,e4⟩=>by
   by_cases l:i=k
   .subst l;exact⟨x,hs,e,f,e3,e4⟩
   .rw [Bf (Ne.symm l)]at e1;exact⟨c,hs,e1,e2,e3,e4⟩
  refine⟨M,ob,⟨d.imm,d.new,d.hs,d.os,d.tape,d.output,d.size,d.keep,λi b s=>d.fresh i b (m s)⟩,⟨hm.imm,by simpa using hm.len,λi c n=>?_,λi b s=>hm.lt i b (m s),λi j b h1 q=>hm.inj i j b (m h1) (m q)⟩,o,u,z,by simp;omega⟩;by_cases l:i=k
  .subst l;rw[Ay p]at n;cases n;obtain⟨hs,h1,q⟩:=hm.obj i x e;exact⟨hs,h1,y _ _ _ _ (λb A=>hm.lt i b ⟨x,hs,e,f,h1,A⟩) q⟩
  .rw [Bf (Ne.symm l)]at n;exact hm.obj i c n
def To.beginF{st:bg}{fr:au}{ac:aw}(sz:Nat)(e:TypeId)(h:To E fn g (.code st fr (lN ac (.bun 0 (nY sz e []))))):To E fn g (.code st fr ac):=
 .mk λp M0 ob0 aq w0 a w hst hs=>by
  obtain⟨M,ob,n,hm,o,r,u,z⟩:=hs;refine h.rec λh=>h p M0 ob0 aq w0 a w hst ?_;rw[pK];have q:blk [fA []]=[]:=eU _;obtain⟨s,A⟩:=hm.snoc (c:=.bun 0 (nY sz e [])) (hs:=[fA []]) (λob _=>⟨rfl,[],rfl,λb q=>by simp at q,λi m h=>by simp at h,λi j m x b h=>by simp at h,λb=>⟨λh=>by simp at h,λ⟨i,m,h,_⟩=>by simp at h⟩⟩) (λb h=>by simp_all) (λk b _=>by simp_all)
  have f:dH ob (ob++[[fA []]]):=λj l v=>⟨l,by grind[Ai,Ad],Cp _⟩
  have d:Ext M ob ac w M (ob++[[fA []]]) (ac++[.bun 0 (nY sz e [])]) w:=⟨λ_ _ _ h=>h,λ_ _ _ h=>.inl h,f,rfl,rfl,rfl,Bc _,λ_ _ _=>rfl,λk b y=>by grind⟩
  exact⟨M,_,n.trans d,s,λt=>(o t).mono (λ_ _ _ h=>h) f,r,u.ext hm d,by simp;omega⟩
def aLU{M:Imm}{ob:Hs}{w:World}{hs:bb}{gg sz:Nat}{e:TypeId}{c:List Hm}(h:iM M ob w hs (.bun gg (nY sz e c))):iM M ob w hs (.bun gg (nY sz e (c++[(U,0,[])]))):=by
 obtain⟨h1,bs,l,h3,k,p,o⟩:=h;have get:∀{i:Nat} {m:Hm},(c++[((U,0,[]):Hm)])[i]? =X m->c[i]? =X m\/(i=Z c/\m=(U,0,[])):=λ{i m} a=>by grind[Ai,Ad,Ar]
 refine⟨h1,bs,l,h3,λi m a=>?_,λi j m n b a f d g=>?_,λb=>⟨λq=>?_,λ⟨i,m,a,d⟩=>?_⟩⟩
 .rcases get a with a|⟨_,rfl⟩
  .exact k i m a
  .exact dY.nil sz e
 .rcases get a with a|⟨_,rfl⟩
  .rcases get f with f|⟨_,rfl⟩
   .exact p i j m n b a f d g
   .cases g
  .cases d
 .grind [Ai,Ad]
 .rcases get a with a|⟨_,rfl⟩
  .exact (o b).2 ⟨i,m,a,d⟩
  .cases d
def aJ5{M:Imm}{ob:Hs}{w:World}{hs:bb}{gg:Nat}{e:TypeId}{d:List Hm}(h:iM M ob w hs (.row gg 1 e (d.map hmA++[.nilslice]))):iM M ob w hs (.row gg 1 e ((d++[(U,0,[])]).map hmA)):=by
 obtain⟨h1,v,o,cv,j,n,t,f,i,r⟩:=h;refine⟨h1,v,o,cv,by simpa using j,n,λx b=>?_,λq c s=>?_,i,r⟩
 .simp only[Co]at b;obtain⟨m,_,rfl⟩:=b;rfl
 .have one:∀{l:az} {q:Nat} {c:aa},(∀x∈l,x.cells=[x])->(aM 1 l q=X c↔l[q]? =X c):=λ{l q c} hl=>by
   unfold aM
   grind
  have a:=(one (λx b=>by simp only[Co]at b;obtain⟨m,_,rfl⟩:=b;rfl)).1 s;rw[List.map_append]at a;by_cases hl:q<Z d
  .rw [Ai q_]at a
   exact f q c ((one (λx b=>by
    simp only[Bx,Co,Dl]at b
    rcases b with⟨m,_,rfl⟩|rfl<;>rfl)).2 (by rw[Ai q_];exact a))
  .have p:q=Z d:=by grind[Ad]
   subst p;rw[Ar s_]at a;simp at a
   obtain⟨u,k,g⟩:=f (Z d) .nilslice ((one (λx b=>by
    simp only[Bx,Co,Dl]at b
    rcases b with⟨m,_,rfl⟩|rfl<;>rfl)).2 s_)
   refine⟨u,k,?_⟩;subst a;cases g;exact .hsl _ _ _
end
section
variable {M:Imm} {ob:Hs} {ac:aw} {w:World}
def Mem.famFreeze(h:Mem M ob ac w){k gg sz:Nat}{e:TypeId}{q:List Hm}(v:ac[k]? =X (.bun gg (nY sz e q))):
  ∃M' ob',Mem M' ob' (ac.set k (.bun (gg+1) (nY sz e []))) w/\Ext M ob ac w M' ob' (ac.set k (.bun (gg+1) (nY sz e []))) w/\∀(i:Nat) m,q[i]? =X m->Rep M' [] (hmV m) (.slice sz m.2.2 .no):=by
 obtain⟨f,F,hl,bs,H,J,h1,L,h3⟩:=h.obj k _ v;have n:blk f=bs:=(eT hl H).trans (eU _)
 let M':Imm:=λb o y=>M b o y\/∃(i:Nat) (m:Hm),q[i]? =X m/\(hmV m).ownBlock=X b/\aM sz m.2.2 o=X y
 have p:∀b o y,M b o y->M' b o y:=λ_ _ _ h=>.inl h
 have c:=h.turn (M':=M') (w':=w) (x':=.bun (gg+1) (nY sz e [])) (hs':=f++[fA []]) v F ⟨_,rfl⟩ (λe=>by cases e) p (λb o y a=>by
   rcases a with a|⟨i,m,s,d,_⟩
   .exact .inl a
   .exact .inr (.inl ⟨rfl,by rw[n];exact(h3 b).2 ⟨i,m,s,d⟩⟩)) (λb o y a=>by
   rcases a with a|⟨i,m,s,d,r⟩
   .obtain ⟨u,C,I,G⟩:=h.imm b o y a;exact⟨u,C,I,G.monoM p⟩
   .obtain ⟨cv,l,x,A,B,_⟩:=h1 i m s;obtain⟨u,z,D⟩:=B o y r
    exact⟨u,fU l d z,x u (Ax z),D.monoM p⟩) (λ_ _ _=>rfl) rfl rfl rfl (Bc _)
  (λ_=>⟨by simp[hl],[],by rw[<-hl];simp,λb n=>by simp at n,λi m h=>by simp at h,λi j m K b h=>by simp at h,λb=>⟨λh=>by simp at h,λ⟨i,m,h,_⟩=>by simp at h⟩⟩)
  (λ_ b g=>by
   rw[qM,eU]at g
   simp at g)
 refine⟨M',_,c.1,c.2.1,λi m hm=>?_⟩;obtain⟨cv,l,x,A,B,_⟩:=h1 i m hm;exact(kY (M:=M) (ob:=[]) l A (t:=.no) trivial).monoM λb o y a=>by
  rcases a with a|⟨d,r⟩
  .exact .inl a
  .exact .inr ⟨i,m,hm,d,r⟩
def Mem.objTo(hm:Mem M ob ac w){k:Nat}{x x':ab}(a:ac[k]? =X x)(g:x.owns=O)(o:∀hs,ob[k]? =X hs->iM M ob w hs x->iM M ob w hs x'):Mem M ob (ac.set k x') w/\Ext M ob ac w M ob (ac.set k x') w:=by
 have l:=(Ad.1 a).1;have e:∀{i b},aK ob (ac.set k x') i b->aK ob ac i b:=λ{i b} ⟨c,hs,e1,e2,e3,e4⟩=>by
  by_cases d:i=k
  .subst d;exact⟨x,hs,a,g,e3,e4⟩
  .rw [Bf (Ne.symm d)]at e1;exact⟨c,hs,e1,e2,e3,e4⟩
 refine⟨⟨hm.imm,by simpa using hm.len,λi c f=>?_,λi b n=>hm.lt i b (e n),λi j b h1 m=>hm.inj i j b (e h1) (e m)⟩,⟨λ_ _ _ h=>h,λ_ _ _ h=>.inl h,dH.refl _,rfl,rfl,rfl,Bc _,λ_ _ _=>rfl,λi b n=>.inl ⟨i,e n⟩⟩⟩;by_cases d:i=k
 .subst d;rw[Ay l]at f;cases f;obtain⟨hs,h1,m⟩:=hm.obj i x a;exact⟨hs,h1,o _ h1 m⟩
 .rw [Bf (Ne.symm d)]at f;exact hm.obj i c f
end
def HF{l:az}{q:Nat}{c:aa}(hl:∀x∈l,x.cells=[x]):aM 1 l q=X c↔l[q]? =X c:=by
 unfold aM
 grind
def To.famFrz{E:Env}{fn:Func}{g:Goal}{st:bg}{fr:au}{ac:aw}(k p:Nat){gg o sz:Nat}{e r:TypeId}{l:List Hm}(J:aC ac k= .bun gg (nY sz e l))(z:aC ac p= .row o 1 r (l.map hmA))
  (h:To E fn g (.code st fr (bQ (bQ ac k (.bun (gg+1) (nY sz e []))) p (.row o 1 r (l.map λm=>.slice sz m.2.2 .no))))):To E fn g (.code st fr ac):=
 .mk λB M0 ob0 aq w0 a w hst hs=>by
  obtain⟨M,ob,s,hm,A,I,N,W⟩:=hs;have i:=bK J s_;have d:=bK z s_;have y:k≠p:=λe=>by simp_all
  refine h.rec λh=>h B M0 ob0 aq w0 a w hst ?_;rw[aQ i];have n:(ac.set k (.bun (gg+1) (nY sz e [])))[p]? =X (.row o 1 r (l.map hmA)):=by rw[Bf y];exact d
  rw[aQ n];obtain⟨M',ob',K,R,Q⟩:=hm.famFreeze i;obtain⟨C,T⟩:=K.objTo (x':=.row o 1 r (l.map λm=>.slice sz m.2.2 .no)) n rfl λhs _ ⟨h1,v,As,cv,F,Be,V,G,P,H⟩=>by
   refine⟨h1,v,As,cv,by simpa using F,Be,λx b=>?_,λq c At=>?_,P,H⟩
   .simp only[Co]at b;obtain⟨m,_,rfl⟩:=b;rfl
   .have f:=(HF (λx b=>by simp only[Co]at b;obtain⟨m,_,rfl⟩:=b;rfl)).1 At;rw[Bw]at f;obtain⟨m,j,rfl⟩:=Option.map_eq_some_iff.1 f;obtain⟨u,L,D⟩:=G q (hmA m) ((HF (λx b=>by simp only[Co]at b;obtain⟨m,_,rfl⟩:=b;rfl)).2 (by rw[Bw,j];rfl));exact⟨u,L,by rw[aAM D];exact Q q m j⟩
  have An:=R.trans T;have:=An.lens;have:=C.len;exact⟨M',ob',s.trans An,C,λt=>(A t).mono An.imm An.hs,I,N.ext hm An,by simp;omega⟩
def To.handAt{E:Env}{fn:Func}{g:Goal}(hE:ae E)(n:Nat){id:Nat}{ops:Array Oper}(tab:a6){ks:bg}{fr:au}{ac:aw}{p:Oper}{s x:Operand}{t a:TypeId}(b:ops.toList[n]? =X p)
  (hp:p.op= .call {callee:=.builtin .append,args:= #[s,x],argTypes:= #[t,a]}) (c:p.guard=U)
  (h:fL E ops.toList (HandA E fn g ops.toList tab ks n p.dst s x t a (ops.toList.drop (n+1))) (kD E fn g) 0 (ops.toList.take n) fr ac):To E fn g (.code (.code (.region id ops S)::ks) fr ac):=by
 grind[Ad,To.handA,List.take_append_drop,List.drop_eq_getElem_cons,List.length_take,Nat.min_eq_left,Nat.le_of_lt]
def B5(r:Nat):Code->Option Code
 |.region id ops dr=>bif Au id r then X (.region id ops dr)else U
 |.seq a b=>(match B5 r a with|some x=>X x|none=>B5 r b)
 |.cond _ a b=>(match B5 r a with|some x=>X x|none=>B5 r b)
 |.block _ b=>B5 r b
 |.loop b=>B5 r b
 |_=>U
def iP(fn:Func)(r:Nat):bg:=.code (match B5 r (dS fn)with|some c=>c|none=>.skip)::gB fn r
def To.ofC{E:Env}{fn:Func}{g:Goal}{ks:bg}{fr:au}{ac:aw}(h:To E fn g (.code ks fr ac)):To E fn g (.head ks fr ac):=h.rec λh=>.mk h
def To.toC{E:Env}{fn:Func}{g:Goal}{ks:bg}{fr:au}{ac:aw}(h:To E fn g (.head ks fr ac)):To E fn g (.code ks fr ac):=h.rec λh=>.mk h
section
variable {E:Env} {all:bf} {tab:a6} {L0:Nat}
end
section
variable {E:Env} {ops:Array Oper} {tab:a6} {tl L0:Nat} {Kp:(Nat->aa)->aa->aw->Prop} {Q:AS->Prop}
end
section
variable {E:Env} {ops:Array Oper} {tab:a6} {tl L0:Nat} {Kp:(Nat->aa)->aa->aw->Prop} {Kq:au->aw->Prop} {Q:AS->Prop}
end
section
variable {rd:Option Nat} {M0:Imm} {ob0:Hs} {aq:aw} {w0:World} {sz:Nat} {dfs:List (Nat×az)} {E:Env} {ops:Array Oper} {Q:Exit->Act->World->Prop} {K:AS->Prop} {Kp:(Nat->aa)->aa->aw->Prop} {tl L0:Nat} {tab:a6}
end
section
variable {E:Env} {ops:Array Oper} {tab:a6} {tl L0:Nat} {Kp:(Nat->aa)->aa->aw->Prop} {Kg:au->aw->Prop}
end
def aC0(A tab:a6)(n t:Nat):Nat->bf->Bool
 |_,[]=>S
 |i,p::r=>(match p.dst with|some d=>Au d t&&(wC i A&& !cY (dF tab n) i)|none=>S)||aC0 A tab n t (i+1) r
def evP(A tab:a6)(all:bf)(n:Nat)(fr:au):Operand->aa
 |.tmp t=>bif aC0 A tab n t 0 all then .undef else aX fr t
 |x=>ev fr x
def IC(A:a6)(t:Nat):Nat->bf->Bool
 |_,[]=>S
 |i,p::r=>(match p.dst with|some d=>Au d t&&wC i A|none=>S)||IC A t (i+1) r
def gP(A:a6)(all:bf)(fr:au):Nat->aa:=λt=>bif IC A t 0 all then .undef else aX fr t
def aGJ(E:Env)(A tab:a6)(all:bf)(fr:au)(ac:aw):a6->Prop
 |[]=>True
 |i::r=>(match nth all i with
   |some p=>(match p.guard with
    |none=>(match p.dst with
     |some d=>eop E (gK E p.dst) (aS ac) (aC ac) (evP A tab all i fr) p.op p.type= .val (aX fr d)
     |none=>False)
    |some _=>False)
   |none=>False)/\aGJ E A tab all fr ac r
def wP(tab:a6)(n:Nat):a6->a6
 |[]=>[]
 |i::r=>bif cY (dF tab n) i then wP tab n r else i::wP tab n r
def aFW(fr:au)(d:Option Nat)(v:aa)(k:au->Prop):Prop:=
 match d with
 |none=>k fr
 |some d=>AV fr d v k
def QT(fr:au)(d:Option Nat)(v:aa)(k:au->Prop):aFW fr d v k=k (lC fr d v):=by
 cases d with
 |none=>rfl
 |some d=>exact mA fr d v k
def chB(tab:a6):a6->Bool
 |[]=>O
 |n::r=>(r.all λj=>cY (dF tab j) n)&&chB tab r
def aIi(A B:a6):Nat->Bool
 |0=>O
 |n+1=>(wC n A||wC n B)&&aIi A B n
def aGw(sz:Nat):a6->Bool
 |[]=>O
 |n::r=>(Fl n sz&& !wC n r)&&aGw sz r
def zO(tab:a6)(n:Nat):a6->Bool
 |[]=>O
 |j::r=>!(cY (dF tab n) j)&&zO tab n r
def sH(n:Nat):a6->a6
 |[]=>[]
 |j::r=>bif Au j n then r else j::sH n r
def SU{tab:a6}{n:Nat}:∀{l:a6},(∀j∈l,cY (dF tab n) j=S)->zO tab n l=O
 |[],_=>rfl
 |j::r,h=>by unfold zO;rw[h j (List.mem_cons_self ..),SU λk a=>h k (List.mem_cons_of_mem _ a)];rfl
def DL(n:Nat):∀l:a6,sH n l=l.erase n
 |[]=>rfl
 |j::r=>by unfold sH;rw[List.erase_cons,DL n r];simp
def LJ{A B:a6}:∀{n:Nat},aIi A B n=O->∀i,i<n->i∈A\/i∈B
 |0,_,i,hi=>by omega
 |n+1,h,i,hi=>by
  simp only[aIi,Af,Fg,nA]at h;by_cases e:i=n
  .grind
  .exact LJ h.2 i o_
def JR{sz:Nat}:∀{l:a6},aGw sz l=O->l.Nodup/\∀i∈l,i<sz
 |[],_=>⟨List.nodup_nil,λi h=>by cases h⟩
 |n::r,h=>by
  simp only[aGw,Af,Bool.not_eq_true',Ka]at h;obtain⟨h1,a⟩:=JR h.2;refine⟨List.nodup_cons.2 ⟨λhm=>?_,h1⟩,λi b=>?_⟩
  .have:=nA.2 hm
   grind
  grind
def J9{A tab:a6}{n t:Nat}:∀{l:bf} {k:Nat},aC0 A tab n t k l=S->∀(i:Nat) p,l[i]? =X p->p.dst=X t->(k+i)∈A->cY (dF tab n) (k+i)=O
 |[],_,_,i,p,hi,_,_=>by simp at hi
 |q::r,k,h,i,p,hi,hd,ha=>by
  simp only[aC0,Kt]at h;cases i with
  |zero=>
   simp at hi;subst hi;have h1:=h.1;rw[hd]at h1;dsimp only at h1;rw[Ng,Bt,show wC k A=O from nA.2 ha,Bt]at h1
   grind
  |succ i=>
   have:=J9 (k:=k+1) h.2 i p (by simp_all) hd (by grind)
   grind
def BE{A:a6}{t:Nat}:∀{l:bf} {k:Nat},IC A t k l=S->∀(i:Nat) p,l[i]? =X p->(k+i)∈A->p.dst≠X t
 |[],_,_,i,p,hi,_=>by simp at hi
 |q::r,k,h,i,p,hi,ha=>by
  simp only[IC,Kt]at h;cases i with
  |zero=>
   simp at hi;subst hi;intro a;have h1:=h.1;rw[a]at h1;dsimp only at h1;rw[Ng,Bt]at h1;have:=nA.2 (show k∈A from ha)
   grind
  |succ i=>exact BE (k:=k+1) h.2 i p (by simp_all) (by grind)
def aBl{A:a6}{t:Nat}:∀{l:bf} {k:Nat},IC A t k l=O->∃(i:Nat) (p:Oper),l[i]? =X p/\(k+i)∈A/\p.dst=X t
 |[],_,h=>by cases h
 |q::r,k,h=>by
  simp only[IC,Fg]at h;rcases h with h|h
  .split at h
   .rename_i d a;rw[Af,nA,Nat.beq_eq]at h;exact⟨0,q,rfl,h.2,by rw[a,h.1]⟩
   .cases h
  .obtain ⟨i,p,h1,b,h3⟩:=aBl h;exact⟨i+1,p,by simp_all,by grind,h3⟩
theorem LB{tab:a6}{n i:Nat}:∀{Be:a6},i∈Be->cY (dF tab n) i=S->i∈wP tab n Be
 |[],h,_=>by cases h
 |j::r,h,ht=>by
  unfold wP;rcases Ba.1 h with rfl|h
  .grind
  .have:=LB h ht
   grind
section
variable {rd:Option Nat} {M0:Imm} {ob0:Hs} {aq:aw} {w0:World} {sz:Nat} {dfs:List (Nat×az)} {E:Env} {ops:Array Oper} {Q:Exit->Act->World->Prop} {K:au->aw->Prop} {Kp:(Nat->aa)->aa->aw->Prop} {A tab:a6}
def SM(M0:Imm)(ob0:Hs)(aq:aw)(w0:World)(sz:Nat)(dfs:List (Nat×az))(ops:Array Oper)(b:a6)(fr:au)(ac:aw)(a:Act)(w:World):Prop:=
 ∃M ob,Ext M0 ob0 aq w0 M ob ac w/\Mem M ob ac w/\(∀t,(∀i∈b,∀p,ops[i]? =X p->p.dst≠X t)->Rep M ob (a.tmps.getD t undef) (aX fr t))/\a.tmps.size=sz/\dD w0 w M ob a.defers dfs/\Z ob0<=Z ac
def O1{a:Array Bool}{j:Nat}(h:j∈Dy .any ops a)(b:a.size=ops.size):j<ops.size/\a.getD j S=false:=by grind[mem_ready,Array.getElem?_eq_some_iff,Array.getD_eq_getD_getElem?,Im]
theorem xA(c:TabSp ops tab){a:Array Bool}(b:a.size=ops.size):∀(n j:Nat),j<n->j<ops.size->a.getD j S=S->Dy .any ops a≠[]
 |0,j,h,_,_=>by omega
 |n+1,j,h,hj,hl=>λd=>by
  obtain⟨p,hp⟩:∃p,ops[j]? =X p:=⟨ops[j],Im hj⟩
  have:j∈Dy .any ops a:=mem_ready.2 ⟨by
   grind,p,hp,λe k i=>by
    have f:=c.back j p hp e k i;cases g:a.getD e.on S with
    |true=>rfl
    |false=>exact bv d (xA c b n e.on o_ o_ g)⟩
  grind
end
def aY{p q:Prop}(h:p):(O=O->p)/\(O=S->q):=⟨λ_=>h,λh=>bv h d_⟩
def aN{p q:Prop}(h:q):(S=O->p)/\(S=S->q):=⟨λh=>bv h d_,λ_=>h⟩
def aT{a p q:Prop}[Decidable a](h:decide a=O->p)(b:a:=by omega):(decide a=O->p)/\(decide a=S->q):=⟨h,λh=>bv b (bm h)⟩
def aF{a p q:Prop}[Decidable a](h:decide a=S->q)(b:¬ a:=by omega):(decide a=O->p)/\(decide a=S->q):=⟨λh=>bv (bn h) b,h⟩
def aD{p q:Prop}(h:q)(hp:p:=by first|decide|omega):p/\q:=⟨hp,h⟩
def aJ{k:IntKind}{n:Int}{p q:Prop}(h:p)(h1:bV k<=n:=by simp only[bV];omega)(a:n<=aW k:=by simp only[aW];omega):(inR k n/\p)\/q:=.inl ⟨⟨h1,a⟩,h⟩
def gW{E:Env}{fn:Func}{g:Goal}{st:St}(hE:ae E)(h:cA E fn g (To E fn g) 100 st):To E fn g st:=bO hE 100 h
def gN{E:Env}{fn:Func}{g:Goal}{st:St}(hE:ae E)(h:cA E fn g (To E fn g) 100 st)(hs:aAo st=true:=by rfl):To E fn g st:=goN hE 100 hs h
def cT{E:Env}{f:FuncId}{fn:Func}{args:az}{ac:aw}{g:Goal}(h:okL args->To E fn g (.code [.code (dS fn)] (frA 0 args) ac))(b:E.df=[]:=by rfl)(j:E.P.funcs[f]? =X fn:=by rfl)(k:fn.body=X (dS fn):=by rfl)
  (a:pD E.P f:=by exact λ_ _=>by rfl) (e:dR fn.ntmps (dS fn)=true:=by decide+kernel) (i:Fv (Z args) fn.ntmps=true:=by rfl) (c:wX ac=true:=by rfl) (l:Z ac=g.n0:=by rfl) (d:E.rd=none:=by rfl):aA E.P f args ac g.res g.obs:=
 aA.to b j k a e i c l h d
def FT(z:aa):OR->Prop
 |.val v=>v=z
 |.need p r=>p/\FT z r
 |.idx n f=>∃i:Nat,n=(i:Int)/\FT z (f i)
 |.elem xs i f=>∃x,xs[i]? =X x/\FT z (f x)
 |.find es key f=>FT z (f (bZ es key))
 |_=>False
def RY(k:aa->Prop):OR->Prop
 |.val v=>k v
 |.need p r=>p/\RY k r
 |.idx n f=>∃i:Nat,n=(i:Int)/\RY k (f i)
 |.elem xs i f=>∃x,xs[i]? =X x/\RY k (f x)
 |.find es key f=>∃o,bZ es key=o/\RY k (f o)
 |_=>False
def IN(E:Env)(A tab:a6)(all:bf)(ac:aw):a6->au->(au->Prop)->Prop
 |[],fr,k=>k fr
 |i::r,fr,k=>match nth all i with
  |some p=>(match p.dst with
   |some d=>RY (λv=>KD 5 v λv=>AV fr d v λfr=>IN E A tab all ac r fr k) (eop E (gK E p.dst) (aS ac) (aC ac) (evP A tab all i fr) p.op p.type)
   |none=>False)
  |none=>False
section
variable {rd:Option Nat} {M0:Imm} {ob0:Hs} {aq:aw} {w0:World} {sz:Nat} {dfs:List (Nat×az)} {E:Env} {ops:Array Oper} {Q:Exit->Act->World->Prop} {K:au->aw->Prop} {Kp:(Nat->aa)->aa->aw->Prop} {A tab:a6}
end
end Go.AW
