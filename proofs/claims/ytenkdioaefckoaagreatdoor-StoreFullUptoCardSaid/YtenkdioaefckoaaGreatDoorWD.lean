/- Part 4 of what the statement rests on. -/
import Derived.Test.YtenkdioaefckoaaGreatDoorWC
set_option linter.all false
open List renaming length->Z
open Bool renaming true->O,false->U
open Option renaming some->X,none->D
open Array renaming getD_eq_getD_getElem?->Bh,getElem?_eq_getElem->Ho,getElem?_setIfInBounds_ne->Gh,getElem?_setIfInBounds_self_of_lt->Fg
open Bool renaming and_eq_true->Af,or_eq_false_iff->Ky,or_eq_true->Fo,true_and->Bz
open Go.Builtin renaming append_->Cv
open Go.Region renaming ready->Ea,wanted->Fq
open Go.World renaming block_lt_of_cell?->Cx,cell?->Kz,cell?_of_block->Cw,ownsRow_nil->Hv,putObj_heap_other->Gt,putObj_heap_same->Mu
open List renaming eq_nil_of_length_eq_zero->Ay,getElem?_append_left->Ai,getElem?_append_right->Au,getElem?_eq_some_iff->Ad,getElem?_map->Cd,getElem?_set_ne->Bg,getElem?_set_self->Ba,length_erase_of_mem->Mf,length_pos_of_mem->Mv,mem_append->Cc,mem_cons->Az,mem_cons_of_mem->Bb,mem_cons_self->Aw,mem_map->Cq,mem_of_getElem?->Ax,mem_range->Nh,mem_singleton->Dr,nodup_append->Cr,prefix_refl->Ct,range->Dh,replicate->Ak
open Nat renaming beq->Av,beq_refl->Ns,ble->Gc,blt->Fi,blt_eq->Jl,le_refl->Bc,le_trans->Cp,lt_of_lt_of_le->Ew,zero_add->Bv
open Ne renaming symm->Gq
namespace Go.AW
open Go.RowKit
open Classical
def cR(l:Nat)(R:Loop):BInv where
 inv _ bs w:=bs=[l]/\w.heap[l]? =X (.loop R)
 mono:=λ_ _ hb ⟨h1,h2⟩=>⟨h1,hb _ _ (by rw[h1];simp) h2⟩
theorem fI(bs:a6):Q4 (fK bs)=bs:=FW (hs:=[fK bs]) rfl
theorem jM{hs:bb}{g:Nat}{I:BInv}{k b:Nat}:aM [hs] [.bun g I] k b↔k=0/\b∈blk hs:=by
 constructor
 .rintro ⟨c,hs',a,f,e,d⟩;cases k with
  | zero=>grind
  | succ k=>simp at a
 .rintro ⟨rfl,h⟩;exact⟨_,hs,rfl,rfl,rfl,h⟩
section
variable {M:Imm} {ob:Hs} {ac:aw} {w:World}
def Mem.recAt(h:Mem M ob ac w){k l g:Nat}{R:Loop}(a:ac[k]? =X (.bun g (cR l R))):∃hs,ob[k]? =X hs/\Z hs=g+1/\hs[g]? =X (fK [l])/\blk hs=[l]/\w.heap[l]? =X (.loop R):=by
 obtain⟨hs,c,hl,bs,d,b,rfl,e⟩:=h.obj k _ a
 grind[fH,fI]
def Mem.recTurn(h:Mem M ob ac w){k l g:Nat}{R:Loop}(n:ac[k]? =X (.bun g (cR l R)))(a:Loop):
  Mem M ob (ac.set k (.bun g (cR l a))) (w.putObj l (.loop a))/\Ext M ob ac w M ob (ac.set k (.bun g (cR l a))) (w.putObj l (.loop a)):=by
 obtain⟨hs,m,hl,s,i,j⟩:=h.recAt n;have d:=gO j
 have:=h.turn (M':=M) (w':=w.putObj l (.loop a)) (x':=.bun g (cR l a)) (hs':=hs) n m (Ct _) (λe=>by cases e) (λ_ _ _ h=>h) (λ_ _ _ h=>.inl h) (λc o y r=>by
   obtain⟨u,f,v,x⟩:=h.imm c o y r;have p:c≠l:=λe=>by subst e;unfold Kz at f;dsimp only at f;rw[j]at f;cases f
   grind[Cw,Gt])
  (λc _ q=>Gt λe=>q ⟨rfl,by simp_all⟩) rfl rfl rfl s_ (λ_=>⟨hl,[l],s,λb i=>by
   rw[Dr.1 i]
   exact⟨_,Mu d,rfl⟩,rfl,Mu d⟩)
  (λ_ c t=>⟨.inl ⟨rfl,t⟩,by simp_all⟩)
 rw[gR m]at this
 grind
def Mem.drop(h:Mem M ob ac w)(k:Nat):Mem M ob (ac.set k .dead) w/\∀{i b:Nat},aM ob (ac.set k .dead) i b->aM ob ac i b:=by
 have a:aAq (ac.set k .dead) ac:=⟨by simp,λi=>by
  by_cases d:i=k
  .subst d
   grind
  grind⟩
 exact⟨h.weak a,λc=>a.alive c⟩
end
section
variable {E:Env} {fn:Func} {g:Goal}
def To.beginR{l k gg:Nat}{R:Loop}{ks:bg}{fr:au}{ac:aw}(f:E.rd=X l)(p:aE ac k= .bun gg (cR l R))(s:R.state= .ready)
  (h:To E fn g (.code ks fr (bU ac k (.bun gg (cR l {R with state:=.busy}))))):To E fn g (.code (.beginR::ks) fr ac):=
 .mk λj M0 ob0 aq w0 a w hst hs=>by obtain⟨M,ob,x,hm,i,t,u,y⟩:=hs;have d:=bO p s_;obtain⟨o,m⟩:=hm.recTurn d {R with state:=.busy};obtain⟨_,_,_,_,_,c⟩:=hm.recAt d;rw[aW d]at h;have key:=(h.rec (motive:=λ_=>DW E fn g _) λh=>h) (by simpa[bN,KI.ok]using j) M0 ob0 aq w0 a _ hst ⟨M,ob,x.trans m,o,i,t,u.ext hm m,by simp;omega⟩;intro b cs n;obtain⟨e,v,w',q,r⟩:=key b cs n;exact⟨e,v,w',q,.of_steps (.one (kX _ _ _) (stepR_beginRound (n.trans f) (run_beginRound c s))) r⟩
end
def lH(ob0:Hs)(fr:au)(R:Loop)(L:aw):BInv where
 inv M bs w:=∃ob,dR ob0 ob/\Z ob=Z L/\(∀(k:Nat) c,L[k]? =X c->∃hs,ob[k]? =X hs/\iY M ob w hs c)/\(∀k k' b,aM ob L k b->aM ob L k' b->k=k')/\
  (∀b,b∈bs↔ ∃k,aM ob L k b)/\∀t,Rep M ob (R.tmps.getD t undef) (bA fr t)
 mono:=λhM hn hb ⟨ob,h1,h2,h3,h4,h5,h6⟩=>⟨ob,h1,h2,λk c hc=>by
  obtain⟨hs,hh,hok⟩:=h3 k c hc
  exact⟨hs,hh,hok.mono hM (dR.refl _) (λb p1 p2=>hn b ((h5 b).2 ⟨k,(dE hc hh).2 ⟨p1,p2⟩⟩)) (λb c' p1 p2=>hb b c' ((h5 b).2 ⟨k,(dE hc hh).2 ⟨p1,p2⟩⟩))⟩,h4,h5,λt=>(h6 t).monoM hM⟩
def Mem.unpack{M:Imm}{ob:Hs}{ac:aw}{w:World}{k g:Nat}{ob0:Hs}{fr:au}{R:Loop}{L:aw}(hm:Mem M ob ac w)(d:ac[k]? =X (.bun g (lH ob0 fr R L))):
  ∃hs a,ob[k]? =X hs/\Z hs=g+1/\dR ob0 a/\Mem M a L w/\(∀b,b∈blk hs↔ ∃k,aM a L k b)/\∀t,Rep M a (R.tmps.getD t undef) (bA fr t):=by
 obtain⟨hs,l,hl,bs,m,h,a,h1,n,h3,j,c,p⟩:=hm.obj k _ d;have f:blk hs=bs:=(fH hl m).trans (fI _);refine⟨hs,a,l,hl,h1,⟨hm.imm,n,h3,λi b e=>?_,j⟩,λb=>by rw[f];exact c b,p⟩;obtain⟨o,q,_⟩:=h b ((c b).2 ⟨i,e⟩);exact gO q
def Mem.pack{M:Imm}{a:Hs}{L:aw}{w:World}{ob0:Hs}{fr:au}{R:Loop}(hm:Mem M a L w)(e:dR ob0 a)(d:∀t,Rep M a (R.tmps.getD t undef) (bA fr t)):
  ∃bs,(∀b,b∈bs↔ ∃k,aM a L k b)/\∀(ob:Hs) (hs:bb),iY M ob w (hs++[fK bs]) (.bun (Z hs) (lH ob0 fr R L)):=by
 let bs:=(Dh w.heap.size).filter λb=>decide (∃k,aM a L k b)
 have c:∀b,b∈bs↔ ∃k,aM a L k b:=λb=>by simp only[bs,List.mem_filter,Nh,bo];exact⟨λh=>h.2,λ⟨k,h⟩=>⟨hm.lt k b h,k,h⟩⟩
 refine⟨bs,c,λob hs=>⟨by simp,bs,by simp,λb g=>?_,a,e,hm.len,hm.obj,hm.inj,c,d⟩⟩;obtain⟨k,f⟩:=(c b).1 g;exact hm.alive_heap f
theorem rY(hs:bb)(v:Value):blk (hs++[v])=Q4 v:=by unfold blk;simp
def aGO{M:Imm}{ob:Hs}{tmps:Array Value}{fr:au}{p:Nat}{v:Value}{x:aa}(h:∀t,Rep M ob (tmps.getD t undef) (bA fr t))(b:Rep M ob v x)(hp:p<tmps.size):
  ∀t,Rep M ob ((tmps.setIfInBounds p v).getD t undef) (bA (iS fr p x) t):=by
 intro t;have:=oJ (a:={tmps:=tmps,defers:=[]}) (d:=X p) h b (λc e=>by grind) t;rw[show bA (iS fr p x) t=kM (bA fr) (X p) x t from congrFun (fC fr (X p) x) t];exact this
def nV(R:Loop)(b:Bool):Loop:=if b then R else {R with state:=.done,pending:=X .ret}
def aDD{R:Loop}(h1:R.state= .ready)(h:R.pending=D):({{R with state:=.busy} with state:=if(D:Option Code).isNone then .ready else .done,pending:=D}:Loop)=nV R true:=by obtain⟨a,b,c,d,e,f,g,i⟩:=R;have h1:a= .ready:=h1;have h:b=none:=h;subst h1 h;rfl
def iP{E:Env}{fn:Func}{ob0:Hs}{l k n p gg:Nat}{R:Loop}{as G:Code}{fr:au}{L L':aw}{x:Int}{b:Bool}(hps:R.params= #[p])(N:R.state= .ready)(W:R.pending=D)(has:R.assign=as)(hbd:R.body=G)(hsz:R.tmps.size=fn.ntmps)
  (hp:Fi p fn.ntmps=O) (hdf:E.df=[]) (hco:(dW fn.ntmps as&&dW fn.ntmps G)=O) (hk:aE L k= .bun gg (cR l R)) (hn:Z L=n) (hn':Z L'=n) (Am:aE L' k= .bun gg (cR l {R with state:=.busy}))
  (h:inR .i64 x->To {E with rd:=X l} fn (.keep n (.ret (.bool b)) L') (.code [.code as,.beginR,.code G] (iS fr p (.int .i64 x)) L)):
  bQ E.P (.yield l) [.int .i64 x] [.bun 0 (lH ob0 fr R L)] (.ret (.bool b)) [.bun 1 (lH ob0 fr R (L'.set k (.bun gg (cR l (nV R b)))))]:=by
 intro M ob w m hm hr;obtain⟨hs,f,T,hl,hle,u,C,As⟩:=hm.unpack (k:=0) rfl;have At:ob=[hs]:=by
  have:=hm.len
  match ob,this,T with
  | [y],_,T=>simp at T;rw[T]
 subst At;obtain⟨v,rfl⟩:∃v,m=[v]:=by
  have:=hr.1
  match m,this with
  | [v],_=>simp
 have hv:Rep M [hs] v (.int .i64 x):=hr.2 0 v _ rfl rfl;obtain⟨rfl,Q⟩:=hv.int_inv;obtain⟨_,_,_,_,_,hloop⟩:=u.recAt (bO hk s_);have Y:p<R.tmps.size:=by rw[hsz];simpa[Jl]using hp
 have hfold:(R.params.zip #[Go.Value.int .i64 x]).foldl (λtmps (t,a)=>tmps.setIfInBounds t a) R.tmps=R.tmps.setIfInBounds p (.int .i64 x):=by rw[hps];simp
 refine⟨R.fn,R.tmps.setIfInBounds p (.int .i64 x),as,G,?_,trivial,λc cs _=>?_⟩
 .grind [run_yield]
 let b0:Frame:={(default:Frame)with fn:=R.fn,kind:=.normal,roundOf:=X l}
 let a0:Act:={tmps:=R.tmps.setIfInBounds p (.int .i64 x),defers:=[]}
 have hb0:Frame.round l R.fn (R.tmps.setIfInBounds p (.int .i64 x)) as G .normal=b0.atR a0 (iT [.code as,.beginR,.code G]):=by rfl
 rw[hb0]
 have hst:tW (.keep n (.ret (.bool b)) L') f:=⟨by rw[u.len];exact hn,λh=>by cases h⟩
 have hok:bN fn.ntmps [.code as,.beginR,.code G]=true:=by simp only[bN,KI.ok,Bool.and_true,Bz];omega
 obtain⟨h0⟩:=h Q;obtain⟨e,a',w',I,z⟩:=h0 hok M f L w a0 w hst ⟨M,f,Ext.refl _ _ _ _,u,aGO As (.int _ _ Q) Y,by show(R.tmps.setIfInBounds p _).size=_;simp;omega,by show dN w w M f [] E.df;rw[hdf];exact .nil,by rw[u.len];omega⟩ b0 (c::cs) rfl
 have fin:∀{s:Bool} {w':World} {st:LoopState} {jump:Option Code},(jump.isNone=s)->({{R with state:=.busy} with state:=if jump.isNone then .ready else .done,pending:=jump}:Loop)=nV R s->RR M f L w (.keep n (.ret (.bool b)) L') (.returned (.bool s)) w'->
   s=b/\∃Be,(Instr.endRound l jump).run E.P w'= .ok (.bool s) Be/\∃M' ob',Ext M [hs] [.bun 0 (lH ob0 fr R L)] w M' ob' [.bun 1 (lH ob0 fr R (L'.set k (.bun gg (cR l (nV R b)))))] Be/\Mem M' ob' [.bun 1 (lH ob0 fr R (L'.set k (.bun gg (cR l (nV R b)))))] Be:=by
  intro s w' st jump K hR ⟨M',g,F,A,x3⟩;have e:s=b:=by have:=Rep.bool_inv (M:=M') (ob:=g) (b:=b) x3;simpa using this
  subst e;refine⟨rfl,?_⟩;have A:Mem M' g L' w':=A;have F:Ext M f L w M' g L' w':=F;have S:=bO Am s_;obtain⟨_,_,_,_,_,r⟩:=A.recAt S;obtain⟨V,m2⟩:=A.recTurn S (nV R s);have d:=run_endRound (P:=E.P) jump r;rw[hR,K]at d;refine⟨_,d,M',?_⟩;have An:=F.trans m2;obtain⟨bs,J,hpk⟩:=V.pack (fr:=fr) (R:=R) (hle.trans An.hs) λt=>(As t).mono An.imm An.hs;have hal':∀{k b},aM [hs++[fK bs]] [.bun 1 (lH ob0 fr R (L'.set k (.bun gg (cR l (nV R s)))))] k b->b∈bs:=λ{k b} H=>by grind[jM,rY,fI]
  have h1:Z hs=1:=hl;refine⟨[hs++[fK bs]],⟨An.imm,λb o y hy=>?_,λi hs' hi=>?_,An.os,An.tape,An.output,An.size,λb B hn=>An.keep b B λi H=>hn 0 (jM.2 ⟨rfl,(C b).2 ⟨i,H⟩⟩),λi b H=>?_⟩,⟨V.imm,rfl,λi c hc=>?_,λi b H=>?_,λi j b H B=>?_⟩⟩
  .rcases An.new b o y hy with q|q|q
   .exact .inl q
   .omega
   .exact .inr (.inr ⟨0,jM.2 ⟨rfl,(C b).2 q⟩⟩)
  .grind
  .have B:b∈bs:=by grind[jM,rY,fI]
   obtain⟨j,K⟩:=(J b).1 B;rcases An.fresh j b K with q|q
   .exact .inl ⟨0,jM.2 ⟨rfl,(C b).2 q⟩⟩
   omega
  .grind
  .have B:b∈bs:=by grind[jM,rY,fI]
   obtain⟨j,K⟩:=(J b).1 B;exact V.lt j b K
  .rw [(jM.1 H).1,(jM.1 B).1]
 cases e with
 | normal=>
  obtain⟨rfl,Be,d,M',ob',F,A⟩:=fin (st:=.ready) (jump:=D) rfl (aDD N W) I;exact⟨.returned (.bool O),Be,⟨M',ob',F,A,.bool _⟩,StepsIn.trans z (.one (kX _ _ _) (stepR_round_end rfl rfl d))⟩
 | ret=>
  obtain⟨rfl,Be,d,M',ob',F,A⟩:=fin (st:=.ready) (jump:=X .ret) rfl rfl I;obtain⟨k₁,hs'⟩:=z.2 rfl;exact⟨.returned (.bool U),Be,⟨M',ob',F,A,.bool _⟩,StepsIn.trans hs' (.one (kX _ _ _) (stepR_round_ret rfl rfl d))⟩
 | panic ch=>exact I.elim
 | exit id=>exact I.elim
 | goto t=>exact I.elim
 | outgrown=>exact I.elim
def SQ:Code->Option (Code×Code)
 | .rangeFunc _ _ as c=>X (as,c)
 | .seq a b=>(match SQ a with|some x=>X x|none=>SQ b)
 | .cond _ a b=>(match SQ a with|some x=>X x|none=>SQ b)
 | .block _ b=>SQ b
 | .loop b=>SQ b
 | _=>D
def rfA(fn:Func):Code:=match SQ (eF fn)with|some p=>p.1|none=>.skip
def rfB(fn:Func):Code:=match SQ (eF fn)with|some p=>p.2|none=>.skip
def KW.range{rd:Option Nat}{P:Program}{Q:Exit->Act->World->Prop}{ks:bg}{a:Act}{w:World}{x:Operand}{A:Array Tmp}{as B:Code}
  (h:∀fn,∃(l:Nat) (c:List Deferred) (p:World) (d:Deferred) (f:FuncId) (args:Array Value),
   (Instr.enterLoop fn a.tmps A as B rd).run P w= .ok (l,c) p/\(resolve a.eval (rangeCall x l) 0).run P p= .ok d p/\(invoke d.target d.args).run P p= .ok (.enter f args) p/\
   Calls P f args p λe F=>∃v,e= .returned v/\∃jump z,(Instr.endLoop l).run P F= .ok jump z/\KW rd P Q ((jump.map KI.code).toList++ks) {a with defers:=c++a.defers} z):
  KW rd P Q (.code (.rangeFunc x A as B)::ks) a w:=by
 intro b cs u;obtain⟨l,c,p,d,f,args,Be,s,y,n⟩:=h b.fn;rw[<-u]at Be;have j:=stepR_rangeFunc (P:=P) (b:=b) (a:=a) (k:=iT ks) (cs:=cs) (w:=w) Be s y;obtain⟨e,F,fr,⟨v,rfl,jump,z,t,G⟩,g,I,i⟩:=n (b.atR {a with defers:=c++a.defers} (.inRangeFunc l::iT ks)::cs);obtain⟨H,J,w',q,r⟩:=G b cs u;refine⟨H,J,w',q,?_⟩;have C:iT ((jump.map KI.code).toList++ks)=(jump.map Item.code).toList++iT ks:=by cases jump<;>rfl
 rw[C]at r;have o:Steps P (lone (b.atR a (.code (.rangeFunc x A as B)::iT ks)) cs w) (lone (b.atR {a with defers:=c++a.defers} ((jump.map Item.code).toList++iT ks)) cs z):=by refine .head j (Steps.trans g (.head ?_ (.one (stepR_endRangeFunc t))));rw[<-finish_atR_inRangeFunc l v];exact step_leave_returned i
 exact .of_steps ((StepsIn.of_steps o).mono λm _=>kX _ _ m) r
section
variable {M:Imm} {ob:Hs} {ac:aw} {w:World}
def Mem.layRec(hm:Mem M ob ac w)(R:Loop):
  Mem M (ob++[[fK [w.heap.size+1]]]) (mN ac (.bun 0 (cR (w.heap.size+1) R))) ((w.alloc (.deferred (X []))).alloc (.loop R))/\
  Ext M ob ac w M (ob++[[fK [w.heap.size+1]]]) (mN ac (.bun 0 (cR (w.heap.size+1) R))) ((w.alloc (.deferred (X []))).alloc (.loop R)):=by
 rw[qS];have e:Mem M ob ac (w.alloc (.deferred (X []))):=hm.same s_ λb c=>heap_alloc_old w _ c
 have f:Ext M ob ac w M ob ac (w.alloc (.deferred (X []))):=⟨λ_ _ _ h=>h,λ_ _ _ h=>.inl h,dR.refl _,rfl,rfl,rfl,by simp,λb c _=>heap_alloc_old w _ c,λk b l=>.inl ⟨k,l⟩⟩
 obtain⟨g,j,_⟩:=e.extend 1;have h1:(ac++Ak 1 ab.dead)[Z ac]? =X .dead:=by simp
 have q:(ob++Ak 1 ([]:bb))[Z ac]? =X []:=by rw[<-hm.len];simp
 have d:(w.alloc (.deferred (X []))).heap.size=w.heap.size+1:=zX ..
 have t:=g.turn (M':=M) (w':=(w.alloc (.deferred (X []))).alloc (.loop R)) (x':=.bun 0 (cR (w.heap.size+1) R)) (hs':=[fK [w.heap.size+1]]) h1 q ⟨_,rfl⟩ (λ_=>rfl) (λ_ _ _ h=>h) (λ_ _ _ h=>.inl h) (λb o y m=>by
   obtain⟨u,i,p,s⟩:=g.imm b o y m
   exact⟨u,(Cw (w:=w.alloc (.deferred (X []))) (a:=⟨b,o,D⟩) (heap_alloc_old _ _ (Cx _ _ i))).trans i,p,s⟩)
  (λb c _=>heap_alloc_old _ _ c) rfl rfl rfl s_ (λ_=>⟨rfl,[w.heap.size+1],rfl,λb c=>by
   rw[Dr.1 c,<-d]
   exact⟨_,heap_alloc_new _ _,rfl⟩,rfl,by rw[<-d];exact heap_alloc_new _ _⟩)
  (λ_ b c=>by
   have:blk [fK [w.heap.size+1]]=[w.heap.size+1]:=fI _
   grind[Dr,zX])
 have n:(ob++Ak 1 ([]:bb)).set (Z ac) [fK [w.heap.size+1]]=ob++[[fK [w.heap.size+1]]]:=by rw[<-hm.len];simp
 have r:(ac++Ak 1 ab.dead).set (Z ac) (.bun 0 (cR (w.heap.size+1) R))=ac++[.bun 0 (cR (w.heap.size+1) R)]:=by simp
 rw[n,r]at t;exact⟨t.1,f.trans (j.trans t.2.1)⟩
def LG:∀(ks:a6) (ac:aw),(∀k∈ks,k<Z ac)->aAq (uF ks ac) ac/\∀k∈ks,(uF ks ac)[k]? =X .dead
 | [],ac,_=>⟨⟨rfl,λ_=>.inl rfl⟩,λk h=>by simp at h⟩
 | x::r,ac,hlt=>by
  have c:x<Z ac:=hlt x s_;have e:bU ac x .dead=ac.set x .dead:=gY _ c;obtain⟨⟨h1,d⟩,h3⟩:=LG r (bU ac x .dead) (λk a=>by grind);have b:∀k:Nat,(uF (x::r) ac)[k]? =ac[k]?\/(uF (x::r) ac)[k]? =X ab.dead:=λk=>by
   rcases d k with q|q
   .by_cases a:k=x
    .subst a;right;show(uF r (bU ac k .dead))[k]? =_;rw[q,e,Ba c]
    .left;show(uF r (bU ac x .dead))[k]? =_;rw[q,e,Bg (Gq a)]
   .exact .inr q
  refine⟨⟨by show Z (uF r (bU ac x .dead))=_;rw[h1,e];simp,b⟩,λk a=>?_⟩;rcases Az.1 a with rfl|a
  .show (uF r (bU ac k ab.dead))[k]? =X ab.dead
   grind[Ba]
  .exact h3 k a
def Mem.snoc{A:aw}{a:Hs}{c:ab}{hs:bb}(hm:Mem M a A w)(B:∀ob,dR a ob->iY M ob w hs c)(q:∀b∈blk hs,b<w.heap.size)(e:∀k b,aM a A k b->b∉blk hs):
  Mem M (a++[hs]) (A++[c]) w/\∀k b,aM (a++[hs]) (A++[c]) k b->(k<Z A/\aM a A k b)\/(k=Z A/\b∈blk hs):=by
 have m:dR a (a++[hs]):=λj l f=>⟨l,by grind[Ai,Ad],Ct _⟩
 have g:∀{j:Nat} {x:ab},(A++[c])[j]? =X x->(j<Z A/\A[j]? =X x/\(a++[hs])[j]? =a[j]?)\/(j=Z A/\x=c/\(a++[hs])[j]? =X hs):=λ{j x} f=>by
  by_cases h:j<Z A
  .rw [Ai h]at f;exact .inl ⟨h,f,Ai (by rw[hm.len];exact h)⟩
  .have d:j=Z A:=by grind[Ad]
   subst d;rw[Au s_]at f;simp at f;exact .inr ⟨rfl,f.symm,by rw[<-hm.len];simp⟩
 have p:∀k b,aM (a++[hs]) (A++[c]) k b->(k<Z A/\aM a A k b)\/(k=Z A/\b∈blk hs):=by
  rintro k b ⟨x,l,y,z,n,s⟩;rcases g y with⟨h1,d,h3⟩|⟨h1,d,h3⟩
  .rw [h3]at n;exact .inl ⟨h1,x,l,d,z,n,s⟩
  .rw [h3]at n;cases n;exact .inr ⟨h1,s⟩
 refine⟨⟨hm.imm,by simp[hm.len],λk x t=>?_,λk b r=>?_,λi j b r v=>?_⟩,p⟩
 .rcases g t with⟨h1,d,h3⟩|⟨h1,rfl,h3⟩
  .obtain ⟨l,u,C⟩:=hm.obj k x d;exact⟨l,by rw[h3];exact u,C.mono (λ_ _ _ h=>h) m (λ_ _ _ _ h=>h) (λ_ _ _ _ h=>h)⟩
  .exact ⟨hs,h3,B _ m⟩
 .rcases p k b r with⟨_,h⟩|⟨_,h⟩
  .exact hm.lt k b h
  .exact q b h
 .rcases p i b r with⟨h1,d⟩|⟨h1,d⟩<;>rcases p j b v with⟨h3,o⟩|⟨h3,o⟩
  .exact hm.inj i j b d o
  .exact bv o (e i b d)
  .exact bv d (e j b o)
  omega
end
def bQ.bunTo{P:Program}{f:Fn}{args:az}{ac:aw}{r:Res}{gg:Nat}{I j:BInv}(h:bQ P f args ac r [.bun gg I])
  (t:∀(M:Imm) (bs:a6) (w:World),(∀b o x,M b o x->∃v,w.cell? ⟨b,o,D⟩=X v/\v.oneCell'=O/\Rep M [] v x)->(∀b,b∈bs->b<w.heap.size)->I.inv M bs w->j.inv M bs w):bQ P f args ac r [.bun gg j]:=
 λM ob w d hm s=>cP.mono (λe w' ⟨M',ob',a,g,z⟩=>by
  have i:∀{k b},aM ob' [.bun gg j] k b->aM ob' [.bun gg I] k b:=λ{k b} ⟨c,hs,e1,e2,e3,e4⟩=>by
   cases k with
   | zero=>exact⟨_,hs,rfl,rfl,e3,e4⟩
   | succ k=>simp at e1
  refine⟨M',ob',⟨a.imm,a.new,a.hs,a.os,a.tape,a.output,a.size,a.keep,λk b l=>a.fresh k b (i l)⟩,⟨g.imm,g.len,λk c n=>?_,λk b l=>g.lt k b (i l),λk u b h1 m=>g.inj k u b (i h1) (i m)⟩,z⟩;cases k with
  | zero=>
   simp at n;subst n;obtain⟨hs,h1,m,bs,h3,p,A⟩:=g.obj 0 _ rfl;exact⟨hs,h1,m,bs,h3,p,t _ _ _ g.imm (λb y=>by obtain⟨o,q,_⟩:=p b y;exact gO q) A⟩
  | succ k=>simp at n) (h M ob w d hm s)
def GF:∀(n j i:Nat),i<n->(upto j n)[i]? =X (j+i)
 | 0,_,_,h=>by omega
 | n+1,j,0,_=>rfl
 | n+1,j,i+1,h=>by show(upto (j+1) n)[i]? =_;rw[GF n (j+1) i o_,show j+1+i=j+(i+1)from by omega]
def aJD{ob0:Hs}{fr:au}{R:Loop}{L L':aw}{n:Nat}(B:Z L=n)(h1:∀hs∈ob0,Z hs=1)(hl:Z ob0<=n)(q:kO (upto 0 n) L=O)(g:VY n (upto 0 n) (aE L) fr=fr)(A:iC n (upto 0 n) L=L'):
  ∀(M:Imm) (bs:a6) (w:World),(∀b o x,M b o x->∃v,w.cell? ⟨b,o,D⟩=X v/\v.oneCell'=O/\Rep M [] v x)->(∀b,b∈bs->b<w.heap.size)->(lH ob0 fr R L).inv M bs w->(lH ob0 fr R L').inv M bs w:=by
 rintro M bs w d f ⟨ob,C,G,y,u,r,Be⟩;subst A
 have hm:Mem M ob L w:=⟨d,G,y,λk b a=>f b ((r b).2 ⟨k,a⟩),u⟩
 obtain⟨e,F,z⟩:=hm.cvt (n0:=n) q;refine⟨fT n ob L 0 (upto 0 n),λj hs p=>?_,e.len,e.obj,e.inj,λb=>(r b).trans ⟨λ⟨k,a⟩=>?_,λ⟨j,a⟩=>?_⟩,λt=>?_⟩
 .have i:j<n:=Ew (Ad.1 p).1 hl;obtain⟨hs',l,t,H⟩:=C j hs p;have s:=h1 hs (Ax p);refine⟨kF n j (aE L j) hs',?_,?_⟩
  .rw [iV,GF n 0 j i];simp[l]
  .unfold kF
   grind[List.take_of_length_le]
 .have m:k<n:=by obtain⟨c,_,l,_⟩:=a;rw[<-B];exact(Ad.1 l).1
  exact⟨k,z k k b (by rw[GF n 0 k m,Bv]) a⟩
 .obtain ⟨k,_,h⟩:=F j b a;exact⟨k,h⟩
 .have:=hm.cvtV (n0:=n) q 5 _ _ (Be t);rw[<-C7,g]at this;exact this
structure RecOK(fn:Func)(p:Nat)(as bd:Code)(R:Loop):Prop where
 params:R.params= #[p]
 ready:R.state= .ready
 pend:R.pending=D
 assign:R.assign=as
 body:R.body=bd
 size:R.tmps.size=fn.ntmps
def To.range{E:Env}{fn:Func}{g:Goal}{x:Operand}{p:Nat}{as bd:Code}{ks:bg}{fr:au}{ac:aw}{f:FuncId}{C:az}(m:a6)(hrd:E.rd=D)(hdf:E.df=[])(hbo:qO E.P f)
  (hx:ev fr x= .func (.func f) [] C) (hk:∀l R,kO m (mN ac (.bun 0 (cR l R)))=O) (hlt:(m.all λk=>Fi k (aV ac))=O)
  (h:∀(l:Nat) (ob0:Hs) (R:Loop),tW g ob0->RecOK fn p as bd R->∃(L':aw) (b:Bool) (r:aa) (s:aw) (gg:Nat),
   aA E.P f (.func (.yield l) [] []::eZ (cvtV 0 m (aE (mN ac (.bun 0 (cR l R)))) 5) C) (iC 0 m (mN ac (.bun 0 (cR l R)))++[.bun 0 (lH ob0 fr R (uF m (mN ac (.bun 0 (cR l R)))))]) (.ret r) (s++[.bun gg (lH ob0 fr R L')])/\
   aE L' (aV ac)= .bun 0 (cR l (nV R b))/\Z s=Z m/\To E fn g (.code (if b then ks else .code .ret::ks) fr (bU L' (aV ac) .dead))):
  To E fn g (.code (.code (.rangeFunc x #[p] as bd)::ks) fr ac):=by
 refine .mk λhok M0 n aq w0 a w hst hs=>?_;obtain⟨M,ob,hx0,hm,hfr,hsz,As,hlen⟩:=hs;rw[hrd];refine KW.range λfid=>?_
 obtain⟨l,hl⟩:∃l,l=w.heap.size+1:=⟨_,rfl⟩
 obtain⟨R,hR⟩:∃R:Loop,R={state:=.ready,pending:=D,fn:=fid,tmps:=a.tmps,params:= #[p],assign:=as,body:=bd,defers:=w.heap.size}:=⟨_,rfl⟩
 have hrec:RecOK fn p as bd R:=by subst hR;exact⟨rfl,rfl,rfl,rfl,rfl,hsz⟩
 have htm:R.tmps=a.tmps:=by subst hR;rfl
 obtain⟨Be,hw1⟩:∃Be,Be=(w.alloc (.deferred (X []))).alloc (.loop R):=⟨_,rfl⟩
 obtain⟨m1,W⟩:=hm.layRec R;rw[<-hl,<-hw1]at m1 W
 obtain⟨A,hob1⟩:∃A,A=ob++[[fK [l]]]:=⟨_,rfl⟩
 rw[<-hob1]at m1 W;obtain⟨L',b,r,s,gg,hcall,hLk,hol,hto⟩:=h l n R hst hrec;generalize J:mN ac (.bun 0 (cR l R))=obs1 at *
 have hobs1l:Z obs1=Z ac+1:=by rw[<-J,qS];simp
 have hk1:kO m obs1=true:=by rw[<-J];exact hk l R
 have hltk:∀k∈m,k<Z obs1:=λk hk=>by grind[List.all_eq_true,Jl,cC]
 obtain⟨hwk,hdead⟩:=LG m obs1 hltk;have mC:=m1.weak hwk;obtain⟨c1,c2,c3⟩:=m1.cvt (n0:=0) hk1;have hfr1:∀t,Rep M A (R.tmps.getD t undef) (bA fr t):=λt=>by rw[htm];exact(hfr t).mono W.imm W.hs
 obtain⟨bs,hbs,hpk⟩:=mC.pack (hx0.hs.trans W.hs) hfr1;have hcl:Z (fT 0 A obs1 0 m)=Z m:=rW;have hsl:Z (iC 0 m obs1)=Z m:=qP;have L:blk ([]++[fK bs])=bs:=by rw[rY,fI]
 obtain⟨mI,aI⟩:=c1.snoc (c:=.bun 0 (lH n fr R (uF m obs1))) (hs:=[]++[fK bs]) (λob _=>hpk ob []) (λb G=>by
   rw[L]at G;obtain⟨j,At⟩:=(hbs b).1 G
   exact mC.lt j b At) (λj b F G=>by
   rw[L]at G;obtain⟨i,T⟩:=(hbs b).1 G;obtain⟨k,e1,e2⟩:=c2 j b F;have:=m1.inj k i b e2 (hwk.alive T);subst this;obtain⟨c,_,q1,q2,_⟩:=T;rw[hdead k (Ax e1)]at q1;cases q1
   cases q2)
 have hev:=I9 hfr x;rw[hx]at hev;obtain⟨z,hax,hcl1,hcr⟩:∃z:bb,a.eval x= .func (.func f) #[] z.toArray/\Z z=Z C/\∀(i:Nat) v y,z[i]? =X v->C[i]? =X y->Rep M ob v y:=by
  generalize a.eval x=va at hev;cases hev with
  | func _ vfs vcs _ _ hl1 hl2 hr1 hr2=>
   grind[Ay]
 have hargs:cV M (fT 0 A obs1 0 m++[[]++[fK bs]]) (.func (.yield l) #[] #[]::z) (.func (.yield l) [] []::eZ (cvtV 0 m (aE obs1) 5) C):=by
  have hle:dR (fT 0 A obs1 0 m) (fT 0 A obs1 0 m++[[]++[fK bs]]):=λj l At=>⟨l,by grind[Ai,Ad],Ct _⟩
  have h2:cV M (fT 0 A obs1 0 m) z (eZ (cvtV 0 m (aE obs1) 5) C):=cQ (λv a hva=>m1.cvtV (n0:=0) hk1 5 v a (hva.mono W.imm W.hs)) hcl1 hcr;refine cV.cons (.func (.yield l) [] [] [] [] rfl rfl (λi v a h=>by simp at h) (λi v a h=>by simp at h)) ⟨h2.1,λi v a hv F=>(h2.2 i v a hv F).mono (λ_ _ _ h=>h) hle⟩
 have hrun:=hcall M _ Be _ mI hargs;have N:Calls E.P f (Value.func (.yield l) #[] #[]::z).toArray Be λe w'=>∃M' ob',Ext M (fT 0 A obs1 0 m++[[]++[fK bs]]) (iC 0 m obs1++[.bun 0 (lH n fr R (uF m obs1))]) Be M' ob' (s++[.bun gg (lH n fr R L')]) w'/\Mem M' ob' (s++[.bun gg (lH n fr R L')]) w'/\wJ M' ob' e (.ret r):=by
  rcases hrun with⟨_,q⟩|⟨u,w',q,_⟩
  .exact q
  .rw [hbo]at q;cases q
 have hent:(Instr.enterLoop fid a.tmps #[p] as bd D).run E.P w= .ok (l,[{target:=.collected w.heap.size,args:= #[]}]) Be:=by rw[hl,hw1,hR];exact run_enterLoop_outer ..
 refine⟨l,[{target:=.collected w.heap.size,args:= #[]}],Be,{target:=.fn (.func f) z.toArray,args:= #[.func (.yield l) #[] #[]]},f,_,hent,?_,?_,N.mono λe Am ⟨M',obI,Y,y2,y3⟩=>?_⟩
 .have:resolve a.eval (rangeCall x l) 0=Deferred.ofValue (a.eval x) #[.func (.yield l) #[] #[]]:=by simp[resolve,rangeCall,Act.eval]
  rw[this,hax];rfl
 .show (callFunc f (#[Value.func (.yield l) #[] #[]]++z.toArray)).run E.P Be=_;rw[hbo];simp
 obtain⟨v,rfl⟩:∃v,e= .returned v:=by
  cases e with
  | returned v=>simp
  | panicked ch=>exact y3.elim
  | outgrown=>exact y3.elim
 refine⟨v,rfl,?_⟩;have hbk:(s++[ab.bun gg (lH n fr R L')])[Z s]? =X (.bun gg (lH n fr R L')):=by simp
 obtain⟨hs',Q,hh',hl',hle',mC',hal',hfr'⟩:=y2.unpack hbk;have H:=bO hLk s_;have hkl:aV ac=Z ac:=cC ac;obtain⟨_,_,_,_,_,hloop⟩:=mC'.recAt H
 have inI:∀{k b},aM (fT 0 A obs1 0 m++[[]++[fK bs]]) (iC 0 m obs1++[.bun 0 (lH n fr R (uF m obs1))]) k b->∃V,aM A obs1 V b:=λ{k b} F=>by
  rcases aI k b F with⟨_,h⟩|⟨_,h⟩
  .obtain ⟨V,_,h⟩:=c2 k b h;exact⟨V,h⟩
  .rw [L]at h;obtain⟨j,At⟩:=(hbs b).1 h;exact⟨j,hwk.alive At⟩
 have xnew:∀b o y,M' b o y->M b o y\/Be.heap.size<=b\/∃k,aM A obs1 k b:=λb o y hy=>by
  rcases Y.new b o y hy with q|q|⟨k,q⟩
  .exact .inl q
  .omega
  .exact .inr (.inr (inI q))
 have I:∀b,b<Be.heap.size->(∀k,¬ aM A obs1 k b)->Am.heap[b]? =Be.heap[b]?:=λb G hn=>Y.keep b G λk F=>by obtain⟨V,hk'⟩:=inI F;exact hn V hk'
 have S:∀k b,aM Q L' k b->(∃V,aM A obs1 V b)\/Be.heap.size<=b:=λk b F=>by
  have G:b∈blk hs':=(hal' b).2 ⟨k,F⟩
  have:aM obI (s++[ab.bun gg (lH n fr R L')]) (Z s) b:=⟨_,hs',hbk,rfl,hh',G⟩
  rcases Y.fresh _ b this with⟨V,q⟩|q
  .exact .inl (inI q)
  omega
 have B:=hx0.trans W
 have An:Ext M0 n aq w0 M' Q L' Am:=⟨λb o y h=>Y.imm _ _ _ (B.imm _ _ _ h),λb o y hy=>by
   rcases xnew b o y hy with h1|h1|⟨i,T⟩
   .exact B.new b o y h1
   .exact .inr (.inl (Cp B.size h1))
   .rcases B.fresh i b T with h2|h2
    .exact .inr (.inr h2)
    omega,hle',Y.os.trans B.os,Y.tape.trans B.tape,Y.output.trans B.output,Cp B.size Y.size,λb G ho=>by
   rw[<-B.keep b G ho];refine I b (Ew G B.size) λi T=>?_;rcases B.fresh i b T with⟨j,At⟩|h2
   .exact ho j At
   .omega,λi b T=>by
   rcases S i b T with⟨j,At⟩|h1
   .exact B.fresh j b At
   .exact .inr (Cp B.size h1)⟩
 have hnb:(nV R b).state≠ .busy:=by
  unfold nV
  grind
 have hend:=run_endLoop (P:=E.P) hloop hnb;obtain⟨t1,t2⟩:=mC'.recTurn H {nV R b with state:=.exhausted};obtain⟨d1,d2⟩:=t1.drop (aV ac);have hfin:bU L' (aV ac) .dead=(L'.set (aV ac) (.bun 0 (cR l {nV R b with state:=.exhausted}))).set (aV ac) .dead:=by rw[aW H,List.set_set]
 rw[<-hfin]at d1 d2;have X2:Ext M0 n aq w0 M' Q (bU L' (aV ac) .dead) (Am.putObj l (.loop {nV R b with state:=.exhausted})):=by have:=An.trans t2;exact⟨this.imm,this.new,this.hs,this.os,this.tape,this.output,this.size,this.keep,λk b F=>this.fresh k b (d2 F)⟩
 refine⟨(nV R b).pending,_,hend,?_⟩;obtain⟨hto⟩:=hto;have hds0:=As;rw[hdf]at As
 have hw1d:Be.heap[w.heap.size]? =X (.deferred (X [])):=by grind[heap_alloc_old,heap_alloc_new]
 have K:∀c:Nat,Be.heap[c]? =X (Obj.deferred (X []))->(Am.putObj l (.loop {nV R b with state:=.exhausted})).heap[c]? =X (Obj.deferred (X [])):=λc hc=>by
  have h3:Am.heap[c]? =X (Obj.deferred (X [])):=by
   rw[I c (gO hc) λk F=>by
    obtain⟨o,q1,q2⟩:=m1.alive_heap F;rw[hc]at q1;cases q1
    cases q2]
   exact hc
  grind[Gt]
 have hmk:Mks w0 (Am.putObj l (.loop {nV R b with state:=.exhausted})) ({target:=.collected w.heap.size,args:= #[]}::a.defers):=by
  refine⟨⟨w.heap.size,rfl,hx0.size,K _ hw1d,λd hd e=>?_⟩,As.marks.same λd _ c _ hc=>K c ?_⟩
  .have:∀{ds:List Deferred},Mks w0 w ds->∀d∈ds,∀c,d.target= .collected c->c<w.heap.size:=by
    intro ds;induction ds with
    | nil=>simp
    | cons d0 ds ih=>
     rintro⟨⟨b0,q1,q2,q3,q4⟩,q5⟩ d hd c hc
     grind[gO]
   have:=this As.marks d hd _ e;omega
  grind[heap_alloc_old,zX,gO]
 have hss:SS M0 n aq w0 fn.ntmps E.df fr (bU L' (aV ac) .dead) {a with defers:=[{target:=.collected w.heap.size,args:= #[]}]++a.defers} (Am.putObj l (.loop {nV R b with state:=.exhausted})):=by
  refine⟨M',Q,X2,d1,λt=>?_,hsz,?_,?_⟩
  .have:=hfr' t;rw[htm]at this;exact this
  .rw [hdf];exact⟨[],_,rfl,.nil,hmk⟩
  .have h1:=X2.lens;have h2:=d1.len;omega
 have hok2:bN fn.ntmps (if b then ks else .code .ret::ks)=true:=by
  have:bN fn.ntmps ks=true:=by simp only[bN,Af]at hok;exact hok.2
  cases b with
  | true=>exact this
  | false=>simpa[bN,KI.ok,dW]using this
 have key:=hto hok2 M0 n aq w0 _ _ hst hss;rw[hrd]at key;have hjump:((nV R b).pending.map KI.code).toList++ks=(if b then ks else .code .ret::ks):=by
  unfold nV
  grind
 rw[hjump];exact key
def aL6(sz:Nat):aa->aa
 | .nilslice=>.slice sz [] .nil
 | v=>v
def T6(sz:Nat)(M:Imm)(ob:Hs)(v:Value)(a:aa)(h:Rep M ob v a):Rep M ob v (aL6 sz a):=by
 unfold aL6;split
 .cases h;exact .slnil _ _ rfl
 .exact h
def To.beginC{E:Env}{fn:Func}{g:Goal}{st:bg}{fr:au}{ac:aw}(k i:Nat)(e:TypeId){T:TypeId}{cs:az}{sz:Nat}(b:aE ac k= .cells T cs)(a:nth cs i=X (.slice sz [] .nil))
  (h:To E fn g (.code st fr (mN (bU ac k (.cells T (R9 cs i (.slice sz [] (.own (aV ac) 0))))) (.tail 0 sz e)))):To E fn g (.code st fr ac):=by
 have c:To E fn g (.head st fr (mN (bU ac k (.cells T (R9 cs i (.slice sz [] (.own (aV ac) 0))))) (.tail 0 sz e))):=h.rec λh=>.mk h;exact(To.begin k i e b a c).rec λh=>.mk h
abbrev Hm:=Option Addr×Nat×az
def hmV(m:Hm):Value:=.slice m.1 (Z m.2.2) m.2.1
def hmA(m:Hm):aa:=.hsl m.1 (Z m.2.2) m.2.1
def aQF(M:Imm)(ob:Hs)(m:Hm):Rep M ob (hmV m) (hmA m):=.hsl _ _ _
def pH(sz:Nat)(e:TypeId)(ms:List Hm):BInv where
 inv M bs w:=(∀(i:Nat) m,ms[i]? =X m->eT M w (hmV m) sz e m.2.2)/\(∀(i j:Nat) m m' b,ms[i]? =X m->ms[j]? =X m'->(hmV m).ownBlock=X b->(hmV m').ownBlock=X b->i=j)/\
  ∀b,b∈bs↔ ∃(i:Nat) (m:Hm),ms[i]? =X m/\(hmV m).ownBlock=X b
 mono:=λhM hn hb ⟨h1,h2,h3⟩=>⟨λi m hm=>(h1 i m hm).mono hM (λb e ho o=>hn b ((h3 b).2 ⟨i,m,hm,e⟩) o (ho o)) (λb c e=>hb b c ((h3 b).2 ⟨i,m,hm,e⟩)),h2,h3⟩
section
variable {M:Imm} {ob:Hs} {ac:aw} {w:World}
def eT.blockAt{v:Value}{sz:Nat}{e:TypeId}{xs:az}(h:eT M w v sz e xs){b:Nat}(a:v.ownBlock=X b):∃o,w.heap[b]? =X o/\IK o=false:=by
 obtain⟨cv,⟨_,f⟩,_⟩:=h;rcases f with⟨rfl,_⟩|⟨g,cap,i,d,_,c,_⟩
 .cases a
 .rw [d]at a;cases a;exact⟨_,c,rfl⟩
def eT.nil(sz:Nat)(e:TypeId):eT M w (.slice D 0 0) sz e []:=
 ⟨[],Hv w 0 e sz,λu h=>by simp at h,λu h=>by simp at h,λq c h=>by simp[aQ]at h,λb h=>(by cases h),HZ w⟩
def eT.append{P:Program}(hm:Mem M ob ac w){t F ty e:TypeId}{i:TypeInfo}{z:Value}(R:P.underlying t=X (.slice e))(Q:P.info? e=X i)(hz:i.zero=X z)(hz1:z.cells.toList.all (·.oneCell')=O)
  (r:z.cells.size=i.size) (m:0<i.size) {xs ys:az} {v x:Value} (k:eT M w v i.size e xs) (hs:SrcA P M w i.size F x ys)
  (p:Z xs+Z ys<=maxLen) (d:(Z xs+Z ys)*i.bytes<=140737488355328):
  ∃j w',(Cv #[t,F] ty #[v,x]).run P w= .ok j w'/\eT M w' j i.size e (xs++ys)/\w'.os=w.os/\w'.tape=w.tape/\w'.output=w.output/\w.heap.size<=w'.heap.size/\
   (∀b,j.ownBlock=X b->v.ownBlock=X b\/w.heap.size<=b)/\∀b,b<w.heap.size->v.ownBlock≠X b->w'.heap[b]? =w.heap[b]?:=by
 obtain⟨cv,C,H,V,W,N,K⟩:=k;obtain⟨⟨news,G,As⟩,At⟩:=hs;obtain⟨j,w',L,B,A,g,l,f,Be,h⟩:=jS (P:=P) w t F ty e i z R Q hz hz1 r v (Z xs) cv C H x (Z ys) news G p d;have a:∀b,j.ownBlock=X b->v.ownBlock=X b\/w.heap.size<=b:=λb I=>by grind
 refine⟨j,w',L,⟨cv++news,by simp;omega,λu n=>?_,λy T=>?_,λq c J=>?_,λb I o=>?_,h K⟩,A,g,l,f,a,λb s S=>?_⟩
 .rcases Cc.1 n with n|n
  .exact H u n
  .exact G.one u n
 .grind
 .by_cases s:q<Z xs*i.size
  .grind [dC,Ai]
  .rw [cY m o_]at J;rw[Au (by rw[C.1];omega),C.1];exact As _ c J
 .rcases a b I with q|q
  .exact N b q o
  .exact hm.noImm q o
 grind
def eT.hm{v:Value}{sz:Nat}{e:TypeId}{xs:az}(h:eT M w v sz e xs):∃a c,v=hmV (a,c,xs):=by
 obtain⟨cv,d,_⟩:=h;rcases eM d with⟨q,f⟩|⟨b,cap,q,_⟩
 .exact ⟨D,0,by rw[q,hmV];grind⟩
 .exact ⟨_,cap,q⟩
def Mem.famAppend{P:Program}(h:Mem M ob ac w){t An ty e:TypeId}{i:TypeInfo}{z:Value}(ht:P.underlying t=X (.slice e))(hi:P.info? e=X i)(hz:i.zero=X z)(hz1:z.cells.toList.all (·.oneCell')=O)
  (V:z.cells.size=i.size) (Q:0<i.size) {k g j:Nat} {l:List Hm} {m:Hm} {ys:az} (W:ac[k]? =X (.bun g (pH i.size e l))) (K:l[j]? =X m) {x:Value} (hs:SrcA P M w i.size An x ys)
  (T:Z m.2.2+Z ys<=maxLen) (s:(Z m.2.2+Z ys)*i.bytes<=140737488355328):
  ∃a c w' ob',(Cv #[t,An] ty #[hmV m,x]).run P w= .ok (hmV (a,c,m.2.2++ys)) w'/\Mem M ob' (ac.set k (.bun (g+1) (pH i.size e (l.set j (a,c,m.2.2++ys))))) w'/\
   Ext M ob ac w M ob' (ac.set k (.bun (g+1) (pH i.size e (l.set j (a,c,m.2.2++ys))))) w':=by
 obtain⟨R,hh,hl,bs,hv,hd,h1,h2,h3⟩:=h.obj k _ W;have A:blk R=bs:=(fH hl hv).trans (fI _);obtain⟨v',w',hr,v,S,I,As,F,J,G⟩:=eT.append (P:=P) (ty:=ty) h ht hi hz hz1 V Q (h1 j m K) hs T s;obtain⟨a,c,rfl⟩:=v.hm;have hjl:j<Z l:=(Ad.1 K).1;have get:∀{q:Nat} {d:Hm},(l.set j (a,c,m.2.2++ys))[q]? =X d->(q=j/\d=(a,c,m.2.2++ys))\/(q≠j/\l[q]? =X d):=λ{q d} f=>by grind
 have Be:∀{q:Nat} {d:Hm} {b:Nat},l[q]? =X d->(hmV d).ownBlock=X b->b∈bs/\b<w.heap.size:=λ{q d b} f A=>by grind[gO]
 have r:∀(q:Nat) d,(l.set j (a,c,m.2.2++ys))[q]? =X d->eT M w' (hmV d) i.size e d.2.2:=λq d f=>by
  rcases get f with⟨_,rfl⟩|⟨Am,f⟩
  .exact v
  .refine (h1 q d f).mono (λ_ _ _ h=>h) (λ_ _ h=>h) λb c' A hc=>?_
   grind
 let C:=(l.set j (a,c,m.2.2++ys)).filterMap λm=>(hmV m).ownBlock
 have n:∀b,b∈C↔ ∃(i:Nat) (d:Hm),(l.set j (a,c,m.2.2++ys))[i]? =X d/\(hmV d).ownBlock=X b:=λb=>by grind[List.getElem?_of_mem,Ax]
 have hno:∀{b o y},M b o y->(hmV m).ownBlock≠X b:=λ{b o y} At e=>by obtain⟨_,_,_,_,_,o5,_⟩:=h1 j m K;exact o5 b e o y At
 have B:=h.turn (M':=M) (w':=w') (x':=.bun (g+1) (pH i.size e (l.set j (a,c,m.2.2++ys)))) (hs':=R++[fK C]) W hh ⟨_,rfl⟩ (λe=>by cases e) (λ_ _ _ h=>h) (λ_ _ _ h=>.inl h) (λb o y At=>by
   obtain⟨u,hu,h4,h5⟩:=h.imm b o y At;have N:b<w.heap.size:=by simpa using Cx w _ hu
   grind[Cw])
  (λb N hn=>G b N λe=>hn ⟨rfl,by rw[A];exact(Be K e).1⟩) S I As F
  (λ_=>⟨by simp[hl],C,by rw[<-hl];simp,λb A=>by
   obtain⟨q,d,f,A⟩:=(n b).1 A
   exact(r q d f).blockAt A,r,λq q' m1 m2 b f Y e1 e2=>by
   grind,n⟩)
  (λ_ b L=>by
   rw[rY,fI]at L;obtain⟨q,d,f,H⟩:=(n b).1 L;refine⟨?_,by obtain⟨o,ho,_⟩:=(r q d f).blockAt H;exact gO ho⟩;rw[A];rcases get f with⟨_,rfl⟩|⟨_,f⟩
   .rcases J b H with p|p
    .exact .inl ⟨rfl,(Be K p).1⟩
    omega
   .exact .inl ⟨rfl,(Be f H).1⟩)
 exact⟨a,c,w',_,hr,B.1,B.2.1⟩
end
section
variable {E:Env} {fn:Func} {g:Goal}
inductive HandA(E:Env)(fn:Func)(g:Goal)(all:bc)(tab:a6)(ks:bg)(n:Nat)(d:Option Nat)(s x:Operand)(t t2:TypeId)(l2:bc)(fr:au)(ac:aw):Prop
 | mk (k gg j:Nat) (ms:List Hm) (m:Hm) (ys:az) (e esz eb sz:Nat) (ag:Bool) (z:aa) (hk:aE ac k= .bun gg (pH esz e ms)) (hj:ms[j]? =X m) (hs:ev fr s=hmA m) (hT:dO E.T t=X {kind:=.slc e esz eb,size:=sz,agg:=ag,zero:=z})
   (hp:Gc 1 esz=O) (hx:aFS E (aE ac) esz t2 (ev fr x)=X ys) (hf:DB (Z m.2.2+Z ys) eb)
   (h:∀a c,To E fn g (.mid ⟨all,U,tab,ks⟩ (n+1) l2 [] (kU fr d (hmA (a,c,m.2.2++ys))) (bU ac k (.bun (gg+1) (pH esz e (ms.set j (a,c,m.2.2++ys)))))))
theorem aBY{M:Imm}{ob:Hs}{v:Value}{m:Hm}(h:Rep M ob v (hmA m)):v=hmV m:=by cases h;rfl
def zS{rd:Option Nat}{ops:Array Oper}{M0:Imm}{ob0:Hs}{aq:aw}{w0:World}{sz:Nat}{dfs:List (Nat×az)}{Q:Exit->Act->World->Prop}{K:au->aw->Prop}{Kp:(Nat->aa)->aa->aw->Prop}{rest:bc}
  (hE:ae E) (hp:∀g v ac b a w,Kp g v ac->PP M0 ob0 aq w0 sz dfs g v ac b a w->Q (.panic b) a w) (i:∀fr ac a w,K fr ac->SS M0 ob0 aq w0 sz dfs fr ac a w->wpListIn (fen rd) 0 E.P ops Q rest a w):
  ∀(l:bc) (n:Nat) (fr:au) (ac:aw) (a:Act) (w:World),(∀p∈l,∀d,p.dst=X d->d<sz)->fV E ops.toList K Kp n l fr ac->SS M0 ob0 aq w0 sz dfs fr ac a w->wpListIn (fen rd) 0 E.P ops Q (l++rest) a w
 | [],n,fr,ac,a,w,_,h,hs=>i fr ac a w h hs
 | p::l,n,fr,ac,a,w,hd,h,hs=>by
  refine wk (SA (K:=λfr ac=>fV E ops.toList K Kp (n+1) l fr ac) (Kp:=Kp) (hint:=fA E p.dst) hE hs (hd p s_) ?_ λv ac b w c e=>hp (bA fr) v ac b a w c e) λj w' ⟨f,ap,c,hs'⟩=>zS hE hp i l (n+1) f ap j w' (λp hp=>hd p (by simp[hp])) c hs';simp only[fV]at h
  grind[mE,AB]
def O3{P:Program}{s x:Operand}{t b:TypeId}{p:Oper}(hp:p.op= .call {callee:=.builtin .append,args:= #[s,x],argTypes:= #[t,b]}){ρ:Operand->Value}{w w':World}{v:Value}
  (h:(Cv #[t,b] p.type #[ρ s,ρ x]).run P w= .ok v w'):(execOp ρ p).run P w= .ok (.value v) w':=by
 obtain⟨d,op,ty,pos,a,c⟩:=p;dsimp only at hp;subst hp;simp[execOp,resolve,invoke,builtin,h]
theorem To.handA(hE:ae E){id:Nat}{ops:Array Oper}{tab:a6}{ks:bg}{fr:au}{ac:aw}{q H:bc}{p:Oper}{s x:Operand}{t T:TypeId}(b:ops.toList=q++p::H)
  (hp:p.op= .call {callee:=.builtin .append,args:= #[s,x],argTypes:= #[t,T]}) (hg:p.guard=D)
  (h:fV E ops.toList (HandA E fn g ops.toList tab ks (Z q) p.dst s x t T H) (kB E fn g) 0 q fr ac):To E fn g (.code (.code (.region id ops U)::ks) fr ac):=
 .mk λho M0 ob0 aq w0 a w hst hs=>by
  simp only[bN,KI.ok,dW,Af]at ho;obtain⟨⟨S,ho2⟩,An⟩:=ho;have Y:=nK S
  refine KW.code (Q':=QR E fn g M0 ob0 aq w0 ks) ?_ (λa w h=>h) (λf a w h=>h) (λe a w hh=>by cases e<;>first|exact .inl rfl|exact .inr ⟨_,rfl⟩|exact hh.elim)
  have l:∀n v ac f a w,kB E fn g n v ac->PP M0 ob0 aq w0 fn.ntmps E.df n v ac f a w->qM E fn M0 ob0 aq w0 g (.panic f) a w:=λn v ac f a w he l=>BP he hst l;have hq:∀fr ac a w,eB E fn g ks fr ac->SS M0 ob0 aq w0 fn.ntmps E.df fr ac a w->KW E.rd E.P (qM E fn M0 ob0 aq w0 g) ks a w:=λfr ac a w As hs=>As An M0 ob0 aq w0 a w hst hs;refine wpIn_region_list ?_;have F:∀fr ac a w,HandA E fn g ops.toList tab ks (Z q) p.dst s x t T H fr ac->SS M0 ob0 aq w0 fn.ntmps E.df fr ac a w->wpListIn (fen E.rd) 0 E.P ops (QR E fn g M0 ob0 aq w0 ks) (p::H) a w:=by
   rintro fr ac a w ⟨k,gg,j,ms,m,ys,e,esz,eb,sz,ag,z0,As,hj,hs1,hT,d,At,hf,o⟩ hs;obtain⟨M,ob,hx,hm,Be,C,hdf,h0⟩:=hs;obtain⟨⟨hu,i,z,hi,W,V,hz,hzs,hz1⟩,_⟩:=(hE.tab t _ hT).kind;subst W V;have d:=Nat.le_of_ble_eq_true d;have R:=I9 (a:=a) Be;have A:=XO hE hm (R x) At d;have r:=bO As s_;have L:a.eval s=hmV m:=by grind[aBY]
   obtain⟨I,J,w',ob',B,m1,y⟩:=hm.famAppend (P:=E.P) (ty:=p.type) hu hi hz hz1 hzs d r hj A hf.1 hf.2;have Am:qN E.P p a.eval w (λe w2=>e= .returned (hmV (I,J,m.2.2++ys))/\w2=w'):=.inl ⟨_,_,O3 hp (by rw[L];exact B),rfl,rfl⟩;refine wk (next:=λa w=>SS M0 ob0 aq w0 fn.ntmps E.df (kU fr p.dst (hmA (I,J,m.2.2++ys))) (bU ac k (.bun (gg+1) (pH i.size e (ms.set j (I,J,m.2.2++ys))))) a w) ?_ λa w hs=>?_
   .unfold G;rw[bu (by simp[Fq,hg])];refine Am.wpIn (by intro c;rw[hp];simp) (λv w2 ⟨N,e2⟩=>?_) (λf w2 ⟨N,_⟩=>by cases N);cases N;subst e2;rw[aW r];have:=y.lens;have:=m1.len;refine⟨M,ob',hx.trans y,m1,?_,(dJ _ _ _).1.trans C,(hdf.ext hm y).put,by simp;omega⟩;rw[fC];exact oJ (λt=>(Be t).mono y.imm y.hs) (aQF M ob' (I,J,m.2.2++ys)) λd' e=>C▸Y p (by rw[b];simp) d' e
   .obtain ⟨o⟩:=o I J;exact pW (rd:=E.rd) (Q:=QR E fn g M0 ob0 aq w0 ks) (K:=eB E fn g ks) (Kp:=kB E fn g) hE (λn v ac f a w h1 u=>l n v ac f a w h1 u) (λfr ac a w h1 u=>hq fr ac a w h1 u) H (Z q+1) _ _ a w (λp hp=>Y p (by rw[b];simp[hp])) o hs
  rw[b];exact zS (rd:=E.rd) (Q:=QR E fn g M0 ob0 aq w0 ks) (Kp:=kB E fn g) hE (λn v ac f a w h1 u=>l n v ac f a w h1 u) F q 0 fr ac a w (λp hp=>Y p (by rw[b];simp[hp])) h hs
def To.objTo{st:bg}{fr:au}{ac:aw}(k:Nat){x x':ab}(t:aE ac k=x)(A:x≠ .dead)(f:x.owns=O)(u:∀M ob w hs,(∀b,b∈blk hs->b<w.heap.size)->iY M ob w hs x->iY M ob w hs x')
  (h:To E fn g (.code st fr (bU ac k x'))):To E fn g (.code st fr ac):=
 .mk λs M0 ob0 aq w0 a w hst hs=>by
  obtain⟨M,ob,d,hm,q,y,z,B⟩:=hs;have e:=bO t A;refine h.rec λh=>h s M0 ob0 aq w0 a w hst ?_;rw[aW e];have o:=(Ad.1 e).1;have m:∀{i b},aM ob (ac.set k x') i b->aM ob ac i b:=λ{i b} ⟨c,hs,e1,e2,e3,e4⟩=>by
   by_cases l:i=k
   .subst l;exact⟨x,hs,e,f,e3,e4⟩
   .rw [Bg (Gq l)]at e1;exact⟨c,hs,e1,e2,e3,e4⟩
  refine⟨M,ob,⟨d.imm,d.new,d.hs,d.os,d.tape,d.output,d.size,d.keep,λi b p=>d.fresh i b (m p)⟩,⟨hm.imm,by simpa using hm.len,λi c n=>?_,λi b p=>hm.lt i b (m p),λi j b h1 r=>hm.inj i j b (m h1) (m r)⟩,q,y,z,by simp;omega⟩;by_cases l:i=k
  .subst l;rw[Ba o]at n;cases n;obtain⟨hs,h1,r⟩:=hm.obj i x e;exact⟨hs,h1,u _ _ _ _ (λb v=>hm.lt i b ⟨x,hs,e,f,h1,v⟩) r⟩
  .rw [Bg (Gq l)]at n;exact hm.obj i c n
def To.beginF{st:bg}{fr:au}{ac:aw}(sz:Nat)(e:TypeId)(h:To E fn g (.code st fr (mN ac (.bun 0 (pH sz e []))))):To E fn g (.code st fr ac):=
 .mk λp M0 ob0 aq w0 a w hst hs=>by
  obtain⟨M,ob,n,hm,o,s,u,v⟩:=hs;refine h.rec λh=>h p M0 ob0 aq w0 a w hst ?_;rw[qS];have q:blk [fK []]=[]:=fI _;obtain⟨r,y⟩:=hm.snoc (c:=.bun 0 (pH sz e [])) (hs:=[fK []]) (λob _=>⟨rfl,[],rfl,λb q=>by simp at q,λi m h=>by simp at h,λi j m x b h=>by simp at h,λb=>⟨λh=>by simp at h,λ⟨i,m,h,_⟩=>by simp at h⟩⟩) (λb h=>by simp_all) (λk b _=>by simp_all)
  have f:dR ob (ob++[[fK []]]):=λj l A=>⟨l,by grind[Ai,Ad],Ct _⟩
  have d:Ext M ob ac w M (ob++[[fK []]]) (ac++[.bun 0 (pH sz e [])]) w:=⟨λ_ _ _ h=>h,λ_ _ _ h=>.inl h,f,rfl,rfl,rfl,Bc _,λ_ _ _=>rfl,λk b z=>by grind⟩
  exact⟨M,_,n.trans d,r,λt=>(o t).mono (λ_ _ _ h=>h) f,s,u.ext hm d,by simp;omega⟩
def aMZ{M:Imm}{ob:Hs}{w:World}{hs:bb}{gg sz:Nat}{e:TypeId}{d:List Hm}(h:iY M ob w hs (.bun gg (pH sz e d))):iY M ob w hs (.bun gg (pH sz e (d++[(D,0,[])]))):=by
 obtain⟨h1,bs,p,h3,o,n,l⟩:=h;have get:∀{i:Nat} {m:Hm},(d++[((D,0,[]):Hm)])[i]? =X m->d[i]? =X m\/(i=Z d/\m=(D,0,[])):=λ{i m} a=>by grind[Ai,Ad,Au]
 refine⟨h1,bs,p,h3,λi m a=>?_,λi j m k b a f c g=>?_,λb=>⟨λq=>?_,λ⟨i,m,a,c⟩=>?_⟩⟩
 .rcases get a with a|⟨_,rfl⟩
  .exact o i m a
  .exact eT.nil sz e
 .rcases get a with a|⟨_,rfl⟩
  .rcases get f with f|⟨_,rfl⟩
   .exact n i j m k b a f c g
   .cases g
  .cases c
 .grind [Ai,Ad]
 .rcases get a with a|⟨_,rfl⟩
  .exact (l b).2 ⟨i,m,a,c⟩
  .cases c
def aLc{M:Imm}{ob:Hs}{w:World}{hs:bb}{gg:Nat}{e:TypeId}{d:List Hm}(h:iY M ob w hs (.row gg 1 e (d.map hmA++[.nilslice]))):iY M ob w hs (.row gg 1 e ((d++[(D,0,[])]).map hmA)):=by
 obtain⟨h1,v,o,cv,n,p,t,f,s,j⟩:=h;refine⟨h1,v,o,cv,by simpa using n,p,λx b=>?_,λq c r=>?_,s,j⟩
 .simp only[Cq]at b;obtain⟨m,_,rfl⟩:=b;rfl
 .have one:∀{l:az} {q:Nat} {c:aa},(∀x∈l,x.cells=[x])->(aQ 1 l q=X c↔l[q]? =X c):=λ{l q c} hl=>by
   unfold aQ
   grind
  have a:=(one (λx b=>by simp only[Cq]at b;obtain⟨m,_,rfl⟩:=b;rfl)).1 r;rw[List.map_append]at a;by_cases hl:q<Z d
  .rw [Ai q_]at a
   exact f q c ((one (λx b=>by
    simp only[Cc,Cq,Dr]at b
    rcases b with⟨m,_,rfl⟩|rfl<;>rfl)).2 (by rw[Ai q_];exact a))
  .have k:q=Z d:=by grind[Ad]
   subst k;rw[Au s_]at a;simp at a
   obtain⟨u,g,i⟩:=f (Z d) .nilslice ((one (λx b=>by
    simp only[Cc,Cq,Dr]at b
    rcases b with⟨m,_,rfl⟩|rfl<;>rfl)).2 s_)
   refine⟨u,g,?_⟩;subst a;cases i;exact .hsl _ _ _
end
section
variable {M:Imm} {ob:Hs} {ac:aw} {w:World}
def Mem.famFreeze(h:Mem M ob ac w){k gg sz:Nat}{e:TypeId}{q:List Hm}(A:ac[k]? =X (.bun gg (pH sz e q))):
  ∃M' ob',Mem M' ob' (ac.set k (.bun (gg+1) (pH sz e []))) w/\Ext M ob ac w M' ob' (ac.set k (.bun (gg+1) (pH sz e []))) w/\∀(i:Nat) m,q[i]? =X m->Rep M' [] (hmV m) (.slice sz m.2.2 .no):=by
 obtain⟨d,G,hl,bs,H,K,h1,L,h3⟩:=h.obj k _ A;have l:blk d=bs:=(fH hl H).trans (fI _)
 let M':Imm:=λb o y=>M b o y\/∃(i:Nat) (m:Hm),q[i]? =X m/\(hmV m).ownBlock=X b/\aQ sz m.2.2 o=X y
 have r:∀b o y,M b o y->M' b o y:=λ_ _ _ h=>.inl h
 have c:=h.turn (M':=M') (w':=w) (x':=.bun (gg+1) (pH sz e [])) (hs':=d++[fK []]) A G ⟨_,rfl⟩ (λe=>by cases e) r (λb o y a=>by
   rcases a with a|⟨i,m,p,f,_⟩
   .exact .inl a
   .exact .inr (.inl ⟨rfl,by rw[l];exact(h3 b).2 ⟨i,m,p,f⟩⟩)) (λb o y a=>by
   rcases a with a|⟨i,m,p,f,s⟩
   .obtain ⟨u,F,I,C⟩:=h.imm b o y a;exact⟨u,F,I,C.monoM r⟩
   .obtain ⟨cv,n,v,z,x,_⟩:=h1 i m p;obtain⟨u,B,Be⟩:=x o y s
    exact⟨u,gG n f B,v u (Ax B),Be.monoM r⟩) (λ_ _ _=>rfl) rfl rfl rfl (Bc _)
  (λ_=>⟨by simp[hl],[],by rw[<-hl];simp,λb l=>by simp at l,λi m h=>by simp at h,λi j m J b h=>by simp at h,λb=>⟨λh=>by simp at h,λ⟨i,m,h,_⟩=>by simp at h⟩⟩)
  (λ_ b g=>by
   rw[rY,fI]at g
   simp at g)
 refine⟨M',_,c.1,c.2.1,λi m hm=>?_⟩;obtain⟨cv,n,v,z,x,_⟩:=h1 i m hm;exact(mD (M:=M) (ob:=[]) n z (t:=.no) trivial).monoM λb o y a=>by
  rcases a with a|⟨f,s⟩
  .exact .inl a
  .exact .inr ⟨i,m,hm,f,s⟩
def Mem.objTo(hm:Mem M ob ac w){k:Nat}{x x':ab}(a:ac[k]? =X x)(m:x.owns=O)(o:∀hs,ob[k]? =X hs->iY M ob w hs x->iY M ob w hs x'):Mem M ob (ac.set k x') w/\Ext M ob ac w M ob (ac.set k x') w:=by
 have g:=(Ad.1 a).1;have e:∀{i b},aM ob (ac.set k x') i b->aM ob ac i b:=λ{i b} ⟨c,hs,e1,e2,e3,e4⟩=>by
  by_cases d:i=k
  .subst d;exact⟨x,hs,a,m,e3,e4⟩
  .rw [Bg (Gq d)]at e1;exact⟨c,hs,e1,e2,e3,e4⟩
 refine⟨⟨hm.imm,by simpa using hm.len,λi c f=>?_,λi b l=>hm.lt i b (e l),λi j b h1 n=>hm.inj i j b (e h1) (e n)⟩,⟨λ_ _ _ h=>h,λ_ _ _ h=>.inl h,dR.refl _,rfl,rfl,rfl,Bc _,λ_ _ _=>rfl,λi b l=>.inl ⟨i,e l⟩⟩⟩;by_cases d:i=k
 .subst d;rw[Ba g]at f;cases f;obtain⟨hs,h1,n⟩:=hm.obj i x a;exact⟨hs,h1,o _ h1 n⟩
 .rw [Bg (Gq d)]at f;exact hm.obj i c f
end
def JU{l:az}{q:Nat}{c:aa}(hl:∀x∈l,x.cells=[x]):aQ 1 l q=X c↔l[q]? =X c:=by
 unfold aQ
 grind
def To.famFrz{E:Env}{fn:Func}{g:Goal}{st:bg}{fr:au}{ac:aw}(k p:Nat){gg o sz:Nat}{e r:TypeId}{i:List Hm}(G:aE ac k= .bun gg (pH sz e i))(y:aE ac p= .row o 1 r (i.map hmA))
  (h:To E fn g (.code st fr (bU (bU ac k (.bun (gg+1) (pH sz e []))) p (.row o 1 r (i.map λm=>.slice sz m.2.2 .no))))):To E fn g (.code st fr ac):=
 .mk λB M0 ob0 aq w0 a w hst hs=>by
  obtain⟨M,ob,z,hm,A,P,R,V⟩:=hs;have f:=bO G s_;have d:=bO y s_;have s:k≠p:=λe=>by simp_all
  refine h.rec λh=>h B M0 ob0 aq w0 a w hst ?_;rw[aW f];have n:(ac.set k (.bun (gg+1) (pH sz e [])))[p]? =X (.row o 1 r (i.map hmA)):=by rw[Bg s];exact d
  rw[aW n];obtain⟨M',ob',Be,I,S⟩:=hm.famFreeze f;obtain⟨C,K⟩:=Be.objTo (x':=.row o 1 r (i.map λm=>.slice sz m.2.2 .no)) n rfl λhs _ ⟨h1,v,Q,cv,H,L,W,At,N,As⟩=>by
   refine⟨h1,v,Q,cv,by simpa using H,L,λx b=>?_,λq c T=>?_,N,As⟩
   .simp only[Cq]at b;obtain⟨m,_,rfl⟩:=b;rfl
   .have j:=(JU (λx b=>by simp only[Cq]at b;obtain⟨m,_,rfl⟩:=b;rfl)).1 T;rw[Cd]at j;obtain⟨m,l,rfl⟩:=Option.map_eq_some_iff.1 j;obtain⟨u,F,J⟩:=At q (hmA m) ((JU (λx b=>by simp only[Cq]at b;obtain⟨m,_,rfl⟩:=b;rfl)).2 (by rw[Cd,l];rfl));exact⟨u,F,by rw[aBY J];exact S q m l⟩
  have An:=I.trans K;have:=An.lens;have:=C.len;exact⟨M',ob',z.trans An,C,λt=>(A t).mono An.imm An.hs,P,R.ext hm An,by simp;omega⟩
def To.handAt{E:Env}{fn:Func}{g:Goal}(hE:ae E)(n:Nat){id:Nat}{ops:Array Oper}(tab:a6){ks:bg}{fr:au}{ac:aw}{p:Oper}{s x:Operand}{t a:TypeId}(b:ops.toList[n]? =X p)
  (hp:p.op= .call {callee:=.builtin .append,args:= #[s,x],argTypes:= #[t,a]}) (c:p.guard=D)
  (h:fV E ops.toList (HandA E fn g ops.toList tab ks n p.dst s x t a (ops.toList.drop (n+1))) (kB E fn g) 0 (ops.toList.take n) fr ac):To E fn g (.code (.code (.region id ops U)::ks) fr ac):=by
 grind[Ad,To.handA,List.take_append_drop,List.drop_eq_getElem_cons,List.length_take,Nat.min_eq_left,Nat.le_of_lt]
def D8(r:Nat):Code->Option Code
 | .region id ops dr=>bif Av id r then X (.region id ops dr)else D
 | .seq a b=>(match D8 r a with|some x=>X x|none=>D8 r b)
 | .cond _ a b=>(match D8 r a with|some x=>X x|none=>D8 r b)
 | .block _ b=>D8 r b
 | .loop b=>D8 r b
 | _=>D
def jB(fn:Func)(r:Nat):bg:=.code (match D8 r (eF fn)with|some c=>c|none=>.skip)::eO fn r
def To.ofC{E:Env}{fn:Func}{g:Goal}{ks:bg}{fr:au}{ac:aw}(h:To E fn g (.code ks fr ac)):To E fn g (.head ks fr ac):=h.rec λh=>.mk h
def To.toC{E:Env}{fn:Func}{g:Goal}{ks:bg}{fr:au}{ac:aw}(h:To E fn g (.head ks fr ac)):To E fn g (.code ks fr ac):=h.rec λh=>.mk h
section
variable {E:Env} {all:bc} {tab:a6} {L0:Nat}
end
section
variable {E:Env} {ops:Array Oper} {tab:a6} {tl L0:Nat} {Kp:(Nat->aa)->aa->aw->Prop} {Q:AS->Prop}
end
section
variable {E:Env} {ops:Array Oper} {tab:a6} {tl L0:Nat} {Kp:(Nat->aa)->aa->aw->Prop} {Kq:au->aw->Prop} {Q:AS->Prop}
end
section
variable {rd:Option Nat} {M0:Imm} {ob0:Hs} {aq:aw} {w0:World} {sz:Nat} {dfs:List (Nat×az)} {E:Env} {ops:Array Oper} {Q:Exit->Act->World->Prop} {K:AS->Prop} {Kp:(Nat->aa)->aa->aw->Prop} {tl L0:Nat} {tab:a6}
end
section
variable {E:Env} {ops:Array Oper} {tab:a6} {tl L0:Nat} {Kp:(Nat->aa)->aa->aw->Prop} {Kg:au->aw->Prop}
end
def UX(A tab:a6)(n t:Nat):Nat->bc->Bool
 | _,[]=>U
 | i,p::r=>(match p.dst with|some d=>Av d t&&(xX i A&& !dG (dP tab n) i)|none=>U)||UX A tab n t (i+1) r
def evP(A tab:a6)(all:bc)(n:Nat)(fr:au):Operand->aa
 | .tmp t=>bif UX A tab n t 0 all then .undef else bA fr t
 | x=>ev fr x
def DH(A:a6)(t:Nat):Nat->bc->Bool
 | _,[]=>U
 | i,p::r=>(match p.dst with|some d=>Av d t&&xX i A|none=>U)||DH A t (i+1) r
def gP(A:a6)(all:bc)(fr:au):Nat->aa:=λt=>bif DH A t 0 all then .undef else bA fr t
def H8(E:Env)(A tab:a6)(all:bc)(fr:au)(ac:aw):a6->Prop
 | []=>True
 | i::r=>(match nth all i with
   | some p=>(match p.guard with
    | none=>(match p.dst with
     | some d=>eop E (fA E p.dst) (aV ac) (aE ac) (evP A tab all i fr) p.op p.type= .val (bA fr d)
     | none=>False)
    | some _=>False)
   | none=>False)/\H8 E A tab all fr ac r
def rT(tab:a6)(n:Nat):a6->a6
 | []=>[]
 | i::r=>bif dG (dP tab n) i then rT tab n r else i::rT tab n r
def aBn(fr:au)(d:Option Nat)(v:aa)(k:au->Prop):Prop:=
 match d with
 | none=>k fr
 | some d=>BA fr d v k
def HK(fr:au)(d:Option Nat)(v:aa)(k:au->Prop):aBn fr d v k=k (kU fr d v):=by
 cases d with
 | none=>rfl
 | some d=>exact lQ fr d v k
def aAA(E:Env)(A tab:a6)(all:bc)(ac:aw):a6->au->(au->Prop)->Prop
 | [],fr,k=>k fr
 | i::r,fr,k=>match nth all i with
  | some p=>(match p.dst with
   | some d=>(match eop E (fA E p.dst) (aV ac) (aE ac) (evP A tab all i fr) p.op p.type with
    | .val v=>KD 5 v λv=>BA fr d v λfr=>aAA E A tab all ac r fr k
    | _=>False)
   | none=>False)
  | none=>False
def chB(tab:a6):a6->Bool
 | []=>O
 | n::r=>(r.all λj=>dG (dP tab j) n)&&chB tab r
def aEH(A B:a6):Nat->Bool
 | 0=>O
 | n+1=>(xX n A||xX n B)&&aEH A B n
def aDW(sz:Nat):a6->Bool
 | []=>O
 | n::r=>(Fi n sz&& !xX n r)&&aDW sz r
def IX(tab:a6)(n:Nat):a6->Bool
 | []=>O
 | j::r=>!(dG (dP tab n) j)&&IX tab n r
def aGS(n:Nat):a6->a6
 | []=>[]
 | j::r=>bif Av j n then r else j::aGS n r
def VR(tab a:a6)(f:Nat->Prop):a6->Prop
 | []=>True
 | n::r=>bif IX tab n a then f n/\VR tab a f r else VR tab a f r
def RT(E:Env)(A tab:a6)(all:bc)(K:au->aw->Prop)(Kp:(Nat->aa)->aa->aw->Prop):a6->a6->a6->au->aw->Prop
 | [],_,At,fr,ac=>H8 E A tab all fr ac At/\K fr ac
 | _::F,Bs,At,fr,ac=>H8 E A tab all fr ac At/\VR tab Bs (λn=>match nth all n with
   | none=>False
   | some p=>(match p.guard with
    | some _=>False
    | none=>orF E.P ac (λv ap=>KD 5 v λv=>ODL ap λap=>aBn fr p.dst v λfr=>RT E A tab all K Kp F (aGS n Bs) (rT tab n At) fr ap) (Kp (gP A all fr))
      (eop E (fA E p.dst) (aV ac) (aE ac) (evP A tab all n fr) p.op p.type))) Bs
def aOs(A B tab:a6)(sz:Nat):Bool:=aDW sz (A++B)&&aEH A B sz
def VB{tab:a6}{n:Nat}:∀{l:a6},(∀j∈l,dG (dP tab n) j=U)->IX tab n l=O
 | [],_=>rfl
 | j::r,h=>by unfold IX;rw[h j (Aw ..),VB λk a=>h k (Bb _ a)];rfl
def aBi(n:Nat):∀l:a6,aGS n l=l.erase n
 | []=>rfl
 | j::r=>by unfold aGS;rw[List.erase_cons,aBi n r];simp
def JH{tab b:a6}{f:Nat->Prop}{n:Nat}(c:IX tab n b=O):∀{l:a6},VR tab b f l->n∈l->f n
 | [],_,h=>by cases h
 | j::r,h,a=>by
  unfold VR at h;by_cases e:n=j
  .grind
  .have a:=(Az.1 a).resolve_left e;cases d:IX tab j b with
   | true=>rw[d]at h;exact JH c h.2 a
   | false=>rw[d]at h;exact JH c h a
def DM{A B:a6}:∀{n:Nat},aEH A B n=O->∀i,i<n->i∈A\/i∈B
 | 0,_,i,hi=>by omega
 | n+1,h,i,hi=>by
  simp only[aEH,Af,Fo,oB]at h;by_cases e:i=n
  .grind
  .exact DM h.2 i o_
def C0{sz:Nat}:∀{l:a6},aDW sz l=O->l.Nodup/\∀i∈l,i<sz
 | [],_=>⟨List.nodup_nil,λi h=>by cases h⟩
 | n::r,h=>by
  simp only[aDW,Af,Bool.not_eq_true',Jl]at h;obtain⟨h1,b⟩:=C0 h.2;refine⟨List.nodup_cons.2 ⟨λhm=>?_,h1⟩,λi a=>?_⟩
  .have:=oB.2 hm
   grind
  grind
def C6{A tab:a6}{n t:Nat}:∀{l:bc} {k:Nat},UX A tab n t k l=U->∀(i:Nat) p,l[i]? =X p->p.dst=X t->(k+i)∈A->dG (dP tab n) (k+i)=O
 | [],_,_,i,p,hi,_,_=>by simp at hi
 | q::r,k,h,i,p,hi,hd,ha=>by
  simp only[UX,Ky]at h;cases i with
  | zero=>
   simp at hi;subst hi;have h1:=h.1;rw[hd]at h1;dsimp only at h1;rw[Ns,Bz,show xX k A=O from oB.2 ha,Bz]at h1
   grind
  | succ i=>
   have:=C6 (k:=k+1) h.2 i p (by simp_all) hd (by grind)
   grind
def rS{A:a6}{t:Nat}:∀{l:bc} {k:Nat},DH A t k l=U->∀(i:Nat) p,l[i]? =X p->(k+i)∈A->p.dst≠X t
 | [],_,_,i,p,hi,_=>by simp at hi
 | q::r,k,h,i,p,hi,ha=>by
  simp only[DH,Ky]at h;cases i with
  | zero=>
   simp at hi;subst hi;intro a;have h1:=h.1;rw[a]at h1;dsimp only at h1;rw[Ns,Bz]at h1;have:=oB.2 (show k∈A from ha)
   grind
  | succ i=>exact rS (k:=k+1) h.2 i p (by simp_all) (by grind)
def QS{A:a6}{t:Nat}:∀{l:bc} {k:Nat},DH A t k l=O->∃(i:Nat) (p:Oper),l[i]? =X p/\(k+i)∈A/\p.dst=X t
 | [],_,h=>by cases h
 | q::r,k,h=>by
  simp only[DH,Fo]at h;rcases h with h|h
  .split at h
   .rename_i d a;rw[Af,oB,Nat.beq_eq]at h;exact⟨0,q,rfl,h.2,by rw[a,h.1]⟩
   .cases h
  .obtain ⟨i,p,h1,b,h3⟩:=QS h;exact⟨i+1,p,by simp_all,by grind,h3⟩
def UI{E:Env}{A tab:a6}{all:bc}{fr:au}{ac:aw}:∀{At:a6},H8 E A tab all fr ac At->∀i∈At,∃p d,all[i]? =X p/\p.guard=D/\p.dst=X d/\
  eop E (fA E p.dst) (aV ac) (aE ac) (evP A tab all i fr) p.op p.type= .val (bA fr d)
 | [],_,i,a=>by cases a
 | j::r,h,i,a=>by
  rcases Az.1 a with rfl|a
  .have h1:=h.1;split at h1
   .rename_i p hp;split at h1
    .rename_i c;split at h1
     .rename_i d b;exact⟨p,d,gZ hp,c,b,h1⟩
     grind
    grind
   grind
  .exact UI h.2 i a
theorem DI{tab:a6}{n i:Nat}:∀{At:a6},i∈At->dG (dP tab n) i=U->i∈rT tab n At
 | [],h,_=>by cases h
 | j::r,h,ht=>by
  unfold rT;rcases Az.1 h with rfl|h
  .grind
  .have:=DI h ht
   grind
def aFn{E:Env}{A tab:a6}{all:bc}{K:au->aw->Prop}{Kp:(Nat->aa)->aa->aw->Prop}{F a At:a6}{fr:au}{ac:aw}(h:RT E A tab all K Kp F a At fr ac):H8 E A tab all fr ac At:=by
 cases F with
 | nil=>exact h.1
 | cons n r=>exact h.1
section
variable {rd:Option Nat} {M0:Imm} {ob0:Hs} {aq:aw} {w0:World} {sz:Nat} {dfs:List (Nat×az)} {E:Env} {ops:Array Oper} {Q:Exit->Act->World->Prop} {K:au->aw->Prop} {Kp:(Nat->aa)->aa->aw->Prop} {A tab:a6}
def SM(M0:Imm)(ob0:Hs)(aq:aw)(w0:World)(sz:Nat)(dfs:List (Nat×az))(ops:Array Oper)(b:a6)(fr:au)(ac:aw)(a:Act)(w:World):Prop:=
 ∃M ob,Ext M0 ob0 aq w0 M ob ac w/\Mem M ob ac w/\(∀t,(∀i∈b,∀p,ops[i]? =X p->p.dst≠X t)->Rep M ob (a.tmps.getD t undef) (bA fr t))/\a.tmps.size=sz/\dN w0 w M ob a.defers dfs/\Z ob0<=Z ac
def AO{a:Array Bool}{j:Nat}(h:j∈Ea .any ops a)(b:a.size=ops.size):j<ops.size/\a.getD j U=false:=by grind[mem_ready,Array.getElem?_eq_some_iff,Bh,Ho]
theorem nW(c:TabSp ops tab){a:Array Bool}(b:a.size=ops.size):∀(n j:Nat),j<n->j<ops.size->a.getD j U=U->Ea .any ops a≠[]
 | 0,j,h,_,_=>by omega
 | n+1,j,h,hj,hl=>λd=>by
  obtain⟨p,hp⟩:∃p,ops[j]? =X p:=⟨ops[j],Ho hj⟩
  have:j∈Ea .any ops a:=mem_ready.2 ⟨by
   grind,p,hp,λe f i=>by
    have g:=c.back j p hp e f i;cases k:a.getD e.on U with
    | true=>rfl
    | false=>exact bv d (nW c b n e.on o_ o_ k)⟩
  grind
def aDR(hE:ae E)(ht:TabSp ops tab)(hd:∀(i:Nat) p,ops[i]? =X p->∀d,p.dst=X d->d<sz)
  (hp:∀g v ac W a w,Kp g v ac->PP M0 ob0 aq w0 sz dfs g v ac W a w->Q (.panic W) a w) (hq:∀fr ac a w,K fr ac->SS M0 ob0 aq w0 sz dfs fr ac a w->Q .normal a w):
  ∀(s:Nat) (b:Array Bool) (F c l At:a6) (fr:au) (ac:aw) (a:Act) (w:World),Z F=Z c->s=Z c+Z l->b.size=ops.size->lK tab b->
   (∀i,i<ops.size->(b.getD i U=U↔i∈c\/i∈l))->(c++l).Nodup->(∀i∈c,i<ops.size)->(∀i∈l,i∈A/\i∈At/\i<ops.size)->
   RT E A tab ops.toList K Kp F c At fr ac->SM M0 ob0 aq w0 sz dfs ops l fr ac a w->wpAnyIn (fen rd) 0 E.P .any ops Q s b a w:=by
 intro s;induction s with
 | zero=>
  intro b F c l At fr ac a w hF hf V hc m H S J h hs;have e1:c=[]:=Ay o_;have e2:l=[]:=Ay o_;subst e1 e2;obtain rfl:=Ay hF;refine⟨List.eq_nil_iff_forall_not_mem.2 λj C=>?_,hq fr ac a w h.2 ?_⟩
  .obtain ⟨h1,h2⟩:=AO C V;rcases(m j h1).1 h2 with q|q<;>cases q
  .obtain ⟨M,ob,hx,hm,G,r⟩:=hs;exact⟨M,ob,hx,hm,λt=>G t (λi hi=>bv hi List.not_mem_nil),r⟩
 | succ s ih=>
  intro b F c l At fr ac a w hF hf V hc m H S J h hs;refine⟨λh0=>?_,λi hi=>?_⟩
  .exfalso;cases c with
   | cons n r=>
    grind[Aw,nW]
   | nil=>
    cases l with
    | nil=>simp at hf
    | cons n r=>
     grind[Aw,nW]
  .obtain ⟨hilt,hil⟩:=AO hi V;obtain⟨hc',hkey⟩:=hc.step ht hi;obtain⟨M,ob,hx,hm,G,y,Y,h0⟩:=hs;have hl:=hm.len;have hev:∀x,Rep M ob (a.eval x) (evP A tab ops.toList i fr x):=λx=>by
    cases x with
    | const v=>exact rV v
    | global g=>exact .undef _
    | func f=>exact .func (.func f) [] [] [] [] rfl rfl (λi v a h=>by simp at h) (λi v a h=>by simp at h)
    | tmp t=>
     show Rep M ob _ (bif UX A tab i t 0 ops.toList then .undef else bA fr t);cases hh:UX A tab i t 0 ops.toList with
     | true=>exact .undef _
     | false=>
      refine G t λj C p hp k=>?_;have h1:=C6 hh j p q_ k (by rw[Bv];exact(J j C).1)
      grind
   have Be:∀(An UA':a6),(∀j,(j∈An\/j∈UA')↔(j∈c\/j∈l)/\j≠i)->∀j,j<ops.size->((b.setIfInBounds i O).getD j U=U↔j∈An\/j∈UA'):=λAn UA' he j C=>by
    rw[he j];by_cases e:j=i
    .subst e;simp;omega
    .rw [getD_set_ne U (Gq e),m j C];simp[e]
   have R:(b.setIfInBounds i O).size=ops.size:=by simp;omega
   rcases(m i hilt).1 hil with hB|hA
   .
    cases F with
    | nil=>rw[Ay hF.symm]at hB;cases hB
    | cons n0 F=>
     have Am:IX tab i c=true:=VB λj C=>by grind
     obtain⟨hok,h⟩:=h;have h:=JH Am h hB;split at h
     .exact h.elim
     .rename_i p hnp;have B:ops[i]? =X p:=by simpa using gZ hnp
      split at h
      .exact h.elim
      .rename_i hg
       have h:orF E.P ac (λv ap=>RT E A tab ops.toList K Kp F (aGS i c) (rT tab i At) (kU fr p.dst v) ap) (Kp (gP A ops.toList fr)) (eop E (fA E p.dst) (aV ac) (aE ac) (evP A tab ops.toList i fr) p.op p.type):=
        mE (λv o h=>by rw[qB,wI,HK]at h;exact h) h
       have hw:Fq p (yielded ops a.tmps)=true:=by unfold Fq;rw[hg]
       unfold wpOpIn;rw[B];dsimp only;rw[bu hw];refine(wQ hE hm hev h).wpIn (jJ h) (λu w' ⟨M',ob',L',z,As,x3⟩=>?_) (λW w' ⟨M',ob',L',z,As,x3⟩=>?_)
       .rcases x3 with⟨u',v,e,hr,hk⟩|⟨W,v,e,_⟩
        .cases e;have:=z.lens;have:=As.len;have hndB:c.Nodup:=(Cr.1 H).1;have I:∀j,j∈c.erase i↔j≠i/\j∈c:=λj=>hndB.mem_erase_iff;have hlen:Z (c.erase i)+1=Z c:=by grind[Mf,Mv]
         have hdis:i∉l:=λhb=>(Cr.1 H).2.2 i hB i hb rfl;rw[aBi]at hk
         refine ih (b.setIfInBounds i O) F (c.erase i) l (rT tab i At) _ L' _ w' (by simp at hF;omega) o_ R hc' (Be (c.erase i) l λj=>?_) ?_ (λj C=>S j ((I j).1 C).2) (λj C=>?_) hk
          ⟨M',ob',hx.trans z,As,λt hmt=>?_,(dJ _ _ _).1.trans y,(Y.ext hm z).put,by omega⟩
         .grind
         .grind [Cr]
         .grind [DI]
         .rw [fC];unfold kM;by_cases k:p.dst=X t
          .rw [bu k];have T:t<a.tmps.size:=y▸hd i p B t k;rw[k];simp only[Act.put];rw[Bh,Fg T];exact hr
          .rw [bt k];have N:=(G t hmt).mono z.imm z.hs;cases L:p.dst with
           | none=>exact N
           | some d=>
            have hne:d≠t:=λe=>k (by rw[L,e]);simp only[Act.put];rw[Bh,Gh hne,<-Bh];exact N
        .cases e
       .rcases x3 with⟨u',v,e,_⟩|⟨ch',v,e,hr,hk⟩
        .cases e
        .cases e;have:=z.lens;have:=As.len;refine hp _ v L' W a w' hk ⟨M',ob',hx.trans z,As,hr,λt=>?_,y,Y.ext hm z,by omega⟩;unfold gP;cases hda:DH A t 0 ops.toList with
         | true=>exact .undef _
         | false=>
          exact(G t λj C q hjq=>rS hda j q q_ (by rw[Bv];exact(J j C).1)).mono z.imm z.hs
   .
    obtain⟨k1,k2,k3⟩:=J i hA;obtain⟨p,d,B,hg,L,hev2⟩:=UI (aFn h) i k2;have B:ops[i]? =X p:=by simpa using B
    have hor:orF E.P ac (λv ap=>v=bA fr d/\ap=ac) (λ_ _=>False) (eop E (fA E p.dst) (aV ac) (aE ac) (evP A tab ops.toList i fr) p.op p.type):=by rw[hev2];exact⟨rfl,rfl⟩
    have hw:Fq p (yielded ops a.tmps)=true:=by unfold Fq;rw[hg]
    unfold wpOpIn;rw[B];dsimp only;rw[bu hw];refine(wQ hE hm hev hor).wpIn (jJ hor) (λu w' ⟨M',ob',L',z,As,x3⟩=>?_) (λW w' ⟨M',ob',L',z,As,x3⟩=>?_)
    .rcases x3 with⟨u',v,e,hr,hk1,hk2⟩|⟨W,v,e,_⟩
     .cases e;subst hk1 hk2;have T:d<a.tmps.size:=y▸hd i p B d L;have hnod:l.Nodup:=(Cr.1 H).2.1;have I:∀j,j∈l.erase i↔j≠i/\j∈l:=λj=>hnod.mem_erase_iff;have hlen:Z (l.erase i)+1=Z l:=by grind[Mf,Mv]
      have hdis:i∉c:=λhb=>(Cr.1 H).2.2 i hb i hA rfl
      refine ih (b.setIfInBounds i O) F c (l.erase i) At fr L' _ w' hF o_ R hc' (Be c (l.erase i) λj=>?_) ?_ S (λj C=>J j ((I j).1 C).2) h
       ⟨M',ob',hx.trans z,As,λt hmt=>?_,(dJ _ _ _).1.trans y,(Y.ext hm z).put,h0⟩
      .grind
      .grind [Cr]
      .rw [L];simp only[Act.put];by_cases k:d=t
       .subst k;rw[Bh,Fg T];exact hr
       .rw [Bh,Gh k,<-Bh];refine(G t λj C q hjq=>?_).mono z.imm z.hs
        grind
     .cases e
    grind
def GC{all:bc}{ac:aw}:∀{l:a6} {fr:au} {k:au->Prop},aAA E A tab all ac l fr k->(∀i∈l,i∈A)->∃a,k a/\∀t,DH A t 0 all=U->bA a t=bA fr t
 | [],fr,k,h,_=>⟨fr,h,λt _=>rfl⟩
 | i::r,fr,k,h,hA=>by
  unfold aAA at h;split at h
  .rename_i p hp;split at h
   .rename_i d f;split at h
    .rename_i v g;rw[qB,lQ]at h;obtain⟨a,h1,c⟩:=GC h λj e=>hA j (Bb _ e);refine⟨a,h1,λt b=>?_⟩;rw[c t b,rK];have:=rS b i p (by simpa using gZ hp) (by grind)
     grind
    grind
   grind
  grind
end
def To.permT{E:Env}{fn:Func}{g:Goal}(hE:ae E)(A B:a6){id:Nat}{ops:Array Oper}{ks:bg}{fr:au}{ac:aw}(hst:aOs A B (iX [] ops.toList) ops.size=O)
  (h:aAA E A (iX [] ops.toList) ops.toList ac A fr λfr=>RT E A (iX [] ops.toList) ops.toList (λfr ac=>To E fn g (.code ks fr ac)) (kB E fn g) B B A fr ac):To E fn g (.code (.code (.region id ops O)::ks) fr ac):=
 .mk λF M0 ob0 aq w0 a w f hs=>by
  simp only[bN,KI.ok,dW,Af]at F;obtain⟨⟨x,At⟩,u⟩:=F;have N:=nK x
  refine KW.code (Q':=QR E fn g M0 ob0 aq w0 ks) ?_ (λa w h=>h) (λm a w h=>h) (λe a w V=>by cases e<;>first|exact .inl rfl|exact .inr ⟨_,rfl⟩|exact V.elim)
  have l:∀n v ac m a w,kB E fn g n v ac->PP M0 ob0 aq w0 fn.ntmps E.df n v ac m a w->qM E fn M0 ob0 aq w0 g (.panic m) a w:=λn v ac m a w I l=>BP I f l;have s:∀fr ac a w,To E fn g (.code ks fr ac)->SS M0 ob0 aq w0 fn.ntmps E.df fr ac a w->KW E.rd E.P (qM E fn M0 ob0 aq w0 g) ks a w:=λfr ac a w r hs=>r.rec λr=>r u M0 ob0 aq w0 a w f hs;have S:TabSp ops (iX [] ops.toList):=yY ops (by grind);refine wpIn_region_any hE.mix ?_;simp only[aOs,Af]at hst;obtain⟨K,As⟩:=hst;obtain⟨W,y⟩:=C0 K;have R:=DM As;obtain⟨C,h1,q⟩:=GC h λi b=>b;have k:(B++A).Nodup:=List.perm_append_comm.nodup_iff.1 W;have c:ops.size=Z B+Z A:=by
   have G:Z (B++A)<=ops.size:=by
    have:=(k.sublist (List.Sublist.refl _))
    have h3:(B++A).Subset (Dh ops.size):=λi b=>Nh.2 (y i (by rw[Cc]at b⊢;exact b.symm));have:=k.length_le_of_subset h3;simpa using this
   have H:ops.size<=Z (B++A):=by
    have h3:(Dh ops.size).Subset (B++A):=λi b=>by grind
    have:=List.nodup_range.length_le_of_subset h3;simpa using this
   simp at G H;omega
  obtain⟨M,ob,An,hm,T,L⟩:=hs.draw;have o:∀i,i<ops.size->(Array.replicate ops.size U).getD i U=false:=λi b=>by rw[Bh,Ho q_];simp
  refine aDR (Q:=QR E fn g M0 ob0 aq w0 ks) hE S (λi p b d z=>N p (Ax (i:=i) q_) d z) (λn v ac m a w h1 q=>l n v ac m a w h1 q) (λfr ac a w h1 q=>s fr ac a w h1 q) ops.size _ B B A A C ac a _ rfl c s_ (λj i Y _=>?_)
   (λi b=>⟨λ_=>(R i b).symm,λ_=>o i b⟩) k (λi b=>y i (List.mem_append_right _ b)) (λi b=>⟨b,b,y i (List.mem_append_left _ b)⟩) h1 ⟨M,ob,An,hm,λt J=>?_,L⟩
  .grind [Bh,Array.getElem?_eq_none]
  .rw [q t ?_]
   .exact T t
   .cases Be:DH A t 0 ops.toList with
    | false=>rfl
    | true=>
     obtain⟨i,p,G,H,Am⟩:=QS Be
     grind
def aY{p q:Prop}(h:p):(O=O->p)/\(O=U->q):=⟨λ_=>h,λh=>bv h d_⟩
def aN{p q:Prop}(h:q):(U=O->p)/\(U=U->q):=⟨λh=>bv h d_,λ_=>h⟩
def aT{a p q:Prop}[Decidable a](h:decide a=O->p)(b:a:=by omega):(decide a=O->p)/\(decide a=U->q):=⟨h,λh=>bv b (bm h)⟩
def aF{a p q:Prop}[Decidable a](h:decide a=U->q)(b:¬ a:=by omega):(decide a=O->p)/\(decide a=U->q):=⟨λh=>bv (bn h) b,h⟩
def aD{p q:Prop}(h:q)(hp:p:=by first|decide|omega):p/\q:=⟨hp,h⟩
def aL{p q:Prop}(h:q)(hp:p:=by repeat (first|exact trivial|refine And.intro rfl ?_)):p/\q:=⟨hp,h⟩
def aJ{k:IntKind}{n:Int}{p q:Prop}(h:p)(h1:bS k<=n:=by simp only[bS];omega)(a:n<=aX k:=by simp only[aX];omega):(inR k n/\p)\/q:=.inl ⟨⟨h1,a⟩,h⟩
def gW{E:Env}{fn:Func}{g:Goal}{st:St}(hE:ae E)(h:cF E fn g (To E fn g) 100 st):To E fn g st:=bR hE 100 h
def gN{E:Env}{fn:Func}{g:Goal}{st:St}(hE:ae E)(h:cF E fn g (To E fn g) 100 st)(hs:aBy st=true:=by rfl):To E fn g st:=goN hE 100 hs h
def cT{E:Env}{f:FuncId}{fn:Func}{args:az}{ac:aw}{g:Goal}(h:okL args->To E fn g (.code [.code (eF fn)] (frA 0 args) ac))(b:E.df=[]:=by rfl)(i:E.P.funcs[f]? =X fn:=by rfl)(j:fn.body=X (eF fn):=by rfl)
  (c:qO E.P f:=by exact λ_ _=>by rfl) (e:dW fn.ntmps (eF fn)=true:=by decide+kernel) (l:Gc (Z args) fn.ntmps=true:=by rfl) (a:yT ac=true:=by rfl) (k:Z ac=g.n0:=by rfl) (d:E.rd=none:=by rfl):aA E.P f args ac g.res g.obs:=
 aA.to b i j c e l a k h d
def H7(z:aa):OR->Prop
 | .val v=>v=z
 | .need p r=>p/\H7 z r
 | .idx n f=>∃i:Nat,n=(i:Int)/\H7 z (f i)
 | .elem xs i f=>∃x,xs[i]? =X x/\H7 z (f x)
 | .find es key f=>H7 z (f (cE es key))
 | _=>False
def UG(k:aa->Prop):OR->Prop
 | .val v=>k v
 | .need p r=>p/\UG k r
 | .idx n f=>∃i:Nat,n=(i:Int)/\UG k (f i)
 | .elem xs i f=>∃x,xs[i]? =X x/\UG k (f x)
 | .find es key f=>∃o,cE es key=o/\UG k (f o)
 | _=>False
def LF(E:Env)(A tab:a6)(all:bc)(ac:aw):a6->au->(au->Prop)->Prop
 | [],fr,k=>k fr
 | i::r,fr,k=>match nth all i with
  | some p=>(match p.dst with
   | some d=>UG (λv=>KD 5 v λv=>BA fr d v λfr=>LF E A tab all ac r fr k) (eop E (fA E p.dst) (aV ac) (aE ac) (evP A tab all i fr) p.op p.type)
   | none=>False)
  | none=>False
section
variable {rd:Option Nat} {M0:Imm} {ob0:Hs} {aq:aw} {w0:World} {sz:Nat} {dfs:List (Nat×az)} {E:Env} {ops:Array Oper} {Q:Exit->Act->World->Prop} {K:au->aw->Prop} {Kp:(Nat->aa)->aa->aw->Prop} {A tab:a6}
end
end Go.AW
