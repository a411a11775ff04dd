/- Part 4 of what the statement rests on. -/
import Derived.Test.YtbpccabomgalhaaGreatDoorWC
set_option linter.all false
open Array renaming getD_eq_getD_getElem?->Cj,getElem?_eq_getElem->Ik,getElem?_eq_some_iff->Ep
open Bool renaming and_eq_true->Ad,and_true->Jz,not_eq_true'->Cw,or_eq_false_iff->Kf,or_eq_true->Ew,true_and->Dc
open Go.Builtin renaming append_->Cm
open Go.Region renaming ready->Dx,wanted->Gq
open Go.Value renaming int->Dz
open Go.World renaming block_lt_of_cell?->Cp,cell?->Kh,cell?_of_block->Co,ownsRow_nil->Gy,putObj_heap_other->Gg,putObj_heap_same->Mf
open List renaming all_eq_true->Ct,drop_eq_getElem_cons->Ag,eq_nil_of_length_eq_zero->Ay,getElem?_append_left->Af,getElem?_append_right->Ak,getElem?_eq_some_iff->Ac,getElem?_map->Bh,getElem?_of_mem->Cq,getElem?_set_ne->Ax,getElem?_set_self->Aq,length_take->Dl,map_append->Bk,mem_append->Az,mem_cons->Bc,mem_filter->Fg,mem_map->Bq,mem_of_getElem?->Av,mem_range->Jg,mem_singleton->Dh,nodup_cons->Bx,nodup_nil->Hj,prefix_refl->Cl,range->Dr,replicate->Aj,take_append_drop->Bp,take_append_of_le_length->Cz,take_of_length_le->Cd
open Nat renaming beq->Aw,beq_refl->Nd,ble->Fp,blt->Ey,blt_eq->Jq,div_one->Ig,le_of_ble_eq_true->Ci,le_refl->Bf,le_trans->Cx,lt_of_lt_of_le->Em,min_eq_left->Gh,mod_one->Ix,zero_add->Bw
open Ne renaming symm->Ej
open Option renaming map_eq_some_iff->Cb
namespace Go.AW
open Go.RowKit
open Classical
def bY(l:Nat)(R:Loop):BInv where
 inv _ bs w:=bs=[l]/\w.heap[l]? =some (.loop R)
 mono:=λ_ _ hb ⟨h1,h2⟩=>⟨h1,hb _ _ (by rw [h1];simp) h2⟩
def eB(bs:az):KH (dX bs)=bs:=BF (hs:=[dX bs]) rfl
def iD{hs:ba}{g:Nat}{I:BInv}{k b:Nat}:aG [hs] [.bun g I] k b↔k=0/\b∈blk hs:=by
 constructor
 .rintro ⟨c,hs',a,e,f,d⟩;cases k with
  | zero=>grind
  | succ k=>simp at a
 .rintro ⟨rfl,h⟩;exact ⟨_,hs,rfl,rfl,rfl,h⟩
section
variable {M:Imm} {ob:Hs} {ac:au} {w:World}
def Mem.recAt(h:Mem M ob ac w){k l g:Nat}{R:Loop}(b:ac[k]? =some (.bun g (bY l R))):∃ hs,ob[k]? =some hs/\hs.length=g+1/\hs[g]? =some (dX [l])/\blk hs=[l]/\w.heap[l]? =some (.loop R):=by obtain ⟨hs,c,hl,bs,a,hd,rfl,d⟩:=h.obj k _ b;exact ⟨hs,c,hl,a,(dZ hl a).trans (eB _),d⟩
def Mem.recTurn(h:Mem M ob ac w){k l g:Nat}{R:Loop}(m:ac[k]? =some (.bun g (bY l R)))(d:Loop):
  Mem M ob (ac.set k (.bun g (bY l d))) (w.putObj l (.loop d))/\Ext M ob ac w M ob (ac.set k (.bun g (bY l d))) (w.putObj l (.loop d)):=by
 obtain ⟨hs,n,hl,r,p,q⟩:=h.recAt m;have f:=fA q
 have:=h.turn (M':=M) (w':=w.putObj l (.loop d)) (x':=.bun g (bY l d)) (hs':=hs) m n (Cl _) (λ e=>by cases e) (λ_ _ _ h=>h) (λ_ _ _ h=>.inl h) (λ c o y t=>by
   obtain ⟨u,i,v,z⟩:=h.imm c o y t;have j:c≠l:=λ e=>by subst e;unfold Kh at i;dsimp only at i;rw [q] at i;cases i
   exact ⟨u,(Co (w:=w) (a:=⟨c,o,none⟩) (Gg j)).trans i,v,z⟩)
  (λ c _ s=>Gg λ e=>s ⟨rfl,by simp_all⟩) rfl rfl rfl s_ (λ_=>⟨hl,[l],r,λ b p=>by
   rw [Dh.1 p]
   exact ⟨_,Mf f,rfl⟩,rfl,Mf f⟩)
  (λ_ c x=>⟨.inl ⟨rfl,x⟩,by simp_all⟩)
 rw [fS n] at this
 grind
def Mem.drop(h:Mem M ob ac w)(k:Nat):Mem M ob (ac.set k .dead) w/\∀ {i b:Nat},aG ob (ac.set k .dead) i b->aG ob ac i b:=by
 have a:S1 (ac.set k .dead) ac:=⟨by simp,λ i=>by
  by_cases d:i=k
  .subst d
   grind
  grind⟩
 exact ⟨h.weak a,λ c=>a.alive c⟩
end
section
variable {E:Env} {fn:Func} {g:Goal}
def To.beginR{l k gg:Nat}{R:Loop}{ks:bf}{fr:ar}{ac:au}(f:E.rd=some l)(x:aB ac k= .bun gg (bY l R))(v:R.state= .ready)
  (h:To E fn g (.code ks fr (bJ ac k (.bun gg (bY l {R with state:=.busy}))))):To E fn g (.code (.beginR::ks) fr ac):=
 .mk λ i M0 ob0 ap w0 a w hst hs=>by obtain ⟨M,ob,o,hm,j,s,u,y⟩:=hs;have d:=bD x s_;obtain ⟨p,n⟩:=hm.recTurn d {R with state:=.busy};obtain ⟨_,_,_,_,_,c⟩:=hm.recAt d;rw [aL d] at h;have key:=(h.rec (motive:=λ_=>yY E fn g _) λ h=>h) (by simpa [bA,KI.ok] using i) M0 ob0 ap w0 a _ hst ⟨M,ob,o.trans n,p,j,s,u.ext hm n,by simp;omega⟩;intro b cs m;obtain ⟨e,t,w',q,r⟩:=key b cs m;exact ⟨e,t,w',q,.of_steps (.one (jB _ _ _) (stepR_beginRound (m.trans f) (run_beginRound c v))) r⟩
end
def jG(ob0:Hs)(fr:ar)(R:Loop)(L:au):BInv where
 inv M bs w:=∃ ob,cV ob0 ob/\ob.length=L.length/\(∀ (k:Nat) c,L[k]? =some c->∃ hs,ob[k]? =some hs/\gX M ob w hs c)/\(∀ k k' b,aG ob L k b->aG ob L k' b->k=k')/\
  (∀ b,b∈bs↔ ∃ k,aG ob L k b)/\∀ t,Rep M ob (R.tmps.getD t undef) (aU fr t)
 mono:=λ hM hn hb ⟨ob,h1,h2,h3,h4,h5,h6⟩=>⟨ob,h1,h2,λ k c hc=>by
  obtain ⟨hs,hh,hok⟩:=h3 k c hc
  exact ⟨hs,hh,hok.mono hM (cV.refl _) (λ b p1 p2=>hn b ((h5 b).2 ⟨k,(cL hc hh).2 ⟨p1,p2⟩⟩)) (λ b c' p1 p2=>hb b c' ((h5 b).2 ⟨k,(cL hc hh).2 ⟨p1,p2⟩⟩))⟩,h4,h5,λ t=>(h6 t).monoM hM⟩
def Mem.unpack{M:Imm}{ob:Hs}{ac:au}{w:World}{k g:Nat}{ob0:Hs}{fr:ar}{R:Loop}{L:au}(hm:Mem M ob ac w)(n:ac[k]? =some (.bun g (jG ob0 fr R L))):
  ∃ hs a,ob[k]? =some hs/\hs.length=g+1/\cV ob0 a/\Mem M a L w/\(∀ b,b∈blk hs↔ ∃ k,aG a L k b)/\∀ t,Rep M a (R.tmps.getD t undef) (aU fr t):=by
 obtain ⟨hs,h,hl,bs,d,hd,a,h1,e,h3,f,c,j⟩:=hm.obj k _ n;have m:blk hs=bs:=(dZ hl d).trans (eB _);refine ⟨hs,a,h,hl,h1,⟨hm.imm,e,h3,λ i b l=>?_,f⟩,λ b=>by rw [m];exact c b,j⟩;obtain ⟨o,q,_⟩:=hd b ((c b).2 ⟨i,l⟩);exact fA q
def Mem.pack{M:Imm}{a:Hs}{L:au}{w:World}{ob0:Hs}{fr:ar}{R:Loop}(hm:Mem M a L w)(d:cV ob0 a)(e:∀ t,Rep M a (R.tmps.getD t undef) (aU fr t)):
  ∃ bs,(∀ b,b∈bs↔ ∃ k,aG a L k b)/\∀ (ob:Hs) (hs:ba),gX M ob w (hs++[dX bs]) (.bun hs.length (jG ob0 fr R L)):=by
 let bs:=(Dr w.heap.size).filter λ b=>decide (∃ k,aG a L k b)
 have c:∀ b,b∈bs↔ ∃ k,aG a L k b:=λ b=>by simp only [bs,Fg,Jg,decide_eq_true_eq];exact ⟨λ h=>h.2,λ⟨k,h⟩=>⟨hm.lt k b h,k,h⟩⟩
 refine ⟨bs,c,λ ob hs=>⟨by simp,bs,by simp,λ b f=>?_,a,d,hm.len,hm.obj,hm.inj,c,e⟩⟩;obtain ⟨k,g⟩:=(c b).1 f;exact hm.alive_heap g
def oO(hs:ba)(v:Value):blk (hs++[v])=KH v:=by unfold blk;simp
def aBu{M:Imm}{ob:Hs}{tmps:Array Value}{fr:ar}{p:Nat}{v:Value}{x:aa}(h:∀ t,Rep M ob (tmps.getD t undef) (aU fr t))(b:Rep M ob v x)(hp:p<tmps.size):
  ∀ t,Rep M ob ((tmps.setIfInBounds p v).getD t undef) (aU (gR fr p x) t):=by
 intro t;have:=kH (a:={tmps:=tmps,defers:=[]}) (d:=some p) h b (λ c e=>by grind) t;rw [show aU (gR fr p x) t=iY (aU fr) (some p) x t from congrFun (dR fr (some p) x) t];exact this
def lI(R:Loop)(b:Bool):Loop:=if b then R else {R with state:=.done,pending:=some .ret}
def XV{R:Loop}(h1:R.state= .ready)(h:R.pending=none):({{R with state:=.busy} with state:=if (none:Option Code).isNone then .ready else .done,pending:=none}:Loop)=lI R true:=by obtain ⟨a,b,c,d,e,f,g,i⟩:=R;have h1:a= .ready:=h1;have h:b=none:=h;subst h1 h;rfl
def gO{E:Env}{fn:Func}{ob0:Hs}{l k n p gg:Nat}{R:Loop}{as C:Code}{fr:ar}{L L':au}{x:Int}{b:Bool}(T:R.params= #[p])(V:R.state= .ready)(hpe:R.pending=none)(has:R.assign=as)(hbd:R.body=C)(hsz:R.tmps.size=fn.ntmps)
  (hp:Ey p fn.ntmps=true) (hdf:E.df=[]) (hco:(cS fn.ntmps as&&cS fn.ntmps C)=true) (hk:aB L k= .bun gg (bY l R)) (hn:L.length=n) (hn':L'.length=n) (hk':aB L' k= .bun gg (bY l {R with state:=.busy}))
  (h:inR .i64 x->To {E with rd:=some l} fn (.keep n (.ret (.bool b)) L') (.code [.code as,.beginR,.code C] (gR fr p (.int .i64 x)) L)):
  bF E.P (.yield l) [.int .i64 x] [.bun 0 (jG ob0 fr R L)] (.ret (.bool b)) [.bun 1 (jG ob0 fr R (L'.set k (.bun gg (bY l (lI R b)))))]:=by
 intro M ob w m hm hr;obtain ⟨hs,f,W,hl,Y,s,D,U⟩:=hm.unpack (k:=0) rfl;have hob:ob=[hs]:=by
  have:=hm.len
  match ob,this,W with
  | [y],_,W=>simp at W;rw [W]
 subst hob;obtain ⟨v,rfl⟩:∃ v,m=[v]:=by
  have:=hr.1
  match m,this with
  | [v],_=>simp
 have hv:Rep M [hs] v (.int .i64 x):=hr.2 0 v _ rfl rfl;obtain ⟨rfl,S⟩:=hv.int_inv;obtain ⟨_,_,_,_,_,I⟩:=s.recAt (bD hk s_);have hpl:p<R.tmps.size:=by rw [hsz];simpa [Jq] using hp
 have H:(R.params.zip #[Dz .i64 x]).foldl (λ tmps (t,a)=>tmps.setIfInBounds t a) R.tmps=R.tmps.setIfInBounds p (.int .i64 x):=by rw [T];simp
 refine ⟨R.fn,R.tmps.setIfInBounds p (.int .i64 x),as,C,?_,trivial,λ c cs _=>?_⟩
 .have:=run_yield (P:=E.P) (args:= #[Dz .i64 x]) I (by rw [T];rfl);rw [H,has,hbd] at this;exact this
 let b0:Frame:={(default:Frame) with fn:=R.fn,kind:=.normal,roundOf:=some l}
 let a0:Act:={tmps:=R.tmps.setIfInBounds p (.int .i64 x),defers:=[]}
 have hb0:Frame.round l R.fn (R.tmps.setIfInBounds p (.int .i64 x)) as C .normal=b0.atR a0 (gS [.code as,.beginR,.code C]):=by rfl
 rw [hb0]
 have hst:oQ (.keep n (.ret (.bool b)) L') f:=⟨by rw [s.len];exact hn,λ h=>by cases h⟩
 have hok:bA fn.ntmps [.code as,.beginR,.code C]=true:=by simp only [bA,KI.ok,Jz,Dc];omega
 obtain ⟨h0⟩:=h S;obtain ⟨e,a',w',K,A⟩:=h0 hok M f L w a0 w hst ⟨M,f,Ext.refl _ _ _ _,s,aBu U (.int _ _ S) hpl,by show (R.tmps.setIfInBounds p _).size=_;simp;omega,by show cM w w M f [] E.df;rw [hdf];exact .nil,by rw [s.len];omega⟩ b0 (c::cs) rfl
 -- fL the body
 have fin:∀ {r:Bool} {w':World} {st:LoopState} {jump:Option Code},(jump.isNone=r)->({{R with state:=.busy} with state:=if jump.isNone then .ready else .done,pending:=jump}:Loop)=lI R r->RR M f L w (.keep n (.ret (.bool b)) L') (.returned (.bool r)) w'->
   r=b/\∃ G,(Instr.endRound l jump).run E.P w'= .ok (.bool r) G/\∃ M' ob',Ext M [hs] [.bun 0 (jG ob0 fr R L)] w M' ob' [.bun 1 (jG ob0 fr R (L'.set k (.bun gg (bY l (lI R b)))))] G/\Mem M' ob' [.bun 1 (jG ob0 fr R (L'.set k (.bun gg (bY l (lI R b)))))] G:=by
  intro r w' st jump N hR ⟨M',g,J,B,x3⟩;have e:r=b:=by have:=Rep.bool_inv (M:=M') (ob:=g) (b:=b) x3;simpa using this
  subst e;refine ⟨rfl,?_⟩;have B:Mem M' g L' w':=B;have J:Ext M f L w M' g L' w':=J;have Q:=bD hk' s_;obtain ⟨_,_,_,_,_,u⟩:=B.recAt Q;obtain ⟨m1,m2⟩:=B.recTurn Q (lI R r);have d:=run_endRound (P:=E.P) jump u;rw [hR,N] at d;refine ⟨_,d,M',?_⟩;have X:=J.trans m2;obtain ⟨bs,O,Z⟩:=m1.pack (fr:=fr) (R:=R) (Y.trans X.hs) λ t=>(U t).mono X.imm X.hs;have hal':∀ {k b},aG [hs++[dX bs]] [.bun 1 (jG ob0 fr R (L'.set k (.bun gg (bY l (lI R r)))))] k b->b∈bs:=λ{k b} z=>by have:=(iD.1 z).2;rwa [oO,eB] at this
  have h1:hs.length=1:=hl;refine ⟨[hs++[dX bs]],⟨X.imm,λ b o y hy=>?_,λ i hs' hi=>?_,X.os,X.tape,X.output,X.size,λ b F hn=>X.keep b F λ i z=>hn 0 (iD.2 ⟨rfl,(D b).2 ⟨i,z⟩⟩),λ i b z=>?_⟩,⟨m1.imm,rfl,λ i c hc=>?_,λ i b z=>?_,λ i j b z F=>?_⟩⟩
  .rcases X.new b o y hy with q | q | q
   .exact .inl q
   .omega
   .exact .inr (.inr ⟨0,iD.2 ⟨rfl,(D b).2 q⟩⟩)
  .cases i with
   | zero=>simp at hi;subst hi;simp
   | succ i=>simp at hi
  .have F:b∈bs:=by have:=(iD.1 z).2;rwa [oO,eB] at this
   obtain ⟨j,N⟩:=(O b).1 F;rcases X.fresh j b N with q | q
   .exact .inl ⟨0,iD.2 ⟨rfl,(D b).2 q⟩⟩
   omega
  .cases i with
   | zero=>
    simp at hc;subst hc;refine ⟨_,rfl,?_⟩;have:=Z [hs++[dX bs]] hs;rwa [h1] at this
   | succ i=>simp at hc
  .have F:b∈bs:=by have:=(iD.1 z).2;rwa [oO,eB] at this
   obtain ⟨j,N⟩:=(O b).1 F;exact m1.lt j b N
  .rw [(iD.1 z).1,(iD.1 F).1]
 cases e with
 | normal=>
  obtain ⟨rfl,G,d,M',ob',J,B⟩:=fin (st:=.ready) (jump:=none) rfl (XV V hpe) K;exact ⟨.returned (.bool true),G,⟨M',ob',J,B,.bool _⟩,StepsIn.trans A (.one (jB _ _ _) (stepR_round_end rfl rfl d))⟩
 | ret=>
  obtain ⟨rfl,G,d,M',ob',J,B⟩:=fin (st:=.ready) (jump:=some .ret) rfl rfl K;obtain ⟨k₁,hs'⟩:=A.2 rfl;exact ⟨.returned (.bool false),G,⟨M',ob',J,B,.bool _⟩,StepsIn.trans hs' (.one (jB _ _ _) (stepR_round_ret rfl rfl d))⟩
 | panic ch=>exact K.elim
 | exit id=>exact K.elim
 | goto t=>exact K.elim
 | outgrown=>exact K.elim
def LW:Code->Option (Code×Code)
 | .rangeFunc _ _ as c=>some (as,c)
 | .seq a b=>(match LW a with | some x=>some x | none=>LW b)
 | .cond _ a b=>(match LW a with | some x=>some x | none=>LW b)
 | .block _ b=>LW b
 | .loop b=>LW b
 | _=>none
def rfA(fn:Func):Code:=match LW (cH fn) with | some p=>p.1 | none=>.skip
def rfB(fn:Func):Code:=match LW (cH fn) with | some p=>p.2 | none=>.skip
def KW.range{rd:Option Nat}{P:Program}{Q:Exit->Act->World->Prop}{ks:bf}{a:Act}{w:World}{x:Operand}{C:Array Tmp}{as A:Code}
  (h:∀ fn,∃ (l:Nat) (c:List Deferred) (n:World) (d:Deferred) (f:FuncId) (args:Array Value),
   (Instr.enterLoop fn a.tmps C as A rd).run P w= .ok (l,c) n/\(resolve a.eval (rangeCall x l) 0).run P n= .ok d n/\(invoke d.target d.args).run P n= .ok (.enter f args) n/\
   Calls P f args n λ e F=>∃ v,e= .returned v/\∃ jump z,(Instr.endLoop l).run P F= .ok jump z/\KW rd P Q ((jump.map KI.code).toList++ks) {a with defers:=c++a.defers} z):
  KW rd P Q (.code (.rangeFunc x C as A)::ks) a w:=by
 intro b cs s;obtain ⟨l,c,n,d,f,args,D,y,u,o⟩:=h b.fn;rw [<-s] at D;have i:=stepR_rangeFunc (P:=P) (b:=b) (a:=a) (k:=gS ks) (cs:=cs) (w:=w) D y u;obtain ⟨e,F,fr,⟨v,rfl,jump,z,t,I⟩,g,H,j⟩:=o (b.atR {a with defers:=c++a.defers} (.inRangeFunc l::gS ks)::cs);obtain ⟨J,G,w',q,r⟩:=I b cs s;refine ⟨J,G,w',q,?_⟩;have B:gS ((jump.map KI.code).toList++ks)=(jump.map Item.code).toList++gS ks:=by cases jump<;>rfl
 rw [B] at r;have p:Steps P (lone (b.atR a (.code (.rangeFunc x C as A)::gS ks)) cs w) (lone (b.atR {a with defers:=c++a.defers} ((jump.map Item.code).toList++gS ks)) cs z):=by refine .head i (Steps.trans g (.head ?_ (.one (stepR_endRangeFunc t))));rw [<-finish_atR_inRangeFunc l v];exact step_leave_returned j
 exact .of_steps ((StepsIn.of_steps p).mono λ m _=>jB _ _ m) r
section
variable {M:Imm} {ob:Hs} {ac:au} {w:World}
def Mem.layRec(hm:Mem M ob ac w)(R:Loop):
  Mem M (ob++[[dX [w.heap.size+1]]]) (kM ac (.bun 0 (bY (w.heap.size+1) R))) ((w.alloc (.deferred (some []))).alloc (.loop R))/\
  Ext M ob ac w M (ob++[[dX [w.heap.size+1]]]) (kM ac (.bun 0 (bY (w.heap.size+1) R))) ((w.alloc (.deferred (some []))).alloc (.loop R)):=by
 rw [nU];have e:Mem M ob ac (w.alloc (.deferred (some []))):=hm.same s_ λ b c=>heap_alloc_old w _ c
 have f:Ext M ob ac w M ob ac (w.alloc (.deferred (some []))):=⟨λ_ _ _ h=>h,λ_ _ _ h=>.inl h,cV.refl _,rfl,rfl,rfl,by simp,λ b c _=>heap_alloc_old w _ c,λ k b p=>.inl ⟨k,p⟩⟩
 obtain ⟨g,r,_⟩:=e.extend 1;have h1:(ac++Aj 1 ab.dead)[ac.length]? =some .dead:=by simp
 have m:(ob++Aj 1 ([]:ba))[ac.length]? =some []:=by rw [<-hm.len];simp
 have d:(w.alloc (.deferred (some []))).heap.size=w.heap.size+1:=uQ ..
 have t:=g.turn (M':=M) (w':=(w.alloc (.deferred (some []))).alloc (.loop R)) (x':=.bun 0 (bY (w.heap.size+1) R)) (hs':=[dX [w.heap.size+1]]) h1 m ⟨_,rfl⟩ (λ_=>rfl) (λ_ _ _ h=>h) (λ_ _ _ h=>.inl h) (λ b o y l=>by
   obtain ⟨u,i,n,s⟩:=g.imm b o y l
   exact ⟨u,(Co (w:=w.alloc (.deferred (some []))) (a:=⟨b,o,none⟩) (heap_alloc_old _ _ (Cp _ _ i))).trans i,n,s⟩)
  (λ b c _=>heap_alloc_old _ _ c) rfl rfl rfl s_ (λ_=>⟨rfl,[w.heap.size+1],rfl,λ b c=>by
   rw [Dh.1 c,<-d]
   exact ⟨_,heap_alloc_new _ _,rfl⟩,rfl,by rw [<-d];exact heap_alloc_new _ _⟩)
  (λ_ b c=>by
   have:blk [dX [w.heap.size+1]]=[w.heap.size+1]:=eB _;rw [this] at c;rw [Dh.1 c,uQ _ (Obj.loop R),d]
   omega)
 have j:(ob++Aj 1 ([]:ba)).set ac.length [dX [w.heap.size+1]]=ob++[[dX [w.heap.size+1]]]:=by rw [<-hm.len];simp
 have q:(ac++Aj 1 ab.dead).set ac.length (.bun 0 (bY (w.heap.size+1) R))=ac++[.bun 0 (bY (w.heap.size+1) R)]:=by simp
 rw [j,q] at t;exact ⟨t.1,f.trans (r.trans t.2.1)⟩
def FL:∀ (ks:az) (ac:au),(∀ k∈ks,k<ac.length)->S1 (qJ ks ac) ac/\∀ k∈ks,(qJ ks ac)[k]? =some .dead
 | [],ac,_=>⟨⟨rfl,λ_=>.inl rfl⟩,λ k h=>by simp at h⟩
 | x::r,ac,hlt=>by
  have b:x<ac.length:=hlt x s_;have e:bJ ac x .dead=ac.set x .dead:=fW _ b;obtain ⟨⟨h1,d⟩,h3⟩:=FL r (bJ ac x .dead) (λ k a=>by grind);have c:∀ k:Nat,(qJ (x::r) ac)[k]? =ac[k]?\/(qJ (x::r) ac)[k]? =some ab.dead:=λ k=>by
   rcases d k with q | q
   .by_cases a:k=x
    .subst a;right;show (qJ r (bJ ac k .dead))[k]? =_;rw [q,e,Aq b]
    .left;show (qJ r (bJ ac x .dead))[k]? =_;rw [q,e,Ax (Ej a)]
   .exact .inr q
  refine ⟨⟨by show (qJ r (bJ ac x .dead)).length=_;rw [h1,e];simp,c⟩,λ k a=>?_⟩;rcases Bc.1 a with rfl | a
  .show (qJ r (bJ ac k ab.dead))[k]? =some ab.dead;rcases d k with q | q
   .rw [q,e,Aq b]
   .exact q
  .exact h3 k a
def Mem.snoc{A:au}{a:Hs}{c:ab}{hs:ba}(hm:Mem M a A w)(v:∀ ob,cV a ob->gX M ob w hs c)(q:∀ b∈blk hs,b<w.heap.size)(f:∀ k b,aG a A k b->b∉blk hs):
  Mem M (a++[hs]) (A++[c]) w/\∀ k b,aG (a++[hs]) (A++[c]) k b->(k<A.length/\aG a A k b)\/(k=A.length/\b∈blk hs):=by
 have g:cV a (a++[hs]):=λ j l e=>⟨l,by rw [Af (Ac.1 e).1];exact e,Cl _⟩
 have m:∀ {j:Nat} {x:ab},(A++[c])[j]? =some x->(j<A.length/\A[j]? =some x/\(a++[hs])[j]? =a[j]?)\/(j=A.length/\x=c/\(a++[hs])[j]? =some hs):=λ{j x} e=>by
  by_cases h:j<A.length
  .rw [Af h] at e;exact .inl ⟨h,e,Af (by rw [hm.len];exact h)⟩
  .have d:j=A.length:=by have:=(Ac.1 e).1;simp at this;omega
   subst d;rw [Ak s_] at e;simp at e;exact .inr ⟨rfl,e.symm,by rw [<-hm.len];simp⟩
 have n:∀ k b,aG (a++[hs]) (A++[c]) k b->(k<A.length/\aG a A k b)\/(k=A.length/\b∈blk hs):=by
  rintro k b ⟨x,l,t,z,p,s⟩;rcases m t with ⟨h1,d,h3⟩ | ⟨h1,d,h3⟩
  .rw [h3] at p;exact .inl ⟨h1,x,l,d,z,p,s⟩
  .rw [h3] at p;cases p;exact .inr ⟨h1,s⟩
 refine ⟨⟨hm.imm,by simp [hm.len],λ k x C=>?_,λ k b r=>?_,λ i j b r y=>?_⟩,n⟩
 .rcases m C with ⟨h1,d,h3⟩ | ⟨h1,rfl,h3⟩
  .obtain ⟨l,u,B⟩:=hm.obj k x d;exact ⟨l,by rw [h3];exact u,B.mono (λ_ _ _ h=>h) g (λ_ _ _ _ h=>h) (λ_ _ _ _ h=>h)⟩
  .exact ⟨hs,h3,v _ g⟩
 .rcases n k b r with ⟨_,h⟩ | ⟨_,h⟩
  .exact hm.lt k b h
  .exact q b h
 .rcases n i b r with ⟨h1,d⟩ | ⟨h1,d⟩<;>rcases n j b y with ⟨h3,o⟩ | ⟨h3,o⟩
  .exact hm.inj i j b d o
  .exact absurd o (f i b d)
  .exact absurd d (f j b o)
  omega
end
def bF.bunTo{P:Program}{f:Fn}{args:ax}{ac:au}{r:Res}{gg:Nat}{I j:BInv}(h:bF P f args ac r [.bun gg I])
  (s:∀ (M:Imm) (bs:az) (w:World),(∀ b o x,M b o x->∃ v,w.cell? ⟨b,o,none⟩=some v/\v.oneCell'=true/\Rep M [] v x)->(∀ b,b∈bs->b<w.heap.size)->I.inv M bs w->j.inv M bs w):bF P f args ac r [.bun gg j]:=
 λ M ob w d hm u=>cE.mono (λ e w' ⟨M',ob',a,g,t⟩=>by
  have i:∀ {k b},aG ob' [.bun gg j] k b->aG ob' [.bun gg I] k b:=λ{k b} ⟨c,hs,e1,e2,e3,e4⟩=>by
   cases k with
   | zero=>exact ⟨_,hs,rfl,rfl,e3,e4⟩
   | succ k=>simp at e1
  refine ⟨M',ob',⟨a.imm,a.new,a.hs,a.os,a.tape,a.output,a.size,a.keep,λ k b n=>a.fresh k b (i n)⟩,⟨g.imm,g.len,λ k c m=>?_,λ k b n=>g.lt k b (i n),λ k y b h1 l=>g.inj k y b (i h1) (i l)⟩,t⟩;cases k with
  | zero=>
   simp at m;subst m;obtain ⟨hs,h1,l,bs,h3,p,A⟩:=g.obj 0 _ rfl;exact ⟨hs,h1,l,bs,h3,p,s _ _ _ g.imm (λ b z=>by obtain ⟨o,q,_⟩:=p b z;exact fA q) A⟩
  | succ k=>simp at m) (h M ob w d hm u)
def BT:∀ (n j i:Nat),i<n->(upto j n)[i]? =some (j+i)
 | 0,_,_,h=>by omega
 | n+1,j,0,_=>rfl
 | n+1,j,i+1,h=>by show (upto (j+1) n)[i]? =_;rw [BT n (j+1) i o_,show j+1+i=j+(i+1) from by omega]
def aEj{ob0:Hs}{fr:ar}{R:Loop}{L L':au}{n:Nat}(A:L.length=n)(h1:∀ hs∈ob0,hs.length=1)(hl:ob0.length<=n)(u:iR (upto 0 n) L=true)(l:OQ n (upto 0 n) (aB L) fr=fr)(F:gF n (upto 0 n) L=L'):
  ∀ (M:Imm) (bs:az) (w:World),(∀ b o x,M b o x->∃ v,w.cell? ⟨b,o,none⟩=some v/\v.oneCell'=true/\Rep M [] v x)->(∀ b,b∈bs->b<w.heap.size)->(jG ob0 fr R L).inv M bs w->(jG ob0 fr R L').inv M bs w:=by
 rintro M bs w f g ⟨ob,C,H,y,G,q,D⟩;subst F
 have hm:Mem M ob L w:=⟨f,H,y,λ k b a=>g b ((q b).2 ⟨k,a⟩),G⟩
 obtain ⟨m,B,z⟩:=hm.cvt (n0:=n) u;refine ⟨eS n ob L 0 (upto 0 n),λ j hs p=>?_,m.len,m.obj,m.inj,λ b=>(q b).trans ⟨λ⟨k,a⟩=>?_,λ⟨j,a⟩=>?_⟩,λ t=>?_⟩
 .have i:j<n:=Em (Ac.1 p).1 hl;obtain ⟨hs',d,t,s⟩:=C j hs p;have r:=h1 hs (Av p);refine ⟨iL n j (aB L j) hs',?_,?_⟩
  .rw [gT,BT n 0 j i];simp [d]
  .unfold iL;split
   .rw [<-s];have:(hs++t).take 1=hs:=by rw [Cz o_,Cd o_]
    rw [this];simp
   .exact ⟨t,s⟩
 .have e:k<n:=by obtain ⟨c,_,d,_⟩:=a;rw [<-A];exact (Ac.1 d).1
  exact ⟨k,z k k b (by rw [BT n 0 k e,Bw]) a⟩
 .obtain ⟨k,_,h⟩:=B j b a;exact ⟨k,h⟩
 .have:=hm.cvtV (n0:=n) u 5 _ _ (D t);rw [<-yD,l] at this;exact this
structure RecOK(fn:Func)(p:Nat)(as bd:Code)(R:Loop):Prop where
 params:R.params= #[p]
 ready:R.state= .ready
 pend:R.pending=none
 assign:R.assign=as
 body:R.body=bd
 size:R.tmps.size=fn.ntmps
def To.range{E:Env}{fn:Func}{g:Goal}{x:Operand}{p:Nat}{as bd:Code}{ks:bf}{fr:ar}{ac:au}{f:FuncId}{C:ax}(m:az)(hrd:E.rd=none)(hdf:E.df=[])(hbo:kK E.P f)
  (hx:ev fr x= .func (.func f) [] C) (hk:∀ l R,iR m (kM ac (.bun 0 (bY l R)))=true) (hlt:(m.all λ k=>Ey k (aM ac))=true)
  (h:∀ (l:Nat) (ob0:Hs) (R:Loop),oQ g ob0->RecOK fn p as bd R->∃ (L':au) (b:Bool) (r:aa) (z:au) (gg:Nat),
   aA E.P f (.func (.yield l) [] []::dO (cvtV 0 m (aB (kM ac (.bun 0 (bY l R)))) 5) C) (gF 0 m (kM ac (.bun 0 (bY l R)))++[.bun 0 (jG ob0 fr R (qJ m (kM ac (.bun 0 (bY l R)))))]) (.ret r) (z++[.bun gg (jG ob0 fr R L')])/\
   aB L' (aM ac)= .bun 0 (bY l (lI R b))/\z.length=m.length/\To E fn g (.code (if b then ks else .code .ret::ks) fr (bJ L' (aM ac) .dead))):
  To E fn g (.code (.code (.rangeFunc x #[p] as bd)::ks) fr ac):=by
 refine .mk λ hok M0 n ap w0 a w hst hs=>?_;obtain ⟨M,ob,hx0,hm,hfr,hsz,Y,hlen⟩:=hs;rw [hrd];refine KW.range λ fid=>?_
 obtain ⟨l,hl⟩:∃ l,l=w.heap.size+1:=⟨_,rfl⟩
 obtain ⟨R,hR⟩:∃ R:Loop,R={state:=.ready,pending:=none,fn:=fid,tmps:=a.tmps,params:= #[p],assign:=as,body:=bd,defers:=w.heap.size}:=⟨_,rfl⟩
 have L:RecOK fn p as bd R:=by subst hR;exact ⟨rfl,rfl,rfl,rfl,rfl,hsz⟩
 have htm:R.tmps=a.tmps:=by subst hR;rfl
 obtain ⟨D,U⟩:∃ D,D=(w.alloc (.deferred (some []))).alloc (.loop R):=⟨_,rfl⟩
 obtain ⟨m1,x1⟩:=hm.layRec R;rw [<-hl,<-U] at m1 x1
 obtain ⟨A,hob1⟩:∃ A,A=ob++[[dX [l]]]:=⟨_,rfl⟩
 rw [<-hob1] at m1 x1;obtain ⟨L',b,r,z,gg,hcall,hLk,hol,hto⟩:=h l n R hst L;generalize I:kM ac (.bun 0 (bY l R))=obs1 at *
 have hobs1l:obs1.length=ac.length+1:=by rw [<-I,nU];simp
 have hk1:iR m obs1=true:=by rw [<-I];exact hk l R
 have hltk:∀ k∈m,k<obs1.length:=λ k hk=>by
  have:=Ct.1 hlt k hk;have:k<aM ac:=by simpa [Jq] using this
  rw [bG] at this;omega
 obtain ⟨hwk,hdead⟩:=FL m obs1 hltk;have mC:=m1.weak hwk;obtain ⟨c1,c2,c3⟩:=m1.cvt (n0:=0) hk1;have hfr1:∀ t,Rep M A (R.tmps.getD t undef) (aU fr t):=λ t=>by rw [htm];exact (hfr t).mono x1.imm x1.hs
 obtain ⟨bs,hbs,hpk⟩:=mC.pack (hx0.hs.trans x1.hs) hfr1;have hcl:(eS 0 A obs1 0 m).length=m.length:=oM;have hsl:(gF 0 m obs1).length=m.length:=nQ;have H:blk ([]++[dX bs])=bs:=by rw [oO,eB]
 obtain ⟨mI,aI⟩:=c1.snoc (c:=.bun 0 (jG n fr R (qJ m obs1))) (hs:=[]++[dX bs]) (λ ob _=>hpk ob []) (λ b G=>by
   rw [H] at G;obtain ⟨j,S⟩:=(hbs b).1 G
   exact mC.lt j b S) (λ j b F G=>by
   rw [H] at G;obtain ⟨i,hi⟩:=(hbs b).1 G;obtain ⟨k,e1,e2⟩:=c2 j b F;have:=m1.inj k i b e2 (hwk.alive hi);subst this;obtain ⟨c,_,q1,q2,_⟩:=hi;rw [hdead k (Av e1)] at q1;cases q1
   cases q2)
 -- the call
 have hev:=yG hfr x;rw [hx] at hev;obtain ⟨s,hax,hcl1,hcr⟩:∃ s:ba,a.eval x= .func (.func f) #[] s.toArray/\s.length=C.length/\∀ (i:Nat) v y,s[i]? =some v->C[i]? =some y->Rep M ob v y:=by
  generalize a.eval x=va at hev;cases hev with
  | func _ vfs vcs _ _ hl1 hl2 hr1 hr2=>
   have:vfs=[]:=Ay o_;subst this;exact ⟨vcs,rfl,hl2,hr2⟩
 have hargs:bX M (eS 0 A obs1 0 m++[[]++[dX bs]]) (.func (.yield l) #[] #[]::s) (.func (.yield l) [] []::dO (cvtV 0 m (aB obs1) 5) C):=by
  have hle:cV (eS 0 A obs1 0 m) (eS 0 A obs1 0 m++[[]++[dX bs]]):=λ j l S=>⟨l,by rw [Af (Ac.1 S).1];exact S,Cl _⟩
  have h2:bX M (eS 0 A obs1 0 m) s (dO (cvtV 0 m (aB obs1) 5) C):=bV (λ v a hva=>m1.cvtV (n0:=0) hk1 5 v a (hva.mono x1.imm x1.hs)) hcl1 hcr;refine bX.cons (.func (.yield l) [] [] [] [] rfl rfl (λ i v a h=>by simp at h) (λ i v a h=>by simp at h)) ⟨h2.1,λ i v a hv F=>(h2.2 i v a hv F).mono (λ_ _ _ h=>h) hle⟩
 have hrun:=hcall M _ D _ mI hargs;have T:Calls E.P f (Value.func (.yield l) #[] #[]::s).toArray D λ e w'=>∃ M' ob',Ext M (eS 0 A obs1 0 m++[[]++[dX bs]]) (gF 0 m obs1++[.bun 0 (jG n fr R (qJ m obs1))]) D M' ob' (z++[.bun gg (jG n fr R L')]) w'/\Mem M' ob' (z++[.bun gg (jG n fr R L')]) w'/\sC M' ob' e (.ret r):=by
  rcases hrun with ⟨_,q⟩ | ⟨u,w',q,_⟩
  .exact q
  .rw [hbo] at q;cases q
 have hent:(Instr.enterLoop fid a.tmps #[p] as bd none).run E.P w= .ok (l,[{target:=.collected w.heap.size,args:= #[]}]) D:=by rw [hl,U,hR];exact run_enterLoop_outer ..
 refine ⟨l,[{target:=.collected w.heap.size,args:= #[]}],D,{target:=.fn (.func f) s.toArray,args:= #[.func (.yield l) #[] #[]]},f,_,hent,?_,?_,T.mono λ e w3 ⟨M',obI,Z,y2,y3⟩=>?_⟩
 .have:resolve a.eval (rangeCall x l) 0=Deferred.ofValue (a.eval x) #[.func (.yield l) #[] #[]]:=by simp [resolve,rangeCall,Act.eval]
  rw [this,hax];rfl
 .show (callFunc f (#[Value.func (.yield l) #[] #[]]++s.toArray)).run E.P D=_;rw [hbo];simp
 -- fL the call
 obtain ⟨v,rfl⟩:∃ v,e= .returned v:=by
  cases e with
  | returned v=>simp
  | panicked ch=>exact y3.elim
  | outgrown=>exact y3.elim
 refine ⟨v,rfl,?_⟩;have hbk:(z++[ab.bun gg (jG n fr R L')])[z.length]? =some (.bun gg (jG n fr R L')):=by simp
 obtain ⟨hs',W,hh',hl',hle',mC',hal',hfr'⟩:=y2.unpack hbk;have J:=bD hLk s_;have hkl:aM ac=ac.length:=bG ac;obtain ⟨_,_,_,_,_,N⟩:=mC'.recAt J
 -- the client's memory,from the statement on
 have inI:∀ {k b},aG (eS 0 A obs1 0 m++[[]++[dX bs]]) (gF 0 m obs1++[.bun 0 (jG n fr R (qJ m obs1))]) k b->∃ k',aG A obs1 k' b:=λ{k b} F=>by
  rcases aI k b F with ⟨_,h⟩ | ⟨_,h⟩
  .obtain ⟨k',_,h⟩:=c2 k b h;exact ⟨k',h⟩
  .rw [H] at h;obtain ⟨j,S⟩:=(hbs b).1 h;exact ⟨j,hwk.alive S⟩
 have xnew:∀ b o y,M' b o y->M b o y\/D.heap.size<=b\/∃ k,aG A obs1 k b:=λ b o y hy=>by
  rcases Z.new b o y hy with q | q | ⟨k,q⟩
  .exact .inl q
  .omega
  .exact .inr (.inr (inI q))
 have Q:∀ b,b<D.heap.size->(∀ k,¬ aG A obs1 k b)->w3.heap[b]? =D.heap[b]?:=λ b G hn=>Z.keep b G λ k F=>by obtain ⟨k',hk'⟩:=inI F;exact hn k' hk'
 have V:∀ k b,aG W L' k b->(∃ k',aG A obs1 k' b)\/D.heap.size<=b:=λ k b F=>by
  have G:b∈blk hs':=(hal' b).2 ⟨k,F⟩
  have:aG obI (z++[ab.bun gg (jG n fr R L')]) z.length b:=⟨_,hs',hbk,rfl,hh',G⟩
  rcases Z.fresh _ b this with ⟨k',q⟩ | q
  .exact .inl (inI q)
  omega
 have B:=hx0.trans x1
 -- from the function's start to here
 have X:Ext M0 n ap w0 M' W L' w3:=⟨λ b o y h=>Z.imm _ _ _ (B.imm _ _ _ h),λ b o y hy=>by
   rcases xnew b o y hy with h1 | h1 | ⟨i,hi⟩
   .exact B.new b o y h1
   .exact .inr (.inl (Cx B.size h1))
   .rcases B.fresh i b hi with h2 | h2
    .exact .inr (.inr h2)
    omega,hle',Z.os.trans B.os,Z.tape.trans B.tape,Z.output.trans B.output,Cx B.size Z.size,λ b G ho=>by
   rw [<-B.keep b G ho];refine Q b (Em G B.size) λ i hi=>?_;rcases B.fresh i b hi with ⟨j,S⟩ | h2
   .exact ho j S
   .omega,λ i b hi=>by
   rcases V i b hi with ⟨j,S⟩ | h1
   .exact B.fresh j b S
   .exact .inr (Cx B.size h1)⟩
 have hnb:(lI R b).state≠ .busy:=by
  unfold lI;cases b with
  | true=>rw [if_pos rfl,L.ready];simp
  | false=>simp
 have hend:=run_endLoop (P:=E.P) N hnb;obtain ⟨t1,t2⟩:=mC'.recTurn J {lI R b with state:=.exhausted};obtain ⟨d1,d2⟩:=t1.drop (aM ac);have hfin:bJ L' (aM ac) .dead=(L'.set (aM ac) (.bun 0 (bY l {lI R b with state:=.exhausted}))).set (aM ac) .dead:=by rw [aL J,List.set_set]
 rw [<-hfin] at d1 d2;have X2:Ext M0 n ap w0 M' W (bJ L' (aM ac) .dead) (w3.putObj l (.loop {lI R b with state:=.exhausted})):=by have:=X.trans t2;exact ⟨this.imm,this.new,this.hs,this.os,this.tape,this.output,this.size,this.keep,λ k b F=>this.fresh k b (d2 F)⟩
 refine ⟨(lI R b).pending,_,hend,?_⟩;obtain ⟨hto⟩:=hto;have hds0:=Y;rw [hdf] at Y
 -- the marks
 have hw1d:D.heap[w.heap.size]? =some (.deferred (some [])):=by rw [U,heap_alloc_old _ _ s_];exact heap_alloc_new w _
 have K:∀ c:Nat,D.heap[c]? =some (Obj.deferred (some []))->(w3.putObj l (.loop {lI R b with state:=.exhausted})).heap[c]? =some (Obj.deferred (some [])):=λ c O=>by
  have h3:w3.heap[c]? =some (Obj.deferred (some [])):=by
   rw [Q c (fA O) λ k F=>by
    obtain ⟨o,q1,q2⟩:=m1.alive_heap F;rw [O] at q1;cases q1
    cases q2]
   exact O
  rw [Gg λ e=>by subst e;rw [N] at h3;cases h3];exact h3
 have hmk:Mks w0 (w3.putObj l (.loop {lI R b with state:=.exhausted})) ({target:=.collected w.heap.size,args:= #[]}::a.defers):=by
  refine ⟨⟨w.heap.size,rfl,hx0.size,K _ hw1d,λ d hd e=>?_⟩,Y.marks.same λ d _ c _ O=>K c ?_⟩
  .have:∀ {ds:List Deferred},Mks w0 w ds->∀ d∈ds,∀ c,d.target= .collected c->c<w.heap.size:=by
    intro ds;induction ds with
    | nil=>simp
    | cons d0 ds ih=>
     rintro ⟨⟨b0,q1,q2,q3,q4⟩,q5⟩ d hd c O;rcases Bc.1 hd with rfl | hd
     .rw [q1] at O;cases O;exact fA q3
     .exact ih q5 d hd c O
   have:=this Y.marks d hd _ e;omega
  .rw [U,heap_alloc_old _ _ (by rw [uQ];have:=fA O;omega),heap_alloc_old _ _ (fA O)];exact O
 have hss:SS M0 n ap w0 fn.ntmps E.df fr (bJ L' (aM ac) .dead) {a with defers:=[{target:=.collected w.heap.size,args:= #[]}]++a.defers} (w3.putObj l (.loop {lI R b with state:=.exhausted})):=by
  refine ⟨M',W,X2,d1,λ t=>?_,hsz,?_,?_⟩
  .have:=hfr' t;rw [htm] at this;exact this
  .rw [hdf];exact ⟨[],_,rfl,.nil,hmk⟩
  .have h1:=X2.lens;have h2:=d1.len;omega
 have hok2:bA fn.ntmps (if b then ks else .code .ret::ks)=true:=by
  have:bA fn.ntmps ks=true:=by simp only [bA,Ad] at hok;exact hok.2
  cases b with
  | true=>exact this
  | false=>simpa [bA,KI.ok,cS] using this
 have key:=hto hok2 M0 n ap w0 _ _ hst hss;rw [hrd] at key;have hjump:((lI R b).pending.map KI.code).toList++ks=(if b then ks else .code .ret::ks):=by
  unfold lI;cases b with
  | true=>rw [if_pos rfl,L.pend];rfl
  | false=>rfl
 rw [hjump];exact key
def aGD(sz:Nat):aa->aa
 | .nilslice=>.slice sz [] .nil
 | v=>v
def M3(sz:Nat)(M:Imm)(ob:Hs)(v:Value)(a:aa)(h:Rep M ob v a):Rep M ob v (aGD sz a):=by
 unfold aGD;split
 .cases h;exact .slnil _ _ rfl
 .exact h
def To.beginC{E:Env}{fn:Func}{g:Goal}{st:bf}{fr:ar}{ac:au}(k i:Nat)(e:TypeId){T:TypeId}{cs:ax}{sz:Nat}(a:aB ac k= .cells T cs)(c:nth cs i=some (.slice sz [] .nil))
  (h:To E fn g (.code st fr (kM (bJ ac k (.cells T (LN cs i (.slice sz [] (.own (aM ac) 0))))) (.tail 0 sz e)))):To E fn g (.code st fr ac):=by
 have b:To E fn g (.head st fr (kM (bJ ac k (.cells T (LN cs i (.slice sz [] (.own (aM ac) 0))))) (.tail 0 sz e))):=h.rec λ h=>.mk h;exact (To.begin k i e a c b).rec λ h=>.mk h
abbrev Hm:=Option Addr×Nat×ax
def hmV(m:Hm):Value:=.slice m.1 m.2.2.length m.2.1
def hmA(m:Hm):aa:=.hsl m.1 m.2.2.length m.2.1
def aKT(M:Imm)(ob:Hs)(m:Hm):Rep M ob (hmV m) (hmA m):=.hsl _ _ _
def mF(sz:Nat)(e:TypeId)(ms:List Hm):BInv where
 inv M bs w:=(∀ (i:Nat) m,ms[i]? =some m->dM M w (hmV m) sz e m.2.2)/\(∀ (i j:Nat) m m' b,ms[i]? =some m->ms[j]? =some m'->(hmV m).ownBlock=some b->(hmV m').ownBlock=some b->i=j)/\
  ∀ b,b∈bs↔ ∃ (i:Nat) (m:Hm),ms[i]? =some m/\(hmV m).ownBlock=some b
 mono:=λ hM hn hb ⟨h1,h2,h3⟩=>⟨λ i m hm=>(h1 i m hm).mono hM (λ b e ho o=>hn b ((h3 b).2 ⟨i,m,hm,e⟩) o (ho o)) (λ b c e=>hb b c ((h3 b).2 ⟨i,m,hm,e⟩)),h2,h3⟩
section
variable {M:Imm} {ob:Hs} {ac:au} {w:World}
def dM.blockAt{v:Value}{sz:Nat}{e:TypeId}{xs:ax}(h:dM M w v sz e xs){b:Nat}(a:v.ownBlock=some b):∃ o,w.heap[b]? =some o/\DI o=false:=by
 obtain ⟨cv,⟨_,c⟩,_⟩:=h;rcases c with ⟨rfl,_⟩ | ⟨g,cap,f,d,_,i,_⟩
 .cases a
 .rw [d] at a;cases a;exact ⟨_,i,rfl⟩
def dM.nil(sz:Nat)(e:TypeId):dM M w (.slice none 0 0) sz e []:=
 ⟨[],Gy w 0 e sz,λ u h=>by simp at h,λ u h=>by simp at h,λ q c h=>by simp [cellAt] at h,λ b h=>(by cases h),CT w⟩
def dM.append{P:Program}(hm:Mem M ob ac w){t H ty e:TypeId}{i:TypeInfo}{z:Value}(W:P.underlying t=some (.slice e))(O:P.info? e=some i)(hz:i.zero=some z)(hz1:z.cells.toList.all (·.oneCell')=true)
  (D:z.cells.size=i.size) (h:0<i.size) {xs ys:ax} {v x:Value} (n:dM M w v i.size e xs) (hs:SrcA P M w i.size H x ys)
  (G:xs.length+ys.length<=maxLen) (g:(xs.length+ys.length)*i.bytes<=140737488355328):
  ∃ m w',(Cm #[t,H] ty #[v,x]).run P w= .ok m w'/\dM M w' m i.size e (xs++ys)/\w'.os=w.os/\w'.tape=w.tape/\w'.output=w.output/\w.heap.size<=w'.heap.size/\
   (∀ b,m.ownBlock=some b->v.ownBlock=some b\/w.heap.size<=b)/\∀ b,b<w.heap.size->v.ownBlock≠some b->w'.heap[b]? =w.heap[b]?:=by
 obtain ⟨cv,B,K,L,U,V,N⟩:=n;obtain ⟨⟨news,J,T⟩,R⟩:=hs;obtain ⟨m,w',Q,F,I,l,r,k,d,j⟩:=iI (P:=P) w t H ty e i z W O hz hz1 D v xs.length cv B K x ys.length news J G g;have a:∀ b,m.ownBlock=some b->v.ownBlock=some b\/w.heap.size<=b:=λ b A=>by
  rcases d with ⟨q,_⟩ | ⟨q,_⟩
  .exact .inl (q▸A)
  .rw [q] at A;cases A;omega
 refine ⟨m,w',Q,⟨cv++news,by simp;omega,λ u s=>?_,λ y p=>?_,λ q c C=>?_,λ b A o=>?_,j N⟩,I,l,r,k,a,λ b f S=>?_⟩
 .rcases Az.1 s with s | s
  .exact K u s
  .exact J.one u s
 .rcases Az.1 p with p | p
  .exact L y p
  .exact R y p
 .by_cases f:q<xs.length*i.size
  .rw [cK h f] at C;rw [Af (by rw [B.1];exact f)];exact U q c C
  .rw [cD h o_] at C;rw [Ak (by rw [B.1];omega),B.1];exact T _ c C
 .rcases a b A with q | q
  .exact V b q o
  .exact hm.noImm q o
 .rcases d with ⟨_,q⟩ | ⟨_,q⟩
  .exact q b S
  .exact q b f
def dM.hm{v:Value}{sz:Nat}{e:TypeId}{xs:ax}(h:dM M w v sz e xs):∃ a c,v=hmV (a,c,xs):=by
 obtain ⟨cv,d,_⟩:=h;rcases dJ d with ⟨q,f⟩ | ⟨b,cap,q,_⟩
 .exact ⟨none,0,by rw [q,hmV];grind⟩
 .exact ⟨_,cap,q⟩
def Mem.famAppend{P:Program}(h:Mem M ob ac w){t tx ty e:TypeId}{i:TypeInfo}{z:Value}(ht:P.underlying t=some (.slice e))(hi:P.info? e=some i)(hz:i.zero=some z)(hz1:z.cells.toList.all (·.oneCell')=true)
  (hzs:z.cells.size=i.size) (V:0<i.size) {k g j:Nat} {s:List Hm} {m:Hm} {ys:ax} (hx:ac[k]? =some (.bun g (mF i.size e s))) (H:s[j]? =some m) {x:Value} (hs:SrcA P M w i.size tx x ys)
  (h63:m.2.2.length+ys.length<=maxLen) (D:(m.2.2.length+ys.length)*i.bytes<=140737488355328):
  ∃ a c w' ob',(Cm #[t,tx] ty #[hmV m,x]).run P w= .ok (hmV (a,c,m.2.2++ys)) w'/\Mem M ob' (ac.set k (.bun (g+1) (mF i.size e (s.set j (a,c,m.2.2++ys))))) w'/\
   Ext M ob ac w M ob' (ac.set k (.bun (g+1) (mF i.size e (s.set j (a,c,m.2.2++ys))))) w':=by
 obtain ⟨U,hh,hl,bs,hv,hd,h1,Z,h3⟩:=h.obj k _ hx;have v:blk U=bs:=(dZ hl hv).trans (eB _);obtain ⟨v',w',hr,I,hos,K,S,O,l,n⟩:=dM.append (P:=P) (ty:=ty) h ht hi hz hz1 hzs V (h1 j m H) hs h63 D;obtain ⟨a,c,rfl⟩:=I.hm;have hjl:j<s.length:=(Ac.1 H).1;have get:∀ {q:Nat} {f:Hm},(s.set j (a,c,m.2.2++ys))[q]? =some f->(q=j/\f=(a,c,m.2.2++ys))\/(q≠j/\s[q]? =some f):=λ{q f} d=>by
  by_cases N:q=j
  .subst N;rw [Aq hjl] at d;cases d;simp
  .rw [Ax (Ej N)] at d;exact .inr ⟨N,d⟩
 have r:∀ {q:Nat} {f:Hm} {b:Nat},s[q]? =some f->(hmV f).ownBlock=some b->b∈bs/\b<w.heap.size:=λ{q f b} d v=>by have:=(h3 b).2 ⟨q,f,d,v⟩;obtain ⟨o,ho,_⟩:=hd b this;exact ⟨this,fA ho⟩
 have A:∀ (q:Nat) f,(s.set j (a,c,m.2.2++ys))[q]? =some f->dM M w' (hmV f) i.size e f.2.2:=λ q f d=>by
  rcases get d with ⟨_,rfl⟩ | ⟨hne,d⟩
  .exact I
  .refine (h1 q f d).mono (λ_ _ _ h=>h) (λ_ _ h=>h) λ b c' v hc=>?_;rw [n b (r d v).2 λ e=>hne (Z q j f m b d H v e)];exact hc
 let F:=(s.set j (a,c,m.2.2++ys)).filterMap λ m=>(hmV m).ownBlock
 have C:∀ b,b∈F↔ ∃ (i:Nat) (f:Hm),(s.set j (a,c,m.2.2++ys))[i]? =some f/\(hmV f).ownBlock=some b:=λ b=>by
  simp only [F,List.mem_filterMap];constructor
  .rintro ⟨f,R,Q⟩;obtain ⟨q,d⟩:=Cq R;exact ⟨q,f,d,Q⟩
  .rintro ⟨q,f,R,Q⟩;exact ⟨f,Av R,Q⟩
 have hno:∀ {b o y},M b o y->(hmV m).ownBlock≠some b:=λ{b o y} W e=>by obtain ⟨_,_,_,_,_,o5,_⟩:=h1 j m H;exact o5 b e o y W
 have G:=h.turn (M':=M) (w':=w') (x':=.bun (g+1) (mF i.size e (s.set j (a,c,m.2.2++ys)))) (hs':=U++[dX F]) hx hh ⟨_,rfl⟩ (λ e=>by cases e) (λ_ _ _ h=>h) (λ_ _ _ h=>.inl h) (λ b o y W=>by
   obtain ⟨u,hu,R,Q⟩:=h.imm b o y W;have L:b<w.heap.size:=by simpa using Cp w _ hu
   exact ⟨u,(Co (w:=w) (a:=⟨b,o,none⟩) (n b L (hno W))).trans hu,R,Q⟩)
  (λ b L hn=>n b L λ e=>hn ⟨rfl,by rw [v];exact (r H e).1⟩) hos K S O
  (λ_=>⟨by simp [hl],F,by rw [<-hl];simp,λ b v=>by
   obtain ⟨q,f,d,v⟩:=(C b).1 v
   exact (A q f d).blockAt v,A,λ q q' m1 m2 b d B Y X=>by
   rcases get d with ⟨r1,rfl⟩ | ⟨r1,d⟩<;>rcases get B with ⟨r2,rfl⟩ | ⟨r2,B⟩
   .rw [r1,r2]
   .rcases l b Y with p | p
    .exact absurd (Z j q' m m2 b H B p X) (λ e=>r2 e.symm)
    .have:=(r B X).2;omega
   .rcases l b X with p | p
    .exact absurd (Z q j m1 m b d H Y p) r1
    .have:=(r d Y).2;omega
   .exact Z q q' m1 m2 b d B Y X,C⟩)
  (λ_ b T=>by
   rw [oO,eB] at T;obtain ⟨q,f,d,J⟩:=(C b).1 T;refine ⟨?_,by obtain ⟨o,ho,_⟩:=(A q f d).blockAt J;exact fA ho⟩;rw [v];rcases get d with ⟨_,rfl⟩ | ⟨_,d⟩
   .rcases l b J with p | p
    .exact .inl ⟨rfl,(r H p).1⟩
    omega
   .exact .inl ⟨rfl,(r d J).1⟩)
 exact ⟨a,c,w',_,hr,G.1,G.2.1⟩
end
section
variable {E:Env} {fn:Func} {g:Goal}
inductive HandA(E:Env)(fn:Func)(g:Goal)(all:bc)(tab:az)(ks:bf)(n:Nat)(d:Option Nat)(s x:Operand)(t t2:TypeId)(l2:bc)(fr:ar)(ac:au):Prop
 | mk (k gg j:Nat) (ms:List Hm) (m:Hm) (ys:ax) (e esz eb sz:Nat) (ag:Bool) (z:aa) (hk:aB ac k= .bun gg (mF esz e ms)) (hj:ms[j]? =some m) (hs:ev fr s=hmA m) (hT:cU E.T t=some {kind:=.slc e esz eb,size:=sz,agg:=ag,zero:=z})
   (hp:Fp 1 esz=true) (hx:aAZ E (aB ac) esz t2 (ev fr x)=some ys) (hf:AO (m.2.2.length+ys.length) eb)
   (h:∀ a c,To E fn g (.mid ⟨all,false,tab,ks⟩ (n+1) l2 [] (jW fr d (hmA (a,c,m.2.2++ys))) (bJ ac k (.bun (gg+1) (mF esz e (ms.set j (a,c,m.2.2++ys)))))))
def VE{M:Imm}{ob:Hs}{v:Value}{m:Hm}(h:Rep M ob v (hmA m)):v=hmV m:=by cases h;rfl
def pS{rd:Option Nat}{ops:Array Oper}{M0:Imm}{ob0:Hs}{ap:au}{w0:World}{sz:Nat}{dfs:List (Nat×ax)}{Q:Exit->Act->World->Prop}{K:ar->au->Prop}{Kp:(Nat->aa)->aa->au->Prop}{rest:bc}
  (hE:ae E) (hp:∀ g v ac c a w,Kp g v ac->PP M0 ob0 ap w0 sz dfs g v ac c a w->Q (.panic c) a w) (j:∀ fr ac a w,K fr ac->SS M0 ob0 ap w0 sz dfs fr ac a w->wpListIn (fen rd) 0 E.P ops Q rest a w):
  ∀ (l:bc) (n:Nat) (fr:ar) (ac:au) (a:Act) (w:World),(∀ p∈l,∀ d,p.dst=some d->d<sz)->dL E ops.toList K Kp n l fr ac->SS M0 ob0 ap w0 sz dfs fr ac a w->wpListIn (fen rd) 0 E.P ops Q (l++rest) a w
 | [],n,fr,ac,a,w,_,h,hs=>j fr ac a w h hs
 | p::l,n,fr,ac,a,w,hd,h,hs=>by
  refine wk (LO (K:=λ fr ac=>dL E ops.toList K Kp (n+1) l fr ac) (Kp:=Kp) (hint:=fX E p.dst) hE hs (hd p s_) ?_ λ v ac c w i e=>hp (aU fr) v ac c a w i e) λ m w' ⟨f,ao,i,hs'⟩=>pS hE hp j l (n+1) f ao m w' (λ p hp=>hd p (by simp [hp])) i hs';simp only [dL] at h;cases k:bQ ops.toList (ev fr) p.guard with
  | none=>rw [k] at h;exact h.elim
  | some b=>
   rw [k] at h;cases b with
   | false=>exact h
   | true=>
    exact lK (λ v o h=>uX h) h
def IS{P:Program}{s x:Operand}{t b:TypeId}{p:Oper}(hp:p.op= .call {callee:=.builtin .append,args:= #[s,x],argTypes:= #[t,b]}){ρ:Operand->Value}{w w':World}{v:Value}
  (h:(Cm #[t,b] p.type #[ρ s,ρ x]).run P w= .ok v w'):(execOp ρ p).run P w= .ok (.value v) w':=by
 obtain ⟨d,op,ty,pos,a,c⟩:=p;dsimp only at hp;subst hp;simp [execOp,resolve,invoke,builtin,h]
def To.handA(hE:ae E){id:Nat}{ops:Array Oper}{tab:az}{ks:bf}{fr:ar}{ac:au}{l1 l2:bc}{p:Oper}{s x:Operand}{t X:TypeId}(b:ops.toList=l1++p::l2)
  (hp:p.op= .call {callee:=.builtin .append,args:= #[s,x],argTypes:= #[t,X]}) (hg:p.guard=none)
  (h:dL E ops.toList (HandA E fn g ops.toList tab ks l1.length p.dst s x t X l2) (iG E fn g) 0 l1 fr ac):To E fn g (.code (.code (.region id ops false)::ks) fr ac):=
 .mk λ ho M0 ob0 ap w0 a w hst hs=>by
  simp only [bA,KI.ok,cS,Ad] at ho;obtain ⟨⟨R,ho2⟩,Y⟩:=ho;have hd:=kY R
  refine KW.code (Q':=QR E fn g M0 ob0 ap w0 ks) ?_ (λ a w h=>h) (λ f a w h=>h) (λ e a w hh=>by cases e<;>first | exact .inl rfl | exact .inr ⟨_,rfl⟩ | exact hh.elim)
  have l:∀ n v ac f a w,iG E fn g n v ac->PP M0 ob0 ap w0 fn.ntmps E.df n v ac f a w->kW E fn M0 ob0 ap w0 g (.panic f) a w:=λ n v ac f a w he l=>wL he hst l;have hq:∀ fr ac a w,dB E fn g ks fr ac->SS M0 ob0 ap w0 fn.ntmps E.df fr ac a w->KW E.rd E.P (kW E fn M0 ob0 ap w0 g) ks a w:=λ fr ac a w hk hs=>hk Y M0 ob0 ap w0 a w hst hs;refine wpIn_region_list ?_;have q:∀ fr ac a w,HandA E fn g ops.toList tab ks l1.length p.dst s x t X l2 fr ac->SS M0 ob0 ap w0 fn.ntmps E.df fr ac a w->wpListIn (fen E.rd) 0 E.P ops (QR E fn g M0 ob0 ap w0 ks) (p::l2) a w:=by
   rintro fr ac a w ⟨k,gg,j,ms,m,ys,e,esz,eb,sz,ag,z0,hk,hj,O,hT,d,S,hf,o⟩ hs;obtain ⟨M,ob,hx,hm,F,I,U,h0⟩:=hs;obtain ⟨⟨hu,i,z,hi,V,W,hz,L,hz1⟩,_⟩:=(hE.tab t _ hT).kind;subst V W;have d:=Ci d;have y:=yG (a:=a) F;have C:=P4 hE hm (y x) S d;have A:=bD hk s_;have J:a.eval s=hmV m:=by have:=y s;rw [O] at this;exact VE this
   obtain ⟨D,B,w',ob',r,m1,H⟩:=hm.famAppend (P:=E.P) (ty:=p.type) hu hi hz hz1 L d A hj C hf.1 hf.2;have T:nO E.P p a.eval w (λ e Z=>e= .returned (hmV (D,B,m.2.2++ys))/\Z=w'):=.inl ⟨_,_,IS hp (by rw [J];exact r),rfl,rfl⟩;refine wk (next:=λ a w=>SS M0 ob0 ap w0 fn.ntmps E.df (jW fr p.dst (hmA (D,B,m.2.2++ys))) (bJ ac k (.bun (gg+1) (mF i.size e (ms.set j (D,B,m.2.2++ys))))) a w) ?_ λ a w hs=>?_
   .unfold G;rw [if_pos (by simp [Gq,hg])];refine T.wpIn (by intro c;rw [hp];simp) (λ v Z ⟨N,e2⟩=>?_) (λ f Z ⟨N,_⟩=>by cases N);cases N;subst e2;rw [aL A];have:=H.lens;have:=m1.len;refine ⟨M,ob',hx.trans H,m1,?_,(cZ _ _ _).1.trans I,(U.ext hm H).put,by simp;omega⟩;rw [dR];exact kH (λ t=>(F t).mono H.imm H.hs) (aKT M ob' (D,B,m.2.2++ys)) λ d' e=>I▸hd p (by rw [b];simp) d' e
   .obtain ⟨o⟩:=o D B;exact mZ (rd:=E.rd) (Q:=QR E fn g M0 ob0 ap w0 ks) (K:=dB E fn g ks) (Kp:=iG E fn g) hE (λ n v ac f a w h1 u=>l n v ac f a w h1 u) (λ fr ac a w h1 u=>hq fr ac a w h1 u) l2 (l1.length+1) _ _ a w (λ p hp=>hd p (by rw [b];simp [hp])) o hs
  rw [b];exact pS (rd:=E.rd) (Q:=QR E fn g M0 ob0 ap w0 ks) (Kp:=iG E fn g) hE (λ n v ac f a w h1 u=>l n v ac f a w h1 u) q l1 0 fr ac a w (λ p hp=>hd p (by rw [b];simp [hp])) h hs
def To.objTo{st:bf}{fr:ar}{ac:au}(k:Nat){x x':ab}(A:aB ac k=x)(t:x≠ .dead)(l:x.owns=true)(u:∀ M ob w hs,(∀ b,b∈blk hs->b<w.heap.size)->gX M ob w hs x->gX M ob w hs x')
  (h:To E fn g (.code st fr (bJ ac k x'))):To E fn g (.code st fr ac):=
 .mk λ q M0 ob0 ap w0 a w hst hs=>by
  obtain ⟨M,ob,d,hm,r,v,z,B⟩:=hs;have e:=bD A t;refine h.rec λ h=>h q M0 ob0 ap w0 a w hst ?_;rw [aL e];have p:=(Ac.1 e).1;have m:∀ {i b},aG ob (ac.set k x') i b->aG ob ac i b:=λ{i b} ⟨c,hs,e1,e2,e3,e4⟩=>by
   by_cases f:i=k
   .subst f;exact ⟨x,hs,e,l,e3,e4⟩
   .rw [Ax (Ej f)] at e1;exact ⟨c,hs,e1,e2,e3,e4⟩
  refine ⟨M,ob,⟨d.imm,d.new,d.hs,d.os,d.tape,d.output,d.size,d.keep,λ i b s=>d.fresh i b (m s)⟩,⟨hm.imm,by simpa using hm.len,λ i c n=>?_,λ i b s=>hm.lt i b (m s),λ i j b h1 o=>hm.inj i j b (m h1) (m o)⟩,r,v,z,by simp;omega⟩;by_cases f:i=k
  .subst f;rw [Aq p] at n;cases n;obtain ⟨hs,h1,o⟩:=hm.obj i x e;exact ⟨hs,h1,u _ _ _ _ (λ b y=>hm.lt i b ⟨x,hs,e,l,h1,y⟩) o⟩
  .rw [Ax (Ej f)] at n;exact hm.obj i c n
def To.beginF{st:bf}{fr:ar}{ac:au}(sz:Nat)(e:TypeId)(h:To E fn g (.code st fr (kM ac (.bun 0 (mF sz e []))))):To E fn g (.code st fr ac):=
 .mk λ o M0 ob0 ap w0 a w hst hs=>by
  obtain ⟨M,ob,n,hm,p,v,y,A⟩:=hs;refine h.rec λ h=>h o M0 ob0 ap w0 a w hst ?_;rw [nU];have r:blk [dX []]=[]:=eB _;obtain ⟨u,z⟩:=hm.snoc (c:=.bun 0 (mF sz e [])) (hs:=[dX []]) (λ ob _=>⟨rfl,[],rfl,λ b r=>by simp at r,λ i m h=>by simp at h,λ i j m B b h=>by simp at h,λ b=>⟨λ h=>by simp at h,λ⟨i,m,h,_⟩=>by simp at h⟩⟩) (λ b h=>by simp_all) (λ k b _=>by simp_all)
  have d:cV ob (ob++[[dX []]]):=λ j l s=>⟨l,by rw [Af (Ac.1 s).1];exact s,Cl _⟩
  have f:Ext M ob ac w M (ob++[[dX []]]) (ac++[.bun 0 (mF sz e [])]) w:=⟨λ_ _ _ h=>h,λ_ _ _ h=>.inl h,d,rfl,rfl,rfl,Bf _,λ_ _ _=>rfl,λ k b x=>by
   rcases z k b x with ⟨_,q⟩ | ⟨_,q⟩
   .exact .inl ⟨k,q⟩
   .rw [r] at q;simp at q⟩
  exact ⟨M,_,n.trans f,u,λ t=>(p t).mono (λ_ _ _ h=>h) d,v,y.ext hm f,by simp;omega⟩
def aHz{M:Imm}{ob:Hs}{w:World}{hs:ba}{gg sz:Nat}{e:TypeId}{d:List Hm}(h:gX M ob w hs (.bun gg (mF sz e d))):gX M ob w hs (.bun gg (mF sz e (d++[(none,0,[])]))):=by
 obtain ⟨h1,bs,f,h3,o,n,k⟩:=h;have get:∀ {i:Nat} {m:Hm},(d++[((none,0,[]):Hm)])[i]? =some m->d[i]? =some m\/(i=d.length/\m=(none,0,[])):=λ{i m} a=>by
  by_cases hl:i<d.length
  .rw [Af hl] at a;exact .inl a
  .have f:i=d.length:=by have:=(Ac.1 a).1;simp at this;omega
   subst f;rw [Ak s_] at a;simp at a;exact .inr ⟨rfl,a.symm⟩
 refine ⟨h1,bs,f,h3,λ i m a=>?_,λ i j m q b a g c l=>?_,λ b=>⟨λ p=>?_,λ⟨i,m,a,c⟩=>?_⟩⟩
 .rcases get a with a | ⟨_,rfl⟩
  .exact o i m a
  .exact dM.nil sz e
 .rcases get a with a | ⟨_,rfl⟩
  .rcases get g with g | ⟨_,rfl⟩
   .exact n i j m q b a g c l
   .cases l
  .cases c
 .obtain ⟨i,m,a,c⟩:=(k b).1 p;exact ⟨i,m,by rw [Af (Ac.1 a).1];exact a,c⟩
 .rcases get a with a | ⟨_,rfl⟩
  .exact (k b).2 ⟨i,m,a,c⟩
  .cases c
def aFV{M:Imm}{ob:Hs}{w:World}{hs:ba}{gg:Nat}{e:TypeId}{d:List Hm}(h:gX M ob w hs (.row gg 1 e (d.map hmA++[.nilslice]))):gX M ob w hs (.row gg 1 e ((d++[(none,0,[])]).map hmA)):=by
 obtain ⟨h1,v,k,cv,p,s,t,g,o,i⟩:=h;refine ⟨h1,v,k,cv,by simpa using p,s,λ x b=>?_,λ q c n=>?_,o,i⟩
 .simp only [Bq] at b;obtain ⟨m,_,rfl⟩:=b;rfl
 .have one:∀ {l:ax} {q:Nat} {c:aa},(∀ x∈l,x.cells=[x])->(cellAt 1 l q=some c↔l[q]? =some c):=λ{l q c} hl=>by
   unfold cellAt;rw [Ig,Ix];cases f:l[q]? with
   | none=>simp
   | some x=>simp [hl x (Av f)]
  have a:=(one (λ x b=>by simp only [Bq] at b;obtain ⟨m,_,rfl⟩:=b;rfl)).1 n;rw [Bk] at a;by_cases hl:q<d.length
  .rw [Af q_] at a
   exact g q c ((one (λ x b=>by
    simp only [Az,Bq,Dh] at b
    rcases b with ⟨m,_,rfl⟩ | rfl<;>rfl)).2 (by rw [Af q_];exact a))
  .have f:q=d.length:=by have:=(Ac.1 a).1;simp at this;omega
   subst f;rw [Ak s_] at a;simp at a
   obtain ⟨u,r,j⟩:=g d.length .nilslice ((one (λ x b=>by
    simp only [Az,Bq,Dh] at b
    rcases b with ⟨m,_,rfl⟩ | rfl<;>rfl)).2 s_)
   refine ⟨u,r,?_⟩;subst a;cases j;exact .hsl _ _ _
end
section
variable {M:Imm} {ob:Hs} {ac:au} {w:World}
def Mem.famFreeze(h:Mem M ob ac w){k gg sz:Nat}{e:TypeId}{p:List Hm}(z:ac[k]? =some (.bun gg (mF sz e p))):
  ∃ M' ob',Mem M' ob' (ac.set k (.bun (gg+1) (mF sz e []))) w/\Ext M ob ac w M' ob' (ac.set k (.bun (gg+1) (mF sz e []))) w/\∀ (i:Nat) m,p[i]? =some m->Rep M' [] (hmV m) (.slice sz m.2.2 .no):=by
 obtain ⟨f,H,hl,bs,C,hd,h1,J,h3⟩:=h.obj k _ z;have s:blk f=bs:=(dZ hl C).trans (eB _)
 let M':Imm:=λ b o y=>M b o y\/∃ (i:Nat) (m:Hm),p[i]? =some m/\(hmV m).ownBlock=some b/\cellAt sz m.2.2 o=some y
 have r:∀ b o y,M b o y->M' b o y:=λ_ _ _ h=>.inl h
 have c:=h.turn (M':=M') (w':=w) (x':=.bun (gg+1) (mF sz e [])) (hs':=f++[dX []]) z H ⟨_,rfl⟩ (λ e=>by cases e) r (λ b o y a=>by
   rcases a with a | ⟨i,m,l,g,_⟩
   .exact .inl a
   .exact .inr (.inl ⟨rfl,by rw [s];exact (h3 b).2 ⟨i,m,l,g⟩⟩)) (λ b o y a=>by
   rcases a with a | ⟨i,m,l,g,q⟩
   .obtain ⟨u,G,I,D⟩:=h.imm b o y a;exact ⟨u,G,I,D.monoM r⟩
   .obtain ⟨cv,n,x,v,A,_⟩:=h1 i m l;obtain ⟨u,B,F⟩:=A o y q
    exact ⟨u,fH n g B,x u (Av B),F.monoM r⟩) (λ_ _ _=>rfl) rfl rfl rfl (Bf _)
  (λ_=>⟨by simp [hl],[],by rw [<-hl];simp,λ b s=>by simp at s,λ i m h=>by simp at h,λ i j m K b h=>by simp at h,λ b=>⟨λ h=>by simp at h,λ⟨i,m,h,_⟩=>by simp at h⟩⟩)
  (λ_ b d=>by
   rw [oO,eB] at d
   simp at d)
 refine ⟨M',_,c.1,c.2.1,λ i m hm=>?_⟩;obtain ⟨cv,n,x,v,A,_⟩:=h1 i m hm;exact (jT (M:=M) (ob:=[]) n v (t:=.no) trivial).monoM λ b o y a=>by
  rcases a with a | ⟨g,q⟩
  .exact .inl a
  .exact .inr ⟨i,m,hm,g,q⟩
def Mem.objTo(hm:Mem M ob ac w){k:Nat}{x x':ab}(a:ac[k]? =some x)(m:x.owns=true)(o:∀ hs,ob[k]? =some hs->gX M ob w hs x->gX M ob w hs x'):Mem M ob (ac.set k x') w/\Ext M ob ac w M ob (ac.set k x') w:=by
 have l:=(Ac.1 a).1;have e:∀ {i b},aG ob (ac.set k x') i b->aG ob ac i b:=λ{i b} ⟨c,hs,e1,e2,e3,e4⟩=>by
  by_cases d:i=k
  .subst d;exact ⟨x,hs,a,m,e3,e4⟩
  .rw [Ax (Ej d)] at e1;exact ⟨c,hs,e1,e2,e3,e4⟩
 refine ⟨⟨hm.imm,by simpa using hm.len,λ i c f=>?_,λ i b n=>hm.lt i b (e n),λ i j b h1 g=>hm.inj i j b (e h1) (e g)⟩,⟨λ_ _ _ h=>h,λ_ _ _ h=>.inl h,cV.refl _,rfl,rfl,rfl,Bf _,λ_ _ _=>rfl,λ i b n=>.inl ⟨i,e n⟩⟩⟩;by_cases d:i=k
 .subst d;rw [Aq l] at f;cases f;obtain ⟨hs,h1,g⟩:=hm.obj i x a;exact ⟨hs,h1,o _ h1 g⟩
 .rw [Ax (Ej d)] at f;exact hm.obj i c f
end
def ED{l:ax}{q:Nat}{c:aa}(hl:∀ x∈l,x.cells=[x]):cellAt 1 l q=some c↔l[q]? =some c:=by
 unfold cellAt;rw [Ig,Ix];cases a:l[q]? with
 | none=>simp
 | some x=>simp [hl x (Av a)]
def To.famFrz{E:Env}{fn:Func}{g:Goal}{st:bf}{fr:ar}{ac:au}(k p:Nat){gg o sz:Nat}{e r:TypeId}{n:List Hm}(U:aB ac k= .bun gg (mF sz e n))(y:aB ac p= .row o 1 r (n.map hmA))
  (h:To E fn g (.code st fr (bJ (bJ ac k (.bun (gg+1) (mF sz e []))) p (.row o 1 r (n.map λ m=>.slice sz m.2.2 .no))))):To E fn g (.code st fr ac):=
 .mk λ A M0 ob0 ap w0 a w hst hs=>by
  obtain ⟨M,ob,s,hm,B,O,Q,W⟩:=hs;have j:=bD U s_;have l:=bD y s_;have z:k≠p:=λ e=>by simp_all
  refine h.rec λ h=>h A M0 ob0 ap w0 a w hst ?_;rw [aL j];have d:(ac.set k (.bun (gg+1) (mF sz e [])))[p]? =some (.row o 1 r (n.map hmA)):=by rw [Ax z];exact l
  rw [aL d];obtain ⟨M',ob',I,R,N⟩:=hm.famFreeze j;obtain ⟨C,S⟩:=I.objTo (x':=.row o 1 r (n.map λ m=>.slice sz m.2.2 .no)) d rfl λ hs _ ⟨h1,v,H,cv,D,G,V,T,F,K⟩=>by
   refine ⟨h1,v,H,cv,by simpa using D,G,λ x b=>?_,λ q c L=>?_,F,K⟩
   .simp only [Bq] at b;obtain ⟨m,_,rfl⟩:=b;rfl
   .have f:=(ED (λ x b=>by simp only [Bq] at b;obtain ⟨m,_,rfl⟩:=b;rfl)).1 L;rw [Bh] at f;obtain ⟨m,i,rfl⟩:=Cb.1 f;obtain ⟨u,P,J⟩:=T q (hmA m) ((ED (λ x b=>by simp only [Bq] at b;obtain ⟨m,_,rfl⟩:=b;rfl)).2 (by rw [Bh,i];rfl));exact ⟨u,P,by rw [VE J];exact N q m i⟩
  have X:=R.trans S;have:=X.lens;have:=C.len;exact ⟨M',ob',s.trans X,C,λ t=>(B t).mono X.imm X.hs,O,Q.ext hm X,by simp;omega⟩
def To.handAt{E:Env}{fn:Func}{g:Goal}(hE:ae E)(n:Nat){id:Nat}{ops:Array Oper}(tab:az){ks:bf}{fr:ar}{ac:au}{p:Oper}{s x:Operand}{t b:TypeId}(c:ops.toList[n]? =some p)
  (hp:p.op= .call {callee:=.builtin .append,args:= #[s,x],argTypes:= #[t,b]}) (d:p.guard=none)
  (h:dL E ops.toList (HandA E fn g ops.toList tab ks n p.dst s x t b (ops.toList.drop (n+1))) (iG E fn g) 0 (ops.toList.take n) fr ac):To E fn g (.code (.code (.region id ops false)::ks) fr ac):=by
 have a:=(Ac.1 c).1;refine To.handA hE (tab:=tab) (l1:=ops.toList.take n) (l2:=ops.toList.drop (n+1)) (p:=p) ?_ hp d ?_
 .conv=>lhs;rw [<-Bp n ops.toList,Ag a]
  grind
 .rw [Dl,Gh (Nat.le_of_lt a)];exact h
def zL(r:Nat):Code->Option Code
 | .region id ops dr=>bif Aw id r then some (.region id ops dr) else none
 | .seq a b=>(match zL r a with | some x=>some x | none=>zL r b)
 | .cond _ a b=>(match zL r a with | some x=>some x | none=>zL r b)
 | .block _ b=>zL r b
 | .loop b=>zL r b
 | _=>none
def nD(fn:Func)(r:Nat):bf:=.code (match zL r (cH fn) with | some c=>c | none=>.skip)::fL fn r
def To.ofC{E:Env}{fn:Func}{g:Goal}{ks:bf}{fr:ar}{ac:au}(h:To E fn g (.code ks fr ac)):To E fn g (.head ks fr ac):=h.rec λ h=>.mk h
def To.toC{E:Env}{fn:Func}{g:Goal}{ks:bf}{fr:ar}{ac:au}(h:To E fn g (.head ks fr ac)):To E fn g (.code ks fr ac):=h.rec λ h=>.mk h
section
variable {E:Env} {all:bc} {tab:az} {L0:Nat}
end
section
variable {E:Env} {ops:Array Oper} {tab:az} {tl L0:Nat} {Kp:(Nat->aa)->aa->au->Prop} {Q:AS->Prop}
end
section
variable {E:Env} {ops:Array Oper} {tab:az} {tl L0:Nat} {Kp:(Nat->aa)->aa->au->Prop} {Kq:ar->au->Prop} {Q:AS->Prop}
end
section
variable {rd:Option Nat} {M0:Imm} {ob0:Hs} {ap:au} {w0:World} {sz:Nat} {dfs:List (Nat×ax)} {E:Env} {ops:Array Oper} {Q:Exit->Act->World->Prop} {K:AS->Prop} {Kp:(Nat->aa)->aa->au->Prop} {tl L0:Nat} {tab:az}
end
section
variable {E:Env} {ops:Array Oper} {tab:az} {tl L0:Nat} {Kp:(Nat->aa)->aa->au->Prop} {Kg:ar->au->Prop}
end
def YU(A tab:az)(n t:Nat):Nat->bc->Bool
 | _,[]=>false
 | i,p::r=>(match p.dst with | some d=>Aw d t&&(tF i A&& !cR (cY tab n) i) | none=>false)||YU A tab n t (i+1) r
def evP(A tab:az)(all:bc)(n:Nat)(fr:ar):Operand->aa
 | .tmp t=>bif YU A tab n t 0 all then .undef else aU fr t
 | x=>ev fr x
def E9(A:az)(t:Nat):Nat->bc->Bool
 | _,[]=>false
 | i,p::r=>(match p.dst with | some d=>Aw d t&&tF i A | none=>false)||E9 A t (i+1) r
def gP(A:az)(all:bc)(fr:ar):Nat->aa:=λ t=>bif E9 A t 0 all then .undef else aU fr t
def aCy(E:Env)(A tab:az)(all:bc)(fr:ar)(ac:au):az->Prop
 | []=>True
 | i::r=>(match nth all i with
   | some p=>(match p.guard with
    | none=>(match p.dst with
     | some d=>eop E (fX E p.dst) (aM ac) (aB ac) (evP A tab all i fr) p.op p.type= .val (aU fr d)
     | none=>False)
    | some _=>False)
   | none=>False)/\aCy E A tab all fr ac r
def tM(tab:az)(n:Nat):az->az
 | []=>[]
 | i::r=>bif cR (cY tab n) i then tM tab n r else i::tM tab n r
def aBN(fr:ar)(d:Option Nat)(v:aa)(k:ar->Prop):Prop:=
 match d with
 | none=>k fr
 | some d=>xR fr d v k
def MA(fr:ar)(d:Option Nat)(v:aa)(k:ar->Prop):aBN fr d v k=k (jW fr d v):=by
 cases d with
 | none=>rfl
 | some d=>exact kR fr d v k
def chB(tab:az):az->Bool
 | []=>true
 | n::r=>(r.all λ j=>cR (cY tab j) n)&&chB tab r
def aEa(A B:az):Nat->Bool
 | 0=>true
 | n+1=>(tF n A||tF n B)&&aEa A B n
def aCh(sz:Nat):az->Bool
 | []=>true
 | n::r=>(Ey n sz&& !tF n r)&&aCh sz r
def HS{A B:az}:∀ {n:Nat},aEa A B n=true->∀ i,i<n->i∈A\/i∈B
 | 0,_,i,hi=>by omega
 | n+1,h,i,hi=>by
  simp only [aEa,Ad,Ew,lN] at h;by_cases e:i=n
  .grind
  .exact HS h.2 i o_
def GA{sz:Nat}:∀ {l:az},aCh sz l=true->l.Nodup/\∀ i∈l,i<sz
 | [],_=>⟨Hj,λ i h=>by cases h⟩
 | n::r,h=>by
  simp only [aCh,Ad,Cw,Jq] at h;obtain ⟨h1,a⟩:=GA h.2;refine ⟨Bx.2 ⟨λ hm=>?_,h1⟩,λ i b=>?_⟩
  .have:=lN.2 hm
   grind
  grind
def GW{A tab:az}{n t:Nat}:∀ {l:bc} {k:Nat},YU A tab n t k l=false->∀ (i:Nat) p,l[i]? =some p->p.dst=some t->(k+i)∈A->cR (cY tab n) (k+i)=true
 | [],_,_,i,p,hi,_,_=>by simp at hi
 | q::r,k,h,i,p,hi,hd,ha=>by
  simp only [YU,Kf] at h;cases i with
  | zero=>
   simp at hi;subst hi;have h1:=h.1;rw [hd] at h1;dsimp only at h1;rw [Nd,Dc,show tF k A=true from lN.2 ha,Dc] at h1
   grind
  | succ i=>
   have:=GW (k:=k+1) h.2 i p (by simp_all) hd (by grind)
   grind
def yK{A:az}{t:Nat}:∀ {l:bc} {k:Nat},E9 A t k l=false->∀ (i:Nat) p,l[i]? =some p->(k+i)∈A->p.dst≠some t
 | [],_,_,i,p,hi,_=>by simp at hi
 | q::r,k,h,i,p,hi,ha=>by
  simp only [E9,Kf] at h;cases i with
  | zero=>
   simp at hi;subst hi;intro hd;have h1:=h.1;rw [hd] at h1;dsimp only at h1;rw [Nd,Dc] at h1;have:=lN.2 (show k∈A from ha)
   grind
  | succ i=>exact yK (k:=k+1) h.2 i p (by simp_all) (by grind)
def WK{A:az}{t:Nat}:∀ {l:bc} {k:Nat},E9 A t k l=true->∃ (i:Nat) (p:Oper),l[i]? =some p/\(k+i)∈A/\p.dst=some t
 | [],_,h=>by cases h
 | q::r,k,h=>by
  simp only [E9,Ew] at h;rcases h with h | h
  .split at h
   .rename_i d hd;rw [Ad,lN,Nat.beq_eq] at h;exact ⟨0,q,rfl,h.2,by rw [hd,h.1]⟩
   .cases h
  .obtain ⟨i,p,h1,a,h3⟩:=WK h;exact ⟨i+1,p,by simp_all,by grind,h3⟩
def HM{tab:az}{n i:Nat}:∀ {U:az},i∈U->cR (cY tab n) i=false->i∈tM tab n U
 | [],h,_=>by cases h
 | j::r,h,ht=>by
  unfold tM;rcases Bc.1 h with rfl | h
  .grind
  .have:=HM h ht
   grind
section
variable {rd:Option Nat} {M0:Imm} {ob0:Hs} {ap:au} {w0:World} {sz:Nat} {dfs:List (Nat×ax)} {E:Env} {ops:Array Oper} {Q:Exit->Act->World->Prop} {K:ar->au->Prop} {Kp:(Nat->aa)->aa->au->Prop} {A tab:az}
def SM(M0:Imm)(ob0:Hs)(ap:au)(w0:World)(sz:Nat)(dfs:List (Nat×ax))(ops:Array Oper)(b:az)(fr:ar)(ac:au)(a:Act)(w:World):Prop:=
 ∃ M ob,Ext M0 ob0 ap w0 M ob ac w/\Mem M ob ac w/\(∀ t,(∀ i∈b,∀ p,ops[i]? =some p->p.dst≠some t)->Rep M ob (a.tmps.getD t undef) (aU fr t))/\a.tmps.size=sz/\cM w0 w M ob a.defers dfs/\ob0.length<=ac.length
def K4{a:Array Bool}{j:Nat}(h:j∈Dx .any ops a)(e:a.size=ops.size):j<ops.size/\a.getD j false=false:=by obtain ⟨c,q,d,_⟩:=mem_ready.1 h;have b:=(Ep.1 d).1;rw [Cj,Ik o_] at c⊢;exact ⟨b,by simpa using c⟩
def tZ(c:TabSp ops tab){a:Array Bool}(b:a.size=ops.size):∀ (n j:Nat),j<n->j<ops.size->a.getD j false=false->Dx .any ops a≠[]
 | 0,j,h,_,_=>by omega
 | n+1,j,h,hj,hl=>λ k=>by
  obtain ⟨p,hp⟩:∃ p,ops[j]? =some p:=⟨ops[j],Ik hj⟩
  have:j∈Dx .any ops a:=mem_ready.2 ⟨by
   grind,p,hp,λ e i f=>by
    have g:=c.back j p hp e i f;cases d:a.getD e.on false with
    | true=>rfl
    | false=>exact absurd k (tZ c b n e.on o_ o_ d)⟩
  grind
end
def aY{p q:Prop}(h:p):(true=true->p)/\(true=false->q):=⟨λ_=>h,λ h=>absurd h d_⟩
def aN{p q:Prop}(h:q):(false=true->p)/\(false=false->q):=⟨λ h=>absurd h d_,λ_=>h⟩
def aT{a p q:Prop}[Decidable a](h:decide a=true->p)(b:a:=by omega):(decide a=true->p)/\(decide a=false->q):=⟨h,λ h=>absurd b (of_decide_eq_false h)⟩
def aF{a p q:Prop}[Decidable a](h:decide a=false->q)(b:¬ a:=by omega):(decide a=true->p)/\(decide a=false->q):=⟨λ h=>absurd (of_decide_eq_true h) b,h⟩
def aD{p q:Prop}(h:q)(hp:p:=by first | decide | omega):p/\q:=⟨hp,h⟩
def aJ{k:IntKind}{n:Int}{p q:Prop}(h:p)(h1:bW k<=n:=by simp only [bW];omega)(a:n<=aW k:=by simp only [aW];omega):(inR k n/\p)\/q:=.inl ⟨⟨h1,a⟩,h⟩
def gW{E:Env}{fn:Func}{g:Goal}{st:St}(hE:ae E)(h:bR E fn g (To E fn g) 100 st):To E fn g st:=cJ hE 100 h
def gN{E:Env}{fn:Func}{g:Goal}{st:St}(hE:ae E)(h:bR E fn g (To E fn g) 100 st)(hs:UR st=true:=by rfl):To E fn g st:=goN hE 100 hs h
def cT{E:Env}{f:FuncId}{fn:Func}{args:ax}{ac:au}{g:Goal}(h:okL args->To E fn g (.code [.code (cH fn)] (frA 0 args) ac))(c:E.df=[]:=by rfl)(i:E.P.funcs[f]? =some fn:=by rfl)(j:fn.body=some (cH fn):=by rfl)
  (d:kK E.P f:=by exact λ_ _=>by rfl) (a:cS fn.ntmps (cH fn)=true:=by decide+kernel) (k:Fp args.length fn.ntmps=true:=by rfl) (b:qV ac=true:=by rfl) (l:ac.length=g.n0:=by rfl) (e:E.rd=none:=by rfl):aA E.P f args ac g.res g.obs:=
 aA.to c i j d a k b l h e
def C2(z:aa):OR->Prop
 | .val v=>v=z
 | .need p r=>p/\C2 z r
 | .idx n f=>∃ i:Nat,n=(i:Int)/\C2 z (f i)
 | .elem xs i f=>∃ x,xs[i]? =some x/\C2 z (f x)
 | .find es key f=>C2 z (f (bB es key))
 | _=>False
def NE(k:aa->Prop):OR->Prop
 | .val v=>k v
 | .need p r=>p/\NE k r
 | .idx n f=>∃ i:Nat,n=(i:Int)/\NE k (f i)
 | .elem xs i f=>∃ x,xs[i]? =some x/\NE k (f x)
 | .find es key f=>∃ o,bB es key=o/\NE k (f o)
 | _=>False
def FK(E:Env)(A tab:az)(all:bc)(ac:au):az->ar->(ar->Prop)->Prop
 | [],fr,k=>k fr
 | i::r,fr,k=>match nth all i with
  | some p=>(match p.dst with
   | some d=>NE (λ v=>KD 5 v λ v=>xR fr d v λ fr=>FK E A tab all ac r fr k) (eop E (fX E p.dst) (aM ac) (aB ac) (evP A tab all i fr) p.op p.type)
   | none=>False)
  | none=>False
section
variable {rd:Option Nat} {M0:Imm} {ob0:Hs} {ap:au} {w0:World} {sz:Nat} {dfs:List (Nat×ax)} {E:Env} {ops:Array Oper} {Q:Exit->Act->World->Prop} {K:ar->au->Prop} {Kp:(Nat->aa)->aa->au->Prop} {A tab:az}
end
end Go.AW
