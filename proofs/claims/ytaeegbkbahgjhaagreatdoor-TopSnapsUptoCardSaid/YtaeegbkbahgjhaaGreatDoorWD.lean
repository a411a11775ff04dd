/- Part 4 of what the statement rests on. -/
import Derived.Test.YtaeegbkbahgjhaaGreatDoorWC
set_option linter.all false
open And renaming intro->Ac
open Array renaming getD_eq_getD_getElem?->Bk,getElem?_eq_getElem->Hb,getElem?_eq_none->Mj,getElem?_eq_some_iff->Ey,getElem?_setIfInBounds_ne->Ep,getElem?_setIfInBounds_self_of_lt->Ek,replicate->Fy
open Bool renaming and_eq_true->Ad,and_false->Es,and_true->Kc,not_eq_true'->Cw,or_eq_false_iff->Kj,or_eq_true->Fb,true_and->Cz
open Go.Builtin renaming append_->Co
open Go.Region renaming ready->Dy,wanted->Fe
open Go.Value renaming int->Ea
open Go.World renaming block_lt_of_cell?->Ct,cell?->Kk,cell?_of_block->Cs,ownsRow_nil->Hg,putObj_heap_other->Gq,putObj_heap_same->Mm
open List renaming all_eq_true->Cr,drop_eq_getElem_cons->Ae,eq_nil_iff_forall_not_mem->Ht,eq_nil_of_length_eq_zero->Az,getElem?_append_left->Ag,getElem?_append_right->Ak,getElem?_eq_some_iff->Ab,getElem?_map->Bg,getElem?_of_mem->Cu,getElem?_set_ne->Bb,getElem?_set_self->Au,length_erase_of_mem->Lv,length_pos_of_mem->Mn,length_take->Dn,map_append->Bm,mem_append->Ba,mem_append_left->Dc,mem_append_right->Cv,mem_cons->Aw,mem_cons_of_mem->Ay,mem_cons_self->Ao,mem_filter->Fc,mem_map->Ca,mem_of_getElem?->Av,mem_range->Ho,mem_singleton->Dj,nodup_append->Bt,nodup_cons->Cg,nodup_nil->Hq,not_mem_nil->Hk,prefix_refl->Cn,range->Di,replicate->Aj,take_append_drop->Bo,take_append_of_le_length->Db,take_of_length_le->Ch
open List.Sublist renaming refl->Jn
open Nat renaming beq->Ax,beq_refl->Nl,ble->Fv,blt->Ff,blt_eq->Ju,div_one->Il,le_of_ble_eq_true->Ck,le_refl->Bd,le_trans->Cx,lt_of_lt_of_le->Ew,min_eq_left->Gr,mod_one->Jc,zero_add->Bp
open Ne renaming symm->Ej
open Option renaming map_eq_some_iff->Cf
namespace Go.AW
open Go.RowKit
open Classical
def bY(l:Nat)(R:Loop):BInv where
 inv _ bs w:=bs=[l]/\w.heap[l]? =some (.loop R)
 mono:=λ_ _ hb ⟨h1,h2⟩=>⟨h1,hb _ _ (by rw [h1];simp) h2⟩
def eJ(bs:az):KU (eD bs)=bs:=BR (hs:=[eD bs]) rfl
def iL{hs:ba}{g:Nat}{I:BInv}{k b:Nat}:aG [hs] [.bun g I] k b↔k=0/\b∈blk hs:=by
 constructor
 .rintro ⟨c,hs',a,d,f,e⟩;cases k with
  | zero=>grind
  | succ k=>simp at a
 .rintro ⟨rfl,h⟩;exact ⟨_,hs,rfl,rfl,rfl,h⟩
section
variable {M:Imm} {ob:Hs} {ac:au} {w:World}
def Mem.recAt(h:Mem M ob ac w){k l g:Nat}{R:Loop}(c:ac[k]? =some (.bun g (bY l R))):∃ hs,ob[k]? =some hs/\hs.length=g+1/\hs[g]? =some (eD [l])/\blk hs=[l]/\w.heap[l]? =some (.loop R):=by obtain ⟨hs,d,hl,bs,a,e,rfl,b⟩:=h.obj k _ c;exact ⟨hs,d,hl,a,(eG hl a).trans (eJ _),b⟩
def Mem.recTurn(h:Mem M ob ac w){k l g:Nat}{R:Loop}(m:ac[k]? =some (.bun g (bY l R)))(d:Loop):
  Mem M ob (ac.set k (.bun g (bY l d))) (w.putObj l (.loop d))/\Ext M ob ac w M ob (ac.set k (.bun g (bY l d))) (w.putObj l (.loop d)):=by
 obtain ⟨hs,p,hl,r,n,q⟩:=h.recAt m;have f:=fE q
 have:=h.turn (M':=M) (w':=w.putObj l (.loop d)) (x':=.bun g (bY l d)) (hs':=hs) m p (Cn _) (λ e=>by cases e) (λ_ _ _ h=>h) (λ_ _ _ h=>.inl h) (λ c o y v=>by
   obtain ⟨u,i,x,z⟩:=h.imm c o y v;have j:c≠l:=λ e=>by subst e;unfold Kk at i;dsimp only at i;rw [q] at i;cases i
   exact ⟨u,(Cs (w:=w) (a:=⟨c,o,none⟩) (Gq j)).trans i,x,z⟩)
  (λ c _ s=>Gq λ e=>s ⟨rfl,by simp_all⟩) rfl rfl rfl s_ (λ_=>⟨hl,[l],r,λ b n=>by
   rw [Dj.1 n]
   exact ⟨_,Mm f,rfl⟩,rfl,Mm f⟩)
  (λ_ c t=>⟨.inl ⟨rfl,t⟩,by simp_all⟩)
 rw [fT p] at this
 grind
def Mem.drop(h:Mem M ob ac w)(k:Nat):Mem M ob (ac.set k .dead) w/\∀ {i b:Nat},aG ob (ac.set k .dead) i b->aG ob ac i b:=by
 have a:TL (ac.set k .dead) ac:=⟨by simp,λ i=>by
  by_cases c:i=k
  .subst c
   grind
  grind⟩
 exact ⟨h.weak a,λ d=>a.alive d⟩
end
section
variable {E:Env} {fn:Func} {g:Goal}
def To.beginR{l k gg:Nat}{R:Loop}{ks:bf}{fr:ar}{ac:au}(f:E.rd=some l)(p:aB ac k= .bun gg (bY l R))(v:R.state= .ready)
  (h:To E fn g (.code ks fr (bM ac k (.bun gg (bY l {R with state:=.busy}))))):To E fn g (.code (.beginR::ks) fr ac):=
 .mk λ j M0 ob0 ap w0 a w hst hs=>by obtain ⟨M,ob,s,hm,i,u,t,y⟩:=hs;have c:=bF p s_;obtain ⟨o,n⟩:=hm.recTurn c {R with state:=.busy};obtain ⟨_,_,_,_,_,d⟩:=hm.recAt c;rw [aP c] at h;have key:=(h.rec (motive:=λ_=>zD E fn g _) λ h=>h) (by simpa [bC,KI.ok] using j) M0 ob0 ap w0 a _ hst ⟨M,ob,s.trans n,o,i,u,t.ext hm n,by simp;omega⟩;intro b cs m;obtain ⟨e,x,w',q,r⟩:=key b cs m;exact ⟨e,x,w',q,.of_steps (.one (jL _ _ _) (stepR_beginRound (m.trans f) (run_beginRound d v))) r⟩
end
def jR(ob0:Hs)(fr:ar)(R:Loop)(L:au):BInv where
 inv M bs w:=∃ ob,dJ ob0 ob/\ob.length=L.length/\(∀ (k:Nat) c,L[k]? =some c->∃ hs,ob[k]? =some hs/\hD M ob w hs c)/\(∀ k k' b,aG ob L k b->aG ob L k' b->k=k')/\
  (∀ b,b∈bs↔ ∃ k,aG ob L k b)/\∀ t,Rep M ob (R.tmps.getD t undef) (aW fr t)
 mono:=λ hM hn hb ⟨ob,h1,h2,h3,h4,h5,h6⟩=>⟨ob,h1,h2,λ k c hc=>by
  obtain ⟨hs,hh,hok⟩:=h3 k c hc
  exact ⟨hs,hh,hok.mono hM (dJ.refl _) (λ b p1 p2=>hn b ((h5 b).2 ⟨k,(cO hc hh).2 ⟨p1,p2⟩⟩)) (λ b c' p1 p2=>hb b c' ((h5 b).2 ⟨k,(cO hc hh).2 ⟨p1,p2⟩⟩))⟩,h4,h5,λ t=>(h6 t).monoM hM⟩
def Mem.unpack{M:Imm}{ob:Hs}{ac:au}{w:World}{k g:Nat}{ob0:Hs}{fr:ar}{R:Loop}{L:au}(hm:Mem M ob ac w)(f:ac[k]? =some (.bun g (jR ob0 fr R L))):
  ∃ hs a,ob[k]? =some hs/\hs.length=g+1/\dJ ob0 a/\Mem M a L w/\(∀ b,b∈blk hs↔ ∃ k,aG a L k b)/\∀ t,Rep M a (R.tmps.getD t undef) (aW fr t):=by
 obtain ⟨hs,p,hl,bs,h,e,a,h1,d,h3,m,c,n⟩:=hm.obj k _ f;have l:blk hs=bs:=(eG hl h).trans (eJ _);refine ⟨hs,a,p,hl,h1,⟨hm.imm,d,h3,λ i b j=>?_,m⟩,λ b=>by rw [l];exact c b,n⟩;obtain ⟨o,q,_⟩:=e b ((c b).2 ⟨i,j⟩);exact fE q
def Mem.pack{M:Imm}{a:Hs}{L:au}{w:World}{ob0:Hs}{fr:ar}{R:Loop}(hm:Mem M a L w)(d:dJ ob0 a)(e:∀ t,Rep M a (R.tmps.getD t undef) (aW fr t)):
  ∃ bs,(∀ b,b∈bs↔ ∃ k,aG a L k b)/\∀ (ob:Hs) (hs:ba),hD M ob w (hs++[eD bs]) (.bun hs.length (jR ob0 fr R L)):=by
 let bs:=(Di w.heap.size).filter λ b=>decide (∃ k,aG a L k b)
 have c:∀ b,b∈bs↔ ∃ k,aG a L k b:=λ b=>by simp only [bs,Fc,Ho,decide_eq_true_eq];exact ⟨λ h=>h.2,λ⟨k,h⟩=>⟨hm.lt k b h,k,h⟩⟩
 refine ⟨bs,c,λ ob hs=>⟨by simp,bs,by simp,λ b g=>?_,a,d,hm.len,hm.obj,hm.inj,c,e⟩⟩;obtain ⟨k,f⟩:=(c b).1 g;exact hm.alive_heap f
def oS(hs:ba)(v:Value):blk (hs++[v])=KU v:=by unfold blk;simp
def aBD{M:Imm}{ob:Hs}{tmps:Array Value}{fr:ar}{p:Nat}{v:Value}{x:aa}(h:∀ t,Rep M ob (tmps.getD t undef) (aW fr t))(b:Rep M ob v x)(hp:p<tmps.size):
  ∀ t,Rep M ob ((tmps.setIfInBounds p v).getD t undef) (aW (iE fr p x) t):=by
 intro t;have:=lU (a:={tmps:=tmps,defers:=[]}) (d:=some p) h b (λ c e=>by grind) t;rw [show aW (iE fr p x) t=jC (aW fr) (some p) x t from congrFun (dR fr (some p) x) t];exact this
def lK(R:Loop)(b:Bool):Loop:=if b then R else {R with state:=.done,pending:=some .ret}
def YJ{R:Loop}(h1:R.state= .ready)(h:R.pending=none):({{R with state:=.busy} with state:=if (none:Option Code).isNone then .ready else .done,pending:=none}:Loop)=lK R true:=by obtain ⟨a,b,c,d,e,f,g,i⟩:=R;have h1:a= .ready:=h1;have h:b=none:=h;subst h1 h;rfl
def gT{E:Env}{fn:Func}{ob0:Hs}{l k n p gg:Nat}{R:Loop}{as F:Code}{fr:ar}{L L':au}{x:Int}{b:Bool}(Q:R.params= #[p])(N:R.state= .ready)(hpe:R.pending=none)(has:R.assign=as)(hbd:R.body=F)(Y:R.tmps.size=fn.ntmps)
  (hp:Ff p fn.ntmps=true) (hdf:E.df=[]) (hco:(cZ fn.ntmps as&&cZ fn.ntmps F)=true) (hk:aB L k= .bun gg (bY l R)) (hn:L.length=n) (hn':L'.length=n) (hk':aB L' k= .bun gg (bY l {R with state:=.busy}))
  (h:inR .i64 x->To {E with rd:=some l} fn (.keep n (.ret (.bool b)) L') (.code [.code as,.beginR,.code F] (iE fr p (.int .i64 x)) L)):
  bH E.P (.yield l) [.int .i64 x] [.bun 0 (jR ob0 fr R L)] (.ret (.bool b)) [.bun 1 (jR ob0 fr R (L'.set k (.bun gg (bY l (lK R b)))))]:=by
 intro M ob w m hm hr;obtain ⟨hs,f,W,hl,hle,z,I,U⟩:=hm.unpack (k:=0) rfl;have hob:ob=[hs]:=by
  have:=hm.len
  match ob,this,W with
  | [y],_,W=>simp at W;rw [W]
 subst hob;obtain ⟨v,rfl⟩:∃ v,m=[v]:=by
  have:=hr.1
  match m,this with
  | [v],_=>simp
 have hv:Rep M [hs] v (.int .i64 x):=hr.2 0 v _ rfl rfl;obtain ⟨rfl,O⟩:=hv.int_inv;obtain ⟨_,_,_,_,_,D⟩:=z.recAt (bF hk s_);have Z:p<R.tmps.size:=by rw [Y];simpa [Ju] using hp
 have J:(R.params.zip #[Ea .i64 x]).foldl (λ tmps (t,a)=>tmps.setIfInBounds t a) R.tmps=R.tmps.setIfInBounds p (.int .i64 x):=by rw [Q];simp
 refine ⟨R.fn,R.tmps.setIfInBounds p (.int .i64 x),as,F,?_,trivial,λ c cs _=>?_⟩
 .have:=run_yield (P:=E.P) (args:= #[Ea .i64 x]) D (by rw [Q];rfl);rw [J,has,hbd] at this;exact this
 let b0:Frame:={(default:Frame) with fn:=R.fn,kind:=.normal,roundOf:=some l}
 let a0:Act:={tmps:=R.tmps.setIfInBounds p (.int .i64 x),defers:=[]}
 have hb0:Frame.round l R.fn (R.tmps.setIfInBounds p (.int .i64 x)) as F .normal=b0.atR a0 (gY [.code as,.beginR,.code F]):=by rfl
 rw [hb0]
 have hst:qG (.keep n (.ret (.bool b)) L') f:=⟨by rw [z.len];exact hn,λ h=>by cases h⟩
 have hok:bC fn.ntmps [.code as,.beginR,.code F]=true:=by simp only [bC,KI.ok,Kc,Cz];omega
 obtain ⟨h0⟩:=h O;obtain ⟨e,a',w',K,B⟩:=h0 hok M f L w a0 w hst ⟨M,f,Ext.refl _ _ _ _,z,aBD U (.int _ _ O) Z,by show (R.tmps.setIfInBounds p _).size=_;simp;omega,by show cV w w M f [] E.df;rw [hdf];exact .nil,by rw [z.len];omega⟩ b0 (c::cs) rfl
 -- dB the body
 have fin:∀ {r:Bool} {w':World} {st:LoopState} {jump:Option Code},(jump.isNone=r)->({{R with state:=.busy} with state:=if jump.isNone then .ready else .done,pending:=jump}:Loop)=lK R r->RR M f L w (.keep n (.ret (.bool b)) L') (.returned (.bool r)) w'->
   r=b/\∃ C,(Instr.endRound l jump).run E.P w'= .ok (.bool r) C/\∃ M' ob',Ext M [hs] [.bun 0 (jR ob0 fr R L)] w M' ob' [.bun 1 (jR ob0 fr R (L'.set k (.bun gg (bY l (lK R b)))))] C/\Mem M' ob' [.bun 1 (jR ob0 fr R (L'.set k (.bun gg (bY l (lK R b)))))] C:=by
  intro r w' st jump S hR ⟨M',g,G,A,x3⟩;have e:r=b:=by have:=Rep.bool_inv (M:=M') (ob:=g) (b:=b) x3;simpa using this
  subst e;refine ⟨rfl,?_⟩;have A:Mem M' g L' w':=A;have G:Ext M f L w M' g L' w':=G;have T:=bF hk' s_;obtain ⟨_,_,_,_,_,s⟩:=A.recAt T;obtain ⟨m1,m2⟩:=A.recTurn T (lK R r);have d:=run_endRound (P:=E.P) jump s;rw [hR,S] at d;refine ⟨_,d,M',?_⟩;have X:=G.trans m2;obtain ⟨bs,V,hpk⟩:=m1.pack (fr:=fr) (R:=R) (hle.trans X.hs) λ t=>(U t).mono X.imm X.hs;have hal':∀ {k b},aG [hs++[eD bs]] [.bun 1 (jR ob0 fr R (L'.set k (.bun gg (bY l (lK R r)))))] k b->b∈bs:=λ{k b} u=>by have:=(iL.1 u).2;rwa [oS,eJ] at this
  have h1:hs.length=1:=hl;refine ⟨[hs++[eD bs]],⟨X.imm,λ b o y hy=>?_,λ i hs' hi=>?_,X.os,X.tape,X.output,X.size,λ b H hn=>X.keep b H λ i u=>hn 0 (iL.2 ⟨rfl,(I b).2 ⟨i,u⟩⟩),λ i b u=>?_⟩,⟨m1.imm,rfl,λ i c hc=>?_,λ i b u=>?_,λ i j b u H=>?_⟩⟩
  .rcases X.new b o y hy with q | q | q
   .exact .inl q
   .omega
   .exact .inr (.inr ⟨0,iL.2 ⟨rfl,(I b).2 q⟩⟩)
  .cases i with
   | zero=>simp at hi;subst hi;simp
   | succ i=>simp at hi
  .have H:b∈bs:=by have:=(iL.1 u).2;rwa [oS,eJ] at this
   obtain ⟨j,S⟩:=(V b).1 H;rcases X.fresh j b S with q | q
   .exact .inl ⟨0,iL.2 ⟨rfl,(I b).2 q⟩⟩
   omega
  .cases i with
   | zero=>
    simp at hc;subst hc;refine ⟨_,rfl,?_⟩;have:=hpk [hs++[eD bs]] hs;rwa [h1] at this
   | succ i=>simp at hc
  .have H:b∈bs:=by have:=(iL.1 u).2;rwa [oS,eJ] at this
   obtain ⟨j,S⟩:=(V b).1 H;exact m1.lt j b S
  .rw [(iL.1 u).1,(iL.1 H).1]
 cases e with
 | normal=>
  obtain ⟨rfl,C,d,M',ob',G,A⟩:=fin (st:=.ready) (jump:=none) rfl (YJ N hpe) K;exact ⟨.returned (.bool true),C,⟨M',ob',G,A,.bool _⟩,StepsIn.trans B (.one (jL _ _ _) (stepR_round_end rfl rfl d))⟩
 | ret=>
  obtain ⟨rfl,C,d,M',ob',G,A⟩:=fin (st:=.ready) (jump:=some .ret) rfl rfl K;obtain ⟨k₁,hs'⟩:=B.2 rfl;exact ⟨.returned (.bool false),C,⟨M',ob',G,A,.bool _⟩,StepsIn.trans hs' (.one (jL _ _ _) (stepR_round_ret rfl rfl d))⟩
 | panic ch=>exact K.elim
 | exit id=>exact K.elim
 | goto t=>exact K.elim
 | outgrown=>exact K.elim
def MH:Code->Option (Code×Code)
 | .rangeFunc _ _ as c=>some (as,c)
 | .seq a b=>(match MH a with | some x=>some x | none=>MH b)
 | .cond _ a b=>(match MH a with | some x=>some x | none=>MH b)
 | .block _ b=>MH b
 | .loop b=>MH b
 | _=>none
def rfA(fn:Func):Code:=match MH (dA fn) with | some p=>p.1 | none=>.skip
def rfB(fn:Func):Code:=match MH (dA fn) with | some p=>p.2 | none=>.skip
def KW.range{rd:Option Nat}{P:Program}{Q:Exit->Act->World->Prop}{ks:bf}{a:Act}{w:World}{x:Operand}{C:Array Tmp}{as A:Code}
  (h:∀ fn,∃ (l:Nat) (c:List Deferred) (n:World) (d:Deferred) (f:FuncId) (args:Array Value),
   (Instr.enterLoop fn a.tmps C as A rd).run P w= .ok (l,c) n/\(resolve a.eval (rangeCall x l) 0).run P n= .ok d n/\(invoke d.target d.args).run P n= .ok (.enter f args) n/\
   Calls P f args n λ e D=>∃ v,e= .returned v/\∃ jump z,(Instr.endLoop l).run P D= .ok jump z/\KW rd P Q ((jump.map KI.code).toList++ks) {a with defers:=c++a.defers} z):
  KW rd P Q (.code (.rangeFunc x C as A)::ks) a w:=by
 intro b cs u;obtain ⟨l,c,n,d,f,args,F,t,y,o⟩:=h b.fn;rw [<-u] at F;have i:=stepR_rangeFunc (P:=P) (b:=b) (a:=a) (k:=gY ks) (cs:=cs) (w:=w) F t y;obtain ⟨e,D,fr,⟨v,rfl,jump,z,s,G⟩,j,H,g⟩:=o (b.atR {a with defers:=c++a.defers} (.inRangeFunc l::gY ks)::cs);obtain ⟨I,J,w',q,r⟩:=G b cs u;refine ⟨I,J,w',q,?_⟩;have B:gY ((jump.map KI.code).toList++ks)=(jump.map Item.code).toList++gY ks:=by cases jump<;>rfl
 rw [B] at r;have p:Steps P (lone (b.atR a (.code (.rangeFunc x C as A)::gY ks)) cs w) (lone (b.atR {a with defers:=c++a.defers} ((jump.map Item.code).toList++gY ks)) cs z):=by refine .head i (Steps.trans j (.head ?_ (.one (stepR_endRangeFunc s))));rw [<-finish_atR_inRangeFunc l v];exact step_leave_returned g
 exact .of_steps ((StepsIn.of_steps p).mono λ m _=>jL _ _ m) r
section
variable {M:Imm} {ob:Hs} {ac:au} {w:World}
def Mem.layRec(hm:Mem M ob ac w)(R:Loop):
  Mem M (ob++[[eD [w.heap.size+1]]]) (kP ac (.bun 0 (bY (w.heap.size+1) R))) ((w.alloc (.deferred (some []))).alloc (.loop R))/\
  Ext M ob ac w M (ob++[[eD [w.heap.size+1]]]) (kP ac (.bun 0 (bY (w.heap.size+1) R))) ((w.alloc (.deferred (some []))).alloc (.loop R)):=by
 rw [nV];have f:Mem M ob ac (w.alloc (.deferred (some []))):=hm.same s_ λ b c=>heap_alloc_old w _ c
 have e:Ext M ob ac w M ob ac (w.alloc (.deferred (some []))):=⟨λ_ _ _ h=>h,λ_ _ _ h=>.inl h,dJ.refl _,rfl,rfl,rfl,by simp,λ b c _=>heap_alloc_old w _ c,λ k b m=>.inl ⟨k,m⟩⟩
 obtain ⟨g,n,_⟩:=f.extend 1;have h1:(ac++Aj 1 ab.dead)[ac.length]? =some .dead:=by simp
 have l:(ob++Aj 1 ([]:ba))[ac.length]? =some []:=by rw [<-hm.len];simp
 have d:(w.alloc (.deferred (some []))).heap.size=w.heap.size+1:=uY ..
 have t:=g.turn (M':=M) (w':=(w.alloc (.deferred (some []))).alloc (.loop R)) (x':=.bun 0 (bY (w.heap.size+1) R)) (hs':=[eD [w.heap.size+1]]) h1 l ⟨_,rfl⟩ (λ_=>rfl) (λ_ _ _ h=>h) (λ_ _ _ h=>.inl h) (λ b o y p=>by
   obtain ⟨u,i,r,s⟩:=g.imm b o y p
   exact ⟨u,(Cs (w:=w.alloc (.deferred (some []))) (a:=⟨b,o,none⟩) (heap_alloc_old _ _ (Ct _ _ i))).trans i,r,s⟩)
  (λ b c _=>heap_alloc_old _ _ c) rfl rfl rfl s_ (λ_=>⟨rfl,[w.heap.size+1],rfl,λ b c=>by
   rw [Dj.1 c,<-d]
   exact ⟨_,heap_alloc_new _ _,rfl⟩,rfl,by rw [<-d];exact heap_alloc_new _ _⟩)
  (λ_ b c=>by
   have:blk [eD [w.heap.size+1]]=[w.heap.size+1]:=eJ _;rw [this] at c;rw [Dj.1 c,uY _ (Obj.loop R),d]
   omega)
 have j:(ob++Aj 1 ([]:ba)).set ac.length [eD [w.heap.size+1]]=ob++[[eD [w.heap.size+1]]]:=by rw [<-hm.len];simp
 have q:(ac++Aj 1 ab.dead).set ac.length (.bun 0 (bY (w.heap.size+1) R))=ac++[.bun 0 (bY (w.heap.size+1) R)]:=by simp
 rw [j,q] at t;exact ⟨t.1,e.trans (n.trans t.2.1)⟩
def FY:∀ (ks:az) (ac:au),(∀ k∈ks,k<ac.length)->TL (qI ks ac) ac/\∀ k∈ks,(qI ks ac)[k]? =some .dead
 | [],ac,_=>⟨⟨rfl,λ_=>.inl rfl⟩,λ k h=>by simp at h⟩
 | x::r,ac,hlt=>by
  have b:x<ac.length:=hlt x s_;have e:bM ac x .dead=ac.set x .dead:=fY _ b;obtain ⟨⟨h1,d⟩,h3⟩:=FY r (bM ac x .dead) (λ k a=>by grind);have c:∀ k:Nat,(qI (x::r) ac)[k]? =ac[k]?\/(qI (x::r) ac)[k]? =some ab.dead:=λ k=>by
   rcases d k with q | q
   .by_cases a:k=x
    .subst a;right;show (qI r (bM ac k .dead))[k]? =_;rw [q,e,Au b]
    .left;show (qI r (bM ac x .dead))[k]? =_;rw [q,e,Bb (Ej a)]
   .exact .inr q
  refine ⟨⟨by show (qI r (bM ac x .dead)).length=_;rw [h1,e];simp,c⟩,λ k a=>?_⟩;rcases Aw.1 a with rfl | a
  .show (qI r (bM ac k ab.dead))[k]? =some ab.dead;rcases d k with q | q
   .rw [q,e,Au b]
   .exact q
  .exact h3 k a
def Mem.snoc{A:au}{a:Hs}{c:ab}{hs:ba}(hm:Mem M a A w)(v:∀ ob,dJ a ob->hD M ob w hs c)(q:∀ b∈blk hs,b<w.heap.size)(f:∀ k b,aG a A k b->b∉blk hs):
  Mem M (a++[hs]) (A++[c]) w/\∀ k b,aG (a++[hs]) (A++[c]) k b->(k<A.length/\aG a A k b)\/(k=A.length/\b∈blk hs):=by
 have g:dJ a (a++[hs]):=λ j l e=>⟨l,by rw [Ag (Ab.1 e).1];exact e,Cn _⟩
 have m:∀ {j:Nat} {x:ab},(A++[c])[j]? =some x->(j<A.length/\A[j]? =some x/\(a++[hs])[j]? =a[j]?)\/(j=A.length/\x=c/\(a++[hs])[j]? =some hs):=λ{j x} e=>by
  by_cases h:j<A.length
  .rw [Ag h] at e;exact .inl ⟨h,e,Ag (by rw [hm.len];exact h)⟩
  .have d:j=A.length:=by have:=(Ab.1 e).1;simp at this;omega
   subst d;rw [Ak s_] at e;simp at e;exact .inr ⟨rfl,e.symm,by rw [<-hm.len];simp⟩
 have p:∀ k b,aG (a++[hs]) (A++[c]) k b->(k<A.length/\aG a A k b)\/(k=A.length/\b∈blk hs):=by
  rintro k b ⟨x,l,t,z,o,s⟩;rcases m t with ⟨h1,d,h3⟩ | ⟨h1,d,h3⟩
  .rw [h3] at o;exact .inl ⟨h1,x,l,d,z,o,s⟩
  .rw [h3] at o;cases o;exact .inr ⟨h1,s⟩
 refine ⟨⟨hm.imm,by simp [hm.len],λ k x u=>?_,λ k b r=>?_,λ i j b r y=>?_⟩,p⟩
 .rcases m u with ⟨h1,d,h3⟩ | ⟨h1,rfl,h3⟩
  .obtain ⟨l,C,B⟩:=hm.obj k x d;exact ⟨l,by rw [h3];exact C,B.mono (λ_ _ _ h=>h) g (λ_ _ _ _ h=>h) (λ_ _ _ _ h=>h)⟩
  .exact ⟨hs,h3,v _ g⟩
 .rcases p k b r with ⟨_,h⟩ | ⟨_,h⟩
  .exact hm.lt k b h
  .exact q b h
 .rcases p i b r with ⟨h1,d⟩ | ⟨h1,d⟩<;>rcases p j b y with ⟨h3,n⟩ | ⟨h3,n⟩
  .exact hm.inj i j b d n
  .exact absurd n (f i b d)
  .exact absurd d (f j b n)
  omega
end
def bH.bunTo{P:Program}{f:Fn}{args:ay}{ac:au}{r:Res}{gg:Nat}{I n:BInv}(h:bH P f args ac r [.bun gg I])
  (t:∀ (M:Imm) (bs:az) (w:World),(∀ b o x,M b o x->∃ v,w.cell? ⟨b,o,none⟩=some v/\v.oneCell'=true/\Rep M [] v x)->(∀ b,b∈bs->b<w.heap.size)->I.inv M bs w->n.inv M bs w):bH P f args ac r [.bun gg n]:=
 λ M ob w d hm s=>cG.mono (λ e w' ⟨M',ob',a,g,u⟩=>by
  have i:∀ {k b},aG ob' [.bun gg n] k b->aG ob' [.bun gg I] k b:=λ{k b} ⟨c,hs,e1,e2,e3,e4⟩=>by
   cases k with
   | zero=>exact ⟨_,hs,rfl,rfl,e3,e4⟩
   | succ k=>simp at e1
  refine ⟨M',ob',⟨a.imm,a.new,a.hs,a.os,a.tape,a.output,a.size,a.keep,λ k b l=>a.fresh k b (i l)⟩,⟨g.imm,g.len,λ k c m=>?_,λ k b l=>g.lt k b (i l),λ k k' b h1 j=>g.inj k k' b (i h1) (i j)⟩,u⟩;cases k with
  | zero=>
   simp at m;subst m;obtain ⟨hs,h1,j,bs,h3,p,z⟩:=g.obj 0 _ rfl;exact ⟨hs,h1,j,bs,h3,p,t _ _ _ g.imm (λ b y=>by obtain ⟨o,q,_⟩:=p b y;exact fE q) z⟩
  | succ k=>simp at m) (h M ob w d hm s)
def B5:∀ (n j i:Nat),i<n->(upto j n)[i]? =some (j+i)
 | 0,_,_,h=>by omega
 | n+1,j,0,_=>rfl
 | n+1,j,i+1,h=>by show (upto (j+1) n)[i]? =_;rw [B5 n (j+1) i o_,show j+1+i=j+(i+1) from by omega]
def aEk{ob0:Hs}{fr:ar}{R:Loop}{L L':au}{n:Nat}(A:L.length=n)(h1:∀ hs∈ob0,hs.length=1)(hl:ob0.length<=n)(q:jD (upto 0 n) L=true)(l:O8 n (upto 0 n) (aB L) fr=fr)(G:gG n (upto 0 n) L=L'):
  ∀ (M:Imm) (bs:az) (w:World),(∀ b o x,M b o x->∃ v,w.cell? ⟨b,o,none⟩=some v/\v.oneCell'=true/\Rep M [] v x)->(∀ b,b∈bs->b<w.heap.size)->(jR ob0 fr R L).inv M bs w->(jR ob0 fr R L').inv M bs w:=by
 rintro M bs w p e ⟨ob,H,D,C,B,s,z⟩;subst G
 have hm:Mem M ob L w:=⟨p,D,C,λ k b a=>e b ((s b).2 ⟨k,a⟩),B⟩
 obtain ⟨i,y,F⟩:=hm.cvt (n0:=n) q;refine ⟨eV n ob L 0 (upto 0 n),λ j hs g=>?_,i.len,i.obj,i.inj,λ b=>(s b).trans ⟨λ⟨k,a⟩=>?_,λ⟨j,a⟩=>?_⟩,λ t=>?_⟩
 .have f:j<n:=Ew (Ab.1 g).1 hl;obtain ⟨hs',d,t,u⟩:=H j hs g;have r:=h1 hs (Av g);refine ⟨iU n j (aB L j) hs',?_,?_⟩
  .rw [gZ,B5 n 0 j f];simp [d]
  .unfold iU;split
   .rw [<-u];have:(hs++t).take 1=hs:=by rw [Db o_,Ch o_]
    rw [this];simp
   .exact ⟨t,u⟩
 .have m:k<n:=by obtain ⟨c,_,d,_⟩:=a;rw [<-A];exact (Ab.1 d).1
  exact ⟨k,F k k b (by rw [B5 n 0 k m,Bp]) a⟩
 .obtain ⟨k,_,h⟩:=y j b a;exact ⟨k,h⟩
 .have:=hm.cvtV (n0:=n) q 5 _ _ (z t);rw [<-yI,l] at this;exact this
structure RecOK(fn:Func)(p:Nat)(as bd:Code)(R:Loop):Prop where
 params:R.params= #[p]
 ready:R.state= .ready
 pend:R.pending=none
 assign:R.assign=as
 body:R.body=bd
 size:R.tmps.size=fn.ntmps
def To.range{E:Env}{fn:Func}{g:Goal}{x:Operand}{p:Nat}{as bd:Code}{ks:bf}{fr:ar}{ac:au}{f:FuncId}{C:ay}(m:az)(hrd:E.rd=none)(hdf:E.df=[])(hbo:nP E.P f)
  (hx:ev fr x= .func (.func f) [] C) (hk:∀ l R,jD m (kP ac (.bun 0 (bY l R)))=true) (hlt:(m.all λ k=>Ff k (aM ac))=true)
  (h:∀ (l:Nat) (ob0:Hs) (R:Loop),qG g ob0->RecOK fn p as bd R->∃ (L':au) (b:Bool) (r:aa) (s:au) (gg:Nat),
   aA E.P f (.func (.yield l) [] []::dO (cvtV 0 m (aB (kP ac (.bun 0 (bY l R)))) 5) C) (gG 0 m (kP ac (.bun 0 (bY l R)))++[.bun 0 (jR ob0 fr R (qI m (kP ac (.bun 0 (bY l R)))))]) (.ret r) (s++[.bun gg (jR ob0 fr R L')])/\
   aB L' (aM ac)= .bun 0 (bY l (lK R b))/\s.length=m.length/\To E fn g (.code (if b then ks else .code .ret::ks) fr (bM L' (aM ac) .dead))):
  To E fn g (.code (.code (.rangeFunc x #[p] as bd)::ks) fr ac):=by
 refine .mk λ hok M0 n ap w0 a w hst hs=>?_;obtain ⟨M,ob,hx0,hm,hfr,hsz,V,hlen⟩:=hs;rw [hrd];refine KW.range λ fid=>?_
 obtain ⟨l,hl⟩:∃ l,l=w.heap.size+1:=⟨_,rfl⟩
 obtain ⟨R,hR⟩:∃ R:Loop,R={state:=.ready,pending:=none,fn:=fid,tmps:=a.tmps,params:= #[p],assign:=as,body:=bd,defers:=w.heap.size}:=⟨_,rfl⟩
 have N:RecOK fn p as bd R:=by subst hR;exact ⟨rfl,rfl,rfl,rfl,rfl,hsz⟩
 have htm:R.tmps=a.tmps:=by subst hR;rfl
 obtain ⟨D,Y⟩:∃ D,D=(w.alloc (.deferred (some []))).alloc (.loop R):=⟨_,rfl⟩
 obtain ⟨m1,x1⟩:=hm.layRec R;rw [<-hl,<-Y] at m1 x1
 obtain ⟨A,hob1⟩:∃ A,A=ob++[[eD [l]]]:=⟨_,rfl⟩
 rw [<-hob1] at m1 x1;obtain ⟨L',b,r,s,gg,hcall,hLk,hol,hto⟩:=h l n R hst N;generalize J:kP ac (.bun 0 (bY l R))=obs1 at *
 have hobs1l:obs1.length=ac.length+1:=by rw [<-J,nV];simp
 have hk1:jD m obs1=true:=by rw [<-J];exact hk l R
 have hltk:∀ k∈m,k<obs1.length:=λ k hk=>by
  have:=Cr.1 hlt k hk;have:k<aM ac:=by simpa [Ju] using this
  rw [bJ] at this;omega
 obtain ⟨hwk,hdead⟩:=FY m obs1 hltk;have mC:=m1.weak hwk;obtain ⟨c1,c2,c3⟩:=m1.cvt (n0:=0) hk1;have hfr1:∀ t,Rep M A (R.tmps.getD t undef) (aW fr t):=λ t=>by rw [htm];exact (hfr t).mono x1.imm x1.hs
 obtain ⟨bs,hbs,hpk⟩:=mC.pack (hx0.hs.trans x1.hs) hfr1;have hcl:(eV 0 A obs1 0 m).length=m.length:=oP;have hsl:(gG 0 m obs1).length=m.length:=nR;have O:blk ([]++[eD bs])=bs:=by rw [oS,eJ]
 obtain ⟨mI,aI⟩:=c1.snoc (c:=.bun 0 (jR n fr R (qI m obs1))) (hs:=[]++[eD bs]) (λ ob _=>hpk ob []) (λ b G=>by
   rw [O] at G;obtain ⟨j,S⟩:=(hbs b).1 G
   exact mC.lt j b S) (λ j b F G=>by
   rw [O] at G;obtain ⟨i,Z⟩:=(hbs b).1 G;obtain ⟨k,e1,e2⟩:=c2 j b F;have:=m1.inj k i b e2 (hwk.alive Z);subst this;obtain ⟨c,_,q1,q2,_⟩:=Z;rw [hdead k (Av e1)] at q1;cases q1
   cases q2)
 -- the call
 have hev:=EC hfr x;rw [hx] at hev;obtain ⟨z,hax,hcl1,hcr⟩:∃ z:ba,a.eval x= .func (.func f) #[] z.toArray/\z.length=C.length/\∀ (i:Nat) v y,z[i]? =some v->C[i]? =some y->Rep M ob v y:=by
  generalize a.eval x=va at hev;cases hev with
  | func _ vfs vcs _ _ hl1 hl2 hr1 hr2=>
   have:vfs=[]:=Az o_;subst this;exact ⟨vcs,rfl,hl2,hr2⟩
 have hargs:cA M (eV 0 A obs1 0 m++[[]++[eD bs]]) (.func (.yield l) #[] #[]::z) (.func (.yield l) [] []::dO (cvtV 0 m (aB obs1) 5) C):=by
  have hle:dJ (eV 0 A obs1 0 m) (eV 0 A obs1 0 m++[[]++[eD bs]]):=λ j l S=>⟨l,by rw [Ag (Ab.1 S).1];exact S,Cn _⟩
  have h2:cA M (eV 0 A obs1 0 m) z (dO (cvtV 0 m (aB obs1) 5) C):=bX (λ v a hva=>m1.cvtV (n0:=0) hk1 5 v a (hva.mono x1.imm x1.hs)) hcl1 hcr;refine cA.cons (.func (.yield l) [] [] [] [] rfl rfl (λ i v a h=>by simp at h) (λ i v a h=>by simp at h)) ⟨h2.1,λ i v a hv F=>(h2.2 i v a hv F).mono (λ_ _ _ h=>h) hle⟩
 have hrun:=hcall M _ D _ mI hargs;have T:Calls E.P f (Value.func (.yield l) #[] #[]::z).toArray D λ e w'=>∃ M' ob',Ext M (eV 0 A obs1 0 m++[[]++[eD bs]]) (gG 0 m obs1++[.bun 0 (jR n fr R (qI m obs1))]) D M' ob' (s++[.bun gg (jR n fr R L')]) w'/\Mem M' ob' (s++[.bun gg (jR n fr R L')]) w'/\sE M' ob' e (.ret r):=by
  rcases hrun with ⟨_,q⟩ | ⟨u,w',q,_⟩
  .exact q
  .rw [hbo] at q;cases q
 have hent:(Instr.enterLoop fid a.tmps #[p] as bd none).run E.P w= .ok (l,[{target:=.collected w.heap.size,args:= #[]}]) D:=by rw [hl,Y,hR];exact run_enterLoop_outer ..
 refine ⟨l,[{target:=.collected w.heap.size,args:= #[]}],D,{target:=.fn (.func f) z.toArray,args:= #[.func (.yield l) #[] #[]]},f,_,hent,?_,?_,T.mono λ e w3 ⟨M',obI,y1,y2,y3⟩=>?_⟩
 .have:resolve a.eval (rangeCall x l) 0=Deferred.ofValue (a.eval x) #[.func (.yield l) #[] #[]]:=by simp [resolve,rangeCall,Act.eval]
  rw [this,hax];rfl
 .show (callFunc f (#[Value.func (.yield l) #[] #[]]++z.toArray)).run E.P D=_;rw [hbo];simp
 -- dB the call
 obtain ⟨v,rfl⟩:∃ v,e= .returned v:=by
  cases e with
  | returned v=>simp
  | panicked ch=>exact y3.elim
  | outgrown=>exact y3.elim
 refine ⟨v,rfl,?_⟩;have hbk:(s++[ab.bun gg (jR n fr R L')])[s.length]? =some (.bun gg (jR n fr R L')):=by simp
 obtain ⟨hs',W,hh',hl',hle',mC',hal',hfr'⟩:=y2.unpack hbk;have K:=bF hLk s_;have hkl:aM ac=ac.length:=bJ ac;obtain ⟨_,_,_,_,_,I⟩:=mC'.recAt K
 -- the client's memory,from the statement on
 have inI:∀ {k b},aG (eV 0 A obs1 0 m++[[]++[eD bs]]) (gG 0 m obs1++[.bun 0 (jR n fr R (qI m obs1))]) k b->∃ k',aG A obs1 k' b:=λ{k b} F=>by
  rcases aI k b F with ⟨_,h⟩ | ⟨_,h⟩
  .obtain ⟨k',_,h⟩:=c2 k b h;exact ⟨k',h⟩
  .rw [O] at h;obtain ⟨j,S⟩:=(hbs b).1 h;exact ⟨j,hwk.alive S⟩
 have xnew:∀ b o y,M' b o y->M b o y\/D.heap.size<=b\/∃ k,aG A obs1 k b:=λ b o y hy=>by
  rcases y1.new b o y hy with q | q | ⟨k,q⟩
  .exact .inl q
  .omega
  .exact .inr (.inr (inI q))
 have Q:∀ b,b<D.heap.size->(∀ k,¬ aG A obs1 k b)->w3.heap[b]? =D.heap[b]?:=λ b G hn=>y1.keep b G λ k F=>by obtain ⟨k',hk'⟩:=inI F;exact hn k' hk'
 have U:∀ k b,aG W L' k b->(∃ k',aG A obs1 k' b)\/D.heap.size<=b:=λ k b F=>by
  have G:b∈blk hs':=(hal' b).2 ⟨k,F⟩
  have:aG obI (s++[ab.bun gg (jR n fr R L')]) s.length b:=⟨_,hs',hbk,rfl,hh',G⟩
  rcases y1.fresh _ b this with ⟨k',q⟩ | q
  .exact .inl (inI q)
  omega
 have B:=hx0.trans x1
 -- from the function's start to here
 have X:Ext M0 n ap w0 M' W L' w3:=⟨λ b o y h=>y1.imm _ _ _ (B.imm _ _ _ h),λ b o y hy=>by
   rcases xnew b o y hy with h1 | h1 | ⟨i,Z⟩
   .exact B.new b o y h1
   .exact .inr (.inl (Cx B.size h1))
   .rcases B.fresh i b Z with h2 | h2
    .exact .inr (.inr h2)
    omega,hle',y1.os.trans B.os,y1.tape.trans B.tape,y1.output.trans B.output,Cx B.size y1.size,λ b G ho=>by
   rw [<-B.keep b G ho];refine Q b (Ew G B.size) λ i Z=>?_;rcases B.fresh i b Z with ⟨j,S⟩ | h2
   .exact ho j S
   .omega,λ i b Z=>by
   rcases U i b Z with ⟨j,S⟩ | h1
   .exact B.fresh j b S
   .exact .inr (Cx B.size h1)⟩
 have hnb:(lK R b).state≠ .busy:=by
  unfold lK;cases b with
  | true=>rw [if_pos rfl,N.ready];simp
  | false=>simp
 have hend:=run_endLoop (P:=E.P) I hnb;obtain ⟨t1,t2⟩:=mC'.recTurn K {lK R b with state:=.exhausted};obtain ⟨d1,d2⟩:=t1.drop (aM ac);have hfin:bM L' (aM ac) .dead=(L'.set (aM ac) (.bun 0 (bY l {lK R b with state:=.exhausted}))).set (aM ac) .dead:=by rw [aP K,List.set_set]
 rw [<-hfin] at d1 d2;have X2:Ext M0 n ap w0 M' W (bM L' (aM ac) .dead) (w3.putObj l (.loop {lK R b with state:=.exhausted})):=by have:=X.trans t2;exact ⟨this.imm,this.new,this.hs,this.os,this.tape,this.output,this.size,this.keep,λ k b F=>this.fresh k b (d2 F)⟩
 refine ⟨(lK R b).pending,_,hend,?_⟩;obtain ⟨hto⟩:=hto;have hds0:=V;rw [hdf] at V
 -- the marks
 have hw1d:D.heap[w.heap.size]? =some (.deferred (some [])):=by rw [Y,heap_alloc_old _ _ s_];exact heap_alloc_new w _
 have H:∀ c:Nat,D.heap[c]? =some (Obj.deferred (some []))->(w3.putObj l (.loop {lK R b with state:=.exhausted})).heap[c]? =some (Obj.deferred (some [])):=λ c L=>by
  have h3:w3.heap[c]? =some (Obj.deferred (some [])):=by
   rw [Q c (fE L) λ k F=>by
    obtain ⟨o,q1,q2⟩:=m1.alive_heap F;rw [L] at q1;cases q1
    cases q2]
   exact L
  rw [Gq λ e=>by subst e;rw [I] at h3;cases h3];exact h3
 have hmk:Mks w0 (w3.putObj l (.loop {lK R b with state:=.exhausted})) ({target:=.collected w.heap.size,args:= #[]}::a.defers):=by
  refine ⟨⟨w.heap.size,rfl,hx0.size,H _ hw1d,λ d hd e=>?_⟩,V.marks.same λ d _ c _ L=>H c ?_⟩
  .have:∀ {ds:List Deferred},Mks w0 w ds->∀ d∈ds,∀ c,d.target= .collected c->c<w.heap.size:=by
    intro ds;induction ds with
    | nil=>simp
    | cons d0 ds ih=>
     rintro ⟨⟨b0,q1,q2,q3,q4⟩,q5⟩ d hd c L;rcases Aw.1 hd with rfl | hd
     .rw [q1] at L;cases L;exact fE q3
     .exact ih q5 d hd c L
   have:=this V.marks d hd _ e;omega
  .rw [Y,heap_alloc_old _ _ (by rw [uY];have:=fE L;omega),heap_alloc_old _ _ (fE L)];exact L
 have hss:SS M0 n ap w0 fn.ntmps E.df fr (bM L' (aM ac) .dead) {a with defers:=[{target:=.collected w.heap.size,args:= #[]}]++a.defers} (w3.putObj l (.loop {lK R b with state:=.exhausted})):=by
  refine ⟨M',W,X2,d1,λ t=>?_,hsz,?_,?_⟩
  .have:=hfr' t;rw [htm] at this;exact this
  .rw [hdf];exact ⟨[],_,rfl,.nil,hmk⟩
  .have h1:=X2.lens;have h2:=d1.len;omega
 have hok2:bC fn.ntmps (if b then ks else .code .ret::ks)=true:=by
  have:bC fn.ntmps ks=true:=by simp only [bC,Ad] at hok;exact hok.2
  cases b with
  | true=>exact this
  | false=>simpa [bC,KI.ok,cZ] using this
 have key:=hto hok2 M0 n ap w0 _ _ hst hss;rw [hrd] at key;have hjump:((lK R b).pending.map KI.code).toList++ks=(if b then ks else .code .ret::ks):=by
  unfold lK;cases b with
  | true=>rw [if_pos rfl,N.pend];rfl
  | false=>rfl
 rw [hjump];exact key
def aGL(sz:Nat):aa->aa
 | .nilslice=>.slice sz [] .nil
 | v=>v
def NK(sz:Nat)(M:Imm)(ob:Hs)(v:Value)(a:aa)(h:Rep M ob v a):Rep M ob v (aGL sz a):=by
 unfold aGL;split
 .cases h;exact .slnil _ _ rfl
 .exact h
def To.beginC{E:Env}{fn:Func}{g:Goal}{st:bf}{fr:ar}{ac:au}(k i:Nat)(e:TypeId){T:TypeId}{cs:ay}{sz:Nat}(b:aB ac k= .cells T cs)(a:nth cs i=some (.slice sz [] .nil))
  (h:To E fn g (.code st fr (kP (bM ac k (.cells T (L8 cs i (.slice sz [] (.own (aM ac) 0))))) (.tail 0 sz e)))):To E fn g (.code st fr ac):=by
 have c:To E fn g (.head st fr (kP (bM ac k (.cells T (L8 cs i (.slice sz [] (.own (aM ac) 0))))) (.tail 0 sz e))):=h.rec λ h=>.mk h;exact (To.begin k i e b a c).rec λ h=>.mk h
abbrev Hm:=Option Addr×Nat×ay
def hmV(m:Hm):Value:=.slice m.1 m.2.2.length m.2.1
def hmA(m:Hm):aa:=.hsl m.1 m.2.2.length m.2.1
def aKV(M:Imm)(ob:Hs)(m:Hm):Rep M ob (hmV m) (hmA m):=.hsl _ _ _
def mK(sz:Nat)(e:TypeId)(ms:List Hm):BInv where
 inv M bs w:=(∀ (i:Nat) m,ms[i]? =some m->dM M w (hmV m) sz e m.2.2)/\(∀ (i j:Nat) m m' b,ms[i]? =some m->ms[j]? =some m'->(hmV m).ownBlock=some b->(hmV m').ownBlock=some b->i=j)/\
  ∀ b,b∈bs↔ ∃ (i:Nat) (m:Hm),ms[i]? =some m/\(hmV m).ownBlock=some b
 mono:=λ hM hn hb ⟨h1,h2,h3⟩=>⟨λ i m hm=>(h1 i m hm).mono hM (λ b e ho o=>hn b ((h3 b).2 ⟨i,m,hm,e⟩) o (ho o)) (λ b c e=>hb b c ((h3 b).2 ⟨i,m,hm,e⟩)),h2,h3⟩
section
variable {M:Imm} {ob:Hs} {ac:au} {w:World}
def dM.blockAt{v:Value}{sz:Nat}{e:TypeId}{xs:ay}(h:dM M w v sz e xs){b:Nat}(a:v.ownBlock=some b):∃ o,w.heap[b]? =some o/\DQ o=false:=by
 obtain ⟨cv,⟨_,d⟩,_⟩:=h;rcases d with ⟨rfl,_⟩ | ⟨g,cap,f,c,_,i,_⟩
 .cases a
 .rw [c] at a;cases a;exact ⟨_,i,rfl⟩
def dM.nil(sz:Nat)(e:TypeId):dM M w (.slice none 0 0) sz e []:=
 ⟨[],Hg w 0 e sz,λ u h=>by simp at h,λ u h=>by simp at h,λ q c h=>by simp [aH] at h,λ b h=>(by cases h),C6 w⟩
def dM.append{P:Program}(hm:Mem M ob ac w){t D ty e:TypeId}{i:TypeInfo}{z:Value}(R:P.underlying t=some (.slice e))(U:P.info? e=some i)(hz:i.zero=some z)(hz1:z.cells.toList.all (·.oneCell')=true)
  (G:z.cells.size=i.size) (h:0<i.size) {xs ys:ay} {v x:Value} (A:dM M w v i.size e xs) (hs:SrcA P M w i.size D x ys)
  (I:xs.length+ys.length<=maxLen) (g:(xs.length+ys.length)*i.bytes<=140737488355328):
  ∃ m w',(Co #[t,D] ty #[v,x]).run P w= .ok m w'/\dM M w' m i.size e (xs++ys)/\w'.os=w.os/\w'.tape=w.tape/\w'.output=w.output/\w.heap.size<=w'.heap.size/\
   (∀ b,m.ownBlock=some b->v.ownBlock=some b\/w.heap.size<=b)/\∀ b,b<w.heap.size->v.ownBlock≠some b->w'.heap[b]? =w.heap[b]?:=by
 obtain ⟨cv,C,J,V,L,W,S⟩:=A;obtain ⟨⟨news,K,T⟩,O⟩:=hs;obtain ⟨m,w',N,F,H,j,n,k,a,l⟩:=iR (P:=P) w t D ty e i z R U hz hz1 G v xs.length cv C J x ys.length news K I g;have d:∀ b,m.ownBlock=some b->v.ownBlock=some b\/w.heap.size<=b:=λ b r=>by
  rcases a with ⟨q,_⟩ | ⟨q,_⟩
  .exact .inl (q▸r)
  .rw [q] at r;cases r;omega
 refine ⟨m,w',N,⟨cv++news,by simp;omega,λ u p=>?_,λ y s=>?_,λ q c B=>?_,λ b r o=>?_,l S⟩,H,j,n,k,d,λ b f Q=>?_⟩
 .rcases Ba.1 p with p | p
  .exact J u p
  .exact K.one u p
 .rcases Ba.1 s with s | s
  .exact V y s
  .exact O y s
 .by_cases f:q<xs.length*i.size
  .rw [cN h f] at B;rw [Ag (by rw [C.1];exact f)];exact L q c B
  .rw [cF h o_] at B;rw [Ak (by rw [C.1];omega),C.1];exact T _ c B
 .rcases d b r with q | q
  .exact W b q o
  .exact hm.noImm q o
 .rcases a with ⟨_,q⟩ | ⟨_,q⟩
  .exact q b Q
  .exact q b f
def dM.hm{v:Value}{sz:Nat}{e:TypeId}{xs:ay}(h:dM M w v sz e xs):∃ a c,v=hmV (a,c,xs):=by
 obtain ⟨cv,d,_⟩:=h;rcases dI d with ⟨q,f⟩ | ⟨b,cap,q,_⟩
 .exact ⟨none,0,by rw [q,hmV];grind⟩
 .exact ⟨_,cap,q⟩
def Mem.famAppend{P:Program}(h:Mem M ob ac w){t tx ty e:TypeId}{i:TypeInfo}{z:Value}(ht:P.underlying t=some (.slice e))(hi:P.info? e=some i)(hz:i.zero=some z)(hz1:z.cells.toList.all (·.oneCell')=true)
  (hzs:z.cells.size=i.size) (U:0<i.size) {k g j:Nat} {s:List Hm} {m:Hm} {ys:ay} (hx:ac[k]? =some (.bun g (mK i.size e s))) (G:s[j]? =some m) {x:Value} (hs:SrcA P M w i.size tx x ys)
  (h63:m.2.2.length+ys.length<=maxLen) (D:(m.2.2.length+ys.length)*i.bytes<=140737488355328):
  ∃ a c w' ob',(Co #[t,tx] ty #[hmV m,x]).run P w= .ok (hmV (a,c,m.2.2++ys)) w'/\Mem M ob' (ac.set k (.bun (g+1) (mK i.size e (s.set j (a,c,m.2.2++ys))))) w'/\
   Ext M ob ac w M ob' (ac.set k (.bun (g+1) (mK i.size e (s.set j (a,c,m.2.2++ys))))) w':=by
 obtain ⟨S,hh,hl,bs,hv,hd,h1,W,h3⟩:=h.obj k _ hx;have C:blk S=bs:=(eG hl hv).trans (eJ _);obtain ⟨v',w',hr,H,hos,K,Q,N,l,n⟩:=dM.append (P:=P) (ty:=ty) h ht hi hz hz1 hzs U (h1 j m G) hs h63 D;obtain ⟨a,c,rfl⟩:=H.hm;have hjl:j<s.length:=(Ab.1 G).1;have get:∀ {q:Nat} {f:Hm},(s.set j (a,c,m.2.2++ys))[q]? =some f->(q=j/\f=(a,c,m.2.2++ys))\/(q≠j/\s[q]? =some f):=λ{q f} d=>by
  by_cases O:q=j
  .subst O;rw [Au hjl] at d;cases d;simp
  .rw [Bb (Ej O)] at d;exact .inr ⟨O,d⟩
 have r:∀ {q:Nat} {f:Hm} {b:Nat},s[q]? =some f->(hmV f).ownBlock=some b->b∈bs/\b<w.heap.size:=λ{q f b} d C=>by have:=(h3 b).2 ⟨q,f,d,C⟩;obtain ⟨o,ho,_⟩:=hd b this;exact ⟨this,fE ho⟩
 have A:∀ (q:Nat) f,(s.set j (a,c,m.2.2++ys))[q]? =some f->dM M w' (hmV f) i.size e f.2.2:=λ q f d=>by
  rcases get d with ⟨_,rfl⟩ | ⟨hne,d⟩
  .exact H
  .refine (h1 q f d).mono (λ_ _ _ h=>h) (λ_ _ h=>h) λ b c' C hc=>?_;rw [n b (r d C).2 λ e=>hne (W q j f m b d G C e)];exact hc
 let F:=(s.set j (a,c,m.2.2++ys)).filterMap λ m=>(hmV m).ownBlock
 have B:∀ b,b∈F↔ ∃ (i:Nat) (f:Hm),(s.set j (a,c,m.2.2++ys))[i]? =some f/\(hmV f).ownBlock=some b:=λ b=>by
  simp only [F,List.mem_filterMap];constructor
  .rintro ⟨f,T,V⟩;obtain ⟨q,d⟩:=Cu T;exact ⟨q,f,d,V⟩
  .rintro ⟨q,f,T,V⟩;exact ⟨f,Av T,V⟩
 have hno:∀ {b o y},M b o y->(hmV m).ownBlock≠some b:=λ{b o y} Z e=>by obtain ⟨_,_,_,_,_,o5,_⟩:=h1 j m G;exact o5 b e o y Z
 have I:=h.turn (M':=M) (w':=w') (x':=.bun (g+1) (mK i.size e (s.set j (a,c,m.2.2++ys)))) (hs':=S++[eD F]) hx hh ⟨_,rfl⟩ (λ e=>by cases e) (λ_ _ _ h=>h) (λ_ _ _ h=>.inl h) (λ b o y Z=>by
   obtain ⟨u,hu,T,V⟩:=h.imm b o y Z;have J:b<w.heap.size:=by simpa using Ct w _ hu
   exact ⟨u,(Cs (w:=w) (a:=⟨b,o,none⟩) (n b J (hno Z))).trans hu,T,V⟩)
  (λ b J hn=>n b J λ e=>hn ⟨rfl,by rw [C];exact (r G e).1⟩) hos K Q N
  (λ_=>⟨by simp [hl],F,by rw [<-hl];simp,λ b C=>by
   obtain ⟨q,f,d,C⟩:=(B b).1 C
   exact (A q f d).blockAt C,A,λ q q' m1 m2 b d v Y X=>by
   rcases get d with ⟨r1,rfl⟩ | ⟨r1,d⟩<;>rcases get v with ⟨r2,rfl⟩ | ⟨r2,v⟩
   .rw [r1,r2]
   .rcases l b Y with p | p
    .exact absurd (W j q' m m2 b G v p X) (λ e=>r2 e.symm)
    .have:=(r v X).2;omega
   .rcases l b X with p | p
    .exact absurd (W q j m1 m b d G Y p) r1
    .have:=(r d Y).2;omega
   .exact W q q' m1 m2 b d v Y X,B⟩)
  (λ_ b R=>by
   rw [oS,eJ] at R;obtain ⟨q,f,d,L⟩:=(B b).1 R;refine ⟨?_,by obtain ⟨o,ho,_⟩:=(A q f d).blockAt L;exact fE ho⟩;rw [C];rcases get d with ⟨_,rfl⟩ | ⟨_,d⟩
   .rcases l b L with p | p
    .exact .inl ⟨rfl,(r G p).1⟩
    omega
   .exact .inl ⟨rfl,(r d L).1⟩)
 exact ⟨a,c,w',_,hr,I.1,I.2.1⟩
end
section
variable {E:Env} {fn:Func} {g:Goal}
inductive HandA(E:Env)(fn:Func)(g:Goal)(all:bb)(tab:az)(ks:bf)(n:Nat)(d:Option Nat)(s x:Operand)(t t2:TypeId)(l2:bb)(fr:ar)(ac:au):Prop
 | mk (k gg j:Nat) (ms:List Hm) (m:Hm) (ys:ay) (e esz eb sz:Nat) (ag:Bool) (z:aa) (hk:aB ac k= .bun gg (mK esz e ms)) (hj:ms[j]? =some m) (hs:ev fr s=hmA m) (hT:cW E.T t=some {kind:=.slc e esz eb,size:=sz,agg:=ag,zero:=z})
   (hp:Fv 1 esz=true) (hx:aA9 E (aB ac) esz t2 (ev fr x)=some ys) (hf:A1 (m.2.2.length+ys.length) eb)
   (h:∀ a c,To E fn g (.mid ⟨all,false,tab,ks⟩ (n+1) l2 [] (kV fr d (hmA (a,c,m.2.2++ys))) (bM ac k (.bun (gg+1) (mK esz e (ms.set j (a,c,m.2.2++ys)))))))
def VY{M:Imm}{ob:Hs}{v:Value}{m:Hm}(h:Rep M ob v (hmA m)):v=hmV m:=by cases h;rfl
def uX{rd:Option Nat}{ops:Array Oper}{M0:Imm}{ob0:Hs}{ap:au}{w0:World}{sz:Nat}{dfs:List (Nat×ay)}{Q:Exit->Act->World->Prop}{K:ar->au->Prop}{Kp:(Nat->aa)->aa->au->Prop}{rest:bb}
  (hE:ae E) (hp:∀ g v ac c a w,Kp g v ac->PP M0 ob0 ap w0 sz dfs g v ac c a w->Q (.panic c) a w) (j:∀ fr ac a w,K fr ac->SS M0 ob0 ap w0 sz dfs fr ac a w->wpListIn (fen rd) 0 E.P ops Q rest a w):
  ∀ (l:bb) (n:Nat) (fr:ar) (ac:au) (a:Act) (w:World),(∀ p∈l,∀ d,p.dst=some d->d<sz)->eX E ops.toList K Kp n l fr ac->SS M0 ob0 ap w0 sz dfs fr ac a w->wpListIn (fen rd) 0 E.P ops Q (l++rest) a w
 | [],n,fr,ac,a,w,_,h,hs=>j fr ac a w h hs
 | p::l,n,fr,ac,a,w,hd,h,hs=>by
  refine wk (L9 (K:=λ fr ac=>eX E ops.toList K Kp (n+1) l fr ac) (Kp:=Kp) (hint:=dG E p.dst) hE hs (hd p s_) ?_ λ v ac c w i f=>hp (aW fr) v ac c a w i f) λ m w' ⟨e,ao,i,hs'⟩=>uX hE hp j l (n+1) e ao m w' (λ p hp=>hd p (by simp [hp])) i hs';simp only [eX] at h;cases k:cH ops.toList (ev fr) p.guard with
  | none=>rw [k] at h;exact h.elim
  | some b=>
   rw [k] at h;cases b with
   | false=>exact h
   | true=>
    exact iS (λ v o h=>vE h) h
def I4{P:Program}{s x:Operand}{t b:TypeId}{p:Oper}(hp:p.op= .call {callee:=.builtin .append,args:= #[s,x],argTypes:= #[t,b]}){ρ:Operand->Value}{w w':World}{v:Value}
  (h:(Co #[t,b] p.type #[ρ s,ρ x]).run P w= .ok v w'):(execOp ρ p).run P w= .ok (.value v) w':=by
 obtain ⟨d,op,ty,pos,a,c⟩:=p;dsimp only at hp;subst hp;simp [execOp,resolve,invoke,builtin,h]
def To.handA(hE:ae E){id:Nat}{ops:Array Oper}{tab:az}{ks:bf}{fr:ar}{ac:au}{l1 l2:bb}{p:Oper}{s x:Operand}{t R:TypeId}(b:ops.toList=l1++p::l2)
  (hp:p.op= .call {callee:=.builtin .append,args:= #[s,x],argTypes:= #[t,R]}) (hg:p.guard=none)
  (h:eX E ops.toList (HandA E fn g ops.toList tab ks l1.length p.dst s x t R l2) (jE E fn g) 0 l1 fr ac):To E fn g (.code (.code (.region id ops false)::ks) fr ac):=
 .mk λ ho M0 ob0 ap w0 a w hst hs=>by
  simp only [bC,KI.ok,cZ,Ad] at ho;obtain ⟨⟨T,ho2⟩,O⟩:=ho;have N:=lC T
  refine KW.code (Q':=QR E fn g M0 ob0 ap w0 ks) ?_ (λ a w h=>h) (λ l a w h=>h) (λ e a w hh=>by cases e<;>first | exact .inl rfl | exact .inr ⟨_,rfl⟩ | exact hh.elim)
  have f:∀ o v ac l a w,jE E fn g o v ac->PP M0 ob0 ap w0 fn.ntmps E.df o v ac l a w->nN E fn M0 ob0 ap w0 g (.panic l) a w:=λ o v ac l a w he f=>wV he hst f;have hq:∀ fr ac a w,dD E fn g ks fr ac->SS M0 ob0 ap w0 fn.ntmps E.df fr ac a w->KW E.rd E.P (nN E fn M0 ob0 ap w0 g) ks a w:=λ fr ac a w hk hs=>hk O M0 ob0 ap w0 a w hst hs;refine wpIn_region_list ?_;have H:∀ fr ac a w,HandA E fn g ops.toList tab ks l1.length p.dst s x t R l2 fr ac->SS M0 ob0 ap w0 fn.ntmps E.df fr ac a w->wpListIn (fen E.rd) 0 E.P ops (QR E fn g M0 ob0 ap w0 ks) (p::l2) a w:=by
   rintro fr ac a w ⟨k,gg,j,ms,m,ys,e,esz,eb,sz,ag,z0,hk,hj,W,hT,d,V,hf,n⟩ hs;obtain ⟨M,ob,hx,hm,D,q,Y,h0⟩:=hs;obtain ⟨⟨hu,i,z,hi,L,J,hz,hzs,hz1⟩,_⟩:=(hE.tab t _ hT).kind;subst L J;have d:=Ck d;have I:=EC (a:=a) D;have r:=QK hE hm (I x) V d;have B:=bF hk s_;have S:a.eval s=hmV m:=by have:=I s;rw [W] at this;exact VY this
   obtain ⟨u,A,w',ob',C,m1,F⟩:=hm.famAppend (P:=E.P) (ty:=p.type) hu hi hz hz1 hzs d B hj r hf.1 hf.2;have X:nO E.P p a.eval w (λ e U=>e= .returned (hmV (u,A,m.2.2++ys))/\U=w'):=.inl ⟨_,_,I4 hp (by rw [S];exact C),rfl,rfl⟩;refine wk (next:=λ a w=>SS M0 ob0 ap w0 fn.ntmps E.df (kV fr p.dst (hmA (u,A,m.2.2++ys))) (bM ac k (.bun (gg+1) (mK i.size e (ms.set j (u,A,m.2.2++ys))))) a w) ?_ λ a w hs=>?_
   .unfold G;rw [if_pos (by simp [Fe,hg])];refine X.wpIn (by intro c;rw [hp];simp) (λ v U ⟨Z,e2⟩=>?_) (λ l U ⟨Z,_⟩=>by cases Z);cases Z;subst e2;rw [aP B];have:=F.lens;have:=m1.len;refine ⟨M,ob',hx.trans F,m1,?_,(dK _ _ _).1.trans q,(Y.ext hm F).put,by simp;omega⟩;rw [dR];exact lU (λ t=>(D t).mono F.imm F.hs) (aKV M ob' (u,A,m.2.2++ys)) λ d' e=>q▸N p (by rw [b];simp) d' e
   .obtain ⟨n⟩:=n u A;exact mY (rd:=E.rd) (Q:=QR E fn g M0 ob0 ap w0 ks) (K:=dD E fn g ks) (Kp:=jE E fn g) hE (λ o v ac l a w h1 y=>f o v ac l a w h1 y) (λ fr ac a w h1 y=>hq fr ac a w h1 y) l2 (l1.length+1) _ _ a w (λ p hp=>N p (by rw [b];simp [hp])) n hs
  rw [b];exact uX (rd:=E.rd) (Q:=QR E fn g M0 ob0 ap w0 ks) (Kp:=jE E fn g) hE (λ o v ac l a w h1 y=>f o v ac l a w h1 y) H l1 0 fr ac a w (λ p hp=>N p (by rw [b];simp [hp])) h hs
def To.objTo{st:bf}{fr:ar}{ac:au}(k:Nat){x x':ab}(t:aB ac k=x)(u:x≠ .dead)(f:x.owns=true)(A:∀ M ob w hs,(∀ b,b∈blk hs->b<w.heap.size)->hD M ob w hs x->hD M ob w hs x')
  (h:To E fn g (.code st fr (bM ac k x'))):To E fn g (.code st fr ac):=
 .mk λ s M0 ob0 ap w0 a w hst hs=>by
  obtain ⟨M,ob,d,hm,r,z,v,B⟩:=hs;have e:=bF t u;refine h.rec λ h=>h s M0 ob0 ap w0 a w hst ?_;rw [aP e];have p:=(Ab.1 e).1;have n:∀ {i b},aG ob (ac.set k x') i b->aG ob ac i b:=λ{i b} ⟨c,hs,e1,e2,e3,e4⟩=>by
   by_cases l:i=k
   .subst l;exact ⟨x,hs,e,f,e3,e4⟩
   .rw [Bb (Ej l)] at e1;exact ⟨c,hs,e1,e2,e3,e4⟩
  refine ⟨M,ob,⟨d.imm,d.new,d.hs,d.os,d.tape,d.output,d.size,d.keep,λ i b q=>d.fresh i b (n q)⟩,⟨hm.imm,by simpa using hm.len,λ i c m=>?_,λ i b q=>hm.lt i b (n q),λ i j b h1 o=>hm.inj i j b (n h1) (n o)⟩,r,z,v,by simp;omega⟩;by_cases l:i=k
  .subst l;rw [Au p] at m;cases m;obtain ⟨hs,h1,o⟩:=hm.obj i x e;exact ⟨hs,h1,A _ _ _ _ (λ b y=>hm.lt i b ⟨x,hs,e,f,h1,y⟩) o⟩
  .rw [Bb (Ej l)] at m;exact hm.obj i c m
def To.beginF{st:bf}{fr:ar}{ac:au}(sz:Nat)(e:TypeId)(h:To E fn g (.code st fr (kP ac (.bun 0 (mK sz e []))))):To E fn g (.code st fr ac):=
 .mk λ p M0 ob0 ap w0 a w hst hs=>by
  obtain ⟨M,ob,r,hm,n,z,x,A⟩:=hs;refine h.rec λ h=>h p M0 ob0 ap w0 a w hst ?_;rw [nV];have o:blk [eD []]=[]:=eJ _;obtain ⟨u,y⟩:=hm.snoc (c:=.bun 0 (mK sz e [])) (hs:=[eD []]) (λ ob _=>⟨rfl,[],rfl,λ b o=>by simp at o,λ i m h=>by simp at h,λ i j m B b h=>by simp at h,λ b=>⟨λ h=>by simp at h,λ⟨i,m,h,_⟩=>by simp at h⟩⟩) (λ b h=>by simp_all) (λ k b _=>by simp_all)
  have d:dJ ob (ob++[[eD []]]):=λ j l s=>⟨l,by rw [Ag (Ab.1 s).1];exact s,Cn _⟩
  have f:Ext M ob ac w M (ob++[[eD []]]) (ac++[.bun 0 (mK sz e [])]) w:=⟨λ_ _ _ h=>h,λ_ _ _ h=>.inl h,d,rfl,rfl,rfl,Bd _,λ_ _ _=>rfl,λ k b v=>by
   rcases y k b v with ⟨_,q⟩ | ⟨_,q⟩
   .exact .inl ⟨k,q⟩
   .rw [o] at q;simp at q⟩
  exact ⟨M,_,r.trans f,u,λ t=>(n t).mono (λ_ _ _ h=>h) d,z,x.ext hm f,by simp;omega⟩
def aHD{M:Imm}{ob:Hs}{w:World}{hs:ba}{gg sz:Nat}{e:TypeId}{d:List Hm}(h:hD M ob w hs (.bun gg (mK sz e d))):hD M ob w hs (.bun gg (mK sz e (d++[(none,0,[])]))):=by
 obtain ⟨h1,bs,f,h3,o,n,k⟩:=h;have get:∀ {i:Nat} {m:Hm},(d++[((none,0,[]):Hm)])[i]? =some m->d[i]? =some m\/(i=d.length/\m=(none,0,[])):=λ{i m} a=>by
  by_cases hl:i<d.length
  .rw [Ag hl] at a;exact .inl a
  .have f:i=d.length:=by have:=(Ab.1 a).1;simp at this;omega
   subst f;rw [Ak s_] at a;simp at a;exact .inr ⟨rfl,a.symm⟩
 refine ⟨h1,bs,f,h3,λ i m a=>?_,λ i j m q b a g c l=>?_,λ b=>⟨λ p=>?_,λ⟨i,m,a,c⟩=>?_⟩⟩
 .rcases get a with a | ⟨_,rfl⟩
  .exact o i m a
  .exact dM.nil sz e
 .rcases get a with a | ⟨_,rfl⟩
  .rcases get g with g | ⟨_,rfl⟩
   .exact n i j m q b a g c l
   .cases l
  .cases c
 .obtain ⟨i,m,a,c⟩:=(k b).1 p;exact ⟨i,m,by rw [Ag (Ab.1 a).1];exact a,c⟩
 .rcases get a with a | ⟨_,rfl⟩
  .exact (k b).2 ⟨i,m,a,c⟩
  .cases c
def aF4{M:Imm}{ob:Hs}{w:World}{hs:ba}{gg:Nat}{e:TypeId}{d:List Hm}(h:hD M ob w hs (.row gg 1 e (d.map hmA++[.nilslice]))):hD M ob w hs (.row gg 1 e ((d++[(none,0,[])]).map hmA)):=by
 obtain ⟨h1,v,i,cv,r,p,t,g,k,s⟩:=h;refine ⟨h1,v,i,cv,by simpa using r,p,λ x b=>?_,λ q c o=>?_,k,s⟩
 .simp only [Ca] at b;obtain ⟨m,_,rfl⟩:=b;rfl
 .have one:∀ {l:ay} {q:Nat} {c:aa},(∀ x∈l,x.cells=[x])->(aH 1 l q=some c↔l[q]? =some c):=λ{l q c} hl=>by
   unfold aH;rw [Il,Jc];cases f:l[q]? with
   | none=>simp
   | some x=>simp [hl x (Av f)]
  have a:=(one (λ x b=>by simp only [Ca] at b;obtain ⟨m,_,rfl⟩:=b;rfl)).1 o;rw [Bm] at a;by_cases hl:q<d.length
  .rw [Ag q_] at a
   exact g q c ((one (λ x b=>by
    simp only [Ba,Ca,Dj] at b
    rcases b with ⟨m,_,rfl⟩ | rfl<;>rfl)).2 (by rw [Ag q_];exact a))
  .have f:q=d.length:=by have:=(Ab.1 a).1;simp at this;omega
   subst f;rw [Ak s_] at a;simp at a
   obtain ⟨u,n,j⟩:=g d.length .nilslice ((one (λ x b=>by
    simp only [Ba,Ca,Dj] at b
    rcases b with ⟨m,_,rfl⟩ | rfl<;>rfl)).2 s_)
   refine ⟨u,n,?_⟩;subst a;cases j;exact .hsl _ _ _
end
section
variable {M:Imm} {ob:Hs} {ac:au} {w:World}
def Mem.famFreeze(h:Mem M ob ac w){k gg sz:Nat}{e:TypeId}{r:List Hm}(z:ac[k]? =some (.bun gg (mK sz e r))):
  ∃ M' ob',Mem M' ob' (ac.set k (.bun (gg+1) (mK sz e []))) w/\Ext M ob ac w M' ob' (ac.set k (.bun (gg+1) (mK sz e []))) w/\∀ (i:Nat) m,r[i]? =some m->Rep M' [] (hmV m) (.slice sz m.2.2 .no):=by
 obtain ⟨f,G,hl,bs,D,K,h1,J,h3⟩:=h.obj k _ z;have n:blk f=bs:=(eG hl D).trans (eJ _)
 let M':Imm:=λ b o y=>M b o y\/∃ (i:Nat) (m:Hm),r[i]? =some m/\(hmV m).ownBlock=some b/\aH sz m.2.2 o=some y
 have l:∀ b o y,M b o y->M' b o y:=λ_ _ _ h=>.inl h
 have c:=h.turn (M':=M') (w':=w) (x':=.bun (gg+1) (mK sz e [])) (hs':=f++[eD []]) z G ⟨_,rfl⟩ (λ e=>by cases e) l (λ b o y a=>by
   rcases a with a | ⟨i,m,p,g,_⟩
   .exact .inl a
   .exact .inr (.inl ⟨rfl,by rw [n];exact (h3 b).2 ⟨i,m,p,g⟩⟩)) (λ b o y a=>by
   rcases a with a | ⟨i,m,p,g,s⟩
   .obtain ⟨u,I,H,F⟩:=h.imm b o y a;exact ⟨u,I,H,F.monoM l⟩
   .obtain ⟨cv,q,v,B,x,_⟩:=h1 i m p;obtain ⟨u,A,C⟩:=x o y s
    exact ⟨u,fK q g A,v u (Av A),C.monoM l⟩) (λ_ _ _=>rfl) rfl rfl rfl (Bd _)
  (λ_=>⟨by simp [hl],[],by rw [<-hl];simp,λ b n=>by simp at n,λ i m h=>by simp at h,λ i j m L b h=>by simp at h,λ b=>⟨λ h=>by simp at h,λ⟨i,m,h,_⟩=>by simp at h⟩⟩)
  (λ_ b d=>by
   rw [oS,eJ] at d
   simp at d)
 refine ⟨M',_,c.1,c.2.1,λ i m hm=>?_⟩;obtain ⟨cv,q,v,B,x,_⟩:=h1 i m hm;exact (kD (M:=M) (ob:=[]) q B (t:=.no) trivial).monoM λ b o y a=>by
  rcases a with a | ⟨g,s⟩
  .exact .inl a
  .exact .inr ⟨i,m,hm,g,s⟩
def Mem.objTo(hm:Mem M ob ac w){k:Nat}{x x':ab}(a:ac[k]? =some x)(n:x.owns=true)(o:∀ hs,ob[k]? =some hs->hD M ob w hs x->hD M ob w hs x'):Mem M ob (ac.set k x') w/\Ext M ob ac w M ob (ac.set k x') w:=by
 have l:=(Ab.1 a).1;have f:∀ {i b},aG ob (ac.set k x') i b->aG ob ac i b:=λ{i b} ⟨c,hs,e1,e2,e3,e4⟩=>by
  by_cases d:i=k
  .subst d;exact ⟨x,hs,a,n,e3,e4⟩
  .rw [Bb (Ej d)] at e1;exact ⟨c,hs,e1,e2,e3,e4⟩
 refine ⟨⟨hm.imm,by simpa using hm.len,λ i c e=>?_,λ i b m=>hm.lt i b (f m),λ i j b h1 g=>hm.inj i j b (f h1) (f g)⟩,⟨λ_ _ _ h=>h,λ_ _ _ h=>.inl h,dJ.refl _,rfl,rfl,rfl,Bd _,λ_ _ _=>rfl,λ i b m=>.inl ⟨i,f m⟩⟩⟩;by_cases d:i=k
 .subst d;rw [Au l] at e;cases e;obtain ⟨hs,h1,g⟩:=hm.obj i x a;exact ⟨hs,h1,o _ h1 g⟩
 .rw [Bb (Ej d)] at e;exact hm.obj i c e
end
def ER{l:ay}{q:Nat}{c:aa}(hl:∀ x∈l,x.cells=[x]):aH 1 l q=some c↔l[q]? =some c:=by
 unfold aH;rw [Il,Jc];cases a:l[q]? with
 | none=>simp
 | some x=>simp [hl x (Av a)]
def To.famFrz{E:Env}{fn:Func}{g:Goal}{st:bf}{fr:ar}{ac:au}(k r:Nat){gg o sz:Nat}{e p:TypeId}{l:List Hm}(K:aB ac k= .bun gg (mK sz e l))(s:aB ac r= .row o 1 p (l.map hmA))
  (h:To E fn g (.code st fr (bM (bM ac k (.bun (gg+1) (mK sz e []))) r (.row o 1 p (l.map λ m=>.slice sz m.2.2 .no))))):To E fn g (.code st fr ac):=
 .mk λ A M0 ob0 ap w0 a w hst hs=>by
  obtain ⟨M,ob,B,hm,z,T,O,W⟩:=hs;have d:=bF K s_;have f:=bF s s_;have y:k≠r:=λ e=>by simp_all
  refine h.rec λ h=>h A M0 ob0 ap w0 a w hst ?_;rw [aP d];have i:(ac.set k (.bun (gg+1) (mK sz e [])))[r]? =some (.row o 1 p (l.map hmA)):=by rw [Bb y];exact f
  rw [aP i];obtain ⟨M',ob',J,Q,P⟩:=hm.famFreeze d;obtain ⟨C,I⟩:=J.objTo (x':=.row o 1 p (l.map λ m=>.slice sz m.2.2 .no)) i rfl λ hs _ ⟨h1,v,D,cv,H,S,V,R,U,F⟩=>by
   refine ⟨h1,v,D,cv,by simpa using H,S,λ x b=>?_,λ q c N=>?_,U,F⟩
   .simp only [Ca] at b;obtain ⟨m,_,rfl⟩:=b;rfl
   .have j:=(ER (λ x b=>by simp only [Ca] at b;obtain ⟨m,_,rfl⟩:=b;rfl)).1 N;rw [Bg] at j;obtain ⟨m,n,rfl⟩:=Cf.1 j;obtain ⟨u,L,G⟩:=R q (hmA m) ((ER (λ x b=>by simp only [Ca] at b;obtain ⟨m,_,rfl⟩:=b;rfl)).2 (by rw [Bg,n];rfl));exact ⟨u,L,by rw [VY G];exact P q m n⟩
  have X:=Q.trans I;have:=X.lens;have:=C.len;exact ⟨M',ob',B.trans X,C,λ t=>(z t).mono X.imm X.hs,T,O.ext hm X,by simp;omega⟩
def To.handAt{E:Env}{fn:Func}{g:Goal}(hE:ae E)(n:Nat){id:Nat}{ops:Array Oper}(tab:az){ks:bf}{fr:ar}{ac:au}{p:Oper}{s x:Operand}{t b:TypeId}(c:ops.toList[n]? =some p)
  (hp:p.op= .call {callee:=.builtin .append,args:= #[s,x],argTypes:= #[t,b]}) (d:p.guard=none)
  (h:eX E ops.toList (HandA E fn g ops.toList tab ks n p.dst s x t b (ops.toList.drop (n+1))) (jE E fn g) 0 (ops.toList.take n) fr ac):To E fn g (.code (.code (.region id ops false)::ks) fr ac):=by
 have a:=(Ab.1 c).1;refine To.handA hE (tab:=tab) (l1:=ops.toList.take n) (l2:=ops.toList.drop (n+1)) (p:=p) ?_ hp d ?_
 .conv=>lhs;rw [<-Bo n ops.toList,Ae a]
  grind
 .rw [Dn,Gr (Nat.le_of_lt a)];exact h
def zU(r:Nat):Code->Option Code
 | .region id ops dr=>bif Ax id r then some (.region id ops dr) else none
 | .seq a b=>(match zU r a with | some x=>some x | none=>zU r b)
 | .cond _ a b=>(match zU r a with | some x=>some x | none=>zU r b)
 | .block _ b=>zU r b
 | .loop b=>zU r b
 | _=>none
def nC(fn:Func)(r:Nat):bf:=.code (match zU r (dA fn) with | some c=>c | none=>.skip)::dB fn r
def To.ofC{E:Env}{fn:Func}{g:Goal}{ks:bf}{fr:ar}{ac:au}(h:To E fn g (.code ks fr ac)):To E fn g (.head ks fr ac):=h.rec λ h=>.mk h
def To.toC{E:Env}{fn:Func}{g:Goal}{ks:bf}{fr:ar}{ac:au}(h:To E fn g (.head ks fr ac)):To E fn g (.code ks fr ac):=h.rec λ h=>.mk h
section
variable {E:Env} {all:bb} {tab:az} {L0:Nat}
end
section
variable {E:Env} {ops:Array Oper} {tab:az} {tl L0:Nat} {Kp:(Nat->aa)->aa->au->Prop} {Q:AS->Prop}
end
section
variable {E:Env} {ops:Array Oper} {tab:az} {tl L0:Nat} {Kp:(Nat->aa)->aa->au->Prop} {Kq:ar->au->Prop} {Q:AS->Prop}
end
section
variable {rd:Option Nat} {M0:Imm} {ob0:Hs} {ap:au} {w0:World} {sz:Nat} {dfs:List (Nat×ay)} {E:Env} {ops:Array Oper} {Q:Exit->Act->World->Prop} {K:AS->Prop} {Kp:(Nat->aa)->aa->au->Prop} {tl L0:Nat} {tab:az}
end
section
variable {E:Env} {ops:Array Oper} {tab:az} {tl L0:Nat} {Kp:(Nat->aa)->aa->au->Prop} {Kg:ar->au->Prop}
def LI.up{n m:Nat}{ac:au}{br:List (Nat×Nat)}(h:LI L0 n ac br)(b:n<=m):LI L0 m ac br:=⟨h.low,h.all,λ i k a=>by have:=h.lt i k a;omega⟩
end
def OB(A tab:az)(n t:Nat):Nat->bb->Bool
 | _,[]=>false
 | i,p::r=>(match p.dst with | some d=>Ax d t&&(tJ i A&& !cL (cR tab n) i) | none=>false)||OB A tab n t (i+1) r
def evP(A tab:az)(all:bb)(n:Nat)(fr:ar):Operand->aa
 | .tmp t=>bif OB A tab n t 0 all then .undef else aW fr t
 | x=>ev fr x
def A3(A:az)(t:Nat):Nat->bb->Bool
 | _,[]=>false
 | i,p::r=>(match p.dst with | some d=>Ax d t&&tJ i A | none=>false)||A3 A t (i+1) r
def gP(A:az)(all:bb)(fr:ar):Nat->aa:=λ t=>bif A3 A t 0 all then .undef else aW fr t
def wM(E:Env)(A tab:az)(all:bb)(fr:ar)(ac:au):az->Prop
 | []=>True
 | i::r=>(match nth all i with
   | some p=>(match p.guard with
    | none=>(match p.dst with
     | some d=>eop E (dG E p.dst) (aM ac) (aB ac) (evP A tab all i fr) p.op p.type= .val (aW fr d)
     | none=>False)
    | some _=>False)
   | none=>False)/\wM E A tab all fr ac r
def qF(tab:az)(n:Nat):az->az
 | []=>[]
 | i::r=>bif cL (cR tab n) i then qF tab n r else i::qF tab n r
def MT(fr:ar)(d:Option Nat)(v:aa)(k:ar->Prop):Prop:=
 match d with
 | none=>k fr
 | some d=>CR fr d v k
def CQ(fr:ar)(d:Option Nat)(v:aa)(k:ar->Prop):MT fr d v k=k (kV fr d v):=by
 cases d with
 | none=>rfl
 | some d=>exact kW fr d v k
def TF(E:Env)(A tab:az)(all:bb)(K:ar->au->Prop)(Kp:(Nat->aa)->aa->au->Prop):az->az->ar->au->Prop
 | [],U,fr,ac=>wM E A tab all fr ac U/\K fr ac
 | n::rest,U,fr,ac=>wM E A tab all fr ac U/\(match nth all n with
   | none=>False
   | some p=>(match p.guard with
    | some _=>False
    | none=>orF E.P ac (λ v ao=>KD 5 v λ v=>ODL ao λ ao=>MT fr p.dst v λ fr=>TF E A tab all K Kp rest (qF tab n U) fr ao) (Kp (gP A all fr))
            (eop E (dG E p.dst) (aM ac) (aB ac) (evP A tab all n fr) p.op p.type)))
def zH(E:Env)(A tab:az)(all:bb)(ac:au):az->ar->(ar->Prop)->Prop
 | [],fr,k=>k fr
 | i::r,fr,k=>match nth all i with
  | some p=>(match p.dst with
   | some d=>(match eop E (dG E p.dst) (aM ac) (aB ac) (evP A tab all i fr) p.op p.type with
    | .val v=>KD 5 v λ v=>CR fr d v λ fr=>zH E A tab all ac r fr k
    | _=>False)
   | none=>False)
  | none=>False
def chB(tab:az):az->Bool
 | []=>true
 | n::r=>(r.all λ j=>cL (cR tab j) n)&&chB tab r
def aD9(A B:az):Nat->Bool
 | 0=>true
 | n+1=>(tJ n A||tJ n B)&&aD9 A B n
def aCo(sz:Nat):az->Bool
 | []=>true
 | n::r=>(Ff n sz&& !tJ n r)&&aCo sz r
def aI9(A B tab:az)(sz:Nat):Bool:=((aCo sz (A++B)&&aD9 A B sz)&&chB tab B)
def qD(tab:az)(n:Nat):az->Bool
 | []=>true
 | j::r=>!(cL (cR tab n) j)&&qD tab n r
def FF(n:Nat):az->az
 | []=>[]
 | j::r=>bif Ax j n then r else j::FF n r
def tW(tab a:az)(f:Nat->Prop):az->Prop
 | []=>True
 | n::r=>bif qD tab n a then f n/\tW tab a f r else tW tab a f r
def B8(E:Env)(A tab:az)(all:bb)(K:ar->au->Prop)(Kp:(Nat->aa)->aa->au->Prop):az->az->az->ar->au->Prop
 | [],_,U,fr,ac=>wM E A tab all fr ac U/\K fr ac
 | _::F,Bs,U,fr,ac=>wM E A tab all fr ac U/\tW tab Bs (λ n=>match nth all n with
   | none=>False
   | some p=>(match p.guard with
    | some _=>False
    | none=>orF E.P ac (λ v ao=>KD 5 v λ v=>ODL ao λ ao=>MT fr p.dst v λ fr=>B8 E A tab all K Kp F (FF n Bs) (qF tab n U) fr ao) (Kp (gP A all fr))
      (eop E (dG E p.dst) (aM ac) (aB ac) (evP A tab all n fr) p.op p.type))) Bs
def T5(A B tab:az)(sz:Nat):Bool:=aCo sz (A++B)&&aD9 A B sz
def D3{tab:az}{n:Nat}:∀ {l:az},(∀ j∈l,cL (cR tab n) j=false)->qD tab n l=true
 | [],_=>rfl
 | j::r,h=>by unfold qD;rw [h j (Ao ..),D3 λ k a=>h k (Ay _ a)];rfl
def I7(n:Nat):∀ l:az,FF n l=l.erase n
 | []=>rfl
 | j::r=>by unfold FF;rw [List.erase_cons,I7 n r];simp
def xE{tab b:az}{f:Nat->Prop}{n:Nat}(d:qD tab n b=true):∀ {l:az},tW tab b f l->n∈l->f n
 | [],_,h=>by cases h
 | j::r,h,a=>by
  unfold tW at h;by_cases e:n=j
  .grind
  .have a:=(Aw.1 a).resolve_left e;cases c:qD tab j b with
   | true=>rw [c] at h;exact xE d h.2 a
   | false=>rw [c] at h;exact xE d h a
def EJ{tab a:az}{f:Nat->Prop}:∀ {l:az},(∀ j∈l,qD tab j a=false)->tW tab a f l
 | [],_=>trivial
 | j::r,h=>by unfold tW;rw [h j (Ao ..)];exact EJ λ k b=>h k (Ay _ b)
def yR{A B:az}:∀ {n:Nat},aD9 A B n=true->∀ i,i<n->i∈A\/i∈B
 | 0,_,i,hi=>by omega
 | n+1,h,i,hi=>by
  simp only [aD9,Ad,Fb,lQ] at h;by_cases e:i=n
  .grind
  .exact yR h.2 i o_
def xY{sz:Nat}:∀ {l:az},aCo sz l=true->l.Nodup/\∀ i∈l,i<sz
 | [],_=>⟨Hq,λ i h=>by cases h⟩
 | n::r,h=>by
  simp only [aCo,Ad,Cw,Ju] at h;obtain ⟨h1,b⟩:=xY h.2;refine ⟨Cg.2 ⟨λ hm=>?_,h1⟩,λ i a=>?_⟩
  .have:=lQ.2 hm
   grind
  grind
def yH{A tab:az}{n t:Nat}:∀ {l:bb} {k:Nat},OB A tab n t k l=false->∀ (i:Nat) p,l[i]? =some p->p.dst=some t->(k+i)∈A->cL (cR tab n) (k+i)=true
 | [],_,_,i,p,hi,_,_=>by simp at hi
 | q::r,k,h,i,p,hi,hd,ha=>by
  simp only [OB,Kj] at h;cases i with
  | zero=>
   simp at hi;subst hi;have h1:=h.1;rw [hd] at h1;dsimp only at h1;rw [Nl,Cz,show tJ k A=true from lQ.2 ha,Cz] at h1
   grind
  | succ i=>
   have:=yH (k:=k+1) h.2 i p (by simp_all) hd (by grind)
   grind
def oN{A:az}{t:Nat}:∀ {l:bb} {k:Nat},A3 A t k l=false->∀ (i:Nat) p,l[i]? =some p->(k+i)∈A->p.dst≠some t
 | [],_,_,i,p,hi,_=>by simp at hi
 | q::r,k,h,i,p,hi,ha=>by
  simp only [A3,Kj] at h;cases i with
  | zero=>
   simp at hi;subst hi;intro a;have h1:=h.1;rw [a] at h1;dsimp only at h1;rw [Nl,Cz] at h1;have:=lQ.2 (show k∈A from ha)
   grind
  | succ i=>exact oN (k:=k+1) h.2 i p (by simp_all) (by grind)
def KM{A:az}{t:Nat}:∀ {l:bb} {k:Nat},A3 A t k l=true->∃ (i:Nat) (p:Oper),l[i]? =some p/\(k+i)∈A/\p.dst=some t
 | [],_,h=>by cases h
 | q::r,k,h=>by
  simp only [A3,Fb] at h;rcases h with h | h
  .split at h
   .rename_i d a;rw [Ad,lQ,Nat.beq_eq] at h;exact ⟨0,q,rfl,h.2,by rw [a,h.1]⟩
   .cases h
  .obtain ⟨i,p,h1,b,h3⟩:=KM h;exact ⟨i+1,p,by simp_all,by grind,h3⟩
def NW{E:Env}{A tab:az}{all:bb}{fr:ar}{ac:au}:∀ {U:az},wM E A tab all fr ac U->∀ i∈U,∃ p d,all[i]? =some p/\p.guard=none/\p.dst=some d/\
  eop E (dG E p.dst) (aM ac) (aB ac) (evP A tab all i fr) p.op p.type= .val (aW fr d)
 | [],_,i,a=>by cases a
 | j::r,h,i,a=>by
  rcases Aw.1 a with rfl | a
  .have h1:=h.1;split at h1
   .rename_i p hp;split at h1
    .rename_i c;split at h1
     .rename_i d b;exact ⟨p,d,gX hp,c,b,h1⟩
     grind
    grind
   grind
  .exact NW h.2 i a
def yN{tab:az}{n i:Nat}:∀ {U:az},i∈U->cL (cR tab n) i=false->i∈qF tab n U
 | [],h,_=>by cases h
 | j::r,h,ht=>by
  unfold qF;rcases Aw.1 h with rfl | h
  .grind
  .have:=yN h ht
   grind
def aAK{E:Env}{A tab:az}{all:bb}{K:ar->au->Prop}{Kp:(Nat->aa)->aa->au->Prop}{F a U:az}{fr:ar}{ac:au}(h:B8 E A tab all K Kp F a U fr ac):wM E A tab all fr ac U:=by
 cases F with
 | nil=>exact h.1
 | cons n r=>exact h.1
def HE{tab:az}{n j:Nat}(a:cL (cR tab n) j=true):∀ {l:az},j∈l->qD tab n l=false
 | k::r,h=>by
  unfold qD;rcases Aw.1 h with e | h
  .grind
  .rw [HE a h,Es]
def LN{E:Env}{A tab:az}{all:bb}{K:ar->au->Prop}{Kp:(Nat->aa)->aa->au->Prop}:∀ {B U:az} {fr:ar} {ac:au},chB tab B=true->TF E A tab all K Kp B U fr ac->B8 E A tab all K Kp B B U fr ac
 | [],_,_,_,_,h=>h
 | n::r,U,fr,ac,hb,h=>by
  simp only [chB,Ad,Cr] at hb;refine ⟨h.1,?_⟩
  have rest:tW tab (n::r) (λ a=>match nth all a with
   | none=>False
   | some p=>(match p.guard with
    | some _=>False
    | none=>orF E.P ac (λ v ao=>KD 5 v λ v=>ODL ao λ ao=>MT fr p.dst v λ fr=>B8 E A tab all K Kp r (FF a (n::r)) (qF tab a U) fr ao) (Kp (gP A all fr))
      (eop E (dG E p.dst) (aM ac) (aB ac) (evP A tab all a fr) p.op p.type))) r:=EJ λ j b=>HE (hb.1 j b) (Ao ..)
  unfold tW;cases qD tab n (n::r) with
  | false=>exact rest
  | true=>
   refine ⟨?_,rest⟩;have h:=h.2;split at h
   .exact h.elim
   .rename_i p hp;split at h
    .exact h.elim
    .rename_i c
     try rw [c]
     try dsimp only
     refine iS (λ v o h=>?_) h;rw [kT,pW,CQ] at h⊢;have e:FF n (n::r)=r:=by unfold FF;simp
     rw [e];exact LN hb.2 h
section
variable {rd:Option Nat} {M0:Imm} {ob0:Hs} {ap:au} {w0:World} {sz:Nat} {dfs:List (Nat×ay)} {E:Env} {ops:Array Oper} {Q:Exit->Act->World->Prop} {K:ar->au->Prop} {Kp:(Nat->aa)->aa->au->Prop} {A tab:az}
def SM(M0:Imm)(ob0:Hs)(ap:au)(w0:World)(sz:Nat)(dfs:List (Nat×ay))(ops:Array Oper)(b:az)(fr:ar)(ac:au)(a:Act)(w:World):Prop:=
 ∃ M ob,Ext M0 ob0 ap w0 M ob ac w/\Mem M ob ac w/\(∀ t,(∀ i∈b,∀ p,ops[i]? =some p->p.dst≠some t)->Rep M ob (a.tmps.getD t undef) (aW fr t))/\a.tmps.size=sz/\cV w0 w M ob a.defers dfs/\ob0.length<=ac.length
def vQ{a:Array Bool}{j:Nat}(h:j∈Dy .any ops a)(d:a.size=ops.size):j<ops.size/\a.getD j false=false:=by obtain ⟨c,q,e,_⟩:=mem_ready.1 h;have b:=(Ey.1 e).1;rw [Bk,Hb o_] at c⊢;exact ⟨b,by simpa using c⟩
def lL(c:TabSp ops tab){a:Array Bool}(b:a.size=ops.size):∀ (n j:Nat),j<n->j<ops.size->a.getD j false=false->Dy .any ops a≠[]
 | 0,j,h,_,_=>by omega
 | n+1,j,h,hj,hl=>λ i=>by
  obtain ⟨p,hp⟩:∃ p,ops[j]? =some p:=⟨ops[j],Hb hj⟩
  have:j∈Dy .any ops a:=mem_ready.2 ⟨by
   grind,p,hp,λ e g d=>by
    have f:=c.back j p hp e g d;cases k:a.getD e.on false with
    | true=>rfl
    | false=>exact absurd i (lL c b n e.on o_ o_ k)⟩
  grind
def YT(hE:ae E)(ht:TabSp ops tab)(hd:∀ (i:Nat) p,ops[i]? =some p->∀ d,p.dst=some d->d<sz)
  (hp:∀ g v ac ch a w,Kp g v ac->PP M0 ob0 ap w0 sz dfs g v ac ch a w->Q (.panic ch) a w) (hq:∀ fr ac a w,K fr ac->SS M0 ob0 ap w0 sz dfs fr ac a w->Q .normal a w):
  ∀ (J:Nat) (b:Array Bool) (F m z U:az) (fr:ar) (ac:au) (a:Act) (w:World),F.length=m.length->J=m.length+z.length->b.size=ops.size->mJ tab b->
   (∀ i,i<ops.size->(b.getD i false=false↔i∈m\/i∈z))->(m++z).Nodup->(∀ i∈m,i<ops.size)->(∀ i∈z,i∈A/\i∈U/\i<ops.size)->
   B8 E A tab ops.toList K Kp F m U fr ac->SM M0 ob0 ap w0 sz dfs ops z fr ac a w->wpAnyIn (fen rd) 0 E.P .any ops Q J b a w:=by
 intro J;induction J with
 | zero=>
  intro b F m z U fr ac a w hF hf O hc k C R D h hs;have e1:m=[]:=Az o_;have e2:z=[]:=Az o_;subst e1 e2;obtain rfl:=Az hF;refine ⟨Ht.2 λ j c=>?_,hq fr ac a w h.2 ?_⟩
  .obtain ⟨h1,W⟩:=vQ c O;rcases (k j h1).1 W with q | q<;>cases q
  .obtain ⟨M,ob,Y,hm,N,r⟩:=hs;exact ⟨M,ob,Y,hm,λ t=>N t (λ i hi=>absurd hi Hk),r⟩
 | succ J ih=>
  intro b F m z U fr ac a w hF hf O hc k C R D h hs;refine ⟨λ h0=>?_,λ i hi=>?_⟩
  .exfalso;cases m with
   | cons n r=>
    have hn:=R n (Ao ..);exact lL ht O (n+1) n o_ hn ((k n hn).2 (.inl (Ao ..))) h0
   | nil=>
    cases z with
    | nil=>simp at hf
    | cons n r=>
     have hn:=(D n (Ao ..)).2.2;exact lL ht O (n+1) n o_ hn ((k n hn).2 (.inr (Ao ..))) h0
  .obtain ⟨hilt,hil⟩:=vQ hi O;obtain ⟨hc',T⟩:=hc.step ht hi;obtain ⟨M,ob,Y,hm,N,I,hdf,h0⟩:=hs;have hl:=hm.len;have hev:∀ x,Rep M ob (a.eval x) (evP A tab ops.toList i fr x):=λ x=>by
    cases x with
    | const v=>exact oO v
    | global g=>exact .undef _
    | func f=>exact .func (.func f) [] [] [] [] rfl rfl (λ i v a h=>by simp at h) (λ i v a h=>by simp at h)
    | tmp t=>
     show Rep M ob _ (bif OB A tab i t 0 ops.toList then .undef else aW fr t);cases hh:OB A tab i t 0 ops.toList with
     | true=>exact .undef _
     | false=>
      refine N t λ j c p hp s=>?_;have h1:=yH hh j p q_ s (by rw [Bp];exact (D j c).1);rw [Bp] at h1;have W:=T j h1;rw [(k j (D j c).2.2).2 (.inr c)] at W;cases W
   have L:∀ (Bs' UA':az),(∀ j,(j∈Bs'\/j∈UA')↔(j∈m\/j∈z)/\j≠i)->∀ j,j<ops.size->((b.setIfInBounds i true).getD j false=false↔j∈Bs'\/j∈UA'):=λ Bs' UA' he j c=>by
    rw [he j];by_cases e:j=i
    .subst e;simp;omega
    .rw [getD_set_ne false (Ej e),k j c];simp [e]
   have hsz':(b.setIfInBounds i true).size=ops.size:=by simp;omega
   rcases (k i hilt).1 hil with hB | hA
   .-- one of the row
    cases F with
    | nil=>rw [Az hF.symm] at hB;cases hB
    | cons n0 F=>
     have hfree:qD tab i m=true:=D3 λ j c=>by
      cases hq2:cL (cR tab i) j with
      | false=>rfl
      | true=>
       have W:=T j hq2;rw [(k j (R j c)).2 (.inl c)] at W;cases W
     obtain ⟨hok,h⟩:=h;have h:=xE hfree h hB;split at h
     .exact h.elim
     .rename_i p hnp;have H:ops[i]? =some p:=by simpa using gX hnp
      split at h
      .exact h.elim
      .rename_i hg
       have h:orF E.P ac (λ v ao=>B8 E A tab ops.toList K Kp F (FF i m) (qF tab i U) (kV fr p.dst v) ao) (Kp (gP A ops.toList fr)) (eop E (dG E p.dst) (aM ac) (aB ac) (evP A tab ops.toList i fr) p.op p.type):=
        iS (λ v o h=>by rw [kT,pW,CQ] at h;exact h) h
       have hw:Fe p (yielded ops a.tmps)=true:=by unfold Fe;rw [hg]
       unfold wpOpIn;rw [H];dsimp only;rw [if_pos hw];refine (sK hE hm hev h).wpIn (iJ h) (λ u w' ⟨M',ob',L',G,Z,x3⟩=>?_) (λ ch w' ⟨M',ob',L',G,Z,x3⟩=>?_)
       .rcases x3 with ⟨u',v,e,hr,hk⟩ | ⟨ch,v,e,_⟩
        .cases e;have:=G.lens;have:=Z.len;have hndB:m.Nodup:=(Bt.1 C).1;have l:∀ j,j∈m.erase i↔j≠i/\j∈m:=λ j=>hndB.mem_erase_iff;have hlen:(m.erase i).length+1=m.length:=by rw [Lv hB];have:=Mn hB;omega
         have V:i∉z:=λ hb=>(Bt.1 C).2.2 i hB i hb rfl;rw [I7] at hk
         refine ih (b.setIfInBounds i true) F (m.erase i) z (qF tab i U) _ L' _ w' (by simp at hF;omega) o_ hsz' hc' (L (m.erase i) z λ j=>?_) ?_ (λ j c=>R j ((l j).1 c).2) (λ j c=>?_) hk
          ⟨M',ob',Y.trans G,Z,λ t hmt=>?_,(dK _ _ _).1.trans I,(hdf.ext hm G).put,by omega⟩
         .rw [l j];constructor
          .rintro (⟨B,c⟩ | c)
           .exact ⟨.inl c,B⟩
           .exact ⟨.inr c,λ e=>V (e▸c)⟩
          .rintro ⟨c | c,B⟩
           .exact .inl ⟨B,c⟩
           .exact .inr c
         .refine Bt.2 ⟨hndB.erase i,(Bt.1 C).2.1,λ x Y y hy=>?_⟩;exact (Bt.1 C).2.2 x ((l x).1 Y).2 y hy
         .obtain ⟨k1,k2,k3⟩:=D j c;refine ⟨k1,yN k2 ?_,k3⟩;cases hq2:cL (cR tab i) j with
          | false=>rfl
          | true=>
           have W:=T j hq2;rw [(k j k3).2 (.inr c)] at W;cases W
         .rw [dR];unfold jC;by_cases s:p.dst=some t
          .rw [if_pos s];have hlt:t<a.tmps.size:=I▸hd i p H t s;rw [s];simp only [Act.put];rw [Bk,Ek hlt];exact hr
          .rw [if_neg s];have hold:=(N t hmt).mono G.imm G.hs;cases S:p.dst with
           | none=>exact hold
           | some d=>
            have B:d≠t:=λ e=>s (by rw [S,e]);simp only [Act.put];rw [Bk,Ep B,<-Bk];exact hold
        .cases e
       .rcases x3 with ⟨u',v,e,_⟩ | ⟨ch',v,e,hr,hk⟩
        .cases e
        .cases e;have:=G.lens;have:=Z.len;refine hp _ v L' ch a w' hk ⟨M',ob',Y.trans G,Z,hr,λ t=>?_,I,hdf.ext hm G,by omega⟩;unfold gP;cases hda:A3 A t 0 ops.toList with
         | true=>exact .undef _
         | false=>
          exact (N t λ j c q X=>oN hda j q q_ (by rw [Bp];exact (D j c).1)).mono G.imm G.hs
   .-- one that looks
    obtain ⟨k1,k2,k3⟩:=D i hA;obtain ⟨p,d,H,hg,S,hev2⟩:=NW (aAK h) i k2;have H:ops[i]? =some p:=by simpa using H
    have hor:orF E.P ac (λ v ao=>v=aW fr d/\ao=ac) (λ_ _=>False) (eop E (dG E p.dst) (aM ac) (aB ac) (evP A tab ops.toList i fr) p.op p.type):=by rw [hev2];exact ⟨rfl,rfl⟩
    have hw:Fe p (yielded ops a.tmps)=true:=by unfold Fe;rw [hg]
    unfold wpOpIn;rw [H];dsimp only;rw [if_pos hw];refine (sK hE hm hev hor).wpIn (iJ hor) (λ u w' ⟨M',ob',L',G,Z,x3⟩=>?_) (λ ch w' ⟨M',ob',L',G,Z,x3⟩=>?_)
    .rcases x3 with ⟨u',v,e,hr,hk1,hk2⟩ | ⟨ch,v,e,_⟩
     .cases e;subst hk1 hk2;have hlt:d<a.tmps.size:=I▸hd i p H d S;have hnod:z.Nodup:=(Bt.1 C).2.1;have l:∀ j,j∈z.erase i↔j≠i/\j∈z:=λ j=>hnod.mem_erase_iff;have hlen:(z.erase i).length+1=z.length:=by rw [Lv hA];have:=Mn hA;omega
      have V:i∉m:=λ hb=>(Bt.1 C).2.2 i hb i hA rfl
      refine ih (b.setIfInBounds i true) F m (z.erase i) U fr L' _ w' hF o_ hsz' hc' (L m (z.erase i) λ j=>?_) ?_ R (λ j c=>D j ((l j).1 c).2) h
       ⟨M',ob',Y.trans G,Z,λ t hmt=>?_,(dK _ _ _).1.trans I,(hdf.ext hm G).put,h0⟩
      .rw [l j];constructor
       .rintro (c | ⟨B,c⟩)
        .exact ⟨.inl c,λ e=>V (e▸c)⟩
        .exact ⟨.inr c,B⟩
       .rintro ⟨c | c,B⟩
        .exact .inl c
        .exact .inr ⟨B,c⟩
      .refine Bt.2 ⟨(Bt.1 C).1,hnod.erase i,λ x Y y hy=>?_⟩;exact (Bt.1 C).2.2 x Y y ((l y).1 hy).2
      .rw [S];simp only [Act.put];by_cases s:d=t
       .subst s;rw [Bk,Ek hlt];exact hr
       .rw [Bk,Ep s,<-Bk];refine (N t λ j c q X=>?_).mono G.imm G.hs;by_cases hji:j=i
        .subst hji;rw [H] at X;cases X;rw [S];simp;omega
        .exact hmt j ((l j).2 ⟨hji,c⟩) q X
     .cases e
    .rcases x3 with ⟨u',v,e,_⟩ | ⟨ch',v,e,hr,hk⟩
     .cases e
     .exact hk.elim
def B2{all:bb}{ac:au}:∀ {l:az} {fr:ar} {k:ar->Prop},zH E A tab all ac l fr k->(∀ i∈l,i∈A)->∃ a,k a/\∀ t,A3 A t 0 all=false->aW a t=aW fr t
 | [],fr,k,h,_=>⟨fr,h,λ t _=>rfl⟩
 | i::r,fr,k,h,hA=>by
  unfold zH at h;split at h
  .rename_i p hp;split at h
   .rename_i d f;split at h
    .rename_i v g;rw [kT,kW] at h;obtain ⟨a,h1,c⟩:=B2 h λ j e=>hA j (Ay _ e);refine ⟨a,h1,λ t b=>?_⟩;rw [c t b,oI];have:=oN b i p (by simpa using gX hp) (by grind)
     grind
    grind
   grind
  grind
end
def To.permT{E:Env}{fn:Func}{g:Goal}(hE:ae E)(A B:az){id:Nat}{ops:Array Oper}{ks:bf}{fr:ar}{ac:au}(hst:T5 A B (gS [] ops.toList) ops.size=true)
  (h:zH E A (gS [] ops.toList) ops.toList ac A fr λ fr=>B8 E A (gS [] ops.toList) ops.toList (λ fr ac=>To E fn g (.code ks fr ac)) (jE E fn g) B B A fr ac):To E fn g (.code (.code (.region id ops true)::ks) fr ac):=
 .mk λ K M0 ob0 ap w0 a w f hs=>by
  simp only [bC,KI.ok,cZ,Ad] at K;obtain ⟨⟨D,T⟩,z⟩:=K;have S:=lC D
  refine KW.code (Q':=QR E fn g M0 ob0 ap w0 ks) ?_ (λ a w h=>h) (λ n a w h=>h) (λ e a w hh=>by cases e<;>first | exact .inl rfl | exact .inr ⟨_,rfl⟩ | exact hh.elim)
  have l:∀ q v ac n a w,jE E fn g q v ac->PP M0 ob0 ap w0 fn.ntmps E.df q v ac n a w->nN E fn M0 ob0 ap w0 g (.panic n) a w:=λ q v ac n a w Z l=>wV Z f l;have y:∀ fr ac a w,To E fn g (.code ks fr ac)->SS M0 ob0 ap w0 fn.ntmps E.df fr ac a w->KW E.rd E.P (nN E fn M0 ob0 ap w0 g) ks a w:=λ fr ac a w x hs=>x.rec λ x=>x z M0 ob0 ap w0 a w f hs;have U:TabSp ops (gS [] ops.toList):=uK ops (by grind);refine wpIn_region_any hE.mix ?_;simp only [T5,Ad] at hst;obtain ⟨N,X⟩:=hst;obtain ⟨W,H⟩:=xY N;have J:=yR X;obtain ⟨I,h1,o⟩:=B2 h λ i b=>b;have m:(B++A).Nodup:=List.perm_append_comm.nodup_iff.1 W;have c:ops.size=B.length+A.length:=by
   have u:(B++A).length<=ops.size:=by
    have:=(m.sublist (Jn _))
    have h3:(B++A).Subset (Di ops.size):=λ i b=>Ho.2 (H i (by rw [Ba] at b⊢;exact b.symm));have:=m.length_le_of_subset h3;simpa using this
   have r:ops.size<=(B++A).length:=by
    have h3:(Di ops.size).Subset (B++A):=λ i b=>by rw [Ba];exact (J i (Ho.1 b)).symm
    have:=List.nodup_range.length_le_of_subset h3;simpa using this
   simp at u r;omega
  obtain ⟨M,ob,V,hm,O,L⟩:=hs.draw;have k:∀ i,i<ops.size->(Fy ops.size false).getD i false=false:=λ i b=>by rw [Bk,Hb q_];simp
  refine YT (Q:=QR E fn g M0 ob0 ap w0 ks) hE U (λ i p b d F=>S p (Av (i:=i) q_) d F) (λ q v ac n a w h1 o=>l q v ac n a w h1 o) (λ fr ac a w h1 o=>y fr ac a w h1 o) ops.size _ B B A A I ac a _ rfl c s_ (λ j i s _=>?_)
   (λ i b=>⟨λ_=>(J i b).symm,λ_=>k i b⟩) m (λ i b=>H i (Cv _ b)) (λ i b=>⟨b,b,H i (Dc _ b)⟩) h1 ⟨M,ob,V,hm,λ t G=>?_,L⟩
  .by_cases R:j<ops.size
   .rw [k j R] at s;cases s
   .rw [Bk,Mj q_] at s;cases s
  .rw [o t ?_]
   .exact O t
   .cases C:A3 A t 0 ops.toList with
    | false=>rfl
    | true=>
     obtain ⟨i,p,u,r,Y⟩:=KM C;rw [Bp] at r;exact absurd Y (G i r p (by simpa using u))
def B3{E:Env}{A tab:az}{all:bb}{ac:au}{k k':ar->Prop}(a:∀ fr,k fr->k' fr):∀ {l:az} {fr:ar},zH E A tab all ac l fr k->zH E A tab all ac l fr k'
 | [],fr,h=>a fr h
 | i::r,fr,h=>by
  unfold zH at h⊢;split at h
  .rename_i p hp;split at h
   .rename_i d b;split at h
    .rename_i v c;simp only [b,c,kT,kW] at h⊢;exact B3 a h
    omega
   omega
  omega
def To.permAt{E:Env}{fn:Func}{g:Goal}(hE:ae E)(A B:az){id:Nat}{ops:Array Oper}{ks:bf}{fr:ar}{ac:au}(hst:aI9 A B (gS [] ops.toList) ops.size=true)
  (h:zH E A (gS [] ops.toList) ops.toList ac A fr λ fr=>TF E A (gS [] ops.toList) ops.toList (λ fr ac=>To E fn g (.code ks fr ac)) (jE E fn g) B A fr ac):To E fn g (.code (.code (.region id ops true)::ks) fr ac):=by
 unfold aI9 at hst;rw [Ad] at hst;exact To.permT hE A B hst.1 (B3 (λ fr h=>LN hst.2 h) h)
def aY{p q:Prop}(h:p):(true=true->p)/\(true=false->q):=⟨λ_=>h,λ h=>absurd h d_⟩
def aN{p q:Prop}(h:q):(false=true->p)/\(false=false->q):=⟨λ h=>absurd h d_,λ_=>h⟩
def aT{a p q:Prop}[Decidable a](h:decide a=true->p)(b:a:=by omega):(decide a=true->p)/\(decide a=false->q):=⟨h,λ h=>absurd b (of_decide_eq_false h)⟩
def aF{a p q:Prop}[Decidable a](h:decide a=false->q)(b:¬ a:=by omega):(decide a=true->p)/\(decide a=false->q):=⟨λ h=>absurd (of_decide_eq_true h) b,h⟩
def aD{p q:Prop}(h:q)(hp:p:=by first | decide | omega):p/\q:=⟨hp,h⟩
def aL{p q:Prop}(h:q)(hp:p:=by repeat (first | exact trivial | refine Ac rfl ?_)):p/\q:=⟨hp,h⟩
def aJ{k:IntKind}{n:Int}{p q:Prop}(h:p)(h1:cJ k<=n:=by simp only [cJ];omega)(a:n<=bE k:=by simp only [bE];omega):(inR k n/\p)\/q:=.inl ⟨⟨h1,a⟩,h⟩
def gW{E:Env}{fn:Func}{g:Goal}{st:St}(hE:ae E)(h:bS E fn g (To E fn g) 100 st):To E fn g st:=cP hE 100 h
def gN{E:Env}{fn:Func}{g:Goal}{st:St}(hE:ae E)(h:bS E fn g (To E fn g) 100 st)(hs:VA st=true:=by rfl):To E fn g st:=goN hE 100 hs h
def cT{E:Env}{f:FuncId}{fn:Func}{args:ay}{ac:au}{g:Goal}(h:okL args->To E fn g (.code [.code (dA fn)] (frA 0 args) ac))(b:E.df=[]:=by rfl)(k:E.P.funcs[f]? =some fn:=by rfl)(i:fn.body=some (dA fn):=by rfl)
  (a:nP E.P f:=by exact λ_ _=>by rfl) (e:cZ fn.ntmps (dA fn)=true:=by decide+kernel) (j:Fv args.length fn.ntmps=true:=by rfl) (c:uH ac=true:=by rfl) (l:ac.length=g.n0:=by rfl) (d:E.rd=none:=by rfl):aA E.P f args ac g.res g.obs:=
 aA.to b k i a e j c l h d
def tP(z:aa):OR->Prop
 | .val v=>v=z
 | .need p r=>p/\tP z r
 | .idx n f=>∃ i:Nat,n=(i:Int)/\tP z (f i)
 | .elem xs i f=>∃ x,xs[i]? =some x/\tP z (f x)
 | .find es key f=>tP z (f (bR es key))
 | _=>False
def GQ(k:aa->Prop):OR->Prop
 | .val v=>k v
 | .need p r=>p/\GQ k r
 | .idx n f=>∃ i:Nat,n=(i:Int)/\GQ k (f i)
 | .elem xs i f=>∃ x,xs[i]? =some x/\GQ k (f x)
 | .find es key f=>∃ o,bR es key=o/\GQ k (f o)
 | _=>False
def oF{P:Program}{ac:au}{Kp:aa->au->Prop}{z:aa}:∀ {r:OR},tP z r->orF P ac (λ v ao=>v=z/\ao=ac) Kp r
 | .val v,h=>⟨h,rfl⟩
 | .need p r,h=>⟨h.1,oF h.2⟩
 | .idx n f,⟨i,hi,h⟩=>⟨i,hi,oF h⟩
 | .elem xs i f,⟨x,hx,h⟩=>⟨x,hx,oF h⟩
 | .find es key f,h=>⟨_,rfl,oF h⟩
 | .no,h=>h.elim
 | .mkf _ _ _,h=>h.elim
 | .alt _ _ _,h=>h.elim
 | .byte _ _,h=>h.elim
 | .text _,h=>h.elim
 | .born _ _,h=>h.elim
 | .upd _ _ _,h=>h.elim
 | .nilq _ _,h=>h.elim
 | .call _ _,h=>h.elim
 | .pan _,h=>h.elim
def rO{k:aa->Prop}:∀ {r:OR},GQ k r->∃ v,k v
 | .val v,h=>⟨v,h⟩
 | .need p r,h=>rO h.2
 | .idx n f,⟨i,hi,h⟩=>rO h
 | .elem xs i f,⟨x,hx,h⟩=>rO h
 | .find es key f,⟨o,ho,h⟩=>rO h
 | .no,h=>h.elim
 | .mkf _ _ _,h=>h.elim
 | .alt _ _ _,h=>h.elim
 | .byte _ _,h=>h.elim
 | .text _,h=>h.elim
 | .born _ _,h=>h.elim
 | .upd _ _ _,h=>h.elim
 | .nilq _ _,h=>h.elim
 | .call _ _,h=>h.elim
 | .pan _,h=>h.elim
def NV(E:Env)(A tab:az)(all:bb)(fr:ar)(ac:au):az->Prop
 | []=>True
 | i::r=>(match nth all i with
   | some p=>(match p.guard with
    | none=>(match p.dst with
     | some d=>tP (aW fr d) (eop E (dG E p.dst) (aM ac) (aB ac) (evP A tab all i fr) p.op p.type)
     | none=>False)
    | some _=>False)
   | none=>False)/\NV E A tab all fr ac r
def vG(E:Env)(A tab:az)(all:bb)(ac:au):az->ar->(ar->Prop)->Prop
 | [],fr,k=>k fr
 | i::r,fr,k=>match nth all i with
  | some p=>(match p.dst with
   | some d=>GQ (λ v=>KD 5 v λ v=>CR fr d v λ fr=>vG E A tab all ac r fr k) (eop E (dG E p.dst) (aM ac) (aB ac) (evP A tab all i fr) p.op p.type)
   | none=>False)
  | none=>False
def NU{E:Env}{A tab:az}{all:bb}{fr:ar}{ac:au}:∀ {U:az},NV E A tab all fr ac U->∀ i∈U,∃ p d,all[i]? =some p/\p.guard=none/\p.dst=some d/\
  tP (aW fr d) (eop E (dG E p.dst) (aM ac) (aB ac) (evP A tab all i fr) p.op p.type)
 | [],_,i,a=>by cases a
 | j::r,h,i,a=>by
  rcases Aw.1 a with rfl | a
  .have h1:=h.1;split at h1
   .rename_i p hp;split at h1
    .rename_i c;split at h1
     .rename_i d b;exact ⟨p,d,gX hp,c,b,h1⟩
     grind
    grind
   grind
  .exact NU h.2 i a
section
variable {rd:Option Nat} {M0:Imm} {ob0:Hs} {ap:au} {w0:World} {sz:Nat} {dfs:List (Nat×ay)} {E:Env} {ops:Array Oper} {Q:Exit->Act->World->Prop} {K:ar->au->Prop} {Kp:(Nat->aa)->aa->au->Prop} {A tab:az}
def B1{all:bb}{ac:au}:∀ {l:az} {fr:ar} {k:ar->Prop},vG E A tab all ac l fr k->(∀ i∈l,i∈A)->∃ a,k a/\∀ t,A3 A t 0 all=false->aW a t=aW fr t
 | [],fr,k,h,_=>⟨fr,h,λ t _=>rfl⟩
 | i::r,fr,k,h,hA=>by
  unfold vG at h;split at h
  .rename_i p hp;split at h
   .rename_i d f;obtain ⟨v,h⟩:=rO h
    .rw [kT,kW] at h;obtain ⟨a,h1,c⟩:=B1 h λ j e=>hA j (Ay _ e);refine ⟨a,h1,λ t b=>?_⟩;rw [c t b,oI];have:=oN b i p (by simpa using gX hp) (by grind)
     grind
   grind
  grind
end
end Go.AW
