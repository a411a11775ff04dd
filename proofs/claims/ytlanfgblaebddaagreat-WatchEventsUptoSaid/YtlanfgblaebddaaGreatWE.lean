/-
  The engine, second make, fifth part: what a walk answers by itself. Over any program.
-/
import Derived.Sort.Grow
import Derived.Shelf.GgSortFunc.InsertionK
import Derived.Test.YtlanfgblaebddaaGreatWD
set_option linter.all false
namespace Go.AW
theorem zE {c:Bool} {p q:Prop} (h:c=true) (k:p):(c=true->p)/\(c=false->q):=⟨fun _=>k,fun h'=>absurd (h.symm.trans h') (by decide)⟩
theorem zF {c:Bool} {p q:Prop} (h:c=false) (k:q):(c=true->p)/\(c=false->q):=⟨fun h'=>absurd (h.symm.trans h') (by decide),fun _=>k⟩
theorem gV {P Q:Prop} (k:Q) (h:Q->P:=by intro k;refine gW (by first | exact hE | exact hEo _ _ | exact hEr _ _ | exact hEl _ _ _ _ | assumption) ?_;(conv=>whnf);exact k):P:=h k
open Go.RowKit
def aIU (gl:Nat) (c:AVal):BInv where
 inv M _ _:=M gl 0 c
 mono hM _ _ h:=hM _ _ _ h
theorem zt {P Q:Prop} (k:Q) (h:Q->P:=by intro k;first | exact aY k | exact aN k | exact aT k | exact aF k | exact aJ k | exact ⟨_,rfl,k⟩ | exact aD k):P:=h k
theorem zx {A B X:List Nat->List Nat->Prop} (ks:List Nat) (h:(A [] ks/\B [] ks)/\X [] ks:=by exact ⟨⟨rfl,rfl⟩,rfl,rfl⟩):∃ a ks,(A a ks/\B a ks)/\X a ks:=⟨[],ks,h⟩
theorem zu {a b p q:Prop} (h:a->p) (k:b->q):(a->p)/\(b->q):=⟨h,k⟩
section
variable {E:Env} {fn:Func} {g:Goal}
inductive HandG (E:Env) (fn:Func) (g:Goal) (all:List Oper) (tab:List Nat) (ks:List KI) (n d t gl:Nat) (l2:List Oper) (fr:List (Nat×AVal)) (obs:List AObj):Prop
 | mk (k gg:Nat) (c v:AVal) (hk:aC obs k= .bun gg (aIU gl c)) (hv:TL E (aC obs) t (.ptr [c])= .val v) (h:To E fn g (.mid ⟨all,false,tab,ks⟩ (n+1) l2 [] (jN fr (some d) v) obs))
end
open Classical
def gQ (fn:Func) (r:Nat):List KI:=match yA r (cC fn) with | some c=>.code c::oU fn r | none=>[]
section
variable {rd:Option Nat} {M0:Imm} {ob0:Hs} {obs0:List AObj} {w0:World} {sz:Nat} {dfs:List (Nat×List AVal)} {E:Env} {ops:Array Oper} {Q:Exit->Act->World->Prop} {K:List (Nat×AVal)->List AObj->Prop} {Kp:(Nat->AVal)->AVal->List AObj->Prop} {A tab:List Nat}
end
theorem sJ {w:World} {b o:Nat} {cv:List Value} {T:TypeId} {q:Value} (h:w.heap[b]? =some (.cells cv.toArray T (0,0))):w.setCell ⟨b,o,none⟩ q=w.setRow b (cv.set o q).toArray:=by
 unfold World.setCell World.setRow
 congr 1
 refine Array.ext_getElem? fun i=>?_
 by_cases a:b=i
 .subst a
  rw [Array.getElem?_modify,Array.getElem?_modify,if_pos rfl,if_pos rfl,h]
  simp
 .rw [Array.getElem?_modify,Array.getElem?_modify,if_neg a,if_neg a]
theorem Mem.cellAt {M:Imm} {ob:Hs} {w:World} {T:TypeId} {cs:List AVal} {o:Nat} {v:Value} {obs:List AObj} (hm:Mem M ob (.cells T cs::obs) w) (h:Rep M ob v (.ref 0 o)):
  ∃ (b:Nat) (cv:List Value),v= .pointer (some ⟨b,o,none⟩)/\at' ob 0 0=some (.pointer (some ⟨b,0,none⟩))/\w.heap[b]? =some (.cells cv.toArray T (0,0))/\cv.length=cs.length/\(∀ u∈cv,u.oneCell'=true)/\
   ∀ (i:Nat) v a,cv[i]? =some v->cs[i]? =some a->Rep M ob v a:=by
 obtain ⟨b,rfl,c⟩:=h.ref_inv
 obtain ⟨hs,j,g,rfl,l,cv,k,f,h1,d⟩:=hm.obj 0 _ rfl
 have e:g=b:=by rw [cA j] at c;simpa using c
 subst e
 exact ⟨g,cv,rfl,c,k,f,h1,d⟩
theorem FF {P:Program} {f:FuncId} {k:IntKind} (h:∀ (a:Addr) (x:Int) (w:World),w.cell? a=some (.int k x)->(callFunc f #[.pointer (some a)]).run P w= .ok (.value (.int k x)) w)
  (T:TypeId) (cs:List AVal) (obs:List AObj) (o:Nat) (x:Int) (j:cs[o]? =some (.int k x)):aA P f [.ref 0 o] (.cells T cs::obs) (.ret (.int k x)) (.cells T cs::obs):=by
 intro M ob w c hm d
 obtain ⟨hl,d⟩:=d
 match c,hl with
 | [v],_=>
 obtain ⟨b,cv,rfl,l,m,g,h1,e⟩:=hm.cellAt (d 0 _ _ rfl rfl)
 obtain ⟨u,i⟩:∃ u,cv[o]? =some u:=⟨cv[o]'(by rw [g];exact (List.getElem?_eq_some_iff.1 j).1),List.getElem?_eq_getElem _⟩
 have d:=e o u _ i j
 obtain rfl:=d.int_inv.1
 refine .inr ⟨_,w,h _ x w (by simp [World.cell?,m,i]),M,ob,Ext.refl _ _ _ _,hm,d⟩
theorem LK {P:Program} {f:FuncId} {more:List AVal} {r:AVal} {x y:AVal} (T:TypeId) (cs:List AVal) (obs:List AObj) (o:Nat) (A:cs[o]? =some x)
  (h:∀ (M:Imm) (ob:Hs) (a:Addr) (u:Value) (vs:List Value) (w:World),Rep M ob u x->bT M ob vs more->w.cell? a=some u->w.frozen? a=false->∃ q z,(callFunc f (Value.pointer (some a)::vs).toArray).run P w= .ok (.value z) (w.setCell a q)/\q.oneCell'=true/\Rep M ob q y/\Rep M ob z r):
  aA P f (.ref 0 o::more) (.cells T cs::obs) (.ret r) (.cells T (cs.set o y)::obs):=by
 intro M ob w d hm n
 obtain ⟨hl,n⟩:=n
 match d,hl with
 | v::vs,hl=>
 obtain ⟨b,cv,rfl,p,s,m,h1,c⟩:=hm.cellAt (n 0 _ _ rfl rfl)
 have t:o<cv.length:=by rw [m];exact (List.getElem?_eq_some_iff.1 A).1
 have j:cv[o]? =some cv[o]:=List.getElem?_eq_getElem _
 obtain ⟨q,z,e,D,C,hz⟩:=h M ob ⟨b,o,none⟩ cv[o] vs w (c o _ _ j A) ⟨by simpa using hl,fun i v a g l=>n (i+1) v a (by simpa using g) (by simpa using l)⟩ (by simp [World.cell?,s,j]) (by simp [World.frozen?,s])
 rw [sJ s] at e
 have:=hm.cellsTurn (k:=0) (cs':=cs.set o y) (cv':=cv.set o q) rfl p (by simp [m]) (fun u j=>by
   rcases List.mem_or_eq_of_mem_set j with j | rfl
   .exact h1 u j
   .exact D) (fun i v a g l=>by
   by_cases B:i=o
   .subst B
    rw [List.getElem?_set_self t] at g
    rw [List.getElem?_set_self (by omega)] at l
    cases g;cases l
    exact C
   .rw [List.getElem?_set_ne (Ne.symm B)] at g l
    exact c i v a g l)
 exact .inr ⟨_,_,e,M,ob,this.2.1,this.1,hz⟩
theorem GQ {P:Program} {f:FuncId} (s:pA P f) {more:List AVal} {r:AVal} {x y:AVal} (T:TypeId) (cs:List AVal) (obs:List AObj) (o:Nat) (B:cs[o]? =some x)
  (h:∀ (M:Imm) (ob:Hs) (a:Addr) (u:Value) (vs:List Value) (w:World),Rep M ob u x->bT M ob vs more->w.cell? a=some u->w.frozen? a=false->∃ q z,q.oneCell'=true/\Rep M ob q y/\Rep M ob z r/\
   Calls P f (Value.pointer (some a)::vs).toArray w fun e w'=>e= .returned z/\w'=w.setCell a q):
  aA P f (.ref 0 o::more) (.cells T cs::obs) (.ret r) (.cells T (cs.set o y)::obs):=by
 intro M ob w d hm n
 obtain ⟨hl,n⟩:=n
 match d,hl with
 | v::vs,hl=>
 obtain ⟨b,cv,rfl,p,t,m,h1,c⟩:=hm.cellAt (n 0 _ _ rfl rfl)
 have A:o<cv.length:=by rw [m];exact (List.getElem?_eq_some_iff.1 B).1
 have j:cv[o]? =some cv[o]:=List.getElem?_eq_getElem _
 obtain ⟨q,z,F,D,hz,e⟩:=h M ob ⟨b,o,none⟩ cv[o] vs w (c o _ _ j B) ⟨by simpa using hl,fun i v a g l=>n (i+1) v a (by simpa using g) (by simpa using l)⟩ (by simp [World.cell?,t,j]) (by simp [World.frozen?,t])
 have:=hm.cellsTurn (k:=0) (cs':=cs.set o y) (cv':=cv.set o q) rfl p (by simp [m]) (fun u j=>by
   rcases List.mem_or_eq_of_mem_set j with j | rfl
   .exact h1 u j
   .exact F) (fun i v a g l=>by
   by_cases C:i=o
   .subst C
    rw [List.getElem?_set_self A] at g
    rw [List.getElem?_set_self (by omega)] at l
    cases g;cases l
    exact D
   .rw [List.getElem?_set_ne (Ne.symm C)] at g l
    exact c i v a g l)
 refine .inl ⟨s _ _,e.mono ?_⟩
 rintro G w' ⟨rfl,rfl⟩
 rw [sJ t]
 exact ⟨M,ob,this.2.1,this.1,hz⟩
open Go.RowKit Go.Sort Go.Proofs
theorem D8 (d:List Value) (a:Array Value) (h:d.length<=a.size):
  putCells id 0 d.toArray a=((a.toList.take 0++d)++a.toList.drop (0+d.length)).toArray:=by
 apply Array.ext_getElem?
 intro k
 simp only [putCells,Array.getElem?_mapIdx,List.take_zero,List.nil_append,List.getElem?_toArray,Nat.zero_add,List.size_toArray,Nat.zero_le,true_and,Nat.sub_zero]
 by_cases b:k<d.length
 .have c:k<a.size:=by omega
  rw [Array.getElem?_eq_getElem c,List.getElem?_append_left (by simpa using b)]
  simp [b]
 .rw [List.getElem?_append_right (by simpa using Nat.le_of_not_lt b),List.getElem?_drop,show d.length+(k-d.length)=k from by omega]
  cases c:a[k]? with
  | none=>simp [c]
  | some y=>simp [c,b]
theorem D7 {w:World} {b k:Nat} {d:List Value} {a:Array Value} {e:TypeId} {i:Nat×Nat} {n:Nat} {os:Array Obj} (g:w.heap[b]? =some (.cells a e i)) (h:d.length<=a.size) (f:k<w.heap.size):
  (grow (putRow id (Sort.ahead w n) b 0 d.toArray) os).heap[k]? =(w.setRow b ((a.toList.take 0++d)++a.toList.drop (0+d.length)).toArray).heap[k]?:=by
 unfold grow putRow mapBlock World.setRow Sort.ahead
 dsimp only
 rw [Array.getElem?_append_left (by simpa using f)]
 simp only [Array.getElem?_modify]
 by_cases c:b=k
 .subst c
  rw [if_pos rfl,if_pos rfl,g]
  simp only [Option.map_some,onCells,D8 d a h]
 .rw [if_neg c,if_neg c]
section
variable {α:Type} (enc:α->List Int)
def zD (x:α):List Value:=(enc x).map (Value.int .i64)
def mF (x:α):AVal:=.agg ((enc x).map (AVal.int .i64))
theorem QM {k:Nat} {l:List α} {q:Nat} {c:AVal} (h:cellAt k (l.map (mF enc)) q=some c):∃ x n,l[q / k]? =some x/\(enc x)[q % k]? =some n/\c= .int .i64 n:=by
 obtain ⟨x,b,a⟩:=fB h
 rw [List.getElem?_map] at b
 cases hl:l[q / k]? with
 | none=>rw [hl] at b;cases b
 | some y=>
  rw [hl] at b
  cases b
  have a:((enc y).map (AVal.int .i64))[q % k]? =some c:=a
  rw [List.getElem?_map] at a
  cases d:(enc y)[q % k]? with
  | none=>rw [d] at a;cases a
  | some n=>rw [d] at a;cases a;exact ⟨y,n,rfl,d,rfl⟩
theorem aBZ {k:Nat} (c:∀ x,(enc x).length=k) {l:List α} {q:Nat} (b:q<l.length*k):∃ x n,l[q / k]? =some x/\(enc x)[q % k]? =some n:=by
 have a:0<k:=by
  rcases Nat.eq_zero_or_pos k with h | h
  .subst h;simp at b
  .exact h
 have h1:q / k<l.length:=(Nat.div_lt_iff_lt_mul a).2 b
 have d:q % k<(enc l[q / k]).length:=by rw [c];exact Nat.mod_lt _ a
 exact ⟨l[q / k],(enc l[q / k])[q % k],List.getElem?_eq_getElem h1,List.getElem?_eq_getElem d⟩
theorem IL [Inhabited α] {k:Nat} {l:List α} {q:Nat} (a:q<l.length*k) {x:α} {n:Int} (h1:l[q / k]? =some x) (b:(enc x)[q % k]? =some n):(flatK (zD enc) k l.toArray)[q]? =some (.int .i64 n):=by
 have hs:q<(flatK (zD enc) k l.toArray).size:=by simpa using a
 have:=get_flatK (zD enc) k l.toArray q (by simpa using a)
 rw [getElem!_pos _ q hs] at this
 rw [Array.getElem?_eq_getElem hs,this]
 simp [zD,h1,b,List.getElem!_eq_getElem?_getD]
end
set_option maxHeartbeats 1000000 in
theorem pV {P:Program} {f g:FuncId} (X:pA P f) {α:Type} [Inhabited α] (enc:α->List Int) (k:Nat) (k0:0<k) (hk:∀ x,(enc x).length=k) (l S:List α) (hS:S.Perm l)
  (J:∀ (p:Option Addr) (cap:Nat) (w:World),Calls P f #[.slice p 0 cap,.func (.func g) #[] #[]] w fun e w'=>e= .returned (.tuple #[])/\w'=w)
  (hs:l≠[]->∀ (blk off cap:Nat) (w:World),HoldsK (zD enc) k w blk off l.toArray->blk<w.heap.size->Calls P f #[.slice (some ⟨blk,off,none⟩) l.length cap,.func (.func g) #[] #[]] w fun e w'=>
   e= .returned (.tuple #[])/\∃ n os,w'=sortWorldK (zD enc) k w blk off n S.toArray os)
  (e:TypeId):aA P f [.row 0 0,.func (.func g) [] []] [.row 0 k e (l.map (mF enc))] (.ret (.tup [])) [.row 0 k e (S.map (mF enc))]:=by
 intro M ob w I hm B
 obtain ⟨hln,B⟩:=B
 match I,hln with
 | [v,fv],_=>
 have hfv:fv= .func (.func g) #[] #[]:=by
  have h1:=B 1 fv _ rfl rfl
  cases h1 with
  | func _ vs ws _ _ a b _ _=>
   obtain rfl:=List.eq_nil_of_length_eq_zero (l:=vs) (by simpa using a)
   obtain rfl:=List.eq_nil_of_length_eq_zero (l:=ws) (by simpa using b)
   rfl
 subst hfv
 obtain ⟨a,n,c,rfl,hat⟩:=(B 0 _ _ rfl rfl).row_inv
 obtain ⟨hs0,v0,e1,e2,e3,e4,C,hblk⟩:=hm.rowOf (k:=0) rfl
 rw [hat] at e4
 cases e4
 have K:=C
 obtain ⟨cv,r,h1,hz,hc,hno,hone⟩:=C
 have R:(l.map (mF enc)).length=l.length:=by simp
 have hsl:S.length=l.length:=hS.length_eq
 have W:∀ {M':Imm} {ob':Hs},Rep M' ob' (.tuple #[]) (.tup []):=.tup [] [] rfl (fun i v a hv=>by simp at hv)
 by_cases h0:l=[]
 .subst h0
  obtain rfl:S=[]:=List.eq_nil_of_length_eq_zero (by simpa using hsl)
  have T:n=0:=by
   rcases dB r with ⟨q,_⟩ | ⟨b,cap,q,_⟩
   .cases q;rfl
   .cases q;rfl
  subst T
  refine .inl ⟨X _ _,(J a c w).mono ?_⟩
  rintro e' w' ⟨rfl,rfl⟩
  exact ⟨M,ob,Ext.refl _ _ _ _,hm,W⟩
 .have hpos:0<l.length:=List.length_pos_iff.2 h0
  obtain ⟨hcl,hor⟩:=r
  rcases hor with ⟨q1,q2⟩ | ⟨b,cap,z,q1,_,Y,q4,q5,q6,q7⟩
  .omega
  cases q1
  have r:w.ownsRow 0 e k (.slice (some ⟨b,0,none⟩) (l.map (mF enc)).length c) (l.map (mF enc)).length cv:=⟨hcl,.inr ⟨b,c,z,rfl,Nat.zero_le _,Y,q4,q5,q6,q7⟩⟩
  have Z:b<w.heap.size:=eI Y
  have hH:HoldsK (zD enc) k w b 0 l.toArray:=fun j s=>by
   have s:j<l.length*k:=by simpa using s
   obtain ⟨x,m,A,hm⟩:=aBZ enc hk s
   have hca:cellAt k (l.map (mF enc)) j=some (.int .i64 m):=by
    unfold cellAt
    simp [A,mF,AVal.cells,hm]
   obtain ⟨u,G,B⟩:=hc j _ hca
   obtain rfl:=B.int_inv.1
   refine ⟨?_,by simp [World.frozen?,Y]⟩
   rw [Nat.zero_add,eO r rfl G]
   have hs:j<(flatK (zD enc) k l.toArray).size:=by simpa using s
   have D:=IL enc s A hm
   rw [Array.getElem?_eq_getElem hs] at D
   rw [getElem!_pos _ j hs]
   exact D.symm
  rw [R]
  refine .inl ⟨X _ _,(hs h0 b 0 c w hH Z).mono ?_⟩
  rintro e' w' ⟨rfl,k',os,rfl⟩
  have U:∀ x∈S,∀ n∈enc x,inR .i64 n:=fun x A n T=>by
   have:x∈l:=hS.mem_iff.1 A
   obtain ⟨i,hi⟩:=List.getElem?_of_mem this
   obtain ⟨j,s⟩:=List.getElem?_of_mem T
   have V:j<k:=by rw [<-hk x];exact (List.getElem?_eq_some_iff.1 s).1
   have e1:(i*k+j) / k=i:=by rw [Nat.mul_comm,Nat.mul_add_div k0,Nat.div_eq_of_lt V,Nat.add_zero]
   have e2:(i*k+j) % k=j:=by rw [Nat.mul_comm,Nat.mul_add_mod,Nat.mod_eq_of_lt V]
   obtain ⟨u,G,B⟩:=hc (i*k+j) (.int .i64 n) (by unfold cellAt;simp [e1,e2,hi,mF,AVal.cells,s])
   exact B.int_inv.2
  generalize hF:flatK (zD enc) k S.toArray=F
  have H:F.size=S.length*k:=by rw [<-hF];simp
  have hw:=K.write (p:=0) (news:=F.toList) (xs':=S.map (mF enc)) rfl k0 (by simp [H,hsl]) (fun u G=>by
    obtain ⟨q,hq⟩:=List.getElem?_of_mem G
    have d:=(List.getElem?_eq_some_iff.1 hq).1
    have d:q<S.length*k:=by simpa [H] using d
    obtain ⟨x,m,A,hm⟩:=aBZ enc hk d
    have D:=IL enc d A hm
    rw [hF] at D
    rw [Array.getElem?_toList,D] at hq
    cases hq
    rfl) (by simp [hsl]) (fun x A=>by
    obtain ⟨y,_,rfl⟩:=List.mem_map.1 A
    simp [mF,AVal.cells,hk]) (fun q c' hq=>.inl (by
    obtain ⟨x,m,A,hm,rfl⟩:=QM enc hq
    have h1:=(List.getElem?_eq_some_iff.1 A).1
    have d:q<S.length*k:=(Nat.div_lt_iff_lt_mul k0).1 h1
    have D:=IL enc d A hm
    rw [hF] at D
    refine ⟨Nat.zero_le _,by simpa [H] using d,.int .i64 m,?_,.int _ _ (U x (List.mem_of_getElem? A) m (List.mem_of_getElem? hm))⟩
    rw [Nat.sub_zero,Array.getElem?_toList]
    exact D))
  obtain ⟨cur',c1,c2,c3⟩:=hw
  rw [Y] at c1
  cases c1
  have O:F.toList.length<=z.size:=by simpa using c2
  have t:=hm.rowTurn (k:=0) (hs':=hs0) rfl e1 e3 (List.prefix_refl _) e2 e3 c3 (fun N _ T=>setRow_other w b N _ (fun e=>T (by simp [Value.ownBlock,e]))) rfl rfl rfl (by simp [World.setRow]) (fun N hb'=>.inl hb')
  rw [eY e1] at t
  obtain ⟨t1,t2,_⟩:=t
  have L:(w.setRow b ((z.toList.take 0++F.toList)++z.toList.drop (0+F.toList.length)).toArray).heap.size=w.heap.size:=by simp [World.setRow]
  have hEq:sortWorldK (zD enc) k w b 0 k' S.toArray os=grow (putRow id (Sort.ahead w k') b 0 F.toList.toArray) os:=by
   unfold sortWorldK putRowK
   rw [hF]
  rw [hEq]
  have Q:∀ j,j<w.heap.size->(grow (putRow id (Sort.ahead w k') b 0 F.toList.toArray) os).heap[j]? =(w.setRow b ((z.toList.take 0++F.toList)++z.toList.drop (0+F.toList.length)).toArray).heap[j]?:=
   fun j s=>D7 Y O s
  have m:=t1.more (M':=M) (w':=grow (putRow id (Sort.ahead w k') b 0 F.toList.toArray) os) (fun _ _ _ h=>h) (fun _ _ _ h=>.inl h) (fun N o y hy=>by
    obtain ⟨u,G,r1,r2⟩:=t1.imm N o y hy
    have d:=World.block_lt_of_cell? _ _ G
    rw [L] at d
    exact ⟨u,(World.cell?_of_block (a:=⟨N,o,none⟩) (Q N d)).trans G,r1,r2⟩) (fun j s=>Q j (by rw [L] at s;exact s)) rfl rfl rfl (by rw [L];simp [grow,putRow,mapBlock,Sort.ahead])
  exact ⟨M,ob,t2.trans m.2,m.1,W⟩
open Go Go.Proofs
theorem sS.plain {E:Env} {f:FuncId} {fn:Func} {args:List AVal} {obs:List AObj} {n0:Nat} {r:AVal} {obs':List AObj} (O:E.df=[]) (G:E.P.funcs[f]? =some fn) (hb:fn.body=some (cC fn)) (K:pA E.P f)
  (L:cS fn.ntmps (cC fn)=true) (U:Nat.ble args.length fn.ntmps=true) (J:pT obs=true) (hg:obs.length=n0)
  (h:okL args->To E fn (.full n0 (.ret r) obs') (.code [.code (cC fn)] (frA 0 args) obs)) (o:E.rd=none:=by rfl):sS E.P f args obs none obs':=by
 intro M ob w d u hm H s
 refine ⟨K _ _,?_⟩
 obtain rfl:u= .returning:=s
 have R:d.length=args.length:=H.1
 have Z:=Nat.le_of_ble_eq_true U
 have hst:nR (.full n0 (.ret r) obs') ob:=by
  refine ⟨by rw [hm.len,hg];rfl,fun _ hs D=>?_⟩
  obtain ⟨k,q⟩:=List.getElem?_of_mem D
  have B:k<obs.length:=by rw [<-hm.len];exact (List.getElem?_eq_some_iff.1 q).1
  obtain ⟨h1,W⟩:=nZ J k _ (List.getElem?_eq_getElem B)
  have e:=eV (List.getElem?_eq_getElem B)
  have:=hm.histLen (by rw [e];exact h1) q
  rw [e,W] at this
  exact this
 intro c cs T
 have x:({c with mode:=.returning}:Frame)=c:=by rw [<-T]
 let b:Frame:={(default:Frame) with fn:=f,kind:=.deferred}
 let a:Act:={tmps:=d.toArray++Array.replicate (fn.ntmps-d.toArray.size) undef,defers:=[]}
 have F:a.tmps.size=fn.ntmps:=by simp [a];omega
 have p:Frame.enter E.P f d.toArray .deferred=b.at a [.code (cC fn)]:=by
  simp [Frame.enter,Frame.at,G,hb,b,a]
 have Y:∀ t,Rep M ob (a.tmps.getD t undef) (aR (frA 0 args) t):=fun t=>by
  rw [vF]
  simp only [Nat.zero_le,if_true,Nat.sub_zero]
  by_cases S:t<args.length
  .rw [List.getElem?_eq_getElem S]
   have Q:t<d.length:=by omega
   have:a.tmps.getD t undef=d[t]:=by
    show (d.toArray++Array.replicate (fn.ntmps-d.toArray.size) undef).getD t undef=_
    rw [Array.getD_eq_getD_getElem?,Array.getElem?_append_left (by simpa using Q)]
    simp [Q]
   rw [this]
   exact H.2 t _ _ (List.getElem?_eq_getElem Q) (List.getElem?_eq_getElem S)
  .rw [List.getElem?_eq_none (by omega)]
   exact .undef _
 have N:KW none E.P (jV E fn M ob obs w (.full n0 (.ret r) obs')) [.code (cC fn)] a w:=by
  rw [<-o]
  obtain ⟨V⟩:=h H.okL
  exact V (by simp [aV,KI.ok,L]) M ob obs w _ w hst ⟨M,ob,Ext.refl _ _ _ _,hm,Y,F,by rw [O];exact cL.nil,by rw [hm.len];exact Nat.le_refl _⟩
 obtain ⟨X,z,I,i,g⟩:=N.arrives b (c::cs) rfl
 have fin:∀ {e:Ending} {w':World},RR M ob obs w (.full n0 (.ret r) obs') e w'->∃ v M' ob',e= .returned v/\settle FrameMode.returning= .returning/\Ext M ob obs w M' ob' obs' w'/\Mem M' ob' obs' w':=fun {e w'} ⟨M',ob',x1,x2,x3⟩=>by
  cases e with
  | returned v=>exact ⟨v,M',ob',rfl,rfl,x1,x2⟩
  | panicked ch=>exact x3.elim
  | outgrown=>exact x3.elim
 rw [p]
 cases X with
 | normal=>
  unfold jV vW at i
  rw [o] at i
  obtain ⟨A,n,j,C,hs,_,q,hl⟩:=cN z.defers .returning I {b.at z [] with mode:=.returning} (c::cs) rfl rfl rfl G i
  exact ⟨A,.returning,n,j,fin C,by rw [x];exact Comes.of_steps (Steps.trans g (.one step_end)) hs,q,hl⟩
 | ret=>
  obtain ⟨m,y⟩:=g
  unfold jV vW at i
  rw [o] at i
  obtain ⟨A,n,j,C,hs,_,q,hl⟩:=cN z.defers .returning I {b.at z m with mode:=.returning} (c::cs) rfl rfl rfl G i
  exact ⟨A,.returning,n,j,fin C,by rw [x];exact Comes.of_steps y hs,q,hl⟩
 | panic dF=>
  obtain ⟨m,y⟩:=g
  unfold jV at i
  rw [o] at i
  obtain ⟨A,n,j,C,hs,_,q,hl⟩:=cN z.defers (.panicking dF) I {b.at z m with mode:=.panicking dF} (c::cs) rfl rfl rfl G i
  exact ⟨A,.returning,n,j,fin C,by rw [x];exact Comes.of_steps y hs,q,hl⟩
 | exit id=>exact i.elim
 | goto l=>exact i.elim
 | outgrown=>exact i.elim
section
variable {E:Env} {fn:Func} {g:Goal}
inductive HandD (E:Env) (fn:Func) (g:Goal) (ks:List KI) (d:Option Nat) (f:Nat) (axs:List Operand) (fr:List (Nat×AVal)) (obs:List AObj):Prop
 | mk (h:To {E with df:=(f,evO (ev fr) axs)::E.df} fn g (.code ks (jN fr d (.tup [])) obs))
theorem To.deferL (hE:EnvOK E) (n:Nat) {id:Nat} {ops:Array Oper} {ks:List KI} {fr:List (Nat×AVal)} {obs:List AObj} {p:Oper} {f:Nat} {c l:Array _} (K:ops.toList[n]? =some p) (hl:ops.toList.drop (n+1)=[])
  (hp:p.op= .defer ⟨.value (.func f),c,l⟩) (hg:p.guard=none)
  (h:dF E ops.toList (HandD E fn g ks p.dst f c.toList) (iA E fn g) 0 (ops.toList.take n) fr obs) (F:E.rd=none:=by rfl):To E fn g (.code (.code (.region id ops false)::ks) fr obs):=
 .mk fun J M0 ob0 obs0 w0 a w hst hs=>by
  simp only [aV,KI.ok,cS,Bool.and_eq_true] at J
  obtain ⟨⟨C,U⟩,G⟩:=J
  have r:=kA C
  have D:=(List.getElem?_eq_some_iff.1 K).1
  have k:ops.toList=ops.toList.take n++[p]:=by
   conv=>lhs;rw [<-List.take_append_drop n ops.toList,List.drop_eq_getElem_cons D,hl]
   rw [(List.getElem?_eq_some_iff.1 K).2]
  refine KW.code (Q':=QR E fn g M0 ob0 obs0 w0 ks) ?_ (fun a w h=>h) (fun q a w h=>h) (fun e a w S=>by
   cases e<;>first | exact .inl rfl | exact .inr ⟨_,rfl⟩ | exact S.elim)
  have m:∀ t v obs q a w,iA E fn g t v obs->PP M0 ob0 obs0 w0 fn.ntmps E.df t v obs q a w->jV E fn M0 ob0 obs0 w0 g (.panic q) a w:=fun t v obs q a w he m=>vE he hst m
  refine wpIn_region_list ?_
  have u:∀ fr obs a w,HandD E fn g ks p.dst f c.toList fr obs->SS M0 ob0 obs0 w0 fn.ntmps E.df fr obs a w->wpListIn (fen E.rd) 0 E.P ops (QR E fn g M0 ob0 obs0 w0 ks) [p] a w:=by
   rintro fr obs a w ⟨⟨h⟩⟩ ⟨M,ob,x1,x2,N,L,B,Y⟩
   unfold wpListIn
   have W:Region.wanted p (yielded ops a.tmps)=true:=by unfold Region.wanted;rw [hg]
   rw [if_pos W]
   have z:=r p (by rw [k];simp)
   obtain ⟨dst,op,ty,pos,o,R⟩:=p
   have hp:op= .defer ⟨.value (.func f),c,l⟩:=hp
   subst hp
   have s:(execOp a.eval ⟨dst,.defer ⟨.value (.func f),c,l⟩,ty,pos,o,R⟩).run E.P w= .ok (.defer {target:=.fn (.func f) #[],args:= #[]++c.map a.eval}) w:=rfl
   refine ⟨fun _ _=>trivial,?_⟩
   rw [show (fen E.rd).round=none from F,Oper.semAt_none,s,Oper.uponIn_defer]
   refine h G M0 ob0 obs0 w0 _ w hst ⟨M,ob,x1,x2,?_,(dD _ _ _).1.trans L,?_,Y⟩
   .rw [dK]
    exact kW (a:={a with defers:={target:=Target.fn (Fn.func f) #[],args:= #[]++Array.map a.eval c}::a.defers}) N rJ fun X e=>L▸z X e
   .obtain ⟨O,d2,T,B,Z⟩:=B
    refine cL.put (a:={a with defers:=_}) ⟨_::O,d2,by rw [T];rfl,⟨by simp [B.1],fun i d x r s=>?_⟩,Z⟩
    cases i with
    | zero=>
     simp at r s
     subst r s
     refine ⟨rfl,?_,fun j v b H A=>?_⟩
     .simp [C6]
     .rw [C6,List.getElem?_map] at A
      simp only [Array.empty_append,Array.toList_map,List.getElem?_map] at H
      cases I:c.toList[j]? with
      | none=>rw [I] at A;cases A
      | some y=>
       rw [I] at A H
       cases A
       cases H
       exact xD N y
    | succ i=>exact B.2 i d x (by simpa using r) (by simpa using s)
  rw [k]
  exact tN (rd:=E.rd) (Q:=QR E fn g M0 ob0 obs0 w0 ks) (Kp:=iA E fn g) hE (fun t v obs q a w h1 V=>m t v obs q a w h1 V) u _ 0 fr obs a w (fun p hp=>r p (by rw [k];exact List.mem_append_left _ hp)) h hs
end
end Go.AW
