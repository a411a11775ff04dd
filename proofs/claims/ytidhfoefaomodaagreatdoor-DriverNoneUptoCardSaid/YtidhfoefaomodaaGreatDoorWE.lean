/- Part 5 of what the statement rests on. -/
import Derived.Test.YtidhfoefaomodaaGreatDoorWD
set_option linter.all false
namespace Go.AW
def To.partR {E:Env} {fn:Func} {g:Goal} {st:List KI} {fr a:List (Nat×aa)} {ac ob':List ab} (h:To E fn g (.head st a ob'))
  (i:RF g.n0 (List.range ob'.length) (aC ac) (mE (a.map (·.1)) fr)=a) (f:iD g.n0 (List.range ob'.length) ac=ob') (c:E.df=[]) (d:lT (List.range ob'.length) ac=true) (e:jW g.n0 0 (List.range ob'.length)=true) (b:g.strict=true):To E fn g (.head st fr ac):=
 To.part (a.map (·.1)) (List.range ob'.length) c d e (by grind) b
def zE {c:Bool} {p q:Prop} (h:c=true) (k:p):(c=true->p)/\(c=false->q):=⟨λ_=>k,λ h'=>absurd (h.symm.trans h') (by decide)⟩
def zF {c:Bool} {p q:Prop} (h:c=false) (k:q):(c=true->p)/\(c=false->q):=⟨λ h'=>absurd (h.symm.trans h') (by decide),λ_=>k⟩
def zP {E:Env} {fn:Func} {g:Goal} {st:List KI} {fr fr':List (Nat×aa)} {ac ob':List ab} (h:To E fn g (.head st fr' ob'):=by assumption)
  (hf:RF g.n0 (List.range ob'.length) (aC ac) (mE (fr'.map (·.1)) fr)=fr':=by rfl) (ho:iD g.n0 (List.range ob'.length) ac=ob':=by rfl) (hdf:E.df=[]:=by rfl) (hk:lT (List.range ob'.length) ac=true:=by rfl) (hb:jW g.n0 0 (List.range ob'.length)=true:=by rfl) (hstr:g.strict=true:=by rfl):To E fn g (.head st fr ac):=
 To.partR h hf ho hdf hk hb hstr
def zM {a b p:Prop} (h:p) (h1:a:=by simp only [maxLen];simp;omega) (h2:b:=by simp;omega):(a/\b)/\p:=⟨⟨h1,h2⟩,h⟩
def zW {P:Prop} (h:P:=by
 repeat' first
  | (refine gN (by first | exact hE | exact hEo _ _ | exact hEr _ _ | exact hEl _ _ _ _ | assumption) ?_;conv=>whnf)
  | exact rfl
  | assumption
  | refine aY ?_
  | refine aN ?_
  | refine .pure _ [] (by assumption) ?_
  | refine .pure _ [] (hz1 _) ?_
  | refine .pure _ [] (hz2 _ _) ?_
  | refine .pure _ [] (hz3 _ _ _) ?_
  | refine .eff [] [0] _ _ rfl (by assumption) ?_
  | refine .eff [] [1] _ _ rfl (by assumption) ?_
  | refine .eff [] [0,1] _ _ rfl (by assumption) ?_
  | refine ⟨_,by assumption,?_⟩
  | refine zE (by assumption) ?_
  | refine zF (by assumption) ?_
  | refine aT λ h=>?_
  | refine aF λ h=>?_
  | refine ⟨λ h=>?_,λ h=>?_⟩
  | refine aJ ?_
  | refine ⟨_,rfl,?_⟩
  | refine aD ?_
  | exact zP
  | refine zM ?_
  | refine And.intro (wD (by assumption) (by decide)) ?_
  | exact ⟨⟨rfl,rfl⟩,rfl,rfl⟩
  | exact ⟨[],[0],⟨rfl,rfl⟩,rfl,rfl⟩
  | exact ⟨[],[0,1],⟨rfl,rfl⟩,rfl,rfl⟩
  | exact ⟨[],[1],⟨rfl,rfl⟩,rfl,rfl⟩
  | exact ⟨[],[],⟨rfl,rfl⟩,rfl,rfl⟩
  | refine .pure _ [] (aA.strip (by assumption)) ?_
  | refine .eff [] [0,1,2] _ _ rfl (by assumption) ?_
  | refine .eff [] [2] _ _ rfl (by assumption) ?_
  | refine .pure _ _ (by assumption) ?_
  | exact ⟨[],[0,1,2],⟨rfl,rfl⟩,rfl,rfl⟩
  | exact ⟨[],[2],⟨rfl,rfl⟩,rfl,rfl⟩
  | (exfalso;simp only [decide_eq_true_eq,decide_eq_false_iff_not] at *;omega)
  | fail):P:=h
def gV {P Q:Prop} (k:Q) (h:Q->P:=by intro k;refine gW (by first | exact hE | exact hEo _ _ | exact hEr _ _ | exact hEl _ _ _ _ | assumption) ?_;(conv=>whnf);exact k):P:=h k
open Go.RowKit
def QK (gl:Nat) (c:aa):BInv where
 inv M _ _:=M gl 0 c
 mono hM _ _ h:=hM _ _ _ h
def zt {P Q:Prop} (k:Q) (h:Q->P:=by intro k;first | exact aY k | exact aN k | exact aT k | exact aF k | exact aJ k | exact ⟨_,rfl,k⟩ | exact aD k):P:=h k
def zx {A B X:List Nat->List Nat->Prop} (ks:List Nat) (h:(A [] ks/\B [] ks)/\X [] ks:=by exact ⟨⟨rfl,rfl⟩,rfl,rfl⟩):∃ a ks,(A a ks/\B a ks)/\X a ks:=⟨[],ks,h⟩
def zu {a b p q:Prop} (h:a->p) (k:b->q):(a->p)/\(b->q):=⟨h,k⟩
section
variable {E:Env} {fn:Func} {g:Goal}
inductive HandG (E:Env) (fn:Func) (g:Goal) (all:List Oper) (tab:List Nat) (ks:List KI) (n d t gl:Nat) (l2:List Oper) (fr:List (Nat×aa)) (ac:List ab):Prop
 | mk (k gg:Nat) (c v:aa) (hk:aC ac k= .bun gg (QK gl c)) (hv:VI E (aC ac) t (.ptr [c])= .val v) (h:To E fn g (.mid ⟨all,false,tab,ks⟩ (n+1) l2 [] (kW fr (some d) v) ac))
def PE {P:Program} {x:Operand} {t:TypeId} {p:Oper} (hp:p.op= .load t x) {ρ:Operand->Value} {w:World} {v:Value} (h:(Instr.loadAt t (ρ x)).run P w= .ok v w):(execOp ρ p).run P w= .ok (.value v) w:=by obtain ⟨d,op,ty,pos,a,b⟩:=p;dsimp only at hp;subst hp;have:execOp ρ ⟨d,.load t x,ty,pos,a,b⟩=(Instr.loadAt t (ρ x) >>= λ v=>Pure.pure (.value v)):=rfl;rw [this,Sem.run_bind,h];rfl
def To.glob (hE:ae E) (n:Nat) {id:Nat} {ops:Array Oper} (tab:List Nat) {ks:List KI} {fr:List (Nat×aa)} {ac:List ab} {p:Oper} {t y d:Nat} (U:ops.toList[n]? =some p) (hp:p.op= .load t (.global y)) (s:p.dst=some d) (X:p.guard=none)
  (h:eQ E ops.toList (HandG E fn g ops.toList tab ks n d t y (ops.toList.drop (n+1))) (jU E fn g) 0 (ops.toList.take n) fr ac):To E fn g (.code (.code (.region id ops false)::ks) fr ac):=
 .mk λ T M0 ob0 b w0 a w hst hs=>by
  simp only [bC,KI.ok,dC,Bool.and_eq_true] at T;obtain ⟨⟨J,W⟩,O⟩:=T;have D:=oB J;have L:=(List.getElem?_eq_some_iff.1 U).1;have f:ops.toList=ops.toList.take n++p::ops.toList.drop (n+1):=by
   conv=>lhs;rw [<-List.take_append_drop n ops.toList,List.drop_eq_getElem_cons L]
   rw [(List.getElem?_eq_some_iff.1 U).2]
  refine KW.code (Q':=QR E fn g M0 ob0 b w0 ks) ?_ (λ a w h=>h) (λ i a w h=>h) (λ e a w V=>by cases e<;>first | exact .inl rfl | exact .inr ⟨_,rfl⟩ | exact V.elim)
  have l:∀ o v ac i a w,jU E fn g o v ac->PP M0 ob0 b w0 fn.ntmps E.df o v ac i a w->pI E fn M0 ob0 b w0 g (.panic i) a w:=λ o v ac i a w he l=>AT he hst l;have hq:∀ fr ac a w,cY E fn g ks fr ac->SS M0 ob0 b w0 fn.ntmps E.df fr ac a w->KW E.rd E.P (pI E fn M0 ob0 b w0 g) ks a w:=λ fr ac a w B hs=>B O M0 ob0 b w0 a w hst hs;refine wpIn_region_list ?_;have r:∀ fr ac a w,HandG E fn g ops.toList tab ks n d t y (ops.toList.drop (n+1)) fr ac->SS M0 ob0 b w0 fn.ntmps E.df fr ac a w->wpListIn (fen E.rd) 0 E.P ops (QR E fn g M0 ob0 b w0 ks) (p::ops.toList.drop (n+1)) a w:=by
   rintro fr ac a w ⟨k,gg,c,v,B,hv,m⟩ hs;obtain ⟨M,ob,hx,hm,F,z,C,Z⟩:=hs;obtain ⟨_,_,_,bs,_,_,hi⟩:=hm.obj k _ (bD B (by simp));have I:Rep M ob (.pointer (some ⟨y,0,none⟩)) (.ptr [c]):=.ptr y 0 [c] λ j x S=>by
    cases j with
    | zero=>cases S;exact hi
    | succ j=>simp at S
   have hl:=VH (base:=0) hE hm (t:=t) I;rw [hv] at hl;obtain ⟨_,u,A,Y⟩:=hl;have R:nA E.P p a.eval w (λ e H=>e= .returned u/\H=w):=.inl ⟨_,_,PE hp A,rfl,rfl⟩;refine wk (ao:=λ a w=>SS M0 ob0 b w0 fn.ntmps E.df (kW fr (some d) v) ac a w) ?_ λ a w hs=>?_
   .unfold G;rw [if_pos (by simp [Region.wanted,X])];refine R.wpIn (by intro c;rw [hp];simp) (λ v H ⟨N,e2⟩=>?_) (λ i H ⟨N,_⟩=>by cases N);cases N;subst e2;refine ⟨M,ob,hx,hm,?_,(eJ _ _ _).1.trans z,C.put,Z⟩;rw [eK,s];exact lG F Y λ d' e=>z▸D p (by rw [f];simp) d' (s.trans e)
   .obtain ⟨m⟩:=m;exact mM (rd:=E.rd) (Q:=QR E fn g M0 ob0 b w0 ks) (K:=cY E fn g ks) (Kp:=jU E fn g) hE (λ o v ac i a w h1 q=>l o v ac i a w h1 q) (λ fr ac a w h1 q=>hq fr ac a w h1 q) _ (n+1) _ _ a w (λ p hp=>D p (by rw [f];exact List.mem_append_right _ (List.mem_cons_of_mem _ hp))) m hs
  rw [f];exact tT (rd:=E.rd) (Q:=QR E fn g M0 ob0 b w0 ks) (Kp:=jU E fn g) hE (λ o v ac i a w h1 q=>l o v ac i a w h1 q) r _ 0 fr ac a w (λ p hp=>D p (by rw [f];exact List.mem_append_left _ hp)) h hs
end
def Mg (w:World) (a:Nat) (c:aa):Imm:=λ b o x=>Mw w b o x\/(b=a/\o=0/\x=c)
def aMM {w:World} {a:Nat} {c:aa} {u:Value} (h1:w.cell? ⟨a,0,none⟩=some u) (g:u.oneCell'=true) (h3:Rep (Mg w a c) [] u c):Mem (Mg w a c) [[dR []]] [.bun 0 (QK a c)] w:=by
 have d:blk [dR []]=[]:=dU _;have i:∀ b o x,Mw w b o x->Mg w a c b o x:=λ_ _ _ h=>.inl h
 have j:Mem (Mg w a c) [] [] w:=⟨λ b o x m=>by
  rcases m with ⟨v,n,l,f⟩ | ⟨rfl,rfl,rfl⟩
  .exact ⟨v,n,l,f.rep.monoM i⟩
  .exact ⟨u,h1,g,h3⟩,rfl,λ k c h=>by simp at h,λ k b ⟨c,hs,e,_⟩=>by simp at e,λ k p b ⟨c,hs,e,_⟩=>by simp at e⟩
 exact (j.snoc (c:=.bun 0 (QK a c)) (hs:=[dR []]) (λ ob _=>⟨rfl,[],rfl,(λ b d=>by simp at d),.inr ⟨rfl,rfl,rfl⟩⟩) (λ b h=>by rw [d] at h;simp at h) (λ k b _=>by rw [d];simp)).1
def OG {P:Program} {f:FuncId} {args:List aa} {d:List Value} {w:World} {g:Nat} {c:aa} {u:Value} (p:nC P f) (h:aA P f args [.bun 0 (QK g c)] (.ret (.bool true)) [.bun 0 (QK g c)])
  (h1:w.cell? ⟨g,0,none⟩=some u) (t:u.oneCell'=true) (h3:Rep (Mg w g c) [] u c) (s:cA (Mw w) [] d args):Calls P f d.toArray w λ e w'=>e= .returned (.bool true)/\Below w.heap.size w w':=by
 have n:cA (Mg w g c) [[dR []]] d args:=⟨s.1,λ i v a y z=>(s.2 i v a y z).mono (λ_ _ _ h=>.inl h) (C6 _)⟩
 have m:blk [dR []]=[]:=dU _;have l:∀ k b,¬ aG [[dR []]] [.bun 0 (QK g c)] k b:=λ k b ⟨x,hs,C,_,q,r⟩=>by
  cases k with
  | zero=>cases q;rw [m] at r;simp at r
  | succ k=>simp at q
 rcases h _ _ w d (aMM h1 t h3) n with ⟨_,h⟩ | ⟨v,w',h,_⟩
 .refine h.mono λ e w' ⟨M',ob',j,B,o⟩=>⟨?_,?_⟩
  .cases e with
   | returned v=>rw [Rep.bool_inv o]
   | panicked A=>exact o.elim
   | outgrown=>exact o.elim
  .exact ⟨j.os,j.tape,j.output,j.size,λ b m=>j.keep b m λ k=>l k b⟩
 .rw [p] at h;cases h
end Go.AW
