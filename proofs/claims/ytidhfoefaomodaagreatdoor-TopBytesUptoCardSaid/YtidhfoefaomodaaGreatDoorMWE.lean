/- Part 5 of what the statement rests on. -/
import Derived.Test.YtidhfoefaomodaaGreatDoorMWD
set_option linter.all false
namespace Go.AW
def To.partR{E:Env}{fn:Func}{g:Goal}{st:bh}{fr a:ar}{ac ob':au}(h:To E fn g (.head st a ob'))
  (f:E2 g.n0 (List.range ob'.length) (aB ac) (lC (a.map (·.1)) fr)=a) (i:gQ g.n0 (List.range ob'.length) ac=ob') (c:E.df=[]) (e:jQ (List.range ob'.length) ac=true) (d:fY g.n0 0 (List.range ob'.length)=true) (b:g.strict=true):To E fn g (.head st fr ac):=
 To.part (a.map (·.1)) (List.range ob'.length) c e d (by grind) b
def zE{c:Bool}{p q:Prop}(h:c=true)(k:p):(c=true->p)/\(c=false->q):=⟨λ_=>k,λ h'=>absurd (h.symm.trans h') (by decide)⟩
def zF{c:Bool}{p q:Prop}(h:c=false)(k:q):(c=true->p)/\(c=false->q):=⟨λ h'=>absurd (h.symm.trans h') (by decide),λ_=>k⟩
def zP{E:Env}{fn:Func}{g:Goal}{st:bh}{fr fr':ar}{ac ob':au}(h:To E fn g (.head st fr' ob'):=by assumption)
  (hf:E2 g.n0 (List.range ob'.length) (aB ac) (lC (fr'.map (·.1)) fr)=fr':=by rfl) (ho:gQ g.n0 (List.range ob'.length) ac=ob':=by rfl) (hdf:E.df=[]:=by rfl) (hk:jQ (List.range ob'.length) ac=true:=by rfl) (hb:fY g.n0 0 (List.range ob'.length)=true:=by rfl) (hstr:g.strict=true:=by rfl):To E fn g (.head st fr ac):=
 To.partR h hf ho hdf hk hb hstr
def zM{a b p:Prop}(h:p)(h1:a:=by simp only [maxLen];simp;omega)(h2:b:=by simp;omega):(a/\b)/\p:=⟨⟨h1,h2⟩,h⟩
def zW{P:Prop}(h:P:=by
 repeat' first
  | (refine gN (by first | exact hE | exact hEo _ _ | exact hEr _ _ | exact hEl _ _ _ _ | assumption) ?_;conv=>whnf)
  | exact rfl
  | assumption
  | refine aY ?_
  | refine aN ?_
  | refine .pure _ [] (by assumption) ?_
  | refine .pure _ [] (hz1 _) ?_
  | refine .pure _ [] (hz2 _ _) ?_
  | refine .pure _ [] (hz3 _ _ _) ?_
  | refine .eff [] [0] _ _ rfl (by assumption) ?_
  | refine .eff [] [1] _ _ rfl (by assumption) ?_
  | refine .eff [] [0,1] _ _ rfl (by assumption) ?_
  | refine ⟨_,by assumption,?_⟩
  | refine zE (by assumption) ?_
  | refine zF (by assumption) ?_
  | refine aT λ h=>?_
  | refine aF λ h=>?_
  | refine ⟨λ h=>?_,λ h=>?_⟩
  | refine aJ ?_
  | refine ⟨_,rfl,?_⟩
  | refine aD ?_
  | exact zP
  | refine zM ?_
  | refine And.intro (lH (by assumption) (by decide)) ?_
  | exact ⟨⟨rfl,rfl⟩,rfl,rfl⟩
  | exact ⟨[],[0],⟨rfl,rfl⟩,rfl,rfl⟩
  | exact ⟨[],[0,1],⟨rfl,rfl⟩,rfl,rfl⟩
  | exact ⟨[],[1],⟨rfl,rfl⟩,rfl,rfl⟩
  | exact ⟨[],[],⟨rfl,rfl⟩,rfl,rfl⟩
  | refine .pure _ [] (aA.strip (by assumption)) ?_
  | refine .eff [] [0,1,2] _ _ rfl (by assumption) ?_
  | refine .eff [] [2] _ _ rfl (by assumption) ?_
  | refine .pure _ _ (by assumption) ?_
  | exact ⟨[],[0,1,2],⟨rfl,rfl⟩,rfl,rfl⟩
  | exact ⟨[],[2],⟨rfl,rfl⟩,rfl,rfl⟩
  | (exfalso;simp only [decide_eq_true_eq,decide_eq_false_iff_not] at *;omega)
  | fail):P:=h
def gV{P Q:Prop}(k:Q)(h:Q->P:=by intro k;refine gW (by first | exact hE | exact hEo _ _ | exact hEr _ _ | exact hEl _ _ _ _ | assumption) ?_;(conv=>whnf);exact k):P:=h k
open Go.RowKit
def W7(gl:Nat)(c:aa):BInv where
 inv M _ _:=M gl 0 c
 mono hM _ _ h:=hM _ _ _ h
def zt{P Q:Prop}(k:Q)(h:Q->P:=by intro k;first | exact aY k | exact aN k | exact aT k | exact aF k | exact aJ k | exact ⟨_,rfl,k⟩ | exact aD k):P:=h k
def zx{A B X:az->az->Prop}(ks:az)(h:(A [] ks/\B [] ks)/\X [] ks:=by exact ⟨⟨rfl,rfl⟩,rfl,rfl⟩):∃ a ks,(A a ks/\B a ks)/\X a ks:=⟨[],ks,h⟩
def zu{a b p q:Prop}(h:a->p)(k:b->q):(a->p)/\(b->q):=⟨h,k⟩
section
variable {E:Env} {fn:Func} {g:Goal}
inductive HandG(E:Env)(fn:Func)(g:Goal)(all:bg)(tab:az)(ks:bh)(n d t gl:Nat)(l2:bg)(fr:ar)(ac:au):Prop
 | mk (k gg:Nat) (c v:aa) (hk:aB ac k= .bun gg (W7 gl c)) (hv:aA3 E (aB ac) t (.ptr [c])= .val v) (h:To E fn g (.mid ⟨all,false,tab,ks⟩ (n+1) l2 [] (oE fr (some d) v) ac))
def VV{P:Program}{x:Operand}{t:TypeId}{p:Oper}(hp:p.op= .load t x){ρ:Operand->Value}{w:World}{v:Value}(h:(Instr.loadAt t (ρ x)).run P w= .ok v w):(execOp ρ p).run P w= .ok (.value v) w:=by obtain ⟨d,op,ty,pos,a,b⟩:=p;dsimp only at hp;subst hp;have:execOp ρ ⟨d,.load t x,ty,pos,a,b⟩=(Instr.loadAt t (ρ x) >>= λ v=>Pure.pure (.value v)):=rfl;rw [this,Sem.run_bind,h];rfl
def To.glob(hE:ae E)(n:Nat){id:Nat}{ops:Array Oper}(tab:az){ks:bh}{fr:ar}{ac:au}{p:Oper}{t r d:Nat}(R:ops.toList[n]? =some p)(hp:p.op= .load t (.global r))(q:p.dst=some d)(Z:p.guard=none)
  (h:fX E ops.toList (HandG E fn g ops.toList tab ks n d t r (ops.toList.drop (n+1))) (nH E fn g) 0 (ops.toList.take n) fr ac):To E fn g (.code (.code (.region id ops false)::ks) fr ac):=
 .mk λ T M0 ob0 b w0 a w hst hs=>by
  simp only [bO,KI.ok,dU,Bool.and_eq_true] at T;obtain ⟨⟨D,ho2⟩,C⟩:=T;have hd:=sE D;have N:=(List.getElem?_eq_some_iff.1 R).1;have f:ops.toList=ops.toList.take n++p::ops.toList.drop (n+1):=by
   conv=>lhs;rw [<-List.take_append_drop n ops.toList,List.drop_eq_getElem_cons N]
   rw [(List.getElem?_eq_some_iff.1 R).2]
  refine KW.code (Q':=QR E fn g M0 ob0 b w0 ks) ?_ (λ a w h=>h) (λ i a w h=>h) (λ e a w Y=>by cases e<;>first | exact .inl rfl | exact .inr ⟨_,rfl⟩ | exact Y.elim)
  have l:∀ m v ac i a w,nH E fn g m v ac->PP M0 ob0 b w0 fn.ntmps E.df m v ac i a w->tQ E fn M0 ob0 b w0 g (.panic i) a w:=λ m v ac i a w V l=>FQ V hst l;have hq:∀ fr ac a w,dR E fn g ks fr ac->SS M0 ob0 b w0 fn.ntmps E.df fr ac a w->KW E.rd E.P (tQ E fn M0 ob0 b w0 g) ks a w:=λ fr ac a w J hs=>J C M0 ob0 b w0 a w hst hs;refine wpIn_region_list ?_;have A:∀ fr ac a w,HandG E fn g ops.toList tab ks n d t r (ops.toList.drop (n+1)) fr ac->SS M0 ob0 b w0 fn.ntmps E.df fr ac a w->wpListIn (fen E.rd) 0 E.P ops (QR E fn g M0 ob0 b w0 ks) (p::ops.toList.drop (n+1)) a w:=by
   rintro fr ac a w ⟨k,gg,c,v,J,hv,o⟩ hs;obtain ⟨M,ob,hx,hm,L,s,F,h0⟩:=hs;obtain ⟨_,_,_,bs,_,_,X⟩:=hm.obj k _ (bP J (by simp));have H:Rep M ob (.pointer (some ⟨r,0,none⟩)) (.ptr [c]):=.ptr r 0 [c] λ j x S=>by
    cases j with
    | zero=>cases S;exact X
    | succ j=>simp at S
   have hl:=aA2 (base:=0) hE hm (t:=t) H;rw [hv] at hl;obtain ⟨_,u,z,hr⟩:=hl;have O:qQ E.P p a.eval w (λ e B=>e= .returned u/\B=w):=.inl ⟨_,_,VV hp z,rfl,rfl⟩;refine wk (next:=λ a w=>SS M0 ob0 b w0 fn.ntmps E.df (oE fr (some d) v) ac a w) ?_ λ a w hs=>?_
   .unfold G;rw [if_pos (by simp [Region.wanted,Z])];refine O.wpIn (by intro c;rw [hp];simp) (λ v B ⟨I,U⟩=>?_) (λ i B ⟨I,_⟩=>by cases I);cases I;subst U;refine ⟨M,ob,hx,hm,?_,(fQ _ _ _).1.trans s,F.put,h0⟩;rw [fT,q];exact oN L hr λ W e=>s▸hd p (by rw [f];simp) W (q.trans e)
   .obtain ⟨o⟩:=o;exact pY (rd:=E.rd) (Q:=QR E fn g M0 ob0 b w0 ks) (K:=dR E fn g ks) (Kp:=nH E fn g) hE (λ m v ac i a w h1 y=>l m v ac i a w h1 y) (λ fr ac a w h1 y=>hq fr ac a w h1 y) _ (n+1) _ _ a w (λ p hp=>hd p (by rw [f];exact List.mem_append_right _ (List.mem_cons_of_mem _ hp))) o hs
  rw [f];exact zN (rd:=E.rd) (Q:=QR E fn g M0 ob0 b w0 ks) (Kp:=nH E fn g) hE (λ m v ac i a w h1 y=>l m v ac i a w h1 y) A _ 0 fr ac a w (λ p hp=>hd p (by rw [f];exact List.mem_append_left _ hp)) h hs
end
def Mg(w:World)(a:Nat)(c:aa):Imm:=λ b o x=>Mw w b o x\/(b=a/\o=0/\x=c)
def aQp{w:World}{a:Nat}{c:aa}{u:Value}(h1:w.cell? ⟨a,0,none⟩=some u)(i:u.oneCell'=true)(h3:Rep (Mg w a c) [] u c):Mem (Mg w a c) [[fC []]] [.bun 0 (W7 a c)] w:=by
 have d:blk [fC []]=[]:=fG _;have m:∀ b o x,Mw w b o x->Mg w a c b o x:=λ_ _ _ h=>.inl h
 have n:Mem (Mg w a c) [] [] w:=⟨λ b o x g=>by
  rcases g with ⟨v,f,j,l⟩ | ⟨rfl,rfl,rfl⟩
  .exact ⟨v,f,j,l.rep.monoM m⟩
  .exact ⟨u,h1,i,h3⟩,rfl,λ k c h=>by simp at h,λ k b ⟨c,hs,e,_⟩=>by simp at e,λ k p b ⟨c,hs,e,_⟩=>by simp at e⟩
 exact (n.snoc (c:=.bun 0 (W7 a c)) (hs:=[fC []]) (λ ob _=>⟨rfl,[],rfl,(λ b d=>by simp at d),.inr ⟨rfl,rfl,rfl⟩⟩) (λ b h=>by rw [d] at h;simp at h) (λ k b _=>by rw [d];simp)).1
def gH{P:Program}{f:FuncId}{args:ay}{d:ba}{w:World}{g:Nat}{c:aa}{u:Value}(l:qS P f)(h:aA P f args [.bun 0 (W7 g c)] (.ret (.bool true)) [.bun 0 (W7 g c)])
  (h1:w.cell? ⟨g,0,none⟩=some u) (y:u.oneCell'=true) (h3:Rep (Mg w g c) [] u c) (q:cM (Mw w) [] d args):Calls P f d.toArray w λ e w'=>e= .returned (.bool true)/\Below w.heap.size w w':=by
 have o:cM (Mg w g c) [[fC []]] d args:=⟨q.1,λ i v a t z=>(q.2 i v a t z).mono (λ_ _ _ h=>.inl h) (IE _)⟩
 have n:blk [fC []]=[]:=fG _;have m:∀ k b,¬ aM [[fC []]] [.bun 0 (W7 g c)] k b:=λ k b ⟨x,hs,A,_,s,r⟩=>by
  cases k with
  | zero=>cases s;rw [n] at r;simp at r
  | succ k=>simp at s
 rcases h _ _ w d (aQp h1 y h3) o with ⟨_,h⟩ | ⟨v,w',h,_⟩
 .refine h.mono λ e w' ⟨M',ob',j,C,p⟩=>⟨?_,?_⟩
  .cases e with
   | returned v=>rw [Rep.bool_inv p]
   | panicked B=>exact p.elim
   | outgrown=>exact p.elim
  .exact ⟨j.os,j.tape,j.output,j.size,λ b n=>j.keep b n λ k=>m k b⟩
 .rw [l] at h;cases h
end Go.AW
