/- Part 5 of what the statement rests on. -/
import Derived.Test.YtenkdioaefckoaaGreatDoorWS
set_option linter.all false
open List renaming length->Z
open Bool renaming true->O,false->S
open Option renaming some->X,none->U
namespace Go.AW
def To.partR{E:Env}{fn:Func}{g:Goal}{st:bg}{fr a:au}{ac ob':aw}(h:To E fn g (.head st a ob'))
  (i:TP g.n0 (List.range (Z ob')) (aC ac) (mW (a.map (·.1)) fr)=a) (f:gT g.n0 (List.range (Z ob')) ac=ob') (c:E.df=[]) (d:jS (List.range (Z ob')) ac=O) (e:jP g.n0 0 (List.range (Z ob'))=O) (b:g.strict=O):To E fn g (.head st fr ac):=
 To.part (a.map (·.1)) (List.range (Z ob')) c d e (by grind) b
def zE{c:Bool}{p q:Prop}(h:c=O)(k:p):(c=O->p)/\(c=S->q):=⟨λ_=>k,λh'=>bv (h.symm.trans h') (by decide)⟩
def zF{c:Bool}{p q:Prop}(h:c=S)(k:q):(c=O->p)/\(c=S->q):=⟨λh'=>bv (h.symm.trans h') (by decide),λ_=>k⟩
def zP{E:Env}{fn:Func}{g:Goal}{st:bg}{fr fr':au}{ac ob':aw}(h:To E fn g (.head st fr' ob'):=by assumption)
  (hf:TP g.n0 (List.range (Z ob')) (aC ac) (mW (fr'.map (·.1)) fr)=fr':=by rfl) (ho:gT g.n0 (List.range (Z ob')) ac=ob':=by rfl) (hdf:E.df=[]:=by rfl) (hk:jS (List.range (Z ob')) ac=true:=by rfl) (hb:jP g.n0 0 (List.range (Z ob'))=true:=by rfl) (hstr:g.strict=true:=by rfl):To E fn g (.head st fr ac):=
 To.partR h hf ho hdf hk hb hstr
def zM{a b p:Prop}(h:p)(h1:a:=by simp only[maxLen];simp;omega)(h2:b:=by simp;omega):(a/\b)/\p:=⟨⟨h1,h2⟩,h⟩
def zW{P:Prop}(h:P:=by
 repeat' first
  |(refine gN (by first|exact hE|exact hEo _ _|exact hEr _ _|exact hEl _ _ _ _|assumption) ?_;conv=>whnf)
  |exact rfl
  |assumption
  |refine aY ?_
  |refine aN ?_
  |refine .pure _ [] (by assumption) ?_
  |refine .pure _ [] (hz1 _) ?_
  |refine .pure _ [] (hz2 _ _) ?_
  |refine .pure _ [] (hz3 _ _ _) ?_
  |refine .eff [] [0] _ _ rfl (by assumption) ?_
  |refine .eff [] [1] _ _ rfl (by assumption) ?_
  |refine .eff [] [0,1] _ _ rfl (by assumption) ?_
  |refine⟨_,by assumption,?_⟩
  |refine zE (by assumption) ?_
  |refine zF (by assumption) ?_
  |refine aT λh=>?_
  |refine aF λh=>?_
  |refine⟨λh=>?_,λh=>?_⟩
  |refine aJ ?_
  |refine⟨_,rfl,?_⟩
  |refine aD ?_
  |exact zP
  |refine zM ?_
  |refine And.intro (qH (by assumption) (by decide)) ?_
  |exact⟨⟨rfl,rfl⟩,rfl,rfl⟩
  |exact⟨[],[0],⟨rfl,rfl⟩,rfl,rfl⟩
  |exact⟨[],[0,1],⟨rfl,rfl⟩,rfl,rfl⟩
  |exact⟨[],[1],⟨rfl,rfl⟩,rfl,rfl⟩
  |exact⟨[],[],⟨rfl,rfl⟩,rfl,rfl⟩
  |refine .pure _ [] (aA.strip (by assumption)) ?_
  |refine .eff [] [0,1,2] _ _ rfl (by assumption) ?_
  |refine .eff [] [2] _ _ rfl (by assumption) ?_
  |refine .pure _ _ (by assumption) ?_
  |exact⟨[],[0,1,2],⟨rfl,rfl⟩,rfl,rfl⟩
  |exact⟨[],[2],⟨rfl,rfl⟩,rfl,rfl⟩
  |(exfalso;simp only[bo,bk]at*;omega)
  |fail):P:=h
def gV{P Q:Prop}(k:Q)(h:Q->P:=by intro k;refine gW (by first|exact hE|exact hEo _ _|exact hEr _ _|exact hEl _ _ _ _|assumption) ?_;(conv=>whnf);exact k):P:=h k
open Go.RowKit
def W9(gl:Nat)(c:aa):BInv where
 inv M _ _:=M gl 0 c
 mono hM _ _ h:=hM _ _ _ h
def zt{P Q:Prop}(k:Q)(h:Q->P:=by intro k;first|exact aY k|exact aN k|exact aT k|exact aF k|exact aJ k|exact⟨_,rfl,k⟩|exact aD k):P:=h k
def zx{A B An:a6->a6->Prop}(ks:a6)(h:(A [] ks/\B [] ks)/\An [] ks:=by exact⟨⟨rfl,rfl⟩,rfl,rfl⟩):∃a ks,(A a ks/\B a ks)/\An a ks:=⟨[],ks,h⟩
def zu{a b p q:Prop}(h:a->p)(k:b->q):(a->p)/\(b->q):=⟨h,k⟩
section
variable {E:Env} {fn:Func} {g:Goal}
inductive HandG(E:Env)(fn:Func)(g:Goal)(all:bf)(tab:a6)(ks:bg)(n d t gl:Nat)(l2:bf)(fr:au)(ac:aw):Prop
 |mk (k gg:Nat) (c v:aa) (hk:aC ac k= .bun gg (W9 gl c)) (hv:aBj E (aC ac) t (.ptr [c])= .val v) (h:To E fn g (.mid ⟨all,S,tab,ks⟩ (n+1) l2 [] (lC fr (X d) v) ac))
def U9{P:Program}{x:Operand}{t:TypeId}{p:Oper}(hp:p.op= .load t x){ρ:Operand->Value}{w:World}{v:Value}(h:(Instr.loadAt t (ρ x)).run P w= .ok v w):(execOp ρ p).run P w= .ok (.value v) w:=by obtain⟨d,op,ty,pos,a,b⟩:=p;dsimp only at hp;subst hp;have:execOp ρ ⟨d,.load t x,ty,pos,a,b⟩=(Instr.loadAt t (ρ x) >>= λv=>Pure.pure (.value v)):=rfl;rw[this,Sem.run_bind,h];rfl
def To.glob(hE:ae E)(n:Nat){id:Nat}{ops:Array Oper}(tab:a6){ks:bg}{fr:au}{ac:aw}{p:Oper}{t s d:Nat}(Y:ops.toList[n]? =X p)(hp:p.op= .load t (.global s))(z:p.dst=X d)(T:p.guard=U)
  (h:fL E ops.toList (HandG E fn g ops.toList tab ks n d t s (ops.toList.drop (n+1))) (kD E fn g) 0 (ops.toList.take n) fr ac):To E fn g (.code (.code (.region id ops S)::ks) fr ac):=
 .mk λR M0 ob0 aq w0 a w hst hs=>by
  simp only[bJ,KI.ok,dR,Bool.and_eq_true]at R;obtain⟨⟨H,W⟩,L⟩:=R;have C:=qI H;have hlt:=(List.getElem?_eq_some_iff.1 Y).1;have b:ops.toList=ops.toList.take n++p::ops.toList.drop (n+1):=by grind[List.take_append_drop,List.drop_eq_getElem_cons,List.getElem?_eq_some_iff]
  refine KW.code (Q':=QR E fn g M0 ob0 aq w0 ks) ?_ (λa w h=>h) (λf a w h=>h) (λe a w hh=>by cases e<;>first|exact .inl rfl|exact .inr ⟨_,rfl⟩|exact hh.elim)
  have i:∀l v ac f a w,kD E fn g l v ac->PP M0 ob0 aq w0 fn.ntmps E.df l v ac f a w->rW E fn M0 ob0 aq w0 g (.panic f) a w:=λl v ac f a w An i=>DV An hst i;have hq:∀fr ac a w,dP E fn g ks fr ac->SS M0 ob0 aq w0 fn.ntmps E.df fr ac a w->KW E.rd E.P (rW E fn M0 ob0 aq w0 g) ks a w:=λfr ac a w A hs=>A L M0 ob0 aq w0 a w hst hs;refine wpIn_region_list ?_;have r:∀fr ac a w,HandG E fn g ops.toList tab ks n d t s (ops.toList.drop (n+1)) fr ac->SS M0 ob0 aq w0 fn.ntmps E.df fr ac a w->wpListIn (fen E.rd) 0 E.P ops (QR E fn g M0 ob0 aq w0 ks) (p::ops.toList.drop (n+1)) a w:=by
   rintro fr ac a w ⟨k,gg,c,v,A,hv,m⟩ hs;obtain⟨M,ob,At,hm,F,o,I,h0⟩:=hs;obtain⟨_,_,_,bs,_,_,Am⟩:=hm.obj k _ (bK A (by simp));have N:Rep M ob (.pointer (X ⟨s,0,U⟩)) (.ptr [c]):=.ptr s 0 [c] λj x As=>by
    cases j with
    |zero=>cases As;exact Am
    |succ j=>simp at As
   have hl:=aBi (base:=0) hE hm (t:=t) N;rw[hv]at hl;obtain⟨_,u,q,V⟩:=hl;have J:pC E.P p a.eval w (λe D=>e= .returned u/\D=w):=.inl ⟨_,_,U9 hp q,rfl,rfl⟩;refine wk (next:=λa w=>SS M0 ob0 aq w0 fn.ntmps E.df (lC fr (X d) v) ac a w) ?_ λa w hs=>?_
   .unfold G;rw[bu (by simp[Region.wanted,T])];refine J.wpIn (by intro c;rw[hp];simp) (λv D ⟨B,e2⟩=>?_) (λf D ⟨B,_⟩=>by cases B);cases B;subst e2;refine⟨M,ob,At,hm,?_,(dX _ _ _).1.trans o,I.put,h0⟩;rw[fH,z];exact nG F V λBe e=>o▸C p (by rw[b];simp) Be (z.trans e)
   .obtain ⟨m⟩:=m;exact oL (rd:=E.rd) (Q:=QR E fn g M0 ob0 aq w0 ks) (K:=dP E fn g ks) (Kp:=kD E fn g) hE (λl v ac f a w h1 y=>i l v ac f a w h1 y) (λfr ac a w h1 y=>hq fr ac a w h1 y) _ (n+1) _ _ a w (λp hp=>C p (by grind[List.mem_append_right,List.mem_cons_of_mem])) m hs
  rw[b];exact xN (rd:=E.rd) (Q:=QR E fn g M0 ob0 aq w0 ks) (Kp:=kD E fn g) hE (λl v ac f a w h1 y=>i l v ac f a w h1 y) r _ 0 fr ac a w (λp hp=>C p (by rw[b];exact List.mem_append_left _ hp)) h hs
end
def To.partC{E:Env}{fn:Func}{g:Goal}{st:bg}{fr:au}{ac:aw}(l ks:a6)(b:E.df=[])(c:jS ks ac=O)(d:jP g.n0 0 ks=O)
  (h:To E fn g (.code st (TP g.n0 ks (aC ac) (mW l fr)) (gT g.n0 ks ac))) (a:g.strict=true:=by rfl):To E fn g (.code st fr ac):=To.toC (To.part l ks b c d (To.ofC h) a)
def Mg(w:World)(a:Nat)(c:aa):Imm:=λb o x=>Mw w b o x\/(b=a/\o=0/\x=c)
def aTe{w:World}{a:Nat}{c:aa}{u:Value}(h1:w.cell? ⟨a,0,U⟩=X u)(i:u.oneCell'=O)(h3:Rep (Mg w a c) [] u c):Mem (Mg w a c) [[fA []]] [.bun 0 (W9 a c)] w:=by
 have d:blk [fA []]=[]:=eU _;have j:∀b o x,Mw w b o x->Mg w a c b o x:=λ_ _ _ h=>.inl h
 have m:Mem (Mg w a c) [] [] w:=⟨λb o x f=>by
  rcases f with⟨v,n,l,g⟩|⟨rfl,rfl,rfl⟩
  .exact ⟨v,n,l,g.rep.monoM j⟩
  .exact ⟨u,h1,i,h3⟩,rfl,λk c h=>by simp at h,λk b ⟨c,hs,e,_⟩=>by simp at e,λk p b ⟨c,hs,e,_⟩=>by simp at e⟩
 exact(m.snoc (c:=.bun 0 (W9 a c)) (hs:=[fA []]) (λob _=>⟨rfl,[],rfl,(λb d=>by simp at d),.inr ⟨rfl,rfl,rfl⟩⟩) (λb h=>by rw[d]at h;simp at h) (λk b _=>by rw[d];simp)).1
def CM{P:Program}{f:FuncId}{args:az}{d:bb}{w:World}{g:Nat}{c:aa}{u:Value}(m:pD P f)(h:aA P f args [.bun 0 (W9 g c)] (.ret (.bool O)) [.bun 0 (W9 g c)])
  (h1:w.cell? ⟨g,0,U⟩=X u) (s:u.oneCell'=O) (h3:Rep (Mg w g c) [] u c) (p:cL (Mw w) [] d args):Calls P f d.toArray w λe w'=>e= .returned (.bool O)/\Below w.heap.size w w':=by
 have l:cL (Mg w g c) [[fA []]] d args:=⟨p.1,λi v a r t=>(p.2 i v a r t).mono (λ_ _ _ h=>.inl h) (GD _)⟩
 have q:blk [fA []]=[]:=eU _;have n:∀k b,¬ aK [[fA []]] [.bun 0 (W9 g c)] k b:=λk b ⟨x,hs,C,_,A,y⟩=>by grind
 rcases h _ _ w d (aTe h1 s h3) l with⟨_,h⟩|⟨v,w',h,_⟩
 .refine h.mono λe w' ⟨M',ob',j,z,o⟩=>⟨?_,?_⟩
  .cases e with
   |returned v=>rw[Rep.bool_inv o]
   |panicked B=>exact o.elim
   |outgrown=>exact o.elim
  .exact ⟨j.os,j.tape,j.output,j.size,λb q=>j.keep b q λk=>n k b⟩
 .rw [m]at h;cases h
open Classical
def nW(fn:Func)(r:Nat):bg:=match B5 r (dS fn)with|some c=>.code c::gB fn r|none=>[]
section
variable {rd:Option Nat} {M0:Imm} {ob0:Hs} {aq:aw} {w0:World} {sz:Nat} {dfs:List (Nat×az)} {E:Env} {ops:Array Oper} {Q:Exit->Act->World->Prop} {K:au->aw->Prop} {Kp:(Nat->aa)->aa->aw->Prop} {A tab:a6}
end
open Go
section
variable {E:Env} {fn:Func} {g:Goal}
inductive HandD(E:Env)(fn:Func)(g:Goal)(ks:bg)(d:Option Nat)(f:Nat)(axs:List Operand)(fr:au)(ac:aw):Prop
 |mk (h:To {E with df:=(f,evO (ev fr) axs)::E.df} fn g (.code ks (lC fr d (.tup [])) ac))
end
def wrS(all:bf)(n:Nat)(fr:au)(d:Option Nat)(v:aa)(k:au->Prop):Prop:=
 bif rK n all then(match d,v with
  |some d,.bool b=>(b=O->AV fr d (.bool O) k)/\(b=S->AV fr d (.bool S) k)
  |_,_=>False)
 else aFW fr d v k
def Y3{all:bf}{n:Nat}{fr:au}{d:Option Nat}{v:aa}{k:au->Prop}(h:wrS all n fr d v k):k (lC fr d v):=by
 unfold wrS at h;cases a:rK n all with
 |false=>rw[a]at h;simp only[cond_false,QT]at h;exact h
 |true=>
  rw[a]at h;simp only[cond_true]at h;split at h
  .rename_i d b;cases b with
   |true=>have:=h.1 rfl;rw[mA]at this;exact this
   |false=>have:=h.2 rfl;rw[mA]at this;exact this
  .exact h.elim
def nB(E:Env)(A tab:a6)(all:bf)(fr:au)(ac:aw):a6->Prop
 |[]=>True
 |i::r=>(match nth all i with
   |some p=>(match p.dst with
    |some d=>(match cF all (evP A tab all i fr) p.guard with
     |some true=>orF E.P ac (λv o=>v=aX fr d/\o=ac) (λ_ _=>False) (eop E (gK E p.dst) (aS ac) (aC ac) (evP A tab all i fr) p.op p.type)
     |some false=>aX fr d= .tup []
     |none=>False)
    |none=>False)
   |none=>False)/\nB E A tab all fr ac r
def noF(tab a:a6):a6->Bool
 |[]=>O
 |n::r=>!(zO tab n a)&&noF tab a r
def TE(tab a:a6)(f:Nat->Prop):a6->Prop
 |[]=>True
 |n::r=>bif zO tab n a then(bif noF tab a r then f n else f n/\TE tab a f r)else TE tab a f r
def RN{tab b:a6}{n:Nat}(a:zO tab n b=O):∀{l:a6},noF tab b l=O->n∈l->False
 |[],_,h=>by cases h
 |j::r,h,hn=>by
  simp only[noF,Bool.and_eq_true,Bool.not_eq_true']at h;rcases List.mem_cons.1 hn with e|e
  .rw [<-e,a]at h;cases h.1
  .exact RN a h.2 e
def G5{tab c:a6}{f:Nat->Prop}{n:Nat}(d:zO tab n c=O):∀{l:a6},TE tab c f l->n∈l->f n
 |[],_,h=>by cases h
 |j::r,h,a=>by
  unfold TE at h;by_cases e:n=j
  .subst e;rw[d]at h;cases b:noF tab c r with
   |true=>rw[b]at h;exact h
   |false=>rw[b]at h;exact h.1
  .have a:=(List.mem_cons.1 a).resolve_left e;cases g:zO tab j c with
   |false=>rw[g]at h;exact G5 d h a
   |true=>
    rw[g]at h;cases b:noF tab c r with
    |true=>exact(RN d b a).elim
    |false=>rw[b]at h;exact G5 d h.2 a
def xO(E:Env)(A tab:a6)(all:bf)(K:au->aw->Prop)(Kp:(Nat->aa)->aa->aw->Prop):a6->a6->a6->au->aw->Prop
 |[],_,Be,fr,ac=>nB E A tab all fr ac Be/\K fr ac
 |_::F,Bs,Be,fr,ac=>nB E A tab all fr ac Be/\TE tab Bs (λn=>match nth all n with
   |none=>False
   |some p=>(match cF all (evP A tab all n fr) p.guard with
    |none=>False
    |some false=>aFW fr p.dst (.tup []) λfr=>xO E A tab all K Kp F (sH n Bs) (wP tab n Be) fr ac
    |some true=>orF E.P ac (λv ap=>KD 5 v λv=>ODL ap λap=>wrS all n fr p.dst v λfr=>xO E A tab all K Kp F (sH n Bs) (wP tab n Be) fr ap) (Kp (gP A all fr))
            (eop E (gK E p.dst) (aS ac) (aC ac) (evP A tab all n fr) p.op p.type))) Bs
def EF(E:Env)(A tab:a6)(all:bf)(ac:aw):a6->au->(au->Prop)->Prop
 |[],fr,k=>k fr
 |i::r,fr,k=>match nth all i with
  |some p=>(match p.dst with
   |some d=>(match cF all (evP A tab all i fr) p.guard with
    |some true=>orF E.P ac (λv _=>KD 5 v λv=>wrS all i fr (X d) v λfr=>EF E A tab all ac r fr k) (λ_ _=>False) (eop E (gK E p.dst) (aS ac) (aC ac) (evP A tab all i fr) p.op p.type)
    |some false=>AV fr d (.tup []) λfr=>EF E A tab all ac r fr k
    |none=>False)
   |none=>False)
  |none=>False
def RZ{E:Env}{A tab:a6}{all:bf}{fr:au}{ac:aw}:∀{Be:a6},nB E A tab all fr ac Be->∀i∈Be,∃p d,all[i]? =X p/\p.dst=X d/\
  ((cF all (evP A tab all i fr) p.guard=X S/\aX fr d= .tup [])\/(cF all (evP A tab all i fr) p.guard=X O/\orF E.P ac (λv o=>v=aX fr d/\o=ac) (λ_ _=>False) (eop E (gK E p.dst) (aS ac) (aC ac) (evP A tab all i fr) p.op p.type)))
 |[],_,i,a=>by cases a
 |j::r,h,i,a=>by
  rcases List.mem_cons.1 a with rfl|a
  .have h1:=h.1;split at h1
   .rename_i p hp;split at h1
    .rename_i d c;split at h1
     .rename_i b;exact⟨p,d,lD hp,c,.inr ⟨b,h1⟩⟩
     .rename_i b;exact⟨p,d,lD hp,c,.inl ⟨b,h1⟩⟩
     .exact h1.elim
    .exact h1.elim
   .exact h1.elim
  .exact RZ h.2 i a
def aDF{E:Env}{A tab:a6}{all:bf}{K:au->aw->Prop}{Kp:(Nat->aa)->aa->aw->Prop}{F B Be:a6}{fr:au}{ac:aw}(h:xO E A tab all K Kp F B Be fr ac):nB E A tab all fr ac Be:=by
 cases F with
 |nil=>exact h.1
 |cons n r=>exact h.1
def FI{P:Program}{ac:aw}{K:aa->aw->Prop}:∀{r:OR},orF P ac K (λ_ _=>False) r->∃v o,K v o
 |.no,k=>k.elim
 |.val v,k=>⟨_,_,k⟩
 |.mkf fn fs cs,k=>⟨_,_,k⟩
 |.need p r,k=>FI k.2
 |.alt p v w,k=>by
  rcases k with k|k
  .exact ⟨_,_,k.2⟩
  .exact ⟨_,_,k⟩
 |.idx n f,⟨i,hi,k⟩=>FI k
 |.elem xs i f,⟨x,hx,k⟩=>FI k
 |.byte l i,⟨c,hc,k⟩=>⟨_,_,k⟩
 |.text xs,⟨l,hl,hm,k⟩=>⟨_,_,k⟩
 |.find es key f,⟨o,ho,k⟩=>FI k
 |.born x v,k=>⟨_,_,k⟩
 |.upd i x v,k=>⟨_,_,k⟩
 |.nilq xs neg,k=>⟨_,_,k S (λh=>by cases h)⟩
 |.call f args,k=>by
  have k:CallG P f args ac K (λ_ _=>False):=k;cases k with
  |pure r new h k=>exact⟨_,_,k⟩
  |eff a ks r ap b h k=>exact⟨_,_,k⟩
  |effp a ks r ap b h k=>exact k.elim
  |pan r h k=>exact k.elim
 |.pan v,k=>k.elim
section
variable {rd:Option Nat} {M0:Imm} {ob0:Hs} {aq:aw} {w0:World} {sz:Nat} {dfs:List (Nat×az)} {E:Env} {ops:Array Oper} {Q:Exit->Act->World->Prop} {K:au->aw->Prop} {Kp:(Nat->aa)->aa->aw->Prop} {A tab:a6}
def aF4(hE:ae E)(ht:TabSp ops tab)(hd:∀(i:Nat) p,ops[i]? =X p->∀d,p.dst=X d->d<sz)(R:a6)(hRs:∀i∈R,i<ops.size)
  (hp:∀g v ac ch a w,Kp g v ac->PP M0 ob0 aq w0 sz dfs g v ac ch a w->Q (.panic ch) a w)
  (hq:∀c fr ac a w,c.size=ops.size->lM tab c->(∀i,i<ops.size->(c.getD i S=S↔i∈R))->K fr ac->SS M0 ob0 aq w0 sz dfs fr ac a w->wpAnyIn (fen rd) 0 E.P .any ops Q (Z R) c a w):
  ∀(D:Nat) (c:Array Bool) (F m l Be:a6) (fr:au) (ac:aw) (a:Act) (w:World),Z F=Z m->D=Z m+Z l->c.size=ops.size->lM tab c->
   (∀i,i<ops.size->(c.getD i S=S↔(i∈m\/i∈l)\/i∈R))->(∀i∈R,∀j,j∈m\/j∈l->cY (dF tab i) j=O)->(∀i∈R,¬ (i∈m\/i∈l))->(m++l).Nodup->(∀i∈m,i<ops.size)->(∀i∈l,i∈A/\i∈Be/\i<ops.size)->
   xO E A tab ops.toList K Kp F m Be fr ac->SM M0 ob0 aq w0 sz dfs ops l fr ac a w->wpAnyIn (fen rd) 0 E.P .any ops Q (D+Z R) c a w:=by
 intro D;induction D with
 |zero=>
  intro c F m l Be fr ac a w hF hf hsz hc At hR1 hR2 V hBs hUA h hs;have e1:m=[]:=List.eq_nil_of_length_eq_zero (by omega);have e2:l=[]:=List.eq_nil_of_length_eq_zero (by omega);subst e1 e2;obtain rfl:=List.eq_nil_of_length_eq_zero hF;rw[Nat.zero_add];refine hq c fr ac a w hsz hc (λi hi=>?_) h.2 ?_
  .grind
  .obtain ⟨M,ob,hx,hm,hfr,r⟩:=hs;exact⟨M,ob,hx,hm,λt=>hfr t (λi hi=>bv hi List.not_mem_nil),r⟩
 |succ D ih=>
  intro c F m l Be fr ac a w hF hf hsz hc At hR1 hR2 V hBs hUA h hs;rw[show D+1+Z R=(D+Z R)+1 by omega];refine⟨λh0=>?_,λi hi=>?_⟩
  .exfalso;cases m with
   |cons n r=>
    grind[List.mem_cons_self,xA]
   |nil=>
    cases l with
    |nil=>simp at hf
    |cons n r=>
     grind[List.mem_cons_self,xA]
  .obtain ⟨hilt,hil⟩:=O1 hi hsz;obtain⟨hc',hkey⟩:=hc.step ht hi;obtain⟨M,ob,hx,hm,hfr,C,hdf,h0⟩:=hs;have hl:=hm.len;have hev:∀x,Rep M ob (a.eval x) (evP A tab ops.toList i fr x):=λx=>by
    cases x with
    |const v=>exact uG v
    |global g=>exact .undef _
    |func f=>exact .func (.func f) [] [] [] [] rfl rfl (λi v a h=>by simp at h) (λi v a h=>by simp at h)
    |tmp t=>
     show Rep M ob _ (bif aC0 A tab i t 0 ops.toList then .undef else aX fr t);cases hh:aC0 A tab i t 0 ops.toList with
     |true=>exact .undef _
     |false=>
      refine hfr t λj H p hp L=>?_;have h1:=J9 hh j p (by simpa using hp) L (by rw[Nat.zero_add];exact(hUA j H).1)
      grind
   have hiR:i∉R:=λhr=>by
    have key:∀j,j∈m\/j∈l->j<ops.size->False:=λj H hjs=>by grind
    cases m with
    |cons n r=>grind[List.mem_cons_self]
    |nil=>
     cases l with
     |nil=>simp at hf
     |cons n r=>grind[List.mem_cons_self]
   have z:∀(G B:a6),(∀j,(j∈G\/j∈B)↔(j∈m\/j∈l)/\j≠i)->∀j,j<ops.size->((c.setIfInBounds i O).getD j S=S↔(j∈G\/j∈B)\/j∈R):=λG B he j H=>by
    rw[he j];by_cases e:j=i
    .subst e;rw[Array.getD_eq_getD_getElem?,Array.getElem?_setIfInBounds_self_of_lt (by omega)];simp[hiR]
    .rw [getD_set_ne S (Ne.symm e),At j H];simp[e]
   have Am:∀(G B:a6),(∀j,(j∈G\/j∈B)↔(j∈m\/j∈l)/\j≠i)->∀k∈R,∀j,j∈G\/j∈B->cY (dF tab k) j=true:=λG B he k hk j H=>hR1 k hk j ((he j).1 H).1;have W:∀(G B:a6),(∀j,(j∈G\/j∈B)↔(j∈m\/j∈l)/\j≠i)->∀k∈R,¬ (k∈G\/k∈B):=λG B he k hk H=>hR2 k hk ((he k).1 H).1;have An:(c.setIfInBounds i O).size=ops.size:=by simpa using hsz
   rcases((At i hilt).1 hil).resolve_right hiR with hB|hA
   .
    cases F with
    |nil=>rw[List.eq_nil_of_length_eq_zero hF.symm]at hB;cases hB
    |cons n0 F=>
     have hfree:zO tab i m=true:=SU λj H=>by grind
     obtain⟨hok,h⟩:=h;have h:=G5 hfree h hB;have hBn:m.Nodup:=(List.nodup_append.1 V).1;have hme:∀j,j∈sH i m↔j≠i/\j∈m:=λj=>by rw[DL];exact hBn.mem_erase_iff
     have hle:Z (sH i m)+1=Z m:=by rw[DL,List.length_erase_of_mem hB];have:=List.length_pos_of_mem hB;omega
     split at h
     .exact h.elim
     .rename_i p hnp;have N:ops[i]? =X p:=by simpa using lD hnp
      have Y:(sH i m++l).Nodup:=by rw[DL];exact List.nodup_append.2 ⟨hBn.erase i,(List.nodup_append.1 V).2.1,λx hx y hy=>(List.nodup_append.1 V).2.2 x (List.mem_of_mem_erase hx) y hy⟩
      have hiU:i∉l:=λh=>(List.nodup_append.1 V).2.2 i hB i h rfl;have s:∀j,(j∈sH i m\/j∈l)↔(j∈m\/j∈l)/\j≠i:=λj=>by
       rw[hme]
       grind
      have hUA':∀j∈l,j∈A/\j∈wP tab i Be/\j<ops.size:=λj H=>by grind[LB]
      have As:∀{M':Imm} {ob':Hs} {u:Value} {v:aa} {t:Nat},(∀b o x,M b o x->M' b o x)->dH ob ob'->Rep M' ob' u v->(∀i∈l,∀p,ops[i]? =X p->p.dst≠X t)->Rep M' ob' ((a.put p.dst u).tmps.getD t undef) (aX (lC fr p.dst v) t):=λ{M' ob' u v t} I x2 hr J=>by
       rw[fH];unfold jZ;by_cases L:p.dst=X t
       .rw [bu L];have hlt:t<a.tmps.size:=C▸hd i p N t L;rw[L];simp only[Act.put];rw[Array.getD_eq_getD_getElem?,Array.getElem?_setIfInBounds_self_of_lt hlt];exact hr
       .rw [bt L];have hold:=(hfr t J).mono I x2;cases hpd:p.dst with
        |none=>exact hold
        |some d=>
                  have hne:d≠t:=λe=>L (by rw[hpd,e]);simp only[Act.put];rw[Array.getD_eq_getD_getElem?,Array.getElem?_setIfInBounds_ne hne,<-Array.getD_eq_getD_getElem?];exact hold
      split at h
      .exact h.elim
      .rename_i T;have hw:=dT hev T;rw[QT]at h;unfold wpOpIn;rw[N];dsimp only;rw[bt (by rw[hw];decide)]
       exact⟨λ_ _=>trivial,ih (c.setIfInBounds i O) F (sH i m) l (wP tab i Be) _ ac _ w (by simp at hF;omega) (by omega) An hc' (z (sH i m) l s) (Am (sH i m) l s) (W (sH i m) l s) Y (λj H=>hBs j ((hme j).1 H).2) hUA' h
        ⟨M,ob,hx,hm,λt J=>As (λ_ _ _ h=>h) (dH.refl _) pP J,(dX _ _ _).1.trans C,hdf.put,h0⟩⟩
      .rename_i T;have hw:=dT hev T
       have h:orF E.P ac (λv ap=>xO E A tab ops.toList K Kp F (sH i m) (wP tab i Be) (lC fr p.dst v) ap) (Kp (gP A ops.toList fr)) (eop E (gK E p.dst) (aS ac) (aC ac) (evP A tab ops.toList i fr) p.op p.type):=
        mX (λv o h=>by rw[sF,xR]at h;exact Y3 h) h
       unfold wpOpIn;rw[N];dsimp only;rw[bu hw];refine(DG hE hm hev h).wpIn (oJ h) (λu w' ⟨M',ob',L',I,x2,x3⟩=>?_) (λch w' ⟨M',ob',L',I,x2,x3⟩=>?_)
       .rcases x3 with⟨u',v,e,hr,hk⟩|⟨ch,v,e,_⟩
        .cases e;have:=I.lens;have:=x2.len
         exact ih (c.setIfInBounds i O) F (sH i m) l (wP tab i Be) _ L' _ w' (by simp at hF;omega) (by omega) An hc' (z (sH i m) l s) (Am (sH i m) l s) (W (sH i m) l s) Y (λj H=>hBs j ((hme j).1 H).2) hUA' hk
          ⟨M',ob',hx.trans I,x2,λt J=>As I.imm I.hs hr J,(dX _ _ _).1.trans C,(hdf.ext hm I).put,by omega⟩
        .cases e
       .rcases x3 with⟨u',v,e,_⟩|⟨ch',v,e,hr,hk⟩
        .cases e
        .cases e;have:=I.lens;have:=x2.len;refine hp _ v L' ch a w' hk ⟨M',ob',hx.trans I,x2,hr,λt=>?_,C,hdf.ext hm I,by omega⟩;unfold gP;cases hda:IC A t 0 ops.toList with
         |true=>exact .undef _
         |false=>
          exact(hfr t λj H q hjq=>BE hda j q (by simpa using hjq) (by rw[Nat.zero_add];exact(hUA j H).1)).mono I.imm I.hs
   .
    obtain⟨k1,k2,k3⟩:=hUA i hA;obtain⟨p,d,N,hpd,hcase⟩:=RZ (aDF h) i k2;have N:ops[i]? =X p:=by simpa using N
    have hlt:d<a.tmps.size:=C▸hd i p N d hpd;have Y:l.Nodup:=(List.nodup_append.1 V).2.1;have hmem:∀j,j∈l.erase i↔j≠i/\j∈l:=λj=>Y.mem_erase_iff;have hlen:Z (l.erase i)+1=Z l:=by grind[List.length_erase_of_mem,List.length_pos_of_mem]
    have hdis:i∉m:=λhb=>(List.nodup_append.1 V).2.2 i hb i hA rfl;have s:∀j,(j∈m\/j∈l.erase i)↔(j∈m\/j∈l)/\j≠i:=λj=>by grind
    have hnd':(m++l.erase i).Nodup:=by grind[List.nodup_append]
    have As:∀{M':Imm} {ob':Hs} {u:Value} {t:Nat},(∀b o x,M b o x->M' b o x)->dH ob ob'->Rep M' ob' u (aX fr d)->(∀j∈l.erase i,∀p,ops[j]? =X p->p.dst≠X t)->Rep M' ob' ((a.put p.dst u).tmps.getD t undef) (aX fr t):=λ{M' ob' u t} I x2 hr J=>by
     rw[hpd];simp only[Act.put];by_cases L:d=t
     .subst L;rw[Array.getD_eq_getD_getElem?,Array.getElem?_setIfInBounds_self_of_lt hlt];exact hr
     .rw [Array.getD_eq_getD_getElem?,Array.getElem?_setIfInBounds_ne L,<-Array.getD_eq_getD_getElem?];refine(hfr t λj H q hjq=>?_).mono I x2
      grind[Option.some.inj]
    rcases hcase with⟨T,hz⟩|⟨T,hor⟩
    .have hw:=dT hev T;unfold wpOpIn;rw[N];dsimp only;rw[bt (by rw[hw];decide)]
     exact⟨λ_ _=>trivial,ih (c.setIfInBounds i O) F m (l.erase i) Be fr ac _ w hF (by omega) An hc' (z m (l.erase i) s) (Am m (l.erase i) s) (W m (l.erase i) s) hnd' hBs (λj H=>hUA j ((hmem j).1 H).2) h
      ⟨M,ob,hx,hm,λt J=>As (λ_ _ _ h=>h) (dH.refl _) (by rw[hz];exact pP) J,(dX _ _ _).1.trans C,hdf.put,h0⟩⟩
    .have hw:=dT hev T;unfold wpOpIn;rw[N];dsimp only;rw[bu hw];refine(DG hE hm hev hor).wpIn (oJ hor) (λu w' ⟨M',ob',L',I,x2,x3⟩=>?_) (λch w' ⟨M',ob',L',I,x2,x3⟩=>?_)
     .rcases x3 with⟨u',v,e,hr,hk1,hk2⟩|⟨ch,v,e,_⟩
      .cases e;subst hk1 hk2
       exact ih (c.setIfInBounds i O) F m (l.erase i) Be fr L' _ w' hF (by omega) An hc' (z m (l.erase i) s) (Am m (l.erase i) s) (W m (l.erase i) s) hnd' hBs (λj H=>hUA j ((hmem j).1 H).2) h
        ⟨M',ob',hx.trans I,x2,λt J=>As I.imm I.hs hr J,(dX _ _ _).1.trans C,(hdf.ext hm I).put,h0⟩
      .cases e
     grind
def EE{all:bf}{ac:aw}:∀{l:a6} {fr:au} {k:au->Prop},EF E A tab all ac l fr k->(∀i∈l,i∈A)->∃a,k a/\∀t,IC A t 0 all=S->aX a t=aX fr t
 |[],fr,k,h,_=>⟨fr,h,λt _=>rfl⟩
 |i::r,fr,k,h,hA=>by
  unfold EF at h;split at h
  .rename_i p hp;split at h
   .rename_i d c;have go:∀v,EF E A tab all ac r (iI fr d v) k->∃a,k a/\∀t,IC A t 0 all=S->aX a t=aX fr t:=λv h=>by obtain⟨a,h1,g⟩:=EE h λj f=>hA j (List.mem_cons_of_mem _ f);refine⟨a,h1,λt b=>?_⟩;rw[g t b,vO];have:=BE b i p (by simpa using lD hp) (by rw[Nat.zero_add];exact hA i (List.mem_cons_self ..));rw[bt λe=>this (by rw[c,e])]
    split at h
    .obtain ⟨v,o,h⟩:=FI h;rw[sF]at h;exact go v (Y3 h)
    .rw [mA]at h;exact go _ h
    .exact h.elim
   .exact h.elim
  .exact h.elim
end
def aJQ(E:Env)(tab:a6)(all:bf)(K:au->aw->Prop)(Kp:(Nat->aa)->aa->aw->Prop):List (a6×a6)->au->aw->Prop
 |[],fr,ac=>K fr ac
 |(A,B)::r,fr,ac=>EF E A tab all ac A fr λfr=>xO E A tab all (aJQ E tab all K Kp r) Kp B B A fr ac
def mR:List (a6×a6)->a6
 |[]=>[]
 |(A,B)::r=>(B++A)++mR r
def aEI(tab:a6):List (a6×a6)->Bool
 |[]=>O
 |(A,B)::r=>((mR r).all λi=>(B++A).all λj=>cY (dF tab i) j)&&aEI tab r
section
variable {rd:Option Nat} {M0:Imm} {ob0:Hs} {aq:aw} {w0:World} {sz:Nat} {dfs:List (Nat×az)} {E:Env} {ops:Array Oper} {Q:Exit->Act->World->Prop} {K:au->aw->Prop} {Kp:(Nat->aa)->aa->aw->Prop} {tab:a6}
def JK(hE:ae E)(s:TabSp ops tab)(o:∀(i:Nat) p,ops[i]? =X p->∀d,p.dst=X d->d<sz)
  (hp:∀g v ac q a w,Kp g v ac->PP M0 ob0 aq w0 sz dfs g v ac q a w->Q (.panic q) a w) (u:∀fr ac a w,K fr ac->SS M0 ob0 aq w0 sz dfs fr ac a w->Q .normal a w):
  ∀(At:List (a6×a6)) (b:Array Bool) (fr:au) (ac:aw) (a:Act) (w:World),b.size=ops.size->lM tab b->(∀i,i<ops.size->(b.getD i S=S↔i∈mR At))->(mR At).Nodup->(∀i∈mR At,i<ops.size)->aEI tab At=O->
   aJQ E tab ops.toList K Kp At fr ac->SS M0 ob0 aq w0 sz dfs fr ac a w->wpAnyIn (fen rd) 0 E.P .any ops Q (Z (mR At)) b a w
 |[],b,fr,ac,a,w,hsz,hc,hlist,_,_,_,h,hs=>⟨List.eq_nil_iff_forall_not_mem.2 λj k=>by
   obtain⟨h1,m⟩:=O1 k hsz
   exact bv ((hlist j h1).1 m) List.not_mem_nil,u fr ac a w h hs⟩
 |(A,B)::r,b,fr,ac,a,w,hsz,hc,hlist,hnd,hlt,hsb,h,hs=>by
  obtain⟨M,ob,y,hm,D,x⟩:=hs;obtain⟨l,h1,m⟩:=EE h λi c=>c;have f:=List.nodup_append.1 hnd;simp only[aEI,Bool.and_eq_true,List.all_eq_true]at hsb;have e:Z (mR ((A,B)::r))=(Z B+Z A)+Z (mR r):=by show Z ((B++A)++mR r)=_;rw[List.length_append,List.length_append]
  rw[e];have mem:∀i,i∈mR ((A,B)::r)↔(i∈B\/i∈A)\/i∈mR r:=λi=>by show i∈(B++A)++mR r↔_;rw[List.mem_append,List.mem_append]
  refine aF4 (K:=aJQ E tab ops.toList K Kp r) (Q:=Q) hE s o (mR r) (λi c=>hlt i ((mem i).2 (.inr c))) hp (λb fr ac a w G F H z C=>JK hE s o hp u r b fr ac a w G F H f.2.1 (λi c=>hlt i ((mem i).2 (.inr c))) hsb.2 z C)
   _ b B B A A l ac a w rfl rfl hsz hc (λi c=>by rw[hlist i c,mem i]) (λi c j k=>hsb.1 i c j (List.mem_append.2 k)) (λi c k=>f.2.2 i (List.mem_append.2 k) i c rfl) f.1 (λi c=>hlt i ((mem i).2 (.inl (.inl c)))) (λi c=>⟨c,c,hlt i ((mem i).2 (.inl (.inr c)))⟩) h1 ⟨M,ob,y,hm,λt I=>?_,x⟩
  rw[m t ?_]
  .exact D t
  .cases n:IC A t 0 ops.toList with
   |false=>rfl
   |true=>
    obtain⟨i,p,N,L,J⟩:=aBl n
    grind
end
def To.permS{E:Env}{fn:Func}{g:Goal}(hE:ae E)(At:List (a6×a6)){id:Nat}{ops:Array Oper}{ks:bg}{fr:au}{ac:aw}(hst:((aGw ops.size (mR At)&&aIi (mR At) [] ops.size)&&aEI (jU [] ops.toList) At)=O)
  (h:aJQ E (jU [] ops.toList) ops.toList (λfr ac=>To E fn g (.code ks fr ac)) (kD E fn g) At fr ac):To E fn g (.code (.code (.region id ops O)::ks) fr ac):=
 .mk λA M0 ob0 aq w0 a w c hs=>by
  simp only[bJ,KI.ok,dR,Bool.and_eq_true]at A;obtain⟨⟨u,r⟩,t⟩:=A;have C:=qI u
  refine KW.code (Q':=QR E fn g M0 ob0 aq w0 ks) ?_ (λa w h=>h) (λk a w h=>h) (λe a w F=>by cases e<;>first|exact .inl rfl|exact .inr ⟨_,rfl⟩|exact F.elim)
  have f:∀l v ac k a w,kD E fn g l v ac->PP M0 ob0 aq w0 fn.ntmps E.df l v ac k a w->rW E fn M0 ob0 aq w0 g (.panic k) a w:=λl v ac k a w I f=>DV I c f;have x:∀fr ac a w,To E fn g (.code ks fr ac)->SS M0 ob0 aq w0 fn.ntmps E.df fr ac a w->KW E.rd E.P (rW E fn M0 ob0 aq w0 g) ks a w:=λfr ac a w o hs=>o.rec λo=>o t M0 ob0 aq w0 a w c hs;have G:TabSp ops (jU [] ops.toList):=E6 ops (by simpa using r);refine wpIn_region_any hE.mix ?_;simp only[Bool.and_eq_true]at hst;obtain⟨⟨D,J⟩,H⟩:=hst;obtain⟨z,B⟩:=JR D;have y:∀i,i<ops.size->i∈mR At:=λi b=>(LJ J i b).resolve_right (by simp);have n:ops.size=Z (mR At):=by
   have N:Z (mR At)<=ops.size:=by have h3:(mR At).Subset (List.range ops.size):=λi b=>List.mem_range.2 (B i b);have:=z.length_le_of_subset h3;simpa using this
   have M:ops.size<=Z (mR At):=by have h3:(List.range ops.size).Subset (mR At):=λi b=>y i (List.mem_range.1 b);have:=List.nodup_range.length_le_of_subset h3;simpa using this
   omega
  have m:∀i,i<ops.size->(Array.replicate ops.size S).getD i S=false:=λi b=>by rw[Array.getD_eq_getD_getElem?,Array.getElem?_eq_getElem (by simpa using b)];simp
  have key:=JK (rd:=E.rd) (Q:=QR E fn g M0 ob0 aq w0 ks) (K:=λfr ac=>To E fn g (.code ks fr ac)) (Kp:=kD E fn g) hE G (λi p b d s=>C p (List.mem_of_getElem? (i:=i) (by simpa using b)) d s) (λl v ac k a w h1 q=>f l v ac k a w h1 q) (λfr ac a w h1 q=>x fr ac a w h1 q) At (Array.replicate ops.size S) fr ac;rw[<-n]at key
  exact key _ _ (by simp) (λj i L _=>by grind[Array.getD_eq_getD_getElem?,Array.getElem?_eq_none]) (λi b=>⟨λ_=>y i b,λ_=>m i b⟩) z B H h hs.draw
def To.permC{E:Env}{fn:Func}{g:Goal}(hE:ae E)(A B:a6){id:Nat}{ops:Array Oper}{ks:bg}{fr:au}{ac:aw}(hst:((aGw ops.size (mR [(A,B)])&&aIi (mR [(A,B)]) [] ops.size)&&aEI (jU [] ops.toList) [(A,B)])=O)
  (h:EF E A (jU [] ops.toList) ops.toList ac A fr λfr=>xO E A (jU [] ops.toList) ops.toList (λfr ac=>To E fn g (.code ks fr ac)) (kD E fn g) B B A fr ac):To E fn g (.code (.code (.region id ops O)::ks) fr ac):=To.permS hE [(A,B)] hst h
def aLC{p q:Prop}(h:q)(hp:p:=by repeat (first|exact trivial|refine And.intro ⟨rfl,rfl⟩ ?_)):p/\q:=⟨hp,h⟩
def eA(E:Env){f:FuncId}(fn:Func){args:az}{ac:aw}(n:Nat){r:Res}{oB:aw}(h:okL args->To E fn (.full n r oB) (.code [.code (dS fn)] (frA 0 args) ac))(b:E.df=[]:=by rfl)(j:E.P.funcs[f]? =X fn:=by rfl)(k:fn.body=X (dS fn):=by rfl)
  (a:pD E.P f:=by exact λ_ _=>by rfl) (e:dR fn.ntmps (dS fn)=true:=by decide+kernel) (i:Nat.ble (Z args) fn.ntmps=true:=by rfl) (c:wX ac=true:=by rfl) (l:Z ac=n:=by rfl) (d:E.rd=none:=by rfl):aA E.P f args ac r oB:=
 aA.to (g:=.full n r oB) b j k a e i c l h d
def gA(E:Env){f:FuncId}(fn:Func){args:az}{ac:aw}{r:Res}(h:okL args->To E fn (.pure r) (.code [.code (dS fn)] (frA 0 args) ac))(b:E.df=[]:=by rfl)(j:E.P.funcs[f]? =X fn:=by rfl)(k:fn.body=X (dS fn):=by rfl)
  (a:pD E.P f:=by exact λ_ _=>by rfl) (e:dR fn.ntmps (dS fn)=true:=by decide+kernel) (i:Nat.ble (Z args) fn.ntmps=true:=by rfl) (c:wX ac=true:=by rfl) (l:Z ac=0:=by rfl) (d:E.rd=none:=by rfl):aA E.P f args ac r []:=
 aA.to (g:=.pure r) b j k a e i c l h d
theorem pA {P Q R:Prop} (k:Q) (h:R->P:=by intro k;exact gN (by first|exact hE|exact hEo _ _|exact hEr _ _|exact hEl _ _ _ _|exact hEx _ _ _|assumption) k) (e:Q=R:=by conv=>rhs;whnf):P:=h (e.mp k)
theorem lA {P Q R:Prop} (k:Q) (j:R) (h:Q->R->P:=by intro k j;first|(have j:(0:Nat)=0:=j;first|exact aY k|exact aN k|exact aT k|exact aF k|exact aJ k|exact⟨_,rfl,k⟩|exact aD k)|exact zu k j):P:=h k j
def tA {P:Prop} (h:P:=by refine gV ?_;exact zW):P:=h
def CallG.p{P f args ac K Kp r new}(h k):=@CallG.pure P f args ac K Kp r new h k
def CallD.p{P f args so seen base ac K Kp r new}(h k):=@CallD.pure P f args so seen base ac K Kp r new h k
abbrev Ig(n:Nat):Prop:=(n:Int)<=9223372036854775807
abbrev BB(f:Func)(l:au)(o:aw):St:=.head (stk f 0) l o
abbrev BC(E:Env)(f:Func)(r:aa)(l:au)(o:aw):Prop:=To E f (.pure (.ret r)) (.head (stk f 0) l o)
end Go.AW
