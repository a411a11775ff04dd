/- Part 5 of what the statement rests on. -/
import Derived.Test.YtbpccabomgalhaaGreatDoorWD
set_option linter.all false
namespace Go.AW
def To.partR{E:Env}{fn:Func}{g:Goal}{st:bf}{fr a:ar}{ac ob':au}(h:To E fn g (.head st a ob'))
  (f:OQ g.n0 (List.range ob'.length) (aB ac) (lJ (a.map (·.1)) fr)=a) (i:gF g.n0 (List.range ob'.length) ac=ob') (c:E.df=[]) (e:iR (List.range ob'.length) ac=true) (d:iP g.n0 0 (List.range ob'.length)=true) (b:g.strict=true):To E fn g (.head st fr ac):=
 To.part (a.map (·.1)) (List.range ob'.length) c e d (by grind) b
def zE{c:Bool}{p q:Prop}(h:c=true)(k:p):(c=true->p)/\(c=false->q):=⟨λ_=>k,λ h'=>absurd (h.symm.trans h') (by decide)⟩
def zF{c:Bool}{p q:Prop}(h:c=false)(k:q):(c=true->p)/\(c=false->q):=⟨λ h'=>absurd (h.symm.trans h') (by decide),λ_=>k⟩
def zP{E:Env}{fn:Func}{g:Goal}{st:bf}{fr fr':ar}{ac ob':au}(h:To E fn g (.head st fr' ob'):=by assumption)
  (hf:OQ g.n0 (List.range ob'.length) (aB ac) (lJ (fr'.map (·.1)) fr)=fr':=by rfl) (ho:gF g.n0 (List.range ob'.length) ac=ob':=by rfl) (hdf:E.df=[]:=by rfl) (hk:iR (List.range ob'.length) ac=true:=by rfl) (hb:iP g.n0 0 (List.range ob'.length)=true:=by rfl) (hstr:g.strict=true:=by rfl):To E fn g (.head st fr ac):=
 To.partR h hf ho hdf hk hb hstr
def zM{a b p:Prop}(h:p)(h1:a:=by simp only [maxLen];simp;omega)(h2:b:=by simp;omega):(a/\b)/\p:=⟨⟨h1,h2⟩,h⟩
def zW{P:Prop}(h:P:=by
 repeat' first
  | (refine gN (by first | exact hE | exact hEo _ _ | exact hEr _ _ | exact hEl _ _ _ _ | assumption) ?_;conv=>whnf)
  | exact rfl
  | assumption
  | refine aY ?_
  | refine aN ?_
  | refine .pure _ [] (by assumption) ?_
  | refine .pure _ [] (hz1 _) ?_
  | refine .pure _ [] (hz2 _ _) ?_
  | refine .pure _ [] (hz3 _ _ _) ?_
  | refine .eff [] [0] _ _ rfl (by assumption) ?_
  | refine .eff [] [1] _ _ rfl (by assumption) ?_
  | refine .eff [] [0,1] _ _ rfl (by assumption) ?_
  | refine ⟨_,by assumption,?_⟩
  | refine zE (by assumption) ?_
  | refine zF (by assumption) ?_
  | refine aT λ h=>?_
  | refine aF λ h=>?_
  | refine ⟨λ h=>?_,λ h=>?_⟩
  | refine aJ ?_
  | refine ⟨_,rfl,?_⟩
  | refine aD ?_
  | exact zP
  | refine zM ?_
  | refine And.intro (wT (by assumption) (by decide)) ?_
  | exact ⟨⟨rfl,rfl⟩,rfl,rfl⟩
  | exact ⟨[],[0],⟨rfl,rfl⟩,rfl,rfl⟩
  | exact ⟨[],[0,1],⟨rfl,rfl⟩,rfl,rfl⟩
  | exact ⟨[],[1],⟨rfl,rfl⟩,rfl,rfl⟩
  | exact ⟨[],[],⟨rfl,rfl⟩,rfl,rfl⟩
  | refine .pure _ [] (aA.strip (by assumption)) ?_
  | refine .eff [] [0,1,2] _ _ rfl (by assumption) ?_
  | refine .eff [] [2] _ _ rfl (by assumption) ?_
  | refine .pure _ _ (by assumption) ?_
  | exact ⟨[],[0,1,2],⟨rfl,rfl⟩,rfl,rfl⟩
  | exact ⟨[],[2],⟨rfl,rfl⟩,rfl,rfl⟩
  | (exfalso;simp only [decide_eq_true_eq,decide_eq_false_iff_not] at *;omega)
  | fail):P:=h
def gV{P Q:Prop}(k:Q)(h:Q->P:=by intro k;refine gW (by first | exact hE | exact hEo _ _ | exact hEr _ _ | exact hEl _ _ _ _ | assumption) ?_;(conv=>whnf);exact k):P:=h k
open Go.RowKit
def RE(gl:Nat)(c:aa):BInv where
 inv M _ _:=M gl 0 c
 mono hM _ _ h:=hM _ _ _ h
def zt{P Q:Prop}(k:Q)(h:Q->P:=by intro k;first | exact aY k | exact aN k | exact aT k | exact aF k | exact aJ k | exact ⟨_,rfl,k⟩ | exact aD k):P:=h k
def zx{A B X:az->az->Prop}(ks:az)(h:(A [] ks/\B [] ks)/\X [] ks:=by exact ⟨⟨rfl,rfl⟩,rfl,rfl⟩):∃ a ks,(A a ks/\B a ks)/\X a ks:=⟨[],ks,h⟩
def zu{a b p q:Prop}(h:a->p)(k:b->q):(a->p)/\(b->q):=⟨h,k⟩
section
variable {E:Env} {fn:Func} {g:Goal}
inductive HandG(E:Env)(fn:Func)(g:Goal)(all:bc)(tab:az)(ks:bf)(n d t gl:Nat)(l2:bc)(fr:ar)(ac:au):Prop
 | mk (k gg:Nat) (c v:aa) (hk:aB ac k= .bun gg (RE gl c)) (hv:WI E (aB ac) t (.ptr [c])= .val v) (h:To E fn g (.mid ⟨all,false,tab,ks⟩ (n+1) l2 [] (jW fr (some d) v) ac))
def P7{P:Program}{x:Operand}{t:TypeId}{p:Oper}(hp:p.op= .load t x){ρ:Operand->Value}{w:World}{v:Value}(h:(Instr.loadAt t (ρ x)).run P w= .ok v w):(execOp ρ p).run P w= .ok (.value v) w:=by obtain ⟨d,op,ty,pos,a,b⟩:=p;dsimp only at hp;subst hp;have:execOp ρ ⟨d,.load t x,ty,pos,a,b⟩=(Instr.loadAt t (ρ x) >>= λ v=>Pure.pure (.value v)):=rfl;rw [this,Sem.run_bind,h];rfl
def To.glob(hE:ae E)(n:Nat){id:Nat}{ops:Array Oper}(tab:az){ks:bf}{fr:ar}{ac:au}{p:Oper}{t r d:Nat}(S:ops.toList[n]? =some p)(hp:p.op= .load t (.global r))(y:p.dst=some d)(hg:p.guard=none)
  (h:dL E ops.toList (HandG E fn g ops.toList tab ks n d t r (ops.toList.drop (n+1))) (iG E fn g) 0 (ops.toList.take n) fr ac):To E fn g (.code (.code (.region id ops false)::ks) fr ac):=
 .mk λ O M0 ob0 ap w0 a w hst hs=>by
  simp only [bA,KI.ok,cS,Bool.and_eq_true] at O;obtain ⟨⟨C,X⟩,I⟩:=O;have hd:=kY C;have H:=(List.getElem?_eq_some_iff.1 S).1;have b:ops.toList=ops.toList.take n++p::ops.toList.drop (n+1):=by
   conv=>lhs;rw [<-List.take_append_drop n ops.toList,List.drop_eq_getElem_cons H]
   rw [(List.getElem?_eq_some_iff.1 S).2]
  refine KW.code (Q':=QR E fn g M0 ob0 ap w0 ks) ?_ (λ a w h=>h) (λ f a w h=>h) (λ e a w Y=>by cases e<;>first | exact .inl rfl | exact .inr ⟨_,rfl⟩ | exact Y.elim)
  have i:∀ l v ac f a w,iG E fn g l v ac->PP M0 ob0 ap w0 fn.ntmps E.df l v ac f a w->kW E fn M0 ob0 ap w0 g (.panic f) a w:=λ l v ac f a w he i=>wL he hst i;have V:∀ fr ac a w,dB E fn g ks fr ac->SS M0 ob0 ap w0 fn.ntmps E.df fr ac a w->KW E.rd E.P (kW E fn M0 ob0 ap w0 g) ks a w:=λ fr ac a w N hs=>N I M0 ob0 ap w0 a w hst hs;refine wpIn_region_list ?_;have o:∀ fr ac a w,HandG E fn g ops.toList tab ks n d t r (ops.toList.drop (n+1)) fr ac->SS M0 ob0 ap w0 fn.ntmps E.df fr ac a w->wpListIn (fen E.rd) 0 E.P ops (QR E fn g M0 ob0 ap w0 ks) (p::ops.toList.drop (n+1)) a w:=by
   rintro fr ac a w ⟨k,gg,c,v,N,T,m⟩ hs;obtain ⟨M,ob,hx,hm,J,z,F,h0⟩:=hs;obtain ⟨_,_,_,bs,_,_,hi⟩:=hm.obj k _ (bD N (by simp));have B:Rep M ob (.pointer (some ⟨r,0,none⟩)) (.ptr [c]):=.ptr r 0 [c] λ j x R=>by
    cases j with
    | zero=>cases R;exact hi
    | succ j=>simp at R
   have hl:=WH (base:=0) hE hm (t:=t) B;rw [T] at hl;obtain ⟨_,u,q,U⟩:=hl;have D:nO E.P p a.eval w (λ e L=>e= .returned u/\L=w):=.inl ⟨_,_,P7 hp q,rfl,rfl⟩;refine wk (next:=λ a w=>SS M0 ob0 ap w0 fn.ntmps E.df (jW fr (some d) v) ac a w) ?_ λ a w hs=>?_
   .unfold G;rw [if_pos (by simp [Region.wanted,hg])];refine D.wpIn (by intro c;rw [hp];simp) (λ v L ⟨A,W⟩=>?_) (λ f L ⟨A,_⟩=>by cases A);cases A;subst W;refine ⟨M,ob,hx,hm,?_,(cZ _ _ _).1.trans z,F.put,h0⟩;rw [dR,y];exact kH J U λ Z e=>z▸hd p (by rw [b];simp) Z (y.trans e)
   .obtain ⟨m⟩:=m;exact mZ (rd:=E.rd) (Q:=QR E fn g M0 ob0 ap w0 ks) (K:=dB E fn g ks) (Kp:=iG E fn g) hE (λ l v ac f a w h1 s=>i l v ac f a w h1 s) (λ fr ac a w h1 s=>V fr ac a w h1 s) _ (n+1) _ _ a w (λ p hp=>hd p (by rw [b];exact List.mem_append_right _ (List.mem_cons_of_mem _ hp))) m hs
  rw [b];exact pS (rd:=E.rd) (Q:=QR E fn g M0 ob0 ap w0 ks) (Kp:=iG E fn g) hE (λ l v ac f a w h1 s=>i l v ac f a w h1 s) o _ 0 fr ac a w (λ p hp=>hd p (by rw [b];exact List.mem_append_left _ hp)) h hs
end
def To.partC{E:Env}{fn:Func}{g:Goal}{st:bf}{fr:ar}{ac:au}(l ks:az)(b:E.df=[])(d:iR ks ac=true)(c:iP g.n0 0 ks=true)
  (h:To E fn g (.code st (OQ g.n0 ks (aB ac) (lJ l fr)) (gF g.n0 ks ac))) (a:g.strict=true:=by rfl):To E fn g (.code st fr ac):=To.toC (To.part l ks b d c (To.ofC h) a)
def Mg(w:World)(a:Nat)(c:aa):Imm:=λ b o x=>Mw w b o x\/(b=a/\o=0/\x=c)
def aNT{w:World}{a:Nat}{c:aa}{u:Value}(h1:w.cell? ⟨a,0,none⟩=some u)(i:u.oneCell'=true)(h3:Rep (Mg w a c) [] u c):Mem (Mg w a c) [[dX []]] [.bun 0 (RE a c)] w:=by
 have d:blk [dX []]=[]:=eB _;have j:∀ b o x,Mw w b o x->Mg w a c b o x:=λ_ _ _ h=>.inl h
 have n:Mem (Mg w a c) [] [] w:=⟨λ b o x g=>by
  rcases g with ⟨v,f,m,l⟩ | ⟨rfl,rfl,rfl⟩
  .exact ⟨v,f,m,l.rep.monoM j⟩
  .exact ⟨u,h1,i,h3⟩,rfl,λ k c h=>by simp at h,λ k b ⟨c,hs,e,_⟩=>by simp at e,λ k p b ⟨c,hs,e,_⟩=>by simp at e⟩
 exact (n.snoc (c:=.bun 0 (RE a c)) (hs:=[dX []]) (λ ob _=>⟨rfl,[],rfl,(λ b d=>by simp at d),.inr ⟨rfl,rfl,rfl⟩⟩) (λ b h=>by rw [d] at h;simp at h) (λ k b _=>by rw [d];simp)).1
def O3{P:Program}{f:FuncId}{args:ax}{d:ba}{w:World}{g:Nat}{c:aa}{u:Value}(m:kK P f)(h:aA P f args [.bun 0 (RE g c)] (.ret (.bool true)) [.bun 0 (RE g c)])
  (h1:w.cell? ⟨g,0,none⟩=some u) (y:u.oneCell'=true) (h3:Rep (Mg w g c) [] u c) (q:bX (Mw w) [] d args):Calls P f d.toArray w λ e w'=>e= .returned (.bool true)/\Below w.heap.size w w':=by
 have o:bX (Mg w g c) [[dX []]] d args:=⟨q.1,λ i v a t z=>(q.2 i v a t z).mono (λ_ _ _ h=>.inl h) (DN _)⟩
 have p:blk [dX []]=[]:=eB _;have l:∀ k b,¬ aG [[dX []]] [.bun 0 (RE g c)] k b:=λ k b ⟨x,hs,B,_,s,r⟩=>by
  cases k with
  | zero=>cases s;rw [p] at r;simp at r
  | succ k=>simp at s
 rcases h _ _ w d (aNT h1 y h3) o with ⟨_,h⟩ | ⟨v,w',h,_⟩
 .refine h.mono λ e w' ⟨M',ob',j,C,n⟩=>⟨?_,?_⟩
  .cases e with
   | returned v=>rw [Rep.bool_inv n]
   | panicked A=>exact n.elim
   | outgrown=>exact n.elim
  .exact ⟨j.os,j.tape,j.output,j.size,λ b p=>j.keep b p λ k=>l k b⟩
 .rw [m] at h;cases h
open Classical
def rZ(fn:Func)(r:Nat):bf:=match zL r (cH fn) with | some c=>.code c::fL fn r | none=>[]
section
variable {rd:Option Nat} {M0:Imm} {ob0:Hs} {ap:au} {w0:World} {sz:Nat} {dfs:List (Nat×ax)} {E:Env} {ops:Array Oper} {Q:Exit->Act->World->Prop} {K:ar->au->Prop} {Kp:(Nat->aa)->aa->au->Prop} {A tab:az}
end
def tI{w:World}{b o:Nat}{cv:ba}{T:TypeId}{q:Value}(h:w.heap[b]? =some (.cells cv.toArray T (0,0))):w.setCell ⟨b,o,none⟩ q=w.setRow b (cv.set o q).toArray:=by
 unfold World.setCell World.setRow;congr 1;refine Array.ext_getElem? λ i=>?_;by_cases a:b=i
 .subst a;rw [Array.getElem?_modify,Array.getElem?_modify,if_pos rfl,if_pos rfl,h];simp
 .rw [Array.getElem?_modify,Array.getElem?_modify,if_neg a,if_neg a]
def Mem.cellAt{M:Imm}{ob:Hs}{w:World}{T:TypeId}{cs:ax}{o:Nat}{v:Value}{ac:au}(hm:Mem M ob (.cells T cs::ac) w)(h:Rep M ob v (.ref 0 o)):
  ∃ (b:Nat) (cv:ba),v= .pointer (some ⟨b,o,none⟩)/\at' ob 0 0=some (.pointer (some ⟨b,0,none⟩))/\w.heap[b]? =some (.cells cv.toArray T (0,0))/\cv.length=cs.length/\(∀ u∈cv,u.oneCell'=true)/\
   ∀ (i:Nat) v a,cv[i]? =some v->cs[i]? =some a->Rep M ob v a:=by
 obtain ⟨b,rfl,c⟩:=h.ref_inv;obtain ⟨hs,j,g,rfl,l,cv,k,e,h1,d⟩:=hm.obj 0 _ rfl;have f:g=b:=by rw [bT j] at c;simpa using c
 subst f;exact ⟨g,cv,rfl,c,k,e,h1,d⟩
def GC{P:Program}{f:FuncId}{k:IntKind}(h:∀ (a:Addr) (x:Int) (w:World),w.cell? a=some (.int k x)->(callFunc f #[.pointer (some a)]).run P w= .ok (.value (.int k x)) w)
  (T:TypeId) (cs:ax) (ac:au) (o:Nat) (x:Int) (i:cs[o]? =some (.int k x)):aA P f [.ref 0 o] (.cells T cs::ac) (.ret (.int k x)) (.cells T cs::ac):=by
 intro M ob w c hm d;obtain ⟨hl,d⟩:=d
 match c,hl with
 | [v],_=>
 obtain ⟨b,cv,rfl,m,l,g,h1,e⟩:=hm.cellAt (d 0 _ _ rfl rfl)
 obtain ⟨u,j⟩:∃ u,cv[o]? =some u:=⟨cv[o]'(by rw [g];exact (List.getElem?_eq_some_iff.1 i).1),List.getElem?_eq_getElem _⟩
 have d:=e o u _ j i;obtain rfl:=d.int_inv.1;refine .inr ⟨_,w,h _ x w (by simp [World.cell?,l,j]),M,ob,Ext.refl _ _ _ _,hm,d⟩
def NB{P:Program}{f:FuncId}{more:ax}{r:aa}{x y:aa}(T:TypeId)(cs:ax)(ac:au)(o:Nat)(B:cs[o]? =some x)
  (h:∀ (M:Imm) (ob:Hs) (a:Addr) (u:Value) (vs:ba) (w:World),Rep M ob u x->bX M ob vs more->w.cell? a=some u->w.frozen? a=false->∃ q z,(callFunc f (Value.pointer (some a)::vs).toArray).run P w= .ok (.value z) (w.setCell a q)/\q.oneCell'=true/\Rep M ob q y/\Rep M ob z r):
  aA P f (.ref 0 o::more) (.cells T cs::ac) (.ret r) (.cells T (cs.set o y)::ac):=by
 intro M ob w d hm n;obtain ⟨hl,n⟩:=n
 match d,hl with
 | v::vs,hl=>
 obtain ⟨b,cv,rfl,t,p,m,h1,c⟩:=hm.cellAt (n 0 _ _ rfl rfl);have s:o<cv.length:=by rw [m];exact (List.getElem?_eq_some_iff.1 B).1
 have j:cv[o]? =some cv[o]:=List.getElem?_eq_getElem _;obtain ⟨q,z,e,D,C,hz⟩:=h M ob ⟨b,o,none⟩ cv[o] vs w (c o _ _ j B) ⟨by simpa using hl,λ i v a g l=>n (i+1) v a (by simpa using g) (by simpa using l)⟩ (by simp [World.cell?,p,j]) (by simp [World.frozen?,p]);rw [tI p] at e
 have:=hm.cellsTurn (k:=0) (cs':=cs.set o y) (cv':=cv.set o q) rfl t (by simp [m]) (λ u j=>by
   rcases List.mem_or_eq_of_mem_set j with j | rfl
   .exact h1 u j
   .exact D) (λ i v a g l=>by
   by_cases A:i=o
   .subst A;rw [List.getElem?_set_self s] at g;rw [List.getElem?_set_self (by omega)] at l;cases g;cases l;exact C
   .rw [List.getElem?_set_ne (Ne.symm A)] at g l
    exact c i v a g l)
 exact .inr ⟨_,_,e,M,ob,this.2.1,this.1,hz⟩
def HX{P:Program}{f:FuncId}(p:kK P f){more:ax}{r:aa}{x y:aa}(T:TypeId)(cs:ax)(ac:au)(o:Nat)(C:cs[o]? =some x)
  (h:∀ (M:Imm) (ob:Hs) (a:Addr) (u:Value) (vs:ba) (w:World),Rep M ob u x->bX M ob vs more->w.cell? a=some u->w.frozen? a=false->∃ q z,q.oneCell'=true/\Rep M ob q y/\Rep M ob z r/\
   Calls P f (Value.pointer (some a)::vs).toArray w λ e w'=>e= .returned z/\w'=w.setCell a q):
  aA P f (.ref 0 o::more) (.cells T cs::ac) (.ret r) (.cells T (cs.set o y)::ac):=by
 intro M ob w d hm n;obtain ⟨hl,n⟩:=n
 match d,hl with
 | v::vs,hl=>
 obtain ⟨b,cv,rfl,A,s,m,h1,c⟩:=hm.cellAt (n 0 _ _ rfl rfl);have t:o<cv.length:=by rw [m];exact (List.getElem?_eq_some_iff.1 C).1
 have j:cv[o]? =some cv[o]:=List.getElem?_eq_getElem _;obtain ⟨q,z,F,D,hz,e⟩:=h M ob ⟨b,o,none⟩ cv[o] vs w (c o _ _ j C) ⟨by simpa using hl,λ i v a g l=>n (i+1) v a (by simpa using g) (by simpa using l)⟩ (by simp [World.cell?,s,j]) (by simp [World.frozen?,s])
 have:=hm.cellsTurn (k:=0) (cs':=cs.set o y) (cv':=cv.set o q) rfl A (by simp [m]) (λ u j=>by
   rcases List.mem_or_eq_of_mem_set j with j | rfl
   .exact h1 u j
   .exact F) (λ i v a g l=>by
   by_cases B:i=o
   .subst B;rw [List.getElem?_set_self t] at g;rw [List.getElem?_set_self (by omega)] at l;cases g;cases l;exact D
   .rw [List.getElem?_set_ne (Ne.symm B)] at g l
    exact c i v a g l)
 refine .inl ⟨p _ _,e.mono ?_⟩;rintro G w' ⟨rfl,rfl⟩;rw [tI s];exact ⟨M,ob,this.2.1,this.1,hz⟩
open Go
def nE.plain{E:Env}{f:FuncId}{fn:Func}{args:ax}{ac:au}{n0:Nat}{r:aa}{ao:au}(N:E.df=[])(G:E.P.funcs[f]? =some fn)(V:fn.body=some (cH fn))(O:kK E.P f)
  (L:cS fn.ntmps (cH fn)=true) (X:Nat.ble args.length fn.ntmps=true) (K:qV ac=true) (hg:ac.length=n0)
  (h:okL args->To E fn (.full n0 (.ret r) ao) (.code [.code (cH fn)] (frA 0 args) ac)) (p:E.rd=none:=by rfl):nE E.P f args ac none ao:=by
 intro M ob w d u hm I x;refine ⟨O _ _,?_⟩;obtain rfl:u= .returning:=x;have S:d.length=args.length:=I.1;have T:=Nat.le_of_ble_eq_true X;have hst:oQ (.full n0 (.ret r) ao) ob:=by
  refine ⟨by rw [hm.len,hg];rfl,λ_ hs D=>?_⟩;obtain ⟨k,q⟩:=List.getElem?_of_mem D;have C:k<ac.length:=by rw [<-hm.len];exact (List.getElem?_eq_some_iff.1 q).1
  obtain ⟨h1,Y⟩:=oZ K k _ (List.getElem?_eq_getElem C);have e:=fN (List.getElem?_eq_getElem C);have:=hm.histLen (by rw [e];exact h1) q;rw [e,Y] at this;exact this
 intro c cs U;have s:({c with mode:=.returning}:Frame)=c:=by rw [<-U]
 let b:Frame:={(default:Frame) with fn:=f,kind:=.deferred}
 let a:Act:={tmps:=d.toArray++Array.replicate (fn.ntmps-d.toArray.size) undef,defers:=[]}
 have B:a.tmps.size=fn.ntmps:=by simp [a];omega
 have o:Frame.enter E.P f d.toArray .deferred=b.at a [.code (cH fn)]:=by simp [Frame.enter,Frame.at,G,V,b,a]
 have ha:∀ t,Rep M ob (a.tmps.getD t undef) (aU (frA 0 args) t):=λ t=>by
  rw [wN];simp only [Nat.zero_le,if_true,Nat.sub_zero];by_cases R:t<args.length
  .rw [List.getElem?_eq_getElem R];have H:t<d.length:=by omega
   have:a.tmps.getD t undef=d[t]:=by show (d.toArray++Array.replicate (fn.ntmps-d.toArray.size) undef).getD t undef=_;rw [Array.getD_eq_getD_getElem?,Array.getElem?_append_left (by simpa using H)];simp [H]
   rw [this];exact I.2 t _ _ (List.getElem?_eq_getElem H) (List.getElem?_eq_getElem R)
  .rw [List.getElem?_eq_none (by omega)];exact .undef _
 have J:KW none E.P (kW E fn M ob ac w (.full n0 (.ret r) ao)) [.code (cH fn)] a w:=by rw [<-p];obtain ⟨Z⟩:=h I.okL;exact Z (by simp [bA,KI.ok,L]) M ob ac w _ w hst ⟨M,ob,Ext.refl _ _ _ _,hm,ha,B,by rw [N];exact cM.nil,by rw [hm.len];exact Nat.le_refl _⟩
 obtain ⟨W,z,Q,i,g⟩:=J.arrives b (c::cs) rfl;have fin:∀ {e:Ending} {w':World},RR M ob ac w (.full n0 (.ret r) ao) e w'->∃ v M' ob',e= .returned v/\settle FrameMode.returning= .returning/\Ext M ob ac w M' ob' ao w'/\Mem M' ob' ao w':=λ{e w'} ⟨M',ob',x1,x2,x3⟩=>by
  cases e with
  | returned v=>exact ⟨v,M',ob',rfl,rfl,x1,x2⟩
  | panicked ch=>exact x3.elim
  | outgrown=>exact x3.elim
 rw [o];cases W with
 | normal=>
  unfold kW xF at i;rw [p] at i;obtain ⟨A,j,m,F,hs,_,q,hl⟩:=cP z.defers .returning Q {b.at z [] with mode:=.returning} (c::cs) rfl rfl rfl G i;exact ⟨A,.returning,j,m,fin F,by rw [s];exact Comes.of_steps (Steps.trans g (.one step_end)) hs,q,hl⟩
 | ret=>
  obtain ⟨n,y⟩:=g;unfold kW xF at i;rw [p] at i;obtain ⟨A,j,m,F,hs,_,q,hl⟩:=cP z.defers .returning Q {b.at z n with mode:=.returning} (c::cs) rfl rfl rfl G i;exact ⟨A,.returning,j,m,fin F,by rw [s];exact Comes.of_steps y hs,q,hl⟩
 | panic dL=>
  obtain ⟨n,y⟩:=g;unfold kW at i;rw [p] at i;obtain ⟨A,j,m,F,hs,_,q,hl⟩:=cP z.defers (.panicking dL) Q {b.at z n with mode:=.panicking dL} (c::cs) rfl rfl rfl G i;exact ⟨A,.returning,j,m,fin F,by rw [s];exact Comes.of_steps y hs,q,hl⟩
 | exit id=>exact i.elim
 | goto l=>exact i.elim
 | outgrown=>exact i.elim
section
variable {E:Env} {fn:Func} {g:Goal}
inductive HandD(E:Env)(fn:Func)(g:Goal)(ks:bf)(d:Option Nat)(f:Nat)(axs:List Operand)(fr:ar)(ac:au):Prop
 | mk (h:To {E with df:=(f,evO (ev fr) axs)::E.df} fn g (.code ks (jW fr d (.tup [])) ac))
def To.deferL(hE:ae E)(n:Nat){id:Nat}{ops:Array Oper}{ks:bf}{fr:ar}{ac:au}{p:Oper}{f:Nat}{c o:Array _}(J:ops.toList[n]? =some p)(hl:ops.toList.drop (n+1)=[])
  (hp:p.op= .defer ⟨.value (.func f),c,o⟩) (hg:p.guard=none)
  (h:dL E ops.toList (HandD E fn g ks p.dst f c.toList) (iG E fn g) 0 (ops.toList.take n) fr ac) (F:E.rd=none:=by rfl):To E fn g (.code (.code (.region id ops false)::ks) fr ac):=
 .mk λ H M0 ob0 ap w0 a w hst hs=>by
  simp only [bA,KI.ok,cS,Bool.and_eq_true] at H;obtain ⟨⟨C,O⟩,G⟩:=H;have hd:=kY C;have D:=(List.getElem?_eq_some_iff.1 J).1;have k:ops.toList=ops.toList.take n++[p]:=by
   conv=>lhs;rw [<-List.take_append_drop n ops.toList,List.drop_eq_getElem_cons D,hl]
   rw [(List.getElem?_eq_some_iff.1 J).2]
  refine KW.code (Q':=QR E fn g M0 ob0 ap w0 ks) ?_ (λ a w h=>h) (λ q a w h=>h) (λ e a w T=>by cases e<;>first | exact .inl rfl | exact .inr ⟨_,rfl⟩ | exact T.elim)
  have l:∀ s v ac q a w,iG E fn g s v ac->PP M0 ob0 ap w0 fn.ntmps E.df s v ac q a w->kW E fn M0 ob0 ap w0 g (.panic q) a w:=λ s v ac q a w Y l=>wL Y hst l;refine wpIn_region_list ?_;have r:∀ fr ac a w,HandD E fn g ks p.dst f c.toList fr ac->SS M0 ob0 ap w0 fn.ntmps E.df fr ac a w->wpListIn (fen E.rd) 0 E.P ops (QR E fn g M0 ob0 ap w0 ks) [p] a w:=by
   rintro fr ac a w ⟨⟨h⟩⟩ ⟨M,ob,x1,x2,K,L,A,V⟩;unfold wpListIn;have R:Region.wanted p (yielded ops a.tmps)=true:=by unfold Region.wanted;rw [hg]
   rw [if_pos R];have u:=hd p (by rw [k];simp);obtain ⟨dst,op,ty,pos,m,gd⟩:=p;have hp:op= .defer ⟨.value (.func f),c,o⟩:=hp;subst hp;have z:(execOp a.eval ⟨dst,.defer ⟨.value (.func f),c,o⟩,ty,pos,m,gd⟩).run E.P w= .ok (.defer {target:=.fn (.func f) #[],args:= #[]++c.map a.eval}) w:=rfl;refine ⟨λ_ _=>trivial,?_⟩;rw [show (fen E.rd).round=none from F,Oper.semAt_none,z,Oper.uponIn_defer];refine h G M0 ob0 ap w0 _ w hst ⟨M,ob,x1,x2,?_,(cZ _ _ _).1.trans L,?_,V⟩
   .rw [dR];exact kH (a:={a with defers:={target:=Target.fn (Fn.func f) #[],args:= #[]++Array.map a.eval c}::a.defers}) K kX λ U e=>L▸u U e
   .obtain ⟨X,W,N,A,Z⟩:=A;refine cM.put (a:={a with defers:=_}) ⟨_::X,W,by rw [N];rfl,⟨by simp [A.1],λ i d x hd z=>?_⟩,Z⟩;cases i with
    | zero=>
     simp at hd z;subst hd z;refine ⟨rfl,?_,λ j v b B t=>?_⟩
     .simp [D0]
     .rw [D0,List.getElem?_map] at t;simp only [Array.empty_append,Array.toList_map,List.getElem?_map] at B;cases I:c.toList[j]? with
      | none=>rw [I] at t;cases t
      | some y=>
       rw [I] at t B;cases t;cases B;exact yG K y
    | succ i=>exact A.2 i d x (by simpa using hd) (by simpa using z)
  rw [k];exact pS (rd:=E.rd) (Q:=QR E fn g M0 ob0 ap w0 ks) (Kp:=iG E fn g) hE (λ s v ac q a w h1 S=>l s v ac q a w h1 S) r _ 0 fr ac a w (λ p hp=>hd p (by rw [k];exact List.mem_append_left _ hp)) h hs
end
def wrS(all:bc)(n:Nat)(fr:ar)(d:Option Nat)(v:aa)(k:ar->Prop):Prop:=
 bif pN n all then (match d,v with
  | some d,.bool b=>(b=true->xR fr d (.bool true) k)/\(b=false->xR fr d (.bool false) k)
  | _,_=>False)
 else aBN fr d v k
def TC{all:bc}{n:Nat}{fr:ar}{d:Option Nat}{v:aa}{k:ar->Prop}(h:wrS all n fr d v k):k (jW fr d v):=by
 unfold wrS at h;cases a:pN n all with
 | false=>rw [a] at h;simp only [cond_false,MA] at h;exact h
 | true=>
  rw [a] at h;simp only [cond_true] at h;split at h
  .rename_i d b;cases b with
   | true=>have:=h.1 rfl;rw [kR] at this;exact this
   | false=>have:=h.2 rfl;rw [kR] at this;exact this
  .exact h.elim
def lO(E:Env)(A tab:az)(all:bc)(fr:ar)(ac:au):az->Prop
 | []=>True
 | i::r=>(match nth all i with
   | some p=>(match p.dst with
    | some d=>(match bQ all (evP A tab all i fr) p.guard with
     | some true=>orF E.P ac (λ v o=>v=aU fr d/\o=ac) (λ_ _=>False) (eop E (fX E p.dst) (aM ac) (aB ac) (evP A tab all i fr) p.op p.type)
     | some false=>aU fr d= .tup []
     | none=>False)
    | none=>False)
   | none=>False)/\lO E A tab all fr ac r
def uP(E:Env)(A tab:az)(all:bc)(K:ar->au->Prop)(Kp:(Nat->aa)->aa->au->Prop):az->az->ar->au->Prop
 | [],U,fr,ac=>lO E A tab all fr ac U/\K fr ac
 | n::rest,U,fr,ac=>lO E A tab all fr ac U/\(match nth all n with
   | none=>False
   | some p=>(match bQ all (evP A tab all n fr) p.guard with
    | none=>False
    | some false=>aBN fr p.dst (.tup []) λ fr=>uP E A tab all K Kp rest (tM tab n U) fr ac
    | some true=>orF E.P ac (λ v ao=>KD 5 v λ v=>ODL ao λ ao=>wrS all n fr p.dst v λ fr=>uP E A tab all K Kp rest (tM tab n U) fr ao) (Kp (gP A all fr))
            (eop E (fX E p.dst) (aM ac) (aB ac) (evP A tab all n fr) p.op p.type)))
def BR(E:Env)(A tab:az)(all:bc)(ac:au):az->ar->(ar->Prop)->Prop
 | [],fr,k=>k fr
 | i::r,fr,k=>match nth all i with
  | some p=>(match p.dst with
   | some d=>(match bQ all (evP A tab all i fr) p.guard with
    | some true=>orF E.P ac (λ v _=>KD 5 v λ v=>wrS all i fr (some d) v λ fr=>BR E A tab all ac r fr k) (λ_ _=>False) (eop E (fX E p.dst) (aM ac) (aB ac) (evP A tab all i fr) p.op p.type)
    | some false=>xR fr d (.tup []) λ fr=>BR E A tab all ac r fr k
    | none=>False)
   | none=>False)
  | none=>False
def NF{E:Env}{A tab:az}{all:bc}{fr:ar}{ac:au}:∀ {U:az},lO E A tab all fr ac U->∀ i∈U,∃ p d,all[i]? =some p/\p.dst=some d/\
  ((bQ all (evP A tab all i fr) p.guard=some false/\aU fr d= .tup [])\/(bQ all (evP A tab all i fr) p.guard=some true/\orF E.P ac (λ v o=>v=aU fr d/\o=ac) (λ_ _=>False) (eop E (fX E p.dst) (aM ac) (aB ac) (evP A tab all i fr) p.op p.type)))
 | [],_,i,a=>by cases a
 | j::r,h,i,a=>by
  rcases List.mem_cons.1 a with rfl | a
  .have h1:=h.1;split at h1
   .rename_i p hp;split at h1
    .rename_i d hd;split at h1
     .rename_i b;exact ⟨p,d,jX hp,hd,.inr ⟨b,h1⟩⟩
     .rename_i b;exact ⟨p,d,jX hp,hd,.inl ⟨b,h1⟩⟩
     .exact h1.elim
    .exact h1.elim
   .exact h1.elim
  .exact NF h.2 i a
def ZZ{E:Env}{A tab:az}{all:bc}{K:ar->au->Prop}{Kp:(Nat->aa)->aa->au->Prop}{B U:az}{fr:ar}{ac:au}(h:uP E A tab all K Kp B U fr ac):lO E A tab all fr ac U:=by
 cases B with
 | nil=>exact h.1
 | cons n r=>exact h.1
def CQ{P:Program}{ac:au}{K:aa->au->Prop}:∀ {r:OR},orF P ac K (λ_ _=>False) r->∃ v o,K v o
 | .no,k=>k.elim
 | .val v,k=>⟨_,_,k⟩
 | .mkf fn fs cs,k=>⟨_,_,k⟩
 | .need p r,k=>CQ k.2
 | .alt p v w,k=>by
  rcases k with k | k
  .exact ⟨_,_,k.2⟩
  .exact ⟨_,_,k⟩
 | .idx n f,⟨i,hi,k⟩=>CQ k
 | .elem xs i f,⟨x,hx,k⟩=>CQ k
 | .byte l i,⟨c,hc,k⟩=>⟨_,_,k⟩
 | .text xs,⟨l,hl,hm,k⟩=>⟨_,_,k⟩
 | .find es key f,⟨o,ho,k⟩=>CQ k
 | .born x v,k=>⟨_,_,k⟩
 | .upd i x v,k=>⟨_,_,k⟩
 | .nilq xs neg,k=>⟨_,_,k false (λ h=>by cases h)⟩
 | .call f args,k=>by
  have k:CallG P f args ac K (λ_ _=>False):=k;cases k with
  | pure r new h k=>exact ⟨_,_,k⟩
  | eff a ks r ao b h k=>exact ⟨_,_,k⟩
  | effp a ks r ao b h k=>exact k.elim
  | pan r h k=>exact k.elim
 | .pan v,k=>k.elim
section
variable {rd:Option Nat} {M0:Imm} {ob0:Hs} {ap:au} {w0:World} {sz:Nat} {dfs:List (Nat×ax)} {E:Env} {ops:Array Oper} {Q:Exit->Act->World->Prop} {K:ar->au->Prop} {Kp:(Nat->aa)->aa->au->Prop} {A tab:az}
def aBV(hE:ae E)(ht:TabSp ops tab)(hd:∀ (i:Nat) p,ops[i]? =some p->∀ d,p.dst=some d->d<sz)(R:az)(hRs:∀ i∈R,i<ops.size)
  (hp:∀ g v ac ch a w,Kp g v ac->PP M0 ob0 ap w0 sz dfs g v ac ch a w->Q (.panic ch) a w)
  (hq:∀ c fr ac a w,c.size=ops.size->kJ tab c->(∀ i,i<ops.size->(c.getD i false=false↔i∈R))->K fr ac->SS M0 ob0 ap w0 sz dfs fr ac a w->wpAnyIn (fen rd) 0 E.P .any ops Q R.length c a w):
  ∀ (G:Nat) (c:Array Bool) (z m U:az) (fr:ar) (ac:au) (a:Act) (w:World),G=z.length+m.length->c.size=ops.size->kJ tab c->
   (∀ i,i<ops.size->(c.getD i false=false↔(i∈z\/i∈m)\/i∈R))->(∀ i∈R,∀ j,j∈z\/j∈m->cR (cY tab i) j=true)->(∀ i∈R,¬ (i∈z\/i∈m))->(z++m).Nodup->(∀ i∈z,i<ops.size)->(∀ i∈m,i∈A/\i∈U/\i<ops.size)->chB tab z=true->
   uP E A tab ops.toList K Kp z U fr ac->SM M0 ob0 ap w0 sz dfs ops m fr ac a w->wpAnyIn (fen rd) 0 E.P .any ops Q (G+R.length) c a w:=by
 intro G;induction G with
 | zero=>
  intro c z m U fr ac a w hf hsz hc s hR1 hR2 hnd T L Z h hs;have e1:z=[]:=List.eq_nil_of_length_eq_zero (by omega);have e2:m=[]:=List.eq_nil_of_length_eq_zero (by omega);subst e1 e2;rw [Nat.zero_add];refine hq c fr ac a w hsz hc (λ i hi=>?_) h.2 ?_
  .rw [s i hi];constructor
   .rintro ((q | q) | q)
    .cases q
    .cases q
    .exact q
   .exact .inr
  .obtain ⟨M,ob,hx,hm,hfr,r⟩:=hs;exact ⟨M,ob,hx,hm,λ t=>hfr t (λ i hi=>absurd hi List.not_mem_nil),r⟩
 | succ G ih=>
  intro c z m U fr ac a w hf hsz hc s hR1 hR2 hnd T L Z h hs;rw [show G+1+R.length=(G+R.length)+1 by omega];refine ⟨λ h0=>?_,λ i hi=>?_⟩
  .exfalso;cases z with
   | cons n r=>
    have hn:=T n (List.mem_cons_self ..);exact tZ ht hsz (n+1) n (by omega) hn ((s n hn).2 (.inl (.inl (List.mem_cons_self ..)))) h0
   | nil=>
    cases m with
    | nil=>simp at hf
    | cons n r=>
     have hn:=(L n (List.mem_cons_self ..)).2.2;exact tZ ht hsz (n+1) n (by omega) hn ((s n hn).2 (.inl (.inr (List.mem_cons_self ..)))) h0
  .obtain ⟨hilt,hil⟩:=K4 hi hsz;obtain ⟨hc',hkey⟩:=hc.step ht hi;obtain ⟨M,ob,hx,hm,hfr,H,hdf,h0⟩:=hs;have hl:=hm.len;have hev:∀ x,Rep M ob (a.eval x) (evP A tab ops.toList i fr x):=λ x=>by
    cases x with
    | const v=>exact rV v
    | global g=>exact .undef _
    | func f=>exact .func (.func f) [] [] [] [] rfl rfl (λ i v a h=>by simp at h) (λ i v a h=>by simp at h)
    | tmp t=>
     show Rep M ob _ (bif YU A tab i t 0 ops.toList then .undef else aU fr t);cases hh:YU A tab i t 0 ops.toList with
     | true=>exact .undef _
     | false=>
      refine hfr t λ j l p hp I=>?_;have h1:=GW hh j p (by simpa using hp) I (by rw [Nat.zero_add];exact (L j l).1);rw [Nat.zero_add] at h1;have h2:=hkey j h1;rw [(s j (L j l).2.2).2 (.inl (.inr l))] at h2;cases h2
   have hiR:i∉R:=λ hr=>by
    have key:∀ j,j∈z\/j∈m->j<ops.size->False:=λ j l hjs=>by have h2:=hkey j (hR1 i hr j l);rw [(s j hjs).2 (.inl l)] at h2;cases h2
    cases z with
    | cons n r=>exact key n (.inl (List.mem_cons_self ..)) (T n (List.mem_cons_self ..))
    | nil=>
     cases m with
     | nil=>simp at hf
     | cons n r=>exact key n (.inr (List.mem_cons_self ..)) (L n (List.mem_cons_self ..)).2.2
   have C:∀ (F D:az),(∀ j,(j∈F\/j∈D)↔(j∈z\/j∈m)/\j≠i)->∀ j,j<ops.size->((c.setIfInBounds i true).getD j false=false↔(j∈F\/j∈D)\/j∈R):=λ F D he j l=>by
    rw [he j];by_cases e:j=i
    .subst e;rw [Array.getD_eq_getD_getElem?,Array.getElem?_setIfInBounds_self_of_lt (by omega)];simp [hiR]
    .rw [getD_set_ne false (Ne.symm e),s j l];simp [e]
   have hR1':∀ (F D:az),(∀ j,(j∈F\/j∈D)↔(j∈z\/j∈m)/\j≠i)->∀ k∈R,∀ j,j∈F\/j∈D->cR (cY tab k) j=true:=λ F D he k hk j l=>hR1 k hk j ((he j).1 l).1;have hR2':∀ (F D:az),(∀ j,(j∈F\/j∈D)↔(j∈z\/j∈m)/\j≠i)->∀ k∈R,¬ (k∈F\/k∈D):=λ F D he k hk l=>hR2 k hk ((he k).1 l).1;have hsz':(c.setIfInBounds i true).size=ops.size:=by simpa using hsz
   rcases ((s i hilt).1 hil).resolve_right hiR with hB | hA
   .-- one of the row
    cases z with
    | nil=>cases hB
    | cons n rest=>
     have hn:i=n:=by
      rcases List.mem_cons.1 hB with e | e
      .exact e
      .simp only [chB,Bool.and_eq_true,List.all_eq_true] at Z;have h2:=hkey n (Z.1 i e);rw [(s n (T n (List.mem_cons_self ..))).2 (.inl (.inl (List.mem_cons_self ..)))] at h2;cases h2
     subst hn;obtain ⟨hok,h⟩:=h;split at h
     .exact h.elim
     .rename_i p hnp;have N:ops[i]? =some p:=by simpa using jX hnp
      have S:(rest++m).Nodup/\i∉rest++m:=by have:=List.nodup_cons.1 hnd;exact ⟨this.2,this.1⟩
      have B:∀ j,(j∈rest\/j∈m)↔(j∈i::rest\/j∈m)/\j≠i:=λ j=>by
       constructor
       .intro l;exact ⟨l.imp (List.mem_cons_of_mem _) id,λ e=>S.2 (by subst e;exact List.mem_append.2 l)⟩
       .rintro ⟨l,X⟩;rcases l with l | l
        .rcases List.mem_cons.1 l with e | l
         .exact absurd e X
         .exact .inl l
        .exact .inr l
      have hUA':∀ j∈m,j∈A/\j∈tM tab i U/\j<ops.size:=λ j l=>by
       obtain ⟨k1,k2,k3⟩:=L j l;refine ⟨k1,HM k2 ?_,k3⟩;cases hq2:cR (cY tab i) j with
       | false=>rfl
       | true=>
        have h2:=hkey j hq2;rw [(s j k3).2 (.inl (.inr l))] at h2;cases h2
      have hch':chB tab rest=true:=by simp only [chB,Bool.and_eq_true] at Z;exact Z.2
      have W:∀ {M':Imm} {ob':Hs} {u:Value} {v:aa} {t:Nat},(∀ b o x,M b o x->M' b o x)->cV ob ob'->Rep M' ob' u v->(∀ i∈m,∀ p,ops[i]? =some p->p.dst≠some t)->Rep M' ob' ((a.put p.dst u).tmps.getD t undef) (aU (jW fr p.dst v) t):=λ{M' ob' u v t} O x2 hr J=>by
       rw [dR];unfold iY;by_cases I:p.dst=some t
       .rw [if_pos I];have hlt:t<a.tmps.size:=H▸hd i p N t I;rw [I];simp only [Act.put];rw [Array.getD_eq_getD_getElem?,Array.getElem?_setIfInBounds_self_of_lt hlt];exact hr
       .rw [if_neg I];have hold:=(hfr t J).mono O x2;cases hpd:p.dst with
        | none=>exact hold
        | some d=>
                  have X:d≠t:=λ e=>I (by rw [hpd,e]);simp only [Act.put];rw [Array.getD_eq_getD_getElem?,Array.getElem?_setIfInBounds_ne X,<-Array.getD_eq_getD_getElem?];exact hold
      split at h
      .exact h.elim
      .rename_i Y;have hw:=dH hev Y;rw [MA] at h;unfold wpOpIn;rw [N];dsimp only;rw [if_neg (by rw [hw];decide)]
       exact ⟨λ_ _=>trivial,ih (c.setIfInBounds i true) rest m (tM tab i U) _ ac _ w (by simp at hf;omega) hsz' hc' (C rest m B) (hR1' rest m B) (hR2' rest m B) S.1 (λ j l=>T j (List.mem_cons_of_mem _ l)) hUA' hch' h
        ⟨M,ob,hx,hm,λ t J=>W (λ_ _ _ h=>h) (cV.refl _) kX J,(cZ _ _ _).1.trans H,hdf.put,h0⟩⟩
      .rename_i Y;have hw:=dH hev Y
       have h:orF E.P ac (λ v ao=>uP E A tab ops.toList K Kp rest (tM tab i U) (jW fr p.dst v) ao) (Kp (gP A ops.toList fr)) (eop E (fX E p.dst) (aM ac) (aB ac) (evP A tab ops.toList i fr) p.op p.type):=
        lK (λ v o h=>by rw [qG,uS] at h;exact TC h) h
       unfold wpOpIn;rw [N];dsimp only;rw [if_pos hw];refine (A1 hE hm hev h).wpIn (mX h) (λ u w' ⟨M',ob',L',O,x2,x3⟩=>?_) (λ ch w' ⟨M',ob',L',O,x2,x3⟩=>?_)
       .rcases x3 with ⟨u',v,e,hr,hk⟩ | ⟨ch,v,e,_⟩
        .cases e;have:=O.lens;have:=x2.len
         exact ih (c.setIfInBounds i true) rest m (tM tab i U) _ L' _ w' (by simp at hf;omega) hsz' hc' (C rest m B) (hR1' rest m B) (hR2' rest m B) S.1 (λ j l=>T j (List.mem_cons_of_mem _ l)) hUA' hch' hk
          ⟨M',ob',hx.trans O,x2,λ t J=>W O.imm O.hs hr J,(cZ _ _ _).1.trans H,(hdf.ext hm O).put,by omega⟩
        .cases e
       .rcases x3 with ⟨u',v,e,_⟩ | ⟨ch',v,e,hr,hk⟩
        .cases e
        .cases e;have:=O.lens;have:=x2.len;refine hp _ v L' ch a w' hk ⟨M',ob',hx.trans O,x2,hr,λ t=>?_,H,hdf.ext hm O,by omega⟩;unfold gP;cases hda:E9 A t 0 ops.toList with
         | true=>exact .undef _
         | false=>
          exact (hfr t λ j l q hjq=>yK hda j q (by simpa using hjq) (by rw [Nat.zero_add];exact (L j l).1)).mono O.imm O.hs
   .-- one that looks
    obtain ⟨k1,k2,k3⟩:=L i hA;obtain ⟨p,d,N,hpd,hcase⟩:=NF (ZZ h) i k2;have N:ops[i]? =some p:=by simpa using N
    have hlt:d<a.tmps.size:=H▸hd i p N d hpd;have S:m.Nodup:=(List.nodup_append.1 hnd).2.1;have V:∀ j,j∈m.erase i↔j≠i/\j∈m:=λ j=>S.mem_erase_iff;have hlen:(m.erase i).length+1=m.length:=by rw [List.length_erase_of_mem hA];have:=List.length_pos_of_mem hA;omega
    have hdis:i∉z:=λ hb=>(List.nodup_append.1 hnd).2.2 i hb i hA rfl;have B:∀ j,(j∈z\/j∈m.erase i)↔(j∈z\/j∈m)/\j≠i:=λ j=>by
     rw [V j];constructor
     .rintro (l | ⟨X,l⟩)
      .exact ⟨.inl l,λ e=>hdis (e▸l)⟩
      .exact ⟨.inr l,X⟩
     .rintro ⟨l | l,X⟩
      .exact .inl l
      .exact .inr ⟨X,l⟩
    have hnd':(z++m.erase i).Nodup:=by refine List.nodup_append.2 ⟨(List.nodup_append.1 hnd).1,S.erase i,λ x hx y hy=>?_⟩;exact (List.nodup_append.1 hnd).2.2 x hx y ((V y).1 hy).2
    have W:∀ {M':Imm} {ob':Hs} {u:Value} {t:Nat},(∀ b o x,M b o x->M' b o x)->cV ob ob'->Rep M' ob' u (aU fr d)->(∀ j∈m.erase i,∀ p,ops[j]? =some p->p.dst≠some t)->Rep M' ob' ((a.put p.dst u).tmps.getD t undef) (aU fr t):=λ{M' ob' u t} O x2 hr J=>by
     rw [hpd];simp only [Act.put];by_cases I:d=t
     .subst I;rw [Array.getD_eq_getD_getElem?,Array.getElem?_setIfInBounds_self_of_lt hlt];exact hr
     .rw [Array.getD_eq_getD_getElem?,Array.getElem?_setIfInBounds_ne I,<-Array.getD_eq_getD_getElem?];refine (hfr t λ j l q hjq=>?_).mono O x2;by_cases hji:j=i
      .subst hji;rw [N] at hjq;cases hjq;rw [hpd];exact λ e=>I (Option.some.inj e)
      .exact J j ((V j).2 ⟨hji,l⟩) q hjq
    rcases hcase with ⟨Y,hz⟩ | ⟨Y,hor⟩
    .have hw:=dH hev Y;unfold wpOpIn;rw [N];dsimp only;rw [if_neg (by rw [hw];decide)]
     exact ⟨λ_ _=>trivial,ih (c.setIfInBounds i true) z (m.erase i) U fr ac _ w (by omega) hsz' hc' (C z (m.erase i) B) (hR1' z (m.erase i) B) (hR2' z (m.erase i) B) hnd' T (λ j l=>L j ((V j).1 l).2) Z h
      ⟨M,ob,hx,hm,λ t J=>W (λ_ _ _ h=>h) (cV.refl _) (by rw [hz];exact kX) J,(cZ _ _ _).1.trans H,hdf.put,h0⟩⟩
    .have hw:=dH hev Y;unfold wpOpIn;rw [N];dsimp only;rw [if_pos hw];refine (A1 hE hm hev hor).wpIn (mX hor) (λ u w' ⟨M',ob',L',O,x2,x3⟩=>?_) (λ ch w' ⟨M',ob',L',O,x2,x3⟩=>?_)
     .rcases x3 with ⟨u',v,e,hr,hk1,hk2⟩ | ⟨ch,v,e,_⟩
      .cases e;subst hk1 hk2
       exact ih (c.setIfInBounds i true) z (m.erase i) U fr L' _ w' (by omega) hsz' hc' (C z (m.erase i) B) (hR1' z (m.erase i) B) (hR2' z (m.erase i) B) hnd' T (λ j l=>L j ((V j).1 l).2) Z h
        ⟨M',ob',hx.trans O,x2,λ t J=>W O.imm O.hs hr J,(cZ _ _ _).1.trans H,(hdf.ext hm O).put,h0⟩
      .cases e
     .rcases x3 with ⟨u',v,e,_⟩ | ⟨ch',v,e,hr,hk⟩
      .cases e
      .exact hk.elim
def BQ{all:bc}{ac:au}:∀ {l:az} {fr:ar} {k:ar->Prop},BR E A tab all ac l fr k->(∀ i∈l,i∈A)->∃ a,k a/\∀ t,E9 A t 0 all=false->aU a t=aU fr t
 | [],fr,k,h,_=>⟨fr,h,λ t _=>rfl⟩
 | i::r,fr,k,h,hA=>by
  unfold BR at h;split at h
  .rename_i p hp;split at h
   .rename_i d hd;have go:∀ v,BR E A tab all ac r (gR fr d v) k->∃ a,k a/\∀ t,E9 A t 0 all=false->aU a t=aU fr t:=λ v h=>by obtain ⟨a,h1,c⟩:=BQ h λ j f=>hA j (List.mem_cons_of_mem _ f);refine ⟨a,h1,λ t b=>?_⟩;rw [c t b,sS];have:=yK b i p (by simpa using jX hp) (by rw [Nat.zero_add];exact hA i (List.mem_cons_self ..));rw [if_neg λ e=>this (by rw [hd,e])]
    split at h
    .obtain ⟨v,o,h⟩:=CQ h;rw [qG] at h;exact go v (TC h)
    .rw [kR] at h;exact go _ h
    .exact h.elim
   .exact h.elim
  .exact h.elim
end
def aFH(E:Env)(tab:az)(all:bc)(K:ar->au->Prop)(Kp:(Nat->aa)->aa->au->Prop):List (az×az)->ar->au->Prop
 | [],fr,ac=>K fr ac
 | (A,B)::r,fr,ac=>BR E A tab all ac A fr λ fr=>uP E A tab all (aFH E tab all K Kp r) Kp B A fr ac
def lG:List (az×az)->az
 | []=>[]
 | (A,B)::r=>(B++A)++lG r
def aA6(tab:az):List (az×az)->Bool
 | []=>true
 | (A,B)::r=>((lG r).all λ i=>(B++A).all λ j=>cR (cY tab i) j)&&(chB tab B&&aA6 tab r)
section
variable {rd:Option Nat} {M0:Imm} {ob0:Hs} {ap:au} {w0:World} {sz:Nat} {dfs:List (Nat×ax)} {E:Env} {ops:Array Oper} {Q:Exit->Act->World->Prop} {K:ar->au->Prop} {Kp:(Nat->aa)->aa->au->Prop} {tab:az}
def F4(hE:ae E)(x:TabSp ops tab)(hd:∀ (i:Nat) p,ops[i]? =some p->∀ d,p.dst=some d->d<sz)
  (hp:∀ g v ac q a w,Kp g v ac->PP M0 ob0 ap w0 sz dfs g v ac q a w->Q (.panic q) a w) (s:∀ fr ac a w,K fr ac->SS M0 ob0 ap w0 sz dfs fr ac a w->Q .normal a w):
  ∀ (S:List (az×az)) (b:Array Bool) (fr:ar) (ac:au) (a:Act) (w:World),b.size=ops.size->kJ tab b->(∀ i,i<ops.size->(b.getD i false=false↔i∈lG S))->(lG S).Nodup->(∀ i∈lG S,i<ops.size)->aA6 tab S=true->
   aFH E tab ops.toList K Kp S fr ac->SS M0 ob0 ap w0 sz dfs fr ac a w->wpAnyIn (fen rd) 0 E.P .any ops Q (lG S).length b a w
 | [],b,fr,ac,a,w,hsz,hc,hlist,_,_,_,h,hs=>⟨List.eq_nil_iff_forall_not_mem.2 λ j k=>by
   obtain ⟨h1,n⟩:=K4 k hsz
   exact absurd ((hlist j h1).1 n) List.not_mem_nil,s fr ac a w h hs⟩
 | (A,B)::r,b,fr,ac,a,w,hsz,hc,hlist,hnd,hlt,hsb,h,hs=>by
  obtain ⟨M,ob,D,hm,H,z⟩:=hs;obtain ⟨m,h1,n⟩:=BQ h λ i c=>c;have f:=List.nodup_append.1 hnd;simp only [aA6,Bool.and_eq_true,List.all_eq_true] at hsb;have e:(lG ((A,B)::r)).length=(B.length+A.length)+(lG r).length:=by show ((B++A)++lG r).length=_;rw [List.length_append,List.length_append]
  rw [e];have mem:∀ i,i∈lG ((A,B)::r)↔(i∈B\/i∈A)\/i∈lG r:=λ i=>by show i∈(B++A)++lG r↔_;rw [List.mem_append,List.mem_append]
  refine aBV (K:=aFH E tab ops.toList K Kp r) (Q:=Q) hE x hd (lG r) (λ i c=>hlt i ((mem i).2 (.inr c))) hp (λ b fr ac a w I F J L C=>F4 hE x hd hp s r b fr ac a w I F J f.2.1 (λ i c=>hlt i ((mem i).2 (.inr c))) hsb.2.2 L C)
   _ b B A A m ac a w rfl hsz hc (λ i c=>by rw [hlist i c,mem i]) (λ i c j k=>hsb.1 i c j (List.mem_append.2 k)) (λ i c k=>f.2.2 i (List.mem_append.2 k) i c rfl) f.1 (λ i c=>hlt i ((mem i).2 (.inl (.inl c)))) (λ i c=>⟨c,c,hlt i ((mem i).2 (.inl (.inr c)))⟩) hsb.2.1 h1 ⟨M,ob,D,hm,λ t o=>?_,z⟩
  rw [n t ?_]
  .exact H t
  .cases l:E9 A t 0 ops.toList with
   | false=>rfl
   | true=>
    obtain ⟨i,p,y,u,G⟩:=WK l;rw [Nat.zero_add] at u;exact absurd G (o i u p (by simpa using y))
end
def To.permS{E:Env}{fn:Func}{g:Goal}(hE:ae E)(S:List (az×az)){id:Nat}{ops:Array Oper}{ks:bf}{fr:ar}{ac:au}(hst:((aCh ops.size (lG S)&&aEa (lG S) [] ops.size)&&aA6 (iU [] ops.toList) S)=true)
  (h:aFH E (iU [] ops.toList) ops.toList (λ fr ac=>To E fn g (.code ks fr ac)) (iG E fn g) S fr ac):To E fn g (.code (.code (.region id ops true)::ks) fr ac):=
 .mk λ A M0 ob0 ap w0 a w c hs=>by
  simp only [bA,KI.ok,cS,Bool.and_eq_true] at A;obtain ⟨⟨r,x⟩,t⟩:=A;have hd:=kY r
  refine KW.code (Q':=QR E fn g M0 ob0 ap w0 ks) ?_ (λ a w h=>h) (λ l a w h=>h) (λ e a w I=>by cases e<;>first | exact .inl rfl | exact .inr ⟨_,rfl⟩ | exact I.elim)
  have k:∀ m v ac l a w,iG E fn g m v ac->PP M0 ob0 ap w0 fn.ntmps E.df m v ac l a w->kW E fn M0 ob0 ap w0 g (.panic l) a w:=λ m v ac l a w J k=>wL J c k;have u:∀ fr ac a w,To E fn g (.code ks fr ac)->SS M0 ob0 ap w0 fn.ntmps E.df fr ac a w->KW E.rd E.P (kW E fn M0 ob0 ap w0 g) ks a w:=λ fr ac a w y hs=>y.rec λ y=>y t M0 ob0 ap w0 a w c hs;have L:TabSp ops (iU [] ops.toList):=B9 ops (by simpa using x);refine wpIn_region_any hE.mix ?_;simp only [Bool.and_eq_true] at hst;obtain ⟨⟨F,H⟩,G⟩:=hst;obtain ⟨D,z⟩:=GA F;have B:∀ i,i<ops.size->i∈lG S:=λ i b=>(HS H i b).resolve_right (by simp);have n:ops.size=(lG S).length:=by
   have M:(lG S).length<=ops.size:=by have h3:(lG S).Subset (List.range ops.size):=λ i b=>List.mem_range.2 (z i b);have:=D.length_le_of_subset h3;simpa using this
   have N:ops.size<=(lG S).length:=by have h3:(List.range ops.size).Subset (lG S):=λ i b=>B i (List.mem_range.1 b);have:=List.nodup_range.length_le_of_subset h3;simpa using this
   omega
  have f:∀ i,i<ops.size->(Array.replicate ops.size false).getD i false=false:=λ i b=>by rw [Array.getD_eq_getD_getElem?,Array.getElem?_eq_getElem (by simpa using b)];simp
  have key:=F4 (rd:=E.rd) (Q:=QR E fn g M0 ob0 ap w0 ks) (K:=λ fr ac=>To E fn g (.code ks fr ac)) (Kp:=iG E fn g) hE L (λ i p b d q=>hd p (List.mem_of_getElem? (i:=i) (by simpa using b)) d q) (λ m v ac l a w h1 s=>k m v ac l a w h1 s) (λ fr ac a w h1 s=>u fr ac a w h1 s) S (Array.replicate ops.size false) fr ac;rw [<-n] at key
  exact key _ _ (by simp) (λ j i o _=>by
   by_cases C:j<ops.size
   .rw [f j C] at o;cases o
   .rw [Array.getD_eq_getD_getElem?,Array.getElem?_eq_none (by simpa using C)] at o
    cases o) (λ i b=>⟨λ_=>B i b,λ_=>f i b⟩) D z G h hs.draw
def To.permC{E:Env}{fn:Func}{g:Goal}(hE:ae E)(A B:az){id:Nat}{ops:Array Oper}{ks:bf}{fr:ar}{ac:au}(hst:((aCh ops.size (lG [(A,B)])&&aEa (lG [(A,B)]) [] ops.size)&&aA6 (iU [] ops.toList) [(A,B)])=true)
  (h:BR E A (iU [] ops.toList) ops.toList ac A fr λ fr=>uP E A (iU [] ops.toList) ops.toList (λ fr ac=>To E fn g (.code ks fr ac)) (iG E fn g) B A fr ac):To E fn g (.code (.code (.region id ops true)::ks) fr ac):=To.permS hE [(A,B)] hst h
def aLC{p q:Prop}(h:q)(hp:p:=by repeat (first | exact trivial | refine And.intro ⟨rfl,rfl⟩ ?_)):p/\q:=⟨hp,h⟩
end Go.AW
