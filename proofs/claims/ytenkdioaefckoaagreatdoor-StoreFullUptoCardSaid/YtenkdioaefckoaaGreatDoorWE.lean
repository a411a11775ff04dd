/- Part 5 of what the statement rests on. -/
import Derived.Test.YtenkdioaefckoaaGreatDoorWD
set_option linter.all false
open List renaming length->Z
open Bool renaming true->O,false->U
open Option renaming some->X,none->D
namespace Go.AW
def To.partR{E:Env}{fn:Func}{g:Goal}{st:bg}{fr a:au}{ac ob':aw}(h:To E fn g (.head st a ob'))
  (i:VY g.n0 (List.range (Z ob')) (aE ac) (nY (a.map (·.1)) fr)=a) (f:iC g.n0 (List.range (Z ob')) ac=ob') (c:E.df=[]) (e:kO (List.range (Z ob')) ac=O) (d:kK g.n0 0 (List.range (Z ob'))=O) (b:g.strict=O):To E fn g (.head st fr ac):=
 To.part (a.map (·.1)) (List.range (Z ob')) c e d (by grind) b
def zE{c:Bool}{p q:Prop}(h:c=O)(k:p):(c=O->p)/\(c=U->q):=⟨λ_=>k,λh'=>bv (h.symm.trans h') (by decide)⟩
def zF{c:Bool}{p q:Prop}(h:c=U)(k:q):(c=O->p)/\(c=U->q):=⟨λh'=>bv (h.symm.trans h') (by decide),λ_=>k⟩
def zP{E:Env}{fn:Func}{g:Goal}{st:bg}{fr fr':au}{ac ob':aw}(h:To E fn g (.head st fr' ob'):=by assumption)
  (hf:VY g.n0 (List.range (Z ob')) (aE ac) (nY (fr'.map (·.1)) fr)=fr':=by rfl) (ho:iC g.n0 (List.range (Z ob')) ac=ob':=by rfl) (hdf:E.df=[]:=by rfl) (hk:kO (List.range (Z ob')) ac=true:=by rfl) (hb:kK g.n0 0 (List.range (Z ob'))=true:=by rfl) (hstr:g.strict=true:=by rfl):To E fn g (.head st fr ac):=
 To.partR h hf ho hdf hk hb hstr
def zM{a b p:Prop}(h:p)(h1:a:=by simp only[maxLen];simp;omega)(h2:b:=by simp;omega):(a/\b)/\p:=⟨⟨h1,h2⟩,h⟩
def zW{P:Prop}(h:P:=by
 repeat' first
  | (refine gN (by first|exact hE|exact hEo _ _|exact hEr _ _|exact hEl _ _ _ _|assumption) ?_;conv=>whnf)
  | exact rfl
  | assumption
  | refine aY ?_
  | refine aN ?_
  | refine .pure _ [] (by assumption) ?_
  | refine .pure _ [] (hz1 _) ?_
  | refine .pure _ [] (hz2 _ _) ?_
  | refine .pure _ [] (hz3 _ _ _) ?_
  | refine .eff [] [0] _ _ rfl (by assumption) ?_
  | refine .eff [] [1] _ _ rfl (by assumption) ?_
  | refine .eff [] [0,1] _ _ rfl (by assumption) ?_
  | refine⟨_,by assumption,?_⟩
  | refine zE (by assumption) ?_
  | refine zF (by assumption) ?_
  | refine aT λh=>?_
  | refine aF λh=>?_
  | refine⟨λh=>?_,λh=>?_⟩
  | refine aJ ?_
  | refine⟨_,rfl,?_⟩
  | refine aD ?_
  | exact zP
  | refine zM ?_
  | refine And.intro (kA (by assumption) (by decide)) ?_
  | exact⟨⟨rfl,rfl⟩,rfl,rfl⟩
  | exact⟨[],[0],⟨rfl,rfl⟩,rfl,rfl⟩
  | exact⟨[],[0,1],⟨rfl,rfl⟩,rfl,rfl⟩
  | exact⟨[],[1],⟨rfl,rfl⟩,rfl,rfl⟩
  | exact⟨[],[],⟨rfl,rfl⟩,rfl,rfl⟩
  | refine .pure _ [] (aA.strip (by assumption)) ?_
  | refine .eff [] [0,1,2] _ _ rfl (by assumption) ?_
  | refine .eff [] [2] _ _ rfl (by assumption) ?_
  | refine .pure _ _ (by assumption) ?_
  | exact⟨[],[0,1,2],⟨rfl,rfl⟩,rfl,rfl⟩
  | exact⟨[],[2],⟨rfl,rfl⟩,rfl,rfl⟩
  | (exfalso;simp only[bo,bk]at *;omega)
  | fail):P:=h
def gV{P Q:Prop}(k:Q)(h:Q->P:=by intro k;refine gW (by first|exact hE|exact hEo _ _|exact hEr _ _|exact hEl _ _ _ _|assumption) ?_;(conv=>whnf);exact k):P:=h k
open Go.RowKit
def ZF(gl:Nat)(c:aa):BInv where
 inv M _ _:=M gl 0 c
 mono hM _ _ h:=hM _ _ _ h
def zt{P Q:Prop}(k:Q)(h:Q->P:=by intro k;first|exact aY k|exact aN k|exact aT k|exact aF k|exact aJ k|exact⟨_,rfl,k⟩|exact aD k):P:=h k
def zx{A B An:a6->a6->Prop}(ks:a6)(h:(A [] ks/\B [] ks)/\An [] ks:=by exact⟨⟨rfl,rfl⟩,rfl,rfl⟩):∃a ks,(A a ks/\B a ks)/\An a ks:=⟨[],ks,h⟩
def zu{a b p q:Prop}(h:a->p)(k:b->q):(a->p)/\(b->q):=⟨h,k⟩
section
variable {E:Env} {fn:Func} {g:Goal}
inductive HandG(E:Env)(fn:Func)(g:Goal)(all:bc)(tab:a6)(ks:bg)(n d t gl:Nat)(l2:bc)(fr:au)(ac:aw):Prop
 | mk (k gg:Nat) (c v:aa) (hk:aE ac k= .bun gg (ZF gl c)) (hv:aCu E (aE ac) t (.ptr [c])= .val v) (h:To E fn g (.mid ⟨all,U,tab,ks⟩ (n+1) l2 [] (kU fr (X d) v) ac))
def XS{P:Program}{x:Operand}{t:TypeId}{p:Oper}(hp:p.op= .load t x){ρ:Operand->Value}{w:World}{v:Value}(h:(Instr.loadAt t (ρ x)).run P w= .ok v w):(execOp ρ p).run P w= .ok (.value v) w:=by obtain⟨d,op,ty,pos,a,b⟩:=p;dsimp only at hp;subst hp;have:execOp ρ ⟨d,.load t x,ty,pos,a,b⟩=(Instr.loadAt t (ρ x) >>= λv=>Pure.pure (.value v)):=rfl;rw[this,Sem.run_bind,h];rfl
def To.glob(hE:ae E)(n:Nat){id:Nat}{ops:Array Oper}(tab:a6){ks:bg}{fr:au}{ac:aw}{p:Oper}{t q d:Nat}(W:ops.toList[n]? =X p)(hp:p.op= .load t (.global q))(r:p.dst=X d)(Y:p.guard=D)
  (h:fV E ops.toList (HandG E fn g ops.toList tab ks n d t q (ops.toList.drop (n+1))) (kB E fn g) 0 (ops.toList.take n) fr ac):To E fn g (.code (.code (.region id ops U)::ks) fr ac):=
 .mk λAs M0 ob0 aq w0 a w hst hs=>by
  simp only[bN,KI.ok,dW,Bool.and_eq_true]at As;obtain⟨⟨C,ho2⟩,Be⟩:=As;have F:=nK C;have An:=(List.getElem?_eq_some_iff.1 W).1;have b:ops.toList=ops.toList.take n++p::ops.toList.drop (n+1):=by grind[List.take_append_drop,List.drop_eq_getElem_cons,List.getElem?_eq_some_iff]
  refine KW.code (Q':=QR E fn g M0 ob0 aq w0 ks) ?_ (λa w h=>h) (λf a w h=>h) (λe a w Am=>by cases e<;>first|exact .inl rfl|exact .inr ⟨_,rfl⟩|exact Am.elim)
  have i:∀l v ac f a w,kB E fn g l v ac->PP M0 ob0 aq w0 fn.ntmps E.df l v ac f a w->qM E fn M0 ob0 aq w0 g (.panic f) a w:=λl v ac f a w V i=>BP V hst i;have hq:∀fr ac a w,eB E fn g ks fr ac->SS M0 ob0 aq w0 fn.ntmps E.df fr ac a w->KW E.rd E.P (qM E fn M0 ob0 aq w0 g) ks a w:=λfr ac a w B hs=>B Be M0 ob0 aq w0 a w hst hs;refine wpIn_region_list ?_;have z:∀fr ac a w,HandG E fn g ops.toList tab ks n d t q (ops.toList.drop (n+1)) fr ac->SS M0 ob0 aq w0 fn.ntmps E.df fr ac a w->wpListIn (fen E.rd) 0 E.P ops (QR E fn g M0 ob0 aq w0 ks) (p::ops.toList.drop (n+1)) a w:=by
   rintro fr ac a w ⟨k,gg,c,v,B,hv,m⟩ hs;obtain⟨M,ob,hx,hm,H,y,L,S⟩:=hs;obtain⟨_,_,_,bs,_,_,T⟩:=hm.obj k _ (bO B (by simp));have J:Rep M ob (.pointer (X ⟨q,0,D⟩)) (.ptr [c]):=.ptr q 0 [c] λj x R=>by
    cases j with
    | zero=>cases R;exact T
    | succ j=>simp at R
   have hl:=aCt (base:=0) hE hm (t:=t) J;rw[hv]at hl;obtain⟨_,u,s,hr⟩:=hl;have I:qN E.P p a.eval w (λe N=>e= .returned u/\N=w):=.inl ⟨_,_,XS hp s,rfl,rfl⟩;refine wk (next:=λa w=>SS M0 ob0 aq w0 fn.ntmps E.df (kU fr (X d) v) ac a w) ?_ λa w hs=>?_
   .unfold G;rw[bu (by simp[Region.wanted,Y])];refine I.wpIn (by intro c;rw[hp];simp) (λv N ⟨A,At⟩=>?_) (λf N ⟨A,_⟩=>by cases A);cases A;subst At;refine⟨M,ob,hx,hm,?_,(dJ _ _ _).1.trans y,L.put,S⟩;rw[fC,r];exact oJ H hr λd' e=>y▸F p (by rw[b];simp) d' (r.trans e)
   .obtain ⟨m⟩:=m;exact pW (rd:=E.rd) (Q:=QR E fn g M0 ob0 aq w0 ks) (K:=eB E fn g ks) (Kp:=kB E fn g) hE (λl v ac f a w h1 o=>i l v ac f a w h1 o) (λfr ac a w h1 o=>hq fr ac a w h1 o) _ (n+1) _ _ a w (λp hp=>F p (by grind[List.mem_append_right,List.mem_cons_of_mem])) m hs
  rw[b];exact zS (rd:=E.rd) (Q:=QR E fn g M0 ob0 aq w0 ks) (Kp:=kB E fn g) hE (λl v ac f a w h1 o=>i l v ac f a w h1 o) z _ 0 fr ac a w (λp hp=>F p (by rw[b];exact List.mem_append_left _ hp)) h hs
end
def To.partC{E:Env}{fn:Func}{g:Goal}{st:bg}{fr:au}{ac:aw}(l ks:a6)(b:E.df=[])(d:kO ks ac=O)(c:kK g.n0 0 ks=O)
  (h:To E fn g (.code st (VY g.n0 ks (aE ac) (nY l fr)) (iC g.n0 ks ac))) (a:g.strict=true:=by rfl):To E fn g (.code st fr ac):=To.toC (To.part l ks b d c (To.ofC h) a)
def Mg(w:World)(a:Nat)(c:aa):Imm:=λb o x=>Mw w b o x\/(b=a/\o=0/\x=c)
def aTZ{w:World}{a:Nat}{c:aa}{u:Value}(h1:w.cell? ⟨a,0,D⟩=X u)(l:u.oneCell'=O)(h3:Rep (Mg w a c) [] u c):Mem (Mg w a c) [[fK []]] [.bun 0 (ZF a c)] w:=by
 have d:blk [fK []]=[]:=fI _;have j:∀b o x,Mw w b o x->Mg w a c b o x:=λ_ _ _ h=>.inl h
 have i:Mem (Mg w a c) [] [] w:=⟨λb o x n=>by
  rcases n with⟨v,f,m,g⟩|⟨rfl,rfl,rfl⟩
  .exact ⟨v,f,m,g.rep.monoM j⟩
  .exact ⟨u,h1,l,h3⟩,rfl,λk c h=>by simp at h,λk b ⟨c,hs,e,_⟩=>by simp at e,λk p b ⟨c,hs,e,_⟩=>by simp at e⟩
 exact(i.snoc (c:=.bun 0 (ZF a c)) (hs:=[fK []]) (λob _=>⟨rfl,[],rfl,(λb d=>by simp at d),.inr ⟨rfl,rfl,rfl⟩⟩) (λb h=>by rw[d]at h;simp at h) (λk b _=>by rw[d];simp)).1
def pY{P:Program}{f:FuncId}{args:az}{d:bb}{w:World}{g:Nat}{c:aa}{u:Value}(n:qO P f)(h:aA P f args [.bun 0 (ZF g c)] (.ret (.bool O)) [.bun 0 (ZF g c)])
  (h1:w.cell? ⟨g,0,D⟩=X u) (t:u.oneCell'=O) (h3:Rep (Mg w g c) [] u c) (p:cV (Mw w) [] d args):Calls P f d.toArray w λe w'=>e= .returned (.bool O)/\Below w.heap.size w w':=by
 have o:cV (Mg w g c) [[fK []]] d args:=⟨p.1,λi v a s r=>(p.2 i v a s r).mono (λ_ _ _ h=>.inl h) (IT _)⟩
 have q:blk [fK []]=[]:=fI _;have l:∀k b,¬ aM [[fK []]] [.bun 0 (ZF g c)] k b:=λk b ⟨x,hs,A,_,B,z⟩=>by grind
 rcases h _ _ w d (aTZ h1 t h3) o with⟨_,h⟩|⟨v,w',h,_⟩
 .refine h.mono λe w' ⟨M',ob',j,y,m⟩=>⟨?_,?_⟩
  .cases e with
   | returned v=>rw[Rep.bool_inv m]
   | panicked C=>exact m.elim
   | outgrown=>exact m.elim
  .exact ⟨j.os,j.tape,j.output,j.size,λb q=>j.keep b q λk=>l k b⟩
 .rw [n]at h;cases h
open Classical
def jF(fn:Func)(r:Nat):bg:=match D8 r (eF fn)with|some c=>.code c::eO fn r|none=>[]
section
variable {rd:Option Nat} {M0:Imm} {ob0:Hs} {aq:aw} {w0:World} {sz:Nat} {dfs:List (Nat×az)} {E:Env} {ops:Array Oper} {Q:Exit->Act->World->Prop} {K:au->aw->Prop} {Kp:(Nat->aa)->aa->aw->Prop} {A tab:a6}
end
open Go
section
variable {E:Env} {fn:Func} {g:Goal}
inductive HandD(E:Env)(fn:Func)(g:Goal)(ks:bg)(d:Option Nat)(f:Nat)(axs:List Operand)(fr:au)(ac:aw):Prop
 | mk (h:To {E with df:=(f,evO (ev fr) axs)::E.df} fn g (.code ks (kU fr d (.tup [])) ac))
end
def wrS(all:bc)(n:Nat)(fr:au)(d:Option Nat)(v:aa)(k:au->Prop):Prop:=
 bif sY n all then(match d,v with
  | some d,.bool b=>(b=O->BA fr d (.bool O) k)/\(b=U->BA fr d (.bool U) k)
  | _,_=>False)
 else aBn fr d v k
def aAz{all:bc}{n:Nat}{fr:au}{d:Option Nat}{v:aa}{k:au->Prop}(h:wrS all n fr d v k):k (kU fr d v):=by
 unfold wrS at h;cases a:sY n all with
 | false=>rw[a]at h;simp only[cond_false,HK]at h;exact h
 | true=>
  rw[a]at h;simp only[cond_true]at h;split at h
  .rename_i d b;cases b with
   | true=>have:=h.1 rfl;rw[lQ]at this;exact this
   | false=>have:=h.2 rfl;rw[lQ]at this;exact this
  .exact h.elim
def oC(E:Env)(A tab:a6)(all:bc)(fr:au)(ac:aw):a6->Prop
 | []=>True
 | i::r=>(match nth all i with
   | some p=>(match p.dst with
    | some d=>(match cM all (evP A tab all i fr) p.guard with
     | some true=>orF E.P ac (λv o=>v=bA fr d/\o=ac) (λ_ _=>False) (eop E (fA E p.dst) (aV ac) (aE ac) (evP A tab all i fr) p.op p.type)
     | some false=>bA fr d= .tup []
     | none=>False)
    | none=>False)
   | none=>False)/\oC E A tab all fr ac r
def zU(E:Env)(A tab:a6)(all:bc)(K:au->aw->Prop)(Kp:(Nat->aa)->aa->aw->Prop):a6->a6->au->aw->Prop
 | [],At,fr,ac=>oC E A tab all fr ac At/\K fr ac
 | n::rest,At,fr,ac=>oC E A tab all fr ac At/\(match nth all n with
   | none=>False
   | some p=>(match cM all (evP A tab all n fr) p.guard with
    | none=>False
    | some false=>aBn fr p.dst (.tup []) λfr=>zU E A tab all K Kp rest (rT tab n At) fr ac
    | some true=>orF E.P ac (λv ap=>KD 5 v λv=>ODL ap λap=>wrS all n fr p.dst v λfr=>zU E A tab all K Kp rest (rT tab n At) fr ap) (Kp (gP A all fr))
            (eop E (fA E p.dst) (aV ac) (aE ac) (evP A tab all n fr) p.op p.type)))
def GB(E:Env)(A tab:a6)(all:bc)(ac:aw):a6->au->(au->Prop)->Prop
 | [],fr,k=>k fr
 | i::r,fr,k=>match nth all i with
  | some p=>(match p.dst with
   | some d=>(match cM all (evP A tab all i fr) p.guard with
    | some true=>orF E.P ac (λv _=>KD 5 v λv=>wrS all i fr (X d) v λfr=>GB E A tab all ac r fr k) (λ_ _=>False) (eop E (fA E p.dst) (aV ac) (aE ac) (evP A tab all i fr) p.op p.type)
    | some false=>BA fr d (.tup []) λfr=>GB E A tab all ac r fr k
    | none=>False)
   | none=>False)
  | none=>False
def UH{E:Env}{A tab:a6}{all:bc}{fr:au}{ac:aw}:∀{At:a6},oC E A tab all fr ac At->∀i∈At,∃p d,all[i]? =X p/\p.dst=X d/\
  ((cM all (evP A tab all i fr) p.guard=X U/\bA fr d= .tup [])\/(cM all (evP A tab all i fr) p.guard=X O/\orF E.P ac (λv o=>v=bA fr d/\o=ac) (λ_ _=>False) (eop E (fA E p.dst) (aV ac) (aE ac) (evP A tab all i fr) p.op p.type)))
 | [],_,i,a=>by cases a
 | j::r,h,i,a=>by
  rcases List.mem_cons.1 a with rfl|a
  .have h1:=h.1;split at h1
   .rename_i p hp;split at h1
    .rename_i d c;split at h1
     .rename_i b;exact⟨p,d,gZ hp,c,.inr ⟨b,h1⟩⟩
     .rename_i b;exact⟨p,d,gZ hp,c,.inl ⟨b,h1⟩⟩
     .exact h1.elim
    .exact h1.elim
   .exact h1.elim
  .exact UH h.2 i a
def aET{E:Env}{A tab:a6}{all:bc}{K:au->aw->Prop}{Kp:(Nat->aa)->aa->aw->Prop}{B At:a6}{fr:au}{ac:aw}(h:zU E A tab all K Kp B At fr ac):oC E A tab all fr ac At:=by
 cases B with
 | nil=>exact h.1
 | cons n r=>exact h.1
def HU{P:Program}{ac:aw}{K:aa->aw->Prop}:∀{r:OR},orF P ac K (λ_ _=>False) r->∃v o,K v o
 | .no,k=>k.elim
 | .val v,k=>⟨_,_,k⟩
 | .mkf fn fs cs,k=>⟨_,_,k⟩
 | .need p r,k=>HU k.2
 | .alt p v w,k=>by
  rcases k with k|k
  .exact ⟨_,_,k.2⟩
  .exact ⟨_,_,k⟩
 | .idx n f,⟨i,hi,k⟩=>HU k
 | .elem xs i f,⟨x,hx,k⟩=>HU k
 | .byte l i,⟨c,hc,k⟩=>⟨_,_,k⟩
 | .text xs,⟨l,hl,hm,k⟩=>⟨_,_,k⟩
 | .find es key f,⟨o,ho,k⟩=>HU k
 | .born x v,k=>⟨_,_,k⟩
 | .upd i x v,k=>⟨_,_,k⟩
 | .nilq xs neg,k=>⟨_,_,k U (λh=>by cases h)⟩
 | .call f args,k=>by
  have k:CallG P f args ac K (λ_ _=>False):=k;cases k with
  | pure r new h k=>exact⟨_,_,k⟩
  | eff a ks r ap b h k=>exact⟨_,_,k⟩
  | effp a ks r ap b h k=>exact k.elim
  | pan r h k=>exact k.elim
 | .pan v,k=>k.elim
section
variable {rd:Option Nat} {M0:Imm} {ob0:Hs} {aq:aw} {w0:World} {sz:Nat} {dfs:List (Nat×az)} {E:Env} {ops:Array Oper} {Q:Exit->Act->World->Prop} {K:au->aw->Prop} {Kp:(Nat->aa)->aa->aw->Prop} {A tab:a6}
def aHn(hE:ae E)(ht:TabSp ops tab)(hd:∀(i:Nat) p,ops[i]? =X p->∀d,p.dst=X d->d<sz)(R:a6)(hRs:∀i∈R,i<ops.size)
  (hp:∀g v ac ch a w,Kp g v ac->PP M0 ob0 aq w0 sz dfs g v ac ch a w->Q (.panic ch) a w)
  (hq:∀c fr ac a w,c.size=ops.size->lK tab c->(∀i,i<ops.size->(c.getD i U=U↔i∈R))->K fr ac->SS M0 ob0 aq w0 sz dfs fr ac a w->wpAnyIn (fen rd) 0 E.P .any ops Q (Z R) c a w):
  ∀(z:Nat) (c:Array Bool) (m l At:a6) (fr:au) (ac:aw) (a:Act) (w:World),z=Z m+Z l->c.size=ops.size->lK tab c->
   (∀i,i<ops.size->(c.getD i U=U↔(i∈m\/i∈l)\/i∈R))->(∀i∈R,∀j,j∈m\/j∈l->dG (dP tab i) j=O)->(∀i∈R,¬ (i∈m\/i∈l))->(m++l).Nodup->(∀i∈m,i<ops.size)->(∀i∈l,i∈A/\i∈At/\i<ops.size)->chB tab m=O->
   zU E A tab ops.toList K Kp m At fr ac->SM M0 ob0 aq w0 sz dfs ops l fr ac a w->wpAnyIn (fen rd) 0 E.P .any ops Q (z+Z R) c a w:=by
 intro z;induction z with
 | zero=>
  intro c m l At fr ac a w hf hsz hc As hR1 hR2 hnd hBs hUA An h hs;have e1:m=[]:=List.eq_nil_of_length_eq_zero (by omega);have e2:l=[]:=List.eq_nil_of_length_eq_zero (by omega);subst e1 e2;rw[Nat.zero_add];refine hq c fr ac a w hsz hc (λi hi=>?_) h.2 ?_
  .grind
  .obtain ⟨M,ob,hx,hm,Am,r⟩:=hs;exact⟨M,ob,hx,hm,λt=>Am t (λi hi=>bv hi List.not_mem_nil),r⟩
 | succ z ih=>
  intro c m l At fr ac a w hf hsz hc As hR1 hR2 hnd hBs hUA An h hs;rw[show z+1+Z R=(z+Z R)+1 by omega];refine⟨λh0=>?_,λi hi=>?_⟩
  .exfalso;cases m with
   | cons n r=>
    grind[List.mem_cons_self,nW]
   | nil=>
    cases l with
    | nil=>simp at hf
    | cons n r=>
     grind[List.mem_cons_self,nW]
  .obtain ⟨hilt,hil⟩:=AO hi hsz;obtain⟨hc',hkey⟩:=hc.step ht hi;obtain⟨M,ob,hx,hm,Am,C,hdf,h0⟩:=hs;have hl:=hm.len;have Y:∀x,Rep M ob (a.eval x) (evP A tab ops.toList i fr x):=λx=>by
    cases x with
    | const v=>exact rV v
    | global g=>exact .undef _
    | func f=>exact .func (.func f) [] [] [] [] rfl rfl (λi v a h=>by simp at h) (λi v a h=>by simp at h)
    | tmp t=>
     show Rep M ob _ (bif UX A tab i t 0 ops.toList then .undef else bA fr t);cases hh:UX A tab i t 0 ops.toList with
     | true=>exact .undef _
     | false=>
      refine Am t λj I p hp G=>?_;have h1:=C6 hh j p (by simpa using hp) G (by rw[Nat.zero_add];exact(hUA j I).1)
      grind
   have hiR:i∉R:=λhr=>by
    have key:∀j,j∈m\/j∈l->j<ops.size->False:=λj I hjs=>by grind
    cases m with
    | cons n r=>grind[List.mem_cons_self]
    | nil=>
     cases l with
     | nil=>simp at hf
     | cons n r=>grind[List.mem_cons_self]
   have y:∀(B Be:a6),(∀j,(j∈B\/j∈Be)↔(j∈m\/j∈l)/\j≠i)->∀j,j<ops.size->((c.setIfInBounds i O).getD j U=U↔(j∈B\/j∈Be)\/j∈R):=λB Be he j I=>by
    rw[he j];by_cases e:j=i
    .subst e;rw[Array.getD_eq_getD_getElem?,Array.getElem?_setIfInBounds_self_of_lt (by omega)];simp[hiR]
    .rw [getD_set_ne U (Ne.symm e),As j I];simp[e]
   have T:∀(B Be:a6),(∀j,(j∈B\/j∈Be)↔(j∈m\/j∈l)/\j≠i)->∀k∈R,∀j,j∈B\/j∈Be->dG (dP tab k) j=true:=λB Be he k hk j I=>hR1 k hk j ((he j).1 I).1;have S:∀(B Be:a6),(∀j,(j∈B\/j∈Be)↔(j∈m\/j∈l)/\j≠i)->∀k∈R,¬ (k∈B\/k∈Be):=λB Be he k hk I=>hR2 k hk ((he k).1 I).1;have W:(c.setIfInBounds i O).size=ops.size:=by simpa using hsz
   rcases((As i hilt).1 hil).resolve_right hiR with hB|hA
   .
    cases m with
    | nil=>cases hB
    | cons n rest=>
     have hn:i=n:=by
      rcases List.mem_cons.1 hB with e|e
      .exact e
      .simp only[chB,Bool.and_eq_true,List.all_eq_true]at An
       grind[List.mem_cons_self]
     subst hn;obtain⟨hok,h⟩:=h;split at h
     .exact h.elim
     .rename_i p hnp;have J:ops[i]? =X p:=by simpa using gZ hnp
      have V:(rest++l).Nodup/\i∉rest++l:=by grind[List.nodup_cons]
      have s:∀j,(j∈rest\/j∈l)↔(j∈i::rest\/j∈l)/\j≠i:=λj=>by grind[List.mem_cons_of_mem]
      have hUA':∀j∈l,j∈A/\j∈rT tab i At/\j<ops.size:=λj I=>by grind[DI]
      have hch':chB tab rest=true:=by simp only[chB,Bool.and_eq_true]at An;exact An.2
      have L:∀{M':Imm} {ob':Hs} {u:Value} {v:aa} {t:Nat},(∀b o x,M b o x->M' b o x)->dR ob ob'->Rep M' ob' u v->(∀i∈l,∀p,ops[i]? =X p->p.dst≠X t)->Rep M' ob' ((a.put p.dst u).tmps.getD t undef) (bA (kU fr p.dst v) t):=λ{M' ob' u v t} H x2 hr F=>by
       rw[fC];unfold kM;by_cases G:p.dst=X t
       .rw [bu G];have hlt:t<a.tmps.size:=C▸hd i p J t G;rw[G];simp only[Act.put];rw[Array.getD_eq_getD_getElem?,Array.getElem?_setIfInBounds_self_of_lt hlt];exact hr
       .rw [bt G];have hold:=(Am t F).mono H x2;cases hpd:p.dst with
        | none=>exact hold
        | some d=>
                  have hne:d≠t:=λe=>G (by rw[hpd,e]);simp only[Act.put];rw[Array.getD_eq_getD_getElem?,Array.getElem?_setIfInBounds_ne hne,<-Array.getD_eq_getD_getElem?];exact hold
      split at h
      .exact h.elim
      .rename_i N;have hw:=eG Y N;rw[HK]at h;unfold wpOpIn;rw[J];dsimp only;rw[bt (by rw[hw];decide)]
       exact⟨λ_ _=>trivial,ih (c.setIfInBounds i O) rest l (rT tab i At) _ ac _ w (by simp at hf;omega) W hc' (y rest l s) (T rest l s) (S rest l s) V.1 (λj I=>hBs j (List.mem_cons_of_mem _ I)) hUA' hch' h
        ⟨M,ob,hx,hm,λt F=>L (λ_ _ _ h=>h) (dR.refl _) qW F,(dJ _ _ _).1.trans C,hdf.put,h0⟩⟩
      .rename_i N;have hw:=eG Y N
       have h:orF E.P ac (λv ap=>zU E A tab ops.toList K Kp rest (rT tab i At) (kU fr p.dst v) ap) (Kp (gP A ops.toList fr)) (eop E (fA E p.dst) (aV ac) (aE ac) (evP A tab ops.toList i fr) p.op p.type):=
        mE (λv o h=>by rw[qB,wI]at h;exact aAz h) h
       unfold wpOpIn;rw[J];dsimp only;rw[bu hw];refine(wQ hE hm Y h).wpIn (jJ h) (λu w' ⟨M',ob',L',H,x2,x3⟩=>?_) (λch w' ⟨M',ob',L',H,x2,x3⟩=>?_)
       .rcases x3 with⟨u',v,e,hr,hk⟩|⟨ch,v,e,_⟩
        .cases e;have:=H.lens;have:=x2.len
         exact ih (c.setIfInBounds i O) rest l (rT tab i At) _ L' _ w' (by simp at hf;omega) W hc' (y rest l s) (T rest l s) (S rest l s) V.1 (λj I=>hBs j (List.mem_cons_of_mem _ I)) hUA' hch' hk
          ⟨M',ob',hx.trans H,x2,λt F=>L H.imm H.hs hr F,(dJ _ _ _).1.trans C,(hdf.ext hm H).put,by omega⟩
        .cases e
       .rcases x3 with⟨u',v,e,_⟩|⟨ch',v,e,hr,hk⟩
        .cases e
        .cases e;have:=H.lens;have:=x2.len;refine hp _ v L' ch a w' hk ⟨M',ob',hx.trans H,x2,hr,λt=>?_,C,hdf.ext hm H,by omega⟩;unfold gP;cases hda:DH A t 0 ops.toList with
         | true=>exact .undef _
         | false=>
          exact(Am t λj I q hjq=>rS hda j q (by simpa using hjq) (by rw[Nat.zero_add];exact(hUA j I).1)).mono H.imm H.hs
   .
    obtain⟨k1,k2,k3⟩:=hUA i hA;obtain⟨p,d,J,hpd,hcase⟩:=UH (aET h) i k2;have J:ops[i]? =X p:=by simpa using J
    have hlt:d<a.tmps.size:=C▸hd i p J d hpd;have V:l.Nodup:=(List.nodup_append.1 hnd).2.1;have hmem:∀j,j∈l.erase i↔j≠i/\j∈l:=λj=>V.mem_erase_iff;have hlen:Z (l.erase i)+1=Z l:=by grind[List.length_erase_of_mem,List.length_pos_of_mem]
    have hdis:i∉m:=λhb=>(List.nodup_append.1 hnd).2.2 i hb i hA rfl;have s:∀j,(j∈m\/j∈l.erase i)↔(j∈m\/j∈l)/\j≠i:=λj=>by grind
    have hnd':(m++l.erase i).Nodup:=by grind[List.nodup_append]
    have L:∀{M':Imm} {ob':Hs} {u:Value} {t:Nat},(∀b o x,M b o x->M' b o x)->dR ob ob'->Rep M' ob' u (bA fr d)->(∀j∈l.erase i,∀p,ops[j]? =X p->p.dst≠X t)->Rep M' ob' ((a.put p.dst u).tmps.getD t undef) (bA fr t):=λ{M' ob' u t} H x2 hr F=>by
     rw[hpd];simp only[Act.put];by_cases G:d=t
     .subst G;rw[Array.getD_eq_getD_getElem?,Array.getElem?_setIfInBounds_self_of_lt hlt];exact hr
     .rw [Array.getD_eq_getD_getElem?,Array.getElem?_setIfInBounds_ne G,<-Array.getD_eq_getD_getElem?];refine(Am t λj I q hjq=>?_).mono H x2
      grind[Option.some.inj]
    rcases hcase with⟨N,hz⟩|⟨N,hor⟩
    .have hw:=eG Y N;unfold wpOpIn;rw[J];dsimp only;rw[bt (by rw[hw];decide)]
     exact⟨λ_ _=>trivial,ih (c.setIfInBounds i O) m (l.erase i) At fr ac _ w (by omega) W hc' (y m (l.erase i) s) (T m (l.erase i) s) (S m (l.erase i) s) hnd' hBs (λj I=>hUA j ((hmem j).1 I).2) An h
      ⟨M,ob,hx,hm,λt F=>L (λ_ _ _ h=>h) (dR.refl _) (by rw[hz];exact qW) F,(dJ _ _ _).1.trans C,hdf.put,h0⟩⟩
    .have hw:=eG Y N;unfold wpOpIn;rw[J];dsimp only;rw[bu hw];refine(wQ hE hm Y hor).wpIn (jJ hor) (λu w' ⟨M',ob',L',H,x2,x3⟩=>?_) (λch w' ⟨M',ob',L',H,x2,x3⟩=>?_)
     .rcases x3 with⟨u',v,e,hr,hk1,hk2⟩|⟨ch,v,e,_⟩
      .cases e;subst hk1 hk2
       exact ih (c.setIfInBounds i O) m (l.erase i) At fr L' _ w' (by omega) W hc' (y m (l.erase i) s) (T m (l.erase i) s) (S m (l.erase i) s) hnd' hBs (λj I=>hUA j ((hmem j).1 I).2) An h
        ⟨M',ob',hx.trans H,x2,λt F=>L H.imm H.hs hr F,(dJ _ _ _).1.trans C,(hdf.ext hm H).put,h0⟩
      .cases e
     grind
def GA{all:bc}{ac:aw}:∀{l:a6} {fr:au} {k:au->Prop},GB E A tab all ac l fr k->(∀i∈l,i∈A)->∃a,k a/\∀t,DH A t 0 all=U->bA a t=bA fr t
 | [],fr,k,h,_=>⟨fr,h,λt _=>rfl⟩
 | i::r,fr,k,h,hA=>by
  unfold GB at h;split at h
  .rename_i p hp;split at h
   .rename_i d c;have go:∀v,GB E A tab all ac r (iS fr d v) k->∃a,k a/\∀t,DH A t 0 all=U->bA a t=bA fr t:=λv h=>by obtain⟨a,h1,f⟩:=GA h λj g=>hA j (List.mem_cons_of_mem _ g);refine⟨a,h1,λt b=>?_⟩;rw[f t b,rK];have:=rS b i p (by simpa using gZ hp) (by rw[Nat.zero_add];exact hA i (List.mem_cons_self ..));rw[bt λe=>this (by rw[c,e])]
    split at h
    .obtain ⟨v,o,h⟩:=HU h;rw[qB]at h;exact go v (aAz h)
    .rw [lQ]at h;exact go _ h
    .exact h.elim
   .exact h.elim
  .exact h.elim
end
def aKX(E:Env)(tab:a6)(all:bc)(K:au->aw->Prop)(Kp:(Nat->aa)->aa->aw->Prop):List (a6×a6)->au->aw->Prop
 | [],fr,ac=>K fr ac
 | (A,B)::r,fr,ac=>GB E A tab all ac A fr λfr=>zU E A tab all (aKX E tab all K Kp r) Kp B A fr ac
def nS:List (a6×a6)->a6
 | []=>[]
 | (A,B)::r=>(B++A)++nS r
def aFZ(tab:a6):List (a6×a6)->Bool
 | []=>O
 | (A,B)::r=>((nS r).all λi=>(B++A).all λj=>dG (dP tab i) j)&&(chB tab B&&aFZ tab r)
section
variable {rd:Option Nat} {M0:Imm} {ob0:Hs} {aq:aw} {w0:World} {sz:Nat} {dfs:List (Nat×az)} {E:Env} {ops:Array Oper} {Q:Exit->Act->World->Prop} {K:au->aw->Prop} {Kp:(Nat->aa)->aa->aw->Prop} {tab:a6}
def MC(hE:ae E)(s:TabSp ops tab)(o:∀(i:Nat) p,ops[i]? =X p->∀d,p.dst=X d->d<sz)
  (hp:∀g v ac q a w,Kp g v ac->PP M0 ob0 aq w0 sz dfs g v ac q a w->Q (.panic q) a w) (u:∀fr ac a w,K fr ac->SS M0 ob0 aq w0 sz dfs fr ac a w->Q .normal a w):
  ∀(S:List (a6×a6)) (b:Array Bool) (fr:au) (ac:aw) (a:Act) (w:World),b.size=ops.size->lK tab b->(∀i,i<ops.size->(b.getD i U=U↔i∈nS S))->(nS S).Nodup->(∀i∈nS S,i<ops.size)->aFZ tab S=O->
   aKX E tab ops.toList K Kp S fr ac->SS M0 ob0 aq w0 sz dfs fr ac a w->wpAnyIn (fen rd) 0 E.P .any ops Q (Z (nS S)) b a w
 | [],b,fr,ac,a,w,hsz,hc,hlist,_,_,_,h,hs=>⟨List.eq_nil_iff_forall_not_mem.2 λj k=>by
   obtain⟨h1,l⟩:=AO k hsz
   exact bv ((hlist j h1).1 l) List.not_mem_nil,u fr ac a w h hs⟩
 | (A,B)::r,b,fr,ac,a,w,hsz,hc,hlist,hnd,hlt,hsb,h,hs=>by
  obtain⟨M,ob,H,hm,F,z⟩:=hs;obtain⟨m,h1,l⟩:=GA h λi c=>c;have f:=List.nodup_append.1 hnd;simp only[aFZ,Bool.and_eq_true,List.all_eq_true]at hsb;have e:Z (nS ((A,B)::r))=(Z B+Z A)+Z (nS r):=by show Z ((B++A)++nS r)=_;rw[List.length_append,List.length_append]
  rw[e];have mem:∀i,i∈nS ((A,B)::r)↔(i∈B\/i∈A)\/i∈nS r:=λi=>by show i∈(B++A)++nS r↔_;rw[List.mem_append,List.mem_append]
  refine aHn (K:=aKX E tab ops.toList K Kp r) (Q:=Q) hE s o (nS r) (λi c=>hlt i ((mem i).2 (.inr c))) hp (λb fr ac a w C Be y G I=>MC hE s o hp u r b fr ac a w C Be y f.2.1 (λi c=>hlt i ((mem i).2 (.inr c))) hsb.2.2 G I)
   _ b B A A m ac a w rfl hsz hc (λi c=>by rw[hlist i c,mem i]) (λi c j k=>hsb.1 i c j (List.mem_append.2 k)) (λi c k=>f.2.2 i (List.mem_append.2 k) i c rfl) f.1 (λi c=>hlt i ((mem i).2 (.inl (.inl c)))) (λi c=>⟨c,c,hlt i ((mem i).2 (.inl (.inr c)))⟩) hsb.2.1 h1 ⟨M,ob,H,hm,λt x=>?_,z⟩
  rw[l t ?_]
  .exact F t
  .cases n:DH A t 0 ops.toList with
   | false=>rfl
   | true=>
    obtain⟨i,p,J,N,L⟩:=QS n
    grind
end
def To.permS{E:Env}{fn:Func}{g:Goal}(hE:ae E)(S:List (a6×a6)){id:Nat}{ops:Array Oper}{ks:bg}{fr:au}{ac:aw}(hst:((aDW ops.size (nS S)&&aEH (nS S) [] ops.size)&&aFZ (iX [] ops.toList) S)=O)
  (h:aKX E (iX [] ops.toList) ops.toList (λfr ac=>To E fn g (.code ks fr ac)) (kB E fn g) S fr ac):To E fn g (.code (.code (.region id ops O)::ks) fr ac):=
 .mk λy M0 ob0 aq w0 a w c hs=>by
  simp only[bN,KI.ok,dW,Bool.and_eq_true]at y;obtain⟨⟨s,t⟩,r⟩:=y;have F:=nK s
  refine KW.code (Q':=QR E fn g M0 ob0 aq w0 ks) ?_ (λa w h=>h) (λk a w h=>h) (λe a w I=>by cases e<;>first|exact .inl rfl|exact .inr ⟨_,rfl⟩|exact I.elim)
  have f:∀l v ac k a w,kB E fn g l v ac->PP M0 ob0 aq w0 fn.ntmps E.df l v ac k a w->qM E fn M0 ob0 aq w0 g (.panic k) a w:=λl v ac k a w C f=>BP C c f;have q:∀fr ac a w,To E fn g (.code ks fr ac)->SS M0 ob0 aq w0 fn.ntmps E.df fr ac a w->KW E.rd E.P (qM E fn M0 ob0 aq w0 g) ks a w:=λfr ac a w o hs=>o.rec λo=>o r M0 ob0 aq w0 a w c hs;have H:TabSp ops (iX [] ops.toList):=yY ops (by simpa using t);refine wpIn_region_any hE.mix ?_;simp only[Bool.and_eq_true]at hst;obtain⟨⟨Be,G⟩,J⟩:=hst;obtain⟨B,A⟩:=C0 Be;have z:∀i,i<ops.size->i∈nS S:=λi b=>(DM G i b).resolve_right (by simp);have n:ops.size=Z (nS S):=by
   have M:Z (nS S)<=ops.size:=by have h3:(nS S).Subset (List.range ops.size):=λi b=>List.mem_range.2 (A i b);have:=B.length_le_of_subset h3;simpa using this
   have N:ops.size<=Z (nS S):=by have h3:(List.range ops.size).Subset (nS S):=λi b=>z i (List.mem_range.1 b);have:=List.nodup_range.length_le_of_subset h3;simpa using this
   omega
  have m:∀i,i<ops.size->(Array.replicate ops.size U).getD i U=false:=λi b=>by rw[Array.getD_eq_getD_getElem?,Array.getElem?_eq_getElem (by simpa using b)];simp
  have key:=MC (rd:=E.rd) (Q:=QR E fn g M0 ob0 aq w0 ks) (K:=λfr ac=>To E fn g (.code ks fr ac)) (Kp:=kB E fn g) hE H (λi p b d x=>F p (List.mem_of_getElem? (i:=i) (by simpa using b)) d x) (λl v ac k a w h1 u=>f l v ac k a w h1 u) (λfr ac a w h1 u=>q fr ac a w h1 u) S (Array.replicate ops.size U) fr ac;rw[<-n]at key
  exact key _ _ (by simp) (λj i L _=>by grind[Array.getD_eq_getD_getElem?,Array.getElem?_eq_none]) (λi b=>⟨λ_=>z i b,λ_=>m i b⟩) B A J h hs.draw
def To.permC{E:Env}{fn:Func}{g:Goal}(hE:ae E)(A B:a6){id:Nat}{ops:Array Oper}{ks:bg}{fr:au}{ac:aw}(hst:((aDW ops.size (nS [(A,B)])&&aEH (nS [(A,B)]) [] ops.size)&&aFZ (iX [] ops.toList) [(A,B)])=O)
  (h:GB E A (iX [] ops.toList) ops.toList ac A fr λfr=>zU E A (iX [] ops.toList) ops.toList (λfr ac=>To E fn g (.code ks fr ac)) (kB E fn g) B A fr ac):To E fn g (.code (.code (.region id ops O)::ks) fr ac):=To.permS hE [(A,B)] hst h
def aLC{p q:Prop}(h:q)(hp:p:=by repeat (first|exact trivial|refine And.intro ⟨rfl,rfl⟩ ?_)):p/\q:=⟨hp,h⟩
def eA(E:Env){f:FuncId}(fn:Func){args:az}{ac:aw}(n:Nat){r:Res}{oB:aw}(h:okL args->To E fn (.full n r oB) (.code [.code (eF fn)] (frA 0 args) ac))(b:E.df=[]:=by rfl)(i:E.P.funcs[f]? =X fn:=by rfl)(j:fn.body=X (eF fn):=by rfl)
  (c:qO E.P f:=by exact λ_ _=>by rfl) (e:dW fn.ntmps (eF fn)=true:=by decide+kernel) (l:Nat.ble (Z args) fn.ntmps=true:=by rfl) (a:yT ac=true:=by rfl) (k:Z ac=n:=by rfl) (d:E.rd=none:=by rfl):aA E.P f args ac r oB:=
 aA.to (g:=.full n r oB) b i j c e l a k h d
def gA(E:Env){f:FuncId}(fn:Func){args:az}{ac:aw}{r:Res}(h:okL args->To E fn (.pure r) (.code [.code (eF fn)] (frA 0 args) ac))(b:E.df=[]:=by rfl)(i:E.P.funcs[f]? =X fn:=by rfl)(j:fn.body=X (eF fn):=by rfl)
  (c:qO E.P f:=by exact λ_ _=>by rfl) (e:dW fn.ntmps (eF fn)=true:=by decide+kernel) (l:Nat.ble (Z args) fn.ntmps=true:=by rfl) (a:yT ac=true:=by rfl) (k:Z ac=0:=by rfl) (d:E.rd=none:=by rfl):aA E.P f args ac r []:=
 aA.to (g:=.pure r) b i j c e l a k h d
theorem pA {P Q R:Prop} (k:Q) (h:R->P:=by intro k;exact gN (by first|exact hE|exact hEo _ _|exact hEr _ _|exact hEl _ _ _ _|exact hEx _ _ _|assumption) k) (e:Q=R:=by conv=>rhs;whnf):P:=h (e.mp k)
theorem lA {P Q R:Prop} (k:Q) (j:R) (h:Q->R->P:=by intro k j;first|(have j:(0:Nat)=0:=j;first|exact aY k|exact aN k|exact aT k|exact aF k|exact aJ k|exact⟨_,rfl,k⟩|exact aD k)|exact zu k j):P:=h k j
def tA {P:Prop} (h:P:=by refine gV ?_;exact zW):P:=h
def CallG.p{P f args ac K Kp r new}(h k):=@CallG.pure P f args ac K Kp r new h k
def CallD.p{P f args so seen base ac K Kp r new}(h k):=@CallD.pure P f args so seen base ac K Kp r new h k
abbrev Gf(n:Nat):Prop:=(n:Int)<=9223372036854775807
abbrev BV(f:Func)(l:au)(o:aw):St:=.head (stk f 0) l o
abbrev DE(E:Env)(f:Func)(r:aa)(l:au)(o:aw):Prop:=To E f (.pure (.ret r)) (.head (stk f 0) l o)
end Go.AW
