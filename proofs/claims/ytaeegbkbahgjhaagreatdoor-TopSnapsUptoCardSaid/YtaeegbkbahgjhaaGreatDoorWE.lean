/- Part 5 of what the statement rests on. -/
import Derived.Test.YtaeegbkbahgjhaaGreatDoorWD
set_option linter.all false
namespace Go.AW
def To.partR{E:Env}{fn:Func}{g:Goal}{st:bf}{fr a:ar}{ac ob':au}(h:To E fn g (.head st a ob'))
  (f:O8 g.n0 (List.range ob'.length) (aB ac) (lM (a.map (·.1)) fr)=a) (i:gG g.n0 (List.range ob'.length) ac=ob') (c:E.df=[]) (e:jD (List.range ob'.length) ac=true) (d:iY g.n0 0 (List.range ob'.length)=true) (b:g.strict=true):To E fn g (.head st fr ac):=
 To.part (a.map (·.1)) (List.range ob'.length) c e d (by grind) b
def zE{c:Bool}{p q:Prop}(h:c=true)(k:p):(c=true->p)/\(c=false->q):=⟨λ_=>k,λ h'=>absurd (h.symm.trans h') (by decide)⟩
def zF{c:Bool}{p q:Prop}(h:c=false)(k:q):(c=true->p)/\(c=false->q):=⟨λ h'=>absurd (h.symm.trans h') (by decide),λ_=>k⟩
def zP{E:Env}{fn:Func}{g:Goal}{st:bf}{fr fr':ar}{ac ob':au}(h:To E fn g (.head st fr' ob'):=by assumption)
  (hf:O8 g.n0 (List.range ob'.length) (aB ac) (lM (fr'.map (·.1)) fr)=fr':=by rfl) (ho:gG g.n0 (List.range ob'.length) ac=ob':=by rfl) (hdf:E.df=[]:=by rfl) (hk:jD (List.range ob'.length) ac=true:=by rfl) (hb:iY g.n0 0 (List.range ob'.length)=true:=by rfl) (hstr:g.strict=true:=by rfl):To E fn g (.head st fr ac):=
 To.partR h hf ho hdf hk hb hstr
def zM{a b p:Prop}(h:p)(h1:a:=by simp only [maxLen];simp;omega)(h2:b:=by simp;omega):(a/\b)/\p:=⟨⟨h1,h2⟩,h⟩
def zW{P:Prop}(h:P:=by
 repeat' first
  | (refine gN (by first | exact hE | exact hEo _ _ | exact hEr _ _ | exact hEl _ _ _ _ | assumption) ?_;conv=>whnf)
  | exact rfl
  | assumption
  | refine aY ?_
  | refine aN ?_
  | refine .pure _ [] (by assumption) ?_
  | refine .pure _ [] (hz1 _) ?_
  | refine .pure _ [] (hz2 _ _) ?_
  | refine .pure _ [] (hz3 _ _ _) ?_
  | refine .eff [] [0] _ _ rfl (by assumption) ?_
  | refine .eff [] [1] _ _ rfl (by assumption) ?_
  | refine .eff [] [0,1] _ _ rfl (by assumption) ?_
  | refine ⟨_,by assumption,?_⟩
  | refine zE (by assumption) ?_
  | refine zF (by assumption) ?_
  | refine aT λ h=>?_
  | refine aF λ h=>?_
  | refine ⟨λ h=>?_,λ h=>?_⟩
  | refine aJ ?_
  | refine ⟨_,rfl,?_⟩
  | refine aD ?_
  | exact zP
  | refine zM ?_
  | refine And.intro (xB (by assumption) (by decide)) ?_
  | exact ⟨⟨rfl,rfl⟩,rfl,rfl⟩
  | exact ⟨[],[0],⟨rfl,rfl⟩,rfl,rfl⟩
  | exact ⟨[],[0,1],⟨rfl,rfl⟩,rfl,rfl⟩
  | exact ⟨[],[1],⟨rfl,rfl⟩,rfl,rfl⟩
  | exact ⟨[],[],⟨rfl,rfl⟩,rfl,rfl⟩
  | refine .pure _ [] (aA.strip (by assumption)) ?_
  | refine .eff [] [0,1,2] _ _ rfl (by assumption) ?_
  | refine .eff [] [2] _ _ rfl (by assumption) ?_
  | refine .pure _ _ (by assumption) ?_
  | exact ⟨[],[0,1,2],⟨rfl,rfl⟩,rfl,rfl⟩
  | exact ⟨[],[2],⟨rfl,rfl⟩,rfl,rfl⟩
  | (exfalso;simp only [decide_eq_true_eq,decide_eq_false_iff_not] at *;omega)
  | fail):P:=h
def gV{P Q:Prop}(k:Q)(h:Q->P:=by intro k;refine gW (by first | exact hE | exact hEo _ _ | exact hEr _ _ | exact hEl _ _ _ _ | assumption) ?_;(conv=>whnf);exact k):P:=h k
open Go.RowKit
def RZ(gl:Nat)(c:aa):BInv where
 inv M _ _:=M gl 0 c
 mono hM _ _ h:=hM _ _ _ h
def zt{P Q:Prop}(k:Q)(h:Q->P:=by intro k;first | exact aY k | exact aN k | exact aT k | exact aF k | exact aJ k | exact ⟨_,rfl,k⟩ | exact aD k):P:=h k
def zx{A B X:az->az->Prop}(ks:az)(h:(A [] ks/\B [] ks)/\X [] ks:=by exact ⟨⟨rfl,rfl⟩,rfl,rfl⟩):∃ a ks,(A a ks/\B a ks)/\X a ks:=⟨[],ks,h⟩
def zu{a b p q:Prop}(h:a->p)(k:b->q):(a->p)/\(b->q):=⟨h,k⟩
section
variable {E:Env} {fn:Func} {g:Goal}
inductive HandG(E:Env)(fn:Func)(g:Goal)(all:bb)(tab:az)(ks:bf)(n d t gl:Nat)(l2:bb)(fr:ar)(ac:au):Prop
 | mk (k gg:Nat) (c v:aa) (hk:aB ac k= .bun gg (RZ gl c)) (hv:W0 E (aB ac) t (.ptr [c])= .val v) (h:To E fn g (.mid ⟨all,false,tab,ks⟩ (n+1) l2 [] (kV fr (some d) v) ac))
def QP{P:Program}{x:Operand}{t:TypeId}{p:Oper}(hp:p.op= .load t x){ρ:Operand->Value}{w:World}{v:Value}(h:(Instr.loadAt t (ρ x)).run P w= .ok v w):(execOp ρ p).run P w= .ok (.value v) w:=by obtain ⟨d,op,ty,pos,a,b⟩:=p;dsimp only at hp;subst hp;have:execOp ρ ⟨d,.load t x,ty,pos,a,b⟩=(Instr.loadAt t (ρ x) >>= λ v=>Pure.pure (.value v)):=rfl;rw [this,Sem.run_bind,h];rfl
def To.glob(hE:ae E)(n:Nat){id:Nat}{ops:Array Oper}(tab:az){ks:bf}{fr:ar}{ac:au}{p:Oper}{t q d:Nat}(S:ops.toList[n]? =some p)(hp:p.op= .load t (.global q))(z:p.dst=some d)(V:p.guard=none)
  (h:eX E ops.toList (HandG E fn g ops.toList tab ks n d t q (ops.toList.drop (n+1))) (jE E fn g) 0 (ops.toList.take n) fr ac):To E fn g (.code (.code (.region id ops false)::ks) fr ac):=
 .mk λ T M0 ob0 ap w0 a w hst hs=>by
  simp only [bC,KI.ok,cZ,Bool.and_eq_true] at T;obtain ⟨⟨F,U⟩,D⟩:=T;have B:=lC F;have A:=(List.getElem?_eq_some_iff.1 S).1;have b:ops.toList=ops.toList.take n++p::ops.toList.drop (n+1):=by
   conv=>lhs;rw [<-List.take_append_drop n ops.toList,List.drop_eq_getElem_cons A]
   rw [(List.getElem?_eq_some_iff.1 S).2]
  refine KW.code (Q':=QR E fn g M0 ob0 ap w0 ks) ?_ (λ a w h=>h) (λ i a w h=>h) (λ e a w Y=>by cases e<;>first | exact .inl rfl | exact .inr ⟨_,rfl⟩ | exact Y.elim)
  have f:∀ m v ac i a w,jE E fn g m v ac->PP M0 ob0 ap w0 fn.ntmps E.df m v ac i a w->nN E fn M0 ob0 ap w0 g (.panic i) a w:=λ m v ac i a w he f=>wV he hst f;have hq:∀ fr ac a w,dD E fn g ks fr ac->SS M0 ob0 ap w0 fn.ntmps E.df fr ac a w->KW E.rd E.P (nN E fn M0 ob0 ap w0 g) ks a w:=λ fr ac a w N hs=>N D M0 ob0 ap w0 a w hst hs;refine wpIn_region_list ?_;have y:∀ fr ac a w,HandG E fn g ops.toList tab ks n d t q (ops.toList.drop (n+1)) fr ac->SS M0 ob0 ap w0 fn.ntmps E.df fr ac a w->wpListIn (fen E.rd) 0 E.P ops (QR E fn g M0 ob0 ap w0 ks) (p::ops.toList.drop (n+1)) a w:=by
   rintro fr ac a w ⟨k,gg,c,v,N,hv,l⟩ hs;obtain ⟨M,ob,hx,hm,O,o,J,h0⟩:=hs;obtain ⟨_,_,_,bs,_,_,W⟩:=hm.obj k _ (bF N (by simp));have C:Rep M ob (.pointer (some ⟨q,0,none⟩)) (.ptr [c]):=.ptr q 0 [c] λ j x R=>by
    cases j with
    | zero=>cases R;exact W
    | succ j=>simp at R
   have hl:=WZ (base:=0) hE hm (t:=t) C;rw [hv] at hl;obtain ⟨_,u,s,hr⟩:=hl;have I:nO E.P p a.eval w (λ e H=>e= .returned u/\H=w):=.inl ⟨_,_,QP hp s,rfl,rfl⟩;refine wk (next:=λ a w=>SS M0 ob0 ap w0 fn.ntmps E.df (kV fr (some d) v) ac a w) ?_ λ a w hs=>?_
   .unfold G;rw [if_pos (by simp [Region.wanted,V])];refine I.wpIn (by intro c;rw [hp];simp) (λ v H ⟨L,Z⟩=>?_) (λ i H ⟨L,_⟩=>by cases L);cases L;subst Z;refine ⟨M,ob,hx,hm,?_,(dK _ _ _).1.trans o,J.put,h0⟩;rw [dR,z];exact lU O hr λ X e=>o▸B p (by rw [b];simp) X (z.trans e)
   .obtain ⟨l⟩:=l;exact mY (rd:=E.rd) (Q:=QR E fn g M0 ob0 ap w0 ks) (K:=dD E fn g ks) (Kp:=jE E fn g) hE (λ m v ac i a w h1 r=>f m v ac i a w h1 r) (λ fr ac a w h1 r=>hq fr ac a w h1 r) _ (n+1) _ _ a w (λ p hp=>B p (by rw [b];exact List.mem_append_right _ (List.mem_cons_of_mem _ hp))) l hs
  rw [b];exact uX (rd:=E.rd) (Q:=QR E fn g M0 ob0 ap w0 ks) (Kp:=jE E fn g) hE (λ m v ac i a w h1 r=>f m v ac i a w h1 r) y _ 0 fr ac a w (λ p hp=>B p (by rw [b];exact List.mem_append_left _ hp)) h hs
end
def To.partC{E:Env}{fn:Func}{g:Goal}{st:bf}{fr:ar}{ac:au}(l ks:az)(b:E.df=[])(d:jD ks ac=true)(c:iY g.n0 0 ks=true)
  (h:To E fn g (.code st (O8 g.n0 ks (aB ac) (lM l fr)) (gG g.n0 ks ac))) (a:g.strict=true:=by rfl):To E fn g (.code st fr ac):=To.toC (To.part l ks b d c (To.ofC h) a)
def Mg(w:World)(a:Nat)(c:aa):Imm:=λ b o x=>Mw w b o x\/(b=a/\o=0/\x=c)
def aNS{w:World}{a:Nat}{c:aa}{u:Value}(h1:w.cell? ⟨a,0,none⟩=some u)(g:u.oneCell'=true)(h3:Rep (Mg w a c) [] u c):Mem (Mg w a c) [[eD []]] [.bun 0 (RZ a c)] w:=by
 have d:blk [eD []]=[]:=eJ _;have i:∀ b o x,Mw w b o x->Mg w a c b o x:=λ_ _ _ h=>.inl h
 have n:Mem (Mg w a c) [] [] w:=⟨λ b o x j=>by
  rcases j with ⟨v,f,l,m⟩ | ⟨rfl,rfl,rfl⟩
  .exact ⟨v,f,l,m.rep.monoM i⟩
  .exact ⟨u,h1,g,h3⟩,rfl,λ k c h=>by simp at h,λ k b ⟨c,hs,e,_⟩=>by simp at e,λ k k' b ⟨c,hs,e,_⟩=>by simp at e⟩
 exact (n.snoc (c:=.bun 0 (RZ a c)) (hs:=[eD []]) (λ ob _=>⟨rfl,[],rfl,(λ b d=>by simp at d),.inr ⟨rfl,rfl,rfl⟩⟩) (λ b h=>by rw [d] at h;simp at h) (λ k b _=>by rw [d];simp)).1
def PL{P:Program}{f:FuncId}{args:ay}{d:ba}{w:World}{g:Nat}{c:aa}{u:Value}(n:nP P f)(h:aA P f args [.bun 0 (RZ g c)] (.ret (.bool true)) [.bun 0 (RZ g c)])
  (h1:w.cell? ⟨g,0,none⟩=some u) (t:u.oneCell'=true) (h3:Rep (Mg w g c) [] u c) (q:cA (Mw w) [] d args):Calls P f d.toArray w λ e w'=>e= .returned (.bool true)/\Below w.heap.size w w':=by
 have p:cA (Mg w g c) [[eD []]] d args:=⟨q.1,λ i v a y z=>(q.2 i v a y z).mono (λ_ _ _ h=>.inl h) (DY _)⟩
 have o:blk [eD []]=[]:=eJ _;have l:∀ k b,¬ aG [[eD []]] [.bun 0 (RZ g c)] k b:=λ k b ⟨x,hs,A,_,s,r⟩=>by
  cases k with
  | zero=>cases s;rw [o] at r;simp at r
  | succ k=>simp at s
 rcases h _ _ w d (aNS h1 t h3) p with ⟨_,h⟩ | ⟨v,w',h,_⟩
 .refine h.mono λ e w' ⟨M',ob',j,B,m⟩=>⟨?_,?_⟩
  .cases e with
   | returned v=>rw [Rep.bool_inv m]
   | panicked C=>exact m.elim
   | outgrown=>exact m.elim
  .exact ⟨j.os,j.tape,j.output,j.size,λ b o=>j.keep b o λ k=>l k b⟩
 .rw [n] at h;cases h
open Classical
def zN(r:Nat):Code->bf->Option bf
 | .region id ops d,ks=>bif Nat.beq id r then some (.code (.region id ops d)::ks) else none
 | .seq (.region id ops d) b,ks=>bif Nat.beq id r then some (.code (.seq (.region id ops d) b)::ks) else zN r b ks
 | .seq a b,ks=>(match zN r a (.code b::ks) with | some x=>some x | none=>zN r b ks)
 | .cond _ a b,ks=>(match zN r a ks with | some x=>some x | none=>zN r b ks)
 | .block id b,ks=>zN r b (.inB id::ks)
 | .loop b,ks=>zN r b (.inL b::ks)
 | _,_=>none
def aMC(fn:Func)(r:Nat):bf:=match zN r (dA fn) [] with | some ks=>ks | none=>[]
def iZ(fn:Func)(r:Nat):bf:=match zU r (dA fn) with | some c=>.code c::dB fn r | none=>[]
def LM(E:Env)(A tab:az)(all:bb)(K:ar->au->Prop)(Kp:(Nat->aa)->aa->au->Prop):az->az->az->ar->au->Prop
 | [],_,U,fr,ac=>NV E A tab all fr ac U/\K fr ac
 | _::F,Bs,U,fr,ac=>NV E A tab all fr ac U/\tW tab Bs (λ n=>match nth all n with
   | none=>False
   | some p=>(match p.guard with
    | some _=>False
    | none=>orF E.P ac (λ v ao=>KD 5 v λ v=>ODL ao λ ao=>MT fr p.dst v λ fr=>LM E A tab all K Kp F (FF n Bs) (qF tab n U) fr ao) (Kp (gP A all fr))
      (eop E (dG E p.dst) (aM ac) (aB ac) (evP A tab all n fr) p.op p.type))) Bs
def aAJ{E:Env}{A tab:az}{all:bb}{K:ar->au->Prop}{Kp:(Nat->aa)->aa->au->Prop}{F a U:az}{fr:ar}{ac:au}(h:LM E A tab all K Kp F a U fr ac):NV E A tab all fr ac U:=by
 cases F with
 | nil=>exact h.1
 | cons n r=>exact h.1
section
variable {rd:Option Nat} {M0:Imm} {ob0:Hs} {ap:au} {w0:World} {sz:Nat} {dfs:List (Nat×ay)} {E:Env} {ops:Array Oper} {Q:Exit->Act->World->Prop} {K:ar->au->Prop} {Kp:(Nat->aa)->aa->au->Prop} {A tab:az}
def Q7(hE:ae E)(ht:TabSp ops tab)(hd:∀ (i:Nat) p,ops[i]? =some p->∀ d,p.dst=some d->d<sz)
  (hp:∀ g v ac ch a w,Kp g v ac->PP M0 ob0 ap w0 sz dfs g v ac ch a w->Q (.panic ch) a w) (hq:∀ fr ac a w,K fr ac->SS M0 ob0 ap w0 sz dfs fr ac a w->Q .normal a w):
  ∀ (J:Nat) (b:Array Bool) (F s z U:az) (fr:ar) (ac:au) (a:Act) (w:World),F.length=s.length->J=s.length+z.length->b.size=ops.size->mJ tab b->
   (∀ i,i<ops.size->(b.getD i false=false↔i∈s\/i∈z))->(s++z).Nodup->(∀ i∈s,i<ops.size)->(∀ i∈z,i∈A/\i∈U/\i<ops.size)->
   LM E A tab ops.toList K Kp F s U fr ac->SM M0 ob0 ap w0 sz dfs ops z fr ac a w->wpAnyIn (fen rd) 0 E.P .any ops Q J b a w:=by
 intro J;induction J with
 | zero=>
  intro b F s z U fr ac a w hF hf N hc k C R D h hs;have e1:s=[]:=List.eq_nil_of_length_eq_zero (by omega);have e2:z=[]:=List.eq_nil_of_length_eq_zero (by omega);subst e1 e2;obtain rfl:=List.eq_nil_of_length_eq_zero hF;refine ⟨List.eq_nil_iff_forall_not_mem.2 λ j c=>?_,hq fr ac a w h.2 ?_⟩
  .obtain ⟨h1,X⟩:=vQ c N;rcases (k j h1).1 X with q | q<;>cases q
  .obtain ⟨M,ob,Y,hm,O,r⟩:=hs;exact ⟨M,ob,Y,hm,λ t=>O t (λ i hi=>absurd hi List.not_mem_nil),r⟩
 | succ J ih=>
  intro b F s z U fr ac a w hF hf N hc k C R D h hs;refine ⟨λ h0=>?_,λ i hi=>?_⟩
  .exfalso;cases s with
   | cons n r=>
    have hn:=R n (List.mem_cons_self ..);exact lL ht N (n+1) n (by omega) hn ((k n hn).2 (.inl (List.mem_cons_self ..))) h0
   | nil=>
    cases z with
    | nil=>simp at hf
    | cons n r=>
     have hn:=(D n (List.mem_cons_self ..)).2.2;exact lL ht N (n+1) n (by omega) hn ((k n hn).2 (.inr (List.mem_cons_self ..))) h0
  .obtain ⟨hilt,hil⟩:=vQ hi N;obtain ⟨hc',V⟩:=hc.step ht hi;obtain ⟨M,ob,Y,hm,O,I,hdf,h0⟩:=hs;have hl:=hm.len;have hev:∀ x,Rep M ob (a.eval x) (evP A tab ops.toList i fr x):=λ x=>by
    cases x with
    | const v=>exact oO v
    | global g=>exact .undef _
    | func f=>exact .func (.func f) [] [] [] [] rfl rfl (λ i v a h=>by simp at h) (λ i v a h=>by simp at h)
    | tmp t=>
     show Rep M ob _ (bif OB A tab i t 0 ops.toList then .undef else aW fr t);cases hh:OB A tab i t 0 ops.toList with
     | true=>exact .undef _
     | false=>
      refine O t λ j c p hp m=>?_;have h1:=yH hh j p (by simpa using hp) m (by rw [Nat.zero_add];exact (D j c).1);rw [Nat.zero_add] at h1;have X:=V j h1;rw [(k j (D j c).2.2).2 (.inr c)] at X;cases X
   have L:∀ (Bs' UA':az),(∀ j,(j∈Bs'\/j∈UA')↔(j∈s\/j∈z)/\j≠i)->∀ j,j<ops.size->((b.setIfInBounds i true).getD j false=false↔j∈Bs'\/j∈UA'):=λ Bs' UA' he j c=>by
    rw [he j];by_cases e:j=i
    .subst e;rw [Array.getD_eq_getD_getElem?,Array.getElem?_setIfInBounds_self_of_lt (by omega)];simp
    .rw [getD_set_ne false (Ne.symm e),k j c];simp [e]
   have hsz':(b.setIfInBounds i true).size=ops.size:=by simpa using N
   rcases (k i hilt).1 hil with hB | hA
   .-- one of the row
    cases F with
    | nil=>rw [List.eq_nil_of_length_eq_zero hF.symm] at hB;cases hB
    | cons n0 F=>
     have hfree:qD tab i s=true:=D3 λ j c=>by
      cases hq2:cL (cR tab i) j with
      | false=>rfl
      | true=>
       have X:=V j hq2;rw [(k j (R j c)).2 (.inl c)] at X;cases X
     obtain ⟨hok,h⟩:=h;have h:=xE hfree h hB;split at h
     .exact h.elim
     .rename_i p hnp;have H:ops[i]? =some p:=by simpa using gX hnp
      split at h
      .exact h.elim
      .rename_i hg
       have h:orF E.P ac (λ v ao=>LM E A tab ops.toList K Kp F (FF i s) (qF tab i U) (kV fr p.dst v) ao) (Kp (gP A ops.toList fr)) (eop E (dG E p.dst) (aM ac) (aB ac) (evP A tab ops.toList i fr) p.op p.type):=
        iS (λ v o h=>by rw [kT,pW,CQ] at h;exact h) h
       have hw:Region.wanted p (yielded ops a.tmps)=true:=by unfold Region.wanted;rw [hg]
       unfold wpOpIn;rw [H];dsimp only;rw [if_pos hw];refine (sK hE hm hev h).wpIn (iJ h) (λ u w' ⟨M',ob',L',G,Z,x3⟩=>?_) (λ ch w' ⟨M',ob',L',G,Z,x3⟩=>?_)
       .rcases x3 with ⟨u',v,e,hr,hk⟩ | ⟨ch,v,e,_⟩
        .cases e;have:=G.lens;have:=Z.len;have hndB:s.Nodup:=(List.nodup_append.1 C).1;have l:∀ j,j∈s.erase i↔j≠i/\j∈s:=λ j=>hndB.mem_erase_iff;have hlen:(s.erase i).length+1=s.length:=by rw [List.length_erase_of_mem hB];have:=List.length_pos_of_mem hB;omega
         have W:i∉z:=λ hb=>(List.nodup_append.1 C).2.2 i hB i hb rfl;rw [I7] at hk
         refine ih (b.setIfInBounds i true) F (s.erase i) z (qF tab i U) _ L' _ w' (by simp at hF;omega) (by omega) hsz' hc' (L (s.erase i) z λ j=>?_) ?_ (λ j c=>R j ((l j).1 c).2) (λ j c=>?_) hk
                    ⟨M',ob',Y.trans G,Z,λ t hmt=>?_,(dK _ _ _).1.trans I,(hdf.ext hm G).put,by omega⟩
         .rw [l j];constructor
          .rintro (⟨B,c⟩ | c)
           .exact ⟨.inl c,B⟩
           .exact ⟨.inr c,λ e=>W (e▸c)⟩
          .rintro ⟨c | c,B⟩
           .exact .inl ⟨B,c⟩
           .exact .inr c
         .refine List.nodup_append.2 ⟨hndB.erase i,(List.nodup_append.1 C).2.1,λ x Y y hy=>?_⟩;exact (List.nodup_append.1 C).2.2 x ((l x).1 Y).2 y hy
         .obtain ⟨k1,k2,k3⟩:=D j c;refine ⟨k1,yN k2 ?_,k3⟩;cases hq2:cL (cR tab i) j with
          | false=>rfl
          | true=>
           have X:=V j hq2;rw [(k j k3).2 (.inr c)] at X;cases X
         .rw [dR];unfold jC;by_cases m:p.dst=some t
          .rw [if_pos m];have hlt:t<a.tmps.size:=I▸hd i p H t m;rw [m];simp only [Act.put];rw [Array.getD_eq_getD_getElem?,Array.getElem?_setIfInBounds_self_of_lt hlt];exact hr
          .rw [if_neg m];have hold:=(O t hmt).mono G.imm G.hs;cases T:p.dst with
           | none=>exact hold
           | some d=>
            have B:d≠t:=λ e=>m (by rw [T,e]);simp only [Act.put];rw [Array.getD_eq_getD_getElem?,Array.getElem?_setIfInBounds_ne B,<-Array.getD_eq_getD_getElem?];exact hold
        .cases e
       .rcases x3 with ⟨u',v,e,_⟩ | ⟨ch',v,e,hr,hk⟩
        .cases e
        .cases e;have:=G.lens;have:=Z.len;refine hp _ v L' ch a w' hk ⟨M',ob',Y.trans G,Z,hr,λ t=>?_,I,hdf.ext hm G,by omega⟩;unfold gP;cases hda:A3 A t 0 ops.toList with
         | true=>exact .undef _
         | false=>
                    exact (O t λ j c q S=>oN hda j q (by simpa using S) (by rw [Nat.zero_add];exact (D j c).1)).mono G.imm G.hs
   .-- one that looks
    obtain ⟨k1,k2,k3⟩:=D i hA;obtain ⟨p,d,H,hg,T,hev2⟩:=NU (aAJ h) i k2;have H:ops[i]? =some p:=by simpa using H
    have hor:orF E.P ac (λ v ao=>v=aW fr d/\ao=ac) (λ_ _=>False) (eop E (dG E p.dst) (aM ac) (aB ac) (evP A tab ops.toList i fr) p.op p.type):=oF hev2;have hw:Region.wanted p (yielded ops a.tmps)=true:=by unfold Region.wanted;rw [hg]
    unfold wpOpIn;rw [H];dsimp only;rw [if_pos hw];refine (sK hE hm hev hor).wpIn (iJ hor) (λ u w' ⟨M',ob',L',G,Z,x3⟩=>?_) (λ ch w' ⟨M',ob',L',G,Z,x3⟩=>?_)
    .rcases x3 with ⟨u',v,e,hr,hk1,hk2⟩ | ⟨ch,v,e,_⟩
     .cases e;subst hk1 hk2;have hlt:d<a.tmps.size:=I▸hd i p H d T;have hnod:z.Nodup:=(List.nodup_append.1 C).2.1;have l:∀ j,j∈z.erase i↔j≠i/\j∈z:=λ j=>hnod.mem_erase_iff;have hlen:(z.erase i).length+1=z.length:=by rw [List.length_erase_of_mem hA];have:=List.length_pos_of_mem hA;omega
      have W:i∉s:=λ hb=>(List.nodup_append.1 C).2.2 i hb i hA rfl
      refine ih (b.setIfInBounds i true) F s (z.erase i) U fr L' _ w' hF (by omega) hsz' hc' (L s (z.erase i) λ j=>?_) ?_ R (λ j c=>D j ((l j).1 c).2) h
       ⟨M',ob',Y.trans G,Z,λ t hmt=>?_,(dK _ _ _).1.trans I,(hdf.ext hm G).put,h0⟩
      .rw [l j];constructor
       .rintro (c | ⟨B,c⟩)
        .exact ⟨.inl c,λ e=>W (e▸c)⟩
        .exact ⟨.inr c,B⟩
       .rintro ⟨c | c,B⟩
        .exact .inl c
        .exact .inr ⟨B,c⟩
      .refine List.nodup_append.2 ⟨(List.nodup_append.1 C).1,hnod.erase i,λ x Y y hy=>?_⟩;exact (List.nodup_append.1 C).2.2 x Y y ((l y).1 hy).2
      .rw [T];simp only [Act.put];by_cases m:d=t
       .subst m;rw [Array.getD_eq_getD_getElem?,Array.getElem?_setIfInBounds_self_of_lt hlt];exact hr
       .rw [Array.getD_eq_getD_getElem?,Array.getElem?_setIfInBounds_ne m,<-Array.getD_eq_getD_getElem?];refine (O t λ j c q S=>?_).mono G.imm G.hs;by_cases hji:j=i
        .subst hji;rw [H] at S;cases S;rw [T];exact λ e=>m (Option.some.inj e)
        .exact hmt j ((l j).2 ⟨hji,c⟩) q S
     .cases e
    .rcases x3 with ⟨u',v,e,_⟩ | ⟨ch',v,e,hr,hk⟩
     .cases e
     .exact hk.elim
end
def To.permTV{E:Env}{fn:Func}{g:Goal}(hE:ae E)(A B:az){id:Nat}{ops:Array Oper}{ks:bf}{fr:ar}{ac:au}(hst:T5 A B (gS [] ops.toList) ops.size=true)
  (h:vG E A (gS [] ops.toList) ops.toList ac A fr λ fr=>LM E A (gS [] ops.toList) ops.toList (λ fr ac=>To E fn g (.code ks fr ac)) (jE E fn g) B B A fr ac):To E fn g (.code (.code (.region id ops true)::ks) fr ac):=
 .mk λ N M0 ob0 ap w0 a w f hs=>by
  simp only [bC,KI.ok,cZ,Bool.and_eq_true] at N;obtain ⟨⟨F,x⟩,C⟩:=N;have T:=lC F
  refine KW.code (Q':=QR E fn g M0 ob0 ap w0 ks) ?_ (λ a w h=>h) (λ n a w h=>h) (λ e a w hh=>by cases e<;>first | exact .inl rfl | exact .inr ⟨_,rfl⟩ | exact hh.elim)
  have l:∀ q v ac n a w,jE E fn g q v ac->PP M0 ob0 ap w0 fn.ntmps E.df q v ac n a w->nN E fn M0 ob0 ap w0 g (.panic n) a w:=λ q v ac n a w Z l=>wV Z f l;have z:∀ fr ac a w,To E fn g (.code ks fr ac)->SS M0 ob0 ap w0 fn.ntmps E.df fr ac a w->KW E.rd E.P (nN E fn M0 ob0 ap w0 g) ks a w:=λ fr ac a w y hs=>y.rec λ y=>y C M0 ob0 ap w0 a w f hs;have U:TabSp ops (gS [] ops.toList):=uK ops (by simpa using x);refine wpIn_region_any hE.mix ?_;simp only [T5,Bool.and_eq_true] at hst;obtain ⟨R,X⟩:=hst;obtain ⟨W,I⟩:=xY R;have K:=yR X;obtain ⟨J,h1,o⟩:=B1 h λ i b=>b;have m:(B++A).Nodup:=List.perm_append_comm.nodup_iff.1 W;have c:ops.size=B.length+A.length:=by
   have u:(B++A).length<=ops.size:=by
    have:=(m.sublist (List.Sublist.refl _))
    have h3:(B++A).Subset (List.range ops.size):=λ i b=>List.mem_range.2 (I i (by rw [List.mem_append] at b⊢;exact b.symm));have:=m.length_le_of_subset h3;simpa using this
   have r:ops.size<=(B++A).length:=by
    have h3:(List.range ops.size).Subset (B++A):=λ i b=>by rw [List.mem_append];exact (K i (List.mem_range.1 b)).symm
    have:=List.nodup_range.length_le_of_subset h3;simpa using this
   simp at u r;omega
  obtain ⟨M,ob,V,hm,S,O⟩:=hs.draw;have k:∀ i,i<ops.size->(Array.replicate ops.size false).getD i false=false:=λ i b=>by rw [Array.getD_eq_getD_getElem?,Array.getElem?_eq_getElem (by simpa using b)];simp
  refine Q7 (Q:=QR E fn g M0 ob0 ap w0 ks) hE U (λ i p b d G=>T p (List.mem_of_getElem? (i:=i) (by simpa using b)) d G) (λ q v ac n a w h1 o=>l q v ac n a w h1 o) (λ fr ac a w h1 o=>z fr ac a w h1 o) ops.size _ B B A A J ac a _ rfl c (by simp) (λ j i s _=>?_)
   (λ i b=>⟨λ_=>(K i b).symm,λ_=>k i b⟩) m (λ i b=>I i (List.mem_append_right _ b)) (λ i b=>⟨b,b,I i (List.mem_append_left _ b)⟩) h1 ⟨M,ob,V,hm,λ t H=>?_,O⟩
  .by_cases L:j<ops.size
   .rw [k j L] at s;cases s
   .rw [Array.getD_eq_getD_getElem?,Array.getElem?_eq_none (by simpa using L)] at s;cases s
  .rw [o t ?_]
   .exact S t
   .cases D:A3 A t 0 ops.toList with
    | false=>rfl
    | true=>
     obtain ⟨i,p,u,r,Y⟩:=KM D;rw [Nat.zero_add] at r;exact absurd Y (H i r p (by simpa using u))
end Go.AW
