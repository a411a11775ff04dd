/- Part 19 of what the statement rests on. -/
import Derived.Test.YtidhfoefaomodaaGreatDoorMTA
set_option linter.all false
set_option maxRecDepth 10000
set_option maxHeartbeats 1000000
open And renaming intro->Ae
open Bool renaming and_eq_true->Af,and_false->Bl,false_and->De,true_and->Bw
open Exists renaming intro->Aq
open Go.Value renaming okWide->Bt
open List renaming append_assoc->Ag,append_nil->Ar,drop_eq_getElem_cons->Aa,drop_eq_nil_of_le->Ab,drop_zero->Ap,getElem_mem->Ax,length_cons->Ak,map_cons->Bj,mem_cons_of_mem->Av,mem_cons_self->Ao
open List.cons renaming inj->Bg
open Option.some renaming inj->Db
namespace Go.AW
open Go.RowKit Go.ChangeShapes Go.WideShapes Go.ChangeAt
section
variable {P:Program} {w:World} {r:Reach} {base:Nat} {t:TypeId} {v:Value}
def zqtb0{P:Prop}(h:P:=by
 unfold sdF at h3
 exact c_ Tryz.f21 λ_=>zW):P:=h
def zqtb1{P:Prop}(h:P:=by exact c_ Tryz.f63 λ_=>zW):P:=h
def zqtb2{P:Prop}(h:P:=by
 subst a
 exact c_ Tryz.f61 λ_=>zW):P:=h
def zqtb3{P:Prop}(h:P:=by
 rw [C8.eqL_len (by intro e;rw [d,c,e] at h;simp at h)]
 refine gW hE ?_;conv=>whnf):P:=h
def zqtb4{P:Prop}(h:P:=by exact c_ Tryz.f62 λ_=>zW):P:=h
def zqtb5{P:Prop}(h:P:=by
 intro i l c;rw [Ab o_,Ab o_] at c;subst c;refine gV ?_
 exact zW):P:=h
def zqtb6{P:Prop}(h:P:=by
 refine To.part [0,3,4] [0,1,2,3,4] rfl rfl rfl ?_
 exact next):P:=h
def eB(a:aK P t=false)(h:Bt P w r base t v):Cell.okWide P w r base t v:=by
 unfold Bt at h;unfold aK at a;split at h
 .grind
 .grind
 .exact h
end
def YP{args:Array Value}(h:args.toList.length=1):∃ a,args= #[a]:=by
 obtain ⟨l⟩:=args
 match l,h with
 | [a],_=>simp
section
variable {H:Type} {enc:TypeId×Value->H} {P:Program} {w:World} {base:Nat} {spare:Nat->Bool} {held:Bool}
def fR{r:Reach}{b0:Nat}{t e:TypeId}{v:Value}(b:P.underlying t=some (.slice e))(h:Cell.okWide P w r b0 t v):∃ a n c,v= .slice a n c:=by unfold Cell.okWide at h;rw [b] at h;unfold Cell.ok at h;rw [b] at h;cases v<;>simp at h;simp
end
section
variable {H:Type} {N:Nat} {G:DataW H->Prop} {enc:TypeId×Value->H} {P:Program} {w:World} {base:Nat} {spare:Nat->Bool} {held:Bool}
def eO(o:Bulk H N G){r:Reach}{b0:Nat}{n:Nat}{t e:TypeId}{v:Value}{d:DataW H}{ps:List MemPlace}(f:P.underlying t=some (.slice e))(i:lD P (n+1) t=true)(p:Bt P w r b0 t v)(h:DataW.Trod enc P w base spare held t v d ps)(k:G d):
  ∃ xs,Rep (Mw w) [] v (.slice (P.cellsOf e) xs .no)/\xs.length<=N/\∀ x∈xs,TyN P N n e x.cells/\(aK P e=true->∃ l,x= .agg l)/\(aK P e=false->x.cells=[x]):=by
 obtain ⟨a,m,c,rfl⟩:=fR f (eB (by unfold aK;rw [f]) p);obtain ⟨b,h⟩:=h;obtain ⟨as0,h1,g⟩:=iS o (n+1) t i b _ _ h k;unfold TyN at g;rw [f] at g;obtain ⟨xs,rfl,hl,j⟩:=g;exact ⟨xs,(h1.2 0 _ _ rfl rfl).rep,hl,j⟩
end
open Go.RowKit
def To.partC{E:Env}{fn:Func}{g:Goal}{st:bh}{fr:ar}{ac:au}(l ks:az)(b:E.df=[])(d:jQ ks ac=true)(c:fY g.n0 0 ks=true)
  (h:To E fn g (.code st (E2 g.n0 ks (aB ac) (lC l fr)) (gQ g.n0 ks ac))) (a:g.strict=true:=by rfl):To E fn g (.code st fr ac):=To.toC (To.part l ks b d c (To.ofC h) a)
end Go.AW
namespace Go.Proofs.YtidhfoefaomodaaGreatDoor.C8
open Go Go.AW Go.Proofs
set_option maxRecDepth 10000
def IX{α:Type}{f:α->α->Bool}(b:∀ x,f x x=true):∀ (a:List α),eqL f a a=true
 | []=>rfl
 | x::r=>by simp [eqL,b x,IX b r]
def same_self(x:Cmd):same x x=true:=by have h1:x.g.eqb x.g=true:=Gan.eqb_eq.2 rfl;have a:eqL Nod.eqb x.c.ns x.c.ns=true:=IX (λ y=>Nod.eqb_eq.2 rfl) _;have h3:eqL Hos.eqb x.c.hs x.c.hs=true:=IX (λ y=>Hos.eqb_eq.2 rfl) _;simp [same,sameC,h1,a,h3]
end Go.Proofs.YtidhfoefaomodaaGreatDoor.C8
namespace Go.Proofs.YtidhfoefaomodaaGreatDoor
open Go Go.AW Go.Proofs
def bS{α:Type}[DecidableEq α]{f:α->α->Bool}(c:∀ x y,f x y=true↔x=y):∀ (a b:List α),C8.eqL f a b=decide (a=b)
 | [],[]=>rfl
 | [],_::_=>rfl
 | _::_,[]=>rfl
 | x::r,y::s=>by
  show (f x y&&C8.eqL f r s)=_;rw [bS c r s];cases h:f x y with
  | true=>
   have:=(c x y).1 h;subst this;simp
  | false=>
   have:x≠y:=λ e=>by rw [(c x y).2 e] at h;cases h
   simp [this]
def IW(a b:a7)(q:a.length=b.length)(hl:((pnv a).length:Int)<=9223372036854775807)(r:Bool):∀ (n i:Nat),i+n=a.length->C8.eqL Pn.eqb (a.drop i) (b.drop i)=r->
  To E Tryz.f65 (.pure (.ret (.bool r))) (.head (stk Tryz.f65 0) [(0,.slice 11 (pnv a) .no),(1,.slice 11 (pnv b) .no),(12,.int .i64 ((pnv a).length:Nat)),(13,.int .i64 i)] []):=by
 have e:(pnv a).length=a.length:=by simp
 intro n;induction n with
 | zero=>
  exact zqtb5
 | succ n o=>
  intro i l c;have h1:i<a.length:=o_;have d:i<b.length:=o_;rw [Aa h1,Aa d] at c;have c:(Pn.eqb a[i] b[i]&&C8.eqL Pn.eqb (a.drop (i+1)) (b.drop (i+1)))=r:=c;generalize k:a[i]=x at c;generalize m:b[i]=y at c;have j:(pnv a)[i]? =some (Pn.av x):=by simp [k,h1]
  have p:(pnv b)[i]? =some (Pn.av y):=by simp [m,d]
  refine gV ?_;refine aT λ h=>?_
  repeat' first | (refine gN hE ?_;conv=>whnf) | refine ⟨_,j,?_⟩ | refine ⟨_,p,?_⟩ | exact rfl | refine zt ?_ | refine zu ?_ ?_ | intro h | fail
  .rename_i h;have h:Pn.eqb x y=false:=eD h;rw [h] at c;rw [<-c];rfl
  .rename_i h;have h:Pn.eqb x y=true:=eF h;rw [h,Bw] at c;have g:=o (i+1) o_ c;exact zW
def XI(a b:a7):aq 65 [.slice 11 (pnv a) .no,.slice 11 (pnv b) .no] [] (.ret (.bool (C8.eqL Pn.eqb a b))) []:=by
 have d:(pnv a).length=a.length:=by simp
 have c:(pnv b).length=b.length:=by simp
 refine c_ Tryz.f65 λ j=>?_;have hl:((pnv a).length:Int)<=9223372036854775807:=j.1;refine gV ?_;refine ⟨λ h=>?_,λ h=>?_⟩
 .have h:(((pnv a).length:Int) !=((pnv b).length:Int))=true:=h;exact zqtb3
 .have h:(((pnv a).length:Int) !=((pnv b).length:Int))=false:=h;have i:=IW a b (by simp at h;omega) hl _ a.length 0 o_ rfl;exact zW
def IZ(a b:az)(q:a.length=b.length)(hl:((fv a).length:Int)<=9223372036854775807)(r:Bool):∀ (n i:Nat),i+n=a.length->C8.eqL (λ x y:Nat=>((x:Int)==(y:Int))) (a.drop i) (b.drop i)=r->
  To E Tryz.f66 (.pure (.ret (.bool r))) (.head (stk Tryz.f66 0) [(0,.slice 1 (fv a) .no),(1,.slice 1 (fv b) .no),(12,.int .i64 ((fv a).length:Nat)),(13,.int .i64 i)] []):=by
 have e:(fv a).length=a.length:=by simp
 intro n;induction n with
 | zero=>
  exact zqtb5
 | succ n o=>
  intro i l c;have h1:i<a.length:=o_;have d:i<b.length:=o_;rw [Aa h1,Aa d] at c;have c:((λ x y:Nat=>((x:Int)==(y:Int))) a[i] b[i]&&C8.eqL (λ x y:Nat=>((x:Int)==(y:Int))) (a.drop (i+1)) (b.drop (i+1)))=r:=c;generalize k:a[i]=x at c;generalize m:b[i]=y at c;have j:(fv a)[i]? =some (uu x):=by simp [k,h1]
  have p:(fv b)[i]? =some (uu y):=by simp [m,d]
  refine gV ?_;refine aT λ h=>?_
  repeat' first | (refine gN hE ?_;conv=>whnf) | refine ⟨_,j,?_⟩ | refine ⟨_,p,?_⟩ | exact rfl | refine zt ?_ | refine zu ?_ ?_ | intro h | fail
  .rename_i h;have h:(λ x y:Nat=>((x:Int)==(y:Int))) x y=false:=eD h;rw [h] at c;rw [<-c];rfl
  .rename_i h;have h:(λ x y:Nat=>((x:Int)==(y:Int))) x y=true:=eF h;rw [h,Bw] at c;have g:=o (i+1) o_ c;exact zW
def XL(a b:az):aq 66 [.slice 1 (fv a) .no,.slice 1 (fv b) .no] [] (.ret (.bool (C8.eqL (λ x y:Nat=>((x:Int)==(y:Int))) a b))) []:=by
 have d:(fv a).length=a.length:=by simp
 have c:(fv b).length=b.length:=by simp
 refine c_ Tryz.f66 λ j=>?_;have hl:((fv a).length:Int)<=9223372036854775807:=j.1;refine gV ?_;refine ⟨λ h=>?_,λ h=>?_⟩
 .have h:(((fv a).length:Int) !=((fv b).length:Int))=true:=h;exact zqtb3
 .have h:(((fv a).length:Int) !=((fv b).length:Int))=false:=h;have i:=IZ a b (by simp at h;omega) hl _ a.length 0 o_ rfl;exact zW
def IY(a b:ax)(q:a.length=b.length)(hl:((iv a).length:Int)<=9223372036854775807)(r:Bool):∀ (n i:Nat),i+n=a.length->C8.eqL (λ x y:Int=>(x==y)) (a.drop i) (b.drop i)=r->
  To E Tryz.f64 (.pure (.ret (.bool r))) (.head (stk Tryz.f64 0) [(0,.slice 1 (iv a) .no),(1,.slice 1 (iv b) .no),(12,.int .i64 ((iv a).length:Nat)),(13,.int .i64 i)] []):=by
 have g:(iv a).length=a.length:=by simp
 intro n;induction n with
 | zero=>
  exact zqtb5
 | succ n o=>
  intro i l c;have h1:i<a.length:=o_;have e:i<b.length:=o_;rw [Aa h1,Aa e] at c;have c:((λ x y:Int=>(x==y)) a[i] b[i]&&C8.eqL (λ x y:Int=>(x==y)) (a.drop (i+1)) (b.drop (i+1)))=r:=c;generalize k:a[i]=x at c;generalize m:b[i]=y at c;have j:(iv a)[i]? =some (ii x):=by simp [k,h1]
  have p:(iv b)[i]? =some (ii y):=by simp [m,e]
  refine gV ?_;refine aT λ h=>?_
  repeat' first | (refine gN hE ?_;conv=>whnf) | refine ⟨_,j,?_⟩ | refine ⟨_,p,?_⟩ | exact rfl | refine zt ?_ | refine zu ?_ ?_ | intro h | fail
  .rename_i h;have h:(λ x y:Int=>(x==y)) x y=false:=eD h;rw [h] at c;rw [<-c];rfl
  .rename_i h;have h:(λ x y:Int=>(x==y)) x y=true:=eF h;rw [h,Bw] at c;have d:=o (i+1) o_ c;exact zW
def XJ(a b:ax):aq 64 [.slice 1 (iv a) .no,.slice 1 (iv b) .no] [] (.ret (.bool (C8.eqL (λ x y:Int=>(x==y)) a b))) []:=by
 have d:(iv a).length=a.length:=by simp
 have c:(iv b).length=b.length:=by simp
 refine c_ Tryz.f64 λ j=>?_;have hl:((iv a).length:Int)<=9223372036854775807:=j.1;refine gV ?_;refine ⟨λ h=>?_,λ h=>?_⟩
 .have h:(((iv a).length:Int) !=((iv b).length:Int))=true:=h;exact zqtb3
 .have h:(((iv a).length:Int) !=((iv b).length:Int))=false:=h;have i:=IY a b (by simp at h;omega) hl _ a.length 0 o_ rfl;exact zW
def PH(a b:a7):aq 65 [.slice 11 (pnv a) .no,.slice 11 (pnv b) .no] [] (.ret (.bool (decide (a=b)))) []:=by rw [<-bS (λ_ _=>Pn.eqb_eq) a b];exact XI a b
def PJ(a b:az):aq 66 [.slice 1 (fv a) .no,.slice 1 (fv b) .no] [] (.ret (.bool (decide (a=b)))) []:=by rw [<-bS (f:=λ x y:Nat=>((x:Int)==(y:Int))) (λ x y=>by simp;omega) a b];exact XL a b
def PI(a b:ax):aq 64 [.slice 1 (iv a) .no,.slice 1 (iv b) .no] [] (.ret (.bool (decide (a=b)))) []:=by rw [<-bS (f:=λ x y:Int=>(x==y)) (λ x y=>by simp) a b];exact XJ a b
def dW{c d:Con}:C8.sameC c d=true↔c=d:=by obtain ⟨a,b,e,j⟩:=c;obtain ⟨h,i,g,k⟩:=d;unfold C8.sameC;rw [bS (f:=Nod.eqb) (λ_ _=>Nod.eqb_eq),bS (f:=Hos.eqb) (λ_ _=>Hos.eqb_eq)];simp
def VR(x y:Rn):aq 63 [x.av,y.av] [] (.ret (.bool (decide (x=y)))) []:=by
 have n:=PI x.hs y.hs;have a:(true&&true)=true:=rfl;have o:(true&&false)=false:=rfl;by_cases h1:x.g=y.g
 .have p:Gan.eqb x.g y.g=true:=Gan.eqb_eq.2 h1;by_cases i:x.seq=y.seq
  .have m:(x.seq==y.seq)=true:=by simpa using i
   by_cases h3:x.at'=y.at'
   .have l:(x.at'==y.at')=true:=by simpa using h3
    by_cases d:x.st=y.st
    .have k:(x.st==y.st)=true:=by simpa using d
     by_cases c:x.fl=y.fl
     .have j:(x.fl==y.fl)=true:=by simpa using c
      have b:=o;have hd:decide (x.hs=y.hs)=decide (x=y):=by obtain ⟨q,t,s,B,G,u⟩:=x;obtain ⟨v,F,z,w,C,D⟩:=y;dsimp only at h1 i h3 d c;subst h1 i h3 d c;simp
      rw [hd] at n;generalize decide (x=y)=r at *
      exact zqtb1
     .have b:(x.fl==y.fl)=false:=by simpa using c
      have j:=a;rw [decide_eq_false λ e=>c (by rw [e])];exact zqtb1
    .have b:(x.st==y.st)=false:=by simpa using d
     have k:=a;have j:=a;rw [decide_eq_false λ e=>d (by rw [e])];exact zqtb1
   .have b:(x.at'==y.at')=false:=by simpa using h3
    have l:=a;have k:=a;have j:=a;rw [decide_eq_false λ e=>h3 (by rw [e])];exact zqtb1
  .have b:(x.seq==y.seq)=false:=by simpa using i
   have m:=a;have l:=a;have k:=a;have j:=a;rw [decide_eq_false λ e=>i (by rw [e])];exact zqtb1
 .have b:Gan.eqb x.g y.g=false:=by
   cases h:Gan.eqb x.g y.g with
   | false=>rfl
   | true=>exact absurd (Gan.eqb_eq.1 h) h1
  have p:=a;have m:=a;have l:=a;have k:=a;have j:=a;rw [decide_eq_false λ e=>h1 (by rw [e])];exact zqtb1
noncomputable abbrev aGr:Func:=Tryz.f62
def sdF:aa:=.func (.func 63) [] []
def IV(a b:a6)(p:a.length=b.length)(hl:a.length<=1048576)(K:Int)(q:K=((rav a).length:Nat))(r:Bool):∀ (m i:Nat),i+m=a.length->decide (a.drop i=b.drop i)=r->
  To E aGr (.pure (.ret (.bool r))) (.head (stk aGr 0) [(1,.slice 14 (rav b) .no),(2,sdF),(15,.slice 14 (rav a) .no),(16,.int .i64 K),(17,.int .i64 i)] []):=by
 have k:(rav a).length=a.length:=by simp
 have h:(rav b).length=b.length:=by simp
 intro m;induction m with
 | zero=>
  intro i n c;rw [Ab o_,Ab o_] at c;have c:true=r:=c;subst c;refine gV ?_;exact zW
 | succ m j=>
  intro i n c;have f:i<a.length:=o_;have d:i<b.length:=o_;rw [Aa f,Aa d] at c;have o:=cF f;have l:=cF d;have g:=VR a[i] b[i];generalize a[i]=u at o c g;generalize b[i]=v at l c g;have next:=j (i+1) o_
  unfold sdF at next⊢
  by_cases h1:u=v
  .rw [decide_eq_true h1] at g;have next:=next (by rw [<-c,h1];exact decide_eq_decide.2 ⟨λ e=>by rw [e],λ e=>(Bg e).2⟩)
   clear j c;refine gV ?_;exact zW
  .rw [decide_eq_false h1] at g;have c:false=r:=by rw [<-c,decide_eq_false λ e=>h1 (Bg e).1]
   subst c;clear j next
   refine gV ?_;exact zW
def XH(a b:a6)(hl:a.length<=1048576):aq 62 [.slice 14 (rav a) .no,.slice 14 (rav b) .no,sdF] [] (.ret (.bool (decide (a=b)))) []:=by
 have d:(rav a).length=a.length:=by simp
 have c:(rav b).length=b.length:=by simp
 by_cases h1:a.length=b.length
 .have h:(((rav a).length:Int) !=((rav b).length:Int))=false:=by rw [d,c,h1];simp
  have next:=IV a b h1 hl _ rfl _ a.length 0 o_ (show _=decide (a=b) by rw [Ap,Ap])
  generalize decide (a=b)=r at *
  unfold sdF at next⊢
  exact zqtb4
 .have h:(((rav a).length:Int) !=((rav b).length:Int))=true:=by rw [d,c];simp;omega
  rw [decide_eq_false λ e=>h1 (by rw [e])];exact zqtb4
def JG(c d:Con):Bool:=C8.eqL Nod.eqb c.ns d.ns&&(C8.eqL Hos.eqb c.hs d.hs&&(c.half==d.half&&c.age==d.age))
def zL(c d:Con)(R:Bool)(a:JG c d=R):aq 61 [c.av,d.av] [] (.ret (.bool R)) []:=by
 have h1:=C8.eqN_ok c.ns d.ns;have e:=C8.eqH_ok c.hs d.hs;unfold JG at a;generalize C8.eqL Nod.eqb c.ns d.ns=q1 at h1 a;generalize C8.eqL Hos.eqb c.hs d.hs=q2 at e a;cases q1 with
 | false=>
  have a:false=R:=a;exact zqtb2
 | true=>
  cases q2 with
  | false=>
   have a:false=R:=a;exact zqtb2
  | true=>
   have a:(c.half==d.half&&c.age==d.age)=R:=a;cases b:c.half==d.half with
   | false=>
    rw [b] at a;have a:false=R:=a;exact zqtb2
   | true=>
    rw [b] at a;have a:(c.age==d.age)=R:=a;exact zqtb2
def JF{c d:Con}:JG c d=true↔c=d:=dW
def N5(a b:Sta):Bool:=JG a.c b.c&&((a.now==b.now)&&((a.nxt==b.nxt)&&(decide (a.run=b.run)&&(decide (a.pend=b.pend)&&decide (a.hist=b.hist)))))
def CM(a b:Sta)(hl:a.run.length<=1048576)(r:Bool)(d:N5 a b=r):aq 21 [a.av,b.av] [] (.ret (.bool r)) []:=by
 have h1:=zL a.c b.c _ rfl;have o:=PH a.pend b.pend;have h3:=XH a.run b.run hl;have n:=PJ a.hist b.hist;unfold N5 at d;generalize JG a.c b.c=q1 at *
 generalize decide (a.pend=b.pend)=q2 at *
 generalize decide (a.run=b.run)=q3 at *
 generalize decide (a.hist=b.hist)=q4 at *
 have m:(true&&true)=true:=rfl;have e:(true&&false)=false:=rfl;cases q1 with
 | false=>
  have d:false=r:=d;subst d;have k:=m;have l:=e;have j:=e;exact zqtb0
 | true=>
  have d:((a.now==b.now)&&((a.nxt==b.nxt)&&(q3&&(q2&&q4))))=r:=d;cases h:(a.now==b.now) with
  | false=>
   rw [h] at d;have d:false=r:=d;subst d;have k:(a.now !=b.now)=true:=by unfold bne;rw [h];rfl
   have l:=e;have j:=e;exact zqtb0
  | true=>
   rw [h] at d;have l:(a.now !=b.now)=false:=by unfold bne;rw [h];rfl
   cases i:(a.nxt==b.nxt) with
   | false=>
    rw [i] at d;have d:false=r:=d;subst d;have k:(a.nxt !=b.nxt)=true:=by unfold bne;rw [i];rfl
    have j:=e;exact zqtb0
   | true=>
    rw [i] at d;have j:(a.nxt !=b.nxt)=false:=by unfold bne;rw [i];rfl
    have k:=m;cases q3 with
    | false=>
     have d:false=r:=d;subst d;exact zqtb0
    | true=>
     cases q2 with
     | false=>
      have d:false=r:=d;subst d;exact zqtb0
     | true=>
      have d:q4=r:=d;subst d;exact zqtb0
def GZ{a b:Sta}:N5 a b=true↔a=b:=by
 obtain ⟨i,k,j,p,t,l⟩:=a;obtain ⟨m,s,o,n,q,r⟩:=b;unfold N5;simp only [Af,JF,beq_iff_eq,decide_eq_true_eq,Sta.mk.injEq];constructor
 .rintro ⟨h,c,f,d,e,g⟩;exact ⟨h,c,f,e,d,g⟩
 .rintro ⟨h,c,f,e,d,g⟩;exact ⟨h,c,f,d,e,g⟩
def gB:V3:=⟨4,4,4⟩
abbrev drN(g:aw)(n:Int)(x:aw)(m:Int)(S:Sta):au:=[aO g,.cells tDr [.ref 2 0,.ref 4 0],dkC n (sfV false 3 x) aV false,jnO 2 m,.cells tSt (.ref 3 0::S.cs)]
def iV(g:aw)(n:Int)(S:Sta)(m:Int)(a:aq 59 [.ref 0 0] (.cells tDr [.ref 1 0,pv true]::dkC (min (max n 0) 1048576) (sfV false 2 []) aV false::sfT false++[aO g]) (.ret (ii 0)) (drS false false g (min (max n 0) 1048576) [] m S)):
  aq 18 [ii n] [aO g] (.ret (.ref 1 0)) (drN g (min (max n 0) 1048576) [] m S):=by
 have h1:=gZ n;generalize min (max n 0) 1048576=N at *
 refine cT (E:=E) (fn:=Tryz.f18) (g:=.full 1 _ _) λ_=>?_
 repeat' first | (refine gN hE ?_;conv=>whnf) | refine .pure _ _ h1 ?_ | refine .eff [] [2,1,0] _ _ rfl a ?_ | exact rfl | refine zt ?_ | refine zu ?_ ?_ | intro h | fail
 exact zx [0,2,1,3,4]
def eJ(f f':Bool)(a:f'=true->f=true)(g:aw)(n:Int)(x:aw)(m:Int)(S R:Sta)
  (h1:aq 30 [.ref 0 0] (stS S m f' n x) (.ret R.av) (stS S m f' n x)):
  aq 22 [.ref 0 0] (drS f f' g n x m S) (.ret R.av) (drS f f' g n x m S):=by
 cases f<;>cases f'
 case false.true=>exact absurd (a rfl) d_
 all_goals
  refine cT (E:=E) (fn:=Tryz.f22) (g:=.full _ _ _) λ_=>?_
  repeat' first | (refine gN hE ?_;conv=>whnf) | refine .eff [] [4,3,1] _ _ rfl h1 ?_ | refine .eff [] [5,4,1] _ _ rfl h1 ?_ | refine .eff [] [5,4,1,2] _ _ rfl h1 ?_ | exact zx [0,1,2,3,4] | exact zx [0,1,2,3,4,5] | exact rfl | refine zt ?_ | refine zu ?_ ?_ | intro h | fail
def mH(f:Bool)(g:aw)(n:Int)(x:aw)(m:Int)(S:Sta)(hs:(x.length:Int)<=9223372036854775807):
  aq 37 [.ref 0 0] (drS f f g n x m S) (.ret (.str x)) (drS f f g n x m S):=by
 have h1:=kF f n x hs;cases f
 all_goals
  refine cT (E:=E) (fn:=Tryz.f37) (g:=.full _ _ _) λ_=>?_
  repeat' first | (refine gN hE ?_;conv=>whnf) | refine .eff [] [1] _ _ rfl h1 ?_ | refine .eff [] [1,2] _ _ rfl h1 ?_ | exact zx [0,1,2,3,4] | exact zx [0,1,2,3,4,5] | exact rfl | refine zt ?_ | refine zu ?_ ?_ | intro h | fail
def aZ:bf->Kst->Kst
 | [],t=>t
 | p::l,t=>aZ l (aG t p).1
def cC:bf->Kst->List (bb×Int)
 | [],_=>[]
 | p::l,t=>(aG t p).2::cC l (aG t p).1
def qX:Con:=⟨[⟨-1,1,V3.zero,V3.zero,V3.zero⟩,⟨0,1,gB,gB,gB⟩,⟨0,1,gB,gB,gB⟩],[⟨0,0,0,gB⟩,⟨0,0,1,gB⟩],10,0⟩
def mX(id t run:Int):Cmd:=⟨2,E3,⟨id,t,2,⟨2,2,2⟩,run,3,0⟩,0⟩
def uY:Cmd:=⟨6,E3,Gan.zero,0⟩
def gC:bj:=[⟨1,qX,Gan.zero,0⟩,mX 1 1 50,mX 2 1 50,uY]
def eV:bj:=[mX 3 2 9,uY]
def qW:bf:=gC.map (λ c=>⟨1,c,0⟩)++[⟨3,Cmd.zero,0⟩]++eV.map (λ c=>⟨1,c,0⟩)
def evS:bj->Sta->List (bb×Int)
 | [],_=>[]
 | c::l,s=>(aC s c).2::evS l (aC s c).1
def oT:bj->Sta->Sta
 | [],s=>s
 | c::l,s=>oT l (aC s c).1
def oU:∀ (l:bj) (t:Kst) (m:Int),(∀ c∈l,c.il.length<=60/\∀ n∈c.il,n<=9223372036854775807)->(∀ a∈evS l t.s,a.2=0)->gT t (m+609*l.length)->0<=m->
  ∃ d i,aZ (l.map λ c=>⟨1,c,0⟩) t=⟨d,i,oT l t.s⟩/\cC (l.map λ c=>⟨1,c,0⟩) t=evS l t.s/\gT ⟨d,i,oT l t.s⟩ m
 | [],t,m,_,_,hr,_=>⟨t.d,t.n,rfl,rfl,by unfold gT at *;simp at hr;exact hr⟩
 | c::l,t,m,h,he,hr,hm=>by
  obtain ⟨h1,j⟩:=h c (Ao ..);have b:(aC t.s c).2.2=0:=he _ (Ao ..);have u:aC t.s c=((aC t.s c).1,(aC t.s c).2.1,0):=by rw [<-b]
  obtain ⟨d,i,e,_,r⟩:=fL (t:=t) (c:=c) 0 60 (m+609*l.length) u h1 j d_ (by unfold gT at *;simp only [Ak] at hr;omega) o_;obtain ⟨f,q,v,p,k⟩:=oU l ⟨d,i,(aC t.s c).1⟩ m (λ x g=>h x (Av _ g)) (λ a o=>he a (Av _ o)) r hm;refine ⟨f,q,?_,?_,k⟩
  .show aZ (l.map λ c=>⟨1,c,0⟩) (aG t ⟨1,c,0⟩).1=_;rw [e];exact v
  .show (aG t ⟨1,c,0⟩).2::cC (l.map λ c=>⟨1,c,0⟩) (aG t ⟨1,c,0⟩).1=(aC t.s c).2::evS l (aC t.s c).1;rw [e];dsimp only;rw [p,<-b]
def dO:∀ (l m:bf) (t:Kst),aZ (l++m) t=aZ m (aZ l t)
 | [],_,_=>rfl
 | p::l,m,t=>dO l m _
def jA:∀ (l m:bf) (t:Kst),cC (l++m) t=cC l t++cC m (aZ l t)
 | [],_,_=>rfl
 | p::l,m,t=>by show _::cC (l++m) _=_;rw [jA l m];rfl
def tS1:Sta:=oT gC cA
def tS2:Sta:=oT eV tS1
def w28:cC qW (bC 5000)=evS gC cA++[([],0)]++evS eV tS1/\(aZ qW (bC 5000)).s=tS2:=by
 obtain ⟨d,i,e,g,r⟩:=oU gC (bC 5000) 1300 (by decide+kernel) (by decide+kernel) (by show ((0:Nat):Int)+_<=_;decide) d_;have hs:oT gC (bC 5000).s=tS1:=rfl;have b:evS gC (bC 5000).s=evS gC cA:=rfl;rw [hs] at e r;rw [b] at g;have hz:∀ a∈evS eV tS1,a.2=0:=by decide+kernel
 have hz2:tS2=oT eV tS1:=rfl;have k:∀ c∈eV,c.il.length<=60/\∀ n∈c.il,n<=9223372036854775807:=by decide+kernel
 have hl:eV.length=2:=rfl;clear hs b;unfold qW;rw [hz2];generalize tS1=S at *
 obtain ⟨o,p,m,l,_⟩:=oU eV ⟨d,i,S⟩ 0 k hz (by unfold gT at *;rw [hl];dsimp only at *;omega) d_;have h:∀ t,aG t ⟨3,Cmd.zero,0⟩=(t,[],0):=λ_=>rfl;have j:cC [⟨3,Cmd.zero,0⟩] ⟨d,i,S⟩=[([],0)]:=by simp only [cC,h]
 have f:aZ [⟨3,Cmd.zero,0⟩] ⟨d,i,S⟩=⟨d,i,S⟩:=by simp only [aZ,h]
 constructor
 .rw [jA,jA,dO,g,e,j,f,l]
 .rw [dO,dO,e,f,m]
def aDf:∃ a b c d e f:bb×Int,∃ x y:Ev,evS gC cA++[([],0)]++evS eV tS1=[a,b,c,([x,y],d.2),e,f,([⟨2,2,0⟩,⟨1,3,0⟩],0)]:=by refine ⟨([],0),([],0),([],0),([],0),([],0),([],0),⟨1,1,0⟩,⟨1,2,0⟩,?_⟩;decide+kernel
def aDe:tS2.run.length=2/\tS2.pend.length=1/\(tS2.run[1]?).map (λ r=>r.g.id)=some 3:=by decide+kernel
def cO(n:Int)(g:aw):aq 18 [ii n] [aO g] (.ret (.ref 1 0)) (drN g (bC n).d.size [] 0 cA):=iV g n cA 0 ((kb0 n).dop true false g)
def KB.stt{t:Kst}{k:Nat}(h:KB t k)(f:Bool)(g:aw):aq 22 [.ref 0 0] (drS f f g t.d.size t.d.safe t.n t.s) (.ret t.s.av) (drS f f g t.d.size t.d.safe t.n t.s):=by have a:=h.sap Cmd.zero (λ e=>by cases e);have h1:=kJ t.s _ a t.n f t.d.size t.d.safe;rw [(nJ t.s).1] at h1;exact eJ f f id g _ _ _ _ _ h1
def KB.dsk{t:Kst}{k:Nat}(h:KB t k)(f:Bool)(g:aw):aq 37 [.ref 0 0] (drS f f g t.d.size t.d.safe t.n t.s) (.ret (.str t.d.safe)) (drS f f g t.d.size t.d.safe t.n t.s):=mH f g _ _ _ _ (by have:=h.lens;omega)
open Go.ChangeShapes Go.WideShapes Go.ChangeAt Go.RowKit
abbrev stv(l:bf):ay:=l.map Kstp.av
def AH{n:Nat}{cs:ay}(h:TyN Tryz.prog 1048576 (n+7) 60 cs):∃ p:Kstp,cs=p.cs/\CmSm p.x:=by unfold TyN at h;rw [Tryz.underlying60] at h;obtain ⟨e,r,rfl,a,f,r,rfl,h1,d,r,rfl,b,rfl⟩:=h;obtain ⟨k,rfl⟩:=fM a;obtain ⟨x,rfl,c⟩:=D0 (n:=n) h1;obtain ⟨m,rfl⟩:=fM b;exact ⟨⟨k,x,m⟩,rfl,c⟩
section
variable {H:Type} {enc:TypeId×Value->H} {W:World} {r:Reach} {base b0:Nat} {spare:Nat->Bool} {held:Bool} {v:Value} {d:DataW H} {ps:List MemPlace}
def mA(f:Bt Tryz.prog W r b0 53 v)(h:DataW.Trod enc Tryz.prog W base spare held 53 v d ps)(e:Rows.uptoBulk d<=1048576):∃ l:bf,Rep (Mw W) [] v (.slice 17 (stv l) .no)/\l.length<=1048576/\∀ x∈l,CmSm x.x:=by
 obtain ⟨xs,b,i,a⟩:=eO (n:=7) (EF H 1048576) Tryz.underlying53 (by kernel_rfl) f h e;have c:Tryz.prog.cellsOf 60=17:=by kernel_rfl
 obtain ⟨l,rfl,hl⟩:=B8 (av:=Kstp.av) (Q:=λ p=>CmSm p.x) (P:=λ x=>x∈xs) (λ x hm=>by
  obtain ⟨cs,rfl⟩:=(a x hm).2.1 (by kernel_rfl);obtain ⟨p,hp,g⟩:=AH (n:=0) (a _ hm).1
  exact ⟨p,by unfold Kstp.av;rw [<-hp];rfl,g⟩) xs λ x hm=>hm
 rw [c] at b;exact ⟨l,b,by simpa using i,hl⟩
end
noncomputable abbrev fPl:Func:=Tryz.f35
abbrev JQ(a:bb×Int):aa:=sJ a.1 a.2
abbrev anv(l:List (bb×Int)):ay:=l.map JQ
abbrev sN:ab:=uT
abbrev plO(f:Bool)(g:aw)(t:Kst):au:=match f with
 | true=>[aO g,sN,.cells tDr [.ref 3 0,.ref 6 0],dkC t.d.size (sfV true 4 t.d.safe) aV false,.tail 0 1 5,jnO 3 t.n,.cells tSt (.ref 5 0::t.s.cs),.tail 0 2 63]
 | false=>[aO g,sN,.cells tDr [.ref 3 0,.ref 5 0],dkC t.d.size (sfV false 4 t.d.safe) aV false,jnO 3 t.n,.cells tSt (.ref 4 0::t.s.cs),.tail 0 2 63]
abbrev plN(f:Bool):Nat:=match f with | true=>7 | false=>6
def kZ(L:bf)(z:L.length<=57)(o:∀ p∈L,p.x.c.sm)(g:aw)(R:Kst)(A:List (bb×Int)):∀ (m i:Nat) (t:Kst) (bs:List (bb×Int)) (f:Bool),i+m=L.length->bs.length=i->KB t i->aZ (L.drop i) t=R->bs++cC (L.drop i) t=A->
  To (Eo [7] []) fPl (.full 1 (.ret (.tup [.slice 2 (anv A) .no,R.s.av])) [aO g]) (.head (stk fPl 0) [(5,.ref 1 0),(6,.ref 2 0),(7,.slice 2 (anv bs) (.own (plN f) 0)),(12,.slice 17 (stv L) .no),(13,.int .i64 ((stv L).length:Nat)),(14,ii i)] (plO f g t)):=by
 have u:(stv L).length=L.length:=by simp
 intro m;induction m with
 | zero=>
  intro i t bs f w y j b a;rw [Ab o_] at b a;have b:t=R:=b;have a:bs++[]=A:=a;rw [Ar] at a;subst b a;have hs:=j.stt f g;clear j;cases f
  .refine gV ?_;refine aF λ h=>?_
   repeat' first | (refine gN (hEo [7] []) ?_;conv=>whnf) | refine .eff [] [2,3,0,4,5] _ _ rfl hs ?_ | exact zx [0] | exact rfl | refine zt ?_ | refine zu ?_ ?_ | intro h | fail
  .refine gV ?_;refine aF λ h=>?_
   repeat' first | (refine gN (hEo [7] []) ?_;conv=>whnf) | refine .eff [] [2,3,4,0,5,6] _ _ rfl hs ?_ | exact zx [0] | exact rfl | refine zt ?_ | refine zu ?_ ?_ | intro h | fail
 | succ m q=>
  intro i t bs f w y j b a;have d:i<L.length:=o_;rw [Aa d] at b a;have get:(stv L)[i]? =some L[i].av:=by simp [d]
  have hp:=o L[i] (Ax d);generalize L[i]=p at b a get hp;have hd:=j.dr o_ f g p (λ_=>hp);have k:=j.step o_ p (λ_=>hp);have next:=q (i+1) (aG t p).1 (bs++[(aG t p).2])
  have v:anv (bs++[(aG t p).2])=anv bs++[sJ (aG t p).2.1 (aG t p).2.2]:=by simp
  rw [v] at next
  have l:(anv bs).length<=1048576:=by simp;omega
  replace next:=λ f=>next f o_ q_ k b (by rw [Ag];exact a)
  generalize aG t p=r at *
  obtain ⟨B,ev,e⟩:=r;dsimp only at *
  clear q b a v j k o hp;cases f
  all_goals
   cases hd
  all_goals
   rename_i n;refine gV ?_;refine aT λ h=>?_
   repeat' first | (refine gN (hEo [7] []) ?_;conv=>whnf) | refine ⟨i,rfl,?_⟩ | refine ⟨_,get,?_⟩ | refine .eff [] [2,3,0,4,5] _ _ rfl n ?_ | refine .eff [] [2,3,4,0,5,6] _ _ rfl n ?_ | refine Ae (lH l d_) ?_ | exact rfl | refine zt ?_ | refine zu ?_ ?_ | intro h | fail
   first
    | exact To.part [5,6,7,12,13,14] [0,1,2,3,4,5,6] rfl rfl rfl (next false)
    | exact To.part [5,6,7,12,13,14] [0,1,2,3,8,4,5,6] rfl rfl rfl (next true)
    | exact To.part [5,6,7,12,13,14] [0,1,2,3,8,9,6] rfl rfl rfl (next false)
    | exact To.part [5,6,7,12,13,14] [0,1,2,3,8,9,10,6] rfl rfl rfl (next true)
    | exact To.part [5,6,7,12,13,14] [0,1,2,3,9,10,6] rfl rfl rfl (next false)
    | exact To.part [5,6,7,12,13,14] [0,1,2,3,4,5,6,7] rfl rfl rfl (next true)
    | exact To.part [5,6,7,12,13,14] [0,1,2,3,5,6,7] rfl rfl rfl (next false)
    | exact To.part [5,6,7,12,13,14] [0,1,2,3,4,9,10,7] rfl rfl rfl (next true)
    | exact To.part [5,6,7,12,13,14] [0,1,2,3,9,10,7] rfl rfl rfl (next false)
def jV(n:Int)(L:bf)(a:L.length<=57)(d:∀ p∈L,p.x.c.sm)(g:aw):
  aq 35 [ii n,.slice 17 (stv L) .no] [aO g] (.ret (.tup [.slice 2 (anv (cC L (bC n))) .no,(aZ L (bC n)).s.av])) [aO g]:=by
 have h:=kZ L a d g (aZ L (bC n)) (cC L (bC n)) L.length 0 (bC n) [] false o_ rfl (kb0 n) (by rw [Ap]) (by rw [Ap];rfl);have b:=cO n g;generalize aZ L (bC n)=R at *
 generalize cC L (bC n)=A at *
 refine cT (E:=(Eo [7] [])) (fn:=Tryz.f35) (g:=.full 1 _ _) λ_=>?_
 repeat' first | (refine gN (hEo [7] []) ?_;conv=>whnf) | refine .eff [] [0] _ _ rfl b ?_ | exact rfl | refine zt ?_ | refine zu ?_ ?_ | intro h | fail
 refine To.part [5,6,7,12,13,14] [0,1,2,3,4,5,6] rfl rfl rfl ?_;exact h
abbrev drO(f:Bool)(g:aw)(t:Kst):au:=match f with
 | true=>[aO g,.cells tDr [.ref 2 0,.ref 5 0],dkC t.d.size (sfV true 3 t.d.safe) aV false,.tail 0 1 5,jnO 2 t.n,.cells tSt (.ref 4 0::t.s.cs)]
 | false=>[aO g,.cells tDr [.ref 2 0,.ref 4 0],dkC t.d.size (sfV false 3 t.d.safe) aV false,jnO 2 t.n,.cells tSt (.ref 3 0::t.s.cs)]
def wgt(c:Con):Int:=1+((nav c.ns).length:Nat)+((hav c.hs).length:Nat)
def smR(M:Int):List Con->Int->Int
 | [],n=>n
 | c::l,n=>if n<M then smR M l (n+wgt c) else n
def uW{c:Con}(h:c.sm):1<=wgt c/\wgt c<=2097153:=by
 have l1:(nav c.ns).length=c.ns.length:=by simp
 have l2:(hav c.hs).length=c.hs.length:=by simp
 have:=h.ns;have:=h.hs;unfold wgt;omega
noncomputable abbrev fSm:Func:=Tryz.f19
def kB(l:bf)(n:Int):Int:=if n<500/\l.length<=40 then 1 else 0
def oB(L:bf)(i:Nat)(n:Int)(h:L.length<=i\/500<=n)(c:i<=1048576):To E fSm (.pure (.ret (ii (kB L n)))) (.head (stk fSm 0) [(0,.slice 17 (stv L) .no),(3,ii n),(4,ii i)] []):=by
 have a:(stv L).length=L.length:=by simp
 by_cases b:n<500
 .by_cases hl:L.length<=40
  .rw [show kB L n=1 from if_pos ⟨b,hl⟩];refine gV ?_
   repeat' first | (refine gN hE ?_;conv=>whnf) | exact rfl | refine zt ?_ | refine zu ?_ ?_ | intro h | fail
  .rw [show kB L n=0 from if_neg λ h=>hl h.2];refine gV ?_
   repeat' first | (refine gN hE ?_;conv=>whnf) | exact rfl | refine zt ?_ | refine zu ?_ ?_ | intro h | fail
 .rw [show kB L n=0 from if_neg λ h=>b h.1];by_cases c:L.length<=i
  .refine gV ?_
   repeat' first | (refine gN hE ?_;conv=>whnf) | exact rfl | refine zt ?_ | refine zu ?_ ?_ | intro h | fail
  .refine gV ?_
   repeat' first | (refine gN hE ?_;conv=>whnf) | exact rfl | refine zt ?_ | refine zu ?_ ?_ | intro h | fail
def sU(L:bf)(o:L.length<=1048576)(j:∀ p∈L,p.x.c.sm)(R:Int):∀ (m i:Nat) (n:Int),i+m=L.length->0<=n->n<=3000000->smR 500 ((L.drop i).map λ p=>p.x.c) n=R->
  To E fSm (.pure (.ret (ii (kB L R)))) (.head (stk fSm 0) [(0,.slice 17 (stv L) .no),(3,ii n),(4,ii i)] []):=by
 have f:(stv L).length=L.length:=by simp
 intro m;induction m with
 | zero=>
  intro i n k _ _ a;rw [Ab o_] at a;have a:n=R:=a;subst a;exact oB L i n (.inl o_) o_
 | succ m e=>
  intro i n k q h1 a;have b:i<L.length:=o_;rw [Aa b] at a;have get:(stv L)[i]? =some L[i].av:=by simp [b]
  have hp:=j L[i] (Ax b);generalize L[i]=p at a get hp;rw [Bj] at a;unfold smR at a;by_cases d:n<500
  .rw [if_pos d] at a;obtain ⟨g,l⟩:=uW hp;have next:=e (i+1) (n+wgt p.x.c) o_ o_ o_ a
   have l1:(nav p.x.c.ns).length=p.x.c.ns.length:=by simp
   have l2:(hav p.x.c.hs).length=p.x.c.hs.length:=by simp
   have r:=hp.ns;have s:=hp.hs;unfold wgt at next
   clear e a g l;refine gV ?_
   repeat' first | (refine gN hE ?_;conv=>whnf) | refine ⟨i,rfl,?_⟩ | refine ⟨_,get,?_⟩ | exact rfl | refine zt ?_ | refine zu ?_ ?_ | intro h | fail
   refine To.part [0,3,4] [] rfl rfl rfl ?_;exact next
  .rw [if_neg d] at a;subst a;exact oB L i n (.inr o_) o_
def kA(L:bf)(a:L.length<=1048576)(b:∀ p∈L,p.x.c.sm):∃ r:Int,(r=0\/r=1/\L.length<=40)/\aq 19 [.slice 17 (stv L) .no] [] (.ret (ii r)) []:=by
 refine ⟨kB L (smR 500 (L.map λ p=>p.x.c) 0),?_,?_⟩
 .unfold kB;split
  .rename_i h;exact .inr ⟨rfl,h.2⟩
  .exact .inl rfl
 .have next:=sU L a b _ L.length 0 0 o_ d_ d_ (by rw [Ap])
  generalize smR 500 (L.map λ p=>p.x.c) 0=R at *
  refine c_ Tryz.f19 λ_=>?_
  repeat' first | (refine gN hE ?_;conv=>whnf) | exact rfl | refine zt ?_ | refine zu ?_ ?_ | intro h | fail
  refine To.part [0,3,4] [] rfl rfl rfl ?_;exact next
def uX:aq 48 [] [] (.ret (.agg [.slice 11 (nav qX.ns) .full,.slice 6 (hav qX.hs) .full,ii 10,ii 0])) []:=by exact c_ Tryz.f48 λ_=>zW
def qV:aq 48 [] [] (.ret qX.av) []:=aA.less uX
def iL(c:Cmd):aq 47 [c.av] [] (.ret (Kstp.av ⟨1,c,0⟩)) []:=by exact c_ Tryz.f47 λ_=>zW
def vE(id t run:Int):aq 49 [ii id,ii t,ii run] [] (.ret (Kstp.av ⟨1,mX id t run,0⟩)) []:=by have h1:=iL (mX id t run);exact c_ Tryz.f49 λ_=>zW
def AF:∀ p∈qW,p.x.c.sm:=by intro p hp;refine ⟨?_,?_⟩<;>(revert p;decide)
def GJ:stv qW=[Kstp.av ⟨1,⟨1,qX,Gan.zero,0⟩,0⟩,Kstp.av ⟨1,mX 1 1 50,0⟩,Kstp.av ⟨1,mX 2 1 50,0⟩,Kstp.av ⟨1,uY,0⟩,Kstp.av ⟨3,Cmd.zero,0⟩,Kstp.av ⟨1,mX 3 2 9,0⟩,Kstp.av ⟨1,uY,0⟩]:=rfl
set_option maxHeartbeats 1000000 in
def jI(g:aw):aq 13 [] [aO g] (.ret (.bool true)) [aO g]:=by
 obtain ⟨a,b,c,d,e,f,x,y,l⟩:=aDf;obtain ⟨j,n⟩:=w28;rw [l] at j;obtain ⟨k,m,i⟩:=aDe;have hp:=jV 5000 qW d_ AF g;rw [j,n,GJ] at hp;clear l j n;generalize tS2=S at *
 obtain ⟨C,now,nxt,pend,run,hist⟩:=S;dsimp only at k m i
 match run,pend,k,m,i with
 | [r1,r2],[p],_,_,i=>
  obtain ⟨⟨o,D,w,n2,B,l2,z⟩,s,u,F,t,v⟩:=r2;obtain rfl:o=3:=Db i;have h1:=qV;have r:=iL uY;have q:=iL ⟨1,qX,Gan.zero,0⟩;have h3:=vE;refine cT (E:=E) (fn:=Tryz.f13) (g:=.full 1 _ _) λ_=>?_
  repeat' first | (refine gN hE ?_;conv=>whnf) | refine .pure _ [] h1 ?_ | refine .pure _ [] (aA.strip r) ?_ | refine .pure _ [] (aA.strip q) ?_ | refine .pure _ [] (h3 _ _ _) ?_ | refine .look [0] _ _ rfl rfl (aA.strip hp) (λ_=>rfl) (λ_=>rfl) ?_ | exact zx [0] | exact rfl | refine zt ?_ | refine zu ?_ ?_ | intro h | fail
def CL{t:Kst}{p:Kstp}(h:(aG t p).2.2≠0):(aG t p).1=t:=by
 have hd:(doS t p.x).2.2≠0->(doS t p.x).1=t:=by
  unfold doS;intro h;split
  .rfl
  .rename_i q;rw [if_neg q] at h;split
   .rfl
   .rename_i a;rw [if_neg a] at h;exact absurd rfl h
 unfold aG at *
 split
 .rename_i q;rw [if_pos q] at h;exact hd h
 rename_i c;rw [if_neg c] at h;split
 .rename_i q;rw [if_pos q] at h;exact GV h
 rename_i a;rw [if_neg a] at h;split
 .rename_i q;rw [if_pos q] at h;split
  .rfl
  .rename_i d;rw [if_neg d] at h;exact absurd rfl h
 rename_i b;rw [if_neg b] at h;split<;>rfl
noncomputable abbrev fTb:Func:=Tryz.f11
def X4(a:Cmd):aq 44 [a.av,a.av] [] (.ret (.bool true)) []:=by
 have b:=C8.same_self a;refine cT (E:=(Er [] [9,10])) (fn:=Tryz.f44) (g:=.pure _) λ_=>?_;unfold C8.same C8.sameC at b;refine dF (hEr [] [9,10]) 13 ?_;conv=>whnf
 refine To.frz [2,3] [0,1] ?_
 repeat' first | (refine gN (hEr [] [9,10]) ?_;conv=>whnf) | refine .pure _ [] (C8.eqN_ok a.c.ns a.c.ns) ?_ | refine .pure _ [] (C8.eqH_ok a.c.hs a.c.hs) ?_ | exact rfl | (refine zt ?_;try intro h) | refine zu (λ h=>?_) λ h=>?_ | fail
 all_goals (rw [<-b];clear b;simp_all [Gan.eqb])
def VL(t:Kst)(p:Kstp):(aG t p).1.d.size=t.d.size:=by
 have hd:(doS t p.x).1.d.size=t.d.size:=by
  unfold doS;split
  .rfl
  split<;>rfl
 unfold aG kT;split
 .exact hd
 split
 .dsimp only;split<;>rfl
 split
 .split
  .rfl
  .dsimp only;split
   .exact hd
   .rfl
 split<;>rfl
def aBy{t:Kst}{k:Nat}(h:KB t k)(hz:t.d.size=1048576)(p:Kstp):(p.k=2->(aG t p).2.2=0/\(aG t p).1.n=1)/\(p.k=1->(aG t p).2.2=0->(aG t p).1.n=t.n+1):=by
 constructor
 .intro e;have hs:gD t=0:=by
   have:=h.okT.len;rcases h.snap_any with ⟨q,_⟩ | ⟨_,q⟩
   .exact q
   .simp only [Ak] at q;omega
  unfold aG;rw [if_neg o_,if_pos e];exact ⟨hs,by dsimp only;rw [vL hs]⟩
 .intro e;unfold aG;rw [if_pos e];unfold doS;intro h;split
  .rename_i q;rw [if_pos q] at h;exact absurd h q
  .rename_i q;rw [if_neg q] at h;split
   .rename_i a;rw [if_pos a] at h;exact absurd h a
   .rfl
def KB.scn{t:Kst}{k:Nat}(h:KB t k):∃ V:ay,V.length=t.n/\aq 39 [.str t.d.safe] [] (.ret (.tup [.slice 1 V .no,ii (t.d.safe.length:Nat)])) []:=by have a:=h.lens;obtain ⟨l,h1,c⟩:=h.ex;have h3:=FG (l.map Rec.b) [] G7 (A2 h1.ok) (by rw [Ar,<-h1.safe];omega);rw [Ar,<-rZ,<-h1.safe] at h3;exact ⟨_,by simp [h1.n],h3⟩
abbrev tbO(f:Bool)(g:aw)(t:Kst)(ev:bb)(e:Int):au:=match f with
 | true=>[aO g,.cells tDr [.ref 2 0,.ref 5 0],dkC t.d.size (sfV true 3 t.d.safe) aV false,.tail 0 1 5,jnO 2 t.n,.cells tSt (.ref 4 0::t.s.cs),.cells 63 [ii e,.slice 3 (evv ev) .no]]
 | false=>[aO g,.cells tDr [.ref 2 0,.ref 4 0],dkC t.d.size (sfV false 3 t.d.safe) aV false,jnO 2 t.n,.cells tSt (.ref 3 0::t.s.cs),.cells 63 [ii e,.slice 3 (evv ev) .no]]
abbrev tbN(f:Bool):Nat:=match f with | true=>6 | false=>5
abbrev aQe(f:Bool):Nat:=match f with | true=>6 | false=>5
def aIe(L:bf)(i:Nat)(p:Kstp)(get:(stv L)[i]? =some p.av)(g:aw)(t:Kst)(k:Nat)(c:KB t k)(l:i<=1048576)(f:Bool)(next:To E fTb (.full 1 (.ret (.bool true)) [aO g]) (.head (stk fTb 0) [(0,.slice 17 (stv L) .no),(3,.ref 1 0),(4,ii ((i:Int)+1))] (drO f g t))):
  To E fTb (.full 1 (.ret (.bool true)) [aO g]) (.code (eM fTb 15) [(0,.slice 17 (stv L) .no),(3,.ref 1 0),(4,ii i),(11,ii 0),(12,.ref (tbN f) 0),(13,ii 0)] (match f with | true=>drO true g t++[.cells 31 t.s.cs] | false=>drO false g t++[.cells 31 t.s.cs])):=by
 have hs:=c.stt f g;have hm:=CM t.s t.s c.okT.small.1.1 true (GZ.2 rfl);have h1:aq 42 [p.x.av] [] (.ret (.tup [.str (C8.encB p.x),ii (C8.chk p.x)])) []:=C8.enc_ok p.x;have d:=X4 p.x;clear c;by_cases a:C8.chk p.x=0
 .obtain ⟨e,j⟩:=C8.dec_enc a;have h3:=C8.decode_ok (C8.encB p.x) (aGF p.x);rw [e,j] at h3;rw [a] at h1;clear e j a;generalize C8.encB p.x=B at h1 h3;cases f
  .repeat' first | (refine gN hE ?_;conv=>whnf) | refine .look [1,2,0,3,4] _ _ rfl rfl hs (λ_=>rfl) (λ_=>rfl) ?_ | refine .pure _ [] hm ?_ | refine ⟨i,rfl,?_⟩ | refine ⟨_,get,?_⟩ | refine .pure _ [] h1 ?_ | refine .pure _ [] h3 ?_ | refine .pure _ [] d ?_ | exact rfl | refine zt ?_ | refine zu ?_ ?_ | intro h | fail
   exact zqtb6
  .repeat' first | (refine gN hE ?_;conv=>whnf) | refine .look [1,2,3,0,4,5] _ _ rfl rfl hs (λ_=>rfl) (λ_=>rfl) ?_ | refine .pure _ [] hm ?_ | refine ⟨i,rfl,?_⟩ | refine ⟨_,get,?_⟩ | refine .pure _ [] h1 ?_ | refine .pure _ [] h3 ?_ | refine .pure _ [] d ?_ | exact rfl | refine zt ?_ | refine zu ?_ ?_ | intro h | fail
   refine To.part [0,3,4] [0,1,2,3,4,5] rfl rfl rfl ?_;exact next
 .have b:(C8.chk p.x==0)=false:=by simpa using a
  clear a;generalize C8.chk p.x=ck at b h1;generalize C8.encB p.x=B at h1;cases f
  .repeat' first | (refine gN hE ?_;conv=>whnf) | refine .look [1,2,0,3,4] _ _ rfl rfl hs (λ_=>rfl) (λ_=>rfl) ?_ | refine .pure _ [] hm ?_ | refine ⟨i,rfl,?_⟩ | refine ⟨_,get,?_⟩ | refine .pure _ [] h1 ?_ | refine zF b ?_ | exact rfl | refine zt ?_ | refine zu ?_ ?_ | intro h | fail
   exact zqtb6
  .repeat' first | (refine gN hE ?_;conv=>whnf) | refine .look [1,2,3,0,4,5] _ _ rfl rfl hs (λ_=>rfl) (λ_=>rfl) ?_ | refine .pure _ [] hm ?_ | refine ⟨i,rfl,?_⟩ | refine ⟨_,get,?_⟩ | refine .pure _ [] h1 ?_ | refine zF b ?_ | exact rfl | refine zt ?_ | refine zu ?_ ?_ | intro h | fail
   refine To.part [0,3,4] [0,1,2,3,4,5] rfl rfl rfl ?_;exact next
set_option maxHeartbeats 2000000 in
def aMu(L:bf)(i:Nat)(p:Kstp)(get:(stv L)[i]? =some p.av)(g:aw)(t:Kst)(k:Nat)(b:KB t k)(F:i<=1048576)(W:ay)(H:W.length<=1000000)(ev:bb)(e:Int)
  (w:p.k=2->e=0/\t.n=1) (r:p.k=1->e=0->t.n=W.length+1) (l:e≠0->t.n=W.length) (f:Bool) (next:To E fTb (.full 1 (.ret (.bool true)) [aO g]) (.head (stk fTb 0) [(0,.slice 17 (stv L) .no),(3,.ref 1 0),(4,ii ((i:Int)+1))] (drO f g t))):
  To E fTb (.full 1 (.ret (.bool true)) [aO g]) (.code (eM fTb 8) [(0,.slice 17 (stv L) .no),(3,.ref 1 0),(4,ii i),(5,.slice 1 W .no),(7,.ref (aQe f) 0)] (tbO f g t ev e)):=by
 have c:=aIe L i p get g t k b F f next
 have hd:=b.dsk f g;have hs:=b.stt f g;have G:=b.enc;have a:=ZS (cE t.s) (by have:=b.okT.len;omega);unfold ZT aK7 at a;rw [aLP b.okT] at a;replace a:aq 41 [.str (cE t.s)] [] (.ret (.tup [t.s.av,ii 0])) []:=a;obtain ⟨V,y,v⟩:=b.scn;rw [<-y] at w r l;have b0:(((t.d.safe.length:Nat):Int) !=((t.d.safe.length:Nat):Int))=false:=by simp
 clear b y;generalize cE t.s=B at *
 have key:(((p.k==2)=true/\(e !=0)=false/\(((V.length:Nat):Int) !=1)=false/\(p.k==1)=false/\(e==0)=true)\/((p.k==2)=false/\(p.k==1)=true/\(e==0)=true/\(e !=0)=false/\(((V.length:Nat):Int) !=((W.length:Nat):Int)+1)=false)
   \/((p.k==2)=false/\(p.k==1)=true/\(e==0)=false/\(e !=0)=true/\(((V.length:Nat):Int) !=((W.length:Nat):Int))=false)
   \/((p.k==2)=false/\(p.k==1)=false/\(e !=0)=false)\/((p.k==2)=false/\(p.k==1)=false/\(e !=0)=true/\(((V.length:Nat):Int) !=((W.length:Nat):Int))=false)):=by
  by_cases h:p.k=2
  .obtain ⟨C,D⟩:=w h;exact .inl ⟨by simp [h],by simp [C],by simp [D],by simp [h],by simp [C]⟩
  .by_cases j:p.k=1
   .by_cases x:e=0
    .have:=r j x;exact .inr (.inl ⟨by simp [h],by simp [j],by simp [x],by simp [x],by simp [this]⟩)
    .have:=l x;exact .inr (.inr (.inl ⟨by simp [h],by simp [j],by simp [x],by simp [x],by simp [this]⟩))
   .by_cases x:e=0
    .exact .inr (.inr (.inr (.inl ⟨by simp [h],by simp [j],by simp [x]⟩)))
    .have:=l x;exact .inr (.inr (.inr (.inr ⟨by simp [h],by simp [j],by simp [x],by simp [this]⟩)))
 clear w r l;rcases key with ⟨m,q,o,u,z⟩ | ⟨m,q,o,u,z⟩ | ⟨m,q,o,u,z⟩ | ⟨m,q,o⟩ | ⟨m,q,o,u⟩<;>cases f
 all_goals
  repeat' first
   | exact To.partC [0,3,4,11,12,13] [0,1,2,3,4,6] rfl rfl rfl c
   | exact To.partC [0,3,4,11,12,13] [0,1,2,3,4,5,7] rfl rfl rfl c
   | (refine goN hE 1 rfl ?_;conv=>whnf)
   | refine .eff [] [1,2,0,3,4] _ _ rfl hd ?_
   | refine .eff [] [1,2,3,0,4,5] _ _ rfl hd ?_
   | refine .eff [] [1,2,0,3,4] _ _ rfl hs ?_
   | refine .eff [] [1,2,3,0,4,5] _ _ rfl hs ?_
   | refine .pure _ [] v ?_
   | refine .pure _ [] G ?_
   | refine .pure _ [] a ?_
   | refine Aq i (Ae rfl ?_)
   | refine Aq _ (Ae get ?_)
   | refine zE (by assumption) ?_
   | refine zF (by assumption) ?_
   | refine zt ?_
set_option maxHeartbeats 2000000 in
def aId(L:bf)(D:L.length<=57)(v:∀ p∈L,p.x.c.sm)(g:aw):∀ (m i:Nat) (t:Kst) (f:Bool),i+m=L.length->KB t i->t.d.size=1048576->
  To E fTb (.full 1 (.ret (.bool true)) [aO g]) (.head (stk fTb 0) [(0,.slice 17 (stv L) .no),(3,.ref 1 0),(4,ii i)] (drO f g t)):=by
 have z:(stv L).length=L.length:=by simp
 have C:=jI g;intro m;induction m with
 | zero=>
  intro i t f B j _;clear j;cases f
  all_goals
   refine gV ?_;refine aF λ h=>?_
   repeat' first | (refine gN hE ?_;conv=>whnf) | refine .eff [] [0] _ _ rfl C ?_ | exact zx [0] | exact rfl | refine zt ?_ | refine zu ?_ ?_ | intro h | fail
 | succ m y=>
  intro i t f B j hz;have l:i<L.length:=o_;have get:(stv L)[i]? =some L[i].av:=by simp [l]
  have hp:=v L[i] (Ax l);generalize L[i]=p at get hp;have n:=j.dsk f g;obtain ⟨W,q,s⟩:=j.scn;have o:W.length<=1000000:=by have:=j.lens;omega
  have hd:=j.dr o_ f g p (λ_=>hp);have k:=j.step o_ p (λ_=>hp);obtain ⟨A,w⟩:=aBy j hz p;have hz2:=VL t p;rw [hz] at hz2;have rest:=λ f'=>aMu L i p get g (aG t p).1 (i+1) k o_ W o (aG t p).2.1 (aG t p).2.2 A (λ a b=>by rw [w a b,q]) (λ a=>by rw [CL a,q]) f' (y (i+1) (aG t p).1 f' o_ k hz2);generalize aG t p=r at *
  obtain ⟨F,ev,e⟩:=r;dsimp only at *
  clear y j k v hp A w hz hz2 q;cases f
  all_goals
   cases hd
  all_goals
   rename_i u;refine gV ?_;refine aT λ h=>?_
   repeat' first
    | exact To.partC [0,3,4,5,7] [0,1,2,3,4,5] rfl rfl rfl (rest false)
    | exact To.partC [0,3,4,5,7] [0,1,2,5,3,4,6] rfl rfl rfl (rest true)
    | exact To.partC [0,3,4,5,7] [0,1,2,5,6,7] rfl rfl rfl (rest false)
    | exact To.partC [0,3,4,5,7] [0,1,2,5,6,7,8] rfl rfl rfl (rest true)
    | exact To.partC [0,3,4,5,7] [0,1,2,6,7,8] rfl rfl rfl (rest false)
    | exact To.partC [0,3,4,5,7] [0,1,2,3,4,5,6] rfl rfl rfl (rest true)
    | exact To.partC [0,3,4,5,7] [0,1,2,4,5,6] rfl rfl rfl (rest false)
    | exact To.partC [0,3,4,5,7] [0,1,2,3,6,7,8] rfl rfl rfl (rest true)
    | (refine goN hE 1 rfl ?_;conv=>whnf)
    | refine .eff [] [1,2,0,3,4] _ _ rfl n ?_
    | refine .eff [] [1,2,3,0,4,5] _ _ rfl n ?_
    | refine .pure _ [] s ?_
    | refine Aq i (Ae rfl ?_)
    | refine Aq _ (Ae get ?_)
    | refine .eff [] [1,2,0,3,4] _ _ rfl u ?_
    | refine .eff [] [1,2,3,0,4,5] _ _ rfl u ?_
def aDG(L:bf)(d:L.length<=1048576)(a:∀ p∈L,p.x.c.sm)(g:aw):aq 11 [.slice 17 (stv L) .no] [aO g] (.ret (.bool true)) [aO g]:=by
 obtain ⟨r,e,hs⟩:=kA L d a;have i:=jI g;have b:=cO 1048576 g;rcases e with rfl | ⟨rfl,hl⟩
 .refine cT (E:=E) (fn:=Tryz.f11) (g:=.full 1 _ _) λ_=>?_
  repeat' first | (refine gN hE ?_;conv=>whnf) | refine .eff [] [0] _ _ rfl b ?_ | refine .pure _ [] hs ?_ | refine .eff [] [0] _ _ rfl i ?_ | exact zx [0] | exact rfl | refine zt ?_ | refine zu ?_ ?_ | intro h | fail
 .have next:=aId L o_ a g L.length 0 (bC 1048576) false o_ (kb0 1048576) rfl
  refine cT (E:=E) (fn:=Tryz.f11) (g:=.full 1 _ _) λ_=>?_
  repeat' first | (refine gN hE ?_;conv=>whnf) | refine .eff [] [0] _ _ rfl b ?_ | refine .pure _ [] hs ?_ | exact rfl | refine zt ?_ | refine zu ?_ ?_ | intro h | fail
  exact zqtb6
end Go.Proofs.YtidhfoefaomodaaGreatDoor
