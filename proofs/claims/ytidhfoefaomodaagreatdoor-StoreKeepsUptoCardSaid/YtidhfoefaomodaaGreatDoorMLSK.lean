/- Part 14 of what the statement rests on. -/
import Derived.Test.YtidhfoefaomodaaGreatDoorMTA
set_option linter.all false
set_option maxRecDepth 10000
set_option maxHeartbeats 1000000
open And renaming intro->Ae
open Bool renaming and_false->Bl,and_true->Em,false_and->De,true_and->Bw
open Exists renaming intro->Aq
open Go.Value renaming okWide->Bt
open Int renaming toNat_natCast->Br
open List renaming drop_eq_getElem_cons->Aa,drop_eq_nil_of_le->Ab,drop_zero->Ap,getElem?_eq_getElem->Ac,getElem_mem->Ax,length_append->Ai,length_cons->Ak,length_nil->Bz,map_cons->Bj
open List.cons renaming inj->Bg
open Prod.mk renaming injEq->Ha
namespace Go.AW
open Go.RowKit Go.ChangeShapes Go.WideShapes Go.ChangeAt
section
variable {P:Program} {w:World} {r:Reach} {base:Nat} {t:TypeId} {v:Value}
def zqsk0{P:Prop}(h:P:=by exact c_ Tryz.f142 λ_=>zW):P:=h
def zqsk1{P:Prop}(h:P:=by exact c_ Tryz.f29 λ_=>zW):P:=h
def zqsk2{P:Prop}(h:P:=by
 refine To.part [0,1,5,6,8] [0,1,2,3] rfl rfl rfl ?_
 exact next):P:=h
def zqsk3{P:Prop}(h:P:=by
 intro i l c;rw [Ab o_,Ab o_] at c;have c:true=r:=c;subst c;refine gV ?_
 exact zW):P:=h
def zqsk4{P:Prop}(h:P:=by
 have d:false=r:=d;subst d
 exact zqsk1):P:=h
def sY{k:IntKind}(a:P.underlying t=some (.int k))(h:Cell.okWide P w r base t v):∃ n,v= .int k n/\inR k n:=by unfold Cell.okWide at h;rw [a] at h;unfold Cell.ok at h;rw [a] at h;cases v<;>simp at h;obtain ⟨rfl,b⟩:=h;exact ⟨_,rfl,xG b⟩
def eB(a:aK P t=false)(h:Bt P w r base t v):Cell.okWide P w r base t v:=by
 unfold Bt at h;unfold aK at a;split at h
 .grind
 .grind
 .exact h
end
def YO{args:Array Value}(h:args.toList.length=2):∃ a b,args= #[a,b]:=by
 obtain ⟨l⟩:=args
 match l,h with
 | [a,b],_=>simp
section
variable {H:Type} {enc:TypeId×Value->H} {P:Program} {w:World} {base:Nat} {spare:Nat->Bool} {held:Bool}
def fR{r:Reach}{b0:Nat}{t e:TypeId}{v:Value}(b:P.underlying t=some (.slice e))(h:Cell.okWide P w r b0 t v):∃ a n c,v= .slice a n c:=by unfold Cell.okWide at h;rw [b] at h;unfold Cell.ok at h;rw [b] at h;cases v<;>simp at h;simp
end
section
variable {H:Type} {N:Nat} {G:DataW H->Prop} {enc:TypeId×Value->H} {P:Program} {w:World} {base:Nat} {spare:Nat->Bool} {held:Bool}
def eO(o:Bulk H N G){r:Reach}{b0:Nat}{n:Nat}{t e:TypeId}{v:Value}{d:DataW H}{ps:List MemPlace}(f:P.underlying t=some (.slice e))(i:lD P (n+1) t=true)(p:Bt P w r b0 t v)(h:DataW.Trod enc P w base spare held t v d ps)(k:G d):
  ∃ xs,Rep (Mw w) [] v (.slice (P.cellsOf e) xs .no)/\xs.length<=N/\∀ x∈xs,TyN P N n e x.cells/\(aK P e=true->∃ l,x= .agg l)/\(aK P e=false->x.cells=[x]):=by
 obtain ⟨a,m,c,rfl⟩:=fR f (eB (by unfold aK;rw [f]) p);obtain ⟨b,h⟩:=h;obtain ⟨as0,h1,g⟩:=iS o (n+1) t i b _ _ h k;unfold TyN at g;rw [f] at g;obtain ⟨xs,rfl,hl,j⟩:=g;exact ⟨xs,(h1.2 0 _ _ rfl rfl).rep,hl,j⟩
end
open Go.RowKit
def To.partC{E:Env}{fn:Func}{g:Goal}{st:bh}{fr:ar}{ac:au}(l ks:az)(b:E.df=[])(d:jQ ks ac=true)(c:fY g.n0 0 ks=true)
  (h:To E fn g (.code st (E2 g.n0 ks (aB ac) (lC l fr)) (gQ g.n0 ks ac))) (a:g.strict=true:=by rfl):To E fn g (.code st fr ac):=To.toC (To.part l ks b d c (To.ofC h) a)
end Go.AW
namespace Go.Proofs.YtidhfoefaomodaaGreatDoor.C8
open Go Go.AW Go.Proofs
set_option maxRecDepth 10000
noncomputable abbrev nV:Func:=Tryz.f75
def kX(a b:Con)(p:a.hs.length=b.hs.length)(hl:((hav a.hs).length:Int)<=9223372036854775807)(r:Bool):∀ (n i:Nat),i+n=a.hs.length->eqL Hos.eqb (a.hs.drop i) (b.hs.drop i)=r->
  To E nV (.pure (.ret (.bool r))) (.head (stk nV 1) [(2,.ref 0 0),(3,.ref 1 0),(6,.int .i64 i)] [.cells 26 a.cs,.cells 26 b.cs]):=by
 have e:(hav a.hs).length=a.hs.length:=by simp
 intro n;induction n with
 | zero=>
  intro i k c;rw [Ab o_,Ab o_] at c;subst c;refine gV ?_;exact zW
 | succ n m=>
  intro i k c;have h1:i<a.hs.length:=o_;have d:i<b.hs.length:=o_;rw [Aa h1,Aa d] at c;have c:(Hos.eqb a.hs[i] b.hs[i]&&eqL Hos.eqb (a.hs.drop (i+1)) (b.hs.drop (i+1)))=r:=c;generalize j:a.hs[i]=x at c;generalize l:b.hs[i]=y at c;have g:(hav a.hs)[i]? =some (Hos.av x):=by simp [j,h1]
  have o:(hav b.hs)[i]? =some (Hos.av y):=by simp [l,d]
  refine gV ?_;refine aT λ h=>?_
  repeat' first | (refine gN hE ?_;conv=>whnf) | refine ⟨_,g,?_⟩ | refine ⟨_,o,?_⟩ | exact rfl | refine aY ?_ | refine aN ?_ | refine aT λ h=>?_ | refine aF λ h=>?_ | refine ⟨λ h=>?_,λ h=>?_⟩ | refine aJ ?_ | refine ⟨_,rfl,?_⟩ | refine aD ?_ | fail
  .have h:Hos.eqb x y=false:=eD h;rw [h] at c;rw [<-c];rfl
  .have h:Hos.eqb x y=true:=eF h;rw [h,Bw] at c;have f:=m (i+1) o_ c;exact zW
def kW(a b:Con)(u:a.ns.length=b.ns.length)(e:a.hs.length=b.hs.length)(hl:((nav a.ns).length:Int)<=9223372036854775807)(d:((hav a.hs).length:Int)<=9223372036854775807)(r:Bool):∀ (n i:Nat),i+n=a.ns.length->(eqL Nod.eqb (a.ns.drop i) (b.ns.drop i)&&eqL Hos.eqb a.hs b.hs)=r->
  To E nV (.pure (.ret (.bool r))) (.head (stk nV 0) [(2,.ref 0 0),(3,.ref 1 0),(5,.int .i64 i)] [.cells 26 a.cs,.cells 26 b.cs]):=by
 have j:(nav a.ns).length=a.ns.length:=by simp
 intro n;induction n with
 | zero=>
  intro i o c;rw [Ab o_,Ab o_] at c;have c:eqL Hos.eqb a.hs b.hs=r:=c;refine gV ?_;have g:=kX a b e d r a.hs.length 0 o_ c;exact zW
 | succ n q=>
  intro i o c;have h1:i<a.ns.length:=o_;have f:i<b.ns.length:=o_;rw [Aa h1,Aa f] at c;have c:((Nod.eqb a.ns[i] b.ns[i]&&eqL Nod.eqb (a.ns.drop (i+1)) (b.ns.drop (i+1)))&&eqL Hos.eqb a.hs b.hs)=r:=c;generalize m:a.ns[i]=x at c;generalize p:b.ns[i]=y at c;have l:(nav a.ns)[i]? =some (Nod.av x):=by simp [m,h1]
  have s:(nav b.ns)[i]? =some (Nod.av y):=by simp [p,f]
  refine gV ?_;refine aT λ h=>?_
  repeat' first | (refine gN hE ?_;conv=>whnf) | refine ⟨_,l,?_⟩ | refine ⟨_,s,?_⟩ | exact rfl | refine aY ?_ | refine aN ?_ | refine aT λ h=>?_ | refine aF λ h=>?_ | refine ⟨λ h=>?_,λ h=>?_⟩ | refine aJ ?_ | refine ⟨_,rfl,?_⟩ | refine aD ?_ | fail
  .have h:Nod.eqb x y=false:=eD h;rw [h] at c;rw [<-c];rfl
  .have h:Nod.eqb x y=true:=eF h;rw [h,Bw] at c;have k:=q (i+1) o_ c;exact zW
def lJ(a b:Con)(M:Imm)(ob:Hs)(vs:ba)(h:cM M ob vs [a.av,b.av]):((nav a.ns).length:Int)<=9223372036854775807/\((hav a.hs).length:Int)<=9223372036854775807:=by
 have hl:0<vs.length:=by rw [h.1];simp
 have:=h.2 0 _ a.av (Ac hl) rfl;exact ⟨bE this 0 _ rfl,bE this 1 _ rfl⟩
def iF{a b:Nat}(h:((a:Int) !=(b:Int))=true):a≠b:=by intro e;rw [e] at h;simp at h
def iH{a b:Nat}(h:((a:Int) !=(b:Int))=false):a=b:=by simp at h;omega
def kY(a b:Con)(r:Bool)(d:sameC a b=r):aq 75 [a.av,b.av] [] (.ret (.bool r)) []:=by
 refine aA.get _ (lJ a b) λ⟨hl,i⟩=>?_;have k:(nav a.ns).length=a.ns.length:=by simp
 have n:(nav b.ns).length=b.ns.length:=by simp
 have m:(hav a.hs).length=a.hs.length:=by simp
 have l:(hav b.hs).length=b.hs.length:=by simp
 refine c_ Tryz.f75 λ_=>gV ?_;refine Ae (λ h1=>?_) (λ h1=>?_)
 .have h1:(((nav a.ns).length:Int) !=((nav b.ns).length:Int))=true:=h1;have e:sameC a b=false:=by unfold sameC;rw [eqL_len (by rw [<-k,<-n];exact iF h1)];rfl
  rw [e] at d;subst d;exact zW
 .have h1:(((nav a.ns).length:Int) !=((nav b.ns).length:Int))=false:=h1;refine gV ?_;refine Ae (λ h=>?_) (λ h=>?_)
  .have h:(((hav a.hs).length:Int) !=((hav b.hs).length:Int))=true:=h;have e:sameC a b=false:=by unfold sameC;rw [eqL_len (f:=Hos.eqb) (by rw [<-m,<-l];exact iF h),De,Bl]
   rw [e] at d;subst d;exact zW
  .have h:(((hav a.hs).length:Int) !=((hav b.hs).length:Int))=false:=h;have o:=iH h1;have p:=iH h;refine gV ?_;refine Ae (λ h3=>?_) (λ h3=>?_)
   .have h3:(!(a.half==b.half))=true:=h3;have h3:=eD h3;have e:sameC a b=false:=by unfold sameC;rw [h3,De,Bl,Bl]
    rw [e] at d;subst d;exact zW
   .have h3:(!(a.half==b.half))=false:=h3;have h3:=eF h3;refine gV ?_;refine Ae (λ c=>?_) (λ c=>?_)
    .have c:(!(a.age==b.age))=true:=c;have c:=eD c;have e:sameC a b=false:=by unfold sameC;rw [c,Bl,Bl,Bl]
     rw [e] at d;subst d;exact zW
    .have c:(!(a.age==b.age))=false:=c;have c:=eF c;have e:sameC a b=(eqL Nod.eqb a.ns b.ns&&eqL Hos.eqb a.hs b.hs):=by unfold sameC;rw [h3,c,Em,Em]
     rw [e] at d;have j:=kW a b o_ o_ hl i _ a.ns.length 0 o_ d;exact zW
def rsame_c(a b:Con):aq 75 [a.av,b.av] [] (.ret (.bool (sameC a b))) []:=kY a b _ rfl
end Go.Proofs.YtidhfoefaomodaaGreatDoor.C8
namespace Go.Proofs.YtidhfoefaomodaaGreatDoor.Q2
open Go Go.AW Go.Proofs
set_option maxRecDepth 10000
def eqP(x y:Pend):Bool:=(x.id==y.id)&&((x.tenant==y.tenant)&&((x.pods==y.pods)&&((x.n0==y.n0)&&((x.n1==y.n1)&&((x.n2==y.n2)&&((x.run==y.run)&&((x.level==y.level)&&((x.prefer==y.prefer)&&((x.seq==y.seq)&&((x.since==y.since)&&true))))))))))
def iI{x y:Pend}:eqP x y=true↔x=y:=by obtain ⟨r,c,i,f,p,u,j,m,g,d,a⟩:=x;obtain ⟨b0,k,t,o,l,q,s,h,e,n,b⟩:=y;simp [eqP]
def jC(a b:bi)(q:a.length=b.length)(hl:((pav a).length:Int)<=9223372036854775807)(r:Bool):∀ (n i:Nat),i+n=a.length->decide (a.drop i=b.drop i)=r->
  To E Tryz.f76 (.pure (.ret (.bool r))) (.head (stk Tryz.f76 0) [(0,.slice 11 (pav a) .no),(1,.slice 11 (pav b) .no),(5,.int .i64 i)] []):=by
 have l:(pav a).length=a.length:=by simp
 intro n;induction n with
 | zero=>
  intro i m d;refine gV ?_;refine ⟨λ h=>?_,λ h=>?_⟩
  .exact absurd (of_decide_eq_true h) o_
  .refine gV ?_;rw [Ab o_,Ab o_] at d;rw [<-d];rfl
 | succ n o=>
  intro i m d;have g:i<a.length:=o_;have c:i<b.length:=o_;rw [Aa g,Aa c] at d;refine gV ?_;refine ⟨λ h=>?_,λ h=>?_⟩
  .refine gV ?_;refine ⟨i,rfl,gV ?_⟩;refine ⟨_,jE g,gV ?_⟩;refine ⟨i,rfl,gV ?_⟩;refine ⟨_,jE c,gV ?_⟩;refine ⟨λ k=>?_,λ k=>?_⟩
   .have h3:(!eqP a[i] b[i])=true:=k;refine gV ?_;have j:a[i]≠b[i]:=λ e=>by rw [iI.2 e] at h3;cases h3
    rw [<-d,decide_eq_false λ e=>j (Bg e).1]
   .have h3:(!eqP a[i] b[i])=false:=k;have p:a[i]=b[i]:=iI.1 (by simpa using h3);refine gV ?_;refine .inl ⟨xU o_ o_,gV ?_⟩;refine To.head [0,1,5] ?_;have:=o (i+1) o_ (by rw [<-d,p];exact decide_eq_decide.2 ⟨λ e=>by rw [e],λ e=>(Bg e).2⟩);push_cast at this;exact this
  .exact absurd (of_decide_eq_false h) o_
def same_ok(a b:bi):aq 76 [.slice 11 (pav a) .no,.slice 11 (pav b) .no] [] (.ret (.bool (decide (a=b)))) []:=by
 have j:(pav a).length=a.length:=by simp
 have i:(pav b).length=b.length:=by simp
 refine c_ Tryz.f76 λ k=>gV ?_;refine ⟨λ h=>?_,λ h=>?_⟩
 .refine gV ?_;have c:a≠b:=λ e=>by subst e;simp at h
  rw [decide_eq_false c]
 .have d:a.length=b.length:=by
   have:((a.length:Nat):Int)=b.length:=by simpa using h
   omega
  refine gV ?_;refine To.head [0,1,5] ?_;exact jC a b d k.1 _ a.length 0 o_ s_
end Go.Proofs.YtidhfoefaomodaaGreatDoor.Q2
namespace Go.Proofs.YtidhfoefaomodaaGreatDoor
open Go Go.AW Go.Proofs
abbrev cmv(l:bj):ay:=l.map Cmd.av
def bS{α:Type}[DecidableEq α]{f:α->α->Bool}(c:∀ x y,f x y=true↔x=y):∀ (a b:List α),C8.eqL f a b=decide (a=b)
 | [],[]=>rfl
 | [],_::_=>rfl
 | _::_,[]=>rfl
 | x::r,y::s=>by
  show (f x y&&C8.eqL f r s)=_;rw [bS c r s];cases h:f x y with
  | true=>
   have:=(c x y).1 h;subst this;simp
  | false=>
   have:x≠y:=λ e=>by rw [(c x y).2 e] at h;cases h
   simp [this]
noncomputable abbrev BQ:Func:=Tryz.f142
def lE(x y:Rn)(j:x.hs.length=y.hs.length)(n:x.hs.length<=1048576)(r:Bool):∀ (m i:Nat),i+m=x.hs.length->decide (x.hs.drop i=y.hs.drop i)=r->
  To E BQ (.pure (.ret (.bool r))) (.head (stk BQ 0) [(2,.ref 0 0),(3,.ref 1 0),(5,.int .i64 i)] [.cells 107 x.cs,.cells 107 y.cs]):=by
 have f:(iv x.hs).length=x.hs.length:=by simp
 intro m;induction m with
 | zero=>
  intro i k a;rw [Ab o_,Ab o_] at a;have a:true=r:=a;subst a;refine gV ?_;exact zW
 | succ m d=>
  intro i k a;have c:i<x.hs.length:=o_;have b:i<y.hs.length:=o_;rw [Aa c,Aa b] at a;have l:=dJ c;have h:=dJ b;generalize x.hs[i]=u at l a;generalize y.hs[i]=v at h a;have next:=d (i+1) o_
  by_cases h1:u=v
  .have g:(u !=v)=false:=by simpa using h1
   have next:=next (by rw [<-a,h1];exact decide_eq_decide.2 ⟨λ e=>by rw [e],λ e=>(Bg e).2⟩)
   clear d a;refine gV ?_;exact zW
  .have g:(u !=v)=true:=by simpa using h1
   have a:false=r:=by rw [<-a,decide_eq_false λ e=>h1 (Bg e).1]
   subst a;clear d next
   refine gV ?_;exact zW
def sZ(x y:Rn)(s:x.hs.length<=1048576):aq 142 [x.av,y.av] [] (.ret (.bool (decide (x=y)))) []:=by
 have q:(iv x.hs).length=x.hs.length:=by simp
 have o:(iv y.hs).length=y.hs.length:=by simp
 have a:(false !=false)=false:=rfl;by_cases h1:x.g=y.g
 .have t:(!(Gan.eqb x.g y.g))=false:=by rw [Gan.eqb_eq.2 h1];rfl
  by_cases j:x.seq=y.seq
  .have p:(x.seq !=y.seq)=false:=by simpa using j
   by_cases h3:x.at'=y.at'
   .have n:(x.at' !=y.at')=false:=by simpa using h3
    by_cases i:x.st=y.st
    .have l:(x.st !=y.st)=false:=by simpa using i
     by_cases d:x.fl=y.fl
     .have k:(x.fl !=y.fl)=false:=by simpa using d
      by_cases m:x.hs.length=y.hs.length
      .have b:(((iv x.hs).length:Int) !=((iv y.hs).length:Int))=false:=by rw [q,o,m];simp
       have c:=b;have hd:decide (x.hs.drop 0=y.hs.drop 0)=decide (x=y):=by rw [Ap,Ap];obtain ⟨u,w,v,F,J,z⟩:=x;obtain ⟨B,I,D,C,G,H⟩:=y;dsimp only at h1 j h3 i d;subst h1 j h3 i d;simp
       have next:=lE x y m s _ x.hs.length 0 o_ hd
       generalize decide (x=y)=r at *
       exact zqsk0
      .have c:(((iv x.hs).length:Int) !=((iv y.hs).length:Int))=true:=by rw [q,o];simp;omega
       have b:=a;rw [decide_eq_false λ e=>m (by rw [e])];exact zqsk0
     .have c:(x.fl !=y.fl)=true:=by simpa using d
      have k:=a;have b:=a;rw [decide_eq_false λ e=>d (by rw [e])];exact zqsk0
    .have c:(x.st !=y.st)=true:=by simpa using i
     have l:=a;have k:=a;have b:=a;rw [decide_eq_false λ e=>i (by rw [e])];exact zqsk0
   .have c:(x.at' !=y.at')=true:=by simpa using h3
    have n:=a;have l:=a;have k:=a;have b:=a;rw [decide_eq_false λ e=>h3 (by rw [e])];exact zqsk0
  .have c:(x.seq !=y.seq)=true:=by simpa using j
   have p:=a;have n:=a;have l:=a;have k:=a;have b:=a;rw [decide_eq_false λ e=>j (by rw [e])];exact zqsk0
 .have c:(!(Gan.eqb x.g y.g))=true:=by
   cases h:Gan.eqb x.g y.g with
   | false=>rfl
   | true=>exact absurd (Gan.eqb_eq.1 h) h1
  have t:=a;have p:=a;have n:=a;have l:=a;have k:=a;have b:=a;rw [decide_eq_false λ e=>h1 (by rw [e])];exact zqsk0
noncomputable abbrev BO:Func:=Tryz.f77
def kU(a b:a6)(o:a.length=b.length)(hs:Sm a)(r:Bool):∀ (m i:Nat),i+m=a.length->decide (a.drop i=b.drop i)=r->
  To E BO (.pure (.ret (.bool r))) (.head (stk BO 0) [(0,.slice 14 (rav a) .no),(1,.slice 14 (rav b) .no),(5,.int .i64 i)] []):=by
 have j:(rav a).length=a.length:=by simp
 have hl:=hs.1;intro m;induction m with
 | zero=>
  exact zqsk3
 | succ m h=>
  intro i l c;have f:i<a.length:=o_;have d:i<b.length:=o_;rw [Aa f,Aa d] at c;have n:=cF f;have k:=cF d;have g:=sZ a[i] b[i] (hs.at f);generalize a[i]=u at n c g;generalize b[i]=v at k c g;have next:=h (i+1) o_
  by_cases h1:u=v
  .rw [decide_eq_true h1] at g;have next:=next (by rw [<-c,h1];exact decide_eq_decide.2 ⟨λ e=>by rw [e],λ e=>(Bg e).2⟩)
   clear h c;refine gV ?_;exact zW
  .rw [decide_eq_false h1] at g;have c:false=r:=by rw [<-c,decide_eq_false λ e=>h1 (Bg e).1]
   subst c;clear h next
   refine gV ?_;exact zW
def sV(a b:a6)(hs:Sm a):aq 77 [.slice 14 (rav a) .no,.slice 14 (rav b) .no] [] (.ret (.bool (decide (a=b)))) []:=by
 have d:(rav a).length=a.length:=by simp
 have c:(rav b).length=b.length:=by simp
 by_cases h1:a.length=b.length
 .have h:(((rav a).length:Int) !=((rav b).length:Int))=false:=by rw [d,c,h1];simp
  have next:=kU a b h1 hs _ a.length 0 o_ (show _=decide (a=b) by rw [Ap,Ap])
  generalize decide (a=b)=r at *
  exact c_ Tryz.f77 λ_=>zW
 .have h:(((rav a).length:Int) !=((rav b).length:Int))=true:=by rw [d,c];simp;omega
  rw [decide_eq_false λ e=>h1 (by rw [e])];exact c_ Tryz.f77 λ_=>zW
noncomputable abbrev BR:Func:=Tryz.f78
def lG(a b:az)(o:a.length=b.length)(hl:a.length<=1048576)(r:Bool):∀ (m i:Nat),i+m=a.length->decide (a.drop i=b.drop i)=r->
  To E BR (.pure (.ret (.bool r))) (.head (stk BR 0) [(0,.slice 1 (fv a) .no),(1,.slice 1 (fv b) .no),(5,.int .i64 i)] []):=by
 have h:(fv a).length=a.length:=by simp
 intro m;induction m with
 | zero=>
  exact zqsk3
 | succ m g=>
  intro i l c;have f:i<a.length:=o_;have d:i<b.length:=o_;rw [Aa f,Aa d] at c;have n:(fv a)[i]? =some (uu a[i]):=by simp [f]
  have k:(fv b)[i]? =some (uu b[i]):=by simp [d]
  generalize a[i]=u at n c;generalize b[i]=v at k c;have next:=g (i+1) o_
  by_cases h1:u=v
  .have j:((u:Int) !=(v:Int))=false:=by simp [h1]
   have next:=next (by rw [<-c,h1];exact decide_eq_decide.2 ⟨λ e=>by rw [e],λ e=>(Bg e).2⟩)
   clear g c;refine gV ?_;exact zW
  .have j:((u:Int) !=(v:Int))=true:=by simp;omega
   have c:false=r:=by rw [<-c,decide_eq_false λ e=>h1 (Bg e).1]
   subst c;clear g next
   refine gV ?_;exact zW
def tG(a b:az)(hl:a.length<=1048576):aq 78 [.slice 1 (fv a) .no,.slice 1 (fv b) .no] [] (.ret (.bool (decide (a=b)))) []:=by
 have d:(fv a).length=a.length:=by simp
 have c:(fv b).length=b.length:=by simp
 by_cases h1:a.length=b.length
 .have h:(((fv a).length:Int) !=((fv b).length:Int))=false:=by rw [d,c,h1];simp
  have next:=lG a b h1 hl _ a.length 0 o_ (show _=decide (a=b) by rw [Ap,Ap])
  generalize decide (a=b)=r at *
  exact c_ Tryz.f78 λ_=>zW
 .have h:(((fv a).length:Int) !=((fv b).length:Int))=true:=by rw [d,c];simp;omega
  rw [decide_eq_false λ e=>h1 (by rw [e])];exact c_ Tryz.f78 λ_=>zW
def iE(a b:Sta):Bool:=(a.now==b.now)&&((a.nxt==b.nxt)&&(C8.sameC a.c b.c&&(decide (a.pend=b.pend)&&(decide (a.run=b.run)&&decide (a.hist=b.hist)))))
def pO:∀ {a b:a7},a.map Pn.q=b.map Pn.q->a=b
 | [],[],_=>rfl
 | [],_::_,h=>by cases h
 | _::_,[],h=>by cases h
 | x::a,y::b,h=>by obtain ⟨h1,c⟩:=Bg h;rw [pO c];obtain ⟨⟨_,_,_,⟨_,_,_⟩,_,_,_⟩,_,_⟩:=x;obtain ⟨⟨_,_,_,⟨_,_,_⟩,_,_,_⟩,_,_⟩:=y;simp only [Pn.q,Q2.Pend.mk.injEq] at h1;obtain ⟨rfl,rfl,rfl,rfl,rfl,rfl,rfl,rfl,rfl,rfl,rfl⟩:=h1;rfl
def jD(a b:Sta)(hs:Sm a.run)(m:a.hist.length<=1048576)(r:Bool)(d:iE a b=r):aq 29 [a.av,b.av] [] (.ret (.bool r)) []:=by
 have h1:=C8.rsame_c a.c b.c;have l:=Q2.same_ok (a.pend.map Pn.q) (b.pend.map Pn.q);rw [show decide (a.pend.map Pn.q=b.pend.map Pn.q)=decide (a.pend=b.pend) from decide_eq_decide.2 ⟨pO,λ e=>by rw [e]⟩,nO,nO] at l;have h3:=sV a.run b.run hs;have o:=tG a.hist b.hist m;unfold iE at d;generalize C8.sameC a.c b.c=q1 at *
 generalize decide (a.pend=b.pend)=q2 at *
 generalize decide (a.run=b.run)=q3 at *
 generalize decide (a.hist=b.hist)=q4 at *
 have n:(true&&false)=false:=rfl;have j:(true&&true)=true:=rfl;cases i:(a.now==b.now) with
 | false=>
  rw [i] at d;have d:false=r:=d;subst d;have k:=i;have i:=j;have h:=j;exact zqsk1
 | true=>
  rw [i] at d;cases h:(a.nxt==b.nxt) with
  | false=>
   rw [h] at d;have d:false=r:=d;subst d;have k:=h;have h:=j;exact zqsk1
  | true=>
   rw [h] at d;have k:=n;cases q1 with
   | false=>
    exact zqsk4
   | true=>
    cases q2 with
    | false=>
     exact zqsk4
    | true=>
     cases q3 with
     | false=>
      exact zqsk4
     | true=>
      have d:q4=r:=d;subst d;exact zqsk1
def dW{c d:Con}:C8.sameC c d=true↔c=d:=by obtain ⟨a,b,e,j⟩:=c;obtain ⟨h,i,g,k⟩:=d;unfold C8.sameC;rw [bS (f:=Nod.eqb) (λ_ _=>Nod.eqb_eq),bS (f:=Hos.eqb) (λ_ _=>Hos.eqb_eq)];simp
def gI(a:Sta):iE a a=true:=by unfold iE;rw [dW.2 rfl];simp
open Go.ChangeShapes Go.WideShapes Go.ChangeAt Go.RowKit
set_option maxRecDepth 100000
section
variable {H:Type} {enc:TypeId×Value->H} {W:World} {r:Reach} {base b0:Nat} {spare:Nat->Bool} {held:Bool} {v:Value} {d:DataW H} {ps:List MemPlace}
def oF(a:Bt Tryz.prog W r b0 3 v):∃ n:Int,Rep (Mw W) [] v (ii n):=by obtain ⟨m,rfl,h⟩:=sY (k:=.i64) (by kernel_rfl) (eB (by kernel_rfl) a);exact ⟨m,.int _ m h⟩
def CW(f:Bt Tryz.prog W r b0 22 v)(h:DataW.Trod enc Tryz.prog W base spare held 22 v d ps)(e:Rows.uptoBulk d<=1048576):∃ l:bj,Rep (Mw W) [] v (.slice 15 (cmv l) .no)/\l.length<=1048576/\∀ x∈l,CmSm x:=by
 obtain ⟨xs,b,i,a⟩:=eO (n:=6) (EF H 1048576) Tryz.underlying22 (by kernel_rfl) f h e;have c:Tryz.prog.cellsOf 58=15:=by kernel_rfl
 obtain ⟨l,rfl,hl⟩:=B8 (av:=Cmd.av) (Q:=CmSm) (P:=λ x=>x∈xs) (λ x hm=>by
  obtain ⟨cs,rfl⟩:=(a x hm).2.1 (by kernel_rfl);obtain ⟨p,hp,g⟩:=D0 (n:=0) (a _ hm).1
  exact ⟨p,by unfold Cmd.av;rw [<-hp];rfl,g⟩) xs λ x hm=>hm
 rw [c] at b;exact ⟨l,b,by simpa using i,hl⟩
end
def O7(f:Bool)(m n:Int)(s:aw):aq 81 [.ref 0 0] (jdO m f n s) (.ret (ii m)) (jdO m f n s):=by
 cases f
 .refine cT (E:=E) (fn:=Tryz.f81) (g:=.full 2 _ _) λ_=>?_;exact zW
 .refine cT (E:=E) (fn:=Tryz.f81) (g:=.full 3 _ _) λ_=>?_;exact zW
def NY(s:Sta)(m:Int)(f:Bool)(n:Int)(x:aw):aq 33 [.ref 0 0] (stS s m f n x) (.ret (ii m)) (stS s m f n x):=by
 have h1:=O7 f m n x;cases f
 all_goals
  refine cT (E:=E) (fn:=Tryz.f33) (g:=.full _ _ _) λ_=>?_
  repeat' first | (refine gN hE ?_;conv=>whnf) | refine .eff [] [1,2] _ _ rfl h1 ?_ | refine .eff [] [1,2,3] _ _ rfl h1 ?_ | exact zx [0,1,2] | exact zx [0,1,2,3] | exact rfl | refine aY ?_ | refine aN ?_ | refine aT λ h=>?_ | refine aF λ h=>?_ | refine ⟨λ h=>?_,λ h=>?_⟩ | refine aJ ?_ | refine ⟨_,rfl,?_⟩ | refine aD ?_ | fail
def aS(n:Int):Sta:={cA with now:=n}
def NW:aC cA (aW 1)=(aS 1,[],0):=by decide+kernel
def NV:aC (aS 1) (aW 2)=(aS 3,[],0):=by decide+kernel
def KB.sd1{t:Kst}{k:Nat}(h:KB t k)(f:Bool)(c:Cmd)(a:c.k=1->c.c.sm){d:Dk}{i:Int}{S:Sta}{ev:bb}(e:doS t c=(⟨d,i,S⟩,ev,0)):
  aq 27 [.ref 0 0,c.av] (stS t.s t.n f t.d.size t.d.safe) (.ret (.tup [.slice 3 (evv ev) .no,ii 0])) (stG S i f d.size d.safe):=by
 by_cases q:(aC t.s c).2.2=0
 .by_cases b:iD t.d (crB c)=0
  .have h1:=(h.do_ok c a f q b).1;rw [wH q b] at e;simp only [Ha,Kst.mk.injEq] at e;obtain ⟨⟨rfl,rfl,rfl⟩,rfl,_⟩:=e;exact h1
  .have:=(h.do_e c a f (.inr b)).2.2.2.2.2;rw [e] at this;exact absurd rfl this
 .have:=(h.do_e c a f (.inl q)).2.2.2.2.2;rw [e] at this;exact absurd rfl this
def gS(t:Kst)(c:Cmd):(doS t c).1.d.size=t.d.size:=by
 unfold doS;split
 .rfl
 split<;>rfl
def wgt(c:Con):Int:=1+((nav c.ns).length:Nat)+((hav c.hs).length:Nat)
def smR(M:Int):List Con->Int->Int
 | [],n=>n
 | c::l,n=>if n<M then smR M l (n+wgt c) else n
def uW{c:Con}(h:c.sm):1<=wgt c/\wgt c<=2097153:=by
 have l1:(nav c.ns).length=c.ns.length:=by simp
 have l2:(hav c.hs).length=c.hs.length:=by simp
 have:=h.ns;have:=h.hs;unfold wgt;omega
def CD(n:Int):aq 67 [ii n] [] (.ret (aW n).av) []:=by exact c_ Tryz.f67 λ_=>zW
def VI:(aC (aS 3) (aW 0)).2.2=1:=by decide+kernel
def w26:∃ a d f g,aG (bC 1000) (tk 1 1 0)=(⟨a,d,aS 1⟩,[],0)/\aG ⟨a,d,aS 1⟩ (tk 1 2 0)=(⟨f,g,aS 3⟩,[],0)/\gD ⟨f,g,aS 3⟩=0:=by
 obtain ⟨a,d,h,k,z⟩:=fL (t:=bC 1000) (c:=aW 1) 0 2 900 NW d_ d_ d_ (by show ((0:Nat):Int)+_<=_;decide);obtain ⟨f,g,i,j,m⟩:=fL (t:=⟨a,d,aS 1⟩) (c:=aW 2) 0 2 800 NV d_ d_ d_ (by unfold gT at *;dsimp only at *;omega);refine ⟨a,d,f,g,h,i,?_⟩;have hz:f.size=1000:=by subst j;show a.size=_;subst k;rfl
 have q:(cE (aS 3)).length<=900:=by
  have w:(kP (aS 3)).length<=50:=by
   have:=C8.pl_len (l:=(aS 3).cmd.il) d_;have p:(aS 3).cmd.il.length<=5:=by decide
   unfold kP C8.encB;split
   .omega
   .simp
  have A:(C8.putN (kP (aS 3)).length).length<=10:=by have:=C8.pn_len (n:=((kP (aS 3)).length:Int)) o_;rw [Br] at this;omega
  have x:=C8.pl_len (l:=[(aS 3).now,(aS 3).nxt,((aS 3).hist.length:Int)]) d_;have v:=C8.pl_len (l:=[((aS 3).pend.length:Int)]) d_;have y:=C8.pl_len (l:=[((aS 3).run.length:Int)]) d_;unfold cE;simp only [Ai,Ak,Bz] at *
  have r:(yW (aS 3).hist).length=0:=rfl;have o:(uI (aS 3).pend).length=0:=rfl;have u:(qG (aS 3).run).length=0:=rfl;omega
 have e:(Rec.b (.s (aS 3)))=83::cE (aS 3):=rfl;unfold gD;dsimp only;rw [e,hz,if_neg (by simp only [Ak];omega),if_neg (by simp only [Ak];omega)]
def KB.sst{t:Kst}{k:Nat}(h:KB t k)(f:Bool):aq 30 [.ref 0 0] (stS t.s t.n f t.d.size t.d.safe) (.ret t.s.av) (stS t.s t.n f t.d.size t.d.safe):=by have h1:=kJ t.s _ (h.sap Cmd.zero (λ e=>by cases e)) t.n f t.d.size t.d.safe;rw [(nJ t.s).1] at h1;exact h1
noncomputable abbrev aGs:Func:=Tryz.f24
set_option maxHeartbeats 2000000 in
def tO(g:aw):aq 24 [] [aO g] (.ret (.bool true)) [aO g]:=by
 obtain ⟨a,m,b,n,e,k,o⟩:=w26;have i:=kb0 1000;have j:=i.step d_ (tk 1 1 0) (λ h=>by cases h);rw [e] at j;have l:=j.step d_ (tk 1 2 0) (λ h=>by cases h);rw [show aG (⟨a,m,aS 1⟩,([]:bb),(0:Int)).1 (tk 1 2 0)=_ from k] at l;have c:=l.step d_ ⟨2,Cmd.zero,0⟩ (λ h=>by cases h);have t:a.size=(bC 1000).d.size:=by have:=gS (bC 1000) (aW 1);rw [show doS (bC 1000) (aW 1)=(⟨a,m,aS 1⟩,[],0) from e] at this;exact this
 have r:b.size=a.size:=by have:=gS ⟨a,m,aS 1⟩ (aW 2);rw [show doS ⟨a,m,aS 1⟩ (aW 2)=(⟨b,n,aS 3⟩,[],0) from k] at this;exact this
 rw [show (aG (⟨b,n,aS 3⟩,([]:bb),(0:Int)).1 ⟨2,Cmd.zero,0⟩).1=kT ⟨b,n,aS 3⟩ from rfl,vL o] at c;have z:=gZ 1000;have h1:=i.sop false g;have w:=i.sd1 false (aW 1) (λ h=>by cases h) e;have h3:=j.sd1 true (aW 2) (λ h=>by cases h) k;have v:=l.snap_ok true o;have s:=NY (aS 3) 1 false b.size (frm (83::cE (aS 3)));have q:=c.sop false g;obtain ⟨p,_,_,_,_,_⟩:=c.do_e (aW 0) (λ h=>by cases h) false (.inl (by show (aC (aS 3) (aW 0)).2.2≠0;rw [VI];decide));have u:(doS ⟨⟨b.size,frm (83::cE (aS 3)),[],false⟩,1,aS 3⟩ (aW 0)).2.2=1:=by unfold doS;rw [if_pos (show (aC (aS 3) (aW 0)).2.2≠0 by rw [VI];decide)];exact VI
 rw [show ∀ x:Kst×bb×Int,x.2.2=1->ii x.2.2=ii 1 from λ x h=>by rw [h]] at p<;>try exact u
 have y:=c.sst false;have B:=CD;dsimp only at *
 simp only [r,t] at w h3 v s q p y;clear i j l c e k o u t r;generalize frm (83::cE (aS 3))=X at *
 generalize a.safe=x1 at *
 generalize b.safe=x2 at *
 refine cT (E:=E) (fn:=Tryz.f24) (g:=.full 1 _ _) λ_=>?_
 repeat' first
  | (refine To.partC [1,2,5,7] [0,1,2,3,4] rfl rfl rfl (?_:To E aGs _ (.code (eM aGs 6) _ _));refine goN hE 1 rfl ?_;conv=>whnf)
  | (refine goN hE 1 rfl ?_;conv=>whnf)
  | refine .pure _ _ z ?_
  | refine .pure _ [] (B _) ?_
  | refine .eff [] [1,0] _ _ rfl h1 ?_
  | refine .eff [] [3,2,1] _ _ rfl w ?_
  | refine .eff [] [3,2,1,4] _ _ rfl h3 ?_
  | refine .eff [] [3,2,1,4] _ _ rfl v ?_
  | refine .eff [] [3,2,1] _ _ rfl s ?_
  | refine .eff [] [1,0] _ _ rfl q ?_
  | refine .eff [] [3,2,1] _ _ rfl p ?_
  | refine .eff [] [6,5,1] _ _ rfl y ?_
  | exact rfl
  | refine zt ?_
  | exact zx [0]
noncomputable abbrev fS6:Func:=Tryz.f23
def aD7(L:List Cmd)(i:Nat)(n:Int)(h:L.length<=i\/500<=n)(b:i<=1048576):To E fS6 (.pure (.ret (.bool (decide (n<500))))) (.head (stk fS6 0) [(0,.slice 15 (cmv L) .no),(3,ii n),(4,ii i)] []):=by
 have a:(cmv L).length=L.length:=by simp
 by_cases c:n<500
 .refine gV ?_
  repeat' first | (refine gN hE ?_;conv=>whnf) | exact rfl | refine aY ?_ | refine aN ?_ | refine aT λ h=>?_ | refine aF λ h=>?_ | refine ⟨λ h=>?_,λ h=>?_⟩ | refine aJ ?_ | refine ⟨_,rfl,?_⟩ | refine aD ?_ | fail
 .by_cases b:L.length<=i
  .refine gV ?_
   repeat' first | (refine gN hE ?_;conv=>whnf) | exact rfl | refine aY ?_ | refine aN ?_ | refine aT λ h=>?_ | refine aF λ h=>?_ | refine ⟨λ h=>?_,λ h=>?_⟩ | refine aJ ?_ | refine ⟨_,rfl,?_⟩ | refine aD ?_ | fail
  .refine gV ?_
   repeat' first | (refine gN hE ?_;conv=>whnf) | exact rfl | refine aY ?_ | refine aN ?_ | refine aT λ h=>?_ | refine aF λ h=>?_ | refine ⟨λ h=>?_,λ h=>?_⟩ | refine aJ ?_ | refine ⟨_,rfl,?_⟩ | refine aD ?_ | fail
def aII(L:List Cmd)(o:L.length<=1048576)(j:∀ p∈L,p.c.sm)(R:Int):∀ (m i:Nat) (n:Int),i+m=L.length->0<=n->n<=3000000->smR 500 ((L.drop i).map Cmd.c) n=R->
  To E fS6 (.pure (.ret (.bool (decide (R<500))))) (.head (stk fS6 0) [(0,.slice 15 (cmv L) .no),(3,ii n),(4,ii i)] []):=by
 have f:(cmv L).length=L.length:=by simp
 intro m;induction m with
 | zero=>
  intro i n k _ _ a;rw [Ab o_] at a;have a:n=R:=a;subst a;exact aD7 L i n (.inl o_) o_
 | succ m e=>
  intro i n k q h1 a;have b:i<L.length:=o_;rw [Aa b] at a;have get:(cmv L)[i]? =some L[i].av:=by simp [b]
  have hp:=j L[i] (Ax b);generalize L[i]=p at a get hp;rw [Bj] at a;unfold smR at a;by_cases d:n<500
  .rw [if_pos d] at a;obtain ⟨g,l⟩:=uW hp;have next:=e (i+1) (n+wgt p.c) o_ o_ o_ a
   have l1:(nav p.c.ns).length=p.c.ns.length:=by simp
   have l2:(hav p.c.hs).length=p.c.hs.length:=by simp
   have r:=hp.ns;have s:=hp.hs;unfold wgt at next
   clear e a g l;refine gV ?_
   repeat' first | (refine gN hE ?_;conv=>whnf) | refine ⟨i,rfl,?_⟩ | refine ⟨_,get,?_⟩ | exact rfl | refine aY ?_ | refine aN ?_ | refine aT λ h=>?_ | refine aF λ h=>?_ | refine ⟨λ h=>?_,λ h=>?_⟩ | refine aJ ?_ | refine ⟨_,rfl,?_⟩ | refine aD ?_ | fail
   refine To.part [0,3,4] [] rfl rfl rfl ?_;exact next
  .rw [if_neg d] at a;subst a;exact aD7 L i n (.inr o_) o_
def VP(L:bj)(a:L.length<=1048576)(b:∀ p∈L,p.c.sm):∃ r:Bool,aq 23 [.slice 15 (cmv L) .no] [] (.ret (.bool r)) []:=by
 refine ⟨decide (smR 500 (L.map Cmd.c) 0<500),?_⟩
 .have next:=aII L a b _ L.length 0 0 o_ d_ d_ (by rw [Ap])
  generalize smR 500 (L.map Cmd.c) 0=R at *
  refine c_ Tryz.f23 λ_=>?_
  repeat' first | (refine gN hE ?_;conv=>whnf) | exact rfl | refine aY ?_ | refine aN ?_ | refine aT λ h=>?_ | refine aF λ h=>?_ | refine ⟨λ h=>?_,λ h=>?_⟩ | refine aJ ?_ | refine ⟨_,rfl,?_⟩ | refine aD ?_ | fail
  refine To.part [0,3,4] [] rfl rfl rfl ?_;exact next
noncomputable abbrev fKp:Func:=Tryz.f5
abbrev kpO(f:Bool)(g:aw)(t:Kst):au:=match f with
 | true=>[aO g,dkC t.d.size (sfV true 4 t.d.safe) aV false,jnO 1 t.n,.cells tSt (.ref 2 0::t.s.cs),.tail 0 1 5]
 | false=>[aO g,dkC t.d.size (sfV false 4 t.d.safe) aV false,jnO 1 t.n,.cells tSt (.ref 2 0::t.s.cs)]
abbrev kpF(L:bj)(q:Int)(i:Nat):ar:=[(0,.slice 15 (cmv L) .no),(1,ii q),(5,.ref 1 0),(6,.ref 3 0),(8,ii i)]
set_option maxHeartbeats 2000000 in
def aFE(L:List Cmd)(q:Int)(i:Nat)(h:L.length<=i\/30<=i)(j:L.length<=1048576)(l:i<=1048576)(g:List UInt8)(t:Kst)(k:Nat)(a:KB t k)(f:Bool):To E fKp (.full 1 (.ret (.bool true)) [aO g]) (.head (stk fKp 0) (kpF L q i) (kpO f g t)):=by
 have b:(cmv L).length=L.length:=by simp
 have c:=a.sop f g;have hs:=a.sst f;have hm:=jD t.s t.s a.okT.small.1 a.okT.small.2 true (gI t.s);have d:=tO g;clear a;by_cases e:L.length<=i<;>cases f
 all_goals
  refine gV ?_
  repeat' first
   | (refine gN hE ?_;conv=>whnf)
   | refine .eff [] [1,0] _ _ rfl c ?_
   | refine .eff [] [1,4,0] _ _ rfl c ?_
   | refine .eff [] [3,2,1] _ _ rfl hs ?_
   | refine .eff [] [3,2,1,4] _ _ rfl hs ?_
   | refine .eff [] [5,4,1] _ _ rfl hs ?_
   | refine .eff [] [6,5,1,4] _ _ rfl hs ?_
   | refine .eff [] [7,6,1] _ _ rfl hs ?_
   | refine .eff [] [8,7,1,4] _ _ rfl hs ?_
   | refine .pure _ [] hm ?_
   | refine .eff [] [0] _ _ rfl d ?_
   | exact rfl
   | refine zt ?_
   | intro h
   | exact zx [0]
def aJO(L:bj)(q:Int)(i:Nat)(l:i<=1048576)(g:aw)(t:Kst)(k:Nat)(e:KB t k)(hz:t.d.size=1048576)(f:Bool)
  (next:if (i:Int)=q then To E fKp (.full 1 (.ret (.bool true)) [aO g]) (.head (stk fKp 0) (kpF L q (i+1)) (kpO false g (kT t))) else To E fKp (.full 1 (.ret (.bool true)) [aO g]) (.head (stk fKp 0) (kpF L q (i+1)) (kpO f g t))):
  To E fKp (.full 1 (.ret (.bool true)) [aO g]) (.code (eM fKp 10) (kpF L q i) (kpO f g t)):=by
 by_cases j:(i:Int)=q
 .rw [if_pos j] at next
  have c:gD t=0:=by
   have:=e.okT.len;rcases e.snap_any with ⟨a,_⟩ | ⟨_,a⟩
   .exact a
   .simp only [Ak] at a;omega
  have hs:=e.snap_ok f c;rw [vL c] at next
  have b:((i:Int)==q)=true:=by simpa using j
  clear e;generalize frm (83::cE t.s)=X at *
  cases f
  all_goals
   repeat' first | (refine gN hE ?_;conv=>whnf) | refine zE b ?_ | refine .eff [] [3,2,1] _ _ rfl hs ?_ | refine .eff [] [3,2,1,4] _ _ rfl hs ?_ | exact rfl | refine aY ?_ | refine aN ?_ | refine aT λ h=>?_ | refine aF λ h=>?_ | refine ⟨λ h=>?_,λ h=>?_⟩ | refine aJ ?_ | refine ⟨_,rfl,?_⟩ | refine aD ?_ | fail
   exact zqsk2
 .rw [if_neg j] at next
  have b:((i:Int)==q)=false:=by simpa using j
  clear e;cases f
  .repeat' first | (refine gN hE ?_;conv=>whnf) | refine zF b ?_ | exact rfl | refine aY ?_ | refine aN ?_ | refine aT λ h=>?_ | refine aF λ h=>?_ | refine ⟨λ h=>?_,λ h=>?_⟩ | refine aJ ?_ | refine ⟨_,rfl,?_⟩ | refine aD ?_ | fail
   exact zqsk2
  .repeat' first | (refine gN hE ?_;conv=>whnf) | refine zF b ?_ | exact rfl | refine aY ?_ | refine aN ?_ | refine aT λ h=>?_ | refine aF λ h=>?_ | refine ⟨λ h=>?_,λ h=>?_⟩ | refine aJ ?_ | refine ⟨_,rfl,?_⟩ | refine aD ?_ | fail
   refine To.part [0,1,5,6,8] [0,1,2,3,4] rfl rfl rfl ?_;exact next
set_option maxHeartbeats 2000000 in
def aJP(L:List Cmd)(v:L.length<=1048576)(u:∀ p∈L,p.c.sm)(q:Int)(g:List UInt8):∀ (m i:Nat) (t:Kst) (k:Nat) (f:Bool),i+m=L.length->i<=30->KB t k->k<=(if q<(i:Int) then i+1 else i)->t.d.size=1048576->
  To E fKp (.full 1 (.ret (.bool true)) [aO g]) (.head (stk fKp 0) (kpF L q i) (kpO f g t)):=by
 have B:(cmv L).length=L.length:=by simp
 intro m;induction m with
 | zero=>
  intro i t k f G _ l _ _;exact aFE L q i (.inl o_) v o_ g t k l f
 | succ m r=>
  intro i t k f G D l n hz;by_cases F:i=30
  .exact aFE L q i (.inr o_) v o_ g t k l f
  have o:i<L.length:=o_;have get:(cmv L)[i]? =some L[i].av:=by simp [o]
  have hp:=u L[i] (Ax o);generalize L[i]=c at get hp;have A:k<=31:=by split at n<;>omega
  have j:KB (doS t c).1 (k+1):=l.step o_ ⟨1,c,0⟩ (λ_=>hp);have hz2:(doS t c).1.d.size=1048576:=by rw [gS];exact hz
  have rest:∀ f',To E fKp (.full 1 (.ret (.bool true)) [aO g]) (.code (eM fKp 10) (kpF L q i) (kpO f' g (doS t c).1)):=λ f'=>by
   refine aJO L q i o_ g _ (k+1) j hz2 f' ?_;by_cases y:(i:Int)=q
   .rw [if_pos y];refine r (i+1) _ (k+2) false o_ o_ (j.step o_ ⟨2,Cmd.zero,0⟩ (λ h=>by cases h)) ?_ ?_
    .rw [if_neg o_] at n;rw [if_pos o_];omega
    .unfold kT;split
     .exact hz2
     .exact hz2
   .rw [if_neg y];refine r (i+1) _ (k+1) f' o_ o_ j ?_ hz2;split at n
    .rw [if_pos o_];omega
    .rw [if_neg o_];omega
  by_cases w:(aC t.s c).2.2=0/\iD t.d (crB c)=0
  .obtain ⟨x,z⟩:=w;have h1:=(l.do_ok c (λ_=>hp) f x z).1;have rest:=rest true;rw [wH x z] at rest;clear r l j u hp hz hz2;unfold aHB at rest;dsimp only at rest;generalize t.d.safe++frm (crB c)=X at *
   generalize aC t.s c=R at *
   cases f
   all_goals
    refine gV ?_
    repeat' first
     | exact To.partC [0,1,5,6,8] [0,1,2,3,4] rfl rfl rfl rest
     | (refine goN hE 1 rfl ?_;conv=>whnf)
     | refine Aq i (Ae rfl ?_)
     | refine Aq _ (Ae get ?_)
     | refine .eff [] [3,2,1] _ _ rfl h1 ?_
     | refine .eff [] [3,2,1,4] _ _ rfl h1 ?_
     | refine zt ?_
     | intro h
  .have C:(aC t.s c).2.2≠0\/iD t.d (crB c)≠0:=by
    by_cases a:(aC t.s c).2.2=0
    .exact .inr λ b=>w ⟨a,b⟩
    .exact .inl a
   obtain ⟨h1,_,h3,_⟩:=l.do_e c (λ_=>hp) f C;have rest:=rest f;rw [h3] at rest;clear r l j u hp hz hz2;generalize (doS t c).2.2=e at *
   cases f
   all_goals
    refine gV ?_
    repeat' first
     | exact To.partC [0,1,5,6,8] [0,1,2,3] rfl rfl rfl rest
     | exact To.partC [0,1,5,6,8] [0,1,2,3,4] rfl rfl rfl rest
     | (refine goN hE 1 rfl ?_;conv=>whnf)
     | refine Aq i (Ae rfl ?_)
     | refine Aq _ (Ae get ?_)
     | refine .eff [] [3,2,1] _ _ rfl h1 ?_
     | refine .eff [] [3,2,1,4] _ _ rfl h1 ?_
     | refine zt ?_
     | intro h
def aBC(L:bj)(b:L.length<=1048576)(d:∀ p∈L,p.c.sm)(q:Int)(g:aw):aq 5 [.slice 15 (cmv L) .no,ii q] [aO g] (.ret (.bool true)) [aO g]:=by
 obtain ⟨r,hs⟩:=VP L b d;have i:=tO g;have e:=gZ 1048576;have a:=kb0 1048576;have h1:=a.sop false g;have next:=aJP L b d q g L.length 0 (bC 1048576) 0 false o_ d_ a (by split<;>omega) rfl
 clear a;cases r
 .refine cT (E:=E) (fn:=Tryz.f5) (g:=.full 1 _ _) λ_=>?_
  repeat' first | (refine gN hE ?_;conv=>whnf) | refine .pure _ [] hs ?_ | refine .eff [] [0] _ _ rfl i ?_ | exact zx [0] | exact rfl | refine aY ?_ | refine aN ?_ | refine aT λ h=>?_ | refine aF λ h=>?_ | refine ⟨λ h=>?_,λ h=>?_⟩ | refine aJ ?_ | refine ⟨_,rfl,?_⟩ | refine aD ?_ | fail
 .refine cT (E:=E) (fn:=Tryz.f5) (g:=.full 1 _ _) λ_=>?_
  repeat' first | (refine gN hE ?_;conv=>whnf) | refine .pure _ [] hs ?_ | refine .pure _ _ e ?_ | refine .eff [] [1,0] _ _ rfl h1 ?_ | exact rfl | refine aY ?_ | refine aN ?_ | refine aT λ h=>?_ | refine aF λ h=>?_ | refine ⟨λ h=>?_,λ h=>?_⟩ | refine aJ ?_ | refine ⟨_,rfl,?_⟩ | refine aD ?_ | fail
  exact zqsk2
end Go.Proofs.YtidhfoefaomodaaGreatDoor
