/- Part 15 of what the statement rests on. -/
import Derived.Test.YtidhfoefaomodaaGreatDoorMTA
set_option linter.all false
set_option maxRecDepth 10000
set_option maxHeartbeats 1000000
open And renaming intro->Ae
open Bool renaming and_eq_true->Af,and_false->Bl,and_true->Em,false_and->De,true_and->Bw
open Go.Value renaming okWide->Bt
open Int renaming toNat_natCast->Br
open List renaming append_assoc->Ag,append_nil->Ar,drop_eq_getElem_cons->Aa,drop_eq_nil_of_le->Ab,drop_zero->Ap,getElem?_eq_getElem->Ac,getElem_mem->Ax,length->Ko,length_cons->Ak,length_filter_le->Fv,length_map->Cm,length_replicate->Fu,map_cons->Bj,mem_cons_of_mem->Av,mem_cons_self->Ao,mem_filter->Fm,nil_append->Bp,replicate->Aj
open List.cons renaming inj->Bg
open Nat renaming le_trans->Dh
open Prod.mk renaming injEq->Ha
open UInt8 renaming ofNat->Dj
namespace Go.AW
open Go.RowKit Go.ChangeShapes Go.WideShapes Go.ChangeAt
section
variable {P:Program} {w:World} {r:Reach} {base:Nat} {t:TypeId} {v:Value}
def zqdw0{P:Prop}(h:P:=by exact c_ Tryz.f142 λ_=>zW):P:=h
def zqdw1{P:Prop}(h:P:=by exact c_ Tryz.f29 λ_=>zW):P:=h
def zqdw2{P:Prop}(h:P:=by
 rw [Ab o_,Ab o_] at c;have c:true=r:=c;subst c;refine gV ?_
 exact zW):P:=h
def zqdw3{P:Prop}(h:P:=by
 have next:=next (by rw [<-c,h1];exact decide_eq_decide.2 ⟨λ e=>by rw [e],λ e=>(Bg e).2⟩)
 clear g c;refine gV ?_
 exact zW):P:=h
def zqdw4{P:Prop}(h:P:=by
 have c:false=r:=by rw [<-c,decide_eq_false λ e=>h1 (Bg e).1]
 subst c;clear g next
 refine gV ?_
 exact zW):P:=h
def zqdw5{P:Prop}(h:P:=by
 have d:false=r:=d;subst d
 exact zqdw1):P:=h
def sY{k:IntKind}(a:P.underlying t=some (.int k))(h:Cell.okWide P w r base t v):∃ n,v= .int k n/\inR k n:=by unfold Cell.okWide at h;rw [a] at h;unfold Cell.ok at h;rw [a] at h;cases v<;>simp at h;obtain ⟨rfl,b⟩:=h;exact ⟨_,rfl,xG b⟩
def eB(a:aK P t=false)(h:Bt P w r base t v):Cell.okWide P w r base t v:=by
 unfold Bt at h;unfold aK at a;split at h
 .grind
 .grind
 .exact h
end
def YO{args:Array Value}(h:args.toList.length=2):∃ a b,args= #[a,b]:=by
 obtain ⟨l⟩:=args
 match l,h with
 | [a,b],_=>simp
section
variable {H:Type} {enc:TypeId×Value->H} {P:Program} {w:World} {base:Nat} {spare:Nat->Bool} {held:Bool}
def fR{r:Reach}{b0:Nat}{t e:TypeId}{v:Value}(b:P.underlying t=some (.slice e))(h:Cell.okWide P w r b0 t v):∃ a n c,v= .slice a n c:=by unfold Cell.okWide at h;rw [b] at h;unfold Cell.ok at h;rw [b] at h;cases v<;>simp at h;simp
end
section
variable {H:Type} {N:Nat} {G:DataW H->Prop} {enc:TypeId×Value->H} {P:Program} {w:World} {base:Nat} {spare:Nat->Bool} {held:Bool}
def eO(o:Bulk H N G){r:Reach}{b0:Nat}{n:Nat}{t e:TypeId}{v:Value}{d:DataW H}{ps:List MemPlace}(f:P.underlying t=some (.slice e))(i:lD P (n+1) t=true)(p:Bt P w r b0 t v)(h:DataW.Trod enc P w base spare held t v d ps)(k:G d):
  ∃ xs,Rep (Mw w) [] v (.slice (P.cellsOf e) xs .no)/\xs.length<=N/\∀ x∈xs,TyN P N n e x.cells/\(aK P e=true->∃ l,x= .agg l)/\(aK P e=false->x.cells=[x]):=by
 obtain ⟨a,m,c,rfl⟩:=fR f (eB (by unfold aK;rw [f]) p);obtain ⟨b,h⟩:=h;obtain ⟨as0,h1,g⟩:=iS o (n+1) t i b _ _ h k;unfold TyN at g;rw [f] at g;obtain ⟨xs,rfl,hl,j⟩:=g;exact ⟨xs,(h1.2 0 _ _ rfl rfl).rep,hl,j⟩
end
end Go.AW
namespace Go.Proofs.YtidhfoefaomodaaGreatDoor.C8
open Go Go.AW Go.Proofs
set_option maxRecDepth 10000
noncomputable abbrev nV:Func:=Tryz.f75
def kX(a b:Con)(p:a.hs.length=b.hs.length)(hl:((hav a.hs).length:Int)<=9223372036854775807)(r:Bool):∀ (n i:Nat),i+n=a.hs.length->eqL Hos.eqb (a.hs.drop i) (b.hs.drop i)=r->
  To E nV (.pure (.ret (.bool r))) (.head (stk nV 1) [(2,.ref 0 0),(3,.ref 1 0),(6,.int .i64 i)] [.cells 26 a.cs,.cells 26 b.cs]):=by
 have e:(hav a.hs).length=a.hs.length:=by simp
 intro n;induction n with
 | zero=>
  intro i k c;rw [Ab o_,Ab o_] at c;subst c;refine gV ?_;exact zW
 | succ n m=>
  intro i k c;have h1:i<a.hs.length:=o_;have d:i<b.hs.length:=o_;rw [Aa h1,Aa d] at c;have c:(Hos.eqb a.hs[i] b.hs[i]&&eqL Hos.eqb (a.hs.drop (i+1)) (b.hs.drop (i+1)))=r:=c;generalize j:a.hs[i]=x at c;generalize l:b.hs[i]=y at c;have g:(hav a.hs)[i]? =some (Hos.av x):=by simp [j,h1]
  have o:(hav b.hs)[i]? =some (Hos.av y):=by simp [l,d]
  refine gV ?_;refine aT λ h=>?_
  repeat' first | (refine gN hE ?_;conv=>whnf) | refine ⟨_,g,?_⟩ | refine ⟨_,o,?_⟩ | exact rfl | refine zt ?_ | refine zu ?_ ?_ | intro h | fail
  .have h:Hos.eqb x y=false:=eD h;rw [h] at c;rw [<-c];rfl
  .have h:Hos.eqb x y=true:=eF h;rw [h,Bw] at c;have f:=m (i+1) o_ c;exact zW
def kW(a b:Con)(u:a.ns.length=b.ns.length)(e:a.hs.length=b.hs.length)(hl:((nav a.ns).length:Int)<=9223372036854775807)(d:((hav a.hs).length:Int)<=9223372036854775807)(r:Bool):∀ (n i:Nat),i+n=a.ns.length->(eqL Nod.eqb (a.ns.drop i) (b.ns.drop i)&&eqL Hos.eqb a.hs b.hs)=r->
  To E nV (.pure (.ret (.bool r))) (.head (stk nV 0) [(2,.ref 0 0),(3,.ref 1 0),(5,.int .i64 i)] [.cells 26 a.cs,.cells 26 b.cs]):=by
 have j:(nav a.ns).length=a.ns.length:=by simp
 intro n;induction n with
 | zero=>
  intro i o c;rw [Ab o_,Ab o_] at c;have c:eqL Hos.eqb a.hs b.hs=r:=c;refine gV ?_;have g:=kX a b e d r a.hs.length 0 o_ c;exact zW
 | succ n q=>
  intro i o c;have h1:i<a.ns.length:=o_;have f:i<b.ns.length:=o_;rw [Aa h1,Aa f] at c;have c:((Nod.eqb a.ns[i] b.ns[i]&&eqL Nod.eqb (a.ns.drop (i+1)) (b.ns.drop (i+1)))&&eqL Hos.eqb a.hs b.hs)=r:=c;generalize m:a.ns[i]=x at c;generalize p:b.ns[i]=y at c;have l:(nav a.ns)[i]? =some (Nod.av x):=by simp [m,h1]
  have s:(nav b.ns)[i]? =some (Nod.av y):=by simp [p,f]
  refine gV ?_;refine aT λ h=>?_
  repeat' first | (refine gN hE ?_;conv=>whnf) | refine ⟨_,l,?_⟩ | refine ⟨_,s,?_⟩ | exact rfl | refine zt ?_ | refine zu ?_ ?_ | intro h | fail
  .have h:Nod.eqb x y=false:=eD h;rw [h] at c;rw [<-c];rfl
  .have h:Nod.eqb x y=true:=eF h;rw [h,Bw] at c;have k:=q (i+1) o_ c;exact zW
def lJ(a b:Con)(M:Imm)(ob:Hs)(vs:ba)(h:cM M ob vs [a.av,b.av]):((nav a.ns).length:Int)<=9223372036854775807/\((hav a.hs).length:Int)<=9223372036854775807:=by
 have hl:0<vs.length:=by rw [h.1];simp
 have:=h.2 0 _ a.av (Ac hl) rfl;exact ⟨bE this 0 _ rfl,bE this 1 _ rfl⟩
def iF{a b:Nat}(h:((a:Int) !=(b:Int))=true):a≠b:=by intro e;rw [e] at h;simp at h
def iH{a b:Nat}(h:((a:Int) !=(b:Int))=false):a=b:=by simp at h;omega
def kY(a b:Con)(r:Bool)(d:sameC a b=r):aq 75 [a.av,b.av] [] (.ret (.bool r)) []:=by
 refine aA.get _ (lJ a b) λ⟨hl,i⟩=>?_;have k:(nav a.ns).length=a.ns.length:=by simp
 have n:(nav b.ns).length=b.ns.length:=by simp
 have m:(hav a.hs).length=a.hs.length:=by simp
 have l:(hav b.hs).length=b.hs.length:=by simp
 refine c_ Tryz.f75 λ_=>gV ?_;refine Ae (λ h1=>?_) (λ h1=>?_)
 .have h1:(((nav a.ns).length:Int) !=((nav b.ns).length:Int))=true:=h1;have e:sameC a b=false:=by unfold sameC;rw [eqL_len (by rw [<-k,<-n];exact iF h1)];rfl
  rw [e] at d;subst d;exact zW
 .have h1:(((nav a.ns).length:Int) !=((nav b.ns).length:Int))=false:=h1;refine gV ?_;refine Ae (λ h=>?_) (λ h=>?_)
  .have h:(((hav a.hs).length:Int) !=((hav b.hs).length:Int))=true:=h;have e:sameC a b=false:=by unfold sameC;rw [eqL_len (f:=Hos.eqb) (by rw [<-m,<-l];exact iF h),De,Bl]
   rw [e] at d;subst d;exact zW
  .have h:(((hav a.hs).length:Int) !=((hav b.hs).length:Int))=false:=h;have o:=iH h1;have p:=iH h;refine gV ?_;refine Ae (λ h3=>?_) (λ h3=>?_)
   .have h3:(!(a.half==b.half))=true:=h3;have h3:=eD h3;have e:sameC a b=false:=by unfold sameC;rw [h3,De,Bl,Bl]
    rw [e] at d;subst d;exact zW
   .have h3:(!(a.half==b.half))=false:=h3;have h3:=eF h3;refine gV ?_;refine Ae (λ c=>?_) (λ c=>?_)
    .have c:(!(a.age==b.age))=true:=c;have c:=eD c;have e:sameC a b=false:=by unfold sameC;rw [c,Bl,Bl,Bl]
     rw [e] at d;subst d;exact zW
    .have c:(!(a.age==b.age))=false:=c;have c:=eF c;have e:sameC a b=(eqL Nod.eqb a.ns b.ns&&eqL Hos.eqb a.hs b.hs):=by unfold sameC;rw [h3,c,Em,Em]
     rw [e] at d;have j:=kW a b o_ o_ hl i _ a.ns.length 0 o_ d;exact zW
def rsame_c(a b:Con):aq 75 [a.av,b.av] [] (.ret (.bool (sameC a b))) []:=kY a b _ rfl
end Go.Proofs.YtidhfoefaomodaaGreatDoor.C8
namespace Go.Proofs.YtidhfoefaomodaaGreatDoor.Q2
open Go Go.AW Go.Proofs
set_option maxRecDepth 10000
def eqP(x y:Pend):Bool:=(x.id==y.id)&&((x.tenant==y.tenant)&&((x.pods==y.pods)&&((x.n0==y.n0)&&((x.n1==y.n1)&&((x.n2==y.n2)&&((x.run==y.run)&&((x.level==y.level)&&((x.prefer==y.prefer)&&((x.seq==y.seq)&&((x.since==y.since)&&true))))))))))
def iI{x y:Pend}:eqP x y=true↔x=y:=by obtain ⟨r,c,i,f,p,u,j,m,g,d,a⟩:=x;obtain ⟨b0,k,t,o,l,q,s,h,e,n,b⟩:=y;simp [eqP]
def jC(a b:bi)(q:a.length=b.length)(hl:((pav a).length:Int)<=9223372036854775807)(r:Bool):∀ (n i:Nat),i+n=a.length->decide (a.drop i=b.drop i)=r->
  To E Tryz.f76 (.pure (.ret (.bool r))) (.head (stk Tryz.f76 0) [(0,.slice 11 (pav a) .no),(1,.slice 11 (pav b) .no),(5,.int .i64 i)] []):=by
 have l:(pav a).length=a.length:=by simp
 intro n;induction n with
 | zero=>
  intro i m d;refine gV ?_;refine ⟨λ h=>?_,λ h=>?_⟩
  .exact absurd (of_decide_eq_true h) o_
  .refine gV ?_;rw [Ab o_,Ab o_] at d;rw [<-d];rfl
 | succ n o=>
  intro i m d;have g:i<a.length:=o_;have c:i<b.length:=o_;rw [Aa g,Aa c] at d;refine gV ?_;refine ⟨λ h=>?_,λ h=>?_⟩
  .refine gV ?_;refine ⟨i,rfl,gV ?_⟩;refine ⟨_,jE g,gV ?_⟩;refine ⟨i,rfl,gV ?_⟩;refine ⟨_,jE c,gV ?_⟩;refine ⟨λ k=>?_,λ k=>?_⟩
   .have h3:(!eqP a[i] b[i])=true:=k;refine gV ?_;have j:a[i]≠b[i]:=λ e=>by rw [iI.2 e] at h3;cases h3
    rw [<-d,decide_eq_false λ e=>j (Bg e).1]
   .have h3:(!eqP a[i] b[i])=false:=k;have p:a[i]=b[i]:=iI.1 (by simpa using h3);refine gV ?_;refine .inl ⟨xU o_ o_,gV ?_⟩;refine To.head [0,1,5] ?_;have:=o (i+1) o_ (by rw [<-d,p];exact decide_eq_decide.2 ⟨λ e=>by rw [e],λ e=>(Bg e).2⟩);push_cast at this;exact this
  .exact absurd (of_decide_eq_false h) o_
def same_ok(a b:bi):aq 76 [.slice 11 (pav a) .no,.slice 11 (pav b) .no] [] (.ret (.bool (decide (a=b)))) []:=by
 have j:(pav a).length=a.length:=by simp
 have i:(pav b).length=b.length:=by simp
 refine c_ Tryz.f76 λ k=>gV ?_;refine ⟨λ h=>?_,λ h=>?_⟩
 .refine gV ?_;have c:a≠b:=λ e=>by subst e;simp at h
  rw [decide_eq_false c]
 .have d:a.length=b.length:=by
   have:((a.length:Nat):Int)=b.length:=by simpa using h
   omega
  refine gV ?_;refine To.head [0,1,5] ?_;exact jC a b d k.1 _ a.length 0 o_ s_
end Go.Proofs.YtidhfoefaomodaaGreatDoor.Q2
namespace Go.Proofs.YtidhfoefaomodaaGreatDoor
open Go Go.AW Go.Proofs
def BS{l:bb}{i:Nat}(h:i<l.length):(evv l)[i]? =some l[i].av:=by simp [evv,h]
def aNd{s:Sta}(h:StOK s)(hs:Sm s.run)(x:Cmd)(d:x.k=1->x.c.sm):Sm (aC s x).1.run/\(aC s x).1.hist.length<=1048576/\(aC s x).2.1.length<=1000000:=by
 have a:=h.run.ord.hl
 have fl:∀ q:Rn->Bool,Sm (s.run.filter q):=λ q=>⟨Dh (Fv _ _) hs.1,λ x f=>hs.2 x (Fm.1 f).1⟩
 have same:Sm s.run/\s.hist.length<=1048576/\([]:bb).length<=1000000:=⟨hs,a,by simp⟩
 unfold aC;split
 .exact same
 split
 .rename_i i;split
  .exact same
  .split
   .exact same
   .refine ⟨hs,?_,by simp⟩;show (Aj _ _).length<=_;rw [Fu];exact (d i).ns
 split
 .have:(eW s x.g).1.hist=s.hist/\(eW s x.g).1.run=s.run:=by
   unfold eW;iterate 4 (split;· exact ⟨rfl,rfl⟩)
   exact ⟨rfl,rfl⟩
  rw [this.1,this.2];exact same
 split
 .unfold kR;split
  .exact same
  .split
   .exact same
   .refine ⟨fl _,?_,?_⟩
    .show (tkL _ _ _ _).length<=_;unfold tkL;rw [mG];exact a
    .show (wE _ _).length<=_;unfold wE;rw [Cm];have:=Fv (λ x=>decide (eZ x<=s.now+x.g.id)) s.run;refine Dh (Fv _ _) ?_;have:=h.run.base.few;simp at this;omega
 split
 .obtain ⟨h1,b⟩:=vP h.run.base (xQ s) _ h.run.start;refine ⟨h1.sm h.run.base,?_,?_⟩
  .have e:(dE s).s.hist=s.hist:=h1.hist;show (dE s).s.hist.length<=_;rw [e];exact a
  .have b:(dE s).ev.length+100*0<=900000:=b;show (dE s).ev.length<=_;omega
 split
 .exact ⟨fl _,a,by simp⟩
 split
 .exact same
 .exact ⟨hs,a,by simp⟩
set_option maxRecDepth 10000
noncomputable abbrev aPL:Func:=Tryz.f36
def aGt(a b:bb)(p:a.length=b.length)(hl:a.length<=1048576)(r:Bool):∀ (m i:Nat),i+m=a.length->decide (a.drop i=b.drop i)=r->
  To E aPL (.pure (.ret (.bool r))) (.head (stk aPL 0) [(0,.slice 3 (evv a) .no),(1,.slice 3 (evv b) .no),(5,.int .i64 i)] []):=by
 have j:(evv a).length=a.length:=by simp
 intro m;induction m with
 | zero=>
  intro i n c;exact zqdw2
 | succ m g=>
  intro i n c;have f:i<a.length:=o_;have d:i<b.length:=o_;rw [Aa f,Aa d] at c;have o:=BS f;have l:=BS d;generalize a[i]=u at o c;generalize b[i]=v at l c;have next:=g (i+1) o_
  by_cases h1:u=v
  .have k:(!(Ev.eqb u v))=false:=by rw [Ev.eqb_eq.2 h1];rfl
   exact zqdw3
  .have k:(!(Ev.eqb u v))=true:=by
    cases h:Ev.eqb u v with
    | false=>rfl
    | true=>exact absurd (Ev.eqb_eq.1 h) h1
   exact zqdw4
def aN2(a b:bb)(hl:a.length<=1048576):aq 36 [.slice 3 (evv a) .no,.slice 3 (evv b) .no] [] (.ret (.bool (decide (a=b)))) []:=by
 have d:(evv a).length=a.length:=by simp
 have c:(evv b).length=b.length:=by simp
 by_cases h1:a.length=b.length
 .have h:(((evv a).length:Int) !=((evv b).length:Int))=false:=by rw [d,c,h1];simp
  have next:=aGt a b h1 hl _ a.length 0 o_ (show _=decide (a=b) by rw [Ap,Ap])
  generalize decide (a=b)=r at *
  exact c_ Tryz.f36 λ_=>zW
 .have h:(((evv a).length:Int) !=((evv b).length:Int))=true:=by rw [d,c];simp;omega
  rw [decide_eq_false λ e=>h1 (by rw [e])];exact c_ Tryz.f36 λ_=>zW
def bS{α:Type}[DecidableEq α]{f:α->α->Bool}(c:∀ x y,f x y=true↔x=y):∀ (a b:List α),C8.eqL f a b=decide (a=b)
 | [],[]=>rfl
 | [],_::_=>rfl
 | _::_,[]=>rfl
 | x::r,y::s=>by
  show (f x y&&C8.eqL f r s)=_;rw [bS c r s];cases h:f x y with
  | true=>
   have:=(c x y).1 h;subst this;simp
  | false=>
   have:x≠y:=λ e=>by rw [(c x y).2 e] at h;cases h
   simp [this]
noncomputable abbrev BQ:Func:=Tryz.f142
def lE(x y:Rn)(j:x.hs.length=y.hs.length)(n:x.hs.length<=1048576)(r:Bool):∀ (m i:Nat),i+m=x.hs.length->decide (x.hs.drop i=y.hs.drop i)=r->
  To E BQ (.pure (.ret (.bool r))) (.head (stk BQ 0) [(2,.ref 0 0),(3,.ref 1 0),(5,.int .i64 i)] [.cells 107 x.cs,.cells 107 y.cs]):=by
 have f:(iv x.hs).length=x.hs.length:=by simp
 intro m;induction m with
 | zero=>
  intro i k a;rw [Ab o_,Ab o_] at a;have a:true=r:=a;subst a;refine gV ?_;exact zW
 | succ m d=>
  intro i k a;have c:i<x.hs.length:=o_;have b:i<y.hs.length:=o_;rw [Aa c,Aa b] at a;have l:=dJ c;have h:=dJ b;generalize x.hs[i]=u at l a;generalize y.hs[i]=v at h a;have next:=d (i+1) o_
  by_cases h1:u=v
  .have g:(u !=v)=false:=by simpa using h1
   have next:=next (by rw [<-a,h1];exact decide_eq_decide.2 ⟨λ e=>by rw [e],λ e=>(Bg e).2⟩)
   clear d a;refine gV ?_;exact zW
  .have g:(u !=v)=true:=by simpa using h1
   have a:false=r:=by rw [<-a,decide_eq_false λ e=>h1 (Bg e).1]
   subst a;clear d next
   refine gV ?_;exact zW
def sZ(x y:Rn)(s:x.hs.length<=1048576):aq 142 [x.av,y.av] [] (.ret (.bool (decide (x=y)))) []:=by
 have q:(iv x.hs).length=x.hs.length:=by simp
 have o:(iv y.hs).length=y.hs.length:=by simp
 have a:(false !=false)=false:=rfl;by_cases h1:x.g=y.g
 .have t:(!(Gan.eqb x.g y.g))=false:=by rw [Gan.eqb_eq.2 h1];rfl
  by_cases j:x.seq=y.seq
  .have p:(x.seq !=y.seq)=false:=by simpa using j
   by_cases h3:x.at'=y.at'
   .have n:(x.at' !=y.at')=false:=by simpa using h3
    by_cases i:x.st=y.st
    .have l:(x.st !=y.st)=false:=by simpa using i
     by_cases d:x.fl=y.fl
     .have k:(x.fl !=y.fl)=false:=by simpa using d
      by_cases m:x.hs.length=y.hs.length
      .have b:(((iv x.hs).length:Int) !=((iv y.hs).length:Int))=false:=by rw [q,o,m];simp
       have c:=b;have hd:decide (x.hs.drop 0=y.hs.drop 0)=decide (x=y):=by rw [Ap,Ap];obtain ⟨u,w,v,F,J,z⟩:=x;obtain ⟨B,I,D,C,G,H⟩:=y;dsimp only at h1 j h3 i d;subst h1 j h3 i d;simp
       have next:=lE x y m s _ x.hs.length 0 o_ hd
       generalize decide (x=y)=r at *
       exact zqdw0
      .have c:(((iv x.hs).length:Int) !=((iv y.hs).length:Int))=true:=by rw [q,o];simp;omega
       have b:=a;rw [decide_eq_false λ e=>m (by rw [e])];exact zqdw0
     .have c:(x.fl !=y.fl)=true:=by simpa using d
      have k:=a;have b:=a;rw [decide_eq_false λ e=>d (by rw [e])];exact zqdw0
    .have c:(x.st !=y.st)=true:=by simpa using i
     have l:=a;have k:=a;have b:=a;rw [decide_eq_false λ e=>i (by rw [e])];exact zqdw0
   .have c:(x.at' !=y.at')=true:=by simpa using h3
    have n:=a;have l:=a;have k:=a;have b:=a;rw [decide_eq_false λ e=>h3 (by rw [e])];exact zqdw0
  .have c:(x.seq !=y.seq)=true:=by simpa using j
   have p:=a;have n:=a;have l:=a;have k:=a;have b:=a;rw [decide_eq_false λ e=>j (by rw [e])];exact zqdw0
 .have c:(!(Gan.eqb x.g y.g))=true:=by
   cases h:Gan.eqb x.g y.g with
   | false=>rfl
   | true=>exact absurd (Gan.eqb_eq.1 h) h1
  have t:=a;have p:=a;have n:=a;have l:=a;have k:=a;have b:=a;rw [decide_eq_false λ e=>h1 (by rw [e])];exact zqdw0
noncomputable abbrev BO:Func:=Tryz.f77
def kU(a b:a6)(o:a.length=b.length)(hs:Sm a)(r:Bool):∀ (m i:Nat),i+m=a.length->decide (a.drop i=b.drop i)=r->
  To E BO (.pure (.ret (.bool r))) (.head (stk BO 0) [(0,.slice 14 (rav a) .no),(1,.slice 14 (rav b) .no),(5,.int .i64 i)] []):=by
 have j:(rav a).length=a.length:=by simp
 have hl:=hs.1;intro m;induction m with
 | zero=>
  intro i l c;exact zqdw2
 | succ m h=>
  intro i l c;have f:i<a.length:=o_;have d:i<b.length:=o_;rw [Aa f,Aa d] at c;have n:=cF f;have k:=cF d;have g:=sZ a[i] b[i] (hs.at f);generalize a[i]=u at n c g;generalize b[i]=v at k c g;have next:=h (i+1) o_
  by_cases h1:u=v
  .rw [decide_eq_true h1] at g;have next:=next (by rw [<-c,h1];exact decide_eq_decide.2 ⟨λ e=>by rw [e],λ e=>(Bg e).2⟩)
   clear h c;refine gV ?_;exact zW
  .rw [decide_eq_false h1] at g;have c:false=r:=by rw [<-c,decide_eq_false λ e=>h1 (Bg e).1]
   subst c;clear h next
   refine gV ?_;exact zW
def sV(a b:a6)(hs:Sm a):aq 77 [.slice 14 (rav a) .no,.slice 14 (rav b) .no] [] (.ret (.bool (decide (a=b)))) []:=by
 have d:(rav a).length=a.length:=by simp
 have c:(rav b).length=b.length:=by simp
 by_cases h1:a.length=b.length
 .have h:(((rav a).length:Int) !=((rav b).length:Int))=false:=by rw [d,c,h1];simp
  have next:=kU a b h1 hs _ a.length 0 o_ (show _=decide (a=b) by rw [Ap,Ap])
  generalize decide (a=b)=r at *
  exact c_ Tryz.f77 λ_=>zW
 .have h:(((rav a).length:Int) !=((rav b).length:Int))=true:=by rw [d,c];simp;omega
  rw [decide_eq_false λ e=>h1 (by rw [e])];exact c_ Tryz.f77 λ_=>zW
noncomputable abbrev BR:Func:=Tryz.f78
def lG(a b:az)(o:a.length=b.length)(hl:a.length<=1048576)(r:Bool):∀ (m i:Nat),i+m=a.length->decide (a.drop i=b.drop i)=r->
  To E BR (.pure (.ret (.bool r))) (.head (stk BR 0) [(0,.slice 1 (fv a) .no),(1,.slice 1 (fv b) .no),(5,.int .i64 i)] []):=by
 have h:(fv a).length=a.length:=by simp
 intro m;induction m with
 | zero=>
  intro i l c;exact zqdw2
 | succ m g=>
  intro i l c;have f:i<a.length:=o_;have d:i<b.length:=o_;rw [Aa f,Aa d] at c;have n:(fv a)[i]? =some (uu a[i]):=by simp [f]
  have k:(fv b)[i]? =some (uu b[i]):=by simp [d]
  generalize a[i]=u at n c;generalize b[i]=v at k c;have next:=g (i+1) o_
  by_cases h1:u=v
  .have j:((u:Int) !=(v:Int))=false:=by simp [h1]
   exact zqdw3
  .have j:((u:Int) !=(v:Int))=true:=by simp;omega
   exact zqdw4
def tG(a b:az)(hl:a.length<=1048576):aq 78 [.slice 1 (fv a) .no,.slice 1 (fv b) .no] [] (.ret (.bool (decide (a=b)))) []:=by
 have d:(fv a).length=a.length:=by simp
 have c:(fv b).length=b.length:=by simp
 by_cases h1:a.length=b.length
 .have h:(((fv a).length:Int) !=((fv b).length:Int))=false:=by rw [d,c,h1];simp
  have next:=lG a b h1 hl _ a.length 0 o_ (show _=decide (a=b) by rw [Ap,Ap])
  generalize decide (a=b)=r at *
  exact c_ Tryz.f78 λ_=>zW
 .have h:(((fv a).length:Int) !=((fv b).length:Int))=true:=by rw [d,c];simp;omega
  rw [decide_eq_false λ e=>h1 (by rw [e])];exact c_ Tryz.f78 λ_=>zW
def iE(a b:Sta):Bool:=(a.now==b.now)&&((a.nxt==b.nxt)&&(C8.sameC a.c b.c&&(decide (a.pend=b.pend)&&(decide (a.run=b.run)&&decide (a.hist=b.hist)))))
def pO:∀ {a b:a7},a.map Pn.q=b.map Pn.q->a=b
 | [],[],_=>rfl
 | [],_::_,h=>by cases h
 | _::_,[],h=>by cases h
 | x::a,y::b,h=>by obtain ⟨h1,c⟩:=Bg h;rw [pO c];obtain ⟨⟨_,_,_,⟨_,_,_⟩,_,_,_⟩,_,_⟩:=x;obtain ⟨⟨_,_,_,⟨_,_,_⟩,_,_,_⟩,_,_⟩:=y;simp only [Pn.q,Q2.Pend.mk.injEq] at h1;obtain ⟨rfl,rfl,rfl,rfl,rfl,rfl,rfl,rfl,rfl,rfl,rfl⟩:=h1;rfl
def jD(a b:Sta)(hs:Sm a.run)(m:a.hist.length<=1048576)(r:Bool)(d:iE a b=r):aq 29 [a.av,b.av] [] (.ret (.bool r)) []:=by
 have h1:=C8.rsame_c a.c b.c;have l:=Q2.same_ok (a.pend.map Pn.q) (b.pend.map Pn.q);rw [show decide (a.pend.map Pn.q=b.pend.map Pn.q)=decide (a.pend=b.pend) from decide_eq_decide.2 ⟨pO,λ e=>by rw [e]⟩,nO,nO] at l;have h3:=sV a.run b.run hs;have o:=tG a.hist b.hist m;unfold iE at d;generalize C8.sameC a.c b.c=q1 at *
 generalize decide (a.pend=b.pend)=q2 at *
 generalize decide (a.run=b.run)=q3 at *
 generalize decide (a.hist=b.hist)=q4 at *
 have n:(true&&false)=false:=rfl;have j:(true&&true)=true:=rfl;cases i:(a.now==b.now) with
 | false=>
  rw [i] at d;have d:false=r:=d;subst d;have k:=i;have i:=j;have h:=j;exact zqdw1
 | true=>
  rw [i] at d;cases h:(a.nxt==b.nxt) with
  | false=>
   rw [h] at d;have d:false=r:=d;subst d;have k:=h;have h:=j;exact zqdw1
  | true=>
   rw [h] at d;have k:=n;cases q1 with
   | false=>
    exact zqdw5
   | true=>
    cases q2 with
    | false=>
     exact zqdw5
    | true=>
     cases q3 with
     | false=>
      exact zqdw5
     | true=>
      have d:q4=r:=d;subst d;exact zqdw1
def dW{c d:Con}:C8.sameC c d=true↔c=d:=by obtain ⟨a,b,e,j⟩:=c;obtain ⟨h,i,g,k⟩:=d;unfold C8.sameC;rw [bS (f:=Nod.eqb) (λ_ _=>Nod.eqb_eq),bS (f:=Hos.eqb) (λ_ _=>Hos.eqb_eq)];simp
def gI(a:Sta):iE a a=true:=by unfold iE;rw [dW.2 rfl];simp
open Go.ChangeShapes Go.WideShapes Go.ChangeAt Go.RowKit
set_option maxRecDepth 100000
section
variable {H:Type} {enc:TypeId×Value->H} {W:World} {r:Reach} {base b0:Nat} {spare:Nat->Bool} {held:Bool} {v:Value} {d:DataW H} {ps:List MemPlace}
def oF(a:Bt Tryz.prog W r b0 3 v):∃ n:Int,Rep (Mw W) [] v (ii n):=by obtain ⟨m,rfl,h⟩:=sY (k:=.i64) (by kernel_rfl) (eB (by kernel_rfl) a);exact ⟨m,.int _ m h⟩
end
abbrev drN(g:aw)(n:Int)(x:aw)(m:Int)(S:Sta):au:=[aO g,.cells tDr [.ref 2 0,.ref 4 0],dkC n (sfV false 3 x) aV false,jnO 2 m,.cells tSt (.ref 3 0::S.cs)]
def iV(g:aw)(n:Int)(S:Sta)(m:Int)(a:aq 59 [.ref 0 0] (.cells tDr [.ref 1 0,pv true]::dkC (min (max n 0) 1048576) (sfV false 2 []) aV false::sfT false++[aO g]) (.ret (ii 0)) (drS false false g (min (max n 0) 1048576) [] m S)):
  aq 18 [ii n] [aO g] (.ret (.ref 1 0)) (drN g (min (max n 0) 1048576) [] m S):=by
 have h1:=gZ n;generalize min (max n 0) 1048576=N at *
 refine cT (E:=E) (fn:=Tryz.f18) (g:=.full 1 _ _) λ_=>?_
 repeat' first | (refine gN hE ?_;conv=>whnf) | refine .pure _ _ h1 ?_ | refine .eff [] [2,1,0] _ _ rfl a ?_ | exact rfl | refine zt ?_ | refine zu ?_ ?_ | intro h | fail
 exact zx [0,2,1,3,4]
def eJ(f f':Bool)(a:f'=true->f=true)(g:aw)(n:Int)(x:aw)(m:Int)(S R:Sta)
  (h1:aq 30 [.ref 0 0] (stS S m f' n x) (.ret R.av) (stS S m f' n x)):
  aq 22 [.ref 0 0] (drS f f' g n x m S) (.ret R.av) (drS f f' g n x m S):=by
 cases f<;>cases f'
 case false.true=>exact absurd (a rfl) d_
 all_goals
  refine cT (E:=E) (fn:=Tryz.f22) (g:=.full _ _ _) λ_=>?_
  repeat' first | (refine gN hE ?_;conv=>whnf) | refine .eff [] [4,3,1] _ _ rfl h1 ?_ | refine .eff [] [5,4,1] _ _ rfl h1 ?_ | refine .eff [] [5,4,1,2] _ _ rfl h1 ?_ | exact zx [0,1,2,3,4] | exact zx [0,1,2,3,4,5] | exact rfl | refine zt ?_ | refine zu ?_ ?_ | intro h | fail
def mH(f:Bool)(g:aw)(n:Int)(x:aw)(m:Int)(S:Sta)(hs:(x.length:Int)<=9223372036854775807):
  aq 37 [.ref 0 0] (drS f f g n x m S) (.ret (.str x)) (drS f f g n x m S):=by
 have h1:=kF f n x hs;cases f
 all_goals
  refine cT (E:=E) (fn:=Tryz.f37) (g:=.full _ _ _) λ_=>?_
  repeat' first | (refine gN hE ?_;conv=>whnf) | refine .eff [] [1] _ _ rfl h1 ?_ | refine .eff [] [1,2] _ _ rfl h1 ?_ | exact zx [0,1,2,3,4] | exact zx [0,1,2,3,4,5] | exact rfl | refine zt ?_ | refine zu ?_ ?_ | intro h | fail
def aZ:bf->Kst->Kst
 | [],t=>t
 | p::l,t=>aZ l (aG t p).1
def cC:bf->Kst->List (bb×Int)
 | [],_=>[]
 | p::l,t=>(aG t p).2::cC l (aG t p).1
def U6:∀ (l:bf) (t:Kst),(cC l t).length=l.length
 | [],_=>rfl
 | p::l,t=>by rw [cC,Ak,Ak,U6 l]
def kI{t:Kst}{c:Cmd}{S:Sta}{ev:bb}(n:Int)(k:Nat)(m:Int)(h:aC t.s c=(S,ev,0))(h1:c.il.length<=k)(j:∀ n∈c.il,n<=9223372036854775807)(l:k<=1000)(g:gT t (m+10*k+9))(hm:0<=m)(b:Bool)(a:if b=true then 10*(k:Int)+9<=n else n<8):
  ∃ d i,aG t ⟨4,c,n⟩=(⟨d,i,if b=true then S else t.s⟩,[],0)/\gT ⟨d,i,if b=true then S else t.s⟩ m:=by
 have hl:=FJ c k h1 j;have f:=g;unfold gT at g;have q:iD t.d (Rec.b (.c c))=0:=by unfold iD;rw [if_neg o_,if_neg o_]
 have u:wrE t c=0:=by unfold wrE;rw [h,if_neg s_,q]
 have o:aG t ⟨4,c,n⟩=if wrE t c≠0 then (t,[],wrE t c) else (if E8 c n then (doS t c).1 else t,[],0):=rfl
 rw [o,if_neg (by simpa using u)];cases b with
 | true=>
  have a:10*(k:Int)+9<=n:=a;obtain ⟨d,i,e,_,p⟩:=fL (t:=t) n k m h h1 j l f hm;have e:doS t c=_:=e;have r:E8 c n=true:=decide_eq_true o_;rw [if_pos r,e];exact ⟨d,i,rfl,p⟩
 | false=>
  have a:n<8:=a;rw [if_neg (by unfold E8;simp;omega)];exact ⟨t.d,t.n,rfl,by unfold gT;show (t.d.safe.length:Int)+m<=t.d.size;omega⟩
def qT:bf:=[tk 1 1 0,tk 4 2 3,tk 4 4 100000,⟨2,Cmd.zero,0⟩,⟨9,Cmd.zero,0⟩]
def aS(n:Int):Sta:={cA with now:=n}
def NW:aC cA (aW 1)=(aS 1,[],0):=by decide+kernel
def NV:aC (aS 1) (aW 2)=(aS 3,[],0):=by decide+kernel
def aDK:aC (aS 1) (aW 4)=(aS 5,[],0):=by decide+kernel
def aDJ:aC cA (aW 7)=(aS 7,[],0):=by decide+kernel
def w27:∃ e:Int,cC qT (bC 1000)=[([],0),([],0),([],0),([],e),([],1)]/\(aZ qT (bC 1000)).s=aS 5:=by
 obtain ⟨h,i,a,_,o⟩:=fL (t:=bC 1000) (c:=aW 1) 0 2 900 NW d_ d_ d_ (by show ((0:Nat):Int)+_<=_;decide);obtain ⟨g,f,b,n⟩:=kI (t:=⟨h,i,aS 1⟩) (c:=aW 2) 3 2 800 NV d_ d_ d_ (by unfold gT at *;dsimp only at *;omega) d_ false d_;obtain ⟨l,k,d,p⟩:=kI (t:=⟨g,f,aS 1⟩) (c:=aW 4) 100000 2 700 aDK d_ d_ d_ (by unfold gT at *;dsimp only at *;omega) d_ true d_;refine ⟨gD ⟨l,k,aS 5⟩,?_⟩;have a:aG (bC 1000) (tk 1 1 0)=_:=a;have b:aG ⟨h,i,aS 1⟩ (tk 4 2 3)=(⟨g,f,aS 1⟩,[],0):=b;have d:aG ⟨g,f,aS 1⟩ (tk 4 4 100000)=(⟨l,k,aS 5⟩,[],0):=d;have j:∀ t,aG t ⟨2,Cmd.zero,0⟩=(kT t,[],gD t):=λ_=>rfl;have m:∀ t,aG t ⟨9,Cmd.zero,0⟩=(t,[],1):=λ_=>rfl;constructor
 .simp only [qT,cC,a,b,d,j,m]
 .simp only [qT,aZ,a,b,d,j,m,FD]
def GP(n:Nat)(h:n<128):C8.encB (aW n)=[5,Dj n]:=by
 have p:∀ k:Nat,k<128->C8.putN k=[Dj k]:=λ k b=>by rw [C8.putN,if_pos b]
 unfold C8.encB
 rw [if_pos (by
  have a:C8.chkL (aW n)=0:=rfl;have c:okI [(n:Int)]=true:=by simp only [okI,pG,Af,decide_eq_true_eq,and_true];omega
  show (if E3.tok=true then (if Gan.zero.ok=true then (if okI [(n:Int)]=true then C8.chkL (aW n) else 1) else 1) else 1)=0
  rw [if_pos d_,if_pos d_,if_pos c,a])]
 show C8.putN 5++(C8.putN (n:Int).toNat++[])=_;rw [Br,p 5 d_,p n h];rfl
def aDg:∃ d i,aG (bC 1000) (tk 1 7 0)=(⟨d,i,aS 7⟩,[],0)/\d.safe.length=11:=by obtain ⟨d,i,e,a,_⟩:=fL (t:=bC 1000) (c:=aW 7) 0 2 900 aDJ d_ d_ d_ (by show ((0:Nat):Int)+_<=_;decide);refine ⟨d,i,e,?_⟩;subst a;show (([]:aw)++frm ((67:UInt8)::C8.encB (aW (7:Nat)))).length=11;rw [GP 7 d_,Bp,dT];rfl
def cO(n:Int)(g:aw):aq 18 [ii n] [aO g] (.ret (.ref 1 0)) (drN g (bC n).d.size [] 0 cA):=iV g n cA 0 ((kb0 n).dop true false g)
def KB.stt{t:Kst}{k:Nat}(h:KB t k)(f:Bool)(g:aw):aq 22 [.ref 0 0] (drS f f g t.d.size t.d.safe t.n t.s) (.ret t.s.av) (drS f f g t.d.size t.d.safe t.n t.s):=by have a:=h.sap Cmd.zero (λ e=>by cases e);have h1:=kJ t.s _ a t.n f t.d.size t.d.safe;rw [(nJ t.s).1] at h1;exact eJ f f id g _ _ _ _ _ h1
def KB.dsk{t:Kst}{k:Nat}(h:KB t k)(f:Bool)(g:aw):aq 37 [.ref 0 0] (drS f f g t.d.size t.d.safe t.n t.s) (.ret (.str t.d.safe)) (drS f f g t.d.size t.d.safe t.n t.s):=mH f g _ _ _ _ (by have:=h.lens;omega)
abbrev stv(l:bf):ay:=l.map Kstp.av
def AH{n:Nat}{cs:ay}(h:TyN Tryz.prog 1048576 (n+7) 60 cs):∃ p:Kstp,cs=p.cs/\CmSm p.x:=by unfold TyN at h;rw [Tryz.underlying60] at h;obtain ⟨e,r,rfl,a,f,r,rfl,h1,d,r,rfl,b,rfl⟩:=h;obtain ⟨k,rfl⟩:=fM a;obtain ⟨x,rfl,c⟩:=D0 (n:=n) h1;obtain ⟨m,rfl⟩:=fM b;exact ⟨⟨k,x,m⟩,rfl,c⟩
section
variable {H:Type} {enc:TypeId×Value->H} {W:World} {r:Reach} {base b0:Nat} {spare:Nat->Bool} {held:Bool} {v:Value} {d:DataW H} {ps:List MemPlace}
def mA(f:Bt Tryz.prog W r b0 53 v)(h:DataW.Trod enc Tryz.prog W base spare held 53 v d ps)(e:Rows.uptoBulk d<=1048576):∃ l:bf,Rep (Mw W) [] v (.slice 17 (stv l) .no)/\l.length<=1048576/\∀ x∈l,CmSm x.x:=by
 obtain ⟨xs,b,i,a⟩:=eO (n:=7) (EF H 1048576) Tryz.underlying53 (by kernel_rfl) f h e;have c:Tryz.prog.cellsOf 60=17:=by kernel_rfl
 obtain ⟨l,rfl,hl⟩:=B8 (av:=Kstp.av) (Q:=λ p=>CmSm p.x) (P:=λ x=>x∈xs) (λ x hm=>by
  obtain ⟨cs,rfl⟩:=(a x hm).2.1 (by kernel_rfl);obtain ⟨p,hp,g⟩:=AH (n:=0) (a _ hm).1
  exact ⟨p,by unfold Kstp.av;rw [<-hp];rfl,g⟩) xs λ x hm=>hm
 rw [c] at b;exact ⟨l,b,by simpa using i,hl⟩
end
noncomputable abbrev fPl:Func:=Tryz.f35
abbrev JQ(a:bb×Int):aa:=sJ a.1 a.2
abbrev anv(l:List (bb×Int)):ay:=l.map JQ
abbrev sN:ab:=uT
abbrev plO(f:Bool)(g:aw)(t:Kst):au:=match f with
 | true=>[aO g,sN,.cells tDr [.ref 3 0,.ref 6 0],dkC t.d.size (sfV true 4 t.d.safe) aV false,.tail 0 1 5,jnO 3 t.n,.cells tSt (.ref 5 0::t.s.cs),.tail 0 2 63]
 | false=>[aO g,sN,.cells tDr [.ref 3 0,.ref 5 0],dkC t.d.size (sfV false 4 t.d.safe) aV false,jnO 3 t.n,.cells tSt (.ref 4 0::t.s.cs),.tail 0 2 63]
abbrev plN(f:Bool):Nat:=match f with | true=>7 | false=>6
def kZ(L:bf)(z:L.length<=57)(o:∀ p∈L,p.x.c.sm)(g:aw)(R:Kst)(A:List (bb×Int)):∀ (m i:Nat) (t:Kst) (bs:List (bb×Int)) (f:Bool),i+m=L.length->bs.length=i->KB t i->aZ (L.drop i) t=R->bs++cC (L.drop i) t=A->
  To (Eo [7] []) fPl (.full 1 (.ret (.tup [.slice 2 (anv A) .no,R.s.av])) [aO g]) (.head (stk fPl 0) [(5,.ref 1 0),(6,.ref 2 0),(7,.slice 2 (anv bs) (.own (plN f) 0)),(12,.slice 17 (stv L) .no),(13,.int .i64 ((stv L).length:Nat)),(14,ii i)] (plO f g t)):=by
 have u:(stv L).length=L.length:=by simp
 intro m;induction m with
 | zero=>
  intro i t bs f w y j b a;rw [Ab o_] at b a;have b:t=R:=b;have a:bs++[]=A:=a;rw [Ar] at a;subst b a;have hs:=j.stt f g;clear j;cases f
  .refine gV ?_;refine aF λ h=>?_
   repeat' first | (refine gN (hEo [7] []) ?_;conv=>whnf) | refine .eff [] [2,3,0,4,5] _ _ rfl hs ?_ | exact zx [0] | exact rfl | refine zt ?_ | refine zu ?_ ?_ | intro h | fail
  .refine gV ?_;refine aF λ h=>?_
   repeat' first | (refine gN (hEo [7] []) ?_;conv=>whnf) | refine .eff [] [2,3,4,0,5,6] _ _ rfl hs ?_ | exact zx [0] | exact rfl | refine zt ?_ | refine zu ?_ ?_ | intro h | fail
 | succ m q=>
  intro i t bs f w y j b a;have d:i<L.length:=o_;rw [Aa d] at b a;have get:(stv L)[i]? =some L[i].av:=by simp [d]
  have hp:=o L[i] (Ax d);generalize L[i]=p at b a get hp;have hd:=j.dr o_ f g p (λ_=>hp);have k:=j.step o_ p (λ_=>hp);have next:=q (i+1) (aG t p).1 (bs++[(aG t p).2])
  have v:anv (bs++[(aG t p).2])=anv bs++[sJ (aG t p).2.1 (aG t p).2.2]:=by simp
  rw [v] at next
  have l:(anv bs).length<=1048576:=by simp;omega
  replace next:=λ f=>next f o_ q_ k b (by rw [Ag];exact a)
  generalize aG t p=r at *
  obtain ⟨B,ev,e⟩:=r;dsimp only at *
  clear q b a v j k o hp;cases f
  all_goals
   cases hd
  all_goals
   rename_i n;refine gV ?_;refine aT λ h=>?_
   repeat' first | (refine gN (hEo [7] []) ?_;conv=>whnf) | refine ⟨i,rfl,?_⟩ | refine ⟨_,get,?_⟩ | refine .eff [] [2,3,0,4,5] _ _ rfl n ?_ | refine .eff [] [2,3,4,0,5,6] _ _ rfl n ?_ | refine Ae (lH l d_) ?_ | exact rfl | refine zt ?_ | refine zu ?_ ?_ | intro h | fail
   first
    | exact To.part [5,6,7,12,13,14] [0,1,2,3,4,5,6] rfl rfl rfl (next false)
    | exact To.part [5,6,7,12,13,14] [0,1,2,3,8,4,5,6] rfl rfl rfl (next true)
    | exact To.part [5,6,7,12,13,14] [0,1,2,3,8,9,6] rfl rfl rfl (next false)
    | exact To.part [5,6,7,12,13,14] [0,1,2,3,8,9,10,6] rfl rfl rfl (next true)
    | exact To.part [5,6,7,12,13,14] [0,1,2,3,9,10,6] rfl rfl rfl (next false)
    | exact To.part [5,6,7,12,13,14] [0,1,2,3,4,5,6,7] rfl rfl rfl (next true)
    | exact To.part [5,6,7,12,13,14] [0,1,2,3,5,6,7] rfl rfl rfl (next false)
    | exact To.part [5,6,7,12,13,14] [0,1,2,3,4,9,10,7] rfl rfl rfl (next true)
    | exact To.part [5,6,7,12,13,14] [0,1,2,3,9,10,7] rfl rfl rfl (next false)
def jV(n:Int)(L:bf)(a:L.length<=57)(d:∀ p∈L,p.x.c.sm)(g:aw):
  aq 35 [ii n,.slice 17 (stv L) .no] [aO g] (.ret (.tup [.slice 2 (anv (cC L (bC n))) .no,(aZ L (bC n)).s.av])) [aO g]:=by
 have h:=kZ L a d g (aZ L (bC n)) (cC L (bC n)) L.length 0 (bC n) [] false o_ rfl (kb0 n) (by rw [Ap]) (by rw [Ap];rfl);have b:=cO n g;generalize aZ L (bC n)=R at *
 generalize cC L (bC n)=A at *
 refine cT (E:=(Eo [7] [])) (fn:=Tryz.f35) (g:=.full 1 _ _) λ_=>?_
 repeat' first | (refine gN (hEo [7] []) ?_;conv=>whnf) | refine .eff [] [0] _ _ rfl b ?_ | exact rfl | refine zt ?_ | refine zu ?_ ?_ | intro h | fail
 refine To.part [5,6,7,12,13,14] [0,1,2,3,4,5,6] rfl rfl rfl ?_;exact h
def qZ(k n p:Int):aq 82 [ii k,ii n,ii p] [] (.ret (Kstp.av ⟨k,aW n,p⟩)) []:=by exact c_ Tryz.f82 λ_=>zW
def KB.sd1{t:Kst}{k:Nat}(h:KB t k)(f:Bool)(c:Cmd)(a:c.k=1->c.c.sm){d:Dk}{i:Int}{S:Sta}{ev:bb}(e:doS t c=(⟨d,i,S⟩,ev,0)):
  aq 27 [.ref 0 0,c.av] (stS t.s t.n f t.d.size t.d.safe) (.ret (.tup [.slice 3 (evv ev) .no,ii 0])) (stG S i f d.size d.safe):=by
 by_cases q:(aC t.s c).2.2=0
 .by_cases b:iD t.d (crB c)=0
  .have h1:=(h.do_ok c a f q b).1;rw [wH q b] at e;simp only [Ha,Kst.mk.injEq] at e;obtain ⟨⟨rfl,rfl,rfl⟩,rfl,_⟩:=e;exact h1
  .have:=(h.do_e c a f (.inr b)).2.2.2.2.2;rw [e] at this;exact absurd rfl this
 .have:=(h.do_e c a f (.inl q)).2.2.2.2.2;rw [e] at this;exact absurd rfl this
def gS(t:Kst)(c:Cmd):(doS t c).1.d.size=t.d.size:=by
 unfold doS;split
 .rfl
 split<;>rfl
def KB.dr1{t:Kst}{k:Nat}(h:KB t k)(f:Bool)(g:aw)(c:Cmd)(a:c.k=1->c.c.sm)(n:Int){d:Dk}{i:Int}{S:Sta}{ev:bb}(e:aG t ⟨1,c,n⟩=(⟨d,i,S⟩,ev,0)):cDo f g t ⟨1,c,n⟩ (sJ ev 0) (drG f g d.size d.safe i S):=by
 have h1:=h.sd1 f c a e;have hz:d.size=t.d.size:=by have:=gS t c;rw [show doS t c=_ from e] at this;exact this
 rw [hz] at h1⊢;exact B0 f g _ _ _ _ _ _ _ _ c n h1
def zX:∀ p∈qT,p.x.c.sm:=by intro p hp;refine ⟨?_,?_⟩<;>(revert p;decide)
set_option maxHeartbeats 1000000 in
def kG(g:aw):aq 34 [] [aO g] (.ret (.bool true)) [aO g]:=by
 obtain ⟨e,k,m⟩:=w27;obtain ⟨d,i,j,b⟩:=aDg;have hp:=jV 1000 qT d_ zX g;rw [k,m] at hp;have o:=cO 1000 g;have c:=kb0 1000;have hd:=c.dr1 false g (aW 7) (λ h=>by cases h) 0 j;have a:=c.step d_ (tk 1 7 0) (λ h=>by cases h);rw [j] at a;have hs:=a.stt true g;have l:=a.dsk true g;have h1:=qZ;clear c a k m j;dsimp only at hs l;generalize d.safe=x at *
 generalize d.size=n at *
 iterate 11 (rcases x with _ | ⟨_,x⟩;· simp at b)
 rcases x with _ | ⟨_,x⟩
 rotate_left
 .simp at b
 clear b;refine cT (E:=E) (fn:=Tryz.f34) (g:=.full 1 _ _) λ_=>?_
 repeat' first | (refine gN hE ?_;conv=>whnf) | refine .pure _ [] (h1 _ _ _) ?_ | refine .eff [] [0] _ _ rfl (aA.strip hp) ?_ | refine .eff [] [0] _ _ rfl o ?_ | refine .eff [] [2,3,0,4,5] _ _ rfl hd ?_ | refine .eff [] [2,3,6,0,4,5] _ _ rfl hs ?_ | refine .eff [] [2,3,6,0,4,5] _ _ rfl l ?_ | exact zx [0] | exact rfl | refine zt ?_ | refine zu ?_ ?_ | intro h | fail
def wgt(c:Con):Int:=1+((nav c.ns).length:Nat)+((hav c.hs).length:Nat)
def smR(M:Int):List Con->Int->Int
 | [],n=>n
 | c::l,n=>if n<M then smR M l (n+wgt c) else n
def uW{c:Con}(h:c.sm):1<=wgt c/\wgt c<=2097153:=by
 have l1:(nav c.ns).length=c.ns.length:=by simp
 have l2:(hav c.hs).length=c.hs.length:=by simp
 have:=h.ns;have:=h.hs;unfold wgt;omega
noncomputable abbrev fSm:Func:=Tryz.f19
def kB(l:bf)(n:Int):Int:=if n<500/\l.length<=40 then 1 else 0
def oB(L:bf)(i:Nat)(n:Int)(h:L.length<=i\/500<=n)(c:i<=1048576):To E fSm (.pure (.ret (ii (kB L n)))) (.head (stk fSm 0) [(0,.slice 17 (stv L) .no),(3,ii n),(4,ii i)] []):=by
 have a:(stv L).length=L.length:=by simp
 by_cases b:n<500
 .by_cases hl:L.length<=40
  .rw [show kB L n=1 from if_pos ⟨b,hl⟩];refine gV ?_
   repeat' first | (refine gN hE ?_;conv=>whnf) | exact rfl | refine zt ?_ | refine zu ?_ ?_ | intro h | fail
  .rw [show kB L n=0 from if_neg λ h=>hl h.2];refine gV ?_
   repeat' first | (refine gN hE ?_;conv=>whnf) | exact rfl | refine zt ?_ | refine zu ?_ ?_ | intro h | fail
 .rw [show kB L n=0 from if_neg λ h=>b h.1];by_cases c:L.length<=i
  .refine gV ?_
   repeat' first | (refine gN hE ?_;conv=>whnf) | exact rfl | refine zt ?_ | refine zu ?_ ?_ | intro h | fail
  .refine gV ?_
   repeat' first | (refine gN hE ?_;conv=>whnf) | exact rfl | refine zt ?_ | refine zu ?_ ?_ | intro h | fail
def sU(L:bf)(o:L.length<=1048576)(j:∀ p∈L,p.x.c.sm)(R:Int):∀ (m i:Nat) (n:Int),i+m=L.length->0<=n->n<=3000000->smR 500 ((L.drop i).map λ p=>p.x.c) n=R->
  To E fSm (.pure (.ret (ii (kB L R)))) (.head (stk fSm 0) [(0,.slice 17 (stv L) .no),(3,ii n),(4,ii i)] []):=by
 have f:(stv L).length=L.length:=by simp
 intro m;induction m with
 | zero=>
  intro i n k _ _ a;rw [Ab o_] at a;have a:n=R:=a;subst a;exact oB L i n (.inl o_) o_
 | succ m e=>
  intro i n k q h1 a;have b:i<L.length:=o_;rw [Aa b] at a;have get:(stv L)[i]? =some L[i].av:=by simp [b]
  have hp:=j L[i] (Ax b);generalize L[i]=p at a get hp;rw [Bj] at a;unfold smR at a;by_cases d:n<500
  .rw [if_pos d] at a;obtain ⟨g,l⟩:=uW hp;have next:=e (i+1) (n+wgt p.x.c) o_ o_ o_ a
   have l1:(nav p.x.c.ns).length=p.x.c.ns.length:=by simp
   have l2:(hav p.x.c.hs).length=p.x.c.hs.length:=by simp
   have r:=hp.ns;have s:=hp.hs;unfold wgt at next
   clear e a g l;refine gV ?_
   repeat' first | (refine gN hE ?_;conv=>whnf) | refine ⟨i,rfl,?_⟩ | refine ⟨_,get,?_⟩ | exact rfl | refine zt ?_ | refine zu ?_ ?_ | intro h | fail
   refine To.part [0,3,4] [] rfl rfl rfl ?_;exact next
  .rw [if_neg d] at a;subst a;exact oB L i n (.inr o_) o_
def kA(L:bf)(a:L.length<=1048576)(b:∀ p∈L,p.x.c.sm):∃ r:Int,(r=0\/r=1/\L.length<=40)/\aq 19 [.slice 17 (stv L) .no] [] (.ret (ii r)) []:=by
 refine ⟨kB L (smR 500 (L.map λ p=>p.x.c) 0),?_,?_⟩
 .unfold kB;split
  .rename_i h;exact .inr ⟨rfl,h.2⟩
  .exact .inl rfl
 .have next:=sU L a b _ L.length 0 0 o_ d_ d_ (by rw [Ap])
  generalize smR 500 (L.map λ p=>p.x.c) 0=R at *
  refine c_ Tryz.f19 λ_=>?_
  repeat' first | (refine gN hE ?_;conv=>whnf) | exact rfl | refine zt ?_ | refine zu ?_ ?_ | intro h | fail
  refine To.part [0,3,4] [] rfl rfl rfl ?_;exact next
noncomputable abbrev fWh:Func:=Tryz.f7
abbrev whO(f:Bool)(g:aw)(t:Kst)(R:Sta):au:=match f with
 | true=>[aO g,.cells tDr [.ref 2 0,.ref 5 0],dkC t.d.size (sfV true 3 t.d.safe) aV false,.tail 0 1 5,jnO 2 t.n,.cells tSt (.ref 4 0::t.s.cs),.cells 31 R.cs]
 | false=>[aO g,.cells tDr [.ref 2 0,.ref 4 0],dkC t.d.size (sfV false 3 t.d.safe) aV false,jnO 2 t.n,.cells tSt (.ref 3 0::t.s.cs),.cells 31 R.cs]
abbrev whN(f:Bool):Nat:=match f with | true=>6 | false=>5
def aOg{t:Kst}{k:Nat}(h:KB t k)(c:Cmd)(a:c.k=1->c.c.sm):(doS t c).2.1.length<=1000000:=by
 unfold doS;split
 .simp
 split
 .simp
 .exact (aNd (h.okT.ok.st h.okT.lt) h.okT.small.1 c a).2.2
def aIq{t:Kst}{k:Nat}(h:KB t k)(p:Kstp)(a:p.x.k=1->p.x.c.sm):(aG t p).2.1.length<=1000000:=by
 have h1:=aOg h p.x a;unfold aG;split
 .exact h1
 split
 .simp
 split
 .split<;>simp
 split<;>simp
set_option maxHeartbeats 2000000 in
def aHW(L:bf)(J:L.length<=57)(y:∀ p∈L,p.x.c.sm)(g:aw)(R:Sta)(A:List (bb×Int))(C:OkT R):∀ (m i:Nat) (t:Kst) (f:Bool),i+m=L.length->KB t i->(aZ (L.drop i) t).s=R->cC (L.drop i) t=A.drop i->
  To E fWh (.full 1 (.ret (.bool true)) [aO g]) (.head (stk fWh 0) [(1,.slice 17 (stv L) .no),(5,.ref 1 0),(6,.slice 2 (anv A) .no),(7,.ref (whN f) 0),(8,ii i)] (whO f g t R)):=by
 have F:(stv L).length=L.length:=by simp
 have G:=kG g;intro m;induction m with
 | zero=>
  intro i t f I j a b;rw [Ab o_] at a;have a:t.s=R:=a;have hs:=j.stt f g;have hm:=jD R R C.small.1 C.small.2 true (gI R);rw [a] at hs;clear j b;obtain ⟨d,n,s⟩:=t;have a:s=R:=a;subst a;cases f
  .refine gV ?_;refine aF λ h=>?_
   repeat' first | (refine gN hE ?_;conv=>whnf) | refine .look [1,2,0,3,4] _ _ rfl rfl hs (λ_=>rfl) (λ_=>rfl) ?_ | refine .pure _ [] hm ?_ | refine .look [0] _ _ rfl rfl G (λ_=>rfl) (λ_=>rfl) ?_ | exact zx [0] | exact rfl | refine zt ?_ | refine zu ?_ ?_ | intro h | fail
  .refine gV ?_;refine aF λ h=>?_
   repeat' first | (refine gN hE ?_;conv=>whnf) | refine .look [1,2,3,0,4,5] _ _ rfl rfl hs (λ_=>rfl) (λ_=>rfl) ?_ | refine .pure _ [] hm ?_ | refine .look [0] _ _ rfl rfl G (λ_=>rfl) (λ_=>rfl) ?_ | exact zx [0] | exact rfl | refine zt ?_ | refine zu ?_ ?_ | intro h | fail
 | succ m D=>
  intro i t f I j a b;have k:i<L.length:=o_;rw [Aa k] at a b;have get:(stv L)[i]? =some L[i].av:=by simp [k]
  have hp:=y L[i] (Ax k);generalize L[i]=p at a b get hp;have hd:=j.dr o_ f g p (λ_=>hp);have l:=j.step o_ p (λ_=>hp);have u:=aIq j p (λ_=>hp);have next:=D (i+1) (aG t p).1
  have b:(aG t p).2::cC (L.drop (i+1)) (aG t p).1=A.drop i:=b;have q:i<A.length:=by have:=congrArg Ko b;simp at this;omega
  rw [Aa q] at b;obtain ⟨v,z⟩:=Bg b;have o:(anv A)[i]? =some (sJ (aG t p).2.1 (aG t p).2.2):=by rw [v];simp [q]
  replace next:=λ f=>next f o_ l a z
  generalize aG t p=r at *
  obtain ⟨K,ev,e⟩:=r;dsimp only at *
  have h3:=aN2 ev ev o_;have B:decide (ev=ev)=true:=decide_eq_true rfl;rw [B] at h3;clear D b v z j l y hp a u B;have H:(e !=e)=false:=by simp
  cases f
  all_goals
   cases hd
  all_goals
   rename_i w;refine gV ?_;refine aT λ h=>?_
   repeat' first | (refine gN hE ?_;conv=>whnf) | refine ⟨i,rfl,?_⟩ | refine ⟨_,get,?_⟩ | refine .eff [] [1,2,0,3,4] _ _ rfl w ?_ | refine .eff [] [1,2,3,0,4,5] _ _ rfl w ?_ | refine ⟨_,o,?_⟩ | refine .pure _ [] h3 ?_ | refine zF H ?_ | exact rfl | refine zt ?_ | refine zu ?_ ?_ | intro h | fail
   first
    | exact To.part [1,5,6,7,8] [0,1,2,3,4,5] rfl rfl rfl (next false)
    | exact To.part [1,5,6,7,8] [0,1,2,6,3,4,5] rfl rfl rfl (next true)
    | exact To.part [1,5,6,7,8] [0,1,2,6,7,5] rfl rfl rfl (next false)
    | exact To.part [1,5,6,7,8] [0,1,2,6,7,8,5] rfl rfl rfl (next true)
    | exact To.part [1,5,6,7,8] [0,1,2,7,8,5] rfl rfl rfl (next false)
    | exact To.part [1,5,6,7,8] [0,1,2,3,4,5,6] rfl rfl rfl (next true)
    | exact To.part [1,5,6,7,8] [0,1,2,4,5,6] rfl rfl rfl (next false)
    | exact To.part [1,5,6,7,8] [0,1,2,3,7,8,6] rfl rfl rfl (next true)
    | exact To.part [1,5,6,7,8] [0,1,2,7,8,6] rfl rfl rfl (next false)
def aCD(n:Int)(L:bf)(j:L.length<=1048576)(a:∀ p∈L,p.x.c.sm)(g:aw):aq 7 [ii n,.slice 17 (stv L) .no] [aO g] (.ret (.bool true)) [aO g]:=by
 obtain ⟨r,m,hs⟩:=kA L j a;have v:=kG g;have i:=cO n g;rcases m with rfl | ⟨rfl,hl⟩
 .refine cT (E:=E) (fn:=Tryz.f7) (g:=.full 1 _ _) λ_=>?_
  repeat' first | (refine gN hE ?_;conv=>whnf) | refine .eff [] [0] _ _ rfl i ?_ | refine .pure _ [] hs ?_ | refine .eff [] [0] _ _ rfl v ?_ | exact zx [0] | exact rfl | refine zt ?_ | refine zu ?_ ?_ | intro h | fail
 .have hp:=jV n L o_ a g;have b:=kb0 n;have key:∀ (l:bf) (t:Kst) (k:Nat),KB t k->k+l.length<=57->(∀ p∈l,p.x.c.sm)->OkT (aZ l t).s:=by
   intro l;induction l with
   | nil=>intro t k h _ _;exact h.okT
   | cons p l u=>
    intro t k h hl a;exact u _ (k+1) (h.step (by simp at hl;omega) p (λ_=>a p (Ao ..))) (by simp at hl;omega) (λ q d=>a q (Av _ d))
  have o:=key L (bC n) 0 b o_ a;have next:=aHW L o_ a g (aZ L (bC n)).s (cC L (bC n)) o L.length 0 (bC n) false o_ b (by rw [Ap]) (by rw [Ap,Ap])
  have d:(((anv (cC L (bC n))).length:Nat):Int)=((stv L).length:Nat):=by simp [U6]
  have e:((((anv (cC L (bC n))).length:Nat):Int) !=((stv L).length:Nat))=false:=by rw [d];simp
  generalize (aZ L (bC n)).s=R at *
  generalize cC L (bC n)=A at *
  refine cT (E:=E) (fn:=Tryz.f7) (g:=.full 1 _ _) λ_=>?_
  repeat' first | (refine gN hE ?_;conv=>whnf) | refine .eff [] [0] _ _ rfl i ?_ | refine .pure _ [] hs ?_ | refine .eff [] [0] _ _ rfl hp ?_ | refine zF e ?_ | exact rfl | refine zt ?_ | refine zu ?_ ?_ | intro h | fail
  refine To.part [1,5,6,7,8] [0,1,2,3,4,5] rfl rfl rfl ?_;exact next
end Go.Proofs.YtidhfoefaomodaaGreatDoor
