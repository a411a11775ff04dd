/- Part 13 of what the statement rests on. -/
import Derived.Test.YtenkdioaefckoaaGreatDoorTP
set_option linter.all false
set_option maxHeartbeats 2000000
open Go.AW.Res renaming ret->Io
open Go.AW.St renaming head->G0
open Go.AW.Tk renaming no->J0
open Go.AW.aa renaming agg->He,bool->DA,int->GE,ref->G2,slice->CA
open Go.IntKind renaming i64->Is
open List renaming length->Z
open Bool renaming true->O,false->S
open Option renaming some->X
open Bool renaming true_and->Bt
open List renaming drop_eq_getElem_cons->Ac,drop_eq_nil_of_le->Ae,drop_zero->Bz,length_filter_le->Dw,mem_cons_of_mem->Az,mem_cons_self->Aw
set_option maxRecDepth 10000
namespace Go.Proofs.YtenkdioaefckoaaGreatDoor
variable{P:Prop}
open Go.Proofs.Tryz
open Go Go.AW Go.Proofs
def zqtc0(h:P:=by
 unfold sdF at h3
 exact c_ f14 λ_=>zW):P:=h
def zqtc1(h:P:=by exact c_ f46 λ_=>zW):P:=h
def zqtc2(h:P:=by
 subst a
 exact c_ f44 λ_=>zW):P:=h
def zqtc3(h:P:=by exact c_ f45 λ_=>zW):P:=h
def zqtc4(h:P:=by
 intro i o c;rw[Ae o_,Ae o_]at c;subst c;refine gV ?_
 exact zW):P:=h
def zqtc5(h:P:=by
 rw[C8.eqL_len (by intro e;rw[c,d,e]at h;simp at h)]
 refine gW hE ?_;conv=>whnf):P:=h
def aKa:bj 10 [] (Sta.av ⟨⟨[],[],0,0⟩,0,1,[],[],[]⟩):=by exact c_ f10 λ_=>zW
def aPe{s:Sta}(h:StOK s)(hs:Sm s.run)(x:Cmd)(i:x.k=1->x.c.sm):Sm (aG s x).1.run/\Z (aG s x).1.hist<=1048576/\Z (aG s x).2.1<=1000000:=by
 have a:=h.run.ord.hl
 have fl:∀q:Rn->Bool,Sm (s.run.filter q):=λq=>⟨Nat.le_trans (Dw _ _) hs.1,λx f=>hs.2 x (List.mem_filter.1 f).1⟩
 have same:Sm s.run/\Z s.hist<=1048576/\Z ([]:bh)<=1000000:=⟨hs,a,by simp⟩
 unfold aG;split
 .exact same
 split
 .rename_i d;split
  .exact same
  .split
   .exact same
   .refine ⟨hs,?_,by simp⟩;show Z (List.replicate _ _)<=_;rw[List.length_replicate];exact(i d).ns
 split
 .have:(dJ s x.g).1.hist=s.hist/\(dJ s x.g).1.run=s.run:=by
   unfold dJ
   grind
  rw[this.1,this.2];exact same
 split
 .unfold iH;split
  .exact same
  .split
   .exact same
   .refine ⟨fl _,?_,?_⟩
    .show (Z (tkL _ _ _ _))<=_;unfold tkL;rw[kG];exact a
    .show (Z (lH _ _))<=_;unfold lH;rw[List.length_map];have:=Dw (λx=>decide (dG x<=s.now+x.g.id)) s.run;refine Nat.le_trans (Dw _ _) ?_;have:=h.run.base.few;simp at this;omega
 split
 .obtain ⟨h1,b⟩:=yQ h.run.base (rA s) _ h.run.start;refine⟨h1.sm h.run.base,?_,?_⟩
  .have e:(lX s).s.hist=s.hist:=h1.hist
   grind
  .have b:Z (lX s).ev+100*0<=900000:=b;show Z (lX s).ev<=_;omega
 split
 .exact ⟨fl _,a,by simp⟩
 split
 .exact same
 .exact ⟨hs,a,by simp⟩
def Pn.eqb_eq{x y:Pn}:x.eqb y=O↔x=y:=by obtain⟨⟨_,_,_,⟨_,_,_⟩,_,_,_⟩,_,_⟩:=x;obtain⟨⟨_,_,_,⟨_,_,_⟩,_,_,_⟩,_,_⟩:=y;simp[Pn.eqb,and_assoc]
def aHM(a b:ba)(j:Z a=Z b)(hl:Ig (Z (pnv a)))(r:Bool):∀(n i:Nat),i+n=Z a->C8.eqL Pn.eqb (a.drop i) (b.drop i)=r->
  BC E f48 (DA r) [(0,CA 11 (pnv a) J0),(1,CA 11 (pnv b) J0),(12,GE Is (Z (pnv a):Nat)),(13,GE Is i)] []:=by
 have e:Z (pnv a)=Z a:=by simp
 intro n;induction n with
 |zero=>
  exact zqtc4
 |succ n p=>
  intro i o c;have h1:i<Z a:=o_;have d:i<Z b:=o_;rw[Ac h1,Ac d]at c;have c:(Pn.eqb a[i] b[i]&&C8.eqL Pn.eqb (a.drop (i+1)) (b.drop (i+1)))=r:=c;generalize l:a[i]=x at c;generalize k:b[i]=y at c;have q:(pnv a)[i]? =X (Pn.av x):=by simp[l,h1]
  have m:(pnv b)[i]? =X (Pn.av y):=by simp[k,d]
  refine gV ?_;refine aT λh=>?_
  repeat' first|refine pA ?_|refine⟨_,q,?_⟩|refine⟨_,m,?_⟩|exact rfl|refine lA ?_ ?_|intro h
  .rename_i h;have h:Pn.eqb x y=false:=jF h;rw[h]at c;rw[<-c];rfl
  .rename_i h;have h:Pn.eqb x y=true:=jG h;rw[h,Bt]at c;have g:=p (i+1) o_ c;exact zW
def aP7(a b:ba):bj 48 [CA 11 (pnv a) J0,CA 11 (pnv b) J0] (DA (C8.eqL Pn.eqb a b)):=by
 have c:Z (pnv a)=Z a:=by simp
 have d:Z (pnv b)=Z b:=by simp
 refine c_ f48 λj=>?_;have hl:(Z (pnv a):Int)<=9223372036854775807:=j.1;refine gV ?_;refine⟨λh=>?_,λh=>?_⟩
 .have h:((Z (pnv a):Int) !=(Z (pnv b):Int))=true:=h;exact zqtc5
 .have h:((Z (pnv a):Int) !=(Z (pnv b):Int))=false:=h;have i:=aHM a b (by simp at h;omega) hl _ (Z a) 0 o_ rfl;exact zW
def aHQ(a b:a6)(j:Z a=Z b)(hl:Ig (Z (fv a)))(r:Bool):∀(n i:Nat),i+n=Z a->C8.eqL (λx y:Nat=>((x:Int)==(y:Int))) (a.drop i) (b.drop i)=r->
  BC E f49 (DA r) [(0,CA 1 (fv a) J0),(1,CA 1 (fv b) J0),(12,GE Is (Z (fv a):Nat)),(13,GE Is i)] []:=by
 have g:Z (fv a)=Z a:=by simp
 intro n;induction n with
 |zero=>
  exact zqtc4
 |succ n p=>
  intro i o c;have h1:i<Z a:=o_;have e:i<Z b:=o_;rw[Ac h1,Ac e]at c;have c:((λx y:Nat=>((x:Int)==(y:Int))) a[i] b[i]&&C8.eqL (λx y:Nat=>((x:Int)==(y:Int))) (a.drop (i+1)) (b.drop (i+1)))=r:=c;generalize l:a[i]=x at c;generalize k:b[i]=y at c;have q:(fv a)[i]? =X (uu x):=by simp[l,h1]
  have m:(fv b)[i]? =X (uu y):=by simp[k,e]
  refine gV ?_;refine aT λh=>?_
  repeat' first|refine pA ?_|refine⟨_,q,?_⟩|refine⟨_,m,?_⟩|exact rfl|refine lA ?_ ?_|intro h
  .rename_i h;have h:(λx y:Nat=>((x:Int)==(y:Int))) x y=false:=jF h;rw[h]at c;rw[<-c];rfl
  .rename_i h;have h:(λx y:Nat=>((x:Int)==(y:Int))) x y=true:=jG h;rw[h,Bt]at c;have d:=p (i+1) o_ c;exact zW
def aP9(a b:a6):bj 49 [CA 1 (fv a) J0,CA 1 (fv b) J0] (DA (C8.eqL (λx y:Nat=>((x:Int)==(y:Int))) a b)):=by
 have c:Z (fv a)=Z a:=by simp
 have d:Z (fv b)=Z b:=by simp
 refine c_ f49 λj=>?_;have hl:(Z (fv a):Int)<=9223372036854775807:=j.1;refine gV ?_;refine⟨λh=>?_,λh=>?_⟩
 .have h:((Z (fv a):Int) !=(Z (fv b):Int))=true:=h;exact zqtc5
 .have h:((Z (fv a):Int) !=(Z (fv b):Int))=false:=h;have i:=aHQ a b (by simp at h;omega) hl _ (Z a) 0 o_ rfl;exact zW
def aHO(a b:ax)(j:Z a=Z b)(hl:Ig (Z (iv a)))(r:Bool):∀(n i:Nat),i+n=Z a->C8.eqL (λx y:Int=>(x==y)) (a.drop i) (b.drop i)=r->
  BC E f47 (DA r) [(0,CA 1 (iv a) J0),(1,CA 1 (iv b) J0),(12,GE Is (Z (iv a):Nat)),(13,GE Is i)] []:=by
 have g:Z (iv a)=Z a:=by simp
 intro n;induction n with
 |zero=>
  exact zqtc4
 |succ n p=>
  intro i o c;have h1:i<Z a:=o_;have d:i<Z b:=o_;rw[Ac h1,Ac d]at c;have c:((λx y:Int=>(x==y)) a[i] b[i]&&C8.eqL (λx y:Int=>(x==y)) (a.drop (i+1)) (b.drop (i+1)))=r:=c;generalize l:a[i]=x at c;generalize k:b[i]=y at c;have q:(iv a)[i]? =X (ii x):=by simp[l,h1]
  have m:(iv b)[i]? =X (ii y):=by simp[k,d]
  refine gV ?_;refine aT λh=>?_
  repeat' first|refine pA ?_|refine⟨_,q,?_⟩|refine⟨_,m,?_⟩|exact rfl|refine lA ?_ ?_|intro h
  .rename_i h;have h:(λx y:Int=>(x==y)) x y=false:=jF h;rw[h]at c;rw[<-c];rfl
  .rename_i h;have h:(λx y:Int=>(x==y)) x y=true:=jG h;rw[h,Bt]at c;have e:=p (i+1) o_ c;exact zW
def aP8(a b:ax):bj 47 [CA 1 (iv a) J0,CA 1 (iv b) J0] (DA (C8.eqL (λx y:Int=>(x==y)) a b)):=by
 have c:Z (iv a)=Z a:=by simp
 have i:Z (iv b)=Z b:=by simp
 refine c_ f47 λj=>?_;have hl:(Z (iv a):Int)<=9223372036854775807:=j.1;refine gV ?_;refine⟨λh=>?_,λh=>?_⟩
 .have h:((Z (iv a):Int) !=(Z (iv b):Int))=true:=h;rw[C8.eqL_len (by intro e;rw[c,i,e]at h;simp at h)];refine gW hE ?_;conv=>whnf
 .have h:((Z (iv a):Int) !=(Z (iv b):Int))=false:=h;have d:=aHO a b (by simp at h;omega) hl _ (Z a) 0 o_ rfl;exact zW
def aL9(a b:ba):bj 48 [CA 11 (pnv a) J0,CA 11 (pnv b) J0] (DA (decide (a=b))):=by rw[<-vS (λ_ _=>Pn.eqb_eq) a b];exact aP7 a b
def aMb(a b:a6):bj 49 [CA 1 (fv a) J0,CA 1 (fv b) J0] (DA (decide (a=b))):=by rw[<-vS (f:=λx y:Nat=>((x:Int)==(y:Int))) (λx y=>by simp;omega) a b];exact aP9 a b
def aMa(a b:ax):bj 47 [CA 1 (iv a) J0,CA 1 (iv b) J0] (DA (decide (a=b))):=by rw[<-vS (f:=λx y:Int=>(x==y)) (λx y=>by simp) a b];exact aP8 a b
def aOz(x y:Rn):bj 46 [x.av,y.av] (DA (decide (x=y))):=by
 have o:=aMa x.hs y.hs;have a:(O&&O)=true:=rfl;have q:(O&&S)=false:=rfl;by_cases h1:x.g=y.g
 .have p:Gan.eqb x.g y.g=true:=Gan.eqb_eq.2 h1;by_cases c:x.seq=y.seq
  .have m:(x.seq==y.seq)=true:=by simpa using c
   by_cases h3:x.at'=y.at'
   .have l:(x.at'==y.at')=true:=by simpa using h3
    by_cases j:x.st=y.st
    .have k:(x.st==y.st)=true:=by simpa using j
     by_cases b:x.fl=y.fl
     .have d:(x.fl==y.fl)=true:=by simpa using b
      have i:=q;have n:decide (x.hs=y.hs)=decide (x=y):=by obtain⟨u,G,C,D,v,w⟩:=x;obtain⟨s,H,F,z,B,t⟩:=y;dsimp only at h1 c h3 j b;subst h1 c h3 j b;simp
      rw[n]at o;generalize decide (x=y)=r at*
      exact zqtc1
     .have i:(x.fl==y.fl)=false:=by simpa using b
      have d:=a;rw[bp λe=>b (by rw[e])];exact zqtc1
    .have i:(x.st==y.st)=false:=by simpa using j
     have k:=a;have d:=a;rw[bp λe=>j (by rw[e])];exact zqtc1
   .have i:(x.at'==y.at')=false:=by simpa using h3
    have l:=a;have k:=a;have d:=a;rw[bp λe=>h3 (by rw[e])];exact zqtc1
  .have i:(x.seq==y.seq)=false:=by simpa using c
   have m:=a;have l:=a;have k:=a;have d:=a;rw[bp λe=>c (by rw[e])];exact zqtc1
 .have i:Gan.eqb x.g y.g=false:=by
   cases h:Gan.eqb x.g y.g with
   |false=>rfl
   |true=>exact bv (Gan.eqb_eq.1 h) h1
  have p:=a;have m:=a;have l:=a;have k:=a;have d:=a;rw[bp λe=>h1 (by rw[e])];exact zqtc1
def sdF:aa:=.func (.func 46) [] []
def aHL(a b:a7)(l:Z a=Z b)(hl:Z a<=1048576)(K:Int)(q:K=(Z (rav a):Nat))(r:Bool):∀(m i:Nat),i+m=Z a->decide (a.drop i=b.drop i)=r->
  BC E f45 (DA r) [(1,CA 14 (rav b) J0),(2,sdF),(15,CA 14 (rav a) J0),(16,GE Is K),(17,GE Is i)] []:=by
 have k:Z (rav a)=Z a:=by simp
 have j:Z (rav b)=Z b:=by simp
 intro m;induction m with
 |zero=>
  intro i n c;rw[Ae o_,Ae o_]at c;have c:O=r:=c;subst c;exact tA
 |succ m h=>
  intro i n c;have f:i<Z a:=o_;have d:i<Z b:=o_;rw[Ac f,Ac d]at c;have o:=cB f;have p:=cB d;have g:=aOz a[i] b[i];generalize a[i]=u at o c g;generalize b[i]=v at p c g;have next:=h (i+1) o_
  unfold sdF at next⊢
  by_cases h1:u=v
  .rw [bq h1]at g;have next:=next (by rw[<-c,h1];exact decide_eq_decide.2 ⟨λe=>by rw[e],λe=>(List.cons.inj e).2⟩)
   clear h c;exact tA
  .rw [bp h1]at g;have c:S=r:=by rw[<-c,bp λe=>h1 (List.cons.inj e).1]
   subst c;clear h next
   exact tA
def aP6(a b:a7)(hl:Z a<=1048576):bj 45 [CA 14 (rav a) J0,CA 14 (rav b) J0,sdF] (DA (decide (a=b))):=by
 have d:Z (rav a)=Z a:=by simp
 have c:Z (rav b)=Z b:=by simp
 by_cases h1:Z a=Z b
 .have h:((Z (rav a):Int) !=(Z (rav b):Int))=false:=by rw[d,c,h1];simp
  have next:=aHL a b h1 hl _ rfl _ (Z a) 0 o_ (show _=decide (a=b) by rw[Bz,Bz])
  generalize decide (a=b)=r at*
  unfold sdF at next⊢
  exact zqtc3
 .have h:((Z (rav a):Int) !=(Z (rav b):Int))=true:=by rw[d,c];simp;omega
  rw[bp λe=>h1 (by rw[e])];exact zqtc3
def aIq(c d:Con):Bool:=C8.eqL Nod.eqb c.ns d.ns&&(C8.eqL Hos.eqb c.hs d.hs&&(c.half==d.half&&c.age==d.age))
def YD(c d:Con)(R:Bool)(a:aIq c d=R):bj 44 [c.av,d.av] (DA R):=by
 have h1:=C8.eqN_ok c.ns d.ns;have e:=C8.eqH_ok c.hs d.hs;unfold aIq at a;generalize C8.eqL Nod.eqb c.ns d.ns=q1 at h1 a;generalize C8.eqL Hos.eqb c.hs d.hs=q2 at e a;cases q1 with
 |false=>
  have a:S=R:=a;exact zqtc2
 |true=>
  cases q2 with
  |false=>
   have a:S=R:=a;exact zqtc2
  |true=>
   have a:(c.half==d.half&&c.age==d.age)=R:=a;cases b:c.half==d.half with
   |false=>
    rw[b]at a;have a:S=R:=a;exact zqtc2
   |true=>
    rw[b]at a;have a:(c.age==d.age)=R:=a;exact zqtc2
def aIp{c d:Con}:aIq c d=O↔c=d:=I7
def PW(a b:Sta):Bool:=aIq a.c b.c&&((a.now==b.now)&&((a.nxt==b.nxt)&&(decide (a.run=b.run)&&(decide (a.pend=b.pend)&&decide (a.hist=b.hist)))))
def aB1(a b:Sta)(hl:Z a.run<=1048576)(r:Bool)(d:PW a b=r):bj 14 [a.av,b.av] (DA r):=by
 have h1:=YD a.c b.c _ rfl;have n:=aL9 a.pend b.pend;have h3:=aP6 a.run b.run hl;have o:=aMb a.hist b.hist;unfold PW at d;generalize aIq a.c b.c=q1 at*
 generalize decide (a.pend=b.pend)=q2 at*
 generalize decide (a.run=b.run)=q3 at*
 generalize decide (a.hist=b.hist)=q4 at*
 have l:(O&&O)=true:=rfl;have e:(O&&S)=false:=rfl;cases q1 with
 |false=>
  have d:S=r:=d;subst d;have j:=l;have m:=e;have k:=e;exact zqtc0
 |true=>
  have d:((a.now==b.now)&&((a.nxt==b.nxt)&&(q3&&(q2&&q4))))=r:=d;cases h:(a.now==b.now)with
  |false=>
   rw[h]at d;have d:S=r:=d;subst d;have j:(a.now !=b.now)=true:=by unfold bne;rw[h];rfl
   have m:=e;have k:=e;exact zqtc0
  |true=>
   rw[h]at d;have m:(a.now !=b.now)=false:=by unfold bne;rw[h];rfl
   cases i:(a.nxt==b.nxt)with
   |false=>
    rw[i]at d;have d:S=r:=d;subst d;have j:(a.nxt !=b.nxt)=true:=by unfold bne;rw[i];rfl
    have k:=e;exact zqtc0
   |true=>
    rw[i]at d;have k:(a.nxt !=b.nxt)=false:=by unfold bne;rw[i];rfl
    have j:=l;cases q3 with
    |false=>
     have d:S=r:=d;subst d;exact zqtc0
    |true=>
     cases q2 with
     |false=>
      have d:S=r:=d;subst d;exact zqtc0
     |true=>
      have d:q4=r:=d;subst d;exact zqtc0
def PU{a b:Sta}:PW a b=O↔a=b:=by
 obtain⟨k,s,p,q,l,m⟩:=a;obtain⟨i,t,r,n,o,j⟩:=b;unfold PW;simp only[Bool.and_eq_true,aIp,beq_iff_eq,bo,Sta.mk.injEq];constructor
 .rintro ⟨e,f,g,d,c,h⟩;exact⟨e,f,g,c,d,h⟩
 .rintro ⟨e,f,g,c,d,h⟩;exact⟨e,f,g,d,c,h⟩
def BV:V3:=⟨4,4,4⟩
def aBS:Con:=⟨[⟨-1,1,V3.zero,V3.zero,V3.zero⟩,⟨0,1,BV,BV,BV⟩,⟨0,1,BV,BV,BV⟩],[⟨0,0,0,BV⟩,⟨0,0,1,BV⟩],10,0⟩
def O7(id t run:Int):Cmd:=⟨2,aDx,⟨id,t,2,⟨2,2,2⟩,run,3,0⟩,0⟩
def aEe:Cmd:=⟨6,aDx,Gan.zero,0⟩
def BY:List Cmd:=[⟨1,aBS,Gan.zero,0⟩,O7 1 1 50,O7 2 1 50,aEe]
def yJ:List Cmd:=[O7 3 2 9,aEe]
def aBR:List Kstp:=BY.map (λc=>⟨1,c,0⟩)++[⟨3,Cmd.zero,0⟩]++yJ.map (λc=>⟨1,c,0⟩)
def evS:List Cmd->Sta->List (bh×Int)
 |[],_=>[]
 |c::l,s=>(aG s c).2::evS l (aG s c).1
def XM:List Cmd->Sta->Sta
 |[],s=>s
 |c::l,s=>XM l (aG s c).1
def XY:∀(l:List Cmd) (t:Kst) (m:Int),(∀c∈l,Z c.il<=60/\∀n∈c.il,n<=9223372036854775807)->(∀a∈evS l t.s,a.2=0)->AI t (m+609*Z l)->0<=m->
  ∃d i,lP (l.map λc=>⟨1,c,0⟩) t=⟨d,i,XM l t.s⟩/\wG (l.map λc=>⟨1,c,0⟩) t=evS l t.s/\AI ⟨d,i,XM l t.s⟩ m
 |[],t,m,_,_,hr,_=>⟨t.d,t.n,rfl,rfl,by unfold AI at*;simp at hr;exact hr⟩
 |c::l,t,m,h,he,hr,hm=>by
  obtain⟨h1,k⟩:=h c (Aw ..);have b:(aG t.s c).2.2=0:=he _ (Aw ..);have v:aG t.s c=((aG t.s c).1,(aG t.s c).2.1,0):=by rw[<-b]
  obtain⟨d,i,e,_,r⟩:=DD (t:=t) (c:=c) 0 60 (m+609*Z l) v h1 k d_ (by unfold AI at*;simp only[List.length_cons]at hr;omega) o_;obtain⟨j,q,o,p,f⟩:=XY l ⟨d,i,(aG t.s c).1⟩ m (λx g=>h x (Az _ g)) (λa u=>he a (Az _ u)) r hm;refine⟨j,q,?_,?_,f⟩
  .show lP (l.map λc=>⟨1,c,0⟩) (aU t ⟨1,c,0⟩).1=_;rw[e];exact o
  .show (aU t ⟨1,c,0⟩).2::wG (l.map λc=>⟨1,c,0⟩) (aU t ⟨1,c,0⟩).1=(aG t.s c).2::evS l (aG t.s c).1;rw[e];dsimp only;rw[p,<-b]
theorem JJ:∀(l m:List Kstp) (t:Kst),lP (l++m) t=lP m (lP l t)
 |[],_,_=>rfl
 |p::l,m,t=>JJ l m _
theorem UK:∀(l m:List Kstp) (t:Kst),wG (l++m) t=wG l t++wG m (lP l t)
 |[],_,_=>rfl
 |p::l,m,t=>by show _::wG (l++m) _=_;rw[UK l m];rfl
def tS1:Sta:=XM BY pI
def tS2:Sta:=XM yJ tS1
def w28:wG aBR (nC 5000)=evS BY pI++[([],0)]++evS yJ tS1/\(lP aBR (nC 5000)).s=tS2:=by
 obtain⟨d,i,h,f,r⟩:=XY BY (nC 5000) 1300 (by decide+kernel) (by decide+kernel) (by show((0:Nat):Int)+_<=_;decide) d_;have hs:XM BY (nC 5000).s=tS1:=rfl;have b:evS BY (nC 5000).s=evS BY pI:=rfl;rw[hs]at h r;rw[b]at f;have hz:∀a∈evS yJ tS1,a.2=0:=by decide+kernel
 have hz2:tS2=XM yJ tS1:=rfl;have g:∀c∈yJ,Z c.il<=60/\∀n∈c.il,n<=9223372036854775807:=by decide+kernel
 have hl:Z yJ=2:=rfl;clear hs b;unfold aBR;rw[hz2];generalize tS1=At at*
 obtain⟨k,o,l,m,_⟩:=XY yJ ⟨d,i,At⟩ 0 g hz (by unfold AI at*;rw[hl];dsimp only at*;omega) d_;have e:∀t,aU t ⟨3,Cmd.zero,0⟩=(t,[],0):=λ_=>rfl;have j:wG [⟨3,Cmd.zero,0⟩] ⟨d,i,At⟩=[([],0)]:=by simp only[wG,e]
 have p:lP [⟨3,Cmd.zero,0⟩] ⟨d,i,At⟩=⟨d,i,At⟩:=by simp only[lP,e]
 grind[UK,JJ]
def aSN:∃a b c d e f:bh×Int,∃x y:Ev,evS BY pI++[([],0)]++evS yJ tS1=[a,b,c,([x,y],d.2),e,f,([⟨2,2,0⟩,⟨1,3,0⟩],0)]:=by refine⟨([],0),([],0),([],0),([],0),([],0),([],0),⟨1,1,0⟩,⟨1,2,0⟩,?_⟩;decide+kernel
def aSM:Z tS2.run=2/\Z tS2.pend=1/\(tS2.run[1]?).map (λr=>r.g.id)=X 3:=by decide+kernel
def aD8:bj 31 [] (He [CA 11 (nav aBS.ns) .full,CA 6 (hav aBS.hs) .full,ii 10,ii 0]):=by exact c_ f31 λ_=>zW
def aBQ:bj 31 [] aBS.av:=aA.less aD8
def EK(c:Cmd):bj 29 [c.av] (Kstp.av ⟨1,c,0⟩):=by exact c_ f29 λ_=>zW
def aEj(id t run:Int):bj 32 [ii id,ii t,ii run] (Kstp.av ⟨1,O7 id t run,0⟩):=by have h1:=EK (O7 id t run);exact c_ f32 λ_=>zW
def aJl:∀p∈aBR,p.x.c.sm:=by intro p hp;refine⟨?_,?_⟩<;>(revert p;decide)
def aOa:stv aBR=[Kstp.av ⟨1,⟨1,aBS,Gan.zero,0⟩,0⟩,Kstp.av ⟨1,O7 1 1 50,0⟩,Kstp.av ⟨1,O7 2 1 50,0⟩,Kstp.av ⟨1,aEe,0⟩,Kstp.av ⟨3,Cmd.zero,0⟩,Kstp.av ⟨1,O7 3 2 9,0⟩,Kstp.av ⟨1,aEe,0⟩]:=rfl
def LQ(g:ay):ar 9 [] [cV g] (Io (DA O)) [cV g]:=by
 obtain⟨a,b,c,d,e,f,x,y,l⟩:=aSN;obtain⟨j,k⟩:=w28;rw[l]at j;obtain⟨m,n,i⟩:=aSM;have hp:=aAe 5000 aBR d_ aJl g;rw[j,k,aOa]at hp;clear l j k;generalize tS2=At at*
 obtain⟨C,now,nxt,pend,run,hist⟩:=At;dsimp only at m n i
 match run,pend,m,n,i with
 |[r1,r2],[p],_,_,i=>
  obtain⟨⟨r,s,w,n2,v,z,B⟩,t,D,F,G,u⟩:=r2;obtain rfl:r=3:=Option.some.inj i;have h1:=aBQ;have q:=EK aEe;have o:=EK ⟨1,aBS,Gan.zero,0⟩;have h3:=aEj;refine eA E f9 1 λ_=>?_
  repeat' first|refine pA ?_|refine .p h1 ?_|refine .p (aA.strip q) ?_|refine .p (aA.strip o) ?_|refine .p (h3 _ _ _) ?_|refine .look [0] _ _ rfl rfl (aA.strip hp) (λ_=>rfl) (λ_=>rfl) ?_|exact zx [0]|exact rfl|refine lA ?_ ?_|intro h
def aQ4(t:Kst)(p:Kstp)(h1:p.k≠1)(a:p.k≠4):(aU t p).1.s=t.s:=by
 unfold aU;rw[bt h1,bt a];split
 .exact MG t
 split<;>rfl
def aMC{t:Kst}{k:Nat}(h:KB t k)(c:Cmd)(a:c.k=1->c.c.sm):Z (doS t c).2.1<=1000000:=by
 unfold doS;split
 .simp
 split
 .simp
 .exact (aPe (h.okT.ok.st h.okT.lt) h.okT.small.1 c a).2.2
def aEq{t:Kst}{k:Nat}(h:KB t k)(p:Kstp)(a:p.x.k=1->p.x.c.sm):Z (aU t p).2.1<=1000000:=by
 have h1:=aMC h p.x a;unfold aU;split
 .exact h1
 split
 .simp
 split
 .split<;>simp
 split<;>simp
abbrev tcH(f:Bool)(g:ay)(t:Kst)(R:Sta):aw:=match f with
 |true=>[cV g,.cells tDr [.ref 2 0,.ref 5 0],dkC t.d.size (sfV O 3 t.d.safe) bM S,.tail 0 1 5,jnO 2 t.n,.cells tSt (.ref 4 0::t.s.cs),.cells 35 R.cs]
 |false=>[cV g,.cells tDr [.ref 2 0,.ref 4 0],dkC t.d.size (sfV S 3 t.d.safe) bM S,jnO 2 t.n,.cells tSt (.ref 3 0::t.s.cs),.cells 35 R.cs]
abbrev tcO(f:Bool)(g:ay)(t:Kst)(R:Sta)(ev:bh)(e:Int):aw:=match f with
 |true=>[cV g,.cells tDr [.ref 2 0,.ref 5 0],dkC t.d.size (sfV O 3 t.d.safe) bM S,.tail 0 1 5,jnO 2 t.n,.cells tSt (.ref 4 0::t.s.cs),.cells 35 R.cs,.cells 40 [ii e,.slice 3 (evv ev) .no]]
 |false=>[cV g,.cells tDr [.ref 2 0,.ref 4 0],dkC t.d.size (sfV S 3 t.d.safe) bM S,jnO 2 t.n,.cells tSt (.ref 3 0::t.s.cs),.cells 35 R.cs,.cells 40 [ii e,.slice 3 (evv ev) .no]]
abbrev tcN(f:Bool):Nat:=match f with|true=>6|false=>5
abbrev tcF(L:List Kstp)(f:Bool)(i:Int):au:=[(0,CA 17 (stv L) J0),(3,G2 1 0),(4,G2 (tcN f) 0),(5,ii i)]
inductive TcK(p:Kstp)(R At n:Sta)(nv ev:bh)(ne e:Int):Bool->Prop
 |one (r:Bool) (b1:(p.k==1)=O) (b4:(p.k==4)=S) (ee:True) (h1:ne=e) (h2:nv=ev) (h3:n=At):TcK p R At n nv ev ne e r
 |keep (r:Bool) (b1:(p.k==1)=S) (b4:(p.k==4)=O) (ee:(e==0)=r) (h1:ne=e) (h2:True) (h3:R=At):TcK p R At n nv ev ne e O
 |done (r:Bool) (b1:(p.k==1)=S) (b4:(p.k==4)=O) (ee:(e==0)=O) (h1:ne=e) (h2:True) (h3:n=At):TcK p R At n nv ev ne e S
 |other (r:Bool) (b1:(p.k==1)=S) (b4:(p.k==4)=S) (ee:True) (h1:True) (h2:True) (h3:R=At):TcK p R At n nv ev ne e r
def aJu{t:Kst}{k:Nat}(h:KB t k)(hz:t.d.size=1048576)(p:Kstp):TcK p t.s (aU t p).1.s (aG t.s p.x).1 (aG t.s p.x).2.1 (aU t p).2.1 (aG t.s p.x).2.2 (aU t p).2.2 (PW (aU t p).1.s t.s):=by
 by_cases h1:p.k=1
 .have e:aU t p=doS t p.x:=by unfold aU;rw[bu h1]
  obtain⟨f,g,a⟩:=aNr h hz p.x;rw[e];exact .one _ (by simpa using h1) (by rw[h1];rfl) trivial f.symm g.symm a.symm
 have c:(p.k==1)=false:=by simpa using h1
 by_cases b:p.k=4
 .have i:(p.k==4)=true:=by simpa using b
  obtain⟨f,g⟩:=aEr h hz b;have a:(aU t p).2.2=(aG t.s p.x).2.2:=by rw[f]
  by_cases q:(aU t p).1.s=t.s
  .rw [PU.2 q];exact .keep _ c i rfl a.symm trivial q.symm
  .obtain ⟨j,l⟩:=g.resolve_left q;rw[show PW (aU t p).1.s t.s=S from Bool.eq_false_iff.2 λh=>q (PU.1 h)];exact .done O c i (by rw[a,j];rfl) a.symm trivial l.symm
 .exact .other _ c (by simpa using b) trivial trivial trivial (aQ4 t p h1 b).symm
def aJs(L:List Kstp)(i:Nat)(g:ay)(t:Kst)(R:Sta)(p:Kstp)(get:(stv L)[i]? =X p.av)(N:Sta×bh×Int)(ev:bh)(e:Int)(w:Z ev<=1048576)(k:Nat)(c:KB t k)(y:i<=1048576)(q:apC R p.x N)(u:TcK p R t.s N.1 N.2.1 ev N.2.2 e (PW t.s R))
  (f:Bool) (next:To (Er [] [9,10,48,49]) f3 (.full 1 (Io (DA O)) [cV g]) (BB f3 (tcF L f ((i:Int)+1)) (tcH f g t t.s))):
  To (Er [] [9,10,48,49]) f3 (.full 1 (Io (DA O)) [cV g]) (.code (gB f3 8) (tcF L f i++[(6,G2 (tcN f+1) 0)]) (tcO f g t R ev e)):=by
 have hs:=c.stt f g;have l:=I8 t.s t.s c.okT.small.1 c.okT.small.2 O (EY t.s);have v:=aB1 t.s R c.okT.small.1.1 _ rfl;have o:(e !=e)=false:=bne_self_eq_false _;have hl:Z (evv ev)=Z ev:=by simp
 have m:(((Z (evv ev):Nat):Int) !=((Z (evv ev):Nat):Int))=false:=bne_self_eq_false _;obtain⟨n,A,ne⟩:=N;clear c;generalize PW t.s R=r at*
 rcases u with⟨z,a,d,b,h1,j,h3⟩|⟨z,a,d,b,h1,j,h3⟩|⟨z,a,d,b,h1,j,h3⟩|⟨z,a,d,b,h1,j,h3⟩
 all_goals
  try dsimp only at h1 j h3
  try subst h1
  try subst j
  subst h3;cases f<;>try cases z
 all_goals
  repeat' first
   |exact To.part [0,3,4,5] [0,1,2,3,4,5] rfl rfl rfl next
   |exact To.part [0,3,4,5] [0,1,2,3,4,5,6] rfl rfl rfl next
   |(refine goN (hEr [] [9,10,48,49]) 1 rfl ?_;conv=>whnf)
   |refine Exists.intro i (And.intro rfl ?_)
   |refine Exists.intro _ (And.intro get ?_)
   |refine .eff [] [1,2,0,3,4] _ _ rfl hs ?_
   |refine .eff [] [1,2,3,0,4,5] _ _ rfl hs ?_
   |refine .p q ?_
   |refine .p l ?_
   |refine .p v ?_
   |refine zE a ?_
   |refine zF a ?_
   |refine zE d ?_
   |refine zF d ?_
   |refine zE b ?_
   |refine zF b ?_
   |refine zF o ?_
   |refine zF m ?_
   |refine zt ?_
   |intro h
def aJt(L:List Kstp)(B:Z L<=57)(l:∀p∈L,CmSm p.x)(g:ay):∀(m i:Nat) (t:Kst) (f:Bool),i+m=Z L->KB t i->t.d.size=1048576->
  To (Er [] [9,10,48,49]) f3 (.full 1 (Io (DA O)) [cV g]) (BB f3 (tcF L f i) (tcH f g t t.s)):=by
 have v:Z (stv L)=Z L:=by simp
 have o:=LQ g;intro m;induction m with
 |zero=>
  intro i t f z a hz;clear a;cases f
  all_goals
   refine gV ?_;refine aF λh=>?_
   repeat' first|refine pA ?_|refine .eff [] [0] _ _ rfl o ?_|exact zx [0]|exact rfl|refine lA ?_ ?_|intro h
 |succ m q=>
  intro i t f z a hz;have j:i<Z L:=o_;have get:(stv L)[i]? =X L[i].av:=by simp[j]
  have hp:=l L[i] (List.getElem_mem j);generalize L[i]=p at get hp;have y:=a.dr o_ f g p (λ_=>hp.c);have b:=a.step o_ p (λ_=>hp.c);have hz2:(aU t p).1.d.size=1048576:=by rw[PI];exact hz
  have k:=aEq a p (λ_=>hp.c);have rest:=λu=>aJs L i g (aU t p).1 t.s p get (aG t.s p.x) (aU t p).2.1 (aU t p).2.2 o_ (i+1) b o_ (LS t.s p.x (a.okT.ok.st a.okT.lt) (λ_=>hp.c) hp.n) (aJu a hz p) u (q (i+1) (aU t p).1 u o_ b hz2);generalize aU t p=r at*
  obtain⟨A,ev,e⟩:=r
  try dsimp only at*
  clear q a b l hp hz hz2 k;cases f
  all_goals
   cases y
  all_goals
   rename_i w;refine gV ?_;refine aT λh=>gV ?_;refine⟨i,rfl,gV ?_⟩;refine⟨_,get,gV ?_⟩
   first
    |refine .eff [] [1,2,0,3,4] _ _ rfl w ?_
    |refine .eff [] [1,2,3,0,4,5] _ _ rfl w ?_
   repeat' first
    |exact To.partC [0,3,4,5,6] [0,1,2,3,4,5,6] rfl rfl rfl (rest S)
    |exact To.partC [0,3,4,5,6] [0,1,2,6,3,4,5,7] rfl rfl rfl (rest O)
    |exact To.partC [0,3,4,5,6] [0,1,2,6,7,5,8] rfl rfl rfl (rest S)
    |exact To.partC [0,3,4,5,6] [0,1,2,6,7,8,5,9] rfl rfl rfl (rest O)
    |exact To.partC [0,3,4,5,6] [0,1,2,7,8,5,9] rfl rfl rfl (rest S)
    |exact To.partC [0,3,4,5,6] [0,1,2,3,4,5,6,7] rfl rfl rfl (rest O)
    |exact To.partC [0,3,4,5,6] [0,1,2,4,5,6,7] rfl rfl rfl (rest S)
    |exact To.partC [0,3,4,5,6] [0,1,2,3,7,8,6,9] rfl rfl rfl (rest O)
    |exact To.partC [0,3,4,5,6] [0,1,2,7,8,6,9] rfl rfl rfl (rest S)
    |(refine goN (hEr [] [9,10,48,49]) 1 rfl ?_;conv=>whnf)
def aBW(L:List Kstp)(i:Z L<=1048576)(a:∀p∈L,CmSm p.x)(g:ay):ar 3 [CA 17 (stv L) J0] [cV g] (Io (DA O)) [cV g]:=by
 obtain⟨r,d,hs⟩:=EU L i (λp hp=>(a p hp).c);have e:=LQ g;have b:=vV 1048576 g;have j:bj 10 [] pI.av:=aKa;rcases d with rfl|⟨rfl,hl⟩
 .refine eA (Er [] [9,10,48,49]) f3 1 λ_=>?_
  repeat' first|refine pA ?_|refine .eff [] [0] _ _ rfl b ?_|refine .p hs ?_|refine .eff [] [0] _ _ rfl e ?_|exact zx [0]|exact rfl|refine lA ?_ ?_|intro h
 .have next:=aJt L o_ a g (Z L) 0 (nC 1048576) S o_ (kb0 1048576) rfl
  refine eA (Er [] [9,10,48,49]) f3 1 λ_=>?_
  repeat' first|refine pA ?_|refine .eff [] [0] _ _ rfl b ?_|refine .p hs ?_|refine .p j ?_|exact rfl|refine lA ?_ ?_|intro h
  exact To.part [0,3,4,5] [0,1,2,3,4,5] rfl rfl rfl next
end Go.Proofs.YtenkdioaefckoaaGreatDoor
