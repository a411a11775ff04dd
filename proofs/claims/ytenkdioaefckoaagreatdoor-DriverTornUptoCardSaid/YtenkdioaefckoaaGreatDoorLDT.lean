/-
  LDT: what the law needs besides, and the law.
-/
import Derived.Test.YtenkdioaefckoaaGreatDoorTP
set_option linter.all false
set_option maxHeartbeats 1000000
open Exists renaming intro->Aj
set_option maxRecDepth 10000
namespace Go.Proofs.YtenkdioaefckoaaGreatDoor
open Go Go.AW Go.Proofs
theorem aDo(f:Bool)(g:List UInt8)(n:Int)(x:List UInt8)(m:Int)(S:Sta)(hs:(x.length:Int)<=9223372036854775807):
  ar 66 [.ref 0 0] (drS f f g n x m S) (.ret (.str x)) (drS f f g n x m S):=by
 have h1:=xM f n x hs;cases f
 all_goals
  refine cT (E:=E) (fn:=Tryz.f66) (g:=.full _ _ _) λ_=>?_
  repeat' first|(refine gN hE ?_;conv=>whnf)|refine .eff [] [1] _ _ rfl h1 ?_|refine .eff [] [1,2] _ _ rfl h1 ?_|exact zx [0,1,2,3,4]|exact zx [0,1,2,3,4,5]|exact rfl|(refine zt ?_;try intro h)|refine zu (λh=>?_) λh=>?_|fail
theorem IW{t:Kst}{c:Cmd}{S:Sta}{ev:List Ev}(n:Int)(k:Nat)(m:Int)(h:aG t.s c=(S,ev,0))(h1:c.il.length<=k)(j:∀n∈c.il,n<=9223372036854775807)(o:k<=1000)(g:AI t (m+10*k+9))(hm:0<=m)(b:Bool)(a:if b=true then 10*(k:Int)+9<=n else n<8):
  ∃d i,aU t ⟨4,c,n⟩=(⟨d,i,if b=true then S else t.s⟩,[],0)/\AI ⟨d,i,if b=true then S else t.s⟩ m:=by
 have hl:=Z9 c k h1 j;have f:=g;unfold AI at g;have q:jQ t.d (Rec.b (.c c))=0:=by
  unfold jQ;rw[bt o_,bt o_]
 have p:wrE t c=0:=by
  unfold wrE;rw[h,bt s_,q]
 have l:aU t ⟨4,c,n⟩=if wrE t c≠0 then(t,[],wrE t c)else(if UM c n then(doS t c).1 else t,[],0):=rfl
 rw[l,bt (by simpa using p)];cases b with
 |true=>
  have a:10*(k:Int)+9<=n:=a;obtain⟨d,i,e,_,r⟩:=DD (t:=t) n k m h h1 j o f hm;have e:doS t c=_:=e;have u:UM c n=true:=bq o_;rw[bu u,e];exact⟨d,i,rfl,r⟩
 |false=>
  have a:n<8:=a;rw[bt (by unfold UM;simp;omega)];exact⟨t.d,t.n,rfl,by unfold AI;show(t.d.safe.length:Int)+m<=t.d.size;omega⟩
def aBI:List Kstp:=[tk 1 1 0,tk 4 2 3,tk 4 4 100000,⟨2,Cmd.zero,0⟩,⟨9,Cmd.zero,0⟩]
def xD(n:Int):Sta:={pI with now:=n}
theorem aST:aG pI (mN 1)=(xD 1,[],0):=by decide+kernel
theorem aSS:aG (xD 1) (mN 2)=(xD 3,[],0):=by decide+kernel
theorem aSR:aG (xD 1) (mN 4)=(xD 5,[],0):=by decide+kernel
theorem aSQ:aG pI (mN 7)=(xD 7,[],0):=by decide+kernel
theorem w27:∃e:Int,wG aBI (nC 1000)=[([],0),([],0),([],0),([],e),([],1)]/\(lP aBI (nC 1000)).s=xD 5:=by
 obtain⟨l,j,b,_,n⟩:=DD (t:=nC 1000) (c:=mN 1) 0 2 900 aST d_ d_ d_ (by show((0:Nat):Int)+_<=_;decide);obtain⟨g,f,d,p⟩:=IW (t:=⟨l,j,xD 1⟩) (c:=mN 2) 3 2 800 aSS d_ d_ d_ (by unfold AI at*;dsimp only at*;omega) d_ false d_;obtain⟨m,i,a,o⟩:=IW (t:=⟨g,f,xD 1⟩) (c:=mN 4) 100000 2 700 aSR d_ d_ d_ (by unfold AI at*;dsimp only at*;omega) d_ true d_;refine⟨lO ⟨m,i,xD 5⟩,?_⟩;have b:aU (nC 1000) (tk 1 1 0)=_:=b;have d:aU ⟨l,j,xD 1⟩ (tk 4 2 3)=(⟨g,f,xD 1⟩,[],0):=d;have a:aU ⟨g,f,xD 1⟩ (tk 4 4 100000)=(⟨m,i,xD 5⟩,[],0):=a;have h:∀t,aU t ⟨2,Cmd.zero,0⟩=(pL t,[],lO t):=λ_=>rfl;have k:∀t,aU t ⟨9,Cmd.zero,0⟩=(t,[],1):=λ_=>rfl;constructor
 .simp only[aBI,wG,b,d,a,h,k]
 .simp only[aBI,lP,b,d,a,h,k,MG]
theorem aOj(n:Nat)(h:n<128):C8.encB (mN n)=[5,UInt8.ofNat n]:=by
 have p:∀k:Nat,k<128->C8.putN k=[UInt8.ofNat k]:=λk b=>by rw[C8.putN,bu b]
 unfold C8.encB
 rw[bu (by
  have c:C8.chkL (mN n)=0:=rfl;have a:okI [(n:Int)]=true:=by simp only[okI,kB,Bool.and_eq_true,bo,and_true];omega
  show(if aDx.tok=true then(if Gan.zero.ok=true then(if okI [(n:Int)]=true then C8.chkL (mN n)else 1)else 1)else 1)=0
  rw[bu d_,bu d_,bu a,c])]
 show C8.putN 5++(C8.putN (n:Int).toNat++[])=_;rw[Int.toNat_natCast,p 5 d_,p n h];rfl
theorem aSO:∃d i,aU (nC 1000) (tk 1 7 0)=(⟨d,i,xD 7⟩,[],0)/\d.safe.length=11:=by
 obtain⟨d,i,e,a,_⟩:=DD (t:=nC 1000) (c:=mN 7) 0 2 900 aSQ d_ d_ d_ (by show((0:Nat):Int)+_<=_;decide);refine⟨d,i,e,?_⟩;subst a;show(([]:List UInt8)++frm ((67:UInt8)::C8.encB (mN (7:Nat)))).length=11;rw[aOj 7 d_,List.nil_append,eO];rfl
theorem KB.dsk{t:Kst}{k:Nat}(h:KB t k)(f:Bool)(g:List UInt8):ar 66 [.ref 0 0] (drS f f g t.d.size t.d.safe t.n t.s) (.ret (.str t.d.safe)) (drS f f g t.d.size t.d.safe t.n t.s):=aDo f g _ _ _ _ (by have:=h.lens;omega)
theorem aBU(k n p:Int):ar 65 [ii k,ii n,ii p] [] (.ret (Kstp.av ⟨k,mN n,p⟩)) []:=by
 exact c_ Tryz.f65 λ_=>zW
theorem KB.sd1{t:Kst}{k:Nat}(h:KB t k)(f:Bool)(c:Cmd)(a:c.k=1->c.c.sm){d:Dk}{i:Int}{S:Sta}{ev:List Ev}(e:doS t c=(⟨d,i,S⟩,ev,0)):
  ar 22 [.ref 0 0,c.av] (stS t.s t.n f t.d.size t.d.safe) (.ret (.tup [.slice 3 (evv ev) .no,ii 0])) (stG S i f d.size d.safe):=by
 by_cases q:(aG t.s c).2.2=0
 .by_cases b:jQ t.d (crB c)=0
  .have h1:=(h.do_ok c a f q b).1;rw[OB q b]at e;simp only[Prod.mk.injEq,Kst.mk.injEq]at e;obtain⟨⟨rfl,rfl,rfl⟩,rfl,_⟩:=e;exact h1
  .have:=(h.do_e c a f (.inr b)).2.2.2.2.2;rw[e]at this;exact bv rfl this
 .have:=(h.do_e c a f (.inl q)).2.2.2.2.2;rw[e]at this;exact bv rfl this
theorem KB.dr1{t:Kst}{k:Nat}(h:KB t k)(f:Bool)(g:List UInt8)(c:Cmd)(a:c.k=1->c.c.sm)(n:Int){d:Dk}{i:Int}{S:Sta}{ev:List Ev}(e:aU t ⟨1,c,n⟩=(⟨d,i,S⟩,ev,0)):cDo f g t ⟨1,c,n⟩ (YR ev 0) (drG f g d.size d.safe i S):=by
 have h1:=h.sd1 f c a e;have hz:d.size=t.d.size:=by
  have:=TM t c;rw[show doS t c=_ from e]at this;exact this
 rw[hz]at h1⊢;exact TH f g _ _ _ _ _ _ _ _ c n h1
theorem aJc:∀p∈aBI,p.x.c.sm:=by
 intro p hp;refine⟨?_,?_⟩<;>(revert p;decide)
set_option maxHeartbeats 1000000 in
theorem HK(g:List UInt8):ar 27 [] [cV g] (.ret (.bool true)) [cV g]:=by
 obtain⟨e,l,k⟩:=w27;obtain⟨d,i,b,j⟩:=aSO;have hp:=aAe 1000 aBI d_ aJc g;rw[l,k]at hp;have p:=vV 1000 g;have c:=kb0 1000;have o:=c.dr1 false g (mN 7) (λh=>by cases h) 0 b;have a:=c.step d_ (tk 1 7 0) (λh=>by cases h);rw[b]at a;have hs:=a.stt true g;have m:=a.dsk true g;have h1:=aBU;clear c a l k b;dsimp only at hs m;generalize d.safe=x at*
 generalize d.size=n at*
 iterate 11 (rcases x with _|⟨_,x⟩;· simp at j)
 rcases x with _|⟨_,x⟩
 rotate_left
 .simp at j
 clear j;refine cT (E:=E) (fn:=Tryz.f27) (g:=.full 1 _ _) λ_=>?_
 repeat' first|(refine gN hE ?_;conv=>whnf)|refine .pure _ [] (h1 _ _ _) ?_|refine .eff [] [0] _ _ rfl (aA.strip hp) ?_|refine .eff [] [0] _ _ rfl p ?_|refine .eff [] [2,3,0,4,5] _ _ rfl o ?_|refine .eff [] [2,3,6,0,4,5] _ _ rfl hs ?_|refine .eff [] [2,3,6,0,4,5] _ _ rfl m ?_|exact zx [0]|exact rfl|(refine zt ?_;try intro h)|refine zu (λh=>?_) λh=>?_|fail
abbrev drO(f:Bool)(g:List UInt8)(t:Kst):List ab:=match f with
 |true=>[cV g,.cells tDr [.ref 2 0,.ref 5 0],dkC t.d.size (sfV true 3 t.d.safe) bM false,.tail 0 1 5,jnO 2 t.n,.cells tSt (.ref 4 0::t.s.cs)]
 |false=>[cV g,.cells tDr [.ref 2 0,.ref 4 0],dkC t.d.size (sfV false 3 t.d.safe) bM false,jnO 2 t.n,.cells tSt (.ref 3 0::t.s.cs)]
noncomputable abbrev fDt:Func:=Tryz.f6
abbrev dtO(f:Bool)(g:List UInt8)(t:Kst)(R:Sta)(ev:List Ev)(e:Int):List ab:=match f with
 |true=>[cV g,.cells tDr [.ref 2 0,.ref 5 0],dkC t.d.size (sfV true 3 t.d.safe) bM false,.tail 0 1 5,jnO 2 t.n,.cells tSt (.ref 4 0::t.s.cs),.cells 35 R.cs,.cells 40 [ii e,.slice 3 (evv ev) .no]]
 |false=>[cV g,.cells tDr [.ref 2 0,.ref 4 0],dkC t.d.size (sfV false 3 t.d.safe) bM false,jnO 2 t.n,.cells tSt (.ref 3 0::t.s.cs),.cells 35 R.cs,.cells 40 [ii e,.slice 3 (evv ev) .no]]
abbrev dtN(f:Bool):Nat:=match f with|true=>6|false=>5
abbrev dtF(L:List Kstp)(i:Int):List (Nat×aa):=[(0,.slice 17 (stv L) .no),(3,.ref 1 0),(4,ii i)]
set_option maxHeartbeats 2000000 in
theorem aMs(L:List Kstp)(i:Nat)(g:List UInt8)(t:Kst)(R:Sta)(p:Kstp)(get:(stv L)[i]? =some p.av)(N:Sta×List Ev×Int)(ev:List Ev)(e:Int)(k:Nat)(a:KB t k)(y:i<=1048576)(v:apC R p.x N)
  (l:p.k=4->ev=[]/\e=N.2.2/\(t.s=R\/N.2.2=0/\t.s=N.1)) (f:Bool) (next:To (Er [] [8,9,53,54]) fDt (.full 1 (.ret (.bool true)) [cV g]) (.head (stk fDt 0) (dtF L ((i:Int)+1)) (drO f g t))):
  To (Er [] [8,9,53,54]) fDt (.full 1 (.ret (.bool true)) [cV g]) (.code (gB fDt 8) (dtF L i++[(5,.ref (dtN f) 0),(6,.ref (dtN f+1) 0)]) (dtO f g t R ev e)):=by
 have hs:=a.stt f g
 have hm:∀S:Sta,∃r,ar 15 [t.s.av,S.av] [] (.ret (.bool r)) []/\(t.s=S->r=true):=λS=>⟨_,I8 t.s S a.okT.small.1 a.okT.small.2 _ rfl,λh=>by rw[<-h];exact EY _⟩
 obtain⟨c,m,b⟩:=hm R;obtain⟨o,w,j⟩:=hm N.1;obtain⟨n,z,ne⟩:=N;dsimp only at*
 clear a hm;by_cases hp:p.k=4
 .obtain ⟨rfl,rfl,h⟩:=l hp;have q:c=true\/c=false/\e=0/\o=true:=by
   cases c
   .exact .inr ⟨rfl,h.elim (λh=>by cases b h) λh=>⟨h.1,j h.2⟩⟩
   .exact .inl rfl
  have d:(p.k !=4)=false:=by simpa using hp
  have u:(e !=e)=false:=bne_self_eq_false _;clear l h b j;rcases q with rfl|⟨rfl,rfl,rfl⟩
  all_goals
   cases f
   all_goals
    repeat' first
     |exact To.part [0,3,4] [0,1,2,3,4] rfl rfl rfl next
     |exact To.part [0,3,4] [0,1,2,3,4,5] rfl rfl rfl next
     |(refine goN (hEr [] [8,9,53,54]) 1 rfl ?_;conv=>whnf)
     |refine Aj i (And.intro rfl ?_)
     |refine Aj _ (And.intro get ?_)
     |refine .eff [] [1,2,0,3,4] _ _ rfl hs ?_
     |refine .eff [] [1,2,3,0,4,5] _ _ rfl hs ?_
     |refine .pure _ [] v ?_
     |refine .pure _ [] m ?_
     |refine .pure _ [] w ?_
     |refine zF d ?_
     |refine zF u ?_
     |refine zt ?_
     |intro h
 .have d:(p.k !=4)=true:=by simpa using hp
  clear l b j;cases f
  all_goals
   repeat' first
    |exact To.part [0,3,4] [0,1,2,3,4] rfl rfl rfl next
    |exact To.part [0,3,4] [0,1,2,3,4,5] rfl rfl rfl next
    |(refine goN (hEr [] [8,9,53,54]) 1 rfl ?_;conv=>whnf)
    |refine Aj i (And.intro rfl ?_)
    |refine Aj _ (And.intro get ?_)
    |refine zE d ?_
    |refine zt ?_
    |intro h
set_option maxHeartbeats 2000000 in
theorem aMt(L:List Kstp)(D:L.length<=57)(l:∀p∈L,CmSm p.x)(g:List UInt8):∀(m i:Nat) (t:Kst) (f:Bool),i+m=L.length->KB t i->t.d.size=1048576->
  To (Er [] [8,9,53,54]) fDt (.full 1 (.ret (.bool true)) [cV g]) (.head (stk fDt 0) (dtF L i) (drO f g t)):=by
 have v:(stv L).length=L.length:=by simp
 have o:=HK g;intro m;induction m with
 |zero=>
  intro i t f A a hz;clear a;cases f
  .refine gV ?_;refine aF λh=>?_
   repeat' first|(refine gN (hEr [] [8,9,53,54]) ?_;conv=>whnf)|refine .eff [] [0] _ _ rfl o ?_|exact zx [0]|exact rfl|(refine zt ?_;try intro h)|refine zu (λh=>?_) λh=>?_|fail
  .refine gV ?_;refine aF λh=>?_
   repeat' first|(refine gN (hEr [] [8,9,53,54]) ?_;conv=>whnf)|refine .eff [] [0] _ _ rfl o ?_|exact zx [0]|exact rfl|(refine zt ?_;try intro h)|refine zu (λh=>?_) λh=>?_|fail
 |succ m q=>
  intro i t f A a hz;have j:i<L.length:=o_;have get:(stv L)[i]? =some L[i].av:=by simp[j]
  have hp:=l L[i] (List.getElem_mem j);generalize L[i]=p at get hp;have hs:=a.stt f g;have z:=a.dr o_ f g p (λ_=>hp.c);have b:=a.step o_ p (λ_=>hp.c);have hz2:(aU t p).1.d.size=1048576:=by rw[PI];exact hz
  have y:p.k=4->(aU t p).2.1=[]/\(aU t p).2.2=(aG t.s p.x).2.2/\((aU t p).1.s=t.s\/(aG t.s p.x).2.2=0/\(aU t p).1.s=(aG t.s p.x).1):=λe=>by
   obtain⟨h1,B⟩:=aEr a hz e;exact⟨by rw[h1],by rw[h1],B⟩
  have rest:=λu=>aMs L i g (aU t p).1 t.s p get (aG t.s p.x) (aU t p).2.1 (aU t p).2.2 (i+1) b o_ (LS t.s p.x (a.okT.ok.st a.okT.lt) (λ_=>hp.c) hp.n) y u (q (i+1) (aU t p).1 u o_ b hz2);generalize aU t p=r at*
  obtain⟨C,ev,e⟩:=r;dsimp only at*
  clear q a b l hp y hz hz2;cases f
  all_goals
   cases z
  all_goals
   rename_i w;refine gV ?_;refine aT λh=>?_;refine gV ?_
   first
    |refine .eff [] [1,2,0,3,4] _ _ rfl hs ?_
    |refine .eff [] [1,2,3,0,4,5] _ _ rfl hs ?_
   refine gV ?_;refine⟨i,rfl,?_⟩;refine gV ?_;refine⟨_,get,?_⟩;refine gV ?_
   first
    |refine .eff [] [1,2,0,3,4] _ _ rfl w ?_
    |refine .eff [] [1,2,3,0,4,5] _ _ rfl w ?_
   repeat' first
    |exact To.partC [0,3,4,5,6] [0,1,2,3,4,5,6] rfl rfl rfl (rest false)
    |exact To.partC [0,3,4,5,6] [0,1,2,6,3,4,5,7] rfl rfl rfl (rest true)
    |exact To.partC [0,3,4,5,6] [0,1,2,6,7,5,8] rfl rfl rfl (rest false)
    |exact To.partC [0,3,4,5,6] [0,1,2,6,7,8,5,9] rfl rfl rfl (rest true)
    |exact To.partC [0,3,4,5,6] [0,1,2,7,8,5,9] rfl rfl rfl (rest false)
    |exact To.partC [0,3,4,5,6] [0,1,2,3,4,5,6,7] rfl rfl rfl (rest true)
    |exact To.partC [0,3,4,5,6] [0,1,2,4,5,6,7] rfl rfl rfl (rest false)
    |exact To.partC [0,3,4,5,6] [0,1,2,3,7,8,6,9] rfl rfl rfl (rest true)
    |exact To.partC [0,3,4,5,6] [0,1,2,7,8,6,9] rfl rfl rfl (rest false)
    |(refine goN (hEr [] [8,9,53,54]) 1 rfl ?_;conv=>whnf)
theorem aH7(L:List Kstp)(i:L.length<=1048576)(a:∀p∈L,CmSm p.x)(g:List UInt8):ar 6 [.slice 17 (stv L) .no] [cV g] (.ret (.bool true)) [cV g]:=by
 obtain⟨r,d,hs⟩:=EU L i (λp hp=>(a p hp).c);have e:=HK g;have b:=vV 1048576 g;rcases d with rfl|⟨rfl,hl⟩
 .refine cT (E:=(Er [] [8,9,53,54])) (fn:=Tryz.f6) (g:=.full 1 _ _) λ_=>?_
  repeat' first|(refine gN (hEr [] [8,9,53,54]) ?_;conv=>whnf)|refine .eff [] [0] _ _ rfl b ?_|refine .pure _ [] hs ?_|refine .eff [] [0] _ _ rfl e ?_|exact zx [0]|exact rfl|(refine zt ?_;try intro h)|refine zu (λh=>?_) λh=>?_|fail
 .have next:=aMt L o_ a g L.length 0 (nC 1048576) false o_ (kb0 1048576) rfl
  refine cT (E:=(Er [] [8,9,53,54])) (fn:=Tryz.f6) (g:=.full 1 _ _) λ_=>?_
  repeat' first|(refine gN (hEr [] [8,9,53,54]) ?_;conv=>whnf)|refine .eff [] [0] _ _ rfl b ?_|refine .pure _ [] hs ?_|exact rfl|(refine zt ?_;try intro h)|refine zu (λh=>?_) λh=>?_|fail
  refine To.part [0,3,4] [0,1,2,3,4] rfl rfl rfl ?_;exact next
end Go.Proofs.YtenkdioaefckoaaGreatDoor
