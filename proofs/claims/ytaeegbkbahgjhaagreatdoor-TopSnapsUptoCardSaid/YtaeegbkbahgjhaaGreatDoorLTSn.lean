/- Part 12 of what the statement rests on. -/
import Derived.Test.YtaeegbkbahgjhaaGreatDoorTA
set_option linter.all false
set_option maxHeartbeats 1000000
open And renaming intro->Ac
open List renaming append_nil->Ar,getElem_mem->Bf
open Nat renaming le_refl->Bd
open Option.some renaming inj->Mp
set_option maxRecDepth 10000
namespace Go.Proofs.YtaeegbkbahgjhaaGreatDoor
open Go Go.AW Go.Proofs
def zqts0{P:Prop}(h:P:=by
 refine To.part [0,3,4,5,6,7,8] [0,1,2,3,4,5,6,7,8,9,10,11] rfl rfl rfl ?_
 exact c):P:=h
def aAI:aq 14 [] [] (.ret (.agg [.slice 11 (nav XX.ns) .full,.slice 6 (hav XX.hs) .full,ii 10,ii 0])) []:=by exact c_ Tryz.f14 λ_=>zW
def XV:aq 14 [] [] (.ret XX.av) []:=aA.less aAI
def B7(c:Cmd):aq 12 [c.av] [] (.ret (Kstp.av ⟨1,c,0⟩)) []:=by exact c_ Tryz.f12 λ_=>zW
def aAR(id t run:Int):aq 15 [ii id,ii t,ii run] [] (.ret (Kstp.av ⟨1,LP id t run,0⟩)) []:=by have h1:=B7 (LP id t run);exact c_ Tryz.f15 λ_=>zW
def aE9:∀ p∈XW,p.x.c.sm:=by intro p hp;refine ⟨?_,?_⟩<;>(revert p;decide)
def aJC:stv XW=[Kstp.av ⟨1,⟨1,XX,Gan.zero,0⟩,0⟩,Kstp.av ⟨1,LP 1 1 50,0⟩,Kstp.av ⟨1,LP 2 1 50,0⟩,Kstp.av ⟨1,aAO,0⟩,Kstp.av ⟨3,Cmd.zero,0⟩,Kstp.av ⟨1,LP 3 2 9,0⟩,Kstp.av ⟨1,aAO,0⟩]:=rfl
set_option maxHeartbeats 1000000 in
def IB(g:ax):aq 6 [] [bT g] (.ret (.bool true)) [bT g]:=by
 obtain ⟨a,b,c,d,e,f,x,y,m⟩:=aNI;obtain ⟨j,k⟩:=w28;rw [m] at j;obtain ⟨n,l,i⟩:=aNH;have hp:=aGu 5000 XW d_ aE9 g;rw [j,k,aJC] at hp;clear m j k;generalize tS2=S at *
 obtain ⟨C,now,nxt,pend,run,hist⟩:=S;dsimp only at n l i
 match run,pend,n,l,i with
 | [r1,r2],[p],_,_,i=>
  obtain ⟨⟨q,z,F,n2,v,l2,w⟩,D,u,B,t,s⟩:=r2;obtain rfl:q=3:=Mp i;have h1:=XV;have o:=B7 aAO;have r:=B7 ⟨1,XX,Gan.zero,0⟩;have h3:=aAR;refine cT (E:=E) (fn:=Tryz.f6) (g:=.full 1 _ _) λ_=>?_
  repeat' first | (refine gN hE ?_;conv=>whnf) | refine .pure _ [] h1 ?_ | refine .pure _ [] (aA.strip o) ?_ | refine .pure _ [] (aA.strip r) ?_ | refine .pure _ [] (h3 _ _ _) ?_ | refine .look [0] _ _ rfl rfl (aA.strip hp) (λ_=>rfl) (λ_=>rfl) ?_ | exact zx [0] | exact rfl | refine zt ?_ | refine zu ?_ ?_ | intro h | fail
noncomputable abbrev fSn:Func:=Tryz.f3
abbrev snO(f f2:Bool)(g:ax)(t u:Kst):au:=match f,f2 with
 | false,false=>[bT g,.cells tDr [.ref 2 0,.ref 4 0],dkC t.d.size (sfV false 3 t.d.safe) bA false,jnO 2 t.n,.cells tSt (.ref 3 0::t.s.cs),.cells tDr [.ref 6 0,.ref 8 0],dkC u.d.size (sfV false 3 u.d.safe) bA false,jnO 6 u.n,.cells tSt (.ref 7 0::u.s.cs)]
 | false,true=>[bT g,.cells tDr [.ref 2 0,.ref 4 0],dkC t.d.size (sfV false 3 t.d.safe) bA false,jnO 2 t.n,.cells tSt (.ref 3 0::t.s.cs),.cells tDr [.ref 6 0,.ref 9 0],dkC u.d.size (sfV true 7 u.d.safe) bA false,.tail 0 1 5,jnO 6 u.n,.cells tSt (.ref 8 0::u.s.cs)]
 | true,false=>[bT g,.cells tDr [.ref 2 0,.ref 5 0],dkC t.d.size (sfV true 3 t.d.safe) bA false,.tail 0 1 5,jnO 2 t.n,.cells tSt (.ref 4 0::t.s.cs),.cells tDr [.ref 7 0,.ref 9 0],dkC u.d.size (sfV false 3 u.d.safe) bA false,jnO 7 u.n,.cells tSt (.ref 8 0::u.s.cs)]
 | true,true=>[bT g,.cells tDr [.ref 2 0,.ref 5 0],dkC t.d.size (sfV true 3 t.d.safe) bA false,.tail 0 1 5,jnO 2 t.n,.cells tSt (.ref 4 0::t.s.cs),.cells tDr [.ref 7 0,.ref 10 0],dkC u.d.size (sfV true 8 u.d.safe) bA false,.tail 0 1 5,jnO 7 u.n,.cells tSt (.ref 9 0::u.s.cs)]
abbrev snN(f:Bool):Nat:=match f with | true=>6 | false=>5
abbrev snA(f f2:Bool):Nat:=match f,f2 with
 | true,true=>11
 | true,false=>10
 | false,true=>10
 | false,false=>9
abbrev P4(ev:bg)(e:Int):ab:=.cells 42 [ii e,.slice 3 (evv ev) .no]
abbrev snB(f f2:Bool)(g:ax)(t u:Kst)(ev:bg)(e:Int):au:=match f,f2 with
 | false,false=>[bT g,.cells tDr [.ref 2 0,.ref 4 0],dkC t.d.size (sfV false 3 t.d.safe) bA false,jnO 2 t.n,.cells tSt (.ref 3 0::t.s.cs),.cells tDr [.ref 6 0,.ref 8 0],dkC u.d.size (sfV false 3 u.d.safe) bA false,jnO 6 u.n,.cells tSt (.ref 7 0::u.s.cs),P4 ev e,P4 ev e]
 | false,true=>[bT g,.cells tDr [.ref 2 0,.ref 4 0],dkC t.d.size (sfV false 3 t.d.safe) bA false,jnO 2 t.n,.cells tSt (.ref 3 0::t.s.cs),.cells tDr [.ref 6 0,.ref 9 0],dkC u.d.size (sfV true 7 u.d.safe) bA false,.tail 0 1 5,jnO 6 u.n,.cells tSt (.ref 8 0::u.s.cs),P4 ev e,P4 ev e]
 | true,false=>[bT g,.cells tDr [.ref 2 0,.ref 5 0],dkC t.d.size (sfV true 3 t.d.safe) bA false,.tail 0 1 5,jnO 2 t.n,.cells tSt (.ref 4 0::t.s.cs),.cells tDr [.ref 7 0,.ref 9 0],dkC u.d.size (sfV false 3 u.d.safe) bA false,jnO 7 u.n,.cells tSt (.ref 8 0::u.s.cs),P4 ev e,P4 ev e]
 | true,true=>[bT g,.cells tDr [.ref 2 0,.ref 5 0],dkC t.d.size (sfV true 3 t.d.safe) bA false,.tail 0 1 5,jnO 2 t.n,.cells tSt (.ref 4 0::t.s.cs),.cells tDr [.ref 7 0,.ref 10 0],dkC u.d.size (sfV true 8 u.d.safe) bA false,.tail 0 1 5,jnO 7 u.n,.cells tSt (.ref 9 0::u.s.cs),P4 ev e,P4 ev e]
abbrev snF(L:List Kstp)(f:Bool)(i:Int):ar:=[(0,.slice 17 (stv L) .no),(3,.ref 1 0),(4,.ref (snN f) 0),(5,ii i)]
abbrev snG(L:List Kstp)(f f2:Bool)(i:Int):ar:=[(0,.slice 17 (stv L) .no),(3,.ref 1 0),(4,.ref (snN f) 0),(5,ii i),(6,.ref (snA f f2) 0),(7,.ref (snA f f2+1) 0)]
def Kept.snap1{t:Kst}{l:List Rec}(h:Kept t l):∃ a,Kept (fH t) a/\(a.length<=l.length\/a.length<=1):=by
 unfold fH;by_cases q:iQ t=0
 .rw [if_pos q];unfold iQ at q;split at q
  .cases q
  split at q
  .cases q
  refine ⟨[.s t.s],⟨⟨rfl,rfl,?_,h.cl.size⟩,?_,rfl,⟨h.okT,by omega,trivial⟩,rfl⟩,.inr s_⟩
  .show ((frm _).length:Int)<=t.d.size;rw [dW];omega
  .show frm _=frm _++[]
   rw [Ar]
 .rw [if_neg q];exact ⟨l,h,.inl (Bd _)⟩
def aIj{t:Kst}{k:Nat}(h:KB t k)(c:Cmd)(a:c.k=1->c.c.sm):(doS t c).2.1.length<=1000000:=by
 unfold doS;split
 .simp
 split
 .simp
 .exact (aKu (h.okT.ok.st h.okT.lt) h.okT.small.1 c a).2.2
def IT(t:Kst):(fH t).s=t.s/\(fH t).d.size=t.d.size:=by unfold fH;split<;>exact ⟨rfl,rfl⟩
def KB.snp{t:Kst}{k:Nat}(h:KB t k)(b:1<=k):KB (fH t) k:=by obtain ⟨l,h1,c⟩:=h.ex;obtain ⟨a,h3,d⟩:=h1.snap1;exact ⟨⟨a,h3,by omega⟩,by rw [(IT t).1];exact h.nxt,h.few⟩
def KB.dr2{t:Kst}{k:Nat}(h:KB t k)(f:Bool)(g:ax)(c:Cmd)(n:Int):∃ a,(a=f\/a=false)/\cDo f g t ⟨2,c,n⟩ (kO [] (iQ t)) (drS f a g (fH t).d.size (fH t).d.safe (fH t).n (fH t).s):=by
 by_cases q:iQ t=0
 .rw [LZ q,q];exact ⟨false,.inr rfl,aA.less (O2 f g _ _ _ _ _ c n (h.snap_ok f q))⟩
 .rw [L4 q];exact ⟨f,.inl rfl,aA.less (O3 f g _ _ _ _ c n _ (h.snap_no f q))⟩
def aIh{t u:Kst}{k:Nat}(h:KB t k)(i:KB u k)(e:u.s=t.s)(g:t.d.size=1048576)(f:u.d.size=1048576)(c:Cmd):
  (doS u c).2=(doS t c).2/\(doS u c).1.s=(doS t c).1.s/\(doS t c).1.d.size=1048576/\(doS u c).1.d.size=1048576/\(doS t c).2.2=(doS u c).2.2:=by
 have a:jA u.d (Rec.b (.c c))=jA t.d (Rec.b (.c c)):=by
  have l1:=h.lens;have l2:=i.lens;unfold jA;by_cases q:16384<(Rec.b (.c c)).length
  .rw [if_pos q,if_pos q]
  .rw [if_neg q,if_neg q,if_neg o_,if_neg o_]
 unfold doS;rw [e,a];split
 .exact ⟨rfl,e,g,f,rfl⟩
 split
 .exact ⟨rfl,e,g,f,rfl⟩
 .exact ⟨rfl,rfl,g,f,rfl⟩
def KB.dr1b{t:Kst}{k:Nat}(h:KB t k)(f:Bool)(g:ax)(c:Cmd)(n:Int)(e:c.k=1->c.c.sm):
  ((doS t c).2.2=0/\cDo f g t ⟨1,c,n⟩ (kO (doS t c).2.1 (doS t c).2.2) (drG f g (doS t c).1.d.size (doS t c).1.d.safe (doS t c).1.n (doS t c).1.s))\/
  ((doS t c).2.2≠0/\cDo f g t ⟨1,c,n⟩ (kO (doS t c).2.1 (doS t c).2.2) (drS f f g (doS t c).1.d.size (doS t c).1.d.safe (doS t c).1.n (doS t c).1.s)):=by
 by_cases q:(aQ t.s c).2.2=0/\jA t.d (crB c)=0
 .obtain ⟨q,i⟩:=q;have h1:=(h.do_ok c e f q i).1;rw [SP q i];exact .inl ⟨rfl,O4 f g _ _ _ _ _ _ _ _ c n h1⟩
 .have p:(aQ t.s c).2.2≠0\/jA t.d (crB c)≠0:=by
   by_cases a:(aQ t.s c).2.2=0
   .exact .inr λ b=>q ⟨a,b⟩
   .exact .inl a
  obtain ⟨o,_,m,j,_,l⟩:=h.do_e c e f p;rw [m,j];exact .inr ⟨l,aA.less (W4 f g _ _ _ _ c n _ o)⟩
abbrev snQ:Res:=.ret (.bool true)
def aMj(L:List Kstp)(i:Nat)(q:i<=1048576)(g:ax)(t u:Kst)(ev:bg)(e:Int)(p:ev.length<=1000000)(f a:Bool)(next:To E fSn (.full 1 snQ [bT g]) (.head (stk fSn 0) (snF L f ((i:Int)+1)) (snO f a g t u))):
  ∀ (m k:Nat),k+m=ev.length->To E fSn (.full 1 snQ [bT g]) (.head (stk fSn 1) (snG L f a i++[(8,ii k)]) (snB f a g t u ev e)):=by
 have j:(evv ev).length=ev.length:=by simp
 intro m;induction m with
 | zero=>
  intro k l;cases f<;>cases a
  all_goals
   refine gV ?_;refine aF λ h=>?_
   repeat' first | (refine gN hE ?_;conv=>whnf) | exact rfl | refine zt ?_ | refine zu ?_ ?_ | intro h | fail
   first
    | exact To.part [0,3,4,5] [0,1,2,3,4,5,6,7,8] rfl rfl rfl next
    | exact To.part [0,3,4,5] [0,1,2,3,4,5,6,7,8,9] rfl rfl rfl next
    | exact To.part [0,3,4,5] [0,1,2,3,4,5,6,7,8,9] rfl rfl rfl next
    | exact To.part [0,3,4,5] [0,1,2,3,4,5,6,7,8,9,10] rfl rfl rfl next
    | fail
 | succ m d=>
  intro k l;have c:k<ev.length:=o_;have get:(evv ev)[k]? =some (Ev.av ev[k]):=by simp [c]
  have b:=d (k+1) o_;generalize ev[k]=x at get;have o:(!(x.k==x.k&&(x.id==x.id&&(x.n==x.n&&true))))=false:=by simp
  clear d next
  cases f<;>cases a
  all_goals
   refine gV ?_;refine aT λ h=>?_
   repeat' first | (refine gN hE ?_;conv=>whnf) | refine ⟨k,rfl,?_⟩ | refine ⟨_,get,?_⟩ | refine zF o ?_ | exact rfl | refine zt ?_ | refine zu ?_ ?_ | intro h | fail
   first
    | exact To.part [0,3,4,5,6,7,8] [0,1,2,3,4,5,6,7,8,9,10] rfl rfl rfl b
    | exact To.part [0,3,4,5,6,7,8] [0,1,2,3,4,5,6,7,8,9,10,11] rfl rfl rfl b
    | exact To.part [0,3,4,5,6,7,8] [0,1,2,3,4,5,6,7,8,9,10,11] rfl rfl rfl b
    | exact To.part [0,3,4,5,6,7,8] [0,1,2,3,4,5,6,7,8,9,10,11,12] rfl rfl rfl b
    | fail
def aFA(L:List Kstp)(i:Nat)(p:i<=1048576)(g:ax)(t u:Kst)(k:Nat)(l:KB t k)(n:KB u k)(hs:u.s=t.s)(ev:bg)(e:Int)(m:ev.length<=1000000)(f a:Bool)(next:To E fSn (.full 1 snQ [bT g]) (.head (stk fSn 0) (snF L f ((i:Int)+1)) (snO f a g t u))):
  To E fSn (.full 1 snQ [bT g]) (.code (dB fSn 10) (snG L f a i) (snB f a g t u ev e)):=by
 have c:=aMj L i p g t u ev e m f a next ev.length 0 o_
 have h1:=l.stt f g;have b:=n.stt a g;have hm:=X6 t.s t.s l.okT.small.1.1 true (aBi.2 rfl);have d:(e !=e)=false:=by simp
 have j:((((evv ev).length:Nat):Int) !=((evv ev).length:Nat))=false:=by simp
 have hl:(evv ev).length=ev.length:=by simp
 obtain ⟨q,n2,o⟩:=u;have hs:o=t.s:=hs;subst hs;clear l n next
 cases f<;>cases a
 .repeat' first | (refine gN hE ?_;conv=>whnf) | refine .eff [] [1,2,0,3,4] _ _ rfl h1 ?_ | refine .eff [] [5,6,0,7,8] _ _ rfl b ?_ | refine .pure _ [] hm ?_ | refine zF d ?_ | refine zF j ?_ | exact rfl | refine zt ?_ | refine zu ?_ ?_ | intro h | fail
  refine To.part [0,3,4,5,6,7,8] [0,1,2,3,4,5,6,7,8,9,10] rfl rfl rfl ?_;exact c
 .repeat' first | (refine gN hE ?_;conv=>whnf) | refine .eff [] [1,2,0,3,4] _ _ rfl h1 ?_ | refine .eff [] [5,6,7,0,8,9] _ _ rfl b ?_ | refine .pure _ [] hm ?_ | refine zF d ?_ | refine zF j ?_ | exact rfl | refine zt ?_ | refine zu ?_ ?_ | intro h | fail
  exact zqts0
 .repeat' first | (refine gN hE ?_;conv=>whnf) | refine .eff [] [1,2,3,0,4,5] _ _ rfl h1 ?_ | refine .eff [] [6,7,0,8,9] _ _ rfl b ?_ | refine .pure _ [] hm ?_ | refine zF d ?_ | refine zF j ?_ | exact rfl | refine zt ?_ | refine zu ?_ ?_ | intro h | fail
  exact zqts0
 .repeat' first | (refine gN hE ?_;conv=>whnf) | refine .eff [] [1,2,3,0,4,5] _ _ rfl h1 ?_ | refine .eff [] [6,7,8,0,9,10] _ _ rfl b ?_ | refine .pure _ [] hm ?_ | refine zF d ?_ | refine zF j ?_ | exact rfl | refine zt ?_ | refine zu ?_ ?_ | intro h | fail
  refine To.part [0,3,4,5,6,7,8] [0,1,2,3,4,5,6,7,8,9,10,11,12] rfl rfl rfl ?_;exact c
def aMk(L:List Kstp)(e:L.length<=57)(i:Nat)(p:Kstp)(get:(stv L)[i]? =some p.av)(d:i<L.length)(g:ax)(t u:Kst)(k:Nat)(b:KB t k)(f a:Bool)(next:To E fSn (.full 1 snQ [bT g]) (.head (stk fSn 0) (snF L f ((i:Int)+1)) (snO f a g t u))):
  To E fSn (.full 1 snQ [bT g]) (.code (dB fSn 8) (snF L f i) (snO f a g t u)):=by
 have c:(stv L).length=L.length:=by simp
 have h3:=b.dr3 f g Cmd.zero p.n;clear b;cases f<;>cases a
 .repeat' first | (refine gN hE ?_;conv=>whnf) | refine ⟨i,rfl,?_⟩ | refine ⟨_,get,?_⟩ | refine .eff [] [1,2,0,3,4] _ _ rfl (aA.strip h3) ?_ | exact rfl | refine zt ?_ | refine zu ?_ ?_ | intro h | fail
  refine To.part [0,3,4,5] [0,1,2,9,10,5,6,7,8] rfl rfl rfl ?_;exact next
 .repeat' first | (refine gN hE ?_;conv=>whnf) | refine ⟨i,rfl,?_⟩ | refine ⟨_,get,?_⟩ | refine .eff [] [1,2,0,3,4] _ _ rfl (aA.strip h3) ?_ | exact rfl | refine zt ?_ | refine zu ?_ ?_ | intro h | fail
  refine To.part [0,3,4,5] [0,1,2,10,11,5,6,7,8,9] rfl rfl rfl ?_;exact next
 .repeat' first | (refine gN hE ?_;conv=>whnf) | refine ⟨i,rfl,?_⟩ | refine ⟨_,get,?_⟩ | refine .eff [] [1,2,3,0,4,5] _ _ rfl (aA.strip h3) ?_ | exact rfl | refine zt ?_ | refine zu ?_ ?_ | intro h | fail
  refine To.part [0,3,4,5] [0,1,2,3,10,11,6,7,8,9] rfl rfl rfl ?_;exact next
 .repeat' first | (refine gN hE ?_;conv=>whnf) | refine ⟨i,rfl,?_⟩ | refine ⟨_,get,?_⟩ | refine .eff [] [1,2,3,0,4,5] _ _ rfl (aA.strip h3) ?_ | exact rfl | refine zt ?_ | refine zu ?_ ?_ | intro h | fail
  refine To.part [0,3,4,5] [0,1,2,3,11,12,6,7,8,9,10] rfl rfl rfl ?_;exact next
def aMi(L:List Kstp)(m:L.length<=57)(i:Nat)(p:Kstp)(get:(stv L)[i]? =some p.av)(c:i<L.length)(g:ax)(t u:Kst)(k:Nat)(d:KB t k)(l:1<=k)(f a:Bool)(next:∀ f,To E fSn (.full 1 snQ [bT g]) (.head (stk fSn 0) (snF L f ((i:Int)+1)) (snO f a g (fH t) u))):
  To E fSn (.full 1 snQ [bT g]) (.code (aMC fSn 8) (snF L f i) (snO f a g t u)):=by
 obtain ⟨j,e,b⟩:=d.dr2 f g Cmd.zero 0;have rest:=λ f=>aMk L m i p get c g (fH t) u k (d.snp l) f a (next f);generalize iQ t=q at b;generalize fH t=t' at *
 clear d next
 cases f
 .obtain rfl:j=false:=by rcases e with h | h<;>exact h
  cases a
  all_goals
   refine gV ?_
   first
    | refine .eff [] [1,2,0,3,4] _ _ rfl (aA.strip b) ?_
   repeat' first
    | exact To.partC [0,3,4,5] [0,1,2,3,4,5,6,7,8] rfl rfl rfl (rest false)
    | exact To.partC [0,3,4,5] [0,1,2,3,4,5,6,7,8,9] rfl rfl rfl (rest false)
    | (refine goN hE 1 rfl ?_;conv=>whnf)
 .clear e;cases j<;>cases a
  all_goals
   refine gV ?_
   first
    | refine .eff [] [1,2,3,0,4,5] _ _ rfl (aA.strip b) ?_
   repeat' first
    | exact To.partC [0,3,4,5] [0,1,2,4,5,6,7,8,9] rfl rfl rfl (rest false)
    | exact To.partC [0,3,4,5] [0,1,2,3,4,5,6,7,8,9] rfl rfl rfl (rest true)
    | exact To.partC [0,3,4,5] [0,1,2,4,5,6,7,8,9,10] rfl rfl rfl (rest false)
    | exact To.partC [0,3,4,5] [0,1,2,3,4,5,6,7,8,9,10] rfl rfl rfl (rest true)
    | (refine goN hE 1 rfl ?_;conv=>whnf)
set_option maxHeartbeats 8000000 in
def aFF(L:List Kstp)(i:Nat)(p:Kstp)(get:(stv L)[i]? =some p.av)(g:ax)(t u b a:Kst)(ev:bg)(e:Int)
  (h1:cDo false g t p (kO ev e) (drS false false g b.d.size b.d.safe b.n b.s)) (c:cDo false g u p (kO ev e) (drS false false g a.d.size a.d.safe a.n a.s))
  (rest:To E fSn (.full 1 snQ [bT g]) (.code (dB fSn 10) (snG L false false i) (snB false false g b a ev e))):
  To E fSn (.full 1 snQ [bT g]) (.code (iZ fSn 10) (snF L false i) (snO false false g t u)):=by
 refine To.permTV hE [0,1,2,3,4,6,7,8,9,10] [5,11,12,13,14,15] (by rfl) ?_;conv=>whnf
 repeat (first | (refine ⟨i,rfl,?_⟩;conv=>whnf) | (refine ⟨_,get,?_⟩;conv=>whnf))
 repeat' first
  | (refine .eff [] [1,2,0,3,4] _ _ rfl h1 ?_;conv=>whnf)
  | (refine .eff [] [5,6,0,7,8] _ _ rfl c ?_;conv=>whnf)
  | exact ⟨trivial,To.partC [0,3,4,5,6,7] [0,1,2,3,4,5,6,7,8,9,10] rfl rfl rfl rest⟩
  | exact ⟨trivial,To.partC [0,3,4,5,6,7] [0,1,2,3,4,5,6,7,8,10,9] rfl rfl rfl rest⟩
  | (refine Ac ?_ ?_;(focus ((repeat first | exact trivial | refine Ac rfl ?_ | refine Ac ⟨i,rfl,_,get,rfl⟩ ?_);done));(repeat (refine Ac ?_ ?_;rotate_left));exact trivial;all_goals (conv=>whnf))
  | fail
set_option maxHeartbeats 8000000 in
def aFG(L:List Kstp)(i:Nat)(p:Kstp)(get:(stv L)[i]? =some p.av)(g:ax)(t u b a:Kst)(ev:bg)(e:Int)
  (h1:cDo false g t p (kO ev e) (drS false false g b.d.size b.d.safe b.n b.s)) (c:cDo true g u p (kO ev e) (drS true true g a.d.size a.d.safe a.n a.s))
  (rest:To E fSn (.full 1 snQ [bT g]) (.code (dB fSn 10) (snG L false true i) (snB false true g b a ev e))):
  To E fSn (.full 1 snQ [bT g]) (.code (iZ fSn 10) (snF L false i) (snO false true g t u)):=by
 refine To.permTV hE [0,1,2,3,4,6,7,8,9,10] [5,11,12,13,14,15] (by rfl) ?_;conv=>whnf
 repeat (first | (refine ⟨i,rfl,?_⟩;conv=>whnf) | (refine ⟨_,get,?_⟩;conv=>whnf))
 repeat' first
  | (refine .eff [] [1,2,0,3,4] _ _ rfl h1 ?_;conv=>whnf)
  | (refine .eff [] [5,6,7,0,8,9] _ _ rfl c ?_;conv=>whnf)
  | exact ⟨trivial,To.partC [0,3,4,5,6,7] [0,1,2,3,4,5,6,7,8,9,10,11] rfl rfl rfl rest⟩
  | exact ⟨trivial,To.partC [0,3,4,5,6,7] [0,1,2,3,4,5,6,7,8,9,11,10] rfl rfl rfl rest⟩
  | (refine Ac ?_ ?_;(focus ((repeat first | exact trivial | refine Ac rfl ?_ | refine Ac ⟨i,rfl,_,get,rfl⟩ ?_);done));(repeat (refine Ac ?_ ?_;rotate_left));exact trivial;all_goals (conv=>whnf))
  | fail
set_option maxHeartbeats 8000000 in
def aFH(L:List Kstp)(i:Nat)(p:Kstp)(get:(stv L)[i]? =some p.av)(g:ax)(t u b a:Kst)(ev:bg)(e:Int)
  (h1:cDo true g t p (kO ev e) (drS true true g b.d.size b.d.safe b.n b.s)) (c:cDo false g u p (kO ev e) (drS false false g a.d.size a.d.safe a.n a.s))
  (rest:To E fSn (.full 1 snQ [bT g]) (.code (dB fSn 10) (snG L true false i) (snB true false g b a ev e))):
  To E fSn (.full 1 snQ [bT g]) (.code (iZ fSn 10) (snF L true i) (snO true false g t u)):=by
 refine To.permTV hE [0,1,2,3,4,6,7,8,9,10] [5,11,12,13,14,15] (by rfl) ?_;conv=>whnf
 repeat (first | (refine ⟨i,rfl,?_⟩;conv=>whnf) | (refine ⟨_,get,?_⟩;conv=>whnf))
 repeat' first
  | (refine .eff [] [1,2,3,0,4,5] _ _ rfl h1 ?_;conv=>whnf)
  | (refine .eff [] [6,7,0,8,9] _ _ rfl c ?_;conv=>whnf)
  | exact ⟨trivial,To.partC [0,3,4,5,6,7] [0,1,2,3,4,5,6,7,8,9,10,11] rfl rfl rfl rest⟩
  | exact ⟨trivial,To.partC [0,3,4,5,6,7] [0,1,2,3,4,5,6,7,8,9,11,10] rfl rfl rfl rest⟩
  | (refine Ac ?_ ?_;(focus ((repeat first | exact trivial | refine Ac rfl ?_ | refine Ac ⟨i,rfl,_,get,rfl⟩ ?_);done));(repeat (refine Ac ?_ ?_;rotate_left));exact trivial;all_goals (conv=>whnf))
  | fail
set_option maxHeartbeats 8000000 in
def aFI(L:List Kstp)(i:Nat)(p:Kstp)(get:(stv L)[i]? =some p.av)(g:ax)(t u b a:Kst)(ev:bg)(e:Int)
  (h1:cDo true g t p (kO ev e) (drS true true g b.d.size b.d.safe b.n b.s)) (c:cDo true g u p (kO ev e) (drS true true g a.d.size a.d.safe a.n a.s))
  (rest:To E fSn (.full 1 snQ [bT g]) (.code (dB fSn 10) (snG L true true i) (snB true true g b a ev e))):
  To E fSn (.full 1 snQ [bT g]) (.code (iZ fSn 10) (snF L true i) (snO true true g t u)):=by
 refine To.permTV hE [0,1,2,3,4,6,7,8,9,10] [5,11,12,13,14,15] (by rfl) ?_;conv=>whnf
 repeat (first | (refine ⟨i,rfl,?_⟩;conv=>whnf) | (refine ⟨_,get,?_⟩;conv=>whnf))
 repeat' first
  | (refine .eff [] [1,2,3,0,4,5] _ _ rfl h1 ?_;conv=>whnf)
  | (refine .eff [] [6,7,8,0,9,10] _ _ rfl c ?_;conv=>whnf)
  | exact ⟨trivial,To.partC [0,3,4,5,6,7] [0,1,2,3,4,5,6,7,8,9,10,11,12] rfl rfl rfl rest⟩
  | exact ⟨trivial,To.partC [0,3,4,5,6,7] [0,1,2,3,4,5,6,7,8,9,10,12,11] rfl rfl rfl rest⟩
  | (refine Ac ?_ ?_;(focus ((repeat first | exact trivial | refine Ac rfl ?_ | refine Ac ⟨i,rfl,_,get,rfl⟩ ?_);done));(repeat (refine Ac ?_ ?_;rotate_left));exact trivial;all_goals (conv=>whnf))
  | fail
set_option maxHeartbeats 8000000 in
def aFB(L:List Kstp)(i:Nat)(p:Kstp)(get:(stv L)[i]? =some p.av)(g:ax)(t u b a:Kst)(ev:bg)(e:Int)
  (h1:cDo false g t p (kO ev e) (drG false g b.d.size b.d.safe b.n b.s)) (c:cDo false g u p (kO ev e) (drG false g a.d.size a.d.safe a.n a.s))
  (rest:To E fSn (.full 1 snQ [bT g]) (.code (dB fSn 10) (snG L true true i) (snB true true g b a ev e))):
  To E fSn (.full 1 snQ [bT g]) (.code (iZ fSn 10) (snF L false i) (snO false false g t u)):=by
 refine To.permTV hE [0,1,2,3,4,6,7,8,9,10] [5,11,12,13,14,15] (by rfl) ?_;conv=>whnf
 repeat (first | (refine ⟨i,rfl,?_⟩;conv=>whnf) | (refine ⟨_,get,?_⟩;conv=>whnf))
 repeat' first
  | (refine .eff [] [1,2,0,3,4] _ _ rfl h1 ?_;conv=>whnf)
  | (refine .eff [] [5,6,0,7,8] _ _ rfl c ?_;conv=>whnf)
  | exact ⟨trivial,To.partC [0,3,4,5,6,7] [0,1,2,11,3,4,5,6,12,7,8,9,10] rfl rfl rfl rest⟩
  | exact ⟨trivial,To.partC [0,3,4,5,6,7] [0,1,2,12,3,4,5,6,11,7,8,9,10] rfl rfl rfl rest⟩
  | exact ⟨trivial,To.partC [0,3,4,5,6,7] [0,1,2,10,3,4,5,6,12,7,8,9,11] rfl rfl rfl rest⟩
  | exact ⟨trivial,To.partC [0,3,4,5,6,7] [0,1,2,10,3,4,5,6,11,7,8,9,12] rfl rfl rfl rest⟩
  | exact ⟨trivial,To.partC [0,3,4,5,6,7] [0,1,2,12,3,4,5,6,10,7,8,9,11] rfl rfl rfl rest⟩
  | exact ⟨trivial,To.partC [0,3,4,5,6,7] [0,1,2,11,3,4,5,6,10,7,8,9,12] rfl rfl rfl rest⟩
  | exact ⟨trivial,To.partC [0,3,4,5,6,7] [0,1,2,11,3,4,5,6,12,7,8,10,9] rfl rfl rfl rest⟩
  | exact ⟨trivial,To.partC [0,3,4,5,6,7] [0,1,2,12,3,4,5,6,11,7,8,10,9] rfl rfl rfl rest⟩
  | exact ⟨trivial,To.partC [0,3,4,5,6,7] [0,1,2,10,3,4,5,6,12,7,8,11,9] rfl rfl rfl rest⟩
  | exact ⟨trivial,To.partC [0,3,4,5,6,7] [0,1,2,10,3,4,5,6,11,7,8,12,9] rfl rfl rfl rest⟩
  | exact ⟨trivial,To.partC [0,3,4,5,6,7] [0,1,2,12,3,4,5,6,10,7,8,11,9] rfl rfl rfl rest⟩
  | exact ⟨trivial,To.partC [0,3,4,5,6,7] [0,1,2,11,3,4,5,6,10,7,8,12,9] rfl rfl rfl rest⟩
  | exact ⟨trivial,To.partC [0,3,4,5,6,7] [0,1,2,9,3,4,5,6,12,7,8,10,11] rfl rfl rfl rest⟩
  | exact ⟨trivial,To.partC [0,3,4,5,6,7] [0,1,2,9,3,4,5,6,11,7,8,10,12] rfl rfl rfl rest⟩
  | exact ⟨trivial,To.partC [0,3,4,5,6,7] [0,1,2,9,3,4,5,6,12,7,8,11,10] rfl rfl rfl rest⟩
  | exact ⟨trivial,To.partC [0,3,4,5,6,7] [0,1,2,9,3,4,5,6,11,7,8,12,10] rfl rfl rfl rest⟩
  | exact ⟨trivial,To.partC [0,3,4,5,6,7] [0,1,2,9,3,4,5,6,10,7,8,11,12] rfl rfl rfl rest⟩
  | exact ⟨trivial,To.partC [0,3,4,5,6,7] [0,1,2,9,3,4,5,6,10,7,8,12,11] rfl rfl rfl rest⟩
  | exact ⟨trivial,To.partC [0,3,4,5,6,7] [0,1,2,12,3,4,5,6,9,7,8,10,11] rfl rfl rfl rest⟩
  | exact ⟨trivial,To.partC [0,3,4,5,6,7] [0,1,2,11,3,4,5,6,9,7,8,10,12] rfl rfl rfl rest⟩
  | exact ⟨trivial,To.partC [0,3,4,5,6,7] [0,1,2,12,3,4,5,6,9,7,8,11,10] rfl rfl rfl rest⟩
  | exact ⟨trivial,To.partC [0,3,4,5,6,7] [0,1,2,11,3,4,5,6,9,7,8,12,10] rfl rfl rfl rest⟩
  | exact ⟨trivial,To.partC [0,3,4,5,6,7] [0,1,2,10,3,4,5,6,9,7,8,11,12] rfl rfl rfl rest⟩
  | exact ⟨trivial,To.partC [0,3,4,5,6,7] [0,1,2,10,3,4,5,6,9,7,8,12,11] rfl rfl rfl rest⟩
  | (refine Ac ?_ ?_;(focus ((repeat first | exact trivial | refine Ac rfl ?_ | refine Ac ⟨i,rfl,_,get,rfl⟩ ?_);done));(repeat (refine Ac ?_ ?_;rotate_left));exact trivial;all_goals (conv=>whnf))
  | fail
set_option maxHeartbeats 8000000 in
def aFC(L:List Kstp)(i:Nat)(p:Kstp)(get:(stv L)[i]? =some p.av)(g:ax)(t u b a:Kst)(ev:bg)(e:Int)
  (h1:cDo false g t p (kO ev e) (drG false g b.d.size b.d.safe b.n b.s)) (c:cDo true g u p (kO ev e) (drG true g a.d.size a.d.safe a.n a.s))
  (rest:To E fSn (.full 1 snQ [bT g]) (.code (dB fSn 10) (snG L true true i) (snB true true g b a ev e))):
  To E fSn (.full 1 snQ [bT g]) (.code (iZ fSn 10) (snF L false i) (snO false true g t u)):=by
 refine To.permTV hE [0,1,2,3,4,6,7,8,9,10] [5,11,12,13,14,15] (by rfl) ?_;conv=>whnf
 repeat (first | (refine ⟨i,rfl,?_⟩;conv=>whnf) | (refine ⟨_,get,?_⟩;conv=>whnf))
 repeat' first
  | (refine .eff [] [1,2,0,3,4] _ _ rfl h1 ?_;conv=>whnf)
  | (refine .eff [] [5,6,7,0,8,9] _ _ rfl c ?_;conv=>whnf)
  | exact ⟨trivial,To.partC [0,3,4,5,6,7] [0,1,2,12,3,4,5,6,7,8,9,10,11] rfl rfl rfl rest⟩
  | exact ⟨trivial,To.partC [0,3,4,5,6,7] [0,1,2,11,3,4,5,6,7,8,9,10,12] rfl rfl rfl rest⟩
  | exact ⟨trivial,To.partC [0,3,4,5,6,7] [0,1,2,12,3,4,5,6,7,8,9,11,10] rfl rfl rfl rest⟩
  | exact ⟨trivial,To.partC [0,3,4,5,6,7] [0,1,2,11,3,4,5,6,7,8,9,12,10] rfl rfl rfl rest⟩
  | exact ⟨trivial,To.partC [0,3,4,5,6,7] [0,1,2,10,3,4,5,6,7,8,9,11,12] rfl rfl rfl rest⟩
  | exact ⟨trivial,To.partC [0,3,4,5,6,7] [0,1,2,10,3,4,5,6,7,8,9,12,11] rfl rfl rfl rest⟩
  | (refine Ac ?_ ?_;(focus ((repeat first | exact trivial | refine Ac rfl ?_ | refine Ac ⟨i,rfl,_,get,rfl⟩ ?_);done));(repeat (refine Ac ?_ ?_;rotate_left));exact trivial;all_goals (conv=>whnf))
  | fail
set_option maxHeartbeats 8000000 in
def aFD(L:List Kstp)(i:Nat)(p:Kstp)(get:(stv L)[i]? =some p.av)(g:ax)(t u b a:Kst)(ev:bg)(e:Int)
  (h1:cDo true g t p (kO ev e) (drG true g b.d.size b.d.safe b.n b.s)) (c:cDo false g u p (kO ev e) (drG false g a.d.size a.d.safe a.n a.s))
  (rest:To E fSn (.full 1 snQ [bT g]) (.code (dB fSn 10) (snG L true true i) (snB true true g b a ev e))):
  To E fSn (.full 1 snQ [bT g]) (.code (iZ fSn 10) (snF L true i) (snO true false g t u)):=by
 refine To.permTV hE [0,1,2,3,4,6,7,8,9,10] [5,11,12,13,14,15] (by rfl) ?_;conv=>whnf
 repeat (first | (refine ⟨i,rfl,?_⟩;conv=>whnf) | (refine ⟨_,get,?_⟩;conv=>whnf))
 repeat' first
  | (refine .eff [] [1,2,3,0,4,5] _ _ rfl h1 ?_;conv=>whnf)
  | (refine .eff [] [6,7,0,8,9] _ _ rfl c ?_;conv=>whnf)
  | exact ⟨trivial,To.partC [0,3,4,5,6,7] [0,1,2,3,4,5,6,7,12,8,9,10,11] rfl rfl rfl rest⟩
  | exact ⟨trivial,To.partC [0,3,4,5,6,7] [0,1,2,3,4,5,6,7,11,8,9,10,12] rfl rfl rfl rest⟩
  | exact ⟨trivial,To.partC [0,3,4,5,6,7] [0,1,2,3,4,5,6,7,12,8,9,11,10] rfl rfl rfl rest⟩
  | exact ⟨trivial,To.partC [0,3,4,5,6,7] [0,1,2,3,4,5,6,7,11,8,9,12,10] rfl rfl rfl rest⟩
  | exact ⟨trivial,To.partC [0,3,4,5,6,7] [0,1,2,3,4,5,6,7,10,8,9,11,12] rfl rfl rfl rest⟩
  | exact ⟨trivial,To.partC [0,3,4,5,6,7] [0,1,2,3,4,5,6,7,10,8,9,12,11] rfl rfl rfl rest⟩
  | (refine Ac ?_ ?_;(focus ((repeat first | exact trivial | refine Ac rfl ?_ | refine Ac ⟨i,rfl,_,get,rfl⟩ ?_);done));(repeat (refine Ac ?_ ?_;rotate_left));exact trivial;all_goals (conv=>whnf))
  | fail
set_option maxHeartbeats 8000000 in
def aFE(L:List Kstp)(i:Nat)(p:Kstp)(get:(stv L)[i]? =some p.av)(g:ax)(t u b a:Kst)(ev:bg)(e:Int)
  (h1:cDo true g t p (kO ev e) (drG true g b.d.size b.d.safe b.n b.s)) (c:cDo true g u p (kO ev e) (drG true g a.d.size a.d.safe a.n a.s))
  (rest:To E fSn (.full 1 snQ [bT g]) (.code (dB fSn 10) (snG L true true i) (snB true true g b a ev e))):
  To E fSn (.full 1 snQ [bT g]) (.code (iZ fSn 10) (snF L true i) (snO true true g t u)):=by
 refine To.permTV hE [0,1,2,3,4,6,7,8,9,10] [5,11,12,13,14,15] (by rfl) ?_;conv=>whnf
 repeat (first | (refine ⟨i,rfl,?_⟩;conv=>whnf) | (refine ⟨_,get,?_⟩;conv=>whnf))
 repeat' first
  | (refine .eff [] [1,2,3,0,4,5] _ _ rfl h1 ?_;conv=>whnf)
  | (refine .eff [] [6,7,8,0,9,10] _ _ rfl c ?_;conv=>whnf)
  | exact ⟨trivial,To.partC [0,3,4,5,6,7] [0,1,2,3,4,5,6,7,8,9,10,11,12] rfl rfl rfl rest⟩
  | exact ⟨trivial,To.partC [0,3,4,5,6,7] [0,1,2,3,4,5,6,7,8,9,10,12,11] rfl rfl rfl rest⟩
  | (refine Ac ?_ ?_;(focus ((repeat first | exact trivial | refine Ac rfl ?_ | refine Ac ⟨i,rfl,_,get,rfl⟩ ?_);done));(repeat (refine Ac ?_ ?_;rotate_left));exact trivial;all_goals (conv=>whnf))
  | fail
set_option maxHeartbeats 4000000 in
def aFJ(L:List Kstp)(P:L.length<=57)(D:∀ p∈L,p.x.c.sm)(g:ax):∀ (m i:Nat) (t u:Kst) (f b:Bool),i+m=L.length->KB t (i+1)->KB u (i+1)->u.s=t.s->t.d.size=1048576->u.d.size=1048576->
  To E fSn (.full 1 snQ [bT g]) (.head (stk fSn 0) (snF L f i) (snO f b g t u)):=by
 have I:(stv L).length=L.length:=by simp
 have O:=IB g;intro m;induction m with
 | zero=>
  intro i t u f b N j l hs z A;clear j l hs z A;cases f<;>cases b
  all_goals
   refine gV ?_;refine aF λ h=>?_
   repeat' first | (refine gN hE ?_;conv=>whnf) | refine .eff [] [0] _ _ rfl O ?_ | exact zx [0] | exact rfl | refine zt ?_ | refine zu ?_ ?_ | intro h | fail
 | succ m y=>
  intro i t u f b N j l hs z A;have o:i<L.length:=o_;have get:(stv L)[i]? =some L[i].av:=by simp [o]
  have hp:=D L[i] (Bf o);generalize L[i]=p at get hp;by_cases C:p.k=1
  .obtain ⟨J,H,M,K,Q⟩:=aIh j l hs z A p.x;have v:=j.step o_ ⟨1,p.x,p.n⟩ (λ_=>hp);have w:=l.step o_ ⟨1,p.x,p.n⟩ (λ_=>hp);replace v:KB (doS t p.x).1 (i+1+1):=v;replace w:KB (doS u p.x).1 (i+1+1):=w;have F:=aIj j p.x (λ_=>hp);have rest:=λ f b=>aFA L i o_ g (doS t p.x).1 (doS u p.x).1 _ v w H (doS t p.x).2.1 (doS t p.x).2.2 F f b (y (i+1) _ _ f b o_ v w H M K);have e:=j.dr1b f g p.x p.n (λ_=>hp);have a:=l.dr1b b g p.x p.n (λ_=>hp);rw [J] at a;have B:(⟨1,p.x,p.n⟩:Kstp)=p:=by rw [<-C]
   rw [B] at e a;have key:To E fSn (.full 1 snQ [bT g]) (.code (iZ fSn 10) (snF L f i) (snO f b g t u)):=by
    rcases e with ⟨q,e⟩ | ⟨q,e⟩
    .rcases a with ⟨_,a⟩ | ⟨G,_⟩
     .cases f<;>cases b<;>first | exact aFE L i p get g t u _ _ _ _ e a (rest _ _) | exact aFD L i p get g t u _ _ _ _ e a (rest _ _) | exact aFC L i p get g t u _ _ _ _ e a (rest _ _) | exact aFB L i p get g t u _ _ _ _ e a (rest _ _)
     .exact absurd q G
    .rcases a with ⟨G,_⟩ | ⟨_,a⟩
     .exact absurd G q
     .cases f<;>cases b<;>first | exact aFI L i p get g t u _ _ _ _ e a (rest _ _) | exact aFH L i p get g t u _ _ _ _ e a (rest _ _) | exact aFG L i p get g t u _ _ _ _ e a (rest _ _) | exact aFF L i p get g t u _ _ _ _ e a (rest _ _)
   have r:(p.k !=1)=false:=by rw [C];rfl
   clear y rest e a v w j l D;cases f<;>cases b
   all_goals
    refine gV ?_;refine aT λ h=>gV ?_;refine ⟨i,rfl,gV ?_⟩;refine ⟨_,get,?_⟩
    repeat' first
     | exact To.partC [0,3,4,5] [0,1,2,3,4,5,6,7,8] rfl rfl rfl key
     | exact To.partC [0,3,4,5] [0,1,2,3,4,5,6,7,8,9] rfl rfl rfl key
     | exact To.partC [0,3,4,5] [0,1,2,3,4,5,6,7,8,9,10] rfl rfl rfl key
     | refine zF r ?_
     | (refine goN hE 1 rfl ?_;conv=>whnf)
  .have key:=aMi L P i p get o g t u (i+1) j o_ f b λ f=>y (i+1) (fH t) u f b o_ ((j.snp o_).le o_ o_) (l.le o_ o_) (by rw [(IT t).1];exact hs) (by rw [(IT t).2];exact z) A;have r:(p.k !=1)=true:=by simpa using C
   clear y j l D;cases f<;>cases b
   all_goals
    refine gV ?_;refine aT λ h=>gV ?_;refine ⟨i,rfl,gV ?_⟩;refine ⟨_,get,?_⟩
    repeat' first
     | exact To.partC [0,3,4,5] [0,1,2,3,4,5,6,7,8] rfl rfl rfl key
     | exact To.partC [0,3,4,5] [0,1,2,3,4,5,6,7,8,9] rfl rfl rfl key
     | exact To.partC [0,3,4,5] [0,1,2,3,4,5,6,7,8,9,10] rfl rfl rfl key
     | refine zE r ?_
     | (refine goN hE 1 rfl ?_;conv=>whnf)
def XU(L:List Kstp)(j:L.length<=1048576)(b:∀ p∈L,p.x.c.sm)(g:ax):aq 3 [.slice 17 (stv L) .no] [bT g] (.ret (.bool true)) [bT g]:=by
 obtain ⟨r,e,hs⟩:=QL L j b;have i:=IB g;have a:=HZ 1048576 g;rcases e with rfl | ⟨rfl,hl⟩
 .refine cT (E:=E) (fn:=Tryz.f3) (g:=.full 1 _ _) λ_=>?_
  repeat' first | (refine gN hE ?_;conv=>whnf) | refine .eff [] [0] _ _ rfl a ?_ | refine .pure _ [] hs ?_ | refine .eff [] [0] _ _ rfl i ?_ | exact zx [0] | exact rfl | refine zt ?_ | refine zu ?_ ?_ | intro h | fail
 .have d:=(kb0 1048576).le (k':=1) o_ o_;have next:=aFJ L o_ b g L.length 0 (rS 1048576) (rS 1048576) false false o_ d d rfl rfl rfl
  refine cT (E:=E) (fn:=Tryz.f3) (g:=.full 1 _ _) λ_=>?_
  repeat' first | (refine gN hE ?_;conv=>whnf) | refine .eff [] [0] _ _ rfl a ?_ | refine .pure _ [] hs ?_ | exact rfl | refine zt ?_ | refine zu ?_ ?_ | intro h | fail
  refine To.part [0,3,4,5] [0,1,2,3,4,5,6,7,8] rfl rfl rfl ?_;exact next
end Go.Proofs.YtaeegbkbahgjhaaGreatDoor
