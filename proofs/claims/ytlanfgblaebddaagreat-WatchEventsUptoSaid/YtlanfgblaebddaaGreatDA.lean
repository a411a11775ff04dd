/-
  Fix numbers, usage, who comes first, as walks.
-/
import Derived.Test.YtlanfgblaebddaaGreatCA
set_option linter.all false
set_option maxHeartbeats 1000000
open And renaming intro->Aa
open Bool renaming and_false->Ct,false_and->Dn,false_eq_true->Cv,true_and->Bw
open Exists renaming intro->Ai
open Int renaming fdiv_eq_ediv_of_nonneg->Kd,toNat->Ht
open List renaming drop_eq_getElem_cons->Ad,drop_eq_nil_of_le->Ae,eraseIdx_eq_take_drop_succ->Iz,foldl_cons->Aq,getElem?_eq_getElem->Ab,getElem_mem->Bg,length_drop->Gs,map_drop->Jl,map_take->Jk,mem_cons->Aj,perm_middle->Fo,range->Df,take->En,take_append_drop->De
open Nat renaming add_comm->Lr,add_mul->Bz,add_sub_cancel->Ih,add_zero->Dy,beq->Av,div_add_mod->Ib,div_div_eq_div_mul->Il,div_eq_of_lt->Ja,div_le_self->Et,div_lt_iff_lt_mul->Ea,div_one->Jp,eq_zero_or_pos->Gf,le_div_iff_mul_le->Hd,le_refl->Bi,le_trans->Cm,lt_of_le_of_lt->Ke,lt_or_ge->Lt,mod_lt->Gp,mul_add_div->Js,mul_assoc->Hy,mul_comm->Fg,mul_le_mul_right->Cg,one_mul->Ft,pow_add->Kk,pow_le_pow_right->Hk,zero_add->Cb,zero_le->Cc,zero_mul->Lb
open Or renaming inl->Gy
namespace Go.Proofs.YtlanfgblaebddaaGreat
open Go Go.AW Go.Proofs
theorem zqda0 {P:Prop} (h:P:=by
 refine aJ ?_
 refine gV ?_
 refine To.part [0,1,5,6,7] [] rfl rfl rfl ?_
 exact next):P:=h
theorem zqda1 {P:Prop} (h:P:=by
 have e:=ret d
 subst e
 refine aT fun h=>?_
 refine gV ?_
 exact rfl):P:=h
theorem zqda2 {P:Prop} (h:P:=by
 refine To.part [1,7,8,9] [] rfl rfl rfl ?_
 exact next):P:=h
theorem zqda3 {P:Prop} (h:P:=by
 exact To.cutC [0,1,5,6,7,8] 0 rfl rfl rfl rfl tail):P:=h
theorem zqda4 {P:Prop} (h:P:=by
 refine cX hE 7 ?_;conv=>whnf
 exact To.cutC [0,1,5,6,7,8] 0 rfl rfl rfl rfl u):P:=h
abbrev uu (n:Nat):AVal:=.int .u64 (n:Int)
def uH (n:Nat):Nat:=if n<18446744073709551616 then n else 18446744073709551615
def mJ (a b:Nat):Nat:=uH (a+b)
def oI (a b:Nat):Nat:=uH (a*b / 4294967296)
def ofF (n:Int):Nat:=if n<=0 then 0 else if n<4294967296 then n.toNat*4294967296 else 18446744073709551615
def I9 (a b:Nat):Nat:=if a=0 then 0 else if b=0 then 18446744073709551615 else uH (a*4294967296 / b)
def D6 (a b:Int):Nat:=I9 (max a 0).toNat (max b 0).toNat
theorem HF (n:Nat):uH n<18446744073709551616:=by unfold uH;split<;>omega
theorem AF (a b:Nat):mJ a b<18446744073709551616:=HF _
theorem H5 (a b:Nat):oI a b<18446744073709551616:=HF _
theorem O3 (n:Int):ofF n<18446744073709551616:=by
 unfold ofF
 repeat' split
 all_goals omega
theorem aBU (A i:Nat):A / 2 ^ i=2*(A / 2 ^ (i+1))+A / 2 ^ i % 2:=by
 rw [Nat.pow_succ,<-Il]
 omega
theorem aHh (a:Nat) {i:Nat} (h:i<32):a*4294967296 / 2 ^ i % 2=0:=by
 have e:(4294967296:Nat)=2*2 ^ (31-i)*2 ^ i:=by
  have:(4294967296:Nat)=2 ^ (1+(31-i)+i):=by rw [show 1+(31-i)+i=32 by omega]
  rw [this,Kk,Kk]
 rw [e,<-Hy,Nat.mul_div_cancel _ (Nat.pow_pos d_),Nat.mul_left_comm]
 omega
theorem aHi (a:Nat) {i:Nat} (h:32<=i):a*4294967296 / 2 ^ i=a / 2 ^ (i-32):=by
 have e:2 ^ i=2 ^ (i-32)*4294967296:=by
  have:(4294967296:Nat)=2 ^ 32:=by decide
  rw [this,<-Kk,show i-32+32=i by omega]
 rw [e,Nat.mul_div_mul_right _ _ d_]
theorem VC {A b i q r:Nat} (f:0<b) (d:r<b) (c:A / 2 ^ (i+1)=q*b+r):
  (2*r+A / 2 ^ i % 2<b->A / 2 ^ i=2*q*b+(2*r+A / 2 ^ i % 2))/\
  (b<=2*r+A / 2 ^ i % 2->A / 2 ^ i=(2*q+1)*b+(2*r+A / 2 ^ i % 2-b)/\2*r+A / 2 ^ i % 2-b<b):=by
 have e:=aBU A i
 rw [c] at e
 have h1:(2*q+1)*b=2*q*b+b:=by rw [Bz,Ft]
 have a:2*q*b=2*(q*b):=Hy ..
 rw [h1,a]
 generalize A / 2 ^ i=x at *
 generalize q*b=y at *
 omega
theorem ZY {A b q r:Nat} (c:r<b) (a:A / 2 ^ 0=q*b+r):q=A / b:=by
 rw [Nat.pow_zero,Jp] at a
 rw [a,Fg,Js o_,Ja c,Dy]
theorem ZZ {A b i q r:Nat} (c:0<b) (e:A / 2 ^ (i+1)=q*b+r) (h:9223372036854775808<=q):18446744073709551616<=A / b:=by
 refine (Hd c).2 ?_
 have h1:A / 2 ^ (i+1)*2 ^ (i+1)<=A:=Nat.div_mul_le_self ..
 have d:A / 2 ^ (i+1)*2<=A / 2 ^ (i+1)*2 ^ (i+1):=Nat.mul_le_mul_left _ (by rw [Nat.pow_succ];have:=Nat.pow_pos (a:=2) (n:=i) d_;omega)
 have h3:9223372036854775808*b<=q*b:=Cg _ h
 rw [e] at h1 d
 omega
set_option maxRecDepth 10000
structure Dg (y1 y0 u v q r:Nat):Prop where
 rest:u=q*y1+r
 top:u*4294967296+v<(q+1)*(y1*4294967296+y0)
 few:q<=4294967297
theorem qY (q a b:Nat):q*(a*4294967296+b)=q*a*4294967296+q*b:=by rw [Nat.mul_add,Hy]
theorem Dg.zero {c d u v:Nat} (h1:2147483648<=c) (j:d<4294967296) (g:v<4294967296) (i:u<c*4294967296+d):Dg c d u v (u / c) (u % c):=by
 have e:u=u / c*c+u % c:=by rw [Fg];exact (Ib u c).symm
 have f:u % c<c:=Gp _ o_
 refine ⟨e,?_,?_⟩
 .rw [qY,Bz,Ft,Bz,Bz _ _ d,Ft]
  generalize u / c*c=a at *
  generalize u / c*d=b
  omega
 .have h:u / c<4294967298:=by
   refine (Ea o_).2 ?_
   omega
  omega
theorem Dg.step {c d u v q r:Nat} (h:Dg c d u v q r) (m:v<4294967296) (o:u<c*4294967296+d) (g:4294967296<=q\/4294967296*r+v<q*d):1<=q/\Dg c d u v (q-1) (r+c):=by
 obtain ⟨e,n,p⟩:=h
 have k:1<=q:=by
  rcases g with h | h
  .omega
  .rcases Gf q with rfl | i
   .rw [Lb] at h;omega
   .exact i
 refine ⟨k,?_⟩
 have f:q=q-1+1:=o_
 have j:u*4294967296+v<q*(c*4294967296+d):=by
  rcases g with h | h
  .have i:4294967296*(c*4294967296+d)<=q*(c*4294967296+d):=Cg _ h
   omega
  .rw [qY]
   generalize q*c=a at *
   generalize q*d=b at *
   omega
 refine ⟨?_,by rw [<-f];exact j,by omega⟩
 have l:q*c=(q-1)*c+c:=by
  rw [f,Ih,Bz,Ft]
 omega
theorem Dg.fin {d c u v q r:Nat} (h:Dg d c u v q r) (i:q*c<=4294967296*r+v):q*(d*4294967296+c)<=u*4294967296+v/\q=(u*4294967296+v) / (d*4294967296+c):=by
 obtain ⟨e,f,g⟩:=h
 have hl:q*(d*4294967296+c)<=u*4294967296+v:=by
  rw [qY]
  generalize q*d=a at *
  generalize q*c=b at *
  omega
 refine ⟨hl,?_⟩
 have hp:0<d*4294967296+c:=by
  rcases Gf (d*4294967296+c) with h | h
  .rw [h,Nat.mul_zero] at f;omega
  .exact h
 refine Nat.le_antisymm ((Hd hp).2 hl) ?_
 have:=(Ea hp).2 f
 omega
structure Ord {α:Type} (lt:α->α->Bool):Prop where
 tr:∀ a b c,lt a b=true->lt b c=true->lt a c=true
 irr:∀ a,lt a a=false
def Up {α:Type} (lt:α->α->Bool) (l:List α):Prop:=l.Pairwise fun a b=>lt a b=true
def Tot {α:Type} (lt:α->α->Bool) (l:List α):Prop:=l.Pairwise fun a b=>lt a b=true\/lt b a=true
theorem Tot.perm {α:Type} {lt:α->α->Bool} {l m:List α} (h:l.Perm m) (a:Tot lt l):Tot lt m:=h.pairwise a fun h=>h.symm
def IC {α:Type} (lt:α->α->Bool) (x:α) (l:List α):Nat->Nat
 | 0=>0
 | k+1=>match l[k]? with
  | some y=>if lt x y then IC lt x l k else k+1
  | none=>k+1
def ID {α:Type} (lt:α->α->Bool) (l:List α) (x:α):List α:=l.take (IC lt x l l.length)++x::l.drop (IC lt x l l.length)
def srt {α:Type} (lt:α->α->Bool) (l:List α):List α:=l.foldl (ID lt) []
theorem FR {α:Type} (lt:α->α->Bool) (l:List α) (x:α):(ID lt l x).Perm (x::l):=by
 unfold ID
 refine Fo.trans ?_
 rw [De]
theorem EU {α:Type} {lt:α->α->Bool}:∀ (l a:List α),(l.foldl (ID lt) a).Perm (a++l)
 | [],a=>by simp
 | x::l,a=>(EU l (ID lt a x)).trans (((FR lt a x).append_right l).trans Fo.symm)
theorem J6 {α:Type} (lt:α->α->Bool) (l:List α):(srt lt l).Perm l:=EU l []
theorem U3 (n:Int) (r:Nat) (a:ofF n=r):aA Tryz.prog 94 [ii n] [] (.ret (uu r)) []:=by
 unfold ofF at a
 by_cases h1:n<0
 .rw [if_pos o_] at a
  subst a
  refine c_ Tryz.f94 fun _=>?_
  repeat' first | (refine gN hE ?_;conv=>whnf) | exact rfl | (refine zt ?_;try intro h) | refine zu (fun h=>?_) fun h=>?_ | fail
 .by_cases b:n<4294967296
  .have e:n*4294967296=(r:Int):=by
    rw [<-a]
    split<;>omega
   have c:(r:Int)<18446744073709551616:=o_
   refine c_ Tryz.f94 fun _=>?_
   repeat' first | (refine gN hE ?_;conv=>whnf) | exact rfl | (refine zt ?_;try intro h) | refine zu (fun h=>?_) fun h=>?_ | fail
   rw [e]
  .rw [if_neg o_,if_neg b] at a
   subst a
   refine c_ Tryz.f94 fun _=>?_
   repeat' first | (refine gN hE ?_;conv=>whnf) | exact rfl | (refine zt ?_;try intro h) | refine zu (fun h=>?_) fun h=>?_ | fail
theorem OT (a b:Nat) (e:a<18446744073709551616) (d:b<18446744073709551616) (r:Nat) (c:mJ a b=r):aA Tryz.prog 91 [uu a,uu b] [] (.ret (uu r)) []:=by
 unfold mJ uH at c
 by_cases h:a+b<18446744073709551616
 .rw [if_pos h] at c
  subst c
  refine c_ Tryz.f91 fun _=>?_
  repeat' first | (refine gN hE ?_;conv=>whnf) | exact rfl | (refine zt ?_;try intro h) | refine zu (fun h=>?_) fun h=>?_ | fail
 .rw [if_neg h] at c
  subst c
  refine c_ Tryz.f91 fun _=>?_
  repeat' first | (refine gN hE ?_;conv=>whnf) | exact rfl | (refine zt ?_;try intro h) | refine zu (fun h=>?_) fun h=>?_ | fail
theorem BD (n:Int):aA Tryz.prog 94 [ii n] [] (.ret (uu (ofF n))) []:=U3 n _ rfl
theorem jY (a b:Nat) (d:a<18446744073709551616) (c:b<18446744073709551616):aA Tryz.prog 91 [uu a,uu b] [] (.ret (uu (mJ a b))) []:=OT a b d c _ rfl
def BL (x n:Nat):Prop:=1<=n/\2 ^ (n-1)<=x/\x<2 ^ n
theorem BL.up {x n:Nat} (k:Nat) (h:BL (x / 2 ^ k) n):BL x (k+n):=by
 obtain ⟨h1,a,h3⟩:=h
 have hp:0<2 ^ k:=Nat.pow_pos d_
 refine ⟨by omega,?_,?_⟩
 .have:=(Hd hp).1 a
  rw [show k+n-1=n-1+k by omega,Kk]
  exact this
 .have:=(Ea hp).1 h3
  rw [Lr,Kk]
  exact this
theorem BL.le {x n:Nat} (h:BL x n) (b:x<18446744073709551616):n<=64:=by
 obtain ⟨h1,a,_⟩:=h
 rcases Lt 64 n with h3 | h3
 .have:2 ^ 64<=2 ^ (n-1):=Hk d_ o_
  omega
 .exact h3
theorem hiN (x k:Nat):Int.fdiv (x:Int) (2 ^ k)=((x / 2 ^ k:Nat):Int):=by
 rw [Kd _ (Int.pow_nonneg d_)]
 push_cast
 rfl
theorem wu (n:Int):IntKind.wrap .u64 n=n % 18446744073709551616:=by
 simp [IntKind.wrap,IntKind.signed,IntKind.bits]
theorem aHG (x s:Nat):Int.fdiv (x:Int) (2 ^ Ht (s:Int))=((x / 2 ^ s:Nat):Int):=hiN x s
theorem oA (n:Nat):uH n=if n<18446744073709551616 then n else 18446744073709551615:=rfl
noncomputable abbrev fRV:Func:=Tryz.f179
def ovF (a b q r:Nat) (i:Int):List (Nat×AVal):=[(0,uu a),(1,uu b),(5,uu q),(6,uu r),(7,ii i)]
def EJ (a i:Nat):Nat:=a*4294967296 / 2 ^ i % 2
theorem TS (a i:Nat):EJ a i<2:=Gp _ d_
theorem Z3 (n:Nat):iX .or .u64 ((2*n:Nat):Int) 1=if 2*n<18446744073709551616 then ((2*n+1:Nat):Int) else iX .or .u64 ((2*n:Nat):Int) 1:=by
 split
 .have h:=aBD .u64 (2*n) 1 (by simp only [bI];omega) d_
  have a:2*n ||| 1=2*n+1:=by
   have:=Nat.two_pow_add_eq_or_of_lt (i:=1) (b:=1) d_ n
   simpa using this.symm
  rw [a] at h
  exact h
 .rfl
theorem DC (z:Nat) (hz:z<18446744073709551616):iX .and .u64 (z:Int) 1=((z % 2:Nat):Int):=by
 have h:=WI .u64 z 1 (by simp only [bI];omega) d_
 rw [Nat.and_one_is_mod] at h
 exact h
theorem R9 (a b q r v i:Nat) (top:Bool) (w:Int) (G:AVal) (n:0<b) (k:b<18446744073709551616) (o:q<18446744073709551616) (s:i<96) (p:0<=w/\w<=18446744073709551615) (j:top=decide (18446744073709551616<=v)) (f:(v:Int)=w+(if top=true then 18446744073709551616 else 0)) (l:v<2*b)
  (ret:9223372036854775808<=q->G=uu 18446744073709551615)
  (next:q<9223372036854775808->To E fRV (.pure (.ret G)) (.head (stk fRV 0) (ovF a b (if b<=v then 2*q+1 else 2*q) (if b<=v then v-b else v) ((i:Int)-1)) [])):
  To E fRV (.pure (.ret G)) (.code (vT fRV 10) [(0,uu a),(1,uu b),(5,uu q),(6,.int .u64 w),(7,ii i),(8,.bool top)] []):=by
 have e3:=Z3 q
 cases top with
 | true=>
  have h1:=(of_decide_eq_true j.symm)
  have f:(v:Int)=w+18446744073709551616:=f
  have g:IntKind.wrap .u64 (w-(b:Int))=((v-b:Nat):Int):=by rw [wu];omega
  rw [if_pos o_,if_pos o_] at next
  refine gV ?_
  refine aY ?_
  refine gV ?_
  refine aY ?_
  refine gV ?_
  refine Or.inr ?_
  rw [g]
  refine gV ?_
  by_cases d:9223372036854775808<=q
  .exact zqda1
  .have next:=next o_
   have c:(q:Int)*2 ^ Ht 1=((2*q:Nat):Int):=by
    show (q:Int)*2=_
    omega
   refine aF fun h=>?_
   refine gV ?_
   refine Aa d_ ?_
   refine gV ?_
   rw [c]
   refine Gy (Aa (Aa d_ (Aa (by simp only [bW];omega) (by simp only [bI];omega))) ?_)
   refine gV ?_
   refine aY ?_
   rw [if_pos o_] at e3
   refine gV ?_
   rw [e3]
   exact zqda0
 | false=>
  have h1:=(of_decide_eq_false j.symm)
  have f:(v:Int)=w+0:=f
  have m:w=(v:Int):=o_
  subst m
  by_cases h3:b<=v
  .rw [if_pos h3,if_pos h3] at next
   have g:(v:Int)-(b:Int)=((v-b:Nat):Int):=o_
   refine gV ?_
   refine aN ?_
   refine gV ?_
   refine aT fun h=>?_
   refine gV ?_
   rw [g]
   refine aJ ?_
   refine gV ?_
   by_cases d:9223372036854775808<=q
   .exact zqda1
   .have next:=next o_
    have c:(q:Int)*2 ^ Ht 1=((2*q:Nat):Int):=by
     show (q:Int)*2=_
     omega
    refine aF fun h=>?_
    refine gV ?_
    refine Aa d_ ?_
    refine gV ?_
    rw [c]
    refine Gy (Aa (Aa d_ (Aa (by simp only [bW];omega) (by simp only [bI];omega))) ?_)
    refine gV ?_
    refine aT fun h=>?_
    rw [if_pos o_] at e3
    refine gV ?_
    rw [e3]
    exact zqda0
  .rw [if_neg h3,if_neg h3] at next
   refine gV ?_
   refine aN ?_
   refine gV ?_
   refine aF fun h=>?_
   refine gV ?_
   by_cases d:9223372036854775808<=q
   .exact zqda1
   .have next:=next o_
    have c:(q:Int)*2 ^ Ht 1=((2*q:Nat):Int):=by
     show (q:Int)*2=_
     omega
    refine aF fun h=>?_
    refine gV ?_
    refine Aa d_ ?_
    refine gV ?_
    rw [c]
    refine Gy (Aa (Aa d_ (Aa (by simp only [bW];omega) (by simp only [bI];omega))) ?_)
    refine gV ?_
    refine aF fun h=>?_
    refine gV ?_
    exact zqda0
theorem Z0 (a b q k i:Nat) (top:Bool) (G:AVal) (m:a<18446744073709551616) (p:i<96) (n:2*k<18446744073709551616) (tail:To E fRV (.pure (.ret G)) (.code (vT fRV 10) [(0,uu a),(1,uu b),(5,uu q),(6,uu (2*k+EJ a i)),(7,ii i),(8,.bool top)] [])):
  To E fRV (.pure (.ret G)) (.code (vT fRV 8) [(0,uu a),(1,uu b),(5,uu q),(6,uu (2*k)),(7,ii i),(8,.bool top)] []):=by
 have e3:=Z3 k
 rw [if_pos n] at e3
 by_cases e:32<=i
 .have j:(i:Int)-32=((i-32:Nat):Int):=o_
  have g:=aHG a (i-32)
  have f:iX .and .u64 ((a / 2 ^ (i-32):Nat):Int) 1=(EJ a i:Int):=by
   unfold EJ
   rw [aHi a e]
   exact DC _ (Ke (Et ..) m)
  have o:=TS a i
  generalize a / 2 ^ (i-32)=z at *
  generalize EJ a i=t at *
  by_cases d:t=1
  .subst d
   have c:(((1:Nat):Int)==1)=true:=rfl
   have l:((2*k:Nat):Int)+1=((2*k+1:Nat):Int):=rfl
   refine gV ?_
   refine aT fun h=>?_
   refine gV ?_
   rw [j]
   refine aJ ?_
   refine gV ?_
   refine aJ ?_
   refine gV ?_
   rw [g]
   refine Aa (Aa o_ (show Ht ((i-32:Nat):Int)<=64 by omega)) ?_
   refine gV ?_
   rw [f]
   refine Aa (fun _=>?_) (fun h=>absurd (c.symm.trans h) d_)
   refine cX hE 12 ?_;conv=>whnf
   rw [e3]
   exact zqda3
  .have d:t=0:=o_
   subst d
   have c:(((0:Nat):Int)==1)=false:=rfl
   refine gV ?_
   refine aT fun h=>?_
   refine gV ?_
   rw [j]
   refine aJ ?_
   refine gV ?_
   refine aJ ?_
   refine gV ?_
   rw [g]
   refine Aa (Aa o_ (show Ht ((i-32:Nat):Int)<=64 by omega)) ?_
   refine gV ?_
   rw [f]
   refine Aa (fun h=>absurd (c.symm.trans h) d_) (fun _=>?_)
   refine cX hE 2 ?_;conv=>whnf
   exact zqda3
 .have hz:EJ a i=0:=aHh a o_
  rw [hz,Dy] at tail
  refine gV ?_
  refine aF fun h=>?_
  refine gV ?_
  refine aN ?_
  refine cX hE 2 ?_;conv=>whnf
  exact zqda3
theorem aDk (a b:Nat) (x:a<18446744073709551616) (e:0<b) (d:b<18446744073709551616) (R:Nat) (j:uH (a*4294967296 / b)=R):∀ (m q r:Nat),m<=96->r<b->q<18446744073709551616->a*4294967296 / 2 ^ m=q*b+r->
  To E fRV (.pure (.ret (uu R))) (.head (stk fRV 0) (ovF a b q r ((m:Int)-1)) []):=by
 intro m
 induction m with
 | zero=>
  intro q r hm o k g
  have s:=ZY o g
  rw [<-s,oA,if_pos k] at j
  subst j
  unfold ovF
  refine gV ?_
  refine aF fun h=>?_
  refine gW hE ?_;conv=>whnf
 | succ i y=>
  intro q r hm o k g
  have w:=TS a i
  obtain ⟨t,f⟩:=VC e o g
  have z:a*4294967296 / 2 ^ i % 2=EJ a i:=rfl
  rw [z] at t f
  obtain ⟨v,p⟩:∃ v,v=2*r+EJ a i:=⟨_,rfl⟩
  rw [<-p] at t f
  have ret:9223372036854775808<=q->uu R=uu 18446744073709551615:=fun h=>by
   have:=ZZ e g h
   rw [oA,if_neg o_] at j
   rw [<-j]
  have next:q<9223372036854775808->To E fRV (.pure (.ret (uu R))) (.head (stk fRV 0) (ovF a b (if b<=v then 2*q+1 else 2*q) (if b<=v then v-b else v) ((i:Int)-1)) []):=fun h=>by
   by_cases c:b<=v
   .rw [if_pos c,if_pos c]
    exact y (2*q+1) (v-b) o_ (f c).2 o_ (f c).1
   .rw [if_neg c,if_neg c]
    exact y (2*q) v o_ o_ o_ (t o_)
  have A:((i+1:Nat):Int)-1=(i:Int):=o_
  unfold ovF
  rw [A]
  by_cases h1:9223372036854775808<=r
  .have tail:=R9 a b q r v i true (2*(r-9223372036854775808)+EJ a i:Nat) (uu R) e d k o_ o_ (decide_eq_true o_).symm (by rw [if_pos rfl];omega) o_ ret next
   have u:=Z0 a b q (r-9223372036854775808) i true (uu R) x o_ o_ tail
   have n:IntKind.wrap .u64 ((r:Int)*2 ^ (min (Ht 1) (IntKind.bits .u64)))=((2*(r-9223372036854775808):Nat):Int):=by
    show IntKind.wrap .u64 ((r:Int)*2)=_
    rw [wu]
    omega
   have l:decide ((9223372036854775808:Int)<=(r:Int))=true:=decide_eq_true o_
   refine gV ?_
   refine aT fun h=>?_
   refine gV ?_
   rw [l]
   refine Aa d_ ?_
   refine gV ?_
   refine Or.inr ?_
   rw [n]
   exact zqda4
  .have tail:=R9 a b q r v i false (2*r+EJ a i:Nat) (uu R) e d k o_ o_ (decide_eq_false o_).symm (by rw [if_neg d_];omega) o_ ret next
   have u:=Z0 a b q r i false (uu R) x o_ o_ tail
   have n:(r:Int)*2 ^ Ht 1=((2*r:Nat):Int):=by
    show (r:Int)*2=_
    omega
   have l:decide ((9223372036854775808:Int)<=(r:Int))=false:=decide_eq_false o_
   refine gV ?_
   refine aT fun h=>?_
   refine gV ?_
   rw [l]
   refine Aa d_ ?_
   refine gV ?_
   rw [n]
   refine Gy (Aa (Aa d_ (Aa (by simp only [bW];omega) (by simp only [bI];omega))) ?_)
   exact zqda4
theorem R8 (a b:Nat) (i:a<18446744073709551616) (e:0<b) (c:b<18446744073709551616):aA Tryz.prog 179 [uu a,uu b] [] (.ret (uu (uH (a*4294967296 / b)))) []:=by
 have h:a*4294967296 / 2 ^ 96=0*b+0:=by
  rw [Ja]
  .simp
  .have:(2:Nat) ^ 96=18446744073709551616*4294967296:=by decide
   omega
 have d:=aDk a b i e c _ rfl 96 0 0 o_ e o_ h
 generalize uH (a*4294967296 / b)=R at *
 unfold ovF at d
 refine c_ Tryz.f179 fun _=>?_
 refine gV ?_
 refine To.part [0,1,5,6,7] [] rfl rfl rfl ?_
 exact d
theorem E5 (a b:Nat) (k:a<18446744073709551616) (i:b<18446744073709551616):aA Tryz.prog 186 [uu a,uu b] [] (.ret (uu (I9 a b))) []:=by
 unfold I9
 by_cases h1:a=0
 .subst h1
  refine c_ Tryz.f186 fun _=>?_
  repeat' first | (refine gN hE ?_;conv=>whnf) | exact rfl | (refine zt ?_;try intro h) | refine zu (fun h=>?_) fun h=>?_ | fail
 .have c:((a:Int)==0)=false:=beq_eq_false_iff_ne.2 o_
  rw [if_neg h1]
  by_cases d:b=0
  .subst d
   refine c_ Tryz.f186 fun _=>?_
   repeat' first | (refine gN hE ?_;conv=>whnf) | refine Aa (fun h=>absurd (c.symm.trans h) d_) (fun _=>?_) | exact rfl | (refine zt ?_;try intro h) | refine zu (fun h=>?_) fun h=>?_ | fail
  .have j:((b:Int)==0)=false:=beq_eq_false_iff_ne.2 o_
   rw [if_neg d]
   have e:=R8 a b k o_ i
   generalize uH (a*4294967296 / b)=R at *
   refine c_ Tryz.f186 fun _=>?_
   repeat' first | (refine gN hE ?_;conv=>whnf) | refine Aa (fun h=>absurd (c.symm.trans h) d_) (fun _=>?_) | refine Aa (fun h=>absurd (j.symm.trans h) d_) (fun _=>?_) | refine .pure _ [] e ?_ | exact rfl | (refine zt ?_;try intro h) | refine zu (fun h=>?_) fun h=>?_ | fail
def QC:List Nat:=[3037000499,3611622602,3938502375,4112874772,4202935002,4248701964,4271771996,4283353945,4289156689,4292061009,4293513906,4294240539,4294603902,4294785595,4294876444,4294921869]
def EF (f x i:Nat):Nat:=if f.testBit (15-i)=true then oI x ((QC[i]?).getD 0) else x
def aGV (f:Nat):Nat:=(Df 16).foldl (EF f) 4294967296
def yZ (age half:Int):Nat:=
 if 63<(max age 0).toNat / (max half 1).toNat then 0 else aGV (D6 (((max age 0).toNat % (max half 1).toNat:Nat):Int) ((max half 1).toNat:Int) / 65536) / 2 ^ ((max age 0).toNat / (max half 1).toNat)
def WL (x:Nat) (n m:Int):Nat:=if 0<n then max x (D6 n m) else x
def WM (u v:V3):Nat:=WL (WL (WL 0 u.a v.a) u.b v.b) u.c v.c
def aFE (v:V3) (h:Hos):V3:=dL v h.c
def NL (c:Con):V3:=c.hs.foldl aFE V3.zero
def lV {α:Type} (d:Nat->α->Nat):List α->Nat->List Nat
 | [],_=>[]
 | x::r,i=>d i x::lV d r (i+1)
theorem iE {α:Type} (d:Nat->α->Nat):∀ (l:List α) (i:Nat),(lV d l i).length=l.length
 | [],_=>rfl
 | _::r,i=>by simp [lV,iE d r (i+1)]
theorem aA1 {l:List Nat} {i:Nat} (h:i<l.length):(fv l)[i]? =some (uu l[i]):=by simp [fv,h]
def LtF (l:List Nat):Prop:=∀ x∈l,x<18446744073709551616
def yR (c:Con) (i:Nat) (v:V3):Nat:=if aU c.ns (i:Int)=true then WM v (NL c) else 0
def yS (c:Con) (l:List Rn):List Nat:=lV (yR c) (ofL c l) 0
def tkS (a:List Nat) (n half:Int) (i:Nat) (x:Nat):Nat:=if i<a.length then mJ (oI x (yZ n half)) (oI ((a[i]?).getD 0) (ofF n)) else oI x (yZ n half)
def tkL (h a:List Nat) (n half:Int):List Nat:=lV (tkS a n half) h 0
def jF (a:Int) (l:List Pn):Int:=Q2.findP a (l.map Pn.q)
def fM (l:List Pn) (a:Int):List Pn:=if jF a l<0 then l else l.eraseIdx (jF a l).toNat
def oB (l:List Pn) (p:Pn):List Pn:=l.take (Q2.putAt p.q (l.map Pn.q))++[p]++l.drop (Q2.putAt p.q (l.map Pn.q))
theorem aCz (l:List Pn) (a:Int):(fM l a).map Pn.q=Q2.takeP (l.map Pn.q) a:=by
 unfold fM Q2.takeP jF
 split
 .rfl
 .simp [Iz,Jk,Jl]
theorem ZO (l:List Pn) (p:Pn):(oB l p).map Pn.q=Q2.putP (l.map Pn.q) p.q:=by
 unfold oB Q2.putP
 simp [Jk,Jl]
structure Ev where
 (k id n:Int)
 deriving DecidableEq
def Ev.cs (e:Ev):List AVal:=[ii e.k,ii e.id,ii e.n]
def Ev.av (e:Ev):AVal:=.agg e.cs
abbrev evv (l:List Ev):List AVal:=l.map Ev.av
structure Rd where
 s:Sta
 ev:List Ev
 head:Bool
 start:Int
def DW (r:Rd) (p:Pn) (fl:Int) (hs:List Int):Rd:=
 ⟨{r.s with pend:=fM r.s.pend p.g.id,run:=r.s.run++[⟨p.g,p.seq,p.at',r.s.now,fl,hs⟩]},r.ev++[⟨1,p.g.id,fl⟩],r.head,r.start⟩
def EM (r:Rd) (p:Pn):Option (Int×List Int)->Rd×Bool
 | none=>(r,false)
 | some (fl,hs)=>if (r.head&& !bmB r.s.now p.g r.start)=true then (r,false) else (DW r p fl hs,true)
def admR (r:Rd) (p:Pn):Rd×Bool:=EM r p (bX r.s.c r.s.run p.g)
def dM (run:List Rn) (r:Rd) (id:Int):Rd:=
 let x:=aX run (bA (fun x=>x.g.id==id) run 0).toNat
 ⟨{r.s with pend:=oB r.s.pend x.pn},r.ev++[⟨2,id,0⟩],r.head,r.start⟩
def jG (r:Rd) (ids:List Int):Rd:=
 let q:=ids.foldl (dM r.s.run) r
 ⟨{q.s with run:=aE r.s.run ids},q.ev,q.head,q.start⟩
def UY (r:Rd) (p:Pn):Option Int->Rd
 | none=>r
 | some n=>⟨r.s,r.ev++[⟨4,p.g.id,n⟩],true,n⟩
def aFb (r:Rd) (p:Pn):Option (List Int)->Rd
 | some ids=>(admR (jG r ids) p).1
 | none=>UY r p (sX r.s.c r.s.now r.s.run p.g)
def cG (r:Rd) (p:Pn):Rd:=
 if (admR r p).2=true then (admR r p).1 else if r.head=true then r else aFb r p (fJ r.s.c r.s.run p.g)
def oH (a b:Int):Int:=if a<b then -1 else if b<a then 1 else 0
def NT (c:Con) (h:List Nat) (n:Int):Nat:=(bB c.ns n).foldl (fun x t=>if t<(h.length:Int) then mJ x ((h[t.toNat]?).getD 0) else x) 0
def aHx (c:Con) (n:Int):Int:=if 0<=n/\n<(c.ns.length:Int) then max 1 (bN c.ns n).w else 1
def LL (c:Con) (h:List Nat) (n:Int):Nat:=I9 (NT c h n) (ofF (aHx c n))
def LF (c:Con) (h:List Nat) (x y:Int):Int:=if LL c h x<LL c h y then -1 else if LL c h y<LL c h x then 1 else oH x y
def jL (c:Con) (h:List Nat):List Int->List Int->Int
 | [],[]=>0
 | [],_::_=> -1
 | _::_,[]=>1
 | x::p,y::q=>if x=y then jL c h p q else LF c h x y
def wP (c:Con) (now:Int) (p:Pn):Bool:=decide (0<c.age)&&(decide (p.at'<=now)&&decide (c.age<=now-p.at'))
def ptC (s:Sta) (a b:Pn):Int:=jL s.c s.hist (bG s.c.ns a.g.ten) (bG s.c.ns b.g.ten)
def MP (s:Sta) (a b:Pn):Int:=
 if wP s.c s.now a=true then (if wP s.c s.now b=true then oH a.seq b.seq else -1)
 else if wP s.c s.now b=true then 1 else (if ptC s a b=0 then oH a.seq b.seq else ptC s a b)
def ltP (s:Sta) (a b:Pn):Bool:=decide (MP s a b<0)
theorem H3 {a b:Int}:oH a b<0↔a<b:=by
 unfold oH
 repeat' split
 all_goals omega
theorem aGn {a b:Int}:oH a b=0↔a=b:=by
 unfold oH
 repeat' split
 all_goals omega
theorem aDr {a b:Int}:0<oH a b↔b<a:=by
 unfold oH
 repeat' split
 all_goals omega
theorem aDu {c:Con} {h:List Nat} {x y:Int}:0<LF c h x y↔LF c h y x<0:=by
 have h1:=aDr (a:=x) (b:=y)
 have d:=H3 (a:=y) (b:=x)
 unfold LF
 repeat' split
 all_goals omega
theorem aGo {c:Con} {h:List Nat} {x y:Int}:LF c h x y=0↔x=y:=by
 have h1:=aGn (a:=x) (b:=y)
 unfold LF
 constructor
 .intro hz
  repeat' split at hz
  all_goals omega
 .rintro rfl
  rw [if_neg o_,if_neg o_]
  exact h1.2 rfl
theorem NK {c:Con} {h:List Nat}:∀ {p q:List Int},jL c h p q=0↔p=q
 | [],[]=>by simp [jL]
 | [],_::_=>by simp [jL]
 | _::_,[]=>by simp [jL]
 | x::p,y::q=>by
  unfold jL
  by_cases e:x=y
  .rw [if_pos e,NK]
   subst e
   simp
  .rw [if_neg e]
   have:=aGo (c:=c) (h:=h) (x:=x) (y:=y)
   constructor
   .intro h1;exact absurd (this.1 h1) e
   .intro h1;cases h1;exact absurd rfl e
theorem RD {c:Con} {h:List Nat}:∀ {p q:List Int},0<jL c h p q↔jL c h q p<0
 | [],[]=>by simp [jL]
 | [],_::_=>by simp [jL]
 | _::_,[]=>by simp [jL]
 | x::p,y::q=>by
  unfold jL
  by_cases e:x=y
  .subst e
   rw [if_pos rfl,if_pos rfl]
   exact RD
  .rw [if_neg e,if_neg (fun h=>e h.symm)]
   exact aDu
theorem aDG (s:Sta) {a b:Pn} (h:a.seq≠b.seq):ltP s a b=true\/ltP s b a=true:=by
 unfold ltP MP
 simp only [decide_eq_true_eq]
 have n1:=H3 (a:=a.seq) (b:=b.seq)
 have n2:=H3 (a:=b.seq) (b:=a.seq)
 have d:=NK (c:=s.c) (h:=s.hist) (p:=bG s.c.ns a.g.ten) (q:=bG s.c.ns b.g.ten)
 have e:=NK (c:=s.c) (h:=s.hist) (p:=bG s.c.ns b.g.ten) (q:=bG s.c.ns a.g.ten)
 have f:=RD (c:=s.c) (h:=s.hist) (p:=bG s.c.ns a.g.ten) (q:=bG s.c.ns b.g.ten)
 cases j:wP s.c s.now a<;>cases i:wP s.c s.now b<;>simp only [if_true,if_false,reduceIte,Cv]<;>try omega
 unfold ptC
 by_cases z:jL s.c s.hist (bG s.c.ns a.g.ten) (bG s.c.ns b.g.ten)=0
 .rw [if_pos z,if_pos (e.2 (d.1 z).symm)]
  omega
 .rw [if_neg z,if_neg (fun h=>z (d.2 (e.1 h).symm))]
  omega
def XX (h:List Nat) (x:Nat) (t:Int):Nat:=if t<(h.length:Int) then mJ x ((h[t.toNat]?).getD 0) else x
theorem RM {h:List Nat} {x:Nat} {t:Int} (a:x<18446744073709551616):XX h x t<18446744073709551616:=by
 unfold XX
 split
 .exact AF _ _
 .exact a
theorem aCE (c:Con) (h:List Nat) (n:Int):NT c h n<18446744073709551616:=by
 have go:∀ (l:List Int) (x:Nat),x<18446744073709551616->l.foldl (XX h) x<18446744073709551616:=fun l=>by
  induction l with
  | nil=>exact fun x b=>b
  | cons a l d=>exact fun x b=>d _ (RM b)
 exact go _ _ d_
noncomputable abbrev TC:Func:=Tryz.f187
theorem PU (h:List Nat) (k:LtF h) (hl:h.length<=1048576) (l:List Int) (n:∀ t∈l,0<=t) (s:l.length<=1048576) (R:Nat):∀ (m i x:Nat),i+m=l.length->x<18446744073709551616->(l.drop i).foldl (XX h) x=R->
  To E TC (.pure (.ret (uu R))) (.head (stk TC 0) [(1,.slice 1 (fv h) .no),(7,uu x),(8,.slice 1 (iv l) .no),(9,ii i)] []):=by
 have f:(iv l).length=l.length:=by simp
 have q:(fv h).length=h.length:=by simp
 intro m
 induction m with
 | zero=>
  intro i x r d a
  rw [Ae o_] at a
  have a:x=R:=a
  subst a
  refine gV ?_
  refine aF fun h=>?_
  repeat' first | (refine gN hE ?_;conv=>whnf) | exact rfl | (refine zt ?_;try intro h) | refine zu (fun h=>?_) fun h=>?_ | fail
 | succ m e=>
  intro i x r d a
  have b:i<l.length:=o_
  have get:=cQ b
  have g:=n _ (Bg b)
  rw [Ad b,Aq] at a
  have next:=e (i+1) _ o_ (RM d) a
  clear a e
  generalize l[i]=t at *
  unfold XX at next
  by_cases h1:t<(h.length:Int)
  .rw [if_pos h1] at next
   have c:t.toNat<h.length:=o_
   have j:t=(t.toNat:Int):=o_
   have o:=aA1 c
   have hz:=k _ (Bg c)
   rw [Ab c] at next
   have next:To E TC (.pure (.ret (uu R))) (.head (stk TC 0) [(1,.slice 1 (fv h) .no),(7,uu (mJ x h[t.toNat])),(8,.slice 1 (iv l) .no),(9,ii ((i:Int)+1))] []):=next
   generalize h[t.toNat]=z at *
   have p:=jY x z d hz
   generalize mJ x z=y at *
   refine gV ?_
   refine aT fun h=>?_
   repeat' first | (refine gN hE ?_;conv=>whnf) | refine ⟨i,rfl,?_⟩ | refine ⟨t.toNat,j,?_⟩ | refine ⟨_,get,?_⟩ | refine ⟨_,o,?_⟩ | refine .pure _ [] p ?_ | exact rfl | (refine zt ?_;try intro h) | refine zu (fun h=>?_) fun h=>?_ | fail
   exact zqda2
  .rw [if_neg h1] at next
   refine gV ?_
   refine aT fun h=>?_
   repeat' first | (refine gN hE ?_;conv=>whnf) | refine ⟨i,rfl,?_⟩ | refine ⟨_,get,?_⟩ | exact rfl | (refine zt ?_;try intro h) | refine zu (fun h=>?_) fun h=>?_ | fail
   exact zqda2
theorem aBd (c:Con) (e:c.sm) (h:List Nat) (i:LtF h) (hl:h.length<=1048576) (n:Int):aA Tryz.prog 187 [c.av,.slice 1 (fv h) .no,ii n] [] (.ret (uu (NT c h n))) []:=by
 have k:=wL c e n
 have d:∀ t∈bB c.ns n,0<=t:=fun t j=>(iH c n t j).1
 have b:(bB c.ns n).length<=1048576:=nO c e n
 have next:=PU h i hl (bB c.ns n) d b (NT c h n) (bB c.ns n).length 0 0 o_ d_ rfl
 generalize NT c h n=R at *
 generalize bB c.ns n=l at *
 have a:(iv l).length=l.length:=by simp
 try rw [<-a] at next
 refine c_ Tryz.f187 fun _=>?_
 repeat' first | (refine gN hE ?_;conv=>whnf) | refine .pure _ [] k ?_ | exact rfl | (refine zt ?_;try intro h) | refine zu (fun h=>?_) fun h=>?_ | fail
 exact zqda2
end Go.Proofs.YtlanfgblaebddaaGreat
namespace Go.AW
open Go.RowKit
def HB:List (Nat×AVal)->List (Nat×AVal)
 | []=>[]
 | (i,v)::r=>(i,strip 5 v)::HB r
theorem A1 {M:Imm} {ob:Hs} {v:Value} {t:Nat}:∀ (fr:List (Nat×AVal)),Rep M ob v (aR fr t)->Rep M ob v (aR (HB fr) t)
 | [],h=>h
 | (i,x)::r,h=>by
  simp only [aR,HB] at h⊢
  cases a:Av i t with
  | true=>rw [a] at h;exact mO 5 h
  | false=>rw [a] at h;exact A1 r h
theorem To.looseF {E:Env} {fn:Func} {g:Goal} {st:List KI} {fr:List (Nat×AVal)} {obs:List AObj} (h:To E fn g (.head st (HB fr) obs)):To E fn g (.head st fr obs):=
 .mk fun d M0 ob0 b w0 a w hst hs=>by
  refine h.rec fun h=>h d M0 ob0 b w0 a w hst ?_
  obtain ⟨M,ob,e,hm,c,i,f,j⟩:=hs
  exact ⟨M,ob,e,hm,fun t=>A1 fr (c t),i,f,j⟩
end Go.AW
namespace Go.Proofs.YtlanfgblaebddaaGreat
open Go Go.AW Go.Proofs
set_option maxRecDepth 10000
theorem E0 (c:Con) (i:c.sm) (h:List Nat) (k:LtF h) (hl:h.length<=1048576) (n:Int):aA Tryz.prog 150 [c.av,.slice 1 (fv h) .no,ii n] [] (.ret (uu (LL c h n))) []:=by
  have h1:=aBd c i h k hl n
  have l1:=aCE c h n
  have j:=i.ns
  have l:(nav c.ns).length=c.ns.length:=by simp
  unfold LL
  unfold aHx at *
  by_cases e:0<=n/\n<(c.ns.length:Int)
  .rw [if_pos e]
   have b:n.toNat<c.ns.length:=o_
   have d:n=(n.toNat:Int):=o_
   have get:=uS (c:=c) (n:=n) ⟨by omega,b⟩
   generalize bN c.ns n=x at *
   have a:=BD (max 1 x.w)
   have l2:=O3 (max 1 x.w)
   generalize NT c h n=p at *
   generalize ofF (max 1 x.w)=q at *
   have h3:=E5 p q l1 l2
   generalize I9 p q=r at *
   refine c_ Tryz.f150 fun _=>?_
   repeat' first | (refine gN hE ?_;conv=>whnf) | refine ⟨n.toNat,d,?_⟩ | refine ⟨_,get,?_⟩ | refine .pure _ [] h1 ?_ | refine .pure _ [] a ?_ | refine .pure _ [] h3 ?_ | exact rfl | (refine zt ?_;try intro h) | refine zu (fun h=>?_) fun h=>?_ | fail
  .rw [if_neg e]
   have a:=BD 1
   have l2:=O3 1
   generalize NT c h n=p at *
   generalize ofF 1=q at *
   have h3:=E5 p q l1 l2
   generalize I9 p q=r at *
   by_cases m:0<=n
   .refine c_ Tryz.f150 fun _=>?_
    repeat' first | (refine gN hE ?_;conv=>whnf) | refine .pure _ [] h1 ?_ | refine .pure _ [] a ?_ | refine .pure _ [] h3 ?_ | exact rfl | (refine zt ?_;try intro h) | refine zu (fun h=>?_) fun h=>?_ | fail
   .refine c_ Tryz.f150 fun _=>?_
    repeat' first | (refine gN hE ?_;conv=>whnf) | refine .pure _ [] h1 ?_ | refine .pure _ [] a ?_ | refine .pure _ [] h3 ?_ | exact rfl | (refine zt ?_;try intro h) | refine zu (fun h=>?_) fun h=>?_ | fail
theorem KJ (c:Con) (now:Int) (p:Pn) (k:0<=now/\now<=1099511627776) (hp:0<=p.at') (m:c.age<=9223372036854775807) (r:Bool) (a:wP c now p=r):aA Tryz.prog 106 [c.av,ii now,p.av] [] (.ret (.bool r)) []:=by
  unfold wP at a
  have l:IntKind.wrap .u64 now=now:=by rw [wu];omega
  by_cases i:0<c.age
  .by_cases e:p.at'<=now
   .have j:now-p.at'=((now-p.at').toNat:Int):=o_
    rw [decide_eq_true i,decide_eq_true e,Bw,Bw] at a
    by_cases d:c.age<=now-p.at'
    .rw [decide_eq_true d] at a
     subst a
     refine c_ Tryz.f106 fun _=>?_
     repeat' first | (refine gN hE ?_;conv=>whnf) | exact rfl | (refine zt ?_;try intro h) | refine zu (fun h=>?_) fun h=>?_ | fail
     all_goals exact congrArg (fun b=>Res.ret (AVal.bool b)) (decide_eq_true d)
    .rw [decide_eq_false d] at a
     subst a
     refine c_ Tryz.f106 fun _=>?_
     repeat' first | (refine gN hE ?_;conv=>whnf) | exact rfl | (refine zt ?_;try intro h) | refine zu (fun h=>?_) fun h=>?_ | fail
     all_goals exact congrArg (fun b=>Res.ret (AVal.bool b)) (decide_eq_false d)
   .rw [decide_eq_false e,Dn,Ct] at a
    subst a
    refine c_ Tryz.f106 fun _=>?_
    repeat' first | (refine gN hE ?_;conv=>whnf) | exact rfl | (refine zt ?_;try intro h) | refine zu (fun h=>?_) fun h=>?_ | fail
  .rw [decide_eq_false i,Dn] at a
   subst a
   refine c_ Tryz.f106 fun _=>?_
   repeat' first | (refine gN hE ?_;conv=>whnf) | exact rfl | (refine zt ?_;try intro h) | refine zu (fun h=>?_) fun h=>?_ | fail
structure OrdOK (s:Sta):Prop where
 sm:s.c.sm
 few:s.c.ns.length<=12
 lt:LtF s.hist
 hl:s.hist.length<=1048576
 now:0<=s.now/\s.now<=1099511627776
 age:s.c.age<=9223372036854775807
theorem aED (s:Sta) (a b:Pn):MP s a b=if wP s.c s.now a=true then (if wP s.c s.now b=true then oH a.seq b.seq else -1) else if wP s.c s.now b=true then 1 else orI (ptC s a b) (oH a.seq b.seq):=by
 unfold MP orI
 rfl
theorem XM {c:Con} {h:List Nat}:∀ {p q:List Int},(p=[]\/q=[])->jL c h p q=oH p.length q.length
 | [],[],_=>rfl
 | [],_::_,_=>by simp [jL,oH]
 | _::_,[],_=>by
  show (1:Int)=oH _ _
  unfold oH
  rw [if_neg (by simp<;>omega),if_pos (by simp<;>omega)]
 | _::_,_::_,h=>by rcases h with h | h<;>cases h
theorem A9 (a b r:Int) (c:oH a b=r):aA Tryz.prog 108 [ii a,ii b] [] (.ret (ii r)) []:=by
 unfold oH at c
 by_cases h1:a<b
 .rw [if_pos h1] at c
  subst c
  refine c_ Tryz.f108 fun _=>?_
  repeat' first | (refine gN hE ?_;conv=>whnf) | exact rfl | (refine zt ?_;try intro h) | refine zu (fun h=>?_) fun h=>?_ | fail
 .rw [if_neg h1] at c
  by_cases d:b<a
  .rw [if_pos d] at c
   subst c
   refine c_ Tryz.f108 fun _=>?_
   repeat' first | (refine gN hE ?_;conv=>whnf) | exact rfl | (refine zt ?_;try intro h) | refine zu (fun h=>?_) fun h=>?_ | fail
  .rw [if_neg d] at c
   subst c
   refine c_ Tryz.f108 fun _=>?_
   repeat' first | (refine gN hE ?_;conv=>whnf) | exact rfl | (refine zt ?_;try intro h) | refine zu (fun h=>?_) fun h=>?_ | fail
noncomputable abbrev aEh:Func:=Tryz.f107
theorem XL (s:Sta) (h:OrdOK s) (p q:List Int) (hp:p.length<=12) (B:q.length<=12) (R:Int):∀ (m i:Nat),i+m=min p.length q.length->jL s.c s.hist (p.drop i) (q.drop i)=R->
  To E aEh (.pure (.ret (ii R))) (.head (stk aEh 0) [(3,.ref 0 0),(7,.slice 1 (iv p) .no),(8,.slice 1 (iv q) .no),(9,ii i)] [.cells 30 s.cs]):=by
 have l:(iv p).length=p.length:=by simp
 have o:(iv q).length=q.length:=by simp
 intro m
 induction m with
 | zero=>
  intro i A a
  have z:p.drop i=[]\/q.drop i=[]:=by
   rcases Nat.le_total p.length q.length with h | h
   .exact .inl (Ae o_)
   .exact .inr (Ae o_)
  rw [XM z,Gs,Gs] at a
  have h1:oH (iv p).length (iv q).length=R:=by
   rw [<-a,l,o]
   unfold oH
   repeat' split
   all_goals omega
  have g:=A9 _ _ _ h1
  by_cases b:i<p.length
  .refine gV ?_
   refine aT fun h=>?_
   repeat' first | (refine gN hE ?_;conv=>whnf) | refine .pure _ [] g ?_ | exact rfl | (refine zt ?_;try intro h) | refine zu (fun h=>?_) fun h=>?_ | fail
  .refine gV ?_
   refine aF fun h=>?_
   repeat' first | (refine gN hE ?_;conv=>whnf) | refine .pure _ [] g ?_ | exact rfl | (refine zt ?_;try intro h) | refine zu (fun h=>?_) fun h=>?_ | fail
 | succ m u=>
  intro i A a
  have b:i<p.length:=o_
  have d:i<q.length:=o_
  have j:=cQ b
  have k:=cQ d
  have next:=u (i+1) o_
  rw [Ad b,Ad d] at a
  have v:jL s.c s.hist (p[i]::p.drop (i+1)) (q[i]::q.drop (i+1))=if p[i]=q[i] then jL s.c s.hist (p.drop (i+1)) (q.drop (i+1)) else LF s.c s.hist p[i] q[i]:=rfl
  rw [v] at a
  clear v u
  generalize p[i]=x at *
  generalize q[i]=y at *
  by_cases e:x=y
  .rw [if_pos e] at a
   have f:(x==y)=true:=by rw [e];simp
   have next:=next a
   refine gV ?_
   refine aT fun h=>?_
   repeat' first | (refine gN hE ?_;conv=>whnf) | refine ⟨i,rfl,?_⟩ | refine ⟨_,j,?_⟩ | refine ⟨_,k,?_⟩ | refine Aa (fun _=>?_) (fun h=>absurd (f.symm.trans h) d_) | exact rfl | (refine zt ?_;try intro h) | refine zu (fun h=>?_) fun h=>?_ | fail
   refine To.part [3,7,8,9] [0] rfl rfl rfl ?_
   exact next
  .rw [if_neg e] at a
   have f:(x==y)=false:=by simpa using e
   have h1:=E0 s.c h.sm s.hist h.lt h.hl x
   have n:=E0 s.c h.sm s.hist h.lt h.hl y
   unfold LF at a
   clear next
   generalize LL s.c s.hist x=l1 at *
   generalize LL s.c s.hist y=l2 at *
   by_cases w:l1<l2
   .rw [if_pos w] at a
    subst a
    refine gV ?_
    refine aT fun h=>?_
    repeat' first | (refine gN hE ?_;conv=>whnf) | refine ⟨i,rfl,?_⟩ | refine ⟨_,j,?_⟩ | refine ⟨_,k,?_⟩ | refine Aa (fun h=>absurd (f.symm.trans h) d_) (fun _=>?_) | refine .pure _ [] h1 ?_ | refine .pure _ [] n ?_ | exact rfl | (refine zt ?_;try intro h) | refine zu (fun h=>?_) fun h=>?_ | fail
   .rw [if_neg w] at a
    by_cases r:l2<l1
    .rw [if_pos r] at a
     subst a
     refine gV ?_
     refine aT fun h=>?_
     repeat' first | (refine gN hE ?_;conv=>whnf) | refine ⟨i,rfl,?_⟩ | refine ⟨_,j,?_⟩ | refine ⟨_,k,?_⟩ | refine Aa (fun h=>absurd (f.symm.trans h) d_) (fun _=>?_) | refine .pure _ [] h1 ?_ | refine .pure _ [] n ?_ | exact rfl | (refine zt ?_;try intro h) | refine zu (fun h=>?_) fun h=>?_ | fail
    .rw [if_neg r] at a
     have g:=A9 _ _ _ a
     refine gV ?_
     refine aT fun h=>?_
     repeat' first | (refine gN hE ?_;conv=>whnf) | refine ⟨i,rfl,?_⟩ | refine ⟨_,j,?_⟩ | refine ⟨_,k,?_⟩ | refine Aa (fun h=>absurd (f.symm.trans h) d_) (fun _=>?_) | refine .pure _ [] h1 ?_ | refine .pure _ [] n ?_ | refine .pure _ [] g ?_ | exact rfl | (refine zt ?_;try intro h) | refine zu (fun h=>?_) fun h=>?_ | fail
theorem aFD (s:Sta) (h:OrdOK s) (x y:Int):aA Tryz.prog 107 [s.av,ii x,ii y] [] (.ret (ii (jL s.c s.hist (bG s.c.ns x) (bG s.c.ns y)))) []:=by
 have d:=qA s.c h.sm x
 have b:=qA s.c h.sm y
 have l1:=Cm (mU s.c.ns x) h.few
 have l2:=Cm (mU s.c.ns y) h.few
 have a:=XL s h (bG s.c.ns x) (bG s.c.ns y) l1 l2 _ _ 0 (Cb _) rfl
 have a:To E aEh (.pure (.ret (ii (jL s.c s.hist (bG s.c.ns x) (bG s.c.ns y))))) (.head (stk aEh 0) [(3,.ref 0 0),(7,.slice 1 (iv (bG s.c.ns x)) .no),(8,.slice 1 (iv (bG s.c.ns y)) .no),(9,ii 0)] [.cells 30 s.cs]):=a
 generalize jL s.c s.hist (bG s.c.ns x) (bG s.c.ns y)=R at *
 generalize bG s.c.ns x=p at *
 generalize bG s.c.ns y=q at *
 refine c_ Tryz.f107 fun _=>?_
 repeat' first | (refine gN hE ?_;conv=>whnf) | refine .pure _ [] d ?_ | refine .pure _ [] b ?_ | exact rfl | (refine zt ?_;try intro h) | refine zu (fun h=>?_) fun h=>?_ | fail
 refine To.part [3,7,8,9] [0] rfl rfl rfl ?_
 exact a
theorem ZG (s:Sta) (h:OrdOK s) (a b:Pn) (o:0<=a.at') (n:0<=b.at') (R:Int) (d:MP s a b=R):aA Tryz.prog 67 [s.av,a.av,b.av] [] (.ret (ii R)) []:=by
 have j:=KJ s.c s.now a h.now o h.age _ rfl
 have i:=KJ s.c s.now b h.now n h.age _ rfl
 have hs:=A9 a.seq b.seq _ rfl
 rw [aED] at d
 cases h1:wP s.c s.now a with
 | true=>
  rw [h1] at j d
  rw [if_pos rfl] at d
  cases k:wP s.c s.now b with
  | true=>
   rw [k] at i d
   rw [if_pos rfl] at d
   rw [d] at hs
   refine c_ Tryz.f67 fun _=>?_
   repeat' first | (refine gN hE ?_;conv=>whnf) | refine .pure _ [] j ?_ | refine .pure _ [] i ?_ | refine .pure _ [] hs ?_ | exact rfl | (refine zt ?_;try intro h) | refine zu (fun h=>?_) fun h=>?_ | fail
  | false=>
   rw [k] at i d
   rw [if_neg d_] at d
   subst d
   refine c_ Tryz.f67 fun _=>?_
   repeat' first | (refine gN hE ?_;conv=>whnf) | refine .pure _ [] j ?_ | refine .pure _ [] i ?_ | exact rfl | (refine zt ?_;try intro h) | refine zu (fun h=>?_) fun h=>?_ | fail
 | false=>
  rw [h1] at j d
  rw [if_neg d_] at d
  cases k:wP s.c s.now b with
  | true=>
   rw [k] at i d
   rw [if_pos rfl] at d
   subst d
   refine c_ Tryz.f67 fun _=>?_
   repeat' first | (refine gN hE ?_;conv=>whnf) | refine .pure _ [] j ?_ | refine .pure _ [] i ?_ | exact rfl | (refine zt ?_;try intro h) | refine zu (fun h=>?_) fun h=>?_ | fail
  | false=>
   rw [k] at i d
   rw [if_neg d_] at d
   have m:=aFD s h a.g.ten b.g.ten
   have e:ptC s a b=jL s.c s.hist (bG s.c.ns a.g.ten) (bG s.c.ns b.g.ten):=rfl
   rw [e] at d
   generalize jL s.c s.hist (bG s.c.ns a.g.ten) (bG s.c.ns b.g.ten)=t at *
   unfold orI at d
   by_cases hz:t=0
   .rw [if_pos hz] at d
    rw [d] at hs
    have l:(t !=0)=false:=by rw [hz];rfl
    refine c_ Tryz.f67 fun _=>?_
    repeat' first | (refine gN hE ?_;conv=>whnf) | refine .pure _ [] j ?_ | refine .pure _ [] i ?_ | refine .pure _ [] m ?_ | refine Aa (fun h=>absurd (l.symm.trans h) d_) (fun _=>?_) | refine .pure _ [] hs ?_ | exact rfl | (refine zt ?_;try intro h) | refine zu (fun h=>?_) fun h=>?_ | fail
   .rw [if_neg hz] at d
    rw [d] at *
    have l:(R !=0)=true:=by simpa using hz
    refine c_ Tryz.f67 fun _=>?_
    repeat' first | (refine gN hE ?_;conv=>whnf) | refine .pure _ [] j ?_ | refine .pure _ [] i ?_ | refine .pure _ [] m ?_ | refine Aa (fun _=>?_) (fun h=>absurd (l.symm.trans h) d_) | exact rfl | (refine zt ?_;try intro h) | refine zu (fun h=>?_) fun h=>?_ | fail
def uQ (s:Sta):List Pn:=srt (ltP s) s.pend
noncomputable abbrev fRS:Func:=Tryz.f41
abbrev rsF (out:List Pn) (i:Int):List (Nat×AVal):=[(1,.ref 0 0),(3,.slice 11 (pnv out) .no),(4,ii i)]
abbrev rsO (s:Sta):List AObj:=[.cells 30 s.cs]
theorem aDR {x y:Pn} {s:Sta} {out:List Pn} {k:Nat} (h:out[k]? =some y):IC (ltP s) x out (k+1)=if ltP s x y=true then IC (ltP s) x out k else k+1:=by
 simp only [IC,h]
theorem aHK (s:Sta) (h:OrdOK s) (o:∀ p∈s.pend,0<=p.at') (R:AVal) (x:Pn) (i:Nat) (w:i<1048576) (d:(pnv s.pend)[i]? =some x.av) (r:0<=x.at') (out:List Pn) (u:out.length<=1048576) (c:∀ p∈out,0<=p.at')
  (next:∀ K:Nat,K<=out.length->K=IC (ltP s) x out out.length->To (Er [] [45,46,47]) fRS (.pure (.ret R)) (.head (stk fRS 0) [(1,.ref 0 0),(3,.slice 11 ((pnv out).take K++[x.av]++(pnv out).drop K) .no),(4,ii ((i:Int)+1))] (rsO s))):∀ (k:Nat),k<=out.length->IC (ltP s) x out out.length=IC (ltP s) x out k->
  To (Er [] [45,46,47]) fRS (.pure (.ret R)) (.head (stk fRS 1) (rsF out i++[(5,ii k)]) (rsO s)):=by
 have n:(pnv out).length=out.length:=by simp
 intro k
 induction k with
 | zero=>
  intro j a
  have next:=next 0 (Cc _) (by rw [a];rfl)
  have q:(En 0 (pnv out)).length=0:=by simp
  refine gV ?_
  repeat' first | (refine gN (hEr [] [45,46,47]) ?_;conv=>whnf) | refine Ai 0 (Aa o_ ?_) | refine ⟨i,rfl,?_⟩ | refine ⟨_,d,?_⟩ | refine ⟨⟨by simp only [maxLen];simp;omega,by simp;omega⟩,?_⟩ | refine Aa (Aa (by simp [maxLen]) s_) ?_ | exact rfl | (refine zt ?_;try intro h) | refine zu (fun h=>?_) fun h=>?_ | fail
  refine To.part [1,3,4] [0] rfl rfl rfl ?_
  exact next
 | succ k t=>
  intro j a
  have b:k<out.length:=o_
  have m:=lR b
  have f:=c _ (Bg b)
  rw [aDR (Ab b)] at a
  have l:=ZG s h x out[k] r f _ rfl
  have g:((k+1:Nat):Int)-1=((k:Nat):Int):=o_
  by_cases hl:MP s x out[k]<0
  .have e:ltP s x out[k]=true:=decide_eq_true hl
   rw [if_pos e] at a
   have next:=t o_ a
   generalize out[k]=y at *
   generalize MP s x y=v at *
   refine gV ?_
   repeat' first | (refine gN (hEr [] [45,46,47]) ?_;conv=>whnf) | refine ⟨i,rfl,?_⟩ | refine Ai k (Aa o_ ?_) | refine ⟨_,d,?_⟩ | refine ⟨_,m,?_⟩ | refine .pure _ [] l ?_ | exact rfl | (refine zt ?_;try intro h) | refine zu (fun h=>?_) fun h=>?_ | fail
   rw [g]
   refine To.part [1,3,4,5] [0] rfl rfl rfl ?_
   exact next
  .have e:ltP s x out[k]=false:=decide_eq_false hl
   rw [if_neg (by rw [e];decide)] at a
   have next:=next (k+1) j a.symm
   generalize out[k]=y at *
   generalize MP s x y=v at *
   refine gV ?_
   repeat' first | (refine gN (hEr [] [45,46,47]) ?_;conv=>whnf) | refine Ai (k+1) (Aa rfl ?_) | refine ⟨i,rfl,?_⟩ | refine Ai k (Aa o_ ?_) | refine ⟨_,d,?_⟩ | refine ⟨_,m,?_⟩ | refine .pure _ [] l ?_ | refine ⟨⟨by simp only [maxLen];simp;omega,by simp;omega⟩,?_⟩ | refine Aa (Aa (by simp only [bW];omega) (by simp only [bI];omega)) ?_ | exact rfl | (refine zt ?_;try intro h) | refine zu (fun h=>?_) fun h=>?_ | fail
   refine To.part [1,3,4] [0] rfl rfl rfl ?_
   exact next
theorem aFP (s:Sta) (h:OrdOK s) (hl:s.pend.length<=1000000) (d:∀ p∈s.pend,0<=p.at') (R:List Pn):∀ (m i:Nat) (out:List Pn),i+m=s.pend.length->out.length=i->(∀ p∈out,0<=p.at')->(s.pend.drop i).foldl (ID (ltP s)) out=R->
  To (Er [] [45,46,47]) fRS (.pure (.ret (.slice 11 (pnv R) .no))) (.head (stk fRS 0) (rsF out i) (rsO s)):=by
 have n:(pnv s.pend).length=s.pend.length:=by simp
 intro m
 induction m with
 | zero=>
  intro i out t o b a
  rw [Ae o_] at a
  have a:out=R:=a
  subst a
  refine gV ?_
  refine aF fun h=>?_
  repeat' first | (refine gN (hEr [] [45,46,47]) ?_;conv=>whnf) | exact rfl | (refine zt ?_;try intro h) | refine zu (fun h=>?_) fun h=>?_ | fail
 | succ m r=>
  intro i out t o b a
  have c:i<s.pend.length:=o_
  rw [Ad c,Aq] at a
  have l:=lR c
  have g:=d _ (Bg c)
  generalize s.pend[i]=x at a l g
  have k:(pnv out).length=out.length:=by simp
  have hp:=FR (ltP s) out x
  have f:=aHK s h d (.slice 11 (pnv R) .no) x i o_ l g out o_ b (fun K u q=>by
   have e:(pnv out).take K++[x.av]++(pnv out).drop K=pnv (ID (ltP s) out x):=by unfold ID;rw [<-q];simp
   rw [e]
   exact r (i+1) (ID (ltP s) out x) o_ (by have:=hp.length_eq;simp at this;omega) (fun p j=>by
    rcases Aj.1 (hp.mem_iff.1 j) with rfl | j
    .exact g
    .exact b p j) a) out.length (Bi _) rfl
  refine gV ?_
  refine aT fun h=>?_
  rw [<-k] at f
  repeat' first | (refine gN (hEr [] [45,46,47]) ?_;conv=>whnf) | exact rfl | (refine zt ?_;try intro h) | refine zu (fun h=>?_) fun h=>?_ | fail
  refine To.part [1,3,4,5] [0] rfl rfl rfl ?_
  exact f
theorem YJ (s:Sta) (h:OrdOK s) (hl:s.pend.length<=1000000) (a:∀ p∈s.pend,0<=p.at'):aA Tryz.prog 41 [s.av] [] (.ret (.slice 11 (pnv (uQ s)) .no)) []:=by
 refine cT (E:=(Er [] [45,46,47])) (fn:=Tryz.f41) (g:=.pure _) fun _=>?_
 refine gV ?_
 refine To.part [1,3,4] [0] rfl rfl rfl ?_
 refine To.looseF ?_
 exact aFP s h hl a (uQ s) s.pend.length 0 [] o_ rfl (fun p hp=>by cases hp) rfl
def aE1 (l:List Pn):Prop:=∀ p∈l,0<=p.at'
theorem aE1.perm {l m:List Pn} (h:l.Perm m) (a:aE1 l):aE1 m:=fun p hp=>a p (h.mem_iff.2 hp)
theorem vJ {n:Nat} (h:n<=1000000):yX n 88:=⟨by simp only [maxLen];omega,by omega⟩
end Go.Proofs.YtlanfgblaebddaaGreat
