/-
  Fix numbers, usage, who comes first, as walks.
-/
import Derived.Test.YticlgfdibfobdaaGreatCAP
set_option linter.all false
set_option maxHeartbeats 1000000
open And renaming intro->Ad
open Bool renaming and_false->Bn,false_and->Ct,false_eq_true->Cv,true_and->Cd
open Exists renaming intro->Aw
open Int renaming fdiv_eq_ediv_of_nonneg->Ge,tdiv->Hb,toNat->Hf
open List renaming append_assoc->Aj,append_nil->Bo,drop_eq_getElem_cons->Ac,drop_eq_nil_of_le->Ae,eraseIdx_eq_take_drop_succ->Ja,foldl_cons->Al,getElem?_cons_succ->Eu,getElem?_eq_getElem->Aa,getElem?_map->Bc,getElem_mem->Bf,getElem_of_mem->Gq,length_drop->Fo,map_drop->Jp,map_take->Jo,mem_cons->Ao,mem_cons_of_mem->Bb,mem_cons_self->Az,mem_range->Gt,perm_middle->Fq,range->Db,take->Fv,take_append_drop->Dj
open Nat renaming add_mul->Bv,add_sub_cancel->Ii,add_zero->Df,and_one_is_mod->Kk,beq->Ap,div_add_mod->Ig,div_div_eq_div_mul->Iu,div_eq_of_lt->Jg,div_le_self->Eh,div_lt_iff_lt_mul->Ef,div_one->Jt,eq_zero_or_pos->Fp,le_div_iff_mul_le->Jc,le_refl->Bg,le_trans->Cs,lt_of_le_of_lt->Kl,lt_of_lt_of_le->Dp,lt_or_ge->Mn,mod_lt->Gp,mul_add->Ik,mul_add_div->Jx,mul_assoc->Ia,mul_comm->Dn,mul_le_mul->Gf,mul_le_mul_right->Bq,one_mul->Gb,pow_add->Ha,pow_le_pow_right->Ep,two_pow_add_eq_or_of_lt->Ke,zero_add->Bp,zero_le->Bt,zero_mul->Hr
open Or renaming inl->Hk
namespace Go.Proofs.YticlgfdibfobdaaGreat
open Go Go.AW Go.Proofs
theorem zqda0 {P:Prop} (h:P:=by
 refine gV ?_
 rw [e]
 refine aJ ?_
 refine gV ?_
 refine aF fun h=>?_
 refine gV ?_
 rw [f]
 refine aJ ?_
 refine gV ?_
 rw [o]
 refine aJ ?_
 refine gV ?_
 refine .pure _ [] k ?_
 refine gV ?_
 rw [m]
 refine aJ ?_
 refine gV ?_
 refine .pure _ [] n ?_
 refine gV ?_
 rw [i]
 refine aJ ?_
 refine gV ?_
 refine Ad d_ ?_
 refine gV ?_
 rw [j]
 exact zW):P:=h
theorem zqda1 {P:Prop} (h:P:=by
 exact c_ Tryz.f143 fun _=>zW):P:=h
theorem zqda2 {P:Prop} (h:P:=by
 refine bV hE 2 ?_;conv=>whnf
 exact To.cutC [5,6,7,8] 0 rfl rfl rfl rfl tail):P:=h
theorem zqda3 {P:Prop} (h:P:=by
 subst c
 exact c_ Tryz.f212 fun _=>zW):P:=h
theorem zqda4 {P:Prop} (h:P:=by
 exact c_ Tryz.f209 fun _=>zW):P:=h
theorem zqda5 {P:Prop} (h:P:=by
 exact c_ Tryz.f268 fun _=>zW):P:=h
theorem zqda6 {P:Prop} (h:P:=by
 exact c_ Tryz.f299 fun _=>zW):P:=h
theorem zqda7 {P:Prop} (h:P:=by
 exact To.cutC [0,1,5,6,7,8] 0 rfl rfl rfl rfl tail):P:=h
theorem zqda8 {P:Prop} (h:P:=by
 refine bV hE 7 ?_;conv=>whnf
 exact To.cutC [0,1,5,6,7,8] 0 rfl rfl rfl rfl n):P:=h
abbrev uu (n:Nat):AVal:=.int .u64 (n:Int)
def sT (n:Nat):Nat:=if n<18446744073709551616 then n else 18446744073709551615
def lM (a b:Nat):Nat:=sT (a+b)
def nB (a b:Nat):Nat:=sT (a*b / 4294967296)
def ofF (n:Int):Nat:=if n<=0 then 0 else if n<4294967296 then n.toNat*4294967296 else 18446744073709551615
def HC (a b:Nat):Nat:=if a=0 then 0 else if b=0 then 18446744073709551615 else sT (a*4294967296 / b)
def CM (a b:Int):Nat:=HC (max a 0).toNat (max b 0).toNat
theorem FM (n:Nat):sT n<18446744073709551616:=by unfold sT;split<;>omega
theorem yC (a b:Nat):lM a b<18446744073709551616:=FM _
theorem GA (a b:Nat):nB a b<18446744073709551616:=FM _
theorem aDH (a b:Nat):HC a b<18446744073709551616:=by
 unfold HC
 repeat' split
 .omega
 .omega
 .exact FM _
theorem ND (n:Int):ofF n<18446744073709551616:=by
 unfold ofF
 repeat' split
 all_goals omega
theorem aB3 {a b ah d c bl:Nat} (f:a=ah*4294967296+d) (h:b=c*4294967296+bl) (i:d<4294967296) (j:bl<4294967296):
  a*b / 4294967296=ah*c*4294967296+ah*bl+d*c+d*bl / 4294967296:=by
 have e:a*b=(ah*c*4294967296+ah*bl+d*c)*4294967296+d*bl:=by
  subst f h
  simp only [Bv,Ik]
  have h1:ah*4294967296*(c*4294967296)=ah*c*4294967296*4294967296:=by
   rw [Nat.mul_mul_mul_comm,Ia (ah*c)]
  have g:ah*4294967296*bl=ah*bl*4294967296:=Nat.mul_right_comm ..
  have h3:d*(c*4294967296)=d*c*4294967296:=(Ia ..).symm
  rw [h1,g,h3]
  omega
 rw [e]
 omega
theorem XJ {ah a:Nat} (b:0<a):(18446744073709551615 / a / 4294967296<ah)↔4294967296<=ah*a:=by
 rw [Iu,Ef (Nat.mul_pos b d_),<-Ia]
 generalize ah*a=x
 omega
theorem aAQ (A i:Nat):A / 2 ^ i=2*(A / 2 ^ (i+1))+A / 2 ^ i % 2:=by
 rw [Nat.pow_succ,<-Iu]
 omega
theorem aGG (a:Nat) {i:Nat} (h:i<32):a*4294967296 / 2 ^ i % 2=0:=by
 have e:(4294967296:Nat)=2*2 ^ (31-i)*2 ^ i:=by
  have:(4294967296:Nat)=2 ^ (1+(31-i)+i):=by rw [show 1+(31-i)+i=32 by omega]
  rw [this,Ha,Ha]
 rw [e,<-Ia,Nat.mul_div_cancel _ (Nat.pow_pos d_),Nat.mul_left_comm]
 omega
theorem aGH (a:Nat) {i:Nat} (h:32<=i):a*4294967296 / 2 ^ i=a / 2 ^ (i-32):=by
 have e:2 ^ i=2 ^ (i-32)*4294967296:=by
  have:(4294967296:Nat)=2 ^ 32:=by decide
  rw [this,<-Ha,show i-32+32=i by omega]
 rw [e,Nat.mul_div_mul_right _ _ d_]
theorem TE {A b i q r:Nat} (d:0<b) (f:r<b) (a:A / 2 ^ (i+1)=q*b+r):
  (2*r+A / 2 ^ i % 2<b->A / 2 ^ i=2*q*b+(2*r+A / 2 ^ i % 2))/\
  (b<=2*r+A / 2 ^ i % 2->A / 2 ^ i=(2*q+1)*b+(2*r+A / 2 ^ i % 2-b)/\2*r+A / 2 ^ i % 2-b<b):=by
 have e:=aAQ A i
 rw [a] at e
 have h1:(2*q+1)*b=2*q*b+b:=by rw [Bv,Gb]
 have c:2*q*b=2*(q*b):=Ia ..
 rw [h1,c]
 generalize A / 2 ^ i=x at *
 generalize q*b=y at *
 omega
theorem YB {A b q r:Nat} (c:r<b) (a:A / 2 ^ 0=q*b+r):q=A / b:=by
 rw [Nat.pow_zero,Jt] at a
 rw [a,Dn,Jx o_,Jg c,Df]
theorem YC {A b i q r:Nat} (d:0<b) (c:A / 2 ^ (i+1)=q*b+r) (h:9223372036854775808<=q):18446744073709551616<=A / b:=by
 refine (Jc d).2 ?_
 have h1:A / 2 ^ (i+1)*2 ^ (i+1)<=A:=Nat.div_mul_le_self ..
 have e:A / 2 ^ (i+1)*2<=A / 2 ^ (i+1)*2 ^ (i+1):=Nat.mul_le_mul_left _ (by rw [Nat.pow_succ];have:=Nat.pow_pos (a:=2) (n:=i) d_;omega)
 have h3:9223372036854775808*b<=q*b:=Bq _ h
 rw [c] at h1 e
 omega
set_option maxRecDepth 10000
structure Dg (y1 y0 u v q r:Nat):Prop where
 rest:u=q*y1+r
 top:u*4294967296+v<(q+1)*(y1*4294967296+y0)
 few:q<=4294967297
theorem qY (q y1 y0:Nat):q*(y1*4294967296+y0)=q*y1*4294967296+q*y0:=by rw [Nat.mul_add,Nat.mul_assoc]
theorem Dg.zero {c d u v:Nat} (h1:2147483648<=c) (h:d<4294967296) (g:v<4294967296) (f:u<c*4294967296+d):Dg c d u v (u / c) (u % c):=by
 have e:u=u / c*c+u % c:=by rw [Dn];exact (Ig u c).symm
 have j:u % c<c:=Gp _ o_
 refine ⟨e,?_,?_⟩
 .rw [qY,Bv,Gb,Bv,Bv _ _ d,Gb]
  generalize u / c*c=a at *
  generalize u / c*d=b
  omega
 .have i:u / c<4294967298:=by
   refine (Ef o_).2 ?_
   omega
  omega
theorem Dg.step {c d u v q r:Nat} (h:Dg c d u v q r) (m:v<4294967296) (l:u<c*4294967296+d) (g:4294967296<=q\/4294967296*r+v<q*d):1<=q/\Dg c d u v (q-1) (r+c):=by
 obtain ⟨e,o,p⟩:=h
 have k:1<=q:=by
  rcases g with h | h
  .omega
  .rcases Fp q with rfl | i
   .rw [Hr] at h;omega
   .exact i
 refine ⟨k,?_⟩
 have f:q=q-1+1:=o_
 have j:u*4294967296+v<q*(c*4294967296+d):=by
  rcases g with h | h
  .have i:4294967296*(c*4294967296+d)<=q*(c*4294967296+d):=Bq _ h
   omega
  .rw [qY]
   generalize q*c=a at *
   generalize q*d=b at *
   omega
 refine ⟨?_,by rw [<-f];exact j,by omega⟩
 have n:q*c=(q-1)*c+c:=by
  rw [f,Ii,Bv,Gb]
 omega
theorem Dg.fin {d c u v q r:Nat} (h:Dg d c u v q r) (i:q*c<=4294967296*r+v):q*(d*4294967296+c)<=u*4294967296+v/\q=(u*4294967296+v) / (d*4294967296+c):=by
 obtain ⟨e,f,g⟩:=h
 have hl:q*(d*4294967296+c)<=u*4294967296+v:=by
  rw [qY]
  generalize q*d=a at *
  generalize q*c=b at *
  omega
 refine ⟨hl,?_⟩
 have hp:0<d*4294967296+c:=by
  rcases Fp (d*4294967296+c) with h | h
  .rw [h,Nat.mul_zero] at f;omega
  .exact h
 refine Nat.le_antisymm ((Jc hp).2 hl) ?_
 have:=(Ef hp).2 f
 omega
structure Ord {α:Type} (lt:α->α->Bool):Prop where
 tr:∀ a b c,lt a b=true->lt b c=true->lt a c=true
 irr:∀ a,lt a a=false
def Up {α:Type} (lt:α->α->Bool) (l:List α):Prop:=l.Pairwise fun a b=>lt a b=true
def Tot {α:Type} (lt:α->α->Bool) (l:List α):Prop:=l.Pairwise fun a b=>lt a b=true\/lt b a=true
def GL {α:Type} (lt:α->α->Bool) (x:α) (l:List α):Nat->Nat
 | 0=>0
 | k+1=>match l[k]? with
  | some y=>if lt x y then GL lt x l k else k+1
  | none=>k+1
def GM {α:Type} (lt:α->α->Bool) (l:List α) (x:α):List α:=l.take (GL lt x l l.length)++x::l.drop (GL lt x l l.length)
def srt {α:Type} (lt:α->α->Bool) (l:List α):List α:=l.foldl (GM lt) []
theorem D7 {α:Type} (lt:α->α->Bool) (l:List α) (x:α):(GM lt l x).Perm (x::l):=by
 unfold GM
 refine Fq.trans ?_
 rw [Dj]
theorem DC {α:Type} {lt:α->α->Bool}:∀ (l a:List α),(l.foldl (GM lt) a).Perm (a++l)
 | [],a=>by simp
 | x::l,a=>(DC l (GM lt a x)).trans (((D7 lt a x).append_right l).trans Fq.symm)
theorem IA {α:Type} (lt:α->α->Bool) (l:List α):(srt lt l).Perm l:=DC l []
theorem tdN (x y:Nat):Hb (x:Int) (y:Int)=((x / y:Nat):Int):=rfl
theorem tmN (x y:Nat):Int.tmod (x:Int) (y:Int)=((x % y:Nat):Int):=rfl
theorem aCE (x y:Nat):(x:Int)*(y:Int)=((x*y:Nat):Int):=(Int.natCast_mul x y).symm
theorem S3 (n:Int) (r:Nat) (a:ofF n=r):aA Tryz.prog 139 [ii n] [] (.ret (uu r)) []:=by
 unfold ofF at a
 by_cases h1:n<0
 .rw [if_pos o_] at a
  subst a
  exact c_ Tryz.f139 fun _=>zW
 .by_cases b:n<4294967296
  .have e:n*4294967296=(r:Int):=by
    rw [<-a]
    split<;>omega
   have c:(r:Int)<18446744073709551616:=o_
   refine c_ Tryz.f139 fun _=>?_
   repeat' first | (refine gN hE ?_;conv=>whnf) | exact rfl | refine aY ?_ | refine aN ?_ | refine aT fun h=>?_ | refine aF fun h=>?_ | refine ⟨fun h=>?_,fun h=>?_⟩ | refine aJ ?_ | refine ⟨_,rfl,?_⟩ | refine aD ?_ | fail
   rw [e]
  .rw [if_neg o_,if_neg b] at a
   subst a
   exact c_ Tryz.f139 fun _=>zW
theorem MZ (a b:Nat) (e:a<18446744073709551616) (d:b<18446744073709551616) (r:Nat) (c:lM a b=r):aA Tryz.prog 136 [uu a,uu b] [] (.ret (uu r)) []:=by
 unfold lM sT at c
 by_cases h:a+b<18446744073709551616
 .rw [if_pos h] at c
  subst c
  exact c_ Tryz.f136 fun _=>zW
 .rw [if_neg h] at c
  subst c
  exact c_ Tryz.f136 fun _=>zW
theorem zL (n:Int):aA Tryz.prog 139 [ii n] [] (.ret (uu (ofF n))) []:=S3 n _ rfl
theorem jM (a b:Nat) (d:a<18446744073709551616) (c:b<18446744073709551616):aA Tryz.prog 136 [uu a,uu b] [] (.ret (uu (lM a b))) []:=MZ a b d c _ rfl
def BL (x n:Nat):Prop:=1<=n/\2 ^ (n-1)<=x/\x<2 ^ n
theorem BL.le {x n:Nat} (h:BL x n) (a:x<18446744073709551616):n<=64:=by
 obtain ⟨h1,b,_⟩:=h
 rcases Mn 64 n with h3 | h3
 .have:2 ^ 64<=2 ^ (n-1):=Ep d_ o_
  omega
 .exact h3
theorem hiN (x k:Nat):Int.fdiv (x:Int) (2 ^ k)=((x / 2 ^ k:Nat):Int):=by
 rw [Ge _ (Int.pow_nonneg d_)]
 push_cast
 rfl
theorem wu (n:Int):IntKind.wrap .u64 n=n % 18446744073709551616:=by
 simp [IntKind.wrap,IntKind.signed,IntKind.bits]
theorem aE5 (x y:Nat):Hb (x:Int) (y:Int)=((x / y:Nat):Int):=rfl
theorem aG0 (x s:Nat):Int.fdiv (x:Int) (2 ^ Hf (s:Int))=((x / 2 ^ s:Nat):Int):=hiN x s
theorem aH8 (x y:Nat):Int.tmod (x:Int) (y:Int)=((x % y:Nat):Int):=rfl
theorem mU (n:Nat):sT n=if n<18446744073709551616 then n else 18446744073709551615:=rfl
theorem aB2 {s x y l:Nat}:sT (s+x+y+l)=if lM (lM s x) y=18446744073709551615 then 18446744073709551615 else lM (lM (lM s x) y) l:=by
 unfold lM
 simp only [mU]
 repeat' split
 all_goals omega
noncomputable abbrev fRM:Func:=Tryz.f138
def rmF (ah b a bl:Nat):List (Nat×AVal):=[(5,uu ah),(6,uu b),(7,uu a),(8,uu bl)]
theorem aBU (ah a b bl r:Nat) (z:ah<4294967296) (q:a<4294967296) (l:b<4294967296) (v:bl<4294967296) (c:sT (ah*b*4294967296+ah*bl+a*b+a*bl / 4294967296)=r):
  To E fRM (.pure (.ret (uu r))) (.code (tS fRM 5) (rmF ah a b bl) []):=by
 have e:=aCE ah b
 have o:=aCE ah bl
 have m:=aCE a b
 have i:=aCE a bl
 have l1:ah*b<=4294967295*4294967295:=Gf o_ o_
 have l2:ah*bl<=4294967295*4294967295:=Gf o_ o_
 have y:a*b<=4294967295*4294967295:=Gf o_ o_
 have x:a*bl<=4294967295*4294967295:=Gf o_ o_
 have j:Hb ((a*bl:Nat):Int) 4294967296=((a*bl / 4294967296:Nat):Int):=tdN (a*bl) 4294967296
 have w:a*bl / 4294967296<4294967296:=o_
 unfold rmF
 generalize ah*b=P at *
 generalize ah*bl=X at *
 generalize a*b=Y at *
 generalize a*bl=Z at *
 generalize Z / 4294967296=L at *
 by_cases h1:4294967296<=P
 .have c:18446744073709551615=r:=by rw [mU,if_neg o_] at c;exact c
  subst c
  refine gV ?_
  rw [e]
  exact zW
 .have f:(P:Int)*4294967296=((P*4294967296:Nat):Int):=o_
  obtain ⟨S,p⟩:∃ S,S=P*4294967296:=⟨_,rfl⟩
  rw [<-p] at c f
  have k:=jM S X o_ o_
  have s:=yC S X
  rw [aB2] at c
  generalize lM S X=S1 at *
  have n:=jM S1 Y o_ o_
  have u:=yC S1 Y
  generalize lM S1 Y=d at *
  by_cases g:d=18446744073709551615
  .rw [if_pos g] at c
   subst c
   have l:((d:Int)==18446744073709551615)=true:=by rw [g];rfl
   exact zqda0
  .rw [if_neg g] at c
   have t:=jM d L o_ o_
   rw [c] at t
   have l:((d:Int)==18446744073709551615)=false:=beq_eq_false_iff_ne.2 o_
   exact zqda0
theorem MY (a b:Nat) (C:a<18446744073709551616) (z:b<18446744073709551616) (r:Nat) (d:nB a b=r):aA Tryz.prog 138 [uu a,uu b] [] (.ret (uu r)) []:=by
 have v:Hb (a:Int) 4294967296=((a / 4294967296:Nat):Int):=tdN a 4294967296
 have t:Int.tmod (a:Int) 4294967296=((a % 4294967296:Nat):Int):=tmN a 4294967296
 have w:Hb (b:Int) 4294967296=((b / 4294967296:Nat):Int):=tdN b 4294967296
 have y:Int.tmod (b:Int) 4294967296=((b % 4294967296:Nat):Int):=tmN b 4294967296
 have k:a=a / 4294967296*4294967296+a % 4294967296:=o_
 have m:b=b / 4294967296*4294967296+b % 4294967296:=o_
 have o:a % 4294967296<4294967296:=Gp _ d_
 have n:b % 4294967296<4294967296:=Gp _ d_
 have j:a / 4294967296<4294967296:=o_
 have i:b / 4294967296<4294967296:=o_
 have l:=aB3 k m o n
 unfold nB at d
 rw [l] at d
 clear l k m
 have tail:=aBU _ _ _ _ r j o i n d
 unfold rmF at tail
 generalize a / 4294967296=ah at *
 generalize a % 4294967296=al at *
 generalize b / 4294967296=c at *
 generalize b % 4294967296=bl at *
 refine c_ Tryz.f138 fun _=>?_
 refine gV ?_
 refine Ad d_ ?_
 refine gV ?_
 rw [v]
 refine aJ ?_
 refine gV ?_
 refine Ad d_ ?_
 refine gV ?_
 rw [t]
 refine Ad d_ ?_
 refine gV ?_
 rw [w]
 refine aJ ?_
 refine gV ?_
 refine Ad d_ ?_
 refine gV ?_
 rw [y]
 by_cases h1:0<ah
 .refine aT fun h=>?_
  by_cases x:0<c
  .have u:Hb 18446744073709551615 (c:Int)=((18446744073709551615 / c:Nat):Int):=tdN 18446744073709551615 c
   have s:Hb ((18446744073709551615 / c:Nat):Int) 4294967296=((18446744073709551615 / c / 4294967296:Nat):Int):=tdN (18446744073709551615 / c) 4294967296
   have e:=XJ (ah:=ah) x
   have q:18446744073709551615 / c<=18446744073709551615:=Eh ..
   have p:18446744073709551615 / c / 4294967296<=18446744073709551615 / c:=Eh ..
   generalize 18446744073709551615 / c=Q at *
   generalize Q / 4294967296=Q2 at *
   refine gV ?_
   refine aT fun h=>?_
   refine gV ?_
   refine Ad o_ ?_
   refine gV ?_
   rw [u]
   refine aJ ?_
   refine gV ?_
   refine Ad d_ ?_
   refine gV ?_
   rw [s]
   refine aJ ?_
   refine gV ?_
   by_cases h3:Q2<ah
   .have B:=e.1 h3
    have d:18446744073709551615=r:=by
     rw [mU,if_neg] at d
     .exact d
     .generalize ah*c=P at *
      omega
    subst d
    exact zW
   .refine aF fun h=>?_
    exact zqda2
  .refine gV ?_
   refine aF fun h=>?_
   refine gV ?_
   refine aN ?_
   exact zqda2
 .refine aF fun h=>?_
  refine gV ?_
  refine aN ?_
  refine gV ?_
  refine aN ?_
  exact zqda2
theorem qF (a b:Nat) (d:a<18446744073709551616) (c:b<18446744073709551616):aA Tryz.prog 138 [uu a,uu b] [] (.ret (uu (nB a b))) []:=MY a b d c _ rfl
noncomputable abbrev fRV:Func:=Tryz.f267
def ovF (a b q r:Nat) (i:Int):List (Nat×AVal):=[(0,uu a),(1,uu b),(5,uu q),(6,uu r),(7,ii i)]
def CY (a i:Nat):Nat:=a*4294967296 / 2 ^ i % 2
theorem RM (a i:Nat):CY a i<2:=Gp _ d_
theorem YG (n:Nat):fQ .or .u64 ((2*n:Nat):Int) 1=if 2*n<18446744073709551616 then ((2*n+1:Nat):Int) else fQ .or .u64 ((2*n:Nat):Int) 1:=by
 split
 .have h:=tM .u64 (2*n) 1 (by simp only [bI];omega) d_
  have a:2*n ||| 1=2*n+1:=by
   have:=Ke (i:=1) (b:=1) d_ n
   simpa using this.symm
  rw [a] at h
  exact h
 .rfl
theorem BT (z:Nat) (hz:z<18446744073709551616):fQ .and .u64 (z:Int) 1=((z % 2:Nat):Int):=by
 have h:=EU .u64 z 1 (by simp only [bI];omega) d_
 rw [Kk] at h
 exact h
theorem P4 (a b q r v i:Nat) (top:Bool) (w:Int) (G:AVal) (t:0<b) (l:b<18446744073709551616) (s:q<18446744073709551616) (p:i<96) (o:0<=w/\w<=18446744073709551615) (k:top=decide (18446744073709551616<=v)) (f:(v:Int)=w+(if top=true then 18446744073709551616 else 0)) (n:v<2*b)
  (ret:9223372036854775808<=q->G=uu 18446744073709551615)
  (next:q<9223372036854775808->To E fRV (.pure (.ret G)) (.head (stk fRV 0) (ovF a b (if b<=v then 2*q+1 else 2*q) (if b<=v then v-b else v) ((i:Int)-1)) [])):
  To E fRV (.pure (.ret G)) (.code (tS fRV 10) [(0,uu a),(1,uu b),(5,uu q),(6,.int .u64 w),(7,ii i),(8,.bool top)] []):=by
 have g:=YG q
 cases top with
 | true=>
  have h1:=(of_decide_eq_true k.symm)
  have f:(v:Int)=w+18446744073709551616:=f
  have j:IntKind.wrap .u64 (w-(b:Int))=((v-b:Nat):Int):=by rw [wu];omega
  rw [if_pos o_,if_pos o_] at next
  refine gV ?_
  refine aY ?_
  refine gV ?_
  refine aY ?_
  refine gV ?_
  refine Or.inr ?_
  rw [j]
  refine gV ?_
  by_cases e:9223372036854775808<=q
  .have c:=ret e
   subst c
   exact zW
  .have next:=next o_
   have d:(q:Int)*2 ^ Hf 1=((2*q:Nat):Int):=by
    show (q:Int)*2=_
    omega
   refine aF fun h=>?_
   refine gV ?_
   refine Ad d_ ?_
   refine gV ?_
   rw [d]
   refine Hk (Ad (Ad d_ (Ad (by simp only [cL];omega) (by simp only [bI];omega))) ?_)
   refine gV ?_
   refine aY ?_
   rw [if_pos o_] at g
   refine gV ?_
   rw [g]
   exact zW
 | false=>
  have h1:=(of_decide_eq_false k.symm)
  have f:(v:Int)=w+0:=f
  have m:w=(v:Int):=o_
  subst m
  by_cases h3:b<=v
  .rw [if_pos h3,if_pos h3] at next
   have j:(v:Int)-(b:Int)=((v-b:Nat):Int):=o_
   refine gV ?_
   refine aN ?_
   refine gV ?_
   refine aT fun h=>?_
   refine gV ?_
   rw [j]
   refine aJ ?_
   refine gV ?_
   by_cases e:9223372036854775808<=q
   .have c:=ret e
    subst c
    exact zW
   .have next:=next o_
    have d:(q:Int)*2 ^ Hf 1=((2*q:Nat):Int):=by
     show (q:Int)*2=_
     omega
    refine aF fun h=>?_
    refine gV ?_
    refine Ad d_ ?_
    refine gV ?_
    rw [d]
    refine Hk (Ad (Ad d_ (Ad (by simp only [cL];omega) (by simp only [bI];omega))) ?_)
    refine gV ?_
    refine aT fun h=>?_
    rw [if_pos o_] at g
    refine gV ?_
    rw [g]
    exact zW
  .rw [if_neg h3,if_neg h3] at next
   refine gV ?_
   refine aN ?_
   refine gV ?_
   refine aF fun h=>?_
   refine gV ?_
   by_cases e:9223372036854775808<=q
   .have c:=ret e
    subst c
    exact zW
   .have next:=next o_
    have d:(q:Int)*2 ^ Hf 1=((2*q:Nat):Int):=by
     show (q:Int)*2=_
     omega
    refine aF fun h=>?_
    refine gV ?_
    refine Ad d_ ?_
    refine gV ?_
    rw [d]
    refine Hk (Ad (Ad d_ (Ad (by simp only [cL];omega) (by simp only [bI];omega))) ?_)
    exact zW
theorem YD (a b q k i:Nat) (top:Bool) (G:AVal) (p:a<18446744073709551616) (r:i<96) (n:2*k<18446744073709551616) (tail:To E fRV (.pure (.ret G)) (.code (tS fRV 10) [(0,uu a),(1,uu b),(5,uu q),(6,uu (2*k+CY a i)),(7,ii i),(8,.bool top)] [])):
  To E fRV (.pure (.ret G)) (.code (tS fRV 8) [(0,uu a),(1,uu b),(5,uu q),(6,uu (2*k)),(7,ii i),(8,.bool top)] []):=by
 have l:=YG k
 rw [if_pos n] at l
 by_cases e:32<=i
 .have j:(i:Int)-32=((i-32:Nat):Int):=o_
  have f:=aG0 a (i-32)
  have g:fQ .and .u64 ((a / 2 ^ (i-32):Nat):Int) 1=(CY a i:Int):=by
   unfold CY
   rw [aGH a e]
   exact BT _ (Kl (Eh ..) p)
  have o:=RM a i
  generalize a / 2 ^ (i-32)=z at *
  generalize CY a i=t at *
  by_cases d:t=1
  .subst d
   have c:(((1:Nat):Int)==1)=true:=rfl
   have m:((2*k:Nat):Int)+1=((2*k+1:Nat):Int):=rfl
   refine gV ?_
   refine aT fun h=>?_
   refine gV ?_
   rw [j]
   refine aJ ?_
   refine gV ?_
   refine aJ ?_
   refine gV ?_
   rw [f]
   refine Ad (Ad o_ (show Hf ((i-32:Nat):Int)<=64 by omega)) ?_
   refine gV ?_
   rw [g]
   refine Ad (fun _=>?_) (fun h=>absurd (c.symm.trans h) d_)
   refine bV hE 12 ?_;conv=>whnf
   rw [l]
   exact zqda7
  .have d:t=0:=o_
   subst d
   have c:(((0:Nat):Int)==1)=false:=rfl
   refine gV ?_
   refine aT fun h=>?_
   refine gV ?_
   rw [j]
   refine aJ ?_
   refine gV ?_
   refine aJ ?_
   refine gV ?_
   rw [f]
   refine Ad (Ad o_ (show Hf ((i-32:Nat):Int)<=64 by omega)) ?_
   refine gV ?_
   rw [g]
   refine Ad (fun h=>absurd (c.symm.trans h) d_) (fun _=>?_)
   refine bV hE 2 ?_;conv=>whnf
   exact zqda7
 .have hz:CY a i=0:=aGG a o_
  rw [hz,Df] at tail
  refine gV ?_
  refine aF fun h=>?_
  refine gV ?_
  refine aN ?_
  refine bV hE 2 ?_;conv=>whnf
  exact zqda7
theorem aCk (a b:Nat) (y:a<18446744073709551616) (j:0<b) (d:b<18446744073709551616) (R:Nat) (e:sT (a*4294967296 / b)=R):∀ (m q r:Nat),m<=96->r<b->q<18446744073709551616->a*4294967296 / 2 ^ m=q*b+r->
  To E fRV (.pure (.ret (uu R))) (.head (stk fRV 0) (ovF a b q r ((m:Int)-1)) []):=by
 intro m
 induction m with
 | zero=>
  intro q r hm s g f
  have t:=YB s f
  rw [<-t,mU,if_pos g] at e
  subst e
  unfold ovF
  refine gV ?_
  exact zW
 | succ i w=>
  intro q r hm s g f
  have x:=RM a i
  obtain ⟨l,k⟩:=TE j s f
  have z:a*4294967296 / 2 ^ i % 2=CY a i:=rfl
  rw [z] at l k
  obtain ⟨v,o⟩:∃ v,v=2*r+CY a i:=⟨_,rfl⟩
  rw [<-o] at l k
  have ret:9223372036854775808<=q->uu R=uu 18446744073709551615:=fun h=>by
   have:=YC j f h
   rw [mU,if_neg o_] at e
   rw [<-e]
  have next:q<9223372036854775808->To E fRV (.pure (.ret (uu R))) (.head (stk fRV 0) (ovF a b (if b<=v then 2*q+1 else 2*q) (if b<=v then v-b else v) ((i:Int)-1)) []):=fun h=>by
   by_cases c:b<=v
   .rw [if_pos c,if_pos c]
    exact w (2*q+1) (v-b) o_ (k c).2 o_ (k c).1
   .rw [if_neg c,if_neg c]
    exact w (2*q) v o_ o_ o_ (l o_)
  have A:((i+1:Nat):Int)-1=(i:Int):=o_
  unfold ovF
  rw [A]
  by_cases h1:9223372036854775808<=r
  .have tail:=P4 a b q r v i true (2*(r-9223372036854775808)+CY a i:Nat) (uu R) j d g o_ o_ (decide_eq_true o_).symm (by rw [if_pos rfl];omega) o_ ret next
   have n:=YD a b q (r-9223372036854775808) i true (uu R) y o_ o_ tail
   have p:IntKind.wrap .u64 ((r:Int)*2 ^ (min (Hf 1) (IntKind.bits .u64)))=((2*(r-9223372036854775808):Nat):Int):=by
    show IntKind.wrap .u64 ((r:Int)*2)=_
    rw [wu]
    omega
   have u:decide ((9223372036854775808:Int)<=(r:Int))=true:=decide_eq_true o_
   refine gV ?_
   refine aT fun h=>?_
   refine gV ?_
   rw [u]
   refine Ad d_ ?_
   refine gV ?_
   refine Or.inr ?_
   rw [p]
   exact zqda8
  .have tail:=P4 a b q r v i false (2*r+CY a i:Nat) (uu R) j d g o_ o_ (decide_eq_false o_).symm (by rw [if_neg d_];omega) o_ ret next
   have n:=YD a b q r i false (uu R) y o_ o_ tail
   have p:(r:Int)*2 ^ Hf 1=((2*r:Nat):Int):=by
    show (r:Int)*2=_
    omega
   have u:decide ((9223372036854775808:Int)<=(r:Int))=false:=decide_eq_false o_
   refine gV ?_
   refine aT fun h=>?_
   refine gV ?_
   rw [u]
   refine Ad d_ ?_
   refine gV ?_
   rw [p]
   refine Hk (Ad (Ad d_ (Ad (by simp only [cL];omega) (by simp only [bI];omega))) ?_)
   exact zqda8
theorem P3 (a b:Nat) (h:a<18446744073709551616) (d:0<b) (c:b<18446744073709551616):aA Tryz.prog 267 [uu a,uu b] [] (.ret (uu (sT (a*4294967296 / b)))) []:=by
 have i:a*4294967296 / 2 ^ 96=0*b+0:=by
  rw [Jg]
  .simp
  .have:(2:Nat) ^ 96=18446744073709551616*4294967296:=by decide
   omega
 have e:=aCk a b h d c _ rfl 96 0 0 o_ d o_ i
 generalize sT (a*4294967296 / b)=R at *
 unfold ovF at e
 exact c_ Tryz.f267 fun _=>zW
theorem DM (a b:Nat) (e:a<18446744073709551616) (d:b<18446744073709551616):aA Tryz.prog 299 [uu a,uu b] [] (.ret (uu (HC a b))) []:=by
 unfold HC
 by_cases h1:a=0
 .subst h1
  exact zqda6
 .have i:((a:Int)==0)=false:=beq_eq_false_iff_ne.2 o_
  rw [if_neg h1]
  by_cases c:b=0
  .subst c
   exact zqda6
  .have h:((b:Int)==0)=false:=beq_eq_false_iff_ne.2 o_
   rw [if_neg c]
   have j:=P3 a b e o_ d
   generalize sT (a*4294967296 / b)=R at *
   exact zqda6
theorem qE (a b:Int) (j:a<=9223372036854775807) (h:b<=9223372036854775807):aA Tryz.prog 209 [ii a,ii b] [] (.ret (uu (CM a b))) []:=by
 unfold CM HC
 by_cases h1:a<=0
 .rw [if_pos o_]
  exact zqda4
 .rw [if_neg o_]
  by_cases i:b<=0
  .rw [if_pos o_]
   exact zqda4
  .rw [if_neg o_]
   have c:=P3 (max a 0).toNat (max b 0).toNat o_ o_ o_
   have e:(((max a 0).toNat:Nat):Int)=a:=o_
   have d:(((max b 0).toNat:Nat):Int)=b:=o_
   generalize sT ((max a 0).toNat*4294967296 / (max b 0).toNat)=R at *
   unfold uu at c
   rw [e,d] at c
   exact zqda4
def N5:List Nat:=[3037000499,3611622602,3938502375,4112874772,4202935002,4248701964,4271771996,4283353945,4289156689,4292061009,4293513906,4294240539,4294603902,4294785595,4294876444,4294921869]
abbrev aBu:List AVal:=N5.map uu
def CV (f x i:Nat):Nat:=if f.testBit (15-i)=true then nB x ((N5[i]?).getD 0) else x
def aGh (f:Nat):Nat:=(Db 16).foldl (CV f) 4294967296
def xC (age half:Int):Nat:=
 if 63<(max age 0).toNat / (max half 1).toNat then 0 else aGh (CM (((max age 0).toNat % (max half 1).toNat:Nat):Int) ((max half 1).toNat:Int) / 65536) / 2 ^ ((max age 0).toNat / (max half 1).toNat)
theorem aAD {i:Nat} (h:i<16):∃ p:Nat,N5[i]? =some p/\p<=4294967296/\aBu[i]? =some (uu p):=by
 have hl:N5.length=16:=rfl
 refine ⟨N5[i],Aa o_,?_,by show (N5.map uu)[i]? =_;rw [Bc,Aa o_];rfl⟩
 have:∀ p∈N5,p<=4294967296:=by decide
 exact this _ (Bf _)
theorem YY {x p:Nat} (a:x<=4294967296) (hp:p<=4294967296):nB x p<=4294967296:=by
 unfold nB
 have h1:x*p<=4294967296*4294967296:=Gf a hp
 generalize x*p=z at *
 rw [mU]
 split<;>omega
theorem Q0 {f x i:Nat} (c:i<16) (a:x<=4294967296):CV f x i<=4294967296:=by
 unfold CV
 obtain ⟨p,h1,b,_⟩:=aAD c
 rw [h1]
 split
 .exact YY a b
 .exact a
theorem Q3 (f:Nat):∀ (l:List Nat) (x:Nat),(∀ i∈l,i<16)->x<=4294967296->l.foldl (CV f) x<=4294967296
 | [],x,_,hx=>hx
 | i::l,x,h,hx=>Q3 f l _ (fun j a=>h j (Bb _ a)) (Q0 (h i (Az ..)) hx)
theorem Q1 (f:Nat):aGh f<=4294967296:=Q3 f _ _ (fun i a=>Gt.1 a) (Bg _)
theorem aDg (age half:Int):xC age half<=4294967296:=by
 unfold xC
 split
 .omega
 .exact Cs (Eh ..) (Q1 _)
theorem sW (a b:Int):CM a b<18446744073709551616:=aDH _ _
theorem MU (f:Nat) {i:Nat} (h:i<16) (x:Nat):((Db 16).drop i).foldl (CV f) x=((Db 16).drop (i+1)).foldl (CV f) (CV f x i):=by
 rw [Ac (by simpa using h)]
 simp
theorem aET {i:Nat} (h:i<16):i=0\/i=1\/i=2\/i=3\/i=4\/i=5\/i=6\/i=7\/i=8\/i=9\/i=10\/i=11\/i=12\/i=13\/i=14\/i=15:=o_
theorem aBJ:aA Tryz.prog 265 [] [] (.ret (.agg aBu)) []:=by
 exact c_ Tryz.f265 fun _=>zW
noncomputable abbrev fRF:Func:=Tryz.f206
theorem aB0 (q:Nat) (i:q<9223372036854775808) (R:Nat):∀ (m y j:Nat),y<=m->j<=q->y / 2 ^ (q-j)=R->y<18446744073709551616->
  To E fRF (.pure (.ret (uu R))) (.head (stk fRF 1) [(5,ii q),(9,uu y),(11,ii j)] []):=by
 intro m
 induction m with
 | zero=>
  intro y j b d a c
  have b:y=0:=o_
  subst b
  rw [Nat.zero_div] at a
  subst a
  by_cases h1:j<q
  .refine gV ?_
   exact zW
  .refine gV ?_
   exact zW
 | succ m g=>
  intro y j b d a c
  have f:Hb (y:Int) 2=((y / 2:Nat):Int):=aE5 y 2
  by_cases h1:j<q
  .by_cases k:0<y
   .have next:=g (y / 2) (j+1) o_ o_ (by
     rw [Iu,<-Nat.pow_succ',show (q-(j+1)).succ=q-j by omega]
     exact a) o_
    have e:y / 2<=y:=Eh ..
    generalize y / 2=z at *
    refine gV ?_
    refine aT fun h=>?_
    repeat' first | (refine gN hE ?_;conv=>whnf) | (rw [f];refine aJ ?_) | exact rfl | refine aY ?_ | refine aN ?_ | refine aT fun h=>?_ | refine aF fun h=>?_ | refine ⟨fun h=>?_,fun h=>?_⟩ | refine aJ ?_ | refine ⟨_,rfl,?_⟩ | refine aD ?_ | fail
    exact zW
   .have b:y=0:=o_
    subst b
    rw [Nat.zero_div] at a
    subst a
    refine gV ?_
    exact zW
  .have d:q-j=0:=o_
   rw [d,Nat.pow_zero,Jt] at a
   subst a
   refine gV ?_
   exact zW
theorem aBZ (q f:Nat) (w:f<18446744073709551616) (u:q<9223372036854775808) (R:Nat):∀ (m i x:Nat),i+m=16->x<=4294967296->((Db 16).drop i).foldl (CV f) x / 2 ^ q=R->
  To E fRF (.pure (.ret (uu R))) (.head (stk fRF 0) [(5,ii q),(7,uu f),(8,.ref 0 0),(9,uu x),(10,ii i)] [.cells 290 aBu]):=by
 intro m
 induction m with
 | zero=>
  intro i x r e a
  rw [Ae q_] at a
  have a:x / 2 ^ (q-0)=R:=a
  have next:=aB0 q u R x x 0 (Bg _) o_ a o_
  refine gV ?_
  exact zW
 | succ m o=>
  intro i x r e a
  rw [MU f o_] at a
  have next:=o (i+1) (CV f x i) o_ (Q0 o_ e) a
  obtain ⟨p,hp,v,_⟩:=aAD (i:=i) o_
  have d:(15:Int)-(i:Int)=((15-i:Nat):Int):=o_
  have g:=aG0 f (15-i)
  have j:=BT (f / 2 ^ (15-i)) (Kl (Eh ..) w)
  unfold CV at next
  rw [hp,Nat.testBit_eq_decide_div_mod_eq] at next
  have hm:=qF x p o_ o_
  have A:15-i<=15:=o_
  have n:f / 2 ^ (15-i)<=f:=Eh ..
  have s:f / 2 ^ (15-i) % 2<2:=Gp _ d_
  generalize 15-i=k at *
  generalize f / 2 ^ k=z at *
  generalize z % 2=b at *
  by_cases c:b=1
  .rw [decide_eq_true c,if_pos rfl] at next
   have nxt:To E fRF (.pure (.ret (uu R))) (.head (stk fRF 0) [(5,ii q),(7,uu f),(8,.ref 0 0),(9,uu (nB x p)),(10,ii ((i+1:Nat):Int))] [.cells 290 aBu]):=next
   clear next
   generalize nB x p=y at *
   have l:((b:Int)==1)=true:=by rw [c];rfl
   rcases aET (show i<16 by omega) with rfl | rfl | rfl | rfl | rfl | rfl | rfl | rfl | rfl | rfl | rfl | rfl | rfl | rfl | rfl | rfl
   all_goals cases hp
   all_goals
    refine gV ?_
    refine aT fun h=>?_
    refine gV ?_
    rw [d]
    refine aJ ?_
    refine gV ?_
    refine aJ ?_
    refine gV ?_
    rw [g]
    refine Ad (Ad o_ (show Hf (k:Int)<=64 by omega)) ?_
    refine gV ?_
    rw [j]
    refine Ad (fun _=>?_) (fun h=>absurd (l.symm.trans h) d_)
    refine gV ?_
    refine Ad (Ad d_ d_) ?_
    exact zW
  .rw [decide_eq_false c,if_neg d_] at next
   have l:((b:Int)==1)=false:=beq_eq_false_iff_ne.2 o_
   refine gV ?_
   refine aT fun h=>?_
   refine gV ?_
   rw [d]
   refine aJ ?_
   refine gV ?_
   refine aJ ?_
   refine gV ?_
   rw [g]
   refine Ad (Ad o_ (show Hf (k:Int)<=64 by omega)) ?_
   refine gV ?_
   rw [j]
   exact zW
theorem qAb (age half:Int) (h1:age<=9223372036854775807) (t:half<=9223372036854775807) (R:Nat) (a:xC age half=R):aA Tryz.prog 206 [ii age,ii half] [] (.ret (uu R)) []:=by
 unfold xC at a
 have m:(((max age 0).toNat:Nat):Int)=max age 0:=o_
 have c:(((max half 1).toNat:Nat):Int)=max half 1:=o_
 have p:(max age 0).toNat<9223372036854775808:=o_
 have u:0<(max half 1).toNat:=o_
 have l:(max half 1).toNat<9223372036854775808:=o_
 generalize (max age 0).toNat=A at *
 generalize (max half 1).toNat=H at *
 have h:=aE5 A H
 have i:=aH8 A H
 have e:A / H<=A:=Eh ..
 have d:=Nat.mod_le A H
 have a:aGh (CM ((A % H:Nat):Int) (H:Int) / 65536) / 2 ^ (A / H)=R:=by
  by_cases b:63<A / H
  .rw [if_pos b] at a
   rw [<-a]
   refine Jg (Kl (Q1 _) ?_)
   exact Dp (show 4294967296<2 ^ 63 by decide) (Ep d_ o_)
  .rw [if_neg b] at a
   exact a
 have j:=qE ((A % H:Nat):Int) (H:Int) o_ o_
 have k:=sW ((A % H:Nat):Int) (H:Int)
 generalize CM ((A % H:Nat):Int) (H:Int)=T at *
 have n:Hb (T:Int) 65536=((T / 65536:Nat):Int):=aE5 T 65536
 have s:=aBZ (A / H) (T / 65536) o_ o_ R 16 0 4294967296 o_ (Bg _) a
 have o:T / 65536<=T:=Eh ..
 generalize T / 65536=f at *
 generalize A / H=q at *
 generalize A % H=r at *
 refine c_ Tryz.f206 fun _=>?_
 refine gV ?_
 rw [<-m,<-c]
 refine Ad o_ ?_
 refine gV ?_
 rw [h]
 refine aJ ?_
 refine gV ?_
 refine Ad o_ ?_
 refine gV ?_
 rw [i]
 refine .pure _ [] j ?_
 refine gV ?_
 refine Ad d_ ?_
 refine gV ?_
 rw [n]
 refine aJ ?_
 refine gV ?_
 refine .pure _ [] aBJ ?_
 exact zW
theorem MO (age half:Int) (h1:age<=9223372036854775807) (a:half<=9223372036854775807):aA Tryz.prog 206 [ii age,ii half] [] (.ret (uu (xC age half))) []:=qAb age half h1 a _ rfl
theorem S0 (x:Nat) (age half:Int) (a:x<18446744073709551616) (h1:age<=9223372036854775807) (b:half<=9223372036854775807):aA Tryz.prog 137 [uu x,ii age,ii half] [] (.ret (uu (nB x (xC age half)))) []:=by
 have h3:=MO age half h1 b
 have hl:=aDg age half
 have c:=qF x (xC age half) a o_
 generalize xC age half=f at *
 generalize nB x f=y at *
 exact c_ Tryz.f137 fun _=>zW
def UN (x:Nat) (n m:Int):Nat:=if 0<n then max x (CM n m) else x
def UO (u v:V3):Nat:=UN (UN (UN 0 u.a v.a) u.b v.b) u.c v.c
theorem HB {x:Nat} {n m:Int} (h:x<18446744073709551616):UN x n m<18446744073709551616:=by
 have:=sW n m
 unfold UN
 split
 .omega
 .exact h
theorem aDG (u v:V3):UO u v<18446744073709551616:=HB (HB (HB d_))
theorem aGW (v u:V3) (M:Imm) (ob:Hs) (vs:List Value) (h:cD M ob vs [v.av,u.av]):(inR .i64 v.a/\inR .i64 v.b/\inR .i64 v.c)/\inR .i64 u.a/\inR .i64 u.b/\inR .i64 u.c:=by
 have hl:1<vs.length:=by rw [h.1];simp
 have h1:=h.2 0 _ v.av (Aa o_) rfl
 have d:=h.2 1 _ u.av (Aa hl) rfl
 exact ⟨⟨bZ h1 0 _ rfl,bZ h1 1 _ rfl,bZ h1 2 _ rfl⟩,bZ d 0 _ rfl,bZ d 1 _ rfl,bZ d 2 _ rfl⟩
theorem XL (u v:V3) (r:Nat) (d:UO u v=r):aA Tryz.prog 142 [u.av,v.av] [] (.ret (uu r)) []:=by
  refine aA.get _ (aGW u v) fun ⟨⟨⟨a1,a2⟩,⟨b1,b2⟩,⟨c1,c2⟩⟩,⟨d1,d2⟩,⟨e1,e2⟩,⟨f1,f2⟩⟩=>?_
  simp only [cL,bI] at a1 a2 b1 b2 c1 c2 d1 d2 e1 e2 f1 f2
  have h1:=qE u.a v.a o_ o_
  have k:=qE u.b v.b o_ o_
  have h3:=qE u.c v.c o_ o_
  have l1:=sW u.a v.a
  have l2:=sW u.b v.b
  have l:=sW u.c v.c
  unfold UO UN at d
  generalize CM u.a v.a=p at *
  generalize CM u.b v.b=q at *
  generalize CM u.c v.c=s at *
  by_cases i:0<u.a<;>by_cases j:0<u.b<;>by_cases e:0<u.c<;>simp only [i,j,e,if_true,if_false] at d
  all_goals
   subst d
   refine c_ Tryz.f142 fun _=>?_
   refine gV ?_
   repeat' first
    | (refine gW hE ?_;conv=>whnf)
    | refine .pure _ [] h1 ?_
    | refine .pure _ [] k ?_
    | refine .pure _ [] h3 ?_
    | exact rfl
    | refine aY ?_
    | refine aN ?_
    | refine aT fun h=>?_
    | refine aF fun h=>?_
    | refine aJ ?_
    | refine Aw _ (Ad rfl ?_)
    | refine Ad d_ ?_
    | fail
   all_goals exact congrArg (fun n=>Res.ret (AVal.int .u64 n)) o_
def aEX (v:V3) (h:Hos):V3:=dG v h.c
def LZ (c:Con):V3:=c.hs.foldl aEX V3.zero
noncomputable abbrev aEz:Func:=Tryz.f141
theorem SI (c:Con) (hl:c.hs.length<=1048576) (r:V3):∀ (m i:Nat) (v:V3),i+m=c.hs.length->(c.hs.drop i).foldl aEX v=r->
  To E aEz (.pure (.ret r.av)) (.head (stk aEz 0) [(1,.ref 0 0),(2,.ref 1 0),(3,.ref 2 0),(4,ii i)] [.cells 26 c.cs,.cells 34 V3.zero.cs,.cells 34 v.cs]):=by
 have d:(hav c.hs).length=c.hs.length:=by simp
 intro m
 induction m with
 | zero=>
  intro i v g a
  rw [Ae o_] at a
  have a:v=r:=a
  subst a
  refine gV ?_
  exact zW
 | succ m e=>
  intro i v g a
  have b:i<c.hs.length:=o_
  rw [Ac b,Al] at a
  have next:=e (i+1) _ o_ a
  have get:=nI b
  generalize c.hs[i]=x at get next
  have f:=jG v x.c
  unfold aEX at next
  generalize dG v x.c=w at f next
  refine gV ?_
  exact zW
theorem SH (c:Con) (a:c.sm):aA Tryz.prog 141 [c.av] [] (.ret (LZ c).av) []:=by
 have h1:=a.hs
 have next:=SI c o_ (LZ c) c.hs.length 0 V3.zero o_ rfl
 generalize LZ c=r at next
 exact c_ Tryz.f141 fun _=>zW
def lA {α:Type} (d:Nat->α->Nat):List α->Nat->List Nat
 | [],_=>[]
 | x::r,i=>d i x::lA d r (i+1)
theorem mH {α:Type} (d:Nat->α->Nat):∀ (l:List α) (i:Nat),(lA d l i).length=l.length
 | [],_=>rfl
 | _::r,i=>by simp [lA,mH d r (i+1)]
theorem EV {α:Type} (d:Nat->α->Nat):∀ (l:List α) (i k:Nat) (h:k<l.length),(lA d l i)[k]? =some (d (i+k) l[k])
 | [],_,k,h=>absurd h s_
 | x::r,i,0,_=>rfl
 | x::r,i,k+1,h=>by
  have:=EV d r (i+1) k (by simpa using h)
  simp only [lA,Eu,List.getElem_cons_succ]
  rw [this,show i+1+k=i+(k+1) by omega]
theorem Z1 {l:List Nat} {i:Nat} (h:i<l.length):(fv l)[i]? =some (uu l[i]):=by simp [fv,h]
def LtF (l:List Nat):Prop:=∀ x∈l,x<18446744073709551616
def wV (c:Con) (i:Nat) (v:V3):Nat:=if aW c.ns (i:Int)=true then UO v (LZ c) else 0
def wW (c:Con) (l:List Rn):List Nat:=lA (wV c) (ofL c l) 0
def tkS (a:List Nat) (n half:Int) (i:Nat) (x:Nat):Nat:=if i<a.length then lM (nB x (xC n half)) (nB ((a[i]?).getD 0) (ofF n)) else nB x (xC n half)
def tkL (h a:List Nat) (n half:Int):List Nat:=lA (tkS a n half) h 0
theorem aB5 (u v:V3):aA Tryz.prog 142 [u.av,v.av] [] (.ret (uu (UO u v))) []:=XL u v _ rfl
theorem aBB (c:Con) (l:List Rn):LtF (wW c l):=by
 intro x b
 obtain ⟨k,a,e⟩:=Gq b
 unfold wW at a e
 rw [mH] at a
 have:=EV (wV c) (ofL c l) 0 k a
 rw [Aa (by rw [mH];exact a),e] at this
 cases this
 unfold wV
 split
 .exact aDG _ _
 .decide
noncomputable abbrev UB:Func:=Tryz.f67
theorem WL (h b:List Nat) (s:LtF h) (hl:h.length<=1048576) (hs:LtF b) (hsl:b.length<=1048576) (n half:Int) (B:n<=9223372036854775807) (G:half<=9223372036854775807) (R:List Nat):∀ (m i:Nat) (a:List Nat),i+m=h.length->a.length=i->a++lA (tkS b n half) (h.drop i) i=R->
  To (Eo [9] []) UB (.pure (.ret (.slice 1 (fv R) .no))) (.head (stk UB 0) [(0,.slice 1 (fv h) .no),(1,.slice 1 (fv b) .no),(2,ii n),(3,ii half),(9,.slice 1 (fv a) (.own 0 0)),(10,ii i)] [.tail 0 1 123]):=by
 have q:(fv h).length=h.length:=by simp
 have j:(fv b).length=b.length:=by simp
 intro m
 induction m with
 | zero=>
  intro i a v D c
  rw [Ae o_] at c
  have c:a++[]=R:=c
  rw [Bo] at c
  subst c
  refine gV ?_
  exact zW
 | succ m k=>
  intro i a v D c
  have f:i<h.length:=o_
  have get:=Z1 f
  have o:=s _ (Bf f)
  rw [Ac f] at c
  generalize h[i]=x at get o c
  have c:a++(tkS b n half i x::lA (tkS b n half) (h.drop (i+1)) (i+1))=R:=c
  have H:=zL n
  have g:=ND n
  have h1:=S0 x n half o B G
  have l1:=GA x (xC n half)
  have A:(fv a).length=a.length:=by simp
  have step:∀ y,tkS b n half i x=y->To (Eo [9] []) UB (.pure (.ret (.slice 1 (fv R) .no))) (.head (stk UB 0) [(0,.slice 1 (fv h) .no),(1,.slice 1 (fv b) .no),(2,ii n),(3,ii half),(9,.slice 1 (fv a++[uu y]) (.own 0 0)),(10,ii ((i:Int)+1))] [.tail 0 1 123]):=fun y F=>by
   rw [F] at c
   have next:=k (i+1) (a++[y]) o_ q_ (by rw [Aj];exact c)
   have e:fv (a++[y])=fv a++[uu y]:=by simp [fv]
   rw [e] at next
   exact next
  clear c k
  unfold tkS at step
  generalize nB x (xC n half)=p at *
  generalize ofF n=t at *
  by_cases d:i<b.length
  .have l:=Z1 d
   have hz:=hs _ (Bf d)
   rw [if_pos d,Aa d] at step
   have step:=step _ rfl
   have step:To (Eo [9] []) UB (.pure (.ret (.slice 1 (fv R) .no))) (.head (stk UB 0) [(0,.slice 1 (fv h) .no),(1,.slice 1 (fv b) .no),(2,ii n),(3,ii half),(9,.slice 1 (fv a++[uu (lM p (nB b[i] t))]) (.own 0 0)),(10,ii ((i:Int)+1))] [.tail 0 1 123]):=step
   generalize b[i]=z at *
   have r:=qF z t hz g
   have l2:=GA z t
   generalize nB z t=w at *
   have h3:=jM p w l1 l2
   generalize lM p w=y at *
   refine gV ?_
   exact zW
  .rw [if_neg d] at step
   have step:=step _ rfl
   have r:=qF 0 t d_ g
   have C:nB 0 t=0:=by unfold nB;rw [Hr];rfl
   rw [C] at r
   have h3:=jM p 0 l1 d_
   have u:lM p 0=p:=by unfold lM;rw [Df,mU,if_pos l1]
   rw [u] at h3
   refine gV ?_
   exact zW
theorem WK (h a:List Nat) (c:LtF h) (hl:h.length<=1048576) (hs:LtF a) (hsl:a.length<=1048576) (n half:Int) (b:n<=9223372036854775807) (d:half<=9223372036854775807):aA Tryz.prog 67 [.slice 1 (fv h) .no,.slice 1 (fv a) .no,ii n,ii half] [] (.ret (.slice 1 (fv (tkL h a n half)) .no)) []:=by
 have next:=WL h a c hl hs hsl n half b d (tkL h a n half) h.length 0 [] o_ rfl rfl
 generalize tkL h a n half=R at next
 refine cT (E:=(Eo [9] [])) (fn:=Tryz.f67) (g:=.pure _) fun _=>?_
 exact zW
noncomputable abbrev aHE:Func:=Tryz.f68
theorem yZ (c:Con) (j:c.sm) (us:List V3) (s:us.length=c.ns.length) (a:V3) (l:LZ c=a) (R:List Nat):∀ (m i:Nat) (b:List Nat),i+m=us.length->b.length=i->b++lA (wV c) (us.drop i) i=R->
  To (Eo [7] []) aHE (.pure (.ret (.slice 1 (fv R) .no))) (.head (stk aHE 0) [(2,.ref 0 0),(5,.slice 3 (vav us) .no),(6,.ref 1 0),(7,.slice 1 (fv b) (.own 2 0)),(8,ii i)] [.cells 26 c.cs,.cells 34 a.cs,.tail 0 1 123]):=by
 have k:(vav us).length=us.length:=by simp
 have q:(nav c.ns).length=c.ns.length:=by simp
 have n:=j.ns
 intro m
 induction m with
 | zero=>
  intro i b o r d
  rw [Ae o_] at d
  have d:b++[]=R:=d
  rw [Bo] at d
  subst d
  refine gV ?_
  exact zW
 | succ m h=>
  intro i b o r d
  have f:i<us.length:=o_
  have get:=jD f
  rw [Ac f] at d
  generalize us[i]=x at get d
  have d:b++(wV c i x::lA (wV c) (us.drop (i+1)) (i+1))=R:=d
  have h1:=iM c j (i:Int)
  rw [oN] at h1
  have u:=aB5 x a
  have p:(fv b).length=b.length:=by simp
  have next:=h (i+1) (b++[wV c i x]) o_ q_ (by rw [Aj];exact d)
  have e:fv (b++[wV c i x])=fv b++[uu (wV c i x)]:=by simp [fv]
  rw [e] at next
  clear d h
  unfold wV at next
  rw [l] at next
  generalize UO x a=y at *
  cases g:aW c.ns (i:Int) with
  | true=>
   rw [g] at h1
   rw [g,if_pos rfl] at next
   refine gV ?_
   exact zW
  | false=>
   rw [g] at h1
   rw [g,if_neg d_] at next
   refine gV ?_
   exact zW
theorem MD (c:Con) (d:c.sm) (l:List Rn) (hl:l.length<=1048576):aA Tryz.prog 68 [c.av,.slice 14 (rav l) .no] [] (.ret (.slice 1 (fv (wW c l)) .no)) []:=by
 have h1:=SH c d
 have e:=qAa c d l hl
 have b:(ofL c l).length=c.ns.length:=by unfold ofL kR;simp
 unfold wW
 have next:=yZ c d (ofL c l) b (LZ c) rfl (lA (wV c) (ofL c l) 0) (ofL c l).length 0 [] o_ rfl rfl
 generalize lA (wV c) (ofL c l) 0=R at *
 generalize ofL c l=us at *
 generalize LZ c=a at *
 refine cT (E:=(Eo [7] [])) (fn:=Tryz.f68) (g:=.pure _) fun _=>?_
 exact zW
def jB (a:Int) (l:List Pn):Int:=Q2.findP a (l.map Pn.q)
def fO (l:List Pn) (a:Int):List Pn:=if jB a l<0 then l else l.eraseIdx (jB a l).toNat
def oQ (l:List Pn) (p:Pn):List Pn:=l.take (Q2.putAt p.q (l.map Pn.q))++[p]++l.drop (Q2.putAt p.q (l.map Pn.q))
theorem aBs (l:List Pn) (a:Int):(fO l a).map Pn.q=Q2.takeP (l.map Pn.q) a:=by
 unfold fO Q2.takeP jB
 split
 .rfl
 .simp [Ja,Jo,Jp]
theorem XZ (l:List Pn) (p:Pn):(oQ l p).map Pn.q=Q2.putP (l.map Pn.q) p.q:=by
 unfold oQ Q2.putP
 simp [Jo,Jp]
structure Ev where
 (k id n:Int)
 deriving DecidableEq
def Ev.cs (e:Ev):List AVal:=[ii e.k,ii e.id,ii e.n]
def Ev.av (e:Ev):AVal:=.agg e.cs
abbrev evv (l:List Ev):List AVal:=l.map Ev.av
structure Rd where
 s:Sta
 ev:List Ev
 head:Bool
 start:Int
def C0 (r:Rd) (p:Pn) (fl:Int) (hs:List Int):Rd:=
 ⟨{r.s with pend:=fO r.s.pend p.g.id,run:=r.s.run++[⟨p.g,p.seq,p.at',r.s.now,fl,hs⟩]},r.ev++[⟨1,p.g.id,fl⟩],r.head,r.start⟩
def HO (r:Rd) (p:Pn):Option (Int×List Int)->Rd×Bool
 | none=>(r,false)
 | some (fl,hs)=>if (r.head&& !bmB r.s.now p.g r.start)=true then (r,false) else (C0 r p fl hs,true)
def admR (r:Rd) (p:Pn):Rd×Bool:=HO r p (cE r.s.c r.s.run p.g)
def dY (run:List Rn) (r:Rd) (id:Int):Rd:=
 let x:=aU run (bB (fun x=>x.g.id==id) run 0).toNat
 ⟨{r.s with pend:=oQ r.s.pend x.pn},r.ev++[⟨2,id,0⟩],r.head,r.start⟩
def kC (r:Rd) (ids:List Int):Rd:=
 let q:=ids.foldl (dY r.s.run) r
 ⟨{q.s with run:=aC r.s.run ids},q.ev,q.head,q.start⟩
def mV (r:Rd) (p:Pn):Option Int->Rd
 | none=>r
 | some n=>⟨r.s,r.ev++[⟨4,p.g.id,n⟩],true,n⟩
def aEu (r:Rd) (p:Pn):Option (List Int)->Rd
 | some ids=>(admR (kC r ids) p).1
 | none=>mV r p (rQ r.s.c r.s.now r.s.run p.g)
def cO (r:Rd) (p:Pn):Rd:=
 if (admR r p).2=true then (admR r p).1 else if r.head=true then r else aEu r p (fT r.s.c r.s.run p.g)
def nA (a b:Int):Int:=if a<b then -1 else if b<a then 1 else 0
def L4 (c:Con) (h:List Nat) (n:Int):Nat:=(bD c.ns n).foldl (fun x t=>if t<(h.length:Int) then lM x ((h[t.toNat]?).getD 0) else x) 0
def aGV (c:Con) (n:Int):Int:=if 0<=n/\n<(c.ns.length:Int) then max 1 (bT c.ns n).w else 1
def JX (c:Con) (h:List Nat) (n:Int):Nat:=HC (L4 c h n) (ofF (aGV c n))
def JS (c:Con) (h:List Nat) (x y:Int):Int:=if JX c h x<JX c h y then -1 else if JX c h y<JX c h x then 1 else nA x y
def jF (c:Con) (h:List Nat):List Int->List Int->Int
 | [],[]=>0
 | [],_::_=> -1
 | _::_,[]=>1
 | x::p,y::q=>if x=y then jF c h p q else JS c h x y
def uL (c:Con) (now:Int) (p:Pn):Bool:=decide (0<c.age)&&(decide (p.at'<=now)&&decide (c.age<=now-p.at'))
def ptC (s:Sta) (a b:Pn):Int:=jF s.c s.hist (bH s.c.ns a.g.ten) (bH s.c.ns b.g.ten)
def K3 (s:Sta) (a b:Pn):Int:=
 if uL s.c s.now a=true then (if uL s.c s.now b=true then nA a.seq b.seq else -1)
 else if uL s.c s.now b=true then 1 else (if ptC s a b=0 then nA a.seq b.seq else ptC s a b)
def ltP (s:Sta) (a b:Pn):Bool:=decide (K3 s a b<0)
theorem F8 {a b:Int}:nA a b<0↔a<b:=by
 unfold nA
 repeat' split
 all_goals omega
theorem aFI {a b:Int}:nA a b=0↔a=b:=by
 unfold nA
 repeat' split
 all_goals omega
theorem aCs {a b:Int}:0<nA a b↔b<a:=by
 unfold nA
 repeat' split
 all_goals omega
theorem aCw {c:Con} {h:List Nat} {x y:Int}:0<JS c h x y↔JS c h y x<0:=by
 have h1:=aCs (a:=x) (b:=y)
 have d:=F8 (a:=y) (b:=x)
 unfold JS
 repeat' split
 all_goals omega
theorem aFJ {c:Con} {h:List Nat} {x y:Int}:JS c h x y=0↔x=y:=by
 have h1:=aFI (a:=x) (b:=y)
 unfold JS
 constructor
 .intro hz
  repeat' split at hz
  all_goals omega
 .rintro rfl
  rw [if_neg o_,if_neg o_]
  exact h1.2 rfl
theorem LY {c:Con} {h:List Nat}:∀ {p q:List Int},jF c h p q=0↔p=q
 | [],[]=>by simp [jF]
 | [],_::_=>by simp [jF]
 | _::_,[]=>by simp [jF]
 | x::p,y::q=>by
  unfold jF
  by_cases e:x=y
  .rw [if_pos e,LY]
   subst e
   simp
  .rw [if_neg e]
   have:=aFJ (c:=c) (h:=h) (x:=x) (y:=y)
   constructor
   .intro h1;exact absurd (this.1 h1) e
   .intro h1;cases h1;exact absurd rfl e
theorem O6 {c:Con} {h:List Nat}:∀ {p q:List Int},0<jF c h p q↔jF c h q p<0
 | [],[]=>by simp [jF]
 | [],_::_=>by simp [jF]
 | _::_,[]=>by simp [jF]
 | x::p,y::q=>by
  unfold jF
  by_cases e:x=y
  .subst e
   rw [if_pos rfl,if_pos rfl]
   exact O6
  .rw [if_neg e,if_neg (fun h=>e h.symm)]
   exact aCw
theorem aCL (s:Sta) {a b:Pn} (h:a.seq≠b.seq):ltP s a b=true\/ltP s b a=true:=by
 unfold ltP K3
 simp only [decide_eq_true_eq]
 have n1:=F8 (a:=a.seq) (b:=b.seq)
 have n2:=F8 (a:=b.seq) (b:=a.seq)
 have d:=LY (c:=s.c) (h:=s.hist) (p:=bH s.c.ns a.g.ten) (q:=bH s.c.ns b.g.ten)
 have e:=LY (c:=s.c) (h:=s.hist) (p:=bH s.c.ns b.g.ten) (q:=bH s.c.ns a.g.ten)
 have j:=O6 (c:=s.c) (h:=s.hist) (p:=bH s.c.ns a.g.ten) (q:=bH s.c.ns b.g.ten)
 cases i:uL s.c s.now a<;>cases f:uL s.c s.now b<;>simp only [if_true,if_false,reduceIte,Cv]<;>try omega
 unfold ptC
 by_cases z:jF s.c s.hist (bH s.c.ns a.g.ten) (bH s.c.ns b.g.ten)=0
 .rw [if_pos z,if_pos (e.2 (d.1 z).symm)]
  omega
 .rw [if_neg z,if_neg (fun h=>z (d.2 (e.1 h).symm))]
  omega
def VV (h:List Nat) (x:Nat) (t:Int):Nat:=if t<(h.length:Int) then lM x ((h[t.toNat]?).getD 0) else x
theorem PC {h:List Nat} {x:Nat} {t:Int} (a:x<18446744073709551616):VV h x t<18446744073709551616:=by
 unfold VV
 split
 .exact yC _ _
 .exact a
theorem aBv (c:Con) (h:List Nat) (n:Int):L4 c h n<18446744073709551616:=by
 have go:∀ (l:List Int) (x:Nat),x<18446744073709551616->l.foldl (VV h) x<18446744073709551616:=fun l=>by
  induction l with
  | nil=>exact fun x b=>b
  | cons a l d=>exact fun x b=>d _ (PC b)
 exact go _ _ d_
noncomputable abbrev Q5:Func:=Tryz.f300
theorem NQ (h:List Nat) (g:LtF h) (hl:h.length<=1048576) (l:List Int) (k:∀ t∈l,0<=t) (o:l.length<=1048576) (R:Nat):∀ (m i x:Nat),i+m=l.length->x<18446744073709551616->(l.drop i).foldl (VV h) x=R->
  To E Q5 (.pure (.ret (uu R))) (.head (stk Q5 0) [(1,.slice 1 (fv h) .no),(7,uu x),(8,.slice 1 (iv l) .no),(9,ii i)] []):=by
 have f:(iv l).length=l.length:=by simp
 have n:(fv h).length=h.length:=by simp
 intro m
 induction m with
 | zero=>
  intro i x j d a
  rw [Ae o_] at a
  have a:x=R:=a
  subst a
  refine gV ?_
  exact zW
 | succ m e=>
  intro i x j d a
  have b:i<l.length:=o_
  have get:=cH b
  have p:=k _ (Bf b)
  rw [Ac b,Al] at a
  have next:=e (i+1) _ o_ (PC d) a
  clear a e
  generalize l[i]=t at *
  unfold VV at next
  by_cases h1:t<(h.length:Int)
  .rw [if_pos h1] at next
   have c:t.toNat<h.length:=o_
   have r:t=(t.toNat:Int):=o_
   have q:=Z1 c
   have hz:=g _ (Bf c)
   rw [Aa c] at next
   have next:To E Q5 (.pure (.ret (uu R))) (.head (stk Q5 0) [(1,.slice 1 (fv h) .no),(7,uu (lM x h[t.toNat])),(8,.slice 1 (iv l) .no),(9,ii ((i:Int)+1))] []):=next
   generalize h[t.toNat]=z at *
   have s:=jM x z d hz
   generalize lM x z=y at *
   refine gV ?_
   exact zW
  .rw [if_neg h1] at next
   refine gV ?_
   exact zW
theorem aAg (c:Con) (e:c.sm) (h:List Nat) (j:LtF h) (hl:h.length<=1048576) (n:Int):aA Tryz.prog 300 [c.av,.slice 1 (fv h) .no,ii n] [] (.ret (uu (L4 c h n))) []:=by
 have k:=uH c e n
 have d:∀ t∈bD c.ns n,0<=t:=fun t i=>(iC c n t i).1
 have b:(bD c.ns n).length<=1048576:=mM c e n
 have next:=NQ h j hl (bD c.ns n) d b (L4 c h n) (bD c.ns n).length 0 0 o_ d_ rfl
 generalize L4 c h n=R at *
 generalize bD c.ns n=l at *
 have a:(iv l).length=l.length:=by simp
 try rw [<-a] at next
 exact c_ Tryz.f300 fun _=>zW
end Go.Proofs.YticlgfdibfobdaaGreat
namespace Go.AW
open Go.RowKit
def FH:List (Nat×AVal)->List (Nat×AVal)
 | []=>[]
 | (i,v)::r=>(i,strip 5 v)::FH r
theorem yT {M:Imm} {ob:Hs} {v:Value} {t:Nat}:∀ (fr:List (Nat×AVal)),Rep M ob v (aZ fr t)->Rep M ob v (aZ (FH fr) t)
 | [],h=>h
 | (i,x)::r,h=>by
  simp only [aZ,FH] at h⊢
  cases a:Ap i t with
  | true=>rw [a] at h;exact qA 5 h
  | false=>rw [a] at h;exact yT r h
theorem To.looseF {E:Env} {fn:Func} {g:Goal} {st:List KI} {fr:List (Nat×AVal)} {obs:List AObj} (h:To E fn g (.head st (FH fr) obs)):To E fn g (.head st fr obs):=
 .mk fun d M0 ob0 b w0 a w hst hs=>by
  refine h.rec fun h=>h d M0 ob0 b w0 a w hst ?_
  obtain ⟨M,ob,f,hm,c,j,i,e⟩:=hs
  exact ⟨M,ob,f,hm,fun t=>yT fr (c t),j,i,e⟩
end Go.AW
namespace Go.Proofs.YticlgfdibfobdaaGreat
open Go Go.AW Go.Proofs
set_option maxRecDepth 10000
theorem DI (c:Con) (b:c.sm) (h:List Nat) (e:LtF h) (hl:h.length<=1048576) (n:Int):aA Tryz.prog 268 [c.av,.slice 1 (fv h) .no,ii n] [] (.ret (uu (JX c h n))) []:=by
  have h1:=aAg c b h e hl n
  have l1:=aBv c h n
  have i:=b.ns
  have k:(nav c.ns).length=c.ns.length:=by simp
  unfold JX
  unfold aGV at *
  by_cases d:0<=n/\n<(c.ns.length:Int)
  .rw [if_pos d]
   have a:n.toNat<c.ns.length:=o_
   have j:n=(n.toNat:Int):=o_
   have get:=tC (c:=c) (n:=n) ⟨by omega,a⟩
   generalize bT c.ns n=x at *
   have l:=zL (max 1 x.w)
   have l2:=ND (max 1 x.w)
   generalize L4 c h n=p at *
   generalize ofF (max 1 x.w)=q at *
   have h3:=DM p q l1 l2
   generalize HC p q=r at *
   exact zqda5
  .rw [if_neg d]
   have l:=zL 1
   have l2:=ND 1
   generalize L4 c h n=p at *
   generalize ofF 1=q at *
   have h3:=DM p q l1 l2
   generalize HC p q=r at *
   by_cases m:0<=n
   .exact zqda5
   .exact zqda5
theorem IM (c:Con) (now:Int) (p:Pn) (l:0<=now/\now<=1099511627776) (hp:0<=p.at') (m:c.age<=9223372036854775807) (r:Bool) (a:uL c now p=r):aA Tryz.prog 210 [c.av,ii now,p.av] [] (.ret (.bool r)) []:=by
  unfold uL at a
  have j:IntKind.wrap .u64 now=now:=by rw [wu];omega
  by_cases e:0<c.age
  .by_cases i:p.at'<=now
   .have k:now-p.at'=((now-p.at').toNat:Int):=o_
    rw [decide_eq_true e,decide_eq_true i,Cd,Cd] at a
    by_cases d:c.age<=now-p.at'
    .rw [decide_eq_true d] at a
     subst a
     refine c_ Tryz.f210 fun _=>?_
     repeat' first | (refine gN hE ?_;conv=>whnf) | exact rfl | refine aY ?_ | refine aN ?_ | refine aT fun h=>?_ | refine aF fun h=>?_ | refine ⟨fun h=>?_,fun h=>?_⟩ | refine aJ ?_ | refine ⟨_,rfl,?_⟩ | refine aD ?_ | fail
     all_goals exact congrArg (fun b=>Res.ret (AVal.bool b)) (decide_eq_true d)
    .rw [decide_eq_false d] at a
     subst a
     refine c_ Tryz.f210 fun _=>?_
     repeat' first | (refine gN hE ?_;conv=>whnf) | exact rfl | refine aY ?_ | refine aN ?_ | refine aT fun h=>?_ | refine aF fun h=>?_ | refine ⟨fun h=>?_,fun h=>?_⟩ | refine aJ ?_ | refine ⟨_,rfl,?_⟩ | refine aD ?_ | fail
     all_goals exact congrArg (fun b=>Res.ret (AVal.bool b)) (decide_eq_false d)
   .rw [decide_eq_false i,Ct,Bn] at a
    subst a
    exact c_ Tryz.f210 fun _=>zW
  .rw [decide_eq_false e,Ct] at a
   subst a
   exact c_ Tryz.f210 fun _=>zW
structure OrdOK (s:Sta):Prop where
 sm:s.c.sm
 few:s.c.ns.length<=12
 lt:LtF s.hist
 hl:s.hist.length<=1048576
 now:0<=s.now/\s.now<=1099511627776
 age:s.c.age<=9223372036854775807
theorem aDQ (s:Sta) (a b:Pn):K3 s a b=if uL s.c s.now a=true then (if uL s.c s.now b=true then nA a.seq b.seq else -1) else if uL s.c s.now b=true then 1 else orI (ptC s a b) (nA a.seq b.seq):=by
 unfold K3 orI
 rfl
theorem VK {c:Con} {h:List Nat}:∀ {p q:List Int},(p=[]\/q=[])->jF c h p q=nA p.length q.length
 | [],[],_=>rfl
 | [],_::_,_=>by simp [jF,nA]
 | _::_,[],_=>by
  show (1:Int)=nA _ _
  unfold nA
  rw [if_neg (by simp<;>omega),if_pos (by simp<;>omega)]
 | _::_,_::_,h=>by rcases h with h | h<;>cases h
theorem zG (a b r:Int) (c:nA a b=r):aA Tryz.prog 212 [ii a,ii b] [] (.ret (ii r)) []:=by
 unfold nA at c
 by_cases h1:a<b
 .rw [if_pos h1] at c
  exact zqda3
 .rw [if_neg h1] at c
  by_cases d:b<a
  .rw [if_pos d] at c
   exact zqda3
  .rw [if_neg d] at c
   exact zqda3
noncomputable abbrev aDi:Func:=Tryz.f211
theorem VJ (s:Sta) (h:OrdOK s) (p q:List Int) (hp:p.length<=12) (z:q.length<=12) (R:Int):∀ (m i:Nat),i+m=min p.length q.length->jF s.c s.hist (p.drop i) (q.drop i)=R->
  To E aDi (.pure (.ret (ii R))) (.head (stk aDi 0) [(3,.ref 0 0),(7,.slice 1 (iv p) .no),(8,.slice 1 (iv q) .no),(9,ii i)] [.cells 31 s.cs]):=by
 have g:(iv p).length=p.length:=by simp
 have f:(iv q).length=q.length:=by simp
 intro m
 induction m with
 | zero=>
  intro i r a
  have v:p.drop i=[]\/q.drop i=[]:=by
   rcases Nat.le_total p.length q.length with h | h
   .exact .inl (Ae o_)
   .exact .inr (Ae o_)
  rw [VK v,Fo,Fo] at a
  have h1:nA (iv p).length (iv q).length=R:=by
   rw [<-a,g,f]
   unfold nA
   repeat' split
   all_goals omega
  have u:=zG _ _ _ h1
  by_cases b:i<p.length
  .refine gV ?_
   exact zW
  .refine gV ?_
   exact zW
 | succ m j=>
  intro i r a
  have b:i<p.length:=o_
  have d:i<q.length:=o_
  have A:=cH b
  have w:=cH d
  have next:=j (i+1) o_
  rw [Ac b,Ac d] at a
  have n:jF s.c s.hist (p[i]::p.drop (i+1)) (q[i]::q.drop (i+1))=if p[i]=q[i] then jF s.c s.hist (p.drop (i+1)) (q.drop (i+1)) else JS s.c s.hist p[i] q[i]:=rfl
  rw [n] at a
  clear n j
  generalize p[i]=x at *
  generalize q[i]=y at *
  by_cases e:x=y
  .rw [if_pos e] at a
   have o:(x==y)=true:=by rw [e];simp
   have next:=next a
   refine gV ?_
   exact zW
  .rw [if_neg e] at a
   have o:(x==y)=false:=by simpa using e
   have h1:=DI s.c h.sm s.hist h.lt h.hl x
   have B:=DI s.c h.sm s.hist h.lt h.hl y
   unfold JS at a
   clear next
   generalize JX s.c s.hist x=l1 at *
   generalize JX s.c s.hist y=l2 at *
   by_cases l:l1<l2
   .rw [if_pos l] at a
    subst a
    refine gV ?_
    exact zW
   .rw [if_neg l] at a
    by_cases k:l2<l1
    .rw [if_pos k] at a
     subst a
     refine gV ?_
     exact zW
    .rw [if_neg k] at a
     have u:=zG _ _ _ a
     refine gV ?_
     exact zW
theorem aEW (s:Sta) (h:OrdOK s) (x y:Int):aA Tryz.prog 211 [s.av,ii x,ii y] [] (.ret (ii (jF s.c s.hist (bH s.c.ns x) (bH s.c.ns y)))) []:=by
 have d:=oM s.c h.sm x
 have b:=oM s.c h.sm y
 have l1:=Cs (lU s.c.ns x) h.few
 have l2:=Cs (lU s.c.ns y) h.few
 have a:=VJ s h (bH s.c.ns x) (bH s.c.ns y) l1 l2 _ _ 0 (Bp _) rfl
 have a:To E aDi (.pure (.ret (ii (jF s.c s.hist (bH s.c.ns x) (bH s.c.ns y))))) (.head (stk aDi 0) [(3,.ref 0 0),(7,.slice 1 (iv (bH s.c.ns x)) .no),(8,.slice 1 (iv (bH s.c.ns y)) .no),(9,ii 0)] [.cells 31 s.cs]):=a
 generalize jF s.c s.hist (bH s.c.ns x) (bH s.c.ns y)=R at *
 generalize bH s.c.ns x=p at *
 generalize bH s.c.ns y=q at *
 exact c_ Tryz.f211 fun _=>zW
theorem XO (s:Sta) (h:OrdOK s) (a b:Pn) (n:0<=a.at') (m:0<=b.at') (R:Int) (d:K3 s a b=R):aA Tryz.prog 143 [s.av,a.av,b.av] [] (.ret (ii R)) []:=by
 have k:=IM s.c s.now a h.now n h.age _ rfl
 have j:=IM s.c s.now b h.now m h.age _ rfl
 have hs:=zG a.seq b.seq _ rfl
 rw [aDQ] at d
 cases h1:uL s.c s.now a with
 | true=>
  rw [h1] at k d
  rw [if_pos rfl] at d
  cases i:uL s.c s.now b with
  | true=>
   rw [i] at j d
   rw [if_pos rfl] at d
   rw [d] at hs
   exact zqda1
  | false=>
   rw [i] at j d
   rw [if_neg d_] at d
   subst d
   exact zqda1
 | false=>
  rw [h1] at k d
  rw [if_neg d_] at d
  cases i:uL s.c s.now b with
  | true=>
   rw [i] at j d
   rw [if_pos rfl] at d
   subst d
   exact zqda1
  | false=>
   rw [i] at j d
   rw [if_neg d_] at d
   have o:=aEW s h a.g.ten b.g.ten
   have e:ptC s a b=jF s.c s.hist (bH s.c.ns a.g.ten) (bH s.c.ns b.g.ten):=rfl
   rw [e] at d
   generalize jF s.c s.hist (bH s.c.ns a.g.ten) (bH s.c.ns b.g.ten)=t at *
   unfold orI at d
   by_cases hz:t=0
   .rw [if_pos hz] at d
    rw [d] at hs
    have l:(t !=0)=false:=by rw [hz];rfl
    exact zqda1
   .rw [if_neg hz] at d
    rw [d] at *
    have l:(R !=0)=true:=by simpa using hz
    exact zqda1
def uK (s:Sta):List Pn:=srt (ltP s) s.pend
noncomputable abbrev fRS:Func:=Tryz.f71
abbrev rsF (out:List Pn) (i:Int):List (Nat×AVal):=[(1,.ref 0 0),(3,.slice 11 (pnv out) .no),(4,ii i)]
abbrev rsO (s:Sta):List AObj:=[.cells 31 s.cs]
theorem aCS {x y:Pn} {s:Sta} {out:List Pn} {k:Nat} (h:out[k]? =some y):GL (ltP s) x out (k+1)=if ltP s x y=true then GL (ltP s) x out k else k+1:=by
 simp only [GL,h]
theorem aG3 (s:Sta) (h:OrdOK s) (o:∀ p∈s.pend,0<=p.at') (R:AVal) (x:Pn) (i:Nat) (u:i<1048576) (d:(pnv s.pend)[i]? =some x.av) (r:0<=x.at') (out:List Pn) (w:out.length<=1048576) (f:∀ p∈out,0<=p.at')
  (next:∀ K:Nat,K<=out.length->K=GL (ltP s) x out out.length->To (Er [] [45,46,47]) fRS (.pure (.ret R)) (.head (stk fRS 0) [(1,.ref 0 0),(3,.slice 11 ((pnv out).take K++[x.av]++(pnv out).drop K) .no),(4,ii ((i:Int)+1))] (rsO s))):∀ (k:Nat),k<=out.length->GL (ltP s) x out out.length=GL (ltP s) x out k->
  To (Er [] [45,46,47]) fRS (.pure (.ret R)) (.head (stk fRS 1) (rsF out i++[(5,ii k)]) (rsO s)):=by
 have n:(pnv out).length=out.length:=by simp
 intro k
 induction k with
 | zero=>
  intro j b
  have next:=next 0 (Bt _) (by rw [b];rfl)
  have t:(Fv 0 (pnv out)).length=0:=by simp
  refine gV ?_
  repeat' first | (refine gN (hEr [] [45,46,47]) ?_;conv=>whnf) | refine Aw 0 (Ad o_ ?_) | refine ⟨i,rfl,?_⟩ | refine ⟨_,d,?_⟩ | refine ⟨⟨by simp only [maxLen];simp;omega,by simp;omega⟩,?_⟩ | refine Ad (Ad (by simp [maxLen]) s_) ?_ | exact rfl | refine aY ?_ | refine aN ?_ | refine aT fun h=>?_ | refine aF fun h=>?_ | refine ⟨fun h=>?_,fun h=>?_⟩ | refine aJ ?_ | refine ⟨_,rfl,?_⟩ | refine aD ?_ | fail
  exact zW
 | succ k q=>
  intro j b
  have a:k<out.length:=o_
  have l:=sZ a
  have c:=f _ (Bf a)
  rw [aCS (Aa a)] at b
  have m:=XO s h x out[k] r c _ rfl
  have g:((k+1:Nat):Int)-1=((k:Nat):Int):=o_
  by_cases hl:K3 s x out[k]<0
  .have e:ltP s x out[k]=true:=decide_eq_true hl
   rw [if_pos e] at b
   have next:=q o_ b
   generalize out[k]=y at *
   generalize K3 s x y=v at *
   refine gV ?_
   repeat' first | (refine gN (hEr [] [45,46,47]) ?_;conv=>whnf) | refine ⟨i,rfl,?_⟩ | refine Aw k (Ad o_ ?_) | refine ⟨_,d,?_⟩ | refine ⟨_,l,?_⟩ | refine .pure _ [] m ?_ | exact rfl | refine aY ?_ | refine aN ?_ | refine aT fun h=>?_ | refine aF fun h=>?_ | refine ⟨fun h=>?_,fun h=>?_⟩ | refine aJ ?_ | refine ⟨_,rfl,?_⟩ | refine aD ?_ | fail
   rw [g]
   exact zW
  .have e:ltP s x out[k]=false:=decide_eq_false hl
   rw [if_neg (by rw [e];decide)] at b
   have next:=next (k+1) j b.symm
   generalize out[k]=y at *
   generalize K3 s x y=v at *
   refine gV ?_
   repeat' first | (refine gN (hEr [] [45,46,47]) ?_;conv=>whnf) | refine Aw (k+1) (Ad rfl ?_) | refine ⟨i,rfl,?_⟩ | refine Aw k (Ad o_ ?_) | refine ⟨_,d,?_⟩ | refine ⟨_,l,?_⟩ | refine .pure _ [] m ?_ | refine ⟨⟨by simp only [maxLen];simp;omega,by simp;omega⟩,?_⟩ | refine Ad (Ad (by simp only [cL];omega) (by simp only [bI];omega)) ?_ | exact rfl | refine aY ?_ | refine aN ?_ | refine aT fun h=>?_ | refine aF fun h=>?_ | refine ⟨fun h=>?_,fun h=>?_⟩ | refine aJ ?_ | refine ⟨_,rfl,?_⟩ | refine aD ?_ | fail
   exact zW
theorem aFd (s:Sta) (h:OrdOK s) (hl:s.pend.length<=1000000) (d:∀ p∈s.pend,0<=p.at') (R:List Pn):∀ (m i:Nat) (out:List Pn),i+m=s.pend.length->out.length=i->(∀ p∈out,0<=p.at')->(s.pend.drop i).foldl (GM (ltP s)) out=R->
  To (Er [] [45,46,47]) fRS (.pure (.ret (.slice 11 (pnv R) .no))) (.head (stk fRS 0) (rsF out i) (rsO s)):=by
 have n:(pnv s.pend).length=s.pend.length:=by simp
 intro m
 induction m with
 | zero=>
  intro i out q t c a
  rw [Ae o_] at a
  have a:out=R:=a
  subst a
  refine gV ?_
  exact zW
 | succ m o=>
  intro i out q t c a
  have b:i<s.pend.length:=o_
  rw [Ac b,Al] at a
  have l:=sZ b
  have j:=d _ (Bf b)
  generalize s.pend[i]=x at a l j
  have k:(pnv out).length=out.length:=by simp
  have hp:=D7 (ltP s) out x
  have g:=aG3 s h d (.slice 11 (pnv R) .no) x i o_ l j out o_ c (fun K r u=>by
   have e:(pnv out).take K++[x.av]++(pnv out).drop K=pnv (GM (ltP s) out x):=by unfold GM;rw [<-u];simp
   rw [e]
   exact o (i+1) (GM (ltP s) out x) o_ (by have:=hp.length_eq;simp at this;omega) (fun p f=>by
    rcases Ao.1 (hp.mem_iff.1 f) with rfl | f
    .exact j
    .exact c p f) a) out.length (Bg _) rfl
  refine gV ?_
  refine aT fun h=>?_
  rw [<-k] at g
  exact zW
theorem WM (s:Sta) (h:OrdOK s) (hl:s.pend.length<=1000000) (a:∀ p∈s.pend,0<=p.at'):aA Tryz.prog 71 [s.av] [] (.ret (.slice 11 (pnv (uK s)) .no)) []:=by
 refine cT (E:=(Er [] [45,46,47])) (fn:=Tryz.f71) (g:=.pure _) fun _=>?_
 refine gV ?_
 refine To.part [1,3,4] [0] rfl rfl rfl ?_
 refine To.looseF ?_
 exact aFd s h hl a (uK s) s.pend.length 0 [] o_ rfl (fun p hp=>by cases hp) rfl
def aIv (l:List Pn):Prop:=∀ p∈l,0<=p.at'
end Go.Proofs.YticlgfdibfobdaaGreat
