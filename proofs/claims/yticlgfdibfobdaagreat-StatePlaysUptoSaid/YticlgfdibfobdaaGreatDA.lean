/-
  Fix numbers, usage, who comes first, as walks.
-/
import Derived.Test.YticlgfdibfobdaaGreatCA
set_option linter.all false
set_option maxHeartbeats 1000000
open And renaming intro->Aa
open Bool renaming and_false->Bt,false_and->Cj,false_eq_true->Ct,true_and->Bo
open Exists renaming intro->Ah
open Int renaming fdiv->Kh,fdiv_eq_ediv_of_nonneg->Gy,natCast_mul->Dy,tdiv->Hd,toNat->Cv,toNat_natCast->Cz
open List renaming append_assoc->Aj,append_nil->Bc,cons_append->Cm,dropLast_concat_getLast->Km,drop_eq_getElem_cons->Ac,drop_eq_nil_of_le->Ae,drop_sublist->Hy,eraseIdx_eq_take_drop_succ->Ey,foldl_cons->Al,getElem?_append_left->Af,getElem?_append_right->Ak,getElem?_cons_succ->Eu,getElem?_eq_getElem->Ab,getElem?_eq_some_iff->Ad,getElem?_map->Bj,getElem?_set_ne->Aw,getElem?_set_self->Ap,getElem_mem->Bb,getElem_of_mem->Gn,length_append->Ay,length_cons->Bq,length_drop->Fh,length_eq_one_iff->Lq,length_eq_zero_iff->Bl,length_map->Ck,length_pos_iff->Gp,length_reverse->Ip,length_set->Dp,map_append->Cc,map_cons->Bp,map_drop->Hu,map_set->Gc,map_take->Ht,mem_append->Az,mem_append_left->Dr,mem_append_right->De,mem_cons->Au,mem_cons_of_mem->Bd,mem_cons_self->Ax,mem_of_getElem?->Aq,mem_range->Ji,mem_singleton->Du,mem_singleton_self->Jc,nil_append->Bm,pairwise_append->Bz,pairwise_cons->Br,pairwise_singleton->Jb,perm_append_comm->Dl,perm_middle->Ej,prefix_refl->Cl,range->Dh,set_append_right->Hw,take->Et,take_append_drop->Bk,take_length->Il,take_sublist->Hx,take_succ_eq_append_getElem->Hc
open List.Pairwise renaming imp->Jh,nil->Jg,sublist->Fx
open List.Perm renaming append_left->Dk,append_right->Dq,refl->Fb
open Nat renaming add_assoc->Kb,add_comm->Mo,add_mul->Bx,add_sub_cancel->Gx,add_zero->Em,beq->Ar,blt->Fi,blt_eq->Jt,div_add_mod->Fu,div_div_eq_div_mul->Jf,div_eq_of_lt->Jr,div_le_self->Di,div_lt_iff_lt_mul->Dd,div_mul_le_self->Gm,div_one->Ho,eq_zero_or_pos->Fm,le_add_right->Ik,le_div_iff_mul_le->Ha,le_refl->Ba,le_trans->Co,lt_of_le_of_lt->Iz,lt_of_lt_of_le->Ef,lt_or_ge->Mp,lt_trans->Mq,min_eq_left->Hq,mod_le->Kx,mod_lt->Dz,mul_add_div->Iy,mul_assoc->Gr,mul_comm->Dj,mul_div_mul_right->Jp,mul_le_mul->Fa,mul_le_mul_right->Cd,mul_right_comm->Kw,one_mul->Ge,pow_add->Ib,pow_le_pow_right->Hf,pow_pos->Kf,strongRecOn->Ly,testBit_two_pow->Kt,two_pow_add_eq_or_of_lt->Hz,zero_add->Bw,zero_le->Cn,zero_mul->Kv
open Or renaming inl->Fo,inr->Js
open UInt8 renaming ofNat->Mg
namespace Go.Proofs.YticlgfdibfobdaaGreat
open Go Go.AW Go.Proofs
theorem zqda0 {P:Prop} (h:P:=by
 refine gV ?_
 rw [e]
 refine aJ ?_
 refine gV ?_
 refine aF fun h=>?_
 refine gV ?_
 rw [g]
 refine aJ ?_
 refine gV ?_
 rw [k]
 refine aJ ?_
 refine gV ?_
 refine .pure _ [] m ?_
 refine gV ?_
 rw [o]
 refine aJ ?_
 refine gV ?_
 refine .pure _ [] l ?_
 refine gV ?_
 rw [j]
 refine aJ ?_
 refine gV ?_
 refine Aa d_ ?_
 refine gV ?_
 rw [n]
 exact zW):P:=h
theorem zqda1 {P:Prop} (h:P:=by
 refine gV ?_
 refine aT fun h=>?_
 refine gV ?_
 refine Aa (Aa d_ d_) ?_
 refine gV ?_
 rw [g]
 refine aJ ?_
 refine gV ?_
 refine Aa o_ ?_
 refine gV ?_
 rw [d]
 refine Fo (Aa (Aa (show Cv (k:Int)<=64 by omega) (Aa (by simp only [bO];omega) (by simp only [bA];omega))) ?_)
 refine gV ?_
 rw [a]
 exact zW):P:=h
theorem zqda2 {P:Prop} (h:P:=by
 dsimp only [bL] at next⊢
 generalize pnv L=K at *
 refine gV ?_
 exact zW):P:=h
theorem zqda3 {P:Prop} (h:P:=by
 subst c
 refine c_ Tryz.f286 fun _=>?_
 have hz1:=fun d=>IR d
 exact zW):P:=h
theorem zqda4 {P:Prop} (h:P:=by
 exact c_ Tryz.f188 fun _=>zW):P:=h
theorem zqda5 {P:Prop} (h:P:=by
 exact c_ Tryz.f143 fun _=>zW):P:=h
theorem zqda6 {P:Prop} (h:P:=by
 rw [Ae o_] at b
 have b:a++[]=R:=b
 rw [Bc] at b
 subst b
 refine gV ?_
 exact zW):P:=h
theorem zqda7 {P:Prop} (h:P:=by
 refine cT (E:=(Er [] [61,63,64,65,113,115,116,117])) (fn:=Tryz.f289) (g:=.full 1 _ _) fun _=>?_
 exact zW):P:=h
theorem zqda8 {P:Prop} (h:P:=by
 refine cD hE 2 ?_;conv=>whnf
 exact To.cutC [5,6,7,8] 0 rfl rfl rfl rfl tail):P:=h
theorem zqda9 {P:Prop} (h:P:=by
 have e:fv (a++[y])=fv a++[uu y]:=by simp [fv]
 rw [e] at next
 have k:(fv a).length=a.length:=by simp
 refine gV ?_
 exact zW):P:=h
theorem zqda10 {P:Prop} (h:P:=by
 subst c
 exact c_ Tryz.f212 fun _=>zW):P:=h
theorem zqda11 {P:Prop} (h:P:=by
 exact c_ Tryz.f209 fun _=>zW):P:=h
theorem zqda12 {P:Prop} (h:P:=by
 exact c_ Tryz.f268 fun _=>zW):P:=h
theorem zqda13 {P:Prop} (h:P:=by
 generalize fY p.length q.length=t at *
 generalize fY a.seq b.seq=u at *
 refine gV ?_
 exact zW):P:=h
theorem zqda14 {P:Prop} (h:P:=by
 exact c_ Tryz.f299 fun _=>zW):P:=h
theorem zqda15 {P:Prop} (h:P:=by
 refine cD hE 2 ?_;conv=>whnf
 exact To.cutC [2,8,9,10,11,13,14,15,16,17,18] 0 rfl rfl rfl rfl fin):P:=h
theorem zqda16 {P:Prop} (h:P:=by
 refine cD hE 3 ?_;conv=>whnf
 exact To.cutC [2,8,9,10,11,13,14,15,16,17,18] 0 rfl rfl rfl rfl step):P:=h
theorem zqda17 {P:Prop} (h:P:=by
 rcases Nat.le_total p.length q.length with h | h
 .exact .inl (Ae o_)
 .exact .inr (Ae o_)):P:=h
theorem zqda18 {P:Prop} (h:P:=by
 refine cD hE 2 ?_;conv=>whnf
 exact To.cutC [2,8,9,10,11,13,14,15,16] 0 rfl rfl rfl rfl fin):P:=h
theorem zqda19 {P:Prop} (h:P:=by
 refine cD hE 3 ?_;conv=>whnf
 exact To.cutC [2,8,9,10,11,13,14,15,16] 0 rfl rfl rfl rfl step):P:=h
theorem zqda20 {P:Prop} (h:P:=by
 intro i x k d a
 rw [Ae o_] at a
 have a:x=R:=a
 subst a
 refine gV ?_
 exact zW):P:=h
theorem zqda21 {P:Prop} (h:P:=by
 exact To.cutC [0,1,5,6,7,8] 0 rfl rfl rfl rfl tail):P:=h
theorem zqda22 {P:Prop} (h:P:=by
 intro i v g a
 rw [Ae o_] at a
 have a:v=r:=a
 subst a
 refine gV ?_
 exact zW):P:=h
theorem zqda23 {P:Prop} (h:P:=by
 exact c_ Tryz.f287 fun _=>zW):P:=h
theorem zqda24 {P:Prop} (h:P:=by
 subst a
 exact c_ Tryz.f240 fun _=>zW):P:=h
theorem zqda25 {P:Prop} (h:P:=by
 refine cD hE 7 ?_;conv=>whnf
 exact To.cutC [0,1,5,6,7,8] 0 rfl rfl rfl rfl l):P:=h
theorem zqda26 {P:Prop} (h:P:=by
 unfold Z1 at next
 generalize dL v x.c=w at e next
 refine gV ?_
 exact zW):P:=h
theorem AI {a b A B:Nat} (d:a<=A) (c:b<=B):a*b<=A*B:=Fa d c
theorem XV (x y:Nat) (h:x<18446744073709551616) (i:y<18446744073709551616):
  ∃ a b c d:Nat,a=x % 4294967296*(y % 4294967296)/\b=x / 4294967296*(y % 4294967296)/\c=x % 4294967296*(y / 4294967296)/\d=x / 4294967296*(y / 4294967296)/\
   a<=18446744065119617025/\b<=18446744065119617025/\c<=18446744065119617025/\d<=18446744065119617025/\x*y=d*18446744073709551616+(b+c)*4294967296+a:=by
 refine ⟨_,_,_,_,rfl,rfl,rfl,rfl,AI (A:=4294967295) (B:=4294967295) o_ o_,AI (A:=4294967295) (B:=4294967295) o_ o_,AI (A:=4294967295) (B:=4294967295) o_ o_,AI (A:=4294967295) (B:=4294967295) o_ o_,?_⟩
 have g:x=x / 4294967296*4294967296+x % 4294967296:=o_
 have f:y=y / 4294967296*4294967296+y % 4294967296:=o_
 generalize x / 4294967296=p at *
 generalize x % 4294967296=q at *
 generalize y / 4294967296=r at *
 generalize y % 4294967296=s at *
 subst g f
 simp only [Bx,Nat.mul_add]
 have h1:p*4294967296*(r*4294967296)=p*r*18446744073709551616:=by
  rw [Nat.mul_mul_mul_comm]
 have e:p*4294967296*s=p*s*4294967296:=Kw ..
 have h3:q*(r*4294967296)=q*r*4294967296:=(Gr ..).symm
 rw [h1,e,h3]
 omega
def MS (x y:Nat):Nat:=x*y / 18446744073709551616
def CM (x y:Nat):Nat:=x*y % 18446744073709551616
theorem aFs {x y a b c d:Nat} (h:x*y=d*18446744073709551616+(b+c)*4294967296+a) (g:a<=18446744065119617025) (e:b<=18446744065119617025) (f:c<=18446744065119617025):
  d+(b+a / 4294967296) / 4294967296+((b+a / 4294967296) % 4294967296+c) / 4294967296=MS x y:=by
 unfold MS
 rw [h]
 omega
abbrev uu (n:Nat):AVal:=.int .u64 (n:Int)
def pN (n:Nat):Nat:=if n<18446744073709551616 then n else 18446744073709551615
def iR (a b:Nat):Nat:=pN (a+b)
def iX (a b:Nat):Nat:=pN (a*b / 4294967296)
def ofF (n:Int):Nat:=if n<=0 then 0 else if n<4294967296 then n.toNat*4294967296 else 18446744073709551615
def qZ (a b:Nat):Nat:=if a=0 then 0 else if b=0 then 18446744073709551615 else pN (a*4294967296 / b)
def sK (a b:Int):Nat:=qZ (max a 0).toNat (max b 0).toNat
theorem H1 (n:Nat):pN n<18446744073709551616:=by unfold pN;split<;>omega
theorem A0 (a b:Nat):iR a b<18446744073709551616:=H1 _
theorem vJ (a b:Nat):iX a b<18446744073709551616:=H1 _
theorem aGC (a b:Nat):qZ a b<18446744073709551616:=by
 unfold qZ
 repeat' split
 .omega
 .omega
 .exact H1 _
theorem xD (n:Int):ofF n<18446744073709551616:=by
 unfold ofF
 repeat' split
 all_goals omega
theorem aJZ {a b:Nat} (d:0<b) (h:b<=a / 4294967296):pN (a*4294967296 / b)=18446744073709551615:=by
 have h1:b*4294967296<=a:=o_
 have c:18446744073709551616*b<=a*4294967296:=o_
 have h3:18446744073709551616<=a*4294967296 / b:=(Ha d).2 c
 exact if_neg (Nat.not_lt.2 h3)
theorem aJY {a b:Nat} (d:a / 4294967296<b):a*4294967296 / b<18446744073709551616/\pN (a*4294967296 / b)=a*4294967296 / b:=by
 have c:a*4294967296<18446744073709551616*b:=o_
 have h3:a*4294967296 / b<18446744073709551616:=(Dd o_).2 c
 exact ⟨h3,if_pos h3⟩
theorem aE0 {a b ah d c bl:Nat} (g:a=ah*4294967296+d) (h:b=c*4294967296+bl) (j:d<4294967296) (i:bl<4294967296):
  a*b / 4294967296=ah*c*4294967296+ah*bl+d*c+d*bl / 4294967296:=by
 have e:a*b=(ah*c*4294967296+ah*bl+d*c)*4294967296+d*bl:=by
  subst g h
  simp only [Bx,Nat.mul_add]
  have h1:ah*4294967296*(c*4294967296)=ah*c*4294967296*4294967296:=by
   rw [Nat.mul_mul_mul_comm,Gr (ah*c)]
  have f:ah*4294967296*bl=ah*bl*4294967296:=Kw ..
  have h3:d*(c*4294967296)=d*c*4294967296:=(Gr ..).symm
  rw [h1,f,h3]
  omega
 rw [e]
 omega
theorem aA9 {ah a:Nat} (b:0<a):(18446744073709551615 / a / 4294967296<ah)↔4294967296<=ah*a:=by
 rw [Jf,Dd (Nat.mul_pos b d_),<-Gr]
 generalize ah*a=x
 omega
theorem aDE (A i:Nat):A / 2 ^ i=2*(A / 2 ^ (i+1))+A / 2 ^ i % 2:=by
 rw [Nat.pow_succ,<-Jf]
 omega
theorem aJ9 (a:Nat) {i:Nat} (h:i<32):a*4294967296 / 2 ^ i % 2=0:=by
 have e:(4294967296:Nat)=2*2 ^ (31-i)*2 ^ i:=by
  have:(4294967296:Nat)=2 ^ (1+(31-i)+i):=by rw [show 1+(31-i)+i=32 by omega]
  rw [this,Ib,Ib]
 rw [e,<-Gr,Nat.mul_div_cancel _ (Kf d_),Nat.mul_left_comm]
 omega
theorem aKa (a:Nat) {i:Nat} (h:32<=i):a*4294967296 / 2 ^ i=a / 2 ^ (i-32):=by
 have e:2 ^ i=2 ^ (i-32)*4294967296:=by
  have:(4294967296:Nat)=2 ^ 32:=by decide
  rw [this,<-Ib,show i-32+32=i by omega]
 rw [e,Jp _ _ d_]
theorem XP {A b i q r:Nat} (f:0<b) (d:r<b) (c:A / 2 ^ (i+1)=q*b+r):
  (2*r+A / 2 ^ i % 2<b->A / 2 ^ i=2*q*b+(2*r+A / 2 ^ i % 2))/\
  (b<=2*r+A / 2 ^ i % 2->A / 2 ^ i=(2*q+1)*b+(2*r+A / 2 ^ i % 2-b)/\2*r+A / 2 ^ i % 2-b<b):=by
 have e:=aDE A i
 rw [c] at e
 have h1:(2*q+1)*b=2*q*b+b:=by rw [Bx,Ge]
 have a:2*q*b=2*(q*b):=Gr ..
 rw [h1,a]
 generalize A / 2 ^ i=x at *
 generalize q*b=y at *
 omega
theorem aBs {A b q r:Nat} (c:r<b) (a:A / 2 ^ 0=q*b+r):q=A / b:=by
 rw [Nat.pow_zero,Ho] at a
 rw [a,Dj,Iy o_,Jr c,Em]
theorem aBt {A b i q r:Nat} (d:0<b) (e:A / 2 ^ (i+1)=q*b+r) (h:9223372036854775808<=q):18446744073709551616<=A / b:=by
 refine (Ha d).2 ?_
 have h1:A / 2 ^ (i+1)*2 ^ (i+1)<=A:=Gm ..
 have c:A / 2 ^ (i+1)*2<=A / 2 ^ (i+1)*2 ^ (i+1):=Nat.mul_le_mul_left _ (by rw [Nat.pow_succ];have:=Kf (a:=2) (n:=i) d_;omega)
 have h3:9223372036854775808*b<=q*b:=Cd _ h
 rw [e] at h1 c
 omega
set_option maxRecDepth 10000
structure Dg (y1 y0 u v q r:Nat):Prop where
 rest:u=q*y1+r
 top:u*4294967296+v<(q+1)*(y1*4294967296+y0)
 few:q<=4294967297
theorem qY (q b a:Nat):q*(b*4294967296+a)=q*b*4294967296+q*a:=by rw [Nat.mul_add,Gr]
theorem Dg.zero {c d u v:Nat} (h1:2147483648<=c) (f:d<4294967296) (j:v<4294967296) (g:u<c*4294967296+d):Dg c d u v (u / c) (u % c):=by
 have e:u=u / c*c+u % c:=by rw [Dj];exact (Fu u c).symm
 have i:u % c<c:=Dz _ o_
 refine ⟨e,?_,?_⟩
 .rw [qY,Bx,Ge,Bx,Bx _ _ d,Ge]
  generalize u / c*c=a at *
  generalize u / c*d=b
  omega
 .have h:u / c<4294967298:=by
   refine (Dd o_).2 ?_
   omega
  omega
theorem Dg.step {c d u v q r:Nat} (h:Dg c d u v q r) (o:v<4294967296) (l:u<c*4294967296+d) (g:4294967296<=q\/4294967296*r+v<q*d):1<=q/\Dg c d u v (q-1) (r+c):=by
 obtain ⟨e,m,p⟩:=h
 have j:1<=q:=by
  rcases g with h | h
  .omega
  .rcases Fm q with rfl | f
   .rw [Kv] at h;omega
   .exact f
 refine ⟨j,?_⟩
 have i:q=q-1+1:=o_
 have k:u*4294967296+v<q*(c*4294967296+d):=by
  rcases g with h | h
  .have f:4294967296*(c*4294967296+d)<=q*(c*4294967296+d):=Cd _ h
   omega
  .rw [qY]
   generalize q*c=a at *
   generalize q*d=b at *
   omega
 refine ⟨?_,by rw [<-i];exact k,by omega⟩
 have n:q*c=(q-1)*c+c:=by
  rw [i,Gx,Bx,Ge]
 omega
theorem Dg.fin {d c u v q r:Nat} (h:Dg d c u v q r) (g:q*c<=4294967296*r+v):q*(d*4294967296+c)<=u*4294967296+v/\q=(u*4294967296+v) / (d*4294967296+c):=by
 obtain ⟨e,f,i⟩:=h
 have hl:q*(d*4294967296+c)<=u*4294967296+v:=by
  rw [qY]
  generalize q*d=a at *
  generalize q*c=b at *
  omega
 refine ⟨hl,?_⟩
 have hp:0<d*4294967296+c:=by
  rcases Fm (d*4294967296+c) with h | h
  .rw [h,Nat.mul_zero] at f;omega
  .exact h
 refine Nat.le_antisymm ((Ha hp).2 hl) ?_
 have:=(Dd hp).2 f
 omega
theorem Dg.far {a v q r:Nat} (c:a<4294967296) (b:q<=4294967296) (d:4294967296<=r):q*a<=4294967296*r+v:=by
 have h1:q*a<=4294967296*4294967295:=Fa b o_
 omega
theorem aGD {Y u v w a t b:Nat} (f:0<Y) (h1:a=(u*4294967296+v) / Y) (h:t=u*4294967296+v-a*Y) (d:b=(t*4294967296+w) / Y) (i:w<4294967296):a*4294967296+b=(u*18446744073709551616+v*4294967296+w) / Y:=by
 have e:u*4294967296+v=a*Y+t:=by
  have:a*Y<=u*4294967296+v:=by rw [h1];exact Gm ..
  omega
 have g:u*18446744073709551616+v*4294967296+w=Y*(a*4294967296)+(t*4294967296+w):=by
  have:Y*(a*4294967296)=a*Y*4294967296:=by rw [<-Gr,Dj Y a]
  rw [this]
  have h3:u*18446744073709551616=u*4294967296*4294967296:=by rw [Gr]
  have c:(u*4294967296+v)*4294967296=(a*Y+t)*4294967296:=by rw [e]
  rw [Bx,Bx] at c
  rw [h3,c,Kb]
 rw [g,Iy f,<-d]
theorem NY {Y N q t:Nat} (a:0<Y) (h1:q=N / Y) (b:t=N-q*Y):t<Y:=by
 have e:=Fu N Y
 have l:=Dz N a
 subst h1
 rw [Dj] at e
 omega
structure Ord {α:Type} (lt:α->α->Bool):Prop where
 tr:∀ a b c,lt a b=true->lt b c=true->lt a c=true
 irr:∀ a,lt a a=false
def Up {α:Type} (lt:α->α->Bool) (l:List α):Prop:=l.Pairwise fun a b=>lt a b=true
def Tot {α:Type} (lt:α->α->Bool) (l:List α):Prop:=l.Pairwise fun a b=>lt a b=true\/lt b a=true
theorem Tot.perm {α:Type} {lt:α->α->Bool} {l m:List α} (h:l.Perm m) (a:Tot lt l):Tot lt m:=h.pairwise a fun h=>h.symm
theorem Ord.asym {α:Type} {lt:α->α->Bool} (o:Ord lt) {a b:α} (h:lt a b=true):lt b a=false:=by
 cases c:lt b a with
 | false=>rfl
 | true=>have:=o.tr _ _ _ h c;rw [o.irr] at this;cases this
theorem OY {α:Type} {lt:α->α->Bool} (o:Ord lt):∀ {l m:List α},l.Perm m->Up lt l->Up lt m->l=m
 | [],m,h,_,_=>(List.nil_perm.1 h).symm
 | x::l,[],h,_,_=>absurd h.length_eq s_
 | x::l,y::m,h,h1,h2=>by
  have e:x=y:=by
   have a:x∈y::m:=h.mem_iff.1 (Ax ..)
   have b:y∈x::l:=h.mem_iff.2 (Ax ..)
   rcases Au.1 a with e | a
   .exact e
   rcases Au.1 b with e | b
   .exact e.symm
   have d:=(Br.1 h1).1 y b
   have c:=(Br.1 h2).1 x a
   rw [o.asym d] at c
   cases c
  subst e
  rw [OY o ((List.perm_cons x).1 h) (Br.1 h1).2 (Br.1 h2).2]
theorem ZS {α:Type} {lt:α->α->Bool} {A B:List α} {x:α} (d:Up lt (A++B)) (g:∀ a∈A,lt a x=true) (f:∀ b∈B,lt x b=true):Up lt (A++x::B):=by
 obtain ⟨h1,e,h3⟩:=Bz.1 d
 refine Bz.2 ⟨h1,Br.2 ⟨f,e⟩,fun a h b c=>?_⟩
 rcases Au.1 c with rfl | c
 .exact g a h
 .exact h3 a h b c
theorem uO {α:Type} {lt:α->α->Bool} (o:Ord lt) {A B:List α} (j:Up lt A) (i:Up lt B) (h:A=[]\/B=[]\/∃ f x y g,A=f++[x]/\B=y::g/\lt x y=true):∀ a∈A,∀ b∈B,lt a b=true:=by
 intro a h1 b c
 rcases h with rfl | rfl | ⟨f,x,y,g,rfl,rfl,h⟩
 .cases h1
 .cases c
 have d:a=x\/lt a x=true:=by
  rcases Az.1 h1 with h1 | h1
  .exact .inr ((Bz.1 j).2.2 a h1 x (Ax ..))
  .exact .inl (by simpa using h1)
 have e:b=y\/lt y b=true:=by
  rcases Au.1 c with c | c
  .exact .inl c
  .exact .inr ((Br.1 i).1 b c)
 rcases d with rfl | d<;>rcases e with rfl | e
 .exact h
 .exact o.tr _ _ _ h e
 .exact o.tr _ _ _ d h
 .exact o.tr _ _ _ d (o.tr _ _ _ h e)
theorem aHV {α:Type} {lt:α->α->Bool} (o:Ord lt) {e h g f j i:List α} (C:Up lt (e++h)) (w:Up lt (g++f))
  (h1:e=[]\/f=[]\/∃ l x y k,e=l++[x]/\f=y::k/\lt x y=true) (q:g=[]\/h=[]\/∃ l x y k,g=l++[x]/\h=y::k/\lt x y=true)
  (n:j.Perm (e++g)) (m:i.Perm (h++f)) (D:Up lt j) (u:Up lt i):Up lt (j++i)/\(j++i).Perm (e++h++(g++f)):=by
 obtain ⟨s,r,z⟩:=Bz.1 C
 obtain ⟨p,A,B⟩:=Bz.1 w
 have t:=uO o s A h1
 have v:=uO o p r q
 refine ⟨Bz.2 ⟨D,u,fun a d b c=>?_⟩,?_⟩
 .rcases Az.1 (n.mem_iff.1 d) with d | d<;>rcases Az.1 (m.mem_iff.1 c) with c | c
  .exact z a d b c
  .exact t a d b c
  .exact v a d b c
  .exact B a d b c
 .refine (n.append m).trans ?_
  rw [Aj,Aj]
  refine Dk e ?_
  rw [<-Aj,<-Aj]
  exact Dq f Dl
def lO {α:Type} (lt:α->α->Bool) (x:α) (l:List α):Nat->Nat
 | 0=>0
 | k+1=>match l[k]? with
  | some y=>if lt x y then lO lt x l k else k+1
  | none=>k+1
def kB {α:Type} (lt:α->α->Bool) (l:List α) (x:α):List α:=l.take (lO lt x l l.length)++x::l.drop (lO lt x l l.length)
def srt {α:Type} (lt:α->α->Bool) (l:List α):List α:=l.foldl (kB lt) []
theorem UI {α:Type} {lt:α->α->Bool} {x:α} {l:List α}:∀ k,lO lt x l k<=k
 | 0=>Ba _
 | k+1=>by
  unfold lO
  split
  .split
   .exact Nat.le_succ_of_le (UI k)
   .exact Ba _
  .exact Ba _
theorem UJ {α:Type} {lt:α->α->Bool} {x:α} {l:List α}:∀ (k i:Nat) (h:i<l.length),lO lt x l k<=i->i<k->lt x l[i]=true
 | 0,i,h,_,h2=>by omega
 | k+1,i,h,h1,h2=>by
  unfold lO at h1
  split at h1
  .rename_i y a
   split at h1
   .rename_i hl
    by_cases e:i=k
    .subst e
     rw [Ab h] at a
     cases a
     exact hl
    .exact UJ k i h h1 o_
   .omega
  .omega
theorem UH {α:Type} {lt:α->α->Bool} {x:α} {l:List α}:∀ (k:Nat) (_:k<=l.length),lO lt x l k=0\/∃ (i:Nat) (h:i<l.length),lO lt x l k=i+1/\lt x l[i]=false
 | 0,_=>.inl rfl
 | k+1,h=>by
  have a:k<l.length:=h
  have e:lO lt x l (k+1)=if lt x l[k]=true then lO lt x l k else k+1:=by
   show (match l[k]? with | some y=>if lt x y=true then lO lt x l k else k+1 | none=>k+1)=_
   rw [Ab a]
  rw [e]
  cases hl:lt x l[k] with
  | true=>rw [if_pos rfl];exact UH k o_
  | false=>exact .inr ⟨k,a,if_neg d_,hl⟩
theorem rV {α:Type} (lt:α->α->Bool) (l:List α) (x:α):(kB lt l x).Perm (x::l):=by
 unfold kB
 refine Ej.trans ?_
 rw [Bk]
theorem aFL {α:Type} {lt:α->α->Bool} (o:Ord lt) {l:List α} {x:α} (k:Up lt l) (r:∀ y∈l,lt x y=true\/lt y x=true):Up lt (kB lt l x):=by
 unfold kB
 have t:=UI (lt:=lt) (x:=x) (l:=l) l.length
 have g:Up lt (l.take (lO lt x l l.length)++l.drop (lO lt x l l.length)):=by rw [Bk];exact k
 refine ZS g (fun a c=>?_) (fun b n=>?_)
 .rcases UH (lt:=lt) (x:=x) (l:=l) l.length (Ba _) with h | ⟨i,f,h,s⟩
  .rw [h] at c;cases c
  .rw [h] at c
   have m:lt l[i] x=true:=by
    rcases r l[i] (Bb f) with q | q
    .rw [s] at q;cases q
    .exact q
   rw [Hc f] at c
   rcases Az.1 c with c | c
   .refine o.tr _ _ _ ?_ m
    have d:Up lt (l.take i++l.drop i):=by rw [Bk];exact k
    rw [Ac f] at d
    exact (Bz.1 d).2.2 a c _ (Ax ..)
   .rw [Du.1 c]
    exact m
 .obtain ⟨j,p,e⟩:=Gn n
  rw [List.getElem_drop] at e
  rw [<-e]
  rw [Fh] at p
  exact UJ l.length _ o_ o_ o_
theorem aAe {α:Type} {lt:α->α->Bool} (o:Ord lt):∀ (l a:List α),Up lt a->Tot lt (a++l)->Up lt (l.foldl (kB lt) a)/\(l.foldl (kB lt) a).Perm (a++l)
 | [],a,hu,_=>⟨hu,by simp⟩
 | x::l,a,hu,ht=>by
  have hp:=rV lt a x
  have b:(a++x::l).Perm (kB lt a x++l):=Ej.trans (hp.symm.append_right l)
  obtain ⟨c,d⟩:=aAe o l (kB lt a x) (aFL o hu fun y e=>((Bz.1 ht).2.2 y e x (Ax ..)).symm) (ht.perm b)
  exact ⟨c,d.trans b.symm⟩
theorem qC {α:Type} {lt:α->α->Bool} (o:Ord lt) {l:List α} (h:Tot lt l):Up lt (srt lt l):=(aAe o l [] Jg h).1
theorem FC {α:Type} {lt:α->α->Bool}:∀ (l a:List α),(l.foldl (kB lt) a).Perm (a++l)
 | [],a=>by simp
 | x::l,a=>(FC l (kB lt a x)).trans (((rV lt a x).append_right l).trans Ej.symm)
theorem dT {α:Type} (lt:α->α->Bool) (l:List α):(srt lt l).Perm l:=FC l []
theorem HW {α:Type} {lt:α->α->Bool} (o:Ord lt) {l W:List α} (h:Tot lt l) (a:Up lt W) (hp:W.Perm l):W=srt lt l:=OY o (hp.trans (dT lt l).symm) a (qC o h)
theorem aId {α:Type} {lt:α->α->Bool} (o:Ord lt) {l:List α} (a:Up lt l):l=srt lt l:=HW o (Jh (fun h=>.inl h) a) a (Fb l)
def bis (P:Nat->Bool):Nat->Nat->Nat->Nat
 | 0,lo,_=>lo
 | f+1,lo,hi=>if lo<hi then (if P ((lo+hi) / 2)=true then bis P f ((lo+hi) / 2+1) hi else bis P f lo ((lo+hi) / 2)) else lo
theorem JW (P:Nat->Bool):∀ (f lo e:Nat),e-lo<=f->lo<=e->lo<=bis P f lo e/\bis P f lo e<=e/\(bis P f lo e=lo\/P (bis P f lo e-1)=true)/\(bis P f lo e=e\/P (bis P f lo e)=false)
 | 0,lo,e,h,h2=>⟨Ba _,h2,.inl rfl,.inl (show lo=e by omega)⟩
 | f+1,lo,e,h,h2=>by
  unfold bis
  by_cases h3:lo<e
  .rw [if_pos h3]
   cases hp:P ((lo+e) / 2) with
   | true=>
    rw [if_pos rfl]
    obtain ⟨a,b,c,d⟩:=JW P f ((lo+e) / 2+1) e o_ o_
    refine ⟨by omega,b,?_,d⟩
    rcases c with c | c
    .right
     rw [c,Gx]
     exact hp
    .exact .inr c
   | false=>
    rw [if_neg d_]
    obtain ⟨a,b,c,d⟩:=JW P f lo ((lo+e) / 2) o_ o_
    refine ⟨a,by omega,c,?_⟩
    rcases d with d | d
    .right
     rw [d]
     exact hp
    .exact .inr d
  .rw [if_neg h3]
   exact ⟨Ba _,h2,.inl rfl,.inl o_⟩
def ltO {α:Type} (lt:α->α->Bool) (x y:Option α):Prop:=∃ a b,x=some a/\y=some b/\lt a b=true
theorem uN {α:Type} {lt:α->α->Bool} {l:List α} (h:Up lt l) (s:Nat):Up lt (l.take s++l.drop s):=by rw [Bk];exact h
theorem F2 {α:Type} {l:List α} {s:Nat} (hs:s≠0) {a:α} (h:l[s-1]? =some a):l.take s=l.take (s-1)++[a]:=by
 obtain ⟨hl,e⟩:=Ad.1 h
 have b:s=s-1+1:=o_
 rw [b,Hc hl,e,Gx]
theorem GF {α:Type} {l:List α} {t:Nat} {b:α} (h:l[t]? =some b):l.drop t=b::l.drop (t+1):=by
 obtain ⟨hl,e⟩:=Ad.1 h
 rw [Ac hl,e]
theorem aDh {α:Type} {lt:α->α->Bool} {U V:List α} {s t:Nat} (h:s=0\/V.length<=t\/ltO lt U[s-1]? V[t]?):
  U.take s=[]\/V.drop t=[]\/∃ a x y c,U.take s=a++[x]/\V.drop t=y::c/\lt x y=true:=by
 by_cases hs:s=0
 .exact .inl (by rw [hs];rfl)
 rcases h with h | h | ⟨x,y,b,d,hl⟩
 .exact absurd h hs
 .exact .inr (.inl (Ae h))
 .exact .inr (.inr ⟨_,x,y,_,F2 hs b,GF d,hl⟩)
theorem aFu {α:Type} {lt:α->α->Bool} (o:Ord lt) {U V:List α} {s t:Nat} (g:Up lt U) (d:Up lt V) (c:Tot lt (U++V))
  (h1:s=0\/V.length<=t\/ltO lt U[s-1]? V[t]?) (e:t=0\/U.length<=s\/ltO lt V[t-1]? U[s]?):
  srt lt (U.take s++V.take t)++srt lt (U.drop s++V.drop t)=srt lt (U++V):=by
 have f:Tot lt (U.take s++V.take t):=by
  refine Fx ?_ c
  exact (Hx s U).append (Hx t V)
 have h:Tot lt (U.drop s++V.drop t):=by
  refine Fx ?_ c
  exact (Hy s U).append (Hy t V)
 obtain ⟨a,b⟩:=aHV o (uN g s) (uN d t) (aDh h1) (aDh e) (dT lt _) (dT lt _) (qC o f) (qC o h)
 rw [Bk,Bk] at b
 exact HW o c a b
theorem aI5 {α:Type} {lt:α->α->Bool} (o:Ord lt) {V:List α} {u:α} {t:Nat} (f:Up lt V) (g:Tot lt (u::V)) (h1:t=0\/ltO lt V[t-1]? (some u)) (i:V.length<=t\/ltO lt (some u) V[t]?):
  V.take t++u::V.drop t=srt lt (u::V):=by
 have j:=uO (A:=V.take t) (B:=[u]) o (Fx (Hx t V) f) (Jb ..) (by
  rcases h1 with h | ⟨a,b,d,c,hl⟩
  .exact .inl (by rw [h];rfl)
  .by_cases e:t=0
   .exact .inl (by rw [e];rfl)
   .cases c
    exact .inr (.inr ⟨_,a,u,[],F2 e d,rfl,hl⟩))
 have k:=uO (A:=[u]) (B:=V.drop t) o (Jb ..) (Fx (Hy t V) f) (by
  rcases i with h | ⟨a,b,d,c,hl⟩
  .exact .inr (.inl (Ae h))
  .cases d
   exact .inr (.inr ⟨[],u,b,_,rfl,GF c,hl⟩))
 refine HW o g (ZS (uN f t) (fun a d=>j a d u (Jc u)) (fun b c=>k u (Jc u) b c)) ?_
 refine Ej.trans ?_
 rw [Bk]
theorem uT {α:Type} {lt:α->α->Bool} (o:Ord lt) {l:List α} (a:Up lt l):srt lt l=l:=(aId o a).symm
theorem aAc {α:Type} {lt:α->α->Bool} (o:Ord lt) {U V:List α} (a:Tot lt (U++V)):srt lt (U++V)=srt lt (V++U):=
 HW o (a.perm Dl) (qC o a) ((dT lt _).trans Dl)
theorem MY (x:Nat) (a:x<18446744073709551616):eX .and .u64 (x:Int) 4294967295=((x % 4294967296:Nat):Int):=by
 have h:=xS .u64 x 4294967295 (by simp only [bA];omega) d_
 have e:x &&& 4294967295=x % 4294967296:=Nat.and_two_pow_sub_one_eq_mod x 32
 rw [e] at h
 exact h
theorem fI (x:Nat):Kh (x:Int) (2 ^ Cv 32)=((x / 4294967296:Nat):Int):=by
 show Kh (x:Int) 4294967296=_
 rw [Gy _ d_]
 omega
theorem XW (x y:Nat) (l:x<18446744073709551616) (k:y<18446744073709551616):aA Tryz.prog 238 [.int .u64 x,.int .u64 y] [] (.ret (.tup [.int .u64 (MS x y:Nat),.int .u64 (CM x y:Nat)])) []:=by
 obtain ⟨a,b,c,d,C,m,z,r,u,w,o,D,hs⟩:=XV x y l k
 have F:=aFs hs u w o
 have G:CM x y<18446744073709551616:=Dz _ d_
 have q:((x % 4294967296:Nat):Int)*((y % 4294967296:Nat):Int)=(a:Int):=by rw [C,Dy]
 have p:((x / 4294967296:Nat):Int)*((y % 4294967296:Nat):Int)=(b:Int):=by rw [m,Dy]
 have B:((x % 4294967296:Nat):Int)*((y / 4294967296:Nat):Int)=(c:Int):=by rw [z,Dy]
 have n:((x / 4294967296:Nat):Int)*((y / 4294967296:Nat):Int)=(d:Int):=by rw [r,Dy]
 have t:(b:Int)+((a / 4294967296:Nat):Int)=((b+a / 4294967296:Nat):Int):=o_
 have s:(((b+a / 4294967296) % 4294967296:Nat):Int)+(c:Int)=(((b+a / 4294967296) % 4294967296+c:Nat):Int):=o_
 have v:(d:Int)+(((b+a / 4294967296) / 4294967296:Nat):Int)+((((b+a / 4294967296) % 4294967296+c) / 4294967296:Nat):Int)=((MS x y:Nat):Int):=o_
 have h:¬ (inR .u64 ((x:Int)*(y:Int)))->IntKind.wrap .u64 ((x:Int)*(y:Int))=((CM x y:Nat):Int):=fun _=>by
  unfold CM
  rw [<-Dy]
  simp [IntKind.wrap,IntKind.signed,IntKind.bits]
 refine c_ Tryz.f238 fun _=>?_
 refine gV ?_
 rw [MY x l]
 refine Aa d_ ?_
 refine gV ?_
 rw [fI x,MY y k]
 refine Aa d_ ?_
 refine gV ?_
 rw [fI y,q]
 refine aJ ?_
 refine gV ?_
 rw [p]
 refine aJ ?_
 refine gV ?_
 refine Aa d_ ?_
 refine gV ?_
 rw [fI a,t]
 refine aJ ?_
 refine gV ?_
 rw [MY _ o_]
 refine Aa d_ ?_
 refine gV ?_
 rw [fI (b+a / 4294967296),B]
 refine aJ ?_
 refine gV ?_
 rw [s]
 refine aJ ?_
 refine gV ?_
 rw [n]
 refine aJ ?_
 refine gV ?_
 refine aJ ?_
 refine gV ?_
 refine Aa d_ ?_
 refine gV ?_
 rw [fI ((b+a / 4294967296) % 4294967296+c),v]
 refine aJ ?_
 refine gV ?_
 by_cases j:inR .u64 ((x:Int)*(y:Int))
 .have e:(x:Int)*(y:Int)=((CM x y:Nat):Int):=by
   obtain ⟨h1,i⟩:=j
   simp only [bO,bA] at h1 i
   rw [<-Dy] at h1 i⊢
   unfold CM
   omega
  rw [e]
  exact zW
 .rw [h j]
  refine Js ?_
  refine gW hE ?_;conv=>whnf
theorem tdN (x y:Nat):Hd (x:Int) (y:Int)=((x / y:Nat):Int):=rfl
theorem tmN (x y:Nat):Int.tmod (x:Int) (y:Int)=((x % y:Nat):Int):=rfl
theorem aFr (x y:Nat):(x:Int)*(y:Int)=((x*y:Nat):Int):=(Dy x y).symm
theorem XG (n:Int) (r:Nat) (a:ofF n=r):aA Tryz.prog 139 [ii n] [] (.ret (uu r)) []:=by
 unfold ofF at a
 by_cases h1:n<0
 .rw [if_pos o_] at a
  subst a
  exact c_ Tryz.f139 fun _=>zW
 .by_cases b:n<4294967296
  .have e:n*4294967296=(r:Int):=by
    rw [<-a]
    split<;>omega
   have c:(r:Int)<18446744073709551616:=o_
   refine c_ Tryz.f139 fun _=>?_
   repeat' first | (refine gN hE ?_;conv=>whnf) | exact rfl | refine aY ?_ | refine aN ?_ | refine aT fun h=>?_ | refine aF fun h=>?_ | refine ⟨fun h=>?_,fun h=>?_⟩ | refine aJ ?_ | refine ⟨_,rfl,?_⟩ | refine aD ?_ | fail
   rw [e]
  .rw [if_neg o_,if_neg b] at a
   subst a
   exact c_ Tryz.f139 fun _=>zW
theorem P1 (a b:Nat) (e:a<18446744073709551616) (d:b<18446744073709551616) (r:Nat) (c:iR a b=r):aA Tryz.prog 136 [uu a,uu b] [] (.ret (uu r)) []:=by
 unfold iR pN at c
 by_cases h:a+b<18446744073709551616
 .rw [if_pos h] at c
  subst c
  exact c_ Tryz.f136 fun _=>zW
 .rw [if_neg h] at c
  subst c
  exact c_ Tryz.f136 fun _=>zW
theorem B1 (n:Int):aA Tryz.prog 139 [ii n] [] (.ret (uu (ofF n))) []:=XG n _ rfl
theorem kW (a b:Nat) (c:a<18446744073709551616) (d:b<18446744073709551616):aA Tryz.prog 136 [uu a,uu b] [] (.ret (uu (iR a b))) []:=P1 a b c d _ rfl
theorem aKF {M:Imm} {ob:Hs} {vs:List Value} {a b c:AVal} (h:cA M ob vs [a,b,c]):∃ u v x,vs=[u,v,x]/\Rep M ob u a/\Rep M ob v b/\Rep M ob x c:=by
 obtain ⟨hl,d⟩:=h
 match vs,hl with
 | [u,v,x],_=>exact ⟨u,v,x,rfl,d 0 _ _ rfl rfl,d 1 _ _ rfl rfl,d 2 _ _ rfl rfl⟩
theorem aA3 {M:Imm} {ob:Hs} {n:Nat} (h:n<18446744073709551616):Rep M ob (.int .u64 (n:Int)) (uu n):=.int _ _ ⟨by simp only [bO];omega,by simp only [bA];omega⟩
theorem aDS (x y:Nat) (m:x<18446744073709551616) (l:y<18446744073709551616):aA Tryz.prog 239 [uu x,uu y,.int .u64 0] [] (.ret (.tup [uu ((x+y) % 18446744073709551616),uu ((x+y) / 18446744073709551616)])) []:=by
 intro M ob w g hm j
 obtain ⟨u,v,c,rfl,h,b,k⟩:=aKF j
 obtain ⟨rfl,_⟩:=h.int_inv
 obtain ⟨rfl,_⟩:=b.int_inv
 obtain ⟨rfl,_⟩:=k.int_inv
 refine .inr ⟨.tuple #[.int .u64 (((x+y) % 18446744073709551616:Nat):Int),.int .u64 (((x+y) / 18446744073709551616:Nat):Int)],w,?_,M,ob,Ext.refl _ _ _ _,hm,?_⟩
 .rw [run_callFunc_extern (show Tryz.prog.funcs[239]? =some Tryz.f239 by kernel_rfl) (by kernel_rfl) (by kernel_rfl) (by kernel_rfl) (e:=(Extern.MathBitsCarry.rows.head!).2) (by kernel_rfl)]
  rfl
 .refine .tup [_,_] _ rfl fun i v a b d=>?_
  match i,b,d with
  | 0,b,d=>cases b;cases d;exact aA3 (Dz _ d_)
  | 1,b,d=>cases b;cases d;exact aA3 o_
theorem MC (b:Bool) (x y:Nat) (r:Nat) (a:(if b=true then x else y)=r):aA Tryz.prog 240 [.bool b,uu x,uu y] [] (.ret (uu r)) []:=by
 cases b with
 | true=>
  have a:x=r:=a
  exact zqda24
 | false=>
  have a:y=r:=a
  exact zqda24
theorem aF1 (n:Int) (r:Nat) (a:ofF n=r):aA Tryz.prog 178 [ii n] [] (.ret (uu r)) []:=by
 unfold ofF at a
 by_cases h1:n<=0
 .rw [if_pos h1] at a
  subst a
  exact c_ Tryz.f178 fun _=>zW
 .rw [if_neg h1] at a
  by_cases b:n<4294967296
  .rw [if_pos b] at a
   have e:n*2 ^ Cv 32=(r:Int):=by
    show n*4294967296=_
    omega
   have c:(r:Int)<18446744073709551616:=o_
   refine c_ Tryz.f178 fun _=>?_
   repeat' first | (refine gN hE ?_;conv=>whnf) | refine Fo (Aa (Aa d_ (by rw [e];exact ⟨by simp only [bO];omega,by simp only [bA];omega⟩)) ?_) | exact rfl | refine aY ?_ | refine aN ?_ | refine aT fun h=>?_ | refine aF fun h=>?_ | refine ⟨fun h=>?_,fun h=>?_⟩ | refine aJ ?_ | refine ⟨_,rfl,?_⟩ | refine aD ?_ | fail
   rw [e]
  .rw [if_neg b] at a
   subst a
   exact c_ Tryz.f178 fun _=>zW
theorem aCF (a b:Nat) (k:a<18446744073709551616) (i:b<18446744073709551616) (r:Nat) (c:iR a b=r):aA Tryz.prog 182 [uu a,uu b] [] (.ret (uu r)) []:=by
 have h1:=aDS a b k i
 unfold iR pN at c
 by_cases h:a+b<18446744073709551616
 .rw [if_pos h] at c
  have d:(a+b) / 18446744073709551616=0:=o_
  have j:(a+b) % 18446744073709551616=r:=o_
  rw [d,j] at h1
  have e:=MC false 18446744073709551615 r r rfl
  exact c_ Tryz.f182 fun _=>zW
 .rw [if_neg h] at c
  have d:(a+b) / 18446744073709551616=1:=o_
  rw [d] at h1
  have e:=MC true 18446744073709551615 ((a+b) % 18446744073709551616) r c
  generalize (a+b) % 18446744073709551616=q at h1 e
  exact c_ Tryz.f182 fun _=>zW
theorem aIX {h l:Nat} (hl:l<4294967296):h*4294967296 ||| l=h*4294967296+l:=by
 have:=Hz (i:=32) hl h
 rw [Dj] at this
 exact this.symm
theorem aL8 {h l:Nat} (a:h<4294967296) (hl:l<4294967296):eX .or .u64 ((h*4294967296:Nat):Int) (l:Int)=((h*4294967296+l:Nat):Int):=by
 have e:=DQ .u64 (h*4294967296) l (by simp only [bA];omega) (by simp only [bA];omega)
 rw [aIX hl] at e
 exact e
theorem aCx (a b:Nat) (n:a<18446744073709551616) (j:b<18446744073709551616) (r:Nat) (c:iX a b=r):aA Tryz.prog 181 [uu a,uu b] [] (.ret (uu r)) []:=by
 have h1:=XW a b n j
 have hp:a*b<18446744073709551616*18446744073709551616:=Nat.mul_lt_mul'' n j
 have e:=fI (MS a b)
 have m:=fI (CM a b)
 have d:a*b=MS a b*18446744073709551616+CM a b:=by unfold MS CM;omega
 have s:CM a b<18446744073709551616:=Dz _ d_
 unfold iX pN at c
 generalize a*b=P at c d hp
 generalize MS a b=H at h1 e d
 generalize CM a b=L at h1 m d s
 by_cases h:P / 4294967296<18446744073709551616
 .rw [if_pos h] at c
  have i:H / 4294967296=0:=o_
  have p:H<4294967296:=o_
  have q:H*4294967296+L / 4294967296=r:=o_
  have o:(H:Int)*2 ^ Cv 32=((H*4294967296:Nat):Int):=by
   show (H:Int)*4294967296=_
   omega
  have k:=aL8 (h:=H) (l:=L / 4294967296) p o_
  rw [i] at e
  rw [q] at k
  refine c_ Tryz.f181 fun _=>?_
  repeat' first | (refine gN hE ?_;conv=>whnf) | refine .pure _ [] h1 ?_ | (rw [e];refine Aa d_ ?_) | (rw [o];refine Fo (Aa (Aa d_ ⟨by simp only [bO];omega,by simp only [bA];omega⟩) ?_)) | (rw [m];refine Aa d_ ?_) | exact rfl | refine aY ?_ | refine aN ?_ | refine aT fun h=>?_ | refine aF fun h=>?_ | refine ⟨fun h=>?_,fun h=>?_⟩ | refine aJ ?_ | refine ⟨_,rfl,?_⟩ | refine aD ?_ | fail
  rw [k]
 .rw [if_neg h] at c
  subst c
  have i:(0:Int)<((H / 4294967296:Nat):Int):=o_
  generalize ((H / 4294967296:Nat):Int)=Q at i e
  refine c_ Tryz.f181 fun _=>?_
  repeat' first | (refine gN hE ?_;conv=>whnf) | refine .pure _ [] h1 ?_ | (rw [e];refine Aa d_ ?_) | exact rfl | refine aY ?_ | refine aN ?_ | refine aT fun h=>?_ | refine aF fun h=>?_ | refine ⟨fun h=>?_,fun h=>?_⟩ | refine aJ ?_ | refine ⟨_,rfl,?_⟩ | refine aD ?_ | fail
theorem QS (n:Int):aA Tryz.prog 178 [ii n] [] (.ret (uu (ofF n))) []:=aF1 n _ rfl
theorem U3 (a b:Nat) (c:a<18446744073709551616) (d:b<18446744073709551616):aA Tryz.prog 182 [uu a,uu b] [] (.ret (uu (iR a b))) []:=aCF a b c d _ rfl
theorem I8 (a b:Nat) (c:a<18446744073709551616) (d:b<18446744073709551616):aA Tryz.prog 181 [uu a,uu b] [] (.ret (uu (iX a b))) []:=aCx a b c d _ rfl
def bl8 (v:Nat):Nat:=if v<1 then 0 else if v<2 then 1 else if v<4 then 2 else if v<8 then 3 else if v<16 then 4 else if v<32 then 5 else if v<64 then 6 else if v<128 then 7 else 8
def aKp:List UInt8:=(Dh 256).map fun v=>Mg (bl8 v)
theorem mJ {v:Nat} (h:v<256):aKp[v]? =some (Mg (bl8 v)):=by simp [aKp,h]
theorem aJ8 {v:Nat} (h:1<=v) (a:v<256):1<=bl8 v/\bl8 v<=8/\2 ^ (bl8 v-1)<=v/\v<2 ^ bl8 v:=by
 unfold bl8
 repeat' split
 all_goals simp
 all_goals omega
theorem oZ (v:Nat):bl8 v<=8:=by
 unfold bl8
 repeat' split
 all_goals omega
theorem kK (v:Nat):((Mg (bl8 v)).toNat:Int)=(bl8 v:Int):=by
 have:=oZ v
 simp
 omega
def BL (x n:Nat):Prop:=1<=n/\2 ^ (n-1)<=x/\x<2 ^ n
theorem BL.up {x n:Nat} (k:Nat) (h:BL (x / 2 ^ k) n):BL x (k+n):=by
 obtain ⟨h1,a,h3⟩:=h
 have hp:0<2 ^ k:=Kf d_
 refine ⟨by omega,?_,?_⟩
 .have:=(Ha hp).1 a
  rw [show k+n-1=n-1+k by omega,Ib]
  exact this
 .have:=(Dd hp).1 h3
  rw [Mo,Ib]
  exact this
theorem BL.le {x n:Nat} (h:BL x n) (b:x<18446744073709551616):n<=64:=by
 obtain ⟨h1,a,_⟩:=h
 rcases Mp 64 n with h3 | h3
 .have:2 ^ 64<=2 ^ (n-1):=Hf d_ o_
  omega
 .exact h3
theorem rG {v:Nat} (h:1<=v) (b:v<256):BL v (bl8 v):=by
 obtain ⟨a,_,c,d⟩:=aJ8 h b
 exact ⟨a,c,d⟩
theorem hiN (x k:Nat):Kh (x:Int) (2 ^ k)=((x / 2 ^ k:Nat):Int):=by
 rw [Gy _ (Int.pow_nonneg d_)]
 push_cast
 rfl
theorem I4 (x:Nat):Kh (x:Int) (2 ^ Cv 16)=((x / 65536:Nat):Int):=hiN x 16
theorem hi8 (x:Nat):Kh (x:Int) (2 ^ Cv 8)=((x / 256:Nat):Int):=hiN x 8
theorem X0 (x:Nat) (i:1<=x) (d:x<18446744073709551616):∃ n:Nat,BL x n/\aA Tryz.prog 331 [uu x] [] (.ret (ii n)) []:=by
 by_cases e:4294967296<=x
 .by_cases h1:65536<=x / 4294967296
  .by_cases c:256<=x / 4294967296 / 65536
   .have a:BL x (32+(16+(8+(bl8 (x / 4294967296 / 65536 / 256))))):=BL.up 32 (BL.up 16 (BL.up 8 (rG (v:=x / 4294967296 / 65536 / 256) o_ o_)))
    refine Ah (32+(16+(8+(bl8 (x / 4294967296 / 65536 / 256))))) (Aa a ?_)
    have b:(x / 4294967296 / 65536 / 256)<256:=o_
    refine c_ Tryz.f331 fun _=>?_
    repeat' first | (refine gN hE ?_;conv=>whnf) | (rw [fI];refine Aa d_ ?_) | (rw [I4];refine Aa d_ ?_) | (rw [hi8];refine Aa d_ ?_) | refine Ah _ (Aa (mJ b) ?_) | (rw [kK];have:=oZ ((x / 4294967296 / 65536 / 256));refine aJ ?_) | exact rfl | refine aY ?_ | refine aN ?_ | refine aT fun h=>?_ | refine aF fun h=>?_ | refine ⟨fun h=>?_,fun h=>?_⟩ | refine aJ ?_ | refine ⟨_,rfl,?_⟩ | refine aD ?_ | fail
    all_goals exact congrArg (fun n=>Res.ret (AVal.int .i64 n)) (by (try rw [kK]);omega)
   .have a:BL x (32+(16+(bl8 (x / 4294967296 / 65536)))):=BL.up 32 (BL.up 16 (rG (v:=x / 4294967296 / 65536) o_ o_))
    refine Ah (32+(16+(bl8 (x / 4294967296 / 65536)))) (Aa a ?_)
    have b:(x / 4294967296 / 65536)<256:=o_
    refine c_ Tryz.f331 fun _=>?_
    repeat' first | (refine gN hE ?_;conv=>whnf) | (rw [fI];refine Aa d_ ?_) | (rw [I4];refine Aa d_ ?_) | (rw [hi8];refine Aa d_ ?_) | refine Ah _ (Aa (mJ b) ?_) | (rw [kK];have:=oZ ((x / 4294967296 / 65536));refine aJ ?_) | exact rfl | refine aY ?_ | refine aN ?_ | refine aT fun h=>?_ | refine aF fun h=>?_ | refine ⟨fun h=>?_,fun h=>?_⟩ | refine aJ ?_ | refine ⟨_,rfl,?_⟩ | refine aD ?_ | fail
    all_goals exact congrArg (fun n=>Res.ret (AVal.int .i64 n)) (by (try rw [kK]);omega)
  .by_cases c:256<=x / 4294967296
   .have a:BL x (32+(8+(bl8 (x / 4294967296 / 256)))):=BL.up 32 (BL.up 8 (rG (v:=x / 4294967296 / 256) o_ o_))
    refine Ah (32+(8+(bl8 (x / 4294967296 / 256)))) (Aa a ?_)
    have b:(x / 4294967296 / 256)<256:=o_
    refine c_ Tryz.f331 fun _=>?_
    repeat' first | (refine gN hE ?_;conv=>whnf) | (rw [fI];refine Aa d_ ?_) | (rw [I4];refine Aa d_ ?_) | (rw [hi8];refine Aa d_ ?_) | refine Ah _ (Aa (mJ b) ?_) | (rw [kK];have:=oZ ((x / 4294967296 / 256));refine aJ ?_) | exact rfl | refine aY ?_ | refine aN ?_ | refine aT fun h=>?_ | refine aF fun h=>?_ | refine ⟨fun h=>?_,fun h=>?_⟩ | refine aJ ?_ | refine ⟨_,rfl,?_⟩ | refine aD ?_ | fail
    all_goals exact congrArg (fun n=>Res.ret (AVal.int .i64 n)) (by (try rw [kK]);omega)
   .have a:BL x (32+(bl8 (x / 4294967296))):=BL.up 32 (rG (v:=x / 4294967296) o_ o_)
    refine Ah (32+(bl8 (x / 4294967296))) (Aa a ?_)
    have b:(x / 4294967296)<256:=o_
    refine c_ Tryz.f331 fun _=>?_
    repeat' first | (refine gN hE ?_;conv=>whnf) | (rw [fI];refine Aa d_ ?_) | (rw [I4];refine Aa d_ ?_) | (rw [hi8];refine Aa d_ ?_) | refine Ah _ (Aa (mJ b) ?_) | (rw [kK];have:=oZ ((x / 4294967296));refine aJ ?_) | exact rfl | refine aY ?_ | refine aN ?_ | refine aT fun h=>?_ | refine aF fun h=>?_ | refine ⟨fun h=>?_,fun h=>?_⟩ | refine aJ ?_ | refine ⟨_,rfl,?_⟩ | refine aD ?_ | fail
    all_goals exact congrArg (fun n=>Res.ret (AVal.int .i64 n)) (by (try rw [kK]);omega)
 .by_cases h1:65536<=x
  .by_cases c:256<=x / 65536
   .have a:BL x (16+(8+(bl8 (x / 65536 / 256)))):=BL.up 16 (BL.up 8 (rG (v:=x / 65536 / 256) o_ o_))
    refine Ah (16+(8+(bl8 (x / 65536 / 256)))) (Aa a ?_)
    have b:(x / 65536 / 256)<256:=o_
    refine c_ Tryz.f331 fun _=>?_
    repeat' first | (refine gN hE ?_;conv=>whnf) | (rw [fI];refine Aa d_ ?_) | (rw [I4];refine Aa d_ ?_) | (rw [hi8];refine Aa d_ ?_) | refine Ah _ (Aa (mJ b) ?_) | (rw [kK];have:=oZ ((x / 65536 / 256));refine aJ ?_) | exact rfl | refine aY ?_ | refine aN ?_ | refine aT fun h=>?_ | refine aF fun h=>?_ | refine ⟨fun h=>?_,fun h=>?_⟩ | refine aJ ?_ | refine ⟨_,rfl,?_⟩ | refine aD ?_ | fail
    all_goals exact congrArg (fun n=>Res.ret (AVal.int .i64 n)) (by (try rw [kK]);omega)
   .have a:BL x (16+(bl8 (x / 65536))):=BL.up 16 (rG (v:=x / 65536) o_ o_)
    refine Ah (16+(bl8 (x / 65536))) (Aa a ?_)
    have b:(x / 65536)<256:=o_
    refine c_ Tryz.f331 fun _=>?_
    repeat' first | (refine gN hE ?_;conv=>whnf) | (rw [fI];refine Aa d_ ?_) | (rw [I4];refine Aa d_ ?_) | (rw [hi8];refine Aa d_ ?_) | refine Ah _ (Aa (mJ b) ?_) | (rw [kK];have:=oZ ((x / 65536));refine aJ ?_) | exact rfl | refine aY ?_ | refine aN ?_ | refine aT fun h=>?_ | refine aF fun h=>?_ | refine ⟨fun h=>?_,fun h=>?_⟩ | refine aJ ?_ | refine ⟨_,rfl,?_⟩ | refine aD ?_ | fail
    all_goals exact congrArg (fun n=>Res.ret (AVal.int .i64 n)) (by (try rw [kK]);omega)
  .by_cases c:256<=x
   .have a:BL x (8+(bl8 (x / 256))):=BL.up 8 (rG (v:=x / 256) o_ o_)
    refine Ah (8+(bl8 (x / 256))) (Aa a ?_)
    have b:(x / 256)<256:=o_
    refine c_ Tryz.f331 fun _=>?_
    repeat' first | (refine gN hE ?_;conv=>whnf) | (rw [fI];refine Aa d_ ?_) | (rw [I4];refine Aa d_ ?_) | (rw [hi8];refine Aa d_ ?_) | refine Ah _ (Aa (mJ b) ?_) | (rw [kK];have:=oZ ((x / 256));refine aJ ?_) | exact rfl | refine aY ?_ | refine aN ?_ | refine aT fun h=>?_ | refine aF fun h=>?_ | refine ⟨fun h=>?_,fun h=>?_⟩ | refine aJ ?_ | refine ⟨_,rfl,?_⟩ | refine aD ?_ | fail
    all_goals exact congrArg (fun n=>Res.ret (AVal.int .i64 n)) (by (try rw [kK]);omega)
   .have a:BL x (bl8 (x)):=rG (v:=x) o_ o_
    refine Ah (bl8 (x)) (Aa a ?_)
    have b:x<256:=o_
    refine c_ Tryz.f331 fun _=>?_
    repeat' first | (refine gN hE ?_;conv=>whnf) | (rw [fI];refine Aa d_ ?_) | (rw [I4];refine Aa d_ ?_) | (rw [hi8];refine Aa d_ ?_) | refine Ah _ (Aa (mJ b) ?_) | (rw [kK];have:=oZ (x);refine aJ ?_) | exact rfl | refine aY ?_ | refine aN ?_ | refine aT fun h=>?_ | refine aF fun h=>?_ | refine ⟨fun h=>?_,fun h=>?_⟩ | refine aJ ?_ | refine ⟨_,rfl,?_⟩ | refine aD ?_ | fail
    all_goals exact congrArg (fun n=>Res.ret (AVal.int .i64 n)) (by (try rw [kK]);omega)
theorem aKO (x n:Nat) (a:n<=64) (h:aA Tryz.prog 331 [uu x] [] (.ret (ii n)) []):aA Tryz.prog 319 [uu x] [] (.ret (ii ((64-n:Nat):Int))) []:=by
 have e:(64:Int)-(n:Int)=((64-n:Nat):Int):=o_
 refine c_ Tryz.f319 fun _=>?_
 repeat' first | (refine gN hE ?_;conv=>whnf) | refine .pure _ [] h ?_ | exact rfl | refine aY ?_ | refine aN ?_ | refine aT fun h=>?_ | refine aF fun h=>?_ | refine ⟨fun h=>?_,fun h=>?_⟩ | refine aJ ?_ | refine ⟨_,rfl,?_⟩ | refine aD ?_ | fail
 rw [e]
theorem wu (n:Int):IntKind.wrap .u64 n=n % 18446744073709551616:=by
 simp [IntKind.wrap,IntKind.signed,IntKind.bits]
theorem KP (x y:Nat):Hd (x:Int) (y:Int)=((x / y:Nat):Int):=rfl
noncomputable abbrev fD:Func:=Tryz.f306
def dvF (s Y c b u a d q r:Nat):List (Nat×AVal):=[(2,uu Y),(8,uu s),(9,uu c),(10,uu b),(11,uu u),(13,uu a),(14,uu d),(15,uu q),(16,uu r)]
def dvG (s Y d c u b e q t a r:Nat):List (Nat×AVal):=[(2,uu Y),(8,uu s),(9,uu d),(10,uu c),(11,uu u),(13,uu b),(14,uu e),(15,uu q),(16,uu r),(17,uu t),(18,uu a)]
theorem aDe (s Y b a u c g:Nat) (G:AVal) (h1:2147483648<=b) (x:b<4294967296) (n:a<4294967296) (z:c<4294967296) (o:u<b*4294967296+a)
  (fin:∀ r,To E fD (.pure (.ret G)) (.code (gQ fD 21) (dvF s Y b a u c g ((u*4294967296+c) / (b*4294967296+a)) r) [])):
  ∀ (q r:Nat),Dg b a u c q r->r<4294967296->To E fD (.pure (.ret G)) (.head (stk fD 0) (dvF s Y b a u c g q r) []):=by
 intro q
 induction q using Ly with
 | _ q y=>
 intro r f C
 have l:(4294967296:Int)*(r:Int)=((4294967296*r:Nat):Int):=o_
 have i:((4294967296*r:Nat):Int)+(c:Int)=((4294967296*r+c:Nat):Int):=o_
 have k:(q:Int)*(a:Int)=((q*a:Nat):Int):=(Dy q a).symm
 have step:(4294967296<=q\/4294967296*r+c<q*a)->To E fD (.pure (.ret G)) (.code (gQ fD 18) (dvF s Y b a u c g q r) []):=fun A=>by
  obtain ⟨B,d⟩:=f.step z o A
  have D:=d.few
  have p:=f.few
  have m:(q:Int)-1=((q-1:Nat):Int):=o_
  have j:(r:Int)+(b:Int)=((r+b:Nat):Int):=o_
  unfold dvF
  by_cases v:4294967296<=r+b
  .have e:=(d.fin (Dg.far n o_ v)).2
   have fin:=fin (r+b)
   rw [<-e] at fin
   refine gV ?_
   rw [m]
   refine aJ ?_
   refine gV ?_
   rw [j]
   refine aJ ?_
   refine gV ?_
   refine aT fun h=>?_
   exact zqda18
  .have next:=y (q-1) o_ (r+b) d o_
   unfold dvF at next
   repeat' first | (refine gN hE ?_;conv=>whnf) | (rw [m];refine aJ ?_) | (rw [j];refine aJ ?_) | exact rfl | refine aY ?_ | refine aN ?_ | refine aT fun h=>?_ | refine aF fun h=>?_ | refine ⟨fun h=>?_,fun h=>?_⟩ | refine aJ ?_ | refine ⟨_,rfl,?_⟩ | refine aD ?_ | fail
   exact zW
 by_cases t:4294967296<=q
 .have step:=step (.inl t)
  unfold dvF at step⊢
  refine gV ?_
  refine aT fun h=>?_
  refine gV ?_
  refine aY ?_
  exact zqda19
 .have F:q*a<=4294967295*4294967295:=Fa o_ o_
  by_cases w:4294967296*r+c<q*a
  .have step:=step (.inr w)
   unfold dvF at step⊢
   refine gV ?_
   refine aF fun h=>?_
   refine gV ?_
   rw [k]
   refine aJ ?_
   refine gV ?_
   rw [l]
   refine aJ ?_
   refine gV ?_
   rw [i]
   refine aJ ?_
   refine gV ?_
   refine aT fun h=>?_
   exact zqda19
  .have e:=(f.fin o_).2
   have fin:=fin r
   rw [<-e] at fin
   unfold dvF at fin⊢
   refine gV ?_
   refine aF fun h=>?_
   refine gV ?_
   rw [k]
   refine aJ ?_
   refine gV ?_
   rw [l]
   refine aJ ?_
   refine gV ?_
   rw [i]
   refine aJ ?_
   refine gV ?_
   refine aF fun h=>?_
   exact zqda18
theorem aDd (s Y b a u g c p t:Nat) (G:AVal) (h1:2147483648<=b) (z:b<4294967296) (n:a<4294967296) (B:c<4294967296) (o:t<b*4294967296+a)
  (fin:∀ r,To E fD (.pure (.ret G)) (.code (gQ fD 28) (dvG s Y b a u g c p t ((t*4294967296+c) / (b*4294967296+a)) r) [])):
  ∀ (q r:Nat),Dg b a t c q r->r<4294967296->To E fD (.pure (.ret G)) (.head (stk fD 1) (dvG s Y b a u g c p t q r) []):=by
 intro q
 induction q using Ly with
 | _ q A=>
 intro r f F
 have l:(4294967296:Int)*(r:Int)=((4294967296*r:Nat):Int):=o_
 have i:((4294967296*r:Nat):Int)+(c:Int)=((4294967296*r+c:Nat):Int):=o_
 have k:(q:Int)*(a:Int)=((q*a:Nat):Int):=(Dy q a).symm
 have step:(4294967296<=q\/4294967296*r+c<q*a)->To E fD (.pure (.ret G)) (.code (gQ fD 25) (dvG s Y b a u g c p t q r) []):=fun C=>by
  obtain ⟨D,d⟩:=f.step B o C
  have H:=d.few
  have v:=f.few
  have m:(q:Int)-1=((q-1:Nat):Int):=o_
  have j:(r:Int)+(b:Int)=((r+b:Nat):Int):=o_
  unfold dvG
  by_cases x:4294967296<=r+b
  .have e:=(d.fin (Dg.far n o_ x)).2
   have fin:=fin (r+b)
   rw [<-e] at fin
   refine gV ?_
   rw [m]
   refine aJ ?_
   refine gV ?_
   rw [j]
   refine aJ ?_
   refine gV ?_
   refine aT fun h=>?_
   exact zqda15
  .have next:=A (q-1) o_ (r+b) d o_
   unfold dvG at next
   repeat' first | (refine gN hE ?_;conv=>whnf) | (rw [m];refine aJ ?_) | (rw [j];refine aJ ?_) | exact rfl | refine aY ?_ | refine aN ?_ | refine aT fun h=>?_ | refine aF fun h=>?_ | refine ⟨fun h=>?_,fun h=>?_⟩ | refine aJ ?_ | refine ⟨_,rfl,?_⟩ | refine aD ?_ | fail
   exact zW
 by_cases w:4294967296<=q
 .have step:=step (.inl w)
  unfold dvG at step⊢
  refine gV ?_
  refine aT fun h=>?_
  refine gV ?_
  refine aY ?_
  exact zqda16
 .have I:q*a<=4294967295*4294967295:=Fa o_ o_
  by_cases y:4294967296*r+c<q*a
  .have step:=step (.inr y)
   unfold dvG at step⊢
   refine gV ?_
   refine aF fun h=>?_
   refine gV ?_
   rw [k]
   refine aJ ?_
   refine gV ?_
   rw [l]
   refine aJ ?_
   refine gV ?_
   rw [i]
   refine aJ ?_
   refine gV ?_
   refine aT fun h=>?_
   exact zqda16
  .have e:=(f.fin o_).2
   have fin:=fin r
   rw [<-e] at fin
   unfold dvG at fin⊢
   refine gV ?_
   refine aF fun h=>?_
   refine gV ?_
   rw [k]
   refine aJ ?_
   refine gV ?_
   rw [l]
   refine aJ ?_
   refine gV ?_
   rw [i]
   refine aJ ?_
   refine gV ?_
   refine aF fun h=>?_
   exact zqda15
theorem aGw {a lo y s L:Nat} (d:BL y L) (q:L<=64) (hs:s=64-L) (i:a<y) (hl:lo<18446744073709551616):
  9223372036854775808<=y*2 ^ s/\y*2 ^ s<18446744073709551616/\a*2 ^ s+lo / 2 ^ (64-s)<y*2 ^ s/\lo / 2 ^ (64-s)<2 ^ s/\(a*18446744073709551616+lo) / y=((a*2 ^ s+lo / 2 ^ (64-s))*18446744073709551616+lo*2 ^ s % 18446744073709551616) / (y*2 ^ s):=by
 obtain ⟨m,k,j⟩:=d
 have hp:0<2 ^ s:=Kf d_
 have b:2 ^ (64-s)*2 ^ s=18446744073709551616:=by rw [<-Ib,show 64-s+s=64 by omega]
 have n:2 ^ (L-1)*2 ^ s=9223372036854775808:=by rw [<-Ib,show L-1+s=63 by omega]
 have o:2 ^ L*2 ^ s=18446744073709551616:=by rw [<-Ib,show L+s=64 by omega]
 have p:2 ^ (L-1)*2 ^ s<=y*2 ^ s:=Cd _ k
 have l:y*2 ^ s<2 ^ L*2 ^ s:=Nat.mul_lt_mul_of_pos_right j hp
 have e:lo*2 ^ s / 18446744073709551616=lo / 2 ^ (64-s):=by rw [<-b,Jp _ _ hp]
 have g:=Fu (lo*2 ^ s) 18446744073709551616
 rw [e] at g
 have c:lo / 2 ^ (64-s)<2 ^ s:=by
  refine (Dd (Kf d_)).2 ?_
  rw [Dj,b]
  exact hl
 have f:(a+1)*2 ^ s<=y*2 ^ s:=Cd _ i
 rw [Bx,Ge] at f
 have h:(a*18446744073709551616+lo)*2 ^ s=(a*2 ^ s+lo / 2 ^ (64-s))*18446744073709551616+lo*2 ^ s % 18446744073709551616:=by
  rw [Bx,Bx,Kw]
  omega
 refine ⟨by omega,by omega,by omega,c,?_⟩
 rw [<-h,Jp _ _ hp]
theorem aEz (x s:Nat):(x:Int)*2 ^ Cv (s:Int)=((x*2 ^ s:Nat):Int):=by
 rw [Cz]
 push_cast
 rfl
theorem aAk (x s:Nat):Kh (x:Int) (2 ^ Cv (s:Int))=((x / 2 ^ s:Nat):Int):=hiN x s
theorem aGv (s Y g f u e b q t a r:Nat) (hs:s<=64) (c:q*4294967296+a<18446744073709551616) (p:Y<18446744073709551616) (k:a*Y<=t*4294967296+b) (d:t*4294967296+b-a*Y<18446744073709551616):
  To E fD (.pure (.ret (.tup [uu (q*4294967296+a),uu ((t*4294967296+b-a*Y) / 2 ^ s)]))) (.code (gQ fD 28) (dvG s Y g f u e b q t a r) []):=by
 have l:q*4294967296<18446744073709551616:=Iz (Ik _ _) c
 have m:(q:Int)*4294967296=((q*4294967296:Nat):Int):=o_
 have h:((q*4294967296:Nat):Int)+(a:Int)=((q*4294967296+a:Nat):Int):=o_
 have i:(a:Int)*(Y:Int)=((a*Y:Nat):Int):=(Dy a Y).symm
 have j:IntKind.wrap .u64 (IntKind.wrap .u64 (IntKind.wrap .u64 ((t:Int)*4294967296)+(b:Int))-IntKind.wrap .u64 ((a*Y:Nat):Int))=((t*4294967296+b-a*Y:Nat):Int):=by
  simp only [wu]
  generalize a*Y=z at *
  omega
 unfold dvG
 generalize o:t*4294967296+b-a*Y=R at *
 generalize n:a*Y=P at *
 refine gV ?_
 rw [m]
 refine aJ ?_
 refine gV ?_
 rw [h]
 refine aJ ?_
 refine gV ?_
 refine Js ?_
 refine gV ?_
 refine Js ?_
 refine gV ?_
 rw [i]
 refine Js ?_
 refine gV ?_
 refine Js ?_
 refine gV ?_
 rw [j,aAk]
 refine Aa (Aa o_ (show Cv (s:Int)<=64 by omega)) ?_
 refine gW hE ?_;conv=>whnf
theorem aJV (s Y a d u b f q r:Nat) (G:AVal) (h1:2147483648<=a) (h:a<4294967296) (k:d<4294967296) (y:b<4294967296) (e:f<4294967296) (i:Y=a*4294967296+d) (A:u<Y) (j:q=(u*4294967296+b) / Y)
  (fin:∀ r,To E fD (.pure (.ret G)) (.code (gQ fD 28) (dvG s Y a d u b f q (u*4294967296+b-q*Y) (((u*4294967296+b-q*Y)*4294967296+f) / Y) r) [])):
  To E fD (.pure (.ret G)) (.code (gQ fD 21) (dvF s Y a d u b f q r) []):=by
 have w:q*Y<=u*4294967296+b:=by rw [j];exact Gm ..
 have g:0<Y:=o_
 have c:=NY g j rfl
 have p:(q:Int)*(Y:Int)=((q*Y:Nat):Int):=(Dy q Y).symm
 have v:IntKind.wrap .u64 (IntKind.wrap .u64 (IntKind.wrap .u64 ((u:Int)*4294967296)+(b:Int))-IntKind.wrap .u64 ((q*Y:Nat):Int))=((u*4294967296+b-q*Y:Nat):Int):=by
  simp only [wu]
  generalize q*Y=z at *
  omega
 generalize u*4294967296+b-q*Y=t at *
 have x:=aDd s Y a d u b f q t G h1 h k e (by rw [<-i];exact c) (by rw [<-i];exact fin) (t / a) (t % a) (Dg.zero h1 k e (by rw [<-i];exact c)) (by have:=Dz t (show 0<a by omega);omega)
 have o:=Fu t a
 have l:=KP t a
 have m:((t / a:Nat):Int)*(a:Int)=((t / a*a:Nat):Int):=(Dy _ _).symm
 have n:(t:Int)-((t / a*a:Nat):Int)=((t % a:Nat):Int):=by
  rw [Dj] at o
  generalize t / a*a=z at *
  omega
 have C:t / a*a<=t:=Gm ..
 have B:t / a<=t:=Di ..
 have hm:=Dz t (show 0<a by omega)
 unfold dvF
 unfold dvG at x
 generalize t / a*a=z at *
 generalize t / a=q2 at *
 generalize t % a=r2 at *
 generalize q*Y=P at *
 refine gV ?_
 refine Js ?_
 refine gV ?_
 refine Js ?_
 refine gV ?_
 rw [p]
 refine Js ?_
 refine gV ?_
 refine Js ?_
 refine gV ?_
 rw [v]
 refine Aa o_ ?_
 refine gV ?_
 rw [l]
 refine aJ ?_
 refine gV ?_
 rw [m]
 refine aJ ?_
 refine gV ?_
 rw [n]
 exact zW
theorem aGu (b lo y s Y H Q U A a e d i q r z:Nat) (G:AVal) (M:0<b) (R:b<y) (hs:s<=63) (c:aA Tryz.prog 319 [uu y] [] (.ret (ii s)) [])
  (P:Y<18446744073709551616) (v:H<=U) (S:U<Y) (N:Q<=U) (k:(y:Int)*2 ^ Cv (s:Int)=(Y:Int)) (I:(b:Int)*2 ^ Cv (s:Int)=(H:Int)) (B:Kh (lo:Int) (2 ^ Cv ((64-s:Nat):Int))=(Q:Int))
  (l:eX .or .u64 (H:Int) (Q:Int)=(U:Int)) (m:IntKind.wrap .u64 ((lo:Int)*2 ^ (min (Cv (s:Int)) (IntKind.bits .u64)))=(A:Int))
  (u:Kh (Y:Int) (2 ^ Cv 32)=(a:Int)) (n:eX .and .u64 (Y:Int) 4294967295=(e:Int)) (o:Kh (A:Int) (2 ^ Cv 32)=(d:Int)) (D:eX .and .u64 (A:Int) 4294967295=(i:Int))
  (p:0<a) (C:Hd (U:Int) (a:Int)=(q:Int)) (F:(q:Int)*(a:Int)=(z:Int)) (t:(U:Int)-(z:Int)=(r:Int)) (L:z<=U) (K:q<=U) (O:r<=U)
  (J:To E fD (.pure (.ret G)) (.head (stk fD 0) (dvF s Y a e U d i q r) [])):aA Tryz.prog 306 [uu b,uu lo,uu y] [] (.ret G) []:=by
 have w:((y:Int)==0)=false:=beq_eq_false_iff_ne.2 o_
 have j:((b:Int)==0)=false:=beq_eq_false_iff_ne.2 o_
 have x:(64:Int)-(s:Int)=((64-s:Nat):Int):=o_
 unfold dvF at J
 refine c_ Tryz.f306 fun _=>?_
 refine gV ?_
 refine Aa (fun h=>absurd (w.symm.trans h) d_) (fun _=>?_)
 refine gV ?_
 refine aF fun h=>?_
 refine gV ?_
 refine Aa (fun h=>absurd (j.symm.trans h) d_) (fun _=>?_)
 refine gV ?_
 refine .pure _ [] c ?_
 refine gV ?_
 refine aJ ?_
 refine gV ?_
 refine Aa o_ ?_
 refine gV ?_
 rw [k]
 refine Fo (Aa (Aa (show Cv (s:Int)<=64 by omega) (Aa (by simp only [bO];omega) (by simp only [bA];omega))) ?_)
 refine gV ?_
 rw [u]
 refine Aa d_ ?_
 refine gV ?_
 rw [n]
 refine Aa o_ ?_
 refine gV ?_
 rw [I]
 refine Fo (Aa (Aa (show Cv (s:Int)<=64 by omega) (Aa (by simp only [bO];omega) (by simp only [bA];omega))) ?_)
 refine gV ?_
 rw [x]
 refine aJ ?_
 refine gV ?_
 rw [B]
 refine Aa (Aa o_ (show Cv ((64-s:Nat):Int)<=64 by omega)) ?_
 refine gV ?_
 rw [l]
 refine Aa o_ ?_
 refine gV ?_
 refine Js ?_
 refine gV ?_
 rw [m,o]
 refine Aa d_ ?_
 refine gV ?_
 rw [D]
 refine Aa o_ ?_
 refine gV ?_
 rw [C]
 refine aJ ?_
 refine gV ?_
 rw [F]
 refine aJ ?_
 refine gV ?_
 rw [t]
 exact zW
theorem RG (b lo y:Nat) (h0:0<b) (Z:b<y) (W:y<18446744073709551616) (hl:lo<18446744073709551616):∃ m:Int,aA Tryz.prog 306 [uu b,uu lo,uu y] [] (.ret (.tup [uu ((b*18446744073709551616+lo) / y),.int .u64 m])) []:=by
 obtain ⟨L,G,hc⟩:=X0 y o_ W
 have g:=G.le W
 have B:=aKO y L g hc
 have hL1:=G.1
 obtain ⟨s,hs⟩:∃ s,s=64-L:=⟨_,rfl⟩
 obtain ⟨n1,n2,C,S,V⟩:=aGw G g hs Z hl
 rw [<-hs] at B
 rw [V]
 have hA:lo*2 ^ s % 18446744073709551616<18446744073709551616:=Dz _ d_
 have d:eX .or .u64 ((b*2 ^ s:Nat):Int) ((lo / 2 ^ (64-s):Nat):Int)=((b*2 ^ s+lo / 2 ^ (64-s):Nat):Int):=by
  have T:=Hz S b
  rw [Dj] at T
  rw [T]
  generalize y*2 ^ s=Y at *
  generalize b*2 ^ s=H at *
  generalize lo / 2 ^ (64-s)=Q at *
  exact DQ .u64 H Q (by simp only [bA];omega) (by simp only [bA];omega)
 have e:IntKind.wrap .u64 ((lo:Int)*2 ^ (min (Cv (s:Int)) (IntKind.bits .u64)))=((lo*2 ^ s % 18446744073709551616:Nat):Int):=by
  have h:=aEz lo s
  rw [Cz] at h
  rw [wu,Cz,Hq (show s<=IntKind.bits .u64 from (show s<=64 by omega)),h]
  generalize lo*2 ^ s=z
  omega
 have c:=aEz y s
 have j:=aEz b s
 have i:=aAk lo (64-s)
 clear S
 generalize y*2 ^ s=Y at *
 generalize b*2 ^ s=H at *
 generalize lo / 2 ^ (64-s)=Q at *
 generalize lo*2 ^ s % 18446744073709551616=A at *
 have O:H<=H+Q:=Ik ..
 have R:Q<=H+Q:=Nat.le_add_left ..
 generalize H+Q=U at *
 have n:2147483648<=Y / 4294967296:=by clear c j i d e;omega
 have p:Y / 4294967296<4294967296:=by clear c j i d e;omega
 have o:Y % 4294967296<4294967296:=Dz _ d_
 have k:A / 4294967296<4294967296:=by clear c j i d e;omega
 have x:A % 4294967296<4294967296:=Dz _ d_
 have a:Y=Y / 4294967296*4294967296+Y % 4294967296:=by clear c j i d e;omega
 have X:U*18446744073709551616+A=U*18446744073709551616+A / 4294967296*4294967296+A % 4294967296:=by clear c j i d e;omega
 have M:=fI Y
 have I:=MY Y n2
 have J:=fI A
 have P:=MY A hA
 have l:0<Y:=o_
 rw [X]
 clear X V
 generalize A / 4294967296=a1 at *
 generalize A % 4294967296=a0 at *
 have two:=aGD (Y:=Y) (u:=U) (v:=a1) (w:=a0) l rfl rfl rfl x
 have t:(U*18446744073709551616+a1*4294967296+a0) / Y<18446744073709551616:=(Dd l).2 (by clear c j i d e M I J P two a;omega)
 have D:(((U*4294967296+a1-(U*4294967296+a1) / Y*Y)*4294967296+a0) / Y)*Y<=(U*4294967296+a1-(U*4294967296+a1) / Y*Y)*4294967296+a0:=Gm ..
 have K:=NY (N:=(U*4294967296+a1-(U*4294967296+a1) / Y*Y)*4294967296+a0) l rfl rfl
 have tail:=fun r=>aGv s Y (Y / 4294967296) (Y % 4294967296) U a1 a0 ((U*4294967296+a1) / Y) (U*4294967296+a1-(U*4294967296+a1) / Y*Y) (((U*4294967296+a1-(U*4294967296+a1) / Y*Y)*4294967296+a0) / Y) r o_ (by rw [two];exact t) n2 D (Mq K n2)
 rw [two] at tail
 have mid:=fun r=>aJV s Y (Y / 4294967296) (Y % 4294967296) U a1 a0 ((U*4294967296+a1) / Y) r _ n p o k x a C rfl tail
 have q:0<Y / 4294967296:=o_
 have F:=Dz U q
 have lp:=aDe s Y (Y / 4294967296) (Y % 4294967296) U a1 a0 _ n p o k (by rw [<-a];exact C) (by rw [<-a];exact mid) (U / (Y / 4294967296)) (U % (Y / 4294967296)) (Dg.zero n o k (by rw [<-a];exact C)) (Mq F p)
 have et:=Fu U (Y / 4294967296)
 exact ⟨_,aGu b lo y s Y H Q U A _ _ a1 a0 _ _ (U / (Y / 4294967296)*(Y / 4294967296)) _ h0 Z o_ B n2 O C R c j i d e M I J P q (KP _ _) (Dy _ _).symm (by
  rw [Dj] at et
  generalize U / (Y / 4294967296)*(Y / 4294967296)=z at *
  clear c j i d e M I J P a tail mid lp two
  omega) (Gm ..) (Di ..) (Kx ..) lp⟩
theorem aH4 (x y:Nat):Int.tmod (x:Int) (y:Int)=((x % y:Nat):Int):=rfl
theorem RF (lo y:Nat) (d:0<y) (i:y<18446744073709551616) (hl:lo<18446744073709551616):aA Tryz.prog 306 [uu 0,uu lo,uu y] [] (.ret (.tup [uu (lo / y),uu (lo % y)])) []:=by
 have c:((y:Int)==0)=false:=beq_eq_false_iff_ne.2 o_
 have b:=KP lo y
 have a:=aH4 lo y
 have e:lo / y<=lo:=Di ..
 have j:=Kx lo y
 generalize lo / y=q at *
 generalize lo % y=r at *
 refine c_ Tryz.f306 fun _=>?_
 refine gV ?_
 refine Aa (fun h=>absurd (c.symm.trans h) d_) (fun _=>?_)
 repeat' first | (refine gN hE ?_;conv=>whnf) | (rw [b];refine aJ ?_) | (rw [a];refine aJ ?_) | exact rfl | refine aY ?_ | refine aN ?_ | refine aT fun h=>?_ | refine aF fun h=>?_ | refine ⟨fun h=>?_,fun h=>?_⟩ | refine aJ ?_ | refine ⟨_,rfl,?_⟩ | refine aD ?_ | fail
 rw [a]
theorem aDf (a lo y:Nat) (b:a<y) (c:y<18446744073709551616) (hl:lo<18446744073709551616):∃ m:Int,aA Tryz.prog 306 [uu a,uu lo,uu y] [] (.ret (.tup [uu ((a*18446744073709551616+lo) / y),.int .u64 m])) []:=by
 rcases Fm a with rfl | h
 .rw [Kv,Bw]
  exact ⟨_,RF lo y b c hl⟩
 .exact RG a lo y h b c hl
theorem aJ7 (a b:Nat) (p:a<18446744073709551616) (k:b<18446744073709551616) (r:Nat) (c:qZ a b=r):aA Tryz.prog 282 [uu a,uu b] [] (.ret (uu r)) []:=by
 unfold qZ at c
 by_cases e:a=0
 .subst e
  have c:0=r:=c
  subst c
  exact c_ Tryz.f282 fun _=>zW
 .have i:((a:Int)==0)=false:=beq_eq_false_iff_ne.2 o_
  rw [if_neg e] at c
  have j:=fI a
  obtain ⟨W,o⟩:∃ W,W=a % 4294967296*4294967296:=⟨_,rfl⟩
  have l:IntKind.wrap .u64 ((a:Int)*2 ^ (min (Cv 32) (IntKind.bits .u64)))=(W:Int):=by
   show IntKind.wrap .u64 ((a:Int)*4294967296)=_
   rw [wu]
   omega
  by_cases h1:b<=a / 4294967296
  .have c:18446744073709551615=r:=by
    rcases Fm b with rfl | hp
    .exact c
    .rw [if_neg o_,aJZ hp h1] at c
     exact c
   subst c
   generalize a / 4294967296=H at *
   refine c_ Tryz.f282 fun _=>?_
   refine gV ?_
   refine Aa (fun h=>absurd (i.symm.trans h) d_) (fun _=>?_)
   refine gV ?_
   rw [j]
   refine Aa d_ ?_
   refine gV ?_
   refine Aa d_ ?_
   refine gV ?_
   refine Js ?_
   exact zW
  .obtain ⟨m,d⟩:=aDf (a / 4294967296) W b o_ k o_
   have n:a / 4294967296*18446744073709551616+W=a*4294967296:=o_
   rw [n] at d
   rw [if_neg o_,(aJY o_).2] at c
   rw [c] at d
   generalize a / 4294967296=H at *
   refine c_ Tryz.f282 fun _=>?_
   refine gV ?_
   refine Aa (fun h=>absurd (i.symm.trans h) d_) (fun _=>?_)
   refine gV ?_
   rw [j]
   refine Aa d_ ?_
   refine gV ?_
   refine Aa d_ ?_
   refine gV ?_
   refine Js ?_
   refine gV ?_
   refine aF fun h=>?_
   rw [l]
   exact zW
theorem aHJ (a b:Nat) (c:a<18446744073709551616) (d:b<18446744073709551616):aA Tryz.prog 282 [uu a,uu b] [] (.ret (uu (qZ a b))) []:=aJ7 a b c d _ rfl
theorem UX (a b:Nat) (d:a<18446744073709551616) (c:b<18446744073709551616):aA Tryz.prog 309 [uu a,uu b] [] (.ret (uu (qZ a b))) []:=by
 have h:=aHJ a b d c
 generalize qZ a b=r at h
 exact c_ Tryz.f309 fun _=>zW
theorem AQ (a b:Int) (i:a<=9223372036854775807) (e:b<=9223372036854775807):aA Tryz.prog 236 [ii a,ii b] [] (.ret (uu (sK a b))) []:=by
 have h:=aHJ (max a 0).toNat (max b 0).toNat o_ o_
 unfold sK
 have d:(((max a 0).toNat:Nat):Int)=max a 0:=o_
 have c:(((max b 0).toNat:Nat):Int)=max b 0:=o_
 generalize qZ (max a 0).toNat (max b 0).toNat=r at h
 unfold uu at h
 rw [d,c] at h
 exact c_ Tryz.f236 fun _=>zW
theorem oL (n:Nat):pN n=if n<18446744073709551616 then n else 18446744073709551615:=rfl
theorem aEZ {s x y l:Nat}:pN (s+x+y+l)=if iR (iR s x) y=18446744073709551615 then 18446744073709551615 else iR (iR (iR s x) y) l:=by
 unfold iR
 simp only [oL]
 repeat' split
 all_goals omega
noncomputable abbrev fRM:Func:=Tryz.f138
def rmF (ah b a bl:Nat):List (Nat×AVal):=[(5,uu ah),(6,uu b),(7,uu a),(8,uu bl)]
theorem aET (ah a c bl r:Nat) (z:ah<4294967296) (q:a<4294967296) (i:c<4294967296) (t:bl<4294967296) (b:pN (ah*c*4294967296+ah*bl+a*c+a*bl / 4294967296)=r):
  To E fRM (.pure (.ret (uu r))) (.code (gQ fRM 5) (rmF ah a c bl) []):=by
 have e:=aFr ah c
 have k:=aFr ah bl
 have o:=aFr a c
 have j:=aFr a bl
 have l1:ah*c<=4294967295*4294967295:=Fa o_ o_
 have l2:ah*bl<=4294967295*4294967295:=Fa o_ o_
 have w:a*c<=4294967295*4294967295:=Fa o_ o_
 have y:a*bl<=4294967295*4294967295:=Fa o_ o_
 have n:Hd ((a*bl:Nat):Int) 4294967296=((a*bl / 4294967296:Nat):Int):=tdN (a*bl) 4294967296
 have x:a*bl / 4294967296<4294967296:=o_
 unfold rmF
 generalize ah*c=P at *
 generalize ah*bl=X at *
 generalize a*c=Y at *
 generalize a*bl=Z at *
 generalize Z / 4294967296=L at *
 by_cases h1:4294967296<=P
 .have b:18446744073709551615=r:=by rw [oL,if_neg o_] at b;exact b
  subst b
  refine gV ?_
  rw [e]
  exact zW
 .have g:(P:Int)*4294967296=((P*4294967296:Nat):Int):=o_
  obtain ⟨S,p⟩:∃ S,S=P*4294967296:=⟨_,rfl⟩
  rw [<-p] at b g
  have m:=kW S X o_ o_
  have v:=A0 S X
  rw [aEZ] at b
  generalize iR S X=S1 at *
  have l:=kW S1 Y o_ o_
  have s:=A0 S1 Y
  generalize iR S1 Y=d at *
  by_cases f:d=18446744073709551615
  .rw [if_pos f] at b
   subst b
   have i:((d:Int)==18446744073709551615)=true:=by rw [f];rfl
   exact zqda0
  .rw [if_neg f] at b
   have u:=kW d L o_ o_
   rw [b] at u
   have i:((d:Int)==18446744073709551615)=false:=beq_eq_false_iff_ne.2 o_
   exact zqda0
theorem P0 (a b:Nat) (C:a<18446744073709551616) (z:b<18446744073709551616) (r:Nat) (d:iX a b=r):aA Tryz.prog 138 [uu a,uu b] [] (.ret (uu r)) []:=by
 have t:Hd (a:Int) 4294967296=((a / 4294967296:Nat):Int):=tdN a 4294967296
 have v:Int.tmod (a:Int) 4294967296=((a % 4294967296:Nat):Int):=tmN a 4294967296
 have u:Hd (b:Int) 4294967296=((b / 4294967296:Nat):Int):=tdN b 4294967296
 have y:Int.tmod (b:Int) 4294967296=((b % 4294967296:Nat):Int):=tmN b 4294967296
 have o:a=a / 4294967296*4294967296+a % 4294967296:=o_
 have n:b=b / 4294967296*4294967296+b % 4294967296:=o_
 have l:a % 4294967296<4294967296:=Dz _ d_
 have m:b % 4294967296<4294967296:=Dz _ d_
 have j:a / 4294967296<4294967296:=o_
 have i:b / 4294967296<4294967296:=o_
 have p:=aE0 o n l m
 unfold iX at d
 rw [p] at d
 clear p o n
 have tail:=aET _ _ _ _ r j l i m d
 unfold rmF at tail
 generalize a / 4294967296=ah at *
 generalize a % 4294967296=al at *
 generalize b / 4294967296=c at *
 generalize b % 4294967296=bl at *
 refine c_ Tryz.f138 fun _=>?_
 refine gV ?_
 refine Aa d_ ?_
 refine gV ?_
 rw [t]
 refine aJ ?_
 refine gV ?_
 refine Aa d_ ?_
 refine gV ?_
 rw [v]
 refine Aa d_ ?_
 refine gV ?_
 rw [u]
 refine aJ ?_
 refine gV ?_
 refine Aa d_ ?_
 refine gV ?_
 rw [y]
 by_cases h1:0<ah
 .refine aT fun h=>?_
  by_cases s:0<c
  .have w:Hd 18446744073709551615 (c:Int)=((18446744073709551615 / c:Nat):Int):=tdN 18446744073709551615 c
   have x:Hd ((18446744073709551615 / c:Nat):Int) 4294967296=((18446744073709551615 / c / 4294967296:Nat):Int):=tdN (18446744073709551615 / c) 4294967296
   have e:=aA9 (ah:=ah) s
   have q:18446744073709551615 / c<=18446744073709551615:=Di ..
   have k:18446744073709551615 / c / 4294967296<=18446744073709551615 / c:=Di ..
   generalize 18446744073709551615 / c=Q at *
   generalize Q / 4294967296=Q2 at *
   refine gV ?_
   refine aT fun h=>?_
   refine gV ?_
   refine Aa o_ ?_
   refine gV ?_
   rw [w]
   refine aJ ?_
   refine gV ?_
   refine Aa d_ ?_
   refine gV ?_
   rw [x]
   refine aJ ?_
   refine gV ?_
   by_cases h3:Q2<ah
   .have B:=e.1 h3
    have d:18446744073709551615=r:=by
     rw [oL,if_neg] at d
     .exact d
     .generalize ah*c=P at *
      omega
    subst d
    exact zW
   .refine aF fun h=>?_
    exact zqda8
  .refine gV ?_
   refine aF fun h=>?_
   refine gV ?_
   refine aN ?_
   exact zqda8
 .refine aF fun h=>?_
  refine gV ?_
  refine aN ?_
  refine gV ?_
  refine aN ?_
  exact zqda8
theorem rQ (a b:Nat) (c:a<18446744073709551616) (d:b<18446744073709551616):aA Tryz.prog 138 [uu a,uu b] [] (.ret (uu (iX a b))) []:=P0 a b c d _ rfl
noncomputable abbrev fRV:Func:=Tryz.f267
def ovF (a b q r:Nat) (i:Int):List (Nat×AVal):=[(0,uu a),(1,uu b),(5,uu q),(6,uu r),(7,ii i)]
def E0 (a i:Nat):Nat:=a*4294967296 / 2 ^ i % 2
theorem VV (a i:Nat):E0 a i<2:=Dz _ d_
theorem aBA (n:Nat):eX .or .u64 ((2*n:Nat):Int) 1=if 2*n<18446744073709551616 then ((2*n+1:Nat):Int) else eX .or .u64 ((2*n:Nat):Int) 1:=by
 split
 .have h:=DQ .u64 (2*n) 1 (by simp only [bA];omega) d_
  have a:2*n ||| 1=2*n+1:=by
   have:=Hz (i:=1) (b:=1) d_ n
   simpa using this.symm
  rw [a] at h
  exact h
 .rfl
theorem DR (z:Nat) (hz:z<18446744073709551616):eX .and .u64 (z:Int) 1=((z % 2:Nat):Int):=by
 have h:=xS .u64 z 1 (by simp only [bA];omega) d_
 rw [Nat.and_one_is_mod] at h
 exact h
theorem TV (a b q r v i:Nat) (top:Bool) (w:Int) (G:AVal) (o:0<b) (l:b<18446744073709551616) (p:q<18446744073709551616) (t:i<96) (s:0<=w/\w<=18446744073709551615) (k:top=decide (18446744073709551616<=v)) (f:(v:Int)=w+(if top=true then 18446744073709551616 else 0)) (m:v<2*b)
  (ret:9223372036854775808<=q->G=uu 18446744073709551615)
  (next:q<9223372036854775808->To E fRV (.pure (.ret G)) (.head (stk fRV 0) (ovF a b (if b<=v then 2*q+1 else 2*q) (if b<=v then v-b else v) ((i:Int)-1)) [])):
  To E fRV (.pure (.ret G)) (.code (gQ fRV 10) [(0,uu a),(1,uu b),(5,uu q),(6,.int .u64 w),(7,ii i),(8,.bool top)] []):=by
 have g:=aBA q
 cases top with
 | true=>
  have h1:=(of_decide_eq_true k.symm)
  have f:(v:Int)=w+18446744073709551616:=f
  have j:IntKind.wrap .u64 (w-(b:Int))=((v-b:Nat):Int):=by rw [wu];omega
  rw [if_pos o_,if_pos o_] at next
  refine gV ?_
  refine aY ?_
  refine gV ?_
  refine aY ?_
  refine gV ?_
  refine Js ?_
  rw [j]
  refine gV ?_
  by_cases c:9223372036854775808<=q
  .have e:=ret c
   subst e
   exact zW
  .have next:=next o_
   have d:(q:Int)*2 ^ Cv 1=((2*q:Nat):Int):=by
    show (q:Int)*2=_
    omega
   refine aF fun h=>?_
   refine gV ?_
   refine Aa d_ ?_
   refine gV ?_
   rw [d]
   refine Fo (Aa (Aa d_ (Aa (by simp only [bO];omega) (by simp only [bA];omega))) ?_)
   refine gV ?_
   refine aY ?_
   rw [if_pos o_] at g
   refine gV ?_
   rw [g]
   exact zW
 | false=>
  have h1:=(of_decide_eq_false k.symm)
  have f:(v:Int)=w+0:=f
  have n:w=(v:Int):=o_
  subst n
  by_cases h3:b<=v
  .rw [if_pos h3,if_pos h3] at next
   have j:(v:Int)-(b:Int)=((v-b:Nat):Int):=o_
   refine gV ?_
   refine aN ?_
   refine gV ?_
   refine aT fun h=>?_
   refine gV ?_
   rw [j]
   refine aJ ?_
   refine gV ?_
   by_cases c:9223372036854775808<=q
   .have e:=ret c
    subst e
    exact zW
   .have next:=next o_
    have d:(q:Int)*2 ^ Cv 1=((2*q:Nat):Int):=by
     show (q:Int)*2=_
     omega
    refine aF fun h=>?_
    refine gV ?_
    refine Aa d_ ?_
    refine gV ?_
    rw [d]
    refine Fo (Aa (Aa d_ (Aa (by simp only [bO];omega) (by simp only [bA];omega))) ?_)
    refine gV ?_
    refine aT fun h=>?_
    rw [if_pos o_] at g
    refine gV ?_
    rw [g]
    exact zW
  .rw [if_neg h3,if_neg h3] at next
   refine gV ?_
   refine aN ?_
   refine gV ?_
   refine aF fun h=>?_
   refine gV ?_
   by_cases c:9223372036854775808<=q
   .have e:=ret c
    subst e
    exact zW
   .have next:=next o_
    have d:(q:Int)*2 ^ Cv 1=((2*q:Nat):Int):=by
     show (q:Int)*2=_
     omega
    refine aF fun h=>?_
    refine gV ?_
    refine Aa d_ ?_
    refine gV ?_
    rw [d]
    refine Fo (Aa (Aa d_ (Aa (by simp only [bO];omega) (by simp only [bA];omega))) ?_)
    exact zW
theorem aBu (a b q k i:Nat) (top:Bool) (G:AVal) (p:a<18446744073709551616) (r:i<96) (n:2*k<18446744073709551616) (tail:To E fRV (.pure (.ret G)) (.code (gQ fRV 10) [(0,uu a),(1,uu b),(5,uu q),(6,uu (2*k+E0 a i)),(7,ii i),(8,.bool top)] [])):
  To E fRV (.pure (.ret G)) (.code (gQ fRV 8) [(0,uu a),(1,uu b),(5,uu q),(6,uu (2*k)),(7,ii i),(8,.bool top)] []):=by
 have j:=aBA k
 rw [if_pos n] at j
 by_cases e:32<=i
 .have f:(i:Int)-32=((i-32:Nat):Int):=o_
  have l:=aAk a (i-32)
  have g:eX .and .u64 ((a / 2 ^ (i-32):Nat):Int) 1=(E0 a i:Int):=by
   unfold E0
   rw [aKa a e]
   exact DR _ (Iz (Di ..) p)
  have o:=VV a i
  generalize a / 2 ^ (i-32)=z at *
  generalize E0 a i=t at *
  by_cases d:t=1
  .subst d
   have c:(((1:Nat):Int)==1)=true:=rfl
   have m:((2*k:Nat):Int)+1=((2*k+1:Nat):Int):=rfl
   refine gV ?_
   refine aT fun h=>?_
   refine gV ?_
   rw [f]
   refine aJ ?_
   refine gV ?_
   refine aJ ?_
   refine gV ?_
   rw [l]
   refine Aa (Aa o_ (show Cv ((i-32:Nat):Int)<=64 by omega)) ?_
   refine gV ?_
   rw [g]
   refine Aa (fun _=>?_) (fun h=>absurd (c.symm.trans h) d_)
   refine cD hE 12 ?_;conv=>whnf
   rw [j]
   exact zqda21
  .have d:t=0:=o_
   subst d
   have c:(((0:Nat):Int)==1)=false:=rfl
   refine gV ?_
   refine aT fun h=>?_
   refine gV ?_
   rw [f]
   refine aJ ?_
   refine gV ?_
   refine aJ ?_
   refine gV ?_
   rw [l]
   refine Aa (Aa o_ (show Cv ((i-32:Nat):Int)<=64 by omega)) ?_
   refine gV ?_
   rw [g]
   refine Aa (fun h=>absurd (c.symm.trans h) d_) (fun _=>?_)
   refine cD hE 2 ?_;conv=>whnf
   exact zqda21
 .have hz:E0 a i=0:=aJ9 a o_
  rw [hz,Em] at tail
  refine gV ?_
  refine aF fun h=>?_
  refine gV ?_
  refine aN ?_
  refine cD hE 2 ?_;conv=>whnf
  exact zqda21
theorem aE8 (a b:Nat) (y:a<18446744073709551616) (e:0<b) (d:b<18446744073709551616) (R:Nat) (f:pN (a*4294967296 / b)=R):∀ (m q r:Nat),m<=96->r<b->q<18446744073709551616->a*4294967296 / 2 ^ m=q*b+r->
  To E fRV (.pure (.ret (uu R))) (.head (stk fRV 0) (ovF a b q r ((m:Int)-1)) []):=by
 intro m
 induction m with
 | zero=>
  intro q r hm t g k
  have n:=aBs t k
  rw [<-n,oL,if_pos g] at f
  subst f
  unfold ovF
  refine gV ?_
  exact zW
 | succ i x=>
  intro q r hm t g k
  have w:=VV a i
  obtain ⟨s,j⟩:=XP e t k
  have A:a*4294967296 / 2 ^ i % 2=E0 a i:=rfl
  rw [A] at s j
  obtain ⟨v,o⟩:∃ v,v=2*r+E0 a i:=⟨_,rfl⟩
  rw [<-o] at s j
  have ret:9223372036854775808<=q->uu R=uu 18446744073709551615:=fun h=>by
   have:=aBt e k h
   rw [oL,if_neg o_] at f
   rw [<-f]
  have next:q<9223372036854775808->To E fRV (.pure (.ret (uu R))) (.head (stk fRV 0) (ovF a b (if b<=v then 2*q+1 else 2*q) (if b<=v then v-b else v) ((i:Int)-1)) []):=fun h=>by
   by_cases c:b<=v
   .rw [if_pos c,if_pos c]
    exact x (2*q+1) (v-b) o_ (j c).2 o_ (j c).1
   .rw [if_neg c,if_neg c]
    exact x (2*q) v o_ o_ o_ (s o_)
  have z:((i+1:Nat):Int)-1=(i:Int):=o_
  unfold ovF
  rw [z]
  by_cases h1:9223372036854775808<=r
  .have tail:=TV a b q r v i true (2*(r-9223372036854775808)+E0 a i:Nat) (uu R) e d g o_ o_ (decide_eq_true o_).symm (by rw [if_pos rfl];omega) o_ ret next
   have l:=aBu a b q (r-9223372036854775808) i true (uu R) y o_ o_ tail
   have u:IntKind.wrap .u64 ((r:Int)*2 ^ (min (Cv 1) (IntKind.bits .u64)))=((2*(r-9223372036854775808):Nat):Int):=by
    show IntKind.wrap .u64 ((r:Int)*2)=_
    rw [wu]
    omega
   have p:decide ((9223372036854775808:Int)<=(r:Int))=true:=decide_eq_true o_
   refine gV ?_
   refine aT fun h=>?_
   refine gV ?_
   rw [p]
   refine Aa d_ ?_
   refine gV ?_
   refine Js ?_
   rw [u]
   exact zqda25
  .have tail:=TV a b q r v i false (2*r+E0 a i:Nat) (uu R) e d g o_ o_ (decide_eq_false o_).symm (by rw [if_neg d_];omega) o_ ret next
   have l:=aBu a b q r i false (uu R) y o_ o_ tail
   have u:(r:Int)*2 ^ Cv 1=((2*r:Nat):Int):=by
    show (r:Int)*2=_
    omega
   have p:decide ((9223372036854775808:Int)<=(r:Int))=false:=decide_eq_false o_
   refine gV ?_
   refine aT fun h=>?_
   refine gV ?_
   rw [p]
   refine Aa d_ ?_
   refine gV ?_
   rw [u]
   refine Fo (Aa (Aa d_ (Aa (by simp only [bO];omega) (by simp only [bA];omega))) ?_)
   exact zqda25
theorem TU (a b:Nat) (i:a<18446744073709551616) (d:0<b) (c:b<18446744073709551616):aA Tryz.prog 267 [uu a,uu b] [] (.ret (uu (pN (a*4294967296 / b)))) []:=by
 have e:a*4294967296 / 2 ^ 96=0*b+0:=by
  rw [Jr]
  .simp
  .have:(2:Nat) ^ 96=18446744073709551616*4294967296:=by decide
   omega
 have h:=aE8 a b i d c _ rfl 96 0 0 o_ d o_ e
 generalize pN (a*4294967296 / b)=R at *
 unfold ovF at h
 exact c_ Tryz.f267 fun _=>zW
theorem FO (a b:Nat) (e:a<18446744073709551616) (d:b<18446744073709551616):aA Tryz.prog 299 [uu a,uu b] [] (.ret (uu (qZ a b))) []:=by
 unfold qZ
 by_cases h1:a=0
 .subst h1
  exact zqda14
 .have h:((a:Int)==0)=false:=beq_eq_false_iff_ne.2 o_
  rw [if_neg h1]
  by_cases c:b=0
  .subst c
   exact zqda14
  .have j:((b:Int)==0)=false:=beq_eq_false_iff_ne.2 o_
   rw [if_neg c]
   have i:=TU a b e o_ d
   generalize pN (a*4294967296 / b)=R at *
   exact zqda14
theorem rP (a b:Int) (j:a<=9223372036854775807) (i:b<=9223372036854775807):aA Tryz.prog 209 [ii a,ii b] [] (.ret (uu (sK a b))) []:=by
 unfold sK qZ
 by_cases h1:a<=0
 .rw [if_pos o_]
  exact zqda11
 .rw [if_neg o_]
  by_cases h:b<=0
  .rw [if_pos o_]
   exact zqda11
  .rw [if_neg o_]
   have c:=TU (max a 0).toNat (max b 0).toNat o_ o_ o_
   have e:(((max a 0).toNat:Nat):Int)=a:=o_
   have d:(((max b 0).toNat:Nat):Int)=b:=o_
   generalize pN ((max a 0).toNat*4294967296 / (max b 0).toNat)=R at *
   unfold uu at c
   rw [e,d] at c
   exact zqda11
def RL:List Nat:=[3037000499,3611622602,3938502375,4112874772,4202935002,4248701964,4271771996,4283353945,4289156689,4292061009,4293513906,4294240539,4294603902,4294785595,4294876444,4294921869]
abbrev KS:List AVal:=RL.map uu
def xO (f x i:Nat):Nat:=if f.testBit (15-i)=true then iX x ((RL[i]?).getD 0) else x
def aJD (f:Nat):Nat:=(Dh 16).foldl (xO f) 4294967296
def lS (age half:Int):Nat:=
 if 63<(max age 0).toNat / (max half 1).toNat then 0 else aJD (sK (((max age 0).toNat % (max half 1).toNat:Nat):Int) ((max half 1).toNat:Int) / 65536) / 2 ^ ((max age 0).toNat / (max half 1).toNat)
theorem aG5 (f k:Nat):f &&& 2 ^ k=if f.testBit k=true then 2 ^ k else 0:=by
 refine Nat.eq_of_testBit_eq fun j=>?_
 rw [Nat.testBit_and,Kt]
 by_cases h:k=j
 .subst h
  cases f.testBit k<;>simp
 .cases f.testBit k<;>simp [h,Kt]
theorem RJ {i:Nat} (h:i<16):∃ p:Nat,RL[i]? =some p/\p<=4294967296/\KS[i]? =some (uu p):=by
 have hl:RL.length=16:=rfl
 refine ⟨RL[i],Ab o_,?_,by show (RL.map uu)[i]? =_;rw [Bj,Ab o_];rfl⟩
 have:∀ p∈RL,p<=4294967296:=by decide
 exact this _ (Bb _)
theorem aBS {x p:Nat} (a:x<=4294967296) (hp:p<=4294967296):iX x p<=4294967296:=by
 unfold iX
 have h1:x*p<=4294967296*4294967296:=Fa a hp
 generalize x*p=z at *
 rw [oL]
 split<;>omega
theorem JA {f x i:Nat} (c:i<16) (a:x<=4294967296):xO f x i<=4294967296:=by
 unfold xO
 obtain ⟨p,h1,b,_⟩:=RJ c
 rw [h1]
 split
 .exact aBS a b
 .exact a
theorem U5 (f:Nat):∀ (l:List Nat) (x:Nat),(∀ i∈l,i<16)->x<=4294967296->l.foldl (xO f) x<=4294967296
 | [],x,_,hx=>hx
 | i::l,x,h,hx=>U5 f l _ (fun j a=>h j (Bd _ a)) (JA (h i (Ax ..)) hx)
theorem U4 (f:Nat):aJD f<=4294967296:=U5 f _ _ (fun i a=>Ji.1 a) (Ba _)
theorem U6 (age half:Int):lS age half<=4294967296:=by
 unfold lS
 split
 .omega
 .exact Co (Di ..) (U4 _)
theorem kN (a b:Int):sK a b<18446744073709551616:=aGC _ _
theorem B0 (f:Nat) {i:Nat} (h:i<16) (x:Nat):((Dh 16).drop i).foldl (xO f) x=((Dh 16).drop (i+1)).foldl (xO f) (xO f x i):=by
 rw [Ac (by simpa using h)]
 simp
theorem OW {i:Nat} (h:i<16):i=0\/i=1\/i=2\/i=3\/i=4\/i=5\/i=6\/i=7\/i=8\/i=9\/i=10\/i=11\/i=12\/i=13\/i=14\/i=15:=o_
theorem O0:aA Tryz.prog 237 [] [] (.ret (.agg KS)) []:=by
 exact c_ Tryz.f237 fun _=>zW
theorem aEH:aA Tryz.prog 265 [] [] (.ret (.agg KS)) []:=by
 exact c_ Tryz.f265 fun _=>zW
noncomputable abbrev fDF:Func:=Tryz.f177
theorem aGE (A H f:Nat) (G:f<18446744073709551616) (C:A<9223372036854775808) (F:0<H) (s:H<9223372036854775808) (B:A / H<=63) (R:Nat):∀ (m i x:Nat),i+m=16->x<=4294967296->((Dh 16).drop i).foldl (xO f) x / 2 ^ (A / H)=R->
  To E fDF (.pure (.ret (uu R))) (.head (stk fDF 0) [(0,ii A),(1,ii H),(5,uu f),(6,uu x),(23,.agg KS),(24,ii i)] []):=by
 intro m
 induction m with
 | zero=>
  intro i x t j c
  rw [Ae q_] at c
  have c:x / 2 ^ (A / H)=R:=c
  have g:=KP A H
  have d:=aAk x (A / H)
  rw [c] at d
  have l:A / H<=A:=Di ..
  generalize A / H=q at *
  refine gV ?_
  refine aF fun h=>?_
  refine gV ?_
  refine Aa o_ ?_
  refine gV ?_
  rw [g]
  refine aJ ?_
  refine gV ?_
  rw [d]
  refine Aa (Aa o_ (show Cv (q:Int)<=64 by omega)) ?_
  refine gW hE ?_;conv=>whnf
 | succ m u=>
  intro i x t j c
  rw [B0 f o_] at c
  have next:=u (i+1) (xO f x i) o_ (JA o_ j) c
  obtain ⟨p,hp,n,r⟩:=RJ (i:=i) o_
  have g:(15:Int)-(i:Int)=((15-i:Nat):Int):=o_
  have d:(1:Int)*2 ^ Cv ((15-i:Nat):Int)=((2 ^ (15-i):Nat):Int):=by
   have:=aEz 1 (15-i)
   rw [Ge] at this
   exact this
  have o:2 ^ (15-i)<=2 ^ 15:=Hf d_ o_
  have a:=xS .u64 f (2 ^ (15-i)) (by simp only [bA];omega) (by simp only [bA];omega)
  rw [aG5] at a
  have z:0<2 ^ (15-i):=Kf d_
  unfold xO at next
  rw [hp] at next
  have hm:=I8 x p o_ o_
  have D:15-i<=15:=o_
  generalize 15-i=k at *
  have go:∀ b,f.testBit k=b->To E fDF (.pure (.ret (uu R))) (.head (stk fDF 0) [(0,ii A),(1,ii H),(5,uu f),(6,uu x),(23,.agg KS),(24,ii i)] []):=fun b e=>by
   cases b with
   | true=>
    rw [e,if_pos rfl] at next
    rw [e] at a
    have nxt:To E fDF (.pure (.ret (uu R))) (.head (stk fDF 0) [(0,ii A),(1,ii H),(5,uu f),(6,uu (iX x p)),(23,.agg KS),(24,ii ((i+1:Nat):Int))] []):=next
    clear next
    generalize iX x p=y at *
    have a:eX .and .u64 (f:Int) ((2 ^ k:Nat):Int)=((2 ^ k:Nat):Int):=by
     rw [a]
     rfl
    generalize 2 ^ k=w at *
    have v:((w:Int) !=0)=true:=by rw [bne_iff_ne];omega
    rcases OW (show i<16 by omega) with rfl | rfl | rfl | rfl | rfl | rfl | rfl | rfl | rfl | rfl | rfl | rfl | rfl | rfl | rfl | rfl
    all_goals cases hp
    all_goals
     exact zqda1
   | false=>
    rw [e,if_neg d_] at next
    rw [e] at a
    have a:eX .and .u64 (f:Int) ((2 ^ k:Nat):Int)=0:=by
     rw [a]
     rfl
    generalize 2 ^ k=w at *
    have v:((0:Int) !=0)=false:=rfl
    rcases OW (show i<16 by omega) with rfl | rfl | rfl | rfl | rfl | rfl | rfl | rfl | rfl | rfl | rfl | rfl | rfl | rfl | rfl | rfl
    all_goals cases hp
    all_goals
     exact zqda1
  exact go _ rfl
theorem QW (age half:Int) (h1:age<=9223372036854775807) (t:half<=9223372036854775807) (R:Nat) (a:lS age half=R):aA Tryz.prog 177 [ii age,ii half] [] (.ret (uu R)) []:=by
 unfold lS at a
 have d:(((max age 0).toNat:Nat):Int)=max age 0:=o_
 have e:(((max half 1).toNat:Nat):Int)=max half 1:=o_
 have k:(max age 0).toNat<9223372036854775808:=o_
 have p:0<(max half 1).toNat:=o_
 have b:(max half 1).toNat<9223372036854775808:=o_
 generalize (max age 0).toNat=A at *
 generalize (max half 1).toNat=H at *
 have i:=KP A H
 have o:=aH4 A H
 have j:A / H<=A:=Di ..
 have m:=Kx A H
 by_cases c:63<A / H
 .rw [if_pos c] at a
  subst a
  generalize A / H=q at *
  refine c_ Tryz.f177 fun _=>?_
  refine gV ?_
  rw [<-d,<-e]
  refine Aa o_ ?_
  refine gV ?_
  rw [i]
  exact zW
 .rw [if_neg c] at a
  have n:=AQ ((A % H:Nat):Int) (H:Int) o_ o_
  have l:=kN ((A % H:Nat):Int) (H:Int)
  generalize sK ((A % H:Nat):Int) (H:Int)=T at *
  have s:=I4 T
  have u:=aGE A H (T / 65536) o_ k p b o_ R 16 0 4294967296 o_ (Ba _) a
  generalize T / 65536=f at *
  generalize A / H=q at *
  generalize A % H=r at *
  refine c_ Tryz.f177 fun _=>?_
  refine gV ?_
  rw [<-d,<-e]
  refine Aa o_ ?_
  refine gV ?_
  rw [i]
  refine aJ ?_
  refine gV ?_
  refine aF fun h=>?_
  refine gV ?_
  refine Aa o_ ?_
  refine gV ?_
  rw [o]
  refine .pure _ [] n ?_
  refine gV ?_
  rw [s]
  refine Aa d_ ?_
  refine gV ?_
  refine .pure _ [] O0 ?_
  exact zW
theorem YJ (age half:Int) (h1:age<=9223372036854775807) (a:half<=9223372036854775807):aA Tryz.prog 177 [ii age,ii half] [] (.ret (uu (lS age half))) []:=QW age half h1 a _ rfl
noncomputable abbrev fRF:Func:=Tryz.f206
theorem aEX (q:Nat) (k:q<9223372036854775808) (R:Nat):∀ (m y j:Nat),y<=m->j<=q->y / 2 ^ (q-j)=R->y<18446744073709551616->
  To E fRF (.pure (.ret (uu R))) (.head (stk fRF 1) [(5,ii q),(9,uu y),(11,ii j)] []):=by
 intro m
 induction m with
 | zero=>
  intro y j b c a d
  have b:y=0:=o_
  subst b
  rw [Nat.zero_div] at a
  subst a
  by_cases h1:j<q
  .refine gV ?_
   exact zW
  .refine gV ?_
   exact zW
 | succ m f=>
  intro y j b c a d
  have g:Hd (y:Int) 2=((y / 2:Nat):Int):=KP y 2
  by_cases h1:j<q
  .by_cases i:0<y
   .have next:=f (y / 2) (j+1) o_ o_ (by
     rw [Jf,<-Nat.pow_succ',show (q-(j+1)).succ=q-j by omega]
     exact a) o_
    have e:y / 2<=y:=Di ..
    generalize y / 2=z at *
    refine gV ?_
    refine aT fun h=>?_
    repeat' first | (refine gN hE ?_;conv=>whnf) | (rw [g];refine aJ ?_) | exact rfl | refine aY ?_ | refine aN ?_ | refine aT fun h=>?_ | refine aF fun h=>?_ | refine ⟨fun h=>?_,fun h=>?_⟩ | refine aJ ?_ | refine ⟨_,rfl,?_⟩ | refine aD ?_ | fail
    exact zW
   .have b:y=0:=o_
    subst b
    rw [Nat.zero_div] at a
    subst a
    refine gV ?_
    exact zW
  .have c:q-j=0:=o_
   rw [c,Nat.pow_zero,Ho] at a
   subst a
   refine gV ?_
   exact zW
theorem aEW (q f:Nat) (v:f<18446744073709551616) (n:q<9223372036854775808) (R:Nat):∀ (m i x:Nat),i+m=16->x<=4294967296->((Dh 16).drop i).foldl (xO f) x / 2 ^ q=R->
  To E fRF (.pure (.ret (uu R))) (.head (stk fRF 0) [(5,ii q),(7,uu f),(8,.ref 0 0),(9,uu x),(10,ii i)] [.cells 290 KS]):=by
 intro m
 induction m with
 | zero=>
  intro i x u j a
  rw [Ae q_] at a
  have a:x / 2 ^ (q-0)=R:=a
  have next:=aEX q n R x x 0 (Ba _) o_ a o_
  refine gV ?_
  exact zW
 | succ m w=>
  intro i x u j a
  rw [B0 f o_] at a
  have next:=w (i+1) (xO f x i) o_ (JA o_ j) a
  obtain ⟨p,hp,r,_⟩:=RJ (i:=i) o_
  have l:(15:Int)-(i:Int)=((15-i:Nat):Int):=o_
  have d:=aAk f (15-i)
  have e:=DR (f / 2 ^ (15-i)) (Iz (Di ..) v)
  unfold xO at next
  rw [hp,Nat.testBit_eq_decide_div_mod_eq] at next
  have hm:=rQ x p o_ o_
  have A:15-i<=15:=o_
  have s:f / 2 ^ (15-i)<=f:=Di ..
  have o:f / 2 ^ (15-i) % 2<2:=Dz _ d_
  generalize 15-i=k at *
  generalize f / 2 ^ k=z at *
  generalize z % 2=b at *
  by_cases c:b=1
  .rw [decide_eq_true c,if_pos rfl] at next
   have nxt:To E fRF (.pure (.ret (uu R))) (.head (stk fRF 0) [(5,ii q),(7,uu f),(8,.ref 0 0),(9,uu (iX x p)),(10,ii ((i+1:Nat):Int))] [.cells 290 KS]):=next
   clear next
   generalize iX x p=y at *
   have g:((b:Int)==1)=true:=by rw [c];rfl
   rcases OW (show i<16 by omega) with rfl | rfl | rfl | rfl | rfl | rfl | rfl | rfl | rfl | rfl | rfl | rfl | rfl | rfl | rfl | rfl
   all_goals cases hp
   all_goals
    refine gV ?_
    refine aT fun h=>?_
    refine gV ?_
    rw [l]
    refine aJ ?_
    refine gV ?_
    refine aJ ?_
    refine gV ?_
    rw [d]
    refine Aa (Aa o_ (show Cv (k:Int)<=64 by omega)) ?_
    refine gV ?_
    rw [e]
    refine Aa (fun _=>?_) (fun h=>absurd (g.symm.trans h) d_)
    refine gV ?_
    refine Aa (Aa d_ d_) ?_
    exact zW
  .rw [decide_eq_false c,if_neg d_] at next
   have g:((b:Int)==1)=false:=beq_eq_false_iff_ne.2 o_
   refine gV ?_
   refine aT fun h=>?_
   refine gV ?_
   rw [l]
   refine aJ ?_
   refine gV ?_
   refine aJ ?_
   refine gV ?_
   rw [d]
   refine Aa (Aa o_ (show Cv (k:Int)<=64 by omega)) ?_
   refine gV ?_
   rw [e]
   exact zW
theorem LE (age half:Int) (h1:age<=9223372036854775807) (p:half<=9223372036854775807) (R:Nat) (a:lS age half=R):aA Tryz.prog 206 [ii age,ii half] [] (.ret (uu R)) []:=by
 unfold lS at a
 have h:(((max age 0).toNat:Nat):Int)=max age 0:=o_
 have m:(((max half 1).toNat:Nat):Int)=max half 1:=o_
 have o:(max age 0).toNat<9223372036854775808:=o_
 have s:0<(max half 1).toNat:=o_
 have i:(max half 1).toNat<9223372036854775808:=o_
 generalize (max age 0).toNat=A at *
 generalize (max half 1).toNat=H at *
 have n:=KP A H
 have k:=aH4 A H
 have c:A / H<=A:=Di ..
 have e:=Kx A H
 have a:aJD (sK ((A % H:Nat):Int) (H:Int) / 65536) / 2 ^ (A / H)=R:=by
  by_cases b:63<A / H
  .rw [if_pos b] at a
   rw [<-a]
   refine Jr (Iz (U4 _) ?_)
   exact Ef (show 4294967296<2 ^ 63 by decide) (Hf d_ o_)
  .rw [if_neg b] at a
   exact a
 have j:=rP ((A % H:Nat):Int) (H:Int) o_ o_
 have d:=kN ((A % H:Nat):Int) (H:Int)
 generalize sK ((A % H:Nat):Int) (H:Int)=T at *
 have l:Hd (T:Int) 65536=((T / 65536:Nat):Int):=KP T 65536
 have u:=aEW (A / H) (T / 65536) o_ o_ R 16 0 4294967296 o_ (Ba _) a
 have t:T / 65536<=T:=Di ..
 generalize T / 65536=f at *
 generalize A / H=q at *
 generalize A % H=r at *
 refine c_ Tryz.f206 fun _=>?_
 refine gV ?_
 rw [<-h,<-m]
 refine Aa o_ ?_
 refine gV ?_
 rw [n]
 refine aJ ?_
 refine gV ?_
 refine Aa o_ ?_
 refine gV ?_
 rw [k]
 refine .pure _ [] j ?_
 refine gV ?_
 refine Aa d_ ?_
 refine gV ?_
 rw [l]
 refine aJ ?_
 refine gV ?_
 refine .pure _ [] aEH ?_
 exact zW
theorem PN (age half:Int) (h1:age<=9223372036854775807) (a:half<=9223372036854775807):aA Tryz.prog 206 [ii age,ii half] [] (.ret (uu (lS age half))) []:=LE age half h1 a _ rfl
theorem XF (x:Nat) (age half:Int) (b:x<18446744073709551616) (h1:age<=9223372036854775807) (a:half<=9223372036854775807):aA Tryz.prog 137 [uu x,ii age,ii half] [] (.ret (uu (iX x (lS age half)))) []:=by
 have h3:=PN age half h1 a
 have hl:=U6 age half
 have c:=rQ x (lS age half) b o_
 generalize lS age half=f at *
 generalize iX x f=y at *
 exact c_ Tryz.f137 fun _=>zW
def RE (x:Nat) (n m:Int):Nat:=if 0<n then max x (sK n m) else x
def EX (u v:V3):Nat:=RE (RE (RE 0 u.a v.a) u.b v.b) u.c v.c
theorem JN {x:Nat} {n m:Int} (h:x<18446744073709551616):RE x n m<18446744073709551616:=by
 have:=kN n m
 unfold RE
 split
 .omega
 .exact h
theorem aGB (u v:V3):EX u v<18446744073709551616:=JN (JN (JN d_))
theorem aHb (v u:V3) (M:Imm) (ob:Hs) (vs:List Value) (h:cA M ob vs [v.av,u.av]):(inR .i64 v.a/\inR .i64 v.b/\inR .i64 v.c)/\inR .i64 u.a/\inR .i64 u.b/\inR .i64 u.c:=by
 have hl:1<vs.length:=by rw [h.1];simp
 have h1:=h.2 0 _ v.av (Ab o_) rfl
 have d:=h.2 1 _ u.av (Ab hl) rfl
 exact ⟨⟨bY h1 0 _ rfl,bY h1 1 _ rfl,bY h1 2 _ rfl⟩,bY d 0 _ rfl,bY d 1 _ rfl,bY d 2 _ rfl⟩
theorem aGA (u v:V3) (r:Nat) (d:EX u v=r):aA Tryz.prog 186 [u.av,v.av] [] (.ret (uu r)) []:=by
  refine aA.get _ (aHb u v) fun ⟨⟨⟨a1,a2⟩,⟨b1,b2⟩,⟨c1,c2⟩⟩,⟨d1,d2⟩,⟨e1,e2⟩,⟨f1,f2⟩⟩=>?_
  simp only [bO,bA] at a1 a2 b1 b2 c1 c2 d1 d2 e1 e2 f1 f2
  have h1:=AQ u.a v.a o_ o_
  have i:=AQ u.b v.b o_ o_
  have h3:=AQ u.c v.c o_ o_
  have l1:=kN u.a v.a
  have l2:=kN u.b v.b
  have l:=kN u.c v.c
  unfold EX RE at d
  generalize sK u.a v.a=p at *
  generalize sK u.b v.b=q at *
  generalize sK u.c v.c=s at *
  by_cases k:0<u.a<;>by_cases e:0<u.b<;>by_cases j:0<u.c<;>simp only [k,e,j,if_true,if_false] at d
  all_goals
   subst d
   refine c_ Tryz.f186 fun _=>?_
   refine gV ?_
   repeat' first
    | (refine gW hE ?_;conv=>whnf)
    | refine .pure _ [] h1 ?_
    | refine .pure _ [] i ?_
    | refine .pure _ [] h3 ?_
    | exact rfl
    | refine aY ?_
    | refine aN ?_
    | refine aT fun h=>?_
    | refine aF fun h=>?_
    | refine aJ ?_
    | refine Ah _ (Aa rfl ?_)
    | refine Aa d_ ?_
    | fail
   all_goals exact congrArg (fun n=>Res.ret (AVal.int .u64 n)) o_
theorem aBa (u v:V3) (r:Nat) (d:EX u v=r):aA Tryz.prog 142 [u.av,v.av] [] (.ret (uu r)) []:=by
  refine aA.get _ (aHb u v) fun ⟨⟨⟨a1,a2⟩,⟨b1,b2⟩,⟨c1,c2⟩⟩,⟨d1,d2⟩,⟨e1,e2⟩,⟨f1,f2⟩⟩=>?_
  simp only [bO,bA] at a1 a2 b1 b2 c1 c2 d1 d2 e1 e2 f1 f2
  have h1:=rP u.a v.a o_ o_
  have i:=rP u.b v.b o_ o_
  have h3:=rP u.c v.c o_ o_
  have l1:=kN u.a v.a
  have l2:=kN u.b v.b
  have l:=kN u.c v.c
  unfold EX RE at d
  generalize sK u.a v.a=p at *
  generalize sK u.b v.b=q at *
  generalize sK u.c v.c=s at *
  by_cases k:0<u.a<;>by_cases e:0<u.b<;>by_cases j:0<u.c<;>simp only [k,e,j,if_true,if_false] at d
  all_goals
   subst d
   refine c_ Tryz.f142 fun _=>?_
   refine gV ?_
   repeat' first
    | (refine gW hE ?_;conv=>whnf)
    | refine .pure _ [] h1 ?_
    | refine .pure _ [] i ?_
    | refine .pure _ [] h3 ?_
    | exact rfl
    | refine aY ?_
    | refine aN ?_
    | refine aT fun h=>?_
    | refine aF fun h=>?_
    | refine aJ ?_
    | refine Ah _ (Aa rfl ?_)
    | refine Aa d_ ?_
    | fail
   all_goals exact congrArg (fun n=>Res.ret (AVal.int .u64 n)) o_
def Z1 (v:V3) (h:Hos):V3:=dL v h.c
def pZ (c:Con):V3:=c.hs.foldl Z1 V3.zero
noncomputable abbrev aK2:Func:=Tryz.f183
theorem Z0 (l:List Hos) (hl:l.length<=1048576) (r:V3):∀ (m i:Nat) (v:V3),i+m=l.length->(l.drop i).foldl Z1 v=r->
  To E aK2 (.pure (.ret r.av)) (.head (stk aK2 0) [(2,.ref 0 0),(3,.ref 1 0),(7,.slice 6 (hav l) .no),(8,ii (l.length:Nat)),(9,ii i)] [.cells 34 V3.zero.cs,.cells 34 v.cs]):=by
 have d:(hav l).length=l.length:=by simp
 intro m
 induction m with
 | zero=>
  exact zqda22
 | succ m f=>
  intro i v g a
  have b:i<l.length:=o_
  rw [Ac b,Al] at a
  have next:=f (i+1) _ o_ a
  have get:=oW b
  generalize l[i]=x at get next
  have e:=jH v x.c
  exact zqda26
theorem ZZ (c:Con) (b:c.sm):aA Tryz.prog 183 [c.av] [] (.ret (pZ c).av) []:=by
 have a:(hav c.hs).length=c.hs.length:=by simp
 have h1:=b.hs
 have next:=Z0 c.hs o_ (pZ c) c.hs.length 0 V3.zero o_ rfl
 generalize pZ c=r at next
 rw [<-a] at next
 refine c_ Tryz.f183 fun _=>?_
 repeat' first | (refine gN hE ?_;conv=>whnf) | exact rfl | refine aY ?_ | refine aN ?_ | refine aT fun h=>?_ | refine aF fun h=>?_ | refine ⟨fun h=>?_,fun h=>?_⟩ | refine aJ ?_ | refine ⟨_,rfl,?_⟩ | refine aD ?_ | fail
 refine To.part [2,3,7,8,9] [1,2] rfl rfl rfl ?_
 exact next
noncomputable abbrev aHs:Func:=Tryz.f141
theorem WV (c:Con) (hl:c.hs.length<=1048576) (r:V3):∀ (m i:Nat) (v:V3),i+m=c.hs.length->(c.hs.drop i).foldl Z1 v=r->
  To E aHs (.pure (.ret r.av)) (.head (stk aHs 0) [(1,.ref 0 0),(2,.ref 1 0),(3,.ref 2 0),(4,ii i)] [.cells 26 c.cs,.cells 34 V3.zero.cs,.cells 34 v.cs]):=by
 have d:(hav c.hs).length=c.hs.length:=by simp
 intro m
 induction m with
 | zero=>
  exact zqda22
 | succ m f=>
  intro i v g a
  have b:i<c.hs.length:=o_
  rw [Ac b,Al] at a
  have next:=f (i+1) _ o_ a
  have get:=oW b
  generalize c.hs[i]=x at get next
  have e:=kO v x.c
  exact zqda26
theorem WU (c:Con) (a:c.sm):aA Tryz.prog 141 [c.av] [] (.ret (pZ c).av) []:=by
 have h1:=a.hs
 have next:=WV c o_ (pZ c) c.hs.length 0 V3.zero o_ rfl
 generalize pZ c=r at next
 exact c_ Tryz.f141 fun _=>zW
def cP {α:Type} (d:Nat->α->Nat):List α->Nat->List Nat
 | [],_=>[]
 | x::r,i=>d i x::cP d r (i+1)
theorem jB {α:Type} (d:Nat->α->Nat):∀ (l:List α) (i:Nat),(cP d l i).length=l.length
 | [],_=>rfl
 | _::r,i=>by simp [cP,jB d r (i+1)]
theorem G3 {α:Type} (d:Nat->α->Nat):∀ (l:List α) (i k:Nat) (h:k<l.length),(cP d l i)[k]? =some (d (i+k) l[k])
 | [],_,k,h=>absurd h s_
 | x::r,i,0,_=>rfl
 | x::r,i,k+1,h=>by
  have:=G3 d r (i+1) k (by simpa using h)
  simp only [cP,Eu,List.getElem_cons_succ]
  rw [this,show i+1+k=i+(k+1) by omega]
theorem GM {l:List Nat} {i:Nat} (h:i<l.length):(fv l)[i]? =some (uu l[i]):=by simp [fv,h]
def LtF (l:List Nat):Prop:=∀ x∈l,x<18446744073709551616
def kM (c:Con) (i:Nat) (v:V3):Nat:=if aX c.ns (i:Int)=true then EX v (pZ c) else 0
def mW (c:Con) (l:List Rn):List Nat:=cP (kM c) (ofL c l) 0
def tkS (a:List Nat) (n half:Int) (i:Nat) (x:Nat):Nat:=if i<a.length then iR (iX x (lS n half)) (iX ((a[i]?).getD 0) (ofF n)) else iX x (lS n half)
def tkL (h a:List Nat) (n half:Int):List Nat:=cP (tkS a n half) h 0
def SL (c:Con):List Nat:=cP (fun _ _=>0) c.ns 0
noncomputable abbrev aK0:Func:=Tryz.f184
abbrev aJq (c:Con):AVal:=.func (.func 185) [] [.ptr c.cs,.ptr (pZ c).cs]
theorem aCQ (c:Con)  (l:List V3) (hl:l.length<=1048576) (hm:∀ (i:Nat) (h:i<l.length),aA Tryz.prog 185 (ii i::l[i].av::[.ptr c.cs,.ptr (pZ c).cs]) [] (.ret (uu ((kM c) i l[i]))) []) (R:List Nat):∀ (m i:Nat) (a:List Nat),i+m=l.length->a.length=i->a++cP (kM c) (l.drop i) i=R->
  To (Eo [5] []) aK0 (.pure (.ret (.slice 1 (fv R) .no))) (.head (stk aK0 0) [(1,aJq c),(5,.slice 1 (fv a) (.own 0 0)),(8,.slice 3 (vav l) .no),(9,ii (l.length:Nat)),(10,ii i)] [.tail 0 1 123]):=by
 have g:(vav l).length=l.length:=by simp
 intro m
 induction m with
 | zero=>
  intro i a n p b
  exact zqda6
 | succ m o=>
  intro i a n p b
  have d:i<l.length:=o_
  have get:=kL d
  have j:=hm i d
  rw [Ac d] at b
  generalize l[i]=x at get j b
  have b:a++((kM c) i x::cP (kM c) (l.drop (i+1)) (i+1))=R:=b
  generalize (kM c) i x=y at j b
  have next:=o (i+1) (a++[y]) o_ q_ (by rw [Aj];exact b)
  exact zqda9
theorem aJH (c:Con)  (l:List V3) (hl:l.length<=1048576) (hm:∀ (i:Nat) (h:i<l.length),aA Tryz.prog 185 (ii i::l[i].av::[.ptr c.cs,.ptr (pZ c).cs]) [] (.ret (uu ((kM c) i l[i]))) []):
  aA Tryz.prog 184 [.slice 3 (vav l) .no,aJq c] [] (.ret (.slice 1 (fv (cP (kM c) l 0)) .no)) []:=by
 have a:(vav l).length=l.length:=by simp
 have next:=aCQ c l hl hm (cP (kM c) l 0) l.length 0 [] o_ rfl rfl
 generalize cP (kM c) l 0=R at next
 rw [<-a] at next
 refine cT (E:=(Eo [5] [])) (fn:=Tryz.f184) (g:=.pure _) fun _=>?_
 exact zW
noncomputable abbrev aKZ:Func:=Tryz.f179
abbrev aJp (sh:List Nat) (n half:Int):AVal:=.func (.func 180) [] [.ptr [uu (lS n half)],.ptr [.slice 1 (fv sh) .no],.ptr [uu (ofF n)]]
theorem aCP (d:List Nat) (n half:Int)  (l:List Nat) (hl:l.length<=1048576) (hm:∀ (i:Nat) (h:i<l.length),aA Tryz.prog 180 (ii i::uu l[i]::[.ptr [uu (lS n half)],.ptr [.slice 1 (fv d) .no],.ptr [uu (ofF n)]]) [] (.ret (uu ((tkS d n half) i l[i]))) []) (R:List Nat):∀ (m i:Nat) (a:List Nat),i+m=l.length->a.length=i->a++cP (tkS d n half) (l.drop i) i=R->
  To (Eo [5] []) aKZ (.pure (.ret (.slice 1 (fv R) .no))) (.head (stk aKZ 0) [(1,aJp d n half),(5,.slice 1 (fv a) (.own 0 0)),(8,.slice 1 (fv l) .no),(9,ii (l.length:Nat)),(10,ii i)] [.tail 0 1 123]):=by
 have g:(fv l).length=l.length:=by simp
 intro m
 induction m with
 | zero=>
  intro i a o q b
  exact zqda6
 | succ m p=>
  intro i a o q b
  have c:i<l.length:=o_
  have get:=GM c
  have j:=hm i c
  rw [Ac c] at b
  generalize l[i]=x at get j b
  have b:a++((tkS d n half) i x::cP (tkS d n half) (l.drop (i+1)) (i+1))=R:=b
  generalize (tkS d n half) i x=y at j b
  have next:=p (i+1) (a++[y]) o_ q_ (by rw [Aj];exact b)
  exact zqda9
theorem aJG (a:List Nat) (n half:Int)  (l:List Nat) (hl:l.length<=1048576) (hm:∀ (i:Nat) (h:i<l.length),aA Tryz.prog 180 (ii i::uu l[i]::[.ptr [uu (lS n half)],.ptr [.slice 1 (fv a) .no],.ptr [uu (ofF n)]]) [] (.ret (uu ((tkS a n half) i l[i]))) []):
  aA Tryz.prog 179 [.slice 1 (fv l) .no,aJp a n half] [] (.ret (.slice 1 (fv (cP (tkS a n half) l 0)) .no)) []:=by
 have b:(fv l).length=l.length:=by simp
 have next:=aCP a n half l hl hm (cP (tkS a n half) l 0) l.length 0 [] o_ rfl rfl
 generalize cP (tkS a n half) l 0=R at next
 rw [<-b] at next
 refine cT (E:=(Eo [5] [])) (fn:=Tryz.f179) (g:=.pure _) fun _=>?_
 exact zW
noncomputable abbrev aKY:Func:=Tryz.f171
abbrev aJo:AVal:=.func (.func 172) [] []
theorem aCO   (l:List Nod) (hl:l.length<=1048576) (hm:∀ (i:Nat) (h:i<l.length),aA Tryz.prog 172 (ii i::l[i].av::[]) [] (.ret (uu ((fun _ _=>0) i l[i]))) []) (R:List Nat):∀ (m i:Nat) (a:List Nat),i+m=l.length->a.length=i->a++cP (fun _ _=>0) (l.drop i) i=R->
  To (Eo [5] []) aKY (.pure (.ret (.slice 1 (fv R) .no))) (.head (stk aKY 0) [(1,aJo),(5,.slice 1 (fv a) (.own 0 0)),(8,.slice 11 (nav l) .no),(9,ii (l.length:Nat)),(10,ii i)] [.tail 0 1 123]):=by
 have d:(nav l).length=l.length:=by simp
 intro m
 induction m with
 | zero=>
  intro i a k o b
  exact zqda6
 | succ m n=>
  intro i a k o b
  have c:i<l.length:=o_
  have get:=fM c
  have g:=hm i c
  rw [Ac c] at b
  generalize l[i]=x at get g b
  have b:a++((fun _ _=>0) i x::cP (fun _ _=>0) (l.drop (i+1)) (i+1))=R:=b
  generalize (fun _ _=>0) i x=y at g b
  have next:=n (i+1) (a++[y]) o_ q_ (by rw [Aj];exact b)
  have e:fv (a++[y])=fv a++[uu y]:=by simp [fv]
  rw [e] at next
  have j:(fv a).length=a.length:=by simp
  refine gV ?_
  exact zW
theorem aJF   (l:List Nod) (hl:l.length<=1048576) (hm:∀ (i:Nat) (h:i<l.length),aA Tryz.prog 172 (ii i::l[i].av::[]) [] (.ret (uu ((fun _ _=>0) i l[i]))) []):
  aA Tryz.prog 171 [.slice 11 (nav l) .no,aJo] [] (.ret (.slice 1 (fv (cP (fun _ _=>0) l 0)) .no)) []:=by
 have a:(nav l).length=l.length:=by simp
 have next:=aCO  l hl hm (cP (fun _ _=>0) l 0) l.length 0 [] o_ rfl rfl
 generalize cP (fun _ _=>0) l 0=R at next
 rw [<-a] at next
 refine cT (E:=(Eo [5] [])) (fn:=Tryz.f171) (g:=.pure _) fun _=>?_
 exact zW
theorem aJX (u v:V3):aA Tryz.prog 186 [u.av,v.av] [] (.ret (uu (EX u v))) []:=aGA u v _ rfl
theorem aE1 (u v:V3):aA Tryz.prog 142 [u.av,v.av] [] (.ret (uu (EX u v))) []:=aBa u v _ rfl
theorem aEA (c:Con) (i:Nat) (v:V3):aA Tryz.prog 185 [ii i,v.av,.ptr c.cs,.ptr (pZ c).cs] [] (.ret (uu (kM c i v))) []:=by
 have h1:=kS c (i:Int)
 have d:=aJX v (pZ c)
 unfold kM
 generalize pZ c=a at *
 generalize EX v a=y at *
 cases b:aX c.ns (i:Int) with
 | true=>
  rw [b] at h1
  exact c_ Tryz.f185 fun _=>zW
 | false=>
  rw [b] at h1
  exact c_ Tryz.f185 fun _=>zW
theorem WN (c:Con) (b:c.sm) (l:List Rn) (hl:l.length<=1048576):aA Tryz.prog 115 [c.av,.slice 14 (rav l) .no] [] (.ret (.slice 1 (fv (mW c l)) .no)) []:=by
 have h1:=ZZ c b
 have e:=TY c b l hl
 have j:=b.ns
 have d:(ofL c l).length=c.ns.length:=by unfold ofL mG;simp
 have h3:=aJH c (ofL c l) o_ fun i h=>aEA c i _
 unfold mW
 unfold aJq at h3
 generalize cP (kM c) (ofL c l) 0=R at *
 generalize ofL c l=us at *
 generalize pZ c=a at *
 exact c_ Tryz.f115 fun _=>zW
theorem aH6 (a:List Nat) (hs:LtF a) (hsl:a.length<=1048576) (n half:Int) (i x:Nat) (e:x<18446744073709551616):aA Tryz.prog 180 [ii i,uu x,.ptr [uu (lS n half)],.ptr [.slice 1 (fv a) .no],.ptr [uu (ofF n)]] [] (.ret (uu (tkS a n half i x))) []:=by
 have j:=U6 n half
 have d:=xD n
 have h1:=I8 x (lS n half) e o_
 have l1:=vJ x (lS n half)
 have c:(fv a).length=a.length:=by simp
 unfold tkS
 generalize lS n half=f at *
 generalize ofF n=t at *
 generalize iX x f=y at *
 by_cases b:i<a.length
 .rw [if_pos b,Ab b]
  have get:=GM b
  have hz:=hs _ (Bb b)
  show aA _ _ _ _ (.ret (uu (iR y (iX a[i] t)))) _
  generalize a[i]=z at *
  have h:=I8 z t hz d
  have l2:=vJ z t
  generalize iX z t=w at *
  have h3:=U3 y w l1 l2
  generalize iR y w=r at *
  exact c_ Tryz.f180 fun _=>zW
 .rw [if_neg b]
  exact c_ Tryz.f180 fun _=>zW
theorem TC (c:Con) (l:List Rn):LtF (mW c l):=by
 intro x b
 obtain ⟨k,a,e⟩:=Gn b
 unfold mW at a e
 rw [jB] at a
 have:=G3 (kM c) (ofL c l) 0 k a
 rw [Ab (by rw [jB];exact a),e] at this
 cases this
 unfold kM
 split
 .exact aGB _ _
 .decide
theorem aEm (h a:List Nat) (e:LtF h) (hl:h.length<=1048576) (hs:LtF a) (hsl:a.length<=1048576) (n half:Int) (d:n<=9223372036854775807) (c:half<=9223372036854775807):aA Tryz.prog 114 [.slice 1 (fv h) .no,.slice 1 (fv a) .no,ii n,ii half] [] (.ret (.slice 1 (fv (tkL h a n half)) .no)) []:=by
 have h1:=YJ n half d c
 have j:=QS n
 have h3:=aJG a n half h hl fun i b=>aH6 a hs hsl n half i _ (e _ (Bb b))
 unfold tkL
 unfold aJp at h3
 generalize cP (tkS a n half) h 0=R at *
 generalize lS n half=f at *
 generalize ofF n=t at *
 exact c_ Tryz.f114 fun _=>zW
theorem aKk (i:Nat) (x:Nod):aA Tryz.prog 172 [ii i,x.av] [] (.ret (uu 0)) []:=by
 exact c_ Tryz.f172 fun _=>zW
theorem aD2 (c:Con) (a:c.sm):aA Tryz.prog 108 [c.av] [] (.ret (.slice 1 (fv (SL c)) .no)) []:=by
 have b:=a.ns
 have h3:=aJF c.ns o_ fun i h=>aKk i _
 unfold SL
 unfold aJo at h3
 generalize cP (fun _ _=>0) c.ns 0=R at *
 exact c_ Tryz.f108 fun _=>zW
noncomputable abbrev YL:Func:=Tryz.f67
theorem aAz (h b:List Nat) (D:LtF h) (hl:h.length<=1048576) (hs:LtF b) (hsl:b.length<=1048576) (n half:Int) (C:n<=9223372036854775807) (A:half<=9223372036854775807) (R:List Nat):∀ (m i:Nat) (a:List Nat),i+m=h.length->a.length=i->a++cP (tkS b n half) (h.drop i) i=R->
  To (Eo [9] []) YL (.pure (.ret (.slice 1 (fv R) .no))) (.head (stk YL 0) [(0,.slice 1 (fv h) .no),(1,.slice 1 (fv b) .no),(2,ii n),(3,ii half),(9,.slice 1 (fv a) (.own 0 0)),(10,ii i)] [.tail 0 1 123]):=by
 have o:(fv h).length=h.length:=by simp
 have j:(fv b).length=b.length:=by simp
 intro m
 induction m with
 | zero=>
  intro i a v F c
  rw [Ae o_] at c
  have c:a++[]=R:=c
  rw [Bc] at c
  subst c
  refine gV ?_
  exact zW
 | succ m q=>
  intro i a v F c
  have f:i<h.length:=o_
  have get:=GM f
  have r:=D _ (Bb f)
  rw [Ac f] at c
  generalize h[i]=x at get r c
  have c:a++(tkS b n half i x::cP (tkS b n half) (h.drop (i+1)) (i+1))=R:=c
  have H:=B1 n
  have g:=xD n
  have h1:=XF x n half r C A
  have l1:=vJ x (lS n half)
  have s:(fv a).length=a.length:=by simp
  have step:∀ y,tkS b n half i x=y->To (Eo [9] []) YL (.pure (.ret (.slice 1 (fv R) .no))) (.head (stk YL 0) [(0,.slice 1 (fv h) .no),(1,.slice 1 (fv b) .no),(2,ii n),(3,ii half),(9,.slice 1 (fv a++[uu y]) (.own 0 0)),(10,ii ((i:Int)+1))] [.tail 0 1 123]):=fun y B=>by
   rw [B] at c
   have next:=q (i+1) (a++[y]) o_ q_ (by rw [Aj];exact c)
   have e:fv (a++[y])=fv a++[uu y]:=by simp [fv]
   rw [e] at next
   exact next
  clear c q
  unfold tkS at step
  generalize iX x (lS n half)=p at *
  generalize ofF n=t at *
  by_cases d:i<b.length
  .have k:=GM d
   have hz:=hs _ (Bb d)
   rw [if_pos d,Ab d] at step
   have step:=step _ rfl
   have step:To (Eo [9] []) YL (.pure (.ret (.slice 1 (fv R) .no))) (.head (stk YL 0) [(0,.slice 1 (fv h) .no),(1,.slice 1 (fv b) .no),(2,ii n),(3,ii half),(9,.slice 1 (fv a++[uu (iR p (iX b[i] t))]) (.own 0 0)),(10,ii ((i:Int)+1))] [.tail 0 1 123]):=step
   generalize b[i]=z at *
   have l:=rQ z t hz g
   have l2:=vJ z t
   generalize iX z t=w at *
   have h3:=kW p w l1 l2
   generalize iR p w=y at *
   refine gV ?_
   exact zW
  .rw [if_neg d] at step
   have step:=step _ rfl
   have l:=rQ 0 t d_ g
   have u:iX 0 t=0:=by unfold iX;rw [Kv];rfl
   rw [u] at l
   have h3:=kW p 0 l1 d_
   have G:iR p 0=p:=by unfold iR;rw [Em,oL,if_pos l1]
   rw [G] at h3
   refine gV ?_
   exact zW
theorem aAy (h a:List Nat) (b:LtF h) (hl:h.length<=1048576) (hs:LtF a) (hsl:a.length<=1048576) (n half:Int) (d:n<=9223372036854775807) (c:half<=9223372036854775807):aA Tryz.prog 67 [.slice 1 (fv h) .no,.slice 1 (fv a) .no,ii n,ii half] [] (.ret (.slice 1 (fv (tkL h a n half)) .no)) []:=by
 have next:=aAz h a b hl hs hsl n half d c (tkL h a n half) h.length 0 [] o_ rfl rfl
 generalize tkL h a n half=R at next
 refine cT (E:=(Eo [9] [])) (fn:=Tryz.f67) (g:=.pure _) fun _=>?_
 exact zW
noncomputable abbrev aLd:Func:=Tryz.f68
theorem BR (c:Con) (k:c.sm) (us:List V3) (s:us.length=c.ns.length) (a:V3) (q:pZ c=a) (R:List Nat):∀ (m i:Nat) (b:List Nat),i+m=us.length->b.length=i->b++cP (kM c) (us.drop i) i=R->
  To (Eo [7] []) aLd (.pure (.ret (.slice 1 (fv R) .no))) (.head (stk aLd 0) [(2,.ref 0 0),(5,.slice 3 (vav us) .no),(6,.ref 1 0),(7,.slice 1 (fv b) (.own 2 0)),(8,ii i)] [.cells 26 c.cs,.cells 34 a.cs,.tail 0 1 123]):=by
 have h:(vav us).length=us.length:=by simp
 have n:(nav c.ns).length=c.ns.length:=by simp
 have o:=k.ns
 intro m
 induction m with
 | zero=>
  intro i b p r d
  rw [Ae o_] at d
  have d:b++[]=R:=d
  rw [Bc] at d
  subst d
  refine gV ?_
  exact zW
 | succ m j=>
  intro i b p r d
  have f:i<us.length:=o_
  have get:=kL f
  rw [Ac f] at d
  generalize us[i]=x at get d
  have d:b++(kM c i x::cP (kM c) (us.drop (i+1)) (i+1))=R:=d
  have h1:=iG c k (i:Int)
  rw [qH] at h1
  have u:=aE1 x a
  have l:(fv b).length=b.length:=by simp
  have next:=j (i+1) (b++[kM c i x]) o_ q_ (by rw [Aj];exact d)
  have e:fv (b++[kM c i x])=fv b++[uu (kM c i x)]:=by simp [fv]
  rw [e] at next
  clear d j
  unfold kM at next
  rw [q] at next
  generalize EX x a=y at *
  cases g:aX c.ns (i:Int) with
  | true=>
   rw [g] at h1
   rw [g,if_pos rfl] at next
   refine gV ?_
   exact zW
  | false=>
   rw [g] at h1
   rw [g,if_neg d_] at next
   refine gV ?_
   exact zW
theorem PB (c:Con) (d:c.sm) (l:List Rn) (hl:l.length<=1048576):aA Tryz.prog 68 [c.av,.slice 14 (rav l) .no] [] (.ret (.slice 1 (fv (mW c l)) .no)) []:=by
 have h1:=WU c d
 have e:=H8 c d l hl
 have b:(ofL c l).length=c.ns.length:=by unfold ofL mG;simp
 unfold mW
 have next:=BR c d (ofL c l) b (pZ c) rfl (cP (kM c) (ofL c l) 0) (ofL c l).length 0 [] o_ rfl rfl
 generalize cP (kM c) (ofL c l) 0=R at *
 generalize ofL c l=us at *
 generalize pZ c=a at *
 refine cT (E:=(Eo [7] [])) (fn:=Tryz.f68) (g:=.pure _) fun _=>?_
 exact zW
def eJ (a:Int) (l:List Pn):Int:=Q2.findP a (l.map Pn.q)
def cS (l:List Pn) (a:Int):List Pn:=if eJ a l<0 then l else l.eraseIdx (eJ a l).toNat
def gT (l:List Pn) (p:Pn):List Pn:=l.take (Q2.putAt p.q (l.map Pn.q))++[p]++l.drop (Q2.putAt p.q (l.map Pn.q))
theorem S0 (l:List Pn) (a:Int):(cS l a).map Pn.q=Q2.takeP (l.map Pn.q) a:=by
 unfold cS Q2.takeP eJ
 split
 .rfl
 .simp [Ey,Ht,Hu]
theorem P3 (l:List Pn) (p:Pn):(gT l p).map Pn.q=Q2.putP (l.map Pn.q) p.q:=by
 unfold gT Q2.putP
 simp [Ht,Hu]
theorem aBj (l:List Pn) (a:Int):aA Tryz.prog 79 [.slice 11 (pnv l) .no,ii a] [] (.ret (ii (eJ a l))) []:=by
 have h:=Q2.find_ok (l.map Pn.q) a
 rw [nR] at h
 exact h
theorem II (l:List Pn) (p:Pn) (hl:l.length<=1000000):aA Tryz.prog 110 [.slice 11 (pnv l) .no,p.av] [] (.ret (.slice 11 (pnv (gT l p)) .no)) []:=by
 have h:=Q2.put_ok (l.map Pn.q) p.q (by simpa using hl)
 rw [<-P3,nR,nR] at h
 exact h
theorem qJ (l:List Pn) (a:Int) (hl:l.length<=1000000):aA Tryz.prog 42 [.slice 11 (pnv l) .no,ii a] [] (.ret (.tup [.slice 11 (pnv (cS l a)) .no,.bool (!decide (eJ a l<0))])) []:=by
 have h:=Q2.take_ok (l.map Pn.q) a (by simpa using hl)
 rw [<-S0,nR,nR] at h
 exact h
structure Ev where
 (k id n:Int)
 deriving DecidableEq
def Ev.cs (e:Ev):List AVal:=[ii e.k,ii e.id,ii e.n]
def Ev.av (e:Ev):AVal:=.agg e.cs
abbrev evv (l:List Ev):List AVal:=l.map Ev.av
theorem VB {l:List Ev} {i:Nat} (h:i<l.length):(evv l)[i]? =some l[i].av:=by simp [evv,h]
structure Rd where
 s:Sta
 ev:List Ev
 head:Bool
 start:Int
def uC (r:Rd) (p:Pn) (fl:Int) (hs:List Int):Rd:=
 ⟨{r.s with pend:=cS r.s.pend p.g.id,run:=r.s.run++[⟨p.g,p.seq,p.at',r.s.now,fl,hs⟩]},r.ev++[⟨1,p.g.id,fl⟩],r.head,r.start⟩
def wH (r:Rd) (p:Pn):Option (Int×List Int)->Rd×Bool
 | none=>(r,false)
 | some (fl,hs)=>if (r.head&& !bmB r.s.now p.g r.start)=true then (r,false) else (uC r p fl hs,true)
def admR (r:Rd) (p:Pn):Rd×Bool:=wH r p (bU r.s.c r.s.run p.g)
def cV (run:List Rn) (r:Rd) (id:Int):Rd:=
 let x:=aG run (aH (fun x=>x.g.id==id) run 0).toNat
 ⟨{r.s with pend:=gT r.s.pend x.pn},r.ev++[⟨2,id,0⟩],r.head,r.start⟩
def fO (r:Rd) (ids:List Int):Rd:=
 let q:=ids.foldl (cV r.s.run) r
 ⟨{q.s with run:=aB r.s.run ids},q.ev,q.head,q.start⟩
def XA (r:Rd) (p:Pn):Option Int->Rd
 | none=>r
 | some n=>⟨r.s,r.ev++[⟨4,p.g.id,n⟩],true,n⟩
def aB1 (r:Rd) (p:Pn):Option (List Int)->Rd
 | some ids=>(admR (fO r ids) p).1
 | none=>XA r p (lE r.s.c r.s.now r.s.run p.g)
def bB (r:Rd) (p:Pn):Rd:=
 if (admR r p).2=true then (admR r p).1 else if r.head=true then r else aB1 r p (dO r.s.c r.s.run p.g)
def fY (a b:Int):Int:=if a<b then -1 else if b<a then 1 else 0
def zL (c:Con) (h:List Nat) (n:Int):Nat:=(aZ c.ns n).foldl (fun x t=>if t<(h.length:Int) then iR x ((h[t.toNat]?).getD 0) else x) 0
def aHP (c:Con) (n:Int):Int:=if 0<=n/\n<(c.ns.length:Int) then max 1 (bR c.ns n).w else 1
def kQ (c:Con) (h:List Nat) (n:Int):Nat:=qZ (zL c h n) (ofF (aHP c n))
def pQ (c:Con) (h:List Nat) (x y:Int):Int:=if kQ c h x<kQ c h y then -1 else if kQ c h y<kQ c h x then 1 else fY x y
def eO (c:Con) (h:List Nat):List Int->List Int->Int
 | [],[]=>0
 | [],_::_=> -1
 | _::_,[]=>1
 | x::p,y::q=>if x=y then eO c h p q else pQ c h x y
def mY (c:Con) (now:Int) (p:Pn):Bool:=decide (0<c.age)&&(decide (p.at'<=now)&&decide (c.age<=now-p.at'))
def ptC (s:Sta) (a b:Pn):Int:=eO s.c s.hist (bD s.c.ns a.g.ten) (bD s.c.ns b.g.ten)
def gJ (s:Sta) (a b:Pn):Int:=
 if mY s.c s.now a=true then (if mY s.c s.now b=true then fY a.seq b.seq else -1)
 else if mY s.c s.now b=true then 1 else (if ptC s a b=0 then fY a.seq b.seq else ptC s a b)
def ltP (s:Sta) (a b:Pn):Bool:=decide (gJ s a b<0)
theorem oQ {a b:Int}:fY a b<0↔a<b:=by
 unfold fY
 repeat' split
 all_goals omega
theorem aBJ {a b:Int}:fY a b=0↔a=b:=by
 unfold fY
 repeat' split
 all_goals omega
theorem aFf {a b:Int}:0<fY a b↔b<a:=by
 unfold fY
 repeat' split
 all_goals omega
theorem aFk {c:Con} {h:List Nat} {x y:Int}:pQ c h x y<0↔kQ c h x<kQ c h y\/(kQ c h x=kQ c h y/\x<y):=by
 have:=oQ (a:=x) (b:=y)
 unfold pQ
 repeat' split
 all_goals omega
theorem aFl {c:Con} {h:List Nat} {x y:Int}:0<pQ c h x y↔pQ c h y x<0:=by
 have h1:=aFf (a:=x) (b:=y)
 have d:=oQ (a:=y) (b:=x)
 unfold pQ
 repeat' split
 all_goals omega
theorem aBO {c:Con} {h:List Nat} {x y:Int}:pQ c h x y=0↔x=y:=by
 have h1:=aBJ (a:=x) (b:=y)
 unfold pQ
 constructor
 .intro hz
  repeat' split at hz
  all_goals omega
 .rintro rfl
  rw [if_neg o_,if_neg o_]
  exact h1.2 rfl
theorem tC {c:Con} {h:List Nat}:∀ {p q:List Int},eO c h p q=0↔p=q
 | [],[]=>by simp [eO]
 | [],_::_=>by simp [eO]
 | _::_,[]=>by simp [eO]
 | x::p,y::q=>by
  unfold eO
  by_cases e:x=y
  .rw [if_pos e,tC]
   subst e
   simp
  .rw [if_neg e]
   have:=aBO (c:=c) (h:=h) (x:=x) (y:=y)
   constructor
   .intro h1;exact absurd (this.1 h1) e
   .intro h1;cases h1;exact absurd rfl e
theorem SY {c:Con} {h:List Nat}:∀ {p q:List Int},0<eO c h p q↔eO c h q p<0
 | [],[]=>by simp [eO]
 | [],_::_=>by simp [eO]
 | _::_,[]=>by simp [eO]
 | x::p,y::q=>by
  unfold eO
  by_cases e:x=y
  .subst e
   rw [if_pos rfl,if_pos rfl]
   exact SY
  .rw [if_neg e,if_neg (fun h=>e h.symm)]
   exact aFl
theorem aFi {c:Con} {h:List Nat} {x y z:Int} (h1:pQ c h x y<0) (a:pQ c h y z<0):pQ c h x z<0:=by
 rw [aFk] at *
 omega
theorem SX {c:Con} {h:List Nat}:∀ {p q r:List Int},eO c h p q<0->eO c h q r<0->eO c h p r<0
 | [],[],_,h1,_=>by simp [eO] at h1
 | [],_::_,[],_,h2=>by simp [eO] at h2
 | [],_::_,_::_,_,_=>by simp [eO]
 | _::_,[],_,h1,_=>by simp [eO] at h1
 | _::_,_::_,[],_,h2=>by simp [eO] at h2
 | x::p,y::q,z::r,h1,h2=>by
  unfold eO at *
  by_cases b:x=y
  .subst b
   rw [if_pos rfl] at h1
   by_cases a:x=z
   .rw [if_pos a] at h2⊢
    exact SX h1 h2
   .rw [if_neg a] at h2⊢
    exact h2
  .rw [if_neg b] at h1
   by_cases a:y=z
   .subst a
    rw [if_neg b]
    exact h1
   .rw [if_neg a] at h2
    have h3:=aFi h1 h2
    by_cases d:x=z
    .subst d
     have:=(aBO (c:=c) (h:=h) (x:=x) (y:=x)).2 rfl
     omega
    .rw [if_neg d]
     exact h3
theorem gO (s:Sta):Ord (ltP s) where
 irr a:=by
  have h1:=(tC (c:=s.c) (h:=s.hist) (p:=bD s.c.ns a.g.ten)).2 rfl
  have h2:=(aBJ (a:=a.seq) (b:=a.seq)).2 rfl
  unfold ltP gJ ptC
  rw [h1,h2]
  split<;>simp
 tr a b c h1 h2:=by
  unfold ltP gJ at *
  simp only [decide_eq_true_eq] at *
  have n1:=oQ (a:=a.seq) (b:=b.seq)
  have n2:=oQ (a:=b.seq) (b:=c.seq)
  have n3:=oQ (a:=a.seq) (b:=c.seq)
  have t1:=tC (c:=s.c) (h:=s.hist) (p:=bD s.c.ns a.g.ten) (q:=bD s.c.ns b.g.ten)
  have t2:=tC (c:=s.c) (h:=s.hist) (p:=bD s.c.ns b.g.ten) (q:=bD s.c.ns c.g.ten)
  cases ha:mY s.c s.now a<;>cases hb:mY s.c s.now b<;>cases hc:mY s.c s.now c<;>simp only [ha,hb,hc,if_true,if_false,reduceIte,Ct] at * <;>try omega
  by_cases z1:ptC s a b=0
  .have e1:=t1.1 z1
   rw [if_pos z1] at h1
   have e3:ptC s a c=ptC s b c:=by unfold ptC;rw [e1]
   rw [e3]
   split at h2
   .rename_i z;rw [if_pos z];omega
   .rename_i z;rw [if_neg z];exact h2
  .rw [if_neg z1] at h1
   by_cases z2:ptC s b c=0
   .have e2:=t2.1 z2
    have e3:ptC s a c=ptC s a b:=by unfold ptC;rw [e2]
    rw [e3,if_neg z1]
    exact h1
   .rw [if_neg z2] at h2
    have h3:ptC s a c<0:=SX h1 h2
    rw [if_neg o_]
    exact h3
theorem aFA (s:Sta) {a b:Pn} (h:a.seq≠b.seq):ltP s a b=true\/ltP s b a=true:=by
 unfold ltP gJ
 simp only [decide_eq_true_eq]
 have n1:=oQ (a:=a.seq) (b:=b.seq)
 have n2:=oQ (a:=b.seq) (b:=a.seq)
 have d:=tC (c:=s.c) (h:=s.hist) (p:=bD s.c.ns a.g.ten) (q:=bD s.c.ns b.g.ten)
 have e:=tC (c:=s.c) (h:=s.hist) (p:=bD s.c.ns b.g.ten) (q:=bD s.c.ns a.g.ten)
 have j:=SY (c:=s.c) (h:=s.hist) (p:=bD s.c.ns a.g.ten) (q:=bD s.c.ns b.g.ten)
 cases f:mY s.c s.now a<;>cases i:mY s.c s.now b<;>simp only [if_true,if_false,reduceIte,Ct]<;>try omega
 unfold ptC
 by_cases z:eO s.c s.hist (bD s.c.ns a.g.ten) (bD s.c.ns b.g.ten)=0
 .rw [if_pos z,if_pos (e.2 (d.1 z).symm)]
  omega
 .rw [if_neg z,if_neg (fun h=>z (d.2 (e.1 h).symm))]
  omega
def O4 (h:List Nat) (x:Nat) (t:Int):Nat:=if t<(h.length:Int) then iR x ((h[t.toNat]?).getD 0) else x
theorem HT {h:List Nat} {x:Nat} {t:Int} (a:x<18446744073709551616):O4 h x t<18446744073709551616:=by
 unfold O4
 split
 .exact A0 _ _
 .exact a
theorem S6 (c:Con) (h:List Nat) (n:Int):zL c h n<18446744073709551616:=by
 have go:∀ (l:List Int) (x:Nat),x<18446744073709551616->l.foldl (O4 h) x<18446744073709551616:=fun l=>by
  induction l with
  | nil=>exact fun x b=>b
  | cons a l d=>exact fun x b=>d _ (HT b)
 exact go _ _ d_
noncomputable abbrev aGa:Func:=Tryz.f310
theorem YK (h:List Nat) (o:LtF h) (hl:h.length<=1048576) (l:List Int) (g:∀ t∈l,0<=t) (p:l.length<=1048576) (R:Nat):∀ (m i x:Nat),i+m=l.length->x<18446744073709551616->(l.drop i).foldl (O4 h) x=R->
  To E aGa (.pure (.ret (uu R))) (.head (stk aGa 0) [(1,.slice 1 (fv h) .no),(7,uu x),(12,.slice 1 (iv l) .no),(13,ii (l.length:Nat)),(14,ii i)] []):=by
 have e:(iv l).length=l.length:=by simp
 have n:(fv h).length=h.length:=by simp
 intro m
 induction m with
 | zero=>
  exact zqda20
 | succ m f=>
  intro i x k d a
  have b:i<l.length:=o_
  have get:=bS b
  have j:=g _ (Bb b)
  rw [Ac b,Al] at a
  have next:=f (i+1) _ o_ (HT d) a
  clear a f
  generalize l[i]=t at *
  unfold O4 at next
  by_cases h1:t<(h.length:Int)
  .rw [if_pos h1] at next
   have c:t.toNat<h.length:=o_
   have q:t=(t.toNat:Int):=o_
   have r:=GM c
   have hz:=o _ (Bb c)
   rw [Ab c] at next
   have next:To E aGa (.pure (.ret (uu R))) (.head (stk aGa 0) [(1,.slice 1 (fv h) .no),(7,uu (iR x h[t.toNat])),(12,.slice 1 (iv l) .no),(13,ii (l.length:Nat)),(14,ii ((i:Int)+1))] []):=next
   generalize h[t.toNat]=z at *
   have s:=U3 x z d hz
   generalize iR x z=y at *
   refine gV ?_
   exact zW
  .rw [if_neg h1] at next
   refine gV ?_
   exact zW
theorem aF9 (c:Con) (e:c.sm) (h:List Nat) (j:LtF h) (hl:h.length<=1048576) (n:Int):aA Tryz.prog 310 [c.av,.slice 1 (fv h) .no,ii n] [] (.ret (uu (zL c h n))) []:=by
 have k:=OF c e n
 have b:∀ t∈aZ c.ns n,0<=t:=fun t i=>(iA c n t i).1
 have d:(aZ c.ns n).length<=1048576:=kY c e n
 have next:=YK h j hl (aZ c.ns n) b d (zL c h n) (aZ c.ns n).length 0 0 o_ d_ rfl
 generalize zL c h n=R at *
 generalize aZ c.ns n=l at *
 have a:(iv l).length=l.length:=by simp
 try rw [<-a] at next
 exact c_ Tryz.f310 fun _=>zW
noncomputable abbrev U7:Func:=Tryz.f300
theorem QX (h:List Nat) (o:LtF h) (hl:h.length<=1048576) (l:List Int) (g:∀ t∈l,0<=t) (p:l.length<=1048576) (R:Nat):∀ (m i x:Nat),i+m=l.length->x<18446744073709551616->(l.drop i).foldl (O4 h) x=R->
  To E U7 (.pure (.ret (uu R))) (.head (stk U7 0) [(1,.slice 1 (fv h) .no),(7,uu x),(8,.slice 1 (iv l) .no),(9,ii i)] []):=by
 have e:(iv l).length=l.length:=by simp
 have n:(fv h).length=h.length:=by simp
 intro m
 induction m with
 | zero=>
  exact zqda20
 | succ m f=>
  intro i x k d a
  have b:i<l.length:=o_
  have get:=bS b
  have j:=g _ (Bb b)
  rw [Ac b,Al] at a
  have next:=f (i+1) _ o_ (HT d) a
  clear a f
  generalize l[i]=t at *
  unfold O4 at next
  by_cases h1:t<(h.length:Int)
  .rw [if_pos h1] at next
   have c:t.toNat<h.length:=o_
   have q:t=(t.toNat:Int):=o_
   have r:=GM c
   have hz:=o _ (Bb c)
   rw [Ab c] at next
   have next:To E U7 (.pure (.ret (uu R))) (.head (stk U7 0) [(1,.slice 1 (fv h) .no),(7,uu (iR x h[t.toNat])),(8,.slice 1 (iv l) .no),(9,ii ((i:Int)+1))] []):=next
   generalize h[t.toNat]=z at *
   have s:=kW x z d hz
   generalize iR x z=y at *
   refine gV ?_
   exact zW
  .rw [if_neg h1] at next
   refine gV ?_
   exact zW
theorem aCH (c:Con) (e:c.sm) (h:List Nat) (j:LtF h) (hl:h.length<=1048576) (n:Int):aA Tryz.prog 300 [c.av,.slice 1 (fv h) .no,ii n] [] (.ret (uu (zL c h n))) []:=by
 have k:=wW c e n
 have b:∀ t∈aZ c.ns n,0<=t:=fun t i=>(iA c n t i).1
 have d:(aZ c.ns n).length<=1048576:=kY c e n
 have next:=QX h j hl (aZ c.ns n) b d (zL c h n) (aZ c.ns n).length 0 0 o_ d_ rfl
 generalize zL c h n=R at *
 generalize aZ c.ns n=l at *
 have a:(iv l).length=l.length:=by simp
 try rw [<-a] at next
 exact c_ Tryz.f300 fun _=>zW
end Go.Proofs.YticlgfdibfobdaaGreat
namespace Go.AW
open Go.RowKit
def MQ:BInv:=⟨fun _ bs _=>bs=[],fun _ _ _ h=>h⟩
theorem TX:∀ (l:List AObj) (k:Nat) (h:k<l.length),aE l k=l[k]
 | _::_,0,_=>rfl
 | _::r,k+1,h=>TX r k (by simpa using h)
theorem Mem.bury {M:Imm} {ob:Hs} {obs:List AObj} {w:World} (hm:Mem M ob obs w) {k n:Nat} {d:List Value} (C:obs[k]? =some .dead) (t:ob[k]? =some d) (hl:d.length=n+1):
  Mem M (ob.set k (d++[eZ []])) (obs.set k (.bun (n+1) MQ)) w/\Ext M ob obs w M (ob.set k (d++[eZ []])) (obs.set k (.bun (n+1) MQ)) w/\dE ob (ob.set k (d++[eZ []])):=by
 have r:k<obs.length:=(Ad.1 C).1
 have g:k<ob.length:=(Ad.1 t).1
 have i:dE ob (ob.set k (d++[eZ []])):=fun j hs f=>by
  by_cases e:k=j
  .subst e
   rw [t] at f
   cases f
   exact ⟨_,Ap g,List.prefix_append _ _⟩
  .exact ⟨hs,by rw [Aw e];exact f,Cl _⟩
 have l:blk (d++[eZ []])=[]:=AU s_
 have p:∀ {j b:Nat},aM (ob.set k (d++[eZ []])) (obs.set k (.bun (n+1) MQ)) j b->aM ob obs j b:=fun {j b} ⟨c,hs,q,o,e3,e4⟩=>by
  by_cases e:k=j
  .subst e
   rw [Ap g] at e3
   cases e3
   rw [l] at e4
   cases e4
  .rw [Aw e] at q e3
   exact ⟨c,hs,q,o,e3,e4⟩
 have s:∀ (j:Nat) c,(obs.set k (.bun (n+1) MQ))[j]? =some c->∃ hs,(ob.set k (d++[eZ []]))[j]? =some hs/\gK M (ob.set k (d++[eZ []])) w hs c:=fun j c f=>by
  by_cases e:k=j
  .subst e
   rw [Ap r] at f
   cases f
   refine ⟨_,Ap g,by simp [hl],[],?_,fun b u=>(by cases u),rfl⟩
   rw [Ak o_,hl]
   simp
  .rw [Aw e] at f
   obtain ⟨hs,q,o⟩:=hm.obj j c f
   refine ⟨hs,by rw [Aw e];exact q,?_⟩
   cases c with
   | cells I cs'=>
    obtain ⟨b,A,B,cv,x,G,D,H⟩:=o
    exact ⟨b,A,B,cv,x,G,D,fun n v a F m=>(H n v a F m).mono (fun _ _ _ h=>h) i⟩
   | _=>exact o
 exact ⟨⟨hm.imm,by simp [hm.len],s,fun j b m=>hm.lt j b (p m),fun j y b h1 z=>hm.inj j y b (p h1) (p z)⟩,⟨fun _ _ _ h=>h,fun _ _ _ h=>.inl h,i,rfl,rfl,rfl,Ba _,fun _ _ _=>rfl,fun j b m=>.inl ⟨j,p m⟩⟩,i⟩
theorem To.bury {E:Env} {fn:Func} {g:Goal} {st:List KI} {fr:List (Nat×AVal)} {obs:List AObj} (k:Nat) (s:aE obs k= .dead) (j:Fi k g.n0=true) (h:∀ n,To E fn g (.code st fr (bJ obs k (.bun (n+1) MQ)))) (f:g.strict=true:=by rfl):To E fn g (.code st fr obs):=
 .mk fun l M0 ob0 b w0 a w hst hs=>by
  obtain ⟨M,ob,m,hm,i,x,u,z⟩:=hs
  have c:k<ob0.length:=by rw [hst.1];simpa [Jt] using j
  obtain ⟨hs,y,v⟩:=m.hs k _ (Ab c)
  have r:=hst.2 f _ (Bb c)
  obtain ⟨n,j⟩:∃ n,hs.length=n+1:=⟨hs.length-1,by have:=v.length_le;omega⟩
  have d:obs[k]? =some .dead:=by
   have e:k<obs.length:=o_
   rw [Ab e]
   rw [<-TX obs k e,s]
  obtain ⟨p,q,o⟩:=hm.bury d y j
  refine (h n).rec fun h=>h l M0 ob0 b w0 a w hst ?_
  rw [aR d]
  exact ⟨M,_,m.trans q,p,fun t=>(i t).mono (fun _ _ _ h=>h) o,x,u.mono (fun _ _ _ h=>h) o,by simp;omega⟩
def HU:List (Nat×AVal)->List (Nat×AVal)
 | []=>[]
 | (i,v)::r=>(i,strip 5 v)::HU r
theorem BK {M:Imm} {ob:Hs} {v:Value} {t:Nat}:∀ (fr:List (Nat×AVal)),Rep M ob v (aW fr t)->Rep M ob v (aW (HU fr) t)
 | [],h=>h
 | (i,x)::r,h=>by
  simp only [aW,HU] at h⊢
  cases a:Ar i t with
  | true=>rw [a] at h;exact wL 5 h
  | false=>rw [a] at h;exact BK r h
theorem To.looseF {E:Env} {fn:Func} {g:Goal} {st:List KI} {fr:List (Nat×AVal)} {obs:List AObj} (h:To E fn g (.head st (HU fr) obs)):To E fn g (.head st fr obs):=
 .mk fun d M0 ob0 b w0 a w hst hs=>by
  refine h.rec fun h=>h d M0 ob0 b w0 a w hst ?_
  obtain ⟨M,ob,i,hm,c,j,f,e⟩:=hs
  exact ⟨M,ob,i,hm,fun t=>BK fr (c t),j,f,e⟩
end Go.AW
namespace Go.Proofs.YticlgfdibfobdaaGreat
open Go Go.AW Go.Proofs
set_option maxRecDepth 10000
def aLF (f:AVal):List (Nat×AVal):=[(2,.ref 1 0),(6,f)]
def OL (a:List Int) (g:Nat) (o:AObj):List AObj:=[.dead,.cells 53 [.row 2 g],.row g 1 3 (iv a),o]
theorem OX {i:Nat} (h:i<=12):i=0\/i=1\/i=2\/i=3\/i=4\/i=5\/i=6\/i=7\/i=8\/i=9\/i=10\/i=11\/i=12:=o_
theorem aDJ (f:AVal) (a:List Int) (x:Int) (g:Nat) (b:g<=12) (hl:a.length=g) (l:Nat) (R:Loop) (c:R.state= .ready):
  To (El l [] [] []) pW (.keep 4 (.ret (.bool true)) (OL (a++[x]) (g+1) (.bun 0 (bV l (busy R))))) (.code [.code (rfA pW),.beginR,.code (rfB pW)] (gS (aLF f) 7 (ii x)) (OL a g (.bun 0 (bV l R)))):=by
 rcases OX b with rfl | rfl | rfl | rfl | rfl | rfl | rfl | rfl | rfl | rfl | rfl | rfl | rfl
 all_goals
  have d:(iv a).length=a.length:=by simp
  have e:iv (a++[x])=iv a++[ii x]:=by simp
  unfold OL
  rw [e]
  refine gV ?_
  refine To.beginR (k:=3) (gg:=0) rfl rfl c ?_
  exact zW
def auJ (f:AVal) (ob0:Hs) (R:Loop) (l:Nat) (a:List Int):BInv:=jD ob0 (aLF f) R (OL a a.length (.bun 0 (bV l R)))
theorem aDI {j i:Code} (f:AVal) (ob0:Hs) (l:Nat) (R:Loop) (a:List Int) (x:Int) (hl:a.length<=12) (c:RecOK pW 7 j i R) (q:rfA pW=j) (m:rfB pW=i):
  bM Tryz.prog (.yield l) [ii x] [.bun 0 (auJ f ob0 R l a)] (.ret (.bool true)) [.bun 1 (auJ f ob0 R l (a++[x]))]:=by
 subst q m
 unfold auJ
 have rd:=fun g (o:g<=12) h=>aDJ f a x g o h l R c.ready
 have e:(a++[x]).length=a.length+1:=by simp
 obtain ⟨g,d⟩:∃ g,a.length=g:=⟨_,rfl⟩
 rw [e]
 rw [d] at hl⊢
 rcases OX hl with rfl | rfl | rfl | rfl | rfl | rfl | rfl | rfl | rfl | rfl | rfl | rfl | rfl
 all_goals
  exact gE (E:=Ex [] [] []) (fn:=pW) (k:=3) (n:=4) (p:=7) (gg:=0) (L':=OL (a++[x]) _ (.bun 0 (bV l (busy R)))) (b:=true) c.params c.ready c.pend c.assign c.body c.size rfl rfl rfl rfl rfl rfl rfl fun _=>rd _ hl d
theorem E4 {P:Program} {l B:Nat} (F:List Int->BInv) (h:∀ (a:List Int) x,a.length<=B->bM P (.yield l) [ii x] [.bun 0 (F a)] (.ret (.bool true)) [.bun 1 (F (a++[x]))]):∀ (xs a:List Int),a.length+xs.length<=B+1->Ylds P l xs (F a) (F (a++xs)) true
 | [],a,_=>by rw [Bc];exact .nil _
 | x::r,a,hl=>by
  have:=E4 F h r (a++[x]) (by simp at hl⊢;omega)
  rw [Aj] at this
  exact .next x r _ _ _ _ (h a x (by simp at hl;omega)) this
abbrev aEc (c:Con):AVal:=.func (.func 277) [] [.ref 0 0,.ptr c.cs]
theorem aG1 (c:Con) (p:c.sm) (n:Int) (i:(upL c.ns n).length<=12):aA Tryz.prog 307 [.nilslice,aEc c] [.cells 3 [ii n]] (.ret (.row 1 0)) [.bun 1 MQ,.row 0 1 3 (iv (upL c.ns n))]:=by
 have h:((nav c.ns).length:Int)<=9223372036854775807:=by have:=p.ns;simp only [Ck];omega
 refine cT (E:=E) (fn:=Tryz.f307) (g:=.full 1 _ _) fun _=>?_
 refine gV ?_
 refine To.cutC [2,6] 2 rfl rfl rfl rfl ?_
 refine To.mapO (aFm 1) (MP 1) ?_
 refine To.beginRow 1 0 3 rfl rfl ?_
 refine To.range [0] rfl rfl (fun _ _=>by rfl) rfl (fun _ _=>rfl) rfl fun l ob0 R hst j=>?_
 have a:=E4 (P:=Tryz.prog) (l:=l) (B:=12) (auJ (aEc c) ob0 R l) (fun b x hl=>aDI (aEc c) ob0 l R b x hl j rfl rfl) (upL c.ns n) [] q_
 rw [Bm] at a
 unfold auJ at a
 have d:([]:List Int).length=0:=rfl
 rw [d] at a
 obtain ⟨q,k⟩:∃ q,(upL c.ns n).length=q:=⟨_,rfl⟩
 rw [k] at a i
 rcases OX i with rfl | rfl | rfl | rfl | rfl | rfl | rfl | rfl | rfl | rfl | rfl | rfl | rfl
 all_goals
  obtain ⟨m,o,e⟩:=HR l c n _ _ true h a
  refine ⟨_,true,_,[.cells 3 [m]],o,e,rfl,rfl,?_⟩
  refine To.bury 0 rfl rfl fun z=>?_
  refine gV ?_
  refine ⟨[],[0,2],⟨rfl,rfl⟩,rfl,?_⟩
  show [AObj.bun (match gm 1 0 (z+1) (z+1) with | some g=>g | none=>0) MQ,_]=_
  rw [mO]
  rfl
theorem aGM (c:Con) (b:c.sm) (n:Int) (a:(upL c.ns n).length<=12):aA Tryz.prog 284 [aEc c] [.cells 3 [ii n]] (.ret (.row 1 0)) [.bun 1 MQ,.row 0 1 3 (iv (upL c.ns n))]:=by
 have h:=aG1 c b n a
 generalize upL c.ns n=l at h
 refine cT (E:=E) (fn:=Tryz.f284) (g:=.full 1 _ _) fun _=>?_
 exact zW
theorem TD {α:Type} (A M B:List α) (x y:α):((A++x::(M++[y])++B).set A.length y).set (A.length+M.length+1) x=A++[y]++M++x::B:=by
 have e:A++x::(M++[y])++B=A++x::(M++y::B):=by simp
 rw [e,Hw _ _ o_,Hw _ _ o_]
 rw [show A.length-A.length=0 by omega,show A.length+M.length+1-A.length=M.length+1 by omega]
 simp
noncomputable abbrev aGb:Func:=Tryz.f285
theorem aA0 (R:List Int):∀ (n:Nat) (A M B:List Int),M.length<=n->A.length+M.length+B.length<=1048576->A++M.reverse++B=R->
  To (Er [] [14,16,17]) aGb (.full 1 (.ret (.tup [])) [.row 0 1 3 (iv R)]) (.head (stk aGb 0) [(0,.row 0 0),(2,ii (A.length:Nat)),(3,ii ((A.length:Int)+M.length-1))] [.row 0 1 3 (iv (A++M++B))]):=by
 intro n
 induction n with
 | zero=>
  intro A M B d hl a
  have d:M=[]:=Bl.1 o_
  subst d
  have a:A++[]++B=R:=a
  rw [a]
  have e:(([]:List Int).length:Int)=0:=rfl
  rw [e]
  refine gV ?_
  exact zW
 | succ n v=>
  intro A M B d hl a
  by_cases c:M.length<2
  .have u:M.reverse=M:=by
    match M,c with
    | [],_=>rfl
    | [_],_=>rfl
   rw [u] at a
   rw [a]
   refine gV ?_
   exact zW
  .obtain ⟨x,M',y,rfl⟩:∃ x M' y,M=x::(M'++[y]):=by
    match M,c with
    | x::r,c=>
     have k:r≠[]:=fun e=>by subst e;simp at c
     exact ⟨x,r.dropLast,r.getLast k,by rw [Km]⟩
   have next:=v (A++[y]) M' (x::B) (by simp at d;omega) (by simp at hl⊢;omega) (by rw [<-a];simp)
   have z:(iv (A++x::(M'++[y])++B))[A.length]? =some (ii x):=by simp
   have m:(iv (A++x::(M'++[y])++B))[A.length+M'.length+1]? =some (ii y):=by
    rw [show A++x::(M'++[y])++B=(A++x::M')++y::B by simp]
    simp only [Cc]
    rw [Ak q_]
    simp only [Ck,Ay,Bq,Bp]
    rw [show A.length+M'.length+1-(A.length+(M'.length+1))=0 by omega]
    rfl
   have p:((A.length:Int)+((x::(M'++[y])).length:Nat)-1)=((A.length+M'.length+1:Nat):Int):=by simp;omega
   have g:(iv (A++x::(M'++[y])++B)).length=A.length+M'.length+2+B.length:=by simp;omega
   have es:((iv (A++x::(M'++[y])++B)).set A.length (ii y)).set (A.length+M'.length+1) (ii x)=iv (A++[y]++M'++x::B):=by
    rw [<-TD A M' B x y]
    simp only [iv,Gc]
   have o:((A++[y]).length:Int)=(A.length:Int)+1:=by simp
   have b:(A.length:Int)+1+(M'.length:Int)-1=((A.length+M'.length+1:Nat):Int)-1:=o_
   rw [p]
   rw [o,b,<-es] at next
   generalize iv (A++x::(M'++[y])++B)=L at *
   have f:A.length+M'.length+1<=1048576:=by simp at hl;omega
   obtain ⟨j,l⟩:∃ j,j=A.length+M'.length+1:=⟨_,rfl⟩
   have s:A.length<j:=o_
   have q:j<L.length:=o_
   have w:j<=1048576:=o_
   rw [<-l] at m next⊢
   clear hl f g p es o b l
   generalize A.length=i at *
   refine gV ?_
   refine aT fun h=>?_
   repeat' first | (refine gN (hEr [] [14,16,17]) ?_;conv=>whnf) | refine ⟨j,rfl,?_⟩ | refine ⟨_,m,?_⟩ | refine ⟨i,rfl,?_⟩ | refine ⟨_,z,?_⟩ | refine Aa (by rw [Dp];omega) ?_ | exact rfl | refine aY ?_ | refine aN ?_ | refine aT fun h=>?_ | refine aF fun h=>?_ | refine ⟨fun h=>?_,fun h=>?_⟩ | refine aJ ?_ | refine ⟨_,rfl,?_⟩ | refine aD ?_ | fail
   exact zW
theorem aIA (l:List Int) (hl:l.length<=1048576):aA Tryz.prog 285 [.row 0 0] [.row 0 1 3 (iv l)] (.ret (.tup [])) [.row 0 1 3 (iv l.reverse)]:=by
 have a:(iv l).length=l.length:=by simp
 have next:=aA0 l.reverse l.length [] l [] (Ba _) q_ s_
 have e:((0:Nat):Int)+(l.length:Int)-1=((iv l).length:Int)-1:=by rw [a];omega
 have next:To (Er [] [14,16,17]) aGb (.full 1 (.ret (.tup [])) [.row 0 1 3 (iv l.reverse)]) (.head (stk aGb 0) [(0,.row 0 0),(2,ii 0),(3,ii (((0:Nat):Int)+l.length-1))] [.row 0 1 3 (iv (l++[]))]):=next
 rw [e,Bc] at next
 refine cT (E:=(Er [] [14,16,17])) (fn:=Tryz.f285) (g:=.full 1 _ _) fun _=>?_
 refine gV ?_
 refine Fo (Aa (Aa (by simp only [bO];rw [a];omega) (by simp only [bA];rw [a];omega)) ?_)
 exact zW
theorem TT (c:Con) (b:c.sm) (n:Int) (a:(upL c.ns n).length<=12):aA Tryz.prog 243 [c.av,ii n] [] (.ret (.slice 1 (iv (upL c.ns n).reverse) .no)) []:=by
 have h1:=SP c n
 have d:=aGM c b n a
 have h3:=aIA (upL c.ns n) o_
 generalize upL c.ns n=l at *
 refine c_ Tryz.f243 fun _=>?_
 refine gV ?_
 refine .pure _ [.cells 3 [ii n]] h1 ?_
 exact zW
theorem M8 (c:Con) (d:c.sm) (h:List Nat) (l:LtF h) (hl:h.length<=1048576) (n:Int):aA Tryz.prog 287 [c.av,.slice 1 (fv h) .no,ii n] [] (.ret (uu (kQ c h n))) []:=by
  have h1:=aF9 c d h l hl n
  have l1:=S6 c h n
  have k:=d.ns
  have j:(nav c.ns).length=c.ns.length:=by simp
  unfold kQ
  unfold aHP at *
  by_cases b:0<=n/\n<(c.ns.length:Int)
  .rw [if_pos b]
   have a:n.toNat<c.ns.length:=o_
   have i:n=(n.toNat:Int):=o_
   have get:=vI (c:=c) (n:=n) ⟨by omega,a⟩
   generalize bR c.ns n=x at *
   have e:=QS (max 1 x.w)
   have l2:=xD (max 1 x.w)
   generalize zL c h n=p at *
   generalize ofF (max 1 x.w)=q at *
   have h3:=UX p q l1 l2
   generalize qZ p q=r at *
   exact zqda23
  .rw [if_neg b]
   have e:=QS 1
   have l2:=xD 1
   generalize zL c h n=p at *
   generalize ofF 1=q at *
   have h3:=UX p q l1 l2
   generalize qZ p q=r at *
   by_cases m:0<=n
   .exact zqda23
   .exact zqda23
theorem FL (c:Con) (d:c.sm) (h:List Nat) (l:LtF h) (hl:h.length<=1048576) (n:Int):aA Tryz.prog 268 [c.av,.slice 1 (fv h) .no,ii n] [] (.ret (uu (kQ c h n))) []:=by
  have h1:=aCH c d h l hl n
  have l1:=S6 c h n
  have k:=d.ns
  have j:(nav c.ns).length=c.ns.length:=by simp
  unfold kQ
  unfold aHP at *
  by_cases b:0<=n/\n<(c.ns.length:Int)
  .rw [if_pos b]
   have a:n.toNat<c.ns.length:=o_
   have i:n=(n.toNat:Int):=o_
   have get:=vI (c:=c) (n:=n) ⟨by omega,a⟩
   generalize bR c.ns n=x at *
   have e:=B1 (max 1 x.w)
   have l2:=xD (max 1 x.w)
   generalize zL c h n=p at *
   generalize ofF (max 1 x.w)=q at *
   have h3:=FO p q l1 l2
   generalize qZ p q=r at *
   exact zqda12
  .rw [if_neg b]
   have e:=B1 1
   have l2:=xD 1
   generalize zL c h n=p at *
   generalize ofF 1=q at *
   have h3:=FO p q l1 l2
   generalize qZ p q=r at *
   by_cases m:0<=n
   .exact zqda12
   .exact zqda12
theorem TW (c:Con) (now:Int) (p:Pn) (k:0<=now/\now<=1099511627776) (hp:0<=p.at') (l:c.age<=9223372036854775807) (r:Bool) (a:mY c now p=r):aA Tryz.prog 241 [c.av,ii now,p.av] [] (.ret (.bool r)) []:=by
  unfold mY at a
  have m:IntKind.wrap .u64 now=now:=by rw [wu];omega
  by_cases i:0<c.age
  .by_cases e:p.at'<=now
   .have j:now-p.at'=((now-p.at').toNat:Int):=o_
    rw [decide_eq_true i,decide_eq_true e,Bo,Bo] at a
    by_cases d:c.age<=now-p.at'
    .rw [decide_eq_true d] at a
     subst a
     refine c_ Tryz.f241 fun _=>?_
     repeat' first | (refine gN hE ?_;conv=>whnf) | exact rfl | refine aY ?_ | refine aN ?_ | refine aT fun h=>?_ | refine aF fun h=>?_ | refine ⟨fun h=>?_,fun h=>?_⟩ | refine aJ ?_ | refine ⟨_,rfl,?_⟩ | refine aD ?_ | fail
     all_goals exact congrArg (fun b=>Res.ret (AVal.bool b)) (decide_eq_true d)
    .rw [decide_eq_false d] at a
     subst a
     refine c_ Tryz.f241 fun _=>?_
     repeat' first | (refine gN hE ?_;conv=>whnf) | exact rfl | refine aY ?_ | refine aN ?_ | refine aT fun h=>?_ | refine aF fun h=>?_ | refine ⟨fun h=>?_,fun h=>?_⟩ | refine aJ ?_ | refine ⟨_,rfl,?_⟩ | refine aD ?_ | fail
     all_goals exact congrArg (fun b=>Res.ret (AVal.bool b)) (decide_eq_false d)
   .rw [decide_eq_false e,Cj,Bt] at a
    subst a
    exact c_ Tryz.f241 fun _=>zW
  .rw [decide_eq_false i,Cj] at a
   subst a
   exact c_ Tryz.f241 fun _=>zW
theorem LD (c:Con) (now:Int) (p:Pn) (k:0<=now/\now<=1099511627776) (hp:0<=p.at') (l:c.age<=9223372036854775807) (r:Bool) (a:mY c now p=r):aA Tryz.prog 210 [c.av,ii now,p.av] [] (.ret (.bool r)) []:=by
  unfold mY at a
  have m:IntKind.wrap .u64 now=now:=by rw [wu];omega
  by_cases i:0<c.age
  .by_cases e:p.at'<=now
   .have j:now-p.at'=((now-p.at').toNat:Int):=o_
    rw [decide_eq_true i,decide_eq_true e,Bo,Bo] at a
    by_cases d:c.age<=now-p.at'
    .rw [decide_eq_true d] at a
     subst a
     refine c_ Tryz.f210 fun _=>?_
     repeat' first | (refine gN hE ?_;conv=>whnf) | exact rfl | refine aY ?_ | refine aN ?_ | refine aT fun h=>?_ | refine aF fun h=>?_ | refine ⟨fun h=>?_,fun h=>?_⟩ | refine aJ ?_ | refine ⟨_,rfl,?_⟩ | refine aD ?_ | fail
     all_goals exact congrArg (fun b=>Res.ret (AVal.bool b)) (decide_eq_true d)
    .rw [decide_eq_false d] at a
     subst a
     refine c_ Tryz.f210 fun _=>?_
     repeat' first | (refine gN hE ?_;conv=>whnf) | exact rfl | refine aY ?_ | refine aN ?_ | refine aT fun h=>?_ | refine aF fun h=>?_ | refine ⟨fun h=>?_,fun h=>?_⟩ | refine aJ ?_ | refine ⟨_,rfl,?_⟩ | refine aD ?_ | fail
     all_goals exact congrArg (fun b=>Res.ret (AVal.bool b)) (decide_eq_false d)
   .rw [decide_eq_false e,Cj,Bt] at a
    subst a
    exact c_ Tryz.f210 fun _=>zW
  .rw [decide_eq_false i,Cj] at a
   subst a
   exact c_ Tryz.f210 fun _=>zW
structure OrdOK (s:Sta):Prop where
 sm:s.c.sm
 few:s.c.ns.length<=12
 lt:LtF s.hist
 hl:s.hist.length<=1048576
 now:0<=s.now/\s.now<=1099511627776
 age:s.c.age<=9223372036854775807
theorem OrdOK.path {s:Sta} (h:OrdOK s) (n:Int):(upL s.c.ns n).length<=12:=Co (SQ _ _) h.few
def Y1 (a b:Nat):Int:=if a<b then -1 else if b<a then 1 else 0
theorem aFj (c:Con) (h:List Nat) (x y:Int):pQ c h x y=orI (Y1 (kQ c h x) (kQ c h y)) (fY x y):=by
 unfold pQ orI Y1
 repeat' split
 all_goals first | rfl | omega
theorem VO (s:Sta) (a b:Pn):gJ s a b=if mY s.c s.now a=true then (if mY s.c s.now b=true then fY a.seq b.seq else -1) else if mY s.c s.now b=true then 1 else orI (ptC s a b) (fY a.seq b.seq):=by
 unfold gJ orI
 rfl
theorem IR (x:Nat):aA Tryz.prog 308 [uu x] [] (.ret (.bool false)) []:=by
 refine c_ Tryz.f308 fun _=>?_
 refine gV ?_
 exact congrArg (fun b=>Res.ret (AVal.bool b)) s_
theorem aDp (a b:Nat) (r:Int) (c:Y1 a b=r):aA Tryz.prog 286 [uu a,uu b] [] (.ret (ii r)) []:=by
 unfold Y1 at c
 by_cases h1:a<b
 .rw [if_pos h1] at c
  exact zqda3
 .rw [if_neg h1] at c
  by_cases e:b<a
  .rw [if_pos e] at c
   exact zqda3
  .rw [if_neg e] at c
   exact zqda3
theorem AJ (a b:Int):aA Tryz.prog 242 [ii a,ii b] [] (.ret (ii (fY a b))) []:=VN a b _ rfl
theorem aBM (s:Sta) (h:OrdOK s) (x y:Int):aA Tryz.prog 244 [.ptr s.cs,ii x,ii y] [] (.ret (ii (pQ s.c s.hist x y))) []:=by
 have h1:=M8 s.c h.sm s.hist h.lt h.hl x
 have b:=M8 s.c h.sm s.hist h.lt h.hl y
 have h3:=aDp (kQ s.c s.hist x) (kQ s.c s.hist y) _ rfl
 have d:=AJ x y
 rw [aFj]
 have a:=CB (Y1 (kQ s.c s.hist x) (kQ s.c s.hist y)) (fY x y) _ rfl
 generalize Y1 (kQ s.c s.hist x) (kQ s.c s.hist y)=p at *
 generalize fY x y=q at *
 generalize orI p q=r at *
 generalize kQ s.c s.hist x=l1 at *
 generalize kQ s.c s.hist y=l2 at *
 exact c_ Tryz.f244 fun _=>zW
noncomputable abbrev aLp:Func:=Tryz.f188
abbrev cpF (s:Sta) (p q:List Int) (t:Int) (i:Nat):List (Nat×AVal):=[(0,.ptr s.cs),(4,.ref 0 0),(5,.ref 1 0),(9,ii t),(10,.slice 1 (iv p) .no),(11,.slice 1 (iv q) .no),(90,ii ((min p.length q.length:Nat):Int)),(91,ii i)]
abbrev cpO (a b:Pn):List AObj:=[.cells 78 a.cs,.cells 78 b.cs]
theorem KL {c:Con} {h:List Nat}:∀ {p q:List Int},(p=[]\/q=[])->eO c h p q=fY p.length q.length
 | [],[],_=>rfl
 | [],_::_,_=>by simp [eO,fY]
 | _::_,[],_=>by
  show (1:Int)=fY _ _
  unfold fY
  rw [if_neg (by simp<;>omega),if_pos (by simp<;>omega)]
 | _::_,_::_,h=>by rcases h with h | h<;>cases h
theorem aGJ (s:Sta) (h:OrdOK s) (a b:Pn) (p q:List Int) (hp:p.length<=12) (B:q.length<=12) (R:Int) (j:orI (eO s.c s.hist p q) (fY a.seq b.seq)=R):∀ (m i:Nat),i+m=min p.length q.length->eO s.c s.hist p q=eO s.c s.hist (p.drop i) (q.drop i)->
  To E aLp (.pure (.ret (ii R))) (.head (stk aLp 0) (cpF s p q (fY p.length q.length) i) (cpO a b)):=by
 have r:(iv p).length=p.length:=by simp
 have v:(iv q).length=q.length:=by simp
 have hs:=AJ a.seq b.seq
 intro m
 induction m with
 | zero=>
  intro i w d
  have h1:eO s.c s.hist p q=fY p.length q.length:=by
   have n:p.drop i=[]\/q.drop i=[]:=by
    exact zqda17
   rw [d,KL n,Fh,Fh]
   unfold fY
   repeat' split
   all_goals omega
  rw [h1] at j
  have o:=CB _ _ _ j
  exact zqda13
 | succ m k=>
  intro i w d
  have g:i<p.length:=o_
  have f:i<q.length:=o_
  have D:=bS g
  have C:=bS f
  have next:=k (i+1) o_
  rw [Ac g,Ac f] at d
  have l:eO s.c s.hist (p[i]::p.drop (i+1)) (q[i]::q.drop (i+1))=if p[i]=q[i] then eO s.c s.hist (p.drop (i+1)) (q.drop (i+1)) else pQ s.c s.hist p[i] q[i]:=rfl
  rw [l] at d
  clear l
  have F:=aBM s h p[i] q[i]
  by_cases e:p[i]=q[i]
  .rw [if_pos e] at d
   have A:(p[i] !=q[i])=false:=by rw [e];simp
   have next:=next d
   generalize p[i]=x at *
   generalize q[i]=y at *
   generalize fY p.length q.length=t at *
   refine gV ?_
   exact zW
  .rw [if_neg e] at d
   have A:(p[i] !=q[i])=true:=by simpa using e
   rw [d] at j
   have o:=CB _ _ _ j
   clear next k d
   generalize pQ s.c s.hist p[i] q[i]=z at *
   generalize p[i]=x at *
   generalize q[i]=y at *
   exact zqda13
theorem N0 (s:Sta) (h:OrdOK s) (a b:Pn) (r:0<=a.at') (o:0<=b.at') (R:Int) (d:gJ s a b=R):aA Tryz.prog 188 [.ptr s.cs,a.av,b.av] [] (.ret (ii R)) []:=by
 have m:=TW s.c s.now a h.now r h.age _ rfl
 have i:=TW s.c s.now b h.now o h.age _ rfl
 have hs:=AJ a.seq b.seq
 rw [VO] at d
 cases h1:mY s.c s.now a with
 | true=>
  rw [h1] at m d
  rw [if_pos rfl] at d
  cases e:mY s.c s.now b with
  | true=>
   rw [e] at i d
   rw [if_pos rfl] at d
   rw [d] at hs
   exact zqda4
  | false=>
   rw [e] at i d
   rw [if_neg d_] at d
   subst d
   exact zqda4
 | false=>
  rw [h1] at m d
  rw [if_neg d_] at d
  cases e:mY s.c s.now b with
  | true=>
   rw [e] at i d
   rw [if_pos rfl] at d
   subst d
   exact zqda4
  | false=>
   rw [e] at i d
   rw [if_neg d_] at d
   by_cases j:a.g.ten=b.g.ten
   .have hz:ptC s a b=0:=by unfold ptC;rw [j];exact tC.2 rfl
    rw [hz] at d
    have y:=CB _ _ _ d
    have w:(a.g.ten !=b.g.ten)=false:=by rw [j];simp
    generalize fY a.seq b.seq=u at *
    exact zqda4
   .have w:(a.g.ten !=b.g.ten)=true:=by simpa using j
    have z:=TT s.c h.sm a.g.ten (h.path _)
    have x:=TT s.c h.sm b.g.ten (h.path _)
    have l1:(upL s.c.ns a.g.ten).reverse.length<=12:=by rw [Ip];exact h.path _
    have l2:(upL s.c.ns b.g.ten).reverse.length<=12:=by rw [Ip];exact h.path _
    have n:=aGJ s h a b (upL s.c.ns a.g.ten).reverse (upL s.c.ns b.g.ten).reverse l1 l2 R d _ 0 (Bw _) rfl
    generalize (upL s.c.ns a.g.ten).reverse=p at *
    generalize (upL s.c.ns b.g.ten).reverse=q at *
    have k:(iv p).length=p.length:=by simp
    have l:(iv q).length=q.length:=by simp
    have B:=AJ (iv p).length (iv q).length
    have v:((min p.length q.length:Nat):Int)=min (p.length:Int) (q.length:Int):=o_
    unfold cpF at n
    rw [v,<-k,<-l] at n
    generalize fY ((iv p).length:Int) ((iv q).length:Int)=t at *
    exact zqda4
abbrev kI (s:Sta):AVal:=.func (.func 190) [] [.ptr [.func (.func 188) [] []],.ptr s.cs]
theorem uW (s:Sta) (h:OrdOK s) (a b:Pn) (d:0<=a.at') (c:0<=b.at'):aA Tryz.prog 190 [a.av,b.av,.ptr [.func (.func 188) [] []],.ptr s.cs] [] (.ret (ii (gJ s a b))) []:=by
 have h1:=N0 s h a b d c _ rfl
 generalize gJ s a b=r at *
 exact c_ Tryz.f190 fun _=>zW
theorem BV (a b r:Int) (c:fY a b=r):aA Tryz.prog 212 [ii a,ii b] [] (.ret (ii r)) []:=by
 unfold fY at c
 by_cases h1:a<b
 .rw [if_pos h1] at c
  exact zqda10
 .rw [if_neg h1] at c
  by_cases d:b<a
  .rw [if_pos d] at c
   exact zqda10
  .rw [if_neg d] at c
   exact zqda10
noncomputable abbrev aF7:Func:=Tryz.f211
theorem ZY (s:Sta) (h:OrdOK s) (p q:List Int) (hp:p.length<=12) (w:q.length<=12) (R:Int):∀ (m i:Nat),i+m=min p.length q.length->eO s.c s.hist (p.drop i) (q.drop i)=R->
  To E aF7 (.pure (.ret (ii R))) (.head (stk aF7 0) [(3,.ref 0 0),(7,.slice 1 (iv p) .no),(8,.slice 1 (iv q) .no),(9,ii i)] [.cells 31 s.cs]):=by
 have f:(iv p).length=p.length:=by simp
 have g:(iv q).length=q.length:=by simp
 intro m
 induction m with
 | zero=>
  intro i r a
  have o:p.drop i=[]\/q.drop i=[]:=by
   exact zqda17
  rw [KL o,Fh,Fh] at a
  have h1:fY (iv p).length (iv q).length=R:=by
   rw [<-a,f,g]
   unfold fY
   repeat' split
   all_goals omega
  have u:=BV _ _ _ h1
  by_cases b:i<p.length
  .refine gV ?_
   exact zW
  .refine gV ?_
   exact zW
 | succ m l=>
  intro i r a
  have b:i<p.length:=o_
  have d:i<q.length:=o_
  have B:=bS b
  have A:=bS d
  have next:=l (i+1) o_
  rw [Ac b,Ac d] at a
  have n:eO s.c s.hist (p[i]::p.drop (i+1)) (q[i]::q.drop (i+1))=if p[i]=q[i] then eO s.c s.hist (p.drop (i+1)) (q.drop (i+1)) else pQ s.c s.hist p[i] q[i]:=rfl
  rw [n] at a
  clear n l
  generalize p[i]=x at *
  generalize q[i]=y at *
  by_cases e:x=y
  .rw [if_pos e] at a
   have v:(x==y)=true:=by rw [e];simp
   have next:=next a
   refine gV ?_
   exact zW
  .rw [if_neg e] at a
   have v:(x==y)=false:=by simpa using e
   have h1:=FL s.c h.sm s.hist h.lt h.hl x
   have z:=FL s.c h.sm s.hist h.lt h.hl y
   unfold pQ at a
   clear next
   generalize kQ s.c s.hist x=l1 at *
   generalize kQ s.c s.hist y=l2 at *
   by_cases j:l1<l2
   .rw [if_pos j] at a
    subst a
    refine gV ?_
    exact zW
   .rw [if_neg j] at a
    by_cases k:l2<l1
    .rw [if_pos k] at a
     subst a
     refine gV ?_
     exact zW
    .rw [if_neg k] at a
     have u:=BV _ _ _ a
     refine gV ?_
     exact zW
theorem aHW (s:Sta) (h:OrdOK s) (x y:Int):aA Tryz.prog 211 [s.av,ii x,ii y] [] (.ret (ii (eO s.c s.hist (bD s.c.ns x) (bD s.c.ns y)))) []:=by
 have d:=qG s.c h.sm x
 have b:=qG s.c h.sm y
 have l1:=Co (nS s.c.ns x) h.few
 have l2:=Co (nS s.c.ns y) h.few
 have a:=ZY s h (bD s.c.ns x) (bD s.c.ns y) l1 l2 _ _ 0 (Bw _) rfl
 have a:To E aF7 (.pure (.ret (ii (eO s.c s.hist (bD s.c.ns x) (bD s.c.ns y))))) (.head (stk aF7 0) [(3,.ref 0 0),(7,.slice 1 (iv (bD s.c.ns x)) .no),(8,.slice 1 (iv (bD s.c.ns y)) .no),(9,ii 0)] [.cells 31 s.cs]):=a
 generalize eO s.c s.hist (bD s.c.ns x) (bD s.c.ns y)=R at *
 generalize bD s.c.ns x=p at *
 generalize bD s.c.ns y=q at *
 exact c_ Tryz.f211 fun _=>zW
theorem aBb (s:Sta) (h:OrdOK s) (a b:Pn) (m:0<=a.at') (l:0<=b.at') (R:Int) (d:gJ s a b=R):aA Tryz.prog 143 [s.av,a.av,b.av] [] (.ret (ii R)) []:=by
 have k:=LD s.c s.now a h.now m h.age _ rfl
 have j:=LD s.c s.now b h.now l h.age _ rfl
 have hs:=BV a.seq b.seq _ rfl
 rw [VO] at d
 cases h1:mY s.c s.now a with
 | true=>
  rw [h1] at k d
  rw [if_pos rfl] at d
  cases i:mY s.c s.now b with
  | true=>
   rw [i] at j d
   rw [if_pos rfl] at d
   rw [d] at hs
   exact zqda5
  | false=>
   rw [i] at j d
   rw [if_neg d_] at d
   subst d
   exact zqda5
 | false=>
  rw [h1] at k d
  rw [if_neg d_] at d
  cases i:mY s.c s.now b with
  | true=>
   rw [i] at j d
   rw [if_pos rfl] at d
   subst d
   exact zqda5
  | false=>
   rw [i] at j d
   rw [if_neg d_] at d
   have o:=aHW s h a.g.ten b.g.ten
   have e:ptC s a b=eO s.c s.hist (bD s.c.ns a.g.ten) (bD s.c.ns b.g.ten):=rfl
   rw [e] at d
   generalize eO s.c s.hist (bD s.c.ns a.g.ten) (bD s.c.ns b.g.ten)=t at *
   unfold orI at d
   by_cases hz:t=0
   .rw [if_pos hz] at d
    rw [d] at hs
    have n:(t !=0)=false:=by rw [hz];rfl
    exact zqda5
   .rw [if_neg hz] at d
    rw [d] at *
    have n:(R !=0)=true:=by simpa using hz
    exact zqda5
def oN (s:Sta):List Pn:=srt (ltP s) s.pend
noncomputable abbrev fRS:Func:=Tryz.f71
abbrev rsF (out:List Pn) (i:Int):List (Nat×AVal):=[(1,.ref 0 0),(3,.slice 11 (pnv out) .no),(4,ii i)]
abbrev rsO (s:Sta):List AObj:=[.cells 31 s.cs]
theorem UK {x y:Pn} {s:Sta} {out:List Pn} {k:Nat} (h:out[k]? =some y):lO (ltP s) x out (k+1)=if ltP s x y=true then lO (ltP s) x out k else k+1:=by
 simp only [lO,h]
theorem aKA (s:Sta) (h:OrdOK s) (o:∀ p∈s.pend,0<=p.at') (R:AVal) (x:Pn) (i:Nat) (w:i<1048576) (g:(pnv s.pend)[i]? =some x.av) (r:0<=x.at') (out:List Pn) (u:out.length<=1048576) (d:∀ p∈out,0<=p.at')
  (next:∀ K:Nat,K<=out.length->K=lO (ltP s) x out out.length->To (Er [] [45,46,47]) fRS (.pure (.ret R)) (.head (stk fRS 0) [(1,.ref 0 0),(3,.slice 11 ((pnv out).take K++[x.av]++(pnv out).drop K) .no),(4,ii ((i:Int)+1))] (rsO s))):∀ (k:Nat),k<=out.length->lO (ltP s) x out out.length=lO (ltP s) x out k->
  To (Er [] [45,46,47]) fRS (.pure (.ret R)) (.head (stk fRS 1) (rsF out i++[(5,ii k)]) (rsO s)):=by
 have l:(pnv out).length=out.length:=by simp
 intro k
 induction k with
 | zero=>
  intro m b
  have next:=next 0 (Cn _) (by rw [b];rfl)
  have t:(Et 0 (pnv out)).length=0:=by simp
  refine gV ?_
  repeat' first | (refine gN (hEr [] [45,46,47]) ?_;conv=>whnf) | refine Ah 0 (Aa o_ ?_) | refine ⟨i,rfl,?_⟩ | refine ⟨_,g,?_⟩ | refine ⟨⟨by simp only [maxLen];simp;omega,by simp;omega⟩,?_⟩ | refine Aa (Aa (by simp [maxLen]) s_) ?_ | exact rfl | refine aY ?_ | refine aN ?_ | refine aT fun h=>?_ | refine aF fun h=>?_ | refine ⟨fun h=>?_,fun h=>?_⟩ | refine aJ ?_ | refine ⟨_,rfl,?_⟩ | refine aD ?_ | fail
  exact zW
 | succ k q=>
  intro m b
  have a:k<out.length:=o_
  have j:=rR a
  have c:=d _ (Bb a)
  rw [UK (Ab a)] at b
  have n:=aBb s h x out[k] r c _ rfl
  have f:((k+1:Nat):Int)-1=((k:Nat):Int):=o_
  by_cases hl:gJ s x out[k]<0
  .have e:ltP s x out[k]=true:=decide_eq_true hl
   rw [if_pos e] at b
   have next:=q o_ b
   generalize out[k]=y at *
   generalize gJ s x y=v at *
   refine gV ?_
   repeat' first | (refine gN (hEr [] [45,46,47]) ?_;conv=>whnf) | refine ⟨i,rfl,?_⟩ | refine Ah k (Aa o_ ?_) | refine ⟨_,g,?_⟩ | refine ⟨_,j,?_⟩ | refine .pure _ [] n ?_ | exact rfl | refine aY ?_ | refine aN ?_ | refine aT fun h=>?_ | refine aF fun h=>?_ | refine ⟨fun h=>?_,fun h=>?_⟩ | refine aJ ?_ | refine ⟨_,rfl,?_⟩ | refine aD ?_ | fail
   rw [f]
   exact zW
  .have e:ltP s x out[k]=false:=decide_eq_false hl
   rw [if_neg (by rw [e];decide)] at b
   have next:=next (k+1) m b.symm
   generalize out[k]=y at *
   generalize gJ s x y=v at *
   refine gV ?_
   repeat' first | (refine gN (hEr [] [45,46,47]) ?_;conv=>whnf) | refine Ah (k+1) (Aa rfl ?_) | refine ⟨i,rfl,?_⟩ | refine Ah k (Aa o_ ?_) | refine ⟨_,g,?_⟩ | refine ⟨_,j,?_⟩ | refine .pure _ [] n ?_ | refine ⟨⟨by simp only [maxLen];simp;omega,by simp;omega⟩,?_⟩ | refine Aa (Aa (by simp only [bO];omega) (by simp only [bA];omega)) ?_ | exact rfl | refine aY ?_ | refine aN ?_ | refine aT fun h=>?_ | refine aF fun h=>?_ | refine ⟨fun h=>?_,fun h=>?_⟩ | refine aJ ?_ | refine ⟨_,rfl,?_⟩ | refine aD ?_ | fail
   exact zW
theorem aIq (s:Sta) (h:OrdOK s) (hl:s.pend.length<=1000000) (d:∀ p∈s.pend,0<=p.at') (R:List Pn):∀ (m i:Nat) (out:List Pn),i+m=s.pend.length->out.length=i->(∀ p∈out,0<=p.at')->(s.pend.drop i).foldl (kB (ltP s)) out=R->
  To (Er [] [45,46,47]) fRS (.pure (.ret (.slice 11 (pnv R) .no))) (.head (stk fRS 0) (rsF out i) (rsO s)):=by
 have l:(pnv s.pend).length=s.pend.length:=by simp
 intro m
 induction m with
 | zero=>
  intro i out r q c a
  rw [Ae o_] at a
  have a:out=R:=a
  subst a
  refine gV ?_
  exact zW
 | succ m t=>
  intro i out r q c a
  have b:i<s.pend.length:=o_
  rw [Ac b,Al] at a
  have n:=rR b
  have k:=d _ (Bb b)
  generalize s.pend[i]=x at a n k
  have j:(pnv out).length=out.length:=by simp
  have hp:=rV (ltP s) out x
  have g:=aKA s h d (.slice 11 (pnv R) .no) x i o_ n k out o_ c (fun K o u=>by
   have e:(pnv out).take K++[x.av]++(pnv out).drop K=pnv (kB (ltP s) out x):=by unfold kB;rw [<-u];simp
   rw [e]
   exact t (i+1) (kB (ltP s) out x) o_ (by have:=hp.length_eq;simp at this;omega) (fun p f=>by
    rcases Au.1 (hp.mem_iff.1 f) with rfl | f
    .exact k
    .exact c p f) a) out.length (Ba _) rfl
  refine gV ?_
  refine aT fun h=>?_
  rw [<-j] at g
  exact zW
theorem aAA (s:Sta) (h:OrdOK s) (hl:s.pend.length<=1000000) (a:∀ p∈s.pend,0<=p.at'):aA Tryz.prog 71 [s.av] [] (.ret (.slice 11 (pnv (oN s)) .no)) []:=by
 refine cT (E:=(Er [] [45,46,47])) (fn:=Tryz.f71) (g:=.pure _) fun _=>?_
 refine gV ?_
 refine To.part [1,3,4] [0] rfl rfl rfl ?_
 refine To.looseF ?_
 exact aIq s h hl a (oN s) s.pend.length 0 [] o_ rfl (fun p hp=>by cases hp) rfl
theorem rO (l:List Pn):(pnv l).length=l.length:=by simp
theorem TH (A B:List Pn) (x:Pn) {i:Nat} (a:i=A.length):(pnv (A++x::B))[i]? =some x.av:=by
 subst a
 simp
theorem AG (A M B:List Pn) (x y:Pn) {i j:Nat} (a:i=A.length) (f:j=A.length+M.length+1):
  (pnv (A++x::(M++y::B)))[i]? =some x.av/\(pnv (A++x::(M++y::B)))[j]? =some y.av/\((pnv (A++x::(M++y::B))).set i y.av).set j x.av=pnv (A++y::(M++x::B))/\((pnv (A++x::(M++y::B))).set j x.av).set i y.av=pnv (A++y::(M++x::B)):=by
 have e:A++x::(M++y::B)=(A++x::M)++y::B:=by simp
 have b:((pnv (A++x::(M++y::B))).set i y.av).set j x.av=pnv (A++y::(M++x::B)):=by
  have h:=TD A M B x y
  have c:A++x::(M++[y])++B=A++x::(M++y::B):=by simp
  have d:A++[y]++M++x::B=A++y::(M++x::B):=by simp
  rw [c,d] at h
  subst a f
  rw [<-h]
  simp only [pnv,Gc]
 refine ⟨TH _ _ _ a,by rw [e];exact TH _ _ _ q_,b,?_⟩
 rw [List.set_comm _ _ o_]
 exact b
def mH (l:List Pn):Prop:=∀ p∈l,0<=p.at'
theorem mH.perm {l m:List Pn} (h:l.Perm m) (a:mH l):mH m:=fun p hp=>a p (h.mem_iff.2 hp)
abbrev bL (l:List Pn):List AObj:=[.row 0 11 78 (pnv l)]
noncomputable abbrev NR:Func:=Tryz.f288
abbrev isF (s:Sta) (a b i:Nat):List (Nat×AVal):=[(0,.row 0 0),(1,ii a),(2,ii b),(3,kI s),(8,ii i)]
theorem QL (s:Sta) (h:OrdOK s) (R:List Pn) (A T B:List Pn) (x:Pn) (a b i:Nat) (S:a=A.length) (V:i=A.length+T.length) (hl:A.length+T.length+B.length<=1000000) (M:i<b) (U:b<=1000001) (P:0<=x.at') (O:mH T)
  (next:To (Er [] [37,39,40,41]) NR (.full 1 (.ret (.tup [])) (bL R)) (.head (stk NR 0) (isF s a b (i+1)) (bL (A++(kB (ltP s) T x++B))))):∀ (k:Nat),k<=T.length->lO (ltP s) x T T.length=lO (ltP s) x T k->
  To (Er [] [37,39,40,41]) NR (.full 1 (.ret (.tup [])) (bL R)) (.head (stk NR 1) (isF s a b i++[(9,ii ((A.length+k:Nat):Int))]) (bL (A++(T.take k++x::(T.drop k++B))))):=by
 intro k
 induction k with
 | zero=>
  intro N l
  have e:kB (ltP s) T x++B=T.take 0++x::(T.drop 0++B):=by
   unfold kB
   rw [l]
   simp [lO]
  rw [e] at next
  generalize pnv (A++(T.take 0++x::(T.drop 0++B)))=L at *
  subst S
  refine gV ?_
  exact zW
 | succ k H=>
  intro N l
  have f:k<T.length:=o_
  have z:=O _ (Bb f)
  have q:T.take (k+1)=T.take k++[T[k]]:=Hc f
  have I:T.drop k=T[k]::T.drop (k+1):=Ac f
  rw [UK (Ab f)] at l
  have Q:=uW s h x T[k] P z
  have c:((A.length+(k+1):Nat):Int)-1=((A.length+k:Nat):Int):=o_
  have F:A++(T.take (k+1)++x::(T.drop (k+1)++B))=(A++T.take k)++T[k]::([]++x::(T.drop (k+1)++B)):=by rw [q];simp only [Aj,Cm,Bm]
  obtain ⟨r,t,_,p⟩:=AG (A++T.take k) [] (T.drop (k+1)++B) T[k] x (i:=A.length+k) (j:=A.length+(k+1)) q_ q_
  have J:(A++T.take k)++x::([]++T[k]::(T.drop (k+1)++B))=A++(T.take k++x::(T.drop k++B)):=by rw [I];simp only [Aj,Cm,Bm]
  have K:(pnv ((A++T.take k)++T[k]::([]++x::(T.drop (k+1)++B)))).length=A.length+T.length+1+B.length:=by simp;omega
  rw [J] at p
  rw [F]
  by_cases o:gJ s x T[k]<0
  .have e:ltP s x T[k]=true:=decide_eq_true o
   rw [if_pos e] at l
   have m:=H o_ l
   dsimp only [bL] at m⊢
   rw [<-p] at m
   clear next H
   generalize gJ s x T[k]=v at *
   generalize T[k]=y at *
   generalize pnv ((A++T.take k)++y::([]++x::(T.drop (k+1)++B)))=L at *
   obtain ⟨j,n⟩:∃ j,j=A.length+(k+1):=⟨_,rfl⟩
   obtain ⟨g,d⟩:∃ g,g=A.length+k:=⟨_,rfl⟩
   have D:j=g+1:=o_
   have C:a<j:=o_
   have w:j<L.length:=o_
   have G:j<=1000000:=o_
   rw [<-n] at c m t⊢
   rw [<-d] at c m r
   clear n d p F J q I K l
   refine gV ?_
   refine aT fun h=>?_
   repeat' first | (refine gN (hEr [] [37,39,40,41]) ?_;conv=>whnf) | refine ⟨j,rfl,?_⟩ | refine ⟨_,t,?_⟩ | refine ⟨g,c,?_⟩ | refine ⟨_,r,?_⟩ | exact rfl | refine aY ?_ | refine aN ?_ | refine aT fun h=>?_ | refine aF fun h=>?_ | refine ⟨fun h=>?_,fun h=>?_⟩ | refine aJ ?_ | refine ⟨_,rfl,?_⟩ | refine aD ?_ | fail
   refine .pure _ [] Q ?_
   repeat' first | (refine gN (hEr [] [37,39,40,41]) ?_;conv=>whnf) | exact rfl | refine aY ?_ | refine aN ?_ | refine aT fun h=>?_ | refine aF fun h=>?_ | refine ⟨fun h=>?_,fun h=>?_⟩ | refine aJ ?_ | refine ⟨_,rfl,?_⟩ | refine aD ?_ | fail
   repeat' first | (refine gN (hEr [] [37,39,40,41]) ?_;conv=>whnf) | refine ⟨j,rfl,?_⟩ | refine ⟨_,t,?_⟩ | refine ⟨g,c,?_⟩ | refine ⟨_,r,?_⟩ | refine Aa (by rw [Dp];omega) ?_ | exact rfl | refine aY ?_ | refine aN ?_ | refine aT fun h=>?_ | refine aF fun h=>?_ | refine ⟨fun h=>?_,fun h=>?_⟩ | refine aJ ?_ | refine ⟨_,rfl,?_⟩ | refine aD ?_ | fail
   refine To.part [0,1,2,3,8,9] [0] rfl rfl rfl ?_
   rw [<-c] at m
   exact m
  .have e:ltP s x T[k]=false:=decide_eq_false o
   rw [if_neg (by rw [e];decide)] at l
   have u:kB (ltP s) T x++B=T.take k++T[k]::([]++x::(T.drop (k+1)++B)):=by
    unfold kB
    rw [l,q]
    simp only [Aj,Cm,Bm]
   have u:A++(kB (ltP s) T x++B)=(A++T.take k)++T[k]::([]++x::(T.drop (k+1)++B)):=by rw [u,Aj]
   rw [u] at next
   clear H
   dsimp only [bL] at next⊢
   generalize gJ s x T[k]=v at *
   generalize T[k]=y at *
   generalize pnv ((A++T.take k)++y::([]++x::(T.drop (k+1)++B)))=L at *
   obtain ⟨j,n⟩:∃ j,j=A.length+(k+1):=⟨_,rfl⟩
   obtain ⟨g,d⟩:∃ g,g=A.length+k:=⟨_,rfl⟩
   have D:j=g+1:=o_
   have C:a<j:=o_
   have w:j<L.length:=o_
   have G:j<=1000000:=o_
   rw [<-n] at c t⊢
   rw [<-d] at c r
   clear n d p F J q I K l u
   refine gV ?_
   exact zW
theorem UE (s:Sta) (h:OrdOK s) (A B:List Pn) (a b:Nat) (j:a=A.length) (k:b<=1000000) (r:A.length+B.length<=1000000) (R:List Pn):∀ (rest T:List Pn),R=A++(rest.foldl (kB (ltP s)) T++B)->b=A.length+T.length+rest.length->b+B.length<=1000000->mH (T++rest)->
  To (Er [] [37,39,40,41]) NR (.full 1 (.ret (.tup [])) (bL R)) (.head (stk NR 0) (isF s a b (A.length+T.length)) (bL (A++(T++(rest++B)))))
 | [],T,hR,hlen,hB,hat=>by
  subst hR
  dsimp only [bL,List.foldl_nil,Bm]
  generalize pnv (A++(T++B))=L at *
  obtain ⟨i,g⟩:∃ i,i=A.length+T.length:=⟨_,rfl⟩
  rw [<-g] at hlen⊢
  have m:b=i:=by simpa using hlen
  refine gV ?_
  exact zW
 | x::rest,T,hR,hlen,hB,hat=>by
  have f:b=A.length+T.length+rest.length+1:=by simp at hlen;omega
  have hp:=rV (ltP s) T x
  have d:=hp.length_eq
  have e:mH (kB (ltP s) T x++rest):=hat.perm ((Ej.trans (Dq rest hp.symm)))
  have c:=UE s h A B a b j k r R rest (kB (ltP s) T x) hR (by simp at d;omega) hB e
  have q:A.length+(kB (ltP s) T x).length=A.length+T.length+1:=by simp at d;omega
  rw [q] at c
  have o:0<=x.at':=hat x s_
  have n:mH T:=fun p hp=>hat p (Dr _ hp)
  have c:=QL s h R A T (rest++B) x a b (A.length+T.length) j rfl q_ o_ o_ o n c T.length (Ba _) rfl
  rw [Il,List.drop_length,Bm] at c
  dsimp only [bL] at c⊢
  rw [Cm]
  generalize pnv (A++(T++x::(rest++B)))=L at *
  obtain ⟨i,g⟩:∃ i,i=A.length+T.length:=⟨_,rfl⟩
  rw [<-g] at c⊢
  have l:i<b:=o_
  refine gV ?_
  exact zW
theorem QK (s:Sta) (h:OrdOK s) (A S B:List Pn) (a b:Nat) (l:a=A.length) (i:b=A.length+S.length) (j:b+B.length<=1000000) (c:mH S):
  aA Tryz.prog 288 [.row 0 0,ii a,ii b,kI s] (bL (A++(S++B))) (.ret (.tup [])) (bL (A++(srt (ltP s) S++B))):=by
 have h1:To (Er [] [37,39,40,41]) NR (.full 1 (.ret (.tup [])) (bL (A++(srt (ltP s) S++B)))) (.head (stk NR 0) [(0,.row 0 0),(1,ii a),(2,ii b),(3,kI s),(8,ii ((a:Int)+1))] (bL (A++(S++B)))):=by
  cases S with
  | nil=>
   have e:srt (ltP s) []=[]:=rfl
   rw [e]
   dsimp only [bL]
   generalize pnv (A++([]++B))=L at *
   simp at i
   refine gV ?_
   exact zW
  | cons x S=>
   simp at i
   have:=UE s h A B a b l o_ o_ (A++(srt (ltP s) (x::S)++B)) S [x] rfl q_ j c
   have e:A.length+[x].length=a+1:=by simp;omega
   rw [e] at this
   exact this
 generalize A++(srt (ltP s) S++B)=R at *
 dsimp only [bL] at h1⊢
 generalize pnv (A++(S++B))=L at *
 have k:a<=1000000:=o_
 clear c
 refine cT (E:=(Er [] [37,39,40,41])) (fn:=Tryz.f288) (g:=.full 1 _ _) fun _=>?_
 refine gV ?_
 have d:inR .i64 ((a:Int)+1):=⟨by simp only [bO];omega,by simp only [bA];omega⟩
 refine Fo (Aa d ?_)
 exact zW
noncomputable abbrev aK4:Func:=Tryz.f320
theorem KT (R Y:List Pn) (a b N:Nat) (cv:AVal):∀ (U V X M:List Pn) (i:Nat),U.length=V.length->i+U.length=N->a+i=X.length->b+i=X.length+U.length+M.length->X.length+U.length+M.length+V.length+Y.length<=1000000->R=X++(V++(M++(U++Y)))->
  To (Er [] [16,20,21,22,23]) aK4 (.full 1 (.ret (.tup [])) (bL R)) (.head (stk aK4 0) [(0,.row 0 0),(1,ii a),(2,ii b),(3,ii N),(10,ii i)] (bL (X++(U++(M++(V++Y))))))
 | [],[],X,M,i,hl,hN,hi,hj,hb,hR=>by
  subst hR
  dsimp only [bL,Bm]
  generalize pnv (X++(M++Y))=L at *
  have o:i=N:=by simpa using hN
  subst o
  refine gV ?_
  exact zW
 | x::U,y::V,X,M,i,hl,hN,hi,hj,hb,hR=>by
  have d:U.length=V.length:=by simpa using hl
  simp at hN hj hb
  have k:=KT R Y a b N cv U V (X++[y]) (M++[x]) (i+1) d o_ q_ q_ q_ (by rw [hR];simp only [Aj,Cm,Bm])
  obtain ⟨s,t,n,_⟩:=AG X (U++M) (V++Y) x y (i:=a+i) (j:=b+i) hi q_
  have u:X++y::(U++M++x::(V++Y))=(X++[y])++(U++((M++[x])++(V++Y))):=by simp only [Aj,Cm,Bm]
  have q:X++(x::U++(M++(y::V++Y)))=X++x::(U++M++y::(V++Y)):=by simp only [Aj,Cm,Bm]
  rw [u] at n
  rw [q]
  dsimp only [bL] at k⊢
  rw [<-n] at k
  have e:(pnv (X++x::(U++M++y::(V++Y)))).length=X.length+U.length+M.length+V.length+Y.length+2:=by simp;omega
  generalize pnv (X++x::(U++M++y::(V++Y)))=L at *
  have hiN:i<N:=o_
  obtain ⟨c,g⟩:∃ c,c=a+i:=⟨_,rfl⟩
  obtain ⟨j,f⟩:∃ j,j=b+i:=⟨_,rfl⟩
  have l:(a:Int)+i=(c:Int):=o_
  have m:(b:Int)+i=(j:Int):=o_
  have v:j<L.length:=o_
  have r:c<L.length:=o_
  have w:j<=1000000:=o_
  have p:c<=1000000:=o_
  rw [<-g] at k s
  rw [<-f] at k t
  clear g f hj hi hb e q u hR hN hl d n
  refine gV ?_
  refine aT fun h=>?_
  repeat' first | (refine gN (hEr [] [16,20,21,22,23]) ?_;conv=>whnf) | refine ⟨j,m,?_⟩ | refine ⟨_,t,?_⟩ | refine ⟨c,l,?_⟩ | refine ⟨_,s,?_⟩ | refine Aa (by rw [Dp];omega) ?_ | exact rfl | refine aY ?_ | refine aN ?_ | refine aT fun h=>?_ | refine aF fun h=>?_ | refine ⟨fun h=>?_,fun h=>?_⟩ | refine aJ ?_ | refine ⟨_,rfl,?_⟩ | refine aD ?_ | fail
  exact zW
theorem O1 (s:Sta) (X U M V Y:List Pn) (a b N:Nat) (h:a=X.length) (e:N=U.length) (c:U.length=V.length) (d:b=X.length+U.length+M.length) (hl:X.length+U.length+M.length+V.length+Y.length<=1000000):
  aA Tryz.prog 320 [.row 0 0,ii a,ii b,ii N,kI s] (bL (X++(U++(M++(V++Y))))) (.ret (.tup [])) (bL (X++(V++(M++(U++Y))))):=by
 have h1:=KT _ Y a b N (kI s) U V X M 0 c o_ o_ o_ hl rfl
 dsimp only [bL] at h1⊢
 generalize pnv (X++(U++(M++(V++Y))))=L at *
 generalize pnv (X++(V++(M++(U++Y))))=R at *
 refine cT (E:=(Er [] [16,20,21,22,23])) (fn:=Tryz.f320) (g:=.full 1 _ _) fun _=>?_
 exact zW
noncomputable abbrev aK9:Func:=Tryz.f311
theorem aAH (s:Sta) (R:List Pn) (m:Nat) (hm:m<=1000000):∀ (n:Nat) (X U V Y:List Pn) (i j:Nat),i+j<=n->i=U.length->j=V.length->0<i->0<j->m=X.length+i->X.length+U.length+V.length+Y.length<=1000000->R=X++(V++(U++Y))->
  To E aK9 (.full 1 (.ret (.tup [])) (bL R)) (.head (stk aK9 0) [(0,.row 0 0),(2,ii m),(4,kI s),(10,ii i),(11,ii j)] (bL (X++(U++(V++Y))))):=by
 intro n
 induction n with
 | zero=>intro X U V Y i j h;omega
 | succ n q=>
  intro X U V Y i j F o r D C B hl g
  by_cases u:i=j
  .have f:((m:Int)-i)=((m-i:Nat):Int):=o_
   have h1:=O1 s X U [] V Y (m-i) m i o_ o o_ q_ q_
   rw [Bm,Bm,<-f,<-g] at h1
   have A:((i:Int) !=(j:Int))=false:=by rw [u];simp
   dsimp only [bL] at h1⊢
   generalize pnv (X++(U++(V++Y)))=L at *
   generalize pnv R=K at *
   clear g hl q
   refine gV ?_
   exact zW
  .have A:((i:Int) !=(j:Int))=true:=by simp;omega
   by_cases y:j<i
   .obtain ⟨b,a,rfl,e⟩:∃ b a,U=b++a/\b.length=j:=⟨U.take j,U.drop j,(Bk j U).symm,by simp;omega⟩
    have t:i=j+a.length:=by rw [o,Ay,e]
    have f:((m:Int)-i)=((m-i:Nat):Int):=o_
    have k:((i:Int)-j)=((i-j:Nat):Int):=o_
    rw [Ay] at hl
    have h1:=O1 s X b a V Y (m-i) m j o_ e.symm o_ o_ o_
    have l:=q (X++V) a b Y (i-j) j o_ o_ o_ o_ o_ (by rw [Ay];omega) (by rw [Ay];omega) (by rw [g];simp only [Aj])
    rw [<-f] at h1
    rw [<-k,Aj] at l
    rw [Aj b a]
    dsimp only [bL] at h1 l⊢
    generalize pnv (X++(b++(a++(V++Y))))=L at *
    generalize pnv (X++(V++(a++(b++Y))))=K at *
    have w:i<=1000000:=o_
    clear g hl q f k o r t e
    refine gV ?_
    exact zW
   .obtain ⟨d,c,rfl,p⟩:∃ d c,V=d++c/\c.length=i:=⟨V.take (j-i),V.drop (j-i),(Bk (j-i) V).symm,by simp;omega⟩
    have v:j=d.length+i:=by rw [r,Ay,p]
    have f:((m:Int)-i)=((m-i:Nat):Int):=o_
    have k:((j:Int)-i)=((j-i:Nat):Int):=o_
    have x:((m:Int)+j-i)=((m+(j-i):Nat):Int):=o_
    rw [Ay] at hl
    have h1:=O1 s X U d c Y (m-i) (m+(j-i)) i o_ o o_ o_ o_
    have l:=q X c d (U++Y) i (j-i) o_ o_ o_ o_ o_ o_ (by rw [Ay];omega) (by rw [g];simp only [Aj])
    rw [<-f,<-x] at h1
    rw [<-k] at l
    rw [Aj d c]
    dsimp only [bL] at h1 l⊢
    generalize pnv (X++(U++(d++(c++Y))))=L at *
    generalize pnv (X++(c++(d++(U++Y))))=K at *
    have z:j<=1000000:=o_
    have w:i<=1000000:=o_
    clear g hl q f k x o r v p
    refine gV ?_
    exact zW
theorem aIr (s:Sta) (X U V Y:List Pn) (a m b:Nat) (p:a=X.length) (hm:m=a+U.length) (l:b=m+V.length) (k:U≠[]) (h:V≠[]) (hl:b+Y.length<=1000000):
  aA Tryz.prog 311 [.row 0 0,ii a,ii m,ii b,kI s] (bL (X++(U++(V++Y)))) (.ret (.tup [])) (bL (X++(V++(U++Y)))):=by
 have n:=Gp.2 k
 have o:=Gp.2 h
 have h1:=aAH s _ m o_ _ X U V Y (m-a) (b-m) (Ba _) o_ o_ o_ o_ o_ o_ rfl
 have j:(m:Int)-a=((m-a:Nat):Int):=o_
 have c:(b:Int)-m=((b-m:Nat):Int):=o_
 rw [<-j,<-c] at h1
 dsimp only [bL] at h1⊢
 generalize pnv (X++(U++(V++Y)))=L at *
 generalize pnv (X++(V++(U++Y)))=R at *
 have i:a<=m:=o_
 have e:m<=b:=o_
 have d:b<=1000000:=o_
 refine cT (E:=E) (fn:=Tryz.f311) (g:=.full 1 _ _) fun _=>?_
 exact zW
noncomputable abbrev pT:Func:=Tryz.f289
theorem IU (lo a:Nat):((lo:Int)+a).fdiv (2 ^ Cv 1)=(((lo+a) / 2:Nat):Int):=by
 have e:(2:Int) ^ Cv 1=2:=rfl
 rw [e,Gy _ d_]
 omega
theorem UM {c:Nat} (h:c<=1000000):inR .i64 (c:Int):=Aa (by simp only [bO];omega) (by simp only [bA];omega)
theorem HF {L:List Pn} {h:Nat} {y:Pn} (a:L[h]? =some y):(pnv L)[h]? =some y.av:=by simp [a]
set_option maxHeartbeats 1000000 in
theorem aIh (s:Sta) (hs:OrdOK s) (L:List Pn) (g:mH L) (w:L.length<=1000000) (a:Nat) (u:Pn) (m:L[a]? =some u) (P:Nat->Bool) (j:∀ h y,L[h]? =some y->P h=ltP s y u) (R:List Pn) (k:Nat)
  (next:To (Er [] [61,63,64,65,113,115,116,117]) pT (.full 1 (.ret (.tup [])) (bL R)) (.head (stk pT 1) [(0,.row 0 0),(10,ii k),(13,ii a)] (bL L))):∀ (f lo d:Nat),d-lo<=f->lo<=d->d<=L.length->bis P f lo d=k->
  To (Er [] [61,63,64,65,113,115,116,117]) pT (.full 1 (.ret (.tup [])) (bL R)) (.head (stk pT 0) [(0,.row 0 0),(1,ii a),(4,kI s),(10,ii lo),(11,ii d)] (bL L))
 | 0,lo,d,hf,h1,h2,b=>by
  have e:lo=d:=o_
  subst e
  have b:lo=k:=b
  subst b
  exact zqda2
 | f+1,lo,d,hf,h1,h2,b=>by
  by_cases l:lo<d
  .unfold bis at b
   rw [if_pos l] at b
   obtain ⟨c,C⟩:∃ c,c=(lo+d) / 2:=⟨_,rfl⟩
   rw [<-C] at b
   have i:c<L.length:=o_
   have z:L[c]? =some L[c]:=Ab i
   have o:=j c _ z
   have n:=uW s hs L[c] u (g _ (Bb i)) (g _ (Aq m))
   have A:=HF z
   have B:=HF m
   have q:a<L.length:=(Ad.1 m).1
   have hm:=IU lo d
   rw [<-C] at hm
   have x:=UM (show c<=1000000 by omega)
   have F:c<(pnv L).length:=by rw [rO];exact i
   have D:a<(pnv L).length:=by rw [rO];exact q
   generalize L[c]=y at *
   cases p:P c with
   | true=>
    rw [p,if_pos rfl] at b
    have r:gJ s y u<0:=of_decide_eq_true (o.symm.trans p)
    have t:=aIh s hs L g w a u m P j R k next f (c+1) d o_ o_ h2 b
    generalize gJ s y u=v at *
    dsimp only [bL] at t⊢
    generalize pnv L=K at *
    clear j next
    refine gV ?_
    refine aT fun h=>?_
    repeat' first | (refine gN (hEr [] [61,63,64,65,113,115,116,117]) ?_;conv=>whnf) | (rw [hm];refine Fo (Aa x ?_)) | refine ⟨c,rfl,?_⟩ | refine ⟨_,A,?_⟩ | refine ⟨a,rfl,?_⟩ | refine ⟨_,B,?_⟩ | refine .pure _ [] n ?_ | exact rfl | refine aY ?_ | refine aN ?_ | refine aT fun h=>?_ | refine aF fun h=>?_ | refine ⟨fun h=>?_,fun h=>?_⟩ | refine aJ ?_ | refine ⟨_,rfl,?_⟩ | refine aD ?_ | fail
    exact zW
   | false=>
    rw [p,if_neg d_] at b
    have r:¬ gJ s y u<0:=of_decide_eq_false (o.symm.trans p)
    have t:=aIh s hs L g w a u m P j R k next f lo c o_ o_ o_ b
    generalize gJ s y u=v at *
    dsimp only [bL] at t⊢
    generalize pnv L=K at *
    clear j next
    refine gV ?_
    refine aT fun h=>?_
    repeat' first | (refine gN (hEr [] [61,63,64,65,113,115,116,117]) ?_;conv=>whnf) | (rw [hm];refine Fo (Aa x ?_)) | refine ⟨c,rfl,?_⟩ | refine ⟨_,A,?_⟩ | refine ⟨a,rfl,?_⟩ | refine ⟨_,B,?_⟩ | refine .pure _ [] n ?_ | exact rfl | refine aY ?_ | refine aN ?_ | refine aT fun h=>?_ | refine aF fun h=>?_ | refine ⟨fun h=>?_,fun h=>?_⟩ | refine aJ ?_ | refine ⟨_,rfl,?_⟩ | refine aD ?_ | fail
    exact zW
  .unfold bis at b
   rw [if_neg l] at b
   subst b
   exact zqda2
theorem mv1 (R W:List Pn) (u:Pn):∀ (V A:List Pn) (i k:Nat),k=A.length->i=A.length+V.length+1->A.length+V.length+W.length<=999999->R=A++(V++u::W)->
  To (Er [] [61,63,64,65,113,115,116,117]) pT (.full 1 (.ret (.tup [])) (bL R)) (.head (stk pT 1) [(0,.row 0 0),(10,ii i),(13,ii k)] (bL (A++u::(V++W))))
 | [],A,i,k,hk,hi,hl,hR=>by
  subst hR
  dsimp only [bL,Bm]
  generalize pnv (A++u::W)=L at *
  have f:i<=1000000:=o_
  have e:i=k+1:=by simp at hi;omega
  refine gV ?_
  exact zW
 | y::V,A,i,k,hk,hi,hl,hR=>by
  simp at hi hl
  have c:=mv1 R W u V (A++[y]) i (k+1) q_ q_ q_ (by rw [hR];simp only [Aj,Cm,Bm])
  obtain ⟨r,l,d,_⟩:=AG A [] (V++W) u y (i:=k) (j:=k+1) hk q_
  have m:A++y::([]++u::(V++W))=(A++[y])++u::(V++W):=by simp only [Aj,Cm,Bm]
  have g:A++u::(y::V++W)=A++u::([]++y::(V++W)):=by simp only [Aj,Cm,Bm]
  rw [m] at d
  rw [g]
  dsimp only [bL] at c⊢
  rw [<-d] at c
  have b:(pnv (A++u::([]++y::(V++W)))).length=A.length+V.length+W.length+2:=by simp;omega
  generalize pnv (A++u::([]++y::(V++W)))=L at *
  obtain ⟨j,o⟩:∃ j,j=k+1:=⟨_,rfl⟩
  rw [<-o] at c l
  have a:(k:Int)+1=(j:Int):=o_
  have n:j<L.length:=o_
  have s:k<L.length:=o_
  have q:j<=1000000:=o_
  have p:k<=1000000:=o_
  have f:i<=1000000:=o_
  have e:k+1<i:=o_
  rw [<-a] at c
  clear b g m hR hl d hk hi
  refine gV ?_
  repeat' first | (refine gN (hEr [] [61,63,64,65,113,115,116,117]) ?_;conv=>whnf) | refine aT fun h=>?_ | refine ⟨j,a,?_⟩ | refine ⟨_,l,?_⟩ | refine ⟨k,rfl,?_⟩ | refine ⟨_,r,?_⟩ | refine Aa (by rw [Dp];omega) ?_ | exact rfl | refine aY ?_ | refine aN ?_ | refine aT fun h=>?_ | refine aF fun h=>?_ | refine ⟨fun h=>?_,fun h=>?_⟩ | refine aJ ?_ | refine ⟨_,rfl,?_⟩ | refine aD ?_ | fail
  exact zW
set_option maxHeartbeats 1000000 in
theorem aIg (s:Sta) (hs:OrdOK s) (L:List Pn) (g:mH L) (A:L.length<=1000000) (m:Nat) (u:Pn) (p:L[m]? =some u) (P:Nat->Bool) (n:∀ h y,L[h]? =some y->P h= !ltP s u y) (R:List Pn) (k:Nat)
  (next:To (Er [] [61,63,64,65,113,115,116,117]) pT (.full 1 (.ret (.tup [])) (bL R)) (.head (stk pT 3) [(0,.row 0 0),(14,ii k),(17,ii m)] (bL L))):∀ (f lo d:Nat),d-lo<=f->lo<=d->d<=L.length->bis P f lo d=k->
  To (Er [] [61,63,64,65,113,115,116,117]) pT (.full 1 (.ret (.tup [])) (bL R)) (.head (stk pT 2) [(0,.row 0 0),(2,ii m),(4,kI s),(14,ii lo),(15,ii d)] (bL L))
 | 0,lo,d,hf,h1,h2,a=>by
  have e:lo=d:=o_
  subst e
  have a:lo=k:=a
  subst a
  exact zqda2
 | f+1,lo,d,hf,h1,h2,a=>by
  by_cases o:lo<d
  .unfold bis at a
   rw [if_pos o] at a
   obtain ⟨c,G⟩:∃ c,c=(lo+d) / 2:=⟨_,rfl⟩
   rw [<-G] at a
   have l:c<L.length:=o_
   have C:L[c]? =some L[c]:=Ab l
   have i:=n c _ C
   have q:=uW s hs u L[c] (g _ (Aq p)) (g _ (Bb l))
   have D:=HF C
   have F:=HF p
   have w:m<L.length:=(Ad.1 p).1
   have hm:=IU lo d
   rw [<-G] at hm
   have B:=UM (show c<=1000000 by omega)
   have I:c<(pnv L).length:=by rw [rO];exact l
   have H:m<(pnv L).length:=by rw [rO];exact w
   generalize L[c]=y at *
   cases r:P c with
   | true=>
    rw [r,if_pos rfl] at a
    have j:ltP s u y=false:=by rw [r] at i;simpa using i.symm
    have t:¬ gJ s u y<0:=of_decide_eq_false j
    have z:(!decide (gJ s u y<0))=true:=congrArg (fun b=>!b) j
    have x:=aIg s hs L g A m u p P n R k next f (c+1) d o_ o_ h2 a
    clear j
    generalize gJ s u y=v at *
    dsimp only [bL] at x⊢
    generalize pnv L=K at *
    clear n next
    refine gV ?_
    refine aT fun h=>?_
    repeat' first | (refine gN (hEr [] [61,63,64,65,113,115,116,117]) ?_;conv=>whnf) | (rw [hm];refine Fo (Aa B ?_)) | refine ⟨m,rfl,?_⟩ | refine ⟨_,F,?_⟩ | refine ⟨c,rfl,?_⟩ | refine ⟨_,D,?_⟩ | refine .pure _ [] q ?_ | refine Aa (fun _=>?_) (fun h=>absurd (z.symm.trans h) d_) | exact rfl | refine aY ?_ | refine aN ?_ | refine aT fun h=>?_ | refine aF fun h=>?_ | refine ⟨fun h=>?_,fun h=>?_⟩ | refine aJ ?_ | refine ⟨_,rfl,?_⟩ | refine aD ?_ | fail
    exact zW
   | false=>
    rw [r,if_neg d_] at a
    have j:ltP s u y=true:=by rw [r] at i;simpa using i.symm
    have t:gJ s u y<0:=of_decide_eq_true j
    have z:(!decide (gJ s u y<0))=false:=congrArg (fun b=>!b) j
    have x:=aIg s hs L g A m u p P n R k next f lo c o_ o_ o_ a
    clear j
    generalize gJ s u y=v at *
    dsimp only [bL] at x⊢
    generalize pnv L=K at *
    clear n next
    refine gV ?_
    refine aT fun h=>?_
    repeat' first | (refine gN (hEr [] [61,63,64,65,113,115,116,117]) ?_;conv=>whnf) | (rw [hm];refine Fo (Aa B ?_)) | refine ⟨m,rfl,?_⟩ | refine ⟨_,F,?_⟩ | refine ⟨c,rfl,?_⟩ | refine ⟨_,D,?_⟩ | refine .pure _ [] q ?_ | refine Aa (fun h=>absurd (z.symm.trans h) d_) (fun _=>?_) | exact rfl | refine aY ?_ | refine aN ?_ | refine aT fun h=>?_ | refine aF fun h=>?_ | refine ⟨fun h=>?_,fun h=>?_⟩ | refine aJ ?_ | refine ⟨_,rfl,?_⟩ | refine aD ?_ | fail
    exact zW
  .unfold bis at a
   rw [if_neg o] at a
   subst a
   exact zqda2
theorem mv2 (R:List Pn) (u:Pn) (A:List Pn) (i:Nat) (x:i=A.length):∀ (n:Nat) (V W:List Pn) (k:Nat),V.length=n->k=A.length+n->A.length+n+W.length<=999999->R=A++u::(V++W)->
  To (Er [] [61,63,64,65,113,115,116,117]) pT (.full 1 (.ret (.tup [])) (bL R)) (.head (stk pT 3) [(0,.row 0 0),(14,ii i),(17,ii k)] (bL (A++(V++u::W)))):=by
 intro n
 induction n with
 | zero=>
  intro V W k c p hl d
  cases Bl.1 c
  subst d
  dsimp only [bL,Bm]
  generalize pnv (A++u::W)=L at *
  have g:k=i:=o_
  have C:i<=1000000:=o_
  refine gV ?_
  exact zW
 | succ n q=>
  intro V W k c p hl d
  obtain ⟨V,y,rfl⟩:∃ z y,V=z++[y]:=⟨V.dropLast,V.getLast (by intro h;rw [h] at c;cases c),(Km _).symm⟩
  have l:V.length=n:=by simpa using c
  have e:=q V (y::W) (k-1) l o_ q_ (by rw [d];simp only [Aj,Cm,Bm])
  obtain ⟨r,B,_,f⟩:=AG (A++V) [] W y u (i:=k-1) (j:=k) q_ q_
  have s:A++V++u::([]++y::W)=A++(V++u::(y::W)):=by simp only [Aj,Cm,Bm]
  have o:A++(V++[y]++u::W)=A++V++y::([]++u::W):=by simp only [Aj,Cm,Bm]
  rw [s] at f
  rw [o]
  dsimp only [bL] at e⊢
  rw [<-f] at e
  have b:(pnv (A++V++y::([]++u::W))).length=A.length+V.length+W.length+2:=by simp;omega
  generalize pnv (A++V++y::([]++u::W))=L at *
  obtain ⟨j,m⟩:∃ j,j=k-1:=⟨_,rfl⟩
  rw [<-m] at e r
  have a:(k:Int)-1=(j:Int):=o_
  have t:j<L.length:=o_
  have D:k<L.length:=o_
  have w:k<=1000000:=o_
  have v:k=j+1:=o_
  have g:i<k:=o_
  rw [<-a] at e
  clear b o s d hl f p x q m
  refine gV ?_
  repeat' first | (refine gN (hEr [] [61,63,64,65,113,115,116,117]) ?_;conv=>whnf) | refine aT fun h=>?_ | refine ⟨j,a,?_⟩ | refine ⟨_,r,?_⟩ | refine ⟨k,rfl,?_⟩ | refine ⟨_,B,?_⟩ | refine Aa (by rw [Dp];omega) ?_ | exact rfl | refine aY ?_ | refine aN ?_ | refine aT fun h=>?_ | refine aF fun h=>?_ | refine ⟨fun h=>?_,fun h=>?_⟩ | refine aJ ?_ | refine ⟨_,rfl,?_⟩ | refine aD ?_ | fail
  exact zW
abbrev aEN (K:List AVal):List AObj:=[.row 0 11 78 K]
def Stp (f:Nat) (s:Sta) (x y z:Nat) (K a:List AVal):Prop:=
 (x<y/\y<z/\aA Tryz.prog f [.row 0 0,ii x,ii y,ii z,kI s] (aEN K) (.ret (.tup [])) (aEN a))\/(x<y/\¬ y<z/\K=a)\/(¬ x<y/\K=a)
abbrev aEq (s:Sta) (a m b mid n c d:Nat) (p:Int):List (Nat×AVal):=[(0,.row 0 0),(1,ii a),(2,ii m),(3,ii b),(4,kI s),(18,ii mid),(19,ii n),(20,ii c),(21,ii d),(22,ii p)]
set_option maxHeartbeats 8000000 in
theorem Z7 (s:Sta) (a m b mid n st c:Nat) (p:Int) (C:n<=2000000) (y:n=c+st) (i l o j:List AVal) (t:Stp 311 s st m c i l) (u:Stp 289 s a st mid l o) (q:Stp 289 s mid c b o j):
  To (Er [] [61,63,64,65,113,115,116,117]) pT (.full 1 (.ret (.tup [])) (aEN j)) (.head (stk pT 4) (aEq s a m b mid n st st p) (aEN i)):=by
 obtain ⟨d,w⟩:∃ d:Int,d=(c:Int):=⟨_,rfl⟩
 have k:((n:Int)-st)=(c:Int):=o_
 rcases t with ⟨g,r,v⟩ | ⟨g,r,rfl⟩ | ⟨g,rfl⟩<;>rcases u with ⟨e,z,B⟩ | ⟨e,z,rfl⟩ | ⟨e,rfl⟩<;>rcases q with ⟨h,A,x⟩ | ⟨h,A,rfl⟩ | ⟨h,rfl⟩
 all_goals (try rw [<-k] at v)
 all_goals (try rw [<-k] at x)
 all_goals (try (exfalso;omega))
 all_goals
  refine gV ?_
  exact zW
set_option maxHeartbeats 1000000 in
theorem aIf (s:Sta) (hs:OrdOK s) (L:List Pn) (j:mH L) (S:L.length<=1000000) (a m b mid n p i l:Nat) (P:Nat->Bool) (t:∀ c,i<=c->c<l->c<=p/\∃ y z,L[p-c]? =some y/\L[c]? =some z/\P c= !ltP s y z) (R:List Pn) (k:Nat)
  (next:To (Er [] [61,63,64,65,113,115,116,117]) pT (.full 1 (.ret (.tup [])) (bL R)) (.head (stk pT 4) (aEq s a m b mid n k k p) (bL L))):∀ (f lo g:Nat),g-lo<=f->lo<=g->i<=lo->g<=l->bis P f lo g=k->
  To (Er [] [61,63,64,65,113,115,116,117]) pT (.full 1 (.ret (.tup [])) (bL R)) (.head (stk pT 4) (aEq s a m b mid n lo g p) (bL L))
 | 0,lo,g,hf,h1,h2,h3,d=>by
  have e:lo=g:=o_
  subst e
  have d:lo=k:=d
  subst d
  exact next
 | f+1,lo,g,hf,h1,h2,h3,d=>by
  by_cases u:lo<g
  .unfold bis at d
   rw [if_pos u] at d
   obtain ⟨c,Q⟩:∃ c,c=(lo+g) / 2:=⟨_,rfl⟩
   rw [<-Q] at d
   obtain ⟨T,y,z,F,G,o⟩:=t c o_ o_
   have x:=uW s hs y z (j _ (Aq F)) (j _ (Aq G))
   have H:=HF F
   have O:=HF G
   have M:c<L.length:=(Ad.1 G).1
   have A:p-c<L.length:=(Ad.1 F).1
   have hm:=IU lo g
   rw [<-Q] at hm
   have N:=UM (show c<=1000000 by omega)
   have W:c<(pnv L).length:=by rw [rO];exact M
   have I:p-c<(pnv L).length:=by rw [rO];exact A
   obtain ⟨q,U⟩:∃ q,q=p-c:=⟨_,rfl⟩
   have w:(p:Int)-c=(q:Int):=o_
   rw [<-U] at H I A
   have V:p<=2000000:=o_
   cases B:P c with
   | true=>
    rw [B,if_pos rfl] at d
    have r:ltP s y z=false:=by rw [B] at o;simpa using o.symm
    have C:¬ gJ s y z<0:=of_decide_eq_false r
    have J:(!decide (gJ s y z<0))=true:=congrArg (fun b=>!b) r
    have D:=aIf s hs L j S a m b mid n p i l P t R k next f (c+1) g o_ o_ o_ h3 d
    clear r
    generalize gJ s y z=v at *
    dsimp only [bL] at D⊢
    generalize pnv L=K at *
    clear t next
    refine gV ?_
    refine aT fun h=>?_
    repeat' first | (refine gN (hEr [] [61,63,64,65,113,115,116,117]) ?_;conv=>whnf) | (rw [hm];refine Fo (Aa N ?_)) | refine ⟨q,w,?_⟩ | refine ⟨_,H,?_⟩ | refine ⟨c,rfl,?_⟩ | refine ⟨_,O,?_⟩ | refine .pure _ [] x ?_ | refine Aa (fun _=>?_) (fun h=>absurd (J.symm.trans h) d_) | exact rfl | refine aY ?_ | refine aN ?_ | refine aT fun h=>?_ | refine aF fun h=>?_ | refine ⟨fun h=>?_,fun h=>?_⟩ | refine aJ ?_ | refine ⟨_,rfl,?_⟩ | refine aD ?_ | fail
    exact zW
   | false=>
    rw [B,if_neg d_] at d
    have r:ltP s y z=true:=by rw [B] at o;simpa using o.symm
    have C:gJ s y z<0:=of_decide_eq_true r
    have J:(!decide (gJ s y z<0))=false:=congrArg (fun b=>!b) r
    have D:=aIf s hs L j S a m b mid n p i l P t R k next f lo c o_ o_ h2 o_ d
    clear r
    generalize gJ s y z=v at *
    dsimp only [bL] at D⊢
    generalize pnv L=K at *
    clear t next
    refine gV ?_
    refine aT fun h=>?_
    repeat' first | (refine gN (hEr [] [61,63,64,65,113,115,116,117]) ?_;conv=>whnf) | (rw [hm];refine Fo (Aa N ?_)) | refine ⟨q,w,?_⟩ | refine ⟨_,H,?_⟩ | refine ⟨c,rfl,?_⟩ | refine ⟨_,O,?_⟩ | refine .pure _ [] x ?_ | refine Aa (fun h=>absurd (J.symm.trans h) d_) (fun _=>?_) | exact rfl | refine aY ?_ | refine aN ?_ | refine aT fun h=>?_ | refine aF fun h=>?_ | refine ⟨fun h=>?_,fun h=>?_⟩ | refine aJ ?_ | refine ⟨_,rfl,?_⟩ | refine aD ?_ | fail
    exact zW
  .unfold bis at d
   rw [if_neg u] at d
   subst d
   have e:lo=g:=o_
   subst e
   exact next
def thP (s:Sta) (L:List Pn) (p c:Nat):Bool:=match L[p-c]?,L[c]? with
 | some y,some z=>!ltP s y z
 | _,_=>false
theorem LC (X A:List Pn) (i:Nat) (h:X.length<=i):(X++A)[i]? =A[i-X.length]?:=Ak h
theorem aL9 (s:Sta) (X U V Y:List Pn) (a m b mid n lo d:Nat) (N:a=X.length) (hm:m=a+U.length) (O:b=m+V.length) (hU:0<U.length) (S:0<V.length) (u:mid=(a+b) / 2) (Z:n=mid+m)
  (j:lo=if mid<m then n-b else a) (i:d=if mid<m then mid else m) (G:Tot (ltP s) (U++V)) (k:Nat) (J:bis (thP s (X++(U++(V++Y))) (n-1)) (d-lo) lo d=k):
  (∀ c,lo<=c->c<d->c<=n-1/\∃ y z,(X++(U++(V++Y)))[n-1-c]? =some y/\(X++(U++(V++Y)))[c]? =some z/\thP s (X++(U++(V++Y))) (n-1) c= !ltP s y z)/\lo<=d/\a<=k/\k<=m/\m<=n-k/\n-k<=b/\k<=n/\
  (k-a=0\/V.length<=n-k-m\/ltO (ltP s) U[k-a-1]? V[n-k-m]?)/\(n-k-m=0\/U.length<=k-a\/ltO (ltP s) V[n-k-m-1]? U[k-a]?):=by
 have I:∀ c,a<=c->c<m->(X++(U++(V++Y)))[c]? =U[c-a]?:=fun c h1 e=>by
  rw [LC _ _ _ o_,Af o_,N]
 have H:∀ c,m<=c->c<b->(X++(U++(V++Y)))[c]? =V[c-m]?:=fun c h1 e=>by
  rw [LC _ _ _ o_,LC _ _ _ o_,Af o_]
  congr 1
  omega
 have p:lo<=d/\a<=lo/\d<=m/\n-d<=b/\m<=n-d/\n-lo<=b/\d<=n-1+1/\(lo=a\/n-lo=b)/\(d=m\/n-d=m):=by
  by_cases h:mid<m
  .rw [if_pos h] at j i
   omega
  .rw [if_neg h] at j i
   omega
 obtain ⟨l1,l2,P,T,Q,R,W,w,K⟩:=p
 have g:∀ c,lo<=c->c<d->∃ y z,V[n-1-c-m]? =some y/\U[c-a]? =some z/\(X++(U++(V++Y)))[n-1-c]? =some y/\(X++(U++(V++Y)))[c]? =some z/\thP s (X++(U++(V++Y))) (n-1) c= !ltP s y z:=fun c h1 e=>by
  have C:V[n-1-c-m]? =some V[n-1-c-m]:=Ab o_
  have v:U[c-a]? =some U[c-a]:=Ab o_
  have x:=(H (n-1-c) o_ o_).trans C
  have A:=(I c o_ o_).trans v
  refine ⟨_,_,C,v,x,A,?_⟩
  unfold thP
  rw [x,A]
 have l:∀ y∈V,∀ z∈U,ltP s y z=false->ltP s z y=true:=fun y L z hz h=>by
  rcases (Bz.1 G).2.2 z hz y L with q | q
  .exact q
  .rw [q] at h;cases h
 obtain ⟨D,M,B,t⟩:=JW (thP s (X++(U++(V++Y))) (n-1)) (d-lo) lo d (Ba _) l1
 rw [J] at D M B t
 refine ⟨fun c h1 e=>⟨by omega,?_⟩,l1,by omega,by omega,by omega,by omega,by omega,?_,?_⟩
 .obtain ⟨y,z,_,_,h3,F,f⟩:=g c h1 e
  exact ⟨y,z,h3,F,f⟩
 .rcases B with h | h
  .rcases w with e | e
   .left;omega
   .right;left;omega
  .by_cases r:k=lo
   .rcases w with e | e
    .left;omega
    .right;left;omega
   .obtain ⟨y,z,h1,e,_,_,f⟩:=g (k-1) o_ o_
    rw [h] at f
    have o:ltP s y z=false:=by simpa using f.symm
    right;right
    refine ⟨z,y,?_,?_,l y (Aq h1) z (Aq e) o⟩
    .rw [<-e];congr 1;omega
    .rw [<-h1];congr 1;omega
 .by_cases r:k=d
  .rcases K with e | e
   .right;left;omega
   .left;omega
  .obtain ⟨y,z,h1,e,_,_,f⟩:=g k o_ o_
   rcases t with h | h
   .exact absurd h r
   .rw [h] at f
    have o:ltP s y z=true:=by simpa using f.symm
    right;right
    refine ⟨y,z,?_,?_,o⟩
    .rw [<-h1];congr 1;omega
    .rw [<-e]
theorem aLu (s:Sta) (V:List Pn) (u:Pn) (P:Nat->Bool) (o m b k:Nat) (p:b=m+V.length) (n:Up (ltP s) V) (j:Tot (ltP s) (u::V)) (d:∀ h y,m<=h->V[h-m]? =some y->(P h=true->ltP s y u=true)/\(P h=false->ltP s u y=true)) (l:bis P (b-m) m b=k):
  m<=k/\k<=b/\V.take (k-m)++u::V.drop (k-m)=srt (ltP s) (u::V):=by
 obtain ⟨a,i,g,f⟩:=JW P (b-m) m b (Ba _) o_
 rw [l] at a i g f
 refine ⟨a,i,aI5 (gO s) n j ?_ ?_⟩
 .by_cases c:k=m
  .left;omega
  .have e:V[k-m-1]? =some V[k-m-1]:=Ab o_
   rcases g with h | h
   .exact absurd h c
   .exact .inr ⟨_,_,e,rfl,(d (k-1) _ o_ (by rw [<-e];congr 1;omega)).1 h⟩
 .by_cases c:k=b
  .left;omega
  .have e:V[k-m]? =some V[k-m]:=Ab o_
   rcases f with h | h
   .exact absurd h c
   .exact .inr ⟨_,_,rfl,e,(d k _ a e).2 h⟩
theorem aDL (X A:List Pn) (u:Pn) {a:Nat} (b:a=X.length):(X++u::A)[a]? =some u:=by subst b;simp
set_option maxHeartbeats 1000000 in
theorem aEp (s:Sta) (hs:OrdOK s) (X V Y:List Pn) (u:Pn) (a m b:Nat) (x:a=X.length) (hm:m=a+1) (z:b=m+V.length) (hl:b+Y.length<=999000) (d:mH (X++(u::(V++Y)))) (v:Up (ltP s) V) (n:Tot (ltP s) (u::V)):
  aA Tryz.prog 289 [.row 0 0,ii a,ii m,ii b,kI s] (bL (X++(u::(V++Y)))) (.ret (.tup [])) (bL (X++(srt (ltP s) (u::V)++Y))):=by
 have t:∀ h,m<=h->h<b->(X++(u::(V++Y)))[h]? =V[h-m]?:=fun h h1 i=>by
  rw [LC _ _ _ o_,show h-X.length=(h-m)+1 by omega,Eu,Af o_]
 obtain ⟨P,j⟩:∃ P:Nat->Bool,∀ h y,(X++(u::(V++Y)))[h]? =some y->P h=ltP s y u:=⟨fun h=>match (X++(u::(V++Y)))[h]? with | some y=>ltP s y u | none=>false,fun h y e=>by simp only [e]⟩
 obtain ⟨k,o⟩:∃ k,bis P (b-m) m b=k:=⟨_,rfl⟩
 have c:∀ y∈V,ltP s u y=true\/ltP s y u=true:=fun y F=>(Br.1 n).1 y F
 obtain ⟨G,H,w⟩:=aLu s V u P 0 m b k z v n (fun h y h1 i=>by
  have l:h<b:=by have:=(Ad.1 i).1;omega
  rw [j h y ((t h h1 l).trans i)]
  refine ⟨id,fun h3=>?_⟩
  rcases c y (Aq i) with q | q
  .exact q
  .rw [q] at h3;cases h3) o
 have p:X++(srt (ltP s) (u::V)++Y)=X++(V.take (k-m)++u::(V.drop (k-m)++Y)):=by rw [<-w];simp only [Aj,Cm]
 have r:X++(u::(V++Y))=X++u::(V.take (k-m)++(V.drop (k-m)++Y)):=by rw [<-Aj (V.take _),Bk]
 have n1:=mv1 _ (V.drop (k-m)++Y) u (V.take (k-m)) X k a x q_ q_ p
 rw [<-r] at n1
 have n2:=aIh s hs _ d q_ a u (aDL X _ u x) P j _ k n1 _ m b (Ba _) o_ q_ o
 have I:((m:Int)-a==1)=true:=by rw [hm];simp;omega
 dsimp only [bL] at n2⊢
 generalize pnv (X++(u::(V++Y)))=L at *
 generalize pnv (X++(srt (ltP s) (u::V)++Y))=R at *
 have C:m<=b:=o_
 have B:b<=1000000:=o_
 have D:a<=m:=o_
 clear n1 p r w t j c d n v o
 exact zqda7
set_option maxHeartbeats 1000000 in
theorem aEo (s:Sta) (hs:OrdOK s) (X U Y:List Pn) (v:Pn) (a m b:Nat) (I:a=X.length) (hm:m=a+U.length) (B:b=m+1) (C:U.length≠1) (hl:b+Y.length<=999000) (i:mH (X++(U++(v::Y)))) (z:Up (ltP s) U) (c:Tot (ltP s) (U++[v])):
  aA Tryz.prog 289 [.row 0 0,ii a,ii m,ii b,kI s] (bL (X++(U++(v::Y)))) (.ret (.tup [])) (bL (X++(srt (ltP s) (U++[v])++Y))):=by
 have p:srt (ltP s) (U++[v])=srt (ltP s) (v::U):=aAc (gO s) c
 rw [p]
 have c:Tot (ltP s) (v::U):=c.perm (Dl)
 have w:∀ h,a<=h->h<m->(X++(U++(v::Y)))[h]? =U[h-a]?:=fun h h1 l=>by
  rw [LC _ _ _ o_,Af o_,I]
 obtain ⟨P,n⟩:∃ P:Nat->Bool,∀ h y,(X++(U++(v::Y)))[h]? =some y->P h= !ltP s v y:=⟨fun h=>match (X++(U++(v::Y)))[h]? with | some y=>!ltP s v y | none=>false,fun h y e=>by simp only [e]⟩
 obtain ⟨k,r⟩:∃ k,bis P (m-a) a m=k:=⟨_,rfl⟩
 have d:∀ y∈U,ltP s v y=true\/ltP s y v=true:=fun y H=>(Br.1 c).1 y H
 obtain ⟨J,K,x⟩:=aLu s U v P 0 a m k hm z c (fun h y h1 l=>by
  have o:h<m:=by have:=(Ad.1 l).1;omega
  rw [n h y ((w h h1 o).trans l)]
  refine ⟨fun h3=>?_,fun h3=>by simpa using h3⟩
  rcases d y (Aq l) with q | q
  .rw [q] at h3;cases h3
  .exact q) r
 have t:X++(srt (ltP s) (v::U)++Y)=(X++U.take (k-a))++v::(U.drop (k-a)++Y):=by rw [<-x];simp only [Aj,Cm]
 have u:X++(U++(v::Y))=(X++U.take (k-a))++(U.drop (k-a)++v::Y):=by rw [Aj,<-Aj (U.take _),Bk]
 have n1:=mv2 _ v (X++U.take (k-a)) k q_ _ (U.drop (k-a)) Y m rfl q_ q_ t
 rw [<-u] at n1
 have j:(X++(U++(v::Y)))[m]? =some v:=by rw [<-Aj];exact aDL (X++U) Y v q_
 have n2:=aIg s hs _ i q_ m v j P n _ k n1 _ a m (Ba _) o_ q_ r
 have N:((m:Int)-a==1)=false:=by rw [hm];simp;omega
 have M:((b:Int)-m==1)=true:=by rw [B];simp;omega
 dsimp only [bL] at n2⊢
 generalize pnv (X++(U++(v::Y)))=L at *
 generalize pnv (X++(srt (ltP s) (v::U)++Y))=R at *
 have F:m<=b:=o_
 have D:b<=1000000:=o_
 have G:a<=m:=o_
 clear n1 t u x w n d i c z r j
 exact zqda7
set_option maxHeartbeats 2000000 in
theorem aH8 (s:Sta) (hs:OrdOK s):∀ (N:Nat) (X U V Y:List Pn) (a m b:Nat),U.length+V.length<=N->a=X.length->m=a+U.length->b=m+V.length->0<U.length->0<V.length->b+Y.length<=999000->mH (X++(U++(V++Y)))->Up (ltP s) U->Up (ltP s) V->Tot (ltP s) (U++V)->
  aA Tryz.prog 289 [.row 0 0,ii a,ii m,ii b,kI s] (bL (X++(U++(V++Y)))) (.ret (.tup [])) (bL (X++(srt (ltP s) (U++V)++Y))):=by
 intro N
 induction N with
 | zero=>intro X U V Y a m b hN;omega
 | succ N ih=>
  intro X U V Y a m b hN F hm I pU pV hl e C D o
  by_cases y:U.length=1
  .obtain ⟨u,rfl⟩:=Lq.1 y
   exact aEp s hs X V Y u a m b F hm I hl e D o
  by_cases G:V.length=1
  .obtain ⟨v,rfl⟩:=Lq.1 G
   exact aEo s hs X U Y v a m b F hm I y hl e C o
  obtain ⟨mid,l⟩:∃ mid,mid=(a+b) / 2:=⟨_,rfl⟩
  obtain ⟨n,hn⟩:∃ n,n=mid+m:=⟨_,rfl⟩
  obtain ⟨lo,i⟩:∃ lo,lo=if mid<m then n-b else a:=⟨_,rfl⟩
  obtain ⟨p,c⟩:∃ p,p=if mid<m then mid else m:=⟨_,rfl⟩
  obtain ⟨k,J⟩:∃ k,bis (thP s (X++(U++(V++Y))) (n-1)) (p-lo) lo p=k:=⟨_,rfl⟩
  obtain ⟨hP,K,k1,k2,k3,k4,k5,t,w⟩:=aL9 s X U V Y a m b mid n lo p F hm I pU pV l hn i c o k J
  have hst:(k-a)+(n-k-m)=mid-a:=o_
  have z:=aFu (gO s) C D o t w
  have x:=uN C (k-a)
  have B:=uN D (n-k-m)
  have t1:Tot (ltP s) (U.take (k-a)++V.take (n-k-m)):=Fx ((Hx _ U).append (Hx _ V)) o
  have t2:Tot (ltP s) (U.drop (k-a)++V.drop (n-k-m)):=Fx ((Hy _ U).append (Hy _ V)) o
  have tU:U.take (k-a)++U.drop (k-a)=U:=Bk _ _
  have tV:V.take (n-k-m)++V.drop (n-k-m)=V:=Bk _ _
  have lU1:(U.take (k-a)).length=k-a:=by simp;omega
  have r:(U.drop (k-a)).length=m-k:=by simp;omega
  have q:(V.take (n-k-m)).length=n-k-m:=by simp;omega
  have lV2:(V.drop (n-k-m)).length=b-(n-k):=by simp;omega
  generalize U.take (k-a)=U1 at *
  generalize U.drop (k-a)=U2 at *
  generalize V.take (n-k-m)=V1 at *
  generalize V.drop (n-k-m)=V2 at *
  have Q:X++(U++(V++Y))=X++(U1++(U2++(V1++(V2++Y)))):=by rw [<-tU,<-tV];simp only [Aj]
  have lS1:(srt (ltP s) (U1++V1)).length=mid-a:=by rw [(dT (ltP s) (U1++V1)).length_eq,Ay];omega
  have M:mH (X++(U1++(V1++(U2++(V2++Y))))):=e.perm (by
   rw [Q]
   refine Dk X (Dk U1 ?_)
   rw [<-Aj U2,<-Aj V1]
   exact Dq _ Dl)
  have p2:mH ((X++srt (ltP s) (U1++V1))++(U2++(V2++Y))):=M.perm (by
   rw [Aj X]
   refine Dk X ?_
   rw [<-Aj U1]
   exact Dq _ (dT (ltP s) (U1++V1)).symm)
  have W:Stp 311 s k m (n-k) (pnv (X++(U++(V++Y)))) (pnv (X++(U1++(V1++(U2++(V2++Y)))))):=by
   rw [Q]
   by_cases d:k<m
   .by_cases j:m<n-k
    .refine .inl ⟨d,j,?_⟩
     have:=aIr s (X++U1) U2 V1 (V2++Y) k m (n-k) q_ o_ o_ (by intro h;rw [h] at r;simp at r;omega) (by intro h;rw [h] at q;simp at q;omega) q_
     rw [Aj X,Aj X] at this
     exact this
    .refine .inr (.inl ⟨d,j,?_⟩)
     have:V1=[]:=Bl.1 o_
     rw [this]
     rfl
   .refine .inr (.inr ⟨d,?_⟩)
    have:U2=[]:=Bl.1 o_
    rw [this]
    rfl
  have Z:Stp 289 s a k mid (pnv (X++(U1++(V1++(U2++(V2++Y)))))) (pnv (X++(srt (ltP s) (U1++V1)++(U2++(V2++Y))))):=by
   by_cases d:a<k
   .by_cases j:k<mid
    .exact .inl ⟨d,j,ih X U1 V1 (U2++(V2++Y)) a k mid o_ F o_ o_ o_ o_ q_ M (Bz.1 x).1 (Bz.1 B).1 t1⟩
    .refine .inr (.inl ⟨d,j,?_⟩)
     have:V1=[]:=Bl.1 o_
     rw [this,Bc,uT (gO s) (Bz.1 x).1]
     rfl
   .refine .inr (.inr ⟨d,?_⟩)
    have:U1=[]:=Bl.1 o_
    have P:srt (ltP s) ([]++V1)=V1:=uT (gO s) (Bz.1 B).1
    rw [this,P]
    rfl
  have d3:Stp 289 s mid (n-k) b (pnv (X++(srt (ltP s) (U1++V1)++(U2++(V2++Y))))) (pnv (X++(srt (ltP s) (U++V)++Y))):=by
   rw [<-z,Aj (srt (ltP s) (U1++V1))]
   by_cases d:mid<n-k
   .by_cases j:n-k<b
    .have:=ih (X++srt (ltP s) (U1++V1)) U2 V2 Y mid (n-k) b o_ q_ o_ o_ o_ o_ hl p2 (Bz.1 x).2.1 (Bz.1 B).2.1 t2
     rw [Aj X,Aj X] at this
     exact .inl ⟨d,j,this⟩
    .refine .inr (.inl ⟨d,j,?_⟩)
     have:V2=[]:=Bl.1 o_
     rw [this,Bc,uT (gO s) (Bz.1 x).2.1]
     rfl
   .refine .inr (.inr ⟨d,?_⟩)
    have:U2=[]:=Bl.1 o_
    have P:srt (ltP s) ([]++V2)=V2:=uT (gO s) (Bz.1 B).2.1
    rw [this,P]
    rfl
  have n1:=Z7 s a m b mid n k (n-k) ((n-1:Nat):Int) o_ o_ _ _ _ _ W Z d3
  have n2:=aIf s hs _ e q_ a m b mid n (n-1) lo p _ hP _ k n1 _ lo p (Ba _) K (Ba _) (Ba _) J
  have e1:((m:Int)-a==1)=false:=by simp;omega
  have e2:((b:Int)-m==1)=false:=by simp;omega
  have e3:((n:Int)-1)=((n-1:Nat):Int):=o_
  have S:=IU a b
  rw [<-l] at S
  have hr:=UM (show mid<=1000000 by omega)
  rw [<-e3] at n2
  have en:(n:Int)=(mid:Int)+m:=o_
  have hm9:m<=b:=o_
  have hb9:b<=1000000:=o_
  have ha9:a<=m:=o_
  have O:mid<=1000000:=o_
  dsimp only [bL,aEq] at n2⊢
  generalize pnv (X++(U++(V++Y)))=L at *
  generalize pnv (X++(srt (ltP s) (U++V)++Y))=R at *
  clear n1 W Z d3 M p2 Q z x B t1 t2 tU tV hP J e o C D t w
  by_cases T:mid<m
  .rw [if_pos T] at i c
   have H:(lo:Int)=(mid:Int)+m-b:=o_
   subst c
   rw [H,en] at n2
   refine cT (E:=(Er [] [61,63,64,65,113,115,116,117])) (fn:=Tryz.f289) (g:=.full 1 _ _) fun _=>?_
   repeat' first | (refine gN (hEr [] [61,63,64,65,113,115,116,117]) ?_;conv=>whnf) | refine Aa (fun h=>absurd (e1.symm.trans h) d_) (fun _=>?_) | refine Aa (fun h=>absurd (e2.symm.trans h) d_) (fun _=>?_) | (rw [S];refine Fo (Aa hr ?_)) | refine Aa (fun _=>?_) (fun h=>absurd (of_decide_eq_false h) o_) | exact rfl | refine aY ?_ | refine aN ?_ | refine aT fun h=>?_ | refine aF fun h=>?_ | refine ⟨fun h=>?_,fun h=>?_⟩ | refine aJ ?_ | refine ⟨_,rfl,?_⟩ | refine aD ?_ | fail
   exact zW
  .rw [if_neg T] at i c
   subst i c
   rw [en] at n2
   refine cT (E:=(Er [] [61,63,64,65,113,115,116,117])) (fn:=Tryz.f289) (g:=.full 1 _ _) fun _=>?_
   repeat' first | (refine gN (hEr [] [61,63,64,65,113,115,116,117]) ?_;conv=>whnf) | refine Aa (fun h=>absurd (e1.symm.trans h) d_) (fun _=>?_) | refine Aa (fun h=>absurd (e2.symm.trans h) d_) (fun _=>?_) | (rw [S];refine Fo (Aa hr ?_)) | refine Aa (fun h=>absurd (of_decide_eq_true h) o_) (fun _=>?_) | exact rfl | refine aY ?_ | refine aN ?_ | refine aT fun h=>?_ | refine aF fun h=>?_ | refine ⟨fun h=>?_,fun h=>?_⟩ | refine aJ ?_ | refine ⟨_,rfl,?_⟩ | refine aD ?_ | fail
   exact zW
theorem mP {n:Nat} (h:n<=1000000):zU n 88:=⟨by simp only [maxLen];omega,by omega⟩
theorem aIb (s:Sta) (hs:OrdOK s) (P:List Pn) (n:Nat) (x:n=P.length) (hl:n<40) (a:mH P) (e:Tot (ltP s) P):
  aA Tryz.prog 246 [.row 0 0,ii n,kI s] (bL P) (.ret (.tup [])) (bL (srt (ltP s) P)):=by
 by_cases z:n<20
 .have h1:=QK s hs [] P [] 0 n rfl q_ q_ a
  rw [Bm,Bm,Bc,Bc] at h1
  generalize srt (ltP s) P=R at *
  dsimp only [bL] at h1⊢
  generalize pnv P=L at *
  clear x a e
  refine cT (E:=E) (fn:=Tryz.f246) (g:=.full 1 _ _) fun _=>?_
  repeat' first | (refine gN hE ?_;conv=>whnf) | exact rfl | refine aY ?_ | refine aN ?_ | refine aT fun h=>?_ | refine aF fun h=>?_ | refine ⟨fun h=>?_,fun h=>?_⟩ | refine aJ ?_ | refine ⟨_,rfl,?_⟩ | refine aD ?_ | fail
  refine gV ?_
  refine Aa (fun h=>absurd (of_decide_eq_true h) o_) (fun _=>?_)
  repeat' first | (refine gN hE ?_;conv=>whnf) | refine .eff [] [0] _ _ rfl h1 ?_ | exact rfl | refine aY ?_ | refine aN ?_ | refine aT fun h=>?_ | refine aF fun h=>?_ | refine ⟨fun h=>?_,fun h=>?_⟩ | refine aJ ?_ | refine ⟨_,rfl,?_⟩ | refine aD ?_ | fail
  refine gV ?_
  exact zW
 .obtain ⟨A,B,rfl,j⟩:∃ A B,P=A++B/\A.length=20:=⟨P.take 20,P.drop 20,(Bk 20 P).symm,by simp;omega⟩
  rw [Ay,j] at x
  have c:mH A:=fun p hp=>a p (Dr _ hp)
  have b:mH B:=fun p hp=>a p (De _ hp)
  obtain ⟨q,r,_⟩:=Bz.1 e
  have i:=dT (ltP s) A
  have l:=dT (ltP s) B
  have o:(srt (ltP s) A).length=20:=by rw [i.length_eq,j]
  have u:(srt (ltP s) B).length=B.length:=l.length_eq
  have h1:=QK s hs [] A B 0 20 rfl q_ o_ c
  rw [Bm,Bm] at h1
  have d:=QK s hs (srt (ltP s) A) B [] 20 n o.symm o_ q_ b
  rw [Bc,Bc] at d
  by_cases D:n=20
  .have y:B=[]:=Bl.1 o_
   subst y
   rw [Bc] at h1 d⊢
   have C:srt (ltP s) ([]:List Pn)=[]:=rfl
   rw [C,Bc] at d
   rw [Bc] at h1
   generalize srt (ltP s) A=R at *
   dsimp only [bL] at h1 d⊢
   generalize pnv A=L at *
   clear j a e c b q r i l o u
   refine cT (E:=E) (fn:=Tryz.f246) (g:=.full 1 _ _) fun _=>?_
   repeat' first | (refine gN hE ?_;conv=>whnf) | exact rfl | refine aY ?_ | refine aN ?_ | refine aT fun h=>?_ | refine aF fun h=>?_ | refine ⟨fun h=>?_,fun h=>?_⟩ | refine aJ ?_ | refine ⟨_,rfl,?_⟩ | refine aD ?_ | fail
   refine gV ?_
   refine Aa (fun _=>?_) (fun h=>absurd (of_decide_eq_false h) o_)
   repeat' first | (refine gN hE ?_;conv=>whnf) | refine .eff [] [0] _ _ rfl h1 ?_ | exact rfl | refine aY ?_ | refine aN ?_ | refine aT fun h=>?_ | refine aF fun h=>?_ | refine ⟨fun h=>?_,fun h=>?_⟩ | refine aJ ?_ | refine ⟨_,rfl,?_⟩ | refine aD ?_ | fail
   refine gV ?_
   refine Aa (fun h=>absurd (of_decide_eq_true h) o_) (fun _=>?_)
   repeat' first | (refine gN hE ?_;conv=>whnf) | refine .eff [] [0] _ _ rfl d ?_ | exact rfl | refine aY ?_ | refine aN ?_ | refine aT fun h=>?_ | refine aF fun h=>?_ | refine ⟨fun h=>?_,fun h=>?_⟩ | refine aJ ?_ | refine ⟨_,rfl,?_⟩ | refine aD ?_ | fail
   refine gV ?_
   exact zW
  .have v:=qC (gO s) q
   have t:=qC (gO s) r
   have k:(srt (ltP s) A++srt (ltP s) B).Perm (A++B):=i.append l
   have m:Tot (ltP s) (srt (ltP s) A++srt (ltP s) B):=e.perm k.symm
   have h3:=aH8 s hs _ [] (srt (ltP s) A) (srt (ltP s) B) [] 0 20 n (Ba _) rfl q_ o_ o_ o_ q_ (by rw [Bm,Bc];exact a.perm k.symm) v t m
   rw [Bm,Bm,Bc,Bc] at h3
   have w:srt (ltP s) (srt (ltP s) A++srt (ltP s) B)=srt (ltP s) (A++B):=OY (gO s) (((dT _ _).trans k).trans (dT _ _).symm) (qC (gO s) m) (qC (gO s) e)
   rw [w] at h3
   generalize srt (ltP s) (A++B)=R at *
   dsimp only [bL] at h1 d h3⊢
   generalize pnv (A++B)=L at *
   generalize pnv (srt (ltP s) A++B)=L2 at *
   generalize pnv (srt (ltP s) A++srt (ltP s) B)=L3 at *
   clear j a e c b q r i l o u v t k m w
   refine cT (E:=E) (fn:=Tryz.f246) (g:=.full 1 _ _) fun _=>?_
   repeat' first | (refine gN hE ?_;conv=>whnf) | exact rfl | refine aY ?_ | refine aN ?_ | refine aT fun h=>?_ | refine aF fun h=>?_ | refine ⟨fun h=>?_,fun h=>?_⟩ | refine aJ ?_ | refine ⟨_,rfl,?_⟩ | refine aD ?_ | fail
   refine gV ?_
   refine Aa (fun _=>?_) (fun h=>absurd (of_decide_eq_false h) o_)
   repeat' first | (refine gN hE ?_;conv=>whnf) | refine .eff [] [0] _ _ rfl h1 ?_ | exact rfl | refine aY ?_ | refine aN ?_ | refine aT fun h=>?_ | refine aF fun h=>?_ | refine ⟨fun h=>?_,fun h=>?_⟩ | refine aJ ?_ | refine ⟨_,rfl,?_⟩ | refine aD ?_ | fail
   refine gV ?_
   refine Aa (fun h=>absurd (of_decide_eq_true h) o_) (fun _=>?_)
   repeat' first | (refine gN hE ?_;conv=>whnf) | refine .eff [] [0] _ _ rfl d ?_ | exact rfl | refine aY ?_ | refine aN ?_ | refine aT fun h=>?_ | refine aF fun h=>?_ | refine ⟨fun h=>?_,fun h=>?_⟩ | refine aJ ?_ | refine ⟨_,rfl,?_⟩ | refine aD ?_ | fail
   refine gV ?_
   refine Aa (fun _=>?_) (fun h=>absurd (of_decide_eq_false h) o_)
   repeat' first | (refine gN hE ?_;conv=>whnf) | exact rfl | refine aY ?_ | refine aN ?_ | refine aT fun h=>?_ | refine aF fun h=>?_ | refine ⟨fun h=>?_,fun h=>?_⟩ | refine aJ ?_ | refine ⟨_,rfl,?_⟩ | refine aD ?_ | fail
   refine gV ?_
   refine Aa (fun h=>absurd (of_decide_eq_true h) o_) (fun _=>?_)
   repeat' first | (refine gN hE ?_;conv=>whnf) | refine Aa (fun _=>?_) (fun h=>absurd (of_decide_eq_false h) o_) | refine .eff [] [0] _ _ rfl h3 ?_ | exact rfl | refine aY ?_ | refine aN ?_ | refine aT fun h=>?_ | refine aF fun h=>?_ | refine ⟨fun h=>?_,fun h=>?_⟩ | refine aJ ?_ | refine ⟨_,rfl,?_⟩ | refine aD ?_ | fail
   refine gV ?_
   exact zW
theorem aIc (s:Sta) (hs:OrdOK s) (P:List Pn) (hl:P.length<40) (a:mH P) (b:Tot (ltP s) P):
  aA Tryz.prog 189 [.row 0 0,kI s] (bL P) (.ret (.tup [])) (bL (srt (ltP s) P)):=by
 have h1:=aIb s hs P (pnv P).length s_ (by simpa using hl) a b
 generalize srt (ltP s) P=R at *
 have c:(pnv P).length<=1000000:=by simp;omega
 dsimp only [bL] at h1⊢
 generalize pnv P=L at *
 clear a b
 refine cT (E:=E) (fn:=Tryz.f189) (g:=.full 1 _ _) fun _=>?_
 exact zW
theorem Y2 (xs:List Pn) (a:xs.length<=1000000):aA Tryz.prog 100 [.slice 11 (pnv xs) .no] [] (.ret (.row 0 0)) (bL xs):=by
 refine cT (E:=(Er [2,5] [])) (fn:=Tryz.f100) (g:=.full 0 _ _) fun _=>?_
 refine gV ?_
 intro b c
 refine gV ?_
 refine ⟨fun h=>?_,fun h=>?_⟩
 .refine gV ?_
  refine ⟨[],[1],⟨rfl,rfl⟩,?_⟩;conv=>whnf
  rw [c (by simpa using h)]
  exact ⟨rfl,rfl⟩
 .refine gV ?_
  refine ⟨mP (by simpa using a),?_⟩
  refine gV ?_
  refine ⟨[],[1],⟨rfl,rfl⟩,?_⟩
  exact ⟨rfl,rfl⟩
theorem aBw (s:Sta) (hs:OrdOK s) (hl:s.pend.length<40) (a:mH s.pend) (c:Tot (ltP s) s.pend):
  aA Tryz.prog 119 [s.av] [] (.ret (.slice 11 (pnv (oN s)) .no)) []:=by
 have h1:=Y2 s.pend o_
 have b:=aIc s hs s.pend hl a c
 have e:srt (ltP s) s.pend=oN s:=rfl
 rw [e] at b
 generalize oN s=R at *
 refine c_ Tryz.f119 fun _=>?_
 refine gV ?_
 refine .eff [] [] _ _ rfl h1 ?_
 refine gV ?_
 refine .eff [2,0] [1] _ _ rfl b ?_
 refine gW hE ?_;conv=>whnf
end Go.Proofs.YticlgfdibfobdaaGreat
