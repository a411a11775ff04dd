/-
  Fix numbers, usage, who comes first, as walks.
-/
import Derived.Test.YtpomiadgghchnaaGreatCA
set_option linter.all false
set_option maxHeartbeats 1000000
open And renaming intro->Ac
open Bool renaming and_false->Ci,false_and->Dz,false_eq_true->Db,true_and->Cb
open Exists renaming intro->Al
open Int renaming fdiv->Kf,fdiv_eq_ediv_of_nonneg->Gu,natCast_mul->Dy,tdiv->Hb,toNat->Cx,toNat_natCast->Ck
open List renaming append_assoc->Ai,append_nil->Bg,cons_append->Cd,dropLast_concat_getLast->Kn,drop_eq_getElem_cons->Ad,drop_eq_nil_of_le->Ae,drop_sublist->Ib,eraseIdx_eq_take_drop_succ->Gb,foldl_cons->Av,getElem?_append_left->Af,getElem?_append_right->Aj,getElem?_cons_succ->Fs,getElem?_eq_getElem->Aa,getElem?_eq_some_iff->Ab,getElem?_map->Bi,getElem?_set_ne->Ax,getElem?_set_self->Ao,getElem_mem->Bl,getElem_of_mem->Iw,length_append->Aw,length_cons->Bo,length_drop->Ge,length_eq_one_iff->Lx,length_eq_zero_iff->Br,length_map->Cj,length_pos_iff->Hh,length_reverse->Kw,length_set->Dp,map_append->Bu,map_cons->Bk,map_drop->Ja,map_set->Gq,map_take->Iz,mem_append->Ba,mem_append_left->Dj,mem_append_right->Cu,mem_cons->Bd,mem_cons_of_mem->Bj,mem_cons_self->Ar,mem_of_getElem?->Ap,mem_range->Gv,mem_singleton->Dl,mem_singleton_self->Hj,nil_append->Bp,pairwise_append->Ca,pairwise_cons->Cv,pairwise_singleton->Jg,perm_append_comm->Du,perm_middle->Ep,prefix_refl->Cn,range->Dh,set_append_right->Hz,take_append_drop->Bv,take_length->Ip,take_sublist->Ia,take_succ_eq_append_getElem->Ha
open List.Pairwise renaming imp->Jl,nil->Jk,sublist->Gc
open List.Perm renaming append_left->Dt,append_right->Dq,refl->Jm
open Nat renaming add_assoc->Hx,add_comm->Na,add_mul->Bw,add_sub_cancel->Ht,add_zero->Dv,and_one_is_mod->La,blt->Ey,blt_eq->Fq,div_add_mod->Fy,div_div_eq_div_mul->Jj,div_eq_of_lt->Jv,div_le_self->Dk,div_lt_iff_lt_mul->Df,div_mul_le_self->Gp,div_one->Hr,eq_zero_or_pos->Ez,le_div_iff_mul_le->Gx,le_refl->Au,le_trans->Da,lt_of_le_of_lt->Je,lt_of_lt_of_le->Eg,lt_or_ge->Nb,lt_trans->Nc,min_eq_left->Gn,mod_le->Kz,mod_lt->Ea,mul_add_div->Jc,mul_assoc->Gr,mul_comm->De,mul_div_mul_right->Js,mul_le_mul->Fl,mul_le_mul_right->Bz,mul_right_comm->Ky,one_mul->Fx,pow_add->Ig,pow_le_pow_right->Hc,pow_pos->Ke,strongRecOn->Mf,testBit_two_pow->Kv,two_pow_add_eq_or_of_lt->Ic,zero_add->Bn,zero_mul->Im
open Or renaming inl->Fm,inr->Jw
open UInt8 renaming ofNat->Mo
namespace Go.Proofs.YtpomiadgghchnaaGreat
open Go Go.AW Go.Proofs
theorem yK {a b A B:Nat} (ha:a<=A) (hb:b<=B):a*b<=A*B:=Fl ha hb
theorem UD (x y:Nat) (hx:x<18446744073709551616) (hy:y<18446744073709551616):
  ∃ a b c d:Nat,a=x % 4294967296*(y % 4294967296)/\b=x / 4294967296*(y % 4294967296)/\c=x % 4294967296*(y / 4294967296)/\d=x / 4294967296*(y / 4294967296)/\
   a<=18446744065119617025/\b<=18446744065119617025/\c<=18446744065119617025/\d<=18446744065119617025/\x*y=d*18446744073709551616+(b+c)*4294967296+a:=by
 refine ⟨_,_,_,_,rfl,rfl,rfl,rfl,yK (A:=4294967295) (B:=4294967295) (by omega) (by omega),yK (A:=4294967295) (B:=4294967295) (by omega) (by omega),yK (A:=4294967295) (B:=4294967295) (by omega) (by omega),yK (A:=4294967295) (B:=4294967295) (by omega) (by omega),?_⟩
 have e1:x=x / 4294967296*4294967296+x % 4294967296:=by omega
 have e2:y=y / 4294967296*4294967296+y % 4294967296:=by omega
 generalize x / 4294967296=p at *
 generalize x % 4294967296=q at *
 generalize y / 4294967296=r at *
 generalize y % 4294967296=s at *
 subst e1 e2
 simp only [Bw,Nat.mul_add]
 have h1:p*4294967296*(r*4294967296)=p*r*18446744073709551616:=by
  rw [Nat.mul_mul_mul_comm]
 have h2:p*4294967296*s=p*s*4294967296:=Ky ..
 have h3:q*(r*4294967296)=q*r*4294967296:=(Gr ..).symm
 rw [h1,h2,h3]
 omega
def KG (x y:Nat):Nat:=x*y / 18446744073709551616
def BC (x y:Nat):Nat:=x*y % 18446744073709551616
theorem aDs {x y a b c d:Nat} (h:x*y=d*18446744073709551616+(b+c)*4294967296+a) (ha:a<=18446744065119617025) (hb:b<=18446744065119617025) (hc:c<=18446744065119617025):
  d+(b+a / 4294967296) / 4294967296+((b+a / 4294967296) % 4294967296+c) / 4294967296=KG x y:=by
 unfold KG
 rw [h]
 omega
abbrev uu (n:Nat):AVal:=.int .u64 (n:Int)
def nT (n:Nat):Nat:=if n<18446744073709551616 then n else 18446744073709551615
def kJ (a b:Nat):Nat:=nT (a+b)
def hJ (a b:Nat):Nat:=nT (a*b / 4294967296)
def ofF (n:Int):Nat:=if n<=0 then 0 else if n<4294967296 then n.toNat*4294967296 else 18446744073709551615
def wF (a b:Nat):Nat:=if a=0 then 0 else if b=0 then 18446744073709551615 else nT (a*4294967296 / b)
def vL (a b:Int):Nat:=wF (max a 0).toNat (max b 0).toNat
theorem F9 (n:Nat):nT n<18446744073709551616:=by unfold nT;split<;>omega
theorem zC (a b:Nat):kJ a b<18446744073709551616:=F9 _
theorem yN (a b:Nat):hJ a b<18446744073709551616:=F9 _
theorem aEE (a b:Nat):wF a b<18446744073709551616:=by
 unfold wF
 repeat' split
 .omega
 .omega
 .exact F9 _
theorem NX (n:Int):ofF n<18446744073709551616:=by
 unfold ofF
 repeat' split
 all_goals omega
theorem aHI {a b:Nat} (hb:0<b) (h:b<=a / 4294967296):nT (a*4294967296 / b)=18446744073709551615:=by
 have h1:b*4294967296<=a:=by omega
 have h2:18446744073709551616*b<=a*4294967296:=by omega
 have h3:18446744073709551616<=a*4294967296 / b:=(Gx hb).2 h2
 exact if_neg (Nat.not_lt.2 h3)
theorem aHH {a b:Nat} (hb:a / 4294967296<b):a*4294967296 / b<18446744073709551616/\nT (a*4294967296 / b)=a*4294967296 / b:=by
 have h2:a*4294967296<18446744073709551616*b:=by omega
 have h3:a*4294967296 / b<18446744073709551616:=(Df (by omega)).2 h2
 exact ⟨h3,if_pos h3⟩
theorem aCX {a b ah al bh bl:Nat} (ea:a=ah*4294967296+al) (eb:b=bh*4294967296+bl) (la:al<4294967296) (lb:bl<4294967296):
  a*b / 4294967296=ah*bh*4294967296+ah*bl+al*bh+al*bl / 4294967296:=by
 have e:a*b=(ah*bh*4294967296+ah*bl+al*bh)*4294967296+al*bl:=by
  subst ea eb
  simp only [Bw,Nat.mul_add]
  have h1:ah*4294967296*(bh*4294967296)=ah*bh*4294967296*4294967296:=by
   rw [Nat.mul_mul_mul_comm,Gr (ah*bh)]
  have h2:ah*4294967296*bl=ah*bl*4294967296:=Ky ..
  have h3:al*(bh*4294967296)=al*bh*4294967296:=(Gr ..).symm
  rw [h1,h2,h3]
  omega
 rw [e]
 omega
theorem YG {ah bh:Nat} (hb:0<bh):(18446744073709551615 / bh / 4294967296<ah)↔4294967296<=ah*bh:=by
 rw [Jj,Df (Nat.mul_pos hb (by decide)),<-Gr]
 generalize ah*bh=x
 omega
theorem aBx (A i:Nat):A / 2 ^ i=2*(A / 2 ^ (i+1))+A / 2 ^ i % 2:=by
 rw [Nat.pow_succ,<-Jj]
 omega
theorem aHU (a:Nat) {i:Nat} (h:i<32):a*4294967296 / 2 ^ i % 2=0:=by
 have e:(4294967296:Nat)=2*2 ^ (31-i)*2 ^ i:=by
  have:(4294967296:Nat)=2 ^ (1+(31-i)+i):=by rw [show 1+(31-i)+i=32 by omega]
  rw [this,Ig,Ig]
 rw [e,<-Gr,Nat.mul_div_cancel _ (Ke (by decide)),Nat.mul_left_comm]
 omega
theorem aHV (a:Nat) {i:Nat} (h:32<=i):a*4294967296 / 2 ^ i=a / 2 ^ (i-32):=by
 have e:2 ^ i=2 ^ (i-32)*4294967296:=by
  have:(4294967296:Nat)=2 ^ 32:=by decide
  rw [this,<-Ig,show i-32+32=i by omega]
 rw [e,Js _ _ (by decide)]
theorem T6 {A b i q r:Nat} (hb:0<b) (hr:r<b) (hq:A / 2 ^ (i+1)=q*b+r):
  (2*r+A / 2 ^ i % 2<b->A / 2 ^ i=2*q*b+(2*r+A / 2 ^ i % 2))/\
  (b<=2*r+A / 2 ^ i % 2->A / 2 ^ i=(2*q+1)*b+(2*r+A / 2 ^ i % 2-b)/\2*r+A / 2 ^ i % 2-b<b):=by
 have e:=aBx A i
 rw [hq] at e
 have h1:(2*q+1)*b=2*q*b+b:=by rw [Bw,Fx]
 have h2:2*q*b=2*(q*b):=Gr ..
 rw [h1,h2]
 generalize A / 2 ^ i=x at *
 generalize q*b=y at *
 omega
theorem YX {A b q r:Nat} (hr:r<b) (hq:A / 2 ^ 0=q*b+r):q=A / b:=by
 rw [Nat.pow_zero,Hr] at hq
 rw [hq,De,Jc (by omega),Jv hr,Dv]
theorem YY {A b i q r:Nat} (hb:0<b) (hq:A / 2 ^ (i+1)=q*b+r) (h:9223372036854775808<=q):18446744073709551616<=A / b:=by
 refine (Gx hb).2 ?_
 have h1:A / 2 ^ (i+1)*2 ^ (i+1)<=A:=Gp ..
 have h2:A / 2 ^ (i+1)*2<=A / 2 ^ (i+1)*2 ^ (i+1):=Nat.mul_le_mul_left _ (by rw [Nat.pow_succ];have:=Ke (a:=2) (n:=i) (by decide);omega)
 have h3:9223372036854775808*b<=q*b:=Bz _ h
 rw [hq] at h1 h2
 omega
set_option maxRecDepth 10000
structure Dg (y1 y0 u v q r:Nat):Prop where
 rest:u=q*y1+r
 top:u*4294967296+v<(q+1)*(y1*4294967296+y0)
 few:q<=4294967297
theorem qY (q y1 y0:Nat):q*(y1*4294967296+y0)=q*y1*4294967296+q*y0:=by rw [Nat.mul_add,Gr]
theorem Dg.zero {y1 y0 u v:Nat} (h1:2147483648<=y1) (h0:y0<4294967296) (hv:v<4294967296) (hu:u<y1*4294967296+y0):Dg y1 y0 u v (u / y1) (u % y1):=by
 have e:u=u / y1*y1+u % y1:=by rw [De];exact (Fy u y1).symm
 have hr:u % y1<y1:=Ea _ (by omega)
 refine ⟨e,?_,?_⟩
 .rw [qY,Bw,Fx,Bw,Bw _ _ y0,Fx]
  generalize u / y1*y1=a at *
  generalize u / y1*y0=b
  omega
 .have h2:u / y1<4294967298:=by
   refine (Df (by omega)).2 ?_
   omega
  omega
theorem Dg.step {y1 y0 u v q r:Nat} (h:Dg y1 y0 u v q r) (hv:v<4294967296) (hu:u<y1*4294967296+y0) (hc:4294967296<=q\/4294967296*r+v<q*y0):1<=q/\Dg y1 y0 u v (q-1) (r+y1):=by
 obtain ⟨e,ht,hf⟩:=h
 have hq:1<=q:=by
  rcases hc with h | h
  .omega
  .rcases Ez q with rfl | h2
   .rw [Im] at h;omega
   .exact h2
 refine ⟨hq,?_⟩
 have e1:q=q-1+1:=by omega
 have hN:u*4294967296+v<q*(y1*4294967296+y0):=by
  rcases hc with h | h
  .have h2:4294967296*(y1*4294967296+y0)<=q*(y1*4294967296+y0):=Bz _ h
   omega
  .rw [qY]
   generalize q*y1=a at *
   generalize q*y0=b at *
   omega
 refine ⟨?_,by rw [<-e1];exact hN,by omega⟩
 have e2:q*y1=(q-1)*y1+y1:=by
  rw [e1,Ht,Bw,Fx]
 omega
theorem Dg.fin {y1 y0 u v q r:Nat} (h:Dg y1 y0 u v q r) (hc:q*y0<=4294967296*r+v):q*(y1*4294967296+y0)<=u*4294967296+v/\q=(u*4294967296+v) / (y1*4294967296+y0):=by
 obtain ⟨e,ht,hf⟩:=h
 have hl:q*(y1*4294967296+y0)<=u*4294967296+v:=by
  rw [qY]
  generalize q*y1=a at *
  generalize q*y0=b at *
  omega
 refine ⟨hl,?_⟩
 have hp:0<y1*4294967296+y0:=by
  rcases Ez (y1*4294967296+y0) with h | h
  .rw [h,Nat.mul_zero] at ht;omega
  .exact h
 refine Nat.le_antisymm ((Gx hp).2 hl) ?_
 have:=(Df hp).2 ht
 omega
theorem Dg.far {y0 v q r:Nat} (h0:y0<4294967296) (hq:q<=4294967296) (hr:4294967296<=r):q*y0<=4294967296*r+v:=by
 have h1:q*y0<=4294967296*4294967295:=Fl hq (by omega)
 omega
theorem aEF {Y u v w q1 t q0:Nat} (hY:0<Y) (h1:q1=(u*4294967296+v) / Y) (ht:t=u*4294967296+v-q1*Y) (h0:q0=(t*4294967296+w) / Y) (hw:w<4294967296):q1*4294967296+q0=(u*18446744073709551616+v*4294967296+w) / Y:=by
 have e:u*4294967296+v=q1*Y+t:=by
  have:q1*Y<=u*4294967296+v:=by rw [h1];exact Gp ..
  omega
 have e2:u*18446744073709551616+v*4294967296+w=Y*(q1*4294967296)+(t*4294967296+w):=by
  have:Y*(q1*4294967296)=q1*Y*4294967296:=by rw [<-Gr,De Y q1]
  rw [this]
  have h3:u*18446744073709551616=u*4294967296*4294967296:=by rw [Gr]
  have h4:(u*4294967296+v)*4294967296=(q1*Y+t)*4294967296:=by rw [e]
  rw [Bw,Bw] at h4
  rw [h3,h4,Hx]
 rw [e2,Jc hY,<-h0]
theorem LR {Y N q t:Nat} (hY:0<Y) (h1:q=N / Y) (ht:t=N-q*Y):t<Y:=by
 have e:=Fy N Y
 have l:=Ea N hY
 subst h1
 rw [De] at e
 omega
structure Ord {α:Type} (lt:α->α->Bool):Prop where
 tr:∀ a b c,lt a b=true->lt b c=true->lt a c=true
 irr:∀ a,lt a a=false
def Up {α:Type} (lt:α->α->Bool) (l:List α):Prop:=l.Pairwise fun a b=>lt a b=true
def Tot {α:Type} (lt:α->α->Bool) (l:List α):Prop:=l.Pairwise fun a b=>lt a b=true\/lt b a=true
theorem Tot.perm {α:Type} {lt:α->α->Bool} {l m:List α} (h:l.Perm m) (ht:Tot lt l):Tot lt m:=h.pairwise ht fun h=>h.symm
theorem Ord.asym {α:Type} {lt:α->α->Bool} (o:Ord lt) {a b:α} (h:lt a b=true):lt b a=false:=by
 cases h2:lt b a with
 | false=>rfl
 | true=>have:=o.tr _ _ _ h h2;rw [o.irr] at this;cases this
theorem MV {α:Type} {lt:α->α->Bool} (o:Ord lt):∀ {l m:List α},l.Perm m->Up lt l->Up lt m->l=m
 | [],m,h,_,_=>(List.nil_perm.1 h).symm
 | x::l,[],h,_,_=>absurd h.length_eq (by simp)
 | x::l,y::m,h,h1,h2=>by
  have e:x=y:=by
   have hx:x∈y::m:=h.mem_iff.1 (Ar ..)
   have hy:y∈x::l:=h.mem_iff.2 (Ar ..)
   rcases Bd.1 hx with e | hx
   .exact e
   rcases Bd.1 hy with e | hy
   .exact e.symm
   have q1:=(Cv.1 h1).1 y hy
   have q2:=(Cv.1 h2).1 x hx
   rw [o.asym q1] at q2
   cases q2
  subst e
  rw [MV o ((List.perm_cons x).1 h) (Cv.1 h1).2 (Cv.1 h2).2]
theorem WM {α:Type} {lt:α->α->Bool} {A B:List α} {x:α} (hu:Up lt (A++B)) (ha:∀ a∈A,lt a x=true) (hb:∀ b∈B,lt x b=true):Up lt (A++x::B):=by
 obtain ⟨h1,h2,h3⟩:=Ca.1 hu
 refine Ca.2 ⟨h1,Cv.2 ⟨hb,h2⟩,fun a h b hb'=>?_⟩
 rcases Bd.1 hb' with rfl | hb'
 .exact ha a h
 .exact h3 a h b hb'
theorem sY {α:Type} {lt:α->α->Bool} (o:Ord lt) {A B:List α} (ha:Up lt A) (hb:Up lt B) (h:A=[]\/B=[]\/∃ A' x y B',A=A'++[x]/\B=y::B'/\lt x y=true):∀ a∈A,∀ b∈B,lt a b=true:=by
 intro a h1 b h2
 rcases h with rfl | rfl | ⟨A',x,y,B',rfl,rfl,h⟩
 .cases h1
 .cases h2
 have q1:a=x\/lt a x=true:=by
  rcases Ba.1 h1 with h1 | h1
  .exact .inr ((Ca.1 ha).2.2 a h1 x (Ar ..))
  .exact .inl (by simpa using h1)
 have q2:b=y\/lt y b=true:=by
  rcases Bd.1 h2 with h2 | h2
  .exact .inl h2
  .exact .inr ((Cv.1 hb).1 b h2)
 rcases q1 with rfl | q1<;>rcases q2 with rfl | q2
 .exact h
 .exact o.tr _ _ _ h q2
 .exact o.tr _ _ _ q1 h
 .exact o.tr _ _ _ q1 (o.tr _ _ _ h q2)
theorem aFS {α:Type} {lt:α->α->Bool} (o:Ord lt) {U1 U2 V1 V2 W1 W2:List α} (hU:Up lt (U1++U2)) (hV:Up lt (V1++V2))
  (h1:U1=[]\/V2=[]\/∃ A' x y B',U1=A'++[x]/\V2=y::B'/\lt x y=true) (h2:V1=[]\/U2=[]\/∃ A' x y B',V1=A'++[x]/\U2=y::B'/\lt x y=true)
  (p1:W1.Perm (U1++V1)) (p2:W2.Perm (U2++V2)) (u1:Up lt W1) (u2:Up lt W2):Up lt (W1++W2)/\(W1++W2).Perm (U1++U2++(V1++V2)):=by
 obtain ⟨a1,a2,a3⟩:=Ca.1 hU
 obtain ⟨b1,b2,b3⟩:=Ca.1 hV
 have c1:=sY o a1 b2 h1
 have c2:=sY o b1 a2 h2
 refine ⟨Ca.2 ⟨u1,u2,fun a ha b hb=>?_⟩,?_⟩
 .rcases Ba.1 (p1.mem_iff.1 ha) with ha | ha<;>rcases Ba.1 (p2.mem_iff.1 hb) with hb | hb
  .exact a3 a ha b hb
  .exact c1 a ha b hb
  .exact c2 a ha b hb
  .exact b3 a ha b hb
 .refine (p1.append p2).trans ?_
  rw [Ai,Ai]
  refine Dt U1 ?_
  rw [<-Ai,<-Ai]
  exact Dq V2 Du
def nD {α:Type} (lt:α->α->Bool) (x:α) (l:List α):Nat->Nat
 | 0=>0
 | k+1=>match l[k]? with
  | some y=>if lt x y then nD lt x l k else k+1
  | none=>k+1
def mK {α:Type} (lt:α->α->Bool) (l:List α) (x:α):List α:=l.take (nD lt x l l.length)++x::l.drop (nD lt x l l.length)
def srt {α:Type} (lt:α->α->Bool) (l:List α):List α:=l.foldl (mK lt) []
theorem RF {α:Type} {lt:α->α->Bool} {x:α} {l:List α}:∀ k,nD lt x l k<=k
 | 0=>Au _
 | k+1=>by
  unfold nD
  split
  .split
   .exact Nat.le_succ_of_le (RF k)
   .exact Au _
  .exact Au _
theorem RG {α:Type} {lt:α->α->Bool} {x:α} {l:List α}:∀ (k i:Nat) (h:i<l.length),nD lt x l k<=i->i<k->lt x l[i]=true
 | 0,i,h,_,h2=>by omega
 | k+1,i,h,h1,h2=>by
  unfold nD at h1
  split at h1
  .rename_i y hy
   split at h1
   .rename_i hl
    by_cases e:i=k
    .subst e
     rw [Aa h] at hy
     cases hy
     exact hl
    .exact RG k i h h1 (by omega)
   .omega
  .omega
theorem RE {α:Type} {lt:α->α->Bool} {x:α} {l:List α}:∀ (k:Nat) (_:k<=l.length),nD lt x l k=0\/∃ (i:Nat) (h:i<l.length),nD lt x l k=i+1/\lt x l[i]=false
 | 0,_=>.inl rfl
 | k+1,h=>by
  have hk:k<l.length:=h
  have e:nD lt x l (k+1)=if lt x l[k]=true then nD lt x l k else k+1:=by
   show (match l[k]? with | some y=>if lt x y=true then nD lt x l k else k+1 | none=>k+1)=_
   rw [Aa hk]
  rw [e]
  cases hl:lt x l[k] with
  | true=>rw [if_pos rfl];exact RE k (by omega)
  | false=>exact .inr ⟨k,hk,if_neg (by decide),hl⟩
theorem vW {α:Type} (lt:α->α->Bool) (l:List α) (x:α):(mK lt l x).Perm (x::l):=by
 unfold mK
 refine Ep.trans ?_
 rw [Bv]
theorem aDL {α:Type} {lt:α->α->Bool} (o:Ord lt) {l:List α} {x:α} (hu:Up lt l) (ht:∀ y∈l,lt x y=true\/lt y x=true):Up lt (mK lt l x):=by
 unfold mK
 have hle:=RF (lt:=lt) (x:=x) (l:=l) l.length
 have hu2:Up lt (l.take (nD lt x l l.length)++l.drop (nD lt x l l.length)):=by rw [Bv];exact hu
 refine WM hu2 (fun a ha=>?_) (fun b hb=>?_)
 .rcases RE (lt:=lt) (x:=x) (l:=l) l.length (Au _) with h | ⟨i,hi,h,hf⟩
  .rw [h] at ha;cases ha
  .rw [h] at ha
   have hx:lt l[i] x=true:=by
    rcases ht l[i] (Bl hi) with q | q
    .rw [hf] at q;cases q
    .exact q
   rw [Ha hi] at ha
   rcases Ba.1 ha with ha | ha
   .refine o.tr _ _ _ ?_ hx
    have hu3:Up lt (l.take i++l.drop i):=by rw [Bv];exact hu
    rw [Ad hi] at hu3
    exact (Ca.1 hu3).2.2 a ha _ (Ar ..)
   .rw [Dl.1 ha]
    exact hx
 .obtain ⟨j,hj,e⟩:=Iw hb
  rw [List.getElem_drop] at e
  rw [<-e]
  rw [Ge] at hj
  exact RG l.length _ (by omega) (by omega) (by omega)
theorem XB {α:Type} {lt:α->α->Bool} (o:Ord lt):∀ (l acc:List α),Up lt acc->Tot lt (acc++l)->Up lt (l.foldl (mK lt) acc)/\(l.foldl (mK lt) acc).Perm (acc++l)
 | [],acc,hu,_=>⟨hu,by simp⟩
 | x::l,acc,hu,ht=>by
  have hp:=vW lt acc x
  have h2:(acc++x::l).Perm (mK lt acc x++l):=Ep.trans (hp.symm.append_right l)
  obtain ⟨q1,q2⟩:=XB o l (mK lt acc x) (aDL o hu fun y hy=>((Ca.1 ht).2.2 y hy x (Ar ..)).symm) (ht.perm h2)
  exact ⟨q1,q2.trans h2.symm⟩
theorem pD {α:Type} {lt:α->α->Bool} (o:Ord lt) {l:List α} (h:Tot lt l):Up lt (srt lt l):=(XB o l [] Jk h).1
theorem D5 {α:Type} {lt:α->α->Bool}:∀ (l acc:List α),(l.foldl (mK lt) acc).Perm (acc++l)
 | [],acc=>by simp
 | x::l,acc=>(D5 l (mK lt acc x)).trans (((vW lt acc x).append_right l).trans Ep.symm)
theorem eJ {α:Type} (lt:α->α->Bool) (l:List α):(srt lt l).Perm l:=D5 l []
theorem F3 {α:Type} {lt:α->α->Bool} (o:Ord lt) {l W:List α} (h:Tot lt l) (hu:Up lt W) (hp:W.Perm l):W=srt lt l:=MV o (hp.trans (eJ lt l).symm) hu (pD o h)
theorem aF9 {α:Type} {lt:α->α->Bool} (o:Ord lt) {l:List α} (hu:Up lt l):l=srt lt l:=F3 o (Jl (fun h=>.inl h) hu) hu (Jm l)
def bis (P:Nat->Bool):Nat->Nat->Nat->Nat
 | 0,lo,_=>lo
 | f+1,lo,hi=>if lo<hi then (if P ((lo+hi) / 2)=true then bis P f ((lo+hi) / 2+1) hi else bis P f lo ((lo+hi) / 2)) else lo
theorem H2 (P:Nat->Bool):∀ (f lo hi:Nat),hi-lo<=f->lo<=hi->lo<=bis P f lo hi/\bis P f lo hi<=hi/\(bis P f lo hi=lo\/P (bis P f lo hi-1)=true)/\(bis P f lo hi=hi\/P (bis P f lo hi)=false)
 | 0,lo,hi,h,h2=>⟨Au _,h2,.inl rfl,.inl (show lo=hi by omega)⟩
 | f+1,lo,hi,h,h2=>by
  unfold bis
  by_cases h3:lo<hi
  .rw [if_pos h3]
   cases hp:P ((lo+hi) / 2) with
   | true=>
    rw [if_pos rfl]
    obtain ⟨a,b,c,d⟩:=H2 P f ((lo+hi) / 2+1) hi (by omega) (by omega)
    refine ⟨by omega,b,?_,d⟩
    rcases c with c | c
    .right
     rw [c,Ht]
     exact hp
    .exact .inr c
   | false=>
    rw [if_neg (by decide)]
    obtain ⟨a,b,c,d⟩:=H2 P f lo ((lo+hi) / 2) (by omega) (by omega)
    refine ⟨a,by omega,c,?_⟩
    rcases d with d | d
    .right
     rw [d]
     exact hp
    .exact .inr d
  .rw [if_neg h3]
   exact ⟨Au _,h2,.inl rfl,.inl (by omega)⟩
def ltO {α:Type} (lt:α->α->Bool) (x y:Option α):Prop:=∃ a b,x=some a/\y=some b/\lt a b=true
theorem sX {α:Type} {lt:α->α->Bool} {l:List α} (h:Up lt l) (s:Nat):Up lt (l.take s++l.drop s):=by rw [Bv];exact h
theorem EP {α:Type} {l:List α} {s:Nat} (hs:s≠0) {a:α} (h:l[s-1]? =some a):l.take s=l.take (s-1)++[a]:=by
 obtain ⟨hl,e⟩:=Ab.1 h
 have e2:s=s-1+1:=by omega
 rw [e2,Ha hl,e,Ht]
theorem E1 {α:Type} {l:List α} {t:Nat} {b:α} (h:l[t]? =some b):l.drop t=b::l.drop (t+1):=by
 obtain ⟨hl,e⟩:=Ab.1 h
 rw [Ad hl,e]
theorem aBd {α:Type} {lt:α->α->Bool} {U V:List α} {s t:Nat} (h:s=0\/V.length<=t\/ltO lt U[s-1]? V[t]?):
  U.take s=[]\/V.drop t=[]\/∃ A' x y B',U.take s=A'++[x]/\V.drop t=y::B'/\lt x y=true:=by
 by_cases hs:s=0
 .exact .inl (by rw [hs];rfl)
 rcases h with h | h | ⟨x,y,hx,hy,hl⟩
 .exact absurd h hs
 .exact .inr (.inl (Ae h))
 .exact .inr (.inr ⟨_,x,y,_,EP hs hx,E1 hy,hl⟩)
theorem aDu {α:Type} {lt:α->α->Bool} (o:Ord lt) {U V:List α} {s t:Nat} (hU:Up lt U) (hV:Up lt V) (ht:Tot lt (U++V))
  (h1:s=0\/V.length<=t\/ltO lt U[s-1]? V[t]?) (h2:t=0\/U.length<=s\/ltO lt V[t-1]? U[s]?):
  srt lt (U.take s++V.take t)++srt lt (U.drop s++V.drop t)=srt lt (U++V):=by
 have q1:Tot lt (U.take s++V.take t):=by
  refine Gc ?_ ht
  exact (Ia s U).append (Ia t V)
 have q2:Tot lt (U.drop s++V.drop t):=by
  refine Gc ?_ ht
  exact (Ib s U).append (Ib t V)
 obtain ⟨a,b⟩:=aFS o (sX hU s) (sX hV t) (aBd h1) (aBd h2) (eJ lt _) (eJ lt _) (pD o q1) (pD o q2)
 rw [Bv,Bv] at b
 exact F3 o ht a b
theorem aGP {α:Type} {lt:α->α->Bool} (o:Ord lt) {V:List α} {u:α} {t:Nat} (hV:Up lt V) (ht:Tot lt (u::V)) (h1:t=0\/ltO lt V[t-1]? (some u)) (h2:V.length<=t\/ltO lt (some u) V[t]?):
  V.take t++u::V.drop t=srt lt (u::V):=by
 have c1:=sY (A:=V.take t) (B:=[u]) o (Gc (Ia t V) hV) (Jg ..) (by
  rcases h1 with h | ⟨a,b,ha,hb,hl⟩
  .exact .inl (by rw [h];rfl)
  .by_cases e:t=0
   .exact .inl (by rw [e];rfl)
   .cases hb
    exact .inr (.inr ⟨_,a,u,[],EP e ha,rfl,hl⟩))
 have c2:=sY (A:=[u]) (B:=V.drop t) o (Jg ..) (Gc (Ib t V) hV) (by
  rcases h2 with h | ⟨a,b,ha,hb,hl⟩
  .exact .inr (.inl (Ae h))
  .cases ha
   exact .inr (.inr ⟨[],u,b,_,rfl,E1 hb,hl⟩))
 refine F3 o ht (WM (sX hV t) (fun a ha=>c1 a ha u (Hj u)) (fun b hb=>c2 u (Hj u) b hb)) ?_
 refine Ep.trans ?_
 rw [Bv]
theorem tE {α:Type} {lt:α->α->Bool} (o:Ord lt) {l:List α} (hu:Up lt l):srt lt l=l:=(aF9 o hu).symm
theorem XA {α:Type} {lt:α->α->Bool} (o:Ord lt) {U V:List α} (ht:Tot lt (U++V)):srt lt (U++V)=srt lt (V++U):=
 F3 o (ht.perm Du) (pD o ht) ((eJ lt _).trans Du)
theorem KN (x:Nat) (hx:x<18446744073709551616):eO .and .u64 (x:Int) 4294967295=((x % 4294967296:Nat):Int):=by
 have h:=wD .u64 x 4294967295 (by simp only [bI];omega) (by decide)
 have e:x &&& 4294967295=x % 4294967296:=Nat.and_two_pow_sub_one_eq_mod x 32
 rw [e] at h
 exact h
theorem fB (x:Nat):Kf (x:Int) (2 ^ Cx 32)=((x / 4294967296:Nat):Int):=by
 show Kf (x:Int) 4294967296=_
 rw [Gu _ (by decide)]
 omega
theorem UE (x y:Nat) (hx:x<18446744073709551616) (hy:y<18446744073709551616):aA Tryz.prog 301 [.int .u64 x,.int .u64 y] [] (.ret (.tup [.int .u64 (KG x y:Nat),.int .u64 (BC x y:Nat)])) []:=by
 obtain ⟨a,b,c,d,ha,hb,hc,hd,la,lb,lc,ld,hs⟩:=UD x y hx hy
 have hH:=aDs hs la lb lc
 have hL:BC x y<18446744073709551616:=Ea _ (by decide)
 have m1:((x % 4294967296:Nat):Int)*((y % 4294967296:Nat):Int)=(a:Int):=by rw [ha,Dy]
 have m2:((x / 4294967296:Nat):Int)*((y % 4294967296:Nat):Int)=(b:Int):=by rw [hb,Dy]
 have m3:((x % 4294967296:Nat):Int)*((y / 4294967296:Nat):Int)=(c:Int):=by rw [hc,Dy]
 have m4:((x / 4294967296:Nat):Int)*((y / 4294967296:Nat):Int)=(d:Int):=by rw [hd,Dy]
 have a1:(b:Int)+((a / 4294967296:Nat):Int)=((b+a / 4294967296:Nat):Int):=by omega
 have a2:(((b+a / 4294967296) % 4294967296:Nat):Int)+(c:Int)=(((b+a / 4294967296) % 4294967296+c:Nat):Int):=by omega
 have a3:(d:Int)+(((b+a / 4294967296) / 4294967296:Nat):Int)+((((b+a / 4294967296) % 4294967296+c) / 4294967296:Nat):Int)=((KG x y:Nat):Int):=by omega
 have hml:¬ (inR .u64 ((x:Int)*(y:Int)))->IntKind.wrap .u64 ((x:Int)*(y:Int))=((BC x y:Nat):Int):=fun _=>by
  unfold BC
  rw [<-Dy]
  simp [IntKind.wrap,IntKind.signed,IntKind.bits]
 refine cT (E:=E) (fn:=Tryz.f301) (g:=.pure _) fun _=>?_
 refine gV ?_
 rw [KN x hx]
 refine Ac (by decide) ?_
 refine gV ?_
 rw [fB x,KN y hy]
 refine Ac (by decide) ?_
 refine gV ?_
 rw [fB y,m1]
 refine aJ ?_
 refine gV ?_
 rw [m2]
 refine aJ ?_
 refine gV ?_
 refine Ac (by decide) ?_
 refine gV ?_
 rw [fB a,a1]
 refine aJ ?_
 refine gV ?_
 rw [KN _ (by omega)]
 refine Ac (by decide) ?_
 refine gV ?_
 rw [fB (b+a / 4294967296),m3]
 refine aJ ?_
 refine gV ?_
 rw [a2]
 refine aJ ?_
 refine gV ?_
 rw [m4]
 refine aJ ?_
 refine gV ?_
 refine aJ ?_
 refine gV ?_
 refine Ac (by decide) ?_
 refine gV ?_
 rw [fB ((b+a / 4294967296) % 4294967296+c),a3]
 refine aJ ?_
 refine gV ?_
 by_cases hr:inR .u64 ((x:Int)*(y:Int))
 .have e:(x:Int)*(y:Int)=((BC x y:Nat):Int):=by
   obtain ⟨h1,h2⟩:=hr
   simp only [bY,bI] at h1 h2
   rw [<-Dy] at h1 h2⊢
   unfold BC
   omega
  rw [e]
  exact zW
 .rw [hml hr]
  refine Jw ?_
  refine gW (by first | exact hE | exact hEr _ _ | exact hEo _ _) ?_;conv=>whnf
theorem tdN (x y:Nat):Hb (x:Int) (y:Int)=((x / y:Nat):Int):=rfl
theorem tmN (x y:Nat):Int.tmod (x:Int) (y:Int)=((x % y:Nat):Int):=rfl
theorem aDr (x y:Nat):(x:Int)*(y:Int)=((x*y:Nat):Int):=(Dy x y).symm
theorem NO (a b:Nat) (ha:a<18446744073709551616) (hb:b<18446744073709551616) (r:Nat) (hr:kJ a b=r):aA Tryz.prog 170 [uu a,uu b] [] (.ret (uu r)) []:=by
 unfold kJ nT at hr
 by_cases h:a+b<18446744073709551616
 .rw [if_pos h] at hr
  subst hr
  refine cT (E:=E) (fn:=Tryz.f170) (g:=.pure _) fun _=>?_
  exact zW
 .rw [if_neg h] at hr
  subst hr
  refine cT (E:=E) (fn:=Tryz.f170) (g:=.pure _) fun _=>?_
  exact zW
theorem vN (a b:Nat) (ha:a<18446744073709551616) (hb:b<18446744073709551616):aA Tryz.prog 170 [uu a,uu b] [] (.ret (uu (kJ a b))) []:=NO a b ha hb _ rfl
theorem aIk {M:Imm} {ob:Hs} {vs:List Value} {a b c:AVal} (h:bV M ob vs [a,b,c]):∃ u v x,vs=[u,v,x]/\Rep M ob u a/\Rep M ob v b/\Rep M ob x c:=by
 obtain ⟨hl,hr⟩:=h
 match vs,hl with
 | [u,v,x],_=>exact ⟨u,v,x,rfl,hr 0 _ _ rfl rfl,hr 1 _ _ rfl rfl,hr 2 _ _ rfl rfl⟩
theorem YD {M:Imm} {ob:Hs} {n:Nat} (h:n<18446744073709551616):Rep M ob (.int .u64 (n:Int)) (uu n):=.int _ _ ⟨by simp only [bY];omega,by simp only [bI];omega⟩
theorem aBJ (x y:Nat) (hx:x<18446744073709551616) (hy:y<18446744073709551616):aA Tryz.prog 302 [uu x,uu y,.int .u64 0] [] (.ret (.tup [uu ((x+y) % 18446744073709551616),uu ((x+y) / 18446744073709551616)])) []:=by
 intro M ob w vargs hm hr
 obtain ⟨u,v,c,rfl,hu,hv,hc⟩:=aIk hr
 obtain ⟨rfl,_⟩:=hu.int_inv
 obtain ⟨rfl,_⟩:=hv.int_inv
 obtain ⟨rfl,_⟩:=hc.int_inv
 refine .inr ⟨.tuple #[.int .u64 (((x+y) % 18446744073709551616:Nat):Int),.int .u64 (((x+y) / 18446744073709551616:Nat):Int)],w,?_,M,ob,Ext.refl _ _ _ _,hm,?_⟩
 .rw [run_callFunc_extern (show Tryz.prog.funcs[302]? =some Tryz.f302 by kernel_rfl) (by kernel_rfl) (by kernel_rfl) (by kernel_rfl) (e:=(Extern.MathBitsCarry.rows.head!).2) (by kernel_rfl)]
  rfl
 .refine .tup [_,_] _ rfl fun i v a hv ha=>?_
  match i,hv,ha with
  | 0,hv,ha=>cases hv;cases ha;exact YD (Ea _ (by decide))
  | 1,hv,ha=>cases hv;cases ha;exact YD (by omega)
theorem JY (b:Bool) (x y:Nat) (r:Nat) (hr:(if b=true then x else y)=r):aA Tryz.prog 303 [.bool b,uu x,uu y] [] (.ret (uu r)) []:=by
 cases b with
 | true=>
  have hr:x=r:=hr
  subst hr
  refine cT (E:=E) (fn:=Tryz.f303) (g:=.pure _) fun _=>?_
  exact zW
 | false=>
  have hr:y=r:=hr
  subst hr
  refine cT (E:=E) (fn:=Tryz.f303) (g:=.pure _) fun _=>?_
  exact zW
theorem aD3 (n:Int) (r:Nat) (hr:ofF n=r):aA Tryz.prog 234 [ii n] [] (.ret (uu r)) []:=by
 unfold ofF at hr
 by_cases h1:n<=0
 .rw [if_pos h1] at hr
  subst hr
  refine cT (E:=E) (fn:=Tryz.f234) (g:=.pure _) fun _=>?_
  exact zW
 .rw [if_neg h1] at hr
  by_cases h2:n<4294967296
  .rw [if_pos h2] at hr
   have e:n*2 ^ Cx 32=(r:Int):=by
    show n*4294967296=_
    omega
   have hb:(r:Int)<18446744073709551616:=by omega
   refine cT (E:=E) (fn:=Tryz.f234) (g:=.pure _) fun _=>?_
   repeat' first | (refine gN hE ?_;conv=>whnf) | refine Fm (Ac (Ac (by decide) (by rw [e];exact ⟨by simp only [bY];omega,by simp only [bI];omega⟩)) ?_) | exact rfl | refine aY ?_ | refine aN ?_ | refine aT fun h=>?_ | refine aF fun h=>?_ | refine ⟨fun h=>?_,fun h=>?_⟩ | refine aJ ?_ | refine ⟨_,rfl,?_⟩ | refine aD ?_ | fail
   rw [e]
  .rw [if_neg h2] at hr
   subst hr
   refine cT (E:=E) (fn:=Tryz.f234) (g:=.pure _) fun _=>?_
   exact zW
theorem aAG (a b:Nat) (ha:a<18446744073709551616) (hb:b<18446744073709551616) (r:Nat) (hr:kJ a b=r):aA Tryz.prog 238 [uu a,uu b] [] (.ret (uu r)) []:=by
 have h1:=aBJ a b ha hb
 unfold kJ nT at hr
 by_cases h:a+b<18446744073709551616
 .rw [if_pos h] at hr
  have e1:(a+b) / 18446744073709551616=0:=by omega
  have e2:(a+b) % 18446744073709551616=r:=by omega
  rw [e1,e2] at h1
  have h2:=JY false 18446744073709551615 r r rfl
  refine cT (E:=E) (fn:=Tryz.f238) (g:=.pure _) fun _=>?_
  exact zW
 .rw [if_neg h] at hr
  have e1:(a+b) / 18446744073709551616=1:=by omega
  rw [e1] at h1
  have h2:=JY true 18446744073709551615 ((a+b) % 18446744073709551616) r hr
  generalize (a+b) % 18446744073709551616=q at h1 h2
  refine cT (E:=E) (fn:=Tryz.f238) (g:=.pure _) fun _=>?_
  exact zW
theorem aGH {h l:Nat} (hl:l<4294967296):h*4294967296 ||| l=h*4294967296+l:=by
 have:=Ic (i:=32) hl h
 rw [De] at this
 exact this.symm
theorem aJo {h l:Nat} (hh:h<4294967296) (hl:l<4294967296):eO .or .u64 ((h*4294967296:Nat):Int) (l:Int)=((h*4294967296+l:Nat):Int):=by
 have e:=CG .u64 (h*4294967296) l (by simp only [bI];omega) (by simp only [bI];omega)
 rw [aGH hl] at e
 exact e
theorem aAw (a b:Nat) (ha:a<18446744073709551616) (hb:b<18446744073709551616) (r:Nat) (hr:hJ a b=r):aA Tryz.prog 237 [uu a,uu b] [] (.ret (uu r)) []:=by
 have h1:=UE a b ha hb
 have hp:a*b<18446744073709551616*18446744073709551616:=Nat.mul_lt_mul'' ha hb
 have e3:=fB (KG a b)
 have e4:=fB (BC a b)
 have d:a*b=KG a b*18446744073709551616+BC a b:=by unfold KG BC;omega
 have dl:BC a b<18446744073709551616:=Ea _ (by decide)
 unfold hJ nT at hr
 generalize a*b=P at hr d hp
 generalize KG a b=H at h1 e3 d
 generalize BC a b=L at h1 e4 d dl
 by_cases h:P / 4294967296<18446744073709551616
 .rw [if_pos h] at hr
  have q0:H / 4294967296=0:=by omega
  have q1:H<4294967296:=by omega
  have q2:H*4294967296+L / 4294967296=r:=by omega
  have e5:(H:Int)*2 ^ Cx 32=((H*4294967296:Nat):Int):=by
   show (H:Int)*4294967296=_
   omega
  have e6:=aJo (h:=H) (l:=L / 4294967296) q1 (by omega)
  rw [q0] at e3
  rw [q2] at e6
  refine cT (E:=E) (fn:=Tryz.f237) (g:=.pure _) fun _=>?_
  repeat' first | (refine gN hE ?_;conv=>whnf) | refine .pure _ [] h1 ?_ | (rw [e3];refine Ac (by decide) ?_) | (rw [e5];refine Fm (Ac (Ac (by decide) ⟨by simp only [bY];omega,by simp only [bI];omega⟩) ?_)) | (rw [e4];refine Ac (by decide) ?_) | exact rfl | refine aY ?_ | refine aN ?_ | refine aT fun h=>?_ | refine aF fun h=>?_ | refine ⟨fun h=>?_,fun h=>?_⟩ | refine aJ ?_ | refine ⟨_,rfl,?_⟩ | refine aD ?_ | fail
  rw [e6]
 .rw [if_neg h] at hr
  subst hr
  have q0:(0:Int)<((H / 4294967296:Nat):Int):=by omega
  generalize ((H / 4294967296:Nat):Int)=Q at q0 e3
  refine cT (E:=E) (fn:=Tryz.f237) (g:=.pure _) fun _=>?_
  repeat' first | (refine gN hE ?_;conv=>whnf) | refine .pure _ [] h1 ?_ | (rw [e3];refine Ac (by decide) ?_) | exact rfl | refine aY ?_ | refine aN ?_ | refine aT fun h=>?_ | refine aF fun h=>?_ | refine ⟨fun h=>?_,fun h=>?_⟩ | refine aJ ?_ | refine ⟨_,rfl,?_⟩ | refine aD ?_ | fail
theorem OA (n:Int):aA Tryz.prog 234 [ii n] [] (.ret (uu (ofF n))) []:=aD3 n _ rfl
theorem RY (a b:Nat) (ha:a<18446744073709551616) (hb:b<18446744073709551616):aA Tryz.prog 238 [uu a,uu b] [] (.ret (uu (kJ a b))) []:=aAG a b ha hb _ rfl
theorem HD (a b:Nat) (ha:a<18446744073709551616) (hb:b<18446744073709551616):aA Tryz.prog 237 [uu a,uu b] [] (.ret (uu (hJ a b))) []:=aAw a b ha hb _ rfl
def bl8 (v:Nat):Nat:=if v<1 then 0 else if v<2 then 1 else if v<4 then 2 else if v<8 then 3 else if v<16 then 4 else if v<32 then 5 else if v<64 then 6 else if v<128 then 7 else 8
def aIa:List UInt8:=(Dh 256).map fun v=>Mo (bl8 v)
theorem lP {v:Nat} (h:v<256):aIa[v]? =some (Mo (bl8 v)):=by simp [aIa,h]
theorem aHT {v:Nat} (h:1<=v) (h2:v<256):1<=bl8 v/\bl8 v<=8/\2 ^ (bl8 v-1)<=v/\v<2 ^ bl8 v:=by
 unfold bl8
 repeat' split
 all_goals simp
 all_goals omega
theorem oE (v:Nat):bl8 v<=8:=by
 unfold bl8
 repeat' split
 all_goals omega
theorem kC (v:Nat):((Mo (bl8 v)).toNat:Int)=(bl8 v:Int):=by
 have:=oE v
 simp
 omega
def BL (x n:Nat):Prop:=1<=n/\2 ^ (n-1)<=x/\x<2 ^ n
theorem BL.up {x n:Nat} (k:Nat) (h:BL (x / 2 ^ k) n):BL x (k+n):=by
 obtain ⟨h1,h2,h3⟩:=h
 have hp:0<2 ^ k:=Ke (by decide)
 refine ⟨by omega,?_,?_⟩
 .have:=(Gx hp).1 h2
  rw [show k+n-1=n-1+k by omega,Ig]
  exact this
 .have:=(Df hp).1 h3
  rw [Na,Ig]
  exact this
theorem BL.le {x n:Nat} (h:BL x n) (hx:x<18446744073709551616):n<=64:=by
 obtain ⟨h1,h2,_⟩:=h
 rcases Nb 64 n with h3 | h3
 .have:2 ^ 64<=2 ^ (n-1):=Hc (by decide) (by omega)
  omega
 .exact h3
theorem qE {v:Nat} (h:1<=v) (h2:v<256):BL v (bl8 v):=by
 obtain ⟨a,_,c,d⟩:=aHT h h2
 exact ⟨a,c,d⟩
theorem hiN (x k:Nat):Kf (x:Int) (2 ^ k)=((x / 2 ^ k:Nat):Int):=by
 rw [Gu _ (Int.pow_nonneg (by decide))]
 push_cast
 rfl
theorem G6 (x:Nat):Kf (x:Int) (2 ^ Cx 16)=((x / 65536:Nat):Int):=hiN x 16
theorem hi8 (x:Nat):Kf (x:Int) (2 ^ Cx 8)=((x / 256:Nat):Int):=hiN x 8
theorem UI (x:Nat) (hx:1<=x) (hx2:x<18446744073709551616):∃ n:Nat,BL x n/\aA Tryz.prog 221 [uu x] [] (.ret (ii n)) []:=by
 by_cases h0:4294967296<=x
 .by_cases h1:65536<=x / 4294967296
  .by_cases h2:256<=x / 4294967296 / 65536
   .have hb:BL x (32+(16+(8+(bl8 (x / 4294967296 / 65536 / 256))))):=BL.up 32 (BL.up 16 (BL.up 8 (qE (v:=x / 4294967296 / 65536 / 256) (by omega) (by omega))))
    refine Al (32+(16+(8+(bl8 (x / 4294967296 / 65536 / 256))))) (Ac hb ?_)
    have hv:(x / 4294967296 / 65536 / 256)<256:=by omega
    refine cT (E:=E) (fn:=Tryz.f221) (g:=.pure _) fun _=>?_
    repeat' first | (refine gN hE ?_;conv=>whnf) | (rw [fB];refine Ac (by decide) ?_) | (rw [G6];refine Ac (by decide) ?_) | (rw [hi8];refine Ac (by decide) ?_) | refine Al _ (Ac (lP hv) ?_) | (rw [kC];have:=oE ((x / 4294967296 / 65536 / 256));refine aJ ?_) | exact rfl | refine aY ?_ | refine aN ?_ | refine aT fun h=>?_ | refine aF fun h=>?_ | refine ⟨fun h=>?_,fun h=>?_⟩ | refine aJ ?_ | refine ⟨_,rfl,?_⟩ | refine aD ?_ | fail
    all_goals exact congrArg (fun n=>Res.ret (AVal.int .i64 n)) (by (try rw [kC]);omega)
   .have hb:BL x (32+(16+(bl8 (x / 4294967296 / 65536)))):=BL.up 32 (BL.up 16 (qE (v:=x / 4294967296 / 65536) (by omega) (by omega)))
    refine Al (32+(16+(bl8 (x / 4294967296 / 65536)))) (Ac hb ?_)
    have hv:(x / 4294967296 / 65536)<256:=by omega
    refine cT (E:=E) (fn:=Tryz.f221) (g:=.pure _) fun _=>?_
    repeat' first | (refine gN hE ?_;conv=>whnf) | (rw [fB];refine Ac (by decide) ?_) | (rw [G6];refine Ac (by decide) ?_) | (rw [hi8];refine Ac (by decide) ?_) | refine Al _ (Ac (lP hv) ?_) | (rw [kC];have:=oE ((x / 4294967296 / 65536));refine aJ ?_) | exact rfl | refine aY ?_ | refine aN ?_ | refine aT fun h=>?_ | refine aF fun h=>?_ | refine ⟨fun h=>?_,fun h=>?_⟩ | refine aJ ?_ | refine ⟨_,rfl,?_⟩ | refine aD ?_ | fail
    all_goals exact congrArg (fun n=>Res.ret (AVal.int .i64 n)) (by (try rw [kC]);omega)
  .by_cases h2:256<=x / 4294967296
   .have hb:BL x (32+(8+(bl8 (x / 4294967296 / 256)))):=BL.up 32 (BL.up 8 (qE (v:=x / 4294967296 / 256) (by omega) (by omega)))
    refine Al (32+(8+(bl8 (x / 4294967296 / 256)))) (Ac hb ?_)
    have hv:(x / 4294967296 / 256)<256:=by omega
    refine cT (E:=E) (fn:=Tryz.f221) (g:=.pure _) fun _=>?_
    repeat' first | (refine gN hE ?_;conv=>whnf) | (rw [fB];refine Ac (by decide) ?_) | (rw [G6];refine Ac (by decide) ?_) | (rw [hi8];refine Ac (by decide) ?_) | refine Al _ (Ac (lP hv) ?_) | (rw [kC];have:=oE ((x / 4294967296 / 256));refine aJ ?_) | exact rfl | refine aY ?_ | refine aN ?_ | refine aT fun h=>?_ | refine aF fun h=>?_ | refine ⟨fun h=>?_,fun h=>?_⟩ | refine aJ ?_ | refine ⟨_,rfl,?_⟩ | refine aD ?_ | fail
    all_goals exact congrArg (fun n=>Res.ret (AVal.int .i64 n)) (by (try rw [kC]);omega)
   .have hb:BL x (32+(bl8 (x / 4294967296))):=BL.up 32 (qE (v:=x / 4294967296) (by omega) (by omega))
    refine Al (32+(bl8 (x / 4294967296))) (Ac hb ?_)
    have hv:(x / 4294967296)<256:=by omega
    refine cT (E:=E) (fn:=Tryz.f221) (g:=.pure _) fun _=>?_
    repeat' first | (refine gN hE ?_;conv=>whnf) | (rw [fB];refine Ac (by decide) ?_) | (rw [G6];refine Ac (by decide) ?_) | (rw [hi8];refine Ac (by decide) ?_) | refine Al _ (Ac (lP hv) ?_) | (rw [kC];have:=oE ((x / 4294967296));refine aJ ?_) | exact rfl | refine aY ?_ | refine aN ?_ | refine aT fun h=>?_ | refine aF fun h=>?_ | refine ⟨fun h=>?_,fun h=>?_⟩ | refine aJ ?_ | refine ⟨_,rfl,?_⟩ | refine aD ?_ | fail
    all_goals exact congrArg (fun n=>Res.ret (AVal.int .i64 n)) (by (try rw [kC]);omega)
 .by_cases h1:65536<=x
  .by_cases h2:256<=x / 65536
   .have hb:BL x (16+(8+(bl8 (x / 65536 / 256)))):=BL.up 16 (BL.up 8 (qE (v:=x / 65536 / 256) (by omega) (by omega)))
    refine Al (16+(8+(bl8 (x / 65536 / 256)))) (Ac hb ?_)
    have hv:(x / 65536 / 256)<256:=by omega
    refine cT (E:=E) (fn:=Tryz.f221) (g:=.pure _) fun _=>?_
    repeat' first | (refine gN hE ?_;conv=>whnf) | (rw [fB];refine Ac (by decide) ?_) | (rw [G6];refine Ac (by decide) ?_) | (rw [hi8];refine Ac (by decide) ?_) | refine Al _ (Ac (lP hv) ?_) | (rw [kC];have:=oE ((x / 65536 / 256));refine aJ ?_) | exact rfl | refine aY ?_ | refine aN ?_ | refine aT fun h=>?_ | refine aF fun h=>?_ | refine ⟨fun h=>?_,fun h=>?_⟩ | refine aJ ?_ | refine ⟨_,rfl,?_⟩ | refine aD ?_ | fail
    all_goals exact congrArg (fun n=>Res.ret (AVal.int .i64 n)) (by (try rw [kC]);omega)
   .have hb:BL x (16+(bl8 (x / 65536))):=BL.up 16 (qE (v:=x / 65536) (by omega) (by omega))
    refine Al (16+(bl8 (x / 65536))) (Ac hb ?_)
    have hv:(x / 65536)<256:=by omega
    refine cT (E:=E) (fn:=Tryz.f221) (g:=.pure _) fun _=>?_
    repeat' first | (refine gN hE ?_;conv=>whnf) | (rw [fB];refine Ac (by decide) ?_) | (rw [G6];refine Ac (by decide) ?_) | (rw [hi8];refine Ac (by decide) ?_) | refine Al _ (Ac (lP hv) ?_) | (rw [kC];have:=oE ((x / 65536));refine aJ ?_) | exact rfl | refine aY ?_ | refine aN ?_ | refine aT fun h=>?_ | refine aF fun h=>?_ | refine ⟨fun h=>?_,fun h=>?_⟩ | refine aJ ?_ | refine ⟨_,rfl,?_⟩ | refine aD ?_ | fail
    all_goals exact congrArg (fun n=>Res.ret (AVal.int .i64 n)) (by (try rw [kC]);omega)
  .by_cases h2:256<=x
   .have hb:BL x (8+(bl8 (x / 256))):=BL.up 8 (qE (v:=x / 256) (by omega) (by omega))
    refine Al (8+(bl8 (x / 256))) (Ac hb ?_)
    have hv:(x / 256)<256:=by omega
    refine cT (E:=E) (fn:=Tryz.f221) (g:=.pure _) fun _=>?_
    repeat' first | (refine gN hE ?_;conv=>whnf) | (rw [fB];refine Ac (by decide) ?_) | (rw [G6];refine Ac (by decide) ?_) | (rw [hi8];refine Ac (by decide) ?_) | refine Al _ (Ac (lP hv) ?_) | (rw [kC];have:=oE ((x / 256));refine aJ ?_) | exact rfl | refine aY ?_ | refine aN ?_ | refine aT fun h=>?_ | refine aF fun h=>?_ | refine ⟨fun h=>?_,fun h=>?_⟩ | refine aJ ?_ | refine ⟨_,rfl,?_⟩ | refine aD ?_ | fail
    all_goals exact congrArg (fun n=>Res.ret (AVal.int .i64 n)) (by (try rw [kC]);omega)
   .have hb:BL x (bl8 (x)):=qE (v:=x) (by omega) (by omega)
    refine Al (bl8 (x)) (Ac hb ?_)
    have hv:x<256:=by omega
    refine cT (E:=E) (fn:=Tryz.f221) (g:=.pure _) fun _=>?_
    repeat' first | (refine gN hE ?_;conv=>whnf) | (rw [fB];refine Ac (by decide) ?_) | (rw [G6];refine Ac (by decide) ?_) | (rw [hi8];refine Ac (by decide) ?_) | refine Al _ (Ac (lP hv) ?_) | (rw [kC];have:=oE (x);refine aJ ?_) | exact rfl | refine aY ?_ | refine aN ?_ | refine aT fun h=>?_ | refine aF fun h=>?_ | refine ⟨fun h=>?_,fun h=>?_⟩ | refine aJ ?_ | refine ⟨_,rfl,?_⟩ | refine aD ?_ | fail
    all_goals exact congrArg (fun n=>Res.ret (AVal.int .i64 n)) (by (try rw [kC]);omega)
theorem aIp (x n:Nat) (hn:n<=64) (h:aA Tryz.prog 221 [uu x] [] (.ret (ii n)) []):aA Tryz.prog 390 [uu x] [] (.ret (ii ((64-n:Nat):Int))) []:=by
 have e:(64:Int)-(n:Int)=((64-n:Nat):Int):=by omega
 refine cT (E:=E) (fn:=Tryz.f390) (g:=.pure _) fun _=>?_
 repeat' first | (refine gN hE ?_;conv=>whnf) | refine .pure _ [] h ?_ | exact rfl | refine aY ?_ | refine aN ?_ | refine aT fun h=>?_ | refine aF fun h=>?_ | refine ⟨fun h=>?_,fun h=>?_⟩ | refine aJ ?_ | refine ⟨_,rfl,?_⟩ | refine aD ?_ | fail
 rw [e]
theorem wu (n:Int):IntKind.wrap .u64 n=n % 18446744073709551616:=by
 simp [IntKind.wrap,IntKind.signed,IntKind.bits]
theorem IR (x y:Nat):Hb (x:Int) (y:Int)=((x / y:Nat):Int):=rfl
noncomputable abbrev fD:Func:=Tryz.f373
def dvF (s Y y1 y0 u a1 a0 q r:Nat):List (Nat×AVal):=[(2,uu Y),(8,uu s),(9,uu y1),(10,uu y0),(11,uu u),(13,uu a1),(14,uu a0),(15,uu q),(16,uu r)]
def dvG (s Y y1 y0 u a1 a0 q t q0 r:Nat):List (Nat×AVal):=[(2,uu Y),(8,uu s),(9,uu y1),(10,uu y0),(11,uu u),(13,uu a1),(14,uu a0),(15,uu q),(16,uu r),(17,uu t),(18,uu q0)]
theorem aBa (s Y y1 y0 u a1 a0:Nat) (G:AVal) (h1:2147483648<=y1) (hy1:y1<4294967296) (h0:y0<4294967296) (hv:a1<4294967296) (hu:u<y1*4294967296+y0)
  (fin:∀ r,To E fD (.pure (.ret G)) (.code (gH fD 21) (dvF s Y y1 y0 u a1 a0 ((u*4294967296+a1) / (y1*4294967296+y0)) r) [])):
  ∀ (q r:Nat),Dg y1 y0 u a1 q r->r<4294967296->To E fD (.pure (.ret G)) (.head (stk fD 0) (dvF s Y y1 y0 u a1 a0 q r) []):=by
 intro q
 induction q using Mf with
 | _ q ih=>
 intro r hd hr
 have p1:(4294967296:Int)*(r:Int)=((4294967296*r:Nat):Int):=by omega
 have p2:((4294967296*r:Nat):Int)+(a1:Int)=((4294967296*r+a1:Nat):Int):=by omega
 have p3:(q:Int)*(y0:Int)=((q*y0:Nat):Int):=(Dy q y0).symm
 have step:(4294967296<=q\/4294967296*r+a1<q*y0)->To E fD (.pure (.ret G)) (.code (gH fD 18) (dvF s Y y1 y0 u a1 a0 q r) []):=fun hc=>by
  obtain ⟨q1,hd2⟩:=hd.step hv hu hc
  have hf:=hd2.few
  have hf2:=hd.few
  have e1:(q:Int)-1=((q-1:Nat):Int):=by omega
  have e2:(r:Int)+(y1:Int)=((r+y1:Nat):Int):=by omega
  unfold dvF
  by_cases c2:4294967296<=r+y1
  .have hq:=(hd2.fin (Dg.far h0 (by omega) c2)).2
   have fin:=fin (r+y1)
   rw [<-hq] at fin
   refine gV ?_
   rw [e1]
   refine aJ ?_
   refine gV ?_
   rw [e2]
   refine aJ ?_
   refine gV ?_
   refine aT fun h=>?_
   refine dP hE 2 ?_;conv=>whnf
   exact To.cutC [2,8,9,10,11,13,14,15,16] 0 rfl rfl rfl rfl fin
  .have next:=ih (q-1) (by omega) (r+y1) hd2 (by omega)
   unfold dvF at next
   repeat' first | (refine gN hE ?_;conv=>whnf) | (rw [e1];refine aJ ?_) | (rw [e2];refine aJ ?_) | exact rfl | refine aY ?_ | refine aN ?_ | refine aT fun h=>?_ | refine aF fun h=>?_ | refine ⟨fun h=>?_,fun h=>?_⟩ | refine aJ ?_ | refine ⟨_,rfl,?_⟩ | refine aD ?_ | fail
   exact zW
 by_cases c1:4294967296<=q
 .have step:=step (.inl c1)
  unfold dvF at step⊢
  refine gV ?_
  refine aT fun h=>?_
  refine gV ?_
  refine aY ?_
  refine dP hE 3 ?_;conv=>whnf
  exact To.cutC [2,8,9,10,11,13,14,15,16] 0 rfl rfl rfl rfl step
 .have b2:q*y0<=4294967295*4294967295:=Fl (by omega) (by omega)
  by_cases c3:4294967296*r+a1<q*y0
  .have step:=step (.inr c3)
   unfold dvF at step⊢
   refine gV ?_
   refine aF fun h=>?_
   refine gV ?_
   rw [p3]
   refine aJ ?_
   refine gV ?_
   rw [p1]
   refine aJ ?_
   refine gV ?_
   rw [p2]
   refine aJ ?_
   refine gV ?_
   refine aT fun h=>?_
   refine dP hE 3 ?_;conv=>whnf
   exact To.cutC [2,8,9,10,11,13,14,15,16] 0 rfl rfl rfl rfl step
  .have hq:=(hd.fin (by omega)).2
   have fin:=fin r
   rw [<-hq] at fin
   unfold dvF at fin⊢
   refine gV ?_
   refine aF fun h=>?_
   refine gV ?_
   rw [p3]
   refine aJ ?_
   refine gV ?_
   rw [p1]
   refine aJ ?_
   refine gV ?_
   rw [p2]
   refine aJ ?_
   refine gV ?_
   refine aF fun h=>?_
   refine dP hE 2 ?_;conv=>whnf
   exact To.cutC [2,8,9,10,11,13,14,15,16] 0 rfl rfl rfl rfl fin
theorem aA9 (s Y y1 y0 u a1 a0 p t:Nat) (G:AVal) (h1:2147483648<=y1) (hy1:y1<4294967296) (h0:y0<4294967296) (hv:a0<4294967296) (hu:t<y1*4294967296+y0)
  (fin:∀ r,To E fD (.pure (.ret G)) (.code (gH fD 28) (dvG s Y y1 y0 u a1 a0 p t ((t*4294967296+a0) / (y1*4294967296+y0)) r) [])):
  ∀ (q r:Nat),Dg y1 y0 t a0 q r->r<4294967296->To E fD (.pure (.ret G)) (.head (stk fD 1) (dvG s Y y1 y0 u a1 a0 p t q r) []):=by
 intro q
 induction q using Mf with
 | _ q ih=>
 intro r hd hr
 have p1:(4294967296:Int)*(r:Int)=((4294967296*r:Nat):Int):=by omega
 have p2:((4294967296*r:Nat):Int)+(a0:Int)=((4294967296*r+a0:Nat):Int):=by omega
 have p3:(q:Int)*(y0:Int)=((q*y0:Nat):Int):=(Dy q y0).symm
 have step:(4294967296<=q\/4294967296*r+a0<q*y0)->To E fD (.pure (.ret G)) (.code (gH fD 25) (dvG s Y y1 y0 u a1 a0 p t q r) []):=fun hc=>by
  obtain ⟨q1,hd2⟩:=hd.step hv hu hc
  have hf:=hd2.few
  have hf2:=hd.few
  have e1:(q:Int)-1=((q-1:Nat):Int):=by omega
  have e2:(r:Int)+(y1:Int)=((r+y1:Nat):Int):=by omega
  unfold dvG
  by_cases c2:4294967296<=r+y1
  .have hq:=(hd2.fin (Dg.far h0 (by omega) c2)).2
   have fin:=fin (r+y1)
   rw [<-hq] at fin
   refine gV ?_
   rw [e1]
   refine aJ ?_
   refine gV ?_
   rw [e2]
   refine aJ ?_
   refine gV ?_
   refine aT fun h=>?_
   refine dP hE 2 ?_;conv=>whnf
   exact To.cutC [2,8,9,10,11,13,14,15,16,17,18] 0 rfl rfl rfl rfl fin
  .have next:=ih (q-1) (by omega) (r+y1) hd2 (by omega)
   unfold dvG at next
   repeat' first | (refine gN hE ?_;conv=>whnf) | (rw [e1];refine aJ ?_) | (rw [e2];refine aJ ?_) | exact rfl | refine aY ?_ | refine aN ?_ | refine aT fun h=>?_ | refine aF fun h=>?_ | refine ⟨fun h=>?_,fun h=>?_⟩ | refine aJ ?_ | refine ⟨_,rfl,?_⟩ | refine aD ?_ | fail
   exact zW
 by_cases c1:4294967296<=q
 .have step:=step (.inl c1)
  unfold dvG at step⊢
  refine gV ?_
  refine aT fun h=>?_
  refine gV ?_
  refine aY ?_
  refine dP hE 3 ?_;conv=>whnf
  exact To.cutC [2,8,9,10,11,13,14,15,16,17,18] 0 rfl rfl rfl rfl step
 .have b2:q*y0<=4294967295*4294967295:=Fl (by omega) (by omega)
  by_cases c3:4294967296*r+a0<q*y0
  .have step:=step (.inr c3)
   unfold dvG at step⊢
   refine gV ?_
   refine aF fun h=>?_
   refine gV ?_
   rw [p3]
   refine aJ ?_
   refine gV ?_
   rw [p1]
   refine aJ ?_
   refine gV ?_
   rw [p2]
   refine aJ ?_
   refine gV ?_
   refine aT fun h=>?_
   refine dP hE 3 ?_;conv=>whnf
   exact To.cutC [2,8,9,10,11,13,14,15,16,17,18] 0 rfl rfl rfl rfl step
  .have hq:=(hd.fin (by omega)).2
   have fin:=fin r
   rw [<-hq] at fin
   unfold dvG at fin⊢
   refine gV ?_
   refine aF fun h=>?_
   refine gV ?_
   rw [p3]
   refine aJ ?_
   refine gV ?_
   rw [p1]
   refine aJ ?_
   refine gV ?_
   rw [p2]
   refine aJ ?_
   refine gV ?_
   refine aF fun h=>?_
   refine dP hE 2 ?_;conv=>whnf
   exact To.cutC [2,8,9,10,11,13,14,15,16,17,18] 0 rfl rfl rfl rfl fin
theorem aEy {hi lo y s L:Nat} (hb:BL y L) (hL:L<=64) (hs:s=64-L) (hh:hi<y) (hl:lo<18446744073709551616):
  9223372036854775808<=y*2 ^ s/\y*2 ^ s<18446744073709551616/\hi*2 ^ s+lo / 2 ^ (64-s)<y*2 ^ s/\lo / 2 ^ (64-s)<2 ^ s/\(hi*18446744073709551616+lo) / y=((hi*2 ^ s+lo / 2 ^ (64-s))*18446744073709551616+lo*2 ^ s % 18446744073709551616) / (y*2 ^ s):=by
 obtain ⟨b1,b2,b3⟩:=hb
 have hp:0<2 ^ s:=Ke (by decide)
 have e64:2 ^ (64-s)*2 ^ s=18446744073709551616:=by rw [<-Ig,show 64-s+s=64 by omega]
 have q0:2 ^ (L-1)*2 ^ s=9223372036854775808:=by rw [<-Ig,show L-1+s=63 by omega]
 have q1:2 ^ L*2 ^ s=18446744073709551616:=by rw [<-Ig,show L+s=64 by omega]
 have q2:2 ^ (L-1)*2 ^ s<=y*2 ^ s:=Bz _ b2
 have q3:y*2 ^ s<2 ^ L*2 ^ s:=Nat.mul_lt_mul_of_pos_right b3 hp
 have d1:lo*2 ^ s / 18446744073709551616=lo / 2 ^ (64-s):=by rw [<-e64,Js _ _ hp]
 have d2:=Fy (lo*2 ^ s) 18446744073709551616
 rw [d1] at d2
 have d3:lo / 2 ^ (64-s)<2 ^ s:=by
  refine (Df (Ke (by decide))).2 ?_
  rw [De,e64]
  exact hl
 have m1:(hi+1)*2 ^ s<=y*2 ^ s:=Bz _ hh
 rw [Bw,Fx] at m1
 have eN:(hi*18446744073709551616+lo)*2 ^ s=(hi*2 ^ s+lo / 2 ^ (64-s))*18446744073709551616+lo*2 ^ s % 18446744073709551616:=by
  rw [Bw,Bw,Ky]
  omega
 refine ⟨by omega,by omega,by omega,d3,?_⟩
 rw [<-eN,Js _ _ hp]
theorem aCt (x s:Nat):(x:Int)*2 ^ Cx (s:Int)=((x*2 ^ s:Nat):Int):=by
 rw [Ck]
 push_cast
 rfl
theorem XH (x s:Nat):Kf (x:Int) (2 ^ Cx (s:Int))=((x / 2 ^ s:Nat):Int):=hiN x s
theorem aEx (s Y y1 y0 u a1 a0 q t q0 r:Nat) (hs:s<=64) (hq:q*4294967296+q0<18446744073709551616) (hY:Y<18446744073709551616) (hle:q0*Y<=t*4294967296+a0) (hlt:t*4294967296+a0-q0*Y<18446744073709551616):
  To E fD (.pure (.ret (.tup [uu (q*4294967296+q0),uu ((t*4294967296+a0-q0*Y) / 2 ^ s)]))) (.code (gH fD 28) (dvG s Y y1 y0 u a1 a0 q t q0 r) []):=by
 have hq1:q*4294967296<18446744073709551616:=Je (Nat.le_add_right _ _) hq
 have e1:(q:Int)*4294967296=((q*4294967296:Nat):Int):=by omega
 have e2:((q*4294967296:Nat):Int)+(q0:Int)=((q*4294967296+q0:Nat):Int):=by omega
 have e3:(q0:Int)*(Y:Int)=((q0*Y:Nat):Int):=(Dy q0 Y).symm
 have e4:IntKind.wrap .u64 (IntKind.wrap .u64 (IntKind.wrap .u64 ((t:Int)*4294967296)+(a0:Int))-IntKind.wrap .u64 ((q0*Y:Nat):Int))=((t*4294967296+a0-q0*Y:Nat):Int):=by
  simp only [wu]
  generalize q0*Y=z at *
  omega
 unfold dvG
 generalize hR:t*4294967296+a0-q0*Y=R at *
 generalize hP:q0*Y=P at *
 refine gV ?_
 rw [e1]
 refine aJ ?_
 refine gV ?_
 rw [e2]
 refine aJ ?_
 refine gV ?_
 refine Jw ?_
 refine gV ?_
 refine Jw ?_
 refine gV ?_
 rw [e3]
 refine Jw ?_
 refine gV ?_
 refine Jw ?_
 refine gV ?_
 rw [e4,XH]
 refine Ac (Ac (by omega) (show Cx (s:Int)<=64 by omega)) ?_
 refine gW (by first | exact hE | exact hEr _ _ | exact hEo _ _) ?_;conv=>whnf
theorem aHE (s Y y1 y0 u a1 a0 q r:Nat) (G:AVal) (h1:2147483648<=y1) (hy1:y1<4294967296) (h0:y0<4294967296) (ha1:a1<4294967296) (ha0:a0<4294967296) (hY:Y=y1*4294967296+y0) (hu:u<Y) (hq:q=(u*4294967296+a1) / Y)
  (fin:∀ r,To E fD (.pure (.ret G)) (.code (gH fD 28) (dvG s Y y1 y0 u a1 a0 q (u*4294967296+a1-q*Y) (((u*4294967296+a1-q*Y)*4294967296+a0) / Y) r) [])):
  To E fD (.pure (.ret G)) (.code (gH fD 21) (dvF s Y y1 y0 u a1 a0 q r) []):=by
 have hle:q*Y<=u*4294967296+a1:=by rw [hq];exact Gp ..
 have hY0:0<Y:=by omega
 have hlt:=LR hY0 hq rfl
 have e3:(q:Int)*(Y:Int)=((q*Y:Nat):Int):=(Dy q Y).symm
 have e4:IntKind.wrap .u64 (IntKind.wrap .u64 (IntKind.wrap .u64 ((u:Int)*4294967296)+(a1:Int))-IntKind.wrap .u64 ((q*Y:Nat):Int))=((u*4294967296+a1-q*Y:Nat):Int):=by
  simp only [wu]
  generalize q*Y=z at *
  omega
 generalize u*4294967296+a1-q*Y=t at *
 have lp:=aA9 s Y y1 y0 u a1 a0 q t G h1 hy1 h0 ha0 (by rw [<-hY];exact hlt) (by rw [<-hY];exact fin) (t / y1) (t % y1) (Dg.zero h1 h0 ha0 (by rw [<-hY];exact hlt)) (by have:=Ea t (show 0<y1 by omega);omega)
 have et:=Fy t y1
 have e5:=IR t y1
 have e6:((t / y1:Nat):Int)*(y1:Int)=((t / y1*y1:Nat):Int):=(Dy _ _).symm
 have e7:(t:Int)-((t / y1*y1:Nat):Int)=((t % y1:Nat):Int):=by
  rw [De] at et
  generalize t / y1*y1=z at *
  omega
 have e8:t / y1*y1<=t:=Gp ..
 have e9:t / y1<=t:=Dk ..
 have hm:=Ea t (show 0<y1 by omega)
 unfold dvF
 unfold dvG at lp
 generalize t / y1*y1=z at *
 generalize t / y1=q2 at *
 generalize t % y1=r2 at *
 generalize q*Y=P at *
 refine gV ?_
 refine Jw ?_
 refine gV ?_
 refine Jw ?_
 refine gV ?_
 rw [e3]
 refine Jw ?_
 refine gV ?_
 refine Jw ?_
 refine gV ?_
 rw [e4]
 refine Ac (by omega) ?_
 refine gV ?_
 rw [e5]
 refine aJ ?_
 refine gV ?_
 rw [e6]
 refine aJ ?_
 refine gV ?_
 rw [e7]
 exact zW
theorem aEw (hi lo y s Y H Q U A y1 y0 a1 a0 q r z:Nat) (G:AVal) (h0:0<hi) (hh:hi<y) (hs:s<=63) (hlz:aA Tryz.prog 390 [uu y] [] (.ret (ii s)) [])
  (hY:Y<18446744073709551616) (hHU:H<=U) (hU:U<Y) (hQ:Q<=U) (eY:(y:Int)*2 ^ Cx (s:Int)=(Y:Int)) (eH:(hi:Int)*2 ^ Cx (s:Int)=(H:Int)) (e4:Kf (lo:Int) (2 ^ Cx ((64-s:Nat):Int))=(Q:Int))
  (e5:eO .or .u64 (H:Int) (Q:Int)=(U:Int)) (e6:IntKind.wrap .u64 ((lo:Int)*2 ^ (min (Cx (s:Int)) (IntKind.bits .u64)))=(A:Int))
  (f1:Kf (Y:Int) (2 ^ Cx 32)=(y1:Int)) (f2:eO .and .u64 (Y:Int) 4294967295=(y0:Int)) (f3:Kf (A:Int) (2 ^ Cx 32)=(a1:Int)) (f4:eO .and .u64 (A:Int) 4294967295=(a0:Int))
  (y1a:0<y1) (g1:Hb (U:Int) (y1:Int)=(q:Int)) (g2:(q:Int)*(y1:Int)=(z:Int)) (g3:(U:Int)-(z:Int)=(r:Int)) (g4:z<=U) (g5:q<=U) (g6:r<=U)
  (lp:To E fD (.pure (.ret G)) (.head (stk fD 0) (dvF s Y y1 y0 U a1 a0 q r) [])):aA Tryz.prog 373 [uu hi,uu lo,uu y] [] (.ret G) []:=by
 have b0:((y:Int)==0)=false:=beq_eq_false_iff_ne.2 (by omega)
 have b1:((hi:Int)==0)=false:=beq_eq_false_iff_ne.2 (by omega)
 have e3:(64:Int)-(s:Int)=((64-s:Nat):Int):=by omega
 unfold dvF at lp
 refine cT (E:=E) (fn:=Tryz.f373) (g:=.pure _) fun _=>?_
 refine gV ?_
 refine Ac (fun h=>absurd (b0.symm.trans h) (by decide)) (fun _=>?_)
 refine gV ?_
 refine aF fun h=>?_
 refine gV ?_
 refine Ac (fun h=>absurd (b1.symm.trans h) (by decide)) (fun _=>?_)
 refine gV ?_
 refine .pure _ [] hlz ?_
 refine gV ?_
 refine aJ ?_
 refine gV ?_
 refine Ac (by omega) ?_
 refine gV ?_
 rw [eY]
 refine Fm (Ac (Ac (show Cx (s:Int)<=64 by omega) (Ac (by simp only [bY];omega) (by simp only [bI];omega))) ?_)
 refine gV ?_
 rw [f1]
 refine Ac (by decide) ?_
 refine gV ?_
 rw [f2]
 refine Ac (by omega) ?_
 refine gV ?_
 rw [eH]
 refine Fm (Ac (Ac (show Cx (s:Int)<=64 by omega) (Ac (by simp only [bY];omega) (by simp only [bI];omega))) ?_)
 refine gV ?_
 rw [e3]
 refine aJ ?_
 refine gV ?_
 rw [e4]
 refine Ac (Ac (by omega) (show Cx ((64-s:Nat):Int)<=64 by omega)) ?_
 refine gV ?_
 rw [e5]
 refine Ac (by omega) ?_
 refine gV ?_
 refine Jw ?_
 refine gV ?_
 rw [e6,f3]
 refine Ac (by decide) ?_
 refine gV ?_
 rw [f4]
 refine Ac (by omega) ?_
 refine gV ?_
 rw [g1]
 refine aJ ?_
 refine gV ?_
 rw [g2]
 refine aJ ?_
 refine gV ?_
 rw [g3]
 exact zW
theorem OU (hi lo y:Nat) (h0:0<hi) (hh:hi<y) (hy:y<18446744073709551616) (hl:lo<18446744073709551616):∃ m:Int,aA Tryz.prog 373 [uu hi,uu lo,uu y] [] (.ret (.tup [uu ((hi*18446744073709551616+lo) / y),.int .u64 m])) []:=by
 obtain ⟨L,hL,hc⟩:=UI y (by omega) hy
 have hL64:=hL.le hy
 have hlz:=aIp y L hL64 hc
 have hL1:=hL.1
 obtain ⟨s,hs⟩:∃ s,s=64-L:=⟨_,rfl⟩
 obtain ⟨n1,n2,n3,n4,n5⟩:=aEy hL hL64 hs hh hl
 rw [<-hs] at hlz
 rw [n5]
 have hA:lo*2 ^ s % 18446744073709551616<18446744073709551616:=Ea _ (by decide)
 have e5:eO .or .u64 ((hi*2 ^ s:Nat):Int) ((lo / 2 ^ (64-s):Nat):Int)=((hi*2 ^ s+lo / 2 ^ (64-s):Nat):Int):=by
  have h2:=Ic n4 hi
  rw [De] at h2
  rw [h2]
  generalize y*2 ^ s=Y at *
  generalize hi*2 ^ s=H at *
  generalize lo / 2 ^ (64-s)=Q at *
  exact CG .u64 H Q (by simp only [bI];omega) (by simp only [bI];omega)
 have e6:IntKind.wrap .u64 ((lo:Int)*2 ^ (min (Cx (s:Int)) (IntKind.bits .u64)))=((lo*2 ^ s % 18446744073709551616:Nat):Int):=by
  have h:=aCt lo s
  rw [Ck] at h
  rw [wu,Ck,Gn (show s<=IntKind.bits .u64 from (show s<=64 by omega)),h]
  generalize lo*2 ^ s=z
  omega
 have eY:=aCt y s
 have eH:=aCt hi s
 have e4:=XH lo (64-s)
 clear n4
 generalize y*2 ^ s=Y at *
 generalize hi*2 ^ s=H at *
 generalize lo / 2 ^ (64-s)=Q at *
 generalize lo*2 ^ s % 18446744073709551616=A at *
 have hHU:H<=H+Q:=Nat.le_add_right ..
 have hQU:Q<=H+Q:=Nat.le_add_left ..
 generalize H+Q=U at *
 have y1a:2147483648<=Y / 4294967296:=by clear eY eH e4 e5 e6;omega
 have y1b:Y / 4294967296<4294967296:=by clear eY eH e4 e5 e6;omega
 have y0b:Y % 4294967296<4294967296:=Ea _ (by decide)
 have a1b:A / 4294967296<4294967296:=by clear eY eH e4 e5 e6;omega
 have a0b:A % 4294967296<4294967296:=Ea _ (by decide)
 have eYY:Y=Y / 4294967296*4294967296+Y % 4294967296:=by clear eY eH e4 e5 e6;omega
 have eN:U*18446744073709551616+A=U*18446744073709551616+A / 4294967296*4294967296+A % 4294967296:=by clear eY eH e4 e5 e6;omega
 have f1:=fB Y
 have f2:=KN Y n2
 have f3:=fB A
 have f4:=KN A hA
 have hY0:0<Y:=by omega
 rw [eN]
 clear eN n5
 generalize A / 4294967296=a1 at *
 generalize A % 4294967296=a0 at *
 have two:=aEF (Y:=Y) (u:=U) (v:=a1) (w:=a0) hY0 rfl rfl rfl a0b
 have hres:(U*18446744073709551616+a1*4294967296+a0) / Y<18446744073709551616:=(Df hY0).2 (by clear eY eH e4 e5 e6 f1 f2 f3 f4 two eYY;omega)
 have hd1:(((U*4294967296+a1-(U*4294967296+a1) / Y*Y)*4294967296+a0) / Y)*Y<=(U*4294967296+a1-(U*4294967296+a1) / Y*Y)*4294967296+a0:=Gp ..
 have hd2:=LR (N:=(U*4294967296+a1-(U*4294967296+a1) / Y*Y)*4294967296+a0) hY0 rfl rfl
 have tail:=fun r=>aEx s Y (Y / 4294967296) (Y % 4294967296) U a1 a0 ((U*4294967296+a1) / Y) (U*4294967296+a1-(U*4294967296+a1) / Y*Y) (((U*4294967296+a1-(U*4294967296+a1) / Y*Y)*4294967296+a0) / Y) r (by omega) (by rw [two];exact hres) n2 hd1 (Nc hd2 n2)
 rw [two] at tail
 have mid:=fun r=>aHE s Y (Y / 4294967296) (Y % 4294967296) U a1 a0 ((U*4294967296+a1) / Y) r _ y1a y1b y0b a1b a0b eYY n3 rfl tail
 have hyp:0<Y / 4294967296:=by omega
 have hmr:=Ea U hyp
 have lp:=aBa s Y (Y / 4294967296) (Y % 4294967296) U a1 a0 _ y1a y1b y0b a1b (by rw [<-eYY];exact n3) (by rw [<-eYY];exact mid) (U / (Y / 4294967296)) (U % (Y / 4294967296)) (Dg.zero y1a y0b a1b (by rw [<-eYY];exact n3)) (Nc hmr y1b)
 have et:=Fy U (Y / 4294967296)
 exact ⟨_,aEw hi lo y s Y H Q U A _ _ a1 a0 _ _ (U / (Y / 4294967296)*(Y / 4294967296)) _ h0 hh (by omega) hlz n2 hHU n3 hQU eY eH e4 e5 e6 f1 f2 f3 f4 hyp (IR _ _) (Dy _ _).symm (by
  rw [De] at et
  generalize U / (Y / 4294967296)*(Y / 4294967296)=z at *
  clear eY eH e4 e5 e6 f1 f2 f3 f4 eYY tail mid lp two
  omega) (Gp ..) (Dk ..) (Kz ..) lp⟩
theorem aF1 (x y:Nat):Int.tmod (x:Int) (y:Int)=((x % y:Nat):Int):=rfl
theorem OT (lo y:Nat) (h0:0<y) (hy:y<18446744073709551616) (hl:lo<18446744073709551616):aA Tryz.prog 373 [uu 0,uu lo,uu y] [] (.ret (.tup [uu (lo / y),uu (lo % y)])) []:=by
 have b0:((y:Int)==0)=false:=beq_eq_false_iff_ne.2 (by omega)
 have g1:=IR lo y
 have g2:=aF1 lo y
 have g3:lo / y<=lo:=Dk ..
 have g4:=Kz lo y
 generalize lo / y=q at *
 generalize lo % y=r at *
 refine cT (E:=E) (fn:=Tryz.f373) (g:=.pure _) fun _=>?_
 refine gV ?_
 refine Ac (fun h=>absurd (b0.symm.trans h) (by decide)) (fun _=>?_)
 repeat' first | (refine gN hE ?_;conv=>whnf) | (rw [g1];refine aJ ?_) | (rw [g2];refine aJ ?_) | exact rfl | refine aY ?_ | refine aN ?_ | refine aT fun h=>?_ | refine aF fun h=>?_ | refine ⟨fun h=>?_,fun h=>?_⟩ | refine aJ ?_ | refine ⟨_,rfl,?_⟩ | refine aD ?_ | fail
 rw [g2]
theorem aBb (hi lo y:Nat) (hh:hi<y) (hy:y<18446744073709551616) (hl:lo<18446744073709551616):∃ m:Int,aA Tryz.prog 373 [uu hi,uu lo,uu y] [] (.ret (.tup [uu ((hi*18446744073709551616+lo) / y),.int .u64 m])) []:=by
 rcases Ez hi with rfl | h
 .rw [Im,Bn]
  exact ⟨_,OT lo y hh hy hl⟩
 .exact OU hi lo y h hh hy hl
theorem aHS (a b:Nat) (ha:a<18446744073709551616) (hb:b<18446744073709551616) (r:Nat) (hr:wF a b=r):aA Tryz.prog 343 [uu a,uu b] [] (.ret (uu r)) []:=by
 unfold wF at hr
 by_cases h0:a=0
 .subst h0
  have hr:0=r:=hr
  subst hr
  refine cT (E:=E) (fn:=Tryz.f343) (g:=.pure _) fun _=>?_
  exact zW
 .have b0:((a:Int)==0)=false:=beq_eq_false_iff_ne.2 (by omega)
  rw [if_neg h0] at hr
  have e1:=fB a
  obtain ⟨W,hW⟩:∃ W,W=a % 4294967296*4294967296:=⟨_,rfl⟩
  have e2:IntKind.wrap .u64 ((a:Int)*2 ^ (min (Cx 32) (IntKind.bits .u64)))=(W:Int):=by
   show IntKind.wrap .u64 ((a:Int)*4294967296)=_
   rw [wu]
   omega
  by_cases h1:b<=a / 4294967296
  .have hr:18446744073709551615=r:=by
    rcases Ez b with rfl | hp
    .exact hr
    .rw [if_neg (by omega),aHI hp h1] at hr
     exact hr
   subst hr
   generalize a / 4294967296=H at *
   refine cT (E:=E) (fn:=Tryz.f343) (g:=.pure _) fun _=>?_
   refine gV ?_
   refine Ac (fun h=>absurd (b0.symm.trans h) (by decide)) (fun _=>?_)
   refine gV ?_
   rw [e1]
   refine Ac (by decide) ?_
   refine gV ?_
   refine Ac (by decide) ?_
   refine gV ?_
   refine Jw ?_
   exact zW
  .obtain ⟨m,hd⟩:=aBb (a / 4294967296) W b (by omega) hb (by omega)
   have eN:a / 4294967296*18446744073709551616+W=a*4294967296:=by omega
   rw [eN] at hd
   rw [if_neg (by omega),(aHH (by omega)).2] at hr
   rw [hr] at hd
   generalize a / 4294967296=H at *
   refine cT (E:=E) (fn:=Tryz.f343) (g:=.pure _) fun _=>?_
   refine gV ?_
   refine Ac (fun h=>absurd (b0.symm.trans h) (by decide)) (fun _=>?_)
   refine gV ?_
   rw [e1]
   refine Ac (by decide) ?_
   refine gV ?_
   refine Ac (by decide) ?_
   refine gV ?_
   refine Jw ?_
   refine gV ?_
   refine aF fun h=>?_
   rw [e2]
   exact zW
theorem aFF (a b:Nat) (ha:a<18446744073709551616) (hb:b<18446744073709551616):aA Tryz.prog 343 [uu a,uu b] [] (.ret (uu (wF a b))) []:=aHS a b ha hb _ rfl
theorem RU (a b:Nat) (ha:a<18446744073709551616) (hb:b<18446744073709551616):aA Tryz.prog 376 [uu a,uu b] [] (.ret (uu (wF a b))) []:=by
 have h:=aFF a b ha hb
 generalize wF a b=r at h
 refine cT (E:=E) (fn:=Tryz.f376) (g:=.pure _) fun _=>?_
 exact zW
theorem yT (a b:Int) (ha:a<=9223372036854775807) (hb:b<=9223372036854775807):aA Tryz.prog 299 [ii a,ii b] [] (.ret (uu (vL a b))) []:=by
 have h:=aFF (max a 0).toNat (max b 0).toNat (by omega) (by omega)
 unfold vL
 have e1:(((max a 0).toNat:Nat):Int)=max a 0:=by omega
 have e2:(((max b 0).toNat:Nat):Int)=max b 0:=by omega
 generalize wF (max a 0).toNat (max b 0).toNat=r at h
 unfold uu at h
 rw [e1,e2] at h
 refine cT (E:=E) (fn:=Tryz.f299) (g:=.pure _) fun _=>?_
 exact zW
theorem qP (n:Nat):nT n=if n<18446744073709551616 then n else 18446744073709551615:=rfl
theorem aCW {s x y l:Nat}:nT (s+x+y+l)=if kJ (kJ s x) y=18446744073709551615 then 18446744073709551615 else kJ (kJ (kJ s x) y) l:=by
 unfold kJ
 simp only [qP]
 repeat' split
 all_goals omega
noncomputable abbrev fRM:Func:=Tryz.f93
def rmF (ah al bh bl:Nat):List (Nat×AVal):=[(5,uu ah),(6,uu al),(7,uu bh),(8,uu bl)]
theorem aCQ (ah al bh bl r:Nat) (ha:ah<4294967296) (hal:al<4294967296) (hb:bh<4294967296) (hbl:bl<4294967296) (hr:nT (ah*bh*4294967296+ah*bl+al*bh+al*bl / 4294967296)=r):
  To E fRM (.pure (.ret (uu r))) (.code (gH fRM 5) (rmF ah al bh bl) []):=by
 have m1:=aDr ah bh
 have m2:=aDr ah bl
 have m3:=aDr al bh
 have m4:=aDr al bl
 have l1:ah*bh<=4294967295*4294967295:=Fl (by omega) (by omega)
 have l2:ah*bl<=4294967295*4294967295:=Fl (by omega) (by omega)
 have l3:al*bh<=4294967295*4294967295:=Fl (by omega) (by omega)
 have l4:al*bl<=4294967295*4294967295:=Fl (by omega) (by omega)
 have d4:Hb ((al*bl:Nat):Int) 4294967296=((al*bl / 4294967296:Nat):Int):=tdN (al*bl) 4294967296
 have l5:al*bl / 4294967296<4294967296:=by omega
 unfold rmF
 generalize ah*bh=P at *
 generalize ah*bl=X at *
 generalize al*bh=Y at *
 generalize al*bl=Z at *
 generalize Z / 4294967296=L at *
 by_cases h1:4294967296<=P
 .have hr:18446744073709551615=r:=by rw [qP,if_neg (by omega)] at hr;exact hr
  subst hr
  refine gV ?_
  rw [m1]
  exact zW
 .have eP:(P:Int)*4294967296=((P*4294967296:Nat):Int):=by omega
  obtain ⟨S,hS⟩:∃ S,S=P*4294967296:=⟨_,rfl⟩
  rw [<-hS] at hr eP
  have a1:=vN S X (by omega) (by omega)
  have lt1:=zC S X
  rw [aCW] at hr
  generalize kJ S X=S1 at *
  have a2:=vN S1 Y (by omega) (by omega)
  have lt2:=zC S1 Y
  generalize kJ S1 Y=S2 at *
  by_cases h2:S2=18446744073709551615
  .rw [if_pos h2] at hr
   subst hr
   have hb:((S2:Int)==18446744073709551615)=true:=by rw [h2];rfl
   refine gV ?_
   rw [m1]
   refine aJ ?_
   refine gV ?_
   refine aF fun h=>?_
   refine gV ?_
   rw [eP]
   refine aJ ?_
   refine gV ?_
   rw [m2]
   refine aJ ?_
   refine gV ?_
   refine .pure _ [] a1 ?_
   refine gV ?_
   rw [m3]
   refine aJ ?_
   refine gV ?_
   refine .pure _ [] a2 ?_
   refine gV ?_
   rw [m4]
   refine aJ ?_
   refine gV ?_
   refine Ac (by decide) ?_
   refine gV ?_
   rw [d4]
   exact zW
  .rw [if_neg h2] at hr
   have a3:=vN S2 L (by omega) (by omega)
   rw [hr] at a3
   have hb:((S2:Int)==18446744073709551615)=false:=beq_eq_false_iff_ne.2 (by omega)
   refine gV ?_
   rw [m1]
   refine aJ ?_
   refine gV ?_
   refine aF fun h=>?_
   refine gV ?_
   rw [eP]
   refine aJ ?_
   refine gV ?_
   rw [m2]
   refine aJ ?_
   refine gV ?_
   refine .pure _ [] a1 ?_
   refine gV ?_
   rw [m3]
   refine aJ ?_
   refine gV ?_
   refine .pure _ [] a2 ?_
   refine gV ?_
   rw [m4]
   refine aJ ?_
   refine gV ?_
   refine Ac (by decide) ?_
   refine gV ?_
   rw [d4]
   exact zW
theorem NN (a b:Nat) (ha:a<18446744073709551616) (hb:b<18446744073709551616) (r:Nat) (hr:hJ a b=r):aA Tryz.prog 93 [uu a,uu b] [] (.ret (uu r)) []:=by
 have c1:Hb (a:Int) 4294967296=((a / 4294967296:Nat):Int):=tdN a 4294967296
 have c2:Int.tmod (a:Int) 4294967296=((a % 4294967296:Nat):Int):=tmN a 4294967296
 have c3:Hb (b:Int) 4294967296=((b / 4294967296:Nat):Int):=tdN b 4294967296
 have c4:Int.tmod (b:Int) 4294967296=((b % 4294967296:Nat):Int):=tmN b 4294967296
 have ea:a=a / 4294967296*4294967296+a % 4294967296:=by omega
 have eb:b=b / 4294967296*4294967296+b % 4294967296:=by omega
 have la:a % 4294967296<4294967296:=Ea _ (by decide)
 have lb:b % 4294967296<4294967296:=Ea _ (by decide)
 have ha1:a / 4294967296<4294967296:=by omega
 have hb1:b / 4294967296<4294967296:=by omega
 have em:=aCX ea eb la lb
 unfold hJ at hr
 rw [em] at hr
 clear em ea eb
 have tail:=aCQ _ _ _ _ r ha1 la hb1 lb hr
 unfold rmF at tail
 generalize a / 4294967296=ah at *
 generalize a % 4294967296=al at *
 generalize b / 4294967296=bh at *
 generalize b % 4294967296=bl at *
 refine cT (E:=E) (fn:=Tryz.f93) (g:=.pure _) fun _=>?_
 refine gV ?_
 refine Ac (by decide) ?_
 refine gV ?_
 rw [c1]
 refine aJ ?_
 refine gV ?_
 refine Ac (by decide) ?_
 refine gV ?_
 rw [c2]
 refine Ac (by decide) ?_
 refine gV ?_
 rw [c3]
 refine aJ ?_
 refine gV ?_
 refine Ac (by decide) ?_
 refine gV ?_
 rw [c4]
 by_cases h1:0<ah
 .refine aT fun h=>?_
  by_cases h2:0<bh
  .have c5:Hb 18446744073709551615 (bh:Int)=((18446744073709551615 / bh:Nat):Int):=tdN 18446744073709551615 bh
   have c6:Hb ((18446744073709551615 / bh:Nat):Int) 4294967296=((18446744073709551615 / bh / 4294967296:Nat):Int):=tdN (18446744073709551615 / bh) 4294967296
   have hov:=YG (ah:=ah) h2
   have hlt:18446744073709551615 / bh<=18446744073709551615:=Dk ..
   have hlt2:18446744073709551615 / bh / 4294967296<=18446744073709551615 / bh:=Dk ..
   generalize 18446744073709551615 / bh=Q at *
   generalize Q / 4294967296=Q2 at *
   refine gV ?_
   refine aT fun h=>?_
   refine gV ?_
   refine Ac (by omega) ?_
   refine gV ?_
   rw [c5]
   refine aJ ?_
   refine gV ?_
   refine Ac (by decide) ?_
   refine gV ?_
   rw [c6]
   refine aJ ?_
   refine gV ?_
   by_cases h3:Q2<ah
   .have hP:=hov.1 h3
    have hr:18446744073709551615=r:=by
     rw [qP,if_neg] at hr
     .exact hr
     .generalize ah*bh=P at *
      omega
    subst hr
    exact zW
   .refine aF fun h=>?_
    refine dP hE 2 ?_;conv=>whnf
    exact To.cutC [5,6,7,8] 0 rfl rfl rfl rfl tail
  .refine gV ?_
   refine aF fun h=>?_
   refine gV ?_
   refine aN ?_
   refine dP hE 2 ?_;conv=>whnf
   exact To.cutC [5,6,7,8] 0 rfl rfl rfl rfl tail
 .refine aF fun h=>?_
  refine gV ?_
  refine aN ?_
  refine gV ?_
  refine aN ?_
  refine dP hE 2 ?_;conv=>whnf
  exact To.cutC [5,6,7,8] 0 rfl rfl rfl rfl tail
theorem ED (a b:Nat) (ha:a<18446744073709551616) (hb:b<18446744073709551616):aA Tryz.prog 93 [uu a,uu b] [] (.ret (uu (hJ a b))) []:=NN a b ha hb _ rfl
noncomputable abbrev fRV:Func:=Tryz.f255
def ovF (a b q r:Nat) (i:Int):List (Nat×AVal):=[(0,uu a),(1,uu b),(5,uu q),(6,uu r),(7,ii i)]
def DP (a i:Nat):Nat:=a*4294967296 / 2 ^ i % 2
theorem SR (a i:Nat):DP a i<2:=Ea _ (by decide)
theorem Y4 (n:Nat):eO .or .u64 ((2*n:Nat):Int) 1=if 2*n<18446744073709551616 then ((2*n+1:Nat):Int) else eO .or .u64 ((2*n:Nat):Int) 1:=by
 split
 .have h:=CG .u64 (2*n) 1 (by simp only [bI];omega) (by decide)
  have h2:2*n ||| 1=2*n+1:=by
   have:=Ic (i:=1) (b:=1) (by decide) n
   simpa using this.symm
  rw [h2] at h
  exact h
 .rfl
theorem CH (z:Nat) (hz:z<18446744073709551616):eO .and .u64 (z:Int) 1=((z % 2:Nat):Int):=by
 have h:=wD .u64 z 1 (by simp only [bI];omega) (by decide)
 rw [La] at h
 exact h
theorem QQ (a b q r v i:Nat) (top:Bool) (w:Int) (G:AVal) (hb:0<b) (hb2:b<18446744073709551616) (hq:q<18446744073709551616) (hi:i<96) (hw:0<=w/\w<=18446744073709551615) (ht:top=decide (18446744073709551616<=v)) (hv:(v:Int)=w+(if top=true then 18446744073709551616 else 0)) (hvb:v<2*b)
  (ret:9223372036854775808<=q->G=uu 18446744073709551615)
  (next:q<9223372036854775808->To E fRV (.pure (.ret G)) (.head (stk fRV 0) (ovF a b (if b<=v then 2*q+1 else 2*q) (if b<=v then v-b else v) ((i:Int)-1)) [])):
  To E fRV (.pure (.ret G)) (.code (gH fRV 10) [(0,uu a),(1,uu b),(5,uu q),(6,.int .u64 w),(7,ii i),(8,.bool top)] []):=by
 have e3:=Y4 q
 cases top with
 | true=>
  have h1:=(of_decide_eq_true ht.symm)
  have hv:(v:Int)=w+18446744073709551616:=hv
  have e1:IntKind.wrap .u64 (w-(b:Int))=((v-b:Nat):Int):=by rw [wu];omega
  rw [if_pos (by omega),if_pos (by omega)] at next
  refine gV ?_
  refine aY ?_
  refine gV ?_
  refine aY ?_
  refine gV ?_
  refine Jw ?_
  rw [e1]
  refine gV ?_
  by_cases h2:9223372036854775808<=q
  .have hG:=ret h2
   subst hG
   exact zW
  .have next:=next (by omega)
   have e2:(q:Int)*2 ^ Cx 1=((2*q:Nat):Int):=by
    show (q:Int)*2=_
    omega
   refine aF fun h=>?_
   refine gV ?_
   refine Ac (by decide) ?_
   refine gV ?_
   rw [e2]
   refine Fm (Ac (Ac (by decide) (Ac (by simp only [bY];omega) (by simp only [bI];omega))) ?_)
   refine gV ?_
   refine aY ?_
   rw [if_pos (by omega)] at e3
   refine gV ?_
   rw [e3]
   exact zW
 | false=>
  have h1:=(of_decide_eq_false ht.symm)
  have hv:(v:Int)=w+0:=hv
  have ew:w=(v:Int):=by omega
  subst ew
  by_cases h3:b<=v
  .rw [if_pos h3,if_pos h3] at next
   have e1:(v:Int)-(b:Int)=((v-b:Nat):Int):=by omega
   refine gV ?_
   refine aN ?_
   refine gV ?_
   refine aT fun h=>?_
   refine gV ?_
   rw [e1]
   refine aJ ?_
   refine gV ?_
   by_cases h2:9223372036854775808<=q
   .have hG:=ret h2
    subst hG
    exact zW
   .have next:=next (by omega)
    have e2:(q:Int)*2 ^ Cx 1=((2*q:Nat):Int):=by
     show (q:Int)*2=_
     omega
    refine aF fun h=>?_
    refine gV ?_
    refine Ac (by decide) ?_
    refine gV ?_
    rw [e2]
    refine Fm (Ac (Ac (by decide) (Ac (by simp only [bY];omega) (by simp only [bI];omega))) ?_)
    refine gV ?_
    refine aT fun h=>?_
    rw [if_pos (by omega)] at e3
    refine gV ?_
    rw [e3]
    exact zW
  .rw [if_neg h3,if_neg h3] at next
   refine gV ?_
   refine aN ?_
   refine gV ?_
   refine aF fun h=>?_
   refine gV ?_
   by_cases h2:9223372036854775808<=q
   .have hG:=ret h2
    subst hG
    exact zW
   .have next:=next (by omega)
    have e2:(q:Int)*2 ^ Cx 1=((2*q:Nat):Int):=by
     show (q:Int)*2=_
     omega
    refine aF fun h=>?_
    refine gV ?_
    refine Ac (by decide) ?_
    refine gV ?_
    rw [e2]
    refine Fm (Ac (Ac (by decide) (Ac (by simp only [bY];omega) (by simp only [bI];omega))) ?_)
    exact zW
theorem YZ (a b q k i:Nat) (top:Bool) (G:AVal) (ha:a<18446744073709551616) (hi:i<96) (hk:2*k<18446744073709551616) (tail:To E fRV (.pure (.ret G)) (.code (gH fRV 10) [(0,uu a),(1,uu b),(5,uu q),(6,uu (2*k+DP a i)),(7,ii i),(8,.bool top)] [])):
  To E fRV (.pure (.ret G)) (.code (gH fRV 8) [(0,uu a),(1,uu b),(5,uu q),(6,uu (2*k)),(7,ii i),(8,.bool top)] []):=by
 have e3:=Y4 k
 rw [if_pos hk] at e3
 by_cases h32:32<=i
 .have e7:(i:Int)-32=((i-32:Nat):Int):=by omega
  have e8:=XH a (i-32)
  have e9:eO .and .u64 ((a / 2 ^ (i-32):Nat):Int) 1=(DP a i:Int):=by
   unfold DP
   rw [aHV a h32]
   exact CH _ (Je (Dk ..) ha)
  have hbl:=SR a i
  generalize a / 2 ^ (i-32)=z at *
  generalize DP a i=t at *
  by_cases hb:t=1
  .subst hb
   have hbq:(((1:Nat):Int)==1)=true:=rfl
   have e10:((2*k:Nat):Int)+1=((2*k+1:Nat):Int):=rfl
   refine gV ?_
   refine aT fun h=>?_
   refine gV ?_
   rw [e7]
   refine aJ ?_
   refine gV ?_
   refine aJ ?_
   refine gV ?_
   rw [e8]
   refine Ac (Ac (by omega) (show Cx ((i-32:Nat):Int)<=64 by omega)) ?_
   refine gV ?_
   rw [e9]
   refine Ac (fun _=>?_) (fun h=>absurd (hbq.symm.trans h) (by decide))
   refine dP hE 12 ?_;conv=>whnf
   rw [e3]
   exact To.cutC [0,1,5,6,7,8] 0 rfl rfl rfl rfl tail
  .have hb:t=0:=by omega
   subst hb
   have hbq:(((0:Nat):Int)==1)=false:=rfl
   refine gV ?_
   refine aT fun h=>?_
   refine gV ?_
   rw [e7]
   refine aJ ?_
   refine gV ?_
   refine aJ ?_
   refine gV ?_
   rw [e8]
   refine Ac (Ac (by omega) (show Cx ((i-32:Nat):Int)<=64 by omega)) ?_
   refine gV ?_
   rw [e9]
   refine Ac (fun h=>absurd (hbq.symm.trans h) (by decide)) (fun _=>?_)
   refine dP hE 2 ?_;conv=>whnf
   exact To.cutC [0,1,5,6,7,8] 0 rfl rfl rfl rfl tail
 .have hz:DP a i=0:=aHU a (by omega)
  rw [hz,Dv] at tail
  refine gV ?_
  refine aF fun h=>?_
  refine gV ?_
  refine aN ?_
  refine dP hE 2 ?_;conv=>whnf
  exact To.cutC [0,1,5,6,7,8] 0 rfl rfl rfl rfl tail
theorem aC8 (a b:Nat) (ha:a<18446744073709551616) (hb:0<b) (hb2:b<18446744073709551616) (R:Nat) (hR:nT (a*4294967296 / b)=R):∀ (m q r:Nat),m<=96->r<b->q<18446744073709551616->a*4294967296 / 2 ^ m=q*b+r->
  To E fRV (.pure (.ret (uu R))) (.head (stk fRV 0) (ovF a b q r ((m:Int)-1)) []):=by
 intro m
 induction m with
 | zero=>
  intro q r hm hr hq he
  have hq2:=YX hr he
  rw [<-hq2,qP,if_pos hq] at hR
  subst hR
  unfold ovF
  refine gV ?_
  exact zW
 | succ i ih=>
  intro q r hm hr hq he
  have hbit:=SR a i
  obtain ⟨s1,s2⟩:=T6 hb hr he
  have hv:a*4294967296 / 2 ^ i % 2=DP a i:=rfl
  rw [hv] at s1 s2
  obtain ⟨v,hvd⟩:∃ v,v=2*r+DP a i:=⟨_,rfl⟩
  rw [<-hvd] at s1 s2
  have ret:9223372036854775808<=q->uu R=uu 18446744073709551615:=fun h=>by
   have:=YY hb he h
   rw [qP,if_neg (by omega)] at hR
   rw [<-hR]
  have next:q<9223372036854775808->To E fRV (.pure (.ret (uu R))) (.head (stk fRV 0) (ovF a b (if b<=v then 2*q+1 else 2*q) (if b<=v then v-b else v) ((i:Int)-1)) []):=fun h=>by
   by_cases hbv:b<=v
   .rw [if_pos hbv,if_pos hbv]
    exact ih (2*q+1) (v-b) (by omega) (s2 hbv).2 (by omega) (s2 hbv).1
   .rw [if_neg hbv,if_neg hbv]
    exact ih (2*q) v (by omega) (by omega) (by omega) (s1 (by omega))
  have ei:((i+1:Nat):Int)-1=(i:Int):=by omega
  unfold ovF
  rw [ei]
  by_cases h1:9223372036854775808<=r
  .have tail:=QQ a b q r v i true (2*(r-9223372036854775808)+DP a i:Nat) (uu R) hb hb2 hq (by omega) (by omega) (decide_eq_true (by omega)).symm (by rw [if_pos rfl];omega) (by omega) ret next
   have nb:=YZ a b q (r-9223372036854775808) i true (uu R) ha (by omega) (by omega) tail
   have e2:IntKind.wrap .u64 ((r:Int)*2 ^ (min (Cx 1) (IntKind.bits .u64)))=((2*(r-9223372036854775808):Nat):Int):=by
    show IntKind.wrap .u64 ((r:Int)*2)=_
    rw [wu]
    omega
   have et:decide ((9223372036854775808:Int)<=(r:Int))=true:=decide_eq_true (by omega)
   refine gV ?_
   refine aT fun h=>?_
   refine gV ?_
   rw [et]
   refine Ac (by decide) ?_
   refine gV ?_
   refine Jw ?_
   rw [e2]
   refine dP hE 7 ?_;conv=>whnf
   exact To.cutC [0,1,5,6,7,8] 0 rfl rfl rfl rfl nb
  .have tail:=QQ a b q r v i false (2*r+DP a i:Nat) (uu R) hb hb2 hq (by omega) (by omega) (decide_eq_false (by omega)).symm (by rw [if_neg (by decide)];omega) (by omega) ret next
   have nb:=YZ a b q r i false (uu R) ha (by omega) (by omega) tail
   have e2:(r:Int)*2 ^ Cx 1=((2*r:Nat):Int):=by
    show (r:Int)*2=_
    omega
   have et:decide ((9223372036854775808:Int)<=(r:Int))=false:=decide_eq_false (by omega)
   refine gV ?_
   refine aT fun h=>?_
   refine gV ?_
   rw [et]
   refine Ac (by decide) ?_
   refine gV ?_
   rw [e2]
   refine Fm (Ac (Ac (by decide) (Ac (by simp only [bY];omega) (by simp only [bI];omega))) ?_)
   refine dP hE 7 ?_;conv=>whnf
   exact To.cutC [0,1,5,6,7,8] 0 rfl rfl rfl rfl nb
theorem aC7 (a b:Nat) (ha:a<18446744073709551616) (hb:0<b) (hb2:b<18446744073709551616):aA Tryz.prog 255 [uu a,uu b] [] (.ret (uu (nT (a*4294967296 / b)))) []:=by
 have h0:a*4294967296 / 2 ^ 96=0*b+0:=by
  rw [Jv]
  .simp
  .have:(2:Nat) ^ 96=18446744073709551616*4294967296:=by decide
   omega
 have lp:=aC8 a b ha hb hb2 _ rfl 96 0 0 (by omega) hb (by omega) h0
 generalize nT (a*4294967296 / b)=R at *
 unfold ovF at lp
 refine cT (E:=E) (fn:=Tryz.f255) (g:=.pure _) fun _=>?_
 exact zW
theorem TY (a b:Int) (ha:a<=9223372036854775807) (hb:b<=9223372036854775807):aA Tryz.prog 171 [ii a,ii b] [] (.ret (uu (vL a b))) []:=by
 unfold vL wF
 by_cases h1:a<=0
 .rw [if_pos (by omega)]
  refine cT (E:=E) (fn:=Tryz.f171) (g:=.pure _) fun _=>?_
  exact zW
 .rw [if_neg (by omega)]
  by_cases h2:b<=0
  .rw [if_pos (by omega)]
   refine cT (E:=E) (fn:=Tryz.f171) (g:=.pure _) fun _=>?_
   exact zW
  .rw [if_neg (by omega)]
   have ho:=aC7 (max a 0).toNat (max b 0).toNat (by omega) (by omega) (by omega)
   have e1:(((max a 0).toNat:Nat):Int)=a:=by omega
   have e2:(((max b 0).toNat:Nat):Int)=b:=by omega
   generalize nT ((max a 0).toNat*4294967296 / (max b 0).toNat)=R at *
   unfold uu at ho
   rw [e1,e2] at ho
   refine cT (E:=E) (fn:=Tryz.f171) (g:=.pure _) fun _=>?_
   exact zW
def OX:List Nat:=[3037000499,3611622602,3938502375,4112874772,4202935002,4248701964,4271771996,4283353945,4289156689,4292061009,4293513906,4294240539,4294603902,4294785595,4294876444,4294921869]
abbrev IU:List AVal:=OX.map uu
def wB (f x i:Nat):Nat:=if f.testBit (15-i)=true then hJ x ((OX[i]?).getD 0) else x
def aHo (f:Nat):Nat:=(Dh 16).foldl (wB f) 4294967296
def jN (age half:Int):Nat:=
 if 63<(max age 0).toNat / (max half 1).toNat then 0 else aHo (vL (((max age 0).toNat % (max half 1).toNat:Nat):Int) ((max half 1).toNat:Int) / 65536) / 2 ^ ((max age 0).toNat / (max half 1).toNat)
theorem aE6 (f k:Nat):f &&& 2 ^ k=if f.testBit k=true then 2 ^ k else 0:=by
 refine Nat.eq_of_testBit_eq fun j=>?_
 rw [Nat.testBit_and,Kv]
 by_cases h:k=j
 .subst h
  cases f.testBit k<;>simp
 .cases f.testBit k<;>simp [h,Kv]
theorem OW {i:Nat} (h:i<16):∃ p:Nat,OX[i]? =some p/\p<=4294967296/\IU[i]? =some (uu p):=by
 have hl:OX.length=16:=rfl
 refine ⟨OX[i],Aa (by omega),?_,by show (OX.map uu)[i]? =_;rw [Bi,Aa (by omega)];rfl⟩
 have:∀ p∈OX,p<=4294967296:=by decide
 exact this _ (Bl _)
theorem ZN {x p:Nat} (hx:x<=4294967296) (hp:p<=4294967296):hJ x p<=4294967296:=by
 unfold hJ
 have h1:x*p<=4294967296*4294967296:=Fl hx hp
 generalize x*p=z at *
 rw [qP]
 split<;>omega
theorem HF {f x i:Nat} (hi:i<16) (hx:x<=4294967296):wB f x i<=4294967296:=by
 unfold wB
 obtain ⟨p,h1,h2,_⟩:=OW hi
 rw [h1]
 split
 .exact ZN hx h2
 .exact hx
theorem R0 (f:Nat):∀ (l:List Nat) (x:Nat),(∀ i∈l,i<16)->x<=4294967296->l.foldl (wB f) x<=4294967296
 | [],x,_,hx=>hx
 | i::l,x,h,hx=>R0 f l _ (fun j hj=>h j (Bj _ hj)) (HF (h i (Ar ..)) hx)
theorem RZ (f:Nat):aHo f<=4294967296:=R0 f _ _ (fun i hi=>Gv.1 hi) (Au _)
theorem R1 (age half:Int):jN age half<=4294967296:=by
 unfold jN
 split
 .omega
 .exact Da (Dk ..) (RZ _)
theorem qR (a b:Int):vL a b<18446744073709551616:=aEE _ _
theorem AL (f:Nat) {i:Nat} (h:i<16) (x:Nat):((Dh 16).drop i).foldl (wB f) x=((Dh 16).drop (i+1)).foldl (wB f) (wB f x i):=by
 rw [Ad (by simpa using h)]
 simp
theorem MT {i:Nat} (h:i<16):i=0\/i=1\/i=2\/i=3\/i=4\/i=5\/i=6\/i=7\/i=8\/i=9\/i=10\/i=11\/i=12\/i=13\/i=14\/i=15:=by omega
theorem MY:aA Tryz.prog 300 [] [] (.ret (.agg IU)) []:=by
 refine cT (E:=E) (fn:=Tryz.f300) (g:=.pure _) fun _=>?_
 exact zW
theorem aCF:aA Tryz.prog 172 [] [] (.ret (.agg IU)) []:=by
 refine cT (E:=E) (fn:=Tryz.f172) (g:=.pure _) fun _=>?_
 exact zW
noncomputable abbrev fDF:Func:=Tryz.f233
theorem aEG (A H f:Nat) (hf:f<18446744073709551616) (hA:A<9223372036854775808) (hH:0<H) (hH2:H<9223372036854775808) (hq:A / H<=63) (R:Nat):∀ (m i x:Nat),i+m=16->x<=4294967296->((Dh 16).drop i).foldl (wB f) x / 2 ^ (A / H)=R->
  To E fDF (.pure (.ret (uu R))) (.head (stk fDF 0) [(0,ii A),(1,ii H),(5,uu f),(6,uu x),(23,.agg IU),(24,ii i)] []):=by
 intro m
 induction m with
 | zero=>
  intro i x hi hx hR
  rw [Ae (by simp;omega)] at hR
  have hR:x / 2 ^ (A / H)=R:=hR
  have e1:=IR A H
  have e2:=XH x (A / H)
  rw [hR] at e2
  have hAH:A / H<=A:=Dk ..
  generalize A / H=q at *
  refine gV ?_
  refine aF fun h=>?_
  refine gV ?_
  refine Ac (by omega) ?_
  refine gV ?_
  rw [e1]
  refine aJ ?_
  refine gV ?_
  rw [e2]
  refine Ac (Ac (by omega) (show Cx (q:Int)<=64 by omega)) ?_
  refine gW (by first | exact hE | exact hEr _ _ | exact hEo _ _) ?_;conv=>whnf
 | succ m ih=>
  intro i x hi hx hR
  rw [AL f (by omega)] at hR
  have next:=ih (i+1) (wB f x i) (by omega) (HF (by omega) hx) hR
  obtain ⟨p,hp,hp2,hpt⟩:=OW (i:=i) (by omega)
  have e1:(15:Int)-(i:Int)=((15-i:Nat):Int):=by omega
  have e2:(1:Int)*2 ^ Cx ((15-i:Nat):Int)=((2 ^ (15-i):Nat):Int):=by
   have:=aCt 1 (15-i)
   rw [Fx] at this
   exact this
  have hpw:2 ^ (15-i)<=2 ^ 15:=Hc (by decide) (by omega)
  have e3:=wD .u64 f (2 ^ (15-i)) (by simp only [bI];omega) (by simp only [bI];omega)
  rw [aE6] at e3
  have hpp:0<2 ^ (15-i):=Ke (by decide)
  unfold wB at next
  rw [hp] at next
  have hm:=HD x p (by omega) (by omega)
  have hk:15-i<=15:=by omega
  generalize 15-i=k at *
  have go:∀ b,f.testBit k=b->To E fDF (.pure (.ret (uu R))) (.head (stk fDF 0) [(0,ii A),(1,ii H),(5,uu f),(6,uu x),(23,.agg IU),(24,ii i)] []):=fun b hb=>by
   cases b with
   | true=>
    rw [hb,if_pos rfl] at next
    rw [hb] at e3
    have nxt:To E fDF (.pure (.ret (uu R))) (.head (stk fDF 0) [(0,ii A),(1,ii H),(5,uu f),(6,uu (hJ x p)),(23,.agg IU),(24,ii ((i+1:Nat):Int))] []):=next
    clear next
    generalize hJ x p=y at *
    have e3:eO .and .u64 (f:Int) ((2 ^ k:Nat):Int)=((2 ^ k:Nat):Int):=by
     rw [e3]
     rfl
    generalize 2 ^ k=w at *
    have e4:((w:Int) !=0)=true:=by rw [bne_iff_ne];omega
    rcases MT (show i<16 by omega) with rfl | rfl | rfl | rfl | rfl | rfl | rfl | rfl | rfl | rfl | rfl | rfl | rfl | rfl | rfl | rfl
    all_goals cases hp
    all_goals
     refine gV ?_
     refine aT fun h=>?_
     refine gV ?_
     refine Ac (Ac (by decide) (by decide)) ?_
     refine gV ?_
     rw [e1]
     refine aJ ?_
     refine gV ?_
     refine Ac (by omega) ?_
     refine gV ?_
     rw [e2]
     refine Fm (Ac (Ac (show Cx (k:Int)<=64 by omega) (Ac (by simp only [bY];omega) (by simp only [bI];omega))) ?_)
     refine gV ?_
     rw [e3]
     exact zW
   | false=>
    rw [hb,if_neg (by decide)] at next
    rw [hb] at e3
    have e3:eO .and .u64 (f:Int) ((2 ^ k:Nat):Int)=0:=by
     rw [e3]
     rfl
    generalize 2 ^ k=w at *
    have e4:((0:Int) !=0)=false:=rfl
    rcases MT (show i<16 by omega) with rfl | rfl | rfl | rfl | rfl | rfl | rfl | rfl | rfl | rfl | rfl | rfl | rfl | rfl | rfl | rfl
    all_goals cases hp
    all_goals
     refine gV ?_
     refine aT fun h=>?_
     refine gV ?_
     refine Ac (Ac (by decide) (by decide)) ?_
     refine gV ?_
     rw [e1]
     refine aJ ?_
     refine gV ?_
     refine Ac (by omega) ?_
     refine gV ?_
     rw [e2]
     refine Fm (Ac (Ac (show Cx (k:Int)<=64 by omega) (Ac (by simp only [bY];omega) (by simp only [bI];omega))) ?_)
     refine gV ?_
     rw [e3]
     exact zW
  exact go _ rfl
theorem OF (age half:Int) (h1:age<=9223372036854775807) (h2:half<=9223372036854775807) (R:Nat) (hR:jN age half=R):aA Tryz.prog 233 [ii age,ii half] [] (.ret (uu R)) []:=by
 unfold jN at hR
 have eA:(((max age 0).toNat:Nat):Int)=max age 0:=by omega
 have eH:(((max half 1).toNat:Nat):Int)=max half 1:=by omega
 have hA:(max age 0).toNat<9223372036854775808:=by omega
 have hH:0<(max half 1).toNat:=by omega
 have hH2:(max half 1).toNat<9223372036854775808:=by omega
 generalize (max age 0).toNat=A at *
 generalize (max half 1).toNat=H at *
 have e1:=IR A H
 have e2:=aF1 A H
 have hAH:A / H<=A:=Dk ..
 have hml:=Kz A H
 by_cases hq:63<A / H
 .rw [if_pos hq] at hR
  subst hR
  generalize A / H=q at *
  refine cT (E:=E) (fn:=Tryz.f233) (g:=.pure _) fun _=>?_
  refine gV ?_
  rw [<-eA,<-eH]
  refine Ac (by omega) ?_
  refine gV ?_
  rw [e1]
  exact zW
 .rw [if_neg hq] at hR
  have hr:=yT ((A % H:Nat):Int) (H:Int) (by omega) (by omega)
  have hrl:=qR ((A % H:Nat):Int) (H:Int)
  generalize vL ((A % H:Nat):Int) (H:Int)=T at *
  have e3:=G6 T
  have lp:=aEG A H (T / 65536) (by omega) hA hH hH2 (by omega) R 16 0 4294967296 (by omega) (Au _) hR
  generalize T / 65536=f at *
  generalize A / H=q at *
  generalize A % H=r at *
  refine cT (E:=E) (fn:=Tryz.f233) (g:=.pure _) fun _=>?_
  refine gV ?_
  rw [<-eA,<-eH]
  refine Ac (by omega) ?_
  refine gV ?_
  rw [e1]
  refine aJ ?_
  refine gV ?_
  refine aF fun h=>?_
  refine gV ?_
  refine Ac (by omega) ?_
  refine gV ?_
  rw [e2]
  refine .pure _ [] hr ?_
  refine gV ?_
  rw [e3]
  refine Ac (by decide) ?_
  refine gV ?_
  refine .pure _ [] MY ?_
  exact zW
theorem UZ (age half:Int) (h1:age<=9223372036854775807) (h2:half<=9223372036854775807):aA Tryz.prog 233 [ii age,ii half] [] (.ret (uu (jN age half))) []:=OF age half h1 h2 _ rfl
noncomputable abbrev fRF:Func:=Tryz.f94
theorem aCT (q:Nat) (hq:q<9223372036854775808) (R:Nat):∀ (m y j:Nat),y<=m->j<=q->y / 2 ^ (q-j)=R->y<18446744073709551616->
  To E fRF (.pure (.ret (uu R))) (.head (stk fRF 1) [(5,ii q),(9,uu y),(11,ii j)] []):=by
 intro m
 induction m with
 | zero=>
  intro y j hy hj hR hy2
  have hy:y=0:=by omega
  subst hy
  rw [Nat.zero_div] at hR
  subst hR
  by_cases h1:j<q
  .refine gV ?_
   exact zW
  .refine gV ?_
   exact zW
 | succ m ih=>
  intro y j hy hj hR hy2
  have e1:Hb (y:Int) 2=((y / 2:Nat):Int):=IR y 2
  by_cases h1:j<q
  .by_cases h2:0<y
   .have next:=ih (y / 2) (j+1) (by omega) (by omega) (by
     rw [Jj,<-Nat.pow_succ',show (q-(j+1)).succ=q-j by omega]
     exact hR) (by omega)
    have hle:y / 2<=y:=Dk ..
    generalize y / 2=z at *
    refine gV ?_
    refine aT fun h=>?_
    repeat' first | (refine gN hE ?_;conv=>whnf) | (rw [e1];refine aJ ?_) | exact rfl | refine aY ?_ | refine aN ?_ | refine aT fun h=>?_ | refine aF fun h=>?_ | refine ⟨fun h=>?_,fun h=>?_⟩ | refine aJ ?_ | refine ⟨_,rfl,?_⟩ | refine aD ?_ | fail
    exact zW
   .have hy:y=0:=by omega
    subst hy
    rw [Nat.zero_div] at hR
    subst hR
    refine gV ?_
    exact zW
  .have hj:q-j=0:=by omega
   rw [hj,Nat.pow_zero,Hr] at hR
   subst hR
   refine gV ?_
   exact zW
theorem aCS (q f:Nat) (hf:f<18446744073709551616) (hq:q<9223372036854775808) (R:Nat):∀ (m i x:Nat),i+m=16->x<=4294967296->((Dh 16).drop i).foldl (wB f) x / 2 ^ q=R->
  To E fRF (.pure (.ret (uu R))) (.head (stk fRF 0) [(5,ii q),(7,uu f),(8,.ref 0 0),(9,uu x),(10,ii i)] [.cells 241 IU]):=by
 intro m
 induction m with
 | zero=>
  intro i x hi hx hR
  rw [Ae (by simp;omega)] at hR
  have hR:x / 2 ^ (q-0)=R:=hR
  have next:=aCT q hq R x x 0 (Au _) (by omega) hR (by omega)
  refine gV ?_
  exact zW
 | succ m ih=>
  intro i x hi hx hR
  rw [AL f (by omega)] at hR
  have next:=ih (i+1) (wB f x i) (by omega) (HF (by omega) hx) hR
  obtain ⟨p,hp,hp2,_⟩:=OW (i:=i) (by omega)
  have e1:(15:Int)-(i:Int)=((15-i:Nat):Int):=by omega
  have e2:=XH f (15-i)
  have e3:=CH (f / 2 ^ (15-i)) (Je (Dk ..) hf)
  unfold wB at next
  rw [hp,Nat.testBit_eq_decide_div_mod_eq] at next
  have hm:=ED x p (by omega) (by omega)
  have hk:15-i<=15:=by omega
  have hlt:f / 2 ^ (15-i)<=f:=Dk ..
  have hb2:f / 2 ^ (15-i) % 2<2:=Ea _ (by decide)
  generalize 15-i=k at *
  generalize f / 2 ^ k=z at *
  generalize z % 2=b at *
  by_cases hb:b=1
  .rw [decide_eq_true hb,if_pos rfl] at next
   have nxt:To E fRF (.pure (.ret (uu R))) (.head (stk fRF 0) [(5,ii q),(7,uu f),(8,.ref 0 0),(9,uu (hJ x p)),(10,ii ((i+1:Nat):Int))] [.cells 241 IU]):=next
   clear next
   generalize hJ x p=y at *
   have e4:((b:Int)==1)=true:=by rw [hb];rfl
   rcases MT (show i<16 by omega) with rfl | rfl | rfl | rfl | rfl | rfl | rfl | rfl | rfl | rfl | rfl | rfl | rfl | rfl | rfl | rfl
   all_goals cases hp
   all_goals
    refine gV ?_
    refine aT fun h=>?_
    refine gV ?_
    rw [e1]
    refine aJ ?_
    refine gV ?_
    refine aJ ?_
    refine gV ?_
    rw [e2]
    refine Ac (Ac (by omega) (show Cx (k:Int)<=64 by omega)) ?_
    refine gV ?_
    rw [e3]
    refine Ac (fun _=>?_) (fun h=>absurd (e4.symm.trans h) (by decide))
    refine gV ?_
    refine Ac (Ac (by decide) (by decide)) ?_
    exact zW
  .rw [decide_eq_false hb,if_neg (by decide)] at next
   have e4:((b:Int)==1)=false:=beq_eq_false_iff_ne.2 (by omega)
   refine gV ?_
   refine aT fun h=>?_
   refine gV ?_
   rw [e1]
   refine aJ ?_
   refine gV ?_
   refine aJ ?_
   refine gV ?_
   rw [e2]
   refine Ac (Ac (by omega) (show Cx (k:Int)<=64 by omega)) ?_
   refine gV ?_
   rw [e3]
   exact zW
theorem JE (age half:Int) (h1:age<=9223372036854775807) (h2:half<=9223372036854775807) (R:Nat) (hR:jN age half=R):aA Tryz.prog 94 [ii age,ii half] [] (.ret (uu R)) []:=by
 unfold jN at hR
 have eA:(((max age 0).toNat:Nat):Int)=max age 0:=by omega
 have eH:(((max half 1).toNat:Nat):Int)=max half 1:=by omega
 have hA:(max age 0).toNat<9223372036854775808:=by omega
 have hH:0<(max half 1).toNat:=by omega
 have hH2:(max half 1).toNat<9223372036854775808:=by omega
 generalize (max age 0).toNat=A at *
 generalize (max half 1).toNat=H at *
 have e1:=IR A H
 have e2:=aF1 A H
 have hAH:A / H<=A:=Dk ..
 have hml:=Kz A H
 have hR:aHo (vL ((A % H:Nat):Int) (H:Int) / 65536) / 2 ^ (A / H)=R:=by
  by_cases hq:63<A / H
  .rw [if_pos hq] at hR
   rw [<-hR]
   refine Jv (Je (RZ _) ?_)
   exact Eg (show 4294967296<2 ^ 63 by decide) (Hc (by decide) (by omega))
  .rw [if_neg hq] at hR
   exact hR
 have hr:=TY ((A % H:Nat):Int) (H:Int) (by omega) (by omega)
 have hrl:=qR ((A % H:Nat):Int) (H:Int)
 generalize vL ((A % H:Nat):Int) (H:Int)=T at *
 have e3:Hb (T:Int) 65536=((T / 65536:Nat):Int):=IR T 65536
 have lp:=aCS (A / H) (T / 65536) (by omega) (by omega) R 16 0 4294967296 (by omega) (Au _) hR
 have hT:T / 65536<=T:=Dk ..
 generalize T / 65536=f at *
 generalize A / H=q at *
 generalize A % H=r at *
 refine cT (E:=E) (fn:=Tryz.f94) (g:=.pure _) fun _=>?_
 refine gV ?_
 rw [<-eA,<-eH]
 refine Ac (by omega) ?_
 refine gV ?_
 rw [e1]
 refine aJ ?_
 refine gV ?_
 refine Ac (by omega) ?_
 refine gV ?_
 rw [e2]
 refine .pure _ [] hr ?_
 refine gV ?_
 refine Ac (by decide) ?_
 refine gV ?_
 rw [e3]
 refine aJ ?_
 refine gV ?_
 refine .pure _ [] aCF ?_
 exact zW
theorem NG (age half:Int) (h1:age<=9223372036854775807) (h2:half<=9223372036854775807):aA Tryz.prog 94 [ii age,ii half] [] (.ret (uu (jN age half))) []:=JE age half h1 h2 _ rfl
theorem TX (x:Nat) (age half:Int) (hx:x<18446744073709551616) (h1:age<=9223372036854775807) (h2:half<=9223372036854775807):aA Tryz.prog 40 [uu x,ii age,ii half] [] (.ret (uu (hJ x (jN age half)))) []:=by
 have h3:=NG age half h1 h2
 have hl:=R1 age half
 have h4:=ED x (jN age half) hx (by omega)
 generalize jN age half=f at *
 generalize hJ x f=y at *
 refine cT (E:=E) (fn:=Tryz.f40) (g:=.pure _) fun _=>?_
 exact zW
def VC (x:Nat) (n m:Int):Nat:=if 0<n then max x (vL n m) else x
def VD (u v:V3):Nat:=VC (VC (VC 0 u.a v.a) u.b v.b) u.c v.c
theorem HS {x:Nat} {n m:Int} (h:x<18446744073709551616):VC x n m<18446744073709551616:=by
 have:=qR n m
 unfold VC
 split
 .omega
 .exact h
theorem aED (u v:V3):VD u v<18446744073709551616:=HS (HS (HS (by decide)))
theorem aH6 (v u:V3) (M:Imm) (ob:Hs) (vs:List Value) (h:bV M ob vs [v.av,u.av]):(inR .i64 v.a/\inR .i64 v.b/\inR .i64 v.c)/\inR .i64 u.a/\inR .i64 u.b/\inR .i64 u.c:=by
 have hl:1<vs.length:=by rw [h.1];simp
 have h1:=h.2 0 _ v.av (Aa (by omega)) rfl
 have h2:=h.2 1 _ u.av (Aa hl) rfl
 exact ⟨⟨bS h1 0 _ rfl,bS h1 1 _ rfl,bS h1 2 _ rfl⟩,bS h2 0 _ rfl,bS h2 1 _ rfl,bS h2 2 _ rfl⟩
theorem aEC (u v:V3) (r:Nat) (hr:VD u v=r):aA Tryz.prog 242 [u.av,v.av] [] (.ret (uu r)) []:=by
  refine aA.get _ (aH6 u v) fun ⟨⟨⟨a1,a2⟩,⟨b1,b2⟩,⟨c1,c2⟩⟩,⟨d1,d2⟩,⟨e1,e2⟩,⟨f1,f2⟩⟩=>?_
  simp only [bY,bI] at a1 a2 b1 b2 c1 c2 d1 d2 e1 e2 f1 f2
  have h1:=yT u.a v.a (by omega) (by omega)
  have h2:=yT u.b v.b (by omega) (by omega)
  have h3:=yT u.c v.c (by omega) (by omega)
  have l1:=qR u.a v.a
  have l2:=qR u.b v.b
  have l3:=qR u.c v.c
  unfold VD VC at hr
  generalize vL u.a v.a=p at *
  generalize vL u.b v.b=q at *
  generalize vL u.c v.c=s at *
  by_cases p1:0<u.a<;>by_cases p2:0<u.b<;>by_cases p3:0<u.c<;>simp only [p1,p2,p3,if_true,if_false] at hr
  all_goals
   subst hr
   refine cT (E:=E) (fn:=Tryz.f242) (g:=.pure _) fun _=>?_
   refine gV ?_
   repeat' first
    | (refine gW (by first | exact hE | exact hEr _ _ | exact hEo _ _) ?_;conv=>whnf)
    | refine .pure _ [] h1 ?_
    | refine .pure _ [] h2 ?_
    | refine .pure _ [] h3 ?_
    | exact rfl
    | refine aY ?_
    | refine aN ?_
    | refine aT fun h=>?_
    | refine aF fun h=>?_
    | refine aJ ?_
    | refine Al _ (Ac rfl ?_)
    | refine Ac (by decide) ?_
    | fail
   all_goals exact congrArg (fun n=>Res.ret (AVal.int .u64 n)) (by omega)
def aFT (v:V3) (h:Hos):V3:=eF v h.c
def zU (c:Con):V3:=c.hs.foldl aFT V3.zero
noncomputable abbrev aID:Func:=Tryz.f239
theorem WU (l:List Hos) (hl:l.length<=1048576) (r:V3):∀ (m i:Nat) (v:V3),i+m=l.length->(l.drop i).foldl aFT v=r->
  To E aID (.pure (.ret r.av)) (.head (stk aID 0) [(2,.ref 0 0),(3,.ref 1 0),(7,.slice 6 (hav l) .no),(8,ii (l.length:Nat)),(9,ii i)] [.cells 34 V3.zero.cs,.cells 34 v.cs]):=by
 have hlen:(hav l).length=l.length:=by simp
 intro m
 induction m with
 | zero=>
  intro i v hi hr
  rw [Ae (by omega)] at hr
  have hr:v=r:=hr
  subst hr
  refine gV ?_
  exact zW
 | succ m ih=>
  intro i v hi hr
  have hlt:i<l.length:=by omega
  rw [Ad hlt,Av] at hr
  have next:=ih (i+1) _ (by omega) hr
  have get:=uD hlt
  generalize l[i]=x at get next
  have ha:=iY v x.c
  unfold aFT at next
  generalize eF v x.c=w at ha next
  refine gV ?_
  exact zW
theorem WT (c:Con) (hc:c.sm):aA Tryz.prog 239 [c.av] [] (.ret (zU c).av) []:=by
 have hlen:(hav c.hs).length=c.hs.length:=by simp
 have h1:=hc.hs
 have next:=WU c.hs (by omega) (zU c) c.hs.length 0 V3.zero (by omega) rfl
 generalize zU c=r at next
 rw [<-hlen] at next
 refine cT (E:=E) (fn:=Tryz.f239) (g:=.pure _) fun _=>?_
 repeat' first | (refine gN hE ?_;conv=>whnf) | exact rfl | refine aY ?_ | refine aN ?_ | refine aT fun h=>?_ | refine aF fun h=>?_ | refine ⟨fun h=>?_,fun h=>?_⟩ | refine aJ ?_ | refine ⟨_,rfl,?_⟩ | refine aD ?_ | fail
 refine To.part [2,3,7,8,9] [1,2] rfl rfl rfl ?_
 exact next
def dE {α:Type} (d:Nat->α->Nat):List α->Nat->List Nat
 | [],_=>[]
 | x::r,i=>d i x::dE d r (i+1)
theorem gT {α:Type} (d:Nat->α->Nat):∀ (l:List α) (i:Nat),(dE d l i).length=l.length
 | [],_=>rfl
 | _::r,i=>by simp [dE,gT d r (i+1)]
theorem rC {α:Type} (d:Nat->α->Nat):∀ (l:List α) (i k:Nat) (h:k<l.length),(dE d l i)[k]? =some (d (i+k) l[k])
 | [],_,k,h=>absurd h (by simp)
 | x::r,i,0,_=>rfl
 | x::r,i,k+1,h=>by
  have:=rC d r (i+1) k (by simpa using h)
  simp only [dE,Fs,List.getElem_cons_succ]
  rw [this,show i+1+k=i+(k+1) by omega]
theorem RQ {l:List Nat} {i:Nat} (h:i<l.length):(fv l)[i]? =some (uu l[i]):=by simp [fv,h]
def LtF (l:List Nat):Prop:=∀ x∈l,x<18446744073709551616
def rJ (c:Con) (i:Nat) (v:V3):Nat:=if aX c.ns (i:Int)=true then VD v (zU c) else 0
def oQ (c:Con) (l:List Rn):List Nat:=dE (rJ c) (ofL c l) 0
def tkS (sh:List Nat) (n half:Int) (i:Nat) (x:Nat):Nat:=if i<sh.length then kJ (hJ x (jN n half)) (hJ ((sh[i]?).getD 0) (ofF n)) else hJ x (jN n half)
def tkL (h sh:List Nat) (n half:Int):List Nat:=dE (tkS sh n half) h 0
def PQ (c:Con):List Nat:=dE (fun _ _=>0) c.ns 0
noncomputable abbrev aIB:Func:=Tryz.f240
abbrev aHc (c:Con):AVal:=.func (.func 241) [] [.ptr c.cs,.ptr (zU c).cs]
theorem aAN (c:Con)  (l:List V3) (hl:l.length<=1048576) (hm:∀ (i:Nat) (h:i<l.length),aA Tryz.prog 241 (ii i::l[i].av::[.ptr c.cs,.ptr (zU c).cs]) [] (.ret (uu ((rJ c) i l[i]))) []) (R:List Nat):∀ (m i:Nat) (acc:List Nat),i+m=l.length->acc.length=i->acc++dE (rJ c) (l.drop i) i=R->
  To (Eo [5] []) aIB (.pure (.ret (.slice 1 (fv R) .no))) (.head (stk aIB 0) [(1,aHc c),(5,.slice 1 (fv acc) (.own 0 0)),(8,.slice 3 (vav l) .no),(9,ii (l.length:Nat)),(10,ii i)] [.tail 0 1 78]):=by
 have hlen:(vav l).length=l.length:=by simp
 intro m
 induction m with
 | zero=>
  intro i acc hi ha hR
  rw [Ae (by omega)] at hR
  have hR:acc++[]=R:=hR
  rw [Bg] at hR
  subst hR
  refine gV ?_
  exact zW
 | succ m ih=>
  intro i acc hi ha hR
  have hlt:i<l.length:=by omega
  have get:=kD hlt
  have hc:=hm i hlt
  rw [Ad hlt] at hR
  generalize l[i]=x at get hc hR
  have hR:acc++((rJ c) i x::dE (rJ c) (l.drop (i+1)) (i+1))=R:=hR
  generalize (rJ c) i x=y at hc hR
  have next:=ih (i+1) (acc++[y]) (by omega) (by simp;omega) (by rw [Ai];exact hR)
  have e:fv (acc++[y])=fv acc++[uu y]:=by simp [fv]
  rw [e] at next
  have hla:(fv acc).length=acc.length:=by simp
  refine gV ?_
  exact zW
theorem aHr (c:Con)  (l:List V3) (hl:l.length<=1048576) (hm:∀ (i:Nat) (h:i<l.length),aA Tryz.prog 241 (ii i::l[i].av::[.ptr c.cs,.ptr (zU c).cs]) [] (.ret (uu ((rJ c) i l[i]))) []):
  aA Tryz.prog 240 [.slice 3 (vav l) .no,aHc c] [] (.ret (.slice 1 (fv (dE (rJ c) l 0)) .no)) []:=by
 have hlen:(vav l).length=l.length:=by simp
 have next:=aAN c l hl hm (dE (rJ c) l 0) l.length 0 [] (by omega) rfl rfl
 generalize dE (rJ c) l 0=R at next
 rw [<-hlen] at next
 refine cT (E:=(Eo [5] [])) (fn:=Tryz.f240) (g:=.pure _) fun _=>?_
 exact zW
noncomputable abbrev aIA:Func:=Tryz.f235
abbrev aHb (sh:List Nat) (n half:Int):AVal:=.func (.func 236) [] [.ptr [uu (jN n half)],.ptr [.slice 1 (fv sh) .no],.ptr [uu (ofF n)]]
theorem aAM (sh:List Nat) (n half:Int)  (l:List Nat) (hl:l.length<=1048576) (hm:∀ (i:Nat) (h:i<l.length),aA Tryz.prog 236 (ii i::uu l[i]::[.ptr [uu (jN n half)],.ptr [.slice 1 (fv sh) .no],.ptr [uu (ofF n)]]) [] (.ret (uu ((tkS sh n half) i l[i]))) []) (R:List Nat):∀ (m i:Nat) (acc:List Nat),i+m=l.length->acc.length=i->acc++dE (tkS sh n half) (l.drop i) i=R->
  To (Eo [5] []) aIA (.pure (.ret (.slice 1 (fv R) .no))) (.head (stk aIA 0) [(1,aHb sh n half),(5,.slice 1 (fv acc) (.own 0 0)),(8,.slice 1 (fv l) .no),(9,ii (l.length:Nat)),(10,ii i)] [.tail 0 1 78]):=by
 have hlen:(fv l).length=l.length:=by simp
 intro m
 induction m with
 | zero=>
  intro i acc hi ha hR
  rw [Ae (by omega)] at hR
  have hR:acc++[]=R:=hR
  rw [Bg] at hR
  subst hR
  refine gV ?_
  exact zW
 | succ m ih=>
  intro i acc hi ha hR
  have hlt:i<l.length:=by omega
  have get:=RQ hlt
  have hc:=hm i hlt
  rw [Ad hlt] at hR
  generalize l[i]=x at get hc hR
  have hR:acc++((tkS sh n half) i x::dE (tkS sh n half) (l.drop (i+1)) (i+1))=R:=hR
  generalize (tkS sh n half) i x=y at hc hR
  have next:=ih (i+1) (acc++[y]) (by omega) (by simp;omega) (by rw [Ai];exact hR)
  have e:fv (acc++[y])=fv acc++[uu y]:=by simp [fv]
  rw [e] at next
  have hla:(fv acc).length=acc.length:=by simp
  refine gV ?_
  exact zW
theorem aHq (sh:List Nat) (n half:Int)  (l:List Nat) (hl:l.length<=1048576) (hm:∀ (i:Nat) (h:i<l.length),aA Tryz.prog 236 (ii i::uu l[i]::[.ptr [uu (jN n half)],.ptr [.slice 1 (fv sh) .no],.ptr [uu (ofF n)]]) [] (.ret (uu ((tkS sh n half) i l[i]))) []):
  aA Tryz.prog 235 [.slice 1 (fv l) .no,aHb sh n half] [] (.ret (.slice 1 (fv (dE (tkS sh n half) l 0)) .no)) []:=by
 have hlen:(fv l).length=l.length:=by simp
 have next:=aAM sh n half l hl hm (dE (tkS sh n half) l 0) l.length 0 [] (by omega) rfl rfl
 generalize dE (tkS sh n half) l 0=R at next
 rw [<-hlen] at next
 refine cT (E:=(Eo [5] [])) (fn:=Tryz.f235) (g:=.pure _) fun _=>?_
 exact zW
noncomputable abbrev aIz:Func:=Tryz.f227
abbrev aHa:AVal:=.func (.func 228) [] []
theorem aAL   (l:List Nod) (hl:l.length<=1048576) (hm:∀ (i:Nat) (h:i<l.length),aA Tryz.prog 228 (ii i::l[i].av::[]) [] (.ret (uu ((fun _ _=>0) i l[i]))) []) (R:List Nat):∀ (m i:Nat) (acc:List Nat),i+m=l.length->acc.length=i->acc++dE (fun _ _=>0) (l.drop i) i=R->
  To (Eo [5] []) aIz (.pure (.ret (.slice 1 (fv R) .no))) (.head (stk aIz 0) [(1,aHa),(5,.slice 1 (fv acc) (.own 0 0)),(8,.slice 11 (nav l) .no),(9,ii (l.length:Nat)),(10,ii i)] [.tail 0 1 78]):=by
 have hlen:(nav l).length=l.length:=by simp
 intro m
 induction m with
 | zero=>
  intro i acc hi ha hR
  rw [Ae (by omega)] at hR
  have hR:acc++[]=R:=hR
  rw [Bg] at hR
  subst hR
  refine gV ?_
  exact zW
 | succ m ih=>
  intro i acc hi ha hR
  have hlt:i<l.length:=by omega
  have get:=fQ hlt
  have hc:=hm i hlt
  rw [Ad hlt] at hR
  generalize l[i]=x at get hc hR
  have hR:acc++((fun _ _=>0) i x::dE (fun _ _=>0) (l.drop (i+1)) (i+1))=R:=hR
  generalize (fun _ _=>0) i x=y at hc hR
  have next:=ih (i+1) (acc++[y]) (by omega) (by simp;omega) (by rw [Ai];exact hR)
  have e:fv (acc++[y])=fv acc++[uu y]:=by simp [fv]
  rw [e] at next
  have hla:(fv acc).length=acc.length:=by simp
  refine gV ?_
  exact zW
theorem aHp   (l:List Nod) (hl:l.length<=1048576) (hm:∀ (i:Nat) (h:i<l.length),aA Tryz.prog 228 (ii i::l[i].av::[]) [] (.ret (uu ((fun _ _=>0) i l[i]))) []):
  aA Tryz.prog 227 [.slice 11 (nav l) .no,aHa] [] (.ret (.slice 1 (fv (dE (fun _ _=>0) l 0)) .no)) []:=by
 have hlen:(nav l).length=l.length:=by simp
 have next:=aAL  l hl hm (dE (fun _ _=>0) l 0) l.length 0 [] (by omega) rfl rfl
 generalize dE (fun _ _=>0) l 0=R at next
 rw [<-hlen] at next
 refine cT (E:=(Eo [5] [])) (fn:=Tryz.f227) (g:=.pure _) fun _=>?_
 exact zW
theorem aHG (u v:V3):aA Tryz.prog 242 [u.av,v.av] [] (.ret (uu (VD u v))) []:=aEC u v _ rfl
theorem aCv (c:Con) (i:Nat) (v:V3):aA Tryz.prog 241 [ii i,v.av,.ptr c.cs,.ptr (zU c).cs] [] (.ret (uu (rJ c i v))) []:=by
 have h1:=kG c (i:Int)
 have h2:=aHG v (zU c)
 unfold rJ
 generalize zU c=a at *
 generalize VD v a=y at *
 cases hq:aX c.ns (i:Int) with
 | true=>
  rw [hq] at h1
  refine cT (E:=E) (fn:=Tryz.f241) (g:=.pure _) fun _=>?_
  exact zW
 | false=>
  rw [hq] at h1
  refine cT (E:=E) (fn:=Tryz.f241) (g:=.pure _) fun _=>?_
  exact zW
theorem TC (c:Con) (hc:c.sm) (l:List Rn) (hl:l.length<=1048576):aA Tryz.prog 158 [c.av,.slice 14 (rav l) .no] [] (.ret (.slice 1 (fv (oQ c l)) .no)) []:=by
 have h1:=WT c hc
 have h2:=QU c hc l hl
 have hn:=hc.ns
 have hlen:(ofL c l).length=c.ns.length:=by unfold ofL lN;simp
 have h3:=aHr c (ofL c l) (by omega) fun i h=>aCv c i _
 unfold oQ
 unfold aHc at h3
 generalize dE (rJ c) (ofL c l) 0=R at *
 generalize ofL c l=us at *
 generalize zU c=a at *
 refine cT (E:=E) (fn:=Tryz.f158) (g:=.pure _) fun _=>?_
 exact zW
theorem aF2 (sh:List Nat) (hs:LtF sh) (hsl:sh.length<=1048576) (n half:Int) (i x:Nat) (hx:x<18446744073709551616):aA Tryz.prog 236 [ii i,uu x,.ptr [uu (jN n half)],.ptr [.slice 1 (fv sh) .no],.ptr [uu (ofF n)]] [] (.ret (uu (tkS sh n half i x))) []:=by
 have hf:=R1 n half
 have ho:=NX n
 have h1:=HD x (jN n half) hx (by omega)
 have l1:=yN x (jN n half)
 have hlen:(fv sh).length=sh.length:=by simp
 unfold tkS
 generalize jN n half=f at *
 generalize ofF n=t at *
 generalize hJ x f=y at *
 by_cases hi:i<sh.length
 .rw [if_pos hi,Aa hi]
  have get:=RQ hi
  have hz:=hs _ (Bl hi)
  show aA _ _ _ _ (.ret (uu (kJ y (hJ sh[i] t)))) _
  generalize sh[i]=z at *
  have h2:=HD z t hz ho
  have l2:=yN z t
  generalize hJ z t=w at *
  have h3:=RY y w l1 l2
  generalize kJ y w=r at *
  refine cT (E:=E) (fn:=Tryz.f236) (g:=.pure _) fun _=>?_
  exact zW
 .rw [if_neg hi]
  refine cT (E:=E) (fn:=Tryz.f236) (g:=.pure _) fun _=>?_
  exact zW
theorem aCu (c:Con) (l:List Rn):LtF (oQ c l):=by
 intro x hx
 obtain ⟨k,hk,e⟩:=Iw hx
 unfold oQ at hk e
 rw [gT] at hk
 have:=rC (rJ c) (ofL c l) 0 k hk
 rw [Aa (by rw [gT];exact hk),e] at this
 cases this
 unfold rJ
 split
 .exact aED _ _
 .decide
theorem aCe (h sh:List Nat) (hh:LtF h) (hl:h.length<=1048576) (hs:LtF sh) (hsl:sh.length<=1048576) (n half:Int) (hn:n<=9223372036854775807) (hf:half<=9223372036854775807):aA Tryz.prog 157 [.slice 1 (fv h) .no,.slice 1 (fv sh) .no,ii n,ii half] [] (.ret (.slice 1 (fv (tkL h sh n half)) .no)) []:=by
 have h1:=UZ n half hn hf
 have h2:=OA n
 have h3:=aHq sh n half h hl fun i hi=>aF2 sh hs hsl n half i _ (hh _ (Bl hi))
 unfold tkL
 unfold aHb at h3
 generalize dE (tkS sh n half) h 0=R at *
 generalize jN n half=f at *
 generalize ofF n=t at *
 refine cT (E:=E) (fn:=Tryz.f157) (g:=.pure _) fun _=>?_
 exact zW
theorem aH3 (i:Nat) (x:Nod):aA Tryz.prog 228 [ii i,x.av] [] (.ret (uu 0)) []:=by
 refine cT (E:=E) (fn:=Tryz.f228) (g:=.pure _) fun _=>?_
 exact zW
theorem aBT (c:Con) (hc:c.sm):aA Tryz.prog 151 [c.av] [] (.ret (.slice 1 (fv (PQ c)) .no)) []:=by
 have hn:=hc.ns
 have h3:=aHp c.ns (by omega) fun i h=>aH3 i _
 unfold PQ
 unfold aHa at h3
 generalize dE (fun _ _=>0) c.ns 0=R at *
 refine cT (E:=E) (fn:=Tryz.f151) (g:=.pure _) fun _=>?_
 exact zW
def eM (a:Int) (l:List Pn):Int:=Q2.findP a (l.map Pn.q)
def cI (l:List Pn) (a:Int):List Pn:=if eM a l<0 then l else l.eraseIdx (eM a l).toNat
def jJ (l:List Pn) (p:Pn):List Pn:=l.take (Q2.putAt p.q (l.map Pn.q))++[p]++l.drop (Q2.putAt p.q (l.map Pn.q))
theorem aCg (l:List Pn) (a:Int):(cI l a).map Pn.q=Q2.takeP (l.map Pn.q) a:=by
 unfold cI Q2.takeP eM
 split
 .rfl
 .simp [Gb,Iz,Ja]
theorem YL (l:List Pn) (p:Pn):(jJ l p).map Pn.q=Q2.putP (l.map Pn.q) p.q:=by
 unfold jJ Q2.putP
 simp [Iz,Ja]
theorem YK (l:List Pn) (a:Int):aA Tryz.prog 122 [.slice 11 (pnv l) .no,ii a] [] (.ret (ii (eM a l))) []:=by
 have h:=Q2.find_ok (l.map Pn.q) a
 rw [rT] at h
 exact h
theorem GL (l:List Pn) (p:Pn) (hl:l.length<=1000000):aA Tryz.prog 153 [.slice 11 (pnv l) .no,p.av] [] (.ret (.slice 11 (pnv (jJ l p)) .no)) []:=by
 have h:=Q2.put_ok (l.map Pn.q) p.q (by simpa using hl)
 rw [<-YL,rT,rT] at h
 exact h
theorem pJ (l:List Pn) (a:Int) (hl:l.length<=1000000):aA Tryz.prog 74 [.slice 11 (pnv l) .no,ii a] [] (.ret (.tup [.slice 11 (pnv (cI l a)) .no,.bool (!decide (eM a l<0))])) []:=by
 have h:=Q2.take_ok (l.map Pn.q) a (by simpa using hl)
 rw [<-aCg,rT,rT] at h
 exact h
structure Ev where
 (k id n:Int)
 deriving DecidableEq
def Ev.cs (e:Ev):List AVal:=[ii e.k,ii e.id,ii e.n]
def Ev.av (e:Ev):AVal:=.agg e.cs
abbrev evv (l:List Ev):List AVal:=l.map Ev.av
structure Rd where
 s:Sta
 ev:List Ev
 head:Bool
 start:Int
def MO (r:Rd) (p:Pn) (fl:Int) (hs:List Int):Rd:=
 ⟨{r.s with pend:=cI r.s.pend p.g.id,run:=r.s.run++[⟨p.g,p.seq,p.at',r.s.now,fl,hs⟩]},r.ev++[⟨1,p.g.id,fl⟩],r.head,r.start⟩
def DR (r:Rd) (p:Pn):Option (Int×List Int)->Rd×Bool
 | none=>(r,false)
 | some (fl,hs)=>if (r.head&& !bmB r.s.now p.g r.start)=true then (r,false) else (MO r p fl hs,true)
def admR (r:Rd) (p:Pn):Rd×Bool:=DR r p (cK r.s.c r.s.run p.g)
def dB (run:List Rn) (r:Rd) (id:Int):Rd:=
 let x:=aW run (aP (fun x=>x.g.id==id) run 0).toNat
 ⟨{r.s with pend:=jJ r.s.pend x.pn},r.ev++[⟨2,id,0⟩],r.head,r.start⟩
def lX (r:Rd) (ids:List Int):Rd:=
 let q:=ids.foldl (dB r.s.run) r
 ⟨{q.s with run:=aC r.s.run ids},q.ev,q.head,q.start⟩
def X9 (r:Rd) (p:Pn):Option Int->Rd
 | none=>r
 | some n=>⟨r.s,r.ev++[⟨4,p.g.id,n⟩],true,n⟩
def aFn (r:Rd) (p:Pn):Option (List Int)->Rd
 | some ids=>(admR (lX r ids) p).1
 | none=>X9 r p (sF r.s.c r.s.now r.s.run p.g)
def cF (r:Rd) (p:Pn):Rd:=
 if (admR r p).2=true then (admR r p).1 else if r.head=true then r else aFn r p (fS r.s.c r.s.run p.g)
def gY (a b:Int):Int:=if a<b then -1 else if b<a then 1 else 0
def M3 (c:Con) (h:List Nat) (n:Int):Nat:=(bH c.ns n).foldl (fun x t=>if t<(h.length:Int) then kJ x ((h[t.toNat]?).getD 0) else x) 0
def aH4 (c:Con) (n:Int):Int:=if 0<=n/\n<(c.ns.length:Int) then max 1 (bX c.ns n).w else 1
def mZ (c:Con) (h:List Nat) (n:Int):Nat:=wF (M3 c h n) (ofF (aH4 c n))
def rL (c:Con) (h:List Nat) (x y:Int):Int:=if mZ c h x<mZ c h y then -1 else if mZ c h y<mZ c h x then 1 else gY x y
def gI (c:Con) (h:List Nat):List Int->List Int->Int
 | [],[]=>0
 | [],_::_=> -1
 | _::_,[]=>1
 | x::p,y::q=>if x=y then gI c h p q else rL c h x y
def rK (c:Con) (now:Int) (p:Pn):Bool:=decide (0<c.age)&&(decide (p.at'<=now)&&decide (c.age<=now-p.at'))
def ptC (s:Sta) (a b:Pn):Int:=gI s.c s.hist (cJ s.c.ns a.g.ten) (cJ s.c.ns b.g.ten)
def iK (s:Sta) (a b:Pn):Int:=
 if rK s.c s.now a=true then (if rK s.c s.now b=true then gY a.seq b.seq else -1)
 else if rK s.c s.now b=true then 1 else (if ptC s a b=0 then gY a.seq b.seq else ptC s a b)
def ltP (s:Sta) (a b:Pn):Bool:=decide (iK s a b<0)
theorem nX {a b:Int}:gY a b<0↔a<b:=by
 unfold gY
 repeat' split
 all_goals omega
theorem ZE {a b:Int}:gY a b=0↔a=b:=by
 unfold gY
 repeat' split
 all_goals omega
theorem aDf {a b:Int}:0<gY a b↔b<a:=by
 unfold gY
 repeat' split
 all_goals omega
theorem aDk {c:Con} {h:List Nat} {x y:Int}:rL c h x y<0↔mZ c h x<mZ c h y\/(mZ c h x=mZ c h y/\x<y):=by
 have:=nX (a:=x) (b:=y)
 unfold rL
 repeat' split
 all_goals omega
theorem aDl {c:Con} {h:List Nat} {x y:Int}:0<rL c h x y↔rL c h y x<0:=by
 have h1:=aDf (a:=x) (b:=y)
 have h2:=nX (a:=y) (b:=x)
 unfold rL
 repeat' split
 all_goals omega
theorem ZJ {c:Con} {h:List Nat} {x y:Int}:rL c h x y=0↔x=y:=by
 have h1:=ZE (a:=x) (b:=y)
 unfold rL
 constructor
 .intro hz
  repeat' split at hz
  all_goals omega
 .rintro rfl
  rw [if_neg (by omega),if_neg (by omega)]
  exact h1.2 rfl
theorem sB {c:Con} {h:List Nat}:∀ {p q:List Int},gI c h p q=0↔p=q
 | [],[]=>by simp [gI]
 | [],_::_=>by simp [gI]
 | _::_,[]=>by simp [gI]
 | x::p,y::q=>by
  unfold gI
  by_cases e:x=y
  .rw [if_pos e,sB]
   subst e
   simp
  .rw [if_neg e]
   have:=ZJ (c:=c) (h:=h) (x:=x) (y:=y)
   constructor
   .intro h1;exact absurd (this.1 h1) e
   .intro h1;cases h1;exact absurd rfl e
theorem P3 {c:Con} {h:List Nat}:∀ {p q:List Int},0<gI c h p q↔gI c h q p<0
 | [],[]=>by simp [gI]
 | [],_::_=>by simp [gI]
 | _::_,[]=>by simp [gI]
 | x::p,y::q=>by
  unfold gI
  by_cases e:x=y
  .subst e
   rw [if_pos rfl,if_pos rfl]
   exact P3
  .rw [if_neg e,if_neg (fun h=>e h.symm)]
   exact aDl
theorem aDi {c:Con} {h:List Nat} {x y z:Int} (h1:rL c h x y<0) (h2:rL c h y z<0):rL c h x z<0:=by
 rw [aDk] at *
 omega
theorem P2 {c:Con} {h:List Nat}:∀ {p q r:List Int},gI c h p q<0->gI c h q r<0->gI c h p r<0
 | [],[],_,h1,_=>by simp [gI] at h1
 | [],_::_,[],_,h2=>by simp [gI] at h2
 | [],_::_,_::_,_,_=>by simp [gI]
 | _::_,[],_,h1,_=>by simp [gI] at h1
 | _::_,_::_,[],_,h2=>by simp [gI] at h2
 | x::p,y::q,z::r,h1,h2=>by
  unfold gI at *
  by_cases e1:x=y
  .subst e1
   rw [if_pos rfl] at h1
   by_cases e2:x=z
   .rw [if_pos e2] at h2⊢
    exact P2 h1 h2
   .rw [if_neg e2] at h2⊢
    exact h2
  .rw [if_neg e1] at h1
   by_cases e2:y=z
   .subst e2
    rw [if_neg e1]
    exact h1
   .rw [if_neg e2] at h2
    have h3:=aDi h1 h2
    by_cases e3:x=z
    .subst e3
     have:=(ZJ (c:=c) (h:=h) (x:=x) (y:=x)).2 rfl
     omega
    .rw [if_neg e3]
     exact h3
theorem gG (s:Sta):Ord (ltP s) where
 irr a:=by
  have h1:=(sB (c:=s.c) (h:=s.hist) (p:=cJ s.c.ns a.g.ten)).2 rfl
  have h2:=(ZE (a:=a.seq) (b:=a.seq)).2 rfl
  unfold ltP iK ptC
  rw [h1,h2]
  split<;>simp
 tr a b c h1 h2:=by
  unfold ltP iK at *
  simp only [decide_eq_true_eq] at *
  have n1:=nX (a:=a.seq) (b:=b.seq)
  have n2:=nX (a:=b.seq) (b:=c.seq)
  have n3:=nX (a:=a.seq) (b:=c.seq)
  have t1:=sB (c:=s.c) (h:=s.hist) (p:=cJ s.c.ns a.g.ten) (q:=cJ s.c.ns b.g.ten)
  have t2:=sB (c:=s.c) (h:=s.hist) (p:=cJ s.c.ns b.g.ten) (q:=cJ s.c.ns c.g.ten)
  cases ha:rK s.c s.now a<;>cases hb:rK s.c s.now b<;>cases hc:rK s.c s.now c<;>simp only [ha,hb,hc,if_true,if_false,reduceIte,Db] at * <;>try omega
  by_cases z1:ptC s a b=0
  .have e1:=t1.1 z1
   rw [if_pos z1] at h1
   have e3:ptC s a c=ptC s b c:=by unfold ptC;rw [e1]
   rw [e3]
   split at h2
   .rename_i z;rw [if_pos z];omega
   .rename_i z;rw [if_neg z];exact h2
  .rw [if_neg z1] at h1
   by_cases z2:ptC s b c=0
   .have e2:=t2.1 z2
    have e3:ptC s a c=ptC s a b:=by unfold ptC;rw [e2]
    rw [e3,if_neg z1]
    exact h1
   .rw [if_neg z2] at h2
    have h3:ptC s a c<0:=P2 h1 h2
    rw [if_neg (by omega)]
    exact h3
theorem aDA (s:Sta) {a b:Pn} (h:a.seq≠b.seq):ltP s a b=true\/ltP s b a=true:=by
 unfold ltP iK
 simp only [decide_eq_true_eq]
 have n1:=nX (a:=a.seq) (b:=b.seq)
 have n2:=nX (a:=b.seq) (b:=a.seq)
 have t1:=sB (c:=s.c) (h:=s.hist) (p:=cJ s.c.ns a.g.ten) (q:=cJ s.c.ns b.g.ten)
 have t2:=sB (c:=s.c) (h:=s.hist) (p:=cJ s.c.ns b.g.ten) (q:=cJ s.c.ns a.g.ten)
 have t3:=P3 (c:=s.c) (h:=s.hist) (p:=cJ s.c.ns a.g.ten) (q:=cJ s.c.ns b.g.ten)
 cases ha:rK s.c s.now a<;>cases hb:rK s.c s.now b<;>simp only [if_true,if_false,reduceIte,Db]<;>try omega
 unfold ptC
 by_cases z:gI s.c s.hist (cJ s.c.ns a.g.ten) (cJ s.c.ns b.g.ten)=0
 .rw [if_pos z,if_pos (t2.2 (t1.1 z).symm)]
  omega
 .rw [if_neg z,if_neg (fun h=>z (t1.2 (t2.1 h).symm))]
  omega
def W7 (h:List Nat) (x:Nat) (t:Int):Nat:=if t<(h.length:Int) then kJ x ((h[t.toNat]?).getD 0) else x
theorem P8 {h:List Nat} {x:Nat} {t:Int} (hx:x<18446744073709551616):W7 h x t<18446744073709551616:=by
 unfold W7
 split
 .exact zC _ _
 .exact hx
theorem aCl (c:Con) (h:List Nat) (n:Int):M3 c h n<18446744073709551616:=by
 have go:∀ (l:List Int) (x:Nat),x<18446744073709551616->l.foldl (W7 h) x<18446744073709551616:=fun l=>by
  induction l with
  | nil=>exact fun x hx=>hx
  | cons a l ih=>exact fun x hx=>ih _ (P8 hx)
 exact go _ _ (by decide)
noncomputable abbrev aEc:Func:=Tryz.f377
theorem U0 (h:List Nat) (hh:LtF h) (hl:h.length<=1048576) (l:List Int) (hb:∀ t∈l,0<=t) (hll:l.length<=1048576) (R:Nat):∀ (m i x:Nat),i+m=l.length->x<18446744073709551616->(l.drop i).foldl (W7 h) x=R->
  To E aEc (.pure (.ret (uu R))) (.head (stk aEc 0) [(1,.slice 1 (fv h) .no),(7,uu x),(12,.slice 1 (iv l) .no),(13,ii (l.length:Nat)),(14,ii i)] []):=by
 have hlen:(iv l).length=l.length:=by simp
 have hlh:(fv h).length=h.length:=by simp
 intro m
 induction m with
 | zero=>
  intro i x hi hx hR
  rw [Ae (by omega)] at hR
  have hR:x=R:=hR
  subst hR
  refine gV ?_
  exact zW
 | succ m ih=>
  intro i x hi hx hR
  have hlt:i<l.length:=by omega
  have get:=dO hlt
  have ht0:=hb _ (Bl hlt)
  rw [Ad hlt,Av] at hR
  have next:=ih (i+1) _ (by omega) (P8 hx) hR
  clear hR ih
  generalize l[i]=t at *
  unfold W7 at next
  by_cases h1:t<(h.length:Int)
  .rw [if_pos h1] at next
   have hti:t.toNat<h.length:=by omega
   have hn:t=(t.toNat:Int):=by omega
   have g2:=RQ hti
   have hz:=hh _ (Bl hti)
   rw [Aa hti] at next
   have next:To E aEc (.pure (.ret (uu R))) (.head (stk aEc 0) [(1,.slice 1 (fv h) .no),(7,uu (kJ x h[t.toNat])),(12,.slice 1 (iv l) .no),(13,ii (l.length:Nat)),(14,ii ((i:Int)+1))] []):=next
   generalize h[t.toNat]=z at *
   have ha:=RY x z hx hz
   generalize kJ x z=y at *
   refine gV ?_
   exact zW
  .rw [if_neg h1] at next
   refine gV ?_
   exact zW
theorem aEb (c:Con) (hc:c.sm) (h:List Nat) (hh:LtF h) (hl:h.length<=1048576) (n:Int):aA Tryz.prog 377 [c.av,.slice 1 (fv h) .no,ii n] [] (.ret (uu (M3 c h n))) []:=by
 have hb:=ME c hc n
 have hb0:∀ t∈bH c.ns n,0<=t:=fun t ht=>(kK c n t ht).1
 have hbl:(bH c.ns n).length<=1048576:=rE c hc n
 have next:=U0 h hh hl (bH c.ns n) hb0 hbl (M3 c h n) (bH c.ns n).length 0 0 (by omega) (by decide) rfl
 generalize M3 c h n=R at *
 generalize bH c.ns n=l at *
 have hlen:(iv l).length=l.length:=by simp
 try rw [<-hlen] at next
 refine cT (E:=E) (fn:=Tryz.f377) (g:=.pure _) fun _=>?_
 exact zW
end Go.Proofs.YtpomiadgghchnaaGreat
namespace Go.AW
open Go.RowKit
def KE:BInv:=⟨fun _ bs _=>bs=[],fun _ _ _ h=>h⟩
theorem QT:∀ (l:List AObj) (k:Nat) (h:k<l.length),aE l k=l[k]
 | _::_,0,_=>rfl
 | _::r,k+1,h=>QT r k (by simpa using h)
theorem Mem.bury {M:Imm} {ob:Hs} {obs:List AObj} {w:World} (hm:Mem M ob obs w) {k n:Nat} {hs0:List Value} (hk:obs[k]? =some .dead) (hh:ob[k]? =some hs0) (hl:hs0.length=n+1):
  Mem M (ob.set k (hs0++[eQ []])) (obs.set k (.bun (n+1) KE)) w/\Ext M ob obs w M (ob.set k (hs0++[eQ []])) (obs.set k (.bun (n+1) KE)) w/\cW ob (ob.set k (hs0++[eQ []])):=by
 have hkl:k<obs.length:=(Ab.1 hk).1
 have hkb:k<ob.length:=(Ab.1 hh).1
 have hle:cW ob (ob.set k (hs0++[eQ []])):=fun j hs hj=>by
  by_cases e:k=j
  .subst e
   rw [hh] at hj
   cases hj
   exact ⟨_,Ao hkb,List.prefix_append _ _⟩
  .exact ⟨hs,by rw [Ax e];exact hj,Cn _⟩
 have hblk:blk (hs0++[eQ []])=[]:=yX (by simp)
 have al:∀ {j b:Nat},aH (ob.set k (hs0++[eQ []])) (obs.set k (.bun (n+1) KE)) j b->aH ob obs j b:=fun {j b} ⟨c,hs,e1,e2,e3,e4⟩=>by
  by_cases e:k=j
  .subst e
   rw [Ao hkb] at e3
   cases e3
   rw [hblk] at e4
   cases e4
  .rw [Ax e] at e1 e3
   exact ⟨c,hs,e1,e2,e3,e4⟩
 have hok:∀ (j:Nat) c,(obs.set k (.bun (n+1) KE))[j]? =some c->∃ hs,(ob.set k (hs0++[eQ []]))[j]? =some hs/\gD M (ob.set k (hs0++[eQ []])) w hs c:=fun j c hj=>by
  by_cases e:k=j
  .subst e
   rw [Ao hkl] at hj
   cases hj
   refine ⟨_,Ao hkb,by simp [hl],[],?_,fun b hb=>(by cases hb),rfl⟩
   rw [Aj (by omega),hl]
   simp
  .rw [Ax e] at hj
   obtain ⟨hs,e1,e2⟩:=hm.obj j c hj
   refine ⟨hs,by rw [Ax e];exact e1,?_⟩
   cases c with
   | cells T' cs'=>
    obtain ⟨b,q1,q2,cv,q3,q4,q5,q6⟩:=e2
    exact ⟨b,q1,q2,cv,q3,q4,q5,fun n v a hv ha=>(q6 n v a hv ha).mono (fun _ _ _ h=>h) hle⟩
   | _=>exact e2
 exact ⟨⟨hm.imm,by simp [hm.len],hok,fun j b ha=>hm.lt j b (al ha),fun j j' b h1 h2=>hm.inj j j' b (al h1) (al h2)⟩,⟨fun _ _ _ h=>h,fun _ _ _ h=>.inl h,hle,rfl,rfl,rfl,Au _,fun _ _ _=>rfl,fun j b ha=>.inl ⟨j,al ha⟩⟩,hle⟩
theorem To.bury {E:Env} {fn:Func} {g:Goal} {st:List KI} {fr:List (Nat×AVal)} {obs:List AObj} (k:Nat) (hk:aE obs k= .dead) (hn:Ey k g.n0=true) (h:∀ n,To E fn g (.code st fr (bG obs k (.bun (n+1) KE)))) (hstr:g.strict=true:=by rfl):To E fn g (.code st fr obs):=
 .mk fun hok M0 ob0 obs0 w0 a w hst hs=>by
  obtain ⟨M,ob,hx,hm,hfr,r1,r2,r3⟩:=hs
  have hk0:k<ob0.length:=by rw [hst.1];simpa [Fq] using hn
  obtain ⟨hs,e1,e2⟩:=hx.hs k _ (Aa hk0)
  have hl0:=hst.2 hstr _ (Bl hk0)
  obtain ⟨n,hn⟩:∃ n,hs.length=n+1:=⟨hs.length-1,by have:=e2.length_le;omega⟩
  have hkd:obs[k]? =some .dead:=by
   have hlt:k<obs.length:=by omega
   rw [Aa hlt]
   rw [<-QT obs k hlt,hk]
  obtain ⟨m1,m2,m3⟩:=hm.bury hkd e1 hn
  refine (h n).rec fun h=>h hok M0 ob0 obs0 w0 a w hst ?_
  rw [aO hkd]
  exact ⟨M,_,hx.trans m2,m1,fun t=>(hfr t).mono (fun _ _ _ h=>h) m3,r1,r2.mono (fun _ _ _ h=>h) m3,by simp;omega⟩
end Go.AW
namespace Go.Proofs.YtpomiadgghchnaaGreat
open Go Go.AW Go.Proofs
set_option maxRecDepth 10000
def aJb (f:AVal):List (Nat×AVal):=[(2,.ref 1 0),(6,f)]
def MK (acc:List Int) (g:Nat) (o:AObj):List AObj:=[.dead,.cells 47 [.row 2 g],.row g 1 3 (iv acc),o]
theorem MU {i:Nat} (h:i<=12):i=0\/i=1\/i=2\/i=3\/i=4\/i=5\/i=6\/i=7\/i=8\/i=9\/i=10\/i=11\/i=12:=by omega
theorem aBC (f:AVal) (acc:List Int) (x:Int) (g:Nat) (hg:g<=12) (hl:acc.length=g) (l:Nat) (R:Loop) (hr:R.state= .ready):
  To (El l [] [] []) oV (.keep 4 (.ret (.bool true)) (MK (acc++[x]) (g+1) (.bun 0 (bP l (busy R))))) (.code [.code (rfA oV),.beginR,.code (rfB oV)] (gK (aJb f) 7 (ii x)) (MK acc g (.bun 0 (bP l R)))):=by
 rcases MU hg with rfl | rfl | rfl | rfl | rfl | rfl | rfl | rfl | rfl | rfl | rfl | rfl | rfl
 all_goals
  have hla:(iv acc).length=acc.length:=by simp
  have e:iv (acc++[x])=iv acc++[ii x]:=by simp
  unfold MK
  rw [e]
  refine gV ?_
  refine To.beginR (k:=3) (gg:=0) rfl rfl hr ?_
  exact zW
def auJ (f:AVal) (ob0:Hs) (R:Loop) (l:Nat) (acc:List Int):BInv:=iV ob0 (aJb f) R (MK acc acc.length (.bun 0 (bP l R)))
theorem aBB {qa qb:Code} (f:AVal) (ob0:Hs) (l:Nat) (R:Loop) (acc:List Int) (x:Int) (hl:acc.length<=12) (hR:RecOK oV 7 qa qb R) (ha:rfA oV=qa) (hb:rfB oV=qb):
  bK Tryz.prog (.yield l) [ii x] [.bun 0 (auJ f ob0 R l acc)] (.ret (.bool true)) [.bun 1 (auJ f ob0 R l (acc++[x]))]:=by
 subst ha hb
 unfold auJ
 have rd:=fun g (hg:g<=12) h=>aBC f acc x g hg h l R hR.ready
 have e:(acc++[x]).length=acc.length+1:=by simp
 obtain ⟨g,hq⟩:∃ g,acc.length=g:=⟨_,rfl⟩
 rw [e]
 rw [hq] at hl⊢
 rcases MU hl with rfl | rfl | rfl | rfl | rfl | rfl | rfl | rfl | rfl | rfl | rfl | rfl | rfl
 all_goals
  exact fY (E:=Ex [] [] []) (fn:=oV) (k:=3) (n:=4) (p:=7) (gg:=0) (L':=MK (acc++[x]) _ (.bun 0 (bP l (busy R)))) (b:=true) hR.params hR.ready hR.pend hR.assign hR.body hR.size rfl rfl rfl rfl rfl rfl rfl fun _=>rd _ hl hq
theorem DU {P:Program} {l B:Nat} (F:List Int->BInv) (h:∀ (acc:List Int) x,acc.length<=B->bK P (.yield l) [ii x] [.bun 0 (F acc)] (.ret (.bool true)) [.bun 1 (F (acc++[x]))]):∀ (xs acc:List Int),acc.length+xs.length<=B+1->Ylds P l xs (F acc) (F (acc++xs)) true
 | [],acc,_=>by rw [Bg];exact .nil _
 | x::r,acc,hl=>by
  have:=DU F h r (acc++[x]) (by simp at hl⊢;omega)
  rw [Ai] at this
  exact .next x r _ _ _ _ (h acc x (by simp at hl;omega)) this
abbrev aB4 (c:Con):AVal:=.func (.func 333) [] [.ref 0 0,.ptr c.cs]
theorem aE5 (c:Con) (hc:c.sm) (n:Int) (hb:(upL c.ns n).length<=12):aA Tryz.prog 374 [.nilslice,aB4 c] [.cells 3 [ii n]] (.ret (.row 1 0)) [.bun 1 KE,.row 0 1 3 (iv (upL c.ns n))]:=by
 have hnl:((nav c.ns).length:Int)<=9223372036854775807:=by have:=hc.ns;simp only [Cj];omega
 refine cT (E:=E) (fn:=Tryz.f374) (g:=.full 1 _ _) fun _=>?_
 refine gV ?_
 refine To.cutC [2,6] 2 rfl rfl rfl rfl ?_
 refine To.mapO (aDm 1) (KC 1) ?_
 refine To.beginRow 1 0 3 rfl rfl ?_
 refine To.range [0] rfl rfl (fun _ _=>by rfl) rfl (fun _ _=>rfl) rfl fun l ob0 R hst hR=>?_
 have hyl:=DU (P:=Tryz.prog) (l:=l) (B:=12) (auJ (aB4 c) ob0 R l) (fun acc x hl=>aBB (aB4 c) ob0 l R acc x hl hR rfl rfl) (upL c.ns n) [] (by simp;omega)
 rw [Bp] at hyl
 unfold auJ at hyl
 have hl0:([]:List Int).length=0:=rfl
 rw [hl0] at hyl
 obtain ⟨q,hq⟩:∃ q,(upL c.ns n).length=q:=⟨_,rfl⟩
 rw [hq] at hyl hb
 rcases MU hb with rfl | rfl | rfl | rfl | rfl | rfl | rfl | rfl | rfl | rfl | rfl | rfl | rfl
 all_goals
  obtain ⟨m,g',hup⟩:=FZ l c n _ _ true hnl hyl
  refine ⟨_,true,_,[.cells 3 [m]],g',hup,rfl,rfl,?_⟩
  refine To.bury 0 rfl rfl fun z=>?_
  refine gV ?_
  refine ⟨[],[0,2],⟨rfl,rfl⟩,rfl,?_⟩
  show [AObj.bun (match gm 1 0 (z+1) (z+1) with | some g=>g | none=>0) KE,_]=_
  rw [lV]
  rfl
theorem aEP (c:Con) (hc:c.sm) (n:Int) (hb:(upL c.ns n).length<=12):aA Tryz.prog 344 [aB4 c] [.cells 3 [ii n]] (.ret (.row 1 0)) [.bun 1 KE,.row 0 1 3 (iv (upL c.ns n))]:=by
 have h:=aE5 c hc n hb
 generalize upL c.ns n=l at h
 refine cT (E:=E) (fn:=Tryz.f344) (g:=.full 1 _ _) fun _=>?_
 exact zW
theorem QD {α:Type} (A M B:List α) (x y:α):((A++x::(M++[y])++B).set A.length y).set (A.length+M.length+1) x=A++[y]++M++x::B:=by
 have e:A++x::(M++[y])++B=A++x::(M++y::B):=by simp
 rw [e,Hz _ _ (by omega),Hz _ _ (by omega)]
 rw [show A.length-A.length=0 by omega,show A.length+M.length+1-A.length=M.length+1 by omega]
 simp
noncomputable abbrev aEd:Func:=Tryz.f345
theorem X8 (R:List Int):∀ (n:Nat) (A M B:List Int),M.length<=n->A.length+M.length+B.length<=1048576->A++M.reverse++B=R->
  To (Er [] [14,16,17]) aEd (.full 1 (.ret (.tup [])) [.row 0 1 3 (iv R)]) (.head (stk aEd 0) [(0,.row 0 0),(2,ii (A.length:Nat)),(3,ii ((A.length:Int)+M.length-1))] [.row 0 1 3 (iv (A++M++B))]):=by
 intro n
 induction n with
 | zero=>
  intro A M B hM hl hR
  have hM:M=[]:=Br.1 (by omega)
  subst hM
  have hR:A++[]++B=R:=hR
  rw [hR]
  have e:(([]:List Int).length:Int)=0:=rfl
  rw [e]
  refine gV ?_
  exact zW
 | succ n ih=>
  intro A M B hM hl hR
  by_cases h2:M.length<2
  .have hr:M.reverse=M:=by
    match M,h2 with
    | [],_=>rfl
    | [_],_=>rfl
   rw [hr] at hR
   rw [hR]
   refine gV ?_
   exact zW
  .obtain ⟨x,M',y,rfl⟩:∃ x M' y,M=x::(M'++[y]):=by
    match M,h2 with
    | x::r,h2=>
     have hne:r≠[]:=fun e=>by subst e;simp at h2
     exact ⟨x,r.dropLast,r.getLast hne,by rw [Kn]⟩
   have next:=ih (A++[y]) M' (x::B) (by simp at hM;omega) (by simp at hl⊢;omega) (by rw [<-hR];simp)
   have gi:(iv (A++x::(M'++[y])++B))[A.length]? =some (ii x):=by simp
   have gj:(iv (A++x::(M'++[y])++B))[A.length+M'.length+1]? =some (ii y):=by
    rw [show A++x::(M'++[y])++B=(A++x::M')++y::B by simp]
    simp only [Bu]
    rw [Aj (by simp;omega)]
    simp only [Cj,Aw,Bo,Bk]
    rw [show A.length+M'.length+1-(A.length+(M'.length+1))=0 by omega]
    rfl
   have ej:((A.length:Int)+((x::(M'++[y])).length:Nat)-1)=((A.length+M'.length+1:Nat):Int):=by simp;omega
   have hln:(iv (A++x::(M'++[y])++B)).length=A.length+M'.length+2+B.length:=by simp;omega
   have es:((iv (A++x::(M'++[y])++B)).set A.length (ii y)).set (A.length+M'.length+1) (ii x)=iv (A++[y]++M'++x::B):=by
    rw [<-QD A M' B x y]
    simp only [iv,Gq]
   have en:((A++[y]).length:Int)=(A.length:Int)+1:=by simp
   have en2:(A.length:Int)+1+(M'.length:Int)-1=((A.length+M'.length+1:Nat):Int)-1:=by omega
   rw [ej]
   rw [en,en2,<-es] at next
   generalize iv (A++x::(M'++[y])++B)=L at *
   have hl2:A.length+M'.length+1<=1048576:=by simp at hl;omega
   obtain ⟨j,hj⟩:∃ j,j=A.length+M'.length+1:=⟨_,rfl⟩
   have hij:A.length<j:=by omega
   have hjl:j<L.length:=by omega
   have hj2:j<=1048576:=by omega
   rw [<-hj] at gj next⊢
   clear hl hl2 hln ej es en en2 hj
   generalize A.length=i at *
   refine gV ?_
   refine aT fun h=>?_
   repeat' first | (refine gN (hEr [] [14,16,17]) ?_;conv=>whnf) | refine ⟨j,rfl,?_⟩ | refine ⟨_,gj,?_⟩ | refine ⟨i,rfl,?_⟩ | refine ⟨_,gi,?_⟩ | refine Ac (by rw [Dp];omega) ?_ | exact rfl | refine aY ?_ | refine aN ?_ | refine aT fun h=>?_ | refine aF fun h=>?_ | refine ⟨fun h=>?_,fun h=>?_⟩ | refine aJ ?_ | refine ⟨_,rfl,?_⟩ | refine aD ?_ | fail
   exact zW
theorem aGs (l:List Int) (hl:l.length<=1048576):aA Tryz.prog 345 [.row 0 0] [.row 0 1 3 (iv l)] (.ret (.tup [])) [.row 0 1 3 (iv l.reverse)]:=by
 have hlen:(iv l).length=l.length:=by simp
 have next:=X8 l.reverse l.length [] l [] (Au _) (by simp;omega) (by simp)
 have e:((0:Nat):Int)+(l.length:Int)-1=((iv l).length:Int)-1:=by rw [hlen];omega
 have next:To (Er [] [14,16,17]) aEd (.full 1 (.ret (.tup [])) [.row 0 1 3 (iv l.reverse)]) (.head (stk aEd 0) [(0,.row 0 0),(2,ii 0),(3,ii (((0:Nat):Int)+l.length-1))] [.row 0 1 3 (iv (l++[]))]):=next
 rw [e,Bg] at next
 refine cT (E:=(Er [] [14,16,17])) (fn:=Tryz.f345) (g:=.full 1 _ _) fun _=>?_
 refine gV ?_
 refine Fm (Ac (Ac (by simp only [bY];rw [hlen];omega) (by simp only [bI];rw [hlen];omega)) ?_)
 exact zW
theorem QP (c:Con) (hc:c.sm) (n:Int) (hb:(upL c.ns n).length<=12):aA Tryz.prog 305 [c.av,ii n] [] (.ret (.slice 1 (iv (upL c.ns n).reverse) .no)) []:=by
 have h1:=PU c n
 have h2:=aEP c hc n hb
 have h3:=aGs (upL c.ns n) (by omega)
 generalize upL c.ns n=l at *
 refine cT (E:=E) (fn:=Tryz.f305) (g:=.pure _) fun _=>?_
 refine gV ?_
 refine .pure _ [.cells 3 [ii n]] h1 ?_
 exact zW
theorem KU (c:Con) (hc:c.sm) (h:List Nat) (hh:LtF h) (hl:h.length<=1048576) (n:Int):aA Tryz.prog 347 [c.av,.slice 1 (fv h) .no,ii n] [] (.ret (uu (mZ c h n))) []:=by
  have h1:=aEb c hc h hh hl n
  have l1:=aCl c h n
  have hcn:=hc.ns
  have hln:(nav c.ns).length=c.ns.length:=by simp
  unfold mZ
  unfold aH4 at *
  by_cases hn:0<=n/\n<(c.ns.length:Int)
  .rw [if_pos hn]
   have hni:n.toNat<c.ns.length:=by omega
   have hn2:n=(n.toNat:Int):=by omega
   have get:=tP (c:=c) (n:=n) ⟨by omega,hni⟩
   generalize bX c.ns n=x at *
   have h2:=OA (max 1 x.w)
   have l2:=NX (max 1 x.w)
   generalize M3 c h n=p at *
   generalize ofF (max 1 x.w)=q at *
   have h3:=RU p q l1 l2
   generalize wF p q=r at *
   refine cT (E:=E) (fn:=Tryz.f347) (g:=.pure _) fun _=>?_
   exact zW
  .rw [if_neg hn]
   have h2:=OA 1
   have l2:=NX 1
   generalize M3 c h n=p at *
   generalize ofF 1=q at *
   have h3:=RU p q l1 l2
   generalize wF p q=r at *
   by_cases h0:0<=n
   .refine cT (E:=E) (fn:=Tryz.f347) (g:=.pure _) fun _=>?_
    exact zW
   .refine cT (E:=E) (fn:=Tryz.f347) (g:=.pure _) fun _=>?_
    exact zW
theorem QS (c:Con) (now:Int) (p:Pn) (hn:0<=now/\now<=1099511627776) (hp:0<=p.at') (ha:c.age<=9223372036854775807) (r:Bool) (hr:rK c now p=r):aA Tryz.prog 304 [c.av,ii now,p.av] [] (.ret (.bool r)) []:=by
  unfold rK at hr
  have e1:IntKind.wrap .u64 now=now:=by rw [wu];omega
  by_cases p1:0<c.age
  .by_cases p2:p.at'<=now
   .have e2:now-p.at'=((now-p.at').toNat:Int):=by omega
    rw [decide_eq_true p1,decide_eq_true p2,Cb,Cb] at hr
    by_cases p3:c.age<=now-p.at'
    .rw [decide_eq_true p3] at hr
     subst hr
     refine cT (E:=E) (fn:=Tryz.f304) (g:=.pure _) fun _=>?_
     repeat' first | (refine gN hE ?_;conv=>whnf) | exact rfl | refine aY ?_ | refine aN ?_ | refine aT fun h=>?_ | refine aF fun h=>?_ | refine ⟨fun h=>?_,fun h=>?_⟩ | refine aJ ?_ | refine ⟨_,rfl,?_⟩ | refine aD ?_ | fail
     all_goals exact congrArg (fun b=>Res.ret (AVal.bool b)) (decide_eq_true p3)
    .rw [decide_eq_false p3] at hr
     subst hr
     refine cT (E:=E) (fn:=Tryz.f304) (g:=.pure _) fun _=>?_
     repeat' first | (refine gN hE ?_;conv=>whnf) | exact rfl | refine aY ?_ | refine aN ?_ | refine aT fun h=>?_ | refine aF fun h=>?_ | refine ⟨fun h=>?_,fun h=>?_⟩ | refine aJ ?_ | refine ⟨_,rfl,?_⟩ | refine aD ?_ | fail
     all_goals exact congrArg (fun b=>Res.ret (AVal.bool b)) (decide_eq_false p3)
   .rw [decide_eq_false p2,Dz,Ci] at hr
    subst hr
    refine cT (E:=E) (fn:=Tryz.f304) (g:=.pure _) fun _=>?_
    exact zW
  .rw [decide_eq_false p1,Dz] at hr
   subst hr
   refine cT (E:=E) (fn:=Tryz.f304) (g:=.pure _) fun _=>?_
   exact zW
structure OrdOK (s:Sta):Prop where
 sm:s.c.sm
 few:s.c.ns.length<=12
 lt:LtF s.hist
 hl:s.hist.length<=1048576
 now:0<=s.now/\s.now<=1099511627776
 age:s.c.age<=9223372036854775807
theorem OrdOK.path {s:Sta} (h:OrdOK s) (n:Int):(upL s.c.ns n).length<=12:=Da (PW _ _) h.few
def VK (a b:Nat):Int:=if a<b then -1 else if b<a then 1 else 0
theorem aDj (c:Con) (h:List Nat) (x y:Int):rL c h x y=orI (VK (mZ c h x) (mZ c h y)) (gY x y):=by
 unfold rL orI VK
 repeat' split
 all_goals first | rfl | omega
theorem aEQ (s:Sta) (a b:Pn):iK s a b=if rK s.c s.now a=true then (if rK s.c s.now b=true then gY a.seq b.seq else -1) else if rK s.c s.now b=true then 1 else orI (ptC s a b) (gY a.seq b.seq):=by
 unfold iK orI
 rfl
theorem GW (x:Nat):aA Tryz.prog 375 [uu x] [] (.ret (.bool false)) []:=by
 refine cT (E:=E) (fn:=Tryz.f375) (g:=.pure _) fun _=>?_
 refine gV ?_
 exact congrArg (fun b=>Res.ret (AVal.bool b)) (by simp)
theorem aBk (a b:Nat) (r:Int) (hr:VK a b=r):aA Tryz.prog 346 [uu a,uu b] [] (.ret (ii r)) []:=by
 unfold VK at hr
 by_cases h1:a<b
 .rw [if_pos h1] at hr
  subst hr
  refine cT (E:=E) (fn:=Tryz.f346) (g:=.pure _) fun _=>?_
  have hz1:=fun y0=>GW y0
  exact zW
 .rw [if_neg h1] at hr
  by_cases h2:b<a
  .rw [if_pos h2] at hr
   subst hr
   refine cT (E:=E) (fn:=Tryz.f346) (g:=.pure _) fun _=>?_
   have hz1:=fun y0=>GW y0
   exact zW
  .rw [if_neg h2] at hr
   subst hr
   refine cT (E:=E) (fn:=Tryz.f346) (g:=.pure _) fun _=>?_
   have hz1:=fun y0=>GW y0
   exact zW
theorem yL (a b:Int):aA Tryz.prog 62 [ii a,ii b] [] (.ret (ii (gY a b))) []:=SH a b _ rfl
theorem ZH (s:Sta) (h:OrdOK s) (x y:Int):aA Tryz.prog 306 [.ptr s.cs,ii x,ii y] [] (.ret (ii (rL s.c s.hist x y))) []:=by
 have h1:=KU s.c h.sm s.hist h.lt h.hl x
 have h2:=KU s.c h.sm s.hist h.lt h.hl y
 have h3:=aBk (mZ s.c s.hist x) (mZ s.c s.hist y) _ rfl
 have h4:=yL x y
 rw [aDj]
 have h5:=A1 (VK (mZ s.c s.hist x) (mZ s.c s.hist y)) (gY x y) _ rfl
 generalize VK (mZ s.c s.hist x) (mZ s.c s.hist y)=p at *
 generalize gY x y=q at *
 generalize orI p q=r at *
 generalize mZ s.c s.hist x=l1 at *
 generalize mZ s.c s.hist y=l2 at *
 refine cT (E:=E) (fn:=Tryz.f306) (g:=.pure _) fun _=>?_
 exact zW
noncomputable abbrev aIU:Func:=Tryz.f244
abbrev cpF (s:Sta) (p q:List Int) (t:Int) (i:Nat):List (Nat×AVal):=[(0,.ptr s.cs),(4,.ref 0 0),(5,.ref 1 0),(9,ii t),(10,.slice 1 (iv p) .no),(11,.slice 1 (iv q) .no),(90,ii ((min p.length q.length:Nat):Int)),(91,ii i)]
abbrev cpO (a b:Pn):List AObj:=[.cells 102 a.cs,.cells 102 b.cs]
theorem WS {c:Con} {h:List Nat}:∀ {p q:List Int},(p=[]\/q=[])->gI c h p q=gY p.length q.length
 | [],[],_=>rfl
 | [],_::_,_=>by simp [gI,gY]
 | _::_,[],_=>by
  show (1:Int)=gY _ _
  unfold gY
  rw [if_neg (by simp<;>omega),if_pos (by simp<;>omega)]
 | _::_,_::_,h=>by rcases h with h | h<;>cases h
theorem aEL (s:Sta) (h:OrdOK s) (a b:Pn) (p q:List Int) (hp:p.length<=12) (hq:q.length<=12) (R:Int) (hR:orI (gI s.c s.hist p q) (gY a.seq b.seq)=R):∀ (m i:Nat),i+m=min p.length q.length->gI s.c s.hist p q=gI s.c s.hist (p.drop i) (q.drop i)->
  To E aIU (.pure (.ret (ii R))) (.head (stk aIU 0) (cpF s p q (gY p.length q.length) i) (cpO a b)):=by
 have hlp:(iv p).length=p.length:=by simp
 have hlq:(iv q).length=q.length:=by simp
 have hs:=yL a.seq b.seq
 intro m
 induction m with
 | zero=>
  intro i hi ht
  have h1:gI s.c s.hist p q=gY p.length q.length:=by
   have hd:p.drop i=[]\/q.drop i=[]:=by
    rcases Nat.le_total p.length q.length with h | h
    .exact .inl (Ae (by omega))
    .exact .inr (Ae (by omega))
   rw [ht,WS hd,Ge,Ge]
   unfold gY
   repeat' split
   all_goals omega
  rw [h1] at hR
  have ho:=A1 _ _ _ hR
  generalize gY p.length q.length=t at *
  generalize gY a.seq b.seq=u at *
  refine gV ?_
  exact zW
 | succ m ih=>
  intro i hi ht
  have hip:i<p.length:=by omega
  have hiq:i<q.length:=by omega
  have gp:=dO hip
  have gq:=dO hiq
  have next:=ih (i+1) (by omega)
  rw [Ad hip,Ad hiq] at ht
  have eC:gI s.c s.hist (p[i]::p.drop (i+1)) (q[i]::q.drop (i+1))=if p[i]=q[i] then gI s.c s.hist (p.drop (i+1)) (q.drop (i+1)) else rL s.c s.hist p[i] q[i]:=rfl
  rw [eC] at ht
  clear eC
  have hn:=ZH s h p[i] q[i]
  by_cases e:p[i]=q[i]
  .rw [if_pos e] at ht
   have e1:(p[i] !=q[i])=false:=by rw [e];simp
   have next:=next ht
   generalize p[i]=x at *
   generalize q[i]=y at *
   generalize gY p.length q.length=t at *
   refine gV ?_
   exact zW
  .rw [if_neg e] at ht
   have e1:(p[i] !=q[i])=true:=by simpa using e
   rw [ht] at hR
   have ho:=A1 _ _ _ hR
   clear next ih ht
   generalize rL s.c s.hist p[i] q[i]=z at *
   generalize p[i]=x at *
   generalize q[i]=y at *
   generalize gY p.length q.length=t at *
   generalize gY a.seq b.seq=u at *
   refine gV ?_
   exact zW
theorem LT (s:Sta) (h:OrdOK s) (a b:Pn) (ha:0<=a.at') (hb:0<=b.at') (R:Int) (hR:iK s a b=R):aA Tryz.prog 244 [.ptr s.cs,a.av,b.av] [] (.ret (ii R)) []:=by
 have o1:=QS s.c s.now a h.now ha h.age _ rfl
 have o2:=QS s.c s.now b h.now hb h.age _ rfl
 have hs:=yL a.seq b.seq
 rw [aEQ] at hR
 cases h1:rK s.c s.now a with
 | true=>
  rw [h1] at o1 hR
  rw [if_pos rfl] at hR
  cases h2:rK s.c s.now b with
  | true=>
   rw [h2] at o2 hR
   rw [if_pos rfl] at hR
   rw [hR] at hs
   refine cT (E:=E) (fn:=Tryz.f244) (g:=.pure _) fun _=>?_
   exact zW
  | false=>
   rw [h2] at o2 hR
   rw [if_neg (by decide)] at hR
   subst hR
   refine cT (E:=E) (fn:=Tryz.f244) (g:=.pure _) fun _=>?_
   exact zW
 | false=>
  rw [h1] at o1 hR
  rw [if_neg (by decide)] at hR
  cases h2:rK s.c s.now b with
  | true=>
   rw [h2] at o2 hR
   rw [if_pos rfl] at hR
   subst hR
   refine cT (E:=E) (fn:=Tryz.f244) (g:=.pure _) fun _=>?_
   exact zW
  | false=>
   rw [h2] at o2 hR
   rw [if_neg (by decide)] at hR
   by_cases ht:a.g.ten=b.g.ten
   .have hz:ptC s a b=0:=by unfold ptC;rw [ht];exact sB.2 rfl
    rw [hz] at hR
    have ho:=A1 _ _ _ hR
    have e1:(a.g.ten !=b.g.ten)=false:=by rw [ht];simp
    generalize gY a.seq b.seq=u at *
    refine cT (E:=E) (fn:=Tryz.f244) (g:=.pure _) fun _=>?_
    exact zW
   .have e1:(a.g.ten !=b.g.ten)=true:=by simpa using ht
    have p1:=QP s.c h.sm a.g.ten (h.path _)
    have p2:=QP s.c h.sm b.g.ten (h.path _)
    have l1:(upL s.c.ns a.g.ten).reverse.length<=12:=by rw [Kw];exact h.path _
    have l2:(upL s.c.ns b.g.ten).reverse.length<=12:=by rw [Kw];exact h.path _
    have lp:=aEL s h a b (upL s.c.ns a.g.ten).reverse (upL s.c.ns b.g.ten).reverse l1 l2 R hR _ 0 (Bn _) rfl
    generalize (upL s.c.ns a.g.ten).reverse=p at *
    generalize (upL s.c.ns b.g.ten).reverse=q at *
    have hlp:(iv p).length=p.length:=by simp
    have hlq:(iv q).length=q.length:=by simp
    have hc:=yL (iv p).length (iv q).length
    have em:((min p.length q.length:Nat):Int)=min (p.length:Int) (q.length:Int):=by omega
    unfold cpF at lp
    rw [em,<-hlp,<-hlq] at lp
    generalize gY ((iv p).length:Int) ((iv q).length:Int)=t at *
    refine cT (E:=E) (fn:=Tryz.f244) (g:=.pure _) fun _=>?_
    exact zW
abbrev kA (s:Sta):AVal:=.func (.func 246) [] [.ptr [.func (.func 244) [] []],.ptr s.cs]
theorem tF (s:Sta) (h:OrdOK s) (a b:Pn) (ha:0<=a.at') (hb:0<=b.at'):aA Tryz.prog 246 [a.av,b.av,.ptr [.func (.func 244) [] []],.ptr s.cs] [] (.ret (ii (iK s a b))) []:=by
 have h1:=LT s h a b ha hb _ rfl
 generalize iK s a b=r at *
 refine cT (E:=E) (fn:=Tryz.f246) (g:=.pure _) fun _=>?_
 exact zW
def A0 (s:Sta):List Pn:=srt (ltP s) s.pend
theorem aDK {x y:Pn} {s:Sta} {out:List Pn} {k:Nat} (h:out[k]? =some y):nD (ltP s) x out (k+1)=if ltP s x y=true then nD (ltP s) x out k else k+1:=by
 simp only [nD,h]
theorem qQ (l:List Pn):(pnv l).length=l.length:=by simp
theorem QF (A B:List Pn) (x:Pn) {i:Nat} (hi:i=A.length):(pnv (A++x::B))[i]? =some x.av:=by
 subst hi
 simp
theorem yJ (A M B:List Pn) (x y:Pn) {i j:Nat} (hi:i=A.length) (hj:j=A.length+M.length+1):
  (pnv (A++x::(M++y::B)))[i]? =some x.av/\(pnv (A++x::(M++y::B)))[j]? =some y.av/\((pnv (A++x::(M++y::B))).set i y.av).set j x.av=pnv (A++y::(M++x::B))/\((pnv (A++x::(M++y::B))).set j x.av).set i y.av=pnv (A++y::(M++x::B)):=by
 have e:A++x::(M++y::B)=(A++x::M)++y::B:=by simp
 have e1:((pnv (A++x::(M++y::B))).set i y.av).set j x.av=pnv (A++y::(M++x::B)):=by
  have h:=QD A M B x y
  have e2:A++x::(M++[y])++B=A++x::(M++y::B):=by simp
  have e3:A++[y]++M++x::B=A++y::(M++x::B):=by simp
  rw [e2,e3] at h
  subst hi hj
  rw [<-h]
  simp only [pnv,Gq]
 refine ⟨QF _ _ _ hi,by rw [e];exact QF _ _ _ (by simp;omega),e1,?_⟩
 rw [List.set_comm _ _ (by omega)]
 exact e1
def lO (l:List Pn):Prop:=∀ p∈l,0<=p.at'
theorem lO.perm {l m:List Pn} (h:l.Perm m) (ha:lO l):lO m:=fun p hp=>ha p (h.mem_iff.2 hp)
abbrev bJ (l:List Pn):List AObj:=[.row 0 11 102 (pnv l)]
noncomputable abbrev LJ:Func:=Tryz.f348
abbrev isF (s:Sta) (a b i:Nat):List (Nat×AVal):=[(0,.row 0 0),(1,ii a),(2,ii b),(3,kA s),(8,ii i)]
theorem N4 (s:Sta) (h:OrdOK s) (R:List Pn) (A T B:List Pn) (x:Pn) (a b i:Nat) (ha:a=A.length) (hi:i=A.length+T.length) (hl:A.length+T.length+B.length<=1000000) (hib:i<b) (hb:b<=1000001) (hx:0<=x.at') (hT:lO T)
  (next:To (Er [] [37,39,40,41]) LJ (.full 1 (.ret (.tup [])) (bJ R)) (.head (stk LJ 0) (isF s a b (i+1)) (bJ (A++(mK (ltP s) T x++B))))):∀ (k:Nat),k<=T.length->nD (ltP s) x T T.length=nD (ltP s) x T k->
  To (Er [] [37,39,40,41]) LJ (.full 1 (.ret (.tup [])) (bJ R)) (.head (stk LJ 1) (isF s a b i++[(9,ii ((A.length+k:Nat):Int))]) (bJ (A++(T.take k++x::(T.drop k++B))))):=by
 intro k
 induction k with
 | zero=>
  intro hk hK
  have e:mK (ltP s) T x++B=T.take 0++x::(T.drop 0++B):=by
   unfold mK
   rw [hK]
   simp [nD]
  rw [e] at next
  generalize pnv (A++(T.take 0++x::(T.drop 0++B)))=L at *
  subst ha
  refine gV ?_
  exact zW
 | succ k ih=>
  intro hk hK
  have hlt:k<T.length:=by omega
  have hka:=hT _ (Bl hlt)
  have et:T.take (k+1)=T.take k++[T[k]]:=Ha hlt
  have ed:T.drop k=T[k]::T.drop (k+1):=Ad hlt
  rw [aDK (Aa hlt)] at hK
  have hc:=tF s h x T[k] hx hka
  have hcm:((A.length+(k+1):Nat):Int)-1=((A.length+k:Nat):Int):=by omega
  have eL:A++(T.take (k+1)++x::(T.drop (k+1)++B))=(A++T.take k)++T[k]::([]++x::(T.drop (k+1)++B)):=by rw [et];simp only [Ai,Cd,Bp]
  obtain ⟨g1,g2,_,g4⟩:=yJ (A++T.take k) [] (T.drop (k+1)++B) T[k] x (i:=A.length+k) (j:=A.length+(k+1)) (by simp;omega) (by simp;omega)
  have eN:(A++T.take k)++x::([]++T[k]::(T.drop (k+1)++B))=A++(T.take k++x::(T.drop k++B)):=by rw [ed];simp only [Ai,Cd,Bp]
  have hL:(pnv ((A++T.take k)++T[k]::([]++x::(T.drop (k+1)++B)))).length=A.length+T.length+1+B.length:=by simp;omega
  rw [eN] at g4
  rw [eL]
  by_cases hlp:iK s x T[k]<0
  .have e:ltP s x T[k]=true:=decide_eq_true hlp
   rw [if_pos e] at hK
   have nx:=ih (by omega) hK
   dsimp only [bJ] at nx⊢
   rw [<-g4] at nx
   clear next ih
   generalize iK s x T[k]=v at *
   generalize T[k]=y at *
   generalize pnv ((A++T.take k)++y::([]++x::(T.drop (k+1)++B)))=L at *
   obtain ⟨j,hj⟩:∃ j,j=A.length+(k+1):=⟨_,rfl⟩
   obtain ⟨j0,hj0⟩:∃ j0,j0=A.length+k:=⟨_,rfl⟩
   have hjj:j=j0+1:=by omega
   have hja:a<j:=by omega
   have hjl:j<L.length:=by omega
   have hjm:j<=1000000:=by omega
   rw [<-hj] at hcm nx g2⊢
   rw [<-hj0] at hcm nx g1
   clear hj hj0 g4 eL eN et ed hL hK
   refine gV ?_
   refine aT fun h=>?_
   repeat' first | (refine gN (hEr [] [37,39,40,41]) ?_;conv=>whnf) | refine ⟨j,rfl,?_⟩ | refine ⟨_,g2,?_⟩ | refine ⟨j0,hcm,?_⟩ | refine ⟨_,g1,?_⟩ | exact rfl | refine aY ?_ | refine aN ?_ | refine aT fun h=>?_ | refine aF fun h=>?_ | refine ⟨fun h=>?_,fun h=>?_⟩ | refine aJ ?_ | refine ⟨_,rfl,?_⟩ | refine aD ?_ | fail
   refine .pure _ [] hc ?_
   repeat' first | (refine gN (hEr [] [37,39,40,41]) ?_;conv=>whnf) | exact rfl | refine aY ?_ | refine aN ?_ | refine aT fun h=>?_ | refine aF fun h=>?_ | refine ⟨fun h=>?_,fun h=>?_⟩ | refine aJ ?_ | refine ⟨_,rfl,?_⟩ | refine aD ?_ | fail
   repeat' first | (refine gN (hEr [] [37,39,40,41]) ?_;conv=>whnf) | refine ⟨j,rfl,?_⟩ | refine ⟨_,g2,?_⟩ | refine ⟨j0,hcm,?_⟩ | refine ⟨_,g1,?_⟩ | refine Ac (by rw [Dp];omega) ?_ | exact rfl | refine aY ?_ | refine aN ?_ | refine aT fun h=>?_ | refine aF fun h=>?_ | refine ⟨fun h=>?_,fun h=>?_⟩ | refine aJ ?_ | refine ⟨_,rfl,?_⟩ | refine aD ?_ | fail
   refine To.part [0,1,2,3,8,9] [0] rfl rfl rfl ?_
   rw [<-hcm] at nx
   exact nx
  .have e:ltP s x T[k]=false:=decide_eq_false hlp
   rw [if_neg (by rw [e];decide)] at hK
   have eI:mK (ltP s) T x++B=T.take k++T[k]::([]++x::(T.drop (k+1)++B)):=by
    unfold mK
    rw [hK,et]
    simp only [Ai,Cd,Bp]
   have eI:A++(mK (ltP s) T x++B)=(A++T.take k)++T[k]::([]++x::(T.drop (k+1)++B)):=by rw [eI,Ai]
   rw [eI] at next
   clear ih
   dsimp only [bJ] at next⊢
   generalize iK s x T[k]=v at *
   generalize T[k]=y at *
   generalize pnv ((A++T.take k)++y::([]++x::(T.drop (k+1)++B)))=L at *
   obtain ⟨j,hj⟩:∃ j,j=A.length+(k+1):=⟨_,rfl⟩
   obtain ⟨j0,hj0⟩:∃ j0,j0=A.length+k:=⟨_,rfl⟩
   have hjj:j=j0+1:=by omega
   have hja:a<j:=by omega
   have hjl:j<L.length:=by omega
   have hjm:j<=1000000:=by omega
   rw [<-hj] at hcm g2⊢
   rw [<-hj0] at hcm g1
   clear hj hj0 g4 eL eN et ed hL hK eI
   refine gV ?_
   exact zW
theorem RC (s:Sta) (h:OrdOK s) (A B:List Pn) (a b:Nat) (ha:a=A.length) (hb:b<=1000000) (hL:A.length+B.length<=1000000) (R:List Pn):∀ (rest T:List Pn),R=A++(rest.foldl (mK (ltP s)) T++B)->b=A.length+T.length+rest.length->b+B.length<=1000000->lO (T++rest)->
  To (Er [] [37,39,40,41]) LJ (.full 1 (.ret (.tup [])) (bJ R)) (.head (stk LJ 0) (isF s a b (A.length+T.length)) (bJ (A++(T++(rest++B)))))
 | [],T,hR,hlen,hB,hat=>by
  subst hR
  dsimp only [bJ,List.foldl_nil,Bp]
  generalize pnv (A++(T++B))=L at *
  obtain ⟨i,hi⟩:∃ i,i=A.length+T.length:=⟨_,rfl⟩
  rw [<-hi] at hlen⊢
  have hbi:b=i:=by simpa using hlen
  refine gV ?_
  exact zW
 | x::rest,T,hR,hlen,hB,hat=>by
  have hlen':b=A.length+T.length+rest.length+1:=by simp at hlen;omega
  have hp:=vW (ltP s) T x
  have hln:=hp.length_eq
  have hat2:lO (mK (ltP s) T x++rest):=hat.perm ((Ep.trans (Dq rest hp.symm)))
  have nx:=RC s h A B a b ha hb hL R rest (mK (ltP s) T x) hR (by simp at hln;omega) hB hat2
  have e1:A.length+(mK (ltP s) T x).length=A.length+T.length+1:=by simp at hln;omega
  rw [e1] at nx
  have hx:0<=x.at':=hat x (by simp)
  have hT:lO T:=fun p hp=>hat p (Dj _ hp)
  have nx:=N4 s h R A T (rest++B) x a b (A.length+T.length) ha rfl (by simp;omega) (by omega) (by omega) hx hT nx T.length (Au _) rfl
  rw [Ip,List.drop_length,Bp] at nx
  dsimp only [bJ] at nx⊢
  rw [Cd]
  generalize pnv (A++(T++x::(rest++B)))=L at *
  obtain ⟨i,hi⟩:∃ i,i=A.length+T.length:=⟨_,rfl⟩
  rw [<-hi] at nx⊢
  have hib:i<b:=by omega
  refine gV ?_
  exact zW
theorem N3 (s:Sta) (h:OrdOK s) (A S B:List Pn) (a b:Nat) (ha:a=A.length) (hb:b=A.length+S.length) (hB:b+B.length<=1000000) (hat:lO S):
  aA Tryz.prog 348 [.row 0 0,ii a,ii b,kA s] (bJ (A++(S++B))) (.ret (.tup [])) (bJ (A++(srt (ltP s) S++B))):=by
 have h1:To (Er [] [37,39,40,41]) LJ (.full 1 (.ret (.tup [])) (bJ (A++(srt (ltP s) S++B)))) (.head (stk LJ 0) [(0,.row 0 0),(1,ii a),(2,ii b),(3,kA s),(8,ii ((a:Int)+1))] (bJ (A++(S++B)))):=by
  cases S with
  | nil=>
   have e:srt (ltP s) []=[]:=rfl
   rw [e]
   dsimp only [bJ]
   generalize pnv (A++([]++B))=L at *
   simp at hb
   refine gV ?_
   exact zW
  | cons x S=>
   simp at hb
   have:=RC s h A B a b ha (by omega) (by omega) (A++(srt (ltP s) (x::S)++B)) S [x] rfl (by simp;omega) hB hat
   have e:A.length+[x].length=a+1:=by simp;omega
   rw [e] at this
   exact this
 generalize A++(srt (ltP s) S++B)=R at *
 dsimp only [bJ] at h1⊢
 generalize pnv (A++(S++B))=L at *
 have ha2:a<=1000000:=by omega
 clear hat
 refine cT (E:=(Er [] [37,39,40,41])) (fn:=Tryz.f348) (g:=.full 1 _ _) fun _=>?_
 refine gV ?_
 have hin:inR .i64 ((a:Int)+1):=⟨by simp only [bY];omega,by simp only [bI];omega⟩
 refine Fm (Ac hin ?_)
 exact zW
noncomputable abbrev aIE:Func:=Tryz.f391
theorem IV (R Y:List Pn) (a b N:Nat) (cv:AVal):∀ (U V X M:List Pn) (i:Nat),U.length=V.length->i+U.length=N->a+i=X.length->b+i=X.length+U.length+M.length->X.length+U.length+M.length+V.length+Y.length<=1000000->R=X++(V++(M++(U++Y)))->
  To (Er [] [16,20,21,22,23]) aIE (.full 1 (.ret (.tup [])) (bJ R)) (.head (stk aIE 0) [(0,.row 0 0),(1,ii a),(2,ii b),(3,ii N),(10,ii i)] (bJ (X++(U++(M++(V++Y))))))
 | [],[],X,M,i,hl,hN,hi,hj,hb,hR=>by
  subst hR
  dsimp only [bJ,Bp]
  generalize pnv (X++(M++Y))=L at *
  have hbi:i=N:=by simpa using hN
  subst hbi
  refine gV ?_
  exact zW
 | x::U,y::V,X,M,i,hl,hN,hi,hj,hb,hR=>by
  have hl2:U.length=V.length:=by simpa using hl
  simp at hN hj hb
  have nx:=IV R Y a b N cv U V (X++[y]) (M++[x]) (i+1) hl2 (by omega) (by simp;omega) (by simp;omega) (by simp;omega) (by rw [hR];simp only [Ai,Cd,Bp])
  obtain ⟨g1,g2,g3,_⟩:=yJ X (U++M) (V++Y) x y (i:=a+i) (j:=b+i) hi (by simp;omega)
  have eN:X++y::(U++M++x::(V++Y))=(X++[y])++(U++((M++[x])++(V++Y))):=by simp only [Ai,Cd,Bp]
  have eL:X++(x::U++(M++(y::V++Y)))=X++x::(U++M++y::(V++Y)):=by simp only [Ai,Cd,Bp]
  rw [eN] at g3
  rw [eL]
  dsimp only [bJ] at nx⊢
  rw [<-g3] at nx
  have hlen:(pnv (X++x::(U++M++y::(V++Y)))).length=X.length+U.length+M.length+V.length+Y.length+2:=by simp;omega
  generalize pnv (X++x::(U++M++y::(V++Y)))=L at *
  have hiN:i<N:=by omega
  obtain ⟨j0,hj0⟩:∃ j0,j0=a+i:=⟨_,rfl⟩
  obtain ⟨j,hj1⟩:∃ j,j=b+i:=⟨_,rfl⟩
  have hc0:(a:Int)+i=(j0:Int):=by omega
  have hc1:(b:Int)+i=(j:Int):=by omega
  have hjl:j<L.length:=by omega
  have hjl0:j0<L.length:=by omega
  have hjm:j<=1000000:=by omega
  have hjm0:j0<=1000000:=by omega
  rw [<-hj0] at nx g1
  rw [<-hj1] at nx g2
  clear hj0 hj1 hj hi hb hlen eL eN hR hN hl hl2 g3
  refine gV ?_
  refine aT fun h=>?_
  repeat' first | (refine gN (hEr [] [16,20,21,22,23]) ?_;conv=>whnf) | refine ⟨j,hc1,?_⟩ | refine ⟨_,g2,?_⟩ | refine ⟨j0,hc0,?_⟩ | refine ⟨_,g1,?_⟩ | refine Ac (by rw [Dp];omega) ?_ | exact rfl | refine aY ?_ | refine aN ?_ | refine aT fun h=>?_ | refine aF fun h=>?_ | refine ⟨fun h=>?_,fun h=>?_⟩ | refine aJ ?_ | refine ⟨_,rfl,?_⟩ | refine aD ?_ | fail
  exact zW
theorem MZ (s:Sta) (X U M V Y:List Pn) (a b N:Nat) (ha:a=X.length) (hN:N=U.length) (hV:U.length=V.length) (hb:b=X.length+U.length+M.length) (hl:X.length+U.length+M.length+V.length+Y.length<=1000000):
  aA Tryz.prog 391 [.row 0 0,ii a,ii b,ii N,kA s] (bJ (X++(U++(M++(V++Y))))) (.ret (.tup [])) (bJ (X++(V++(M++(U++Y))))):=by
 have h1:=IV _ Y a b N (kA s) U V X M 0 hV (by omega) (by omega) (by omega) hl rfl
 dsimp only [bJ] at h1⊢
 generalize pnv (X++(U++(M++(V++Y))))=L at *
 generalize pnv (X++(V++(M++(U++Y))))=R at *
 refine cT (E:=(Er [] [16,20,21,22,23])) (fn:=Tryz.f391) (g:=.full 1 _ _) fun _=>?_
 exact zW
noncomputable abbrev aII:Func:=Tryz.f378
theorem XV (s:Sta) (R:List Pn) (m:Nat) (hm:m<=1000000):∀ (n:Nat) (X U V Y:List Pn) (i j:Nat),i+j<=n->i=U.length->j=V.length->0<i->0<j->m=X.length+i->X.length+U.length+V.length+Y.length<=1000000->R=X++(V++(U++Y))->
  To E aII (.full 1 (.ret (.tup [])) (bJ R)) (.head (stk aII 0) [(0,.row 0 0),(2,ii m),(4,kA s),(10,ii i),(11,ii j)] (bJ (X++(U++(V++Y))))):=by
 intro n
 induction n with
 | zero=>intro X U V Y i j h;omega
 | succ n ih=>
  intro X U V Y i j hn hi hj pi pj hX hl hR
  by_cases hij:i=j
  .have hc:((m:Int)-i)=((m-i:Nat):Int):=by omega
   have h1:=MZ s X U [] V Y (m-i) m i (by omega) hi (by omega) (by simp;omega) (by simp;omega)
   rw [Bp,Bp,<-hc,<-hR] at h1
   have e1:((i:Int) !=(j:Int))=false:=by rw [hij];simp
   dsimp only [bJ] at h1⊢
   generalize pnv (X++(U++(V++Y)))=L at *
   generalize pnv R=K at *
   clear hR hl ih
   refine gV ?_
   exact zW
  .have e1:((i:Int) !=(j:Int))=true:=by simp;omega
   by_cases hlt:j<i
   .obtain ⟨U1,U2,rfl,hU1⟩:∃ U1 U2,U=U1++U2/\U1.length=j:=⟨U.take j,U.drop j,(Bv j U).symm,by simp;omega⟩
    have hUl:i=j+U2.length:=by rw [hi,Aw,hU1]
    have hc:((m:Int)-i)=((m-i:Nat):Int):=by omega
    have hd:((i:Int)-j)=((i-j:Nat):Int):=by omega
    rw [Aw] at hl
    have h1:=MZ s X U1 U2 V Y (m-i) m j (by omega) hU1.symm (by omega) (by omega) (by omega)
    have nx:=ih (X++V) U2 U1 Y (i-j) j (by omega) (by omega) (by omega) (by omega) (by omega) (by rw [Aw];omega) (by rw [Aw];omega) (by rw [hR];simp only [Ai])
    rw [<-hc] at h1
    rw [<-hd,Ai] at nx
    rw [Ai U1 U2]
    dsimp only [bJ] at h1 nx⊢
    generalize pnv (X++(U1++(U2++(V++Y))))=L at *
    generalize pnv (X++(V++(U2++(U1++Y))))=K at *
    have hi9:i<=1000000:=by omega
    clear hR hl ih hc hd hi hj hUl hU1
    refine gV ?_
    exact zW
   .obtain ⟨V1,V2,rfl,hV2⟩:∃ V1 V2,V=V1++V2/\V2.length=i:=⟨V.take (j-i),V.drop (j-i),(Bv (j-i) V).symm,by simp;omega⟩
    have hVl:j=V1.length+i:=by rw [hj,Aw,hV2]
    have hc:((m:Int)-i)=((m-i:Nat):Int):=by omega
    have hd:((j:Int)-i)=((j-i:Nat):Int):=by omega
    have hf:((m:Int)+j-i)=((m+(j-i):Nat):Int):=by omega
    rw [Aw] at hl
    have h1:=MZ s X U V1 V2 Y (m-i) (m+(j-i)) i (by omega) hi (by omega) (by omega) (by omega)
    have nx:=ih X V2 V1 (U++Y) i (j-i) (by omega) (by omega) (by omega) (by omega) (by omega) (by omega) (by rw [Aw];omega) (by rw [hR];simp only [Ai])
    rw [<-hc,<-hf] at h1
    rw [<-hd] at nx
    rw [Ai V1 V2]
    dsimp only [bJ] at h1 nx⊢
    generalize pnv (X++(U++(V1++(V2++Y))))=L at *
    generalize pnv (X++(V2++(V1++(U++Y))))=K at *
    have hj9:j<=1000000:=by omega
    have hi9:i<=1000000:=by omega
    clear hR hl ih hc hd hf hi hj hVl hV2
    refine gV ?_
    exact zW
theorem aGm (s:Sta) (X U V Y:List Pn) (a m b:Nat) (ha:a=X.length) (hm:m=a+U.length) (hb:b=m+V.length) (hU:U≠[]) (hV:V≠[]) (hl:b+Y.length<=1000000):
  aA Tryz.prog 378 [.row 0 0,ii a,ii m,ii b,kA s] (bJ (X++(U++(V++Y)))) (.ret (.tup [])) (bJ (X++(V++(U++Y)))):=by
 have pU:=Hh.2 hU
 have pV:=Hh.2 hV
 have h1:=XV s _ m (by omega) _ X U V Y (m-a) (b-m) (Au _) (by omega) (by omega) (by omega) (by omega) (by omega) (by omega) rfl
 have hc:(m:Int)-a=((m-a:Nat):Int):=by omega
 have hd:(b:Int)-m=((b-m:Nat):Int):=by omega
 rw [<-hc,<-hd] at h1
 dsimp only [bJ] at h1⊢
 generalize pnv (X++(U++(V++Y)))=L at *
 generalize pnv (X++(V++(U++Y)))=R at *
 have ha9:a<=m:=by omega
 have hm9:m<=b:=by omega
 have hb9:b<=1000000:=by omega
 refine cT (E:=E) (fn:=Tryz.f378) (g:=.full 1 _ _) fun _=>?_
 exact zW
noncomputable abbrev oU:Func:=Tryz.f349
theorem GY (lo hi:Nat):((lo:Int)+hi).fdiv (2 ^ Cx 1)=(((lo+hi) / 2:Nat):Int):=by
 have e:(2:Int) ^ Cx 1=2:=rfl
 rw [e,Gu _ (by decide)]
 omega
theorem RH {c:Nat} (h:c<=1000000):inR .i64 (c:Int):=Ac (by simp only [bY];omega) (by simp only [bI];omega)
theorem FN {L:List Pn} {h:Nat} {y:Pn} (hy:L[h]? =some y):(pnv L)[h]? =some y.av:=by simp [hy]
set_option maxHeartbeats 1000000 in
theorem aGe (s:Sta) (hs:OrdOK s) (L:List Pn) (hat:lO L) (hL:L.length<=1000000) (a:Nat) (u:Pn) (hu:L[a]? =some u) (P:Nat->Bool) (hP:∀ h y,L[h]? =some y->P h=ltP s y u) (R:List Pn) (k:Nat)
  (next:To (Er [] [61,63,64,65,113,115,116,117]) oU (.full 1 (.ret (.tup [])) (bJ R)) (.head (stk oU 1) [(0,.row 0 0),(10,ii k),(13,ii a)] (bJ L))):∀ (f lo hi:Nat),hi-lo<=f->lo<=hi->hi<=L.length->bis P f lo hi=k->
  To (Er [] [61,63,64,65,113,115,116,117]) oU (.full 1 (.ret (.tup [])) (bJ R)) (.head (stk oU 0) [(0,.row 0 0),(1,ii a),(4,kA s),(10,ii lo),(11,ii hi)] (bJ L))
 | 0,lo,hi,hf,h1,h2,hk=>by
  have e:lo=hi:=by omega
  subst e
  have hk:lo=k:=hk
  subst hk
  dsimp only [bJ] at next⊢
  generalize pnv L=K at *
  refine gV ?_
  exact zW
 | f+1,lo,hi,hf,h1,h2,hk=>by
  by_cases hlt:lo<hi
  .unfold bis at hk
   rw [if_pos hlt] at hk
   obtain ⟨c,hc⟩:∃ c,c=(lo+hi) / 2:=⟨_,rfl⟩
   rw [<-hc] at hk
   have hcl:c<L.length:=by omega
   have hy:L[c]? =some L[c]:=Aa hcl
   have hPc:=hP c _ hy
   have hcm:=tF s hs L[c] u (hat _ (Bl hcl)) (hat _ (Ap hu))
   have g1:=FN hy
   have g2:=FN hu
   have hal:a<L.length:=(Ab.1 hu).1
   have hm:=GY lo hi
   rw [<-hc] at hm
   have hr:=RH (show c<=1000000 by omega)
   have hcK:c<(pnv L).length:=by rw [qQ];exact hcl
   have haK:a<(pnv L).length:=by rw [qQ];exact hal
   generalize L[c]=y at *
   cases hv:P c with
   | true=>
    rw [hv,if_pos rfl] at hk
    have hv2:iK s y u<0:=of_decide_eq_true (hPc.symm.trans hv)
    have nx:=aGe s hs L hat hL a u hu P hP R k next f (c+1) hi (by omega) (by omega) h2 hk
    generalize iK s y u=v at *
    dsimp only [bJ] at nx⊢
    generalize pnv L=K at *
    clear hP next
    refine gV ?_
    refine aT fun h=>?_
    repeat' first | (refine gN (hEr [] [61,63,64,65,113,115,116,117]) ?_;conv=>whnf) | (rw [hm];refine Fm (Ac hr ?_)) | refine ⟨c,rfl,?_⟩ | refine ⟨_,g1,?_⟩ | refine ⟨a,rfl,?_⟩ | refine ⟨_,g2,?_⟩ | refine .pure _ [] hcm ?_ | exact rfl | refine aY ?_ | refine aN ?_ | refine aT fun h=>?_ | refine aF fun h=>?_ | refine ⟨fun h=>?_,fun h=>?_⟩ | refine aJ ?_ | refine ⟨_,rfl,?_⟩ | refine aD ?_ | fail
    exact zW
   | false=>
    rw [hv,if_neg (by decide)] at hk
    have hv2:¬ iK s y u<0:=of_decide_eq_false (hPc.symm.trans hv)
    have nx:=aGe s hs L hat hL a u hu P hP R k next f lo c (by omega) (by omega) (by omega) hk
    generalize iK s y u=v at *
    dsimp only [bJ] at nx⊢
    generalize pnv L=K at *
    clear hP next
    refine gV ?_
    refine aT fun h=>?_
    repeat' first | (refine gN (hEr [] [61,63,64,65,113,115,116,117]) ?_;conv=>whnf) | (rw [hm];refine Fm (Ac hr ?_)) | refine ⟨c,rfl,?_⟩ | refine ⟨_,g1,?_⟩ | refine ⟨a,rfl,?_⟩ | refine ⟨_,g2,?_⟩ | refine .pure _ [] hcm ?_ | exact rfl | refine aY ?_ | refine aN ?_ | refine aT fun h=>?_ | refine aF fun h=>?_ | refine ⟨fun h=>?_,fun h=>?_⟩ | refine aJ ?_ | refine ⟨_,rfl,?_⟩ | refine aD ?_ | fail
    exact zW
  .unfold bis at hk
   rw [if_neg hlt] at hk
   subst hk
   dsimp only [bJ] at next⊢
   generalize pnv L=K at *
   refine gV ?_
   exact zW
theorem mv1 (R W:List Pn) (u:Pn):∀ (V A:List Pn) (i k:Nat),k=A.length->i=A.length+V.length+1->A.length+V.length+W.length<=999999->R=A++(V++u::W)->
  To (Er [] [61,63,64,65,113,115,116,117]) oU (.full 1 (.ret (.tup [])) (bJ R)) (.head (stk oU 1) [(0,.row 0 0),(10,ii i),(13,ii k)] (bJ (A++u::(V++W))))
 | [],A,i,k,hk,hi,hl,hR=>by
  subst hR
  dsimp only [bJ,Bp]
  generalize pnv (A++u::W)=L at *
  have hi9:i<=1000000:=by omega
  have hki:i=k+1:=by simp at hi;omega
  refine gV ?_
  exact zW
 | y::V,A,i,k,hk,hi,hl,hR=>by
  simp at hi hl
  have nx:=mv1 R W u V (A++[y]) i (k+1) (by simp;omega) (by simp;omega) (by simp;omega) (by rw [hR];simp only [Ai,Cd,Bp])
  obtain ⟨g1,g2,g3,_⟩:=yJ A [] (V++W) u y (i:=k) (j:=k+1) hk (by simp;omega)
  have eN:A++y::([]++u::(V++W))=(A++[y])++u::(V++W):=by simp only [Ai,Cd,Bp]
  have eL:A++u::(y::V++W)=A++u::([]++y::(V++W)):=by simp only [Ai,Cd,Bp]
  rw [eN] at g3
  rw [eL]
  dsimp only [bJ] at nx⊢
  rw [<-g3] at nx
  have hlen:(pnv (A++u::([]++y::(V++W)))).length=A.length+V.length+W.length+2:=by simp;omega
  generalize pnv (A++u::([]++y::(V++W)))=L at *
  obtain ⟨j,hj⟩:∃ j,j=k+1:=⟨_,rfl⟩
  rw [<-hj] at nx g2
  have hc1:(k:Int)+1=(j:Int):=by omega
  have hjl:j<L.length:=by omega
  have hkl:k<L.length:=by omega
  have hjm:j<=1000000:=by omega
  have hkm:k<=1000000:=by omega
  have hi9:i<=1000000:=by omega
  have hki:k+1<i:=by omega
  rw [<-hc1] at nx
  clear hlen eL eN hR hl g3 hk hi
  refine gV ?_
  repeat' first | (refine gN (hEr [] [61,63,64,65,113,115,116,117]) ?_;conv=>whnf) | refine aT fun h=>?_ | refine ⟨j,hc1,?_⟩ | refine ⟨_,g2,?_⟩ | refine ⟨k,rfl,?_⟩ | refine ⟨_,g1,?_⟩ | refine Ac (by rw [Dp];omega) ?_ | exact rfl | refine aY ?_ | refine aN ?_ | refine aT fun h=>?_ | refine aF fun h=>?_ | refine ⟨fun h=>?_,fun h=>?_⟩ | refine aJ ?_ | refine ⟨_,rfl,?_⟩ | refine aD ?_ | fail
  exact zW
set_option maxHeartbeats 1000000 in
theorem aGd (s:Sta) (hs:OrdOK s) (L:List Pn) (hat:lO L) (hL:L.length<=1000000) (m:Nat) (u:Pn) (hu:L[m]? =some u) (P:Nat->Bool) (hP:∀ h y,L[h]? =some y->P h= !ltP s u y) (R:List Pn) (k:Nat)
  (next:To (Er [] [61,63,64,65,113,115,116,117]) oU (.full 1 (.ret (.tup [])) (bJ R)) (.head (stk oU 3) [(0,.row 0 0),(14,ii k),(17,ii m)] (bJ L))):∀ (f lo hi:Nat),hi-lo<=f->lo<=hi->hi<=L.length->bis P f lo hi=k->
  To (Er [] [61,63,64,65,113,115,116,117]) oU (.full 1 (.ret (.tup [])) (bJ R)) (.head (stk oU 2) [(0,.row 0 0),(2,ii m),(4,kA s),(14,ii lo),(15,ii hi)] (bJ L))
 | 0,lo,hi,hf,h1,h2,hk=>by
  have e:lo=hi:=by omega
  subst e
  have hk:lo=k:=hk
  subst hk
  dsimp only [bJ] at next⊢
  generalize pnv L=K at *
  refine gV ?_
  exact zW
 | f+1,lo,hi,hf,h1,h2,hk=>by
  by_cases hlt:lo<hi
  .unfold bis at hk
   rw [if_pos hlt] at hk
   obtain ⟨c,hc⟩:∃ c,c=(lo+hi) / 2:=⟨_,rfl⟩
   rw [<-hc] at hk
   have hcl:c<L.length:=by omega
   have hy:L[c]? =some L[c]:=Aa hcl
   have hPc:=hP c _ hy
   have hcm:=tF s hs u L[c] (hat _ (Ap hu)) (hat _ (Bl hcl))
   have g1:=FN hy
   have g2:=FN hu
   have hml:m<L.length:=(Ab.1 hu).1
   have hm:=GY lo hi
   rw [<-hc] at hm
   have hr:=RH (show c<=1000000 by omega)
   have hcK:c<(pnv L).length:=by rw [qQ];exact hcl
   have hmK:m<(pnv L).length:=by rw [qQ];exact hml
   generalize L[c]=y at *
   cases hv:P c with
   | true=>
    rw [hv,if_pos rfl] at hk
    have e9:ltP s u y=false:=by rw [hv] at hPc;simpa using hPc.symm
    have hv2:¬ iK s u y<0:=of_decide_eq_false e9
    have e8:(!decide (iK s u y<0))=true:=congrArg (fun b=>!b) e9
    have nx:=aGd s hs L hat hL m u hu P hP R k next f (c+1) hi (by omega) (by omega) h2 hk
    clear e9
    generalize iK s u y=v at *
    dsimp only [bJ] at nx⊢
    generalize pnv L=K at *
    clear hP next
    refine gV ?_
    refine aT fun h=>?_
    repeat' first | (refine gN (hEr [] [61,63,64,65,113,115,116,117]) ?_;conv=>whnf) | (rw [hm];refine Fm (Ac hr ?_)) | refine ⟨m,rfl,?_⟩ | refine ⟨_,g2,?_⟩ | refine ⟨c,rfl,?_⟩ | refine ⟨_,g1,?_⟩ | refine .pure _ [] hcm ?_ | refine Ac (fun _=>?_) (fun h=>absurd (e8.symm.trans h) (by decide)) | exact rfl | refine aY ?_ | refine aN ?_ | refine aT fun h=>?_ | refine aF fun h=>?_ | refine ⟨fun h=>?_,fun h=>?_⟩ | refine aJ ?_ | refine ⟨_,rfl,?_⟩ | refine aD ?_ | fail
    exact zW
   | false=>
    rw [hv,if_neg (by decide)] at hk
    have e9:ltP s u y=true:=by rw [hv] at hPc;simpa using hPc.symm
    have hv2:iK s u y<0:=of_decide_eq_true e9
    have e8:(!decide (iK s u y<0))=false:=congrArg (fun b=>!b) e9
    have nx:=aGd s hs L hat hL m u hu P hP R k next f lo c (by omega) (by omega) (by omega) hk
    clear e9
    generalize iK s u y=v at *
    dsimp only [bJ] at nx⊢
    generalize pnv L=K at *
    clear hP next
    refine gV ?_
    refine aT fun h=>?_
    repeat' first | (refine gN (hEr [] [61,63,64,65,113,115,116,117]) ?_;conv=>whnf) | (rw [hm];refine Fm (Ac hr ?_)) | refine ⟨m,rfl,?_⟩ | refine ⟨_,g2,?_⟩ | refine ⟨c,rfl,?_⟩ | refine ⟨_,g1,?_⟩ | refine .pure _ [] hcm ?_ | refine Ac (fun h=>absurd (e8.symm.trans h) (by decide)) (fun _=>?_) | exact rfl | refine aY ?_ | refine aN ?_ | refine aT fun h=>?_ | refine aF fun h=>?_ | refine ⟨fun h=>?_,fun h=>?_⟩ | refine aJ ?_ | refine ⟨_,rfl,?_⟩ | refine aD ?_ | fail
    exact zW
  .unfold bis at hk
   rw [if_neg hlt] at hk
   subst hk
   dsimp only [bJ] at next⊢
   generalize pnv L=K at *
   refine gV ?_
   exact zW
theorem mv2 (R:List Pn) (u:Pn) (A:List Pn) (i:Nat) (hi:i=A.length):∀ (n:Nat) (V W:List Pn) (k:Nat),V.length=n->k=A.length+n->A.length+n+W.length<=999999->R=A++u::(V++W)->
  To (Er [] [61,63,64,65,113,115,116,117]) oU (.full 1 (.ret (.tup [])) (bJ R)) (.head (stk oU 3) [(0,.row 0 0),(14,ii i),(17,ii k)] (bJ (A++(V++u::W)))):=by
 intro n
 induction n with
 | zero=>
  intro V W k hV hk hl hR
  cases Br.1 hV
  subst hR
  dsimp only [bJ,Bp]
  generalize pnv (A++u::W)=L at *
  have hki:k=i:=by omega
  have hi9:i<=1000000:=by omega
  refine gV ?_
  exact zW
 | succ n ih=>
  intro V W k hV hk hl hR
  obtain ⟨V,y,rfl⟩:∃ V' y,V=V'++[y]:=⟨V.dropLast,V.getLast (by intro h;rw [h] at hV;cases hV),(Kn _).symm⟩
  have hV2:V.length=n:=by simpa using hV
  have nx:=ih V (y::W) (k-1) hV2 (by omega) (by simp;omega) (by rw [hR];simp only [Ai,Cd,Bp])
  obtain ⟨g1,g2,_,g3⟩:=yJ (A++V) [] W y u (i:=k-1) (j:=k) (by simp;omega) (by simp;omega)
  have eN:A++V++u::([]++y::W)=A++(V++u::(y::W)):=by simp only [Ai,Cd,Bp]
  have eL:A++(V++[y]++u::W)=A++V++y::([]++u::W):=by simp only [Ai,Cd,Bp]
  rw [eN] at g3
  rw [eL]
  dsimp only [bJ] at nx⊢
  rw [<-g3] at nx
  have hlen:(pnv (A++V++y::([]++u::W))).length=A.length+V.length+W.length+2:=by simp;omega
  generalize pnv (A++V++y::([]++u::W))=L at *
  obtain ⟨j,hj⟩:∃ j,j=k-1:=⟨_,rfl⟩
  rw [<-hj] at nx g1
  have hc1:(k:Int)-1=(j:Int):=by omega
  have hjl:j<L.length:=by omega
  have hkl:k<L.length:=by omega
  have hkm:k<=1000000:=by omega
  have hjk:k=j+1:=by omega
  have hki:i<k:=by omega
  rw [<-hc1] at nx
  clear hlen eL eN hR hl g3 hk hi ih hj
  refine gV ?_
  repeat' first | (refine gN (hEr [] [61,63,64,65,113,115,116,117]) ?_;conv=>whnf) | refine aT fun h=>?_ | refine ⟨j,hc1,?_⟩ | refine ⟨_,g1,?_⟩ | refine ⟨k,rfl,?_⟩ | refine ⟨_,g2,?_⟩ | refine Ac (by rw [Dp];omega) ?_ | exact rfl | refine aY ?_ | refine aN ?_ | refine aT fun h=>?_ | refine aF fun h=>?_ | refine ⟨fun h=>?_,fun h=>?_⟩ | refine aJ ?_ | refine ⟨_,rfl,?_⟩ | refine aD ?_ | fail
  exact zW
abbrev aCL (K:List AVal):List AObj:=[.row 0 11 102 K]
def Stp (f:Nat) (s:Sta) (x y z:Nat) (K K':List AVal):Prop:=
 (x<y/\y<z/\aA Tryz.prog f [.row 0 0,ii x,ii y,ii z,kA s] (aCL K) (.ret (.tup [])) (aCL K'))\/(x<y/\¬ y<z/\K=K')\/(¬ x<y/\K=K')
abbrev aCk (s:Sta) (a m b mid n c d:Nat) (p:Int):List (Nat×AVal):=[(0,.row 0 0),(1,ii a),(2,ii m),(3,ii b),(4,kA s),(18,ii mid),(19,ii n),(20,ii c),(21,ii d),(22,ii p)]
set_option maxHeartbeats 8000000 in
theorem W5 (s:Sta) (a m b mid n st en:Nat) (p:Int) (hn:n<=2000000) (hen:n=en+st) (K0 K1 K2 K3:List AVal) (d1:Stp 378 s st m en K0 K1) (d2:Stp 349 s a st mid K1 K2) (d3:Stp 349 s mid en b K2 K3):
  To (Er [] [61,63,64,65,113,115,116,117]) oU (.full 1 (.ret (.tup [])) (aCL K3)) (.head (stk oU 4) (aCk s a m b mid n st st p) (aCL K0)):=by
 obtain ⟨ei,hei⟩:∃ ei:Int,ei=(en:Int):=⟨_,rfl⟩
 have hc:((n:Int)-st)=(en:Int):=by omega
 rcases d1 with ⟨a1,b1,c1⟩ | ⟨a1,b1,rfl⟩ | ⟨a1,rfl⟩<;>rcases d2 with ⟨a2,b2,c2⟩ | ⟨a2,b2,rfl⟩ | ⟨a2,rfl⟩<;>rcases d3 with ⟨a3,b3,c3⟩ | ⟨a3,b3,rfl⟩ | ⟨a3,rfl⟩
 all_goals (try rw [<-hc] at c1)
 all_goals (try rw [<-hc] at c3)
 all_goals (try (exfalso;omega))
 all_goals
  refine gV ?_
  exact zW
set_option maxHeartbeats 1000000 in
theorem aGc (s:Sta) (hs:OrdOK s) (L:List Pn) (hat:lO L) (hL:L.length<=1000000) (a m b mid n p lo0 hi0:Nat) (P:Nat->Bool) (hP:∀ c,lo0<=c->c<hi0->c<=p/\∃ y z,L[p-c]? =some y/\L[c]? =some z/\P c= !ltP s y z) (R:List Pn) (k:Nat)
  (next:To (Er [] [61,63,64,65,113,115,116,117]) oU (.full 1 (.ret (.tup [])) (bJ R)) (.head (stk oU 4) (aCk s a m b mid n k k p) (bJ L))):∀ (f lo hi:Nat),hi-lo<=f->lo<=hi->lo0<=lo->hi<=hi0->bis P f lo hi=k->
  To (Er [] [61,63,64,65,113,115,116,117]) oU (.full 1 (.ret (.tup [])) (bJ R)) (.head (stk oU 4) (aCk s a m b mid n lo hi p) (bJ L))
 | 0,lo,hi,hf,h1,h2,h3,hk=>by
  have e:lo=hi:=by omega
  subst e
  have hk:lo=k:=hk
  subst hk
  exact next
 | f+1,lo,hi,hf,h1,h2,h3,hk=>by
  by_cases hlt:lo<hi
  .unfold bis at hk
   rw [if_pos hlt] at hk
   obtain ⟨c,hc⟩:∃ c,c=(lo+hi) / 2:=⟨_,rfl⟩
   rw [<-hc] at hk
   obtain ⟨hcp,y,z,gy,gz,hPc⟩:=hP c (by omega) (by omega)
   have hcm:=tF s hs y z (hat _ (Ap gy)) (hat _ (Ap gz))
   have g1:=FN gy
   have g2:=FN gz
   have hcl:c<L.length:=(Ab.1 gz).1
   have hpl:p-c<L.length:=(Ab.1 gy).1
   have hm:=GY lo hi
   rw [<-hc] at hm
   have hr:=RH (show c<=1000000 by omega)
   have hcK:c<(pnv L).length:=by rw [qQ];exact hcl
   have hpK:p-c<(pnv L).length:=by rw [qQ];exact hpl
   obtain ⟨q,hq⟩:∃ q,q=p-c:=⟨_,rfl⟩
   have hpc:(p:Int)-c=(q:Int):=by omega
   rw [<-hq] at g1 hpK hpl
   have hp9:p<=2000000:=by omega
   cases hv:P c with
   | true=>
    rw [hv,if_pos rfl] at hk
    have e9:ltP s y z=false:=by rw [hv] at hPc;simpa using hPc.symm
    have hv2:¬ iK s y z<0:=of_decide_eq_false e9
    have e8:(!decide (iK s y z<0))=true:=congrArg (fun b=>!b) e9
    have nx:=aGc s hs L hat hL a m b mid n p lo0 hi0 P hP R k next f (c+1) hi (by omega) (by omega) (by omega) h3 hk
    clear e9
    generalize iK s y z=v at *
    dsimp only [bJ] at nx⊢
    generalize pnv L=K at *
    clear hP next
    refine gV ?_
    refine aT fun h=>?_
    repeat' first | (refine gN (hEr [] [61,63,64,65,113,115,116,117]) ?_;conv=>whnf) | (rw [hm];refine Fm (Ac hr ?_)) | refine ⟨q,hpc,?_⟩ | refine ⟨_,g1,?_⟩ | refine ⟨c,rfl,?_⟩ | refine ⟨_,g2,?_⟩ | refine .pure _ [] hcm ?_ | refine Ac (fun _=>?_) (fun h=>absurd (e8.symm.trans h) (by decide)) | exact rfl | refine aY ?_ | refine aN ?_ | refine aT fun h=>?_ | refine aF fun h=>?_ | refine ⟨fun h=>?_,fun h=>?_⟩ | refine aJ ?_ | refine ⟨_,rfl,?_⟩ | refine aD ?_ | fail
    exact zW
   | false=>
    rw [hv,if_neg (by decide)] at hk
    have e9:ltP s y z=true:=by rw [hv] at hPc;simpa using hPc.symm
    have hv2:iK s y z<0:=of_decide_eq_true e9
    have e8:(!decide (iK s y z<0))=false:=congrArg (fun b=>!b) e9
    have nx:=aGc s hs L hat hL a m b mid n p lo0 hi0 P hP R k next f lo c (by omega) (by omega) h2 (by omega) hk
    clear e9
    generalize iK s y z=v at *
    dsimp only [bJ] at nx⊢
    generalize pnv L=K at *
    clear hP next
    refine gV ?_
    refine aT fun h=>?_
    repeat' first | (refine gN (hEr [] [61,63,64,65,113,115,116,117]) ?_;conv=>whnf) | (rw [hm];refine Fm (Ac hr ?_)) | refine ⟨q,hpc,?_⟩ | refine ⟨_,g1,?_⟩ | refine ⟨c,rfl,?_⟩ | refine ⟨_,g2,?_⟩ | refine .pure _ [] hcm ?_ | refine Ac (fun h=>absurd (e8.symm.trans h) (by decide)) (fun _=>?_) | exact rfl | refine aY ?_ | refine aN ?_ | refine aT fun h=>?_ | refine aF fun h=>?_ | refine ⟨fun h=>?_,fun h=>?_⟩ | refine aJ ?_ | refine ⟨_,rfl,?_⟩ | refine aD ?_ | fail
    exact zW
  .unfold bis at hk
   rw [if_neg hlt] at hk
   subst hk
   have e:lo=hi:=by omega
   subst e
   exact next
def thP (s:Sta) (L:List Pn) (p c:Nat):Bool:=match L[p-c]?,L[c]? with
 | some y,some z=>!ltP s y z
 | _,_=>false
theorem JB (X A:List Pn) (i:Nat) (h:X.length<=i):(X++A)[i]? =A[i-X.length]?:=Aj h
theorem aJp (s:Sta) (X U V Y:List Pn) (a m b mid n lo hi:Nat) (ha:a=X.length) (hm:m=a+U.length) (hb:b=m+V.length) (hU:0<U.length) (hV:0<V.length) (hmid:mid=(a+b) / 2) (hn:n=mid+m)
  (hlo:lo=if mid<m then n-b else a) (hhi:hi=if mid<m then mid else m) (ht:Tot (ltP s) (U++V)) (k:Nat) (hk:bis (thP s (X++(U++(V++Y))) (n-1)) (hi-lo) lo hi=k):
  (∀ c,lo<=c->c<hi->c<=n-1/\∃ y z,(X++(U++(V++Y)))[n-1-c]? =some y/\(X++(U++(V++Y)))[c]? =some z/\thP s (X++(U++(V++Y))) (n-1) c= !ltP s y z)/\lo<=hi/\a<=k/\k<=m/\m<=n-k/\n-k<=b/\k<=n/\
  (k-a=0\/V.length<=n-k-m\/ltO (ltP s) U[k-a-1]? V[n-k-m]?)/\(n-k-m=0\/U.length<=k-a\/ltO (ltP s) V[n-k-m-1]? U[k-a]?):=by
 have gu:∀ c,a<=c->c<m->(X++(U++(V++Y)))[c]? =U[c-a]?:=fun c h1 h2=>by
  rw [JB _ _ _ (by omega),Af (by omega),ha]
 have gv:∀ c,m<=c->c<b->(X++(U++(V++Y)))[c]? =V[c-m]?:=fun c h1 h2=>by
  rw [JB _ _ _ (by omega),JB _ _ _ (by omega),Af (by omega)]
  congr 1
  omega
 have hll:lo<=hi/\a<=lo/\hi<=m/\n-hi<=b/\m<=n-hi/\n-lo<=b/\hi<=n-1+1/\(lo=a\/n-lo=b)/\(hi=m\/n-hi=m):=by
  by_cases h:mid<m
  .rw [if_pos h] at hlo hhi
   omega
  .rw [if_neg h] at hlo hhi
   omega
 obtain ⟨l1,l2,l3,l4,l5,l6,l7,l8,l9⟩:=hll
 have hel:∀ c,lo<=c->c<hi->∃ y z,V[n-1-c-m]? =some y/\U[c-a]? =some z/\(X++(U++(V++Y)))[n-1-c]? =some y/\(X++(U++(V++Y)))[c]? =some z/\thP s (X++(U++(V++Y))) (n-1) c= !ltP s y z:=fun c h1 h2=>by
  have e1:V[n-1-c-m]? =some V[n-1-c-m]:=Aa (by omega)
  have e2:U[c-a]? =some U[c-a]:=Aa (by omega)
  have e3:=(gv (n-1-c) (by omega) (by omega)).trans e1
  have e4:=(gu c (by omega) (by omega)).trans e2
  refine ⟨_,_,e1,e2,e3,e4,?_⟩
  unfold thP
  rw [e3,e4]
 have htt:∀ y∈V,∀ z∈U,ltP s y z=false->ltP s z y=true:=fun y hy z hz h=>by
  rcases (Ca.1 ht).2.2 z hz y hy with q | q
  .exact q
  .rw [q] at h;cases h
 obtain ⟨b1,b2,b3,b4⟩:=H2 (thP s (X++(U++(V++Y))) (n-1)) (hi-lo) lo hi (Au _) l1
 rw [hk] at b1 b2 b3 b4
 refine ⟨fun c h1 h2=>⟨by omega,?_⟩,l1,by omega,by omega,by omega,by omega,by omega,?_,?_⟩
 .obtain ⟨y,z,_,_,h3,h4,h5⟩:=hel c h1 h2
  exact ⟨y,z,h3,h4,h5⟩
 .rcases b3 with h | h
  .rcases l8 with h2 | h2
   .left;omega
   .right;left;omega
  .by_cases h0:k=lo
   .rcases l8 with h2 | h2
    .left;omega
    .right;left;omega
   .obtain ⟨y,z,h1,h2,_,_,h5⟩:=hel (k-1) (by omega) (by omega)
    rw [h] at h5
    have h6:ltP s y z=false:=by simpa using h5.symm
    right;right
    refine ⟨z,y,?_,?_,htt y (Ap h1) z (Ap h2) h6⟩
    .rw [<-h2];congr 1;omega
    .rw [<-h1];congr 1;omega
 .by_cases h0:k=hi
  .rcases l9 with h2 | h2
   .right;left;omega
   .left;omega
  .obtain ⟨y,z,h1,h2,_,_,h5⟩:=hel k (by omega) (by omega)
   rcases b4 with h | h
   .exact absurd h h0
   .rw [h] at h5
    have h6:ltP s y z=true:=by simpa using h5.symm
    right;right
    refine ⟨y,z,?_,?_,h6⟩
    .rw [<-h1];congr 1;omega
    .rw [<-h2]
theorem aIZ (s:Sta) (V:List Pn) (u:Pn) (P:Nat->Bool) (o m b k:Nat) (hb:b=m+V.length) (hV:Up (ltP s) V) (ht:Tot (ltP s) (u::V)) (hP:∀ h y,m<=h->V[h-m]? =some y->(P h=true->ltP s y u=true)/\(P h=false->ltP s u y=true)) (hk:bis P (b-m) m b=k):
  m<=k/\k<=b/\V.take (k-m)++u::V.drop (k-m)=srt (ltP s) (u::V):=by
 obtain ⟨b1,b2,b3,b4⟩:=H2 P (b-m) m b (Au _) (by omega)
 rw [hk] at b1 b2 b3 b4
 refine ⟨b1,b2,aGP (gG s) hV ht ?_ ?_⟩
 .by_cases h0:k=m
  .left;omega
  .have e:V[k-m-1]? =some V[k-m-1]:=Aa (by omega)
   rcases b3 with h | h
   .exact absurd h h0
   .exact .inr ⟨_,_,e,rfl,(hP (k-1) _ (by omega) (by rw [<-e];congr 1;omega)).1 h⟩
 .by_cases h0:k=b
  .left;omega
  .have e:V[k-m]? =some V[k-m]:=Aa (by omega)
   rcases b4 with h | h
   .exact absurd h h0
   .exact .inr ⟨_,_,rfl,e,(hP k _ b1 e).2 h⟩
theorem aBE (X A:List Pn) (u:Pn) {a:Nat} (ha:a=X.length):(X++u::A)[a]? =some u:=by subst ha;simp
set_option maxHeartbeats 1000000 in
theorem aCj (s:Sta) (hs:OrdOK s) (X V Y:List Pn) (u:Pn) (a m b:Nat) (ha:a=X.length) (hm:m=a+1) (hb:b=m+V.length) (hl:b+Y.length<=999000) (hat:lO (X++(u::(V++Y)))) (hV:Up (ltP s) V) (ht:Tot (ltP s) (u::V)):
  aA Tryz.prog 349 [.row 0 0,ii a,ii m,ii b,kA s] (bJ (X++(u::(V++Y)))) (.ret (.tup [])) (bJ (X++(srt (ltP s) (u::V)++Y))):=by
 have gv:∀ h,m<=h->h<b->(X++(u::(V++Y)))[h]? =V[h-m]?:=fun h h1 h2=>by
  rw [JB _ _ _ (by omega),show h-X.length=(h-m)+1 by omega,Fs,Af (by omega)]
 obtain ⟨P,hP⟩:∃ P:Nat->Bool,∀ h y,(X++(u::(V++Y)))[h]? =some y->P h=ltP s y u:=⟨fun h=>match (X++(u::(V++Y)))[h]? with | some y=>ltP s y u | none=>false,fun h y e=>by simp only [e]⟩
 obtain ⟨k,hk⟩:∃ k,bis P (b-m) m b=k:=⟨_,rfl⟩
 have htt:∀ y∈V,ltP s u y=true\/ltP s y u=true:=fun y hy=>(Cv.1 ht).1 y hy
 obtain ⟨c1,c2,c3⟩:=aIZ s V u P 0 m b k hb hV ht (fun h y h1 h2=>by
  have hb2:h<b:=by have:=(Ab.1 h2).1;omega
  rw [hP h y ((gv h h1 hb2).trans h2)]
  refine ⟨id,fun h3=>?_⟩
  rcases htt y (Ap h2) with q | q
  .exact q
  .rw [q] at h3;cases h3) hk
 have eR:X++(srt (ltP s) (u::V)++Y)=X++(V.take (k-m)++u::(V.drop (k-m)++Y)):=by rw [<-c3];simp only [Ai,Cd]
 have eL:X++(u::(V++Y))=X++u::(V.take (k-m)++(V.drop (k-m)++Y)):=by rw [<-Ai (V.take _),Bv]
 have n1:=mv1 _ (V.drop (k-m)++Y) u (V.take (k-m)) X k a ha (by simp;omega) (by simp;omega) eR
 rw [<-eL] at n1
 have n2:=aGe s hs _ hat (by simp;omega) a u (aBE X _ u ha) P hP _ k n1 _ m b (Au _) (by omega) (by simp;omega) hk
 have e1:((m:Int)-a==1)=true:=by rw [hm];simp;omega
 dsimp only [bJ] at n2⊢
 generalize pnv (X++(u::(V++Y)))=L at *
 generalize pnv (X++(srt (ltP s) (u::V)++Y))=R at *
 have hm9:m<=b:=by omega
 have hb9:b<=1000000:=by omega
 have ha9:a<=m:=by omega
 clear n1 eR eL c3 gv hP htt hat ht hV hk
 refine cT (E:=(Er [] [61,63,64,65,113,115,116,117])) (fn:=Tryz.f349) (g:=.full 1 _ _) fun _=>?_
 exact zW
set_option maxHeartbeats 1000000 in
theorem aCi (s:Sta) (hs:OrdOK s) (X U Y:List Pn) (v:Pn) (a m b:Nat) (ha:a=X.length) (hm:m=a+U.length) (hb:b=m+1) (hU1:U.length≠1) (hl:b+Y.length<=999000) (hat:lO (X++(U++(v::Y)))) (hU:Up (ltP s) U) (ht:Tot (ltP s) (U++[v])):
  aA Tryz.prog 349 [.row 0 0,ii a,ii m,ii b,kA s] (bJ (X++(U++(v::Y)))) (.ret (.tup [])) (bJ (X++(srt (ltP s) (U++[v])++Y))):=by
 have hsw:srt (ltP s) (U++[v])=srt (ltP s) (v::U):=XA (gG s) ht
 rw [hsw]
 have ht:Tot (ltP s) (v::U):=ht.perm (Du)
 have gv:∀ h,a<=h->h<m->(X++(U++(v::Y)))[h]? =U[h-a]?:=fun h h1 h2=>by
  rw [JB _ _ _ (by omega),Af (by omega),ha]
 obtain ⟨P,hP⟩:∃ P:Nat->Bool,∀ h y,(X++(U++(v::Y)))[h]? =some y->P h= !ltP s v y:=⟨fun h=>match (X++(U++(v::Y)))[h]? with | some y=>!ltP s v y | none=>false,fun h y e=>by simp only [e]⟩
 obtain ⟨k,hk⟩:∃ k,bis P (m-a) a m=k:=⟨_,rfl⟩
 have htt:∀ y∈U,ltP s v y=true\/ltP s y v=true:=fun y hy=>(Cv.1 ht).1 y hy
 obtain ⟨c1,c2,c3⟩:=aIZ s U v P 0 a m k hm hU ht (fun h y h1 h2=>by
  have hb2:h<m:=by have:=(Ab.1 h2).1;omega
  rw [hP h y ((gv h h1 hb2).trans h2)]
  refine ⟨fun h3=>?_,fun h3=>by simpa using h3⟩
  rcases htt y (Ap h2) with q | q
  .rw [q] at h3;cases h3
  .exact q) hk
 have eR:X++(srt (ltP s) (v::U)++Y)=(X++U.take (k-a))++v::(U.drop (k-a)++Y):=by rw [<-c3];simp only [Ai,Cd]
 have eL:X++(U++(v::Y))=(X++U.take (k-a))++(U.drop (k-a)++v::Y):=by rw [Ai,<-Ai (U.take _),Bv]
 have n1:=mv2 _ v (X++U.take (k-a)) k (by simp;omega) _ (U.drop (k-a)) Y m rfl (by simp;omega) (by simp;omega) eR
 rw [<-eL] at n1
 have hmv:(X++(U++(v::Y)))[m]? =some v:=by rw [<-Ai];exact aBE (X++U) Y v (by simp;omega)
 have n2:=aGd s hs _ hat (by simp;omega) m v hmv P hP _ k n1 _ a m (Au _) (by omega) (by simp;omega) hk
 have e1:((m:Int)-a==1)=false:=by rw [hm];simp;omega
 have e2:((b:Int)-m==1)=true:=by rw [hb];simp;omega
 dsimp only [bJ] at n2⊢
 generalize pnv (X++(U++(v::Y)))=L at *
 generalize pnv (X++(srt (ltP s) (v::U)++Y))=R at *
 have hm9:m<=b:=by omega
 have hb9:b<=1000000:=by omega
 have ha9:a<=m:=by omega
 clear n1 eR eL c3 gv hP htt hat ht hU hk hmv
 refine cT (E:=(Er [] [61,63,64,65,113,115,116,117])) (fn:=Tryz.f349) (g:=.full 1 _ _) fun _=>?_
 exact zW
set_option maxHeartbeats 2000000 in
theorem aF4 (s:Sta) (hs:OrdOK s):∀ (N:Nat) (X U V Y:List Pn) (a m b:Nat),U.length+V.length<=N->a=X.length->m=a+U.length->b=m+V.length->0<U.length->0<V.length->b+Y.length<=999000->lO (X++(U++(V++Y)))->Up (ltP s) U->Up (ltP s) V->Tot (ltP s) (U++V)->
  aA Tryz.prog 349 [.row 0 0,ii a,ii m,ii b,kA s] (bJ (X++(U++(V++Y)))) (.ret (.tup [])) (bJ (X++(srt (ltP s) (U++V)++Y))):=by
 intro N
 induction N with
 | zero=>intro X U V Y a m b hN;omega
 | succ N ih=>
  intro X U V Y a m b hN ha hm hb pU pV hl hat hU hV ht
  by_cases hU1:U.length=1
  .obtain ⟨u,rfl⟩:=Lx.1 hU1
   exact aCj s hs X V Y u a m b ha hm hb hl hat hV ht
  by_cases hV1:V.length=1
  .obtain ⟨v,rfl⟩:=Lx.1 hV1
   exact aCi s hs X U Y v a m b ha hm hb hU1 hl hat hU ht
  obtain ⟨mid,hmid⟩:∃ mid,mid=(a+b) / 2:=⟨_,rfl⟩
  obtain ⟨n,hn⟩:∃ n,n=mid+m:=⟨_,rfl⟩
  obtain ⟨lo,hlo⟩:∃ lo,lo=if mid<m then n-b else a:=⟨_,rfl⟩
  obtain ⟨hi,hhi⟩:∃ hi,hi=if mid<m then mid else m:=⟨_,rfl⟩
  obtain ⟨k,hk⟩:∃ k,bis (thP s (X++(U++(V++Y))) (n-1)) (hi-lo) lo hi=k:=⟨_,rfl⟩
  obtain ⟨hP,hlh,k1,k2,k3,k4,k5,hc1,hc2⟩:=aJp s X U V Y a m b mid n lo hi ha hm hb pU pV hmid hn hlo hhi ht k hk
  have hst:(k-a)+(n-k-m)=mid-a:=by omega
  have heq:=aDu (gG s) hU hV ht hc1 hc2
  have uU:=sX hU (k-a)
  have uV:=sX hV (n-k-m)
  have t1:Tot (ltP s) (U.take (k-a)++V.take (n-k-m)):=Gc ((Ia _ U).append (Ia _ V)) ht
  have t2:Tot (ltP s) (U.drop (k-a)++V.drop (n-k-m)):=Gc ((Ib _ U).append (Ib _ V)) ht
  have tU:U.take (k-a)++U.drop (k-a)=U:=Bv _ _
  have tV:V.take (n-k-m)++V.drop (n-k-m)=V:=Bv _ _
  have lU1:(U.take (k-a)).length=k-a:=by simp;omega
  have lU2:(U.drop (k-a)).length=m-k:=by simp;omega
  have lV1:(V.take (n-k-m)).length=n-k-m:=by simp;omega
  have lV2:(V.drop (n-k-m)).length=b-(n-k):=by simp;omega
  generalize U.take (k-a)=U1 at *
  generalize U.drop (k-a)=U2 at *
  generalize V.take (n-k-m)=V1 at *
  generalize V.drop (n-k-m)=V2 at *
  have eL:X++(U++(V++Y))=X++(U1++(U2++(V1++(V2++Y)))):=by rw [<-tU,<-tV];simp only [Ai]
  have lS1:(srt (ltP s) (U1++V1)).length=mid-a:=by rw [(eJ (ltP s) (U1++V1)).length_eq,Aw];omega
  have p1:lO (X++(U1++(V1++(U2++(V2++Y))))):=hat.perm (by
   rw [eL]
   refine Dt X (Dt U1 ?_)
   rw [<-Ai U2,<-Ai V1]
   exact Dq _ Du)
  have p2:lO ((X++srt (ltP s) (U1++V1))++(U2++(V2++Y))):=p1.perm (by
   rw [Ai X]
   refine Dt X ?_
   rw [<-Ai U1]
   exact Dq _ (eJ (ltP s) (U1++V1)).symm)
  have d1:Stp 378 s k m (n-k) (pnv (X++(U++(V++Y)))) (pnv (X++(U1++(V1++(U2++(V2++Y)))))):=by
   rw [eL]
   by_cases q1:k<m
   .by_cases q2:m<n-k
    .refine .inl ⟨q1,q2,?_⟩
     have:=aGm s (X++U1) U2 V1 (V2++Y) k m (n-k) (by simp;omega) (by omega) (by omega) (by intro h;rw [h] at lU2;simp at lU2;omega) (by intro h;rw [h] at lV1;simp at lV1;omega) (by simp;omega)
     rw [Ai X,Ai X] at this
     exact this
    .refine .inr (.inl ⟨q1,q2,?_⟩)
     have:V1=[]:=Br.1 (by omega)
     rw [this]
     rfl
   .refine .inr (.inr ⟨q1,?_⟩)
    have:U2=[]:=Br.1 (by omega)
    rw [this]
    rfl
  have d2:Stp 349 s a k mid (pnv (X++(U1++(V1++(U2++(V2++Y)))))) (pnv (X++(srt (ltP s) (U1++V1)++(U2++(V2++Y))))):=by
   by_cases q1:a<k
   .by_cases q2:k<mid
    .exact .inl ⟨q1,q2,ih X U1 V1 (U2++(V2++Y)) a k mid (by omega) ha (by omega) (by omega) (by omega) (by omega) (by simp;omega) p1 (Ca.1 uU).1 (Ca.1 uV).1 t1⟩
    .refine .inr (.inl ⟨q1,q2,?_⟩)
     have:V1=[]:=Br.1 (by omega)
     rw [this,Bg,tE (gG s) (Ca.1 uU).1]
     rfl
   .refine .inr (.inr ⟨q1,?_⟩)
    have:U1=[]:=Br.1 (by omega)
    have e9:srt (ltP s) ([]++V1)=V1:=tE (gG s) (Ca.1 uV).1
    rw [this,e9]
    rfl
  have d3:Stp 349 s mid (n-k) b (pnv (X++(srt (ltP s) (U1++V1)++(U2++(V2++Y))))) (pnv (X++(srt (ltP s) (U++V)++Y))):=by
   rw [<-heq,Ai (srt (ltP s) (U1++V1))]
   by_cases q1:mid<n-k
   .by_cases q2:n-k<b
    .have:=ih (X++srt (ltP s) (U1++V1)) U2 V2 Y mid (n-k) b (by omega) (by simp;omega) (by omega) (by omega) (by omega) (by omega) hl p2 (Ca.1 uU).2.1 (Ca.1 uV).2.1 t2
     rw [Ai X,Ai X] at this
     exact .inl ⟨q1,q2,this⟩
    .refine .inr (.inl ⟨q1,q2,?_⟩)
     have:V2=[]:=Br.1 (by omega)
     rw [this,Bg,tE (gG s) (Ca.1 uU).2.1]
     rfl
   .refine .inr (.inr ⟨q1,?_⟩)
    have:U2=[]:=Br.1 (by omega)
    have e9:srt (ltP s) ([]++V2)=V2:=tE (gG s) (Ca.1 uV).2.1
    rw [this,e9]
    rfl
  have n1:=W5 s a m b mid n k (n-k) ((n-1:Nat):Int) (by omega) (by omega) _ _ _ _ d1 d2 d3
  have n2:=aGc s hs _ hat (by simp;omega) a m b mid n (n-1) lo hi _ hP _ k n1 _ lo hi (Au _) hlh (Au _) (Au _) hk
  have e1:((m:Int)-a==1)=false:=by simp;omega
  have e2:((b:Int)-m==1)=false:=by simp;omega
  have e3:((n:Int)-1)=((n-1:Nat):Int):=by omega
  have e4:=GY a b
  rw [<-hmid] at e4
  have hr:=RH (show mid<=1000000 by omega)
  rw [<-e3] at n2
  have en:(n:Int)=(mid:Int)+m:=by omega
  have hm9:m<=b:=by omega
  have hb9:b<=1000000:=by omega
  have ha9:a<=m:=by omega
  have hmid9:mid<=1000000:=by omega
  dsimp only [bJ,aCk] at n2⊢
  generalize pnv (X++(U++(V++Y)))=L at *
  generalize pnv (X++(srt (ltP s) (U++V)++Y))=R at *
  clear n1 d1 d2 d3 p1 p2 eL heq uU uV t1 t2 tU tV hP hk hat ht hU hV hc1 hc2
  by_cases hq:mid<m
  .rw [if_pos hq] at hlo hhi
   have elo:(lo:Int)=(mid:Int)+m-b:=by omega
   subst hhi
   rw [elo,en] at n2
   refine cT (E:=(Er [] [61,63,64,65,113,115,116,117])) (fn:=Tryz.f349) (g:=.full 1 _ _) fun _=>?_
   repeat' first | (refine gN (hEr [] [61,63,64,65,113,115,116,117]) ?_;conv=>whnf) | refine Ac (fun h=>absurd (e1.symm.trans h) (by decide)) (fun _=>?_) | refine Ac (fun h=>absurd (e2.symm.trans h) (by decide)) (fun _=>?_) | (rw [e4];refine Fm (Ac hr ?_)) | refine Ac (fun _=>?_) (fun h=>absurd (of_decide_eq_false h) (by omega)) | exact rfl | refine aY ?_ | refine aN ?_ | refine aT fun h=>?_ | refine aF fun h=>?_ | refine ⟨fun h=>?_,fun h=>?_⟩ | refine aJ ?_ | refine ⟨_,rfl,?_⟩ | refine aD ?_ | fail
   exact zW
  .rw [if_neg hq] at hlo hhi
   subst hlo hhi
   rw [en] at n2
   refine cT (E:=(Er [] [61,63,64,65,113,115,116,117])) (fn:=Tryz.f349) (g:=.full 1 _ _) fun _=>?_
   repeat' first | (refine gN (hEr [] [61,63,64,65,113,115,116,117]) ?_;conv=>whnf) | refine Ac (fun h=>absurd (e1.symm.trans h) (by decide)) (fun _=>?_) | refine Ac (fun h=>absurd (e2.symm.trans h) (by decide)) (fun _=>?_) | (rw [e4];refine Fm (Ac hr ?_)) | refine Ac (fun h=>absurd (of_decide_eq_true h) (by omega)) (fun _=>?_) | exact rfl | refine aY ?_ | refine aN ?_ | refine aT fun h=>?_ | refine aF fun h=>?_ | refine ⟨fun h=>?_,fun h=>?_⟩ | refine aJ ?_ | refine ⟨_,rfl,?_⟩ | refine aD ?_ | fail
   exact zW
theorem yU {n:Nat} (h:n<=1000000):B0 n 88:=⟨by simp only [maxLen];omega,by omega⟩
theorem aF7 (s:Sta) (hs:OrdOK s) (P:List Pn) (n:Nat) (hn:n=P.length) (hl:n<40) (hat:lO P) (ht:Tot (ltP s) P):
  aA Tryz.prog 308 [.row 0 0,ii n,kA s] (bJ P) (.ret (.tup [])) (bJ (srt (ltP s) P)):=by
 by_cases h20:n<20
 .have h1:=N3 s hs [] P [] 0 n rfl (by simp;omega) (by simp;omega) hat
  rw [Bp,Bp,Bg,Bg] at h1
  generalize srt (ltP s) P=R at *
  dsimp only [bJ] at h1⊢
  generalize pnv P=L at *
  clear hn hat ht
  refine cT (E:=E) (fn:=Tryz.f308) (g:=.full 1 _ _) fun _=>?_
  repeat' first | (refine gN hE ?_;conv=>whnf) | exact rfl | refine aY ?_ | refine aN ?_ | refine aT fun h=>?_ | refine aF fun h=>?_ | refine ⟨fun h=>?_,fun h=>?_⟩ | refine aJ ?_ | refine ⟨_,rfl,?_⟩ | refine aD ?_ | fail
  refine gV ?_
  refine Ac (fun h=>absurd (of_decide_eq_true h) (by omega)) (fun _=>?_)
  repeat' first | (refine gN hE ?_;conv=>whnf) | refine .eff [] [0] _ _ rfl h1 ?_ | exact rfl | refine aY ?_ | refine aN ?_ | refine aT fun h=>?_ | refine aF fun h=>?_ | refine ⟨fun h=>?_,fun h=>?_⟩ | refine aJ ?_ | refine ⟨_,rfl,?_⟩ | refine aD ?_ | fail
  refine gV ?_
  exact zW
 .obtain ⟨A,B,rfl,hA⟩:∃ A B,P=A++B/\A.length=20:=⟨P.take 20,P.drop 20,(Bv 20 P).symm,by simp;omega⟩
  rw [Aw,hA] at hn
  have hatA:lO A:=fun p hp=>hat p (Dj _ hp)
  have hatB:lO B:=fun p hp=>hat p (Cu _ hp)
  obtain ⟨tA,tB,_⟩:=Ca.1 ht
  have pA:=eJ (ltP s) A
  have pB:=eJ (ltP s) B
  have lA:(srt (ltP s) A).length=20:=by rw [pA.length_eq,hA]
  have lB:(srt (ltP s) B).length=B.length:=pB.length_eq
  have h1:=N3 s hs [] A B 0 20 rfl (by simp;omega) (by omega) hatA
  rw [Bp,Bp] at h1
  have h2:=N3 s hs (srt (ltP s) A) B [] 20 n lA.symm (by omega) (by simp;omega) hatB
  rw [Bg,Bg] at h2
  by_cases he:n=20
  .have hB:B=[]:=Br.1 (by omega)
   subst hB
   rw [Bg] at h1 h2⊢
   have e9:srt (ltP s) ([]:List Pn)=[]:=rfl
   rw [e9,Bg] at h2
   rw [Bg] at h1
   generalize srt (ltP s) A=R at *
   dsimp only [bJ] at h1 h2⊢
   generalize pnv A=L at *
   clear hA hat ht hatA hatB tA tB pA pB lA lB
   refine cT (E:=E) (fn:=Tryz.f308) (g:=.full 1 _ _) fun _=>?_
   repeat' first | (refine gN hE ?_;conv=>whnf) | exact rfl | refine aY ?_ | refine aN ?_ | refine aT fun h=>?_ | refine aF fun h=>?_ | refine ⟨fun h=>?_,fun h=>?_⟩ | refine aJ ?_ | refine ⟨_,rfl,?_⟩ | refine aD ?_ | fail
   refine gV ?_
   refine Ac (fun _=>?_) (fun h=>absurd (of_decide_eq_false h) (by omega))
   repeat' first | (refine gN hE ?_;conv=>whnf) | refine .eff [] [0] _ _ rfl h1 ?_ | exact rfl | refine aY ?_ | refine aN ?_ | refine aT fun h=>?_ | refine aF fun h=>?_ | refine ⟨fun h=>?_,fun h=>?_⟩ | refine aJ ?_ | refine ⟨_,rfl,?_⟩ | refine aD ?_ | fail
   refine gV ?_
   refine Ac (fun h=>absurd (of_decide_eq_true h) (by omega)) (fun _=>?_)
   repeat' first | (refine gN hE ?_;conv=>whnf) | refine .eff [] [0] _ _ rfl h2 ?_ | exact rfl | refine aY ?_ | refine aN ?_ | refine aT fun h=>?_ | refine aF fun h=>?_ | refine ⟨fun h=>?_,fun h=>?_⟩ | refine aJ ?_ | refine ⟨_,rfl,?_⟩ | refine aD ?_ | fail
   refine gV ?_
   exact zW
  .have uA:=pD (gG s) tA
   have uB:=pD (gG s) tB
   have p2:(srt (ltP s) A++srt (ltP s) B).Perm (A++B):=pA.append pB
   have t2:Tot (ltP s) (srt (ltP s) A++srt (ltP s) B):=ht.perm p2.symm
   have h3:=aF4 s hs _ [] (srt (ltP s) A) (srt (ltP s) B) [] 0 20 n (Au _) rfl (by simp;omega) (by omega) (by omega) (by omega) (by simp;omega) (by rw [Bp,Bg];exact hat.perm p2.symm) uA uB t2
   rw [Bp,Bp,Bg,Bg] at h3
   have e3:srt (ltP s) (srt (ltP s) A++srt (ltP s) B)=srt (ltP s) (A++B):=MV (gG s) (((eJ _ _).trans p2).trans (eJ _ _).symm) (pD (gG s) t2) (pD (gG s) ht)
   rw [e3] at h3
   generalize srt (ltP s) (A++B)=R at *
   dsimp only [bJ] at h1 h2 h3⊢
   generalize pnv (A++B)=L at *
   generalize pnv (srt (ltP s) A++B)=L2 at *
   generalize pnv (srt (ltP s) A++srt (ltP s) B)=L3 at *
   clear hA hat ht hatA hatB tA tB pA pB lA lB uA uB p2 t2 e3
   refine cT (E:=E) (fn:=Tryz.f308) (g:=.full 1 _ _) fun _=>?_
   repeat' first | (refine gN hE ?_;conv=>whnf) | exact rfl | refine aY ?_ | refine aN ?_ | refine aT fun h=>?_ | refine aF fun h=>?_ | refine ⟨fun h=>?_,fun h=>?_⟩ | refine aJ ?_ | refine ⟨_,rfl,?_⟩ | refine aD ?_ | fail
   refine gV ?_
   refine Ac (fun _=>?_) (fun h=>absurd (of_decide_eq_false h) (by omega))
   repeat' first | (refine gN hE ?_;conv=>whnf) | refine .eff [] [0] _ _ rfl h1 ?_ | exact rfl | refine aY ?_ | refine aN ?_ | refine aT fun h=>?_ | refine aF fun h=>?_ | refine ⟨fun h=>?_,fun h=>?_⟩ | refine aJ ?_ | refine ⟨_,rfl,?_⟩ | refine aD ?_ | fail
   refine gV ?_
   refine Ac (fun h=>absurd (of_decide_eq_true h) (by omega)) (fun _=>?_)
   repeat' first | (refine gN hE ?_;conv=>whnf) | refine .eff [] [0] _ _ rfl h2 ?_ | exact rfl | refine aY ?_ | refine aN ?_ | refine aT fun h=>?_ | refine aF fun h=>?_ | refine ⟨fun h=>?_,fun h=>?_⟩ | refine aJ ?_ | refine ⟨_,rfl,?_⟩ | refine aD ?_ | fail
   refine gV ?_
   refine Ac (fun _=>?_) (fun h=>absurd (of_decide_eq_false h) (by omega))
   repeat' first | (refine gN hE ?_;conv=>whnf) | exact rfl | refine aY ?_ | refine aN ?_ | refine aT fun h=>?_ | refine aF fun h=>?_ | refine ⟨fun h=>?_,fun h=>?_⟩ | refine aJ ?_ | refine ⟨_,rfl,?_⟩ | refine aD ?_ | fail
   refine gV ?_
   refine Ac (fun h=>absurd (of_decide_eq_true h) (by omega)) (fun _=>?_)
   repeat' first | (refine gN hE ?_;conv=>whnf) | refine Ac (fun _=>?_) (fun h=>absurd (of_decide_eq_false h) (by omega)) | refine .eff [] [0] _ _ rfl h3 ?_ | exact rfl | refine aY ?_ | refine aN ?_ | refine aT fun h=>?_ | refine aF fun h=>?_ | refine ⟨fun h=>?_,fun h=>?_⟩ | refine aJ ?_ | refine ⟨_,rfl,?_⟩ | refine aD ?_ | fail
   refine gV ?_
   exact zW
theorem aF8 (s:Sta) (hs:OrdOK s) (P:List Pn) (hl:P.length<40) (hat:lO P) (ht:Tot (ltP s) P):
  aA Tryz.prog 245 [.row 0 0,kA s] (bJ P) (.ret (.tup [])) (bJ (srt (ltP s) P)):=by
 have h1:=aF7 s hs P (pnv P).length (by simp) (by simpa using hl) hat ht
 generalize srt (ltP s) P=R at *
 have hlen:(pnv P).length<=1000000:=by simp;omega
 dsimp only [bJ] at h1⊢
 generalize pnv P=L at *
 clear hat ht
 refine cT (E:=E) (fn:=Tryz.f245) (g:=.full 1 _ _) fun _=>?_
 exact zW
theorem VL (xs:List Pn) (hx:xs.length<=1000000):aA Tryz.prog 64 [.slice 11 (pnv xs) .no] [] (.ret (.row 0 0)) (bJ xs):=by
 refine cT (E:=(Er [2,5] [])) (fn:=Tryz.f64) (g:=.full 0 _ _) fun _=>?_
 refine gV ?_
 intro b hb
 refine gV ?_
 refine ⟨fun h=>?_,fun h=>?_⟩
 .refine gV ?_
  refine ⟨[],[1],⟨rfl,rfl⟩,?_⟩;conv=>whnf
  rw [hb (by simpa using h)]
  exact ⟨rfl,rfl⟩
 .refine gV ?_
  refine ⟨yU (by simpa using hx),?_⟩
  refine gV ?_
  refine ⟨[],[1],⟨rfl,rfl⟩,?_⟩
  exact ⟨rfl,rfl⟩
theorem Y1 (s:Sta) (hs:OrdOK s) (hl:s.pend.length<40) (hat:lO s.pend) (ht:Tot (ltP s) s.pend):
  aA Tryz.prog 161 [s.av] [] (.ret (.slice 11 (pnv (A0 s)) .no)) []:=by
 have h1:=VL s.pend (by omega)
 have h2:=aF8 s hs s.pend hl hat ht
 have e:srt (ltP s) s.pend=A0 s:=rfl
 rw [e] at h2
 generalize A0 s=R at *
 refine cT (E:=E) (fn:=Tryz.f161) (g:=.pure _) fun _=>?_
 refine gV ?_
 refine .eff [] [] _ _ rfl h1 ?_
 refine gV ?_
 refine .eff [2,0] [1] _ _ rfl h2 ?_
 refine gW (by first | exact hE | exact hEr _ _ | exact hEo _ _) ?_;conv=>whnf
end Go.Proofs.YtpomiadgghchnaaGreat
