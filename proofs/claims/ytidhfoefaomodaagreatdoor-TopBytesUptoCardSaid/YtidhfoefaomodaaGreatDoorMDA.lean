/- Part 9 of what the statement rests on. -/
import Derived.Test.YtidhfoefaomodaaGreatDoorMCA
set_option linter.all false
set_option maxHeartbeats 1000000
open And renaming intro->Ae
open Bool renaming and_false->Bl,false_and->De,false_eq_true->Cr,true_and->Bw
open Exists renaming intro->Aq
open Int renaming fdiv->Kr,fdiv_eq_ediv_of_nonneg->Ei,natCast_mul->Es,tdiv->Ma,toNat->Dx,toNat_natCast->Br
open List renaming append_assoc->Ag,append_nil->Ar,cons_append->Bu,dropLast_concat_getLast->Kz,drop_eq_getElem_cons->Aa,drop_eq_nil_of_le->Ab,drop_sublist->Ip,eraseIdx_eq_take_drop_succ->Gi,foldl_cons->Bb,getElem?_append_left->Ah,getElem?_append_right->Al,getElem?_cons_succ->Gc,getElem?_eq_getElem->Ac,getElem?_eq_some_iff->Ad,getElem?_map->Bi,getElem?_set_ne->Bf,getElem?_set_self->Ay,getElem_mem->Ax,getElem_of_mem->Ja,length_append->Ai,length_cons->Ak,length_drop->Ew,length_eq_one_iff->Mj,length_eq_zero_iff->Cv,length_map->Cm,length_pos_iff->Eg,length_set->Dt,map_append->Bq,map_cons->Bj,map_drop->Jd,map_set->Gz,map_take->Gq,mem_append->Bd,mem_append_left->Cf,mem_append_right->Ct,mem_cons->Aw,mem_cons_of_mem->Av,mem_cons_self->Ao,mem_of_getElem?->Az,mem_range->Hx,mem_singleton->Dp,mem_singleton_self->Jk,nil_append->Bp,pairwise_append->Cj,pairwise_cons->Ck,pairwise_singleton->Jj,perm_append_comm->Ee,perm_middle->Ey,prefix_refl->Cw,range->Du,set_append_right->Hj,take_append_drop->Bv,take_length->Gm,take_sublist->Im,take_succ_eq_append_getElem->Hn
open List.Pairwise renaming imp->Jq,nil->Lp,sublist->Gk
open List.Perm renaming append_left->Eb,append_right->Dz,refl->Jr
open Nat renaming add_assoc->Kk,add_comm->Mh,add_mul->Cg,add_sub_cancel->Ie,and_two_pow_sub_one_eq_mod->Ka,blt->Fp,blt_eq->Kb,div_add_mod->Gg,div_le_self->Hl,div_lt_iff_lt_mul->Dv,div_mul_le_self->Hr,eq_zero_or_pos->Fz,le_div_iff_mul_le->Il,le_refl->Bh,le_trans->Dh,lt_or_ge->Nj,lt_trans->Nk,min_eq_left->Gy,mod_le->Mi,mod_lt->Fq,mul_add->Gr,mul_add_div->Ky,mul_assoc->Ij,mul_comm->Dn,mul_div_mul_right->Mv,mul_le_mul->Gs,mul_le_mul_right->Cc,one_mul->Hb,pow_add->Ft,pow_le_pow_right->Fg,pow_pos->Nb,strongRecOn->Ih,testBit_two_pow->Lf,two_pow_add_eq_or_of_lt->Iq,zero_add->Bx,zero_mul->Mf
open Or renaming inl->Gl,inr->Kx
open UInt8 renaming ofNat->Dj
namespace Go.Proofs.YtidhfoefaomodaaGreatDoor
open Go Go.AW Go.Proofs
def zqda0{P:Prop}(h:P:=by
 refine gV ?_;refine aT λ h=>gV ?_;refine Ae (Ae d_ d_) (gV ?_);rw [e];refine aJ (gV ?_);refine Ae o_ (gV ?_);rw [d];refine Gl (Ae (Ae (show Dx (k:Int)<=64 by omega) (Ae (by simp only [dA];omega) (by simp only [bN];omega))) ?_);refine gV ?_;rw [a]
 exact zW):P:=h
def zqda1{P:Prop}(h:P:=by
 dsimp only [bY] at next⊢
 generalize pnv L=K at *
 refine gV ?_
 exact zW):P:=h
def zqda2{P:Prop}(h:P:=by
 subst c;refine c_ Tryz.f230 λ_=>?_;have hz1:=λ d=>OV d
 exact zW):P:=h
def zqda3{P:Prop}(h:P:=by exact c_ Tryz.f109 λ_=>zW):P:=h
def zqda4{P:Prop}(h:P:=by
 rw [Ab o_] at b;have b:a++[]=R:=b;rw [Ar] at b;subst b;refine gV ?_
 exact zW):P:=h
def zqda5{P:Prop}(h:P:=by
 refine cT (E:=(Er [] [61,63,64,65,113,115,116,117])) (fn:=Tryz.f233) (g:=.full 1 _ _) λ_=>?_
 exact zW):P:=h
def zqda6{P:Prop}(h:P:=by
 generalize kO p.length q.length=t at *
 generalize kO a.seq b.seq=u at *
 refine gV ?_
 exact zW):P:=h
def zqda7{P:Prop}(h:P:=by
 refine dF hE 2 ?_;conv=>whnf
 exact To.cutC [2,8,9,10,11,13,14,15,16,17,18] 0 rfl rfl rfl rfl fin):P:=h
def zqda8{P:Prop}(h:P:=by
 refine dF hE 3 ?_;conv=>whnf
 exact To.cutC [2,8,9,10,11,13,14,15,16,17,18] 0 rfl rfl rfl rfl step):P:=h
def zqda9{P:Prop}(h:P:=by
 refine dF hE 2 ?_;conv=>whnf
 exact To.cutC [2,8,9,10,11,13,14,15,16] 0 rfl rfl rfl rfl fin):P:=h
def zqda10{P:Prop}(h:P:=by
 refine dF hE 3 ?_;conv=>whnf
 exact To.cutC [2,8,9,10,11,13,14,15,16] 0 rfl rfl rfl rfl step):P:=h
def zqda11{P:Prop}(h:P:=by exact c_ Tryz.f231 λ_=>zW):P:=h
def zqda12{P:Prop}(h:P:=by
 subst a
 exact c_ Tryz.f283 λ_=>zW):P:=h
def FK{a b A B:Nat}(d:a<=A)(c:b<=B):a*b<=A*B:=Gs d c
def aB1(x y:Nat)(i:x<18446744073709551616)(h:y<18446744073709551616):
  ∃ a b c d:Nat,a=x % 4294967296*(y % 4294967296)/\b=x / 4294967296*(y % 4294967296)/\c=x % 4294967296*(y / 4294967296)/\d=x / 4294967296*(y / 4294967296)/\
   a<=18446744065119617025/\b<=18446744065119617025/\c<=18446744065119617025/\d<=18446744065119617025/\x*y=d*18446744073709551616+(b+c)*4294967296+a:=by
 refine ⟨_,_,_,_,rfl,rfl,rfl,rfl,FK (A:=4294967295) (B:=4294967295) o_ o_,FK (A:=4294967295) (B:=4294967295) o_ o_,FK (A:=4294967295) (B:=4294967295) o_ o_,FK (A:=4294967295) (B:=4294967295) o_ o_,?_⟩;have e:x=x / 4294967296*4294967296+x % 4294967296:=o_;have g:y=y / 4294967296*4294967296+y % 4294967296:=o_;generalize x / 4294967296=p at *
 generalize x % 4294967296=q at *
 generalize y / 4294967296=r at *
 generalize y % 4294967296=s at *
 subst e g;simp only [Cg,Gr];have h1:p*4294967296*(r*4294967296)=p*r*18446744073709551616:=by rw [Nat.mul_mul_mul_comm]
 have f:p*4294967296*s=p*s*4294967296:=Nat.mul_right_comm ..;have h3:q*(r*4294967296)=q*r*4294967296:=(Ij ..).symm;rw [h1,f,h3];omega
def SR(x y:Nat):Nat:=x*y / 18446744073709551616
def HW(x y:Nat):Nat:=x*y % 18446744073709551616
def aJw{x y a b c d:Nat}(h:x*y=d*18446744073709551616+(b+c)*4294967296+a)(g:a<=18446744065119617025)(e:b<=18446744065119617025)(f:c<=18446744065119617025):
  d+(b+a / 4294967296) / 4294967296+((b+a / 4294967296) % 4294967296+c) / 4294967296=SR x y:=by
 unfold SR;rw [h];omega
abbrev uu(n:Nat):aa:=.int .u64 (n:Int)
def KC(n:Nat):Nat:=if n<18446744073709551616 then n else 18446744073709551615
def JV(a b:Nat):Nat:=KC (a+b)
def yU(a b:Nat):Nat:=KC (a*b / 4294967296)
def ofF(n:Int):Nat:=if n<=0 then 0 else if n<4294967296 then n.toNat*4294967296 else 18446744073709551615
def E1(a b:Nat):Nat:=if a=0 then 0 else if b=0 then 18446744073709551615 else KC (a*4294967296 / b)
def OF(a b:Int):Nat:=E1 (max a 0).toNat (max b 0).toNat
def N3(n:Nat):KC n<18446744073709551616:=by unfold KC;split<;>omega
def aBl(a b:Nat):JV a b<18446744073709551616:=N3 _
def OW(a b:Nat):yU a b<18446744073709551616:=N3 _
def aK1(a b:Nat):E1 a b<18446744073709551616:=by
 unfold E1
 repeat' split
 .omega
 .omega
 .exact N3 _
def WP(n:Int):ofF n<18446744073709551616:=by
 unfold ofF
 repeat' split
 all_goals omega
def aOi{a b:Nat}(c:0<b)(h:b<=a / 4294967296):KC (a*4294967296 / b)=18446744073709551615:=by have h1:b*4294967296<=a:=o_;have d:18446744073709551616*b<=a*4294967296:=o_;have h3:18446744073709551616<=a*4294967296 / b:=(Il c).2 d;exact if_neg (Nat.not_lt.2 h3)
def aOh{a b:Nat}(d:a / 4294967296<b):a*4294967296 / b<18446744073709551616/\KC (a*4294967296 / b)=a*4294967296 / b:=by have c:a*4294967296<18446744073709551616*b:=o_;have h3:a*4294967296 / b<18446744073709551616:=(Dv o_).2 c;exact ⟨h3,if_pos h3⟩
set_option maxRecDepth 10000
structure Dg(y1 y0 u v q r:Nat):Prop where
 rest:u=q*y1+r
 top:u*4294967296+v<(q+1)*(y1*4294967296+y0)
 few:q<=4294967297
def qY(q b a:Nat):q*(b*4294967296+a)=q*b*4294967296+q*a:=by rw [Gr,Ij]
def Dg.zero{c d u v:Nat}(h1:2147483648<=c)(g:d<4294967296)(i:v<4294967296)(j:u<c*4294967296+d):Dg c d u v (u / c) (u % c):=by
 have e:u=u / c*c+u % c:=by rw [Dn];exact (Gg u c).symm
 have f:u % c<c:=Fq _ o_;refine ⟨e,?_,?_⟩
 .rw [qY,Cg,Hb,Cg,Cg _ _ d,Hb];generalize u / c*c=a at *
  generalize u / c*d=b;omega
 .have h:u / c<4294967298:=by refine (Dv o_).2 ?_;omega
  omega
def Dg.step{c d u v q r:Nat}(h:Dg c d u v q r)(m:v<4294967296)(p:u<c*4294967296+d)(g:4294967296<=q\/4294967296*r+v<q*d):1<=q/\Dg c d u v (q-1) (r+c):=by
 obtain ⟨e,l,n⟩:=h;have j:1<=q:=by
  rcases g with h | h
  .omega
  .rcases Fz q with rfl | i
   .rw [Mf] at h;omega
   .exact i
 refine ⟨j,?_⟩;have f:q=q-1+1:=o_;have k:u*4294967296+v<q*(c*4294967296+d):=by
  rcases g with h | h
  .have i:4294967296*(c*4294967296+d)<=q*(c*4294967296+d):=Cc _ h;omega
  .rw [qY];generalize q*c=a at *
   generalize q*d=b at *
   omega
 refine ⟨?_,by rw [<-f];exact k,by omega⟩;have o:q*c=(q-1)*c+c:=by rw [f,Ie,Cg,Hb]
 omega
def Dg.fin{d c u v q r:Nat}(h:Dg d c u v q r)(g:q*c<=4294967296*r+v):q*(d*4294967296+c)<=u*4294967296+v/\q=(u*4294967296+v) / (d*4294967296+c):=by
 obtain ⟨e,f,i⟩:=h;have hl:q*(d*4294967296+c)<=u*4294967296+v:=by
  rw [qY];generalize q*d=a at *
  generalize q*c=b at *
  omega
 refine ⟨hl,?_⟩;have hp:0<d*4294967296+c:=by
  rcases Fz (d*4294967296+c) with h | h
  .rw [h,Nat.mul_zero] at f;omega
  .exact h
 refine Nat.le_antisymm ((Il hp).2 hl) ?_;have:=(Dv hp).2 f;omega
def Dg.far{a v q r:Nat}(d:a<4294967296)(b:q<=4294967296)(c:4294967296<=r):q*a<=4294967296*r+v:=by have h1:q*a<=4294967296*4294967295:=Gs b o_;omega
def aK2{Y u v w a t b:Nat}(d:0<Y)(h1:a=(u*4294967296+v) / Y)(i:t=u*4294967296+v-a*Y)(f:b=(t*4294967296+w) / Y)(h:w<4294967296):a*4294967296+b=(u*18446744073709551616+v*4294967296+w) / Y:=by
 have e:u*4294967296+v=a*Y+t:=by
  have:a*Y<=u*4294967296+v:=by rw [h1];exact Hr ..
  omega
 have g:u*18446744073709551616+v*4294967296+w=Y*(a*4294967296)+(t*4294967296+w):=by
  have:Y*(a*4294967296)=a*Y*4294967296:=by rw [<-Ij,Dn Y a]
  rw [this];have h3:u*18446744073709551616=u*4294967296*4294967296:=by rw [Ij]
  have c:(u*4294967296+v)*4294967296=(a*Y+t)*4294967296:=by rw [e]
  rw [Cg,Cg] at c;rw [h3,c,Kk]
 rw [g,Ky d,<-f]
def UC{Y N q t:Nat}(a:0<Y)(h1:q=N / Y)(b:t=N-q*Y):t<Y:=by have e:=Gg N Y;have l:=Fq N a;subst h1;rw [Dn] at e;omega
structure Ord{α:Type}(lt:α->α->Bool):Prop where
 tr:∀ a b c,lt a b=true->lt b c=true->lt a c=true
 irr:∀ a,lt a a=false
def Up{α:Type}(lt:α->α->Bool)(l:List α):Prop:=l.Pairwise λ a b=>lt a b=true
def Tot{α:Type}(lt:α->α->Bool)(l:List α):Prop:=l.Pairwise λ a b=>lt a b=true\/lt b a=true
def Tot.perm{α:Type}{lt:α->α->Bool}{l m:List α}(h:l.Perm m)(a:Tot lt l):Tot lt m:=h.pairwise a λ h=>h.symm
def Ord.asym{α:Type}{lt:α->α->Bool}(o:Ord lt){a b:α}(h:lt a b=true):lt b a=false:=by
 cases c:lt b a with
 | false=>rfl
 | true=>have:=o.tr _ _ _ h c;rw [o.irr] at this;cases this
def VE{α:Type}{lt:α->α->Bool}(o:Ord lt):∀ {l m:List α},l.Perm m->Up lt l->Up lt m->l=m
 | [],m,h,_,_=>(List.nil_perm.1 h).symm
 | x::l,[],h,_,_=>absurd h.length_eq s_
 | x::l,y::m,h,h1,h2=>by
  have e:x=y:=by
   have b:x∈y::m:=h.mem_iff.1 (Ao ..);have a:y∈x::l:=h.mem_iff.2 (Ao ..);rcases Aw.1 b with e | b
   .exact e
   rcases Aw.1 a with e | a
   .exact e.symm
   have d:=(Ck.1 h1).1 y a;have c:=(Ck.1 h2).1 x b;rw [o.asym d] at c;cases c
  subst e;rw [VE o ((List.perm_cons x).1 h) (Ck.1 h1).2 (Ck.1 h2).2]
def aDm{α:Type}{lt:α->α->Bool}{A B:List α}{x:α}(f:Up lt (A++B))(g:∀ a∈A,lt a x=true)(d:∀ b∈B,lt x b=true):Up lt (A++x::B):=by
 obtain ⟨h1,e,h3⟩:=Cj.1 f;refine Cj.2 ⟨h1,Ck.2 ⟨d,e⟩,λ a h b c=>?_⟩;rcases Aw.1 c with rfl | c
 .exact g a h
 .exact h3 a h b c
def AE{α:Type}{lt:α->α->Bool}(o:Ord lt){A B:List α}(j:Up lt A)(i:Up lt B)(h:A=[]\/B=[]\/∃ g x y f,A=g++[x]/\B=y::f/\lt x y=true):∀ a∈A,∀ b∈B,lt a b=true:=by
 intro a h1 b c;rcases h with rfl | rfl | ⟨g,x,y,f,rfl,rfl,h⟩
 .cases h1
 .cases c
 have d:a=x\/lt a x=true:=by
  rcases Bd.1 h1 with h1 | h1
  .exact .inr ((Cj.1 j).2.2 a h1 x (Ao ..))
  .exact .inl (by simpa using h1)
 have e:b=y\/lt y b=true:=by
  rcases Aw.1 c with c | c
  .exact .inl c
  .exact .inr ((Ck.1 i).1 b c)
 rcases d with rfl | d<;>rcases e with rfl | e
 .exact h
 .exact o.tr _ _ _ h e
 .exact o.tr _ _ _ d h
 .exact o.tr _ _ _ d (o.tr _ _ _ h e)
def aMj{α:Type}{lt:α->α->Bool}(o:Ord lt){f g h e j i:List α}(z:Up lt (f++g))(w:Up lt (h++e))
  (h1:f=[]\/e=[]\/∃ l x y k,f=l++[x]/\e=y::k/\lt x y=true) (v:h=[]\/g=[]\/∃ l x y k,h=l++[x]/\g=y::k/\lt x y=true)
  (m:j.Perm (f++h)) (n:i.Perm (g++e)) (r:Up lt j) (B:Up lt i):Up lt (j++i)/\(j++i).Perm (f++g++(h++e)):=by
 obtain ⟨p,t,q⟩:=Cj.1 z;obtain ⟨u,D,A⟩:=Cj.1 w;have C:=AE o p D h1;have s:=AE o u t v;refine ⟨Cj.2 ⟨r,B,λ a d b c=>?_⟩,?_⟩
 .rcases Bd.1 (m.mem_iff.1 d) with d | d<;>rcases Bd.1 (n.mem_iff.1 c) with c | c
  .exact q a d b c
  .exact C a d b c
  .exact s a d b c
  .exact A a d b c
 .refine (m.append n).trans ?_;rw [Ag,Ag];refine Eb f ?_;rw [<-Ag,<-Ag];exact Dz e Ee
def rX{α:Type}(lt:α->α->Bool)(x:α)(l:List α):Nat->Nat
 | 0=>0
 | k+1=>match l[k]? with
  | some y=>if lt x y then rX lt x l k else k+1
  | none=>k+1
def qM{α:Type}(lt:α->α->Bool)(l:List α)(x:α):List α:=l.take (rX lt x l l.length)++x::l.drop (rX lt x l l.length)
def srt{α:Type}(lt:α->α->Bool)(l:List α):List α:=l.foldl (qM lt) []
def aAu{α:Type}{lt:α->α->Bool}{x:α}{l:List α}:∀ k,rX lt x l k<=k
 | 0=>Bh _
 | k+1=>by
  unfold rX;split
  .split
   .exact Nat.le_succ_of_le (aAu k)
   .exact Bh _
  .exact Bh _
def aAv{α:Type}{lt:α->α->Bool}{x:α}{l:List α}:∀ (k i:Nat) (h:i<l.length),rX lt x l k<=i->i<k->lt x l[i]=true
 | 0,i,h,_,h2=>by omega
 | k+1,i,h,h1,h2=>by
  unfold rX at h1;split at h1
  .rename_i y a;split at h1
   .rename_i hl;by_cases e:i=k
    .subst e;rw [Ac h] at a;cases a;exact hl
    .exact aAv k i h h1 o_
   .omega
  .omega
def aAt{α:Type}{lt:α->α->Bool}{x:α}{l:List α}:∀ (k:Nat) (_:k<=l.length),rX lt x l k=0\/∃ (i:Nat) (h:i<l.length),rX lt x l k=i+1/\lt x l[i]=false
 | 0,_=>.inl rfl
 | k+1,h=>by
  have a:k<l.length:=h;have e:rX lt x l (k+1)=if lt x l[k]=true then rX lt x l k else k+1:=by show (match l[k]? with | some y=>if lt x y=true then rX lt x l k else k+1 | none=>k+1)=_;rw [Ac a]
  rw [e];cases hl:lt x l[k] with
  | true=>rw [if_pos rfl];exact aAt k o_
  | false=>exact .inr ⟨k,a,if_neg d_,hl⟩
def C4{α:Type}(lt:α->α->Bool)(l:List α)(x:α):(qM lt l x).Perm (x::l):=by unfold qM;refine Ey.trans ?_;rw [Bv]
def aJ1{α:Type}{lt:α->α->Bool}(o:Ord lt){l:List α}{x:α}(m:Up lt l)(r:∀ y∈l,lt x y=true\/lt y x=true):Up lt (qM lt l x):=by
 unfold qM;have p:=aAu (lt:=lt) (x:=x) (l:=l) l.length;have g:Up lt (l.take (rX lt x l l.length)++l.drop (rX lt x l l.length)):=by rw [Bv];exact m
 refine aDm g (λ a c=>?_) (λ b s=>?_)
 .rcases aAt (lt:=lt) (x:=x) (l:=l) l.length (Bh _) with h | ⟨i,f,h,t⟩
  .rw [h] at c;cases c
  .rw [h] at c;have k:lt l[i] x=true:=by
    rcases r l[i] (Ax f) with q | q
    .rw [t] at q;cases q
    .exact q
   rw [Hn f] at c;rcases Bd.1 c with c | c
   .refine o.tr _ _ _ ?_ k;have d:Up lt (l.take i++l.drop i):=by rw [Bv];exact m
    rw [Aa f] at d;exact (Cj.1 d).2.2 a c _ (Ao ..)
   .rw [Dp.1 c];exact k
 .obtain ⟨j,n,e⟩:=Ja s;rw [List.getElem_drop] at e;rw [<-e];rw [Ew] at n;exact aAv l.length _ o_ o_ o_
def aDW{α:Type}{lt:α->α->Bool}(o:Ord lt):∀ (l a:List α),Up lt a->Tot lt (a++l)->Up lt (l.foldl (qM lt) a)/\(l.foldl (qM lt) a).Perm (a++l)
 | [],a,hu,_=>⟨hu,by simp⟩
 | x::l,a,hu,ht=>by have hp:=C4 lt a x;have b:(a++x::l).Perm (qM lt a x++l):=Ey.trans (hp.symm.append_right l);obtain ⟨d,e⟩:=aDW o l (qM lt a x) (aJ1 o hu λ y c=>((Cj.1 ht).2.2 y c x (Ao ..)).symm) (ht.perm b);exact ⟨d,e.trans b.symm⟩
def vJ{α:Type}{lt:α->α->Bool}(o:Ord lt){l:List α}(h:Tot lt l):Up lt (srt lt l):=(aDW o l [] Lp h).1
def LB{α:Type}{lt:α->α->Bool}:∀ (l a:List α),(l.foldl (qM lt) a).Perm (a++l)
 | [],a=>by simp
 | x::l,a=>(LB l (qM lt a x)).trans (((C4 lt a x).append_right l).trans Ey.symm)
def fN{α:Type}(lt:α->α->Bool)(l:List α):(srt lt l).Perm l:=LB l []
def NX{α:Type}{lt:α->α->Bool}(o:Ord lt){l W:List α}(h:Tot lt l)(a:Up lt W)(hp:W.Perm l):W=srt lt l:=VE o (hp.trans (fN lt l).symm) a (vJ o h)
def aMC{α:Type}{lt:α->α->Bool}(o:Ord lt){l:List α}(a:Up lt l):l=srt lt l:=NX o (Jq (λ h=>.inl h) a) a (Jr l)
def bis(P:Nat->Bool):Nat->Nat->Nat->Nat
 | 0,lo,_=>lo
 | f+1,lo,hi=>if lo<hi then (if P ((lo+hi) / 2)=true then bis P f ((lo+hi) / 2+1) hi else bis P f lo ((lo+hi) / 2)) else lo
def P5(P:Nat->Bool):∀ (f lo e:Nat),e-lo<=f->lo<=e->lo<=bis P f lo e/\bis P f lo e<=e/\(bis P f lo e=lo\/P (bis P f lo e-1)=true)/\(bis P f lo e=e\/P (bis P f lo e)=false)
 | 0,lo,e,h,h2=>⟨Bh _,h2,.inl rfl,.inl (show lo=e by omega)⟩
 | f+1,lo,e,h,h2=>by
  unfold bis;by_cases h3:lo<e
  .rw [if_pos h3];cases hp:P ((lo+e) / 2) with
   | true=>
    rw [if_pos rfl];obtain ⟨a,b,c,d⟩:=P5 P f ((lo+e) / 2+1) e o_ o_;refine ⟨by omega,b,?_,d⟩;rcases c with c | c
    .right;rw [c,Ie];exact hp
    .exact .inr c
   | false=>
    rw [if_neg d_];obtain ⟨a,b,c,d⟩:=P5 P f lo ((lo+e) / 2) o_ o_;refine ⟨a,by omega,c,?_⟩;rcases d with d | d
    .right;rw [d];exact hp
    .exact .inr d
  .rw [if_neg h3];exact ⟨Bh _,h2,.inl rfl,.inl o_⟩
def ltO{α:Type}(lt:α->α->Bool)(x y:Option α):Prop:=∃ a b,x=some a/\y=some b/\lt a b=true
def AD{α:Type}{lt:α->α->Bool}{l:List α}(h:Up lt l)(s:Nat):Up lt (l.take s++l.drop s):=by rw [Bv];exact h
def LU{α:Type}{l:List α}{s:Nat}(hs:s≠0){a:α}(h:l[s-1]? =some a):l.take s=l.take (s-1)++[a]:=by obtain ⟨hl,e⟩:=Ad.1 h;have b:s=s-1+1:=o_;rw [b,Hn hl,e,Ie]
def MA{α:Type}{l:List α}{t:Nat}{b:α}(h:l[t]? =some b):l.drop t=b::l.drop (t+1):=by obtain ⟨hl,e⟩:=Ad.1 h;rw [Aa hl,e]
def aG5{α:Type}{lt:α->α->Bool}{U V:List α}{s t:Nat}(h:s=0\/V.length<=t\/ltO lt U[s-1]? V[t]?):
  U.take s=[]\/V.drop t=[]\/∃ c x y a,U.take s=c++[x]/\V.drop t=y::a/\lt x y=true:=by
 by_cases hs:s=0
 .exact .inl (by rw [hs];rfl)
 rcases h with h | h | ⟨x,y,b,d,hl⟩
 .exact absurd h hs
 .exact .inr (.inl (Ab h))
 .exact .inr (.inr ⟨_,x,y,_,LU hs b,MA d,hl⟩)
def aJy{α:Type}{lt:α->α->Bool}(o:Ord lt){U V:List α}{s t:Nat}(f:Up lt U)(d:Up lt V)(c:Tot lt (U++V))
  (h1:s=0\/V.length<=t\/ltO lt U[s-1]? V[t]?) (e:t=0\/U.length<=s\/ltO lt V[t-1]? U[s]?):
  srt lt (U.take s++V.take t)++srt lt (U.drop s++V.drop t)=srt lt (U++V):=by
 have g:Tot lt (U.take s++V.take t):=by refine Gk ?_ c;exact (Im s U).append (Im t V)
 have h:Tot lt (U.drop s++V.drop t):=by refine Gk ?_ c;exact (Ip s U).append (Ip t V)
 obtain ⟨a,b⟩:=aMj o (AD f s) (AD d t) (aG5 h1) (aG5 e) (fN lt _) (fN lt _) (vJ o g) (vJ o h);rw [Bv,Bv] at b;exact NX o c a b
def aNo{α:Type}{lt:α->α->Bool}(o:Ord lt){V:List α}{u:α}{t:Nat}(f:Up lt V)(i:Tot lt (u::V))(h1:t=0\/ltO lt V[t-1]? (some u))(j:V.length<=t\/ltO lt (some u) V[t]?):
  V.take t++u::V.drop t=srt lt (u::V):=by
 have k:=AE (A:=V.take t) (B:=[u]) o (Gk (Im t V) f) (Jj ..) (by
  rcases h1 with h | ⟨a,b,d,c,hl⟩
  .exact .inl (by rw [h];rfl)
  .by_cases e:t=0
   .exact .inl (by rw [e];rfl)
   .cases c
    exact .inr (.inr ⟨_,a,u,[],LU e d,rfl,hl⟩))
 have g:=AE (A:=[u]) (B:=V.drop t) o (Jj ..) (Gk (Ip t V) f) (by
  rcases j with h | ⟨a,b,d,c,hl⟩
  .exact .inr (.inl (Ab h))
  .cases d
   exact .inr (.inr ⟨[],u,b,_,rfl,MA c,hl⟩))
 refine NX o i (aDm (AD f t) (λ a d=>k a d u (Jk u)) (λ b c=>g u (Jk u) b c)) ?_;refine Ey.trans ?_;rw [Bv]
def AM{α:Type}{lt:α->α->Bool}(o:Ord lt){l:List α}(a:Up lt l):srt lt l=l:=(aMC o a).symm
def aDV{α:Type}{lt:α->α->Bool}(o:Ord lt){U V:List α}(a:Tot lt (U++V)):srt lt (U++V)=srt lt (V++U):=
 NX o (a.perm Ee) (vJ o a) ((fN lt _).trans Ee)
def SY(x:Nat)(a:x<18446744073709551616):eG .and .u64 (x:Int) 4294967295=((x % 4294967296:Nat):Int):=by have h:=DE .u64 x 4294967295 (by simp only [bN];omega) d_;have e:x &&& 4294967295=x % 4294967296:=Ka x 32;rw [e] at h;exact h
def hZ(x:Nat):Kr (x:Int) (2 ^ Dx 32)=((x / 4294967296:Nat):Int):=by show Kr (x:Int) 4294967296=_;rw [Ei _ d_];omega
def aB2(x y:Nat)(i:x<18446744073709551616)(j:y<18446744073709551616):aq 279 [.int .u64 x,.int .u64 y] [] (.ret (.tup [.int .u64 (SR x y:Nat),.int .u64 (HW x y:Nat)])) []:=by
 obtain ⟨a,b,c,d,z,t,o,hd,r,w,n,D,hs⟩:=aB1 x y i j;have F:=aJw hs r w n;have C:HW x y<18446744073709551616:=Fq _ d_;have u:((x % 4294967296:Nat):Int)*((y % 4294967296:Nat):Int)=(a:Int):=by rw [z,Es]
 have s:((x / 4294967296:Nat):Int)*((y % 4294967296:Nat):Int)=(b:Int):=by rw [t,Es]
 have v:((x % 4294967296:Nat):Int)*((y / 4294967296:Nat):Int)=(c:Int):=by rw [o,Es]
 have B:((x / 4294967296:Nat):Int)*((y / 4294967296:Nat):Int)=(d:Int):=by rw [hd,Es]
 have m:(b:Int)+((a / 4294967296:Nat):Int)=((b+a / 4294967296:Nat):Int):=o_;have q:(((b+a / 4294967296) % 4294967296:Nat):Int)+(c:Int)=(((b+a / 4294967296) % 4294967296+c:Nat):Int):=o_;have p:(d:Int)+(((b+a / 4294967296) / 4294967296:Nat):Int)+((((b+a / 4294967296) % 4294967296+c) / 4294967296:Nat):Int)=((SR x y:Nat):Int):=o_;have h:¬ (inR .u64 ((x:Int)*(y:Int)))->IntKind.wrap .u64 ((x:Int)*(y:Int))=((HW x y:Nat):Int):=λ_=>by unfold HW;rw [<-Es];simp [IntKind.wrap,IntKind.signed,IntKind.bits]
 refine c_ Tryz.f279 λ_=>gV ?_;rw [SY x i];refine Ae d_ (gV ?_);rw [hZ x,SY y j];refine Ae d_ (gV ?_);rw [hZ y,u];refine aJ (gV ?_);rw [s];refine aJ (gV ?_);refine Ae d_ (gV ?_);rw [hZ a,m];refine aJ (gV ?_);rw [SY _ o_];refine Ae d_ (gV ?_);rw [hZ (b+a / 4294967296),v];refine aJ (gV ?_);rw [q];refine aJ (gV ?_);rw [B];refine aJ (gV ?_);refine aJ (gV ?_);refine Ae d_ (gV ?_);rw [hZ ((b+a / 4294967296) % 4294967296+c),p];refine aJ (gV ?_);by_cases k:inR .u64 ((x:Int)*(y:Int))
 .have e:(x:Int)*(y:Int)=((HW x y:Nat):Int):=by obtain ⟨h1,l⟩:=k;simp only [dA,bN] at h1 l;rw [<-Es] at h1 l⊢;unfold HW;omega
  rw [e];exact zW
 .rw [h k];refine Kx ?_;refine gW hE ?_;conv=>whnf
def aO2{M:Imm}{ob:Hs}{vs:ba}{a b c:aa}(h:cM M ob vs [a,b,c]):∃ u v x,vs=[u,v,x]/\Rep M ob u a/\Rep M ob v b/\Rep M ob x c:=by
 obtain ⟨hl,d⟩:=h
 match vs,hl with
 | [u,v,x],_=>exact ⟨u,v,x,rfl,d 0 _ _ rfl rfl,d 1 _ _ rfl rfl,d 2 _ _ rfl rfl⟩
def aEr{M:Imm}{ob:Hs}{n:Nat}(h:n<18446744073709551616):Rep M ob (.int .u64 (n:Int)) (uu n):=.int _ _ ⟨by simp only [dA];omega,by simp only [bN];omega⟩
def aHG(x y:Nat)(l:x<18446744073709551616)(m:y<18446744073709551616):aq 282 [uu x,uu y,.int .u64 0] [] (.ret (.tup [uu ((x+y) % 18446744073709551616),uu ((x+y) / 18446744073709551616)])) []:=by
 intro M ob w g hm j;obtain ⟨u,v,c,rfl,k,b,h⟩:=aO2 j;obtain ⟨rfl,_⟩:=k.int_inv;obtain ⟨rfl,_⟩:=b.int_inv;obtain ⟨rfl,_⟩:=h.int_inv;refine .inr ⟨.tuple #[.int .u64 (((x+y) % 18446744073709551616:Nat):Int),.int .u64 (((x+y) / 18446744073709551616:Nat):Int)],w,?_,M,ob,Ext.refl _ _ _ _,hm,?_⟩
 .rw [run_callFunc_extern (show Tryz.prog.funcs[282]? =some Tryz.f282 by kernel_rfl) (by kernel_rfl) (by kernel_rfl) (by kernel_rfl) (e:=(Extern.MathBitsCarry.rows.head!).2) (by kernel_rfl)];rfl
 .refine .tup [_,_] _ rfl λ i v a b d=>?_
  match i,b,d with
  | 0,b,d=>cases b;cases d;exact aEr (Fq _ d_)
  | 1,b,d=>cases b;cases d;exact aEr o_
def R5(b:Bool)(x y:Nat)(r:Nat)(a:(if b=true then x else y)=r):aq 283 [.bool b,uu x,uu y] [] (.ret (uu r)) []:=by
 cases b with
 | true=>
  have a:x=r:=a;exact zqda12
 | false=>
  have a:y=r:=a;exact zqda12
def aKn(n:Int)(r:Nat)(a:ofF n=r):aq 256 [ii n] [] (.ret (uu r)) []:=by
 unfold ofF at a;by_cases h1:n<=0
 .rw [if_pos h1] at a;subst a;exact c_ Tryz.f256 λ_=>zW
 .rw [if_neg h1] at a;by_cases b:n<4294967296
  .rw [if_pos b] at a;have e:n*2 ^ Dx 32=(r:Int):=by show n*4294967296=_;omega
   have c:(r:Int)<18446744073709551616:=o_;refine c_ Tryz.f256 λ_=>?_
   repeat' first | (refine gN hE ?_;conv=>whnf) | refine Gl (Ae (Ae d_ (by rw [e];exact ⟨by simp only [dA];omega,by simp only [bN];omega⟩)) ?_) | exact rfl | refine zt ?_ | refine zu ?_ ?_ | intro h | fail
   rw [e]
  .rw [if_neg b] at a;subst a;exact c_ Tryz.f256 λ_=>zW
def aGp(a b:Nat)(k:a<18446744073709551616)(i:b<18446744073709551616)(r:Nat)(c:JV a b=r):aq 260 [uu a,uu b] [] (.ret (uu r)) []:=by
 have h1:=aHG a b k i;unfold JV KC at c;by_cases h:a+b<18446744073709551616
 .rw [if_pos h] at c;have d:(a+b) / 18446744073709551616=0:=o_;have j:(a+b) % 18446744073709551616=r:=o_;rw [d,j] at h1;have e:=R5 false 18446744073709551615 r r rfl;exact c_ Tryz.f260 λ_=>zW
 .rw [if_neg h] at c;have d:(a+b) / 18446744073709551616=1:=o_;rw [d] at h1;have e:=R5 true 18446744073709551615 ((a+b) % 18446744073709551616) r c;generalize (a+b) % 18446744073709551616=q at h1 e;exact c_ Tryz.f260 λ_=>zW
def aJd{h l:Nat}(hl:l<4294967296):h*4294967296 ||| l=h*4294967296+l:=by have:=Iq (i:=32) hl h;rw [Dn] at this;exact this.symm
def aQu{h l:Nat}(a:h<4294967296)(hl:l<4294967296):eG .or .u64 ((h*4294967296:Nat):Int) (l:Int)=((h*4294967296+l:Nat):Int):=by have e:=sD .u64 (h*4294967296) l (by simp only [bN];omega) (by simp only [bN];omega);rw [aJd hl] at e;exact e
def aGe(a b:Nat)(n:a<18446744073709551616)(k:b<18446744073709551616)(r:Nat)(c:yU a b=r):aq 259 [uu a,uu b] [] (.ret (uu r)) []:=by
 have h1:=aB2 a b n k;have hp:a*b<18446744073709551616*18446744073709551616:=Nat.mul_lt_mul'' n k;have e:=hZ (SR a b);have m:=hZ (HW a b);have d:a*b=SR a b*18446744073709551616+HW a b:=by unfold SR HW;omega
 have o:HW a b<18446744073709551616:=Fq _ d_;unfold yU KC at c;generalize a*b=P at c d hp;generalize SR a b=H at h1 e d;generalize HW a b=L at h1 m d o;by_cases h:P / 4294967296<18446744073709551616
 .rw [if_pos h] at c;have i:H / 4294967296=0:=o_;have p:H<4294967296:=o_;have s:H*4294967296+L / 4294967296=r:=o_;have q:(H:Int)*2 ^ Dx 32=((H*4294967296:Nat):Int):=by show (H:Int)*4294967296=_;omega
  have j:=aQu (h:=H) (l:=L / 4294967296) p o_;rw [i] at e;rw [s] at j;refine c_ Tryz.f259 λ_=>?_
  repeat' first | (refine gN hE ?_;conv=>whnf) | refine .pure _ [] h1 ?_ | (rw [e];refine Ae d_ ?_) | (rw [q];refine Gl (Ae (Ae d_ ⟨by simp only [dA];omega,by simp only [bN];omega⟩) ?_)) | (rw [m];refine Ae d_ ?_) | exact rfl | refine zt ?_ | refine zu ?_ ?_ | intro h | fail
  rw [j]
 .rw [if_neg h] at c;subst c;have i:(0:Int)<((H / 4294967296:Nat):Int):=o_;generalize ((H / 4294967296:Nat):Int)=Q at i e;refine c_ Tryz.f259 λ_=>?_
  repeat' first | (refine gN hE ?_;conv=>whnf) | refine .pure _ [] h1 ?_ | (rw [e];refine Ae d_ ?_) | exact rfl | refine zt ?_ | refine zu ?_ ?_ | intro h | fail
def XB(n:Int):aq 256 [ii n] [] (.ret (uu (ofF n))) []:=aKn n _ rfl
def aAQ(a b:Nat)(d:a<18446744073709551616)(c:b<18446744073709551616):aq 260 [uu a,uu b] [] (.ret (uu (JV a b))) []:=aGp a b d c _ rfl
def PE(a b:Nat)(d:a<18446744073709551616)(c:b<18446744073709551616):aq 259 [uu a,uu b] [] (.ret (uu (yU a b))) []:=aGe a b d c _ rfl
def bl8(v:Nat):Nat:=if v<1 then 0 else if v<2 then 1 else if v<4 then 2 else if v<8 then 3 else if v<16 then 4 else if v<32 then 5 else if v<64 then 6 else if v<128 then 7 else 8
def aON:aw:=(Du 256).map λ v=>Dj (bl8 v)
def pN{v:Nat}(h:v<256):aON[v]? =some (Dj (bl8 v)):=by simp [aON,h]
def aOx{v:Nat}(h:1<=v)(a:v<256):1<=bl8 v/\bl8 v<=8/\2 ^ (bl8 v-1)<=v/\v<2 ^ bl8 v:=by
 unfold bl8
 repeat' split
 all_goals simp
 all_goals omega
def tL(v:Nat):bl8 v<=8:=by
 unfold bl8
 repeat' split
 all_goals omega
def nT(v:Nat):((Dj (bl8 v)).toNat:Int)=(bl8 v:Int):=by have:=tL v;simp;omega
def BL(x n:Nat):Prop:=1<=n/\2 ^ (n-1)<=x/\x<2 ^ n
def BL.up{x n:Nat}(k:Nat)(h:BL (x / 2 ^ k) n):BL x (k+n):=by
 obtain ⟨h1,a,h3⟩:=h;have hp:0<2 ^ k:=Nb d_;refine ⟨by omega,?_,?_⟩
 .have:=(Il hp).1 a;rw [show k+n-1=n-1+k by omega,Ft];exact this
 .have:=(Dv hp).1 h3;rw [Mh,Ft];exact this
def BL.le{x n:Nat}(h:BL x n)(b:x<18446744073709551616):n<=64:=by
 obtain ⟨h1,a,_⟩:=h;rcases Nj 64 n with h3 | h3
 .have:2 ^ 64<=2 ^ (n-1):=Fg d_ o_;omega
 .exact h3
def wM{v:Nat}(h:1<=v)(b:v<256):BL v (bl8 v):=by obtain ⟨a,_,c,d⟩:=aOx h b;exact ⟨a,c,d⟩
def hiN(x k:Nat):Kr (x:Int) (2 ^ k)=((x / 2 ^ k:Nat):Int):=by rw [Ei _ (Int.pow_nonneg d_)];push_cast;rfl
def PA(x:Nat):Kr (x:Int) (2 ^ Dx 16)=((x / 65536:Nat):Int):=hiN x 16
def hi8(x:Nat):Kr (x:Int) (2 ^ Dx 8)=((x / 256:Nat):Int):=hiN x 8
def aB5(x:Nat)(i:1<=x)(d:x<18446744073709551616):∃ n:Nat,BL x n/\aq 301 [uu x] [] (.ret (ii n)) []:=by
 by_cases e:4294967296<=x
 .by_cases h1:65536<=x / 4294967296
  .by_cases c:256<=x / 4294967296 / 65536
   .have b:BL x (32+(16+(8+(bl8 (x / 4294967296 / 65536 / 256))))):=BL.up 32 (BL.up 16 (BL.up 8 (wM (v:=x / 4294967296 / 65536 / 256) o_ o_)));refine Aq (32+(16+(8+(bl8 (x / 4294967296 / 65536 / 256))))) (Ae b ?_);have a:(x / 4294967296 / 65536 / 256)<256:=o_;refine c_ Tryz.f301 λ_=>?_
    repeat' first | (refine gN hE ?_;conv=>whnf) | (rw [hZ];refine Ae d_ ?_) | (rw [PA];refine Ae d_ ?_) | (rw [hi8];refine Ae d_ ?_) | refine Aq _ (Ae (pN a) ?_) | (rw [nT];have:=tL ((x / 4294967296 / 65536 / 256));refine aJ ?_) | exact rfl | refine zt ?_ | refine zu ?_ ?_ | intro h | fail
    all_goals exact congrArg (λ n=>Res.ret (aa.int .i64 n)) (by (try rw [nT]);omega)
   .have b:BL x (32+(16+(bl8 (x / 4294967296 / 65536)))):=BL.up 32 (BL.up 16 (wM (v:=x / 4294967296 / 65536) o_ o_));refine Aq (32+(16+(bl8 (x / 4294967296 / 65536)))) (Ae b ?_);have a:(x / 4294967296 / 65536)<256:=o_;refine c_ Tryz.f301 λ_=>?_
    repeat' first | (refine gN hE ?_;conv=>whnf) | (rw [hZ];refine Ae d_ ?_) | (rw [PA];refine Ae d_ ?_) | (rw [hi8];refine Ae d_ ?_) | refine Aq _ (Ae (pN a) ?_) | (rw [nT];have:=tL ((x / 4294967296 / 65536));refine aJ ?_) | exact rfl | refine zt ?_ | refine zu ?_ ?_ | intro h | fail
    all_goals exact congrArg (λ n=>Res.ret (aa.int .i64 n)) (by (try rw [nT]);omega)
  .by_cases c:256<=x / 4294967296
   .have b:BL x (32+(8+(bl8 (x / 4294967296 / 256)))):=BL.up 32 (BL.up 8 (wM (v:=x / 4294967296 / 256) o_ o_));refine Aq (32+(8+(bl8 (x / 4294967296 / 256)))) (Ae b ?_);have a:(x / 4294967296 / 256)<256:=o_;refine c_ Tryz.f301 λ_=>?_
    repeat' first | (refine gN hE ?_;conv=>whnf) | (rw [hZ];refine Ae d_ ?_) | (rw [PA];refine Ae d_ ?_) | (rw [hi8];refine Ae d_ ?_) | refine Aq _ (Ae (pN a) ?_) | (rw [nT];have:=tL ((x / 4294967296 / 256));refine aJ ?_) | exact rfl | refine zt ?_ | refine zu ?_ ?_ | intro h | fail
    all_goals exact congrArg (λ n=>Res.ret (aa.int .i64 n)) (by (try rw [nT]);omega)
   .have b:BL x (32+(bl8 (x / 4294967296))):=BL.up 32 (wM (v:=x / 4294967296) o_ o_);refine Aq (32+(bl8 (x / 4294967296))) (Ae b ?_);have a:(x / 4294967296)<256:=o_;refine c_ Tryz.f301 λ_=>?_
    repeat' first | (refine gN hE ?_;conv=>whnf) | (rw [hZ];refine Ae d_ ?_) | (rw [PA];refine Ae d_ ?_) | (rw [hi8];refine Ae d_ ?_) | refine Aq _ (Ae (pN a) ?_) | (rw [nT];have:=tL ((x / 4294967296));refine aJ ?_) | exact rfl | refine zt ?_ | refine zu ?_ ?_ | intro h | fail
    all_goals exact congrArg (λ n=>Res.ret (aa.int .i64 n)) (by (try rw [nT]);omega)
 .by_cases h1:65536<=x
  .by_cases c:256<=x / 65536
   .have b:BL x (16+(8+(bl8 (x / 65536 / 256)))):=BL.up 16 (BL.up 8 (wM (v:=x / 65536 / 256) o_ o_));refine Aq (16+(8+(bl8 (x / 65536 / 256)))) (Ae b ?_);have a:(x / 65536 / 256)<256:=o_;refine c_ Tryz.f301 λ_=>?_
    repeat' first | (refine gN hE ?_;conv=>whnf) | (rw [hZ];refine Ae d_ ?_) | (rw [PA];refine Ae d_ ?_) | (rw [hi8];refine Ae d_ ?_) | refine Aq _ (Ae (pN a) ?_) | (rw [nT];have:=tL ((x / 65536 / 256));refine aJ ?_) | exact rfl | refine zt ?_ | refine zu ?_ ?_ | intro h | fail
    all_goals exact congrArg (λ n=>Res.ret (aa.int .i64 n)) (by (try rw [nT]);omega)
   .have b:BL x (16+(bl8 (x / 65536))):=BL.up 16 (wM (v:=x / 65536) o_ o_);refine Aq (16+(bl8 (x / 65536))) (Ae b ?_);have a:(x / 65536)<256:=o_;refine c_ Tryz.f301 λ_=>?_
    repeat' first | (refine gN hE ?_;conv=>whnf) | (rw [hZ];refine Ae d_ ?_) | (rw [PA];refine Ae d_ ?_) | (rw [hi8];refine Ae d_ ?_) | refine Aq _ (Ae (pN a) ?_) | (rw [nT];have:=tL ((x / 65536));refine aJ ?_) | exact rfl | refine zt ?_ | refine zu ?_ ?_ | intro h | fail
    all_goals exact congrArg (λ n=>Res.ret (aa.int .i64 n)) (by (try rw [nT]);omega)
  .by_cases c:256<=x
   .have b:BL x (8+(bl8 (x / 256))):=BL.up 8 (wM (v:=x / 256) o_ o_);refine Aq (8+(bl8 (x / 256))) (Ae b ?_);have a:(x / 256)<256:=o_;refine c_ Tryz.f301 λ_=>?_
    repeat' first | (refine gN hE ?_;conv=>whnf) | (rw [hZ];refine Ae d_ ?_) | (rw [PA];refine Ae d_ ?_) | (rw [hi8];refine Ae d_ ?_) | refine Aq _ (Ae (pN a) ?_) | (rw [nT];have:=tL ((x / 256));refine aJ ?_) | exact rfl | refine zt ?_ | refine zu ?_ ?_ | intro h | fail
    all_goals exact congrArg (λ n=>Res.ret (aa.int .i64 n)) (by (try rw [nT]);omega)
   .have b:BL x (bl8 (x)):=wM (v:=x) o_ o_;refine Aq (bl8 (x)) (Ae b ?_);have a:x<256:=o_;refine c_ Tryz.f301 λ_=>?_
    repeat' first | (refine gN hE ?_;conv=>whnf) | (rw [hZ];refine Ae d_ ?_) | (rw [PA];refine Ae d_ ?_) | (rw [hi8];refine Ae d_ ?_) | refine Aq _ (Ae (pN a) ?_) | (rw [nT];have:=tL (x);refine aJ ?_) | exact rfl | refine zt ?_ | refine zu ?_ ?_ | intro h | fail
    all_goals exact congrArg (λ n=>Res.ret (aa.int .i64 n)) (by (try rw [nT]);omega)
def aPg(x n:Nat)(a:n<=64)(h:aq 301 [uu x] [] (.ret (ii n)) []):aq 310 [uu x] [] (.ret (ii ((64-n:Nat):Int))) []:=by
 have e:(64:Int)-(n:Int)=((64-n:Nat):Int):=o_;refine c_ Tryz.f310 λ_=>?_
 repeat' first | (refine gN hE ?_;conv=>whnf) | refine .pure _ [] h ?_ | exact rfl | refine zt ?_ | refine zu ?_ ?_ | intro h | fail
 rw [e]
def wu(n:Int):IntKind.wrap .u64 n=n % 18446744073709551616:=by simp [IntKind.wrap,IntKind.signed,IntKind.bits]
def aDF(x y:Nat):Ma (x:Int) (y:Int)=((x / y:Nat):Int):=rfl
noncomputable abbrev fD:Func:=Tryz.f303
def dvF(s Y b d u a c q r:Nat):ar:=[(2,uu Y),(8,uu s),(9,uu b),(10,uu d),(11,uu u),(13,uu a),(14,uu c),(15,uu q),(16,uu r)]
def dvG(s Y c e u a d q t b r:Nat):ar:=[(2,uu Y),(8,uu s),(9,uu c),(10,uu e),(11,uu u),(13,uu a),(14,uu d),(15,uu q),(16,uu r),(17,uu t),(18,uu b)]
def aGU(s Y b a u c f:Nat)(G:aa)(h1:2147483648<=b)(t:b<4294967296)(m:a<4294967296)(v:c<4294967296)(z:u<b*4294967296+a)
  (fin:∀ r,To E fD (.pure (.ret G)) (.code (qC fD 21) (dvF s Y b a u c f ((u*4294967296+c) / (b*4294967296+a)) r) [])):
  ∀ (q r:Nat),Dg b a u c q r->r<4294967296->To E fD (.pure (.ret G)) (.head (stk fD 0) (dvF s Y b a u c f q r) []):=by
 intro q;induction q using Ih with
 | _ q x=>
 intro r hd B;have k:(4294967296:Int)*(r:Int)=((4294967296*r:Nat):Int):=o_;have l:((4294967296*r:Nat):Int)+(c:Int)=((4294967296*r+c:Nat):Int):=o_;have i:(q:Int)*(a:Int)=((q*a:Nat):Int):=(Es q a).symm;have step:(4294967296<=q\/4294967296*r+c<q*a)->To E fD (.pure (.ret G)) (.code (qC fD 18) (dvF s Y b a u c f q r) []):=λ n=>by
  obtain ⟨A,d⟩:=hd.step v z n;have C:=d.few;have w:=hd.few;have g:(q:Int)-1=((q-1:Nat):Int):=o_;have j:(r:Int)+(b:Int)=((r+b:Nat):Int):=o_;unfold dvF;by_cases p:4294967296<=r+b
  .have e:=(d.fin (Dg.far m o_ p)).2;have fin:=fin (r+b);rw [<-e] at fin;refine gV ?_;rw [g];refine aJ (gV ?_);rw [j];refine aJ (gV ?_);refine aT λ h=>?_;exact zqda9
  .have next:=x (q-1) o_ (r+b) d o_
   unfold dvF at next
   repeat' first | (refine gN hE ?_;conv=>whnf) | (rw [g];refine aJ ?_) | (rw [j];refine aJ ?_) | exact rfl | refine zt ?_ | refine zu ?_ ?_ | intro h | fail
   exact zW
 by_cases y:4294967296<=q
 .have step:=step (.inl y);unfold dvF at step⊢;refine gV ?_;refine aT λ h=>gV ?_;refine aY ?_;exact zqda10
 .have D:q*a<=4294967295*4294967295:=Gs o_ o_;by_cases o:4294967296*r+c<q*a
  .have step:=step (.inr o);unfold dvF at step⊢;refine gV ?_;refine aF λ h=>gV ?_;rw [i];refine aJ (gV ?_);rw [k];refine aJ (gV ?_);rw [l];refine aJ (gV ?_);refine aT λ h=>?_;exact zqda10
  .have e:=(hd.fin o_).2;have fin:=fin r;rw [<-e] at fin;unfold dvF at fin⊢;refine gV ?_;refine aF λ h=>gV ?_;rw [i];refine aJ (gV ?_);rw [k];refine aJ (gV ?_);rw [l];refine aJ (gV ?_);refine aF λ h=>?_;exact zqda9
def aGT(s Y b a u e c p t:Nat)(G:aa)(h1:2147483648<=b)(w:b<4294967296)(m:a<4294967296)(x:c<4294967296)(B:t<b*4294967296+a)
  (fin:∀ r,To E fD (.pure (.ret G)) (.code (qC fD 28) (dvG s Y b a u e c p t ((t*4294967296+c) / (b*4294967296+a)) r) [])):
  ∀ (q r:Nat),Dg b a t c q r->r<4294967296->To E fD (.pure (.ret G)) (.head (stk fD 1) (dvG s Y b a u e c p t q r) []):=by
 intro q;induction q using Ih with
 | _ q z=>
 intro r hd D;have k:(4294967296:Int)*(r:Int)=((4294967296*r:Nat):Int):=o_;have l:((4294967296*r:Nat):Int)+(c:Int)=((4294967296*r+c:Nat):Int):=o_;have i:(q:Int)*(a:Int)=((q*a:Nat):Int):=(Es q a).symm;have step:(4294967296<=q\/4294967296*r+c<q*a)->To E fD (.pure (.ret G)) (.code (qC fD 25) (dvG s Y b a u e c p t q r) []):=λ n=>by
  obtain ⟨C,d⟩:=hd.step x B n;have F:=d.few;have y:=hd.few;have g:(q:Int)-1=((q-1:Nat):Int):=o_;have j:(r:Int)+(b:Int)=((r+b:Nat):Int):=o_;unfold dvG;by_cases v:4294967296<=r+b
  .have f:=(d.fin (Dg.far m o_ v)).2;have fin:=fin (r+b);rw [<-f] at fin;refine gV ?_;rw [g];refine aJ (gV ?_);rw [j];refine aJ (gV ?_);refine aT λ h=>?_;exact zqda7
  .have next:=z (q-1) o_ (r+b) d o_
   unfold dvG at next
   repeat' first | (refine gN hE ?_;conv=>whnf) | (rw [g];refine aJ ?_) | (rw [j];refine aJ ?_) | exact rfl | refine zt ?_ | refine zu ?_ ?_ | intro h | fail
   exact zW
 by_cases A:4294967296<=q
 .have step:=step (.inl A);unfold dvG at step⊢;refine gV ?_;refine aT λ h=>gV ?_;refine aY ?_;exact zqda8
 .have H:q*a<=4294967295*4294967295:=Gs o_ o_;by_cases o:4294967296*r+c<q*a
  .have step:=step (.inr o);unfold dvG at step⊢;refine gV ?_;refine aF λ h=>gV ?_;rw [i];refine aJ (gV ?_);rw [k];refine aJ (gV ?_);rw [l];refine aJ (gV ?_);refine aT λ h=>?_;exact zqda8
  .have f:=(hd.fin o_).2;have fin:=fin r;rw [<-f] at fin;unfold dvG at fin⊢;refine gV ?_;refine aF λ h=>gV ?_;rw [i];refine aJ (gV ?_);rw [k];refine aJ (gV ?_);rw [l];refine aJ (gV ?_);refine aF λ h=>?_;exact zqda7
def aKR{a lo y s L:Nat}(e:BL y L)(l:L<=64)(hs:s=64-L)(h:a<y)(hl:lo<18446744073709551616):
  9223372036854775808<=y*2 ^ s/\y*2 ^ s<18446744073709551616/\a*2 ^ s+lo / 2 ^ (64-s)<y*2 ^ s/\lo / 2 ^ (64-s)<2 ^ s/\(a*18446744073709551616+lo) / y=((a*2 ^ s+lo / 2 ^ (64-s))*18446744073709551616+lo*2 ^ s % 18446744073709551616) / (y*2 ^ s):=by
 obtain ⟨n,k,g⟩:=e;have hp:0<2 ^ s:=Nb d_;have b:2 ^ (64-s)*2 ^ s=18446744073709551616:=by rw [<-Ft,show 64-s+s=64 by omega]
 have o:2 ^ (L-1)*2 ^ s=9223372036854775808:=by rw [<-Ft,show L-1+s=63 by omega]
 have m:2 ^ L*2 ^ s=18446744073709551616:=by rw [<-Ft,show L+s=64 by omega]
 have p:2 ^ (L-1)*2 ^ s<=y*2 ^ s:=Cc _ k;have q:y*2 ^ s<2 ^ L*2 ^ s:=Nat.mul_lt_mul_of_pos_right g hp;have i:lo*2 ^ s / 18446744073709551616=lo / 2 ^ (64-s):=by rw [<-b,Mv _ _ hp]
 have j:=Gg (lo*2 ^ s) 18446744073709551616;rw [i] at j;have c:lo / 2 ^ (64-s)<2 ^ s:=by refine (Dv (Nb d_)).2 ?_;rw [Dn,b];exact hl
 have f:(a+1)*2 ^ s<=y*2 ^ s:=Cc _ h;rw [Cg,Hb] at f;have d:(a*18446744073709551616+lo)*2 ^ s=(a*2 ^ s+lo / 2 ^ (64-s))*18446744073709551616+lo*2 ^ s % 18446744073709551616:=by rw [Cg,Cg,Nat.mul_right_comm];omega
 refine ⟨by omega,by omega,by omega,c,?_⟩;rw [<-d,Mv _ _ hp]
def aIx(x s:Nat):(x:Int)*2 ^ Dx (s:Int)=((x*2 ^ s:Nat):Int):=by rw [Br];push_cast;rfl
def aME(x s:Nat):Kr (x:Int) (2 ^ Dx (s:Int))=((x / 2 ^ s:Nat):Int):=hiN x s
def aKQ(s Y h f u c b q t a r:Nat)(hs:s<=64)(i:q*4294967296+a<18446744073709551616)(o:Y<18446744073709551616)(e:a*Y<=t*4294967296+b)(g:t*4294967296+b-a*Y<18446744073709551616):
  To E fD (.pure (.ret (.tup [uu (q*4294967296+a),uu ((t*4294967296+b-a*Y) / 2 ^ s)]))) (.code (qC fD 28) (dvG s Y h f u c b q t a r) []):=by
 have m:q*4294967296<18446744073709551616:=Nat.lt_of_le_of_lt (Nat.le_add_right _ _) i;have d:(q:Int)*4294967296=((q*4294967296:Nat):Int):=o_;have k:((q*4294967296:Nat):Int)+(a:Int)=((q*4294967296+a:Nat):Int):=o_;have l:(a:Int)*(Y:Int)=((a*Y:Nat):Int):=(Es a Y).symm;have j:IntKind.wrap .u64 (IntKind.wrap .u64 (IntKind.wrap .u64 ((t:Int)*4294967296)+(b:Int))-IntKind.wrap .u64 ((a*Y:Nat):Int))=((t*4294967296+b-a*Y:Nat):Int):=by
  simp only [wu];generalize a*Y=z at *
  omega
 unfold dvG;generalize p:t*4294967296+b-a*Y=R at *
 generalize n:a*Y=P at *
 refine gV ?_;rw [d];refine aJ (gV ?_);rw [k];refine aJ (gV ?_);refine Kx (gV ?_);refine Kx (gV ?_);rw [l];refine Kx (gV ?_);refine Kx (gV ?_);rw [j,aME];refine Ae (Ae o_ (show Dx (s:Int)<=64 by omega)) ?_;refine gW hE ?_;conv=>whnf
def aOd(s Y a d u b f q r:Nat)(G:aa)(h1:2147483648<=a)(g:a<4294967296)(j:d<4294967296)(y:b<4294967296)(c:f<4294967296)(h:Y=a*4294967296+d)(B:u<Y)(k:q=(u*4294967296+b) / Y)
  (fin:∀ r,To E fD (.pure (.ret G)) (.code (qC fD 28) (dvG s Y a d u b f q (u*4294967296+b-q*Y) (((u*4294967296+b-q*Y)*4294967296+f) / Y) r) [])):
  To E fD (.pure (.ret G)) (.code (qC fD 21) (dvF s Y a d u b f q r) []):=by
 have l:q*Y<=u*4294967296+b:=by rw [k];exact Hr ..
 have i:0<Y:=o_;have e:=UC i k rfl;have w:(q:Int)*(Y:Int)=((q*Y:Nat):Int):=(Es q Y).symm;have v:IntKind.wrap .u64 (IntKind.wrap .u64 (IntKind.wrap .u64 ((u:Int)*4294967296)+(b:Int))-IntKind.wrap .u64 ((q*Y:Nat):Int))=((u*4294967296+b-q*Y:Nat):Int):=by
  simp only [wu];generalize q*Y=z at *
  omega
 generalize u*4294967296+b-q*Y=t at *
 have x:=aGT s Y a d u b f q t G h1 g j c (by rw [<-h];exact e) (by rw [<-h];exact fin) (t / a) (t % a) (Dg.zero h1 j c (by rw [<-h];exact e)) (by have:=Fq t (show 0<a by omega);omega);have p:=Gg t a;have o:=aDF t a;have m:((t / a:Nat):Int)*(a:Int)=((t / a*a:Nat):Int):=(Es _ _).symm;have n:(t:Int)-((t / a*a:Nat):Int)=((t % a:Nat):Int):=by
  rw [Dn] at p;generalize t / a*a=z at *
  omega
 have C:t / a*a<=t:=Hr ..;have A:t / a<=t:=Hl ..;have hm:=Fq t (show 0<a by omega);unfold dvF;unfold dvG at x;generalize t / a*a=z at *
 generalize t / a=q2 at *
 generalize t % a=r2 at *
 generalize q*Y=P at *
 refine gV ?_;refine Kx (gV ?_);refine Kx (gV ?_);rw [w];refine Kx (gV ?_);refine Kx (gV ?_);rw [v];refine Ae o_ (gV ?_);rw [o];refine aJ (gV ?_);rw [m];refine aJ (gV ?_);rw [n];exact zW
def aKP(a lo y s Y H Q U A b e d i q r z:Nat)(G:aa)(K:0<a)(S:a<y)(hs:s<=63)(c:aq 310 [uu y] [] (.ret (ii s)) [])
  (O:Y<18446744073709551616) (v:H<=U) (R:U<Y) (N:Q<=U) (k:(y:Int)*2 ^ Dx (s:Int)=(Y:Int)) (w:(a:Int)*2 ^ Dx (s:Int)=(H:Int)) (B:Kr (lo:Int) (2 ^ Dx ((64-s:Nat):Int))=(Q:Int))
  (t:eG .or .u64 (H:Int) (Q:Int)=(U:Int)) (l:IntKind.wrap .u64 ((lo:Int)*2 ^ (min (Dx (s:Int)) (IntKind.bits .u64)))=(A:Int))
  (J:Kr (Y:Int) (2 ^ Dx 32)=(b:Int)) (F:eG .and .u64 (Y:Int) 4294967295=(e:Int)) (x:Kr (A:Int) (2 ^ Dx 32)=(d:Int)) (n:eG .and .u64 (A:Int) 4294967295=(i:Int))
  (m:0<b) (p:Ma (U:Int) (b:Int)=(q:Int)) (j:(q:Int)*(b:Int)=(z:Int)) (D:(U:Int)-(z:Int)=(r:Int)) (P:z<=U) (M:q<=U) (L:r<=U)
  (I:To E fD (.pure (.ret G)) (.head (stk fD 0) (dvF s Y b e U d i q r) [])):aq 303 [uu a,uu lo,uu y] [] (.ret G) []:=by
 have u:((y:Int)==0)=false:=beq_eq_false_iff_ne.2 o_;have o:((a:Int)==0)=false:=beq_eq_false_iff_ne.2 o_;have C:(64:Int)-(s:Int)=((64-s:Nat):Int):=o_;unfold dvF at I;refine c_ Tryz.f303 λ_=>gV ?_;refine Ae (λ h=>absurd (u.symm.trans h) d_) (λ_=>gV ?_);refine aF λ h=>gV ?_;refine Ae (λ h=>absurd (o.symm.trans h) d_) (λ_=>gV ?_);refine .pure _ [] c (gV ?_);refine aJ (gV ?_);refine Ae o_ (gV ?_);rw [k];refine Gl (Ae (Ae (show Dx (s:Int)<=64 by omega) (Ae (by simp only [dA];omega) (by simp only [bN];omega))) ?_);refine gV ?_;rw [J];refine Ae d_ (gV ?_);rw [F];refine Ae o_ (gV ?_);rw [w];refine Gl (Ae (Ae (show Dx (s:Int)<=64 by omega) (Ae (by simp only [dA];omega) (by simp only [bN];omega))) ?_);refine gV ?_;rw [C];refine aJ (gV ?_);rw [B];refine Ae (Ae o_ (show Dx ((64-s:Nat):Int)<=64 by omega)) ?_;refine gV ?_;rw [t];refine Ae o_ (gV ?_);refine Kx (gV ?_);rw [l,x];refine Ae d_ (gV ?_);rw [n];refine Ae o_ (gV ?_);rw [p];refine aJ (gV ?_);rw [j];refine aJ (gV ?_);rw [D];exact zW
def XZ(b lo y:Nat)(h0:0<b)(W:b<y)(S:y<18446744073709551616)(hl:lo<18446744073709551616):∃ m:Int,aq 303 [uu b,uu lo,uu y] [] (.ret (.tup [uu ((b*18446744073709551616+lo) / y),.int .u64 m])) []:=by
 obtain ⟨L,D,hc⟩:=aB5 y o_ S;have c:=D.le S;have q:=aPg y L c hc;have hL1:=D.1
 obtain ⟨s,hs⟩:∃ s,s=64-L:=⟨_,rfl⟩
 obtain ⟨n1,n2,C,n4,X⟩:=aKR D c hs W hl;rw [<-hs] at q;rw [X];have hA:lo*2 ^ s % 18446744073709551616<18446744073709551616:=Fq _ d_;have g:eG .or .u64 ((b*2 ^ s:Nat):Int) ((lo / 2 ^ (64-s):Nat):Int)=((b*2 ^ s+lo / 2 ^ (64-s):Nat):Int):=by
  have V:=Iq n4 b;rw [Dn] at V;rw [V];generalize y*2 ^ s=Y at *
  generalize b*2 ^ s=H at *
  generalize lo / 2 ^ (64-s)=Q at *
  exact sD .u64 H Q (by simp only [bN];omega) (by simp only [bN];omega)
 have e:IntKind.wrap .u64 ((lo:Int)*2 ^ (min (Dx (s:Int)) (IntKind.bits .u64)))=((lo*2 ^ s % 18446744073709551616:Nat):Int):=by have h:=aIx lo s;rw [Br] at h;rw [wu,Br,Gy (show s<=IntKind.bits .u64 from (show s<=64 by omega)),h];generalize lo*2 ^ s=z;omega
 have d:=aIx y s;have j:=aIx b s;have i:=aME lo (64-s);clear n4;generalize y*2 ^ s=Y at *
 generalize b*2 ^ s=H at *
 generalize lo / 2 ^ (64-s)=Q at *
 generalize lo*2 ^ s % 18446744073709551616=A at *
 have M:H<=H+Q:=Nat.le_add_right ..;have I:Q<=H+Q:=Nat.le_add_left ..;generalize H+Q=U at *
 have l:2147483648<=Y / 4294967296:=by clear d j i g e;omega
 have p:Y / 4294967296<4294967296:=by clear d j i g e;omega
 have n:Y % 4294967296<4294967296:=Fq _ d_;have k:A / 4294967296<4294967296:=by clear d j i g e;omega
 have B:A % 4294967296<4294967296:=Fq _ d_;have a:Y=Y / 4294967296*4294967296+Y % 4294967296:=by clear d j i g e;omega
 have T:U*18446744073709551616+A=U*18446744073709551616+A / 4294967296*4294967296+A % 4294967296:=by clear d j i g e;omega
 have R:=hZ Y;have P:=SY Y n2;have O:=hZ A;have J:=SY A hA;have o:0<Y:=o_;rw [T];clear T X;generalize A / 4294967296=a1 at *
 generalize A % 4294967296=a0 at *
 have two:=aK2 (Y:=Y) (u:=U) (v:=a1) (w:=a0) o rfl rfl rfl B;have t:(U*18446744073709551616+a1*4294967296+a0) / Y<18446744073709551616:=(Dv o).2 (by clear d j i g e R P O J two a;omega);have K:(((U*4294967296+a1-(U*4294967296+a1) / Y*Y)*4294967296+a0) / Y)*Y<=(U*4294967296+a1-(U*4294967296+a1) / Y*Y)*4294967296+a0:=Hr ..;have G:=UC (N:=(U*4294967296+a1-(U*4294967296+a1) / Y*Y)*4294967296+a0) o rfl rfl;have tail:=λ r=>aKQ s Y (Y / 4294967296) (Y % 4294967296) U a1 a0 ((U*4294967296+a1) / Y) (U*4294967296+a1-(U*4294967296+a1) / Y*Y) (((U*4294967296+a1-(U*4294967296+a1) / Y*Y)*4294967296+a0) / Y) r o_ (by rw [two];exact t) n2 K (Nk G n2);rw [two] at tail;have mid:=λ r=>aOd s Y (Y / 4294967296) (Y % 4294967296) U a1 a0 ((U*4294967296+a1) / Y) r _ l p n k B a C rfl tail;have x:0<Y / 4294967296:=o_;have F:=Fq U x;have Z:=aGU s Y (Y / 4294967296) (Y % 4294967296) U a1 a0 _ l p n k (by rw [<-a];exact C) (by rw [<-a];exact mid) (U / (Y / 4294967296)) (U % (Y / 4294967296)) (Dg.zero l n k (by rw [<-a];exact C)) (Nk F p);have et:=Gg U (Y / 4294967296)
 exact ⟨_,aKP b lo y s Y H Q U A _ _ a1 a0 _ _ (U / (Y / 4294967296)*(Y / 4294967296)) _ h0 W o_ q n2 M C I d j i g e R P O J x (aDF _ _) (Es _ _).symm (by
  rw [Dn] at et;generalize U / (Y / 4294967296)*(Y / 4294967296)=z at *
  clear d j i g e R P O J a tail mid Z two
  omega) (Hr ..) (Hl ..) (Mi ..) Z⟩
def aOM(x y:Nat):Int.tmod (x:Int) (y:Int)=((x % y:Nat):Int):=rfl
def XY(lo y:Nat)(d:0<y)(e:y<18446744073709551616)(hl:lo<18446744073709551616):aq 303 [uu 0,uu lo,uu y] [] (.ret (.tup [uu (lo / y),uu (lo % y)])) []:=by
 have c:((y:Int)==0)=false:=beq_eq_false_iff_ne.2 o_;have b:=aDF lo y;have a:=aOM lo y;have j:lo / y<=lo:=Hl ..;have i:=Mi lo y;generalize lo / y=q at *
 generalize lo % y=r at *
 refine c_ Tryz.f303 λ_=>gV ?_;refine Ae (λ h=>absurd (c.symm.trans h) d_) (λ_=>?_)
 repeat' first | (refine gN hE ?_;conv=>whnf) | (rw [b];refine aJ ?_) | (rw [a];refine aJ ?_) | exact rfl | refine zt ?_ | refine zu ?_ ?_ | intro h | fail
 rw [a]
def aG1(a lo y:Nat)(c:a<y)(b:y<18446744073709551616)(hl:lo<18446744073709551616):∃ m:Int,aq 303 [uu a,uu lo,uu y] [] (.ret (.tup [uu ((a*18446744073709551616+lo) / y),.int .u64 m])) []:=by
 rcases Fz a with rfl | h
 .rw [Mf,Bx];exact ⟨_,XY lo y c b hl⟩
 .exact XZ a lo y h c b hl
def aOw(a b:Nat)(o:a<18446744073709551616)(k:b<18446744073709551616)(r:Nat)(c:E1 a b=r):aq 288 [uu a,uu b] [] (.ret (uu r)) []:=by
 unfold E1 at c;by_cases e:a=0
 .subst e;have c:0=r:=c;subst c;exact c_ Tryz.f288 λ_=>zW
 .have i:((a:Int)==0)=false:=beq_eq_false_iff_ne.2 o_;rw [if_neg e] at c;have d:=hZ a
  obtain ⟨W,n⟩:∃ W,W=a % 4294967296*4294967296:=⟨_,rfl⟩
  have l:IntKind.wrap .u64 ((a:Int)*2 ^ (min (Dx 32) (IntKind.bits .u64)))=(W:Int):=by show IntKind.wrap .u64 ((a:Int)*4294967296)=_;rw [wu];omega
  by_cases h1:b<=a / 4294967296
  .have c:18446744073709551615=r:=by
    rcases Fz b with rfl | hp
    .exact c
    .rw [if_neg o_,aOi hp h1] at c;exact c
   subst c;generalize a / 4294967296=H at *
   refine c_ Tryz.f288 λ_=>gV ?_;refine Ae (λ h=>absurd (i.symm.trans h) d_) (λ_=>gV ?_);rw [d];refine Ae d_ (gV ?_);refine Ae d_ (gV ?_);refine Kx ?_;exact zW
  .obtain ⟨m,hd⟩:=aG1 (a / 4294967296) W b o_ k o_;have j:a / 4294967296*18446744073709551616+W=a*4294967296:=o_;rw [j] at hd;rw [if_neg o_,(aOh o_).2] at c;rw [c] at hd;generalize a / 4294967296=H at *
   refine c_ Tryz.f288 λ_=>gV ?_;refine Ae (λ h=>absurd (i.symm.trans h) d_) (λ_=>gV ?_);rw [d];refine Ae d_ (gV ?_);refine Ae d_ (gV ?_);refine Kx (gV ?_);refine aF λ h=>?_;rw [l];exact zW
def aL7(a b:Nat)(d:a<18446744073709551616)(c:b<18446744073709551616):aq 288 [uu a,uu b] [] (.ret (uu (E1 a b))) []:=aOw a b d c _ rfl
def aAM(a b:Nat)(d:a<18446744073709551616)(c:b<18446744073709551616):aq 268 [uu a,uu b] [] (.ret (uu (E1 a b))) []:=by have h:=aL7 a b d c;generalize E1 a b=r at h;exact c_ Tryz.f268 λ_=>zW
def FR(a b:Int)(i:a<=9223372036854775807)(e:b<=9223372036854775807):aq 280 [ii a,ii b] [] (.ret (uu (OF a b))) []:=by have h:=aL7 (max a 0).toNat (max b 0).toNat o_ o_;unfold OF;have c:(((max a 0).toNat:Nat):Int)=max a 0:=o_;have d:(((max b 0).toNat:Nat):Int)=max b 0:=o_;generalize E1 (max a 0).toNat (max b 0).toNat=r at h;unfold uu at h;rw [c,d] at h;exact c_ Tryz.f280 λ_=>zW
def aIF(n:Nat):KC n=if n<18446744073709551616 then n else 18446744073709551615:=rfl
def X1:az:=[3037000499,3611622602,3938502375,4112874772,4202935002,4248701964,4271771996,4283353945,4289156689,4292061009,4293513906,4294240539,4294603902,4294785595,4294876444,4294921869]
abbrev aDI:ay:=X1.map uu
def KN(f x i:Nat):Nat:=if f.testBit (15-i)=true then yU x ((X1[i]?).getD 0) else x
def aPz(f:Nat):Nat:=(Du 16).foldl (KN f) 4294967296
def zC(age half:Int):Nat:=
 if 63<(max age 0).toNat / (max half 1).toNat then 0 else aPz (OF (((max age 0).toNat % (max half 1).toNat:Nat):Int) ((max half 1).toNat:Int) / 65536) / 2 ^ ((max age 0).toNat / (max half 1).toNat)
def aLC(f k:Nat):f &&& 2 ^ k=if f.testBit k=true then 2 ^ k else 0:=by
 refine Nat.eq_of_testBit_eq λ j=>?_;rw [Nat.testBit_and,Lf];by_cases h:k=j
 .subst h;cases f.testBit k<;>simp
 .cases f.testBit k<;>simp [h,Lf]
def aG3{i:Nat}(h:i<16):∃ p:Nat,X1[i]? =some p/\p<=4294967296/\aDI[i]? =some (uu p):=by
 have hl:X1.length=16:=rfl;refine ⟨X1[i],Ac o_,?_,by show (X1.map uu)[i]? =_;rw [Bi,Ac o_];rfl⟩;have:∀ p∈X1,p<=4294967296:=by decide
 exact this _ (Ax _)
def aFj{x p:Nat}(a:x<=4294967296)(hp:p<=4294967296):yU x p<=4294967296:=by
 unfold yU;have h1:x*p<=4294967296*4294967296:=Gs a hp;generalize x*p=z at *
 rw [aIF];split<;>omega
def aAR{f x i:Nat}(b:i<16)(a:x<=4294967296):KN f x i<=4294967296:=by
 unfold KN;obtain ⟨p,h1,c,_⟩:=aG3 b;rw [h1];split
 .exact aFj a c
 .exact a
def aAS(f:Nat):∀ (l:az) (x:Nat),(∀ i∈l,i<16)->x<=4294967296->l.foldl (KN f) x<=4294967296
 | [],x,_,hx=>hx
 | i::l,x,h,hx=>aAS f l _ (λ j a=>h j (Av _ a)) (aAR (h i (Ao ..)) hx)
def aKp(f:Nat):aPz f<=4294967296:=aAS f _ _ (λ i a=>Hx.1 a) (Bh _)
def aKq(age half:Int):zC age half<=4294967296:=by
 unfold zC;split
 .omega
 .exact Dh (Hl ..) (aKp _)
def AX(a b:Int):OF a b<18446744073709551616:=aK1 _ _
def V9(f:Nat){i:Nat}(h:i<16)(x:Nat):((Du 16).drop i).foldl (KN f) x=((Du 16).drop (i+1)).foldl (KN f) (KN f x i):=by rw [Aa (by simpa using h)];simp
def aDk{i:Nat}(h:i<16):i=0\/i=1\/i=2\/i=3\/i=4\/i=5\/i=6\/i=7\/i=8\/i=9\/i=10\/i=11\/i=12\/i=13\/i=14\/i=15:=o_
def VH:aq 281 [] [] (.ret (.agg aDI)) []:=by exact c_ Tryz.f281 λ_=>zW
noncomputable abbrev fDF:Func:=Tryz.f255
def aK3(A H f:Nat)(F:f<18446744073709551616)(C:A<9223372036854775808)(G:0<H)(z:H<9223372036854775808)(D:A / H<=63)(R:Nat):∀ (m i x:Nat),i+m=16->x<=4294967296->((Du 16).drop i).foldl (KN f) x / 2 ^ (A / H)=R->
  To E fDF (.pure (.ret (uu R))) (.head (stk fDF 0) [(0,ii A),(1,ii H),(5,uu f),(6,uu x),(23,.agg aDI),(24,ii i)] []):=by
 intro m;induction m with
 | zero=>
  intro i x r j c;rw [Ab q_] at c;have c:x / 2 ^ (A / H)=R:=c;have e:=aDF A H;have d:=aME x (A / H);rw [c] at d;have s:A / H<=A:=Hl ..;generalize A / H=q at *
  refine gV ?_;refine aF λ h=>gV ?_;refine Ae o_ (gV ?_);rw [e];refine aJ (gV ?_);rw [d];refine Ae (Ae o_ (show Dx (q:Int)<=64 by omega)) ?_;refine gW hE ?_;conv=>whnf
 | succ m v=>
  intro i x r j c;rw [V9 f o_] at c;have next:=v (i+1) (KN f x i) o_ (aAR o_ j) c
  obtain ⟨p,hp,t,l⟩:=aG3 (i:=i) o_;have e:(15:Int)-(i:Int)=((15-i:Nat):Int):=o_;have d:(1:Int)*2 ^ Dx ((15-i:Nat):Int)=((2 ^ (15-i):Nat):Int):=by have:=aIx 1 (15-i);rw [Hb] at this;exact this
  have o:2 ^ (15-i)<=2 ^ 15:=Fg d_ o_;have a:=DE .u64 f (2 ^ (15-i)) (by simp only [bN];omega) (by simp only [bN];omega);rw [aLC] at a;have n:0<2 ^ (15-i):=Nb d_;unfold KN at next
  rw [hp] at next
  have hm:=PE x p o_ o_;have B:15-i<=15:=o_;generalize 15-i=k at *
  have go:∀ b,f.testBit k=b->To E fDF (.pure (.ret (uu R))) (.head (stk fDF 0) [(0,ii A),(1,ii H),(5,uu f),(6,uu x),(23,.agg aDI),(24,ii i)] []):=λ b g=>by
   cases b with
   | true=>
    rw [g,if_pos rfl] at next
    rw [g] at a;have nxt:To E fDF (.pure (.ret (uu R))) (.head (stk fDF 0) [(0,ii A),(1,ii H),(5,uu f),(6,uu (yU x p)),(23,.agg aDI),(24,ii ((i+1:Nat):Int))] []):=next
    clear next
    generalize yU x p=y at *
    have a:eG .and .u64 (f:Int) ((2 ^ k:Nat):Int)=((2 ^ k:Nat):Int):=by rw [a];rfl
    generalize 2 ^ k=w at *
    have u:((w:Int) !=0)=true:=by rw [bne_iff_ne];omega
    rcases aDk (show i<16 by omega) with rfl | rfl | rfl | rfl | rfl | rfl | rfl | rfl | rfl | rfl | rfl | rfl | rfl | rfl | rfl | rfl
    all_goals cases hp
    all_goals
     exact zqda0
   | false=>
    rw [g,if_neg d_] at next
    rw [g] at a;have a:eG .and .u64 (f:Int) ((2 ^ k:Nat):Int)=0:=by rw [a];rfl
    generalize 2 ^ k=w at *
    have u:((0:Int) !=0)=false:=rfl;rcases aDk (show i<16 by omega) with rfl | rfl | rfl | rfl | rfl | rfl | rfl | rfl | rfl | rfl | rfl | rfl | rfl | rfl | rfl | rfl
    all_goals cases hp
    all_goals
     exact zqda0
  exact go _ rfl
def XD(age half:Int)(h1:age<=9223372036854775807)(t:half<=9223372036854775807)(R:Nat)(a:zC age half=R):aq 255 [ii age,ii half] [] (.ret (uu R)) []:=by
 unfold zC at a;have d:(((max age 0).toNat:Nat):Int)=max age 0:=o_;have i:(((max half 1).toNat:Nat):Int)=max half 1:=o_;have j:(max age 0).toNat<9223372036854775808:=o_;have s:0<(max half 1).toNat:=o_;have b:(max half 1).toNat<9223372036854775808:=o_;generalize (max age 0).toNat=A at *
 generalize (max half 1).toNat=H at *
 have c:=aDF A H;have o:=aOM A H;have k:A / H<=A:=Hl ..;have l:=Mi A H;by_cases e:63<A / H
 .rw [if_pos e] at a;subst a;generalize A / H=q at *
  refine c_ Tryz.f255 λ_=>gV ?_;rw [<-d,<-i];refine Ae o_ (gV ?_);rw [c];exact zW
 .rw [if_neg e] at a;have m:=FR ((A % H:Nat):Int) (H:Int) o_ o_;have n:=AX ((A % H:Nat):Int) (H:Int);generalize OF ((A % H:Nat):Int) (H:Int)=T at *
  have p:=PA T;have u:=aK3 A H (T / 65536) o_ j s b o_ R 16 0 4294967296 o_ (Bh _) a;generalize T / 65536=f at *
  generalize A / H=q at *
  generalize A % H=r at *
  refine c_ Tryz.f255 λ_=>gV ?_;rw [<-d,<-i];refine Ae o_ (gV ?_);rw [c];refine aJ (gV ?_);refine aF λ h=>gV ?_;refine Ae o_ (gV ?_);rw [o];refine .pure _ [] m (gV ?_);rw [p];refine Ae d_ (gV ?_);refine .pure _ [] VH ?_;exact zW
def aCr(age half:Int)(h1:age<=9223372036854775807)(a:half<=9223372036854775807):aq 255 [ii age,ii half] [] (.ret (uu (zC age half))) []:=XD age half h1 a _ rfl
def aCE(x:Nat)(n m:Int):Nat:=if 0<n then max x (OF n m) else x
def aCF(u v:V3):Nat:=aCE (aCE (aCE 0 u.a v.a) u.b v.b) u.c v.c
def PY{x:Nat}{n m:Int}(h:x<18446744073709551616):aCE x n m<18446744073709551616:=by
 have:=AX n m;unfold aCE;split
 .omega
 .exact h
def aKY(u v:V3):aCF u v<18446744073709551616:=PY (PY (PY d_))
def aOK(v u:V3)(M:Imm)(ob:Hs)(vs:ba)(h:cM M ob vs [v.av,u.av]):(inR .i64 v.a/\inR .i64 v.b/\inR .i64 v.c)/\inR .i64 u.a/\inR .i64 u.b/\inR .i64 u.c:=by
 have hl:1<vs.length:=by rw [h.1];simp
 have h1:=h.2 0 _ v.av (Ac o_) rfl;have d:=h.2 1 _ u.av (Ac hl) rfl;exact ⟨⟨bE h1 0 _ rfl,bE h1 1 _ rfl,bE h1 2 _ rfl⟩,bE d 0 _ rfl,bE d 1 _ rfl,bE d 2 _ rfl⟩
def aKX(u v:V3)(r:Nat)(d:aCF u v=r):aq 264 [u.av,v.av] [] (.ret (uu r)) []:=by
  refine aA.get _ (aOK u v) λ⟨⟨⟨a1,a2⟩,⟨b1,b2⟩,⟨c1,c2⟩⟩,⟨d1,d2⟩,⟨e1,e2⟩,⟨f1,f2⟩⟩=>?_;simp only [dA,bN] at a1 a2 b1 b2 c1 c2 d1 d2 e1 e2 f1 f2;have h1:=FR u.a v.a o_ o_;have i:=FR u.b v.b o_ o_;have h3:=FR u.c v.c o_ o_;have l1:=AX u.a v.a;have l2:=AX u.b v.b;have l:=AX u.c v.c;unfold aCF aCE at d;generalize OF u.a v.a=p at *
  generalize OF u.b v.b=q at *
  generalize OF u.c v.c=s at *
  by_cases j:0<u.a<;>by_cases k:0<u.b<;>by_cases e:0<u.c<;>simp only [j,k,e,if_true,if_false] at d
  all_goals
   subst d;refine c_ Tryz.f264 λ_=>gV ?_
   repeat' first
    | (refine gW hE ?_;conv=>whnf)
    | refine .pure _ [] h1 ?_
    | refine .pure _ [] i ?_
    | refine .pure _ [] h3 ?_
    | exact rfl
    | refine aY ?_
    | refine aN ?_
    | refine aT λ h=>?_
    | refine aF λ h=>?_
    | refine aJ ?_
    | refine Aq _ (Ae rfl ?_)
    | refine Ae d_ ?_
    | fail
   all_goals exact congrArg (λ n=>Res.ret (aa.int .u64 n)) o_
def aMl(v:V3)(h:Hos):V3:=fK v h.c
def GE(c:Con):V3:=c.hs.foldl aMl V3.zero
noncomputable abbrev aPA:Func:=Tryz.f261
def aDx(l:List Hos)(hl:l.length<=1048576)(r:V3):∀ (m i:Nat) (v:V3),i+m=l.length->(l.drop i).foldl aMl v=r->
  To E aPA (.pure (.ret r.av)) (.head (stk aPA 0) [(2,.ref 0 0),(3,.ref 1 0),(7,.slice 6 (hav l) .no),(8,ii (l.length:Nat)),(9,ii i)] [.cells 43 V3.zero.cs,.cells 43 v.cs]):=by
 have d:(hav l).length=l.length:=by simp
 intro m;induction m with
 | zero=>
  intro i v e a;rw [Ab o_] at a;have a:v=r:=a;subst a;refine gV ?_;exact zW
 | succ m f=>
  intro i v e a;have b:i<l.length:=o_;rw [Aa b,Bb] at a;have next:=f (i+1) _ o_ a
  have get:=BG b;generalize l[i]=x at get next
  have g:=kQ v x.c;unfold aMl at next
  generalize fK v x.c=w at g next
  refine gV ?_;exact zW
def aDw(c:Con)(b:c.sm):aq 261 [c.av] [] (.ret (GE c).av) []:=by
 have a:(hav c.hs).length=c.hs.length:=by simp
 have h1:=b.hs;have next:=aDx c.hs o_ (GE c) c.hs.length 0 V3.zero o_ rfl
 generalize GE c=r at next
 rw [<-a] at next
 refine c_ Tryz.f261 λ_=>?_
 repeat' first | (refine gN hE ?_;conv=>whnf) | exact rfl | refine zt ?_ | refine zu ?_ ?_ | intro h | fail
 refine To.part [2,3,7,8,9] [1,2] rfl rfl rfl ?_;exact next
def fB{α:Type}(d:Nat->α->Nat):List α->Nat->az
 | [],_=>[]
 | x::r,i=>d i x::fB d r (i+1)
def mG{α:Type}(d:Nat->α->Nat):∀ (l:List α) (i:Nat),(fB d l i).length=l.length
 | [],_=>rfl
 | _::r,i=>by simp [fB,mG d r (i+1)]
def MV{α:Type}(d:Nat->α->Nat):∀ (l:List α) (i k:Nat) (h:k<l.length),(fB d l i)[k]? =some (d (i+k) l[k])
 | [],_,k,h=>absurd h s_
 | x::r,i,0,_=>rfl
 | x::r,i,k+1,h=>by have:=MV d r (i+1) k (by simpa using h);simp only [fB,Gc,List.getElem_cons_succ];rw [this,show i+1+k=i+(k+1) by omega]
def aGa{l:az}{i:Nat}(h:i<l.length):(fv l)[i]? =some (uu l[i]):=by simp [fv,h]
def LtF(l:az):Prop:=∀ x∈l,x<18446744073709551616
def yQ(c:Con)(i:Nat)(v:V3):Nat:=if bL c.ns (i:Int)=true then aCF v (GE c) else 0
def EU(c:Con)(l:a6):az:=fB (yQ c) (ofL c l) 0
def tkS(a:az)(n half:Int)(i:Nat)(x:Nat):Nat:=if i<a.length then JV (yU x (zC n half)) (yU ((a[i]?).getD 0) (ofF n)) else yU x (zC n half)
def tkL(h a:az)(n half:Int):az:=fB (tkS a n half) h 0
def YX(c:Con):az:=fB (λ_ _=>0) c.ns 0
noncomputable abbrev aPx:Func:=Tryz.f262
abbrev aNO(c:Con):aa:=.func (.func 263) [] [.ptr c.cs,.ptr (GE c).cs]
def aGx(c:Con) (l:a8)(hl:l.length<=1048576)(hm:∀ (i:Nat) (h:i<l.length),aq 263 (ii i::l[i].av::[.ptr c.cs,.ptr (GE c).cs]) [] (.ret (uu ((yQ c) i l[i]))) [])(R:az):∀ (m i:Nat) (a:az),i+m=l.length->a.length=i->a++fB (yQ c) (l.drop i) i=R->
  To (Eo [5] []) aPx (.pure (.ret (.slice 1 (fv R) .no))) (.head (stk aPx 0) [(1,aNO c),(5,.slice 1 (fv a) (.own 0 0)),(8,.slice 3 (vav l) .no),(9,ii (l.length:Nat)),(10,ii i)] [.tail 0 1 130]):=by
 have j:(vav l).length=l.length:=by simp
 intro m;induction m with
 | zero=>
  intro i a k o b;exact zqda4
 | succ m n=>
  intro i a k o b;have d:i<l.length:=o_;have get:=AB d;have g:=hm i d;rw [Aa d] at b;generalize l[i]=x at get g b;have b:a++((yQ c) i x::fB (yQ c) (l.drop (i+1)) (i+1))=R:=b;generalize (yQ c) i x=y at g b;have next:=n (i+1) (a++[y]) o_ q_ (by rw [Ag];exact b)
  have e:fv (a++[y])=fv a++[uu y]:=by simp [fv]
  rw [e] at next
  have p:(fv a).length=a.length:=by simp
  refine gV ?_;exact zW
def aN0(c:Con) (l:a8)(hl:l.length<=1048576)(hm:∀ (i:Nat) (h:i<l.length),aq 263 (ii i::l[i].av::[.ptr c.cs,.ptr (GE c).cs]) [] (.ret (uu ((yQ c) i l[i]))) []):
  aq 262 [.slice 3 (vav l) .no,aNO c] [] (.ret (.slice 1 (fv (fB (yQ c) l 0)) .no)) []:=by
 have a:(vav l).length=l.length:=by simp
 have next:=aGx c l hl hm (fB (yQ c) l 0) l.length 0 [] o_ rfl rfl
 generalize fB (yQ c) l 0=R at next
 rw [<-a] at next
 refine cT (E:=(Eo [5] [])) (fn:=Tryz.f262) (g:=.pure _) λ_=>?_;exact zW
noncomputable abbrev aPw:Func:=Tryz.f257
abbrev aNN(sh:az)(n half:Int):aa:=.func (.func 258) [] [.ptr [uu (zC n half)],.ptr [.slice 1 (fv sh) .no],.ptr [uu (ofF n)]]
def aGw(c:az)(n half:Int) (l:az)(hl:l.length<=1048576)(hm:∀ (i:Nat) (h:i<l.length),aq 258 (ii i::uu l[i]::[.ptr [uu (zC n half)],.ptr [.slice 1 (fv c) .no],.ptr [uu (ofF n)]]) [] (.ret (uu ((tkS c n half) i l[i]))) [])(R:az):∀ (m i:Nat) (a:az),i+m=l.length->a.length=i->a++fB (tkS c n half) (l.drop i) i=R->
  To (Eo [5] []) aPw (.pure (.ret (.slice 1 (fv R) .no))) (.head (stk aPw 0) [(1,aNN c n half),(5,.slice 1 (fv a) (.own 0 0)),(8,.slice 1 (fv l) .no),(9,ii (l.length:Nat)),(10,ii i)] [.tail 0 1 130]):=by
 have j:(fv l).length=l.length:=by simp
 intro m;induction m with
 | zero=>
  intro i a k p b;exact zqda4
 | succ m o=>
  intro i a k p b;have d:i<l.length:=o_;have get:=aGa d;have g:=hm i d;rw [Aa d] at b;generalize l[i]=x at get g b;have b:a++((tkS c n half) i x::fB (tkS c n half) (l.drop (i+1)) (i+1))=R:=b;generalize (tkS c n half) i x=y at g b;have next:=o (i+1) (a++[y]) o_ q_ (by rw [Ag];exact b)
  have e:fv (a++[y])=fv a++[uu y]:=by simp [fv]
  rw [e] at next
  have q:(fv a).length=a.length:=by simp
  refine gV ?_;exact zW
def aNZ(a:az)(n half:Int) (l:az)(hl:l.length<=1048576)(hm:∀ (i:Nat) (h:i<l.length),aq 258 (ii i::uu l[i]::[.ptr [uu (zC n half)],.ptr [.slice 1 (fv a) .no],.ptr [uu (ofF n)]]) [] (.ret (uu ((tkS a n half) i l[i]))) []):
  aq 257 [.slice 1 (fv l) .no,aNN a n half] [] (.ret (.slice 1 (fv (fB (tkS a n half) l 0)) .no)) []:=by
 have b:(fv l).length=l.length:=by simp
 have next:=aGw a n half l hl hm (fB (tkS a n half) l 0) l.length 0 [] o_ rfl rfl
 generalize fB (tkS a n half) l 0=R at next
 rw [<-b] at next
 refine cT (E:=(Eo [5] [])) (fn:=Tryz.f257) (g:=.pure _) λ_=>?_;exact zW
noncomputable abbrev aPv:Func:=Tryz.f249
abbrev aNM:aa:=.func (.func 250) [] []
def aGv  (l:bc)(hl:l.length<=1048576)(hm:∀ (i:Nat) (h:i<l.length),aq 250 (ii i::l[i].av::[]) [] (.ret (uu ((λ_ _=>0) i l[i]))) [])(R:az):∀ (m i:Nat) (a:az),i+m=l.length->a.length=i->a++fB (λ_ _=>0) (l.drop i) i=R->
  To (Eo [5] []) aPv (.pure (.ret (.slice 1 (fv R) .no))) (.head (stk aPv 0) [(1,aNM),(5,.slice 1 (fv a) (.own 0 0)),(8,.slice 11 (nav l) .no),(9,ii (l.length:Nat)),(10,ii i)] [.tail 0 1 130]):=by
 have g:(nav l).length=l.length:=by simp
 intro m;induction m with
 | zero=>
  intro i a j n b;exact zqda4
 | succ m k=>
  intro i a j n b;have c:i<l.length:=o_;have get:=nU c;have d:=hm i c;rw [Aa c] at b;generalize l[i]=x at get d b;have b:a++((λ_ _=>0) i x::fB (λ_ _=>0) (l.drop (i+1)) (i+1))=R:=b;generalize (λ_ _=>0) i x=y at d b;have next:=k (i+1) (a++[y]) o_ q_ (by rw [Ag];exact b)
  have e:fv (a++[y])=fv a++[uu y]:=by simp [fv]
  rw [e] at next
  have o:(fv a).length=a.length:=by simp
  refine gV ?_;exact zW
def aNY  (l:bc)(hl:l.length<=1048576)(hm:∀ (i:Nat) (h:i<l.length),aq 250 (ii i::l[i].av::[]) [] (.ret (uu ((λ_ _=>0) i l[i]))) []):
  aq 249 [.slice 11 (nav l) .no,aNM] [] (.ret (.slice 1 (fv (fB (λ_ _=>0) l 0)) .no)) []:=by
 have a:(nav l).length=l.length:=by simp
 have next:=aGv  l hl hm (fB (λ_ _=>0) l 0) l.length 0 [] o_ rfl rfl
 generalize fB (λ_ _=>0) l 0=R at next
 rw [<-a] at next
 refine cT (E:=(Eo [5] [])) (fn:=Tryz.f249) (g:=.pure _) λ_=>?_;exact zW
def aOf(u v:V3):aq 264 [u.av,v.av] [] (.ret (uu (aCF u v))) []:=aKX u v _ rfl
def aIz(c:Con)(i:Nat)(v:V3):aq 263 [ii i,v.av,.ptr c.cs,.ptr (GE c).cs] [] (.ret (uu (yQ c i v))) []:=by
 have h1:=mQ c (i:Int);have d:=aOf v (GE c);unfold yQ;generalize GE c=a at *
 generalize aCF v a=y at *
 cases b:bL c.ns (i:Int) with
 | true=>
  rw [b] at h1;exact c_ Tryz.f263 λ_=>zW
 | false=>
  rw [b] at h1;exact c_ Tryz.f263 λ_=>zW
def aBE(c:Con)(b:c.sm)(l:a6)(hl:l.length<=1048576):aq 212 [c.av,.slice 14 (rav l) .no] [] (.ret (.slice 1 (fv (EU c l)) .no)) []:=by
 have h1:=aDw c b;have e:=SG c b l hl;have j:=b.ns;have d:(ofL c l).length=c.ns.length:=by unfold ofL pJ;simp
 have h3:=aN0 c (ofL c l) o_ λ i h=>aIz c i _;unfold EU;unfold aNO at h3;generalize fB (yQ c) (ofL c l) 0=R at *
 generalize ofL c l=us at *
 generalize GE c=a at *
 exact c_ Tryz.f212 λ_=>zW
def aMs(a:az)(hs:LtF a)(hsl:a.length<=1048576)(n half:Int)(i x:Nat)(d:x<18446744073709551616):aq 258 [ii i,uu x,.ptr [uu (zC n half)],.ptr [.slice 1 (fv a) .no],.ptr [uu (ofF n)]] [] (.ret (uu (tkS a n half i x))) []:=by
 have j:=aKq n half;have e:=WP n;have h1:=PE x (zC n half) d o_;have l1:=OW x (zC n half);have c:(fv a).length=a.length:=by simp
 unfold tkS;generalize zC n half=f at *
 generalize ofF n=t at *
 generalize yU x f=y at *
 by_cases b:i<a.length
 .rw [if_pos b,Ac b];have get:=aGa b;have hz:=hs _ (Ax b);show aA _ _ _ _ (.ret (uu (JV y (yU a[i] t)))) _;generalize a[i]=z at *
  have h:=PE z t hz e;have l2:=OW z t;generalize yU z t=w at *
  have h3:=aAQ y w l1 l2;generalize JV y w=r at *
  exact c_ Tryz.f258 λ_=>zW
 .rw [if_neg b];exact c_ Tryz.f258 λ_=>zW
def aIy(c:Con)(l:a6):LtF (EU c l):=by
 intro x b;obtain ⟨k,a,e⟩:=Ja b;unfold EU at a e;rw [mG] at a;have:=MV (yQ c) (ofL c l) 0 k a;rw [Ac (by rw [mG];exact a),e] at this;cases this;unfold yQ;split
 .exact aKY _ _
 .decide
def aIc(h a:az)(e:LtF h)(hl:h.length<=1048576)(hs:LtF a)(hsl:a.length<=1048576)(n half:Int)(c:n<=9223372036854775807)(d:half<=9223372036854775807):aq 211 [.slice 1 (fv h) .no,.slice 1 (fv a) .no,ii n,ii half] [] (.ret (.slice 1 (fv (tkL h a n half)) .no)) []:=by
 have h1:=aCr n half c d;have j:=XB n;have h3:=aNZ a n half h hl λ i b=>aMs a hs hsl n half i _ (e _ (Ax b));unfold tkL;unfold aNN at h3;generalize fB (tkS a n half) h 0=R at *
 generalize zC n half=f at *
 generalize ofF n=t at *
 exact c_ Tryz.f211 λ_=>zW
def aOH(i:Nat)(x:Nod):aq 250 [ii i,x.av] [] (.ret (uu 0)) []:=by exact c_ Tryz.f250 λ_=>zW
def aHQ(c:Con)(a:c.sm):aq 203 [c.av] [] (.ret (.slice 1 (fv (YX c)) .no)) []:=by
 have b:=a.ns;have h3:=aNY c.ns o_ λ i h=>aOH i _;unfold YX;unfold aNM at h3;generalize fB (λ_ _=>0) c.ns 0=R at *
 exact c_ Tryz.f203 λ_=>zW
def lU(a:Int)(l:a7):Int:=Q2.ak a (l.map Pn.q)
def dZ(l:a7)(a:Int):a7:=if lU a l<0 then l else l.eraseIdx (lU a l).toNat
def nA(l:a7)(p:Pn):a7:=l.take (Q2.putAt p.q (l.map Pn.q))++[p]++l.drop (Q2.putAt p.q (l.map Pn.q))
def aIf(l:a7)(a:Int):(dZ l a).map Pn.q=Q2.takeP (l.map Pn.q) a:=by
 unfold dZ Q2.takeP lU;split
 .rfl
 .simp [Gi,Gq,Jd]
def aEJ(l:a7)(p:Pn):(nA l p).map Pn.q=Q2.putP (l.map Pn.q) p.q:=by unfold nA Q2.putP;simp [Gq,Jd]
def aEH(l:a7)(a:Int):aq 205 [.slice 11 (pnv l) .no,ii a] [] (.ret (ii (lU a l))) []:=by have h:=Q2.find_ok (l.map Pn.q) a;rw [nO] at h;exact h
def OI(l:a7)(p:Pn)(hl:l.length<=1000000):aq 180 [.slice 11 (pnv l) .no,p.av] [] (.ret (.slice 11 (pnv (nA l p)) .no)) []:=by have h:=Q2.put_ok (l.map Pn.q) p.q (by simpa using hl);rw [<-aEJ,nO,nO] at h;exact h
def vT(l:a7)(a:Int)(hl:l.length<=1000000):aq 138 [.slice 11 (pnv l) .no,ii a] [] (.ret (.tup [.slice 11 (pnv (dZ l a)) .no,.bool (!decide (lU a l<0))])) []:=by have h:=Q2.take_ok (l.map Pn.q) a (by simpa using hl);rw [<-aIf,nO,nO] at h;exact h
structure Ev where
 (k id n:Int)
 deriving DecidableEq
abbrev _root_.bb:=List Ev
def Ev.cs(e:Ev):ay:=[ii e.k,ii e.id,ii e.n]
def Ev.av(e:Ev):aa:=.agg e.cs
abbrev evv(l:bb):ay:=l.map Ev.av
structure Rd where
 s:Sta
 ev:bb
 head:Bool
 start:Int
def U9(r:Rd)(p:Pn)(fl:Int)(hs:ax):Rd:=
 ⟨{r.s with pend:=dZ r.s.pend p.g.id,run:=r.s.run++[⟨p.g,p.seq,p.at',r.s.now,fl,hs⟩]},r.ev++[⟨1,p.g.id,fl⟩],r.head,r.start⟩
def xX(r:Rd)(p:Pn):Option (Int×ax)->Rd×Bool
 | none=>(r,false)
 | some (fl,hs)=>if (r.head&& !bmB r.s.now p.g r.start)=true then (r,false) else (U9 r p fl hs,true)
def admR(r:Rd)(p:Pn):Rd×Bool:=xX r p (bM r.s.c r.s.run p.g)
def dQ(run:a6)(r:Rd)(id:Int):Rd:=
 let x:=bB run (bA (λ x=>x.g.id==id) run 0).toNat
 ⟨{r.s with pend:=nA r.s.pend x.pn},r.ev++[⟨2,id,0⟩],r.head,r.start⟩
def nG(r:Rd)(ids:ax):Rd:=
 let q:=ids.foldl (dQ r.s.run) r
 ⟨{q.s with run:=aH r.s.run ids},q.ev,q.head,q.start⟩
def rL(r:Rd)(p:Pn):Option Int->Rd
 | none=>r
 | some n=>⟨r.s,r.ev++[⟨4,p.g.id,n⟩],true,n⟩
def LR(r:Rd)(p:Pn):Option ax->Rd
 | some ids=>(admR (nG r ids) p).1
 | none=>rL r p (vI r.s.c r.s.now r.s.run p.g)
def bU(r:Rd)(p:Pn):Rd:=
 if (admR r p).2=true then (admR r p).1 else if r.head=true then r else LR r p (gM r.s.c r.s.run p.g)
def kO(a b:Int):Int:=if a<b then -1 else if b<a then 1 else 0
def VK(c:Con)(h:az)(n:Int):Nat:=(bI c.ns n).foldl (λ x t=>if t<(h.length:Int) then JV x ((h[t.toNat]?).getD 0) else x) 0
def aOI(c:Con)(n:Int):Int:=if 0<=n/\n<(c.ns.length:Int) then max 1 (cZ c.ns n).w else 1
def rU(c:Con)(h:az)(n:Int):Nat:=E1 (VK c h n) (ofF (aOI c n))
def xS(c:Con)(h:az)(x y:Int):Int:=if rU c h x<rU c h y then -1 else if rU c h y<rU c h x then 1 else kO x y
def jZ(c:Con)(h:az):ax->ax->Int
 | [],[]=>0
 | [],_::_=> -1
 | _::_,[]=>1
 | x::p,y::q=>if x=y then jZ c h p q else xS c h x y
def xR(c:Con)(now:Int)(p:Pn):Bool:=decide (0<c.age)&&(decide (p.at'<=now)&&decide (c.age<=now-p.at'))
def ptC(s:Sta)(a b:Pn):Int:=jZ s.c s.hist (gR s.c.ns a.g.ten) (gR s.c.ns b.g.ten)
def lQ(s:Sta)(a b:Pn):Int:=
 if xR s.c s.now a=true then (if xR s.c s.now b=true then kO a.seq b.seq else -1)
 else if xR s.c s.now b=true then 1 else (if ptC s a b=0 then kO a.seq b.seq else ptC s a b)
def ltP(s:Sta)(a b:Pn):Bool:=decide (lQ s a b<0)
def tC{a b:Int}:kO a b<0↔a<b:=by
 unfold kO
 repeat' split
 all_goals omega
def aE9{a b:Int}:kO a b=0↔a=b:=by
 unfold kO
 repeat' split
 all_goals omega
def aJj{a b:Int}:0<kO a b↔b<a:=by
 unfold kO
 repeat' split
 all_goals omega
def aJo{c:Con}{h:az}{x y:Int}:xS c h x y<0↔rU c h x<rU c h y\/(rU c h x=rU c h y/\x<y):=by
 have:=tC (a:=x) (b:=y);unfold xS
 repeat' split
 all_goals omega
def aJp{c:Con}{h:az}{x y:Int}:0<xS c h x y↔xS c h y x<0:=by
 have h1:=aJj (a:=x) (b:=y);have d:=tC (a:=y) (b:=x);unfold xS
 repeat' split
 all_goals omega
def aFg{c:Con}{h:az}{x y:Int}:xS c h x y=0↔x=y:=by
 have h1:=aE9 (a:=x) (b:=y);unfold xS;constructor
 .intro hz
  repeat' split at hz
  all_goals omega
 .rintro rfl;rw [if_neg o_,if_neg o_];exact h1.2 rfl
def yK{c:Con}{h:az}:∀ {p q:ax},jZ c h p q=0↔p=q
 | [],[]=>by simp [jZ]
 | [],_::_=>by simp [jZ]
 | _::_,[]=>by simp [jZ]
 | x::p,y::q=>by
  unfold jZ;by_cases e:x=y
  .rw [if_pos e,yK];subst e;simp
  .rw [if_neg e];have:=aFg (c:=c) (h:=h) (x:=x) (y:=y);constructor
   .intro h1;exact absurd (this.1 h1) e
   .intro h1;cases h1;exact absurd rfl e
def ZB{c:Con}{h:az}:∀ {p q:ax},0<jZ c h p q↔jZ c h q p<0
 | [],[]=>by simp [jZ]
 | [],_::_=>by simp [jZ]
 | _::_,[]=>by simp [jZ]
 | x::p,y::q=>by
  unfold jZ;by_cases e:x=y
  .subst e;rw [if_pos rfl,if_pos rfl];exact ZB
  .rw [if_neg e,if_neg (λ h=>e h.symm)];exact aJp
def aJm{c:Con}{h:az}{x y z:Int}(h1:xS c h x y<0)(a:xS c h y z<0):xS c h x z<0:=by
 rw [aJo] at *
 omega
def ZA{c:Con}{h:az}:∀ {p q r:ax},jZ c h p q<0->jZ c h q r<0->jZ c h p r<0
 | [],[],_,h1,_=>by simp [jZ] at h1
 | [],_::_,[],_,h2=>by simp [jZ] at h2
 | [],_::_,_::_,_,_=>by simp [jZ]
 | _::_,[],_,h1,_=>by simp [jZ] at h1
 | _::_,_::_,[],_,h2=>by simp [jZ] at h2
 | x::p,y::q,z::r,h1,h2=>by
  unfold jZ at *
  by_cases b:x=y
  .subst b;rw [if_pos rfl] at h1;by_cases a:x=z
   .rw [if_pos a] at h2⊢;exact ZA h1 h2
   .rw [if_neg a] at h2⊢;exact h2
  .rw [if_neg b] at h1;by_cases a:y=z
   .subst a;rw [if_neg b];exact h1
   .rw [if_neg a] at h2;have h3:=aJm h1 h2;by_cases d:x=z
    .subst d;have:=(aFg (c:=c) (h:=h) (x:=x) (y:=x)).2 rfl;omega
    .rw [if_neg d];exact h3
def jW(s:Sta):Ord (ltP s) where
 irr a:=by have h1:=(yK (c:=s.c) (h:=s.hist) (p:=gR s.c.ns a.g.ten)).2 rfl;have h2:=(aE9 (a:=a.seq) (b:=a.seq)).2 rfl;unfold ltP lQ ptC;rw [h1,h2];split<;>simp
 tr a b c h1 h2:=by
  unfold ltP lQ at *
  simp only [decide_eq_true_eq] at *
  have n1:=tC (a:=a.seq) (b:=b.seq);have n2:=tC (a:=b.seq) (b:=c.seq);have n3:=tC (a:=a.seq) (b:=c.seq);have t1:=yK (c:=s.c) (h:=s.hist) (p:=gR s.c.ns a.g.ten) (q:=gR s.c.ns b.g.ten);have t2:=yK (c:=s.c) (h:=s.hist) (p:=gR s.c.ns b.g.ten) (q:=gR s.c.ns c.g.ten);cases ha:xR s.c s.now a<;>cases hb:xR s.c s.now b<;>cases hc:xR s.c s.now c<;>simp only [ha,hb,hc,if_true,if_false,reduceIte,Cr] at * <;>try omega
  by_cases z1:ptC s a b=0
  .have e1:=t1.1 z1;rw [if_pos z1] at h1;have e3:ptC s a c=ptC s b c:=by unfold ptC;rw [e1]
   rw [e3];split at h2
   .rename_i z;rw [if_pos z];omega
   .rename_i z;rw [if_neg z];exact h2
  .rw [if_neg z1] at h1;by_cases z2:ptC s b c=0
   .have e2:=t2.1 z2;have e3:ptC s a c=ptC s a b:=by unfold ptC;rw [e2]
    rw [e3,if_neg z1];exact h1
   .rw [if_neg z2] at h2;have h3:ptC s a c<0:=ZA h1 h2;rw [if_neg o_];exact h3
def aJE(s:Sta){a b:Pn}(h:a.seq≠b.seq):ltP s a b=true\/ltP s b a=true:=by
 unfold ltP lQ;simp only [decide_eq_true_eq];have n1:=tC (a:=a.seq) (b:=b.seq);have n2:=tC (a:=b.seq) (b:=a.seq);have d:=yK (c:=s.c) (h:=s.hist) (p:=gR s.c.ns a.g.ten) (q:=gR s.c.ns b.g.ten);have e:=yK (c:=s.c) (h:=s.hist) (p:=gR s.c.ns b.g.ten) (q:=gR s.c.ns a.g.ten);have i:=ZB (c:=s.c) (h:=s.hist) (p:=gR s.c.ns a.g.ten) (q:=gR s.c.ns b.g.ten);cases j:xR s.c s.now a<;>cases f:xR s.c s.now b<;>simp only [if_true,if_false,reduceIte,Cr]<;>try omega
 unfold ptC;by_cases z:jZ s.c s.hist (gR s.c.ns a.g.ten) (gR s.c.ns b.g.ten)=0
 .rw [if_pos z,if_pos (e.2 (d.1 z).symm)];omega
 .rw [if_neg z,if_neg (λ h=>z (d.2 (e.1 h).symm))];omega
def aDP(h:az)(x:Nat)(t:Int):Nat:=if t<(h.length:Int) then JV x ((h[t.toNat]?).getD 0) else x
def ZK{h:az}{x:Nat}{t:Int}(a:x<18446744073709551616):aDP h x t<18446744073709551616:=by
 unfold aDP;split
 .exact aBl _ _
 .exact a
def aIn(c:Con)(h:az)(n:Int):VK c h n<18446744073709551616:=by
 have go:∀ (l:ax) (x:Nat),x<18446744073709551616->l.foldl (aDP h) x<18446744073709551616:=λ l=>by
  induction l with
  | nil=>exact λ x b=>b
  | cons a l d=>exact λ x b=>d _ (ZK b)
 exact go _ _ d_
noncomputable abbrev aKu:Func:=Tryz.f269
def aCs(h:az)(p:LtF h)(hl:h.length<=1048576)(l:ax)(n:∀ t∈l,0<=t)(o:l.length<=1048576)(R:Nat):∀ (m i x:Nat),i+m=l.length->x<18446744073709551616->(l.drop i).foldl (aDP h) x=R->
  To E aKu (.pure (.ret (uu R))) (.head (stk aKu 0) [(1,.slice 1 (fv h) .no),(7,uu x),(12,.slice 1 (iv l) .no),(13,ii (l.length:Nat)),(14,ii i)] []):=by
 have f:(iv l).length=l.length:=by simp
 have g:(fv h).length=h.length:=by simp
 intro m;induction m with
 | zero=>
  intro i x k d a;rw [Ab o_] at a;have a:x=R:=a;subst a;refine gV ?_;exact zW
 | succ m e=>
  intro i x k d a;have c:i<l.length:=o_;have get:=dJ c;have j:=n _ (Ax c);rw [Aa c,Bb] at a;have next:=e (i+1) _ o_ (ZK d) a
  clear a e;generalize l[i]=t at *
  unfold aDP at next
  by_cases h1:t<(h.length:Int)
  .rw [if_pos h1] at next
   have b:t.toNat<h.length:=o_;have r:t=(t.toNat:Int):=o_;have q:=aGa b;have hz:=p _ (Ax b);rw [Ac b] at next
   have next:To E aKu (.pure (.ret (uu R))) (.head (stk aKu 0) [(1,.slice 1 (fv h) .no),(7,uu (JV x h[t.toNat])),(12,.slice 1 (iv l) .no),(13,ii (l.length:Nat)),(14,ii ((i:Int)+1))] []):=next
   generalize h[t.toNat]=z at *
   have s:=aAQ x z d hz;generalize JV x z=y at *
   refine gV ?_;exact zW
  .rw [if_neg h1] at next
   refine gV ?_;exact zW
def aKt(c:Con)(e:c.sm)(h:az)(j:LtF h)(hl:h.length<=1048576)(n:Int):aq 269 [c.av,.slice 1 (fv h) .no,ii n] [] (.ret (uu (VK c h n))) []:=by
 have k:=UV c e n;have d:∀ t∈bI c.ns n,0<=t:=λ t i=>(nY c n t i).1;have b:(bI c.ns n).length<=1048576:=DT c e n;have next:=aCs h j hl (bI c.ns n) d b (VK c h n) (bI c.ns n).length 0 0 o_ d_ rfl
 generalize VK c h n=R at *
 generalize bI c.ns n=l at *
 have a:(iv l).length=l.length:=by simp
 try rw [<-a] at next
 exact c_ Tryz.f269 λ_=>zW
end Go.Proofs.YtidhfoefaomodaaGreatDoor
namespace Go.AW
open Go.RowKit
def SO:BInv:=⟨λ_ bs _=>bs=[],λ_ _ _ h=>h⟩
def aAc:∀ (l:au) (k:Nat) (h:k<l.length),aB l k=l[k]
 | _::_,0,_=>rfl
 | _::r,k+1,h=>aAc r k (by simpa using h)
def Mem.bury{M:Imm}{ob:Hs}{ac:au}{w:World}(hm:Mem M ob ac w){k n:Nat}{d:ba}(x:ac[k]? =some .dead)(t:ob[k]? =some d)(hl:d.length=n+1):
  Mem M (ob.set k (d++[fC []])) (ac.set k (.bun (n+1) SO)) w/\Ext M ob ac w M (ob.set k (d++[fC []])) (ac.set k (.bun (n+1) SO)) w/\dY ob (ob.set k (d++[fC []])):=by
 have r:k<ac.length:=(Ad.1 x).1;have i:k<ob.length:=(Ad.1 t).1;have g:dY ob (ob.set k (d++[fC []])):=λ j hs f=>by
  by_cases e:k=j
  .subst e;rw [t] at f;cases f;exact ⟨_,Ay i,List.prefix_append _ _⟩
  .exact ⟨hs,by rw [Bf e];exact f,Cw _⟩
 have l:blk (d++[fC []])=[]:=FX s_;have p:∀ {j b:Nat},aM (ob.set k (d++[fC []])) (ac.set k (.bun (n+1) SO)) j b->aM ob ac j b:=λ{j b} ⟨c,hs,o,q,e3,e4⟩=>by
  by_cases e:k=j
  .subst e;rw [Ay i] at e3;cases e3;rw [l] at e4;cases e4
  .rw [Bf e] at o e3;exact ⟨c,hs,o,q,e3,e4⟩
 have s:∀ (j:Nat) c,(ac.set k (.bun (n+1) SO))[j]? =some c->∃ hs,(ob.set k (d++[fC []]))[j]? =some hs/\jT M (ob.set k (d++[fC []])) w hs c:=λ j c f=>by
  by_cases e:k=j
  .subst e;rw [Ay r] at f;cases f;refine ⟨_,Ay i,by simp [hl],[],?_,λ b B=>(by cases B),rfl⟩;rw [Al o_,hl];simp
  .rw [Bf e] at f;obtain ⟨hs,o,q⟩:=hm.obj j c f;refine ⟨hs,by rw [Bf e];exact o,?_⟩;cases c with
   | cells I cs'=>
    obtain ⟨b,y,F,cv,H,u,A,C⟩:=q;exact ⟨b,y,F,cv,H,u,A,λ n v a z m=>(C n v a z m).mono (λ_ _ _ h=>h) g⟩
   | _=>exact q
 exact ⟨⟨hm.imm,by simp [hm.len],s,λ j b m=>hm.lt j b (p m),λ j G b h1 D=>hm.inj j G b (p h1) (p D)⟩,⟨λ_ _ _ h=>h,λ_ _ _ h=>.inl h,g,rfl,rfl,rfl,Bh _,λ_ _ _=>rfl,λ j b m=>.inl ⟨j,p m⟩⟩,g⟩
def To.bury{E:Env}{fn:Func}{g:Goal}{st:bh}{fr:ar}{ac:au}(k:Nat)(s:aB ac k= .dead)(i:Fp k g.n0=true)(h:∀ n,To E fn g (.code st fr (bX ac k (.bun (n+1) SO))))(e:g.strict=true:=by rfl):To E fn g (.code st fr ac):=
 .mk λ l M0 ob0 c w0 a w hst hs=>by
  obtain ⟨M,ob,m,hm,j,y,q,z⟩:=hs;have f:k<ob0.length:=by rw [hst.1];simpa [Kb] using i
  obtain ⟨hs,p,x⟩:=m.hs k _ (Ac f);have r:=hst.2 e _ (Ax f)
  obtain ⟨n,i⟩:∃ n,hs.length=n+1:=⟨hs.length-1,by have:=x.length_le;omega⟩
  have b:ac[k]? =some .dead:=by have d:k<ac.length:=o_;rw [Ac d];rw [<-aAc ac k d,s]
  obtain ⟨v,u,o⟩:=hm.bury b p i;refine (h n).rec λ h=>h l M0 ob0 c w0 a w hst ?_;rw [aU b];exact ⟨M,_,m.trans u,v,λ t=>(j t).mono (λ_ _ _ h=>h) o,y,q.mono (λ_ _ _ h=>h) o,by simp;omega⟩
end Go.AW
namespace Go.Proofs.YtidhfoefaomodaaGreatDoor
open Go Go.AW Go.Proofs
set_option maxRecDepth 10000
def aQa(f:aa):ar:=[(2,.ref 1 0),(6,f)]
def U3(a:ax)(g:Nat)(o:ab):au:=[.dead,.cells 48 [.row 2 g],.row g 1 3 (iv a),o]
def VD{i:Nat}(h:i<=12):i=0\/i=1\/i=2\/i=3\/i=4\/i=5\/i=6\/i=7\/i=8\/i=9\/i=10\/i=11\/i=12:=o_
def aHx(f:aa)(a:ax)(x:Int)(g:Nat)(c:g<=12)(hl:a.length=g)(l:Nat)(R:Loop)(b:R.state= .ready):
  To (El l [] [] []) uP (.keep 4 (.ret (.bool true)) (U3 (a++[x]) (g+1) (.bun 0 (cQ l (busy R))))) (.code [.code (rfA uP),.beginR,.code (rfB uP)] (kC (aQa f) 7 (ii x)) (U3 a g (.bun 0 (cQ l R)))):=by
 rcases VD c with rfl | rfl | rfl | rfl | rfl | rfl | rfl | rfl | rfl | rfl | rfl | rfl | rfl
 all_goals
  have d:(iv a).length=a.length:=by simp
  have e:iv (a++[x])=iv a++[ii x]:=by simp
  unfold U3;rw [e];refine gV ?_;refine To.beginR (k:=3) (gg:=0) rfl rfl b ?_;exact zW
def auJ(f:aa)(ob0:Hs)(R:Loop)(l:Nat)(a:ax):BInv:=mL ob0 (aQa f) R (U3 a a.length (.bun 0 (cQ l R)))
def aHw{i d:Code}(f:aa)(ob0:Hs)(l:Nat)(R:Loop)(a:ax)(x:Int)(hl:a.length<=12)(c:RecOK uP 7 i d R)(q:rfA uP=i)(o:rfB uP=d):
  bT Tryz.prog (.yield l) [ii x] [.bun 0 (auJ f ob0 R l a)] (.ret (.bool true)) [.bun 1 (auJ f ob0 R l (a++[x]))]:=by
 subst q o;unfold auJ;have rd:=λ g (m:g<=12) h=>aHx f a x g m h l R c.ready;have e:(a++[x]).length=a.length+1:=by simp
 obtain ⟨g,j⟩:∃ g,a.length=g:=⟨_,rfl⟩
 rw [e];rw [j] at hl⊢;rcases VD hl with rfl | rfl | rfl | rfl | rfl | rfl | rfl | rfl | rfl | rfl | rfl | rfl | rfl
 all_goals
  exact jN (E:=Ex [] [] []) (fn:=uP) (k:=3) (n:=4) (p:=7) (gg:=0) (L':=U3 (a++[x]) _ (.bun 0 (cQ l (busy R)))) (b:=true) c.params c.ready c.pend c.assign c.body c.size rfl rfl rfl rfl rfl rfl rfl λ_=>rd _ hl j
def KX{P:Program}{l B:Nat}(F:ax->BInv)(h:∀ (a:ax) x,a.length<=B->bT P (.yield l) [ii x] [.bun 0 (F a)] (.ret (.bool true)) [.bun 1 (F (a++[x]))]):∀ (xs a:ax),a.length+xs.length<=B+1->Ylds P l xs (F a) (F (a++xs)) true
 | [],a,_=>by rw [Ar];exact .nil _
 | x::r,a,hl=>by have:=KX F h r (a++[x]) (by simp at hl⊢;omega);rw [Ag] at this;exact .next x r _ _ _ _ (h a x (by simp at hl;omega)) this
abbrev aH3(c:Con):aa:=.func (.func 192) [] [.ref 0 0,.ptr c.cs]
def aLB(c:Con)(j:c.sm)(n:Int)(i:(upL c.ns n).length<=12):aq 266 [.nilslice,aH3 c] [.cells 3 [ii n]] (.ret (.row 1 0)) [.bun 1 SO,.row 0 1 3 (iv (upL c.ns n))]:=by
 have d:((nav c.ns).length:Int)<=9223372036854775807:=by have:=j.ns;simp only [Cm];omega
 refine cT (E:=E) (fn:=Tryz.f266) (g:=.full 1 _ _) λ_=>gV ?_;refine To.cutC [2,6] 2 rfl rfl rfl rfl ?_;refine To.mapO (aJq 1) (SN 1) ?_;refine To.beginRow 1 0 3 rfl rfl ?_;refine To.range [0] rfl rfl (λ_ _=>by rfl) rfl (λ_ _=>rfl) rfl λ l ob0 R hst k=>?_;have a:=KX (P:=Tryz.prog) (l:=l) (B:=12) (auJ (aH3 c) ob0 R l) (λ h x hl=>aHw (aH3 c) ob0 l R h x hl k rfl rfl) (upL c.ns n) [] q_;rw [Bp] at a;unfold auJ at a;have e:([]:ax).length=0:=rfl;rw [e] at a
 obtain ⟨q,o⟩:∃ q,(upL c.ns n).length=q:=⟨_,rfl⟩
 rw [o] at a i;rcases VD i with rfl | rfl | rfl | rfl | rfl | rfl | rfl | rfl | rfl | rfl | rfl | rfl | rfl
 all_goals
  obtain ⟨m,g',b⟩:=NS l c n _ _ true d a;refine ⟨_,true,_,[.cells 3 [m]],g',b,rfl,rfl,?_⟩;refine To.bury 0 rfl rfl λ z=>gV ?_;refine ⟨[],[0,2],⟨rfl,rfl⟩,rfl,?_⟩;show [ab.bun (match gm 1 0 (z+1) (z+1) with | some g=>g | none=>0) SO,_]=_;rw [pS];rfl
def aLi(c:Con)(b:c.sm)(n:Int)(a:(upL c.ns n).length<=12):aq 228 [aH3 c] [.cells 3 [ii n]] (.ret (.row 1 0)) [.bun 1 SO,.row 0 1 3 (iv (upL c.ns n))]:=by have h:=aLB c b n a;generalize upL c.ns n=l at h;refine cT (E:=E) (fn:=Tryz.f228) (g:=.full 1 _ _) λ_=>?_;exact zW
def ZQ{α:Type}(A M B:List α)(x y:α):((A++x::(M++[y])++B).set A.length y).set (A.length+M.length+1) x=A++[y]++M++x::B:=by
 have e:A++x::(M++[y])++B=A++x::(M++y::B):=by simp
 rw [e,Hj _ _ o_,Hj _ _ o_];rw [show A.length-A.length=0 by omega,show A.length+M.length+1-A.length=M.length+1 by omega];simp
noncomputable abbrev aKv:Func:=Tryz.f229
def aEo(R:ax):∀ (n:Nat) (A M B:ax),M.length<=n->A.length+M.length+B.length<=1048576->A++M.reverse++B=R->
  To (Er [] [14,16,17]) aKv (.full 1 (.ret (.tup [])) [.row 0 1 3 (iv R)]) (.head (stk aKv 0) [(0,.row 0 0),(2,ii (A.length:Nat)),(3,ii ((A.length:Int)+M.length-1))] [.row 0 1 3 (iv (A++M++B))]):=by
 intro n;induction n with
 | zero=>
  intro A M B d hl a;have d:M=[]:=Cv.1 o_;subst d;have a:A++[]++B=R:=a;rw [a];have e:(([]:ax).length:Int)=0:=rfl;rw [e];refine gV ?_;exact zW
 | succ n w=>
  intro A M B d hl a;by_cases c:M.length<2
  .have v:M.reverse=M:=by
    match M,c with
    | [],_=>rfl
    | [_],_=>rfl
   rw [v] at a;rw [a];refine gV ?_;exact zW
  .obtain ⟨x,M',y,rfl⟩:∃ x M' y,M=x::(M'++[y]):=by
    match M,c with
    | x::r,c=>
     have g:r≠[]:=λ e=>by subst e;simp at c
     exact ⟨x,r.dropLast,r.getLast g,by rw [Kz]⟩
   have next:=w (A++[y]) M' (x::B) (by simp at d;omega) (by simp at hl⊢;omega) (by rw [<-a];simp)
   have u:(iv (A++x::(M'++[y])++B))[A.length]? =some (ii x):=by simp
   have o:(iv (A++x::(M'++[y])++B))[A.length+M'.length+1]? =some (ii y):=by rw [show A++x::(M'++[y])++B=(A++x::M')++y::B by simp];simp only [Bq];rw [Al q_];simp only [Cm,Ai,Ak,Bj];rw [show A.length+M'.length+1-(A.length+(M'.length+1))=0 by omega];rfl
   have l:((A.length:Int)+((x::(M'++[y])).length:Nat)-1)=((A.length+M'.length+1:Nat):Int):=by simp;omega
   have k:(iv (A++x::(M'++[y])++B)).length=A.length+M'.length+2+B.length:=by simp;omega
   have es:((iv (A++x::(M'++[y])++B)).set A.length (ii y)).set (A.length+M'.length+1) (ii x)=iv (A++[y]++M'++x::B):=by rw [<-ZQ A M' B x y];simp only [iv,Gz]
   have p:((A++[y]).length:Int)=(A.length:Int)+1:=by simp
   have b:(A.length:Int)+1+(M'.length:Int)-1=((A.length+M'.length+1:Nat):Int)-1:=o_;rw [l];rw [p,b,<-es] at next
   generalize iv (A++x::(M'++[y])++B)=L at *
   have f:A.length+M'.length+1<=1048576:=by simp at hl;omega
   obtain ⟨j,m⟩:∃ j,j=A.length+M'.length+1:=⟨_,rfl⟩
   have z:A.length<j:=o_;have s:j<L.length:=o_;have q:j<=1048576:=o_;rw [<-m] at o next⊢
   clear hl f k l es p b m;generalize A.length=i at *
   refine gV ?_;refine aT λ h=>?_
   repeat' first | (refine gN (hEr [] [14,16,17]) ?_;conv=>whnf) | refine ⟨j,rfl,?_⟩ | refine ⟨_,o,?_⟩ | refine ⟨i,rfl,?_⟩ | refine ⟨_,u,?_⟩ | refine Ae (by rw [Dt];omega) ?_ | exact rfl | refine zt ?_ | refine zu ?_ ?_ | intro h | fail
   exact zW
def aMW(l:ax)(hl:l.length<=1048576):aq 229 [.row 0 0] [.row 0 1 3 (iv l)] (.ret (.tup [])) [.row 0 1 3 (iv l.reverse)]:=by
 have a:(iv l).length=l.length:=by simp
 have next:=aEo l.reverse l.length [] l [] (Bh _) q_ s_
 have e:((0:Nat):Int)+(l.length:Int)-1=((iv l).length:Int)-1:=by rw [a];omega
 have next:To (Er [] [14,16,17]) aKv (.full 1 (.ret (.tup [])) [.row 0 1 3 (iv l.reverse)]) (.head (stk aKv 0) [(0,.row 0 0),(2,ii 0),(3,ii (((0:Nat):Int)+l.length-1))] [.row 0 1 3 (iv (l++[]))]):=next
 rw [e,Ar] at next
 refine cT (E:=(Er [] [14,16,17])) (fn:=Tryz.f229) (g:=.full 1 _ _) λ_=>gV ?_;refine Gl (Ae (Ae (by simp only [dA];rw [a];omega) (by simp only [bN];rw [a];omega)) ?_);exact zW
def Z9(c:Con)(b:c.sm)(n:Int)(a:(upL c.ns n).length<=12):aq 166 [c.av,ii n] [] (.ret (.slice 1 (iv (upL c.ns n).reverse) .no)) []:=by
 have h1:=Y4 c n;have d:=aLi c b n a;have h3:=aMW (upL c.ns n) o_;generalize upL c.ns n=l at *
 refine c_ Tryz.f166 λ_=>gV ?_;refine .pure _ [.cells 3 [ii n]] h1 ?_;exact zW
def S5(c:Con)(b:c.sm)(h:az)(k:LtF h)(hl:h.length<=1048576)(n:Int):aq 231 [c.av,.slice 1 (fv h) .no,ii n] [] (.ret (uu (rU c h n))) []:=by
  have h1:=aKt c b h k hl n;have l1:=aIn c h n;have l:=b.ns;have i:(nav c.ns).length=c.ns.length:=by simp
  unfold rU;unfold aOI at *
  by_cases d:0<=n/\n<(c.ns.length:Int)
  .rw [if_pos d];have a:n.toNat<c.ns.length:=o_;have e:n=(n.toNat:Int):=o_;have get:=A3 (c:=c) (n:=n) ⟨by omega,a⟩;generalize cZ c.ns n=x at *
   have j:=XB (max 1 x.w);have l2:=WP (max 1 x.w);generalize VK c h n=p at *
   generalize ofF (max 1 x.w)=q at *
   have h3:=aAM p q l1 l2;generalize E1 p q=r at *
   exact zqda11
  .rw [if_neg d];have j:=XB 1;have l2:=WP 1;generalize VK c h n=p at *
   generalize ofF 1=q at *
   have h3:=aAM p q l1 l2;generalize E1 p q=r at *
   by_cases m:0<=n
   .exact zqda11
   .exact zqda11
def aAa(c:Con)(now:Int)(p:Pn)(k:0<=now/\now<=1099511627776)(hp:0<=p.at')(m:c.age<=9223372036854775807)(r:Bool)(a:xR c now p=r):aq 164 [c.av,ii now,p.av] [] (.ret (.bool r)) []:=by
  unfold xR at a;have j:IntKind.wrap .u64 now=now:=by rw [wu];omega
  by_cases e:0<c.age
  .by_cases i:p.at'<=now
   .have l:now-p.at'=((now-p.at').toNat:Int):=o_;rw [decide_eq_true e,decide_eq_true i,Bw,Bw] at a;by_cases d:c.age<=now-p.at'
    .rw [decide_eq_true d] at a;subst a;refine c_ Tryz.f164 λ_=>?_
     repeat' first | (refine gN hE ?_;conv=>whnf) | exact rfl | refine zt ?_ | refine zu ?_ ?_ | intro h | fail
     all_goals exact congrArg (λ b=>Res.ret (aa.bool b)) (decide_eq_true d)
    .rw [decide_eq_false d] at a;subst a;refine c_ Tryz.f164 λ_=>?_
     repeat' first | (refine gN hE ?_;conv=>whnf) | exact rfl | refine zt ?_ | refine zu ?_ ?_ | intro h | fail
     all_goals exact congrArg (λ b=>Res.ret (aa.bool b)) (decide_eq_false d)
   .rw [decide_eq_false i,De,Bl] at a;subst a;exact c_ Tryz.f164 λ_=>zW
  .rw [decide_eq_false e,De] at a;subst a;exact c_ Tryz.f164 λ_=>zW
structure OrdOK(s:Sta):Prop where
 sm:s.c.sm
 few:s.c.ns.length<=12
 lt:LtF s.hist
 hl:s.hist.length<=1048576
 now:0<=s.now/\s.now<=1099511627776
 age:s.c.age<=9223372036854775807
def OrdOK.path{s:Sta}(h:OrdOK s)(n:Int):(upL s.c.ns n).length<=12:=Dh (aH1 _ _) h.few
def aCO(a b:Nat):Int:=if a<b then -1 else if b<a then 1 else 0
def aJn(c:Con)(h:az)(x y:Int):xS c h x y=orI (aCO (rU c h x) (rU c h y)) (kO x y):=by
 unfold xS orI aCO
 repeat' split
 all_goals first | rfl | omega
def aLj(s:Sta)(a b:Pn):lQ s a b=if xR s.c s.now a=true then (if xR s.c s.now b=true then kO a.seq b.seq else -1) else if xR s.c s.now b=true then 1 else orI (ptC s a b) (kO a.seq b.seq):=by unfold lQ orI;rfl
def OV(x:Nat):aq 267 [uu x] [] (.ret (.bool false)) []:=by refine c_ Tryz.f267 λ_=>gV ?_;exact congrArg (λ b=>Res.ret (aa.bool b)) s_
def aHe(a b:Nat)(r:Int)(c:aCO a b=r):aq 230 [uu a,uu b] [] (.ret (ii r)) []:=by
 unfold aCO at c;by_cases h1:a<b
 .rw [if_pos h1] at c;exact zqda2
 .rw [if_neg h1] at c;by_cases e:b<a
  .rw [if_pos e] at c;exact zqda2
  .rw [if_neg e] at c;exact zqda2
def FL(a b:Int):aq 165 [ii a,ii b] [] (.ret (ii (kO a b))) []:=aBa a b _ rfl
def aFd(s:Sta)(h:OrdOK s)(x y:Int):aq 167 [.ptr s.cs,ii x,ii y] [] (.ret (ii (xS s.c s.hist x y))) []:=by
 have h1:=S5 s.c h.sm s.hist h.lt h.hl x;have b:=S5 s.c h.sm s.hist h.lt h.hl y;have h3:=aHe (rU s.c s.hist x) (rU s.c s.hist y) _ rfl;have d:=FL x y;rw [aJn];have a:=HN (aCO (rU s.c s.hist x) (rU s.c s.hist y)) (kO x y) _ rfl;generalize aCO (rU s.c s.hist x) (rU s.c s.hist y)=p at *
 generalize kO x y=q at *
 generalize orI p q=r at *
 generalize rU s.c s.hist x=l1 at *
 generalize rU s.c s.hist y=l2 at *
 exact c_ Tryz.f167 λ_=>zW
noncomputable abbrev aPN:Func:=Tryz.f109
abbrev cpF(s:Sta)(p q:ax)(t:Int)(i:Nat):ar:=[(0,.ptr s.cs),(4,.ref 0 0),(5,.ref 1 0),(9,ii t),(10,.slice 1 (iv p) .no),(11,.slice 1 (iv q) .no),(90,ii ((min p.length q.length:Nat):Int)),(91,ii i)]
abbrev cpO(a b:Pn):au:=[.cells 47 a.cs,.cells 47 b.cs]
def aDt{c:Con}{h:az}:∀ {p q:ax},(p=[]\/q=[])->jZ c h p q=kO p.length q.length
 | [],[],_=>rfl
 | [],_::_,_=>by simp [jZ,kO]
 | _::_,[],_=>by
  show (1:Int)=kO _ _;unfold kO;rw [if_neg (by simp<;>omega),if_pos (by simp<;>omega)]
 | _::_,_::_,h=>by rcases h with h | h<;>cases h
def aLf(s:Sta)(h:OrdOK s)(a b:Pn)(p q:ax)(hp:p.length<=12)(D:q.length<=12)(R:Int)(j:orI (jZ s.c s.hist p q) (kO a.seq b.seq)=R):∀ (m i:Nat),i+m=min p.length q.length->jZ s.c s.hist p q=jZ s.c s.hist (p.drop i) (q.drop i)->
  To E aPN (.pure (.ret (ii R))) (.head (stk aPN 0) (cpF s p q (kO p.length q.length) i) (cpO a b)):=by
 have r:(iv p).length=p.length:=by simp
 have w:(iv q).length=q.length:=by simp
 have hs:=FL a.seq b.seq;intro m;induction m with
 | zero=>
  intro i o d;have h1:jZ s.c s.hist p q=kO p.length q.length:=by
   have hd:p.drop i=[]\/q.drop i=[]:=by
    rcases Nat.le_total p.length q.length with h | h
    .exact .inl (Ab o_)
    .exact .inr (Ab o_)
   rw [d,aDt hd,Ew,Ew];unfold kO
   repeat' split
   all_goals omega
  rw [h1] at j;have v:=HN _ _ _ j;exact zqda6
 | succ m l=>
  intro i o d;have g:i<p.length:=o_;have f:i<q.length:=o_;have C:=dJ g;have A:=dJ f;have next:=l (i+1) o_
  rw [Aa g,Aa f] at d;have k:jZ s.c s.hist (p[i]::p.drop (i+1)) (q[i]::q.drop (i+1))=if p[i]=q[i] then jZ s.c s.hist (p.drop (i+1)) (q.drop (i+1)) else xS s.c s.hist p[i] q[i]:=rfl
  rw [k] at d;clear k;have B:=aFd s h p[i] q[i];by_cases e:p[i]=q[i]
  .rw [if_pos e] at d;have n:(p[i] !=q[i])=false:=by rw [e];simp
   have next:=next d
   generalize p[i]=x at *
   generalize q[i]=y at *
   generalize kO p.length q.length=t at *
   refine gV ?_;exact zW
  .rw [if_neg e] at d;have n:(p[i] !=q[i])=true:=by simpa using e
   rw [d] at j;have v:=HN _ _ _ j;clear next l d
   generalize xS s.c s.hist p[i] q[i]=z at *
   generalize p[i]=x at *
   generalize q[i]=y at *
   exact zqda6
def UI(s:Sta)(h:OrdOK s)(a b:Pn)(v:0<=a.at')(r:0<=b.at')(R:Int)(d:lQ s a b=R):aq 109 [.ptr s.cs,a.av,b.av] [] (.ret (ii R)) []:=by
 have m:=aAa s.c s.now a h.now v h.age _ rfl;have i:=aAa s.c s.now b h.now r h.age _ rfl;have hs:=FL a.seq b.seq;rw [aLj] at d;cases h1:xR s.c s.now a with
 | true=>
  rw [h1] at m d;rw [if_pos rfl] at d;cases e:xR s.c s.now b with
  | true=>
   rw [e] at i d;rw [if_pos rfl] at d;rw [d] at hs;exact zqda3
  | false=>
   rw [e] at i d;rw [if_neg d_] at d;subst d;exact zqda3
 | false=>
  rw [h1] at m d;rw [if_neg d_] at d;cases e:xR s.c s.now b with
  | true=>
   rw [e] at i d;rw [if_pos rfl] at d;subst d;exact zqda3
  | false=>
   rw [e] at i d;rw [if_neg d_] at d;by_cases j:a.g.ten=b.g.ten
   .have hz:ptC s a b=0:=by unfold ptC;rw [j];exact yK.2 rfl
    rw [hz] at d;have y:=HN _ _ _ d;have o:(a.g.ten !=b.g.ten)=false:=by rw [j];simp
    generalize kO a.seq b.seq=u at *
    exact zqda3
   .have o:(a.g.ten !=b.g.ten)=true:=by simpa using j
    have z:=Z9 s.c h.sm a.g.ten (h.path _);have B:=Z9 s.c h.sm b.g.ten (h.path _);have l1:(upL s.c.ns a.g.ten).reverse.length<=12:=by rw [List.length_reverse];exact h.path _
    have l2:(upL s.c.ns b.g.ten).reverse.length<=12:=by rw [List.length_reverse];exact h.path _
    have n:=aLf s h a b (upL s.c.ns a.g.ten).reverse (upL s.c.ns b.g.ten).reverse l1 l2 R d _ 0 (Bx _) rfl;generalize (upL s.c.ns a.g.ten).reverse=p at *
    generalize (upL s.c.ns b.g.ten).reverse=q at *
    have k:(iv p).length=p.length:=by simp
    have l:(iv q).length=q.length:=by simp
    have x:=FL (iv p).length (iv q).length;have w:((min p.length q.length:Nat):Int)=min (p.length:Int) (q.length:Int):=o_;unfold cpF at n;rw [w,<-k,<-l] at n;generalize kO ((iv p).length:Int) ((iv q).length:Int)=t at *
    exact zqda3
abbrev nR(s:Sta):aa:=.func (.func 111) [] [.ptr [.func (.func 109) [] []],.ptr s.cs]
def AN(s:Sta)(h:OrdOK s)(a b:Pn)(d:0<=a.at')(c:0<=b.at'):aq 111 [a.av,b.av,.ptr [.func (.func 109) [] []],.ptr s.cs] [] (.ret (ii (lQ s a b))) []:=by
 have h1:=UI s h a b d c _ rfl;generalize lQ s a b=r at *
 exact c_ Tryz.f111 λ_=>zW
def xQ(s:Sta):a7:=srt (ltP s) s.pend
def aJ0{x y:Pn}{s:Sta}{out:a7}{k:Nat}(h:out[k]? =some y):rX (ltP s) x out (k+1)=if ltP s x y=true then rX (ltP s) x out k else k+1:=by simp only [rX,h]
def wW(l:a7):(pnv l).length=l.length:=by simp
def ZU(A B:a7)(x:Pn){i:Nat}(a:i=A.length):(pnv (A++x::B))[i]? =some x.av:=by subst a;simp
def FH(A M B:a7)(x y:Pn){i j:Nat}(b:i=A.length)(d:j=A.length+M.length+1):
  (pnv (A++x::(M++y::B)))[i]? =some x.av/\(pnv (A++x::(M++y::B)))[j]? =some y.av/\((pnv (A++x::(M++y::B))).set i y.av).set j x.av=pnv (A++y::(M++x::B))/\((pnv (A++x::(M++y::B))).set j x.av).set i y.av=pnv (A++y::(M++x::B)):=by
 have e:A++x::(M++y::B)=(A++x::M)++y::B:=by simp
 have a:((pnv (A++x::(M++y::B))).set i y.av).set j x.av=pnv (A++y::(M++x::B)):=by
  have h:=ZQ A M B x y;have f:A++x::(M++[y])++B=A++x::(M++y::B):=by simp
  have c:A++[y]++M++x::B=A++y::(M++x::B):=by simp
  rw [f,c] at h;subst b d;rw [<-h];simp only [pnv,Gz]
 refine ⟨ZU _ _ _ b,by rw [e];exact ZU _ _ _ q_,a,?_⟩;rw [List.set_comm _ _ o_];exact a
def pK(l:a7):Prop:=∀ p∈l,0<=p.at'
def pK.perm{l m:a7}(h:l.Perm m)(a:pK l):pK m:=λ p hp=>a p (h.mem_iff.2 hp)
abbrev bY(l:a7):au:=[.row 0 11 47 (pnv l)]
noncomputable abbrev T2:Func:=Tryz.f232
abbrev isF(s:Sta)(a b i:Nat):ar:=[(0,.row 0 0),(1,ii a),(2,ii b),(3,nR s),(8,ii i)]
def WX(s:Sta)(h:OrdOK s)(R:a7)(A T B:a7)(x:Pn)(a b i:Nat)(S:a=A.length)(U:i=A.length+T.length)(hl:A.length+T.length+B.length<=1000000)(Q:i<b)(V:b<=1000001)(O:0<=x.at')(N:pK T)
  (next:To (Er [] [37,39,40,41]) T2 (.full 1 (.ret (.tup [])) (bY R)) (.head (stk T2 0) (isF s a b (i+1)) (bY (A++(qM (ltP s) T x++B))))):∀ (k:Nat),k<=T.length->rX (ltP s) x T T.length=rX (ltP s) x T k->
  To (Er [] [37,39,40,41]) T2 (.full 1 (.ret (.tup [])) (bY R)) (.head (stk T2 1) (isF s a b i++[(9,ii ((A.length+k:Nat):Int))]) (bY (A++(T.take k++x::(T.drop k++B))))):=by
 intro k;induction k with
 | zero=>
  intro P f;have e:qM (ltP s) T x++B=T.take 0++x::(T.drop 0++B):=by unfold qM;rw [f];simp [rX]
  rw [e] at next
  generalize pnv (A++(T.take 0++x::(T.drop 0++B)))=L at *
  subst S;refine gV ?_;exact zW
 | succ k H=>
  intro P f;have g:k<T.length:=o_;have J:=N _ (Ax g);have t:T.take (k+1)=T.take k++[T[k]]:=Hn g;have F:T.drop k=T[k]::T.drop (k+1):=Aa g;rw [aJ0 (Ac g)] at f;have M:=AN s h x T[k] O J;have c:((A.length+(k+1):Nat):Int)-1=((A.length+k:Nat):Int):=o_;have D:A++(T.take (k+1)++x::(T.drop (k+1)++B))=(A++T.take k)++T[k]::([]++x::(T.drop (k+1)++B)):=by rw [t];simp only [Ag,Bu,Bp]
  obtain ⟨r,p,_,q⟩:=FH (A++T.take k) [] (T.drop (k+1)++B) T[k] x (i:=A.length+k) (j:=A.length+(k+1)) q_ q_;have C:(A++T.take k)++x::([]++T[k]::(T.drop (k+1)++B))=A++(T.take k++x::(T.drop k++B)):=by rw [F];simp only [Ag,Bu,Bp]
  have K:(pnv ((A++T.take k)++T[k]::([]++x::(T.drop (k+1)++B)))).length=A.length+T.length+1+B.length:=by simp;omega
  rw [C] at q;rw [D];by_cases o:lQ s x T[k]<0
  .have e:ltP s x T[k]=true:=decide_eq_true o;rw [if_pos e] at f;have m:=H o_ f;dsimp only [bY] at m⊢;rw [<-q] at m;clear next H
   generalize lQ s x T[k]=v at *
   generalize T[k]=y at *
   generalize pnv ((A++T.take k)++y::([]++x::(T.drop (k+1)++B)))=L at *
   obtain ⟨j,n⟩:∃ j,j=A.length+(k+1):=⟨_,rfl⟩
   obtain ⟨l,d⟩:∃ l,l=A.length+k:=⟨_,rfl⟩
   have G:j=l+1:=o_;have I:a<j:=o_;have z:j<L.length:=o_;have w:j<=1000000:=o_;rw [<-n] at c m p⊢;rw [<-d] at c m r;clear n d q D C t F K f;refine gV ?_;refine aT λ h=>?_
   repeat' first | (refine gN (hEr [] [37,39,40,41]) ?_;conv=>whnf) | refine ⟨j,rfl,?_⟩ | refine ⟨_,p,?_⟩ | refine ⟨l,c,?_⟩ | refine ⟨_,r,?_⟩ | exact rfl | refine zt ?_ | refine zu ?_ ?_ | intro h | fail
   refine .pure _ [] M ?_
   repeat' first | (refine gN (hEr [] [37,39,40,41]) ?_;conv=>whnf) | exact rfl | refine zt ?_ | refine zu ?_ ?_ | intro h | fail
   repeat' first | (refine gN (hEr [] [37,39,40,41]) ?_;conv=>whnf) | refine ⟨j,rfl,?_⟩ | refine ⟨_,p,?_⟩ | refine ⟨l,c,?_⟩ | refine ⟨_,r,?_⟩ | refine Ae (by rw [Dt];omega) ?_ | exact rfl | refine zt ?_ | refine zu ?_ ?_ | intro h | fail
   refine To.part [0,1,2,3,8,9] [0] rfl rfl rfl ?_;rw [<-c] at m;exact m
  .have e:ltP s x T[k]=false:=decide_eq_false o;rw [if_neg (by rw [e];decide)] at f;have u:qM (ltP s) T x++B=T.take k++T[k]::([]++x::(T.drop (k+1)++B)):=by unfold qM;rw [f,t];simp only [Ag,Bu,Bp]
   have u:A++(qM (ltP s) T x++B)=(A++T.take k)++T[k]::([]++x::(T.drop (k+1)++B)):=by rw [u,Ag]
   rw [u] at next
   clear H;dsimp only [bY] at next⊢
   generalize lQ s x T[k]=v at *
   generalize T[k]=y at *
   generalize pnv ((A++T.take k)++y::([]++x::(T.drop (k+1)++B)))=L at *
   obtain ⟨j,n⟩:∃ j,j=A.length+(k+1):=⟨_,rfl⟩
   obtain ⟨l,d⟩:∃ l,l=A.length+k:=⟨_,rfl⟩
   have G:j=l+1:=o_;have I:a<j:=o_;have z:j<L.length:=o_;have w:j<=1000000:=o_;rw [<-n] at c p⊢;rw [<-d] at c r;clear n d q D C t F K f u;refine gV ?_;exact zW
def aAq(s:Sta)(h:OrdOK s)(A B:a7)(a b:Nat)(j:a=A.length)(q:b<=1000000)(l:A.length+B.length<=1000000)(R:a7):∀ (rest T:a7),R=A++(rest.foldl (qM (ltP s)) T++B)->b=A.length+T.length+rest.length->b+B.length<=1000000->pK (T++rest)->
  To (Er [] [37,39,40,41]) T2 (.full 1 (.ret (.tup [])) (bY R)) (.head (stk T2 0) (isF s a b (A.length+T.length)) (bY (A++(T++(rest++B)))))
 | [],T,hR,hlen,hB,hat=>by
  subst hR;dsimp only [bY,List.foldl_nil,Bp];generalize pnv (A++(T++B))=L at *
  obtain ⟨i,f⟩:∃ i,i=A.length+T.length:=⟨_,rfl⟩
  rw [<-f] at hlen⊢;have m:b=i:=by simpa using hlen
  refine gV ?_;exact zW
 | x::rest,T,hR,hlen,hB,hat=>by
  have g:b=A.length+T.length+rest.length+1:=by simp at hlen;omega
  have hp:=C4 (ltP s) T x;have d:=hp.length_eq;have e:pK (qM (ltP s) T x++rest):=hat.perm ((Ey.trans (Dz rest hp.symm)));have c:=aAq s h A B a b j q l R rest (qM (ltP s) T x) hR (by simp at d;omega) hB e;have k:A.length+(qM (ltP s) T x).length=A.length+T.length+1:=by simp at d;omega
  rw [k] at c;have o:0<=x.at':=hat x s_;have n:pK T:=λ p hp=>hat p (Cf _ hp);have c:=WX s h R A T (rest++B) x a b (A.length+T.length) j rfl q_ o_ o_ o n c T.length (Bh _) rfl;rw [Gm,List.drop_length,Bp] at c;dsimp only [bY] at c⊢;rw [Bu];generalize pnv (A++(T++x::(rest++B)))=L at *
  obtain ⟨i,f⟩:∃ i,i=A.length+T.length:=⟨_,rfl⟩
  rw [<-f] at c⊢;have r:i<b:=o_;refine gV ?_;exact zW
def WW(s:Sta)(h:OrdOK s)(A S B:a7)(a b:Nat)(l:a=A.length)(i:b=A.length+S.length)(j:b+B.length<=1000000)(c:pK S):
  aq 232 [.row 0 0,ii a,ii b,nR s] (bY (A++(S++B))) (.ret (.tup [])) (bY (A++(srt (ltP s) S++B))):=by
 have h1:To (Er [] [37,39,40,41]) T2 (.full 1 (.ret (.tup [])) (bY (A++(srt (ltP s) S++B)))) (.head (stk T2 0) [(0,.row 0 0),(1,ii a),(2,ii b),(3,nR s),(8,ii ((a:Int)+1))] (bY (A++(S++B)))):=by
  cases S with
  | nil=>
   have e:srt (ltP s) []=[]:=rfl;rw [e];dsimp only [bY];generalize pnv (A++([]++B))=L at *
   simp at i;refine gV ?_;exact zW
  | cons x S=>
   simp at i;have:=aAq s h A B a b l o_ o_ (A++(srt (ltP s) (x::S)++B)) S [x] rfl q_ j c;have e:A.length+[x].length=a+1:=by simp;omega
   rw [e] at this;exact this
 generalize A++(srt (ltP s) S++B)=R at *
 dsimp only [bY] at h1⊢;generalize pnv (A++(S++B))=L at *
 have k:a<=1000000:=o_;clear c;refine cT (E:=(Er [] [37,39,40,41])) (fn:=Tryz.f232) (g:=.full 1 _ _) λ_=>gV ?_
 have d:inR .i64 ((a:Int)+1):=⟨by simp only [dA];omega,by simp only [bN];omega⟩
 refine Gl (Ae d ?_);exact zW
noncomputable abbrev aPB:Func:=Tryz.f289
def QW(R Y:a7)(a b N:Nat)(cv:aa):∀ (U V X M:a7) (i:Nat),U.length=V.length->i+U.length=N->a+i=X.length->b+i=X.length+U.length+M.length->X.length+U.length+M.length+V.length+Y.length<=1000000->R=X++(V++(M++(U++Y)))->
  To (Er [] [16,20,21,22,23]) aPB (.full 1 (.ret (.tup [])) (bY R)) (.head (stk aPB 0) [(0,.row 0 0),(1,ii a),(2,ii b),(3,ii N),(10,ii i)] (bY (X++(U++(M++(V++Y))))))
 | [],[],X,M,i,hl,hN,hi,hj,hb,hR=>by
  subst hR;dsimp only [bY,Bp];generalize pnv (X++(M++Y))=L at *
  have l:i=N:=by simpa using hN
  subst l;refine gV ?_;exact zW
 | x::U,y::V,X,M,i,hl,hN,hi,hj,hb,hR=>by
  have d:U.length=V.length:=by simpa using hl
  simp at hN hj hb;have k:=QW R Y a b N cv U V (X++[y]) (M++[x]) (i+1) d o_ q_ q_ q_ (by rw [hR];simp only [Ag,Bu,Bp]);obtain ⟨s,p,o,_⟩:=FH X (U++M) (V++Y) x y (i:=a+i) (j:=b+i) hi q_;have r:X++y::(U++M++x::(V++Y))=(X++[y])++(U++((M++[x])++(V++Y))):=by simp only [Ag,Bu,Bp]
  have t:X++(x::U++(M++(y::V++Y)))=X++x::(U++M++y::(V++Y)):=by simp only [Ag,Bu,Bp]
  rw [r] at o;rw [t];dsimp only [bY] at k⊢;rw [<-o] at k;have f:(pnv (X++x::(U++M++y::(V++Y)))).length=X.length+U.length+M.length+V.length+Y.length+2:=by simp;omega
  generalize pnv (X++x::(U++M++y::(V++Y)))=L at *
  have hiN:i<N:=o_
  obtain ⟨c,g⟩:∃ c,c=a+i:=⟨_,rfl⟩
  obtain ⟨j,e⟩:∃ j,j=b+i:=⟨_,rfl⟩
  have n:(a:Int)+i=(c:Int):=o_;have m:(b:Int)+i=(j:Int):=o_;have w:j<L.length:=o_;have q:c<L.length:=o_;have v:j<=1000000:=o_;have u:c<=1000000:=o_;rw [<-g] at k s;rw [<-e] at k p;clear g e hj hi hb f t r hR hN hl d o;refine gV ?_;refine aT λ h=>?_
  repeat' first | (refine gN (hEr [] [16,20,21,22,23]) ?_;conv=>whnf) | refine ⟨j,m,?_⟩ | refine ⟨_,p,?_⟩ | refine ⟨c,n,?_⟩ | refine ⟨_,s,?_⟩ | refine Ae (by rw [Dt];omega) ?_ | exact rfl | refine zt ?_ | refine zu ?_ ?_ | intro h | fail
  exact zW
def VJ(s:Sta)(X U M V Y:a7)(a b N:Nat)(e:a=X.length)(h:N=U.length)(c:U.length=V.length)(d:b=X.length+U.length+M.length)(hl:X.length+U.length+M.length+V.length+Y.length<=1000000):
  aq 289 [.row 0 0,ii a,ii b,ii N,nR s] (bY (X++(U++(M++(V++Y))))) (.ret (.tup [])) (bY (X++(V++(M++(U++Y))))):=by
 have h1:=QW _ Y a b N (nR s) U V X M 0 c o_ o_ o_ hl rfl;dsimp only [bY] at h1⊢;generalize pnv (X++(U++(M++(V++Y))))=L at *
 generalize pnv (X++(V++(M++(U++Y))))=R at *
 refine cT (E:=(Er [] [16,20,21,22,23])) (fn:=Tryz.f289) (g:=.full 1 _ _) λ_=>?_;exact zW
noncomputable abbrev aPE:Func:=Tryz.f270
def aEh(s:Sta)(R:a7)(m:Nat)(hm:m<=1000000):∀ (n:Nat) (X U V Y:a7) (i j:Nat),i+j<=n->i=U.length->j=V.length->0<i->0<j->m=X.length+i->X.length+U.length+V.length+Y.length<=1000000->R=X++(V++(U++Y))->
  To E aPE (.full 1 (.ret (.tup [])) (bY R)) (.head (stk aPE 0) [(0,.row 0 0),(2,ii m),(4,nR s),(10,ii i),(11,ii j)] (bY (X++(U++(V++Y))))):=by
 intro n;induction n with
 | zero=>intro X U V Y i j h;omega
 | succ n p=>
  intro X U V Y i j C k r B A D hl g;by_cases u:i=j
  .have e:((m:Int)-i)=((m-i:Nat):Int):=o_;have h1:=VJ s X U [] V Y (m-i) m i o_ k o_ q_ q_;rw [Bp,Bp,<-e,<-g] at h1;have x:((i:Int) !=(j:Int))=false:=by rw [u];simp
   dsimp only [bY] at h1⊢;generalize pnv (X++(U++(V++Y)))=L at *
   generalize pnv R=K at *
   clear g hl p;refine gV ?_;exact zW
  .have x:((i:Int) !=(j:Int))=true:=by simp;omega
   by_cases z:j<i
   .obtain ⟨b,c,rfl,f⟩:∃ b c,U=b++c/\b.length=j:=⟨U.take j,U.drop j,(Bv j U).symm,by simp;omega⟩
    have t:i=j+c.length:=by rw [k,Ai,f]
    have e:((m:Int)-i)=((m-i:Nat):Int):=o_;have hd:((i:Int)-j)=((i-j:Nat):Int):=o_;rw [Ai] at hl;have h1:=VJ s X b c V Y (m-i) m j o_ f.symm o_ o_ o_;have o:=p (X++V) c b Y (i-j) j o_ o_ o_ o_ o_ (by rw [Ai];omega) (by rw [Ai];omega) (by rw [g];simp only [Ag]);rw [<-e] at h1;rw [<-hd,Ag] at o;rw [Ag b c];dsimp only [bY] at h1 o⊢;generalize pnv (X++(b++(c++(V++Y))))=L at *
    generalize pnv (X++(V++(c++(b++Y))))=K at *
    have v:i<=1000000:=o_;clear g hl p e hd k r t f;refine gV ?_;exact zW
   .obtain ⟨d,a,rfl,l⟩:∃ d a,V=d++a/\a.length=i:=⟨V.take (j-i),V.drop (j-i),(Bv (j-i) V).symm,by simp;omega⟩
    have q:j=d.length+i:=by rw [r,Ai,l]
    have e:((m:Int)-i)=((m-i:Nat):Int):=o_;have hd:((j:Int)-i)=((j-i:Nat):Int):=o_;have w:((m:Int)+j-i)=((m+(j-i):Nat):Int):=o_;rw [Ai] at hl;have h1:=VJ s X U d a Y (m-i) (m+(j-i)) i o_ k o_ o_ o_;have o:=p X a d (U++Y) i (j-i) o_ o_ o_ o_ o_ o_ (by rw [Ai];omega) (by rw [g];simp only [Ag]);rw [<-e,<-w] at h1;rw [<-hd] at o;rw [Ag d a];dsimp only [bY] at h1 o⊢;generalize pnv (X++(U++(d++(a++Y))))=L at *
    generalize pnv (X++(a++(d++(U++Y))))=K at *
    have y:j<=1000000:=o_;have v:i<=1000000:=o_;clear g hl p e hd w k r q l;refine gV ?_;exact zW
def aMP(s:Sta)(X U V Y:a7)(a m b:Nat)(o:a=X.length)(hm:m=a+U.length)(n:b=m+V.length)(h:U≠[])(e:V≠[])(hl:b+Y.length<=1000000):
  aq 270 [.row 0 0,ii a,ii m,ii b,nR s] (bY (X++(U++(V++Y)))) (.ret (.tup [])) (bY (X++(V++(U++Y)))):=by
 have l:=Eg.2 h;have k:=Eg.2 e;have h1:=aEh s _ m o_ _ X U V Y (m-a) (b-m) (Bh _) o_ o_ o_ o_ o_ o_ rfl;have d:(m:Int)-a=((m-a:Nat):Int):=o_;have hd:(b:Int)-m=((b-m:Nat):Int):=o_;rw [<-d,<-hd] at h1;dsimp only [bY] at h1⊢;generalize pnv (X++(U++(V++Y)))=L at *
 generalize pnv (X++(V++(U++Y)))=R at *
 have i:a<=m:=o_;have j:m<=b:=o_;have c:b<=1000000:=o_;refine cT (E:=E) (fn:=Tryz.f270) (g:=.full 1 _ _) λ_=>?_;exact zW
noncomputable abbrev uN:Func:=Tryz.f233
def OY(lo a:Nat):((lo:Int)+a).fdiv (2 ^ Dx 1)=(((lo+a) / 2:Nat):Int):=by have e:(2:Int) ^ Dx 1=2:=rfl;rw [e,Ei _ d_];omega
def aAw{c:Nat}(h:c<=1000000):inR .i64 (c:Int):=Ae (by simp only [dA];omega) (by simp only [bN];omega)
def NF{L:a7}{h:Nat}{y:Pn}(a:L[h]? =some y):(pnv L)[h]? =some y.av:=by simp [a]
set_option maxHeartbeats 1000000 in
def aMH(s:Sta)(hs:OrdOK s)(L:a7)(g:pK L)(w:L.length<=1000000)(a:Nat)(u:Pn)(o:L[a]? =some u)(P:Nat->Bool)(l:∀ h y,L[h]? =some y->P h=ltP s y u)(R:a7)(k:Nat)
  (next:To (Er [] [61,63,64,65,113,115,116,117]) uN (.full 1 (.ret (.tup [])) (bY R)) (.head (stk uN 1) [(0,.row 0 0),(10,ii k),(13,ii a)] (bY L))):∀ (f lo d:Nat),d-lo<=f->lo<=d->d<=L.length->bis P f lo d=k->
  To (Er [] [61,63,64,65,113,115,116,117]) uN (.full 1 (.ret (.tup [])) (bY R)) (.head (stk uN 0) [(0,.row 0 0),(1,ii a),(4,nR s),(10,ii lo),(11,ii d)] (bY L))
 | 0,lo,d,hf,h1,h2,b=>by
  have e:lo=d:=o_;subst e;have b:lo=k:=b;subst b;exact zqda1
 | f+1,lo,d,hf,h1,h2,b=>by
  by_cases n:lo<d
  .unfold bis at b;rw [if_pos n] at b
   obtain ⟨c,x⟩:∃ c,c=(lo+d) / 2:=⟨_,rfl⟩
   rw [<-x] at b;have i:c<L.length:=o_;have A:L[c]? =some L[c]:=Ac i;have j:=l c _ A;have m:=AN s hs L[c] u (g _ (Ax i)) (g _ (Az o));have B:=NF A;have z:=NF o;have q:a<L.length:=(Ad.1 o).1;have hm:=OY lo d;rw [<-x] at hm;have C:=aAw (show c<=1000000 by omega);have D:c<(pnv L).length:=by rw [wW];exact i
   have F:a<(pnv L).length:=by rw [wW];exact q
   generalize L[c]=y at *
   cases p:P c with
   | true=>
    rw [p,if_pos rfl] at b;have r:lQ s y u<0:=of_decide_eq_true (j.symm.trans p);have t:=aMH s hs L g w a u o P l R k next f (c+1) d o_ o_ h2 b
    generalize lQ s y u=v at *
    dsimp only [bY] at t⊢;generalize pnv L=K at *
    clear l next
    refine gV ?_;refine aT λ h=>?_
    repeat' first | (refine gN (hEr [] [61,63,64,65,113,115,116,117]) ?_;conv=>whnf) | (rw [hm];refine Gl (Ae C ?_)) | refine ⟨c,rfl,?_⟩ | refine ⟨_,B,?_⟩ | refine ⟨a,rfl,?_⟩ | refine ⟨_,z,?_⟩ | refine .pure _ [] m ?_ | exact rfl | refine zt ?_ | refine zu ?_ ?_ | intro h | fail
    exact zW
   | false=>
    rw [p,if_neg d_] at b;have r:¬ lQ s y u<0:=of_decide_eq_false (j.symm.trans p);have t:=aMH s hs L g w a u o P l R k next f lo c o_ o_ o_ b
    generalize lQ s y u=v at *
    dsimp only [bY] at t⊢;generalize pnv L=K at *
    clear l next
    refine gV ?_;refine aT λ h=>?_
    repeat' first | (refine gN (hEr [] [61,63,64,65,113,115,116,117]) ?_;conv=>whnf) | (rw [hm];refine Gl (Ae C ?_)) | refine ⟨c,rfl,?_⟩ | refine ⟨_,B,?_⟩ | refine ⟨a,rfl,?_⟩ | refine ⟨_,z,?_⟩ | refine .pure _ [] m ?_ | exact rfl | refine zt ?_ | refine zu ?_ ?_ | intro h | fail
    exact zW
  .unfold bis at b;rw [if_neg n] at b;subst b;exact zqda1
def mv1(R W:a7)(u:Pn):∀ (V A:a7) (i k:Nat),k=A.length->i=A.length+V.length+1->A.length+V.length+W.length<=999999->R=A++(V++u::W)->
  To (Er [] [61,63,64,65,113,115,116,117]) uN (.full 1 (.ret (.tup [])) (bY R)) (.head (stk uN 1) [(0,.row 0 0),(10,ii i),(13,ii k)] (bY (A++u::(V++W))))
 | [],A,i,k,hk,hi,hl,hR=>by
  subst hR;dsimp only [bY,Bp];generalize pnv (A++u::W)=L at *
  have f:i<=1000000:=o_;have d:i=k+1:=by simp at hi;omega
  refine gV ?_;exact zW
 | y::V,A,i,k,hk,hi,hl,hR=>by
  simp at hi hl;have c:=mv1 R W u V (A++[y]) i (k+1) q_ q_ q_ (by rw [hR];simp only [Ag,Bu,Bp]);obtain ⟨r,g,e,_⟩:=FH A [] (V++W) u y (i:=k) (j:=k+1) hk q_;have l:A++y::([]++u::(V++W))=(A++[y])++u::(V++W):=by simp only [Ag,Bu,Bp]
  have m:A++u::(y::V++W)=A++u::([]++y::(V++W)):=by simp only [Ag,Bu,Bp]
  rw [l] at e;rw [m];dsimp only [bY] at c⊢;rw [<-e] at c;have b:(pnv (A++u::([]++y::(V++W)))).length=A.length+V.length+W.length+2:=by simp;omega
  generalize pnv (A++u::([]++y::(V++W)))=L at *
  obtain ⟨j,o⟩:∃ j,j=k+1:=⟨_,rfl⟩
  rw [<-o] at c g;have a:(k:Int)+1=(j:Int):=o_;have p:j<L.length:=o_;have s:k<L.length:=o_;have n:j<=1000000:=o_;have q:k<=1000000:=o_;have f:i<=1000000:=o_;have d:k+1<i:=o_;rw [<-a] at c;clear b m l hR hl e hk hi;refine gV ?_
  repeat' first | (refine gN (hEr [] [61,63,64,65,113,115,116,117]) ?_;conv=>whnf) | refine aT λ h=>?_ | refine ⟨j,a,?_⟩ | refine ⟨_,g,?_⟩ | refine ⟨k,rfl,?_⟩ | refine ⟨_,r,?_⟩ | refine Ae (by rw [Dt];omega) ?_ | exact rfl | refine zt ?_ | refine zu ?_ ?_ | intro h | fail
  exact zW
set_option maxHeartbeats 1000000 in
def aMG(s:Sta)(hs:OrdOK s)(L:a7)(i:pK L)(A:L.length<=1000000)(m:Nat)(u:Pn)(q:L[m]? =some u)(P:Nat->Bool)(n:∀ h y,L[h]? =some y->P h= !ltP s u y)(R:a7)(k:Nat)
  (next:To (Er [] [61,63,64,65,113,115,116,117]) uN (.full 1 (.ret (.tup [])) (bY R)) (.head (stk uN 3) [(0,.row 0 0),(14,ii k),(17,ii m)] (bY L))):∀ (f lo d:Nat),d-lo<=f->lo<=d->d<=L.length->bis P f lo d=k->
  To (Er [] [61,63,64,65,113,115,116,117]) uN (.full 1 (.ret (.tup [])) (bY R)) (.head (stk uN 2) [(0,.row 0 0),(2,ii m),(4,nR s),(14,ii lo),(15,ii d)] (bY L))
 | 0,lo,d,hf,h1,h2,a=>by
  have e:lo=d:=o_;subst e;have a:lo=k:=a;subst a;exact zqda1
 | f+1,lo,d,hf,h1,h2,a=>by
  by_cases p:lo<d
  .unfold bis at a;rw [if_pos p] at a
   obtain ⟨c,B⟩:∃ c,c=(lo+d) / 2:=⟨_,rfl⟩
   rw [<-B] at a;have l:c<L.length:=o_;have D:L[c]? =some L[c]:=Ac l;have g:=n c _ D;have o:=AN s hs u L[c] (i _ (Az q)) (i _ (Ax l));have F:=NF D;have C:=NF q;have w:m<L.length:=(Ad.1 q).1;have hm:=OY lo d;rw [<-B] at hm;have G:=aAw (show c<=1000000 by omega);have H:c<(pnv L).length:=by rw [wW];exact l
   have I:m<(pnv L).length:=by rw [wW];exact w
   generalize L[c]=y at *
   cases r:P c with
   | true=>
    rw [r,if_pos rfl] at a;have j:ltP s u y=false:=by rw [r] at g;simpa using g.symm
    have t:¬ lQ s u y<0:=of_decide_eq_false j;have z:(!decide (lQ s u y<0))=true:=congrArg (λ b=>!b) j;have x:=aMG s hs L i A m u q P n R k next f (c+1) d o_ o_ h2 a
    clear j;generalize lQ s u y=v at *
    dsimp only [bY] at x⊢;generalize pnv L=K at *
    clear n next
    refine gV ?_;refine aT λ h=>?_
    repeat' first | (refine gN (hEr [] [61,63,64,65,113,115,116,117]) ?_;conv=>whnf) | (rw [hm];refine Gl (Ae G ?_)) | refine ⟨m,rfl,?_⟩ | refine ⟨_,C,?_⟩ | refine ⟨c,rfl,?_⟩ | refine ⟨_,F,?_⟩ | refine .pure _ [] o ?_ | refine Ae (λ_=>?_) (λ h=>absurd (z.symm.trans h) d_) | exact rfl | refine zt ?_ | refine zu ?_ ?_ | intro h | fail
    exact zW
   | false=>
    rw [r,if_neg d_] at a;have j:ltP s u y=true:=by rw [r] at g;simpa using g.symm
    have t:lQ s u y<0:=of_decide_eq_true j;have z:(!decide (lQ s u y<0))=false:=congrArg (λ b=>!b) j;have x:=aMG s hs L i A m u q P n R k next f lo c o_ o_ o_ a
    clear j;generalize lQ s u y=v at *
    dsimp only [bY] at x⊢;generalize pnv L=K at *
    clear n next
    refine gV ?_;refine aT λ h=>?_
    repeat' first | (refine gN (hEr [] [61,63,64,65,113,115,116,117]) ?_;conv=>whnf) | (rw [hm];refine Gl (Ae G ?_)) | refine ⟨m,rfl,?_⟩ | refine ⟨_,C,?_⟩ | refine ⟨c,rfl,?_⟩ | refine ⟨_,F,?_⟩ | refine .pure _ [] o ?_ | refine Ae (λ h=>absurd (z.symm.trans h) d_) (λ_=>?_) | exact rfl | refine zt ?_ | refine zu ?_ ?_ | intro h | fail
    exact zW
  .unfold bis at a;rw [if_neg p] at a;subst a;exact zqda1
def mv2(R:a7)(u:Pn)(A:a7)(i:Nat)(z:i=A.length):∀ (n:Nat) (V W:a7) (k:Nat),V.length=n->k=A.length+n->A.length+n+W.length<=999999->R=A++u::(V++W)->
  To (Er [] [61,63,64,65,113,115,116,117]) uN (.full 1 (.ret (.tup [])) (bY R)) (.head (stk uN 3) [(0,.row 0 0),(14,ii i),(17,ii k)] (bY (A++(V++u::W)))):=by
 intro n;induction n with
 | zero=>
  intro V W k b o hl d;cases Cv.1 b;subst d;dsimp only [bY,Bp];generalize pnv (A++u::W)=L at *
  have f:k=i:=o_;have D:i<=1000000:=o_;refine gV ?_;exact zW
 | succ n s=>
  intro V W k b o hl d
  obtain ⟨V,y,rfl⟩:∃ x y,V=x++[y]:=⟨V.dropLast,V.getLast (by intro h;rw [h] at b;cases b),(Kz _).symm⟩
  have g:V.length=n:=by simpa using b
  have e:=s V (y::W) (k-1) g o_ q_ (by rw [d];simp only [Ag,Bu,Bp]);obtain ⟨q,t,_,l⟩:=FH (A++V) [] W y u (i:=k-1) (j:=k) q_ q_;have p:A++V++u::([]++y::W)=A++(V++u::(y::W)):=by simp only [Ag,Bu,Bp]
  have r:A++(V++[y]++u::W)=A++V++y::([]++u::W):=by simp only [Ag,Bu,Bp]
  rw [p] at l;rw [r];dsimp only [bY] at e⊢;rw [<-l] at e;have c:(pnv (A++V++y::([]++u::W))).length=A.length+V.length+W.length+2:=by simp;omega
  generalize pnv (A++V++y::([]++u::W))=L at *
  obtain ⟨j,m⟩:∃ j,j=k-1:=⟨_,rfl⟩
  rw [<-m] at e q;have a:(k:Int)-1=(j:Int):=o_;have v:j<L.length:=o_;have C:k<L.length:=o_;have w:k<=1000000:=o_;have B:k=j+1:=o_;have f:i<k:=o_;rw [<-a] at e;clear c r p d hl l o z s m;refine gV ?_
  repeat' first | (refine gN (hEr [] [61,63,64,65,113,115,116,117]) ?_;conv=>whnf) | refine aT λ h=>?_ | refine ⟨j,a,?_⟩ | refine ⟨_,q,?_⟩ | refine ⟨k,rfl,?_⟩ | refine ⟨_,t,?_⟩ | refine Ae (by rw [Dt];omega) ?_ | exact rfl | refine zt ?_ | refine zu ?_ ?_ | intro h | fail
  exact zW
abbrev aIS(K:ay):au:=[.row 0 11 47 K]
def Stp(f:Nat)(s:Sta)(x y z:Nat)(K a:ay):Prop:=
 (x<y/\y<z/\aA Tryz.prog f [.row 0 0,ii x,ii y,ii z,nR s] (aIS K) (.ret (.tup [])) (aIS a))\/(x<y/\¬ y<z/\K=a)\/(¬ x<y/\K=a)
abbrev aIk(s:Sta)(a m b mid n c d:Nat)(p:Int):ar:=[(0,.row 0 0),(1,ii a),(2,ii m),(3,ii b),(4,nR s),(18,ii mid),(19,ii n),(20,ii c),(21,ii d),(22,ii p)]
set_option maxHeartbeats 8000000 in
def aDL(s:Sta)(a m b mid n st c:Nat)(p:Int)(C:n<=2000000)(r:n=c+st)(o j k l:ay)(w:Stp 270 s st m c o j)(z:Stp 233 s a st mid j k)(t:Stp 233 s mid c b k l):
  To (Er [] [61,63,64,65,113,115,116,117]) uN (.full 1 (.ret (.tup [])) (aIS l)) (.head (stk uN 4) (aIk s a m b mid n st st p) (aIS o)):=by
 obtain ⟨h,x⟩:∃ h:Int,h=(c:Int):=⟨_,rfl⟩
 have e:((n:Int)-st)=(c:Int):=o_;rcases w with ⟨d,u,y⟩ | ⟨d,u,rfl⟩ | ⟨d,rfl⟩<;>rcases z with ⟨i,A,B⟩ | ⟨i,A,rfl⟩ | ⟨i,rfl⟩<;>rcases t with ⟨g,v,q⟩ | ⟨g,v,rfl⟩ | ⟨g,rfl⟩
 all_goals (try rw [<-e] at y)
 all_goals (try rw [<-e] at q)
 all_goals (try (exfalso;omega))
 all_goals
  refine gV ?_;exact zW
set_option maxHeartbeats 1000000 in
def aMF(s:Sta)(hs:OrdOK s)(L:a7)(i:pK L)(N:L.length<=1000000)(a m b mid n p l j:Nat)(P:Nat->Bool)(t:∀ c,l<=c->c<j->c<=p/\∃ y z,L[p-c]? =some y/\L[c]? =some z/\P c= !ltP s y z)(R:a7)(k:Nat)
  (next:To (Er [] [61,63,64,65,113,115,116,117]) uN (.full 1 (.ret (.tup [])) (bY R)) (.head (stk uN 4) (aIk s a m b mid n k k p) (bY L))):∀ (f lo g:Nat),g-lo<=f->lo<=g->l<=lo->g<=j->bis P f lo g=k->
  To (Er [] [61,63,64,65,113,115,116,117]) uN (.full 1 (.ret (.tup [])) (bY R)) (.head (stk uN 4) (aIk s a m b mid n lo g p) (bY L))
 | 0,lo,g,hf,h1,h2,h3,d=>by
  have e:lo=g:=o_;subst e;have d:lo=k:=d;subst d;exact next
 | f+1,lo,g,hf,h1,h2,h3,d=>by
  by_cases w:lo<g
  .unfold bis at d;rw [if_pos w] at d
   obtain ⟨c,O⟩:∃ c,c=(lo+g) / 2:=⟨_,rfl⟩
   rw [<-O] at d;obtain ⟨W,y,z,D,C,o⟩:=t c o_ o_;have u:=AN s hs y z (i _ (Az D)) (i _ (Az C));have H:=NF D;have Q:=NF C;have J:c<L.length:=(Ad.1 C).1;have x:p-c<L.length:=(Ad.1 D).1;have hm:=OY lo g;rw [<-O] at hm;have S:=aAw (show c<=1000000 by omega);have U:c<(pnv L).length:=by rw [wW];exact J
   have G:p-c<(pnv L).length:=by rw [wW];exact x
   obtain ⟨q,V⟩:∃ q,q=p-c:=⟨_,rfl⟩
   have A:(p:Int)-c=(q:Int):=o_;rw [<-V] at H G x;have T:p<=2000000:=o_;cases B:P c with
   | true=>
    rw [B,if_pos rfl] at d;have r:ltP s y z=false:=by rw [B] at o;simpa using o.symm
    have F:¬ lQ s y z<0:=of_decide_eq_false r;have M:(!decide (lQ s y z<0))=true:=congrArg (λ b=>!b) r;have I:=aMF s hs L i N a m b mid n p l j P t R k next f (c+1) g o_ o_ o_ h3 d
    clear r;generalize lQ s y z=v at *
    dsimp only [bY] at I⊢;generalize pnv L=K at *
    clear t next
    refine gV ?_;refine aT λ h=>?_
    repeat' first | (refine gN (hEr [] [61,63,64,65,113,115,116,117]) ?_;conv=>whnf) | (rw [hm];refine Gl (Ae S ?_)) | refine ⟨q,A,?_⟩ | refine ⟨_,H,?_⟩ | refine ⟨c,rfl,?_⟩ | refine ⟨_,Q,?_⟩ | refine .pure _ [] u ?_ | refine Ae (λ_=>?_) (λ h=>absurd (M.symm.trans h) d_) | exact rfl | refine zt ?_ | refine zu ?_ ?_ | intro h | fail
    exact zW
   | false=>
    rw [B,if_neg d_] at d;have r:ltP s y z=true:=by rw [B] at o;simpa using o.symm
    have F:lQ s y z<0:=of_decide_eq_true r;have M:(!decide (lQ s y z<0))=false:=congrArg (λ b=>!b) r;have I:=aMF s hs L i N a m b mid n p l j P t R k next f lo c o_ o_ h2 o_ d
    clear r;generalize lQ s y z=v at *
    dsimp only [bY] at I⊢;generalize pnv L=K at *
    clear t next
    refine gV ?_;refine aT λ h=>?_
    repeat' first | (refine gN (hEr [] [61,63,64,65,113,115,116,117]) ?_;conv=>whnf) | (rw [hm];refine Gl (Ae S ?_)) | refine ⟨q,A,?_⟩ | refine ⟨_,H,?_⟩ | refine ⟨c,rfl,?_⟩ | refine ⟨_,Q,?_⟩ | refine .pure _ [] u ?_ | refine Ae (λ h=>absurd (M.symm.trans h) d_) (λ_=>?_) | exact rfl | refine zt ?_ | refine zu ?_ ?_ | intro h | fail
    exact zW
  .unfold bis at d;rw [if_neg w] at d;subst d;have e:lo=g:=o_;subst e;exact next
def thP(s:Sta)(L:a7)(p c:Nat):Bool:=match L[p-c]?,L[c]? with
 | some y,some z=>!ltP s y z
 | _,_=>false
def RD(X A:a7)(i:Nat)(h:X.length<=i):(X++A)[i]? =A[i-X.length]?:=Al h
def aQz(s:Sta)(X U V Y:a7)(a m b mid n lo d:Nat)(L:a=X.length)(hm:m=a+U.length)(R:b=m+V.length)(T:0<U.length)(S:0<V.length)(B:mid=(a+b) / 2)(O:n=mid+m)
  (j:lo=if mid<m then n-b else a) (i:d=if mid<m then mid else m) (D:Tot (ltP s) (U++V)) (k:Nat) (H:bis (thP s (X++(U++(V++Y))) (n-1)) (d-lo) lo d=k):
  (∀ c,lo<=c->c<d->c<=n-1/\∃ y z,(X++(U++(V++Y)))[n-1-c]? =some y/\(X++(U++(V++Y)))[c]? =some z/\thP s (X++(U++(V++Y))) (n-1) c= !ltP s y z)/\lo<=d/\a<=k/\k<=m/\m<=n-k/\n-k<=b/\k<=n/\
  (k-a=0\/V.length<=n-k-m\/ltO (ltP s) U[k-a-1]? V[n-k-m]?)/\(n-k-m=0\/U.length<=k-a\/ltO (ltP s) V[n-k-m-1]? U[k-a]?):=by
 have J:∀ c,a<=c->c<m->(X++(U++(V++Y)))[c]? =U[c-a]?:=λ c h1 e=>by rw [RD _ _ _ o_,Ah o_,L]
 have K:∀ c,m<=c->c<b->(X++(U++(V++Y)))[c]? =V[c-m]?:=λ c h1 e=>by rw [RD _ _ _ o_,RD _ _ _ o_,Ah o_];congr 1;omega
 have p:lo<=d/\a<=lo/\d<=m/\n-d<=b/\m<=n-d/\n-lo<=b/\d<=n-1+1/\(lo=a\/n-lo=b)/\(d=m\/n-d=m):=by
  by_cases h:mid<m
  .rw [if_pos h] at j i;omega
  .rw [if_neg h] at j i;omega
 obtain ⟨l1,l2,W,Q,l5,P,Z,u,M⟩:=p;have g:∀ c,lo<=c->c<d->∃ y z,V[n-1-c-m]? =some y/\U[c-a]? =some z/\(X++(U++(V++Y)))[n-1-c]? =some y/\(X++(U++(V++Y)))[c]? =some z/\thP s (X++(U++(V++Y))) (n-1) c= !ltP s y z:=λ c h1 e=>by have r:V[n-1-c-m]? =some V[n-1-c-m]:=Ac o_;have A:U[c-a]? =some U[c-a]:=Ac o_;have C:=(K (n-1-c) o_ o_).trans r;have w:=(J c o_ o_).trans A;refine ⟨_,_,r,A,C,w,?_⟩;unfold thP;rw [C,w]
 have o:∀ y∈V,∀ z∈U,ltP s y z=false->ltP s z y=true:=λ y F z hz h=>by
  rcases (Cj.1 D).2.2 z hz y F with q | q
  .exact q
  .rw [q] at h;cases h
 obtain ⟨I,N,x,v⟩:=P5 (thP s (X++(U++(V++Y))) (n-1)) (d-lo) lo d (Bh _) l1;rw [H] at I N x v;refine ⟨λ c h1 e=>⟨by omega,?_⟩,l1,by omega,by omega,by omega,by omega,by omega,?_,?_⟩
 .obtain ⟨y,z,_,_,h3,G,f⟩:=g c h1 e;exact ⟨y,z,h3,G,f⟩
 .rcases x with h | h
  .rcases u with e | e
   .left;omega
   .right;left;omega
  .by_cases t:k=lo
   .rcases u with e | e
    .left;omega
    .right;left;omega
   .obtain ⟨y,z,h1,e,_,_,f⟩:=g (k-1) o_ o_;rw [h] at f;have l:ltP s y z=false:=by simpa using f.symm
    right;right;refine ⟨z,y,?_,?_,o y (Az h1) z (Az e) l⟩
    .rw [<-e];congr 1;omega
    .rw [<-h1];congr 1;omega
 .by_cases t:k=d
  .rcases M with e | e
   .right;left;omega
   .left;omega
  .obtain ⟨y,z,h1,e,_,_,f⟩:=g k o_ o_;rcases v with h | h
   .exact absurd h t
   .rw [h] at f;have l:ltP s y z=true:=by simpa using f.symm
    right;right;refine ⟨y,z,?_,?_,l⟩
    .rw [<-h1];congr 1;omega
    .rw [<-e]
def aPY(s:Sta)(V:a7)(u:Pn)(P:Nat->Bool)(o m b k:Nat)(p:b=m+V.length)(n:Up (ltP s) V)(j:Tot (ltP s) (u::V))(d:∀ h y,m<=h->V[h-m]? =some y->(P h=true->ltP s y u=true)/\(P h=false->ltP s u y=true))(l:bis P (b-m) m b=k):
  m<=k/\k<=b/\V.take (k-m)++u::V.drop (k-m)=srt (ltP s) (u::V):=by
 obtain ⟨c,i,g,f⟩:=P5 P (b-m) m b (Bh _) o_;rw [l] at c i g f;refine ⟨c,i,aNo (jW s) n j ?_ ?_⟩
 .by_cases a:k=m
  .left;omega
  .have e:V[k-m-1]? =some V[k-m-1]:=Ac o_;rcases g with h | h
   .exact absurd h a
   .exact .inr ⟨_,_,e,rfl,(d (k-1) _ o_ (by rw [<-e];congr 1;omega)).1 h⟩
 .by_cases a:k=b
  .left;omega
  .have e:V[k-m]? =some V[k-m]:=Ac o_;rcases f with h | h
   .exact absurd h a
   .exact .inr ⟨_,_,rfl,e,(d k _ c e).2 h⟩
def aHz(X A:a7)(u:Pn){a:Nat}(b:a=X.length):(X++u::A)[a]? =some u:=by subst b;simp
set_option maxHeartbeats 1000000 in
def aIj(s:Sta)(hs:OrdOK s)(X V Y:a7)(u:Pn)(a m b:Nat)(w:a=X.length)(hm:m=a+1)(C:b=m+V.length)(hl:b+Y.length<=999000)(c:pK (X++(u::(V++Y))))(t:Up (ltP s) V)(l:Tot (ltP s) (u::V)):
  aq 233 [.row 0 0,ii a,ii m,ii b,nR s] (bY (X++(u::(V++Y)))) (.ret (.tup [])) (bY (X++(srt (ltP s) (u::V)++Y))):=by
 have v:∀ h,m<=h->h<b->(X++(u::(V++Y)))[h]? =V[h-m]?:=λ h h1 i=>by rw [RD _ _ _ o_,show h-X.length=(h-m)+1 by omega,Gc,Ah o_]
 obtain ⟨P,j⟩:∃ P:Nat->Bool,∀ h y,(X++(u::(V++Y)))[h]? =some y->P h=ltP s y u:=⟨λ h=>match (X++(u::(V++Y)))[h]? with | some y=>ltP s y u | none=>false,λ h y e=>by simp only [e]⟩
 obtain ⟨k,n⟩:∃ k,bis P (b-m) m b=k:=⟨_,rfl⟩
 have d:∀ y∈V,ltP s u y=true\/ltP s y u=true:=λ y B=>(Ck.1 l).1 y B
 obtain ⟨I,H,p⟩:=aPY s V u P 0 m b k C t l (λ h y h1 i=>by
  have o:h<b:=by have:=(Ad.1 i).1;omega
  rw [j h y ((v h h1 o).trans i)];refine ⟨id,λ h3=>?_⟩;rcases d y (Az i) with q | q
  .exact q
  .rw [q] at h3;cases h3) n
 have x:X++(srt (ltP s) (u::V)++Y)=X++(V.take (k-m)++u::(V.drop (k-m)++Y)):=by rw [<-p];simp only [Ag,Bu]
 have r:X++(u::(V++Y))=X++u::(V.take (k-m)++(V.drop (k-m)++Y)):=by rw [<-Ag (V.take _),Bv]
 have n1:=mv1 _ (V.drop (k-m)++Y) u (V.take (k-m)) X k a w q_ q_ x;rw [<-r] at n1;have n2:=aMH s hs _ c q_ a u (aHz X _ u w) P j _ k n1 _ m b (Bh _) o_ q_ n;have G:((m:Int)-a==1)=true:=by rw [hm];simp;omega
 dsimp only [bY] at n2⊢;generalize pnv (X++(u::(V++Y)))=L at *
 generalize pnv (X++(srt (ltP s) (u::V)++Y))=R at *
 have F:m<=b:=o_;have z:b<=1000000:=o_;have D:a<=m:=o_;clear n1 x r p v j d c l t n;exact zqda5
set_option maxHeartbeats 1000000 in
def aIi(s:Sta)(hs:OrdOK s)(X U Y:a7)(v:Pn)(a m b:Nat)(H:a=X.length)(hm:m=a+U.length)(F:b=m+1)(C:U.length≠1)(hl:b+Y.length<=999000)(d:pK (X++(U++(v::Y))))(w:Up (ltP s) U)(c:Tot (ltP s) (U++[v])):
  aq 233 [.row 0 0,ii a,ii m,ii b,nR s] (bY (X++(U++(v::Y)))) (.ret (.tup [])) (bY (X++(srt (ltP s) (U++[v])++Y))):=by
 have r:srt (ltP s) (U++[v])=srt (ltP s) (v::U):=aDV (jW s) c;rw [r];have c:Tot (ltP s) (v::U):=c.perm (Ee);have x:∀ h,a<=h->h<m->(X++(U++(v::Y)))[h]? =U[h-a]?:=λ h h1 l=>by rw [RD _ _ _ o_,Ah o_,H]
 obtain ⟨P,n⟩:∃ P:Nat->Bool,∀ h y,(X++(U++(v::Y)))[h]? =some y->P h= !ltP s v y:=⟨λ h=>match (X++(U++(v::Y)))[h]? with | some y=>!ltP s v y | none=>false,λ h y e=>by simp only [e]⟩
 obtain ⟨k,o⟩:∃ k,bis P (m-a) a m=k:=⟨_,rfl⟩
 have i:∀ y∈U,ltP s v y=true\/ltP s y v=true:=λ y D=>(Ck.1 c).1 y D
 obtain ⟨N,K,t⟩:=aPY s U v P 0 a m k hm w c (λ h y h1 l=>by
  have p:h<m:=by have:=(Ad.1 l).1;omega
  rw [n h y ((x h h1 p).trans l)];refine ⟨λ h3=>?_,λ h3=>by simpa using h3⟩;rcases i y (Az l) with q | q
  .rw [q] at h3;cases h3
  .exact q) o
 have z:X++(srt (ltP s) (v::U)++Y)=(X++U.take (k-a))++v::(U.drop (k-a)++Y):=by rw [<-t];simp only [Ag,Bu]
 have u:X++(U++(v::Y))=(X++U.take (k-a))++(U.drop (k-a)++v::Y):=by rw [Ag,<-Ag (U.take _),Bv]
 have n1:=mv2 _ v (X++U.take (k-a)) k q_ _ (U.drop (k-a)) Y m rfl q_ q_ z;rw [<-u] at n1;have j:(X++(U++(v::Y)))[m]? =some v:=by rw [<-Ag];exact aHz (X++U) Y v q_
 have n2:=aMG s hs _ d q_ m v j P n _ k n1 _ a m (Bh _) o_ q_ o;have J:((m:Int)-a==1)=false:=by rw [hm];simp;omega
 have M:((b:Int)-m==1)=true:=by rw [F];simp;omega
 dsimp only [bY] at n2⊢;generalize pnv (X++(U++(v::Y)))=L at *
 generalize pnv (X++(srt (ltP s) (v::U)++Y))=R at *
 have I:m<=b:=o_;have B:b<=1000000:=o_;have G:a<=m:=o_;clear n1 z u t x n i d c w o j;exact zqda5
set_option maxHeartbeats 2000000 in
def aMv(s:Sta)(hs:OrdOK s):∀ (N:Nat) (X U V Y:a7) (a m b:Nat),U.length+V.length<=N->a=X.length->m=a+U.length->b=m+V.length->0<U.length->0<V.length->b+Y.length<=999000->pK (X++(U++(V++Y)))->Up (ltP s) U->Up (ltP s) V->Tot (ltP s) (U++V)->
  aq 233 [.row 0 0,ii a,ii m,ii b,nR s] (bY (X++(U++(V++Y)))) (.ret (.tup [])) (bY (X++(srt (ltP s) (U++V)++Y))):=by
 intro N;induction N with
 | zero=>intro X U V Y a m b hN;omega
 | succ N ih=>
  intro X U V Y a m b hN F hm P pU pV hl c D C o;by_cases x:U.length=1
  .obtain ⟨u,rfl⟩:=Mj.1 x;exact aIj s hs X V Y u a m b F hm P hl c C o
  by_cases I:V.length=1
  .obtain ⟨v,rfl⟩:=Mj.1 I;exact aIi s hs X U Y v a m b F hm P x hl c D o
  obtain ⟨mid,j⟩:∃ mid,mid=(a+b) / 2:=⟨_,rfl⟩
  obtain ⟨n,hn⟩:∃ n,n=mid+m:=⟨_,rfl⟩
  obtain ⟨lo,i⟩:∃ lo,lo=if mid<m then n-b else a:=⟨_,rfl⟩
  obtain ⟨p,e⟩:∃ p,p=if mid<m then mid else m:=⟨_,rfl⟩
  obtain ⟨k,M⟩:∃ k,bis (thP s (X++(U++(V++Y))) (n-1)) (p-lo) lo p=k:=⟨_,rfl⟩
  obtain ⟨T,K,k1,k2,k3,k4,k5,B,y⟩:=aQz s X U V Y a m b mid n lo p F hm P pU pV j hn i e o k M;have hst:(k-a)+(n-k-m)=mid-a:=o_;have r:=aJy (jW s) D C o B y;have w:=AD D (k-a);have t:=AD C (n-k-m);have t1:Tot (ltP s) (U.take (k-a)++V.take (n-k-m)):=Gk ((Im _ U).append (Im _ V)) o;have t2:Tot (ltP s) (U.drop (k-a)++V.drop (n-k-m)):=Gk ((Ip _ U).append (Ip _ V)) o;have tU:U.take (k-a)++U.drop (k-a)=U:=Bv _ _;have W:V.take (n-k-m)++V.drop (n-k-m)=V:=Bv _ _;have lU1:(U.take (k-a)).length=k-a:=by simp;omega
  have q:(U.drop (k-a)).length=m-k:=by simp;omega
  have z:(V.take (n-k-m)).length=n-k-m:=by simp;omega
  have lV2:(V.drop (n-k-m)).length=b-(n-k):=by simp;omega
  generalize U.take (k-a)=U1 at *
  generalize U.drop (k-a)=U2 at *
  generalize V.take (n-k-m)=V1 at *
  generalize V.drop (n-k-m)=V2 at *
  have J:X++(U++(V++Y))=X++(U1++(U2++(V1++(V2++Y)))):=by rw [<-tU,<-W];simp only [Ag]
  have lS1:(srt (ltP s) (U1++V1)).length=mid-a:=by rw [(fN (ltP s) (U1++V1)).length_eq,Ai];omega
  have S:pK (X++(U1++(V1++(U2++(V2++Y))))):=c.perm (by
   rw [J];refine Eb X (Eb U1 ?_);rw [<-Ag U2,<-Ag V1]
   exact Dz _ Ee)
  have p2:pK ((X++srt (ltP s) (U1++V1))++(U2++(V2++Y))):=S.perm (by
   rw [Ag X];refine Eb X ?_;rw [<-Ag U1]
   exact Dz _ (fN (ltP s) (U1++V1)).symm)
  have d1:Stp 270 s k m (n-k) (pnv (X++(U++(V++Y)))) (pnv (X++(U1++(V1++(U2++(V2++Y)))))):=by
   rw [J];by_cases d:k<m
   .by_cases l:m<n-k
    .refine .inl ⟨d,l,?_⟩;have:=aMP s (X++U1) U2 V1 (V2++Y) k m (n-k) q_ o_ o_ (by intro h;rw [h] at q;simp at q;omega) (by intro h;rw [h] at z;simp at z;omega) q_;rw [Ag X,Ag X] at this;exact this
    .refine .inr (.inl ⟨d,l,?_⟩);have:V1=[]:=Cv.1 o_;rw [this];rfl
   .refine .inr (.inr ⟨d,?_⟩);have:U2=[]:=Cv.1 o_;rw [this];rfl
  have d2:Stp 233 s a k mid (pnv (X++(U1++(V1++(U2++(V2++Y)))))) (pnv (X++(srt (ltP s) (U1++V1)++(U2++(V2++Y))))):=by
   by_cases d:a<k
   .by_cases l:k<mid
    .exact .inl ⟨d,l,ih X U1 V1 (U2++(V2++Y)) a k mid o_ F o_ o_ o_ o_ q_ S (Cj.1 w).1 (Cj.1 t).1 t1⟩
    .refine .inr (.inl ⟨d,l,?_⟩);have:V1=[]:=Cv.1 o_;rw [this,Ar,AM (jW s) (Cj.1 w).1];rfl
   .refine .inr (.inr ⟨d,?_⟩);have:U1=[]:=Cv.1 o_;have O:srt (ltP s) ([]++V1)=V1:=AM (jW s) (Cj.1 t).1;rw [this,O];rfl
  have d3:Stp 233 s mid (n-k) b (pnv (X++(srt (ltP s) (U1++V1)++(U2++(V2++Y))))) (pnv (X++(srt (ltP s) (U++V)++Y))):=by
   rw [<-r,Ag (srt (ltP s) (U1++V1))];by_cases d:mid<n-k
   .by_cases l:n-k<b
    .have:=ih (X++srt (ltP s) (U1++V1)) U2 V2 Y mid (n-k) b o_ q_ o_ o_ o_ o_ hl p2 (Cj.1 w).2.1 (Cj.1 t).2.1 t2;rw [Ag X,Ag X] at this;exact .inl ⟨d,l,this⟩
    .refine .inr (.inl ⟨d,l,?_⟩);have:V2=[]:=Cv.1 o_;rw [this,Ar,AM (jW s) (Cj.1 w).2.1];rfl
   .refine .inr (.inr ⟨d,?_⟩);have:U2=[]:=Cv.1 o_;have O:srt (ltP s) ([]++V2)=V2:=AM (jW s) (Cj.1 t).2.1;rw [this,O];rfl
  have n1:=aDL s a m b mid n k (n-k) ((n-1:Nat):Int) o_ o_ _ _ _ _ d1 d2 d3;have n2:=aMF s hs _ c q_ a m b mid n (n-1) lo p _ T _ k n1 _ lo p (Bh _) K (Bh _) (Bh _) M;have e1:((m:Int)-a==1)=false:=by simp;omega
  have Z:((b:Int)-m==1)=false:=by simp;omega
  have e3:((n:Int)-1)=((n-1:Nat):Int):=o_;have Q:=OY a b;rw [<-j] at Q;have hr:=aAw (show mid<=1000000 by omega);rw [<-e3] at n2;have en:(n:Int)=(mid:Int)+m:=o_;have hm9:m<=b:=o_;have hb9:b<=1000000:=o_;have ha9:a<=m:=o_;have H:mid<=1000000:=o_;dsimp only [bY,aIk] at n2⊢;generalize pnv (X++(U++(V++Y)))=L at *
  generalize pnv (X++(srt (ltP s) (U++V)++Y))=R at *
  clear n1 d1 d2 d3 S p2 J r w t t1 t2 tU W T M c o D C B y;by_cases hq:mid<m
  .rw [if_pos hq] at i e;have G:(lo:Int)=(mid:Int)+m-b:=o_;subst e;rw [G,en] at n2;refine cT (E:=(Er [] [61,63,64,65,113,115,116,117])) (fn:=Tryz.f233) (g:=.full 1 _ _) λ_=>?_
   repeat' first | (refine gN (hEr [] [61,63,64,65,113,115,116,117]) ?_;conv=>whnf) | refine Ae (λ h=>absurd (e1.symm.trans h) d_) (λ_=>?_) | refine Ae (λ h=>absurd (Z.symm.trans h) d_) (λ_=>?_) | (rw [Q];refine Gl (Ae hr ?_)) | refine Ae (λ_=>?_) (λ h=>absurd (of_decide_eq_false h) o_) | exact rfl | refine zt ?_ | refine zu ?_ ?_ | intro h | fail
   exact zW
  .rw [if_neg hq] at i e;subst i e;rw [en] at n2;refine cT (E:=(Er [] [61,63,64,65,113,115,116,117])) (fn:=Tryz.f233) (g:=.full 1 _ _) λ_=>?_
   repeat' first | (refine gN (hEr [] [61,63,64,65,113,115,116,117]) ?_;conv=>whnf) | refine Ae (λ h=>absurd (e1.symm.trans h) d_) (λ_=>?_) | refine Ae (λ h=>absurd (Z.symm.trans h) d_) (λ_=>?_) | (rw [Q];refine Gl (Ae hr ?_)) | refine Ae (λ h=>absurd (of_decide_eq_true h) o_) (λ_=>?_) | exact rfl | refine zt ?_ | refine zu ?_ ?_ | intro h | fail
   exact zW
def FS{n:Nat}(h:n<=1000000):EY n 88:=⟨by simp only [maxLen];omega,by omega⟩
def aMA(s:Sta)(hs:OrdOK s)(P:a7)(n:Nat)(t:n=P.length)(hl:n<40)(a:pK P)(e:Tot (ltP s) P):
  aq 169 [.row 0 0,ii n,nR s] (bY P) (.ret (.tup [])) (bY (srt (ltP s) P)):=by
 by_cases x:n<20
 .have h1:=WW s hs [] P [] 0 n rfl q_ q_ a;rw [Bp,Bp,Ar,Ar] at h1;generalize srt (ltP s) P=R at *
  dsimp only [bY] at h1⊢;generalize pnv P=L at *
  clear t a e;refine cT (E:=E) (fn:=Tryz.f169) (g:=.full 1 _ _) λ_=>?_
  repeat' first | (refine gN hE ?_;conv=>whnf) | exact rfl | refine zt ?_ | refine zu ?_ ?_ | intro h | fail
  refine gV ?_;refine Ae (λ h=>absurd (of_decide_eq_true h) o_) (λ_=>?_)
  repeat' first | (refine gN hE ?_;conv=>whnf) | refine .eff [] [0] _ _ rfl h1 ?_ | exact rfl | refine zt ?_ | refine zu ?_ ?_ | intro h | fail
  refine gV ?_;exact zW
 .obtain ⟨A,B,rfl,j⟩:∃ A B,P=A++B/\A.length=20:=⟨P.take 20,P.drop 20,(Bv 20 P).symm,by simp;omega⟩
  rw [Ai,j] at t;have c:pK A:=λ p hp=>a p (Cf _ hp);have b:pK B:=λ p hp=>a p (Ct _ hp);obtain ⟨m,tB,_⟩:=Cj.1 e;have i:=fN (ltP s) A;have k:=fN (ltP s) B;have o:(srt (ltP s) A).length=20:=by rw [i.length_eq,j]
  have u:(srt (ltP s) B).length=B.length:=k.length_eq;have h1:=WW s hs [] A B 0 20 rfl q_ o_ c;rw [Bp,Bp] at h1;have d:=WW s hs (srt (ltP s) A) B [] 20 n o.symm o_ q_ b;rw [Ar,Ar] at d;by_cases C:n=20
  .have y:B=[]:=Cv.1 o_;subst y;rw [Ar] at h1 d⊢;have z:srt (ltP s) ([]:a7)=[]:=rfl;rw [z,Ar] at d;rw [Ar] at h1;generalize srt (ltP s) A=R at *
   dsimp only [bY] at h1 d⊢;generalize pnv A=L at *
   clear j a e c b m tB i k o u;refine cT (E:=E) (fn:=Tryz.f169) (g:=.full 1 _ _) λ_=>?_
   repeat' first | (refine gN hE ?_;conv=>whnf) | exact rfl | refine zt ?_ | refine zu ?_ ?_ | intro h | fail
   refine gV ?_;refine Ae (λ_=>?_) (λ h=>absurd (of_decide_eq_false h) o_)
   repeat' first | (refine gN hE ?_;conv=>whnf) | refine .eff [] [0] _ _ rfl h1 ?_ | exact rfl | refine zt ?_ | refine zu ?_ ?_ | intro h | fail
   refine gV ?_;refine Ae (λ h=>absurd (of_decide_eq_true h) o_) (λ_=>?_)
   repeat' first | (refine gN hE ?_;conv=>whnf) | refine .eff [] [0] _ _ rfl d ?_ | exact rfl | refine zt ?_ | refine zu ?_ ?_ | intro h | fail
   refine gV ?_;exact zW
  .have r:=vJ (jW s) m;have v:=vJ (jW s) tB;have l:(srt (ltP s) A++srt (ltP s) B).Perm (A++B):=i.append k;have q:Tot (ltP s) (srt (ltP s) A++srt (ltP s) B):=e.perm l.symm;have h3:=aMv s hs _ [] (srt (ltP s) A) (srt (ltP s) B) [] 0 20 n (Bh _) rfl q_ o_ o_ o_ q_ (by rw [Bp,Ar];exact a.perm l.symm) r v q;rw [Bp,Bp,Ar,Ar] at h3;have w:srt (ltP s) (srt (ltP s) A++srt (ltP s) B)=srt (ltP s) (A++B):=VE (jW s) (((fN _ _).trans l).trans (fN _ _).symm) (vJ (jW s) q) (vJ (jW s) e);rw [w] at h3;generalize srt (ltP s) (A++B)=R at *
   dsimp only [bY] at h1 d h3⊢;generalize pnv (A++B)=L at *
   generalize pnv (srt (ltP s) A++B)=L2 at *
   generalize pnv (srt (ltP s) A++srt (ltP s) B)=L3 at *
   clear j a e c b m tB i k o u r v l q w;refine cT (E:=E) (fn:=Tryz.f169) (g:=.full 1 _ _) λ_=>?_
   repeat' first | (refine gN hE ?_;conv=>whnf) | exact rfl | refine zt ?_ | refine zu ?_ ?_ | intro h | fail
   refine gV ?_;refine Ae (λ_=>?_) (λ h=>absurd (of_decide_eq_false h) o_)
   repeat' first | (refine gN hE ?_;conv=>whnf) | refine .eff [] [0] _ _ rfl h1 ?_ | exact rfl | refine zt ?_ | refine zu ?_ ?_ | intro h | fail
   refine gV ?_;refine Ae (λ h=>absurd (of_decide_eq_true h) o_) (λ_=>?_)
   repeat' first | (refine gN hE ?_;conv=>whnf) | refine .eff [] [0] _ _ rfl d ?_ | exact rfl | refine zt ?_ | refine zu ?_ ?_ | intro h | fail
   refine gV ?_;refine Ae (λ_=>?_) (λ h=>absurd (of_decide_eq_false h) o_)
   repeat' first | (refine gN hE ?_;conv=>whnf) | exact rfl | refine zt ?_ | refine zu ?_ ?_ | intro h | fail
   refine gV ?_;refine Ae (λ h=>absurd (of_decide_eq_true h) o_) (λ_=>?_)
   repeat' first | (refine gN hE ?_;conv=>whnf) | refine Ae (λ_=>?_) (λ h=>absurd (of_decide_eq_false h) o_) | refine .eff [] [0] _ _ rfl h3 ?_ | exact rfl | refine zt ?_ | refine zu ?_ ?_ | intro h | fail
   refine gV ?_;exact zW
def aMB(s:Sta)(hs:OrdOK s)(P:a7)(hl:P.length<40)(a:pK P)(c:Tot (ltP s) P):
  aq 110 [.row 0 0,nR s] (bY P) (.ret (.tup [])) (bY (srt (ltP s) P)):=by
 have h1:=aMA s hs P (pnv P).length s_ (by simpa using hl) a c;generalize srt (ltP s) P=R at *
 have b:(pnv P).length<=1000000:=by simp;omega
 dsimp only [bY] at h1⊢;generalize pnv P=L at *
 clear a c;refine cT (E:=E) (fn:=Tryz.f110) (g:=.full 1 _ _) λ_=>?_;exact zW
def aCP(xs:a7)(c:xs.length<=1000000):aq 106 [.slice 11 (pnv xs) .no] [] (.ret (.row 0 0)) (bY xs):=by
 refine cT (E:=(Er [2,5] [])) (fn:=Tryz.f106) (g:=.full 0 _ _) λ_=>gV ?_;intro b a;refine gV ?_;refine ⟨λ h=>?_,λ h=>?_⟩
 .refine gV ?_;refine ⟨[],[1],⟨rfl,rfl⟩,?_⟩;conv=>whnf
  rw [a (by simpa using h)];exact ⟨rfl,rfl⟩
 .refine gV ?_;refine ⟨FS (by simpa using c),gV ?_⟩;refine ⟨[],[1],⟨rfl,rfl⟩,?_⟩;exact ⟨rfl,rfl⟩
def aEY(s:Sta)(hs:OrdOK s)(hl:s.pend.length<40)(a:pK s.pend)(c:Tot (ltP s) s.pend):
  aq 51 [s.av] [] (.ret (.slice 11 (pnv (xQ s)) .no)) []:=by
 have h1:=aCP s.pend o_;have b:=aMB s hs s.pend hl a c;have e:srt (ltP s) s.pend=xQ s:=rfl;rw [e] at b;generalize xQ s=R at *
 refine c_ Tryz.f51 λ_=>gV ?_;refine .eff [] [] _ _ rfl h1 (gV ?_);refine .eff [2,0] [1] _ _ rfl b ?_;refine gW hE ?_;conv=>whnf
end Go.Proofs.YtidhfoefaomodaaGreatDoor
