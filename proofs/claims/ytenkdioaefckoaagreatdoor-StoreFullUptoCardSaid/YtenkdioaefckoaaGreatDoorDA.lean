/- Part 9 of what the statement rests on. -/
import Derived.Test.YtenkdioaefckoaaGreatDoorCA
set_option linter.all false
set_option maxHeartbeats 2000000
open Go.AW.Res renaming ret->Io
open Go.AW.St renaming head->G0
open Go.AW.Tk renaming no->J0
open Go.AW.aa renaming agg->He,bool->DA,int->GE,ref->G2,slice->CA,tup->GT
open Go.AW.ab renaming bun->If,cells->Do,tail->Fr
open Go.IntKind renaming i64->Is,u64->IH
open List renaming length->Z
open Bool renaming true->O,false->U
open Option renaming some->X
open And renaming intro->Aa
open Bool renaming and_false->Br,false_and->Cu,false_eq_true->Dc,true_and->Bz
open Exists renaming intro->Aj
open Int renaming fdiv->Kx,fdiv_eq_ediv_of_nonneg->Ef,natCast_mul->Eb,tdiv->Hi,tmod->Ng,toNat->Cz,toNat_natCast->Bo
open List renaming append_assoc->Ag,append_nil->Ao,cons_append->Bx,dropLast_concat_getLast->Lb,drop_eq_getElem_cons->Ac,drop_eq_nil_of_le->Ae,drop_sublist->Iq,foldl_cons->Ap,getElem?_append_left->Ai,getElem?_append_right->Au,getElem?_cons_succ->Gp,getElem?_eq_getElem->Ab,getElem?_eq_some_iff->Ad,getElem?_set_ne->Bg,getElem?_set_self->Ba,getElem_mem->Aq,getElem_of_mem->Gz,length_append->Ah,length_drop->Dt,length_eq_one_iff->Mo,length_eq_zero_iff->Cm,length_map->Bw,length_pos_iff->Dd,length_reverse->Ja,length_set->Dq,map_drop->Ij,map_set->Gl,map_take->Fm,mem_append->Cc,mem_append_left->Di,mem_cons->Az,mem_cons_self->Aw,mem_of_getElem?->Ax,mem_singleton_self->Jp,nil_append->Bk,pairwise_append->Ce,pairwise_cons->Bt,pairwise_singleton->Jo,perm_append_comm->Dx,perm_middle->Gb,range->Dh,set_append_right->Hl,take_append_drop->Bn,take_sublist->Ip,take_succ_eq_append_getElem->Ht
open List.Pairwise renaming imp->Jx,nil->Lu,sublist->Gi
open List.Perm renaming append_left->Ds,append_right->Dv,refl->Fj
open Nat renaming add_mul->Ch,add_sub_cancel->Ih,add_zero->Ft,div_add_mod->Ge,div_div_eq_div_mul->Jw,div_eq_of_lt->Kf,div_le_self->Dp,div_lt_iff_lt_mul->Dl,div_mul_le_self->Gy,div_one->Ir,eq_zero_or_pos->Hj,le_add_right->Iy,le_div_iff_mul_le->Hn,le_refl->Bc,le_trans->Cp,lt_of_le_of_lt->Jk,lt_trans->Nq,mod_le->Lk,mod_lt->Eh,mul_add->Hb,mul_add_div->Ji,mul_assoc->Ik,mul_comm->De,mul_div_mul_right->Ke,mul_le_mul->Eg,mul_le_mul_right->Bu,mul_right_comm->Lj,one_mul->Hu,pow_add->Fc,pow_le_pow_right->Ep,pow_pos->Kw,pow_zero->Nn,strongRecOn->Hq,testBit_two_pow->Lf,two_pow_add_eq_or_of_lt->Ha,zero_add->Bv,zero_mul->Mn
open Or renaming inl->Fu,inr->Jv
namespace Go.Proofs.YtenkdioaefckoaaGreatDoor
open Go.Proofs.Tryz
open Go Go.AW Go.Proofs
def zqda0{P:Prop}(h:P:=by
 refine gV ?_;rw[e];refine aJ (gV ?_);refine aF λh=>gV ?_;rw[f];refine aJ (gV ?_);rw[l];refine aJ (gV ?_);refine .p j (gV ?_);rw[o];refine aJ (gV ?_);refine .p k (gV ?_);rw[n];refine aJ (gV ?_);refine Aa d_ (gV ?_);rw[i]
 exact zW):P:=h
def zqda1{P:Prop}(h:P:=by
 refine gV ?_;refine aT λh=>gV ?_;refine Aa (Aa d_ d_) (gV ?_);rw[g];refine aJ (gV ?_);refine Aa o_ (gV ?_);rw[d];refine Fu (Aa (Aa (show Cz (k:Int)<=64 by omega) (Aa (by simp only[bS];omega) (by simp only[aX];omega))) ?_);refine gV ?_;rw[a]
 exact zW):P:=h
def zqda2{P:Prop}(h:P:=by
 dsimp only[bW]at next⊢
 generalize pnv L=K at *
 refine gV ?_
 exact zW):P:=h
def zqda3{P:Prop}(h:P:=by
 subst c;refine c_ f322 λ_=>?_;have hz1:=λd=>PW d
 exact zW):P:=h
def zqda4{P:Prop}(h:P:=by exact c_ f229 λ_=>zW):P:=h
def zqda5{P:Prop}(h:P:=by exact c_ f127 λ_=>zW):P:=h
def zqda6{P:Prop}(h:P:=by
 rw[Ae o_]at b;have b:a++[]=R:=b;rw[Ao]at b;subst b;refine gV ?_
 exact zW):P:=h
def zqda7{P:Prop}(h:P:=by
 refine eA (Er [] [61,63,64,65,113,115,116,117]) f325 1 λ_=>?_
 exact zW):P:=h
def zqda8{P:Prop}(h:P:=by
 refine bR hE 2 ?_;conv=>whnf
 exact To.cutC [5,6,7,8] 0 rfl rfl rfl rfl tail):P:=h
def zqda9{P:Prop}(h:P:=by
 subst c
 exact c_ f185 λ_=>zW):P:=h
def zqda10{P:Prop}(h:P:=by exact c_ f182 λ_=>zW):P:=h
def zqda11{P:Prop}(h:P:=by exact c_ f256 λ_=>zW):P:=h
def zqda12{P:Prop}(h:P:=by
 generalize iF (Z p) (Z q)=t at *
 generalize iF a.seq b.seq=u at *
 refine gV ?_
 exact zW):P:=h
def zqda13{P:Prop}(h:P:=by exact c_ f307 λ_=>zW):P:=h
def zqda14{P:Prop}(h:P:=by
 refine bR hE 2 ?_;conv=>whnf
 exact To.cutC [2,8,9,10,11,13,14,15,16,17,18] 0 rfl rfl rfl rfl fin):P:=h
def zqda15{P:Prop}(h:P:=by
 refine bR hE 3 ?_;conv=>whnf
 exact To.cutC [2,8,9,10,11,13,14,15,16,17,18] 0 rfl rfl rfl rfl step):P:=h
def zqda16{P:Prop}(h:P:=by
 rcases Nat.le_total (Z p) (Z q)with h|h
 .exact .inl (Ae o_)
 .exact .inr (Ae o_)):P:=h
def zqda17{P:Prop}(h:P:=by
 refine bR hE 2 ?_;conv=>whnf
 exact To.cutC [2,8,9,10,11,13,14,15,16] 0 rfl rfl rfl rfl fin):P:=h
def zqda18{P:Prop}(h:P:=by
 refine bR hE 3 ?_;conv=>whnf
 exact To.cutC [2,8,9,10,11,13,14,15,16] 0 rfl rfl rfl rfl step):P:=h
def zqda19{P:Prop}(h:P:=by
 intro i x k d a;rw[Ae o_]at a;have a:x=R:=a;subst a;refine gV ?_
 exact zW):P:=h
def zqda20{P:Prop}(h:P:=by exact To.cutC [0,1,5,6,7,8] 0 rfl rfl rfl rfl tail):P:=h
def zqda21{P:Prop}(h:P:=by
 intro i v g a;rw[Ae o_]at a;have a:v=r:=a;subst a;refine gV ?_
 exact zW):P:=h
def zqda22{P:Prop}(h:P:=by exact c_ f323 λ_=>zW):P:=h
def zqda23{P:Prop}(h:P:=by
 subst a
 exact c_ f279 λ_=>zW):P:=h
def zqda24{P:Prop}(h:P:=by
 refine bR hE 7 ?_;conv=>whnf
 exact To.cutC [0,1,5,6,7,8] 0 rfl rfl rfl rfl t):P:=h
def zqda25{P:Prop}(h:P:=by
 unfold aFs at next
 generalize eU v x.c=w at e next
 refine gV ?_
 exact zW):P:=h
def FL{a b A B:Nat}(c:a<=A)(d:b<=B):a*b<=A*B:=Eg c d
def aDY(x y:Nat)(f:x<18446744073709551616)(e:y<18446744073709551616):
  ∃a b c d:Nat,a=x % 4294967296*(y % 4294967296)/\b=x / 4294967296*(y % 4294967296)/\c=x % 4294967296*(y / 4294967296)/\d=x / 4294967296*(y / 4294967296)/\
   a<=18446744065119617025/\b<=18446744065119617025/\c<=18446744065119617025/\d<=18446744065119617025/\x*y=d*18446744073709551616+(b+c)*4294967296+a:=by
 refine⟨_,_,_,_,rfl,rfl,rfl,rfl,FL (A:=4294967295) (B:=4294967295) o_ o_,FL (A:=4294967295) (B:=4294967295) o_ o_,FL (A:=4294967295) (B:=4294967295) o_ o_,FL (A:=4294967295) (B:=4294967295) o_ o_,?_⟩;have g:x=x / 4294967296*4294967296+x % 4294967296:=o_;have h:y=y / 4294967296*4294967296+y % 4294967296:=o_
 grind[Ch,Hb,Nat.mul_mul_mul_comm,Lj,Ik]
def UB(x y:Nat):Nat:=x*y / 18446744073709551616
def H5(x y:Nat):Nat:=x*y % 18446744073709551616
def aMd{x y a b c d:Nat}(h:x*y=d*18446744073709551616+(b+c)*4294967296+a)(e:a<=18446744065119617025)(f:b<=18446744065119617025)(g:c<=18446744065119617025):
  d+(b+a / 4294967296) / 4294967296+((b+a / 4294967296) % 4294967296+c) / 4294967296=UB x y:=by
 unfold UB;rw[h];omega
abbrev uu(n:Nat):aa:=GE IH (n:Int)
def tY(n:Nat):Nat:=if n<18446744073709551616 then n else 18446744073709551615
def kR(a b:Nat):Nat:=tY (a+b)
def kV(a b:Nat):Nat:=tY (a*b / 4294967296)
def ofF(n:Int):Nat:=if n<=0 then 0 else if n<4294967296 then n.toNat*4294967296 else 18446744073709551615
def wB(a b:Nat):Nat:=if a=0 then 0 else if b=0 then 18446744073709551615 else tY (a*4294967296 / b)
def xW(a b:Int):Nat:=wB (max a 0).toNat (max b 0).toNat
def OZ(n:Nat):tY n<18446744073709551616:=by unfold tY;split<;>omega
theorem F2(a b:Nat):kR a b<18446744073709551616:=OZ _
theorem BD(a b:Nat):kV a b<18446744073709551616:=OZ _
def aNI(a b:Nat):wB a b<18446744073709551616:=by
 unfold wB
 repeat' split
 .omega
 .omega
 .exact OZ _
def CX(n:Int):ofF n<18446744073709551616:=by
 unfold ofF
 repeat' split
 all_goals omega
def aRl{a b:Nat}(c:0<b)(h:b<=a / 4294967296):tY (a*4294967296 / b)=18446744073709551615:=by have h1:b*4294967296<=a:=o_;have d:18446744073709551616*b<=a*4294967296:=o_;have h3:18446744073709551616<=a*4294967296 / b:=(Hn c).2 d;exact bt (Nat.not_lt.2 h3)
def aRk{a b:Nat}(d:a / 4294967296<b):a*4294967296 / b<18446744073709551616/\tY (a*4294967296 / b)=a*4294967296 / b:=by have c:a*4294967296<18446744073709551616*b:=o_;have h3:a*4294967296 / b<18446744073709551616:=(Dl o_).2 c;exact⟨h3,bu h3⟩
def aLt{a b ah c d bl:Nat}(e:a=ah*4294967296+c)(f:b=d*4294967296+bl)(g:c<4294967296)(h:bl<4294967296):
  a*b / 4294967296=ah*d*4294967296+ah*bl+c*d+c*bl / 4294967296:=by
 grind[Ch,Hb,Nat.mul_mul_mul_comm,Ik,Lj]
def aGT{ah a:Nat}(b:0<a):(18446744073709551615 / a / 4294967296<ah)↔4294967296<=ah*a:=by grind[Jw,Dl,Nat.mul_pos,Ik]
def aJP(A i:Nat):A / 2 ^ i=2*(A / 2 ^ (i+1))+A / 2 ^ i % 2:=by rw[Nat.pow_succ,<-Jw];omega
def aRB(a:Nat){i:Nat}(h:i<32):a*4294967296 / 2 ^ i % 2=0:=by
 have e:(4294967296:Nat)=2*2 ^ (31-i)*2 ^ i:=by
  have:(4294967296:Nat)=2 ^ (1+(31-i)+i):=by rw[show 1+(31-i)+i=32 by omega]
  rw[this,Fc,Fc]
 rw[e,<-Ik,Nat.mul_div_cancel _ (Kw d_),Nat.mul_left_comm];omega
def aRC(a:Nat){i:Nat}(h:32<=i):a*4294967296 / 2 ^ i=a / 2 ^ (i-32):=by
 have e:2 ^ i=2 ^ (i-32)*4294967296:=by
  have:(4294967296:Nat)=2 ^ 32:=by decide
  rw[this,<-Fc,show i-32+32=i by omega]
 rw[e,Ke _ _ d_]
def aDT{A b i q r:Nat}(c:0<b)(a:r<b)(d:A / 2 ^ (i+1)=q*b+r):
  (2*r+A / 2 ^ i % 2<b->A / 2 ^ i=2*q*b+(2*r+A / 2 ^ i % 2))/\
  (b<=2*r+A / 2 ^ i % 2->A / 2 ^ i=(2*q+1)*b+(2*r+A / 2 ^ i % 2-b)/\2*r+A / 2 ^ i % 2-b<b):=by
 have e:=aJP A i
 grind
def aHq{A b q r:Nat}(c:r<b)(a:A / 2 ^ 0=q*b+r):q=A / b:=by rw[Nn,Ir]at a;rw[a,De,Ji o_,Kf c,Ft]
def aHr{A b i q r:Nat}(a:0<b)(c:A / 2 ^ (i+1)=q*b+r)(h:9223372036854775808<=q):18446744073709551616<=A / b:=by refine(Hn a).2 ?_;have h1:A / 2 ^ (i+1)*2 ^ (i+1)<=A:=Gy ..;have d:A / 2 ^ (i+1)*2<=A / 2 ^ (i+1)*2 ^ (i+1):=Nat.mul_le_mul_left _ (by grind[Nat.pow_succ,Kw]);have h3:9223372036854775808*b<=q*b:=Bu _ h;rw[c]at h1 d;omega
set_option maxRecDepth 10000
structure Dg(y1 y0 u v q r:Nat):Prop where
 rest:u=q*y1+r
 top:u*4294967296+v<(q+1)*(y1*4294967296+y0)
 few:q<=4294967297
def Dg.zero{a b u v:Nat}(h1:2147483648<=a)(h:b<4294967296)(d:v<4294967296)(f:u<a*4294967296+b):Dg a b u v (u / a) (u % a):=by
 have e:u=u / a*a+u % a:=by rw[De];exact(Ge u a).symm
 have c:u % a<a:=Eh _ o_;refine⟨e,?_,?_⟩
 .grind
 .have g:u / a<4294967298:=by refine(Dl o_).2 ?_;omega
  omega
def Dg.step{b a u v q r:Nat}(h:Dg b a u v q r)(l:v<4294967296)(i:u<b*4294967296+a)(g:4294967296<=q\/4294967296*r+v<q*a):1<=q/\Dg b a u v (q-1) (r+b):=by
 obtain⟨e,j,k⟩:=h;have c:1<=q:=by grind
 refine⟨c,?_⟩;have f:q=q-1+1:=o_;have d:u*4294967296+v<q*(b*4294967296+a):=by
  rcases g with h|h
  .have m:4294967296*(b*4294967296+a)<=q*(b*4294967296+a):=Bu _ h;omega
  grind
 refine⟨?_,by rw[<-f];exact d,by omega⟩
 grind
def Dg.fin{b a u v q r:Nat}(h:Dg b a u v q r)(f:q*a<=4294967296*r+v):q*(b*4294967296+a)<=u*4294967296+v/\q=(u*4294967296+v) / (b*4294967296+a):=by
 obtain⟨e,c,d⟩:=h;have hl:q*(b*4294967296+a)<=u*4294967296+v:=by grind
 refine⟨hl,?_⟩;have hp:0<b*4294967296+a:=by grind
 refine Nat.le_antisymm ((Hn hp).2 hl) ?_;have:=(Dl hp).2 c;omega
def Dg.far{a v q r:Nat}(d:a<4294967296)(b:q<=4294967296)(c:4294967296<=r):q*a<=4294967296*r+v:=by have h1:q*a<=4294967296*4294967295:=Eg b o_;omega
def aNJ{Y u v w a t b:Nat}(d:0<Y)(h1:a=(u*4294967296+v) / Y)(h:t=u*4294967296+v-a*Y)(c:b=(t*4294967296+w) / Y)(g:w<4294967296):a*4294967296+b=(u*18446744073709551616+v*4294967296+w) / Y:=by
 have e:u*4294967296+v=a*Y+t:=by
  have:a*Y<=u*4294967296+v:=by rw[h1];exact Gy ..
  omega
 have f:u*18446744073709551616+v*4294967296+w=Y*(a*4294967296)+(t*4294967296+w):=by grind[Ik,De,Ch,Nat.add_assoc]
 rw[f,Ji d,<-c]
def VW{Y N q t:Nat}(a:0<Y)(h1:q=N / Y)(b:t=N-q*Y):t<Y:=by have e:=Ge N Y;have l:=Eh N a;subst h1;rw[De]at e;omega
structure Ord{α:Type}(lt:α->α->Bool):Prop where
 tr:∀a b c,lt a b=O->lt b c=O->lt a c=O
 irr:∀a,lt a a=U
def Up{α:Type}(lt:α->α->Bool)(l:List α):Prop:=l.Pairwise λa b=>lt a b=O
def Tot{α:Type}(lt:α->α->Bool)(l:List α):Prop:=l.Pairwise λa b=>lt a b=O\/lt b a=O
def Tot.perm{α:Type}{lt:α->α->Bool}{l m:List α}(h:l.Perm m)(a:Tot lt l):Tot lt m:=h.pairwise a λh=>h.symm
def Ord.asym{α:Type}{lt:α->α->Bool}(o:Ord lt){a b:α}(h:lt a b=O):lt b a=false:=by
 cases c:lt b a with
 | false=>rfl
 | true=>have:=o.tr _ _ _ h c;rw[o.irr]at this;cases this
def XB{α:Type}{lt:α->α->Bool}(o:Ord lt):∀{l m:List α},l.Perm m->Up lt l->Up lt m->l=m
 | [],m,h,_,_=>(List.nil_perm.1 h).symm
 | x::l,[],h,_,_=>bv h.length_eq s_
 | x::l,y::m,h,h1,h2=>by
  have e:x=y:=by
   have b:x∈y::m:=h.mem_iff.1 (Aw ..);have a:y∈x::l:=h.mem_iff.2 (Aw ..);rcases Az.1 b with e|b
   .exact e
   rcases Az.1 a with e|a
   .exact e.symm
   have d:=(Bt.1 h1).1 y a;have c:=(Bt.1 h2).1 x b;rw[o.asym d]at c;cases c
  subst e;rw[XB o ((List.perm_cons x).1 h) (Bt.1 h1).2 (Bt.1 h2).2]
def aFh{α:Type}{lt:α->α->Bool}{A B:List α}{x:α}(e:Up lt (A++B))(g:∀a∈A,lt a x=O)(c:∀b∈B,lt x b=O):Up lt (A++x::B):=by
 obtain⟨h1,f,h3⟩:=Ce.1 e;refine Ce.2 ⟨h1,Bt.2 ⟨c,f⟩,λa h b d=>?_⟩
 grind
def AN{α:Type}{lt:α->α->Bool}(o:Ord lt){A B:List α}(i:Up lt A)(j:Up lt B)(h:A=[]\/B=[]\/∃f x y g,A=f++[x]/\B=y::g/\lt x y=O):∀a∈A,∀b∈B,lt a b=true:=by
 intro a h1 b c;rcases h with rfl|rfl|⟨f,x,y,g,rfl,rfl,h⟩
 .cases h1
 .cases c
 have d:a=x\/lt a x=true:=by
  rcases Cc.1 h1 with h1|h1
  .exact .inr ((Ce.1 i).2.2 a h1 x (Aw ..))
  .exact .inl (by simpa using h1)
 have e:b=y\/lt y b=true:=by
  rcases Az.1 c with c|c
  .exact .inl c
  .exact .inr ((Bt.1 j).1 b c)
 rcases d with rfl|d<;>rcases e with rfl|e
 .exact h
 .exact o.tr _ _ _ h e
 .exact o.tr _ _ _ d h
 .exact o.tr _ _ _ d (o.tr _ _ _ h e)
def aO8{α:Type}{lt:α->α->Bool}(o:Ord lt){f c e d g h:List α}(q:Up lt (f++c))(u:Up lt (e++d))
  (h1:f=[]\/d=[]\/∃j x y i,f=j++[x]/\d=y::i/\lt x y=O) (s:e=[]\/c=[]\/∃j x y i,e=j++[x]/\c=y::i/\lt x y=O)
  (t:g.Perm (f++e)) (v:h.Perm (c++d)) (n:Up lt g) (k:Up lt h):Up lt (g++h)/\(g++h).Perm (f++c++(e++d)):=by
 obtain⟨l,m,Be⟩:=Ce.1 q;obtain⟨r,p,B⟩:=Ce.1 u;have w:=AN o l p h1;have C:=AN o r m s;refine⟨Ce.2 ⟨n,k,λa z b A=>?_⟩,?_⟩
 .grind
 .refine (t.append v).trans ?_
  grind[Ag,Ds,Dv,Dx]
def oG{α:Type}(lt:α->α->Bool)(x:α)(l:List α):Nat->Nat
 | 0=>0
 | k+1=>match l[k]? with
  | some y=>if lt x y then oG lt x l k else k+1
  | none=>k+1
def mK{α:Type}(lt:α->α->Bool)(l:List α)(x:α):List α:=l.take (oG lt x l (Z l))++x::l.drop (oG lt x l (Z l))
def srt{α:Type}(lt:α->α->Bool)(l:List α):List α:=l.foldl (mK lt) []
def aBQ{α:Type}{lt:α->α->Bool}{x:α}{l:List α}:∀k,oG lt x l k<=k
 | 0=>Bc _
 | k+1=>by
  unfold oG;split
  .split
   .exact Nat.le_succ_of_le (aBQ k)
   .exact Bc _
  .exact Bc _
theorem aBR{α:Type}{lt:α->α->Bool}{x:α}{l:List α}:∀(k i:Nat) (h:i<Z l),oG lt x l k<=i->i<k->lt x l[i]=O
 | 0,i,h,_,h2=>by omega
 | k+1,i,h,h1,h2=>by
  unfold oG at h1;split at h1
  .rename_i y a;split at h1
   .rename_i hl;by_cases e:i=k
    .subst e;rw[Ab h]at a;cases a;exact hl
    .exact aBR k i h h1 o_
   .omega
  .omega
def aBP{α:Type}{lt:α->α->Bool}{x:α}{l:List α}:∀(k:Nat) (_:k<=Z l),oG lt x l k=0\/∃(i:Nat) (h:i<Z l),oG lt x l k=i+1/\lt x l[i]=U
 | 0,_=>.inl rfl
 | k+1,h=>by
  have a:k<Z l:=h;have e:oG lt x l (k+1)=if lt x l[k]=O then oG lt x l k else k+1:=by show(match l[k]? with|some y=>if lt x y=O then oG lt x l k else k+1|none=>k+1)=_;rw[Ab a]
  rw[e];cases hl:lt x l[k]with
  | true=>rw[bu rfl];exact aBP k o_
  | false=>exact .inr ⟨k,a,bt d_,hl⟩
def xH{α:Type}(lt:α->α->Bool)(l:List α)(x:α):(mK lt l x).Perm (x::l):=by unfold mK;refine Gb.trans ?_;rw[Bn]
def aMD{α:Type}{lt:α->α->Bool}(o:Ord lt){l:List α}{x:α}(j:Up lt l)(n:∀y∈l,lt x y=O\/lt y x=O):Up lt (mK lt l x):=by
 unfold mK;have k:=aBQ (lt:=lt) (x:=x) (l:=l) (Z l);have e:Up lt (l.take (oG lt x l (Z l))++l.drop (oG lt x l (Z l))):=by rw[Bn];exact j
 refine aFh e (λa c=>?_) (λb m=>?_)
 .rcases aBP (lt:=lt) (x:=x) (l:=l) (Z l) (Bc _)with h|⟨i,f,h,p⟩
  .rw [h]at c;cases c
  .rw [h]at c;have g:lt l[i] x=true:=by grind[Aq]
   rw[Ht f]at c;rcases Cc.1 c with c|c
   .refine o.tr _ _ _ ?_ g;have d:Up lt (l.take i++l.drop i):=by rw[Bn];exact j
    rw[Ac f]at d;exact(Ce.1 d).2.2 a c _ (Aw ..)
   .rw [List.mem_singleton.1 c];exact g
 grind[Gz,Dt,aBR]
def aFQ{α:Type}{lt:α->α->Bool}(o:Ord lt):∀(l a:List α),Up lt a->Tot lt (a++l)->Up lt (l.foldl (mK lt) a)/\(l.foldl (mK lt) a).Perm (a++l)
 | [],a,hu,_=>⟨hu,by simp⟩
 | x::l,a,hu,ht=>by have hp:=xH lt a x;have b:(a++x::l).Perm (mK lt a x++l):=Gb.trans (hp.symm.append_right l);obtain⟨c,e⟩:=aFQ o l (mK lt a x) (aMD o hu λy d=>((Ce.1 ht).2.2 y d x (Aw ..)).symm) (ht.perm b);exact⟨c,e.trans b.symm⟩
def uT{α:Type}{lt:α->α->Bool}(o:Ord lt){l:List α}(h:Tot lt l):Up lt (srt lt l):=(aFQ o l [] Lu h).1
def LP{α:Type}{lt:α->α->Bool}:∀(l a:List α),(l.foldl (mK lt) a).Perm (a++l)
 | [],a=>by simp
 | x::l,a=>(LP l (mK lt a x)).trans (((xH lt a x).append_right l).trans Gb.symm)
def fN{α:Type}(lt:α->α->Bool)(l:List α):(srt lt l).Perm l:=LP l []
theorem OP{α:Type}{lt:α->α->Bool}(o:Ord lt){l W:List α}(h:Tot lt l)(a:Up lt W)(hp:W.Perm l):W=srt lt l:=XB o (hp.trans (fN lt l).symm) a (uT o h)
def aPp{α:Type}{lt:α->α->Bool}(o:Ord lt){l:List α}(a:Up lt l):l=srt lt l:=OP o (Jx (λh=>.inl h) a) a (Fj l)
def bis(P:Nat->Bool):Nat->Nat->Nat->Nat
 | 0,lo,_=>lo
 | f+1,lo,hi=>if lo<hi then(if P ((lo+hi) / 2)=O then bis P f ((lo+hi) / 2+1) hi else bis P f lo ((lo+hi) / 2))else lo
def Q5(P:Nat->Bool):∀(f lo e:Nat),e-lo<=f->lo<=e->lo<=bis P f lo e/\bis P f lo e<=e/\(bis P f lo e=lo\/P (bis P f lo e-1)=O)/\(bis P f lo e=e\/P (bis P f lo e)=U)
 | 0,lo,e,h,h2=>⟨Bc _,h2,.inl rfl,.inl (show lo=e by omega)⟩
 | f+1,lo,e,h,h2=>by
  unfold bis;by_cases h3:lo<e
  .rw [bu h3];cases hp:P ((lo+e) / 2)with
   | true=>
    rw[bu rfl];obtain⟨a,b,c,d⟩:=Q5 P f ((lo+e) / 2+1) e o_ o_;refine⟨by omega,b,?_,d⟩;rcases c with c|c
    .right;rw[c,Ih];exact hp
    .exact .inr c
   | false=>
    rw[bt d_];obtain⟨a,b,c,d⟩:=Q5 P f lo ((lo+e) / 2) o_ o_;refine⟨a,by omega,c,?_⟩;rcases d with d|d
    .right;rw[d];exact hp
    .exact .inr d
  grind
def ltO{α:Type}(lt:α->α->Bool)(x y:Option α):Prop:=∃a b,x=X a/\y=X b/\lt a b=O
def AM{α:Type}{lt:α->α->Bool}{l:List α}(h:Up lt l)(s:Nat):Up lt (l.take s++l.drop s):=by rw[Bn];exact h
def ML{α:Type}{l:List α}{s:Nat}(hs:s≠0){a:α}(h:l[s-1]? =X a):l.take s=l.take (s-1)++[a]:=by
 obtain⟨hl,e⟩:=Ad.1 h;have b:s=s-1+1:=o_
 grind[Ht,Ih]
def MX{α:Type}{l:List α}{t:Nat}{b:α}(h:l[t]? =X b):l.drop t=b::l.drop (t+1):=by grind[Ad,Ac]
def aJs{α:Type}{lt:α->α->Bool}{At V:List α}{s t:Nat}(h:s=0\/Z V<=t\/ltO lt At[s-1]? V[t]?):
  At.take s=[]\/V.drop t=[]\/∃a x y d,At.take s=a++[x]/\V.drop t=y::d/\lt x y=true:=by
 by_cases hs:s=0
 .exact .inl (by rw[hs];rfl)
 rcases h with h|h|⟨x,y,c,b,hl⟩
 .exact bv h hs
 .exact .inr (.inl (Ae h))
 .exact .inr (.inr ⟨_,x,y,_,ML hs c,MX b,hl⟩)
def aMf{α:Type}{lt:α->α->Bool}(o:Ord lt){At V:List α}{s t:Nat}(e:Up lt At)(f:Up lt V)(c:Tot lt (At++V))
  (h1:s=0\/Z V<=t\/ltO lt At[s-1]? V[t]?) (g:t=0\/Z At<=s\/ltO lt V[t-1]? At[s]?):
  srt lt (At.take s++V.take t)++srt lt (At.drop s++V.drop t)=srt lt (At++V):=by
 have d:Tot lt (At.take s++V.take t):=by refine Gi ?_ c;exact(Ip s At).append (Ip t V)
 have h:Tot lt (At.drop s++V.drop t):=by refine Gi ?_ c;exact(Iq s At).append (Iq t V)
 obtain⟨a,b⟩:=aO8 o (AM e s) (AM f t) (aJs h1) (aJs g) (fN lt _) (fN lt _) (uT o d) (uT o h)
 grind[Bn,OP]
def aQm{α:Type}{lt:α->α->Bool}(o:Ord lt){V:List α}{u:α}{t:Nat}(f:Up lt V)(i:Tot lt (u::V))(h1:t=0\/ltO lt V[t-1]? (X u))(k:Z V<=t\/ltO lt (X u) V[t]?):
  V.take t++u::V.drop t=srt lt (u::V):=by
 have g:=AN (A:=V.take t) (B:=[u]) o (Gi (Ip t V) f) (Jo ..) (by
  rcases h1 with h|⟨a,b,c,d,hl⟩
  .exact .inl (by rw[h];rfl)
  .by_cases e:t=0
   .exact .inl (by rw[e];rfl)
   .cases d
    exact .inr (.inr ⟨_,a,u,[],ML e c,rfl,hl⟩))
 have j:=AN (A:=[u]) (B:=V.drop t) o (Jo ..) (Gi (Iq t V) f) (by
  rcases k with h|⟨a,b,c,d,hl⟩
  .exact .inr (.inl (Ae h))
  .cases c
   exact .inr (.inr ⟨[],u,b,_,rfl,MX d,hl⟩))
 refine OP o i (aFh (AM f t) (λa c=>g a c u (Jp u)) (λb d=>j u (Jp u) b d)) ?_;refine Gb.trans ?_;rw[Bn]
def AU{α:Type}{lt:α->α->Bool}(o:Ord lt){l:List α}(a:Up lt l):srt lt l=l:=(aPp o a).symm
def aFP{α:Type}{lt:α->α->Bool}(o:Ord lt){At V:List α}(a:Tot lt (At++V)):srt lt (At++V)=srt lt (V++At):=
 OP o (a.perm Dx) (uT o a) ((fN lt _).trans Dx)
def UF(x:Nat)(a:x<18446744073709551616):dL .and IH (x:Int) 4294967295=((x % 4294967296:Nat):Int):=by have h:=xO IH x 4294967295 (by simp only[aX];omega) d_;have e:x &&& 4294967295=x % 4294967296:=Nat.and_two_pow_sub_one_eq_mod x 32;rw[e]at h;exact h
def gI(x:Nat):Kx (x:Int) (2 ^ Cz 32)=((x / 4294967296:Nat):Int):=by show Kx (x:Int) 4294967296=_;rw[Ef _ d_];omega
def aDZ(x y:Nat)(l:x<18446744073709551616)(j:y<18446744073709551616):bj 277 [GE IH x,GE IH y] (GT [GE IH (UB x y:Nat),GE IH (H5 x y:Nat)]):=by
 obtain⟨a,b,c,d,r,s,B,t,u,C,q,G,hs⟩:=aDY x y l j;have Be:=aMd hs u C q;have F:H5 x y<18446744073709551616:=Eh _ d_;have n:((x % 4294967296:Nat):Int)*((y % 4294967296:Nat):Int)=(a:Int):=by rw[r,Eb]
 have p:((x / 4294967296:Nat):Int)*((y % 4294967296:Nat):Int)=(b:Int):=by rw[s,Eb]
 have w:((x % 4294967296:Nat):Int)*((y / 4294967296:Nat):Int)=(c:Int):=by rw[B,Eb]
 have v:((x / 4294967296:Nat):Int)*((y / 4294967296:Nat):Int)=(d:Int):=by rw[t,Eb]
 have m:(b:Int)+((a / 4294967296:Nat):Int)=((b+a / 4294967296:Nat):Int):=o_;have o:(((b+a / 4294967296) % 4294967296:Nat):Int)+(c:Int)=(((b+a / 4294967296) % 4294967296+c:Nat):Int):=o_;have z:(d:Int)+(((b+a / 4294967296) / 4294967296:Nat):Int)+((((b+a / 4294967296) % 4294967296+c) / 4294967296:Nat):Int)=((UB x y:Nat):Int):=o_;have h:¬ (inR IH ((x:Int)*(y:Int)))->IntKind.wrap IH ((x:Int)*(y:Int))=((H5 x y:Nat):Int):=λ_=>by unfold H5;rw[<-Eb];simp[IntKind.wrap,IntKind.signed,IntKind.bits]
 refine c_ f277 λ_=>gV ?_;rw[UF x l];refine Aa d_ (gV ?_);rw[gI x,UF y j];refine Aa d_ (gV ?_);rw[gI y,n];refine aJ (gV ?_);rw[p];refine aJ (gV ?_);refine Aa d_ (gV ?_);rw[gI a,m];refine aJ (gV ?_);rw[UF _ o_];refine Aa d_ (gV ?_);rw[gI (b+a / 4294967296),w];refine aJ (gV ?_);rw[o];refine aJ (gV ?_);rw[v];refine aJ (gV ?_);refine aJ (gV ?_);refine Aa d_ (gV ?_);rw[gI ((b+a / 4294967296) % 4294967296+c),z];refine aJ (gV ?_);by_cases i:inR IH ((x:Int)*(y:Int))
 .have e:(x:Int)*(y:Int)=((H5 x y:Nat):Int):=by obtain⟨h1,k⟩:=i;simp only[bS,aX]at h1 k;rw[<-Eb]at h1 k⊢;unfold H5;omega
  rw[e];exact zW
 .rw [h i];refine Jv ?_;refine gW hE ?_;conv=>whnf
def tdN(x y:Nat):Hi (x:Int) (y:Int)=((x / y:Nat):Int):=rfl
def tmN(x y:Nat):Ng (x:Int) (y:Int)=((x % y:Nat):Int):=rfl
def aMb(x y:Nat):(x:Int)*(y:Int)=((x*y:Nat):Int):=(Eb x y).symm
def aDJ(n:Int)(r:Nat)(a:ofF n=r):bj 123 [ii n] (uu r):=by
 unfold ofF at a;by_cases h1:n<0
 .rw [bu o_]at a;subst a;exact c_ f123 λ_=>zW
 .by_cases b:n<4294967296
  .have e:n*4294967296=(r:Int):=by rw[<-a];split<;>omega
   have c:(r:Int)<18446744073709551616:=o_;refine c_ f123 λ_=>?_
   repeat' first|refine pA ?_|exact rfl|refine lA ?_ ?_|intro h
   rw[e]
  .rw [bt o_,bt b]at a;subst a;exact c_ f123 λ_=>zW
def YK(a b:Nat)(d:a<18446744073709551616)(e:b<18446744073709551616)(r:Nat)(c:kR a b=r):bj 120 [uu a,uu b] (uu r):=by
 unfold kR tY at c;by_cases h:a+b<18446744073709551616
 .rw [bu h]at c;subst c;exact c_ f120 λ_=>zW
 .rw [bt h]at c;subst c;exact c_ f120 λ_=>zW
def HJ(n:Int):bj 123 [ii n] (uu (ofF n)):=aDJ n _ rfl
def nJ(a b:Nat)(c:a<18446744073709551616)(d:b<18446744073709551616):bj 120 [uu a,uu b] (uu (kR a b)):=YK a b c d _ rfl
def aSe{M:Imm}{ob:Hs}{vs:bb}{a b c:aa}(h:cV M ob vs [a,b,c]):∃u v x,vs=[u,v,x]/\Rep M ob u a/\Rep M ob v b/\Rep M ob x c:=by
 obtain⟨hl,d⟩:=h
 match vs,hl with
 | [u,v,x],_=>exact⟨u,v,x,rfl,d 0 _ _ rfl rfl,d 1 _ _ rfl rfl,d 2 _ _ rfl rfl⟩
def aGN{M:Imm}{ob:Hs}{n:Nat}(h:n<18446744073709551616):Rep M ob (.int .u64 (n:Int)) (uu n):= .int _ _ ⟨by simp only[bS];omega,by simp only[aX];omega⟩
def aJ5(x y:Nat)(m:x<18446744073709551616)(l:y<18446744073709551616):bj 278 [uu x,uu y,.int .u64 0] (.tup [uu ((x+y) % 18446744073709551616),uu ((x+y) / 18446744073709551616)]):=by
 intro M ob w g hm h;obtain⟨u,v,c,rfl,k,b,j⟩:=aSe h;obtain⟨rfl,_⟩:=k.int_inv;obtain⟨rfl,_⟩:=b.int_inv;obtain⟨rfl,_⟩:=j.int_inv;refine .inr ⟨.tuple #[.int .u64 (((x+y) % 18446744073709551616:Nat):Int),.int .u64 (((x+y) / 18446744073709551616:Nat):Int)],w,?_,M,ob,Ext.refl _ _ _ _,hm,?_⟩
 .rw [run_callFunc_extern (show Tryz.prog.funcs[278]? =X f278 by kernel_rfl) (by kernel_rfl) (by kernel_rfl) (by kernel_rfl) (e:=(Extern.MathBitsCarry.rows.head!).2) (by kernel_rfl)];rfl
 .refine .tup [_,_] _ rfl λi v a b d=>?_
  match i,b,d with
  | 0,b,d=>cases b;cases d;exact aGN (Eh _ d_)
  | 1,b,d=>cases b;cases d;exact aGN o_
def TQ(b:Bool)(x y:Nat)(r:Nat)(a:(if b=O then x else y)=r):bj 279 [DA b,uu x,uu y] (uu r):=by
 cases b with
 | true=>
  have a:x=r:=a;exact zqda23
 | false=>
  have a:y=r:=a;exact zqda23
def aMY(n:Int)(r:Nat)(a:ofF n=r):bj 218 [ii n] (uu r):=by
 unfold ofF at a;by_cases h1:n<=0
 .rw [bu h1]at a;subst a;exact c_ f218 λ_=>zW
 .rw [bt h1]at a;by_cases b:n<4294967296
  .rw [bu b]at a;have e:n*2 ^ Cz 32=(r:Int):=by show n*4294967296=_;omega
   have c:(r:Int)<18446744073709551616:=o_;refine c_ f218 λ_=>?_
   repeat' first|refine pA ?_|refine Fu (Aa (Aa d_ (by rw[e];exact⟨by simp only[bS];omega,by simp only[aX];omega⟩)) ?_)|exact rfl|refine lA ?_ ?_|intro h
   rw[e]
  .rw [bt b]at a;subst a;exact c_ f218 λ_=>zW
def aIO(a b:Nat)(i:a<18446744073709551616)(j:b<18446744073709551616)(r:Nat)(c:kR a b=r):bj 222 [uu a,uu b] (uu r):=by
 have h1:=aJ5 a b i j;unfold kR tY at c;by_cases h:a+b<18446744073709551616
 .rw [bu h]at c;have d:(a+b) / 18446744073709551616=0:=o_;have k:(a+b) % 18446744073709551616=r:=o_;rw[d,k]at h1;have e:=TQ U 18446744073709551615 r r rfl;exact c_ f222 λ_=>zW
 .rw [bt h]at c;have d:(a+b) / 18446744073709551616=1:=o_;rw[d]at h1;have e:=TQ O 18446744073709551615 ((a+b) % 18446744073709551616) r c;generalize (a+b) % 18446744073709551616=q at h1 e;exact c_ f222 λ_=>zW
def aLR{h l:Nat}(hl:l<4294967296):h*4294967296 ||| l=h*4294967296+l:=by have:=Ha (i:=32) hl h;rw[De]at this;exact this.symm
def aT4{h l:Nat}(a:h<4294967296)(hl:l<4294967296):dL .or IH ((h*4294967296:Nat):Int) (l:Int)=((h*4294967296+l:Nat):Int):=by have e:=oP IH (h*4294967296) l (by simp only[aX];omega) (by simp only[aX];omega);rw[aLR hl]at e;exact e
def aIE(a b:Nat)(j:a<18446744073709551616)(m:b<18446744073709551616)(r:Nat)(c:kV a b=r):bj 221 [uu a,uu b] (uu r):=by
 have h1:=aDZ a b j m;have hp:a*b<18446744073709551616*18446744073709551616:=Nat.mul_lt_mul'' j m;have e:=gI (UB a b);have k:=gI (H5 a b);have d:a*b=UB a b*18446744073709551616+H5 a b:=by unfold UB H5;omega
 have p:H5 a b<18446744073709551616:=Eh _ d_;unfold kV tY at c;generalize a*b=P at c d hp;generalize UB a b=H at h1 e d;generalize H5 a b=L at h1 k d p;by_cases h:P / 4294967296<18446744073709551616
 .rw [bu h]at c;have i:H / 4294967296=0:=o_;have o:H<4294967296:=o_;have s:H*4294967296+L / 4294967296=r:=o_;have q:(H:Int)*2 ^ Cz 32=((H*4294967296:Nat):Int):=by show(H:Int)*4294967296=_;omega
  have n:=aT4 (h:=H) (l:=L / 4294967296) o o_;rw[i]at e;rw[s]at n;refine c_ f221 λ_=>?_
  repeat' first|refine pA ?_|refine .p h1 ?_|(rw[e];refine Aa d_ ?_)|(rw[q];refine Fu (Aa (Aa d_ ⟨by simp only[bS];omega,by simp only[aX];omega⟩) ?_))|(rw[k];refine Aa d_ ?_)|exact rfl|refine lA ?_ ?_|intro h
  rw[n]
 .rw [bt h]at c;subst c;have i:(0:Int)<((H / 4294967296:Nat):Int):=o_;generalize ((H / 4294967296:Nat):Int)=Q at i e;refine c_ f221 λ_=>?_
  repeat' first|refine pA ?_|refine .p h1 ?_|(rw[e];refine Aa d_ ?_)|exact rfl|refine lA ?_ ?_|intro h
def ZH(n:Int):bj 218 [ii n] (uu (ofF n)):=aMY n _ rfl
def aCc(a b:Nat)(c:a<18446744073709551616)(d:b<18446744073709551616):bj 222 [uu a,uu b] (uu (kR a b)):=aIO a b c d _ rfl
def QD(a b:Nat)(c:a<18446744073709551616)(d:b<18446744073709551616):bj 221 [uu a,uu b] (uu (kV a b)):=aIE a b c d _ rfl
def bl8(v:Nat):Nat:=if v<1 then 0 else if v<2 then 1 else if v<4 then 2 else if v<8 then 3 else if v<16 then 4 else if v<32 then 5 else if v<64 then 6 else if v<128 then 7 else 8
def aRR:ay:=(Dh 256).map λv=>UInt8.ofNat (bl8 v)
def pL{v:Nat}(h:v<256):aRR[v]? =X (UInt8.ofNat (bl8 v)):=by simp[aRR,h]
def aRA{v:Nat}(h:1<=v)(a:v<256):1<=bl8 v/\bl8 v<=8/\2 ^ (bl8 v-1)<=v/\v<2 ^ bl8 v:=by
 unfold bl8
 repeat' split
 all_goals simp
 all_goals omega
def tG(v:Nat):bl8 v<=8:=by
 unfold bl8
 repeat' split
 all_goals omega
def mS(v:Nat):((UInt8.ofNat (bl8 v)).toNat:Int)=(bl8 v:Int):=by have:=tG v;simp;omega
def BL(x n:Nat):Prop:=1<=n/\2 ^ (n-1)<=x/\x<2 ^ n
def BL.up{x n:Nat}(k:Nat)(h:BL (x / 2 ^ k) n):BL x (k+n):=by
 obtain⟨h1,a,h3⟩:=h;have hp:0<2 ^ k:=Kw d_;refine⟨by omega,?_,?_⟩
 .have:=(Hn hp).1 a;rw[show k+n-1=n-1+k by omega,Fc];exact this
 .have:=(Dl hp).1 h3;rw[Nat.add_comm,Fc];exact this
def BL.le{x n:Nat}(h:BL x n)(a:x<18446744073709551616):n<=64:=by
 obtain⟨h1,b,_⟩:=h;rcases Nat.lt_or_ge 64 n with h3|h3
 .have:2 ^ 64<=2 ^ (n-1):=Ep d_ o_;omega
 .exact h3
def wF{v:Nat}(h:1<=v)(b:v<256):BL v (bl8 v):=by obtain⟨a,_,c,d⟩:=aRA h b;exact⟨a,c,d⟩
def hiN(x k:Nat):Kx (x:Int) (2 ^ k)=((x / 2 ^ k:Nat):Int):=by rw[Ef _ (Int.pow_nonneg d_)];push_cast;rfl
def QA(x:Nat):Kx (x:Int) (2 ^ Cz 16)=((x / 65536:Nat):Int):=hiN x 16
def hi8(x:Nat):Kx (x:Int) (2 ^ Cz 8)=((x / 256:Nat):Int):=hiN x 8
def aD3(x:Nat)(i:1<=x)(d:x<18446744073709551616):∃n:Nat,BL x n/\bj 377 [uu x] (ii n):=by
 by_cases e:4294967296<=x
 .by_cases h1:65536<=x / 4294967296
  .by_cases c:256<=x / 4294967296 / 65536
   .have a:BL x (32+(16+(8+(bl8 (x / 4294967296 / 65536 / 256))))):=BL.up 32 (BL.up 16 (BL.up 8 (wF (v:=x / 4294967296 / 65536 / 256) o_ o_)));refine Aj (32+(16+(8+(bl8 (x / 4294967296 / 65536 / 256))))) (Aa a ?_);have b:(x / 4294967296 / 65536 / 256)<256:=o_;refine c_ f377 λ_=>?_
    repeat' first|refine pA ?_|(rw[gI];refine Aa d_ ?_)|(rw[QA];refine Aa d_ ?_)|(rw[hi8];refine Aa d_ ?_)|refine Aj _ (Aa (pL b) ?_)|(rw[mS];have:=tG ((x / 4294967296 / 65536 / 256));refine aJ ?_)|exact rfl|refine lA ?_ ?_|intro h
    all_goals exact congrArg (λn=>Res.ret (aa.int Is n)) (by(try rw[mS]);omega)
   .have a:BL x (32+(16+(bl8 (x / 4294967296 / 65536)))):=BL.up 32 (BL.up 16 (wF (v:=x / 4294967296 / 65536) o_ o_));refine Aj (32+(16+(bl8 (x / 4294967296 / 65536)))) (Aa a ?_);have b:(x / 4294967296 / 65536)<256:=o_;refine c_ f377 λ_=>?_
    repeat' first|refine pA ?_|(rw[gI];refine Aa d_ ?_)|(rw[QA];refine Aa d_ ?_)|(rw[hi8];refine Aa d_ ?_)|refine Aj _ (Aa (pL b) ?_)|(rw[mS];have:=tG ((x / 4294967296 / 65536));refine aJ ?_)|exact rfl|refine lA ?_ ?_|intro h
    all_goals exact congrArg (λn=>Res.ret (aa.int Is n)) (by(try rw[mS]);omega)
  .by_cases c:256<=x / 4294967296
   .have a:BL x (32+(8+(bl8 (x / 4294967296 / 256)))):=BL.up 32 (BL.up 8 (wF (v:=x / 4294967296 / 256) o_ o_));refine Aj (32+(8+(bl8 (x / 4294967296 / 256)))) (Aa a ?_);have b:(x / 4294967296 / 256)<256:=o_;refine c_ f377 λ_=>?_
    repeat' first|refine pA ?_|(rw[gI];refine Aa d_ ?_)|(rw[QA];refine Aa d_ ?_)|(rw[hi8];refine Aa d_ ?_)|refine Aj _ (Aa (pL b) ?_)|(rw[mS];have:=tG ((x / 4294967296 / 256));refine aJ ?_)|exact rfl|refine lA ?_ ?_|intro h
    all_goals exact congrArg (λn=>Res.ret (aa.int Is n)) (by(try rw[mS]);omega)
   .have a:BL x (32+(bl8 (x / 4294967296))):=BL.up 32 (wF (v:=x / 4294967296) o_ o_);refine Aj (32+(bl8 (x / 4294967296))) (Aa a ?_);have b:(x / 4294967296)<256:=o_;refine c_ f377 λ_=>?_
    repeat' first|refine pA ?_|(rw[gI];refine Aa d_ ?_)|(rw[QA];refine Aa d_ ?_)|(rw[hi8];refine Aa d_ ?_)|refine Aj _ (Aa (pL b) ?_)|(rw[mS];have:=tG ((x / 4294967296));refine aJ ?_)|exact rfl|refine lA ?_ ?_|intro h
    all_goals exact congrArg (λn=>Res.ret (aa.int Is n)) (by(try rw[mS]);omega)
 .by_cases h1:65536<=x
  .by_cases c:256<=x / 65536
   .have a:BL x (16+(8+(bl8 (x / 65536 / 256)))):=BL.up 16 (BL.up 8 (wF (v:=x / 65536 / 256) o_ o_));refine Aj (16+(8+(bl8 (x / 65536 / 256)))) (Aa a ?_);have b:(x / 65536 / 256)<256:=o_;refine c_ f377 λ_=>?_
    repeat' first|refine pA ?_|(rw[gI];refine Aa d_ ?_)|(rw[QA];refine Aa d_ ?_)|(rw[hi8];refine Aa d_ ?_)|refine Aj _ (Aa (pL b) ?_)|(rw[mS];have:=tG ((x / 65536 / 256));refine aJ ?_)|exact rfl|refine lA ?_ ?_|intro h
    all_goals exact congrArg (λn=>Res.ret (aa.int Is n)) (by(try rw[mS]);omega)
   .have a:BL x (16+(bl8 (x / 65536))):=BL.up 16 (wF (v:=x / 65536) o_ o_);refine Aj (16+(bl8 (x / 65536))) (Aa a ?_);have b:(x / 65536)<256:=o_;refine c_ f377 λ_=>?_
    repeat' first|refine pA ?_|(rw[gI];refine Aa d_ ?_)|(rw[QA];refine Aa d_ ?_)|(rw[hi8];refine Aa d_ ?_)|refine Aj _ (Aa (pL b) ?_)|(rw[mS];have:=tG ((x / 65536));refine aJ ?_)|exact rfl|refine lA ?_ ?_|intro h
    all_goals exact congrArg (λn=>Res.ret (aa.int Is n)) (by(try rw[mS]);omega)
  .by_cases c:256<=x
   .have a:BL x (8+(bl8 (x / 256))):=BL.up 8 (wF (v:=x / 256) o_ o_);refine Aj (8+(bl8 (x / 256))) (Aa a ?_);have b:(x / 256)<256:=o_;refine c_ f377 λ_=>?_
    repeat' first|refine pA ?_|(rw[gI];refine Aa d_ ?_)|(rw[QA];refine Aa d_ ?_)|(rw[hi8];refine Aa d_ ?_)|refine Aj _ (Aa (pL b) ?_)|(rw[mS];have:=tG ((x / 256));refine aJ ?_)|exact rfl|refine lA ?_ ?_|intro h
    all_goals exact congrArg (λn=>Res.ret (aa.int Is n)) (by(try rw[mS]);omega)
   .have a:BL x (bl8 (x)):=wF (v:=x) o_ o_;refine Aj (bl8 (x)) (Aa a ?_);have b:x<256:=o_;refine c_ f377 λ_=>?_
    repeat' first|refine pA ?_|(rw[gI];refine Aa d_ ?_)|(rw[QA];refine Aa d_ ?_)|(rw[hi8];refine Aa d_ ?_)|refine Aj _ (Aa (pL b) ?_)|(rw[mS];have:=tG (x);refine aJ ?_)|exact rfl|refine lA ?_ ?_|intro h
    all_goals exact congrArg (λn=>Res.ret (aa.int Is n)) (by(try rw[mS]);omega)
def aSs(x n:Nat)(a:n<=64)(h:bj 377 [uu x] (ii n)):bj 365 [uu x] (ii ((64-n:Nat):Int)):=by
 have e:(64:Int)-(n:Int)=((64-n:Nat):Int):=o_;refine c_ f365 λ_=>?_
 repeat' first|refine pA ?_|refine .p h ?_|exact rfl|refine lA ?_ ?_|intro h
 rw[e]
def wu(n:Int):IntKind.wrap IH n=n % 18446744073709551616:=by simp[IntKind.wrap,IntKind.signed,IntKind.bits]
def RX(x y:Nat):Hi (x:Int) (y:Int)=((x / y:Nat):Int):=rfl
def dvF(s Y c a u b d q r:Nat):au:=[(2,uu Y),(8,uu s),(9,uu c),(10,uu a),(11,uu u),(13,uu b),(14,uu d),(15,uu q),(16,uu r)]
def dvG(s Y c a u b d q t e r:Nat):au:=[(2,uu Y),(8,uu s),(9,uu c),(10,uu a),(11,uu u),(13,uu b),(14,uu d),(15,uu q),(16,uu r),(17,uu t),(18,uu e)]
def aJn(s Y b a u c f:Nat)(G:aa)(h1:2147483648<=b)(v:b<4294967296)(w:a<4294967296)(x:c<4294967296)(o:u<b*4294967296+a)
  (fin:∀r,To E f351 (.pure (Io G)) (.code (jB f351 21) (dvF s Y b a u c f ((u*4294967296+c) / (b*4294967296+a)) r) [])):
  ∀(q r:Nat),Dg b a u c q r->r<4294967296->DE E f351 G (dvF s Y b a u c f q r) []:=by
 intro q;induction q using Hq with
 | _ q n=>
 intro r e B;have l:(4294967296:Int)*(r:Int)=((4294967296*r:Nat):Int):=o_;have m:((4294967296*r:Nat):Int)+(c:Int)=((4294967296*r+c:Nat):Int):=o_;have i:(q:Int)*(a:Int)=((q*a:Nat):Int):=(Eb q a).symm;have step:(4294967296<=q\/4294967296*r+c<q*a)->To E f351 (.pure (Io G)) (.code (jB f351 18) (dvF s Y b a u c f q r) []):=λA=>by
  obtain⟨C,d⟩:=e.step x o A;have F:=d.few;have z:=e.few;have j:(q:Int)-1=((q-1:Nat):Int):=o_;have k:(r:Int)+(b:Int)=((r+b:Nat):Int):=o_;unfold dvF;by_cases y:4294967296<=r+b
  .have g:=(d.fin (Dg.far w o_ y)).2;have fin:=fin (r+b);rw[<-g]at fin;refine gV ?_;rw[j];refine aJ (gV ?_);rw[k];refine aJ (gV ?_);refine aT λh=>?_;exact zqda17
  .have next:=n (q-1) o_ (r+b) d o_
   unfold dvF at next
   repeat' first|refine pA ?_|(rw[j];refine aJ ?_)|(rw[k];refine aJ ?_)|exact rfl|refine lA ?_ ?_|intro h
   exact zW
 by_cases t:4294967296<=q
 .have step:=step (.inl t);unfold dvF at step⊢;refine gV ?_;refine aT λh=>gV ?_;refine aY ?_;exact zqda18
 .have Be:q*a<=4294967295*4294967295:=Eg o_ o_;by_cases p:4294967296*r+c<q*a
  .have step:=step (.inr p);unfold dvF at step⊢;refine gV ?_;refine aF λh=>gV ?_;rw[i];refine aJ (gV ?_);rw[l];refine aJ (gV ?_);rw[m];refine aJ (gV ?_);refine aT λh=>?_;exact zqda18
  .have g:=(e.fin o_).2;have fin:=fin r;rw[<-g]at fin;unfold dvF at fin⊢;refine gV ?_;refine aF λh=>gV ?_;rw[i];refine aJ (gV ?_);rw[l];refine aJ (gV ?_);rw[m];refine aJ (gV ?_);refine aF λh=>?_;exact zqda17
def aJm(s Y b a u e c p t:Nat)(G:aa)(h1:2147483648<=b)(x:b<4294967296)(y:a<4294967296)(z:c<4294967296)(o:t<b*4294967296+a)
  (fin:∀r,To E f351 (.pure (Io G)) (.code (jB f351 28) (dvG s Y b a u e c p t ((t*4294967296+c) / (b*4294967296+a)) r) [])):
  ∀(q r:Nat),Dg b a t c q r->r<4294967296->To E f351 (.pure (Io G)) (G0 (stk f351 1) (dvG s Y b a u e c p t q r) []):=by
 intro q;induction q using Hq with
 | _ q n=>
 intro r f Be;have l:(4294967296:Int)*(r:Int)=((4294967296*r:Nat):Int):=o_;have m:((4294967296*r:Nat):Int)+(c:Int)=((4294967296*r+c:Nat):Int):=o_;have i:(q:Int)*(a:Int)=((q*a:Nat):Int):=(Eb q a).symm;have step:(4294967296<=q\/4294967296*r+c<q*a)->To E f351 (.pure (Io G)) (.code (jB f351 25) (dvG s Y b a u e c p t q r) []):=λC=>by
  obtain⟨F,d⟩:=f.step z o C;have I:=d.few;have B:=f.few;have j:(q:Int)-1=((q-1:Nat):Int):=o_;have k:(r:Int)+(b:Int)=((r+b:Nat):Int):=o_;unfold dvG;by_cases A:4294967296<=r+b
  .have g:=(d.fin (Dg.far y o_ A)).2;have fin:=fin (r+b);rw[<-g]at fin;refine gV ?_;rw[j];refine aJ (gV ?_);rw[k];refine aJ (gV ?_);refine aT λh=>?_;exact zqda14
  .have next:=n (q-1) o_ (r+b) d o_
   unfold dvG at next
   repeat' first|refine pA ?_|(rw[j];refine aJ ?_)|(rw[k];refine aJ ?_)|exact rfl|refine lA ?_ ?_|intro h
   exact zW
 by_cases w:4294967296<=q
 .have step:=step (.inl w);unfold dvG at step⊢;refine gV ?_;refine aT λh=>gV ?_;refine aY ?_;exact zqda15
 .have H:q*a<=4294967295*4294967295:=Eg o_ o_;by_cases v:4294967296*r+c<q*a
  .have step:=step (.inr v);unfold dvG at step⊢;refine gV ?_;refine aF λh=>gV ?_;rw[i];refine aJ (gV ?_);rw[l];refine aJ (gV ?_);rw[m];refine aJ (gV ?_);refine aT λh=>?_;exact zqda15
  .have g:=(f.fin o_).2;have fin:=fin r;rw[<-g]at fin;unfold dvG at fin⊢;refine gV ?_;refine aF λh=>gV ?_;rw[i];refine aJ (gV ?_);rw[l];refine aJ (gV ?_);rw[m];refine aJ (gV ?_);refine aF λh=>?_;exact zqda14
def aNx{a lo y s L:Nat}(e:BL y L)(m:L<=64)(hs:s=64-L)(h:a<y)(hl:lo<18446744073709551616):
  9223372036854775808<=y*2 ^ s/\y*2 ^ s<18446744073709551616/\a*2 ^ s+lo / 2 ^ (64-s)<y*2 ^ s/\lo / 2 ^ (64-s)<2 ^ s/\(a*18446744073709551616+lo) / y=((a*2 ^ s+lo / 2 ^ (64-s))*18446744073709551616+lo*2 ^ s % 18446744073709551616) / (y*2 ^ s):=by
 obtain⟨p,g,f⟩:=e;have hp:0<2 ^ s:=Kw d_;have b:2 ^ (64-s)*2 ^ s=18446744073709551616:=by rw[<-Fc,show 64-s+s=64 by omega]
 have n:2 ^ (L-1)*2 ^ s=9223372036854775808:=by rw[<-Fc,show L-1+s=63 by omega]
 have o:2 ^ L*2 ^ s=18446744073709551616:=by rw[<-Fc,show L+s=64 by omega]
 have q:2 ^ (L-1)*2 ^ s<=y*2 ^ s:=Bu _ g;have l:y*2 ^ s<2 ^ L*2 ^ s:=Nat.mul_lt_mul_of_pos_right f hp;have k:lo*2 ^ s / 18446744073709551616=lo / 2 ^ (64-s):=by rw[<-b,Ke _ _ hp]
 have j:=Ge (lo*2 ^ s) 18446744073709551616;rw[k]at j;have i:lo / 2 ^ (64-s)<2 ^ s:=by refine(Dl (Kw d_)).2 ?_;rw[De,b];exact hl
 have c:(a+1)*2 ^ s<=y*2 ^ s:=Bu _ h;rw[Ch,Hu]at c;have d:(a*18446744073709551616+lo)*2 ^ s=(a*2 ^ s+lo / 2 ^ (64-s))*18446744073709551616+lo*2 ^ s % 18446744073709551616:=by rw[Ch,Ch,Lj];omega
 refine⟨by omega,by omega,by omega,i,?_⟩;rw[<-d,Ke _ _ hp]
def aKT(x s:Nat):(x:Int)*2 ^ Cz (s:Int)=((x*2 ^ s:Nat):Int):=by rw[Bo];push_cast;rfl
def aFW(x s:Nat):Kx (x:Int) (2 ^ Cz (s:Int))=((x / 2 ^ s:Nat):Int):=hiN x s
def aNw(s Y j c u d b q t a r:Nat)(hs:s<=64)(k:q*4294967296+a<18446744073709551616)(n:Y<18446744073709551616)(m:a*Y<=t*4294967296+b)(e:t*4294967296+b-a*Y<18446744073709551616):
  To E f351 (.pure (Io (GT [uu (q*4294967296+a),uu ((t*4294967296+b-a*Y) / 2 ^ s)]))) (.code (jB f351 28) (dvG s Y j c u d b q t a r) []):=by
 have g:q*4294967296<18446744073709551616:=Jk (Iy _ _) k;have h:(q:Int)*4294967296=((q*4294967296:Nat):Int):=o_;have l:((q*4294967296:Nat):Int)+(a:Int)=((q*4294967296+a:Nat):Int):=o_;have i:(a:Int)*(Y:Int)=((a*Y:Nat):Int):=(Eb a Y).symm;have f:IntKind.wrap IH (IntKind.wrap IH (IntKind.wrap IH ((t:Int)*4294967296)+(b:Int))-IntKind.wrap IH ((a*Y:Nat):Int))=((t*4294967296+b-a*Y:Nat):Int):=by
  simp only[wu];generalize a*Y=z at *
  omega
 unfold dvG;generalize o:t*4294967296+b-a*Y=R at *
 generalize p:a*Y=P at *
 refine gV ?_;rw[h];refine aJ (gV ?_);rw[l];refine aJ (gV ?_);refine Jv (gV ?_);refine Jv (gV ?_);rw[i];refine Jv (gV ?_);refine Jv (gV ?_);rw[f,aFW];refine Aa (Aa o_ (show Cz (s:Int)<=64 by omega)) ?_;refine gW hE ?_;conv=>whnf
def aRh(s Y a c u b e q r:Nat)(G:aa)(h1:2147483648<=a)(i:a<4294967296)(j:c<4294967296)(l:b<4294967296)(f:e<4294967296)(h:Y=a*4294967296+c)(C:u<Y)(k:q=(u*4294967296+b) / Y)
  (fin:∀r,To E f351 (.pure (Io G)) (.code (jB f351 28) (dvG s Y a c u b e q (u*4294967296+b-q*Y) (((u*4294967296+b-q*Y)*4294967296+e) / Y) r) [])):
  To E f351 (.pure (Io G)) (.code (jB f351 21) (dvF s Y a c u b e q r) []):=by
 have y:q*Y<=u*4294967296+b:=by rw[k];exact Gy ..
 have g:0<Y:=o_;have d:=VW g k rfl;have o:(q:Int)*(Y:Int)=((q*Y:Nat):Int):=(Eb q Y).symm;have m:IntKind.wrap IH (IntKind.wrap IH (IntKind.wrap IH ((u:Int)*4294967296)+(b:Int))-IntKind.wrap IH ((q*Y:Nat):Int))=((u*4294967296+b-q*Y:Nat):Int):=by
  simp only[wu];generalize q*Y=z at *
  omega
 generalize u*4294967296+b-q*Y=t at *
 have v:=aJm s Y a c u b e q t G h1 i j f (by rw[<-h];exact d) (by rw[<-h];exact fin) (t / a) (t % a) (Dg.zero h1 j f (by rw[<-h];exact d)) (by have:=Eh t (show 0<a by omega);omega);have n:=Ge t a;have p:=RX t a;have w:((t / a:Nat):Int)*(a:Int)=((t / a*a:Nat):Int):=(Eb _ _).symm;have x:(t:Int)-((t / a*a:Nat):Int)=((t % a:Nat):Int):=by
  rw[De]at n;generalize t / a*a=z at *
  omega
 have B:t / a*a<=t:=Gy ..;have A:t / a<=t:=Dp ..;have hm:=Eh t (show 0<a by omega);unfold dvF;unfold dvG at v;generalize t / a*a=z at *
 generalize t / a=q2 at *
 generalize t % a=r2 at *
 generalize q*Y=P at *
 refine gV ?_;refine Jv (gV ?_);refine Jv (gV ?_);rw[o];refine Jv (gV ?_);refine Jv (gV ?_);rw[m];refine Aa o_ (gV ?_);rw[p];refine aJ (gV ?_);rw[w];refine aJ (gV ?_);rw[x];exact zW
def aNv(a lo y s Y H Q At A b d e i q r z:Nat)(G:aa)(P:0<a)(S:a<y)(hs:s<=63)(c:bj 365 [uu y] (ii s))
  (As:Y<18446744073709551616) (t:H<=At) (R:At<Y) (N:Q<=At) (k:(y:Int)*2 ^ Cz (s:Int)=(Y:Int)) (Be:(a:Int)*2 ^ Cz (s:Int)=(H:Int)) (p:Kx (lo:Int) (2 ^ Cz ((64-s:Nat):Int))=(Q:Int))
  (w:dL .or IH (H:Int) (Q:Int)=(At:Int)) (I:IntKind.wrap IH ((lo:Int)*2 ^ (min (Cz (s:Int)) (IntKind.bits IH)))=(A:Int))
  (n:Kx (Y:Int) (2 ^ Cz 32)=(b:Int)) (J:dL .and IH (Y:Int) 4294967295=(d:Int)) (u:Kx (A:Int) (2 ^ Cz 32)=(e:Int)) (F:dL .and IH (A:Int) 4294967295=(i:Int))
  (l:0<b) (j:Hi (At:Int) (b:Int)=(q:Int)) (m:(q:Int)*(b:Int)=(z:Int)) (x:(At:Int)-(z:Int)=(r:Int)) (L:z<=At) (K:q<=At) (M:r<=At)
  (C:DE E f351 G (dvF s Y b d At e i q r) []):bj 351 [uu a,uu lo,uu y] G:=by
 have o:((y:Int)==0)=false:=beq_eq_false_iff_ne.2 o_;have B:((a:Int)==0)=false:=beq_eq_false_iff_ne.2 o_;have v:(64:Int)-(s:Int)=((64-s:Nat):Int):=o_;unfold dvF at C;refine c_ f351 λ_=>gV ?_;refine Aa (λh=>bv (o.symm.trans h) d_) (λ_=>gV ?_);refine aF λh=>gV ?_;refine Aa (λh=>bv (B.symm.trans h) d_) (λ_=>gV ?_);refine .p c (gV ?_);refine aJ (gV ?_);refine Aa o_ (gV ?_);rw[k];refine Fu (Aa (Aa (show Cz (s:Int)<=64 by omega) (Aa (by simp only[bS];omega) (by simp only[aX];omega))) ?_);refine gV ?_;rw[n];refine Aa d_ (gV ?_);rw[J];refine Aa o_ (gV ?_);rw[Be];refine Fu (Aa (Aa (show Cz (s:Int)<=64 by omega) (Aa (by simp only[bS];omega) (by simp only[aX];omega))) ?_);refine gV ?_;rw[v];refine aJ (gV ?_);rw[p];refine Aa (Aa o_ (show Cz ((64-s:Nat):Int)<=64 by omega)) ?_;refine gV ?_;rw[w];refine Aa o_ (gV ?_);refine Jv (gV ?_);rw[I,u];refine Aa d_ (gV ?_);rw[F];refine Aa o_ (gV ?_);rw[j];refine aJ (gV ?_);rw[m];refine aJ (gV ?_);rw[x];exact zW
def Z4(b lo y:Nat)(h0:0<b)(V:b<y)(T:y<18446744073709551616)(hl:lo<18446744073709551616):∃m:Int,bj 351 [uu b,uu lo,uu y] (GT [uu ((b*18446744073709551616+lo) / y),GE IH m]):=by
 obtain⟨L,P,hc⟩:=aD3 y o_ T;have g:=P.le T;have t:=aSs y L g hc;have hL1:=P.1
 obtain⟨s,hs⟩:∃s,s=64-L:=⟨_,rfl⟩
 obtain⟨n1,n2,C,An,n5⟩:=aNx P g hs V hl;rw[<-hs]at t;rw[n5];have hA:lo*2 ^ s % 18446744073709551616<18446744073709551616:=Eh _ d_;have e:dL .or IH ((b*2 ^ s:Nat):Int) ((lo / 2 ^ (64-s):Nat):Int)=((b*2 ^ s+lo / 2 ^ (64-s):Nat):Int):=by
  have Am:=Ha An b;rw[De]at Am;rw[Am];generalize y*2 ^ s=Y at *
  generalize b*2 ^ s=H at *
  generalize lo / 2 ^ (64-s)=Q at *
  exact oP IH H Q (by simp only[aX];omega) (by simp only[aX];omega)
 have j:IntKind.wrap IH ((lo:Int)*2 ^ (min (Cz (s:Int)) (IntKind.bits IH)))=((lo*2 ^ s % 18446744073709551616:Nat):Int):=by have h:=aKT lo s;rw[Bo]at h;rw[wu,Bo,Nat.min_eq_left (show s<=IntKind.bits IH from(show s<=64 by omega)),h];generalize lo*2 ^ s=z;omega
 have c:=aKT y s;have i:=aKT b s;have d:=aFW lo (64-s);clear An;generalize y*2 ^ s=Y at *
 generalize b*2 ^ s=H at *
 generalize lo / 2 ^ (64-s)=Q at *
 generalize lo*2 ^ s % 18446744073709551616=A at *
 have K:H<=H+Q:=Iy ..;have F:Q<=H+Q:=Nat.le_add_left ..;generalize H+Q=At at *
 have l:2147483648<=Y / 4294967296:=by clear c i d e j;omega
 have k:Y / 4294967296<4294967296:=by clear c i d e j;omega
 have p:Y % 4294967296<4294967296:=Eh _ d_;have n:A / 4294967296<4294967296:=by clear c i d e j;omega
 have x:A % 4294967296<4294967296:=Eh _ d_;have a:Y=Y / 4294967296*4294967296+Y % 4294967296:=by clear c i d e j;omega
 have S:At*18446744073709551616+A=At*18446744073709551616+A / 4294967296*4294967296+A % 4294967296:=by clear c i d e j;omega
 have I:=gI Y;have R:=UF Y n2;have M:=gI A;have As:=UF A hA;have o:0<Y:=o_;rw[S];clear S n5;generalize A / 4294967296=a1 at *
 generalize A % 4294967296=a0 at *
 have two:=aNJ (Y:=Y) (u:=At) (v:=a1) (w:=a0) o rfl rfl rfl x;have q:(At*18446744073709551616+a1*4294967296+a0) / Y<18446744073709551616:=(Dl o).2 (by clear c i d e j I R M As two a;omega);have G:(((At*4294967296+a1-(At*4294967296+a1) / Y*Y)*4294967296+a0) / Y)*Y<=(At*4294967296+a1-(At*4294967296+a1) / Y*Y)*4294967296+a0:=Gy ..;have Be:=VW (N:=(At*4294967296+a1-(At*4294967296+a1) / Y*Y)*4294967296+a0) o rfl rfl;have tail:=λr=>aNw s Y (Y / 4294967296) (Y % 4294967296) At a1 a0 ((At*4294967296+a1) / Y) (At*4294967296+a1-(At*4294967296+a1) / Y*Y) (((At*4294967296+a1-(At*4294967296+a1) / Y*Y)*4294967296+a0) / Y) r o_ (by rw[two];exact q) n2 G (Nq Be n2);rw[two]at tail;have mid:=λr=>aRh s Y (Y / 4294967296) (Y % 4294967296) At a1 a0 ((At*4294967296+a1) / Y) r _ l k p n x a C rfl tail;have B:0<Y / 4294967296:=o_;have J:=Eh At B;have W:=aJn s Y (Y / 4294967296) (Y % 4294967296) At a1 a0 _ l k p n (by rw[<-a];exact C) (by rw[<-a];exact mid) (At / (Y / 4294967296)) (At % (Y / 4294967296)) (Dg.zero l p n (by rw[<-a];exact C)) (Nq J k);have et:=Ge At (Y / 4294967296)
 exact⟨_,aNv b lo y s Y H Q At A _ _ a1 a0 _ _ (At / (Y / 4294967296)*(Y / 4294967296)) _ h0 V o_ t n2 K C F c i d e j I R M As B (RX _ _) (Eb _ _).symm (by
  rw[De]at et;generalize At / (Y / 4294967296)*(Y / 4294967296)=z at *
  clear c i d e j I R M As a tail mid W two
  omega) (Gy ..) (Dp ..) (Lk ..) W⟩
def aPd(x y:Nat):Ng (x:Int) (y:Int)=((x % y:Nat):Int):=rfl
def Z3(lo y:Nat)(i:0<y)(e:y<18446744073709551616)(hl:lo<18446744073709551616):bj 351 [uu 0,uu lo,uu y] (GT [uu (lo / y),uu (lo % y)]):=by
 have c:((y:Int)==0)=false:=beq_eq_false_iff_ne.2 o_;have b:=RX lo y;have a:=aPd lo y;have j:lo / y<=lo:=Dp ..;have d:=Lk lo y;generalize lo / y=q at *
 generalize lo % y=r at *
 refine c_ f351 λ_=>gV ?_;refine Aa (λh=>bv (c.symm.trans h) d_) (λ_=>?_)
 repeat' first|refine pA ?_|(rw[b];refine aJ ?_)|(rw[a];refine aJ ?_)|exact rfl|refine lA ?_ ?_|intro h
 rw[a]
def aJq(a lo y:Nat)(c:a<y)(b:y<18446744073709551616)(hl:lo<18446744073709551616):∃m:Int,bj 351 [uu a,uu lo,uu y] (GT [uu ((a*18446744073709551616+lo) / y),GE IH m]):=by
 rcases Hj a with rfl|h
 .rw [Mn,Bv];exact⟨_,Z3 lo y c b hl⟩
 .exact Z4 a lo y h c b hl
def aRz(a b:Nat)(o:a<18446744073709551616)(l:b<18446744073709551616)(r:Nat)(c:wB a b=r):bj 317 [uu a,uu b] (uu r):=by
 unfold wB at c;by_cases j:a=0
 .subst j;have c:0=r:=c;subst c;exact c_ f317 λ_=>zW
 .have d:((a:Int)==0)=false:=beq_eq_false_iff_ne.2 o_;rw[bt j]at c;have i:=gI a
  obtain⟨W,p⟩:∃W,W=a % 4294967296*4294967296:=⟨_,rfl⟩
  have n:IntKind.wrap IH ((a:Int)*2 ^ (min (Cz 32) (IntKind.bits IH)))=(W:Int):=by show IntKind.wrap IH ((a:Int)*4294967296)=_;rw[wu];omega
  by_cases h1:b<=a / 4294967296
  .have c:18446744073709551615=r:=by
    rcases Hj b with rfl|hp
    .exact c
    .rw [bt o_,aRl hp h1]at c;exact c
   subst c;generalize a / 4294967296=H at *
   refine c_ f317 λ_=>gV ?_;refine Aa (λh=>bv (d.symm.trans h) d_) (λ_=>gV ?_);rw[i];refine Aa d_ (gV ?_);refine Aa d_ (gV ?_);refine Jv ?_;exact zW
  .obtain ⟨m,e⟩:=aJq (a / 4294967296) W b o_ l o_;have k:a / 4294967296*18446744073709551616+W=a*4294967296:=o_;rw[k]at e;rw[bt o_,(aRk o_).2]at c;rw[c]at e;generalize a / 4294967296=H at *
   refine c_ f317 λ_=>gV ?_;refine Aa (λh=>bv (d.symm.trans h) d_) (λ_=>gV ?_);rw[i];refine Aa d_ (gV ?_);refine Aa d_ (gV ?_);refine Jv (gV ?_);refine aF λh=>?_;rw[n];exact zW
def aOW(a b:Nat)(c:a<18446744073709551616)(d:b<18446744073709551616):bj 317 [uu a,uu b] (uu (wB a b)):=aRz a b c d _ rfl
def aB8(a b:Nat)(c:a<18446744073709551616)(d:b<18446744073709551616):bj 354 [uu a,uu b] (uu (wB a b)):=by have h:=aOW a b c d;generalize wB a b=r at h;exact c_ f354 λ_=>zW
def FT(a b:Int)(e:a<=9223372036854775807)(i:b<=9223372036854775807):bj 275 [ii a,ii b] (uu (xW a b)):=by have h:=aOW (max a 0).toNat (max b 0).toNat o_ o_;unfold xW;have c:(((max a 0).toNat:Nat):Int)=max a 0:=o_;have d:(((max b 0).toNat:Nat):Int)=max b 0:=o_;generalize wB (max a 0).toNat (max b 0).toNat=r at h;unfold uu at h;rw[c,d]at h;exact c_ f275 λ_=>zW
def sJ(n:Nat):tY n=if n<18446744073709551616 then n else 18446744073709551615:=rfl
def aLs{s x y l:Nat}:tY (s+x+y+l)=if kR (kR s x) y=18446744073709551615 then 18446744073709551615 else kR (kR (kR s x) y) l:=by
 unfold kR;simp only[sJ]
 repeat' split
 all_goals omega
def rmF(ah a b bl:Nat):au:=[(5,uu ah),(6,uu a),(7,uu b),(8,uu bl)]
def aLk(ah a c bl r:Nat)(x:ah<4294967296)(p:a<4294967296)(m:c<4294967296)(t:bl<4294967296)(b:tY (ah*c*4294967296+ah*bl+a*c+a*bl / 4294967296)=r):
  To E f122 (.pure (Io (uu r))) (.code (jB f122 5) (rmF ah a c bl) []):=by
 have e:=aMb ah c;have l:=aMb ah bl;have o:=aMb a c;have n:=aMb a bl;have B:ah*c<=4294967295*4294967295:=Eg o_ o_;have w:ah*bl<=4294967295*4294967295:=Eg o_ o_;have z:a*c<=4294967295*4294967295:=Eg o_ o_;have A:a*bl<=4294967295*4294967295:=Eg o_ o_;have i:Hi ((a*bl:Nat):Int) 4294967296=((a*bl / 4294967296:Nat):Int):=tdN (a*bl) 4294967296;have y:a*bl / 4294967296<4294967296:=o_;unfold rmF;generalize ah*c=P at *
 generalize ah*bl=An at *
 generalize a*c=Y at *
 generalize a*bl=Am at *
 generalize Am / 4294967296=L at *
 by_cases h1:4294967296<=P
 .have b:18446744073709551615=r:=by rw[sJ,bt o_]at b;exact b
  subst b;refine gV ?_;rw[e];exact zW
 .have f:(P:Int)*4294967296=((P*4294967296:Nat):Int):=o_
  obtain⟨S,s⟩:∃S,S=P*4294967296:=⟨_,rfl⟩
  rw[<-s]at b f;have j:=nJ S An o_ o_;have u:=F2 S An;rw[aLs]at b;generalize kR S An=S1 at *
  have k:=nJ S1 Y o_ o_;have q:=F2 S1 Y;generalize kR S1 Y=d at *
  by_cases g:d=18446744073709551615
  .rw [bu g]at b;subst b;have m:((d:Int)==18446744073709551615)=true:=by rw[g];rfl
   exact zqda0
  .rw [bt g]at b;have v:=nJ d L o_ o_;rw[b]at v;have m:((d:Int)==18446744073709551615)=false:=beq_eq_false_iff_ne.2 o_;exact zqda0
def YJ(a b:Nat)(z:a<18446744073709551616)(B:b<18446744073709551616)(r:Nat)(d:kV a b=r):bj 122 [uu a,uu b] (uu r):=by
 have s:Hi (a:Int) 4294967296=((a / 4294967296:Nat):Int):=tdN a 4294967296;have w:Ng (a:Int) 4294967296=((a % 4294967296:Nat):Int):=tmN a 4294967296;have q:Hi (b:Int) 4294967296=((b / 4294967296:Nat):Int):=tdN b 4294967296;have y:Ng (b:Int) 4294967296=((b % 4294967296:Nat):Int):=tmN b 4294967296;have m:a=a / 4294967296*4294967296+a % 4294967296:=o_;have k:b=b / 4294967296*4294967296+b % 4294967296:=o_;have l:a % 4294967296<4294967296:=Eh _ d_;have o:b % 4294967296<4294967296:=Eh _ d_;have e:a / 4294967296<4294967296:=o_;have j:b / 4294967296<4294967296:=o_;have n:=aLt m k l o;unfold kV at d;rw[n]at d;clear n m k;have tail:=aLk _ _ _ _ r e l j o d;unfold rmF at tail;generalize a / 4294967296=ah at *
 generalize a % 4294967296=al at *
 generalize b / 4294967296=c at *
 generalize b % 4294967296=bl at *
 refine c_ f122 λ_=>gV ?_;refine Aa d_ (gV ?_);rw[s];refine aJ (gV ?_);refine Aa d_ (gV ?_);rw[w];refine Aa d_ (gV ?_);rw[q];refine aJ (gV ?_);refine Aa d_ (gV ?_);rw[y];by_cases h1:0<ah
 .refine aT λh=>?_;by_cases x:0<c
  .have u:Hi 18446744073709551615 (c:Int)=((18446744073709551615 / c:Nat):Int):=tdN 18446744073709551615 c;have t:Hi ((18446744073709551615 / c:Nat):Int) 4294967296=((18446744073709551615 / c / 4294967296:Nat):Int):=tdN (18446744073709551615 / c) 4294967296;have i:=aGT (ah:=ah) x;have v:18446744073709551615 / c<=18446744073709551615:=Dp ..;have p:18446744073709551615 / c / 4294967296<=18446744073709551615 / c:=Dp ..;generalize 18446744073709551615 / c=Q at *
   generalize Q / 4294967296=Q2 at *
   refine gV ?_;refine aT λh=>gV ?_;refine Aa o_ (gV ?_);rw[u];refine aJ (gV ?_);refine Aa d_ (gV ?_);rw[t];refine aJ (gV ?_);by_cases h3:Q2<ah
   .have C:=i.1 h3;have d:18446744073709551615=r:=by
     rw[sJ,bt]at d
     .exact d
     .generalize ah*c=P at *
      omega
    subst d;exact zW
   .refine aF λh=>?_;exact zqda8
  .refine gV ?_;refine aF λh=>gV ?_;refine aN ?_;exact zqda8
 .refine aF λh=>gV ?_;refine aN (gV ?_);refine aN ?_;exact zqda8
def wV(a b:Nat)(c:a<18446744073709551616)(d:b<18446744073709551616):bj 122 [uu a,uu b] (uu (kV a b)):=YJ a b c d _ rfl
def ovF(a b q r:Nat)(i:Int):au:=[(0,uu a),(1,uu b),(5,uu q),(6,uu r),(7,ii i)]
def K6(a i:Nat):Nat:=a*4294967296 / 2 ^ i % 2
def aCJ(a i:Nat):K6 a i<2:=Eh _ d_
def aHy(n:Nat):dL .or IH ((2*n:Nat):Int) 1=if 2*n<18446744073709551616 then((2*n+1:Nat):Int)else dL .or IH ((2*n:Nat):Int) 1:=by
 split
 .have h:=oP IH (2*n) 1 (by simp only[aX];omega) d_;have a:2*n ||| 1=2*n+1:=by have:=Ha (i:=1) (b:=1) d_ n;simpa using this.symm
  rw[a]at h;exact h
 .rfl
def JE(z:Nat)(hz:z<18446744073709551616):dL .and IH (z:Int) 1=((z % 2:Nat):Int):=by have h:=xO IH z 1 (by simp only[aX];omega) d_;rw[Nat.and_one_is_mod]at h;exact h
def aBt(a b q r v i:Nat)(top:Bool)(w:Int)(G:aa)(p:0<b)(n:b<18446744073709551616)(t:q<18446744073709551616)(s:i<96)(o:0<=w/\w<=18446744073709551615)(k:top=decide (18446744073709551616<=v))(g:(v:Int)=w+(if top=O then 18446744073709551616 else 0))(l:v<2*b)
  (ret:9223372036854775808<=q->G=uu 18446744073709551615)
  (next:q<9223372036854775808->DE E f255 G (ovF a b (if b<=v then 2*q+1 else 2*q) (if b<=v then v-b else v) ((i:Int)-1)) []):
  To E f255 (.pure (Io G)) (.code (jB f255 10) [(0,uu a),(1,uu b),(5,uu q),(6,GE IH w),(7,ii i),(8,DA top)] []):=by
 have f:=aHy q;cases top with
 | true=>
  have h1:=(bn k.symm)
  have g:(v:Int)=w+18446744073709551616:=g;have j:IntKind.wrap IH (w-(b:Int))=((v-b:Nat):Int):=by rw[wu];omega
  rw[bu o_,bu o_]at next
  refine gV ?_;refine aY (gV ?_);refine aY (gV ?_);refine Jv ?_;rw[j];refine gV ?_;by_cases c:9223372036854775808<=q
  .have e:=ret c;subst e;exact zW
  .have next:=next o_
   have d:(q:Int)*2 ^ Cz 1=((2*q:Nat):Int):=by show(q:Int)*2=_;omega
   refine aF λh=>gV ?_;refine Aa d_ (gV ?_);rw[d];refine Fu (Aa (Aa d_ (Aa (by simp only[bS];omega) (by simp only[aX];omega))) ?_);refine gV ?_;refine aY ?_;rw[bu o_]at f;refine gV ?_;rw[f];exact zW
 | false=>
  have h1:=(bm k.symm)
  have g:(v:Int)=w+0:=g;have m:w=(v:Int):=o_;subst m;by_cases h3:b<=v
  .rw [bu h3,bu h3]at next
   have j:(v:Int)-(b:Int)=((v-b:Nat):Int):=o_;refine gV ?_;refine aN (gV ?_);refine aT λh=>gV ?_;rw[j];refine aJ (gV ?_);by_cases c:9223372036854775808<=q
   .have e:=ret c;subst e;exact zW
   .have next:=next o_
    have d:(q:Int)*2 ^ Cz 1=((2*q:Nat):Int):=by show(q:Int)*2=_;omega
    refine aF λh=>gV ?_;refine Aa d_ (gV ?_);rw[d];refine Fu (Aa (Aa d_ (Aa (by simp only[bS];omega) (by simp only[aX];omega))) ?_);refine gV ?_;refine aT λh=>?_;rw[bu o_]at f;refine gV ?_;rw[f];exact zW
  .rw [bt h3,bt h3]at next
   refine gV ?_;refine aN (gV ?_);refine aF λh=>gV ?_;by_cases c:9223372036854775808<=q
   .have e:=ret c;subst e;exact zW
   .have next:=next o_
    have d:(q:Int)*2 ^ Cz 1=((2*q:Nat):Int):=by show(q:Int)*2=_;omega
    refine aF λh=>gV ?_;refine Aa d_ (gV ?_);rw[d];refine Fu (Aa (Aa d_ (Aa (by simp only[bS];omega) (by simp only[aX];omega))) ?_);exact zW
def aHs(a b q k i:Nat)(top:Bool)(G:aa)(n:a<18446744073709551616)(r:i<96)(m:2*k<18446744073709551616)(tail:To E f255 (.pure (Io G)) (.code (jB f255 10) [(0,uu a),(1,uu b),(5,uu q),(6,uu (2*k+K6 a i)),(7,ii i),(8,DA top)] [])):
  To E f255 (.pure (Io G)) (.code (jB f255 8) [(0,uu a),(1,uu b),(5,uu q),(6,uu (2*k)),(7,ii i),(8,DA top)] []):=by
 have g:=aHy k;rw[bu m]at g;by_cases d:32<=i
 .have l:(i:Int)-32=((i-32:Nat):Int):=o_;have j:=aFW a (i-32);have f:dL .and IH ((a / 2 ^ (i-32):Nat):Int) 1=(K6 a i:Int):=by unfold K6;rw[aRC a d];exact JE _ (Jk (Dp ..) n)
  have o:=aCJ a i;generalize a / 2 ^ (i-32)=z at *
  generalize K6 a i=t at *
  by_cases e:t=1
  .subst e;have c:(((1:Nat):Int)==1)=true:=rfl;have p:((2*k:Nat):Int)+1=((2*k+1:Nat):Int):=rfl;refine gV ?_;refine aT λh=>gV ?_;rw[l];refine aJ (gV ?_);refine aJ (gV ?_);rw[j];refine Aa (Aa o_ (show Cz ((i-32:Nat):Int)<=64 by omega)) ?_;refine gV ?_;rw[f];refine Aa (λ_=>?_) (λh=>bv (c.symm.trans h) d_);refine bR hE 12 ?_;conv=>whnf
   rw[g];exact zqda20
  .have e:t=0:=o_;subst e;have c:(((0:Nat):Int)==1)=false:=rfl;refine gV ?_;refine aT λh=>gV ?_;rw[l];refine aJ (gV ?_);refine aJ (gV ?_);rw[j];refine Aa (Aa o_ (show Cz ((i-32:Nat):Int)<=64 by omega)) ?_;refine gV ?_;rw[f];refine Aa (λh=>bv (c.symm.trans h) d_) (λ_=>?_);refine bR hE 2 ?_;conv=>whnf
   exact zqda20
 .have hz:K6 a i=0:=aRB a o_;rw[hz,Ft]at tail;refine gV ?_;refine aF λh=>gV ?_;refine aN ?_;refine bR hE 2 ?_;conv=>whnf
  exact zqda20
def aLQ(a b:Nat)(x:a<18446744073709551616)(f:0<b)(d:b<18446744073709551616)(R:Nat)(j:tY (a*4294967296 / b)=R):∀(m q r:Nat),m<=96->r<b->q<18446744073709551616->a*4294967296 / 2 ^ m=q*b+r->
  DE E f255 (uu R) (ovF a b q r ((m:Int)-1)) []:=by
 intro m;induction m with
 | zero=>
  intro q r hm n k e;have u:=aHq n e;rw[<-u,sJ,bu k]at j;subst j;unfold ovF;exact tA
 | succ i w=>
  intro q r hm n k e;have y:=aCJ a i;obtain⟨l,g⟩:=aDT f n e;have A:a*4294967296 / 2 ^ i % 2=K6 a i:=rfl;rw[A]at l g
  obtain⟨v,s⟩:∃v,v=2*r+K6 a i:=⟨_,rfl⟩
  rw[<-s]at l g;have ret:9223372036854775808<=q->uu R=uu 18446744073709551615:=λh=>by have:=aHr f e h;rw[sJ,bt o_]at j;rw[<-j]
  have next:q<9223372036854775808->DE E f255 (uu R) (ovF a b (if b<=v then 2*q+1 else 2*q) (if b<=v then v-b else v) ((i:Int)-1)) []:=λh=>by
   by_cases c:b<=v
   .rw [bu c,bu c];exact w (2*q+1) (v-b) o_ (g c).2 o_ (g c).1
   .rw [bt c,bt c];exact w (2*q) v o_ o_ o_ (l o_)
  have z:((i+1:Nat):Int)-1=(i:Int):=o_;unfold ovF;rw[z];by_cases h1:9223372036854775808<=r
  .have tail:=aBt a b q r v i O (2*(r-9223372036854775808)+K6 a i:Nat) (uu R) f d k o_ o_ (bq o_).symm (by rw[bu rfl];omega) o_ ret next
   have t:=aHs a b q (r-9223372036854775808) i O (uu R) x o_ o_ tail;have p:IntKind.wrap IH ((r:Int)*2 ^ (min (Cz 1) (IntKind.bits IH)))=((2*(r-9223372036854775808):Nat):Int):=by show IntKind.wrap IH ((r:Int)*2)=_;rw[wu];omega
   have o:decide ((9223372036854775808:Int)<=(r:Int))=true:=bq o_;refine gV ?_;refine aT λh=>gV ?_;rw[o];refine Aa d_ (gV ?_);refine Jv ?_;rw[p];exact zqda24
  .have tail:=aBt a b q r v i U (2*r+K6 a i:Nat) (uu R) f d k o_ o_ (bp o_).symm (by rw[bt d_];omega) o_ ret next
   have t:=aHs a b q r i U (uu R) x o_ o_ tail;have p:(r:Int)*2 ^ Cz 1=((2*r:Nat):Int):=by show(r:Int)*2=_;omega
   have o:decide ((9223372036854775808:Int)<=(r:Int))=false:=bp o_;refine gV ?_;refine aT λh=>gV ?_;rw[o];refine Aa d_ (gV ?_);rw[p];refine Fu (Aa (Aa d_ (Aa (by simp only[bS];omega) (by simp only[aX];omega))) ?_);exact zqda24
def aBs(a b:Nat)(e:a<18446744073709551616)(d:0<b)(c:b<18446744073709551616):bj 255 [uu a,uu b] (uu (tY (a*4294967296 / b))):=by
 have i:a*4294967296 / 2 ^ 96=0*b+0:=by
  rw[Kf]
  .simp
  .have:(2:Nat) ^ 96=18446744073709551616*4294967296:=by decide
   omega
 have h:=aLQ a b e d c _ rfl 96 0 0 o_ d o_ i;generalize tY (a*4294967296 / b)=R at *
 unfold ovF at h;exact c_ f255 λ_=>zW
def L8(a b:Nat)(d:a<18446744073709551616)(e:b<18446744073709551616):bj 307 [uu a,uu b] (uu (wB a b)):=by
 unfold wB;by_cases h1:a=0
 .subst h1;exact zqda13
 .have j:((a:Int)==0)=false:=beq_eq_false_iff_ne.2 o_;rw[bt h1];by_cases c:b=0
  .subst c;exact zqda13
  .have i:((b:Int)==0)=false:=beq_eq_false_iff_ne.2 o_;rw[bt c];have h:=aBs a b d o_ e;generalize tY (a*4294967296 / b)=R at *
   exact zqda13
def wU(a b:Int)(h:a<=9223372036854775807)(i:b<=9223372036854775807):bj 182 [ii a,ii b] (uu (xW a b)):=by
 unfold xW wB;by_cases h1:a<=0
 .rw [bu o_];exact zqda10
 .rw [bt o_];by_cases j:b<=0
  .rw [bu o_];exact zqda10
  .rw [bt o_];have c:=aBs (max a 0).toNat (max b 0).toNat o_ o_ o_;have d:(((max a 0).toNat:Nat):Int)=a:=o_;have e:(((max b 0).toNat:Nat):Int)=b:=o_;generalize tY ((max a 0).toNat*4294967296 / (max b 0).toNat)=R at *
   unfold uu at c;rw[d,e]at c;exact zqda10
def Z7:a6:=[3037000499,3611622602,3938502375,4112874772,4202935002,4248701964,4271771996,4283353945,4289156689,4292061009,4293513906,4294240539,4294603902,4294785595,4294876444,4294921869]
abbrev R0:az:=Z7.map uu
def DD(f x i:Nat):Nat:=if f.testBit (15-i)=O then kV x ((Z7[i]?).getD 0)else x
def aQX(f:Nat):Nat:=(Dh 16).foldl (DD f) 4294967296
def oM(age half:Int):Nat:=
 if 63<(max age 0).toNat / (max half 1).toNat then 0 else aQX (xW (((max age 0).toNat % (max half 1).toNat:Nat):Int) ((max half 1).toNat:Int) / 65536) / 2 ^ ((max age 0).toNat / (max half 1).toNat)
def aOh(f k:Nat):f &&& 2 ^ k=if f.testBit k=O then 2 ^ k else 0:=by
 refine Nat.eq_of_testBit_eq λj=>?_;rw[Nat.testBit_and,Lf];by_cases h:k=j
 .subst h;cases f.testBit k<;>simp
 .cases f.testBit k<;>simp[h,Lf]
def Z6{i:Nat}(h:i<16):∃p:Nat,Z7[i]? =X p/\p<=4294967296/\R0[i]? =X (uu p):=by
 have hl:Z Z7=16:=rfl;refine⟨Z7[i],Ab o_,?_,by show(Z7.map uu)[i]? =_;rw[List.getElem?_map,Ab o_];rfl⟩;have:∀p∈Z7,p<=4294967296:=by decide
 exact this _ (Aq _)
def aHP{x p:Nat}(a:x<=4294967296)(hp:p<=4294967296):kV x p<=4294967296:=by
 unfold kV;have h1:x*p<=4294967296*4294967296:=Eg a hp;generalize x*p=z at *
 rw[sJ];split<;>omega
def QF{f x i:Nat}(b:i<16)(a:x<=4294967296):DD f x i<=4294967296:=by
 unfold DD;obtain⟨p,h1,c,_⟩:=Z6 b;rw[h1];split
 .exact aHP a c
 .exact a
def aCe(f:Nat):∀(l:a6) (x:Nat),(∀i∈l,i<16)->x<=4294967296->l.foldl (DD f) x<=4294967296
 | [],x,_,hx=>hx
 | i::l,x,h,hx=>aCe f l _ (λj a=>h j (List.mem_cons_of_mem _ a)) (QF (h i (Aw ..)) hx)
def aCd(f:Nat):aQX f<=4294967296:=aCe f _ _ (λi a=>List.mem_range.1 a) (Bc _)
def aCf(age half:Int):oM age half<=4294967296:=by
 unfold oM;split
 .omega
 .exact Cp (Dp ..) (aCd _)
def mW(a b:Int):xW a b<18446744073709551616:=aNI _ _
def HH(f:Nat){i:Nat}(h:i<16)(x:Nat):((Dh 16).drop i).foldl (DD f) x=((Dh 16).drop (i+1)).foldl (DD f) (DD f x i):=by rw[Ac (by simpa using h)];simp
def W9{i:Nat}(h:i<16):i=0\/i=1\/i=2\/i=3\/i=4\/i=5\/i=6\/i=7\/i=8\/i=9\/i=10\/i=11\/i=12\/i=13\/i=14\/i=15:=o_
def XG:bj 276 [] (He R0):=by exact c_ f276 λ_=>zW
def aK6:bj 253 [] (He R0):=by exact c_ f253 λ_=>zW
def aNK(A H f:Nat)(Be:f<18446744073709551616)(G:A<9223372036854775808)(B:0<H)(o:H<9223372036854775808)(F:A / H<=63)(R:Nat):∀(m i x:Nat),i+m=16->x<=4294967296->((Dh 16).drop i).foldl (DD f) x / 2 ^ (A / H)=R->
  DE E f217 (uu R) [(0,ii A),(1,ii H),(5,uu f),(6,uu x),(23,He R0),(24,ii i)] []:=by
 intro m;induction m with
 | zero=>
  intro i x s j c;rw[Ae q_]at c;have c:x / 2 ^ (A / H)=R:=c;have g:=RX A H;have d:=aFW x (A / H);rw[c]at d;have t:A / H<=A:=Dp ..;generalize A / H=q at *
  refine gV ?_;refine aF λh=>gV ?_;refine Aa o_ (gV ?_);rw[g];refine aJ (gV ?_);rw[d];refine Aa (Aa o_ (show Cz (q:Int)<=64 by omega)) ?_;refine gW hE ?_;conv=>whnf
 | succ m l=>
  intro i x s j c;rw[HH f o_]at c;have next:=l (i+1) (DD f x i) o_ (QF o_ j) c
  obtain⟨p,hp,n,u⟩:=Z6 (i:=i) o_;have g:(15:Int)-(i:Int)=((15-i:Nat):Int):=o_;have d:(1:Int)*2 ^ Cz ((15-i:Nat):Int)=((2 ^ (15-i):Nat):Int):=by have:=aKT 1 (15-i);rw[Hu]at this;exact this
  have z:2 ^ (15-i)<=2 ^ 15:=Ep d_ o_;have a:=xO IH f (2 ^ (15-i)) (by simp only[aX];omega) (by simp only[aX];omega);rw[aOh]at a;have v:0<2 ^ (15-i):=Kw d_;unfold DD at next
  rw[hp]at next
  have hm:=QD x p o_ o_;have C:15-i<=15:=o_;generalize 15-i=k at *
  have go:∀b,f.testBit k=b->DE E f217 (uu R) [(0,ii A),(1,ii H),(5,uu f),(6,uu x),(23,He R0),(24,ii i)] []:=λb e=>by
   cases b with
   | true=>
    rw[e,bu rfl]at next
    rw[e]at a;have nxt:DE E f217 (uu R) [(0,ii A),(1,ii H),(5,uu f),(6,uu (kV x p)),(23,He R0),(24,ii ((i+1:Nat):Int))] []:=next
    clear next
    generalize kV x p=y at *
    have a:dL .and IH (f:Int) ((2 ^ k:Nat):Int)=((2 ^ k:Nat):Int):=by rw[a];rfl
    generalize 2 ^ k=w at *
    have r:((w:Int) !=0)=true:=by rw[bne_iff_ne];omega
    rcases W9 (show i<16 by omega)with rfl|rfl|rfl|rfl|rfl|rfl|rfl|rfl|rfl|rfl|rfl|rfl|rfl|rfl|rfl|rfl
    all_goals cases hp
    all_goals
     exact zqda1
   | false=>
    rw[e,bt d_]at next
    rw[e]at a;have a:dL .and IH (f:Int) ((2 ^ k:Nat):Int)=0:=by rw[a];rfl
    generalize 2 ^ k=w at *
    have r:((0:Int) !=0)=false:=rfl;rcases W9 (show i<16 by omega)with rfl|rfl|rfl|rfl|rfl|rfl|rfl|rfl|rfl|rfl|rfl|rfl|rfl|rfl|rfl|rfl
    all_goals cases hp
    all_goals
     exact zqda1
  exact go _ rfl
def ZJ(age half:Int)(h1:age<=9223372036854775807)(u:half<=9223372036854775807)(R:Nat)(a:oM age half=R):bj 217 [ii age,ii half] (uu R):=by
 unfold oM at a;have i:(((max age 0).toNat:Nat):Int)=max age 0:=o_;have e:(((max half 1).toNat:Nat):Int)=max half 1:=o_;have s:(max age 0).toNat<9223372036854775808:=o_;have j:0<(max half 1).toNat:=o_;have b:(max half 1).toNat<9223372036854775808:=o_;generalize (max age 0).toNat=A at *
 generalize (max half 1).toNat=H at *
 have c:=RX A H;have o:=aPd A H;have n:A / H<=A:=Dp ..;have p:=Lk A H;by_cases d:63<A / H
 .rw [bu d]at a;subst a;generalize A / H=q at *
  refine c_ f217 λ_=>gV ?_;rw[<-i,<-e];refine Aa o_ (gV ?_);rw[c];exact zW
 .rw [bt d]at a;have l:=FT ((A % H:Nat):Int) (H:Int) o_ o_;have k:=mW ((A % H:Nat):Int) (H:Int);generalize xW ((A % H:Nat):Int) (H:Int)=T at *
  have m:=QA T;have t:=aNK A H (T / 65536) o_ s j b o_ R 16 0 4294967296 o_ (Bc _) a;generalize T / 65536=f at *
  generalize A / H=q at *
  generalize A % H=r at *
  refine c_ f217 λ_=>gV ?_;rw[<-i,<-e];refine Aa o_ (gV ?_);rw[c];refine aJ (gV ?_);refine aF λh=>gV ?_;refine Aa o_ (gV ?_);rw[o];refine .p l (gV ?_);rw[m];refine Aa d_ (gV ?_);exact .p XG zW
def aEm(age half:Int)(h1:age<=9223372036854775807)(a:half<=9223372036854775807):bj 217 [ii age,ii half] (uu (oM age half)):=ZJ age half h1 a _ rfl
def aLq(q:Nat)(i:q<9223372036854775808)(R:Nat):∀(m y j:Nat),y<=m->j<=q->y / 2 ^ (q-j)=R->y<18446744073709551616->
  To E f179 (.pure (Io (uu R))) (G0 (stk f179 1) [(5,ii q),(9,uu y),(11,ii j)] []):=by
 intro m;induction m with
 | zero=>
  intro y j b d a c;have b:y=0:=o_;subst b;rw[Nat.zero_div]at a;subst a;by_cases h1:j<q
  .exact tA
  .exact tA
 | succ m e=>
  intro y j b d a c;have f:Hi (y:Int) 2=((y / 2:Nat):Int):=RX y 2;by_cases h1:j<q
  .by_cases k:0<y
   .have next:=e (y / 2) (j+1) o_ o_ (by
     rw[Jw,<-Nat.pow_succ',show(q-(j+1)).succ=q-j by omega]
     exact a) o_
    have g:y / 2<=y:=Dp ..;generalize y / 2=z at *
    refine gV ?_;refine aT λh=>?_
    repeat' first|refine pA ?_|(rw[f];refine aJ ?_)|exact rfl|refine lA ?_ ?_|intro h
    exact zW
   .have b:y=0:=o_;subst b;rw[Nat.zero_div]at a;subst a;exact tA
  .have d:q-j=0:=o_;rw[d,Nn,Ir]at a;subst a;exact tA
def aLp(q f:Nat)(u:f<18446744073709551616)(w:q<9223372036854775808)(R:Nat):∀(m i x:Nat),i+m=16->x<=4294967296->((Dh 16).drop i).foldl (DD f) x / 2 ^ q=R->
  DE E f179 (uu R) [(5,ii q),(7,uu f),(8,G2 0 0),(9,uu x),(10,ii i)] [Do 328 R0]:=by
 intro m;induction m with
 | zero=>
  intro i x s l a;rw[Ae q_]at a;have a:x / 2 ^ (q-0)=R:=a;have next:=aLq q w R x x 0 (Bc _) o_ a o_
  exact tA
 | succ m n=>
  intro i x s l a;rw[HH f o_]at a;have next:=n (i+1) (DD f x i) o_ (QF o_ l) a
  obtain⟨p,hp,o,_⟩:=Z6 (i:=i) o_;have g:(15:Int)-(i:Int)=((15-i:Nat):Int):=o_;have j:=aFW f (15-i);have e:=JE (f / 2 ^ (15-i)) (Jk (Dp ..) u);unfold DD at next
  rw[hp,Nat.testBit_eq_decide_div_mod_eq]at next
  have hm:=wV x p o_ o_;have A:15-i<=15:=o_;have r:f / 2 ^ (15-i)<=f:=Dp ..;have v:f / 2 ^ (15-i) % 2<2:=Eh _ d_;generalize 15-i=k at *
  generalize f / 2 ^ k=z at *
  generalize z % 2=b at *
  by_cases c:b=1
  .rw [bq c,bu rfl]at next
   have nxt:DE E f179 (uu R) [(5,ii q),(7,uu f),(8,G2 0 0),(9,uu (kV x p)),(10,ii ((i+1:Nat):Int))] [Do 328 R0]:=next
   clear next
   generalize kV x p=y at *
   have d:((b:Int)==1)=true:=by rw[c];rfl
   rcases W9 (show i<16 by omega)with rfl|rfl|rfl|rfl|rfl|rfl|rfl|rfl|rfl|rfl|rfl|rfl|rfl|rfl|rfl|rfl
   all_goals cases hp
   all_goals
    refine gV ?_;refine aT λh=>gV ?_;rw[g];refine aJ (gV ?_);refine aJ (gV ?_);rw[j];refine Aa (Aa o_ (show Cz (k:Int)<=64 by omega)) ?_;refine gV ?_;rw[e];refine Aa (λ_=>?_) (λh=>bv (d.symm.trans h) d_);refine gV ?_;refine Aa (Aa d_ d_) ?_;exact zW
  .rw [bp c,bt d_]at next
   have d:((b:Int)==1)=false:=beq_eq_false_iff_ne.2 o_;refine gV ?_;refine aT λh=>gV ?_;rw[g];refine aJ (gV ?_);refine aJ (gV ?_);rw[j];refine Aa (Aa o_ (show Cz (k:Int)<=64 by omega)) ?_;refine gV ?_;rw[e];exact zW
def SP(age half:Int)(h1:age<=9223372036854775807)(s:half<=9223372036854775807)(R:Nat)(a:oM age half=R):bj 179 [ii age,ii half] (uu R):=by
 unfold oM at a;have n:(((max age 0).toNat:Nat):Int)=max age 0:=o_;have k:(((max half 1).toNat:Nat):Int)=max half 1:=o_;have u:(max age 0).toNat<9223372036854775808:=o_;have o:0<(max half 1).toNat:=o_;have c:(max half 1).toNat<9223372036854775808:=o_;generalize (max age 0).toNat=A at *
 generalize (max half 1).toNat=H at *
 have h:=RX A H;have l:=aPd A H;have j:A / H<=A:=Dp ..;have m:=Lk A H;have a:aQX (xW ((A % H:Nat):Int) (H:Int) / 65536) / 2 ^ (A / H)=R:=by
  by_cases b:63<A / H
  .rw [bu b]at a;rw[<-a];refine Kf (Jk (aCd _) ?_);exact Nat.lt_of_lt_of_le (show 4294967296<2 ^ 63 by decide) (Ep d_ o_)
  .rw [bt b]at a;exact a
 have e:=wU ((A % H:Nat):Int) (H:Int) o_ o_;have d:=mW ((A % H:Nat):Int) (H:Int);generalize xW ((A % H:Nat):Int) (H:Int)=T at *
 have i:Hi (T:Int) 65536=((T / 65536:Nat):Int):=RX T 65536;have p:=aLp (A / H) (T / 65536) o_ o_ R 16 0 4294967296 o_ (Bc _) a;have t:T / 65536<=T:=Dp ..;generalize T / 65536=f at *
 generalize A / H=q at *
 generalize A % H=r at *
 refine c_ f179 λ_=>gV ?_;rw[<-n,<-k];refine Aa o_ (gV ?_);rw[h];refine aJ (gV ?_);refine Aa o_ (gV ?_);rw[l];refine .p e (gV ?_);refine Aa d_ (gV ?_);rw[i];refine aJ (gV ?_);exact .p aK6 zW
def X7(age half:Int)(h1:age<=9223372036854775807)(a:half<=9223372036854775807):bj 179 [ii age,ii half] (uu (oM age half)):=SP age half h1 a _ rfl
def aDI(x:Nat)(age half:Int)(a:x<18446744073709551616)(h1:age<=9223372036854775807)(b:half<=9223372036854775807):bj 121 [uu x,ii age,ii half] (uu (kV x (oM age half))):=by
 have h3:=X7 age half h1 b;have hl:=aCf age half;have c:=wV x (oM age half) a o_;generalize oM age half=f at *
 generalize kV x f=y at *
 exact c_ f121 λ_=>zW
def Z1(x:Nat)(n m:Int):Nat:=if 0<n then max x (xW n m)else x
def KZ(u v:V3):Nat:=Z1 (Z1 (Z1 0 u.a v.a) u.b v.b) u.c v.c
def QV{x:Nat}{n m:Int}(h:x<18446744073709551616):Z1 x n m<18446744073709551616:=by
 have:=mW n m;unfold Z1;split
 .omega
 .exact h
def aNE(u v:V3):KZ u v<18446744073709551616:=QV (QV (QV d_))
def aOr(v u:V3)(M:Imm)(ob:Hs)(vs:bb)(h:cV M ob vs [v.av,u.av]):(inR Is v.a/\inR Is v.b/\inR Is v.c)/\inR Is u.a/\inR Is u.b/\inR Is u.c:=by
 have hl:1<Z vs:=by rw[h.1];simp
 have h1:=h.2 0 _ v.av (Ab o_) rfl;have d:=h.2 1 _ u.av (Ab hl) rfl;exact⟨⟨cX h1 0 _ rfl,cX h1 1 _ rfl,cX h1 2 _ rfl⟩,cX d 0 _ rfl,cX d 1 _ rfl,cX d 2 _ rfl⟩
def aND(u v:V3)(r:Nat)(d:KZ u v=r):bj 227 [u.av,v.av] (uu r):=by
  refine aA.get _ (aOr u v) λ⟨⟨⟨a1,a2⟩,⟨b1,b2⟩,⟨c1,c2⟩⟩,⟨d1,d2⟩,⟨e1,e2⟩,⟨f1,f2⟩⟩=>?_;simp only[bS,aX]at a1 a2 b1 b2 c1 c2 d1 d2 e1 e2 f1 f2;have h1:=FT u.a v.a o_ o_;have i:=FT u.b v.b o_ o_;have h3:=FT u.c v.c o_ o_;have o:=mW u.a v.a;have l:=mW u.b v.b;have m:=mW u.c v.c;unfold KZ Z1 at d;generalize xW u.a v.a=p at *
  generalize xW u.b v.b=q at *
  generalize xW u.c v.c=s at *
  by_cases j:0<u.a<;>by_cases k:0<u.b<;>by_cases e:0<u.c<;>simp only[j,k,e,if_true,if_false]at d
  all_goals
   subst d;refine c_ f227 λ_=>gV ?_
   repeat' first
    | (refine gW hE ?_;conv=>whnf)
    | refine .p h1 ?_
    | refine .p i ?_
    | refine .p h3 ?_
    | exact rfl
    | refine aY ?_
    | refine aN ?_
    | refine aT λh=>?_
    | refine aF λh=>?_
    | refine aJ ?_
    | refine Aj _ (Aa rfl ?_)
    | refine Aa d_ ?_
    | fail
   all_goals exact congrArg (λn=>Res.ret (aa.int IH n)) o_
def aGX(u v:V3)(r:Nat)(d:KZ u v=r):bj 126 [u.av,v.av] (uu r):=by
  refine aA.get _ (aOr u v) λ⟨⟨⟨a1,a2⟩,⟨b1,b2⟩,⟨c1,c2⟩⟩,⟨d1,d2⟩,⟨e1,e2⟩,⟨f1,f2⟩⟩=>?_;simp only[bS,aX]at a1 a2 b1 b2 c1 c2 d1 d2 e1 e2 f1 f2;have h1:=wU u.a v.a o_ o_;have i:=wU u.b v.b o_ o_;have h3:=wU u.c v.c o_ o_;have o:=mW u.a v.a;have l:=mW u.b v.b;have m:=mW u.c v.c;unfold KZ Z1 at d;generalize xW u.a v.a=p at *
  generalize xW u.b v.b=q at *
  generalize xW u.c v.c=s at *
  by_cases j:0<u.a<;>by_cases k:0<u.b<;>by_cases e:0<u.c<;>simp only[j,k,e,if_true,if_false]at d
  all_goals
   subst d;refine c_ f126 λ_=>gV ?_
   repeat' first
    | (refine gW hE ?_;conv=>whnf)
    | refine .p h1 ?_
    | refine .p i ?_
    | refine .p h3 ?_
    | exact rfl
    | refine aY ?_
    | refine aN ?_
    | refine aT λh=>?_
    | refine aF λh=>?_
    | refine aJ ?_
    | refine Aj _ (Aa rfl ?_)
    | refine Aa d_ ?_
    | fail
   all_goals exact congrArg (λn=>Res.ret (aa.int IH n)) o_
def aFs(v:V3)(h:Hos):V3:=eU v h.c
def uO(c:Con):V3:=c.hs.foldl aFs V3.zero
def aFr(l:List Hos)(hl:Z l<=1048576)(r:V3):∀(m i:Nat) (v:V3),i+m=Z l->(l.drop i).foldl aFs v=r->
  DE E f223 r.av [(2,G2 0 0),(3,G2 1 0),(7,CA 6 (hav l) J0),(8,ii (Z l:Nat)),(9,ii i)] [Do 43 V3.zero.cs,Do 43 v.cs]:=by
 have d:Z (hav l)=Z l:=by simp
 intro m;induction m with
 | zero=>
  exact zqda21
 | succ m f=>
  intro i v g a;have b:i<Z l:=o_;rw[Ac b,Ap]at a;have next:=f (i+1) _ o_ a
  have get:=nC b;generalize l[i]=x at get next
  have e:=jQ v x.c;exact zqda25
def aFp(c:Con)(b:c.sm):bj 223 [c.av] ((uO c).av):=by
 have a:Z (hav c.hs)=Z c.hs:=by simp
 have h1:=b.hs;have next:=aFr c.hs o_ (uO c) (Z c.hs) 0 V3.zero o_ rfl
 generalize uO c=r at next
 rw[<-a]at next
 refine c_ f223 λ_=>?_
 repeat' first|refine pA ?_|exact rfl|refine lA ?_ ?_|intro h
 exact To.part [2,3,7,8,9] [1,2] rfl rfl rfl next
def aDn(c:Con)(hl:Z c.hs<=1048576)(r:V3):∀(m i:Nat) (v:V3),i+m=Z c.hs->(c.hs.drop i).foldl aFs v=r->
  DE E f125 r.av [(1,G2 0 0),(2,G2 1 0),(3,G2 2 0),(4,ii i)] [Do 30 c.cs,Do 43 V3.zero.cs,Do 43 v.cs]:=by
 have d:Z (hav c.hs)=Z c.hs:=by simp
 intro m;induction m with
 | zero=>
  exact zqda21
 | succ m f=>
  intro i v g a;have b:i<Z c.hs:=o_;rw[Ac b,Ap]at a;have next:=f (i+1) _ o_ a
  have get:=nC b;generalize c.hs[i]=x at get next
  have e:=mX v x.c;exact zqda25
def aDm(c:Con)(a:c.sm):bj 125 [c.av] ((uO c).av):=by
 have h1:=a.hs;have next:=aDn c o_ (uO c) (Z c.hs) 0 V3.zero o_ rfl
 generalize uO c=r at next
 exact c_ f125 λ_=>zW
def dM{α:Type}(d:Nat->α->Nat):List α->Nat->a6
 | [],_=>[]
 | x::r,i=>d i x::dM d r (i+1)
def kZ{α:Type}(d:Nat->α->Nat):∀(l:List α) (i:Nat),Z (dM d l i)=Z l
 | [],_=>rfl
 | _::r,i=>by simp[dM,kZ d r (i+1)]
def NP{α:Type}(d:Nat->α->Nat):∀(l:List α) (i k:Nat) (h:k<Z l),(dM d l i)[k]? =X (d (i+k) l[k])
 | [],_,k,h=>bv h s_
 | x::r,i,0,_=>rfl
 | x::r,i,k+1,h=>by have:=NP d r (i+1) k (by simpa using h);simp only[dM,Gp,List.getElem_cons_succ];rw[this,show i+1+k=i+(k+1) by omega]
def M6{l:a6}{i:Nat}(h:i<Z l):(fv l)[i]? =X (uu l[i]):=by simp[fv,h]
def LtF(l:a6):Prop:=∀x∈l,x<18446744073709551616
def mT(c:Con)(i:Nat)(v:V3):Nat:=if bD c.ns (i:Int)=O then KZ v (uO c)else 0
def qD(c:Con)(l:a7):a6:=dM (mT c) (ofL c l) 0
def tkS(a:a6)(n half:Int)(i:Nat)(x:Nat):Nat:=if i<Z a then kR (kV x (oM n half)) (kV ((a[i]?).getD 0) (ofF n))else kV x (oM n half)
def tkL(h a:a6)(n half:Int):a6:=dM (tkS a n half) h 0
def aAx(c:Con):a6:=dM (λ_ _=>0) c.ns 0
abbrev aQN(c:Con):aa:=.func (.func 226) [] [.ptr c.cs,.ptr (uO c).cs]
def aIZ(c:Con) (l:a8)(hl:Z l<=1048576)(hm:∀(i:Nat) (h:i<Z l),bj 226 (ii i::l[i].av::[.ptr c.cs,.ptr (uO c).cs]) (uu ((mT c) i l[i])))(R:a6):∀(m i:Nat) (a:a6),i+m=Z l->Z a=i->a++dM (mT c) (l.drop i) i=R->
  DE (Eo [5] []) f224 (CA 1 (fv R) J0) [(1,aQN c),(5,CA 1 (fv a) (.own 0 0)),(8,CA 3 (vav l) J0),(9,ii (Z l:Nat)),(10,ii i)] [Fr 0 1 106]:=by
 have g:Z (vav l)=Z l:=by simp
 intro m;induction m with
 | zero=>
  intro i a o n b;exact zqda6
 | succ m k=>
  intro i a o n b;have d:i<Z l:=o_;have get:=lN d;have j:=hm i d;rw[Ac d]at b;generalize l[i]=x at get j b;have b:a++((mT c) i x::dM (mT c) (l.drop (i+1)) (i+1))=R:=b;generalize (mT c) i x=y at j b;have next:=k (i+1) (a++[y]) o_ q_ (by rw[Ag];exact b)
  have e:fv (a++[y])=fv a++[uu y]:=by simp[fv]
  rw[e]at next
  have p:Z (fv a)=Z a:=by simp
  exact tA
def aQ1(c:Con) (l:a8)(hl:Z l<=1048576)(hm:∀(i:Nat) (h:i<Z l),bj 226 (ii i::l[i].av::[.ptr c.cs,.ptr (uO c).cs]) (uu ((mT c) i l[i]))):
  bj 224 [CA 3 (vav l) J0,aQN c] (CA 1 (fv (dM (mT c) l 0)) J0):=by
 have a:Z (vav l)=Z l:=by simp
 have next:=aIZ c l hl hm (dM (mT c) l 0) (Z l) 0 [] o_ rfl rfl
 generalize dM (mT c) l 0=R at next
 rw[<-a]at next
 refine gA (Eo [5] []) f224 λ_=>?_;exact zW
abbrev aQM(sh:a6)(n half:Int):aa:=.func (.func 220) [] [.ptr [uu (oM n half)],.ptr [CA 1 (fv sh) J0],.ptr [uu (ofF n)]]
def aIY(d:a6)(n half:Int) (l:a6)(hl:Z l<=1048576)(hm:∀(i:Nat) (h:i<Z l),bj 220 (ii i::uu l[i]::[.ptr [uu (oM n half)],.ptr [CA 1 (fv d) J0],.ptr [uu (ofF n)]]) (uu ((tkS d n half) i l[i])))(R:a6):∀(m i:Nat) (a:a6),i+m=Z l->Z a=i->a++dM (tkS d n half) (l.drop i) i=R->
  DE (Eo [5] []) f219 (CA 1 (fv R) J0) [(1,aQM d n half),(5,CA 1 (fv a) (.own 0 0)),(8,CA 1 (fv l) J0),(9,ii (Z l:Nat)),(10,ii i)] [Fr 0 1 106]:=by
 have g:Z (fv l)=Z l:=by simp
 intro m;induction m with
 | zero=>
  intro i a p o b;exact zqda6
 | succ m k=>
  intro i a p o b;have c:i<Z l:=o_;have get:=M6 c;have j:=hm i c;rw[Ac c]at b;generalize l[i]=x at get j b;have b:a++((tkS d n half) i x::dM (tkS d n half) (l.drop (i+1)) (i+1))=R:=b;generalize (tkS d n half) i x=y at j b;have next:=k (i+1) (a++[y]) o_ q_ (by rw[Ag];exact b)
  have e:fv (a++[y])=fv a++[uu y]:=by simp[fv]
  rw[e]at next
  have q:Z (fv a)=Z a:=by simp
  exact tA
def aQ0(a:a6)(n half:Int) (l:a6)(hl:Z l<=1048576)(hm:∀(i:Nat) (h:i<Z l),bj 220 (ii i::uu l[i]::[.ptr [uu (oM n half)],.ptr [CA 1 (fv a) J0],.ptr [uu (ofF n)]]) (uu ((tkS a n half) i l[i]))):
  bj 219 [CA 1 (fv l) J0,aQM a n half] (CA 1 (fv (dM (tkS a n half) l 0)) J0):=by
 have b:Z (fv l)=Z l:=by simp
 have next:=aIY a n half l hl hm (dM (tkS a n half) l 0) (Z l) 0 [] o_ rfl rfl
 generalize dM (tkS a n half) l 0=R at next
 rw[<-b]at next
 refine gA (Eo [5] []) f219 λ_=>?_;exact zW
abbrev aQL:aa:=.func (.func 205) [] []
def aIX  (l:bf)(hl:Z l<=1048576)(hm:∀(i:Nat) (h:i<Z l),bj 205 (ii i::l[i].av::[]) (uu ((λ_ _=>0) i l[i])))(R:a6):∀(m i:Nat) (a:a6),i+m=Z l->Z a=i->a++dM (λ_ _=>0) (l.drop i) i=R->
  DE (Eo [5] []) f204 (CA 1 (fv R) J0) [(1,aQL),(5,CA 1 (fv a) (.own 0 0)),(8,CA 11 (nav l) J0),(9,ii (Z l:Nat)),(10,ii i)] [Fr 0 1 106]:=by
 have d:Z (nav l)=Z l:=by simp
 intro m;induction m with
 | zero=>
  intro i a n k b;exact zqda6
 | succ m j=>
  intro i a n k b;have c:i<Z l:=o_;have get:=fL c;have g:=hm i c;rw[Ac c]at b;generalize l[i]=x at get g b;have b:a++((λ_ _=>0) i x::dM (λ_ _=>0) (l.drop (i+1)) (i+1))=R:=b;generalize (λ_ _=>0) i x=y at g b;have next:=j (i+1) (a++[y]) o_ q_ (by rw[Ag];exact b)
  have e:fv (a++[y])=fv a++[uu y]:=by simp[fv]
  rw[e]at next
  have o:Z (fv a)=Z a:=by simp
  exact tA
def aQZ  (l:bf)(hl:Z l<=1048576)(hm:∀(i:Nat) (h:i<Z l),bj 205 (ii i::l[i].av::[]) (uu ((λ_ _=>0) i l[i]))):
  bj 204 [CA 11 (nav l) J0,aQL] (CA 1 (fv (dM (λ_ _=>0) l 0)) J0):=by
 have a:Z (nav l)=Z l:=by simp
 have next:=aIX  l hl hm (dM (λ_ _=>0) l 0) (Z l) 0 [] o_ rfl rfl
 generalize dM (λ_ _=>0) l 0=R at next
 rw[<-a]at next
 refine gA (Eo [5] []) f204 λ_=>?_;exact zW
def aRj(u v:V3):bj 227 [u.av,v.av] (uu (KZ u v)):=aND u v _ rfl
def aLv(u v:V3):bj 126 [u.av,v.av] (uu (KZ u v)):=aGX u v _ rfl
def aKU(c:Con)(i:Nat)(v:V3):bj 226 [ii i,v.av,.ptr c.cs,.ptr (uO c).cs] (uu (mT c i v)):=by
 have h1:=lR c (i:Int);have d:=aRj v (uO c);unfold mT;generalize uO c=a at *
 generalize KZ v a=y at *
 cases b:bD c.ns (i:Int)with
 | true=>
  rw[b]at h1;exact c_ f226 λ_=>zW
 | false=>
  rw[b]at h1;exact c_ f226 λ_=>zW
def aDf(c:Con)(b:c.sm)(l:a7)(hl:Z l<=1048576):bj 157 [c.av,CA 14 (rav l) J0] (CA 1 (fv (qD c l)) J0):=by
 have h1:=aFp c b;have e:=TZ c b l hl;have j:=b.ns;have d:Z (ofL c l)=Z c.ns:=by unfold ofL nG;simp
 have h3:=aQ1 c (ofL c l) o_ λi h=>aKU c i _;unfold qD;unfold aQN at h3;generalize dM (mT c) (ofL c l) 0=R at *
 generalize ofL c l=us at *
 generalize uO c=a at *
 exact c_ f157 λ_=>zW
def aPf(a:a6)(hs:LtF a)(hsl:Z a<=1048576)(n half:Int)(i x:Nat)(j:x<18446744073709551616):bj 220 [ii i,uu x,.ptr [uu (oM n half)],.ptr [CA 1 (fv a) J0],.ptr [uu (ofF n)]] (uu (tkS a n half i x)):=by
 have k:=aCf n half;have e:=CX n;have h1:=QD x (oM n half) j o_;have h:=BD x (oM n half);have c:Z (fv a)=Z a:=by simp
 unfold tkS;generalize oM n half=f at *
 generalize ofF n=t at *
 generalize kV x f=y at *
 by_cases b:i<Z a
 .rw [bu b,Ab b];have get:=M6 b;have hz:=hs _ (Aq b);show aA _ _ _ _ (Io (uu (kR y (kV a[i] t)))) _;generalize a[i]=z at *
  have l:=QD z t hz e;have d:=BD z t;generalize kV z t=w at *
  have h3:=aCc y w h d;generalize kR y w=r at *
  exact c_ f220 λ_=>zW
 .rw [bt b];exact c_ f220 λ_=>zW
def aA6(c:Con)(l:a7):LtF (qD c l):=by
 intro x b;obtain⟨k,a,e⟩:=Gz b;unfold qD at a e;rw[kZ]at a;have:=NP (mT c) (ofL c l) 0 k a;rw[Ab (by rw[kZ];exact a),e]at this;cases this;unfold mT;split
 .exact aNE _ _
 .decide
def aKz(h a:a6)(e:LtF h)(hl:Z h<=1048576)(hs:LtF a)(hsl:Z a<=1048576)(n half:Int)(b:n<=9223372036854775807)(d:half<=9223372036854775807):bj 156 [CA 1 (fv h) J0,CA 1 (fv a) J0,ii n,ii half] (CA 1 (fv (tkL h a n half)) J0):=by
 have h1:=aEm n half b d;have j:=ZH n;have h3:=aQ0 a n half h hl λi c=>aPf a hs hsl n half i _ (e _ (Aq c));unfold tkL;unfold aQM at h3;generalize dM (tkS a n half) h 0=R at *
 generalize oM n half=f at *
 generalize ofF n=t at *
 exact c_ f156 λ_=>zW
def aRQ(i:Nat)(x:Nod):bj 205 [ii i,x.av] (uu 0):=by exact c_ f205 λ_=>zW
def aKf(c:Con)(a:c.sm):bj 147 [c.av] (CA 1 (fv (aAx c)) J0):=by
 have b:=a.ns;have h3:=aQZ c.ns o_ λi h=>aRQ i _;unfold aAx;unfold aQL at h3;generalize dM (λ_ _=>0) c.ns 0=R at *
 exact c_ f147 λ_=>zW
def aGd(h b:a6)(G:LtF h)(hl:Z h<=1048576)(hs:LtF b)(hsl:Z b<=1048576)(n half:Int)(v:n<=9223372036854775807)(F:half<=9223372036854775807)(R:a6):∀(m i:Nat) (a:a6),i+m=Z h->Z a=i->a++dM (tkS b n half) (h.drop i) i=R->
  DE (Eo [9] []) f78 (CA 1 (fv R) J0) [(0,CA 1 (fv h) J0),(1,CA 1 (fv b) J0),(2,ii n),(3,ii half),(9,CA 1 (fv a) (.own 0 0)),(10,ii i)] [Fr 0 1 106]:=by
 have o:Z (fv h)=Z h:=by simp
 have j:Z (fv b)=Z b:=by simp
 intro m;induction m with
 | zero=>
  intro i a Be A c;rw[Ae o_]at c;have c:a++[]=R:=c;rw[Ao]at c;subst c;exact tA
 | succ m l=>
  intro i a Be A c;have f:i<Z h:=o_;have get:=M6 f;have r:=G _ (Aq f);rw[Ac f]at c;generalize h[i]=x at get r c;have c:a++(tkS b n half i x::dM (tkS b n half) (h.drop (i+1)) (i+1))=R:=c;have J:=HJ n;have g:=CX n;have h1:=aDI x n half r v F;have k:=BD x (oM n half);have I:Z (fv a)=Z a:=by simp
  have step:∀y,tkS b n half i x=y->DE (Eo [9] []) f78 (CA 1 (fv R) J0) [(0,CA 1 (fv h) J0),(1,CA 1 (fv b) J0),(2,ii n),(3,ii half),(9,CA 1 (fv a++[uu y]) (.own 0 0)),(10,ii ((i:Int)+1))] [Fr 0 1 106]:=λy B=>by
   rw[B]at c;have next:=l (i+1) (a++[y]) o_ q_ (by rw[Ag];exact c)
   have e:fv (a++[y])=fv a++[uu y]:=by simp[fv]
   rw[e]at next
   exact next
  clear c l;unfold tkS at step;generalize kV x (oM n half)=p at *
  generalize ofF n=t at *
  by_cases d:i<Z b
  .have s:=M6 d;have hz:=hs _ (Aq d);rw[bu d,Ab d]at step;have step:=step _ rfl;have step:DE (Eo [9] []) f78 (CA 1 (fv R) J0) [(0,CA 1 (fv h) J0),(1,CA 1 (fv b) J0),(2,ii n),(3,ii half),(9,CA 1 (fv a++[uu (kR p (kV b[i] t))]) (.own 0 0)),(10,ii ((i:Int)+1))] [Fr 0 1 106]:=step;generalize b[i]=z at *
   have q:=wV z t hz g;have u:=BD z t;generalize kV z t=w at *
   have h3:=nJ p w k u;generalize kR p w=y at *
   exact tA
  .rw [bt d]at step;have step:=step _ rfl;have q:=wV 0 t d_ g;have H:kV 0 t=0:=by unfold kV;rw[Mn];rfl
   rw[H]at q;have h3:=nJ p 0 k d_;have C:kR p 0=p:=by unfold kR;rw[Ft,sJ,bu k]
   rw[C]at h3;exact tA
def aGc(h a:a6)(c:LtF h)(hl:Z h<=1048576)(hs:LtF a)(hsl:Z a<=1048576)(n half:Int)(d:n<=9223372036854775807)(b:half<=9223372036854775807):bj 78 [CA 1 (fv h) J0,CA 1 (fv a) J0,ii n,ii half] (CA 1 (fv (tkL h a n half)) J0):=by
 have next:=aGd h a c hl hs hsl n half d b (tkL h a n half) (Z h) 0 [] o_ rfl rfl
 generalize tkL h a n half=R at next
 refine gA (Eo [9] []) f78 λ_=>?_;exact zW
def G8(c:Con)(k:c.sm)(us:a8)(u:Z us=Z c.ns)(a:V3)(o:uO c=a)(R:a6):∀(m i:Nat) (b:a6),i+m=Z us->Z b=i->b++dM (mT c) (us.drop i) i=R->
  DE (Eo [7] []) f79 (CA 1 (fv R) J0) [(2,G2 0 0),(5,CA 3 (vav us) J0),(6,G2 1 0),(7,CA 1 (fv b) (.own 2 0)),(8,ii i)] [Do 30 c.cs,Do 43 a.cs,Fr 0 1 106]:=by
 have j:Z (vav us)=Z us:=by simp
 have q:Z (nav c.ns)=Z c.ns:=by simp
 have n:=k.ns;intro m;induction m with
 | zero=>
  intro i b p l d;rw[Ae o_]at d;have d:b++[]=R:=d;rw[Ao]at d;subst d;exact tA
 | succ m h=>
  intro i b p l d;have f:i<Z us:=o_;have get:=lN f;rw[Ac f]at d;generalize us[i]=x at get d;have d:b++(mT c i x::dM (mT c) (us.drop (i+1)) (i+1))=R:=d;have h1:=mB c k (i:Int);rw[vD]at h1;have s:=aLv x a;have r:Z (fv b)=Z b:=by simp
  have next:=h (i+1) (b++[mT c i x]) o_ q_ (by rw[Ag];exact d)
  have e:fv (b++[mT c i x])=fv b++[uu (mT c i x)]:=by simp[fv]
  rw[e]at next
  clear d h;unfold mT at next
  rw[o]at next
  generalize KZ x a=y at *
  cases g:bD c.ns (i:Int)with
  | true=>
   rw[g]at h1;rw[g,bu rfl]at next
   exact tA
  | false=>
   rw[g]at h1;rw[g,bt d_]at next
   exact tA
def XV(c:Con)(d:c.sm)(l:a7)(hl:Z l<=1048576):bj 79 [c.av,CA 14 (rav l) J0] (CA 1 (fv (qD c l)) J0):=by
 have h1:=aDm c d;have e:=O6 c d l hl;have b:Z (ofL c l)=Z c.ns:=by unfold ofL nG;simp
 unfold qD;have next:=G8 c d (ofL c l) b (uO c) rfl (dM (mT c) (ofL c l) 0) (Z (ofL c l)) 0 [] o_ rfl rfl
 generalize dM (mT c) (ofL c l) 0=R at *
 generalize ofL c l=us at *
 generalize uO c=a at *
 refine gA (Eo [7] []) f79 λ_=>?_;exact zW
def fY(a:Int)(l:ba):Int:=Q2.am a (l.map Pn.q)
def dS(l:ba)(a:Int):ba:=if fY a l<0 then l else l.eraseIdx (fY a l).toNat
def jO(l:ba)(p:Pn):ba:=l.take (Q2.putAt p.q (l.map Pn.q))++[p]++l.drop (Q2.putAt p.q (l.map Pn.q))
def aAT(l:ba)(a:Int):(dS l a).map Pn.q=Q2.takeP (l.map Pn.q) a:=by
 unfold dS Q2.takeP fY
 grind[List.eraseIdx_eq_take_drop_succ,Fm,Ij]
def YM(l:ba)(p:Pn):(jO l p).map Pn.q=Q2.putP (l.map Pn.q) p.q:=by unfold jO Q2.putP;simp[Fm,Ij]
def aHe(l:ba)(a:Int):bj 149 [CA 11 (pnv l) J0,ii a] (ii (fY a l)):=by have h:=Q2.find_ok (l.map Pn.q) a;rw[rA]at h;exact h
def PI(l:ba)(p:Pn)(hl:Z l<=1000000):bj 152 [CA 11 (pnv l) J0,p.av] (CA 11 (pnv (jO l p)) J0):=by have h:=Q2.put_ok (l.map Pn.q) p.q (by simpa using hl);rw[<-YM,rA,rA]at h;exact h
def vJ(l:ba)(a:Int)(hl:Z l<=1000000):bj 101 [CA 11 (pnv l) J0,ii a] (GT [CA 11 (pnv (dS l a)) J0,DA (!decide (fY a l<0))]):=by have h:=Q2.take_ok (l.map Pn.q) a (by simpa using hl);rw[<-aAT,rA,rA]at h;exact h
structure Ev where
 (k id n:Int)
 deriving DecidableEq
abbrev _root_.bh:=List Ev
def Ev.cs(e:Ev):az:=[ii e.k,ii e.id,ii e.n]
def Ev.av(e:Ev):aa:=He e.cs
abbrev evv(l:bh):az:=l.map Ev.av
structure Rd where
 s:Sta
 ev:bh
 head:Bool
 start:Int
def zY(r:Rd)(p:Pn)(fl:Int)(hs:ax):Rd:=
 ⟨{r.s with pend:=dS r.s.pend p.g.id,run:=r.s.run++[⟨p.g,p.seq,p.at',r.s.now,fl,hs⟩]},r.ev++[⟨1,p.g.id,fl⟩],r.head,r.start⟩
def CB(r:Rd)(p:Pn):Option (Int×ax)->Rd×Bool
 | none=>(r,U)
 | some (fl,hs)=>if(r.head&& !bmB r.s.now p.g r.start)=O then(r,U)else(zY r p fl hs,O)
def admR(r:Rd)(p:Pn):Rd×Bool:=CB r p (cL r.s.c r.s.run p.g)
def dU(run:a7)(r:Rd)(id:Int):Rd:=
 let x:=aH run (aO (λx=>x.g.id==id) run 0).toNat
 ⟨{r.s with pend:=jO r.s.pend x.pn},r.ev++[⟨2,id,0⟩],r.head,r.start⟩
def gQ(r:Rd)(ids:ax):Rd:=
 let q:=ids.foldl (dU r.s.run) r
 ⟨{q.s with run:=aB r.s.run ids},q.ev,q.head,q.start⟩
def qV(r:Rd)(p:Pn):Option Int->Rd
 | none=>r
 | some n=>⟨r.s,r.ev++[⟨4,p.g.id,n⟩],O,n⟩
def aHZ(r:Rd)(p:Pn):Option ax->Rd
 | some ids=>(admR (gQ r ids) p).1
 | none=>qV r p (nR r.s.c r.s.now r.s.run p.g)
def bM(r:Rd)(p:Pn):Rd:=
 if(admR r p).2=O then(admR r p).1 else if r.head=O then r else aHZ r p (fG r.s.c r.s.run p.g)
def iF(a b:Int):Int:=if a<b then -1 else if b<a then 1 else 0
def EV(c:Con)(h:a6)(n:Int):Nat:=(bI c.ns n).foldl (λx t=>if t<(Z h:Int)then kR x ((h[t.toNat]?).getD 0)else x) 0
def aO4(c:Con)(n:Int):Int:=if 0<=n/\n<(Z c.ns:Int)then max 1 (cO c.ns n).w else 1
def mZ(c:Con)(h:a6)(n:Int):Nat:=wB (EV c h n) (ofF (aO4 c n))
def uD(c:Con)(h:a6)(x y:Int):Int:=if mZ c h x<mZ c h y then -1 else if mZ c h y<mZ c h x then 1 else iF x y
def gC(c:Con)(h:a6):ax->ax->Int
 | [],[]=>0
 | [],_::_=> -1
 | _::_,[]=>1
 | x::p,y::q=>if x=y then gC c h p q else uD c h x y
def qF(c:Con)(now:Int)(p:Pn):Bool:=decide (0<c.age)&&(decide (p.at'<=now)&&decide (c.age<=now-p.at'))
def ptC(s:Sta)(a b:Pn):Int:=gC s.c s.hist (bT s.c.ns a.g.ten) (bT s.c.ns b.g.ten)
def iW(s:Sta)(a b:Pn):Int:=
 if qF s.c s.now a=O then(if qF s.c s.now b=O then iF a.seq b.seq else -1)
 else if qF s.c s.now b=O then 1 else(if ptC s a b=0 then iF a.seq b.seq else ptC s a b)
def ltP(s:Sta)(a b:Pn):Bool:=decide (iW s a b<0)
def sU{a b:Int}:iF a b<0↔a<b:=by
 unfold iF
 repeat' split
 all_goals omega
def aHG{a b:Int}:iF a b=0↔a=b:=by
 unfold iF
 repeat' split
 all_goals omega
def aLZ{a b:Int}:0<iF a b↔b<a:=by
 unfold iF
 repeat' split
 all_goals omega
def aL4{c:Con}{h:a6}{x y:Int}:uD c h x y<0↔mZ c h x<mZ c h y\/(mZ c h x=mZ c h y/\x<y):=by
 have:=sU (a:=x) (b:=y);unfold uD
 repeat' split
 all_goals omega
def aL5{c:Con}{h:a6}{x y:Int}:0<uD c h x y↔uD c h y x<0:=by
 have h1:=aLZ (a:=x) (b:=y);have d:=sU (a:=y) (b:=x);unfold uD
 repeat' split
 all_goals omega
theorem aHN{c:Con}{h:a6}{x y:Int}:uD c h x y=0↔x=y:=by
 have h1:=aHG (a:=x) (b:=y);unfold uD
 grind
def yQ{c:Con}{h:a6}:∀{p q:ax},gC c h p q=0↔p=q
 | [],[]=>by simp[gC]
 | [],_::_=>by simp[gC]
 | _::_,[]=>by simp[gC]
 | x::p,y::q=>by
  unfold gC;by_cases e:x=y
  .rw [bu e,yQ];subst e;simp
  .rw [bt e]
   grind[aHN]
def aAO{c:Con}{h:a6}:∀{p q:ax},0<gC c h p q↔gC c h q p<0
 | [],[]=>by simp[gC]
 | [],_::_=>by simp[gC]
 | _::_,[]=>by simp[gC]
 | x::p,y::q=>by
  unfold gC;by_cases e:x=y
  .subst e;rw[bu rfl,bu rfl];exact aAO
  .rw [bt e,bt (λh=>e h.symm)];exact aL5
def aL2{c:Con}{h:a6}{x y z:Int}(h1:uD c h x y<0)(a:uD c h y z<0):uD c h x z<0:=by
 rw[aL4]at *
 omega
def aAN{c:Con}{h:a6}:∀{p q r:ax},gC c h p q<0->gC c h q r<0->gC c h p r<0
 | [],[],_,h1,_=>by simp[gC]at h1
 | [],_::_,[],_,h2=>by simp[gC]at h2
 | [],_::_,_::_,_,_=>by simp[gC]
 | _::_,[],_,h1,_=>by simp[gC]at h1
 | _::_,_::_,[],_,h2=>by simp[gC]at h2
 | x::p,y::q,z::r,h1,h2=>by
  unfold gC at *
  by_cases b:x=y
  .subst b;rw[bu rfl]at h1;by_cases a:x=z
   .rw [bu a]at h2⊢;exact aAN h1 h2
   .rw [bt a]at h2⊢;exact h2
  .rw [bt b]at h1;by_cases a:y=z
   .subst a;rw[bt b];exact h1
   .rw [bt a]at h2;have h3:=aL2 h1 h2;by_cases d:x=z
    .grind [aHN]
    .rw [bt d];exact h3
def jA(s:Sta):Ord (ltP s) where
 irr a:=by have h1:=(yQ (c:=s.c) (h:=s.hist) (p:=bT s.c.ns a.g.ten)).2 rfl;have h2:=(aHG (a:=a.seq) (b:=a.seq)).2 rfl;unfold ltP iW ptC;rw[h1,h2];split<;>simp
 tr a b c h1 h2:=by
  unfold ltP iW at *
  simp only[bo]at *
  have n1:=sU (a:=a.seq) (b:=b.seq);have n2:=sU (a:=b.seq) (b:=c.seq);have n3:=sU (a:=a.seq) (b:=c.seq);have t1:=yQ (c:=s.c) (h:=s.hist) (p:=bT s.c.ns a.g.ten) (q:=bT s.c.ns b.g.ten);have t2:=yQ (c:=s.c) (h:=s.hist) (p:=bT s.c.ns b.g.ten) (q:=bT s.c.ns c.g.ten);cases ha:qF s.c s.now a<;>cases hb:qF s.c s.now b<;>cases hc:qF s.c s.now c<;>simp only[ha,hb,hc,if_true,if_false,reduceIte,Dc]at * <;>try omega
  by_cases z1:ptC s a b=0
  .have e1:=t1.1 z1;rw[bu z1]at h1;have e3:ptC s a c=ptC s b c:=by unfold ptC;rw[e1]
   grind
  .rw [bt z1]at h1;by_cases z2:ptC s b c=0
   .have e2:=t2.1 z2;have e3:ptC s a c=ptC s a b:=by unfold ptC;rw[e2]
    rw[e3,bt z1];exact h1
   .rw [bt z2]at h2;have h3:ptC s a c<0:=aAN h1 h2;rw[bt o_];exact h3
def aMl(s:Sta){a b:Pn}(h:a.seq≠b.seq):ltP s a b=O\/ltP s b a=true:=by
 unfold ltP iW;simp only[bo];have n1:=sU (a:=a.seq) (b:=b.seq);have n2:=sU (a:=b.seq) (b:=a.seq);have i:=yQ (c:=s.c) (h:=s.hist) (p:=bT s.c.ns a.g.ten) (q:=bT s.c.ns b.g.ten);have j:=yQ (c:=s.c) (h:=s.hist) (p:=bT s.c.ns b.g.ten) (q:=bT s.c.ns a.g.ten);have d:=aAO (c:=s.c) (h:=s.hist) (p:=bT s.c.ns a.g.ten) (q:=bT s.c.ns b.g.ten);cases e:qF s.c s.now a<;>cases f:qF s.c s.now b<;>simp only[if_true,if_false,reduceIte,Dc]<;>try omega
 unfold ptC
 grind
def XL(h:a6)(x:Nat)(t:Int):Nat:=if t<(Z h:Int)then kR x ((h[t.toNat]?).getD 0)else x
def ON{h:a6}{x:Nat}{t:Int}(a:x<18446744073709551616):XL h x t<18446744073709551616:=by
 unfold XL;split
 .exact F2 _ _
 .exact a
def aAY(c:Con)(h:a6)(n:Int):EV c h n<18446744073709551616:=by
 have go:∀(l:ax) (x:Nat),x<18446744073709551616->l.foldl (XL h) x<18446744073709551616:=λl=>by
  induction l with
  | nil=>exact λx b=>b
  | cons a l d=>exact λx b=>d _ (ON b)
 exact go _ _ d_
def aEn(h:a6)(o:LtF h)(hl:Z h<=1048576)(l:ax)(g:∀t∈l,0<=t)(n:Z l<=1048576)(R:Nat):∀(m i x:Nat),i+m=Z l->x<18446744073709551616->(l.drop i).foldl (XL h) x=R->
  DE E f355 (uu R) [(1,CA 1 (fv h) J0),(7,uu x),(12,CA 1 (iv l) J0),(13,ii (Z l:Nat)),(14,ii i)] []:=by
 have f:Z (iv l)=Z l:=by simp
 have j:Z (fv h)=Z h:=by simp
 intro m;induction m with
 | zero=>
  exact zqda19
 | succ m e=>
  intro i x k d a;have b:i<Z l:=o_;have get:=cK b;have p:=g _ (Aq b);rw[Ac b,Ap]at a;have next:=e (i+1) _ o_ (ON d) a
  clear a e;generalize l[i]=t at *
  unfold XL at next
  by_cases h1:t<(Z h:Int)
  .rw [bu h1]at next
   have c:t.toNat<Z h:=o_;have r:t=(t.toNat:Int):=o_;have q:=M6 c;have hz:=o _ (Aq c);rw[Ab c]at next
   have next:DE E f355 (uu R) [(1,CA 1 (fv h) J0),(7,uu (kR x h[t.toNat])),(12,CA 1 (iv l) J0),(13,ii (Z l:Nat)),(14,ii ((i:Int)+1))] []:=next
   generalize h[t.toNat]=z at *
   have s:=aCc x z d hz;generalize kR x z=y at *
   exact tA
  .rw [bt h1]at next
   exact tA
def aM3(c:Con)(e:c.sm)(h:a6)(j:LtF h)(hl:Z h<=1048576)(n:Int):bj 355 [c.av,CA 1 (fv h) J0,ii n] (uu (EV c h n)):=by
 have k:=WQ c e n;have b:∀t∈bI c.ns n,0<=t:=λt i=>(jL c n t i).1;have d:Z (bI c.ns n)<=1048576:=nM c e n;have next:=aEn h j hl (bI c.ns n) b d (EV c h n) (Z (bI c.ns n)) 0 0 o_ d_ rfl
 generalize EV c h n=R at *
 generalize bI c.ns n=l at *
 have a:Z (iv l)=Z l:=by simp
 try rw[<-a]at next
 exact c_ f355 λ_=>zW
def ZK(h:a6)(o:LtF h)(hl:Z h<=1048576)(l:ax)(g:∀t∈l,0<=t)(n:Z l<=1048576)(R:Nat):∀(m i x:Nat),i+m=Z l->x<18446744073709551616->(l.drop i).foldl (XL h) x=R->
  DE E f308 (uu R) [(1,CA 1 (fv h) J0),(7,uu x),(8,CA 1 (iv l) J0),(9,ii i)] []:=by
 have f:Z (iv l)=Z l:=by simp
 have j:Z (fv h)=Z h:=by simp
 intro m;induction m with
 | zero=>
  exact zqda19
 | succ m e=>
  intro i x k d a;have b:i<Z l:=o_;have get:=cK b;have p:=g _ (Aq b);rw[Ac b,Ap]at a;have next:=e (i+1) _ o_ (ON d) a
  clear a e;generalize l[i]=t at *
  unfold XL at next
  by_cases h1:t<(Z h:Int)
  .rw [bu h1]at next
   have c:t.toNat<Z h:=o_;have r:t=(t.toNat:Int):=o_;have q:=M6 c;have hz:=o _ (Aq c);rw[Ab c]at next
   have next:DE E f308 (uu R) [(1,CA 1 (fv h) J0),(7,uu (kR x h[t.toNat])),(8,CA 1 (iv l) J0),(9,ii ((i:Int)+1))] []:=next
   generalize h[t.toNat]=z at *
   have s:=nJ x z d hz;generalize kR x z=y at *
   exact tA
  .rw [bt h1]at next
   exact tA
def aIQ(c:Con)(e:c.sm)(h:a6)(j:LtF h)(hl:Z h<=1048576)(n:Int):bj 308 [c.av,CA 1 (fv h) J0,ii n] (uu (EV c h n)):=by
 have k:=CQ c e n;have b:∀t∈bI c.ns n,0<=t:=λt i=>(jL c n t i).1;have d:Z (bI c.ns n)<=1048576:=nM c e n;have next:=ZK h j hl (bI c.ns n) b d (EV c h n) (Z (bI c.ns n)) 0 0 o_ d_ rfl
 generalize EV c h n=R at *
 generalize bI c.ns n=l at *
 have a:Z (iv l)=Z l:=by simp
 try rw[<-a]at next
 exact c_ f308 λ_=>zW
end Go.Proofs.YtenkdioaefckoaaGreatDoor
namespace Go.AW
open Go.RowKit
def T7:BInv:=⟨λ_ bs _=>bs=[],λ_ _ _ h=>h⟩
theorem aBw:∀(l:aw) (k:Nat) (h:k<Z l),aE l k=l[k]
 | _::_,0,_=>rfl
 | _::r,k+1,h=>aBw r k (by simpa using h)
def Mem.bury{M:Imm}{ob:Hs}{ac:aw}{w:World}(hm:Mem M ob ac w){k n:Nat}{d:bb}(x:ac[k]? =X .dead)(Be:ob[k]? =X d)(hl:Z d=n+1):
  Mem M (ob.set k (d++[fK []])) (ac.set k (.bun (n+1) T7)) w/\Ext M ob ac w M (ob.set k (d++[fK []])) (ac.set k (.bun (n+1) T7)) w/\dR ob (ob.set k (d++[fK []])):=by
 have q:k<Z ac:=(Ad.1 x).1;have p:k<Z ob:=(Ad.1 Be).1;have f:dR ob (ob.set k (d++[fK []])):=λj hs i=>by grind[Ba,List.prefix_append,Bg,List.prefix_refl]
 have s:blk (d++[fK []])=[]:=FW s_;have o:∀{j b:Nat},aM (ob.set k (d++[fK []])) (ac.set k (.bun (n+1) T7)) j b->aM ob ac j b:=λ{j b} ⟨c,hs,l,m,e3,e4⟩=>by
  by_cases e:k=j
  .grind [Ba]
  .rw [Bg e]at l e3;exact⟨c,hs,l,m,e3,e4⟩
 have r:∀(j:Nat) c,(ac.set k (.bun (n+1) T7))[j]? =X c->∃hs,(ob.set k (d++[fK []]))[j]? =X hs/\iY M (ob.set k (d++[fK []])) w hs c:=λj c i=>by
  by_cases e:k=j
  .subst e;rw[Ba q]at i;cases i;refine⟨_,Ba p,by simp[hl],[],?_,λb A=>(by cases A),rfl⟩;rw[Au o_,hl];simp
  .rw [Bg e]at i;obtain⟨hs,l,m⟩:=hm.obj j c i;refine⟨hs,by rw[Bg e];exact l,?_⟩;cases c with
   | cells I cs'=>
    obtain⟨b,y,H,cv,u,t,B,C⟩:=m;exact⟨b,y,H,cv,u,t,B,λn v a F g=>(C n v a F g).mono (λ_ _ _ h=>h) f⟩
   | _=>exact m
 exact⟨⟨hm.imm,by simp[hm.len],r,λj b g=>hm.lt j b (o g),λj z b h1 G=>hm.inj j z b (o h1) (o G)⟩,⟨λ_ _ _ h=>h,λ_ _ _ h=>.inl h,f,rfl,rfl,rfl,Bc _,λ_ _ _=>rfl,λj b g=>.inl ⟨j,o g⟩⟩,f⟩
def To.bury{E:Env}{fn:Func}{g:Goal}{st:bg}{fr:au}{ac:aw}(k:Nat)(y:aE ac k= .dead)(f:Nat.blt k g.n0=O)(h:∀n,To E fn g (.code st fr (bU ac k (.bun (n+1) T7))))(e:g.strict=true:=by rfl):To E fn g (.code st fr ac):=
 .mk λj M0 ob0 d w0 a w hst hs=>by
  obtain⟨M,ob,m,hm,i,r,u,x⟩:=hs;have b:k<Z ob0:=by rw[hst.1];simpa[Nat.blt_eq]using f
  obtain⟨hs,q,s⟩:=m.hs k _ (Ab b);have v:=hst.2 e _ (Aq b)
  obtain⟨n,f⟩:∃n,Z hs=n+1:=⟨Z hs-1,by have:=s.length_le;omega⟩
  have c:ac[k]? =X .dead:=by grind[Ab,aBw]
  obtain⟨o,p,l⟩:=hm.bury c q f;refine(h n).rec λh=>h j M0 ob0 d w0 a w hst ?_;rw[aW c];exact⟨M,_,m.trans p,o,λt=>(i t).mono (λ_ _ _ h=>h) l,r,u.mono (λ_ _ _ h=>h) l,by simp;omega⟩
def OO:au->au
 | []=>[]
 | (i,v)::r=>(i,strip 5 v)::OO r
def GU{M:Imm}{ob:Hs}{v:Value}{t:Nat}:∀(fr:au),Rep M ob v (bA fr t)->Rep M ob v (bA (OO fr) t)
 | [],h=>h
 | (i,x)::r,h=>by
  simp only[bA,OO]at h⊢;cases a:Nat.beq i t with
  | true=>rw[a]at h;exact nI 5 h
  | false=>rw[a]at h;exact GU r h
def To.looseF{E:Env}{fn:Func}{g:Goal}{st:bg}{fr:au}{ac:aw}(h:To E fn g (.head st (OO fr) ac)):To E fn g (.head st fr ac):=
 .mk λd M0 ob0 b w0 a w hst hs=>by refine h.rec λh=>h d M0 ob0 b w0 a w hst ?_;obtain⟨M,ob,j,hm,c,f,i,e⟩:=hs;exact⟨M,ob,j,hm,λt=>GU fr (c t),f,i,e⟩
end Go.AW
namespace Go.Proofs.YtenkdioaefckoaaGreatDoor
open Go.Proofs.Tryz
open Go Go.AW Go.Proofs
set_option maxRecDepth 10000
def aTu(f:aa):au:=[(2,G2 1 0),(6,f)]
def WW(a:ax)(g:Nat)(o:ab):aw:=[.dead,Do 83 [.row 2 g],.row g 1 3 (iv a),o]
def XA{i:Nat}(h:i<=12):i=0\/i=1\/i=2\/i=3\/i=4\/i=5\/i=6\/i=7\/i=8\/i=9\/i=10\/i=11\/i=12:=o_
def aJV(f:aa)(a:ax)(x:Int)(g:Nat)(c:g<=12)(hl:Z a=g)(l:Nat)(R:Loop)(b:R.state= .ready):
  To (El l [] [] []) f352 (.keep 4 (Io (DA O)) (WW (a++[x]) (g+1) (If 0 (cR l (busy R))))) (.code [.code (rfA f352),.beginR,.code (rfB f352)] (iS (aTu f) 7 (ii x)) (WW a g (If 0 (cR l R)))):=by
 rcases XA c with rfl|rfl|rfl|rfl|rfl|rfl|rfl|rfl|rfl|rfl|rfl|rfl|rfl
 all_goals
  have d:Z (iv a)=Z a:=by simp
  have e:iv (a++[x])=iv a++[ii x]:=by simp
  unfold WW;rw[e];refine gV ?_;refine To.beginR (k:=3) (gg:=0) rfl rfl b ?_;exact zW
def auJ(f:aa)(ob0:Hs)(R:Loop)(l:Nat)(a:ax):BInv:=lH ob0 (aTu f) R (WW a (Z a) (If 0 (cR l R)))
def aJU{d i:Code}(f:aa)(ob0:Hs)(l:Nat)(R:Loop)(a:ax)(x:Int)(hl:Z a<=12)(c:RecOK f352 7 d i R)(m:rfA f352=d)(o:rfB f352=i):
  bQ Tryz.prog (.yield l) [ii x] [If 0 (auJ f ob0 R l a)] (Io (DA O)) [If 1 (auJ f ob0 R l (a++[x]))]:=by
 subst m o;unfold auJ;have rd:=λg (q:g<=12) h=>aJV f a x g q h l R c.ready;have e:Z (a++[x])=Z a+1:=by simp
 obtain⟨g,j⟩:∃g,Z a=g:=⟨_,rfl⟩
 rw[e];rw[j]at hl⊢;rcases XA hl with rfl|rfl|rfl|rfl|rfl|rfl|rfl|rfl|rfl|rfl|rfl|rfl|rfl
 all_goals
  exact iP (E:=Ex [] [] []) (fn:=f352) (k:=3) (n:=4) (p:=7) (gg:=0) (L':=WW (a++[x]) _ (If 0 (cR l (busy R)))) (b:=O) c.params c.ready c.pend c.assign c.body c.size rfl rfl rfl rfl rfl rfl rfl λ_=>rd _ hl j
def LC{P:Program}{l B:Nat}(F:ax->BInv)(h:∀(a:ax) x,Z a<=B->bQ P (.yield l) [ii x] [If 0 (F a)] (Io (DA O)) [If 1 (F (a++[x]))]):∀(xs a:ax),Z a+Z xs<=B+1->Ylds P l xs (F a) (F (a++xs)) O
 | [],a,_=>by rw[Ao];exact .nil _
 | x::r,a,hl=>by have:=LC F h r (a++[x]) (by simp at hl⊢;omega);rw[Ag]at this;exact .next x r _ _ _ _ (h a x (by simp at hl;omega)) this
abbrev aKq(c:Con):aa:=.func (.func 345) [] [G2 0 0,.ptr c.cs]
def aOd(c:Con)(p:c.sm)(n:Int)(i:Z (upL c.ns n)<=12):ar 352 [.nilslice,aKq c] [Do 3 [ii n]] (Io (.row 1 0)) [If 1 T7,.row 0 1 3 (iv (upL c.ns n))]:=by
 have d:(Z (nav c.ns):Int)<=9223372036854775807:=by have:=p.ns;simp only[Bw];omega
 refine eA E f352 1 λ_=>gV ?_;refine To.cutC [2,6] 2 rfl rfl rfl rfl ?_;refine To.mapO (aL6 1) (T6 1) ?_;refine To.beginRow 1 0 3 rfl rfl ?_;refine To.range [0] rfl rfl (λ_ _=>by rfl) rfl (λ_ _=>rfl) rfl λl ob0 R hst j=>?_;have a:=LC (P:=Tryz.prog) (l:=l) (B:=12) (auJ (aKq c) ob0 R l) (λb x hl=>aJU (aKq c) ob0 l R b x hl j rfl rfl) (upL c.ns n) [] q_;rw[Bk]at a;unfold auJ at a;have h:Z ([]:ax)=0:=rfl;rw[h]at a
 obtain⟨q,k⟩:∃q,Z (upL c.ns n)=q:=⟨_,rfl⟩
 rw[k]at a i;rcases XA i with rfl|rfl|rfl|rfl|rfl|rfl|rfl|rfl|rfl|rfl|rfl|rfl|rfl
 all_goals
  obtain⟨m,o,e⟩:=OK l c n _ _ O d a;refine⟨_,O,_,[Do 3 [m]],o,e,rfl,rfl,?_⟩;refine To.bury 0 rfl rfl λz=>gV ?_;refine⟨[],[0,2],⟨rfl,rfl⟩,rfl,?_⟩;show[ab.bun (match gm 1 0 (z+1) (z+1)with|some g=>g|none=>0) T7,_]=_;rw[pQ];rfl
def aNW(c:Con)(b:c.sm)(n:Int)(a:Z (upL c.ns n)<=12):ar 320 [aKq c] [Do 3 [ii n]] (Io (.row 1 0)) [If 1 T7,.row 0 1 3 (iv (upL c.ns n))]:=by have h:=aOd c b n a;generalize upL c.ns n=l at h;refine eA E f320 1 λ_=>?_;exact zW
def aA7{α:Type}(A M B:List α)(x y:α):((A++x::(M++[y])++B).set (Z A) y).set (Z A+Z M+1) x=A++[y]++M++x::B:=by
 have e:A++x::(M++[y])++B=A++x::(M++y::B):=by simp
 rw[e,Hl _ _ o_,Hl _ _ o_];rw[show Z A-Z A=0 by omega,show Z A+Z M+1-Z A=Z M+1 by omega];simp
def aGK(R:ax):∀(n:Nat) (A M B:ax),Z M<=n->Z A+Z M+Z B<=1048576->A++M.reverse++B=R->
  To (Er [] [14,16,17]) f321 (.full 1 (Io (GT [])) [.row 0 1 3 (iv R)]) (BV f321 [(0,.row 0 0),(2,ii (Z A:Nat)),(3,ii ((Z A:Int)+Z M-1))] [.row 0 1 3 (iv (A++M++B))]):=by
 intro n;induction n with
 | zero=>
  intro A M B c hl a;have c:M=[]:=Cm.1 o_;subst c;have a:A++[]++B=R:=a;rw[a];have e:(Z ([]:ax):Int)=0:=rfl;rw[e];exact tA
 | succ n q=>
  intro A M B c hl a;by_cases d:Z M<2
  .have s:M.reverse=M:=by
    match M,d with
    | [],_=>rfl
    | [_],_=>rfl
   rw[s]at a;rw[a];exact tA
  .obtain ⟨x,M',y,rfl⟩:∃x M' y,M=x::(M'++[y]):=by
    match M,d with
    | x::r,d=>
     have f:r≠[]:=λe=>by subst e;simp at d
     exact⟨x,r.dropLast,r.getLast f,by rw[Lb]⟩
   have next:=q (A++[y]) M' (x::B) (by simp at c;omega) (by simp at hl⊢;omega) (by rw[<-a];simp)
   have u:(iv (A++x::(M'++[y])++B))[Z A]? =X (ii x):=by simp
   have l:(iv (A++x::(M'++[y])++B))[Z A+Z M'+1]? =X (ii y):=by rw[show A++x::(M'++[y])++B=(A++x::M')++y::B by simp];simp only[List.map_append];rw[Au q_];simp only[Bw,Ah,List.length_cons,List.map_cons];rw[show Z A+Z M'+1-(Z A+(Z M'+1))=0 by omega];rfl
   have m:((Z A:Int)+(Z (x::(M'++[y])):Nat)-1)=((Z A+Z M'+1:Nat):Int):=by simp;omega
   have k:Z (iv (A++x::(M'++[y])++B))=Z A+Z M'+2+Z B:=by simp;omega
   have es:((iv (A++x::(M'++[y])++B)).set (Z A) (ii y)).set (Z A+Z M'+1) (ii x)=iv (A++[y]++M'++x::B):=by rw[<-aA7 A M' B x y];simp only[iv,Gl]
   have o:(Z (A++[y]):Int)=(Z A:Int)+1:=by simp
   have b:(Z A:Int)+1+(Z M':Int)-1=((Z A+Z M'+1:Nat):Int)-1:=o_;rw[m];rw[o,b,<-es]at next
   generalize iv (A++x::(M'++[y])++B)=L at *
   have g:Z A+Z M'+1<=1048576:=by simp at hl;omega
   obtain⟨j,p⟩:∃j,j=Z A+Z M'+1:=⟨_,rfl⟩
   have w:Z A<j:=o_;have v:j<Z L:=o_;have z:j<=1048576:=o_;rw[<-p]at l next⊢
   clear hl g k m es o b p;generalize Z A=i at *
   refine gV ?_;refine aT λh=>?_
   repeat' first|refine pA ?_|refine⟨j,rfl,?_⟩|refine⟨_,l,?_⟩|refine⟨i,rfl,?_⟩|refine⟨_,u,?_⟩|refine Aa (by rw[Dq];omega) ?_|exact rfl|refine lA ?_ ?_|intro h
   exact zW
def aPQ(l:ax)(hl:Z l<=1048576):ar 321 [.row 0 0] [.row 0 1 3 (iv l)] (Io (GT [])) [.row 0 1 3 (iv l.reverse)]:=by
 have a:Z (iv l)=Z l:=by simp
 have next:=aGK l.reverse (Z l) [] l [] (Bc _) q_ s_
 have e:((0:Nat):Int)+(Z l:Int)-1=(Z (iv l):Int)-1:=by rw[a];omega
 have next:To (Er [] [14,16,17]) f321 (.full 1 (Io (GT [])) [.row 0 1 3 (iv l.reverse)]) (BV f321 [(0,.row 0 0),(2,ii 0),(3,ii (((0:Nat):Int)+Z l-1))] [.row 0 1 3 (iv (l++[]))]):=next
 rw[e,Ao]at next
 refine eA (Er [] [14,16,17]) f321 1 λ_=>gV ?_;refine Fu (Aa (Aa (by simp only[bS];rw[a];omega) (by simp only[aX];rw[a];omega)) ?_);exact zW
def aBr(c:Con)(b:c.sm)(n:Int)(a:Z (upL c.ns n)<=12):bj 285 [c.av,ii n] (CA 1 (iv (upL c.ns n).reverse) J0):=by
 have h1:=aAG c n;have d:=aNW c b n a;have h3:=aPQ (upL c.ns n) o_;generalize upL c.ns n=l at *
 refine c_ f285 λ_=>gV ?_;exact .pure _ [Do 3 [ii n]] h1 zW
def UN(c:Con)(i:c.sm)(h:a6)(l:LtF h)(hl:Z h<=1048576)(n:Int):bj 323 [c.av,CA 1 (fv h) J0,ii n] (uu (mZ c h n)):=by
  have h1:=aM3 c i h l hl n;have e:=aAY c h n;have j:=i.ns;have o:Z (nav c.ns)=Z c.ns:=by simp
  unfold mZ;unfold aO4 at *
  by_cases d:0<=n/\n<(Z c.ns:Int)
  .rw [bu d];have b:n.toNat<Z c.ns:=o_;have k:n=(n.toNat:Int):=o_;have get:=xD (c:=c) (n:=n) ⟨by omega,b⟩;generalize cO c.ns n=x at *
   have m:=ZH (max 1 x.w);have a:=CX (max 1 x.w);generalize EV c h n=p at *
   generalize ofF (max 1 x.w)=q at *
   have h3:=aB8 p q e a;generalize wB p q=r at *
   exact zqda22
  .rw [bt d];have m:=ZH 1;have a:=CX 1;generalize EV c h n=p at *
   generalize ofF 1=q at *
   have h3:=aB8 p q e a;generalize wB p q=r at *
   by_cases s:0<=n
   all_goals (exact zqda22)
def L5(c:Con)(i:c.sm)(h:a6)(l:LtF h)(hl:Z h<=1048576)(n:Int):bj 256 [c.av,CA 1 (fv h) J0,ii n] (uu (mZ c h n)):=by
  have h1:=aIQ c i h l hl n;have e:=aAY c h n;have j:=i.ns;have o:Z (nav c.ns)=Z c.ns:=by simp
  unfold mZ;unfold aO4 at *
  by_cases d:0<=n/\n<(Z c.ns:Int)
  .rw [bu d];have b:n.toNat<Z c.ns:=o_;have k:n=(n.toNat:Int):=o_;have get:=xD (c:=c) (n:=n) ⟨by omega,b⟩;generalize cO c.ns n=x at *
   have m:=HJ (max 1 x.w);have a:=CX (max 1 x.w);generalize EV c h n=p at *
   generalize ofF (max 1 x.w)=q at *
   have h3:=L8 p q e a;generalize wB p q=r at *
   exact zqda11
  .rw [bt d];have m:=HJ 1;have a:=CX 1;generalize EV c h n=p at *
   generalize ofF 1=q at *
   have h3:=L8 p q e a;generalize wB p q=r at *
   by_cases s:0<=n
   all_goals (exact zqda11)
def aBu(c:Con)(now:Int)(p:Pn)(j:0<=now/\now<=1099511627776)(hp:0<=p.at')(k:c.age<=9223372036854775807)(r:Bool)(a:qF c now p=r):bj 283 [c.av,ii now,p.av] (DA r):=by
  unfold qF at a;have l:IntKind.wrap IH now=now:=by rw[wu];omega
  by_cases e:0<c.age
  .by_cases i:p.at'<=now
   .have m:now-p.at'=((now-p.at').toNat:Int):=o_;rw[bq e,bq i,Bz,Bz]at a;by_cases d:c.age<=now-p.at'
    .rw [bq d]at a;subst a;refine c_ f283 λ_=>?_
     repeat' first|refine pA ?_|exact rfl|refine lA ?_ ?_|intro h
     all_goals exact congrArg (λb=>Res.ret (aa.bool b)) (bq d)
    .rw [bp d]at a;subst a;refine c_ f283 λ_=>?_
     repeat' first|refine pA ?_|exact rfl|refine lA ?_ ?_|intro h
     all_goals exact congrArg (λb=>Res.ret (aa.bool b)) (bp d)
   .rw [bp i,Cu,Br]at a;subst a;exact c_ f283 λ_=>zW
  .rw [bp e,Cu]at a;subst a;exact c_ f283 λ_=>zW
def SN(c:Con)(now:Int)(p:Pn)(j:0<=now/\now<=1099511627776)(hp:0<=p.at')(k:c.age<=9223372036854775807)(r:Bool)(a:qF c now p=r):bj 183 [c.av,ii now,p.av] (DA r):=by
  unfold qF at a;have l:IntKind.wrap IH now=now:=by rw[wu];omega
  by_cases e:0<c.age
  .by_cases i:p.at'<=now
   .have m:now-p.at'=((now-p.at').toNat:Int):=o_;rw[bq e,bq i,Bz,Bz]at a;by_cases d:c.age<=now-p.at'
    .rw [bq d]at a;subst a;refine c_ f183 λ_=>?_
     repeat' first|refine pA ?_|exact rfl|refine lA ?_ ?_|intro h
     all_goals exact congrArg (λb=>Res.ret (aa.bool b)) (bq d)
    .rw [bp d]at a;subst a;refine c_ f183 λ_=>?_
     repeat' first|refine pA ?_|exact rfl|refine lA ?_ ?_|intro h
     all_goals exact congrArg (λb=>Res.ret (aa.bool b)) (bp d)
   .rw [bp i,Cu,Br]at a;subst a;exact c_ f183 λ_=>zW
  .rw [bp e,Cu]at a;subst a;exact c_ f183 λ_=>zW
structure OrdOK(s:Sta):Prop where
 sm:s.c.sm
 few:Z s.c.ns<=12
 lt:LtF s.hist
 hl:Z s.hist<=1048576
 now:0<=s.now/\s.now<=1099511627776
 age:s.c.age<=9223372036854775807
def OrdOK.path{s:Sta}(h:OrdOK s)(n:Int):Z (upL s.c.ns n)<=12:=Cp (aAH _ _) h.few
def aEN(a b:Nat):Int:=if a<b then -1 else if b<a then 1 else 0
def aL3(c:Con)(h:a6)(x y:Int):uD c h x y=orI (aEN (mZ c h x) (mZ c h y)) (iF x y):=by
 unfold uD orI aEN
 repeat' split
 all_goals first|rfl|omega
def aCA(s:Sta)(a b:Pn):iW s a b=if qF s.c s.now a=O then(if qF s.c s.now b=O then iF a.seq b.seq else -1)else if qF s.c s.now b=O then 1 else orI (ptC s a b) (iF a.seq b.seq):=by unfold iW orI;rfl
def PW(x:Nat):bj 353 [uu x] (DA U):=by refine c_ f353 λ_=>gV ?_;exact congrArg (λb=>Res.ret (aa.bool b)) s_
def aJC(a b:Nat)(r:Int)(c:aEN a b=r):bj 322 [uu a,uu b] (ii r):=by
 unfold aEN at c;by_cases h1:a<b
 .rw [bu h1]at c;exact zqda3
 .rw [bt h1]at c;by_cases e:b<a
  .rw [bu e]at c;exact zqda3
  .rw [bt e]at c;exact zqda3
def FM(a b:Int):bj 284 [ii a,ii b] (ii (iF a b)):=aCz a b _ rfl
def aHK(s:Sta)(h:OrdOK s)(x y:Int):bj 286 [.ptr s.cs,ii x,ii y] (ii (uD s.c s.hist x y)):=by
 have h1:=UN s.c h.sm s.hist h.lt h.hl x;have b:=UN s.c h.sm s.hist h.lt h.hl y;have h3:=aJC (mZ s.c s.hist x) (mZ s.c s.hist y) _ rfl;have a:=FM x y;rw[aL3];have d:=HT (aEN (mZ s.c s.hist x) (mZ s.c s.hist y)) (iF x y) _ rfl;generalize aEN (mZ s.c s.hist x) (mZ s.c s.hist y)=p at *
 generalize iF x y=q at *
 generalize orI p q=r at *
 generalize mZ s.c s.hist x=l1 at *
 generalize mZ s.c s.hist y=l2 at *
 exact c_ f286 λ_=>zW
abbrev cpF(s:Sta)(p q:ax)(t:Int)(i:Nat):au:=[(0,.ptr s.cs),(4,G2 0 0),(5,G2 1 0),(9,ii t),(10,CA 1 (iv p) J0),(11,CA 1 (iv q) J0),(90,ii ((min (Z p) (Z q):Nat):Int)),(91,ii i)]
abbrev cpO(a b:Pn):aw:=[Do 104 a.cs,Do 104 b.cs]
def RU{c:Con}{h:a6}:∀{p q:ax},(p=[]\/q=[])->gC c h p q=iF (Z p) (Z q)
 | [],[],_=>rfl
 | [],_::_,_=>by simp[gC,iF]
 | _::_,[],_=>by
  show(1:Int)=iF _ _;unfold iF;rw[bt (by simp<;>omega),bu (by simp<;>omega)]
 | _::_,_::_,h=>by rcases h with h|h<;>cases h
def aNU(s:Sta)(h:OrdOK s)(a b:Pn)(p q:ax)(hp:Z p<=12)(F:Z q<=12)(R:Int)(j:orI (gC s.c s.hist p q) (iF a.seq b.seq)=R):∀(m i:Nat),i+m=min (Z p) (Z q)->gC s.c s.hist p q=gC s.c s.hist (p.drop i) (q.drop i)->
  DE E f229 (ii R) (cpF s p q (iF (Z p) (Z q)) i) (cpO a b):=by
 have w:Z (iv p)=Z p:=by simp
 have A:Z (iv q)=Z q:=by simp
 have hs:=FM a.seq b.seq;intro m;induction m with
 | zero=>
  intro i v d;have h1:gC s.c s.hist p q=iF (Z p) (Z q):=by
   have o:p.drop i=[]\/q.drop i=[]:=by exact zqda16
   rw[d,RU o,Dt,Dt];unfold iF
   repeat' split
   all_goals omega
  rw[h1]at j;have n:=HT _ _ _ j;exact zqda12
 | succ m k=>
  intro i v d;have g:i<Z p:=o_;have f:i<Z q:=o_;have B:=cK g;have Be:=cK f;have next:=k (i+1) o_
  rw[Ac g,Ac f]at d;have l:gC s.c s.hist (p[i]::p.drop (i+1)) (q[i]::q.drop (i+1))=if p[i]=q[i]then gC s.c s.hist (p.drop (i+1)) (q.drop (i+1))else uD s.c s.hist p[i] q[i]:=rfl
  rw[l]at d;clear l;have C:=aHK s h p[i] q[i];by_cases e:p[i]=q[i]
  .rw [bu e]at d;have r:(p[i] !=q[i])=false:=by rw[e];simp
   have next:=next d
   generalize p[i]=x at *
   generalize q[i]=y at *
   generalize iF (Z p) (Z q)=t at *
   exact tA
  .rw [bt e]at d;have r:(p[i] !=q[i])=true:=by simpa using e
   rw[d]at j;have n:=HT _ _ _ j;clear next k d
   generalize uD s.c s.hist p[i] q[i]=z at *
   generalize p[i]=x at *
   generalize q[i]=y at *
   exact zqda12
def V6(s:Sta)(h:OrdOK s)(a b:Pn)(r:0<=a.at')(v:0<=b.at')(R:Int)(d:iW s a b=R):bj 229 [.ptr s.cs,a.av,b.av] (ii R):=by
 have m:=aBu s.c s.now a h.now r h.age _ rfl;have i:=aBu s.c s.now b h.now v h.age _ rfl;have hs:=FM a.seq b.seq;rw[aCA]at d;cases h1:qF s.c s.now a with
 | true=>
  rw[h1]at m d;rw[bu rfl]at d;cases e:qF s.c s.now b with
  | true=>
   rw[e]at i d;rw[bu rfl]at d;rw[d]at hs;exact zqda4
  | false=>
   rw[e]at i d;rw[bt d_]at d;subst d;exact zqda4
 | false=>
  rw[h1]at m d;rw[bt d_]at d;cases e:qF s.c s.now b with
  | true=>
   rw[e]at i d;rw[bu rfl]at d;subst d;exact zqda4
  | false=>
   rw[e]at i d;rw[bt d_]at d;by_cases j:a.g.ten=b.g.ten
   .have hz:ptC s a b=0:=by unfold ptC;rw[j];exact yQ.2 rfl
    rw[hz]at d;have z:=HT _ _ _ d;have w:(a.g.ten !=b.g.ten)=false:=by rw[j];simp
    generalize iF a.seq b.seq=u at *
    exact zqda4
   .have w:(a.g.ten !=b.g.ten)=true:=by simpa using j
    have C:=aBr s.c h.sm a.g.ten (h.path _);have Be:=aBr s.c h.sm b.g.ten (h.path _);have x:Z (upL s.c.ns a.g.ten).reverse<=12:=by rw[Ja];exact h.path _
    have o:Z (upL s.c.ns b.g.ten).reverse<=12:=by rw[Ja];exact h.path _
    have n:=aNU s h a b (upL s.c.ns a.g.ten).reverse (upL s.c.ns b.g.ten).reverse x o R d _ 0 (Bv _) rfl;generalize (upL s.c.ns a.g.ten).reverse=p at *
    generalize (upL s.c.ns b.g.ten).reverse=q at *
    have k:Z (iv p)=Z p:=by simp
    have l:Z (iv q)=Z q:=by simp
    have B:=FM (Z (iv p)) (Z (iv q));have y:((min (Z p) (Z q):Nat):Int)=min (Z p:Int) (Z q:Int):=o_;unfold cpF at n;rw[y,<-k,<-l]at n;generalize iF (Z (iv p):Int) (Z (iv q):Int)=t at *
    exact zqda4
abbrev mQ(s:Sta):aa:=.func (.func 231) [] [.ptr [.func (.func 229) [] []],.ptr s.cs]
def AV(s:Sta)(h:OrdOK s)(a b:Pn)(c:0<=a.at')(d:0<=b.at'):bj 231 [a.av,b.av,.ptr [.func (.func 229) [] []],.ptr s.cs] (ii (iW s a b)):=by
 have h1:=V6 s h a b c d _ rfl;generalize iW s a b=r at *
 exact c_ f231 λ_=>zW
def HD(a b r:Int)(c:iF a b=r):bj 185 [ii a,ii b] (ii r):=by
 unfold iF at c;by_cases h1:a<b
 .rw [bu h1]at c;exact zqda9
 .rw [bt h1]at c;by_cases d:b<a
  .rw [bu d]at c;exact zqda9
  .rw [bt d]at c;exact zqda9
def aFo(s:Sta)(h:OrdOK s)(p q:ax)(hp:Z p<=12)(A:Z q<=12)(R:Int):∀(m i:Nat),i+m=min (Z p) (Z q)->gC s.c s.hist (p.drop i) (q.drop i)=R->
  DE E f184 (ii R) [(3,G2 0 0),(7,CA 1 (iv p) J0),(8,CA 1 (iv q) J0),(9,ii i)] [Do 35 s.cs]:=by
 have f:Z (iv p)=Z p:=by simp
 have g:Z (iv q)=Z q:=by simp
 intro m;induction m with
 | zero=>
  intro i v a;have r:p.drop i=[]\/q.drop i=[]:=by exact zqda16
  rw[RU r,Dt,Dt]at a;have h1:iF (Z (iv p)) (Z (iv q))=R:=by
   rw[<-a,f,g];unfold iF
   repeat' split
   all_goals omega
  have o:=HD _ _ _ h1;by_cases b:i<Z p
  .exact tA
  .exact tA
 | succ m j=>
  intro i v a;have b:i<Z p:=o_;have d:i<Z q:=o_;have w:=cK b;have z:=cK d;have next:=j (i+1) o_
  rw[Ac b,Ac d]at a;have n:gC s.c s.hist (p[i]::p.drop (i+1)) (q[i]::q.drop (i+1))=if p[i]=q[i]then gC s.c s.hist (p.drop (i+1)) (q.drop (i+1))else uD s.c s.hist p[i] q[i]:=rfl
  rw[n]at a;clear n j;generalize p[i]=x at *
  generalize q[i]=y at *
  by_cases e:x=y
  .rw [bu e]at a;have u:(x==y)=true:=by rw[e];simp
   have next:=next a
   exact tA
  .rw [bt e]at a;have u:(x==y)=false:=by simpa using e
   have h1:=L5 s.c h.sm s.hist h.lt h.hl x;have B:=L5 s.c h.sm s.hist h.lt h.hl y;unfold uD at a;clear next
   generalize mZ s.c s.hist x=l1 at *
   generalize mZ s.c s.hist y=l2 at *
   by_cases k:l1<l2
   .rw [bu k]at a;subst a;exact tA
   .rw [bt k]at a;by_cases l:l2<l1
    .rw [bu l]at a;subst a;exact tA
    .rw [bt l]at a;have o:=HD _ _ _ a;exact tA
def aPa(s:Sta)(h:OrdOK s)(x y:Int):bj 184 [s.av,ii x,ii y] (ii (gC s.c s.hist (bT s.c.ns x) (bT s.c.ns y))):=by
 have e:=vC s.c h.sm x;have i:=vC s.c h.sm y;have d:=Cp (rC s.c.ns x) h.few;have b:=Cp (rC s.c.ns y) h.few;have a:=aFo s h (bT s.c.ns x) (bT s.c.ns y) d b _ _ 0 (Bv _) rfl;have a:DE E f184 (ii (gC s.c s.hist (bT s.c.ns x) (bT s.c.ns y))) [(3,G2 0 0),(7,CA 1 (iv (bT s.c.ns x)) J0),(8,CA 1 (iv (bT s.c.ns y)) J0),(9,ii 0)] [Do 35 s.cs]:=a;generalize gC s.c s.hist (bT s.c.ns x) (bT s.c.ns y)=R at *
 generalize bT s.c.ns x=p at *
 generalize bT s.c.ns y=q at *
 exact c_ f184 λ_=>zW
def aG0(s:Sta)(h:OrdOK s)(a b:Pn)(l:0<=a.at')(m:0<=b.at')(R:Int)(d:iW s a b=R):bj 127 [s.av,a.av,b.av] (ii R):=by
 have k:=SN s.c s.now a h.now l h.age _ rfl;have j:=SN s.c s.now b h.now m h.age _ rfl;have hs:=HD a.seq b.seq _ rfl;rw[aCA]at d;cases h1:qF s.c s.now a with
 | true=>
  rw[h1]at k d;rw[bu rfl]at d;cases i:qF s.c s.now b with
  | true=>
   rw[i]at j d;rw[bu rfl]at d;rw[d]at hs;exact zqda5
  | false=>
   rw[i]at j d;rw[bt d_]at d;subst d;exact zqda5
 | false=>
  rw[h1]at k d;rw[bt d_]at d;cases i:qF s.c s.now b with
  | true=>
   rw[i]at j d;rw[bu rfl]at d;subst d;exact zqda5
  | false=>
   rw[i]at j d;rw[bt d_]at d;have o:=aPa s h a.g.ten b.g.ten;have e:ptC s a b=gC s.c s.hist (bT s.c.ns a.g.ten) (bT s.c.ns b.g.ten):=rfl;rw[e]at d;generalize gC s.c s.hist (bT s.c.ns a.g.ten) (bT s.c.ns b.g.ten)=t at *
   unfold orI at d;by_cases hz:t=0
   .rw [bu hz]at d;rw[d]at hs;have n:(t !=0)=false:=by rw[hz];rfl
    exact zqda5
   .rw [bt hz]at d;rw[d]at *
    have n:(R !=0)=true:=by simpa using hz
    exact zqda5
def sP(s:Sta):ba:=srt (ltP s) s.pend
abbrev rsF(out:ba)(i:Int):au:=[(1,G2 0 0),(3,CA 11 (pnv out) J0),(4,ii i)]
abbrev rsO(s:Sta):aw:=[Do 35 s.cs]
def aBS{x y:Pn}{s:Sta}{out:ba}{k:Nat}(h:out[k]? =X y):oG (ltP s) x out (k+1)=if ltP s x y=O then oG (ltP s) x out k else k+1:=by simp only[oG,h]
def aR9(s:Sta)(h:OrdOK s)(r:∀p∈s.pend,0<=p.at')(R:aa)(x:Pn)(i:Nat)(w:i<1048576)(d:(pnv s.pend)[i]? =X x.av)(t:0<=x.at')(out:ba)(u:Z out<=1048576)(g:∀p∈out,0<=p.at')
  (next:∀K:Nat,K<=Z out->K=oG (ltP s) x out (Z out)->DE (Er [] [45,46,47]) f82 R [(1,G2 0 0),(3,CA 11 ((pnv out).take K++[x.av]++(pnv out).drop K) J0),(4,ii ((i:Int)+1))] (rsO s)):∀(k:Nat),k<=Z out->oG (ltP s) x out (Z out)=oG (ltP s) x out k->
  To (Er [] [45,46,47]) f82 (.pure (Io R)) (G0 (stk f82 1) (rsF out i++[(5,ii k)]) (rsO s)):=by
 have m:Z (pnv out)=Z out:=by simp
 intro k;induction k with
 | zero=>
  intro j b;have next:=next 0 (Nat.zero_le _) (by rw[b];rfl)
  have q:Z (List.take 0 (pnv out))=0:=by simp
  refine gV ?_
  repeat' first|refine pA ?_|refine Aj 0 (Aa o_ ?_)|refine⟨i,rfl,?_⟩|refine⟨_,d,?_⟩|refine⟨⟨by simp only[maxLen];simp;omega,by simp;omega⟩,?_⟩|refine Aa (Aa (by simp[maxLen]) s_) ?_|exact rfl|refine lA ?_ ?_|intro h
  exact zW
 | succ k o=>
  intro j b;have a:k<Z out:=o_;have n:=wX a;have c:=g _ (Aq a);rw[aBS (Ab a)]at b;have l:=aG0 s h x out[k] t c _ rfl;have f:((k+1:Nat):Int)-1=((k:Nat):Int):=o_;by_cases hl:iW s x out[k]<0
  .have e:ltP s x out[k]=true:=bq hl;rw[bu e]at b;have next:=o o_ b
   generalize out[k]=y at *
   generalize iW s x y=v at *
   refine gV ?_
   repeat' first|refine pA ?_|refine⟨i,rfl,?_⟩|refine Aj k (Aa o_ ?_)|refine⟨_,d,?_⟩|refine⟨_,n,?_⟩|refine .p l ?_|exact rfl|refine lA ?_ ?_|intro h
   rw[f];exact zW
  .have e:ltP s x out[k]=false:=bp hl;rw[bt (by rw[e];decide)]at b;have next:=next (k+1) j b.symm
   generalize out[k]=y at *
   generalize iW s x y=v at *
   refine gV ?_
   repeat' first|refine pA ?_|refine Aj (k+1) (Aa rfl ?_)|refine⟨i,rfl,?_⟩|refine Aj k (Aa o_ ?_)|refine⟨_,d,?_⟩|refine⟨_,n,?_⟩|refine .p l ?_|refine⟨⟨by simp only[maxLen];simp;omega,by simp;omega⟩,?_⟩|refine Aa (Aa (by simp only[bS];omega) (by simp only[aX];omega)) ?_|exact rfl|refine lA ?_ ?_|intro h
   exact zW
def aPD(s:Sta)(h:OrdOK s)(hl:Z s.pend<=1000000)(d:∀p∈s.pend,0<=p.at')(R:ba):∀(m i:Nat) (out:ba),i+m=Z s.pend->Z out=i->(∀p∈out,0<=p.at')->(s.pend.drop i).foldl (mK (ltP s)) out=R->
  DE (Er [] [45,46,47]) f82 (CA 11 (pnv R) J0) (rsF out i) (rsO s):=by
 have n:Z (pnv s.pend)=Z s.pend:=by simp
 intro m;induction m with
 | zero=>
  intro i out u q c a;rw[Ae o_]at a;have a:out=R:=a;subst a;exact tA
 | succ m o=>
  intro i out u q c a;have b:i<Z s.pend:=o_;rw[Ac b,Ap]at a;have l:=wX b;have j:=d _ (Aq b);generalize s.pend[i]=x at a l j;have f:Z (pnv out)=Z out:=by simp
  have hp:=xH (ltP s) out x
  have k:=aR9 s h d (CA 11 (pnv R) J0) x i o_ l j out o_ c (λK t r=>by
   have e:(pnv out).take K++[x.av]++(pnv out).drop K=pnv (mK (ltP s) out x):=by unfold mK;rw[<-r];simp
   rw[e]
   exact o (i+1) (mK (ltP s) out x) o_ (by have:=hp.length_eq;simp at this;omega) (λp g=>by
    rcases Az.1 (hp.mem_iff.1 g)with rfl|g
    .exact j
    .exact c p g) a) (Z out) (Bc _) rfl
  refine gV ?_;refine aT λh=>?_;rw[<-f]at k;exact zW
def aGe(s:Sta)(h:OrdOK s)(hl:Z s.pend<=1000000)(a:∀p∈s.pend,0<=p.at'):bj 82 [s.av] (CA 11 (pnv (sP s)) J0):=by refine gA (Er [] [45,46,47]) f82 λ_=>gV ?_;refine To.part [1,3,4] [0] rfl rfl rfl ?_;refine To.looseF ?_;exact aPD s h hl a (sP s) (Z s.pend) 0 [] o_ rfl (λp hp=>by cases hp) rfl
def wS(l:ba):Z (pnv l)=Z l:=by simp
def aBb(A B:ba)(x:Pn){i:Nat}(a:i=Z A):(pnv (A++x::B))[i]? =X x.av:=by subst a;simp
def FG(A M B:ba)(x y:Pn){i j:Nat}(a:i=Z A)(f:j=Z A+Z M+1):
  (pnv (A++x::(M++y::B)))[i]? =X x.av/\(pnv (A++x::(M++y::B)))[j]? =X y.av/\((pnv (A++x::(M++y::B))).set i y.av).set j x.av=pnv (A++y::(M++x::B))/\((pnv (A++x::(M++y::B))).set j x.av).set i y.av=pnv (A++y::(M++x::B)):=by
 have e:A++x::(M++y::B)=(A++x::M)++y::B:=by simp
 have b:((pnv (A++x::(M++y::B))).set i y.av).set j x.av=pnv (A++y::(M++x::B)):=by
  have h:=aA7 A M B x y;have d:A++x::(M++[y])++B=A++x::(M++y::B):=by simp
  have c:A++[y]++M++x::B=A++y::(M++x::B):=by simp
  rw[d,c]at h;subst a f;rw[<-h];simp only[pnv,Gl]
 refine⟨aBb _ _ _ a,by rw[e];exact aBb _ _ _ q_,b,?_⟩;rw[List.set_comm _ _ o_];exact b
def pJ(l:ba):Prop:=∀p∈l,0<=p.at'
def pJ.perm{l m:ba}(h:l.Perm m)(a:pJ l):pJ m:=λp hp=>a p (h.mem_iff.2 hp)
abbrev bW(l:ba):aw:=[.row 0 11 104 (pnv l)]
abbrev isF(s:Sta)(a b i:Nat):au:=[(0,.row 0 0),(1,ii a),(2,ii b),(3,mQ s),(8,ii i)]
def Y6(s:Sta)(h:OrdOK s)(R:ba)(A T B:ba)(x:Pn)(a b i:Nat)(N:a=Z A)(V:i=Z A+Z T)(hl:Z A+Z T+Z B<=1000000)(P:i<b)(At:b<=1000001)(Q:0<=x.at')(As:pJ T)
  (next:To (Er [] [37,39,40,41]) f324 (.full 1 (Io (GT [])) (bW R)) (BV f324 (isF s a b (i+1)) (bW (A++(mK (ltP s) T x++B))))):∀(k:Nat),k<=Z T->oG (ltP s) x T (Z T)=oG (ltP s) x T k->
  To (Er [] [37,39,40,41]) f324 (.full 1 (Io (GT [])) (bW R)) (G0 (stk f324 1) (isF s a b i++[(9,ii ((Z A+k:Nat):Int))]) (bW (A++(T.take k++x::(T.drop k++B))))):=by
 intro k;induction k with
 | zero=>
  intro M g;have e:mK (ltP s) T x++B=T.take 0++x::(T.drop 0++B):=by unfold mK;rw[g];simp[oG]
  rw[e]at next
  generalize pnv (A++(T.take 0++x::(T.drop 0++B)))=L at *
  subst N;exact tA
 | succ k w=>
  intro M g;have f:k<Z T:=o_;have z:=As _ (Aq f);have t:T.take (k+1)=T.take k++[T[k]]:=Ht f;have J:T.drop k=T[k]::T.drop (k+1):=Ac f;rw[aBS (Ab f)]at g;have S:=AV s h x T[k] Q z;have c:((Z A+(k+1):Nat):Int)-1=((Z A+k:Nat):Int):=o_;have C:A++(T.take (k+1)++x::(T.drop (k+1)++B))=(A++T.take k)++T[k]::([]++x::(T.drop (k+1)++B)):=by rw[t];simp only[Ag,Bx,Bk]
  obtain⟨p,r,_,q⟩:=FG (A++T.take k) [] (T.drop (k+1)++B) T[k] x (i:=Z A+k) (j:=Z A+(k+1)) q_ q_;have Be:(A++T.take k)++x::([]++T[k]::(T.drop (k+1)++B))=A++(T.take k++x::(T.drop k++B)):=by rw[J];simp only[Ag,Bx,Bk]
  have K:Z (pnv ((A++T.take k)++T[k]::([]++x::(T.drop (k+1)++B))))=Z A+Z T+1+Z B:=by simp;omega
  rw[Be]at q;rw[C];by_cases n:iW s x T[k]<0
  .have e:ltP s x T[k]=true:=bq n;rw[bu e]at g;have m:=w o_ g;dsimp only[bW]at m⊢;rw[<-q]at m;clear next w
   generalize iW s x T[k]=v at *
   generalize T[k]=y at *
   generalize pnv ((A++T.take k)++y::([]++x::(T.drop (k+1)++B)))=L at *
   obtain⟨j,o⟩:∃j,j=Z A+(k+1):=⟨_,rfl⟩
   obtain⟨l,d⟩:∃l,l=Z A+k:=⟨_,rfl⟩
   have F:j=l+1:=o_;have I:a<j:=o_;have G:j<Z L:=o_;have H:j<=1000000:=o_;rw[<-o]at c m r⊢;rw[<-d]at c m p;clear o d q C Be t J K g;refine gV ?_;refine aT λh=>?_
   repeat' first|refine pA ?_|refine⟨j,rfl,?_⟩|refine⟨_,r,?_⟩|refine⟨l,c,?_⟩|refine⟨_,p,?_⟩|exact rfl|refine lA ?_ ?_|intro h
   refine .p S ?_
   repeat' first|refine pA ?_|exact rfl|refine lA ?_ ?_|intro h
   repeat' first|refine pA ?_|refine⟨j,rfl,?_⟩|refine⟨_,r,?_⟩|refine⟨l,c,?_⟩|refine⟨_,p,?_⟩|refine Aa (by rw[Dq];omega) ?_|exact rfl|refine lA ?_ ?_|intro h
   refine To.part [0,1,2,3,8,9] [0] rfl rfl rfl ?_;rw[<-c]at m;exact m
  .have e:ltP s x T[k]=false:=bp n;rw[bt (by rw[e];decide)]at g;have u:mK (ltP s) T x++B=T.take k++T[k]::([]++x::(T.drop (k+1)++B)):=by unfold mK;rw[g,t];simp only[Ag,Bx,Bk]
   have u:A++(mK (ltP s) T x++B)=(A++T.take k)++T[k]::([]++x::(T.drop (k+1)++B)):=by rw[u,Ag]
   rw[u]at next
   clear w;dsimp only[bW]at next⊢
   generalize iW s x T[k]=v at *
   generalize T[k]=y at *
   generalize pnv ((A++T.take k)++y::([]++x::(T.drop (k+1)++B)))=L at *
   obtain⟨j,o⟩:∃j,j=Z A+(k+1):=⟨_,rfl⟩
   obtain⟨l,d⟩:∃l,l=Z A+k:=⟨_,rfl⟩
   have F:j=l+1:=o_;have I:a<j:=o_;have G:j<Z L:=o_;have H:j<=1000000:=o_;rw[<-o]at c r⊢;rw[<-d]at c p;clear o d q C Be t J K g u;exact tA
def aBM(s:Sta)(h:OrdOK s)(A B:ba)(a b:Nat)(j:a=Z A)(m:b<=1000000)(l:Z A+Z B<=1000000)(R:ba):∀(rest T:ba),R=A++(rest.foldl (mK (ltP s)) T++B)->b=Z A+Z T+Z rest->b+Z B<=1000000->pJ (T++rest)->
  To (Er [] [37,39,40,41]) f324 (.full 1 (Io (GT [])) (bW R)) (BV f324 (isF s a b (Z A+Z T)) (bW (A++(T++(rest++B)))))
 | [],T,hR,hlen,hB,hat=>by
  subst hR;dsimp only[bW,List.foldl_nil,Bk];generalize pnv (A++(T++B))=L at *
  obtain⟨i,g⟩:∃i,i=Z A+Z T:=⟨_,rfl⟩
  rw[<-g]at hlen⊢;have k:b=i:=by simpa using hlen
  exact tA
 | x::rest,T,hR,hlen,hB,hat=>by
  have f:b=Z A+Z T+Z rest+1:=by simp at hlen;omega
  have hp:=xH (ltP s) T x;have e:=hp.length_eq;have d:pJ (mK (ltP s) T x++rest):=hat.perm ((Gb.trans (Dv rest hp.symm)));have c:=aBM s h A B a b j m l R rest (mK (ltP s) T x) hR (by simp at e;omega) hB d;have n:Z A+Z (mK (ltP s) T x)=Z A+Z T+1:=by simp at e;omega
  rw[n]at c;have r:0<=x.at':=hat x s_;have o:pJ T:=λp hp=>hat p (Di _ hp);have c:=Y6 s h R A T (rest++B) x a b (Z A+Z T) j rfl q_ o_ o_ r o c (Z T) (Bc _) rfl;rw[List.take_length,List.drop_length,Bk]at c;dsimp only[bW]at c⊢;rw[Bx];generalize pnv (A++(T++x::(rest++B)))=L at *
  obtain⟨i,g⟩:∃i,i=Z A+Z T:=⟨_,rfl⟩
  rw[<-g]at c⊢;have q:i<b:=o_;exact tA
def Y5(s:Sta)(h:OrdOK s)(A S B:ba)(a b:Nat)(l:a=Z A)(i:b=Z A+Z S)(k:b+Z B<=1000000)(c:pJ S):
  ar 324 [.row 0 0,ii a,ii b,mQ s] (bW (A++(S++B))) (Io (GT [])) (bW (A++(srt (ltP s) S++B))):=by
 have h1:To (Er [] [37,39,40,41]) f324 (.full 1 (Io (GT [])) (bW (A++(srt (ltP s) S++B)))) (BV f324 [(0,.row 0 0),(1,ii a),(2,ii b),(3,mQ s),(8,ii ((a:Int)+1))] (bW (A++(S++B)))):=by
  cases S with
  | nil=>
   have e:srt (ltP s) []=[]:=rfl;rw[e];dsimp only[bW];generalize pnv (A++([]++B))=L at *
   simp at i;exact tA
  | cons x S=>
   simp at i;have:=aBM s h A B a b l o_ o_ (A++(srt (ltP s) (x::S)++B)) S [x] rfl q_ k c;have e:Z A+Z [x]=a+1:=by simp;omega
   rw[e]at this;exact this
 generalize A++(srt (ltP s) S++B)=R at *
 dsimp only[bW]at h1⊢;generalize pnv (A++(S++B))=L at *
 have j:a<=1000000:=o_;clear c;refine eA (Er [] [37,39,40,41]) f324 1 λ_=>gV ?_
 have d:inR Is ((a:Int)+1):=⟨by simp only[bS];omega,by simp only[aX];omega⟩
 refine Fu (Aa d ?_);exact zW
def R1(R Y:ba)(a b N:Nat)(cv:aa):∀(At V An M:ba) (i:Nat),Z At=Z V->i+Z At=N->a+i=Z An->b+i=Z An+Z At+Z M->Z An+Z At+Z M+Z V+Z Y<=1000000->R=An++(V++(M++(At++Y)))->
  To (Er [] [16,20,21,22,23]) f366 (.full 1 (Io (GT [])) (bW R)) (BV f366 [(0,.row 0 0),(1,ii a),(2,ii b),(3,ii N),(10,ii i)] (bW (An++(At++(M++(V++Y))))))
 | [],[],An,M,i,hl,hN,hi,hj,hb,hR=>by
  subst hR;dsimp only[bW,Bk];generalize pnv (An++(M++Y))=L at *
  have l:i=N:=by simpa using hN
  subst l;exact tA
 | x::At,y::V,An,M,i,hl,hN,hi,hj,hb,hR=>by
  have e:Z At=Z V:=by simpa using hl
  simp at hN hj hb;have k:=R1 R Y a b N cv At V (An++[y]) (M++[x]) (i+1) e o_ q_ q_ q_ (by rw[hR];simp only[Ag,Bx,Bk]);obtain⟨p,q,n,_⟩:=FG An (At++M) (V++Y) x y (i:=a+i) (j:=b+i) hi q_;have r:An++y::(At++M++x::(V++Y))=(An++[y])++(At++((M++[x])++(V++Y))):=by simp only[Ag,Bx,Bk]
  have s:An++(x::At++(M++(y::V++Y)))=An++x::(At++M++y::(V++Y)):=by simp only[Ag,Bx,Bk]
  rw[r]at n;rw[s];dsimp only[bW]at k⊢;rw[<-n]at k;have g:Z (pnv (An++x::(At++M++y::(V++Y))))=Z An+Z At+Z M+Z V+Z Y+2:=by simp;omega
  generalize pnv (An++x::(At++M++y::(V++Y)))=L at *
  have hiN:i<N:=o_
  obtain⟨c,d⟩:∃c,c=a+i:=⟨_,rfl⟩
  obtain⟨j,f⟩:∃j,j=b+i:=⟨_,rfl⟩
  have m:(a:Int)+i=(c:Int):=o_;have o:(b:Int)+i=(j:Int):=o_;have v:j<Z L:=o_;have t:c<Z L:=o_;have w:j<=1000000:=o_;have u:c<=1000000:=o_;rw[<-d]at k p;rw[<-f]at k q;clear d f hj hi hb g s r hR hN hl e n;refine gV ?_;refine aT λh=>?_
  repeat' first|refine pA ?_|refine⟨j,o,?_⟩|refine⟨_,q,?_⟩|refine⟨c,m,?_⟩|refine⟨_,p,?_⟩|refine Aa (by rw[Dq];omega) ?_|exact rfl|refine lA ?_ ?_|intro h
  exact zW
def XI(s:Sta)(An At M V Y:ba)(a b N:Nat)(e:a=Z An)(d:N=Z At)(c:Z At=Z V)(h:b=Z An+Z At+Z M)(hl:Z An+Z At+Z M+Z V+Z Y<=1000000):
  ar 366 [.row 0 0,ii a,ii b,ii N,mQ s] (bW (An++(At++(M++(V++Y))))) (Io (GT [])) (bW (An++(V++(M++(At++Y))))):=by
 have h1:=R1 _ Y a b N (mQ s) At V An M 0 c o_ o_ o_ hl rfl;dsimp only[bW]at h1⊢;generalize pnv (An++(At++(M++(V++Y))))=L at *
 generalize pnv (An++(V++(M++(At++Y))))=R at *
 refine eA (Er [] [16,20,21,22,23]) f366 1 λ_=>?_;exact zW
def aGq(s:Sta)(R:ba)(m:Nat)(hm:m<=1000000):∀(n:Nat) (An At V Y:ba) (i j:Nat),i+j<=n->i=Z At->j=Z V->0<i->0<j->m=Z An+i->Z An+Z At+Z V+Z Y<=1000000->R=An++(V++(At++Y))->
  To E f356 (.full 1 (Io (GT [])) (bW R)) (BV f356 [(0,.row 0 0),(2,ii m),(4,mQ s),(10,ii i),(11,ii j)] (bW (An++(At++(V++Y))))):=by
 intro n;induction n with
 | zero=>intro An At V Y i j h;omega
 | succ n k=>
  intro An At V Y i j C q w Be F B hl g;by_cases u:i=j
  .have f:((m:Int)-i)=((m-i:Nat):Int):=o_;have h1:=XI s An At [] V Y (m-i) m i o_ q o_ q_ q_;rw[Bk,Bk,<-f,<-g]at h1;have z:((i:Int) !=(j:Int))=false:=by rw[u];simp
   dsimp only[bW]at h1⊢;generalize pnv (An++(At++(V++Y)))=L at *
   generalize pnv R=K at *
   clear g hl k;exact tA
  .have z:((i:Int) !=(j:Int))=true:=by simp;omega
   by_cases y:j<i
   .obtain ⟨d,a,rfl,e⟩:∃d a,At=d++a/\Z d=j:=⟨At.take j,At.drop j,(Bn j At).symm,by simp;omega⟩
    have v:i=j+Z a:=by rw[q,Ah,e]
    have f:((m:Int)-i)=((m-i:Nat):Int):=o_;have p:((i:Int)-j)=((i-j:Nat):Int):=o_;rw[Ah]at hl;have h1:=XI s An d a V Y (m-i) m j o_ e.symm o_ o_ o_;have l:=k (An++V) a d Y (i-j) j o_ o_ o_ o_ o_ (by rw[Ah];omega) (by rw[Ah];omega) (by rw[g];simp only[Ag]);rw[<-f]at h1;rw[<-p,Ag]at l;rw[Ag d a];dsimp only[bW]at h1 l⊢;generalize pnv (An++(d++(a++(V++Y))))=L at *
    generalize pnv (An++(V++(a++(d++Y))))=K at *
    have r:i<=1000000:=o_;clear g hl k f p q w v e;exact tA
   .obtain ⟨c,b,rfl,o⟩:∃c b,V=c++b/\Z b=i:=⟨V.take (j-i),V.drop (j-i),(Bn (j-i) V).symm,by simp;omega⟩
    have t:j=Z c+i:=by rw[w,Ah,o]
    have f:((m:Int)-i)=((m-i:Nat):Int):=o_;have p:((j:Int)-i)=((j-i:Nat):Int):=o_;have x:((m:Int)+j-i)=((m+(j-i):Nat):Int):=o_;rw[Ah]at hl;have h1:=XI s An At c b Y (m-i) (m+(j-i)) i o_ q o_ o_ o_;have l:=k An b c (At++Y) i (j-i) o_ o_ o_ o_ o_ o_ (by rw[Ah];omega) (by rw[g];simp only[Ag]);rw[<-f,<-x]at h1;rw[<-p]at l;rw[Ag c b];dsimp only[bW]at h1 l⊢;generalize pnv (An++(At++(c++(b++Y))))=L at *
    generalize pnv (An++(b++(c++(At++Y))))=K at *
    have A:j<=1000000:=o_;have r:i<=1000000:=o_;clear g hl k f p x q w t o;exact tA
def aPF(s:Sta)(An At V Y:ba)(a m b:Nat)(n:a=Z An)(hm:m=a+Z At)(o:b=m+Z V)(e:At≠[])(j:V≠[])(hl:b+Z Y<=1000000):
  ar 356 [.row 0 0,ii a,ii m,ii b,mQ s] (bW (An++(At++(V++Y)))) (Io (GT [])) (bW (An++(V++(At++Y)))):=by
 have p:=Dd.2 e;have l:=Dd.2 j;have h1:=aGq s _ m o_ _ An At V Y (m-a) (b-m) (Bc _) o_ o_ o_ o_ o_ o_ rfl;have k:(m:Int)-a=((m-a:Nat):Int):=o_;have c:(b:Int)-m=((b-m:Nat):Int):=o_;rw[<-k,<-c]at h1;dsimp only[bW]at h1⊢;generalize pnv (An++(At++(V++Y)))=L at *
 generalize pnv (An++(V++(At++Y)))=R at *
 have h:a<=m:=o_;have i:m<=b:=o_;have d:b<=1000000:=o_;refine eA E f356 1 λ_=>?_;exact zW
def PY(lo a:Nat):((lo:Int)+a).fdiv (2 ^ Cz 1)=(((lo+a) / 2:Nat):Int):=by have e:(2:Int) ^ Cz 1=2:=rfl;rw[e,Ef _ d_];omega
def aBU{c:Nat}(h:c<=1000000):inR Is (c:Int):=Aa (by simp only[bS];omega) (by simp only[aX];omega)
def N4{L:ba}{h:Nat}{y:Pn}(a:L[h]? =X y):(pnv L)[h]? =X y.av:=by simp[a]
def aPt(s:Sta)(hs:OrdOK s)(L:ba)(g:pJ L)(z:Z L<=1000000)(a:Nat)(u:Pn)(o:L[a]? =X u)(P:Nat->Bool)(n:∀h y,L[h]? =X y->P h=ltP s y u)(R:ba)(k:Nat)
  (next:To (Er [] [61,63,64,65,113,115,116,117]) f325 (.full 1 (Io (GT [])) (bW R)) (G0 (stk f325 1) [(0,.row 0 0),(10,ii k),(13,ii a)] (bW L))):∀(f lo d:Nat),d-lo<=f->lo<=d->d<=Z L->bis P f lo d=k->
  To (Er [] [61,63,64,65,113,115,116,117]) f325 (.full 1 (Io (GT [])) (bW R)) (BV f325 [(0,.row 0 0),(1,ii a),(4,mQ s),(10,ii lo),(11,ii d)] (bW L))
 | 0,lo,d,hf,h1,h2,b=>by
  have e:lo=d:=o_;subst e;have b:lo=k:=b;subst b;exact zqda2
 | f+1,lo,d,hf,h1,h2,b=>by
  by_cases j:lo<d
  .unfold bis at b;rw[bu j]at b
   obtain⟨c,C⟩:∃c,c=(lo+d) / 2:=⟨_,rfl⟩
   rw[<-C]at b;have i:c<Z L:=o_;have B:L[c]? =X L[c]:=Ab i;have l:=n c _ B;have m:=AV s hs L[c] u (g _ (Aq i)) (g _ (Ax o));have w:=N4 B;have x:=N4 o;have q:a<Z L:=(Ad.1 o).1;have hm:=PY lo d;rw[<-C]at hm;have A:=aBU (show c<=1000000 by omega);have Be:c<Z (pnv L):=by rw[wS];exact i
   have F:a<Z (pnv L):=by rw[wS];exact q
   generalize L[c]=y at *
   cases p:P c with
   | true=>
    rw[p,bu rfl]at b;have t:iW s y u<0:=bn (l.symm.trans p);have r:=aPt s hs L g z a u o P n R k next f (c+1) d o_ o_ h2 b
    generalize iW s y u=v at *
    dsimp only[bW]at r⊢;generalize pnv L=K at *
    clear n next
    refine gV ?_;refine aT λh=>?_
    repeat' first|refine pA ?_|(rw[hm];refine Fu (Aa A ?_))|refine⟨c,rfl,?_⟩|refine⟨_,w,?_⟩|refine⟨a,rfl,?_⟩|refine⟨_,x,?_⟩|refine .p m ?_|exact rfl|refine lA ?_ ?_|intro h
    exact zW
   | false=>
    rw[p,bt d_]at b;have t:¬ iW s y u<0:=bm (l.symm.trans p);have r:=aPt s hs L g z a u o P n R k next f lo c o_ o_ o_ b
    generalize iW s y u=v at *
    dsimp only[bW]at r⊢;generalize pnv L=K at *
    clear n next
    refine gV ?_;refine aT λh=>?_
    repeat' first|refine pA ?_|(rw[hm];refine Fu (Aa A ?_))|refine⟨c,rfl,?_⟩|refine⟨_,w,?_⟩|refine⟨a,rfl,?_⟩|refine⟨_,x,?_⟩|refine .p m ?_|exact rfl|refine lA ?_ ?_|intro h
    exact zW
  .unfold bis at b;rw[bt j]at b;subst b;exact zqda2
def mv1(R W:ba)(u:Pn):∀(V A:ba) (i k:Nat),k=Z A->i=Z A+Z V+1->Z A+Z V+Z W<=999999->R=A++(V++u::W)->
  To (Er [] [61,63,64,65,113,115,116,117]) f325 (.full 1 (Io (GT [])) (bW R)) (G0 (stk f325 1) [(0,.row 0 0),(10,ii i),(13,ii k)] (bW (A++u::(V++W))))
 | [],A,i,k,hk,hi,hl,hR=>by
  subst hR;dsimp only[bW,Bk];generalize pnv (A++u::W)=L at *
  have e:i<=1000000:=o_;have d:i=k+1:=by simp at hi;omega
  exact tA
 | y::V,A,i,k,hk,hi,hl,hR=>by
  simp at hi hl;have c:=mv1 R W u V (A++[y]) i (k+1) q_ q_ q_ (by rw[hR];simp only[Ag,Bx,Bk]);obtain⟨n,g,f,_⟩:=FG A [] (V++W) u y (i:=k) (j:=k+1) hk q_;have l:A++y::([]++u::(V++W))=(A++[y])++u::(V++W):=by simp only[Ag,Bx,Bk]
  have m:A++u::(y::V++W)=A++u::([]++y::(V++W)):=by simp only[Ag,Bx,Bk]
  rw[l]at f;rw[m];dsimp only[bW]at c⊢;rw[<-f]at c;have a:Z (pnv (A++u::([]++y::(V++W))))=Z A+Z V+Z W+2:=by simp;omega
  generalize pnv (A++u::([]++y::(V++W)))=L at *
  obtain⟨j,s⟩:∃j,j=k+1:=⟨_,rfl⟩
  rw[<-s]at c g;have b:(k:Int)+1=(j:Int):=o_;have o:j<Z L:=o_;have p:k<Z L:=o_;have r:j<=1000000:=o_;have q:k<=1000000:=o_;have e:i<=1000000:=o_;have d:k+1<i:=o_;rw[<-b]at c;clear a m l hR hl f hk hi;refine gV ?_
  repeat' first|refine pA ?_|refine aT λh=>?_|refine⟨j,b,?_⟩|refine⟨_,g,?_⟩|refine⟨k,rfl,?_⟩|refine⟨_,n,?_⟩|refine Aa (by rw[Dq];omega) ?_|exact rfl|refine lA ?_ ?_|intro h
  exact zW
def aPs(s:Sta)(hs:OrdOK s)(L:ba)(i:pJ L)(C:Z L<=1000000)(m:Nat)(u:Pn)(q:L[m]? =X u)(P:Nat->Bool)(p:∀h y,L[h]? =X y->P h= !ltP s u y)(R:ba)(k:Nat)
  (next:To (Er [] [61,63,64,65,113,115,116,117]) f325 (.full 1 (Io (GT [])) (bW R)) (G0 (stk f325 3) [(0,.row 0 0),(14,ii k),(17,ii m)] (bW L))):∀(f lo d:Nat),d-lo<=f->lo<=d->d<=Z L->bis P f lo d=k->
  To (Er [] [61,63,64,65,113,115,116,117]) f325 (.full 1 (Io (GT [])) (bW R)) (G0 (stk f325 2) [(0,.row 0 0),(2,ii m),(4,mQ s),(14,ii lo),(15,ii d)] (bW L))
 | 0,lo,d,hf,h1,h2,a=>by
  have e:lo=d:=o_;subst e;have a:lo=k:=a;subst a;exact zqda2
 | f+1,lo,d,hf,h1,h2,a=>by
  by_cases n:lo<d
  .unfold bis at a;rw[bu n]at a
   obtain⟨c,G⟩:∃c,c=(lo+d) / 2:=⟨_,rfl⟩
   rw[<-G]at a;have l:c<Z L:=o_;have F:L[c]? =X L[c]:=Ab l;have g:=p c _ F;have o:=AV s hs u L[c] (i _ (Ax q)) (i _ (Aq l));have A:=N4 F;have B:=N4 q;have z:m<Z L:=(Ad.1 q).1;have hm:=PY lo d;rw[<-G]at hm;have Be:=aBU (show c<=1000000 by omega);have H:c<Z (pnv L):=by rw[wS];exact l
   have I:m<Z (pnv L):=by rw[wS];exact z
   generalize L[c]=y at *
   cases r:P c with
   | true=>
    rw[r,bu rfl]at a;have j:ltP s u y=false:=by rw[r]at g;simpa using g.symm
    have x:¬ iW s u y<0:=bm j;have w:(!decide (iW s u y<0))=true:=congrArg (λb=>!b) j;have t:=aPs s hs L i C m u q P p R k next f (c+1) d o_ o_ h2 a
    clear j;generalize iW s u y=v at *
    dsimp only[bW]at t⊢;generalize pnv L=K at *
    clear p next
    refine gV ?_;refine aT λh=>?_
    repeat' first|refine pA ?_|(rw[hm];refine Fu (Aa Be ?_))|refine⟨m,rfl,?_⟩|refine⟨_,B,?_⟩|refine⟨c,rfl,?_⟩|refine⟨_,A,?_⟩|refine .p o ?_|refine Aa (λ_=>?_) (λh=>bv (w.symm.trans h) d_)|exact rfl|refine lA ?_ ?_|intro h
    exact zW
   | false=>
    rw[r,bt d_]at a;have j:ltP s u y=true:=by rw[r]at g;simpa using g.symm
    have x:iW s u y<0:=bn j;have w:(!decide (iW s u y<0))=false:=congrArg (λb=>!b) j;have t:=aPs s hs L i C m u q P p R k next f lo c o_ o_ o_ a
    clear j;generalize iW s u y=v at *
    dsimp only[bW]at t⊢;generalize pnv L=K at *
    clear p next
    refine gV ?_;refine aT λh=>?_
    repeat' first|refine pA ?_|(rw[hm];refine Fu (Aa Be ?_))|refine⟨m,rfl,?_⟩|refine⟨_,B,?_⟩|refine⟨c,rfl,?_⟩|refine⟨_,A,?_⟩|refine .p o ?_|refine Aa (λh=>bv (w.symm.trans h) d_) (λ_=>?_)|exact rfl|refine lA ?_ ?_|intro h
    exact zW
  .unfold bis at a;rw[bt n]at a;subst a;exact zqda2
def mv2(R:ba)(u:Pn)(A:ba)(i:Nat)(B:i=Z A):∀(n:Nat) (V W:ba) (k:Nat),Z V=n->k=Z A+n->Z A+n+Z W<=999999->R=A++u::(V++W)->
  To (Er [] [61,63,64,65,113,115,116,117]) f325 (.full 1 (Io (GT [])) (bW R)) (G0 (stk f325 3) [(0,.row 0 0),(14,ii i),(17,ii k)] (bW (A++(V++u::W)))):=by
 intro n;induction n with
 | zero=>
  intro V W k c p hl e;cases Cm.1 c;subst e;dsimp only[bW,Bk];generalize pnv (A++u::W)=L at *
  have f:k=i:=o_;have v:i<=1000000:=o_;exact tA
 | succ n m=>
  intro V W k c p hl e
  obtain⟨V,y,rfl⟩:∃C y,V=C++[y]:=⟨V.dropLast,V.getLast (by intro h;rw[h]at c;cases c),(Lb _).symm⟩
  have g:Z V=n:=by simpa using c
  have d:=m V (y::W) (k-1) g o_ q_ (by rw[e];simp only[Ag,Bx,Bk]);obtain⟨o,t,_,l⟩:=FG (A++V) [] W y u (i:=k-1) (j:=k) q_ q_;have q:A++V++u::([]++y::W)=A++(V++u::(y::W)):=by simp only[Ag,Bx,Bk]
  have r:A++(V++[y]++u::W)=A++V++y::([]++u::W):=by simp only[Ag,Bx,Bk]
  rw[q]at l;rw[r];dsimp only[bW]at d⊢;rw[<-l]at d;have a:Z (pnv (A++V++y::([]++u::W)))=Z A+Z V+Z W+2:=by simp;omega
  generalize pnv (A++V++y::([]++u::W))=L at *
  obtain⟨j,s⟩:∃j,j=k-1:=⟨_,rfl⟩
  rw[<-s]at d o;have b:(k:Int)-1=(j:Int):=o_;have w:j<Z L:=o_;have x:k<Z L:=o_;have z:k<=1000000:=o_;have Be:k=j+1:=o_;have f:i<k:=o_;rw[<-b]at d;clear a r q e hl l p B m s;refine gV ?_
  repeat' first|refine pA ?_|refine aT λh=>?_|refine⟨j,b,?_⟩|refine⟨_,o,?_⟩|refine⟨k,rfl,?_⟩|refine⟨_,t,?_⟩|refine Aa (by rw[Dq];omega) ?_|exact rfl|refine lA ?_ ?_|intro h
  exact zW
abbrev aLe(K:az):aw:=[.row 0 11 104 K]
def Stp(f:Nat)(s:Sta)(x y z:Nat)(K a:az):Prop:=
 (x<y/\y<z/\aA Tryz.prog f [.row 0 0,ii x,ii y,ii z,mQ s] (aLe K) (Io (GT [])) (aLe a))\/(x<y/\¬ y<z/\K=a)\/(¬ x<y/\K=a)
abbrev aKH(s:Sta)(a m b mid n c d:Nat)(p:Int):au:=[(0,.row 0 0),(1,ii a),(2,ii m),(3,ii b),(4,mQ s),(18,ii mid),(19,ii n),(20,ii c),(21,ii d),(22,ii p)]
set_option maxHeartbeats 8000000 in
def aFG(s:Sta)(a m b mid n st c:Nat)(p:Int)(B:n<=2000000)(t:n=c+st)(d h k j:az)(A:Stp 356 s st m c d h)(z:Stp 325 s a st mid h k)(y:Stp 325 s mid c b k j):
  To (Er [] [61,63,64,65,113,115,116,117]) f325 (.full 1 (Io (GT [])) (aLe j)) (G0 (stk f325 4) (aKH s a m b mid n st st p) (aLe d)):=by
 obtain⟨i,v⟩:∃i:Int,i=(c:Int):=⟨_,rfl⟩
 have o:((n:Int)-st)=(c:Int):=o_;rcases A with⟨e,x,r⟩|⟨e,x,rfl⟩|⟨e,rfl⟩<;>rcases z with⟨g,w,C⟩|⟨g,w,rfl⟩|⟨g,rfl⟩<;>rcases y with⟨l,u,q⟩|⟨l,u,rfl⟩|⟨l,rfl⟩
 all_goals (try rw[<-o]at r)
 all_goals (try rw[<-o]at q)
 all_goals (try (exfalso;omega))
 all_goals
  exact tA
def aPr(s:Sta)(hs:OrdOK s)(L:ba)(o:pJ L)(As:Z L<=1000000)(a m b mid n p j i:Nat)(P:Nat->Bool)(A:∀c,j<=c->c<i->c<=p/\∃y z,L[p-c]? =X y/\L[c]? =X z/\P c= !ltP s y z)(R:ba)(k:Nat)
  (next:To (Er [] [61,63,64,65,113,115,116,117]) f325 (.full 1 (Io (GT [])) (bW R)) (G0 (stk f325 4) (aKH s a m b mid n k k p) (bW L))):∀(f lo g:Nat),g-lo<=f->lo<=g->j<=lo->g<=i->bis P f lo g=k->
  To (Er [] [61,63,64,65,113,115,116,117]) f325 (.full 1 (Io (GT [])) (bW R)) (G0 (stk f325 4) (aKH s a m b mid n lo g p) (bW L))
 | 0,lo,g,hf,h1,h2,h3,d=>by
  have e:lo=g:=o_;subst e;have d:lo=k:=d;subst d;exact next
 | f+1,lo,g,hf,h1,h2,h3,d=>by
  by_cases u:lo<g
  .unfold bis at d;rw[bu u]at d
   obtain⟨c,S⟩:∃c,c=(lo+g) / 2:=⟨_,rfl⟩
   rw[<-S]at d;obtain⟨W,y,z,M,J,l⟩:=A c o_ o_;have x:=AV s hs y z (o _ (Ax M)) (o _ (Ax J));have C:=N4 M;have N:=N4 J;have F:c<Z L:=(Ad.1 J).1;have w:p-c<Z L:=(Ad.1 M).1;have hm:=PY lo g;rw[<-S]at hm;have Q:=aBU (show c<=1000000 by omega);have T:c<Z (pnv L):=by rw[wS];exact F
   have H:p-c<Z (pnv L):=by rw[wS];exact w
   obtain⟨q,V⟩:∃q,q=p-c:=⟨_,rfl⟩
   have t:(p:Int)-c=(q:Int):=o_;rw[<-V]at C H w;have At:p<=2000000:=o_;cases B:P c with
   | true=>
    rw[B,bu rfl]at d;have r:ltP s y z=false:=by rw[B]at l;simpa using l.symm
    have I:¬ iW s y z<0:=bm r;have G:(!decide (iW s y z<0))=true:=congrArg (λb=>!b) r;have Be:=aPr s hs L o As a m b mid n p j i P A R k next f (c+1) g o_ o_ o_ h3 d
    clear r;generalize iW s y z=v at *
    dsimp only[bW]at Be⊢;generalize pnv L=K at *
    clear A next
    refine gV ?_;refine aT λh=>?_
    repeat' first|refine pA ?_|(rw[hm];refine Fu (Aa Q ?_))|refine⟨q,t,?_⟩|refine⟨_,C,?_⟩|refine⟨c,rfl,?_⟩|refine⟨_,N,?_⟩|refine .p x ?_|refine Aa (λ_=>?_) (λh=>bv (G.symm.trans h) d_)|exact rfl|refine lA ?_ ?_|intro h
    exact zW
   | false=>
    rw[B,bt d_]at d;have r:ltP s y z=true:=by rw[B]at l;simpa using l.symm
    have I:iW s y z<0:=bn r;have G:(!decide (iW s y z<0))=false:=congrArg (λb=>!b) r;have Be:=aPr s hs L o As a m b mid n p j i P A R k next f lo c o_ o_ h2 o_ d
    clear r;generalize iW s y z=v at *
    dsimp only[bW]at Be⊢;generalize pnv L=K at *
    clear A next
    refine gV ?_;refine aT λh=>?_
    repeat' first|refine pA ?_|(rw[hm];refine Fu (Aa Q ?_))|refine⟨q,t,?_⟩|refine⟨_,C,?_⟩|refine⟨c,rfl,?_⟩|refine⟨_,N,?_⟩|refine .p x ?_|refine Aa (λh=>bv (G.symm.trans h) d_) (λ_=>?_)|exact rfl|refine lA ?_ ?_|intro h
    exact zW
  .unfold bis at d;rw[bt u]at d;subst d;have e:lo=g:=o_;subst e;exact next
def thP(s:Sta)(L:ba)(p c:Nat):Bool:=match L[p-c]?,L[c]? with
 | some y,some z=>!ltP s y z
 | _,_=>U
def SL(An A:ba)(i:Nat)(h:Z An<=i):(An++A)[i]? =A[i-Z An]?:=Au h
def aT9(s:Sta)(An At V Y:ba)(a m b mid n lo d:Nat)(H:a=Z An)(hm:m=a+Z At)(T:b=m+Z V)(hU:0<Z At)(hV:0<Z V)(r:mid=(a+b) / 2)(Q:n=mid+m)
  (i:lo=if mid<m then n-b else a) (j:d=if mid<m then mid else m) (L:Tot (ltP s) (At++V)) (k:Nat) (F:bis (thP s (An++(At++(V++Y))) (n-1)) (d-lo) lo d=k):
  (∀c,lo<=c->c<d->c<=n-1/\∃y z,(An++(At++(V++Y)))[n-1-c]? =X y/\(An++(At++(V++Y)))[c]? =X z/\thP s (An++(At++(V++Y))) (n-1) c= !ltP s y z)/\lo<=d/\a<=k/\k<=m/\m<=n-k/\n-k<=b/\k<=n/\
  (k-a=0\/Z V<=n-k-m\/ltO (ltP s) At[k-a-1]? V[n-k-m]?)/\(n-k-m=0\/Z At<=k-a\/ltO (ltP s) V[n-k-m-1]? At[k-a]?):=by
 have As:∀c,a<=c->c<m->(An++(At++(V++Y)))[c]? =At[c-a]?:=λc h1 e=>by rw[SL _ _ _ o_,Ai o_,H]
 have G:∀c,m<=c->c<b->(An++(At++(V++Y)))[c]? =V[c-m]?:=λc h1 e=>by rw[SL _ _ _ o_,SL _ _ _ o_,Ai o_];congr 1;omega
 have o:lo<=d/\a<=lo/\d<=m/\n-d<=b/\m<=n-d/\n-lo<=b/\d<=n-1+1/\(lo=a\/n-lo=b)/\(d=m\/n-d=m):=by
  by_cases h:mid<m
  .rw [bu h]at i j;omega
  .rw [bt h]at i j;omega
 obtain⟨B,P,S,W,R,Am,l7,Be,J⟩:=o;have g:∀c,lo<=c->c<d->∃y z,V[n-1-c-m]? =X y/\At[c-a]? =X z/\(An++(At++(V++Y)))[n-1-c]? =X y/\(An++(At++(V++Y)))[c]? =X z/\thP s (An++(At++(V++Y))) (n-1) c= !ltP s y z:=λc h1 e=>by have w:V[n-1-c-m]? =X V[n-1-c-m]:=Ab o_;have C:At[c-a]? =X At[c-a]:=Ab o_;have x:=(G (n-1-c) o_ o_).trans w;have u:=(As c o_ o_).trans C;refine⟨_,_,w,C,x,u,?_⟩;unfold thP;rw[x,u]
 have l:∀y∈V,∀z∈At,ltP s y z=U->ltP s z y=true:=λy I z hz h=>by
  rcases(Ce.1 L).2.2 z hz y I with q|q
  .exact q
  .rw [q]at h;cases h
 obtain⟨M,K,v,t⟩:=Q5 (thP s (An++(At++(V++Y))) (n-1)) (d-lo) lo d (Bc _) B;rw[F]at M K v t;refine⟨λc h1 e=>⟨by omega,?_⟩,B,by omega,by omega,by omega,by omega,by omega,?_,?_⟩
 .obtain ⟨y,z,_,_,h3,N,f⟩:=g c h1 e;exact⟨y,z,h3,N,f⟩
 .rcases v with h|h
  .rcases Be with e|e
   .left;omega
   .right;left;omega
  .by_cases A:k=lo
   .rcases Be with e|e
    .left;omega
    .right;left;omega
   .obtain ⟨y,z,h1,e,_,_,f⟩:=g (k-1) o_ o_;rw[h]at f;have p:ltP s y z=false:=by simpa using f.symm
    right;right;refine⟨z,y,?_,?_,l y (Ax h1) z (Ax e) p⟩
    .rw [<-e];congr 1;omega
    .rw [<-h1];congr 1;omega
 .by_cases A:k=d
  .rcases J with e|e
   .right;left;omega
   .left;omega
  .obtain ⟨y,z,h1,e,_,_,f⟩:=g k o_ o_;rcases t with h|h
   .exact bv h A
   .rw [h]at f;have p:ltP s y z=true:=by simpa using f.symm
    right;right;refine⟨y,z,?_,?_,p⟩
    .rw [<-h1];congr 1;omega
    .rw [<-e]
def aTj(s:Sta)(V:ba)(u:Pn)(P:Nat->Bool)(o m b k:Nat)(p:b=m+Z V)(n:Up (ltP s) V)(l:Tot (ltP s) (u::V))(i:∀h y,m<=h->V[h-m]? =X y->(P h=O->ltP s y u=O)/\(P h=U->ltP s u y=O))(j:bis P (b-m) m b=k):
  m<=k/\k<=b/\V.take (k-m)++u::V.drop (k-m)=srt (ltP s) (u::V):=by
 obtain⟨c,g,f,d⟩:=Q5 P (b-m) m b (Bc _) o_;rw[j]at c g f d;refine⟨c,g,aQm (jA s) n l ?_ ?_⟩
 .by_cases a:k=m
  .left;omega
  .have e:V[k-m-1]? =X V[k-m-1]:=Ab o_;rcases f with h|h
   .exact bv h a
   .exact .inr ⟨_,_,e,rfl,(i (k-1) _ o_ (by rw[<-e];congr 1;omega)).1 h⟩
 .by_cases a:k=b
  .left;omega
  .have e:V[k-m]? =X V[k-m]:=Ab o_;rcases d with h|h
   .exact bv h a
   .exact .inr ⟨_,_,rfl,e,(i k _ c e).2 h⟩
def aJX(An A:ba)(u:Pn){a:Nat}(b:a=Z An):(An++u::A)[a]? =X u:=by subst b;simp
def aKG(s:Sta)(hs:OrdOK s)(An V Y:ba)(u:Pn)(a m b:Nat)(w:a=Z An)(hm:m=a+1)(B:b=m+Z V)(hl:b+Z Y<=999000)(d:pJ (An++(u::(V++Y))))(x:Up (ltP s) V)(l:Tot (ltP s) (u::V)):
  ar 325 [.row 0 0,ii a,ii m,ii b,mQ s] (bW (An++(u::(V++Y)))) (Io (GT [])) (bW (An++(srt (ltP s) (u::V)++Y))):=by
 have v:∀h,m<=h->h<b->(An++(u::(V++Y)))[h]? =V[h-m]?:=λh h1 i=>by rw[SL _ _ _ o_,show h-Z An=(h-m)+1 by omega,Gp,Ai o_]
 obtain⟨P,o⟩:∃P:Nat->Bool,∀h y,(An++(u::(V++Y)))[h]? =X y->P h=ltP s y u:=⟨λh=>match (An++(u::(V++Y)))[h]? with|some y=>ltP s y u|none=>U,λh y e=>by simp only[e]⟩
 obtain⟨k,j⟩:∃k,bis P (b-m) m b=k:=⟨_,rfl⟩
 have c:∀y∈V,ltP s u y=O\/ltP s y u=true:=λy z=>(Bt.1 l).1 y z
 obtain⟨G,I,p⟩:=aTj s V u P 0 m b k B x l (λh y h1 i=>by
  have n:h<b:=by have:=(Ad.1 i).1;omega
  rw[o h y ((v h h1 n).trans i)];refine⟨id,λh3=>?_⟩;rcases c y (Ax i)with q|q
  .exact q
  .rw [q]at h3;cases h3) j
 have r:An++(srt (ltP s) (u::V)++Y)=An++(V.take (k-m)++u::(V.drop (k-m)++Y)):=by rw[<-p];simp only[Ag,Bx]
 have t:An++(u::(V++Y))=An++u::(V.take (k-m)++(V.drop (k-m)++Y)):=by rw[<-Ag (V.take _),Bn]
 have n1:=mv1 _ (V.drop (k-m)++Y) u (V.take (k-m)) An k a w q_ q_ r;rw[<-t]at n1;have n2:=aPt s hs _ d q_ a u (aJX An _ u w) P o _ k n1 _ m b (Bc _) o_ q_ j;have H:((m:Int)-a==1)=true:=by rw[hm];simp;omega
 dsimp only[bW]at n2⊢;generalize pnv (An++(u::(V++Y)))=L at *
 generalize pnv (An++(srt (ltP s) (u::V)++Y))=R at *
 have F:m<=b:=o_;have C:b<=1000000:=o_;have Be:a<=m:=o_;clear n1 r t p v o c d l x j;exact zqda7
def aKF(s:Sta)(hs:OrdOK s)(An At Y:ba)(v:Pn)(a m b:Nat)(B:a=Z An)(hm:m=a+Z At)(Be:b=m+1)(I:Z At≠1)(hl:b+Z Y<=999000)(i:pJ (An++(At++(v::Y))))(z:Up (ltP s) At)(c:Tot (ltP s) (At++[v])):
  ar 325 [.row 0 0,ii a,ii m,ii b,mQ s] (bW (An++(At++(v::Y)))) (Io (GT [])) (bW (An++(srt (ltP s) (At++[v])++Y))):=by
 have r:srt (ltP s) (At++[v])=srt (ltP s) (v::At):=aFP (jA s) c;rw[r];have c:Tot (ltP s) (v::At):=c.perm (Dx);have x:∀h,a<=h->h<m->(An++(At++(v::Y)))[h]? =At[h-a]?:=λh h1 l=>by rw[SL _ _ _ o_,Ai o_,B]
 obtain⟨P,p⟩:∃P:Nat->Bool,∀h y,(An++(At++(v::Y)))[h]? =X y->P h= !ltP s v y:=⟨λh=>match (An++(At++(v::Y)))[h]? with|some y=>!ltP s v y|none=>U,λh y e=>by simp only[e]⟩
 obtain⟨k,n⟩:∃k,bis P (m-a) a m=k:=⟨_,rfl⟩
 have d:∀y∈At,ltP s v y=O\/ltP s y v=true:=λy C=>(Bt.1 c).1 y C
 obtain⟨J,M,t⟩:=aTj s At v P 0 a m k hm z c (λh y h1 l=>by
  have o:h<m:=by have:=(Ad.1 l).1;omega
  rw[p h y ((x h h1 o).trans l)];refine⟨λh3=>?_,λh3=>by simpa using h3⟩;rcases d y (Ax l)with q|q
  .rw [q]at h3;cases h3
  .exact q) n
 have u:An++(srt (ltP s) (v::At)++Y)=(An++At.take (k-a))++v::(At.drop (k-a)++Y):=by rw[<-t];simp only[Ag,Bx]
 have w:An++(At++(v::Y))=(An++At.take (k-a))++(At.drop (k-a)++v::Y):=by rw[Ag,<-Ag (At.take _),Bn]
 have n1:=mv2 _ v (An++At.take (k-a)) k q_ _ (At.drop (k-a)) Y m rfl q_ q_ u;rw[<-w]at n1;have j:(An++(At++(v::Y)))[m]? =X v:=by rw[<-Ag];exact aJX (An++At) Y v q_
 have n2:=aPs s hs _ i q_ m v j P p _ k n1 _ a m (Bc _) o_ q_ n;have K:((m:Int)-a==1)=false:=by rw[hm];simp;omega
 have N:((b:Int)-m==1)=true:=by rw[Be];simp;omega
 dsimp only[bW]at n2⊢;generalize pnv (An++(At++(v::Y)))=L at *
 generalize pnv (An++(srt (ltP s) (v::At)++Y))=R at *
 have H:m<=b:=o_;have F:b<=1000000:=o_;have G:a<=m:=o_;clear n1 u w t x p d i c z n j;exact zqda7
def aPi(s:Sta)(hs:OrdOK s):∀(N:Nat) (An At V Y:ba) (a m b:Nat),Z At+Z V<=N->a=Z An->m=a+Z At->b=m+Z V->0<Z At->0<Z V->b+Z Y<=999000->pJ (An++(At++(V++Y)))->Up (ltP s) At->Up (ltP s) V->Tot (ltP s) (At++V)->
  ar 325 [.row 0 0,ii a,ii m,ii b,mQ s] (bW (An++(At++(V++Y)))) (Io (GT [])) (bW (An++(srt (ltP s) (At++V)++Y))):=by
 intro N;induction N with
 | zero=>intro An At V Y a m b hN;omega
 | succ N ih=>
  intro An At V Y a m b hN Be hm I pU pV hl d C F p;by_cases t:Z At=1
  .obtain ⟨u,rfl⟩:=Mo.1 t;exact aKG s hs An V Y u a m b Be hm I hl d F p
  by_cases P:Z V=1
  .obtain ⟨v,rfl⟩:=Mo.1 P;exact aKF s hs An At Y v a m b Be hm I t hl d C p
  obtain⟨mid,j⟩:∃mid,mid=(a+b) / 2:=⟨_,rfl⟩
  obtain⟨n,hn⟩:∃n,n=mid+m:=⟨_,rfl⟩
  obtain⟨lo,i⟩:∃lo,lo=if mid<m then n-b else a:=⟨_,rfl⟩
  obtain⟨o,e⟩:∃o,o=if mid<m then mid else m:=⟨_,rfl⟩
  obtain⟨k,G⟩:∃k,bis (thP s (An++(At++(V++Y))) (n-1)) (o-lo) lo o=k:=⟨_,rfl⟩
  obtain⟨hP,M,k1,k2,k3,k4,k5,q,w⟩:=aT9 s An At V Y a m b mid n lo o Be hm I pU pV j hn i e p k G;have hst:(k-a)+(n-k-m)=mid-a:=o_;have x:=aMf (jA s) C F p q w;have z:=AM C (k-a);have y:=AM F (n-k-m);have t1:Tot (ltP s) (At.take (k-a)++V.take (n-k-m)):=Gi ((Ip _ At).append (Ip _ V)) p;have t2:Tot (ltP s) (At.drop (k-a)++V.drop (n-k-m)):=Gi ((Iq _ At).append (Iq _ V)) p;have tU:At.take (k-a)++At.drop (k-a)=At:=Bn _ _;have tV:V.take (n-k-m)++V.drop (n-k-m)=V:=Bn _ _;have lU1:Z (At.take (k-a))=k-a:=by simp;omega
  have r:Z (At.drop (k-a))=m-k:=by simp;omega
  have B:Z (V.take (n-k-m))=n-k-m:=by simp;omega
  have lV2:Z (V.drop (n-k-m))=b-(n-k):=by simp;omega
  generalize At.take (k-a)=U1 at *
  generalize At.drop (k-a)=U2 at *
  generalize V.take (n-k-m)=V1 at *
  generalize V.drop (n-k-m)=V2 at *
  have K:An++(At++(V++Y))=An++(U1++(U2++(V1++(V2++Y)))):=by rw[<-tU,<-tV];simp only[Ag]
  have lS1:Z (srt (ltP s) (U1++V1))=mid-a:=by rw[(fN (ltP s) (U1++V1)).length_eq,Ah];omega
  have S:pJ (An++(U1++(V1++(U2++(V2++Y))))):=d.perm (by
   rw[K];refine Ds An (Ds U1 ?_);rw[<-Ag U2,<-Ag V1]
   exact Dv _ Dx)
  have p2:pJ ((An++srt (ltP s) (U1++V1))++(U2++(V2++Y))):=S.perm (by
   rw[Ag An];refine Ds An ?_;rw[<-Ag U1]
   exact Dv _ (fN (ltP s) (U1++V1)).symm)
  have d1:Stp 356 s k m (n-k) (pnv (An++(At++(V++Y)))) (pnv (An++(U1++(V1++(U2++(V2++Y)))))):=by
   rw[K];by_cases c:k<m
   .by_cases l:m<n-k
    .refine .inl ⟨c,l,?_⟩;have:=aPF s (An++U1) U2 V1 (V2++Y) k m (n-k) q_ o_ o_ (by intro h;rw[h]at r;simp at r;omega) (by intro h;rw[h]at B;simp at B;omega) q_;rw[Ag An,Ag An]at this;exact this
    .refine .inr (.inl ⟨c,l,?_⟩);have:V1=[]:=Cm.1 o_;rw[this];rfl
   .refine .inr (.inr ⟨c,?_⟩);have:U2=[]:=Cm.1 o_;rw[this];rfl
  have d2:Stp 325 s a k mid (pnv (An++(U1++(V1++(U2++(V2++Y)))))) (pnv (An++(srt (ltP s) (U1++V1)++(U2++(V2++Y))))):=by
   by_cases c:a<k
   .by_cases l:k<mid
    .exact .inl ⟨c,l,ih An U1 V1 (U2++(V2++Y)) a k mid o_ Be o_ o_ o_ o_ q_ S (Ce.1 z).1 (Ce.1 y).1 t1⟩
    .refine .inr (.inl ⟨c,l,?_⟩);have:V1=[]:=Cm.1 o_;rw[this,Ao,AU (jA s) (Ce.1 z).1];rfl
   .refine .inr (.inr ⟨c,?_⟩);have:U1=[]:=Cm.1 o_;have Q:srt (ltP s) ([]++V1)=V1:=AU (jA s) (Ce.1 y).1;rw[this,Q];rfl
  have W:Stp 325 s mid (n-k) b (pnv (An++(srt (ltP s) (U1++V1)++(U2++(V2++Y))))) (pnv (An++(srt (ltP s) (At++V)++Y))):=by
   rw[<-x,Ag (srt (ltP s) (U1++V1))];by_cases c:mid<n-k
   .by_cases l:n-k<b
    .have:=ih (An++srt (ltP s) (U1++V1)) U2 V2 Y mid (n-k) b o_ q_ o_ o_ o_ o_ hl p2 (Ce.1 z).2.1 (Ce.1 y).2.1 t2;rw[Ag An,Ag An]at this;exact .inl ⟨c,l,this⟩
    .refine .inr (.inl ⟨c,l,?_⟩);have:V2=[]:=Cm.1 o_;rw[this,Ao,AU (jA s) (Ce.1 z).2.1];rfl
   .refine .inr (.inr ⟨c,?_⟩);have:U2=[]:=Cm.1 o_;have Q:srt (ltP s) ([]++V2)=V2:=AU (jA s) (Ce.1 y).2.1;rw[this,Q];rfl
  have n1:=aFG s a m b mid n k (n-k) ((n-1:Nat):Int) o_ o_ _ _ _ _ d1 d2 W;have n2:=aPr s hs _ d q_ a m b mid n (n-1) lo o _ hP _ k n1 _ lo o (Bc _) M (Bc _) (Bc _) G;have T:((m:Int)-a==1)=false:=by simp;omega
  have Am:((b:Int)-m==1)=false:=by simp;omega
  have e3:((n:Int)-1)=((n-1:Nat):Int):=o_;have H:=PY a b;rw[<-j]at H;have hr:=aBU (show mid<=1000000 by omega);rw[<-e3]at n2;have en:(n:Int)=(mid:Int)+m:=o_;have hm9:m<=b:=o_;have hb9:b<=1000000:=o_;have ha9:a<=m:=o_;have As:mid<=1000000:=o_;dsimp only[bW,aKH]at n2⊢;generalize pnv (An++(At++(V++Y)))=L at *
  generalize pnv (An++(srt (ltP s) (At++V)++Y))=R at *
  clear n1 d1 d2 W S p2 K x z y t1 t2 tU tV hP G d p C F q w;by_cases hq:mid<m
  .rw [bu hq]at i e;have J:(lo:Int)=(mid:Int)+m-b:=o_;subst e;rw[J,en]at n2;refine eA (Er [] [61,63,64,65,113,115,116,117]) f325 1 λ_=>?_
   repeat' first|refine pA ?_|refine Aa (λh=>bv (T.symm.trans h) d_) (λ_=>?_)|refine Aa (λh=>bv (Am.symm.trans h) d_) (λ_=>?_)|(rw[H];refine Fu (Aa hr ?_))|refine Aa (λ_=>?_) (λh=>bv (bm h) o_)|exact rfl|refine lA ?_ ?_|intro h
   exact zW
  .rw [bt hq]at i e;subst i e;rw[en]at n2;refine eA (Er [] [61,63,64,65,113,115,116,117]) f325 1 λ_=>?_
   repeat' first|refine pA ?_|refine Aa (λh=>bv (T.symm.trans h) d_) (λ_=>?_)|refine Aa (λh=>bv (Am.symm.trans h) d_) (λ_=>?_)|(rw[H];refine Fu (Aa hr ?_))|refine Aa (λh=>bv (bn h) o_) (λ_=>?_)|exact rfl|refine lA ?_ ?_|intro h
   exact zW
def pR{n:Nat}(h:n<=1000000):DB n 88:=⟨by simp only[maxLen];omega,by omega⟩
def aPn(s:Sta)(hs:OrdOK s)(P:ba)(n:Nat)(t:n=Z P)(hl:n<40)(a:pJ P)(e:Tot (ltP s) P):
  ar 288 [.row 0 0,ii n,mQ s] (bW P) (Io (GT [])) (bW (srt (ltP s) P)):=by
 by_cases z:n<20
 .have h1:=Y5 s hs [] P [] 0 n rfl q_ q_ a;rw[Bk,Bk,Ao,Ao]at h1;generalize srt (ltP s) P=R at *
  dsimp only[bW]at h1⊢;generalize pnv P=L at *
  clear t a e;refine eA E f288 1 λ_=>?_
  repeat' first|refine pA ?_|exact rfl|refine lA ?_ ?_|intro h
  refine gV ?_;refine Aa (λh=>bv (bn h) o_) (λ_=>?_)
  repeat' first|refine pA ?_|refine .eff [] [0] _ _ rfl h1 ?_|exact rfl|refine lA ?_ ?_|intro h
  exact tA
 .obtain ⟨A,B,rfl,k⟩:∃A B,P=A++B/\Z A=20:=⟨P.take 20,P.drop 20,(Bn 20 P).symm,by simp;omega⟩
  rw[Ah,k]at t;have b:pJ A:=λp hp=>a p (Di _ hp);have c:pJ B:=λp hp=>a p (List.mem_append_right _ hp);obtain⟨o,tB,_⟩:=Ce.1 e;have i:=fN (ltP s) A;have j:=fN (ltP s) B;have m:Z (srt (ltP s) A)=20:=by rw[i.length_eq,k]
  have r:Z (srt (ltP s) B)=Z B:=j.length_eq;have h1:=Y5 s hs [] A B 0 20 rfl q_ o_ b;rw[Bk,Bk]at h1;have d:=Y5 s hs (srt (ltP s) A) B [] 20 n m.symm o_ q_ c;rw[Ao,Ao]at d;by_cases C:n=20
  .have y:B=[]:=Cm.1 o_;subst y;rw[Ao]at h1 d⊢;have x:srt (ltP s) ([]:ba)=[]:=rfl;rw[x,Ao]at d;rw[Ao]at h1;generalize srt (ltP s) A=R at *
   dsimp only[bW]at h1 d⊢;generalize pnv A=L at *
   clear k a e b c o tB i j m r;refine eA E f288 1 λ_=>?_
   repeat' first|refine pA ?_|exact rfl|refine lA ?_ ?_|intro h
   refine gV ?_;refine Aa (λ_=>?_) (λh=>bv (bm h) o_)
   repeat' first|refine pA ?_|refine .eff [] [0] _ _ rfl h1 ?_|exact rfl|refine lA ?_ ?_|intro h
   refine gV ?_;refine Aa (λh=>bv (bn h) o_) (λ_=>?_)
   repeat' first|refine pA ?_|refine .eff [] [0] _ _ rfl d ?_|exact rfl|refine lA ?_ ?_|intro h
   exact tA
  .have w:=uT (jA s) o;have u:=uT (jA s) tB;have l:(srt (ltP s) A++srt (ltP s) B).Perm (A++B):=i.append j;have q:Tot (ltP s) (srt (ltP s) A++srt (ltP s) B):=e.perm l.symm;have h3:=aPi s hs _ [] (srt (ltP s) A) (srt (ltP s) B) [] 0 20 n (Bc _) rfl q_ o_ o_ o_ q_ (by rw[Bk,Ao];exact a.perm l.symm) w u q;rw[Bk,Bk,Ao,Ao]at h3;have v:srt (ltP s) (srt (ltP s) A++srt (ltP s) B)=srt (ltP s) (A++B):=XB (jA s) (((fN _ _).trans l).trans (fN _ _).symm) (uT (jA s) q) (uT (jA s) e);rw[v]at h3;generalize srt (ltP s) (A++B)=R at *
   dsimp only[bW]at h1 d h3⊢;generalize pnv (A++B)=L at *
   generalize pnv (srt (ltP s) A++B)=L2 at *
   generalize pnv (srt (ltP s) A++srt (ltP s) B)=L3 at *
   clear k a e b c o tB i j m r w u l q v;refine eA E f288 1 λ_=>?_
   repeat' first|refine pA ?_|exact rfl|refine lA ?_ ?_|intro h
   refine gV ?_;refine Aa (λ_=>?_) (λh=>bv (bm h) o_)
   repeat' first|refine pA ?_|refine .eff [] [0] _ _ rfl h1 ?_|exact rfl|refine lA ?_ ?_|intro h
   refine gV ?_;refine Aa (λh=>bv (bn h) o_) (λ_=>?_)
   repeat' first|refine pA ?_|refine .eff [] [0] _ _ rfl d ?_|exact rfl|refine lA ?_ ?_|intro h
   refine gV ?_;refine Aa (λ_=>?_) (λh=>bv (bm h) o_)
   repeat' first|refine pA ?_|exact rfl|refine lA ?_ ?_|intro h
   refine gV ?_;refine Aa (λh=>bv (bn h) o_) (λ_=>?_)
   repeat' first|refine pA ?_|refine Aa (λ_=>?_) (λh=>bv (bm h) o_)|refine .eff [] [0] _ _ rfl h3 ?_|exact rfl|refine lA ?_ ?_|intro h
   exact tA
def aPo(s:Sta)(hs:OrdOK s)(P:ba)(hl:Z P<40)(a:pJ P)(c:Tot (ltP s) P):
  ar 230 [.row 0 0,mQ s] (bW P) (Io (GT [])) (bW (srt (ltP s) P)):=by
 have h1:=aPn s hs P (Z (pnv P)) s_ (by simpa using hl) a c;generalize srt (ltP s) P=R at *
 have b:Z (pnv P)<=1000000:=by simp;omega
 dsimp only[bW]at h1⊢;generalize pnv P=L at *
 clear a c;refine eA E f230 1 λ_=>?_;exact zW
def aEO(xs:ba)(a:Z xs<=1000000):ar 138 [CA 11 (pnv xs) J0] [] (Io (.row 0 0)) (bW xs):=by
 refine eA (Er [2,5] []) f138 0 λ_=>gV ?_;intro b c;refine gV ?_;refine⟨λh=>?_,λh=>?_⟩
 .refine gV ?_;refine⟨[],[1],⟨rfl,rfl⟩,?_⟩;conv=>whnf
  unfold bW;rw[c (by simpa using h)];exact⟨rfl,rfl⟩
 .refine gV ?_;refine⟨pR (by simpa using a),gV ?_⟩;refine⟨[],[1],⟨rfl,rfl⟩,?_⟩;exact⟨rfl,rfl⟩
def aHu(s:Sta)(hs:OrdOK s)(hl:Z s.pend<40)(a:pJ s.pend)(c:Tot (ltP s) s.pend):
  bj 161 [s.av] (CA 11 (pnv (sP s)) J0):=by
 have h1:=aEO s.pend o_;have b:=aPo s hs s.pend hl a c;have e:srt (ltP s) s.pend=sP s:=rfl;rw[e]at b;generalize sP s=R at *
 refine c_ f161 λ_=>gV ?_;refine .eff [] [] _ _ rfl h1 (gV ?_);refine .eff [2,0] [1] _ _ rfl b ?_;refine gW hE ?_;conv=>whnf
end Go.Proofs.YtenkdioaefckoaaGreatDoor
