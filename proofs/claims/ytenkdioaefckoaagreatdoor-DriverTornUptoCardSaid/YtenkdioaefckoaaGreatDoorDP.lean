/- Part 9 of what the statement rests on. -/
import Derived.Test.YtenkdioaefckoaaGreatDoorCP
set_option linter.all false
set_option maxHeartbeats 2000000
open Go.AW.Res renaming ret->Io
open Go.AW.St renaming head->G0
open Go.AW.Tk renaming no->J0
open Go.AW.aa renaming agg->He,bool->DA,int->GE,ref->G2,slice->CA,tup->GT
open Go.AW.ab renaming bun->If,cells->Do,tail->Fr
open Go.IntKind renaming i64->Is,u64->IH
open List renaming length->Z
open Bool renaming true->O,false->S
open Option renaming some->X
open And renaming intro->Aa
open Bool renaming and_false->Bo,false_and->Cq,false_eq_true->Cy,true_and->Bt
open Exists renaming intro->Aj
open Int renaming fdiv->Ks,fdiv_eq_ediv_of_nonneg->Ea,natCast_mul->Dz,tdiv->Hg,toNat->Cv,toNat_natCast->Bm
open List renaming append_assoc->Ag,append_nil->Ap,cons_append->Ca,dropLast_concat_getLast->Kw,drop_eq_getElem_cons->Ac,drop_eq_nil_of_le->Ae,drop_sublist->Ie,foldl_cons->Ao,getElem?_append_left->Ai,getElem?_append_right->Ar,getElem?_cons_succ->Gf,getElem?_eq_getElem->Ab,getElem?_eq_some_iff->Ad,getElem?_set_ne->Bf,getElem?_set_self->Ay,getElem_mem->Av,getElem_of_mem->Gq,length_append->Ah,length_drop->Dq,length_eq_one_iff->Mh,length_eq_zero_iff->Ch,length_map->Cb,length_pos_iff->Dp,length_reverse->Ip,length_set->Dj,map_drop->Ia,map_set->Gb,map_take->Fw,mem_append->Bx,mem_append_left->Dh,mem_cons->Ba,mem_cons_self->Aw,mem_of_getElem?->Ax,mem_singleton_self->Jf,nil_append->Bi,pairwise_append->Cc,pairwise_cons->Bp,pairwise_singleton->Je,perm_append_comm->Dv,perm_middle->Fu,range->Df,set_append_right->Hb,take_append_drop->Bl,take_sublist->Ic,take_succ_eq_append_getElem->Hf
open List.Pairwise renaming imp->Jn,nil->Lo,sublist->Fz
open List.Perm renaming append_left->Dm,append_right->Dt,refl->Fc
open Nat renaming add_mul->Cg,add_sub_cancel->Hx,add_zero->Fj,div_add_mod->Fy,div_div_eq_div_mul->Jm,div_eq_of_lt->Jy,div_le_self->Di,div_lt_iff_lt_mul->Dc,div_mul_le_self->Gp,div_one->Ih,eq_zero_or_pos->Gy,le_add_right->Ik,le_div_iff_mul_le->Hc,le_refl->Bc,le_trans->Cl,lt_of_le_of_lt->Jb,lt_trans->Nc,mod_le->Lf,mod_lt->Ef,mul_add->Gd,mul_add_div->Iy,mul_assoc->Hk,mul_comm->Cz,mul_div_mul_right->Jx,mul_le_mul->Eb,mul_le_mul_right->Br,mul_right_comm->Le,one_mul->Ii,pow_add->Ey,pow_le_pow_right->Ej,pow_pos->Kr,pow_zero->Na,strongRecOn->Hy,testBit_two_pow->La,two_pow_add_eq_or_of_lt->Gr,zero_add->Bv,zero_mul->Mf
open Or renaming inl->Fk,inr->Jl
namespace Go.Proofs.YtenkdioaefckoaaGreatDoor
open Go.Proofs.Tryz
open Go Go.AW Go.Proofs
def zqda0{P:Prop}(h:P:=by
 refine gV ?_;rw[e];refine aJ (gV ?_);refine aF λh=>gV ?_;rw[g];refine aJ (gV ?_);rw[n];refine aJ (gV ?_);refine .p k (gV ?_);rw[m];refine aJ (gV ?_);refine .p o (gV ?_);rw[j];refine aJ (gV ?_);refine Aa d_ (gV ?_);rw[i]
 exact zW):P:=h
def zqda1{P:Prop}(h:P:=by
 refine gV ?_;refine aT λh=>gV ?_;refine Aa (Aa d_ d_) (gV ?_);rw[g];refine aJ (gV ?_);refine Aa o_ (gV ?_);rw[d];refine Fk (Aa (Aa (show Cv (k:Int)<=64 by omega) (Aa (by simp only[bV];omega) (by simp only[aW];omega))) ?_);refine gV ?_;rw[a]
 exact zW):P:=h
def zqda2{P:Prop}(h:P:=by
 dsimp only[bS]at next⊢
 generalize pnv L=K at*
 refine gV ?_
 exact zW):P:=h
def zqda3{P:Prop}(h:P:=by
 subst c;refine c_ f322 λ_=>?_;have hz1:=λd=>NG d
 exact zW):P:=h
def zqda4{P:Prop}(h:P:=by exact c_ f229 λ_=>zW):P:=h
def zqda5{P:Prop}(h:P:=by exact c_ f127 λ_=>zW):P:=h
def zqda6{P:Prop}(h:P:=by
 rw[Ae o_]at b;have b:a++[]=R:=b;rw[Ap]at b;subst b;refine gV ?_
 exact zW):P:=h
def zqda7{P:Prop}(h:P:=by
 refine eA (Er [] [61,63,64,65,113,115,116,117]) f325 1 λ_=>?_
 exact zW):P:=h
def zqda8{P:Prop}(h:P:=by
 refine bO hE 2 ?_;conv=>whnf
 exact To.cutC [5,6,7,8] 0 rfl rfl rfl rfl tail):P:=h
def zqda9{P:Prop}(h:P:=by
 have e:fv (a++[y])=fv a++[uu y]:=by simp[fv]
 rw[e]at next
 have k:Z (fv a)=Z a:=by simp
 refine gV ?_
 exact zW):P:=h
def zqda10{P:Prop}(h:P:=by
 subst c
 exact c_ f185 λ_=>zW):P:=h
def zqda11{P:Prop}(h:P:=by exact c_ f182 λ_=>zW):P:=h
def zqda12{P:Prop}(h:P:=by exact c_ f256 λ_=>zW):P:=h
def zqda13{P:Prop}(h:P:=by
 generalize gY (Z p) (Z q)=t at*
 generalize gY a.seq b.seq=u at*
 refine gV ?_
 exact zW):P:=h
def zqda14{P:Prop}(h:P:=by exact c_ f307 λ_=>zW):P:=h
def zqda15{P:Prop}(h:P:=by
 refine bO hE 2 ?_;conv=>whnf
 exact To.cutC [2,8,9,10,11,13,14,15,16,17,18] 0 rfl rfl rfl rfl fin):P:=h
def zqda16{P:Prop}(h:P:=by
 refine bO hE 3 ?_;conv=>whnf
 exact To.cutC [2,8,9,10,11,13,14,15,16,17,18] 0 rfl rfl rfl rfl step):P:=h
def zqda17{P:Prop}(h:P:=by
 rcases Nat.le_total (Z p) (Z q)with h|h
 .exact .inl (Ae o_)
 .exact .inr (Ae o_)):P:=h
def zqda18{P:Prop}(h:P:=by
 refine bO hE 2 ?_;conv=>whnf
 exact To.cutC [2,8,9,10,11,13,14,15,16] 0 rfl rfl rfl rfl fin):P:=h
def zqda19{P:Prop}(h:P:=by
 refine bO hE 3 ?_;conv=>whnf
 exact To.cutC [2,8,9,10,11,13,14,15,16] 0 rfl rfl rfl rfl step):P:=h
def zqda20{P:Prop}(h:P:=by
 intro i x k d a;rw[Ae o_]at a;have a:x=R:=a;subst a;refine gV ?_
 exact zW):P:=h
def zqda21{P:Prop}(h:P:=by exact To.cutC [0,1,5,6,7,8] 0 rfl rfl rfl rfl tail):P:=h
def zqda22{P:Prop}(h:P:=by
 intro i v g a;rw[Ae o_]at a;have a:v=r:=a;subst a;refine gV ?_
 exact zW):P:=h
def zqda23{P:Prop}(h:P:=by exact c_ f323 λ_=>zW):P:=h
def zqda24{P:Prop}(h:P:=by
 subst a
 exact c_ f279 λ_=>zW):P:=h
def zqda25{P:Prop}(h:P:=by
 refine bO hE 7 ?_;conv=>whnf
 exact To.cutC [0,1,5,6,7,8] 0 rfl rfl rfl rfl o):P:=h
def zqda26{P:Prop}(h:P:=by
 unfold aEd at next
 generalize dZ v x.c=w at f next
 refine gV ?_
 exact zW):P:=h
def DM{a b A B:Nat}(c:a<=A)(d:b<=B):a*b<=A*B:=Eb c d
def aCK(x y:Nat)(f:x<18446744073709551616)(e:y<18446744073709551616):
  ∃a b c d:Nat,a=x%4294967296*(y%4294967296)/\b=x/4294967296*(y%4294967296)/\c=x%4294967296*(y/4294967296)/\d=x/4294967296*(y/4294967296)/\
   a<=18446744065119617025/\b<=18446744065119617025/\c<=18446744065119617025/\d<=18446744065119617025/\x*y=d*18446744073709551616+(b+c)*4294967296+a:=by
 refine⟨_,_,_,_,rfl,rfl,rfl,rfl,DM (A:=4294967295) (B:=4294967295) o_ o_,DM (A:=4294967295) (B:=4294967295) o_ o_,DM (A:=4294967295) (B:=4294967295) o_ o_,DM (A:=4294967295) (B:=4294967295) o_ o_,?_⟩;have g:x=x/4294967296*4294967296+x%4294967296:=o_;have h:y=y/4294967296*4294967296+y%4294967296:=o_
 grind[Cg,Gd,Nat.mul_mul_mul_comm,Le,Hk]
def RT(x y:Nat):Nat:=x*y/18446744073709551616
def FR(x y:Nat):Nat:=x*y%18446744073709551616
def aK7{x y a b c d:Nat}(h:x*y=d*18446744073709551616+(b+c)*4294967296+a)(e:a<=18446744065119617025)(f:b<=18446744065119617025)(g:c<=18446744065119617025):
  d+(b+a/4294967296)/4294967296+((b+a/4294967296)%4294967296+c)/4294967296=RT x y:=by
 unfold RT;rw[h];omega
abbrev uu(n:Nat):aa:=GE IH (n:Int)
def sG(n:Nat):Nat:=if n<18446744073709551616 then n else 18446744073709551615
def jW(a b:Nat):Nat:=sG (a+b)
def kA(a b:Nat):Nat:=sG (a*b/4294967296)
def ofF(n:Int):Nat:=if n<=0 then 0 else if n<4294967296 then n.toNat*4294967296 else 18446744073709551615
def uF(a b:Nat):Nat:=if a=0 then 0 else if b=0 then 18446744073709551615 else sG (a*4294967296/b)
def wA(a b:Int):Nat:=uF (max a 0).toNat (max b 0).toNat
def MM(n:Nat):sG n<18446744073709551616:=by unfold sG;split<;>omega
theorem D5(a b:Nat):jW a b<18446744073709551616:=MM _
theorem yY(a b:Nat):kA a b<18446744073709551616:=MM _
def aME(a b:Nat):uF a b<18446744073709551616:=by
 unfold uF
 repeat' split
 .omega
 .omega
 .exact MM _
def AY(n:Int):ofF n<18446744073709551616:=by
 unfold ofF
 repeat' split
 all_goals omega
def aQo{a b:Nat}(d:0<b)(h:b<=a/4294967296):sG (a*4294967296/b)=18446744073709551615:=by have h1:b*4294967296<=a:=o_;have c:18446744073709551616*b<=a*4294967296:=o_;have h3:18446744073709551616<=a*4294967296/b:=(Hc d).2 c;exact bt (Nat.not_lt.2 h3)
def aQn{a b:Nat}(d:a/4294967296<b):a*4294967296/b<18446744073709551616/\sG (a*4294967296/b)=a*4294967296/b:=by have c:a*4294967296<18446744073709551616*b:=o_;have h3:a*4294967296/b<18446744073709551616:=(Dc o_).2 c;exact⟨h3,bu h3⟩
def aKn{a b ah c d bl:Nat}(f:a=ah*4294967296+c)(g:b=d*4294967296+bl)(h:c<4294967296)(e:bl<4294967296):
  a*b/4294967296=ah*d*4294967296+ah*bl+c*d+c*bl/4294967296:=by
 grind[Cg,Gd,Nat.mul_mul_mul_comm,Hk,Le]
def aFy{ah a:Nat}(b:0<a):(18446744073709551615/a/4294967296<ah)↔4294967296<=ah*a:=by grind[Jm,Dc,Nat.mul_pos,Hk]
def aIG(A i:Nat):A/2^i=2*(A/2^(i+1))+A/2^i%2:=by rw[Nat.pow_succ,<-Jm];omega
def aQE(a:Nat){i:Nat}(h:i<32):a*4294967296/2^i%2=0:=by
 have e:(4294967296:Nat)=2*2^(31-i)*2^i:=by
  have:(4294967296:Nat)=2^(1+(31-i)+i):=by rw[show 1+(31-i)+i=32 by omega]
  rw[this,Ey,Ey]
 rw[e,<-Hk,Nat.mul_div_cancel _ (Kr d_),Nat.mul_left_comm];omega
def aQF(a:Nat){i:Nat}(h:32<=i):a*4294967296/2^i=a/2^(i-32):=by
 have e:2^i=2^(i-32)*4294967296:=by
  have:(4294967296:Nat)=2^32:=by decide
  rw[this,<-Ey,show i-32+32=i by omega]
 rw[e,Jx _ _ d_]
def aCF{A b i q r:Nat}(d:0<b)(a:r<b)(c:A/2^(i+1)=q*b+r):
  (2*r+A/2^i%2<b->A/2^i=2*q*b+(2*r+A/2^i%2))/\
  (b<=2*r+A/2^i%2->A/2^i=(2*q+1)*b+(2*r+A/2^i%2-b)/\2*r+A/2^i%2-b<b):=by
 have e:=aIG A i
 grind
def aF7{A b q r:Nat}(c:r<b)(a:A/2^0=q*b+r):q=A/b:=by rw[Na,Ih]at a;rw[a,Cz,Iy o_,Jy c,Fj]
def aF8{A b i q r:Nat}(d:0<b)(c:A/2^(i+1)=q*b+r)(h:9223372036854775808<=q):18446744073709551616<=A/b:=by refine(Hc d).2 ?_;have h1:A/2^(i+1)*2^(i+1)<=A:=Gp ..;have a:A/2^(i+1)*2<=A/2^(i+1)*2^(i+1):=Nat.mul_le_mul_left _ (by grind[Nat.pow_succ,Kr]);have h3:9223372036854775808*b<=q*b:=Br _ h;rw[c]at h1 a;omega
set_option maxRecDepth 10000
structure Dg(y1 y0 u v q r:Nat):Prop where
 rest:u=q*y1+r
 top:u*4294967296+v<(q+1)*(y1*4294967296+y0)
 few:q<=4294967297
theorem qY(q a b:Nat):q*(a*4294967296+b)=q*a*4294967296+q*b:=by rw[Gd,Hk]
def Dg.zero{a b u v:Nat}(h1:2147483648<=a)(g:b<4294967296)(h:v<4294967296)(f:u<a*4294967296+b):Dg a b u v (u/a) (u%a):=by
 have e:u=u/a*a+u%a:=by rw[Cz];exact(Fy u a).symm
 have d:u%a<a:=Ef _ o_;refine⟨e,?_,?_⟩
 .grind
 .have c:u/a<4294967298:=by refine(Dc o_).2 ?_;omega
  omega
def Dg.step{a b u v q r:Nat}(h:Dg a b u v q r)(m:v<4294967296)(k:u<a*4294967296+b)(f:4294967296<=q\/4294967296*r+v<q*b):1<=q/\Dg a b u v (q-1) (r+a):=by
 obtain⟨e,l,j⟩:=h;have d:1<=q:=by grind
 refine⟨d,?_⟩;have g:q=q-1+1:=o_;have c:u*4294967296+v<q*(a*4294967296+b):=by
  rcases f with h|h
  .have i:4294967296*(a*4294967296+b)<=q*(a*4294967296+b):=Br _ h;omega
  grind[qY]
 refine⟨?_,by rw[<-g];exact c,by omega⟩
 grind
def Dg.fin{b a u v q r:Nat}(h:Dg b a u v q r)(f:q*a<=4294967296*r+v):q*(b*4294967296+a)<=u*4294967296+v/\q=(u*4294967296+v)/(b*4294967296+a):=by
 obtain⟨e,c,d⟩:=h;have hl:q*(b*4294967296+a)<=u*4294967296+v:=by grind[qY]
 refine⟨hl,?_⟩;have hp:0<b*4294967296+a:=by grind
 refine Nat.le_antisymm ((Hc hp).2 hl) ?_;have:=(Dc hp).2 c;omega
def Dg.far{a v q r:Nat}(d:a<4294967296)(b:q<=4294967296)(c:4294967296<=r):q*a<=4294967296*r+v:=by have h1:q*a<=4294967296*4294967295:=Eb b o_;omega
def aMF{Y u v w a t b:Nat}(c:0<Y)(h1:a=(u*4294967296+v)/Y)(h:t=u*4294967296+v-a*Y)(f:b=(t*4294967296+w)/Y)(g:w<4294967296):a*4294967296+b=(u*18446744073709551616+v*4294967296+w)/Y:=by
 have e:u*4294967296+v=a*Y+t:=by
  have:a*Y<=u*4294967296+v:=by rw[h1];exact Gp ..
  omega
 have d:u*18446744073709551616+v*4294967296+w=Y*(a*4294967296)+(t*4294967296+w):=by grind[Hk,Cz,Cg,Nat.add_assoc]
 rw[d,Iy c,<-f]
def TN{Y N q t:Nat}(a:0<Y)(h1:q=N/Y)(b:t=N-q*Y):t<Y:=by have e:=Fy N Y;have l:=Ef N a;subst h1;rw[Cz]at e;omega
structure Ord{α:Type}(lt:α->α->Bool):Prop where
 tr:∀a b c,lt a b=O->lt b c=O->lt a c=O
 irr:∀a,lt a a=S
def Up{α:Type}(lt:α->α->Bool)(l:List α):Prop:=l.Pairwise λa b=>lt a b=O
def Tot{α:Type}(lt:α->α->Bool)(l:List α):Prop:=l.Pairwise λa b=>lt a b=O\/lt b a=O
def Tot.perm{α:Type}{lt:α->α->Bool}{l m:List α}(h:l.Perm m)(a:Tot lt l):Tot lt m:=h.pairwise a λh=>h.symm
def Ord.asym{α:Type}{lt:α->α->Bool}(o:Ord lt){a b:α}(h:lt a b=O):lt b a=false:=by
 cases c:lt b a with
 |false=>rfl
 |true=>have:=o.tr _ _ _ h c;rw[o.irr]at this;cases this
def UV{α:Type}{lt:α->α->Bool}(o:Ord lt):∀{l m:List α},l.Perm m->Up lt l->Up lt m->l=m
 |[],m,h,_,_=>(List.nil_perm.1 h).symm
 |x::l,[],h,_,_=>bv h.length_eq s_
 |x::l,y::m,h,h1,h2=>by
  have e:x=y:=by
   have b:x∈y::m:=h.mem_iff.1 (Aw ..);have a:y∈x::l:=h.mem_iff.2 (Aw ..);rcases Ba.1 b with e|b
   .exact e
   rcases Ba.1 a with e|a
   .exact e.symm
   have d:=(Bp.1 h1).1 y a;have c:=(Bp.1 h2).1 x b;rw[o.asym d]at c;cases c
  subst e;rw[UV o ((List.perm_cons x).1 h) (Bp.1 h1).2 (Bp.1 h2).2]
def aD3{α:Type}{lt:α->α->Bool}{A B:List α}{x:α}(d:Up lt (A++B))(g:∀a∈A,lt a x=O)(e:∀b∈B,lt x b=O):Up lt (A++x::B):=by
 obtain⟨h1,c,h3⟩:=Cc.1 d;refine Cc.2 ⟨h1,Bp.2 ⟨e,c⟩,λa h b f=>?_⟩
 grind
def yG{α:Type}{lt:α->α->Bool}(o:Ord lt){A B:List α}(i:Up lt A)(j:Up lt B)(h:A=[]\/B=[]\/∃g x y f,A=g++[x]/\B=y::f/\lt x y=O):∀a∈A,∀b∈B,lt a b=true:=by
 intro a h1 b c;rcases h with rfl|rfl|⟨g,x,y,f,rfl,rfl,h⟩
 .cases h1
 .cases c
 have d:a=x\/lt a x=true:=by
  rcases Bx.1 h1 with h1|h1
  .exact .inr ((Cc.1 i).2.2 a h1 x (Aw ..))
  .exact .inl (by simpa using h1)
 have e:b=y\/lt y b=true:=by
  rcases Ba.1 c with c|c
  .exact .inl c
  .exact .inr ((Bp.1 j).1 b c)
 rcases d with rfl|d<;>rcases e with rfl|e
 .exact h
 .exact o.tr _ _ _ h e
 .exact o.tr _ _ _ d h
 .exact o.tr _ _ _ d (o.tr _ _ _ h e)
def aN7{α:Type}{lt:α->α->Bool}(o:Ord lt){f c d e h g:List α}(r:Up lt (f++c))(m:Up lt (d++e))
  (h1:f=[]\/e=[]\/∃i x y j,f=i++[x]/\e=y::j/\lt x y=O) (q:d=[]\/c=[]\/∃i x y j,d=i++[x]/\c=y::j/\lt x y=O)
  (s:h.Perm (f++d)) (u:g.Perm (c++e)) (p:Up lt h) (n:Up lt g):Up lt (h++g)/\(h++g).Perm (f++c++(d++e)):=by
 obtain⟨l,t,z⟩:=Cc.1 r;obtain⟨k,v,C⟩:=Cc.1 m;have A:=yG o l v h1;have D:=yG o k t q;refine⟨Cc.2 ⟨p,n,λa B b w=>?_⟩,?_⟩
 .grind
 .refine (s.append u).trans ?_
  grind[Ag,Dm,Dt,Dv]
def nF{α:Type}(lt:α->α->Bool)(x:α)(l:List α):Nat->Nat
 |0=>0
 |k+1=>match l[k]? with
  |some y=>if lt x y then nF lt x l k else k+1
  |none=>k+1
def lJ{α:Type}(lt:α->α->Bool)(l:List α)(x:α):List α:=l.take (nF lt x l (Z l))++x::l.drop (nF lt x l (Z l))
def srt{α:Type}(lt:α->α->Bool)(l:List α):List α:=l.foldl (lJ lt) []
def aAF{α:Type}{lt:α->α->Bool}{x:α}{l:List α}:∀k,nF lt x l k<=k
 |0=>Bc _
 |k+1=>by
  unfold nF;split
  .split
   .exact Nat.le_succ_of_le (aAF k)
   .exact Bc _
  .exact Bc _
theorem aAG{α:Type}{lt:α->α->Bool}{x:α}{l:List α}:∀(k i:Nat) (h:i<Z l),nF lt x l k<=i->i<k->lt x l[i]=O
 |0,i,h,_,h2=>by omega
 |k+1,i,h,h1,h2=>by
  unfold nF at h1;split at h1
  .rename_i y a;split at h1
   .rename_i hl;by_cases e:i=k
    .subst e;rw[Ab h]at a;cases a;exact hl
    .exact aAG k i h h1 o_
   .omega
  .omega
def aAE{α:Type}{lt:α->α->Bool}{x:α}{l:List α}:∀(k:Nat) (_:k<=Z l),nF lt x l k=0\/∃(i:Nat) (h:i<Z l),nF lt x l k=i+1/\lt x l[i]=S
 |0,_=>.inl rfl
 |k+1,h=>by
  have a:k<Z l:=h;have e:nF lt x l (k+1)=if lt x l[k]=O then nF lt x l k else k+1:=by show(match l[k]? with|some y=>if lt x y=O then nF lt x l k else k+1|none=>k+1)=_;rw[Ab a]
  rw[e];cases hl:lt x l[k]with
  |true=>rw[bu rfl];exact aAE k o_
  |false=>exact .inr ⟨k,a,bt d_,hl⟩
def vK{α:Type}(lt:α->α->Bool)(l:List α)(x:α):(lJ lt l x).Perm (x::l):=by unfold lJ;refine Fu.trans ?_;rw[Bl]
def aLy{α:Type}{lt:α->α->Bool}(o:Ord lt){l:List α}{x:α}(j:Up lt l)(n:∀y∈l,lt x y=O\/lt y x=O):Up lt (lJ lt l x):=by
 unfold lJ;have k:=aAF (lt:=lt) (x:=x) (l:=l) (Z l);have e:Up lt (l.take (nF lt x l (Z l))++l.drop (nF lt x l (Z l))):=by rw[Bl];exact j
 refine aD3 e (λa c=>?_) (λb p=>?_)
 .rcases aAE (lt:=lt) (x:=x) (l:=l) (Z l) (Bc _)with h|⟨i,g,h,m⟩
  .rw [h]at c;cases c
  .rw [h]at c;have f:lt l[i] x=true:=by grind[Av]
   rw[Hf g]at c;rcases Bx.1 c with c|c
   .refine o.tr _ _ _ ?_ f;have d:Up lt (l.take i++l.drop i):=by rw[Bl];exact j
    rw[Ac g]at d;exact(Cc.1 d).2.2 a c _ (Aw ..)
   .rw [List.mem_singleton.1 c];exact f
 grind[Gq,Dq,aAG]
def aEx{α:Type}{lt:α->α->Bool}(o:Ord lt):∀(l a:List α),Up lt a->Tot lt (a++l)->Up lt (l.foldl (lJ lt) a)/\(l.foldl (lJ lt) a).Perm (a++l)
 |[],a,hu,_=>⟨hu,by simp⟩
 |x::l,a,hu,ht=>by have hp:=vK lt a x;have b:(a++x::l).Perm (lJ lt a x++l):=Fu.trans (hp.symm.append_right l);obtain⟨c,e⟩:=aEx o l (lJ lt a x) (aLy o hu λy d=>((Cc.1 ht).2.2 y d x (Aw ..)).symm) (ht.perm b);exact⟨c,e.trans b.symm⟩
def sX{α:Type}{lt:α->α->Bool}(o:Ord lt){l:List α}(h:Tot lt l):Up lt (srt lt l):=(aEx o l [] Lo h).1
def IY{α:Type}{lt:α->α->Bool}:∀(l a:List α),(l.foldl (lJ lt) a).Perm (a++l)
 |[],a=>by simp
 |x::l,a=>(IY l (lJ lt a x)).trans (((vK lt a x).append_right l).trans Fu.symm)
def fC{α:Type}(lt:α->α->Bool)(l:List α):(srt lt l).Perm l:=IY l []
theorem MF{α:Type}{lt:α->α->Bool}(o:Ord lt){l W:List α}(h:Tot lt l)(a:Up lt W)(hp:W.Perm l):W=srt lt l:=UV o (hp.trans (fC lt l).symm) a (sX o h)
def aOt{α:Type}{lt:α->α->Bool}(o:Ord lt){l:List α}(a:Up lt l):l=srt lt l:=MF o (Jn (λh=>.inl h) a) a (Fc l)
def bis(P:Nat->Bool):Nat->Nat->Nat->Nat
 |0,lo,_=>lo
 |f+1,lo,hi=>if lo<hi then(if P ((lo+hi)/2)=O then bis P f ((lo+hi)/2+1) hi else bis P f lo ((lo+hi)/2))else lo
def OL(P:Nat->Bool):∀(f lo e:Nat),e-lo<=f->lo<=e->lo<=bis P f lo e/\bis P f lo e<=e/\(bis P f lo e=lo\/P (bis P f lo e-1)=O)/\(bis P f lo e=e\/P (bis P f lo e)=S)
 |0,lo,e,h,h2=>⟨Bc _,h2,.inl rfl,.inl (show lo=e by omega)⟩
 |f+1,lo,e,h,h2=>by
  unfold bis;by_cases h3:lo<e
  .rw [bu h3];cases hp:P ((lo+e)/2)with
   |true=>
    rw[bu rfl];obtain⟨a,b,c,d⟩:=OL P f ((lo+e)/2+1) e o_ o_;refine⟨by omega,b,?_,d⟩;rcases c with c|c
    .right;rw[c,Hx];exact hp
    .exact .inr c
   |false=>
    rw[bt d_];obtain⟨a,b,c,d⟩:=OL P f lo ((lo+e)/2) o_ o_;refine⟨a,by omega,c,?_⟩;rcases d with d|d
    .right;rw[d];exact hp
    .exact .inr d
  grind
def ltO{α:Type}(lt:α->α->Bool)(x y:Option α):Prop:=∃a b,x=X a/\y=X b/\lt a b=O
def yF{α:Type}{lt:α->α->Bool}{l:List α}(h:Up lt l)(s:Nat):Up lt (l.take s++l.drop s):=by rw[Bl];exact h
def JV{α:Type}{l:List α}{s:Nat}(hs:s≠0){a:α}(h:l[s-1]? =X a):l.take s=l.take (s-1)++[a]:=by
 obtain⟨hl,e⟩:=Ad.1 h;have b:s=s-1+1:=o_
 grind[Hf,Hx]
def KA{α:Type}{l:List α}{t:Nat}{b:α}(h:l[t]? =X b):l.drop t=b::l.drop (t+1):=by grind[Ad,Ac]
def aIg{α:Type}{lt:α->α->Bool}{Be V:List α}{s t:Nat}(h:s=0\/Z V<=t\/ltO lt Be[s-1]? V[t]?):
  Be.take s=[]\/V.drop t=[]\/∃d x y c,Be.take s=d++[x]/\V.drop t=y::c/\lt x y=true:=by
 by_cases hs:s=0
 .exact .inl (by rw[hs];rfl)
 rcases h with h|h|⟨x,y,b,a,hl⟩
 .exact bv h hs
 .exact .inr (.inl (Ae h))
 .exact .inr (.inr ⟨_,x,y,_,JV hs b,KA a,hl⟩)
def aK9{α:Type}{lt:α->α->Bool}(o:Ord lt){Be V:List α}{s t:Nat}(g:Up lt Be)(f:Up lt V)(c:Tot lt (Be++V))
  (h1:s=0\/Z V<=t\/ltO lt Be[s-1]? V[t]?) (e:t=0\/Z Be<=s\/ltO lt V[t-1]? Be[s]?):
  srt lt (Be.take s++V.take t)++srt lt (Be.drop s++V.drop t)=srt lt (Be++V):=by
 have d:Tot lt (Be.take s++V.take t):=by refine Fz ?_ c;exact(Ic s Be).append (Ic t V)
 have h:Tot lt (Be.drop s++V.drop t):=by refine Fz ?_ c;exact(Ie s Be).append (Ie t V)
 obtain⟨a,b⟩:=aN7 o (yF g s) (yF f t) (aIg h1) (aIg e) (fC lt _) (fC lt _) (sX o d) (sX o h)
 grind[Bl,MF]
def aPp{α:Type}{lt:α->α->Bool}(o:Ord lt){V:List α}{u:α}{t:Nat}(f:Up lt V)(i:Tot lt (u::V))(h1:t=0\/ltO lt V[t-1]? (X u))(g:Z V<=t\/ltO lt (X u) V[t]?):
  V.take t++u::V.drop t=srt lt (u::V):=by
 have j:=yG (A:=V.take t) (B:=[u]) o (Fz (Ic t V) f) (Je ..) (by
  rcases h1 with h|⟨a,b,d,c,hl⟩
  .exact .inl (by rw[h];rfl)
  .by_cases e:t=0
   .exact .inl (by rw[e];rfl)
   .cases c
    exact .inr (.inr ⟨_,a,u,[],JV e d,rfl,hl⟩))
 have k:=yG (A:=[u]) (B:=V.drop t) o (Je ..) (Fz (Ie t V) f) (by
  rcases g with h|⟨a,b,d,c,hl⟩
  .exact .inr (.inl (Ae h))
  .cases d
   exact .inr (.inr ⟨[],u,b,_,rfl,KA c,hl⟩))
 refine MF o i (aD3 (yF f t) (λa d=>j a d u (Jf u)) (λb c=>k u (Jf u) b c)) ?_;refine Fu.trans ?_;rw[Bl]
def yK{α:Type}{lt:α->α->Bool}(o:Ord lt){l:List α}(a:Up lt l):srt lt l=l:=(aOt o a).symm
def aEw{α:Type}{lt:α->α->Bool}(o:Ord lt){Be V:List α}(a:Tot lt (Be++V)):srt lt (Be++V)=srt lt (V++Be):=
 MF o (a.perm Dv) (sX o a) ((fC lt _).trans Dv)
def RX(x:Nat)(a:x<18446744073709551616):dB .and IH (x:Int) 4294967295=((x%4294967296:Nat):Int):=by have h:=vT IH x 4294967295 (by simp only[aW];omega) d_;have e:x &&& 4294967295=x%4294967296:=Nat.and_two_pow_sub_one_eq_mod x 32;rw[e]at h;exact h
def fW(x:Nat):Ks (x:Int) (2^Cv 32)=((x/4294967296:Nat):Int):=by show Ks (x:Int) 4294967296=_;rw[Ea _ d_];omega
def aCL(x y:Nat)(k:x<18446744073709551616)(i:y<18446744073709551616):bj 277 [GE IH x,GE IH y] (GT [GE IH (RT x y:Nat),GE IH (FR x y:Nat)]):=by
 obtain⟨a,b,c,d,w,r,B,m,q,v,u,D,hs⟩:=aCK x y k i;have F:=aK7 hs q v u;have G:FR x y<18446744073709551616:=Ef _ d_;have p:((x%4294967296:Nat):Int)*((y%4294967296:Nat):Int)=(a:Int):=by rw[w,Dz]
 have z:((x/4294967296:Nat):Int)*((y%4294967296:Nat):Int)=(b:Int):=by rw[r,Dz]
 have t:((x%4294967296:Nat):Int)*((y/4294967296:Nat):Int)=(c:Int):=by rw[B,Dz]
 have n:((x/4294967296:Nat):Int)*((y/4294967296:Nat):Int)=(d:Int):=by rw[m,Dz]
 have o:(b:Int)+((a/4294967296:Nat):Int)=((b+a/4294967296:Nat):Int):=o_;have C:(((b+a/4294967296)%4294967296:Nat):Int)+(c:Int)=(((b+a/4294967296)%4294967296+c:Nat):Int):=o_;have s:(d:Int)+(((b+a/4294967296)/4294967296:Nat):Int)+((((b+a/4294967296)%4294967296+c)/4294967296:Nat):Int)=((RT x y:Nat):Int):=o_;have h:¬ (inR IH ((x:Int)*(y:Int)))->IntKind.wrap IH ((x:Int)*(y:Int))=((FR x y:Nat):Int):=λ_=>by unfold FR;rw[<-Dz];simp[IntKind.wrap,IntKind.signed,IntKind.bits]
 refine c_ f277 λ_=>gV ?_;rw[RX x k];refine Aa d_ (gV ?_);rw[fW x,RX y i];refine Aa d_ (gV ?_);rw[fW y,p];refine aJ (gV ?_);rw[z];refine aJ (gV ?_);refine Aa d_ (gV ?_);rw[fW a,o];refine aJ (gV ?_);rw[RX _ o_];refine Aa d_ (gV ?_);rw[fW (b+a/4294967296),t];refine aJ (gV ?_);rw[C];refine aJ (gV ?_);rw[n];refine aJ (gV ?_);refine aJ (gV ?_);refine Aa d_ (gV ?_);rw[fW ((b+a/4294967296)%4294967296+c),s];refine aJ (gV ?_);by_cases j:inR IH ((x:Int)*(y:Int))
 .have e:(x:Int)*(y:Int)=((FR x y:Nat):Int):=by obtain⟨h1,l⟩:=j;simp only[bV,aW]at h1 l;rw[<-Dz]at h1 l⊢;unfold FR;omega
  rw[e];exact zW
 .rw [h j];refine Jl ?_;refine gW hE ?_;conv=>whnf
def tdN(x y:Nat):Hg (x:Int) (y:Int)=((x/y:Nat):Int):=rfl
def tmN(x y:Nat):Int.tmod (x:Int) (y:Int)=((x%y:Nat):Int):=rfl
def aK5(x y:Nat):(x:Int)*(y:Int)=((x*y:Nat):Int):=(Dz x y).symm
def aCw(n:Int)(r:Nat)(a:ofF n=r):bj 123 [ii n] (uu r):=by
 unfold ofF at a;by_cases h1:n<0
 .rw [bu o_]at a;subst a;exact c_ f123 λ_=>zW
 .by_cases b:n<4294967296
  .have e:n*4294967296=(r:Int):=by rw[<-a];split<;>omega
   have c:(r:Int)<18446744073709551616:=o_;refine c_ f123 λ_=>?_
   repeat' first|refine pA ?_|exact rfl|refine lA ?_ ?_|intro h
   rw[e]
  .rw [bt o_,bt b]at a;subst a;exact c_ f123 λ_=>zW
def V5(a b:Nat)(d:a<18446744073709551616)(e:b<18446744073709551616)(r:Nat)(c:jW a b=r):bj 120 [uu a,uu b] (uu r):=by
 unfold jW sG at c;by_cases h:a+b<18446744073709551616
 .rw [bu h]at c;subst c;exact c_ f120 λ_=>zW
 .rw [bt h]at c;subst c;exact c_ f120 λ_=>zW
def E9(n:Int):bj 123 [ii n] (uu (ofF n)):=aCw n _ rfl
def mL(a b:Nat)(d:a<18446744073709551616)(c:b<18446744073709551616):bj 120 [uu a,uu b] (uu (jW a b)):=V5 a b d c _ rfl
def aRm{M:Imm}{ob:Hs}{vs:bb}{a b c:aa}(h:cL M ob vs [a,b,c]):∃u v x,vs=[u,v,x]/\Rep M ob u a/\Rep M ob v b/\Rep M ob x c:=by
 obtain⟨hl,d⟩:=h
 match vs,hl with
 |[u,v,x],_=>exact⟨u,v,x,rfl,d 0 _ _ rfl rfl,d 1 _ _ rfl rfl,d 2 _ _ rfl rfl⟩
def aFt{M:Imm}{ob:Hs}{n:Nat}(h:n<18446744073709551616):Rep M ob (.int .u64 (n:Int)) (uu n):= .int _ _ ⟨by simp only[bV];omega,by simp only[aW];omega⟩
def aIW(x y:Nat)(m:x<18446744073709551616)(l:y<18446744073709551616):bj 278 [uu x,uu y,.int .u64 0] (.tup [uu ((x+y)%18446744073709551616),uu ((x+y)/18446744073709551616)]):=by
 intro M ob w g hm h;obtain⟨u,v,c,rfl,j,b,k⟩:=aRm h;obtain⟨rfl,_⟩:=j.int_inv;obtain⟨rfl,_⟩:=b.int_inv;obtain⟨rfl,_⟩:=k.int_inv;refine .inr ⟨.tuple #[.int .u64 (((x+y)%18446744073709551616:Nat):Int),.int .u64 (((x+y)/18446744073709551616:Nat):Int)],w,?_,M,ob,Ext.refl _ _ _ _,hm,?_⟩
 .rw [run_callFunc_extern (show Tryz.prog.funcs[278]? =X f278 by kernel_rfl) (by kernel_rfl) (by kernel_rfl) (by kernel_rfl) (e:=(Extern.MathBitsCarry.rows.head!).2) (by kernel_rfl)];rfl
 .refine .tup [_,_] _ rfl λi v a b d=>?_
  match i,b,d with
  |0,b,d=>cases b;cases d;exact aFt (Ef _ d_)
  |1,b,d=>cases b;cases d;exact aFt o_
def Q3(b:Bool)(x y:Nat)(r:Nat)(a:(if b=O then x else y)=r):bj 279 [DA b,uu x,uu y] (uu r):=by
 cases b with
 |true=>
  have a:x=r:=a;exact zqda24
 |false=>
  have a:y=r:=a;exact zqda24
def aLT(n:Int)(r:Nat)(a:ofF n=r):bj 218 [ii n] (uu r):=by
 unfold ofF at a;by_cases h1:n<=0
 .rw [bu h1]at a;subst a;exact c_ f218 λ_=>zW
 .rw [bt h1]at a;by_cases b:n<4294967296
  .rw [bu b]at a;have e:n*2^Cv 32=(r:Int):=by show n*4294967296=_;omega
   have c:(r:Int)<18446744073709551616:=o_;refine c_ f218 λ_=>?_
   repeat' first|refine pA ?_|refine Fk (Aa (Aa d_ (by rw[e];exact⟨by simp only[bV];omega,by simp only[aW];omega⟩)) ?_)|exact rfl|refine lA ?_ ?_|intro h
   rw[e]
  .rw [bt b]at a;subst a;exact c_ f218 λ_=>zW
def aHy(a b:Nat)(i:a<18446744073709551616)(j:b<18446744073709551616)(r:Nat)(c:jW a b=r):bj 222 [uu a,uu b] (uu r):=by
 have h1:=aIW a b i j;unfold jW sG at c;by_cases h:a+b<18446744073709551616
 .rw [bu h]at c;have d:(a+b)/18446744073709551616=0:=o_;have k:(a+b)%18446744073709551616=r:=o_;rw[d,k]at h1;have e:=Q3 S 18446744073709551615 r r rfl;exact c_ f222 λ_=>zW
 .rw [bt h]at c;have d:(a+b)/18446744073709551616=1:=o_;rw[d]at h1;have e:=Q3 O 18446744073709551615 ((a+b)%18446744073709551616) r c;generalize (a+b)%18446744073709551616=q at h1 e;exact c_ f222 λ_=>zW
def aKL{h l:Nat}(hl:l<4294967296):h*4294967296 ||| l=h*4294967296+l:=by have:=Gr (i:=32) hl h;rw[Cz]at this;exact this.symm
def aTj{h l:Nat}(a:h<4294967296)(hl:l<4294967296):dB .or IH ((h*4294967296:Nat):Int) (l:Int)=((h*4294967296+l:Nat):Int):=by have e:=nN IH (h*4294967296) l (by simp only[aW];omega) (by simp only[aW];omega);rw[aKL hl]at e;exact e
def aHo(a b:Nat)(n:a<18446744073709551616)(m:b<18446744073709551616)(r:Nat)(c:kA a b=r):bj 221 [uu a,uu b] (uu r):=by
 have h1:=aCL a b n m;have hp:a*b<18446744073709551616*18446744073709551616:=Nat.mul_lt_mul'' n m;have e:=fW (RT a b);have j:=fW (FR a b);have d:a*b=RT a b*18446744073709551616+FR a b:=by unfold RT FR;omega
 have q:FR a b<18446744073709551616:=Ef _ d_;unfold kA sG at c;generalize a*b=P at c d hp;generalize RT a b=H at h1 e d;generalize FR a b=L at h1 j d q;by_cases h:P/4294967296<18446744073709551616
 .rw [bu h]at c;have i:H/4294967296=0:=o_;have o:H<4294967296:=o_;have s:H*4294967296+L/4294967296=r:=o_;have p:(H:Int)*2^Cv 32=((H*4294967296:Nat):Int):=by show(H:Int)*4294967296=_;omega
  have k:=aTj (h:=H) (l:=L/4294967296) o o_;rw[i]at e;rw[s]at k;refine c_ f221 λ_=>?_
  repeat' first|refine pA ?_|refine .p h1 ?_|(rw[e];refine Aa d_ ?_)|(rw[p];refine Fk (Aa (Aa d_ ⟨by simp only[bV];omega,by simp only[aW];omega⟩) ?_))|(rw[j];refine Aa d_ ?_)|exact rfl|refine lA ?_ ?_|intro h
  rw[k]
 .rw [bt h]at c;subst c;have i:(0:Int)<((H/4294967296:Nat):Int):=o_;generalize ((H/4294967296:Nat):Int)=Q at i e;refine c_ f221 λ_=>?_
  repeat' first|refine pA ?_|refine .p h1 ?_|(rw[e];refine Aa d_ ?_)|exact rfl|refine lA ?_ ?_|intro h
def XB(n:Int):bj 218 [ii n] (uu (ofF n)):=aLT n _ rfl
def aA1(a b:Nat)(d:a<18446744073709551616)(c:b<18446744073709551616):bj 222 [uu a,uu b] (uu (jW a b)):=aHy a b d c _ rfl
def NW(a b:Nat)(d:a<18446744073709551616)(c:b<18446744073709551616):bj 221 [uu a,uu b] (uu (kA a b)):=aHo a b d c _ rfl
def bl8(v:Nat):Nat:=if v<1 then 0 else if v<2 then 1 else if v<4 then 2 else if v<8 then 3 else if v<16 then 4 else if v<32 then 5 else if v<64 then 6 else if v<128 then 7 else 8
def aQY:ay:=(Df 256).map λv=>UInt8.ofNat (bl8 v)
def oD{v:Nat}(h:v<256):aQY[v]? =X (UInt8.ofNat (bl8 v)):=by simp[aQY,h]
def aQD{v:Nat}(h:1<=v)(a:v<256):1<=bl8 v/\bl8 v<=8/\2^(bl8 v-1)<=v/\v<2^bl8 v:=by
 unfold bl8
 repeat' split
 all_goals simp
 all_goals omega
def rQ(v:Nat):bl8 v<=8:=by
 unfold bl8
 repeat' split
 all_goals omega
def lU(v:Nat):((UInt8.ofNat (bl8 v)).toNat:Int)=(bl8 v:Int):=by have:=rQ v;simp;omega
def BL(x n:Nat):Prop:=1<=n/\2^(n-1)<=x/\x<2^n
def BL.up{x n:Nat}(k:Nat)(h:BL (x/2^k) n):BL x (k+n):=by
 obtain⟨h1,a,h3⟩:=h;have hp:0<2^k:=Kr d_;refine⟨by omega,?_,?_⟩
 .have:=(Hc hp).1 a;rw[show k+n-1=n-1+k by omega,Ey];exact this
 .have:=(Dc hp).1 h3;rw[Nat.add_comm,Ey];exact this
def BL.le{x n:Nat}(h:BL x n)(b:x<18446744073709551616):n<=64:=by
 obtain⟨h1,a,_⟩:=h;rcases Nat.lt_or_ge 64 n with h3|h3
 .have:2^64<=2^(n-1):=Ej d_ o_;omega
 .exact h3
def uJ{v:Nat}(h:1<=v)(b:v<256):BL v (bl8 v):=by obtain⟨a,_,c,d⟩:=aQD h b;exact⟨a,c,d⟩
def hiN(x k:Nat):Ks (x:Int) (2^k)=((x/2^k:Nat):Int):=by rw[Ea _ (Int.pow_nonneg d_)];push_cast;rfl
def NT(x:Nat):Ks (x:Int) (2^Cv 16)=((x/65536:Nat):Int):=hiN x 16
def hi8(x:Nat):Ks (x:Int) (2^Cv 8)=((x/256:Nat):Int):=hiN x 8
def aCP(x:Nat)(e:1<=x)(d:x<18446744073709551616):∃n:Nat,BL x n/\bj 377 [uu x] (ii n):=by
 by_cases i:4294967296<=x
 .by_cases h1:65536<=x/4294967296
  .by_cases c:256<=x/4294967296/65536
   .have b:BL x (32+(16+(8+(bl8 (x/4294967296/65536/256))))):=BL.up 32 (BL.up 16 (BL.up 8 (uJ (v:=x/4294967296/65536/256) o_ o_)));refine Aj (32+(16+(8+(bl8 (x/4294967296/65536/256))))) (Aa b ?_);have a:(x/4294967296/65536/256)<256:=o_;refine c_ f377 λ_=>?_
    repeat' first|refine pA ?_|(rw[fW];refine Aa d_ ?_)|(rw[NT];refine Aa d_ ?_)|(rw[hi8];refine Aa d_ ?_)|refine Aj _ (Aa (oD a) ?_)|(rw[lU];have:=rQ ((x/4294967296/65536/256));refine aJ ?_)|exact rfl|refine lA ?_ ?_|intro h
    all_goals exact congrArg (λn=>Res.ret (aa.int Is n)) (by(try rw[lU]);omega)
   .have b:BL x (32+(16+(bl8 (x/4294967296/65536)))):=BL.up 32 (BL.up 16 (uJ (v:=x/4294967296/65536) o_ o_));refine Aj (32+(16+(bl8 (x/4294967296/65536)))) (Aa b ?_);have a:(x/4294967296/65536)<256:=o_;refine c_ f377 λ_=>?_
    repeat' first|refine pA ?_|(rw[fW];refine Aa d_ ?_)|(rw[NT];refine Aa d_ ?_)|(rw[hi8];refine Aa d_ ?_)|refine Aj _ (Aa (oD a) ?_)|(rw[lU];have:=rQ ((x/4294967296/65536));refine aJ ?_)|exact rfl|refine lA ?_ ?_|intro h
    all_goals exact congrArg (λn=>Res.ret (aa.int Is n)) (by(try rw[lU]);omega)
  .by_cases c:256<=x/4294967296
   .have b:BL x (32+(8+(bl8 (x/4294967296/256)))):=BL.up 32 (BL.up 8 (uJ (v:=x/4294967296/256) o_ o_));refine Aj (32+(8+(bl8 (x/4294967296/256)))) (Aa b ?_);have a:(x/4294967296/256)<256:=o_;refine c_ f377 λ_=>?_
    repeat' first|refine pA ?_|(rw[fW];refine Aa d_ ?_)|(rw[NT];refine Aa d_ ?_)|(rw[hi8];refine Aa d_ ?_)|refine Aj _ (Aa (oD a) ?_)|(rw[lU];have:=rQ ((x/4294967296/256));refine aJ ?_)|exact rfl|refine lA ?_ ?_|intro h
    all_goals exact congrArg (λn=>Res.ret (aa.int Is n)) (by(try rw[lU]);omega)
   .have b:BL x (32+(bl8 (x/4294967296))):=BL.up 32 (uJ (v:=x/4294967296) o_ o_);refine Aj (32+(bl8 (x/4294967296))) (Aa b ?_);have a:(x/4294967296)<256:=o_;refine c_ f377 λ_=>?_
    repeat' first|refine pA ?_|(rw[fW];refine Aa d_ ?_)|(rw[NT];refine Aa d_ ?_)|(rw[hi8];refine Aa d_ ?_)|refine Aj _ (Aa (oD a) ?_)|(rw[lU];have:=rQ ((x/4294967296));refine aJ ?_)|exact rfl|refine lA ?_ ?_|intro h
    all_goals exact congrArg (λn=>Res.ret (aa.int Is n)) (by(try rw[lU]);omega)
 .by_cases h1:65536<=x
  .by_cases c:256<=x/65536
   .have b:BL x (16+(8+(bl8 (x/65536/256)))):=BL.up 16 (BL.up 8 (uJ (v:=x/65536/256) o_ o_));refine Aj (16+(8+(bl8 (x/65536/256)))) (Aa b ?_);have a:(x/65536/256)<256:=o_;refine c_ f377 λ_=>?_
    repeat' first|refine pA ?_|(rw[fW];refine Aa d_ ?_)|(rw[NT];refine Aa d_ ?_)|(rw[hi8];refine Aa d_ ?_)|refine Aj _ (Aa (oD a) ?_)|(rw[lU];have:=rQ ((x/65536/256));refine aJ ?_)|exact rfl|refine lA ?_ ?_|intro h
    all_goals exact congrArg (λn=>Res.ret (aa.int Is n)) (by(try rw[lU]);omega)
   .have b:BL x (16+(bl8 (x/65536))):=BL.up 16 (uJ (v:=x/65536) o_ o_);refine Aj (16+(bl8 (x/65536))) (Aa b ?_);have a:(x/65536)<256:=o_;refine c_ f377 λ_=>?_
    repeat' first|refine pA ?_|(rw[fW];refine Aa d_ ?_)|(rw[NT];refine Aa d_ ?_)|(rw[hi8];refine Aa d_ ?_)|refine Aj _ (Aa (oD a) ?_)|(rw[lU];have:=rQ ((x/65536));refine aJ ?_)|exact rfl|refine lA ?_ ?_|intro h
    all_goals exact congrArg (λn=>Res.ret (aa.int Is n)) (by(try rw[lU]);omega)
  .by_cases c:256<=x
   .have b:BL x (8+(bl8 (x/256))):=BL.up 8 (uJ (v:=x/256) o_ o_);refine Aj (8+(bl8 (x/256))) (Aa b ?_);have a:(x/256)<256:=o_;refine c_ f377 λ_=>?_
    repeat' first|refine pA ?_|(rw[fW];refine Aa d_ ?_)|(rw[NT];refine Aa d_ ?_)|(rw[hi8];refine Aa d_ ?_)|refine Aj _ (Aa (oD a) ?_)|(rw[lU];have:=rQ ((x/256));refine aJ ?_)|exact rfl|refine lA ?_ ?_|intro h
    all_goals exact congrArg (λn=>Res.ret (aa.int Is n)) (by(try rw[lU]);omega)
   .have b:BL x (bl8 (x)):=uJ (v:=x) o_ o_;refine Aj (bl8 (x)) (Aa b ?_);have a:x<256:=o_;refine c_ f377 λ_=>?_
    repeat' first|refine pA ?_|(rw[fW];refine Aa d_ ?_)|(rw[NT];refine Aa d_ ?_)|(rw[hi8];refine Aa d_ ?_)|refine Aj _ (Aa (oD a) ?_)|(rw[lU];have:=rQ (x);refine aJ ?_)|exact rfl|refine lA ?_ ?_|intro h
    all_goals exact congrArg (λn=>Res.ret (aa.int Is n)) (by(try rw[lU]);omega)
def aRA(x n:Nat)(a:n<=64)(h:bj 377 [uu x] (ii n)):bj 365 [uu x] (ii ((64-n:Nat):Int)):=by
 have e:(64:Int)-(n:Int)=((64-n:Nat):Int):=o_;refine c_ f365 λ_=>?_
 repeat' first|refine pA ?_|refine .p h ?_|exact rfl|refine lA ?_ ?_|intro h
 rw[e]
def wu(n:Int):IntKind.wrap IH n=n%18446744073709551616:=by simp[IntKind.wrap,IntKind.signed,IntKind.bits]
def PA(x y:Nat):Hg (x:Int) (y:Int)=((x/y:Nat):Int):=rfl
def dvF(s Y a d u b c q r:Nat):au:=[(2,uu Y),(8,uu s),(9,uu a),(10,uu d),(11,uu u),(13,uu b),(14,uu c),(15,uu q),(16,uu r)]
def dvG(s Y a e u c d q t b r:Nat):au:=[(2,uu Y),(8,uu s),(9,uu a),(10,uu e),(11,uu u),(13,uu c),(14,uu d),(15,uu q),(16,uu r),(17,uu t),(18,uu b)]
def aH6(s Y b a u c f:Nat)(G:aa)(h1:2147483648<=b)(v:b<4294967296)(z:a<4294967296)(p:c<4294967296)(n:u<b*4294967296+a)
  (fin:∀r,To E f351 (.pure (Io G)) (.code (iP f351 21) (dvF s Y b a u c f ((u*4294967296+c)/(b*4294967296+a)) r) [])):
  ∀(q r:Nat),Dg b a u c q r->r<4294967296->BC E f351 G (dvF s Y b a u c f q r) []:=by
 intro q;induction q using Hy with
 |_ q t=>
 intro r e C;have k:(4294967296:Int)*(r:Int)=((4294967296*r:Nat):Int):=o_;have m:((4294967296*r:Nat):Int)+(c:Int)=((4294967296*r+c:Nat):Int):=o_;have j:(q:Int)*(a:Int)=((q*a:Nat):Int):=(Dz q a).symm;have step:(4294967296<=q\/4294967296*r+c<q*a)->To E f351 (.pure (Io G)) (.code (iP f351 18) (dvF s Y b a u c f q r) []):=λy=>by
  obtain⟨B,d⟩:=e.step p n y;have D:=d.few;have o:=e.few;have l:(q:Int)-1=((q-1:Nat):Int):=o_;have i:(r:Int)+(b:Int)=((r+b:Nat):Int):=o_;unfold dvF;by_cases A:4294967296<=r+b
  .have g:=(d.fin (Dg.far z o_ A)).2;have fin:=fin (r+b);rw[<-g]at fin;refine gV ?_;rw[l];refine aJ (gV ?_);rw[i];refine aJ (gV ?_);refine aT λh=>?_;exact zqda18
  .have next:=t (q-1) o_ (r+b) d o_
   unfold dvF at next
   repeat' first|refine pA ?_|(rw[l];refine aJ ?_)|(rw[i];refine aJ ?_)|exact rfl|refine lA ?_ ?_|intro h
   exact zW
 by_cases w:4294967296<=q
 .have step:=step (.inl w);unfold dvF at step⊢;refine gV ?_;refine aT λh=>gV ?_;refine aY ?_;exact zqda19
 .have F:q*a<=4294967295*4294967295:=Eb o_ o_;by_cases x:4294967296*r+c<q*a
  .have step:=step (.inr x);unfold dvF at step⊢;refine gV ?_;refine aF λh=>gV ?_;rw[j];refine aJ (gV ?_);rw[k];refine aJ (gV ?_);rw[m];refine aJ (gV ?_);refine aT λh=>?_;exact zqda19
  .have g:=(e.fin o_).2;have fin:=fin r;rw[<-g]at fin;unfold dvF at fin⊢;refine gV ?_;refine aF λh=>gV ?_;rw[j];refine aJ (gV ?_);rw[k];refine aJ (gV ?_);rw[m];refine aJ (gV ?_);refine aF λh=>?_;exact zqda18
def aH5(s Y b a u f c p t:Nat)(G:aa)(h1:2147483648<=b)(x:b<4294967296)(B:a<4294967296)(v:c<4294967296)(n:t<b*4294967296+a)
  (fin:∀r,To E f351 (.pure (Io G)) (.code (iP f351 28) (dvG s Y b a u f c p t ((t*4294967296+c)/(b*4294967296+a)) r) [])):
  ∀(q r:Nat),Dg b a t c q r->r<4294967296->To E f351 (.pure (Io G)) (G0 (stk f351 1) (dvG s Y b a u f c p t q r) []):=by
 intro q;induction q using Hy with
 |_ q w=>
 intro r e F;have k:(4294967296:Int)*(r:Int)=((4294967296*r:Nat):Int):=o_;have m:((4294967296*r:Nat):Int)+(c:Int)=((4294967296*r+c:Nat):Int):=o_;have j:(q:Int)*(a:Int)=((q*a:Nat):Int):=(Dz q a).symm;have step:(4294967296<=q\/4294967296*r+c<q*a)->To E f351 (.pure (Io G)) (.code (iP f351 25) (dvG s Y b a u f c p t q r) []):=λA=>by
  obtain⟨D,d⟩:=e.step v n A;have H:=d.few;have o:=e.few;have l:(q:Int)-1=((q-1:Nat):Int):=o_;have i:(r:Int)+(b:Int)=((r+b:Nat):Int):=o_;unfold dvG;by_cases C:4294967296<=r+b
  .have g:=(d.fin (Dg.far B o_ C)).2;have fin:=fin (r+b);rw[<-g]at fin;refine gV ?_;rw[l];refine aJ (gV ?_);rw[i];refine aJ (gV ?_);refine aT λh=>?_;exact zqda15
  .have next:=w (q-1) o_ (r+b) d o_
   unfold dvG at next
   repeat' first|refine pA ?_|(rw[l];refine aJ ?_)|(rw[i];refine aJ ?_)|exact rfl|refine lA ?_ ?_|intro h
   exact zW
 by_cases y:4294967296<=q
 .have step:=step (.inl y);unfold dvG at step⊢;refine gV ?_;refine aT λh=>gV ?_;refine aY ?_;exact zqda16
 .have I:q*a<=4294967295*4294967295:=Eb o_ o_;by_cases z:4294967296*r+c<q*a
  .have step:=step (.inr z);unfold dvG at step⊢;refine gV ?_;refine aF λh=>gV ?_;rw[j];refine aJ (gV ?_);rw[k];refine aJ (gV ?_);rw[m];refine aJ (gV ?_);refine aT λh=>?_;exact zqda16
  .have g:=(e.fin o_).2;have fin:=fin r;rw[<-g]at fin;unfold dvG at fin⊢;refine gV ?_;refine aF λh=>gV ?_;rw[j];refine aJ (gV ?_);rw[k];refine aJ (gV ?_);rw[m];refine aJ (gV ?_);refine aF λh=>?_;exact zqda15
def aMr{a lo y s L:Nat}(g:BL y L)(q:L<=64)(hs:s=64-L)(d:a<y)(hl:lo<18446744073709551616):
  9223372036854775808<=y*2^s/\y*2^s<18446744073709551616/\a*2^s+lo/2^(64-s)<y*2^s/\lo/2^(64-s)<2^s/\(a*18446744073709551616+lo)/y=((a*2^s+lo/2^(64-s))*18446744073709551616+lo*2^s%18446744073709551616)/(y*2^s):=by
 obtain⟨m,k,i⟩:=g;have hp:0<2^s:=Kr d_;have b:2^(64-s)*2^s=18446744073709551616:=by rw[<-Ey,show 64-s+s=64 by omega]
 have o:2^(L-1)*2^s=9223372036854775808:=by rw[<-Ey,show L-1+s=63 by omega]
 have l:2^L*2^s=18446744073709551616:=by rw[<-Ey,show L+s=64 by omega]
 have p:2^(L-1)*2^s<=y*2^s:=Br _ k;have n:y*2^s<2^L*2^s:=Nat.mul_lt_mul_of_pos_right i hp;have c:lo*2^s/18446744073709551616=lo/2^(64-s):=by rw[<-b,Jx _ _ hp]
 have f:=Fy (lo*2^s) 18446744073709551616;rw[c]at f;have j:lo/2^(64-s)<2^s:=by refine(Dc (Kr d_)).2 ?_;rw[Cz,b];exact hl
 have e:(a+1)*2^s<=y*2^s:=Br _ d;rw[Cg,Ii]at e;have h:(a*18446744073709551616+lo)*2^s=(a*2^s+lo/2^(64-s))*18446744073709551616+lo*2^s%18446744073709551616:=by rw[Cg,Cg,Le];omega
 refine⟨by omega,by omega,by omega,j,?_⟩;rw[<-h,Jx _ _ hp]
def aJM(x s:Nat):(x:Int)*2^Cv (s:Int)=((x*2^s:Nat):Int):=by rw[Bm];push_cast;rfl
def aEG(x s:Nat):Ks (x:Int) (2^Cv (s:Int))=((x/2^s:Nat):Int):=hiN x s
def aMq(s Y j f u d b q t a r:Nat)(hs:s<=64)(k:q*4294967296+a<18446744073709551616)(n:Y<18446744073709551616)(m:a*Y<=t*4294967296+b)(g:t*4294967296+b-a*Y<18446744073709551616):
  To E f351 (.pure (Io (GT [uu (q*4294967296+a),uu ((t*4294967296+b-a*Y)/2^s)]))) (.code (iP f351 28) (dvG s Y j f u d b q t a r) []):=by
 have e:q*4294967296<18446744073709551616:=Jb (Ik _ _) k;have l:(q:Int)*4294967296=((q*4294967296:Nat):Int):=o_;have i:((q*4294967296:Nat):Int)+(a:Int)=((q*4294967296+a:Nat):Int):=o_;have h:(a:Int)*(Y:Int)=((a*Y:Nat):Int):=(Dz a Y).symm;have c:IntKind.wrap IH (IntKind.wrap IH (IntKind.wrap IH ((t:Int)*4294967296)+(b:Int))-IntKind.wrap IH ((a*Y:Nat):Int))=((t*4294967296+b-a*Y:Nat):Int):=by
  simp only[wu];generalize a*Y=z at*
  omega
 unfold dvG;generalize p:t*4294967296+b-a*Y=R at*
 generalize o:a*Y=P at*
 refine gV ?_;rw[l];refine aJ (gV ?_);rw[i];refine aJ (gV ?_);refine Jl (gV ?_);refine Jl (gV ?_);rw[h];refine Jl (gV ?_);refine Jl (gV ?_);rw[c,aEG];refine Aa (Aa o_ (show Cv (s:Int)<=64 by omega)) ?_;refine gW hE ?_;conv=>whnf
def aQk(s Y a e u b c q r:Nat)(G:aa)(h1:2147483648<=a)(h:a<4294967296)(k:e<4294967296)(x:b<4294967296)(d:c<4294967296)(g:Y=a*4294967296+e)(A:u<Y)(j:q=(u*4294967296+b)/Y)
  (fin:∀r,To E f351 (.pure (Io G)) (.code (iP f351 28) (dvG s Y a e u b c q (u*4294967296+b-q*Y) (((u*4294967296+b-q*Y)*4294967296+c)/Y) r) [])):
  To E f351 (.pure (Io G)) (.code (iP f351 21) (dvF s Y a e u b c q r) []):=by
 have y:q*Y<=u*4294967296+b:=by rw[j];exact Gp ..
 have i:0<Y:=o_;have f:=TN i j rfl;have o:(q:Int)*(Y:Int)=((q*Y:Nat):Int):=(Dz q Y).symm;have l:IntKind.wrap IH (IntKind.wrap IH (IntKind.wrap IH ((u:Int)*4294967296)+(b:Int))-IntKind.wrap IH ((q*Y:Nat):Int))=((u*4294967296+b-q*Y:Nat):Int):=by
  simp only[wu];generalize q*Y=z at*
  omega
 generalize u*4294967296+b-q*Y=t at*
 have v:=aH5 s Y a e u b c q t G h1 h k d (by rw[<-g];exact f) (by rw[<-g];exact fin) (t/a) (t%a) (Dg.zero h1 k d (by rw[<-g];exact f)) (by have:=Ef t (show 0<a by omega);omega);have n:=Fy t a;have m:=PA t a;have p:((t/a:Nat):Int)*(a:Int)=((t/a*a:Nat):Int):=(Dz _ _).symm;have w:(t:Int)-((t/a*a:Nat):Int)=((t%a:Nat):Int):=by
  rw[Cz]at n;generalize t/a*a=z at*
  omega
 have B:t/a*a<=t:=Gp ..;have C:t/a<=t:=Di ..;have hm:=Ef t (show 0<a by omega);unfold dvF;unfold dvG at v;generalize t/a*a=z at*
 generalize t/a=q2 at*
 generalize t%a=r2 at*
 generalize q*Y=P at*
 refine gV ?_;refine Jl (gV ?_);refine Jl (gV ?_);rw[o];refine Jl (gV ?_);refine Jl (gV ?_);rw[l];refine Aa o_ (gV ?_);rw[m];refine aJ (gV ?_);rw[p];refine aJ (gV ?_);rw[w];exact zW
def aMp(a lo y s Y H Q Be A b i d e q r z:Nat)(G:aa)(R:0<a)(L:a<y)(hs:s<=63)(c:bj 365 [uu y] (ii s))
  (M:Y<18446744073709551616) (t:H<=Be) (P:Be<Y) (As:Q<=Be) (J:(y:Int)*2^Cv (s:Int)=(Y:Int)) (v:(a:Int)*2^Cv (s:Int)=(H:Int)) (k:Ks (lo:Int) (2^Cv ((64-s:Nat):Int))=(Q:Int))
  (n:dB .or IH (H:Int) (Q:Int)=(Be:Int)) (B:IntKind.wrap IH ((lo:Int)*2^(min (Cv (s:Int)) (IntKind.bits IH)))=(A:Int))
  (C:Ks (Y:Int) (2^Cv 32)=(b:Int)) (I:dB .and IH (Y:Int) 4294967295=(i:Int)) (l:Ks (A:Int) (2^Cv 32)=(d:Int)) (o:dB .and IH (A:Int) 4294967295=(e:Int))
  (w:0<b) (p:Hg (Be:Int) (b:Int)=(q:Int)) (u:(q:Int)*(b:Int)=(z:Int)) (F:(Be:Int)-(z:Int)=(r:Int)) (K:z<=Be) (At:q<=Be) (N:r<=Be)
  (D:BC E f351 G (dvF s Y b i Be d e q r) []):bj 351 [uu a,uu lo,uu y] G:=by
 have j:((y:Int)==0)=false:=beq_eq_false_iff_ne.2 o_;have m:((a:Int)==0)=false:=beq_eq_false_iff_ne.2 o_;have x:(64:Int)-(s:Int)=((64-s:Nat):Int):=o_;unfold dvF at D;refine c_ f351 λ_=>gV ?_;refine Aa (λh=>bv (j.symm.trans h) d_) (λ_=>gV ?_);refine aF λh=>gV ?_;refine Aa (λh=>bv (m.symm.trans h) d_) (λ_=>gV ?_);refine .p c (gV ?_);refine aJ (gV ?_);refine Aa o_ (gV ?_);rw[J];refine Fk (Aa (Aa (show Cv (s:Int)<=64 by omega) (Aa (by simp only[bV];omega) (by simp only[aW];omega))) ?_);refine gV ?_;rw[C];refine Aa d_ (gV ?_);rw[I];refine Aa o_ (gV ?_);rw[v];refine Fk (Aa (Aa (show Cv (s:Int)<=64 by omega) (Aa (by simp only[bV];omega) (by simp only[aW];omega))) ?_);refine gV ?_;rw[x];refine aJ (gV ?_);rw[k];refine Aa (Aa o_ (show Cv ((64-s:Nat):Int)<=64 by omega)) ?_;refine gV ?_;rw[n];refine Aa o_ (gV ?_);refine Jl (gV ?_);rw[B,l];refine Aa d_ (gV ?_);rw[o];refine Aa o_ (gV ?_);rw[p];refine aJ (gV ?_);rw[u];refine aJ (gV ?_);rw[F];exact zW
def X0(b lo y:Nat)(h0:0<b)(V:b<y)(At:y<18446744073709551616)(hl:lo<18446744073709551616):∃m:Int,bj 351 [uu b,uu lo,uu y] (GT [uu ((b*18446744073709551616+lo)/y),GE IH m]):=by
 obtain⟨L,R,hc⟩:=aCP y o_ At;have c:=R.le At;have t:=aRA y L c hc;have hL1:=R.1
 obtain⟨s,hs⟩:∃s,s=64-L:=⟨_,rfl⟩
 obtain⟨n1,n2,C,T,W⟩:=aMr R c hs V hl;rw[<-hs]at t;rw[W];have hA:lo*2^s%18446744073709551616<18446744073709551616:=Ef _ d_;have e:dB .or IH ((b*2^s:Nat):Int) ((lo/2^(64-s):Nat):Int)=((b*2^s+lo/2^(64-s):Nat):Int):=by
  have An:=Gr T b;rw[Cz]at An;rw[An];generalize y*2^s=Y at*
  generalize b*2^s=H at*
  generalize lo/2^(64-s)=Q at*
  exact nN IH H Q (by simp only[aW];omega) (by simp only[aW];omega)
 have i:IntKind.wrap IH ((lo:Int)*2^(min (Cv (s:Int)) (IntKind.bits IH)))=((lo*2^s%18446744073709551616:Nat):Int):=by have h:=aJM lo s;rw[Bm]at h;rw[wu,Bm,Nat.min_eq_left (show s<=IntKind.bits IH from(show s<=64 by omega)),h];generalize lo*2^s=z;omega
 have j:=aJM y s;have g:=aJM b s;have d:=aEG lo (64-s);clear T;generalize y*2^s=Y at*
 generalize b*2^s=H at*
 generalize lo/2^(64-s)=Q at*
 generalize lo*2^s%18446744073709551616=A at*
 have G:H<=H+Q:=Ik ..;have J:Q<=H+Q:=Nat.le_add_left ..;generalize H+Q=Be at*
 have k:2147483648<=Y/4294967296:=by clear j g d e i;omega
 have l:Y/4294967296<4294967296:=by clear j g d e i;omega
 have n:Y%4294967296<4294967296:=Ef _ d_;have o:A/4294967296<4294967296:=by clear j g d e i;omega
 have q:A%4294967296<4294967296:=Ef _ d_;have a:Y=Y/4294967296*4294967296+Y%4294967296:=by clear j g d e i;omega
 have eN:Be*18446744073709551616+A=Be*18446744073709551616+A/4294967296*4294967296+A%4294967296:=by clear j g d e i;omega
 have M:=fW Y;have P:=RX Y n2;have D:=fW A;have F:=RX A hA;have p:0<Y:=o_;rw[eN];clear eN W;generalize A/4294967296=a1 at*
 generalize A%4294967296=a0 at*
 have two:=aMF (Y:=Y) (u:=Be) (v:=a1) (w:=a0) p rfl rfl rfl q;have B:(Be*18446744073709551616+a1*4294967296+a0)/Y<18446744073709551616:=(Dc p).2 (by clear j g d e i M P D F two a;omega);have K:(((Be*4294967296+a1-(Be*4294967296+a1)/Y*Y)*4294967296+a0)/Y)*Y<=(Be*4294967296+a1-(Be*4294967296+a1)/Y*Y)*4294967296+a0:=Gp ..;have As:=TN (N:=(Be*4294967296+a1-(Be*4294967296+a1)/Y*Y)*4294967296+a0) p rfl rfl;have tail:=λr=>aMq s Y (Y/4294967296) (Y%4294967296) Be a1 a0 ((Be*4294967296+a1)/Y) (Be*4294967296+a1-(Be*4294967296+a1)/Y*Y) (((Be*4294967296+a1-(Be*4294967296+a1)/Y*Y)*4294967296+a0)/Y) r o_ (by rw[two];exact B) n2 K (Nc As n2);rw[two]at tail;have mid:=λr=>aQk s Y (Y/4294967296) (Y%4294967296) Be a1 a0 ((Be*4294967296+a1)/Y) r _ k l n o q a C rfl tail;have x:0<Y/4294967296:=o_;have I:=Ef Be x;have Am:=aH6 s Y (Y/4294967296) (Y%4294967296) Be a1 a0 _ k l n o (by rw[<-a];exact C) (by rw[<-a];exact mid) (Be/(Y/4294967296)) (Be%(Y/4294967296)) (Dg.zero k n o (by rw[<-a];exact C)) (Nc I l);have et:=Fy Be (Y/4294967296)
 exact⟨_,aMp b lo y s Y H Q Be A _ _ a1 a0 _ _ (Be/(Y/4294967296)*(Y/4294967296)) _ h0 V o_ t n2 G C J j g d e i M P D F x (PA _ _) (Dz _ _).symm (by
  rw[Cz]at et;generalize Be/(Y/4294967296)*(Y/4294967296)=z at*
  clear j g d e i M P D F a tail mid Am two
  omega) (Gp ..) (Di ..) (Lf ..) Am⟩
def aOg(x y:Nat):Int.tmod (x:Int) (y:Int)=((x%y:Nat):Int):=rfl
def XZ(lo y:Nat)(j:0<y)(d:y<18446744073709551616)(hl:lo<18446744073709551616):bj 351 [uu 0,uu lo,uu y] (GT [uu (lo/y),uu (lo%y)]):=by
 have b:((y:Int)==0)=false:=beq_eq_false_iff_ne.2 o_;have c:=PA lo y;have a:=aOg lo y;have i:lo/y<=lo:=Di ..;have e:=Lf lo y;generalize lo/y=q at*
 generalize lo%y=r at*
 refine c_ f351 λ_=>gV ?_;refine Aa (λh=>bv (b.symm.trans h) d_) (λ_=>?_)
 repeat' first|refine pA ?_|(rw[c];refine aJ ?_)|(rw[a];refine aJ ?_)|exact rfl|refine lA ?_ ?_|intro h
 rw[a]
def aIe(a lo y:Nat)(c:a<y)(b:y<18446744073709551616)(hl:lo<18446744073709551616):∃m:Int,bj 351 [uu a,uu lo,uu y] (GT [uu ((a*18446744073709551616+lo)/y),GE IH m]):=by
 rcases Gy a with rfl|h
 .rw [Mf,Bv];exact⟨_,XZ lo y c b hl⟩
 .exact X0 a lo y h c b hl
def aQC(a b:Nat)(p:a<18446744073709551616)(k:b<18446744073709551616)(r:Nat)(c:uF a b=r):bj 317 [uu a,uu b] (uu r):=by
 unfold uF at c;by_cases j:a=0
 .subst j;have c:0=r:=c;subst c;exact c_ f317 λ_=>zW
 .have d:((a:Int)==0)=false:=beq_eq_false_iff_ne.2 o_;rw[bt j]at c;have i:=fW a
  obtain⟨W,o⟩:∃W,W=a%4294967296*4294967296:=⟨_,rfl⟩
  have n:IntKind.wrap IH ((a:Int)*2^(min (Cv 32) (IntKind.bits IH)))=(W:Int):=by show IntKind.wrap IH ((a:Int)*4294967296)=_;rw[wu];omega
  by_cases h1:b<=a/4294967296
  .have c:18446744073709551615=r:=by
    rcases Gy b with rfl|hp
    .exact c
    .rw [bt o_,aQo hp h1]at c;exact c
   subst c;generalize a/4294967296=H at*
   refine c_ f317 λ_=>gV ?_;refine Aa (λh=>bv (d.symm.trans h) d_) (λ_=>gV ?_);rw[i];refine Aa d_ (gV ?_);refine Aa d_ (gV ?_);refine Jl ?_;exact zW
  .obtain ⟨m,e⟩:=aIe (a/4294967296) W b o_ k o_;have l:a/4294967296*18446744073709551616+W=a*4294967296:=o_;rw[l]at e;rw[bt o_,(aQn o_).2]at c;rw[c]at e;generalize a/4294967296=H at*
   refine c_ f317 λ_=>gV ?_;refine Aa (λh=>bv (d.symm.trans h) d_) (λ_=>gV ?_);rw[i];refine Aa d_ (gV ?_);refine Aa d_ (gV ?_);refine Jl (gV ?_);refine aF λh=>?_;rw[n];exact zW
def aNV(a b:Nat)(d:a<18446744073709551616)(c:b<18446744073709551616):bj 317 [uu a,uu b] (uu (uF a b)):=aQC a b d c _ rfl
def aAX(a b:Nat)(c:a<18446744073709551616)(d:b<18446744073709551616):bj 354 [uu a,uu b] (uu (uF a b)):=by have h:=aNV a b c d;generalize uF a b=r at h;exact c_ f354 λ_=>zW
def DX(a b:Int)(e:a<=9223372036854775807)(i:b<=9223372036854775807):bj 275 [ii a,ii b] (uu (wA a b)):=by have h:=aNV (max a 0).toNat (max b 0).toNat o_ o_;unfold wA;have c:(((max a 0).toNat:Nat):Int)=max a 0:=o_;have d:(((max b 0).toNat:Nat):Int)=max b 0:=o_;generalize uF (max a 0).toNat (max b 0).toNat=r at h;unfold uu at h;rw[c,d]at h;exact c_ f275 λ_=>zW
def qU(n:Nat):sG n=if n<18446744073709551616 then n else 18446744073709551615:=rfl
def aKm{s x y l:Nat}:sG (s+x+y+l)=if jW (jW s x) y=18446744073709551615 then 18446744073709551615 else jW (jW (jW s x) y) l:=by
 unfold jW;simp only[qU]
 repeat' split
 all_goals omega
def rmF(ah b a bl:Nat):au:=[(5,uu ah),(6,uu b),(7,uu a),(8,uu bl)]
def aKd(ah a c bl r:Nat)(B:ah<4294967296)(v:a<4294967296)(l:c<4294967296)(t:bl<4294967296)(b:sG (ah*c*4294967296+ah*bl+a*c+a*bl/4294967296)=r):
  To E f122 (.pure (Io (uu r))) (.code (iP f122 5) (rmF ah a c bl) []):=by
 have e:=aK5 ah c;have n:=aK5 ah bl;have m:=aK5 a c;have j:=aK5 a bl;have z:ah*c<=4294967295*4294967295:=Eb o_ o_;have y:ah*bl<=4294967295*4294967295:=Eb o_ o_;have w:a*c<=4294967295*4294967295:=Eb o_ o_;have x:a*bl<=4294967295*4294967295:=Eb o_ o_;have i:Hg ((a*bl:Nat):Int) 4294967296=((a*bl/4294967296:Nat):Int):=tdN (a*bl) 4294967296;have A:a*bl/4294967296<4294967296:=o_;unfold rmF;generalize ah*c=P at*
 generalize ah*bl=An at*
 generalize a*c=Y at*
 generalize a*bl=Am at*
 generalize Am/4294967296=L at*
 by_cases h1:4294967296<=P
 .have b:18446744073709551615=r:=by rw[qU,bt o_]at b;exact b
  subst b;refine gV ?_;rw[e];exact zW
 .have g:(P:Int)*4294967296=((P*4294967296:Nat):Int):=o_
  obtain⟨At,s⟩:∃At,At=P*4294967296:=⟨_,rfl⟩
  rw[<-s]at b g;have k:=mL At An o_ o_;have q:=D5 At An;rw[aKm]at b;generalize jW At An=S1 at*
  have o:=mL S1 Y o_ o_;have p:=D5 S1 Y;generalize jW S1 Y=d at*
  by_cases f:d=18446744073709551615
  .rw [bu f]at b;subst b;have l:((d:Int)==18446744073709551615)=true:=by rw[f];rfl
   exact zqda0
  .rw [bt f]at b;have u:=mL d L o_ o_;rw[b]at u;have l:((d:Int)==18446744073709551615)=false:=beq_eq_false_iff_ne.2 o_;exact zqda0
def V4(a b:Nat)(C:a<18446744073709551616)(B:b<18446744073709551616)(r:Nat)(d:kA a b=r):bj 122 [uu a,uu b] (uu r):=by
 have v:Hg (a:Int) 4294967296=((a/4294967296:Nat):Int):=tdN a 4294967296;have y:Int.tmod (a:Int) 4294967296=((a%4294967296:Nat):Int):=tmN a 4294967296;have x:Hg (b:Int) 4294967296=((b/4294967296:Nat):Int):=tdN b 4294967296;have q:Int.tmod (b:Int) 4294967296=((b%4294967296:Nat):Int):=tmN b 4294967296;have o:a=a/4294967296*4294967296+a%4294967296:=o_;have m:b=b/4294967296*4294967296+b%4294967296:=o_;have l:a%4294967296<4294967296:=Ef _ d_;have n:b%4294967296<4294967296:=Ef _ d_;have j:a/4294967296<4294967296:=o_;have e:b/4294967296<4294967296:=o_;have p:=aKn o m l n;unfold kA at d;rw[p]at d;clear p o m;have tail:=aKd _ _ _ _ r j l e n d;unfold rmF at tail;generalize a/4294967296=ah at*
 generalize a%4294967296=al at*
 generalize b/4294967296=c at*
 generalize b%4294967296=bl at*
 refine c_ f122 λ_=>gV ?_;refine Aa d_ (gV ?_);rw[v];refine aJ (gV ?_);refine Aa d_ (gV ?_);rw[y];refine Aa d_ (gV ?_);rw[x];refine aJ (gV ?_);refine Aa d_ (gV ?_);rw[q];by_cases h1:0<ah
 .refine aT λh=>?_;by_cases u:0<c
  .have s:Hg 18446744073709551615 (c:Int)=((18446744073709551615/c:Nat):Int):=tdN 18446744073709551615 c;have w:Hg ((18446744073709551615/c:Nat):Int) 4294967296=((18446744073709551615/c/4294967296:Nat):Int):=tdN (18446744073709551615/c) 4294967296;have i:=aFy (ah:=ah) u;have t:18446744073709551615/c<=18446744073709551615:=Di ..;have k:18446744073709551615/c/4294967296<=18446744073709551615/c:=Di ..;generalize 18446744073709551615/c=Q at*
   generalize Q/4294967296=Q2 at*
   refine gV ?_;refine aT λh=>gV ?_;refine Aa o_ (gV ?_);rw[s];refine aJ (gV ?_);refine Aa d_ (gV ?_);rw[w];refine aJ (gV ?_);by_cases h3:Q2<ah
   .have z:=i.1 h3;have d:18446744073709551615=r:=by
     rw[qU,bt]at d
     .exact d
     .generalize ah*c=P at*
      omega
    subst d;exact zW
   .refine aF λh=>?_;exact zqda8
  .refine gV ?_;refine aF λh=>gV ?_;refine aN ?_;exact zqda8
 .refine aF λh=>gV ?_;refine aN (gV ?_);refine aN ?_;exact zqda8
def uX(a b:Nat)(d:a<18446744073709551616)(c:b<18446744073709551616):bj 122 [uu a,uu b] (uu (kA a b)):=V4 a b d c _ rfl
def ovF(a b q r:Nat)(i:Int):au:=[(0,uu a),(1,uu b),(5,uu q),(6,uu r),(7,ii i)]
def IG(a i:Nat):Nat:=a*4294967296/2^i%2
def aBy(a i:Nat):IG a i<2:=Ef _ d_
def aGf(n:Nat):dB .or IH ((2*n:Nat):Int) 1=if 2*n<18446744073709551616 then((2*n+1:Nat):Int)else dB .or IH ((2*n:Nat):Int) 1:=by
 split
 .have h:=nN IH (2*n) 1 (by simp only[aW];omega) d_;have a:2*n ||| 1=2*n+1:=by have:=Gr (i:=1) (b:=1) d_ n;simpa using this.symm
  rw[a]at h;exact h
 .rfl
def G1(z:Nat)(hz:z<18446744073709551616):dB .and IH (z:Int) 1=((z%2:Nat):Int):=by have h:=vT IH z 1 (by simp only[aW];omega) d_;rw[Nat.and_one_is_mod]at h;exact h
def aAj(a b q r v i:Nat)(top:Bool)(w:Int)(G:aa)(s:0<b)(n:b<18446744073709551616)(t:q<18446744073709551616)(p:i<96)(o:0<=w/\w<=18446744073709551615)(k:top=decide (18446744073709551616<=v))(f:(v:Int)=w+(if top=O then 18446744073709551616 else 0))(l:v<2*b)
  (ret:9223372036854775808<=q->G=uu 18446744073709551615)
  (next:q<9223372036854775808->BC E f255 G (ovF a b (if b<=v then 2*q+1 else 2*q) (if b<=v then v-b else v) ((i:Int)-1)) []):
  To E f255 (.pure (Io G)) (.code (iP f255 10) [(0,uu a),(1,uu b),(5,uu q),(6,GE IH w),(7,ii i),(8,DA top)] []):=by
 have g:=aGf q;cases top with
 |true=>
  have h1:=(bn k.symm)
  have f:(v:Int)=w+18446744073709551616:=f;have j:IntKind.wrap IH (w-(b:Int))=((v-b:Nat):Int):=by rw[wu];omega
  rw[bu o_,bu o_]at next
  refine gV ?_;refine aY (gV ?_);refine aY (gV ?_);refine Jl ?_;rw[j];refine gV ?_;by_cases c:9223372036854775808<=q
  .have d:=ret c;subst d;exact zW
  .have next:=next o_
   have e:(q:Int)*2^Cv 1=((2*q:Nat):Int):=by show(q:Int)*2=_;omega
   refine aF λh=>gV ?_;refine Aa d_ (gV ?_);rw[e];refine Fk (Aa (Aa d_ (Aa (by simp only[bV];omega) (by simp only[aW];omega))) ?_);refine gV ?_;refine aY ?_;rw[bu o_]at g;refine gV ?_;rw[g];exact zW
 |false=>
  have h1:=(bm k.symm)
  have f:(v:Int)=w+0:=f;have m:w=(v:Int):=o_;subst m;by_cases h3:b<=v
  .rw [bu h3,bu h3]at next
   have j:(v:Int)-(b:Int)=((v-b:Nat):Int):=o_;refine gV ?_;refine aN (gV ?_);refine aT λh=>gV ?_;rw[j];refine aJ (gV ?_);by_cases c:9223372036854775808<=q
   .have d:=ret c;subst d;exact zW
   .have next:=next o_
    have e:(q:Int)*2^Cv 1=((2*q:Nat):Int):=by show(q:Int)*2=_;omega
    refine aF λh=>gV ?_;refine Aa d_ (gV ?_);rw[e];refine Fk (Aa (Aa d_ (Aa (by simp only[bV];omega) (by simp only[aW];omega))) ?_);refine gV ?_;refine aT λh=>?_;rw[bu o_]at g;refine gV ?_;rw[g];exact zW
  .rw [bt h3,bt h3]at next
   refine gV ?_;refine aN (gV ?_);refine aF λh=>gV ?_;by_cases c:9223372036854775808<=q
   .have d:=ret c;subst d;exact zW
   .have next:=next o_
    have e:(q:Int)*2^Cv 1=((2*q:Nat):Int):=by show(q:Int)*2=_;omega
    refine aF λh=>gV ?_;refine Aa d_ (gV ?_);rw[e];refine Fk (Aa (Aa d_ (Aa (by simp only[bV];omega) (by simp only[aW];omega))) ?_);exact zW
def aF9(a b q k i:Nat)(top:Bool)(G:aa)(o:a<18446744073709551616)(r:i<96)(m:2*k<18446744073709551616)(tail:To E f255 (.pure (Io G)) (.code (iP f255 10) [(0,uu a),(1,uu b),(5,uu q),(6,uu (2*k+IG a i)),(7,ii i),(8,DA top)] [])):
  To E f255 (.pure (Io G)) (.code (iP f255 8) [(0,uu a),(1,uu b),(5,uu q),(6,uu (2*k)),(7,ii i),(8,DA top)] []):=by
 have g:=aGf k;rw[bu m]at g;by_cases e:32<=i
 .have l:(i:Int)-32=((i-32:Nat):Int):=o_;have f:=aEG a (i-32);have j:dB .and IH ((a/2^(i-32):Nat):Int) 1=(IG a i:Int):=by unfold IG;rw[aQF a e];exact G1 _ (Jb (Di ..) o)
  have n:=aBy a i;generalize a/2^(i-32)=z at*
  generalize IG a i=t at*
  by_cases d:t=1
  .subst d;have c:(((1:Nat):Int)==1)=true:=rfl;have p:((2*k:Nat):Int)+1=((2*k+1:Nat):Int):=rfl;refine gV ?_;refine aT λh=>gV ?_;rw[l];refine aJ (gV ?_);refine aJ (gV ?_);rw[f];refine Aa (Aa o_ (show Cv ((i-32:Nat):Int)<=64 by omega)) ?_;refine gV ?_;rw[j];refine Aa (λ_=>?_) (λh=>bv (c.symm.trans h) d_);refine bO hE 12 ?_;conv=>whnf
   rw[g];exact zqda21
  .have d:t=0:=o_;subst d;have c:(((0:Nat):Int)==1)=false:=rfl;refine gV ?_;refine aT λh=>gV ?_;rw[l];refine aJ (gV ?_);refine aJ (gV ?_);rw[f];refine Aa (Aa o_ (show Cv ((i-32:Nat):Int)<=64 by omega)) ?_;refine gV ?_;rw[j];refine Aa (λh=>bv (c.symm.trans h) d_) (λ_=>?_);refine bO hE 2 ?_;conv=>whnf
   exact zqda21
 .have hz:IG a i=0:=aQE a o_;rw[hz,Fj]at tail;refine gV ?_;refine aF λh=>gV ?_;refine aN ?_;refine bO hE 2 ?_;conv=>whnf
  exact zqda21
def aKK(a b:Nat)(y:a<18446744073709551616)(e:0<b)(d:b<18446744073709551616)(R:Nat)(f:sG (a*4294967296/b)=R):∀(m q r:Nat),m<=96->r<b->q<18446744073709551616->a*4294967296/2^m=q*b+r->
  BC E f255 (uu R) (ovF a b q r ((m:Int)-1)) []:=by
 intro m;induction m with
 |zero=>
  intro q r hm l g j;have u:=aF7 l j;rw[<-u,qU,bu g]at f;subst f;unfold ovF;exact tA
 |succ i w=>
  intro q r hm l g j;have x:=aBy a i;obtain⟨n,k⟩:=aCF e l j;have z:a*4294967296/2^i%2=IG a i:=rfl;rw[z]at n k
  obtain⟨v,s⟩:∃v,v=2*r+IG a i:=⟨_,rfl⟩
  rw[<-s]at n k;have ret:9223372036854775808<=q->uu R=uu 18446744073709551615:=λh=>by have:=aF8 e j h;rw[qU,bt o_]at f;rw[<-f]
  have next:q<9223372036854775808->BC E f255 (uu R) (ovF a b (if b<=v then 2*q+1 else 2*q) (if b<=v then v-b else v) ((i:Int)-1)) []:=λh=>by
   by_cases c:b<=v
   .rw [bu c,bu c];exact w (2*q+1) (v-b) o_ (k c).2 o_ (k c).1
   .rw [bt c,bt c];exact w (2*q) v o_ o_ o_ (n o_)
  have A:((i+1:Nat):Int)-1=(i:Int):=o_;unfold ovF;rw[A];by_cases h1:9223372036854775808<=r
  .have tail:=aAj a b q r v i O (2*(r-9223372036854775808)+IG a i:Nat) (uu R) e d g o_ o_ (bq o_).symm (by rw[bu rfl];omega) o_ ret next
   have o:=aF9 a b q (r-9223372036854775808) i O (uu R) y o_ o_ tail;have t:IntKind.wrap IH ((r:Int)*2^(min (Cv 1) (IntKind.bits IH)))=((2*(r-9223372036854775808):Nat):Int):=by show IntKind.wrap IH ((r:Int)*2)=_;rw[wu];omega
   have p:decide ((9223372036854775808:Int)<=(r:Int))=true:=bq o_;refine gV ?_;refine aT λh=>gV ?_;rw[p];refine Aa d_ (gV ?_);refine Jl ?_;rw[t];exact zqda25
  .have tail:=aAj a b q r v i S (2*r+IG a i:Nat) (uu R) e d g o_ o_ (bp o_).symm (by rw[bt d_];omega) o_ ret next
   have o:=aF9 a b q r i S (uu R) y o_ o_ tail;have t:(r:Int)*2^Cv 1=((2*r:Nat):Int):=by show(r:Int)*2=_;omega
   have p:decide ((9223372036854775808:Int)<=(r:Int))=false:=bp o_;refine gV ?_;refine aT λh=>gV ?_;rw[p];refine Aa d_ (gV ?_);rw[t];refine Fk (Aa (Aa d_ (Aa (by simp only[bV];omega) (by simp only[aW];omega))) ?_);exact zqda25
def aAi(a b:Nat)(e:a<18446744073709551616)(d:0<b)(c:b<18446744073709551616):bj 255 [uu a,uu b] (uu (sG (a*4294967296/b))):=by
 have i:a*4294967296/2^96=0*b+0:=by
  rw[Jy]
  .simp
  .have:(2:Nat)^96=18446744073709551616*4294967296:=by decide
   omega
 have h:=aKK a b e d c _ rfl 96 0 0 o_ d o_ i;generalize sG (a*4294967296/b)=R at*
 unfold ovF at h;exact c_ f255 λ_=>zW
def JF(a b:Nat)(d:a<18446744073709551616)(e:b<18446744073709551616):bj 307 [uu a,uu b] (uu (uF a b)):=by
 unfold uF;by_cases h1:a=0
 .subst h1;exact zqda14
 .have i:((a:Int)==0)=false:=beq_eq_false_iff_ne.2 o_;rw[bt h1];by_cases c:b=0
  .subst c;exact zqda14
  .have j:((b:Int)==0)=false:=beq_eq_false_iff_ne.2 o_;rw[bt c];have h:=aAi a b d o_ e;generalize sG (a*4294967296/b)=R at*
   exact zqda14
def uW(a b:Int)(h:a<=9223372036854775807)(j:b<=9223372036854775807):bj 182 [ii a,ii b] (uu (wA a b)):=by
 unfold wA uF;by_cases h1:a<=0
 .rw [bu o_];exact zqda11
 .rw [bt o_];by_cases i:b<=0
  .rw [bu o_];exact zqda11
  .rw [bt o_];have c:=aAi (max a 0).toNat (max b 0).toNat o_ o_ o_;have d:(((max a 0).toNat:Nat):Int)=a:=o_;have e:(((max b 0).toNat:Nat):Int)=b:=o_;generalize sG ((max a 0).toNat*4294967296/(max b 0).toNat)=R at*
   unfold uu at c;rw[d,e]at c;exact zqda11
def X4:a6:=[3037000499,3611622602,3938502375,4112874772,4202935002,4248701964,4271771996,4283353945,4289156689,4292061009,4293513906,4294240539,4294603902,4294785595,4294876444,4294921869]
abbrev PD:az:=X4.map uu
def BA(f x i:Nat):Nat:=if f.testBit (15-i)=O then kA x ((X4[i]?).getD 0)else x
def aP0(f:Nat):Nat:=(Df 16).foldl (BA f) 4294967296
def nK(age half:Int):Nat:=
 if 63<(max age 0).toNat/(max half 1).toNat then 0 else aP0 (wA (((max age 0).toNat%(max half 1).toNat:Nat):Int) ((max half 1).toNat:Int)/65536)/2^((max age 0).toNat/(max half 1).toNat)
def aNe(f k:Nat):f &&& 2^k=if f.testBit k=O then 2^k else 0:=by
 refine Nat.eq_of_testBit_eq λj=>?_;rw[Nat.testBit_and,La];by_cases h:k=j
 .subst h;cases f.testBit k<;>simp
 .cases f.testBit k<;>simp[h,La]
def X3{i:Nat}(h:i<16):∃p:Nat,X4[i]? =X p/\p<=4294967296/\PD[i]? =X (uu p):=by
 have hl:Z X4=16:=rfl;refine⟨X4[i],Ab o_,?_,by show(X4.map uu)[i]? =_;rw[List.getElem?_map,Ab o_];rfl⟩;have:∀p∈X4,p<=4294967296:=by decide
 exact this _ (Av _)
def aGy{x p:Nat}(a:x<=4294967296)(hp:p<=4294967296):kA x p<=4294967296:=by
 unfold kA;have h1:x*p<=4294967296*4294967296:=Eb a hp;generalize x*p=z at*
 rw[qU];split<;>omega
def NY{f x i:Nat}(c:i<16)(a:x<=4294967296):BA f x i<=4294967296:=by
 unfold BA;obtain⟨p,h1,b,_⟩:=X3 c;rw[h1];split
 .exact aGy a b
 .exact a
def aA3(f:Nat):∀(l:a6) (x:Nat),(∀i∈l,i<16)->x<=4294967296->l.foldl (BA f) x<=4294967296
 |[],x,_,hx=>hx
 |i::l,x,h,hx=>aA3 f l _ (λj a=>h j (List.mem_cons_of_mem _ a)) (NY (h i (Aw ..)) hx)
def aA2(f:Nat):aP0 f<=4294967296:=aA3 f _ _ (λi a=>List.mem_range.1 a) (Bc _)
def aA4(age half:Int):nK age half<=4294967296:=by
 unfold nK;split
 .omega
 .exact Cl (Di ..) (aA2 _)
def lY(a b:Int):wA a b<18446744073709551616:=aME _ _
def E7(f:Nat){i:Nat}(h:i<16)(x:Nat):((Df 16).drop i).foldl (BA f) x=((Df 16).drop (i+1)).foldl (BA f) (BA f x i):=by rw[Ac (by simpa using h)];simp
def UT{i:Nat}(h:i<16):i=0\/i=1\/i=2\/i=3\/i=4\/i=5\/i=6\/i=7\/i=8\/i=9\/i=10\/i=11\/i=12\/i=13\/i=14\/i=15:=o_
def UW:bj 276 [] (He PD):=by exact c_ f276 λ_=>zW
def aJZ:bj 253 [] (He PD):=by exact c_ f253 λ_=>zW
def aMG(A H f:Nat)(D:f<18446744073709551616)(F:A<9223372036854775808)(C:0<H)(t:H<9223372036854775808)(G:A/H<=63)(R:Nat):∀(m i x:Nat),i+m=16->x<=4294967296->((Df 16).drop i).foldl (BA f) x/2^(A/H)=R->
  BC E f217 (uu R) [(0,ii A),(1,ii H),(5,uu f),(6,uu x),(23,He PD),(24,ii i)] []:=by
 intro m;induction m with
 |zero=>
  intro i x o j c;rw[Ae q_]at c;have c:x/2^(A/H)=R:=c;have g:=PA A H;have d:=aEG x (A/H);rw[c]at d;have v:A/H<=A:=Di ..;generalize A/H=q at*
  refine gV ?_;refine aF λh=>gV ?_;refine Aa o_ (gV ?_);rw[g];refine aJ (gV ?_);rw[d];refine Aa (Aa o_ (show Cv (q:Int)<=64 by omega)) ?_;refine gW hE ?_;conv=>whnf
 |succ m u=>
  intro i x o j c;rw[E7 f o_]at c;have next:=u (i+1) (BA f x i) o_ (NY o_ j) c
  obtain⟨p,hp,s,n⟩:=X3 (i:=i) o_;have g:(15:Int)-(i:Int)=((15-i:Nat):Int):=o_;have d:(1:Int)*2^Cv ((15-i:Nat):Int)=((2^(15-i):Nat):Int):=by have:=aJM 1 (15-i);rw[Ii]at this;exact this
  have z:2^(15-i)<=2^15:=Ej d_ o_;have a:=vT IH f (2^(15-i)) (by simp only[aW];omega) (by simp only[aW];omega);rw[aNe]at a;have r:0<2^(15-i):=Kr d_;unfold BA at next
  rw[hp]at next
  have hm:=NW x p o_ o_;have B:15-i<=15:=o_;generalize 15-i=k at*
  have go:∀b,f.testBit k=b->BC E f217 (uu R) [(0,ii A),(1,ii H),(5,uu f),(6,uu x),(23,He PD),(24,ii i)] []:=λb e=>by
   cases b with
   |true=>
    rw[e,bu rfl]at next
    rw[e]at a;have nxt:BC E f217 (uu R) [(0,ii A),(1,ii H),(5,uu f),(6,uu (kA x p)),(23,He PD),(24,ii ((i+1:Nat):Int))] []:=next
    clear next
    generalize kA x p=y at*
    have a:dB .and IH (f:Int) ((2^k:Nat):Int)=((2^k:Nat):Int):=by rw[a];rfl
    generalize 2^k=w at*
    have l:((w:Int) !=0)=true:=by rw[bne_iff_ne];omega
    rcases UT (show i<16 by omega)with rfl|rfl|rfl|rfl|rfl|rfl|rfl|rfl|rfl|rfl|rfl|rfl|rfl|rfl|rfl|rfl
    all_goals cases hp
    all_goals
     exact zqda1
   |false=>
    rw[e,bt d_]at next
    rw[e]at a;have a:dB .and IH (f:Int) ((2^k:Nat):Int)=0:=by rw[a];rfl
    generalize 2^k=w at*
    have l:((0:Int) !=0)=false:=rfl;rcases UT (show i<16 by omega)with rfl|rfl|rfl|rfl|rfl|rfl|rfl|rfl|rfl|rfl|rfl|rfl|rfl|rfl|rfl|rfl
    all_goals cases hp
    all_goals
     exact zqda1
  exact go _ rfl
def XD(age half:Int)(h1:age<=9223372036854775807)(t:half<=9223372036854775807)(R:Nat)(a:nK age half=R):bj 217 [ii age,ii half] (uu R):=by
 unfold nK at a;have d:(((max age 0).toNat:Nat):Int)=max age 0:=o_;have c:(((max half 1).toNat:Nat):Int)=max half 1:=o_;have m:(max age 0).toNat<9223372036854775808:=o_;have k:0<(max half 1).toNat:=o_;have b:(max half 1).toNat<9223372036854775808:=o_;generalize (max age 0).toNat=A at*
 generalize (max half 1).toNat=H at*
 have i:=PA A H;have o:=aOg A H;have p:A/H<=A:=Di ..;have l:=Lf A H;by_cases e:63<A/H
 .rw [bu e]at a;subst a;generalize A/H=q at*
  refine c_ f217 λ_=>gV ?_;rw[<-d,<-c];refine Aa o_ (gV ?_);rw[i];exact zW
 .rw [bt e]at a;have j:=DX ((A%H:Nat):Int) (H:Int) o_ o_;have s:=lY ((A%H:Nat):Int) (H:Int);generalize wA ((A%H:Nat):Int) (H:Int)=T at*
  have n:=NT T;have u:=aMG A H (T/65536) o_ m k b o_ R 16 0 4294967296 o_ (Bc _) a;generalize T/65536=f at*
  generalize A/H=q at*
  generalize A%H=r at*
  refine c_ f217 λ_=>gV ?_;rw[<-d,<-c];refine Aa o_ (gV ?_);rw[i];refine aJ (gV ?_);refine aF λh=>gV ?_;refine Aa o_ (gV ?_);rw[o];refine .p j (gV ?_);rw[n];refine Aa d_ (gV ?_);exact .p UW zW
def aC9(age half:Int)(h1:age<=9223372036854775807)(a:half<=9223372036854775807):bj 217 [ii age,ii half] (uu (nK age half)):=XD age half h1 a _ rfl
def aKj(q:Nat)(k:q<9223372036854775808)(R:Nat):∀(m y j:Nat),y<=m->j<=q->y/2^(q-j)=R->y<18446744073709551616->
  To E f179 (.pure (Io (uu R))) (G0 (stk f179 1) [(5,ii q),(9,uu y),(11,ii j)] []):=by
 intro m;induction m with
 |zero=>
  intro y j b d a c;have b:y=0:=o_;subst b;rw[Nat.zero_div]at a;subst a;by_cases h1:j<q
  .exact tA
  .exact tA
 |succ m e=>
  intro y j b d a c;have f:Hg (y:Int) 2=((y/2:Nat):Int):=PA y 2;by_cases h1:j<q
  .by_cases i:0<y
   .have next:=e (y/2) (j+1) o_ o_ (by
     rw[Jm,<-Nat.pow_succ',show(q-(j+1)).succ=q-j by omega]
     exact a) o_
    have g:y/2<=y:=Di ..;generalize y/2=z at*
    refine gV ?_;refine aT λh=>?_
    repeat' first|refine pA ?_|(rw[f];refine aJ ?_)|exact rfl|refine lA ?_ ?_|intro h
    exact zW
   .have b:y=0:=o_;subst b;rw[Nat.zero_div]at a;subst a;exact tA
  .have d:q-j=0:=o_;rw[d,Na,Ih]at a;subst a;exact tA
def aKi(q f:Nat)(o:f<18446744073709551616)(v:q<9223372036854775808)(R:Nat):∀(m i x:Nat),i+m=16->x<=4294967296->((Df 16).drop i).foldl (BA f) x/2^q=R->
  BC E f179 (uu R) [(5,ii q),(7,uu f),(8,G2 0 0),(9,uu x),(10,ii i)] [Do 328 PD]:=by
 intro m;induction m with
 |zero=>
  intro i x n e a;rw[Ae q_]at a;have a:x/2^(q-0)=R:=a;have next:=aKj q v R x x 0 (Bc _) o_ a o_
  exact tA
 |succ m u=>
  intro i x n e a;rw[E7 f o_]at a;have next:=u (i+1) (BA f x i) o_ (NY o_ e) a
  obtain⟨p,hp,r,_⟩:=X3 (i:=i) o_;have l:(15:Int)-(i:Int)=((15-i:Nat):Int):=o_;have j:=aEG f (15-i);have g:=G1 (f/2^(15-i)) (Jb (Di ..) o);unfold BA at next
  rw[hp,Nat.testBit_eq_decide_div_mod_eq]at next
  have hm:=uX x p o_ o_;have A:15-i<=15:=o_;have s:f/2^(15-i)<=f:=Di ..;have w:f/2^(15-i)%2<2:=Ef _ d_;generalize 15-i=k at*
  generalize f/2^k=z at*
  generalize z%2=b at*
  by_cases c:b=1
  .rw [bq c,bu rfl]at next
   have nxt:BC E f179 (uu R) [(5,ii q),(7,uu f),(8,G2 0 0),(9,uu (kA x p)),(10,ii ((i+1:Nat):Int))] [Do 328 PD]:=next
   clear next
   generalize kA x p=y at*
   have d:((b:Int)==1)=true:=by rw[c];rfl
   rcases UT (show i<16 by omega)with rfl|rfl|rfl|rfl|rfl|rfl|rfl|rfl|rfl|rfl|rfl|rfl|rfl|rfl|rfl|rfl
   all_goals cases hp
   all_goals
    refine gV ?_;refine aT λh=>gV ?_;rw[l];refine aJ (gV ?_);refine aJ (gV ?_);rw[j];refine Aa (Aa o_ (show Cv (k:Int)<=64 by omega)) ?_;refine gV ?_;rw[g];refine Aa (λ_=>?_) (λh=>bv (d.symm.trans h) d_);refine gV ?_;refine Aa (Aa d_ d_) ?_;exact zW
  .rw [bp c,bt d_]at next
   have d:((b:Int)==1)=false:=beq_eq_false_iff_ne.2 o_;refine gV ?_;refine aT λh=>gV ?_;rw[l];refine aJ (gV ?_);refine aJ (gV ?_);rw[j];refine Aa (Aa o_ (show Cv (k:Int)<=64 by omega)) ?_;refine gV ?_;rw[g];exact zW
def P7(age half:Int)(h1:age<=9223372036854775807)(s:half<=9223372036854775807)(R:Nat)(a:nK age half=R):bj 179 [ii age,ii half] (uu R):=by
 unfold nK at a;have j:(((max age 0).toNat:Nat):Int)=max age 0:=o_;have d:(((max half 1).toNat:Nat):Int)=max half 1:=o_;have p:(max age 0).toNat<9223372036854775808:=o_;have o:0<(max half 1).toNat:=o_;have h:(max half 1).toNat<9223372036854775808:=o_;generalize (max age 0).toNat=A at*
 generalize (max half 1).toNat=H at*
 have m:=PA A H;have k:=aOg A H;have l:A/H<=A:=Di ..;have e:=Lf A H;have a:aP0 (wA ((A%H:Nat):Int) (H:Int)/65536)/2^(A/H)=R:=by
  by_cases b:63<A/H
  .rw [bu b]at a;rw[<-a];refine Jy (Jb (aA2 _) ?_);exact Nat.lt_of_lt_of_le (show 4294967296<2^63 by decide) (Ej d_ o_)
  .rw [bt b]at a;exact a
 have c:=uW ((A%H:Nat):Int) (H:Int) o_ o_;have n:=lY ((A%H:Nat):Int) (H:Int);generalize wA ((A%H:Nat):Int) (H:Int)=T at*
 have i:Hg (T:Int) 65536=((T/65536:Nat):Int):=PA T 65536;have t:=aKi (A/H) (T/65536) o_ o_ R 16 0 4294967296 o_ (Bc _) a;have u:T/65536<=T:=Di ..;generalize T/65536=f at*
 generalize A/H=q at*
 generalize A%H=r at*
 refine c_ f179 λ_=>gV ?_;rw[<-j,<-d];refine Aa o_ (gV ?_);rw[m];refine aJ (gV ?_);refine Aa o_ (gV ?_);rw[k];refine .p c (gV ?_);refine Aa d_ (gV ?_);rw[i];refine aJ (gV ?_);exact .p aJZ zW
def VO(age half:Int)(h1:age<=9223372036854775807)(a:half<=9223372036854775807):bj 179 [ii age,ii half] (uu (nK age half)):=P7 age half h1 a _ rfl
def aCv(x:Nat)(age half:Int)(b:x<18446744073709551616)(h1:age<=9223372036854775807)(a:half<=9223372036854775807):bj 121 [uu x,ii age,ii half] (uu (kA x (nK age half))):=by
 have h3:=VO age half h1 a;have hl:=aA4 age half;have c:=uX x (nK age half) b o_;generalize nK age half=f at*
 generalize kA x f=y at*
 exact c_ f121 λ_=>zW
def XX(x:Nat)(n m:Int):Nat:=if 0<n then max x (wA n m)else x
def ID(u v:V3):Nat:=XX (XX (XX 0 u.a v.a) u.b v.b) u.c v.c
def OA{x:Nat}{n m:Int}(h:x<18446744073709551616):XX x n m<18446744073709551616:=by
 have:=lY n m;unfold XX;split
 .omega
 .exact h
def aMA(u v:V3):ID u v<18446744073709551616:=OA (OA (OA d_))
def aNp(v u:V3)(M:Imm)(ob:Hs)(vs:bb)(h:cL M ob vs [v.av,u.av]):(inR Is v.a/\inR Is v.b/\inR Is v.c)/\inR Is u.a/\inR Is u.b/\inR Is u.c:=by
 have hl:1<Z vs:=by rw[h.1];simp
 have h1:=h.2 0 _ v.av (Ab o_) rfl;have d:=h.2 1 _ u.av (Ab hl) rfl;exact⟨⟨cN h1 0 _ rfl,cN h1 1 _ rfl,cN h1 2 _ rfl⟩,cN d 0 _ rfl,cN d 1 _ rfl,cN d 2 _ rfl⟩
def aMz(u v:V3)(r:Nat)(d:ID u v=r):bj 227 [u.av,v.av] (uu r):=by
  refine aA.get _ (aNp u v) λ⟨⟨⟨a1,a2⟩,⟨b1,b2⟩,⟨c1,c2⟩⟩,⟨d1,d2⟩,⟨e1,e2⟩,⟨f1,f2⟩⟩=>?_;simp only[bV,aW]at a1 a2 b1 b2 c1 c2 d1 d2 e1 e2 f1 f2;have h1:=DX u.a v.a o_ o_;have e:=DX u.b v.b o_ o_;have h3:=DX u.c v.c o_ o_;have o:=lY u.a v.a;have m:=lY u.b v.b;have l:=lY u.c v.c;unfold ID XX at d;generalize wA u.a v.a=p at*
  generalize wA u.b v.b=q at*
  generalize wA u.c v.c=s at*
  by_cases j:0<u.a<;>by_cases k:0<u.b<;>by_cases i:0<u.c<;>simp only[j,k,i,if_true,if_false]at d
  all_goals
   subst d;refine c_ f227 λ_=>gV ?_
   repeat' first
    |(refine gW hE ?_;conv=>whnf)
    |refine .p h1 ?_
    |refine .p e ?_
    |refine .p h3 ?_
    |exact rfl
    |refine aY ?_
    |refine aN ?_
    |refine aT λh=>?_
    |refine aF λh=>?_
    |refine aJ ?_
    |refine Aj _ (Aa rfl ?_)
    |refine Aa d_ ?_
    |fail
   all_goals exact congrArg (λn=>Res.ret (aa.int IH n)) o_
def aFD(u v:V3)(r:Nat)(d:ID u v=r):bj 126 [u.av,v.av] (uu r):=by
  refine aA.get _ (aNp u v) λ⟨⟨⟨a1,a2⟩,⟨b1,b2⟩,⟨c1,c2⟩⟩,⟨d1,d2⟩,⟨e1,e2⟩,⟨f1,f2⟩⟩=>?_;simp only[bV,aW]at a1 a2 b1 b2 c1 c2 d1 d2 e1 e2 f1 f2;have h1:=uW u.a v.a o_ o_;have e:=uW u.b v.b o_ o_;have h3:=uW u.c v.c o_ o_;have o:=lY u.a v.a;have m:=lY u.b v.b;have l:=lY u.c v.c;unfold ID XX at d;generalize wA u.a v.a=p at*
  generalize wA u.b v.b=q at*
  generalize wA u.c v.c=s at*
  by_cases j:0<u.a<;>by_cases k:0<u.b<;>by_cases i:0<u.c<;>simp only[j,k,i,if_true,if_false]at d
  all_goals
   subst d;refine c_ f126 λ_=>gV ?_
   repeat' first
    |(refine gW hE ?_;conv=>whnf)
    |refine .p h1 ?_
    |refine .p e ?_
    |refine .p h3 ?_
    |exact rfl
    |refine aY ?_
    |refine aN ?_
    |refine aT λh=>?_
    |refine aF λh=>?_
    |refine aJ ?_
    |refine Aj _ (Aa rfl ?_)
    |refine Aa d_ ?_
    |fail
   all_goals exact congrArg (λn=>Res.ret (aa.int IH n)) o_
def aEd(v:V3)(h:Hos):V3:=dZ v h.c
def sT(c:Con):V3:=c.hs.foldl aEd V3.zero
def aEc(l:List Hos)(hl:Z l<=1048576)(r:V3):∀(m i:Nat) (v:V3),i+m=Z l->(l.drop i).foldl aEd v=r->
  BC E f223 r.av [(2,G2 0 0),(3,G2 1 0),(7,CA 6 (hav l) J0),(8,ii (Z l:Nat)),(9,ii i)] [Do 43 V3.zero.cs,Do 43 v.cs]:=by
 have d:Z (hav l)=Z l:=by simp
 intro m;induction m with
 |zero=>
  exact zqda22
 |succ m e=>
  intro i v g a;have b:i<Z l:=o_;rw[Ac b,Ao]at a;have next:=e (i+1) _ o_ a
  have get:=oG b;generalize l[i]=x at get next
  have f:=jA v x.c;exact zqda26
def aEa(c:Con)(b:c.sm):bj 223 [c.av] ((sT c).av):=by
 have a:Z (hav c.hs)=Z c.hs:=by simp
 have h1:=b.hs;have next:=aEc c.hs o_ (sT c) (Z c.hs) 0 V3.zero o_ rfl
 generalize sT c=r at next
 rw[<-a]at next
 refine c_ f223 λ_=>?_
 repeat' first|refine pA ?_|exact rfl|refine lA ?_ ?_|intro h
 exact To.part [2,3,7,8,9] [1,2] rfl rfl rfl next
def aCc(c:Con)(hl:Z c.hs<=1048576)(r:V3):∀(m i:Nat) (v:V3),i+m=Z c.hs->(c.hs.drop i).foldl aEd v=r->
  BC E f125 r.av [(1,G2 0 0),(2,G2 1 0),(3,G2 2 0),(4,ii i)] [Do 30 c.cs,Do 43 V3.zero.cs,Do 43 v.cs]:=by
 have d:Z (hav c.hs)=Z c.hs:=by simp
 intro m;induction m with
 |zero=>
  exact zqda22
 |succ m e=>
  intro i v g a;have b:i<Z c.hs:=o_;rw[Ac b,Ao]at a;have next:=e (i+1) _ o_ a
  have get:=oG b;generalize c.hs[i]=x at get next
  have f:=lZ v x.c;exact zqda26
def aCb(c:Con)(a:c.sm):bj 125 [c.av] ((sT c).av):=by
 have h1:=a.hs;have next:=aCc c o_ (sT c) (Z c.hs) 0 V3.zero o_ rfl
 generalize sT c=r at next
 exact c_ f125 λ_=>zW
def dC{α:Type}(d:Nat->α->Nat):List α->Nat->a6
 |[],_=>[]
 |x::r,i=>d i x::dC d r (i+1)
def kG{α:Type}(d:Nat->α->Nat):∀(l:List α) (i:Nat),Z (dC d l i)=Z l
 |[],_=>rfl
 |_::r,i=>by simp[dC,kG d r (i+1)]
def K7{α:Type}(d:Nat->α->Nat):∀(l:List α) (i k:Nat) (h:k<Z l),(dC d l i)[k]? =X (d (i+k) l[k])
 |[],_,k,h=>bv h s_
 |x::r,i,0,_=>rfl
 |x::r,i,k+1,h=>by have:=K7 d r (i+1) k (by simpa using h);simp only[dC,Gf,List.getElem_cons_succ];rw[this,show i+1+k=i+(k+1) by omega]
def KJ{l:a6}{i:Nat}(h:i<Z l):(fv l)[i]? =X (uu l[i]):=by simp[fv,h]
def LtF(l:a6):Prop:=∀x∈l,x<18446744073709551616
def lV(c:Con)(i:Nat)(v:V3):Nat:=if bB c.ns (i:Int)=O then ID v (sT c)else 0
def oQ(c:Con)(l:a7):a6:=dC (lV c) (ofL c l) 0
def tkS(a:a6)(n half:Int)(i:Nat)(x:Nat):Nat:=if i<Z a then jW (kA x (nK n half)) (kA ((a[i]?).getD 0) (ofF n))else kA x (nK n half)
def tkL(h a:a6)(n half:Int):a6:=dC (tkS a n half) h 0
def Y0(c:Con):a6:=dC (λ_ _=>0) c.ns 0
abbrev aPQ(c:Con):aa:=.func (.func 226) [] [.ptr c.cs,.ptr (sT c).cs]
def aHI(c:Con) (l:a8)(hl:Z l<=1048576)(hm:∀(i:Nat) (h:i<Z l),bj 226 (ii i::l[i].av::[.ptr c.cs,.ptr (sT c).cs]) (uu ((lV c) i l[i])))(R:a6):∀(m i:Nat) (a:a6),i+m=Z l->Z a=i->a++dC (lV c) (l.drop i) i=R->
  BC (Eo [5] []) f224 (CA 1 (fv R) J0) [(1,aPQ c),(5,CA 1 (fv a) (.own 0 0)),(8,CA 3 (vav l) J0),(9,ii (Z l:Nat)),(10,ii i)] [Fr 0 1 106]:=by
 have g:Z (vav l)=Z l:=by simp
 intro m;induction m with
 |zero=>
  intro i a n p b;exact zqda6
 |succ m o=>
  intro i a n p b;have d:i<Z l:=o_;have get:=kN d;have j:=hm i d;rw[Ac d]at b;generalize l[i]=x at get j b;have b:a++((lV c) i x::dC (lV c) (l.drop (i+1)) (i+1))=R:=b;generalize (lV c) i x=y at j b;have next:=o (i+1) (a++[y]) o_ q_ (by rw[Ag];exact b)
  exact zqda9
def aP4(c:Con) (l:a8)(hl:Z l<=1048576)(hm:∀(i:Nat) (h:i<Z l),bj 226 (ii i::l[i].av::[.ptr c.cs,.ptr (sT c).cs]) (uu ((lV c) i l[i]))):
  bj 224 [CA 3 (vav l) J0,aPQ c] (CA 1 (fv (dC (lV c) l 0)) J0):=by
 have a:Z (vav l)=Z l:=by simp
 have next:=aHI c l hl hm (dC (lV c) l 0) (Z l) 0 [] o_ rfl rfl
 generalize dC (lV c) l 0=R at next
 rw[<-a]at next
 refine gA (Eo [5] []) f224 λ_=>?_;exact zW
abbrev aPP(sh:a6)(n half:Int):aa:=.func (.func 220) [] [.ptr [uu (nK n half)],.ptr [CA 1 (fv sh) J0],.ptr [uu (ofF n)]]
def aHH(d:a6)(n half:Int) (l:a6)(hl:Z l<=1048576)(hm:∀(i:Nat) (h:i<Z l),bj 220 (ii i::uu l[i]::[.ptr [uu (nK n half)],.ptr [CA 1 (fv d) J0],.ptr [uu (ofF n)]]) (uu ((tkS d n half) i l[i])))(R:a6):∀(m i:Nat) (a:a6),i+m=Z l->Z a=i->a++dC (tkS d n half) (l.drop i) i=R->
  BC (Eo [5] []) f219 (CA 1 (fv R) J0) [(1,aPP d n half),(5,CA 1 (fv a) (.own 0 0)),(8,CA 1 (fv l) J0),(9,ii (Z l:Nat)),(10,ii i)] [Fr 0 1 106]:=by
 have g:Z (fv l)=Z l:=by simp
 intro m;induction m with
 |zero=>
  intro i a o q b;exact zqda6
 |succ m p=>
  intro i a o q b;have c:i<Z l:=o_;have get:=KJ c;have j:=hm i c;rw[Ac c]at b;generalize l[i]=x at get j b;have b:a++((tkS d n half) i x::dC (tkS d n half) (l.drop (i+1)) (i+1))=R:=b;generalize (tkS d n half) i x=y at j b;have next:=p (i+1) (a++[y]) o_ q_ (by rw[Ag];exact b)
  exact zqda9
def aP3(a:a6)(n half:Int) (l:a6)(hl:Z l<=1048576)(hm:∀(i:Nat) (h:i<Z l),bj 220 (ii i::uu l[i]::[.ptr [uu (nK n half)],.ptr [CA 1 (fv a) J0],.ptr [uu (ofF n)]]) (uu ((tkS a n half) i l[i]))):
  bj 219 [CA 1 (fv l) J0,aPP a n half] (CA 1 (fv (dC (tkS a n half) l 0)) J0):=by
 have b:Z (fv l)=Z l:=by simp
 have next:=aHH a n half l hl hm (dC (tkS a n half) l 0) (Z l) 0 [] o_ rfl rfl
 generalize dC (tkS a n half) l 0=R at next
 rw[<-b]at next
 refine gA (Eo [5] []) f219 λ_=>?_;exact zW
abbrev aPO:aa:=.func (.func 205) [] []
def aHG  (l:bc)(hl:Z l<=1048576)(hm:∀(i:Nat) (h:i<Z l),bj 205 (ii i::l[i].av::[]) (uu ((λ_ _=>0) i l[i])))(R:a6):∀(m i:Nat) (a:a6),i+m=Z l->Z a=i->a++dC (λ_ _=>0) (l.drop i) i=R->
  BC (Eo [5] []) f204 (CA 1 (fv R) J0) [(1,aPO),(5,CA 1 (fv a) (.own 0 0)),(8,CA 11 (nav l) J0),(9,ii (Z l:Nat)),(10,ii i)] [Fr 0 1 106]:=by
 have d:Z (nav l)=Z l:=by simp
 intro m;induction m with
 |zero=>
  intro i a k o b;exact zqda6
 |succ m n=>
  intro i a k o b;have c:i<Z l:=o_;have get:=fP c;have g:=hm i c;rw[Ac c]at b;generalize l[i]=x at get g b;have b:a++((λ_ _=>0) i x::dC (λ_ _=>0) (l.drop (i+1)) (i+1))=R:=b;generalize (λ_ _=>0) i x=y at g b;have next:=n (i+1) (a++[y]) o_ q_ (by rw[Ag];exact b)
  have e:fv (a++[y])=fv a++[uu y]:=by simp[fv]
  rw[e]at next
  have j:Z (fv a)=Z a:=by simp
  exact tA
def aP2  (l:bc)(hl:Z l<=1048576)(hm:∀(i:Nat) (h:i<Z l),bj 205 (ii i::l[i].av::[]) (uu ((λ_ _=>0) i l[i]))):
  bj 204 [CA 11 (nav l) J0,aPO] (CA 1 (fv (dC (λ_ _=>0) l 0)) J0):=by
 have a:Z (nav l)=Z l:=by simp
 have next:=aHG  l hl hm (dC (λ_ _=>0) l 0) (Z l) 0 [] o_ rfl rfl
 generalize dC (λ_ _=>0) l 0=R at next
 rw[<-a]at next
 refine gA (Eo [5] []) f204 λ_=>?_;exact zW
def aQm(u v:V3):bj 227 [u.av,v.av] (uu (ID u v)):=aMz u v _ rfl
def aKp(u v:V3):bj 126 [u.av,v.av] (uu (ID u v)):=aFD u v _ rfl
def aJN(c:Con)(i:Nat)(v:V3):bj 226 [ii i,v.av,.ptr c.cs,.ptr (sT c).cs] (uu (lV c i v)):=by
 have h1:=kQ c (i:Int);have d:=aQm v (sT c);unfold lV;generalize sT c=a at*
 generalize ID v a=y at*
 cases b:bB c.ns (i:Int)with
 |true=>
  rw[b]at h1;exact c_ f226 λ_=>zW
 |false=>
  rw[b]at h1;exact c_ f226 λ_=>zW
def aB4(c:Con)(b:c.sm)(l:a7)(hl:Z l<=1048576):bj 157 [c.av,CA 14 (rav l) J0] (CA 1 (fv (oQ c l)) J0):=by
 have h1:=aEa c b;have j:=RF c b l hl;have e:=b.ns;have d:Z (ofL c l)=Z c.ns:=by unfold ofL mK;simp
 have h3:=aP4 c (ofL c l) o_ λi h=>aJN c i _;unfold oQ;unfold aPQ at h3;generalize dC (lV c) (ofL c l) 0=R at*
 generalize ofL c l=us at*
 generalize sT c=a at*
 exact c_ f157 λ_=>zW
def aOi(a:a6)(hs:LtF a)(hsl:Z a<=1048576)(n half:Int)(i x:Nat)(d:x<18446744073709551616):bj 220 [ii i,uu x,.ptr [uu (nK n half)],.ptr [CA 1 (fv a) J0],.ptr [uu (ofF n)]] (uu (tkS a n half i x)):=by
 have k:=aA4 n half;have e:=AY n;have h1:=NW x (nK n half) d o_;have j:=yY x (nK n half);have c:Z (fv a)=Z a:=by simp
 unfold tkS;generalize nK n half=f at*
 generalize ofF n=t at*
 generalize kA x f=y at*
 by_cases b:i<Z a
 .rw [bu b,Ab b];have get:=KJ b;have hz:=hs _ (Av b);show aA _ _ _ _ (Io (uu (jW y (kA a[i] t)))) _;generalize a[i]=z at*
  have l:=NW z t hz e;have h:=yY z t;generalize kA z t=w at*
  have h3:=aA1 y w j h;generalize jW y w=r at*
  exact c_ f220 λ_=>zW
 .rw [bt b];exact c_ f220 λ_=>zW
def ZW(c:Con)(l:a7):LtF (oQ c l):=by
 intro x b;obtain⟨k,a,e⟩:=Gq b;unfold oQ at a e;rw[kG]at a;have:=K7 (lV c) (ofL c l) 0 k a;rw[Ab (by rw[kG];exact a),e]at this;cases this;unfold lV;split
 .exact aMA _ _
 .decide
def aJr(h a:a6)(b:LtF h)(hl:Z h<=1048576)(hs:LtF a)(hsl:Z a<=1048576)(n half:Int)(c:n<=9223372036854775807)(e:half<=9223372036854775807):bj 156 [CA 1 (fv h) J0,CA 1 (fv a) J0,ii n,ii half] (CA 1 (fv (tkL h a n half)) J0):=by
 have h1:=aC9 n half c e;have j:=XB n;have h3:=aP3 a n half h hl λi d=>aOi a hs hsl n half i _ (b _ (Av d));unfold tkL;unfold aPP at h3;generalize dC (tkS a n half) h 0=R at*
 generalize nK n half=f at*
 generalize ofF n=t at*
 exact c_ f156 λ_=>zW
def aQT(i:Nat)(x:Nod):bj 205 [ii i,x.av] (uu 0):=by exact c_ f205 λ_=>zW
def aI6(c:Con)(a:c.sm):bj 147 [c.av] (CA 1 (fv (Y0 c)) J0):=by
 have b:=a.ns;have h3:=aP2 c.ns o_ λi h=>aQT i _;unfold Y0;unfold aPO at h3;generalize dC (λ_ _=>0) c.ns 0=R at*
 exact c_ f147 λ_=>zW
def aEW(h b:a6)(v:LtF h)(hl:Z h<=1048576)(hs:LtF b)(hsl:Z b<=1048576)(n half:Int)(A:n<=9223372036854775807)(D:half<=9223372036854775807)(R:a6):∀(m i:Nat) (a:a6),i+m=Z h->Z a=i->a++dC (tkS b n half) (h.drop i) i=R->
  BC (Eo [9] []) f78 (CA 1 (fv R) J0) [(0,CA 1 (fv h) J0),(1,CA 1 (fv b) J0),(2,ii n),(3,ii half),(9,CA 1 (fv a) (.own 0 0)),(10,ii i)] [Fr 0 1 106]:=by
 have r:Z (fv h)=Z h:=by simp
 have j:Z (fv b)=Z b:=by simp
 intro m;induction m with
 |zero=>
  intro i a C G c;rw[Ae o_]at c;have c:a++[]=R:=c;rw[Ap]at c;subst c;exact tA
 |succ m o=>
  intro i a C G c;have f:i<Z h:=o_;have get:=KJ f;have l:=v _ (Av f);rw[Ac f]at c;generalize h[i]=x at get l c;have c:a++(tkS b n half i x::dC (tkS b n half) (h.drop (i+1)) (i+1))=R:=c;have J:=E9 n;have g:=AY n;have h1:=aCv x n half l A D;have k:=yY x (nK n half);have B:Z (fv a)=Z a:=by simp
  have step:∀y,tkS b n half i x=y->BC (Eo [9] []) f78 (CA 1 (fv R) J0) [(0,CA 1 (fv h) J0),(1,CA 1 (fv b) J0),(2,ii n),(3,ii half),(9,CA 1 (fv a++[uu y]) (.own 0 0)),(10,ii ((i:Int)+1))] [Fr 0 1 106]:=λy u=>by
   rw[u]at c;have next:=o (i+1) (a++[y]) o_ q_ (by rw[Ag];exact c)
   have e:fv (a++[y])=fv a++[uu y]:=by simp[fv]
   rw[e]at next
   exact next
  clear c o;unfold tkS at step;generalize kA x (nK n half)=p at*
  generalize ofF n=t at*
  by_cases d:i<Z b
  .have s:=KJ d;have hz:=hs _ (Av d);rw[bu d,Ab d]at step;have step:=step _ rfl;have step:BC (Eo [9] []) f78 (CA 1 (fv R) J0) [(0,CA 1 (fv h) J0),(1,CA 1 (fv b) J0),(2,ii n),(3,ii half),(9,CA 1 (fv a++[uu (jW p (kA b[i] t))]) (.own 0 0)),(10,ii ((i:Int)+1))] [Fr 0 1 106]:=step;generalize b[i]=z at*
   have q:=uX z t hz g;have F:=yY z t;generalize kA z t=w at*
   have h3:=mL p w k F;generalize jW p w=y at*
   exact tA
  .rw [bt d]at step;have step:=step _ rfl;have q:=uX 0 t d_ g;have H:kA 0 t=0:=by unfold kA;rw[Mf];rfl
   rw[H]at q;have h3:=mL p 0 k d_;have I:jW p 0=p:=by unfold jW;rw[Fj,qU,bu k]
   rw[I]at h3;exact tA
def aEV(h a:a6)(d:LtF h)(hl:Z h<=1048576)(hs:LtF a)(hsl:Z a<=1048576)(n half:Int)(b:n<=9223372036854775807)(c:half<=9223372036854775807):bj 78 [CA 1 (fv h) J0,CA 1 (fv a) J0,ii n,ii half] (CA 1 (fv (tkL h a n half)) J0):=by
 have next:=aEW h a d hl hs hsl n half b c (tkL h a n half) (Z h) 0 [] o_ rfl rfl
 generalize tkL h a n half=R at next
 refine gA (Eo [9] []) f78 λ_=>?_;exact zW
def EZ(c:Con)(k:c.sm)(us:a8)(s:Z us=Z c.ns)(a:V3)(q:sT c=a)(R:a6):∀(m i:Nat) (b:a6),i+m=Z us->Z b=i->b++dC (lV c) (us.drop i) i=R->
  BC (Eo [7] []) f79 (CA 1 (fv R) J0) [(2,G2 0 0),(5,CA 3 (vav us) J0),(6,G2 1 0),(7,CA 1 (fv b) (.own 2 0)),(8,ii i)] [Do 30 c.cs,Do 43 a.cs,Fr 0 1 106]:=by
 have j:Z (vav us)=Z us:=by simp
 have p:Z (nav c.ns)=Z c.ns:=by simp
 have l:=k.ns;intro m;induction m with
 |zero=>
  intro i b o r d;rw[Ae o_]at d;have d:b++[]=R:=d;rw[Ap]at d;subst d;exact tA
 |succ m h=>
  intro i b o r d;have f:i<Z us:=o_;have get:=kN f;rw[Ac f]at d;generalize us[i]=x at get d;have d:b++(lV c i x::dC (lV c) (us.drop (i+1)) (i+1))=R:=d;have h1:=kX c k (i:Int);rw[tF]at h1;have u:=aKp x a;have n:Z (fv b)=Z b:=by simp
  have next:=h (i+1) (b++[lV c i x]) o_ q_ (by rw[Ag];exact d)
  have e:fv (b++[lV c i x])=fv b++[uu (lV c i x)]:=by simp[fv]
  rw[e]at next
  clear d h;unfold lV at next
  rw[q]at next
  generalize ID x a=y at*
  cases g:bB c.ns (i:Int)with
  |true=>
   rw[g]at h1;rw[g,bu rfl]at next
   exact tA
  |false=>
   rw[g]at h1;rw[g,bt d_]at next
   exact tA
def VC(c:Con)(d:c.sm)(l:a7)(hl:Z l<=1048576):bj 79 [c.av,CA 14 (rav l) J0] (CA 1 (fv (oQ c l)) J0):=by
 have h1:=aCb c d;have e:=MS c d l hl;have b:Z (ofL c l)=Z c.ns:=by unfold ofL mK;simp
 unfold oQ;have next:=EZ c d (ofL c l) b (sT c) rfl (dC (lV c) (ofL c l) 0) (Z (ofL c l)) 0 [] o_ rfl rfl
 generalize dC (lV c) (ofL c l) 0=R at*
 generalize ofL c l=us at*
 generalize sT c=a at*
 refine gA (Eo [7] []) f79 λ_=>?_;exact zW
def fN(a:Int)(l:ba):Int:=Q2.am a (l.map Pn.q)
def dI(l:ba)(a:Int):ba:=if fN a l<0 then l else l.eraseIdx (fN a l).toNat
def iZ(l:ba)(p:Pn):ba:=l.take (Q2.putAt p.q (l.map Pn.q))++[p]++l.drop (Q2.putAt p.q (l.map Pn.q))
def ZK(l:ba)(a:Int):(dI l a).map Pn.q=Q2.takeP (l.map Pn.q) a:=by
 unfold dI Q2.takeP fN
 grind[List.eraseIdx_eq_take_drop_succ,Fw,Ia]
def V7(l:ba)(p:Pn):(iZ l p).map Pn.q=Q2.putP (l.map Pn.q) p.q:=by unfold iZ Q2.putP;simp[Fw,Ia]
def aFU(l:ba)(a:Int):bj 149 [CA 11 (pnv l) J0,ii a] (ii (fN a l)):=by have h:=Q2.find_ok (l.map Pn.q) a;rw[pS]at h;exact h
def M6(l:ba)(p:Pn)(hl:Z l<=1000000):bj 152 [CA 11 (pnv l) J0,p.av] (CA 11 (pnv (iZ l p)) J0):=by have h:=Q2.put_ok (l.map Pn.q) p.q (by simpa using hl);rw[<-V7,pS,pS]at h;exact h
def tJ(l:ba)(a:Int)(hl:Z l<=1000000):bj 101 [CA 11 (pnv l) J0,ii a] (GT [CA 11 (pnv (dI l a)) J0,DA (!decide (fN a l<0))]):=by have h:=Q2.take_ok (l.map Pn.q) a (by simpa using hl);rw[<-ZK,pS,pS]at h;exact h
structure Ev where
 (k id n:Int)
 deriving DecidableEq
abbrev _root_.bh:=List Ev
def Ev.cs(e:Ev):az:=[ii e.k,ii e.id,ii e.n]
def Ev.av(e:Ev):aa:=He e.cs
abbrev evv(l:bh):az:=l.map Ev.av
structure Rd where
 s:Sta
 ev:bh
 head:Bool
 start:Int
def xQ(r:Rd)(p:Pn)(fl:Int)(hs:ax):Rd:=
 ⟨{r.s with pend:=dI r.s.pend p.g.id,run:=r.s.run++[⟨p.g,p.seq,p.at',r.s.now,fl,hs⟩]},r.ev++[⟨1,p.g.id,fl⟩],r.head,r.start⟩
def AH(r:Rd)(p:Pn):Option (Int×ax)->Rd×Bool
 |none=>(r,S)
 |some (fl,hs)=>if(r.head&& !bmB r.s.now p.g r.start)=O then(r,S)else(xQ r p fl hs,O)
def admR(r:Rd)(p:Pn):Rd×Bool:=AH r p (cE r.s.c r.s.run p.g)
def dL(run:a7)(r:Rd)(id:Int):Rd:=
 let x:=aH run (aL (λx=>x.g.id==id) run 0).toNat
 ⟨{r.s with pend:=iZ r.s.pend x.pn},r.ev++[⟨2,id,0⟩],r.head,r.start⟩
def gE(r:Rd)(ids:ax):Rd:=
 let q:=ids.foldl (dL r.s.run) r
 ⟨{q.s with run:=aB r.s.run ids},q.ev,q.head,q.start⟩
def pO(r:Rd)(p:Pn):Option Int->Rd
 |none=>r
 |some n=>⟨r.s,r.ev++[⟨4,p.g.id,n⟩],O,n⟩
def aGI(r:Rd)(p:Pn):Option ax->Rd
 |some ids=>(admR (gE r ids) p).1
 |none=>pO r p (mQ r.s.c r.s.now r.s.run p.g)
def bH(r:Rd)(p:Pn):Rd:=
 if(admR r p).2=O then(admR r p).1 else if r.head=O then r else aGI r p (eS r.s.c r.s.run p.g)
def gY(a b:Int):Int:=if a<b then -1 else if b<a then 1 else 0
def CW(c:Con)(h:a6)(n:Int):Nat:=(bE c.ns n).foldl (λx t=>if t<(Z h:Int)then jW x ((h[t.toNat]?).getD 0)else x) 0
def aN3(c:Con)(n:Int):Int:=if 0<=n/\n<(Z c.ns:Int)then max 1 (cH c.ns n).w else 1
def mD(c:Con)(h:a6)(n:Int):Nat:=uF (CW c h n) (ofF (aN3 c n))
def sJ(c:Con)(h:a6)(x y:Int):Int:=if mD c h x<mD c h y then -1 else if mD c h y<mD c h x then 1 else gY x y
def fR(c:Con)(h:a6):ax->ax->Int
 |[],[]=>0
 |[],_::_=> -1
 |_::_,[]=>1
 |x::p,y::q=>if x=y then fR c h p q else sJ c h x y
def oS(c:Con)(now:Int)(p:Pn):Bool:=decide (0<c.age)&&(decide (p.at'<=now)&&decide (c.age<=now-p.at'))
def ptC(s:Sta)(a b:Pn):Int:=fR s.c s.hist (bP s.c.ns a.g.ten) (bP s.c.ns b.g.ten)
def iL(s:Sta)(a b:Pn):Int:=
 if oS s.c s.now a=O then(if oS s.c s.now b=O then gY a.seq b.seq else -1)
 else if oS s.c s.now b=O then 1 else(if ptC s a b=0 then gY a.seq b.seq else ptC s a b)
def ltP(s:Sta)(a b:Pn):Bool:=decide (iL s a b<0)
def rF{a b:Int}:gY a b<0↔a<b:=by
 unfold gY
 repeat' split
 all_goals omega
def aGn{a b:Int}:gY a b=0↔a=b:=by
 unfold gY
 repeat' split
 all_goals omega
def aKT{a b:Int}:0<gY a b↔b<a:=by
 unfold gY
 repeat' split
 all_goals omega
def aKY{c:Con}{h:a6}{x y:Int}:sJ c h x y<0↔mD c h x<mD c h y\/(mD c h x=mD c h y/\x<y):=by
 have:=rF (a:=x) (b:=y);unfold sJ
 repeat' split
 all_goals omega
def aKZ{c:Con}{h:a6}{x y:Int}:0<sJ c h x y↔sJ c h y x<0:=by
 have h1:=aKT (a:=x) (b:=y);have d:=rF (a:=y) (b:=x);unfold sJ
 repeat' split
 all_goals omega
theorem aGv{c:Con}{h:a6}{x y:Int}:sJ c h x y=0↔x=y:=by
 have h1:=aGn (a:=x) (b:=y);unfold sJ
 grind
def wU{c:Con}{h:a6}:∀{p q:ax},fR c h p q=0↔p=q
 |[],[]=>by simp[fR]
 |[],_::_=>by simp[fR]
 |_::_,[]=>by simp[fR]
 |x::p,y::q=>by
  unfold fR;by_cases e:x=y
  .rw [bu e,wU];subst e;simp
  .rw [bt e]
   grind[aGv]
def ZG{c:Con}{h:a6}:∀{p q:ax},0<fR c h p q↔fR c h q p<0
 |[],[]=>by simp[fR]
 |[],_::_=>by simp[fR]
 |_::_,[]=>by simp[fR]
 |x::p,y::q=>by
  unfold fR;by_cases e:x=y
  .subst e;rw[bu rfl,bu rfl];exact ZG
  .rw [bt e,bt (λh=>e h.symm)];exact aKZ
def aKW{c:Con}{h:a6}{x y z:Int}(h1:sJ c h x y<0)(a:sJ c h y z<0):sJ c h x z<0:=by
 rw[aKY]at*
 omega
def ZF{c:Con}{h:a6}:∀{p q r:ax},fR c h p q<0->fR c h q r<0->fR c h p r<0
 |[],[],_,h1,_=>by simp[fR]at h1
 |[],_::_,[],_,h2=>by simp[fR]at h2
 |[],_::_,_::_,_,_=>by simp[fR]
 |_::_,[],_,h1,_=>by simp[fR]at h1
 |_::_,_::_,[],_,h2=>by simp[fR]at h2
 |x::p,y::q,z::r,h1,h2=>by
  unfold fR at*
  by_cases b:x=y
  .subst b;rw[bu rfl]at h1;by_cases a:x=z
   .rw [bu a]at h2⊢;exact ZF h1 h2
   .rw [bt a]at h2⊢;exact h2
  .rw [bt b]at h1;by_cases a:y=z
   .subst a;rw[bt b];exact h1
   .rw [bt a]at h2;have h3:=aKW h1 h2;by_cases d:x=z
    .grind [aGv]
    .rw [bt d];exact h3
def iO(s:Sta):Ord (ltP s) where
 irr a:=by have h1:=(wU (c:=s.c) (h:=s.hist) (p:=bP s.c.ns a.g.ten)).2 rfl;have h2:=(aGn (a:=a.seq) (b:=a.seq)).2 rfl;unfold ltP iL ptC;rw[h1,h2];split<;>simp
 tr a b c h1 h2:=by
  unfold ltP iL at*
  simp only[bo]at*
  have n1:=rF (a:=a.seq) (b:=b.seq);have n2:=rF (a:=b.seq) (b:=c.seq);have n3:=rF (a:=a.seq) (b:=c.seq);have t1:=wU (c:=s.c) (h:=s.hist) (p:=bP s.c.ns a.g.ten) (q:=bP s.c.ns b.g.ten);have t2:=wU (c:=s.c) (h:=s.hist) (p:=bP s.c.ns b.g.ten) (q:=bP s.c.ns c.g.ten);cases ha:oS s.c s.now a<;>cases hb:oS s.c s.now b<;>cases hc:oS s.c s.now c<;>simp only[ha,hb,hc,if_true,if_false,reduceIte,Cy]at* <;>try omega
  by_cases z1:ptC s a b=0
  .have e1:=t1.1 z1;rw[bu z1]at h1;have e3:ptC s a c=ptC s b c:=by unfold ptC;rw[e1]
   grind
  .rw [bt z1]at h1;by_cases z2:ptC s b c=0
   .have e2:=t2.1 z2;have e3:ptC s a c=ptC s a b:=by unfold ptC;rw[e2]
    rw[e3,bt z1];exact h1
   .rw [bt z2]at h2;have h3:ptC s a c<0:=ZF h1 h2;rw[bt o_];exact h3
def aLf(s:Sta){a b:Pn}(h:a.seq≠b.seq):ltP s a b=O\/ltP s b a=true:=by
 unfold ltP iL;simp only[bo];have n1:=rF (a:=a.seq) (b:=b.seq);have n2:=rF (a:=b.seq) (b:=a.seq);have d:=wU (c:=s.c) (h:=s.hist) (p:=bP s.c.ns a.g.ten) (q:=bP s.c.ns b.g.ten);have j:=wU (c:=s.c) (h:=s.hist) (p:=bP s.c.ns b.g.ten) (q:=bP s.c.ns a.g.ten);have i:=ZG (c:=s.c) (h:=s.hist) (p:=bP s.c.ns a.g.ten) (q:=bP s.c.ns b.g.ten);cases e:oS s.c s.now a<;>cases f:oS s.c s.now b<;>simp only[if_true,if_false,reduceIte,Cy]<;>try omega
 unfold ptC
 grind
def U0(h:a6)(x:Nat)(t:Int):Nat:=if t<(Z h:Int)then jW x ((h[t.toNat]?).getD 0)else x
def MD{h:a6}{x:Nat}{t:Int}(a:x<18446744073709551616):U0 h x t<18446744073709551616:=by
 unfold U0;split
 .exact D5 _ _
 .exact a
def ZP(c:Con)(h:a6)(n:Int):CW c h n<18446744073709551616:=by
 have go:∀(l:ax) (x:Nat),x<18446744073709551616->l.foldl (U0 h) x<18446744073709551616:=λl=>by
  induction l with
  |nil=>exact λx b=>b
  |cons a l d=>exact λx b=>d _ (MD b)
 exact go _ _ d_
def aDa(h:a6)(g:LtF h)(hl:Z h<=1048576)(l:ax)(n:∀t∈l,0<=t)(j:Z l<=1048576)(R:Nat):∀(m i x:Nat),i+m=Z l->x<18446744073709551616->(l.drop i).foldl (U0 h) x=R->
  BC E f355 (uu R) [(1,CA 1 (fv h) J0),(7,uu x),(12,CA 1 (iv l) J0),(13,ii (Z l:Nat)),(14,ii i)] []:=by
 have f:Z (iv l)=Z l:=by simp
 have o:Z (fv h)=Z h:=by simp
 intro m;induction m with
 |zero=>
  exact zqda20
 |succ m e=>
  intro i x k d a;have b:i<Z l:=o_;have get:=cD b;have p:=n _ (Av b);rw[Ac b,Ao]at a;have next:=e (i+1) _ o_ (MD d) a
  clear a e;generalize l[i]=t at*
  unfold U0 at next
  by_cases h1:t<(Z h:Int)
  .rw [bu h1]at next
   have c:t.toNat<Z h:=o_;have r:t=(t.toNat:Int):=o_;have q:=KJ c;have hz:=g _ (Av c);rw[Ab c]at next
   have next:BC E f355 (uu R) [(1,CA 1 (fv h) J0),(7,uu (jW x h[t.toNat])),(12,CA 1 (iv l) J0),(13,ii (Z l:Nat)),(14,ii ((i:Int)+1))] []:=next
   generalize h[t.toNat]=z at*
   have s:=aA1 x z d hz;generalize jW x z=y at*
   exact tA
  .rw [bt h1]at next
   exact tA
def aLY(c:Con)(e:c.sm)(h:a6)(j:LtF h)(hl:Z h<=1048576)(n:Int):bj 355 [c.av,CA 1 (fv h) J0,ii n] (uu (CW c h n)):=by
 have k:=UB c e n;have d:∀t∈bE c.ns n,0<=t:=λt i=>(iW c n t i).1;have b:Z (bE c.ns n)<=1048576:=mM c e n;have next:=aDa h j hl (bE c.ns n) d b (CW c h n) (Z (bE c.ns n)) 0 0 o_ d_ rfl
 generalize CW c h n=R at*
 generalize bE c.ns n=l at*
 have a:Z (iv l)=Z l:=by simp
 try rw[<-a]at next
 exact c_ f355 λ_=>zW
def XE(h:a6)(g:LtF h)(hl:Z h<=1048576)(l:ax)(n:∀t∈l,0<=t)(j:Z l<=1048576)(R:Nat):∀(m i x:Nat),i+m=Z l->x<18446744073709551616->(l.drop i).foldl (U0 h) x=R->
  BC E f308 (uu R) [(1,CA 1 (fv h) J0),(7,uu x),(8,CA 1 (iv l) J0),(9,ii i)] []:=by
 have f:Z (iv l)=Z l:=by simp
 have o:Z (fv h)=Z h:=by simp
 intro m;induction m with
 |zero=>
  exact zqda20
 |succ m e=>
  intro i x k d a;have b:i<Z l:=o_;have get:=cD b;have p:=n _ (Av b);rw[Ac b,Ao]at a;have next:=e (i+1) _ o_ (MD d) a
  clear a e;generalize l[i]=t at*
  unfold U0 at next
  by_cases h1:t<(Z h:Int)
  .rw [bu h1]at next
   have c:t.toNat<Z h:=o_;have r:t=(t.toNat:Int):=o_;have q:=KJ c;have hz:=g _ (Av c);rw[Ab c]at next
   have next:BC E f308 (uu R) [(1,CA 1 (fv h) J0),(7,uu (jW x h[t.toNat])),(8,CA 1 (iv l) J0),(9,ii ((i:Int)+1))] []:=next
   generalize h[t.toNat]=z at*
   have s:=mL x z d hz;generalize jW x z=y at*
   exact tA
  .rw [bt h1]at next
   exact tA
def aHA(c:Con)(e:c.sm)(h:a6)(j:LtF h)(hl:Z h<=1048576)(n:Int):bj 308 [c.av,CA 1 (fv h) J0,ii n] (uu (CW c h n)):=by
 have k:=AR c e n;have d:∀t∈bE c.ns n,0<=t:=λt i=>(iW c n t i).1;have b:Z (bE c.ns n)<=1048576:=mM c e n;have next:=XE h j hl (bE c.ns n) d b (CW c h n) (Z (bE c.ns n)) 0 0 o_ d_ rfl
 generalize CW c h n=R at*
 generalize bE c.ns n=l at*
 have a:Z (iv l)=Z l:=by simp
 try rw[<-a]at next
 exact c_ f308 λ_=>zW
end Go.Proofs.YtenkdioaefckoaaGreatDoor
namespace Go.AW
open Go.RowKit
def RP:BInv:=⟨λ_ bs _=>bs=[],λ_ _ _ h=>h⟩
theorem aAm:∀(l:aw) (k:Nat) (h:k<Z l),aC l k=l[k]
 |_::_,0,_=>rfl
 |_::r,k+1,h=>aAm r k (by simpa using h)
def Mem.bury{M:Imm}{ob:Hs}{ac:aw}{w:World}(hm:Mem M ob ac w){k n:Nat}{d:bb}(y:ac[k]? =X .dead)(x:ob[k]? =X d)(hl:Z d=n+1):
  Mem M (ob.set k (d++[fA []])) (ac.set k (.bun (n+1) RP)) w/\Ext M ob ac w M (ob.set k (d++[fA []])) (ac.set k (.bun (n+1) RP)) w/\dH ob (ob.set k (d++[fA []])):=by
 have q:k<Z ac:=(Ad.1 y).1;have p:k<Z ob:=(Ad.1 x).1;have f:dH ob (ob.set k (d++[fA []])):=λj hs g=>by grind[Ay,List.prefix_append,Bf,List.prefix_refl]
 have s:blk (d++[fA []])=[]:=D0 s_;have m:∀{j b:Nat},aK (ob.set k (d++[fA []])) (ac.set k (.bun (n+1) RP)) j b->aK ob ac j b:=λ{j b} ⟨c,hs,o,l,e3,e4⟩=>by
  by_cases e:k=j
  .grind [Ay]
  .rw [Bf e]at o e3;exact⟨c,hs,o,l,e3,e4⟩
 have r:∀(j:Nat) c,(ac.set k (.bun (n+1) RP))[j]? =X c->∃hs,(ob.set k (d++[fA []]))[j]? =X hs/\iM M (ob.set k (d++[fA []])) w hs c:=λj c g=>by
  by_cases e:k=j
  .subst e;rw[Ay q]at g;cases g;refine⟨_,Ay p,by simp[hl],[],?_,λb F=>(by cases F),rfl⟩;rw[Ar o_,hl];simp
  .rw [Bf e]at g;obtain⟨hs,o,l⟩:=hm.obj j c g;refine⟨hs,by rw[Bf e];exact o,?_⟩;cases c with
   |cells I cs'=>
    obtain⟨b,t,D,cv,z,H,G,C⟩:=l;exact⟨b,t,D,cv,z,H,G,λn v a A i=>(C n v a A i).mono (λ_ _ _ h=>h) f⟩
   |_=>exact l
 exact⟨⟨hm.imm,by simp[hm.len],r,λj b i=>hm.lt j b (m i),λj u b h1 B=>hm.inj j u b (m h1) (m B)⟩,⟨λ_ _ _ h=>h,λ_ _ _ h=>.inl h,f,rfl,rfl,rfl,Bc _,λ_ _ _=>rfl,λj b i=>.inl ⟨j,m i⟩⟩,f⟩
def To.bury{E:Env}{fn:Func}{g:Goal}{st:bg}{fr:au}{ac:aw}(k:Nat)(x:aC ac k= .dead)(f:Nat.blt k g.n0=O)(h:∀n,To E fn g (.code st fr (bQ ac k (.bun (n+1) RP))))(d:g.strict=true:=by rfl):To E fn g (.code st fr ac):=
 .mk λj M0 ob0 c w0 a w hst hs=>by
  obtain⟨M,ob,l,hm,i,p,r,y⟩:=hs;have b:k<Z ob0:=by rw[hst.1];simpa[Nat.blt_eq]using f
  obtain⟨hs,v,s⟩:=l.hs k _ (Ab b);have o:=hst.2 d _ (Av b)
  obtain⟨n,f⟩:∃n,Z hs=n+1:=⟨Z hs-1,by have:=s.length_le;omega⟩
  have e:ac[k]? =X .dead:=by grind[Ab,aAm]
  obtain⟨q,u,m⟩:=hm.bury e v f;refine(h n).rec λh=>h j M0 ob0 c w0 a w hst ?_;rw[aQ e];exact⟨M,_,l.trans u,q,λt=>(i t).mono (λ_ _ _ h=>h) m,p,r.mono (λ_ _ _ h=>h) m,by simp;omega⟩
def ME:au->au
 |[]=>[]
 |(i,v)::r=>(i,strip 5 v)::ME r
def ES{M:Imm}{ob:Hs}{v:Value}{t:Nat}:∀(fr:au),Rep M ob v (aX fr t)->Rep M ob v (aX (ME fr) t)
 |[],h=>h
 |(i,x)::r,h=>by
  simp only[aX,ME]at h⊢;cases a:Nat.beq i t with
  |true=>rw[a]at h;exact pF 5 h
  |false=>rw[a]at h;exact ES r h
def To.looseF{E:Env}{fn:Func}{g:Goal}{st:bg}{fr:au}{ac:aw}(h:To E fn g (.head st (ME fr) ac)):To E fn g (.head st fr ac):=
 .mk λd M0 ob0 b w0 a w hst hs=>by refine h.rec λh=>h d M0 ob0 b w0 a w hst ?_;obtain⟨M,ob,e,hm,c,f,i,j⟩:=hs;exact⟨M,ob,e,hm,λt=>ES fr (c t),f,i,j⟩
end Go.AW
namespace Go.Proofs.YtenkdioaefckoaaGreatDoor
open Go.Proofs.Tryz
open Go Go.AW Go.Proofs
set_option maxRecDepth 10000
def aSF(f:aa):au:=[(2,G2 1 0),(6,f)]
def UH(a:ax)(g:Nat)(o:ab):aw:=[.dead,Do 83 [.row 2 g],.row g 1 3 (iv a),o]
def UU{i:Nat}(h:i<=12):i=0\/i=1\/i=2\/i=3\/i=4\/i=5\/i=6\/i=7\/i=8\/i=9\/i=10\/i=11\/i=12:=o_
def aIM(f:aa)(a:ax)(x:Int)(g:Nat)(d:g<=12)(hl:Z a=g)(l:Nat)(R:Loop)(c:R.state= .ready):
  To (El l [] [] []) f352 (.keep 4 (Io (DA O)) (UH (a++[x]) (g+1) (If 0 (cJ l (busy R))))) (.code [.code (rfA f352),.beginR,.code (rfB f352)] (iI (aSF f) 7 (ii x)) (UH a g (If 0 (cJ l R)))):=by
 rcases UU d with rfl|rfl|rfl|rfl|rfl|rfl|rfl|rfl|rfl|rfl|rfl|rfl|rfl
 all_goals
  have b:Z (iv a)=Z a:=by simp
  have e:iv (a++[x])=iv a++[ii x]:=by simp
  unfold UH;rw[e];refine gV ?_;refine To.beginR (k:=3) (gg:=0) rfl rfl c ?_;exact zW
def auJ(f:aa)(ob0:Hs)(R:Loop)(l:Nat)(a:ax):BInv:=kJ ob0 (aSF f) R (UH a (Z a) (If 0 (cJ l R)))
def aIL{d i:Code}(f:aa)(ob0:Hs)(l:Nat)(R:Loop)(a:ax)(x:Int)(hl:Z a<=12)(c:RecOK f352 7 d i R)(q:rfA f352=d)(o:rfB f352=i):
  bN Tryz.prog (.yield l) [ii x] [If 0 (auJ f ob0 R l a)] (Io (DA O)) [If 1 (auJ f ob0 R l (a++[x]))]:=by
 subst q o;unfold auJ;have rd:=λg (m:g<=12) h=>aIM f a x g m h l R c.ready;have e:Z (a++[x])=Z a+1:=by simp
 obtain⟨g,j⟩:∃g,Z a=g:=⟨_,rfl⟩
 rw[e];rw[j]at hl⊢;rcases UU hl with rfl|rfl|rfl|rfl|rfl|rfl|rfl|rfl|rfl|rfl|rfl|rfl|rfl
 all_goals
  exact iF (E:=Ex [] [] []) (fn:=f352) (k:=3) (n:=4) (p:=7) (gg:=0) (L':=UH (a++[x]) _ (If 0 (cJ l (busy R)))) (b:=O) c.params c.ready c.pend c.assign c.body c.size rfl rfl rfl rfl rfl rfl rfl λ_=>rd _ hl j
def IL{P:Program}{l B:Nat}(F:ax->BInv)(h:∀(a:ax) x,Z a<=B->bN P (.yield l) [ii x] [If 0 (F a)] (Io (DA O)) [If 1 (F (a++[x]))]):∀(xs a:ax),Z a+Z xs<=B+1->Ylds P l xs (F a) (F (a++xs)) O
 |[],a,_=>by rw[Ap];exact .nil _
 |x::r,a,hl=>by have:=IL F h r (a++[x]) (by simp at hl⊢;omega);rw[Ag]at this;exact .next x r _ _ _ _ (h a x (by simp at hl;omega)) this
abbrev aJh(c:Con):aa:=.func (.func 345) [] [G2 0 0,.ptr c.cs]
def aM9(c:Con)(p:c.sm)(n:Int)(i:Z (upL c.ns n)<=12):ar 352 [.nilslice,aJh c] [Do 3 [ii n]] (Io (.row 1 0)) [If 1 RP,.row 0 1 3 (iv (upL c.ns n))]:=by
 have e:(Z (nav c.ns):Int)<=9223372036854775807:=by have:=p.ns;simp only[Cb];omega
 refine eA E f352 1 λ_=>gV ?_;refine To.cutC [2,6] 2 rfl rfl rfl rfl ?_;refine To.mapO (aK0 1) (RO 1) ?_;refine To.beginRow 1 0 3 rfl rfl ?_;refine To.range [0] rfl rfl (λ_ _=>by rfl) rfl (λ_ _=>rfl) rfl λl ob0 R hst k=>?_;have a:=IL (P:=Tryz.prog) (l:=l) (B:=12) (auJ (aJh c) ob0 R l) (λh x hl=>aIL (aJh c) ob0 l R h x hl k rfl rfl) (upL c.ns n) [] q_;rw[Bi]at a;unfold auJ at a;have b:Z ([]:ax)=0:=rfl;rw[b]at a
 obtain⟨q,o⟩:∃q,Z (upL c.ns n)=q:=⟨_,rfl⟩
 rw[o]at a i;rcases UU i with rfl|rfl|rfl|rfl|rfl|rfl|rfl|rfl|rfl|rfl|rfl|rfl|rfl
 all_goals
  obtain⟨m,j,d⟩:=MB l c n _ _ O e a;refine⟨_,O,_,[Do 3 [m]],j,d,rfl,rfl,?_⟩;refine To.bury 0 rfl rfl λz=>gV ?_;refine⟨[],[0,2],⟨rfl,rfl⟩,rfl,?_⟩;show[ab.bun (match gm 1 0 (z+1) (z+1)with|some g=>g|none=>0) RP,_]=_;rw[oH];rfl
def aMS(c:Con)(a:c.sm)(n:Int)(b:Z (upL c.ns n)<=12):ar 320 [aJh c] [Do 3 [ii n]] (Io (.row 1 0)) [If 1 RP,.row 0 1 3 (iv (upL c.ns n))]:=by have h:=aM9 c a n b;generalize upL c.ns n=l at h;refine eA E f320 1 λ_=>?_;exact zW
def ZX{α:Type}(A M B:List α)(x y:α):((A++x::(M++[y])++B).set (Z A) y).set (Z A+Z M+1) x=A++[y]++M++x::B:=by
 have e:A++x::(M++[y])++B=A++x::(M++y::B):=by simp
 rw[e,Hb _ _ o_,Hb _ _ o_];rw[show Z A-Z A=0 by omega,show Z A+Z M+1-Z A=Z M+1 by omega];simp
def aFq(R:ax):∀(n:Nat) (A M B:ax),Z M<=n->Z A+Z M+Z B<=1048576->A++M.reverse++B=R->
  To (Er [] [14,16,17]) f321 (.full 1 (Io (GT [])) [.row 0 1 3 (iv R)]) (BB f321 [(0,.row 0 0),(2,ii (Z A:Nat)),(3,ii ((Z A:Int)+Z M-1))] [.row 0 1 3 (iv (A++M++B))]):=by
 intro n;induction n with
 |zero=>
  intro A M B d hl a;have d:M=[]:=Ch.1 o_;subst d;have a:A++[]++B=R:=a;rw[a];have e:(Z ([]:ax):Int)=0:=rfl;rw[e];exact tA
 |succ n w=>
  intro A M B d hl a;by_cases c:Z M<2
  .have q:M.reverse=M:=by
    match M,c with
    |[],_=>rfl
    |[_],_=>rfl
   rw[q]at a;rw[a];exact tA
  .obtain ⟨x,M',y,rfl⟩:∃x M' y,M=x::(M'++[y]):=by
    match M,c with
    |x::r,c=>
     have f:r≠[]:=λe=>by subst e;simp at c
     exact⟨x,r.dropLast,r.getLast f,by rw[Kw]⟩
   have next:=w (A++[y]) M' (x::B) (by simp at d;omega) (by simp at hl⊢;omega) (by rw[<-a];simp)
   have z:(iv (A++x::(M'++[y])++B))[Z A]? =X (ii x):=by simp
   have p:(iv (A++x::(M'++[y])++B))[Z A+Z M'+1]? =X (ii y):=by rw[show A++x::(M'++[y])++B=(A++x::M')++y::B by simp];simp only[List.map_append];rw[Ar q_];simp only[Cb,Ah,List.length_cons,List.map_cons];rw[show Z A+Z M'+1-(Z A+(Z M'+1))=0 by omega];rfl
   have l:((Z A:Int)+(Z (x::(M'++[y])):Nat)-1)=((Z A+Z M'+1:Nat):Int):=by simp;omega
   have k:Z (iv (A++x::(M'++[y])++B))=Z A+Z M'+2+Z B:=by simp;omega
   have es:((iv (A++x::(M'++[y])++B)).set (Z A) (ii y)).set (Z A+Z M'+1) (ii x)=iv (A++[y]++M'++x::B):=by rw[<-ZX A M' B x y];simp only[iv,Gb]
   have o:(Z (A++[y]):Int)=(Z A:Int)+1:=by simp
   have b:(Z A:Int)+1+(Z M':Int)-1=((Z A+Z M'+1:Nat):Int)-1:=o_;rw[l];rw[o,b,<-es]at next
   generalize iv (A++x::(M'++[y])++B)=L at*
   have g:Z A+Z M'+1<=1048576:=by simp at hl;omega
   obtain⟨j,m⟩:∃j,j=Z A+Z M'+1:=⟨_,rfl⟩
   have u:Z A<j:=o_;have s:j<Z L:=o_;have v:j<=1048576:=o_;rw[<-m]at p next⊢
   clear hl g k l es o b m;generalize Z A=i at*
   refine gV ?_;refine aT λh=>?_
   repeat' first|refine pA ?_|refine⟨j,rfl,?_⟩|refine⟨_,p,?_⟩|refine⟨i,rfl,?_⟩|refine⟨_,z,?_⟩|refine Aa (by rw[Dj];omega) ?_|exact rfl|refine lA ?_ ?_|intro h
   exact zW
def aOT(l:ax)(hl:Z l<=1048576):ar 321 [.row 0 0] [.row 0 1 3 (iv l)] (Io (GT [])) [.row 0 1 3 (iv l.reverse)]:=by
 have a:Z (iv l)=Z l:=by simp
 have next:=aFq l.reverse (Z l) [] l [] (Bc _) q_ s_
 have e:((0:Nat):Int)+(Z l:Int)-1=(Z (iv l):Int)-1:=by rw[a];omega
 have next:To (Er [] [14,16,17]) f321 (.full 1 (Io (GT [])) [.row 0 1 3 (iv l.reverse)]) (BB f321 [(0,.row 0 0),(2,ii 0),(3,ii (((0:Nat):Int)+Z l-1))] [.row 0 1 3 (iv (l++[]))]):=next
 rw[e,Ap]at next
 refine eA (Er [] [14,16,17]) f321 1 λ_=>gV ?_;refine Fk (Aa (Aa (by simp only[bV];rw[a];omega) (by simp only[aW];rw[a];omega)) ?_);exact zW
def aAh(c:Con)(a:c.sm)(n:Int)(b:Z (upL c.ns n)<=12):bj 285 [c.av,ii n] (CA 1 (iv (upL c.ns n).reverse) J0):=by
 have h1:=Y8 c n;have d:=aMS c a n b;have h3:=aOT (upL c.ns n) o_;generalize upL c.ns n=l at*
 refine c_ f285 λ_=>gV ?_;exact .pure _ [Do 3 [ii n]] h1 zW
def R5(c:Con)(i:c.sm)(h:a6)(k:LtF h)(hl:Z h<=1048576)(n:Int):bj 323 [c.av,CA 1 (fv h) J0,ii n] (uu (mD c h n)):=by
  have h1:=aLY c i h k hl n;have e:=ZP c h n;have j:=i.ns;have m:Z (nav c.ns)=Z c.ns:=by simp
  unfold mD;unfold aN3 at*
  by_cases d:0<=n/\n<(Z c.ns:Int)
  .rw [bu d];have b:n.toNat<Z c.ns:=o_;have o:n=(n.toNat:Int):=o_;have get:=vF (c:=c) (n:=n) ⟨by omega,b⟩;generalize cH c.ns n=x at*
   have l:=XB (max 1 x.w);have a:=AY (max 1 x.w);generalize CW c h n=p at*
   generalize ofF (max 1 x.w)=q at*
   have h3:=aAX p q e a;generalize uF p q=r at*
   exact zqda23
  .rw [bt d];have l:=XB 1;have a:=AY 1;generalize CW c h n=p at*
   generalize ofF 1=q at*
   have h3:=aAX p q e a;generalize uF p q=r at*
   by_cases s:0<=n
   all_goals (exact zqda23)
def JC(c:Con)(i:c.sm)(h:a6)(k:LtF h)(hl:Z h<=1048576)(n:Int):bj 256 [c.av,CA 1 (fv h) J0,ii n] (uu (mD c h n)):=by
  have h1:=aHA c i h k hl n;have e:=ZP c h n;have j:=i.ns;have m:Z (nav c.ns)=Z c.ns:=by simp
  unfold mD;unfold aN3 at*
  by_cases d:0<=n/\n<(Z c.ns:Int)
  .rw [bu d];have b:n.toNat<Z c.ns:=o_;have o:n=(n.toNat:Int):=o_;have get:=vF (c:=c) (n:=n) ⟨by omega,b⟩;generalize cH c.ns n=x at*
   have l:=E9 (max 1 x.w);have a:=AY (max 1 x.w);generalize CW c h n=p at*
   generalize ofF (max 1 x.w)=q at*
   have h3:=JF p q e a;generalize uF p q=r at*
   exact zqda12
  .rw [bt d];have l:=E9 1;have a:=AY 1;generalize CW c h n=p at*
   generalize ofF 1=q at*
   have h3:=JF p q e a;generalize uF p q=r at*
   by_cases s:0<=n
   all_goals (exact zqda12)
def aAk(c:Con)(now:Int)(p:Pn)(j:0<=now/\now<=1099511627776)(hp:0<=p.at')(l:c.age<=9223372036854775807)(r:Bool)(a:oS c now p=r):bj 283 [c.av,ii now,p.av] (DA r):=by
  unfold oS at a;have m:IntKind.wrap IH now=now:=by rw[wu];omega
  by_cases e:0<c.age
  .by_cases i:p.at'<=now
   .have k:now-p.at'=((now-p.at').toNat:Int):=o_;rw[bq e,bq i,Bt,Bt]at a;by_cases d:c.age<=now-p.at'
    .rw [bq d]at a;subst a;refine c_ f283 λ_=>?_
     repeat' first|refine pA ?_|exact rfl|refine lA ?_ ?_|intro h
     all_goals exact congrArg (λb=>Res.ret (aa.bool b)) (bq d)
    .rw [bp d]at a;subst a;refine c_ f283 λ_=>?_
     repeat' first|refine pA ?_|exact rfl|refine lA ?_ ?_|intro h
     all_goals exact congrArg (λb=>Res.ret (aa.bool b)) (bp d)
   .rw [bp i,Cq,Bo]at a;subst a;exact c_ f283 λ_=>zW
  .rw [bp e,Cq]at a;subst a;exact c_ f283 λ_=>zW
def P5(c:Con)(now:Int)(p:Pn)(j:0<=now/\now<=1099511627776)(hp:0<=p.at')(l:c.age<=9223372036854775807)(r:Bool)(a:oS c now p=r):bj 183 [c.av,ii now,p.av] (DA r):=by
  unfold oS at a;have m:IntKind.wrap IH now=now:=by rw[wu];omega
  by_cases e:0<c.age
  .by_cases i:p.at'<=now
   .have k:now-p.at'=((now-p.at').toNat:Int):=o_;rw[bq e,bq i,Bt,Bt]at a;by_cases d:c.age<=now-p.at'
    .rw [bq d]at a;subst a;refine c_ f183 λ_=>?_
     repeat' first|refine pA ?_|exact rfl|refine lA ?_ ?_|intro h
     all_goals exact congrArg (λb=>Res.ret (aa.bool b)) (bq d)
    .rw [bp d]at a;subst a;refine c_ f183 λ_=>?_
     repeat' first|refine pA ?_|exact rfl|refine lA ?_ ?_|intro h
     all_goals exact congrArg (λb=>Res.ret (aa.bool b)) (bp d)
   .rw [bp i,Cq,Bo]at a;subst a;exact c_ f183 λ_=>zW
  .rw [bp e,Cq]at a;subst a;exact c_ f183 λ_=>zW
structure OrdOK(s:Sta):Prop where
 sm:s.c.sm
 few:Z s.c.ns<=12
 lt:LtF s.hist
 hl:Z s.hist<=1048576
 now:0<=s.now/\s.now<=1099511627776
 age:s.c.age<=9223372036854775807
def OrdOK.path{s:Sta}(h:OrdOK s)(n:Int):Z (upL s.c.ns n)<=12:=Cl (Y9 _ _) h.few
def aDz(a b:Nat):Int:=if a<b then -1 else if b<a then 1 else 0
def aKX(c:Con)(h:a6)(x y:Int):sJ c h x y=orI (aDz (mD c h x) (mD c h y)) (gY x y):=by
 unfold sJ orI aDz
 repeat' split
 all_goals first|rfl|omega
def aBq(s:Sta)(a b:Pn):iL s a b=if oS s.c s.now a=O then(if oS s.c s.now b=O then gY a.seq b.seq else -1)else if oS s.c s.now b=O then 1 else orI (ptC s a b) (gY a.seq b.seq):=by unfold iL orI;rfl
def NG(x:Nat):bj 353 [uu x] (DA S):=by refine c_ f353 λ_=>gV ?_;exact congrArg (λb=>Res.ret (aa.bool b)) s_
def aIs(a b:Nat)(r:Int)(c:aDz a b=r):bj 322 [uu a,uu b] (ii r):=by
 unfold aDz at c;by_cases h1:a<b
 .rw [bu h1]at c;exact zqda3
 .rw [bt h1]at c;by_cases e:b<a
  .rw [bu e]at c;exact zqda3
  .rw [bt e]at c;exact zqda3
def DO(a b:Int):bj 284 [ii a,ii b] (ii (gY a b)):=aBp a b _ rfl
def aGr(s:Sta)(h:OrdOK s)(x y:Int):bj 286 [.ptr s.cs,ii x,ii y] (ii (sJ s.c s.hist x y)):=by
 have h1:=R5 s.c h.sm s.hist h.lt h.hl x;have a:=R5 s.c h.sm s.hist h.lt h.hl y;have h3:=aIs (mD s.c s.hist x) (mD s.c s.hist y) _ rfl;have d:=DO x y;rw[aKX];have b:=FH (aDz (mD s.c s.hist x) (mD s.c s.hist y)) (gY x y) _ rfl;generalize aDz (mD s.c s.hist x) (mD s.c s.hist y)=p at*
 generalize gY x y=q at*
 generalize orI p q=r at*
 generalize mD s.c s.hist x=l1 at*
 generalize mD s.c s.hist y=l2 at*
 exact c_ f286 λ_=>zW
abbrev cpF(s:Sta)(p q:ax)(t:Int)(i:Nat):au:=[(0,.ptr s.cs),(4,G2 0 0),(5,G2 1 0),(9,ii t),(10,CA 1 (iv p) J0),(11,CA 1 (iv q) J0),(90,ii ((min (Z p) (Z q):Nat):Int)),(91,ii i)]
abbrev cpO(a b:Pn):aw:=[Do 104 a.cs,Do 104 b.cs]
def O6{c:Con}{h:a6}:∀{p q:ax},(p=[]\/q=[])->fR c h p q=gY (Z p) (Z q)
 |[],[],_=>rfl
 |[],_::_,_=>by simp[fR,gY]
 |_::_,[],_=>by
  show(1:Int)=gY _ _;unfold gY;rw[bt (by simp<;>omega),bu (by simp<;>omega)]
 |_::_,_::_,h=>by rcases h with h|h<;>cases h
def aMQ(s:Sta)(h:OrdOK s)(a b:Pn)(p q:ax)(hp:Z p<=12)(D:Z q<=12)(R:Int)(j:orI (fR s.c s.hist p q) (gY a.seq b.seq)=R):∀(m i:Nat),i+m=min (Z p) (Z q)->fR s.c s.hist p q=fR s.c s.hist (p.drop i) (q.drop i)->
  BC E f229 (ii R) (cpF s p q (gY (Z p) (Z q)) i) (cpO a b):=by
 have A:Z (iv p)=Z p:=by simp
 have n:Z (iv q)=Z q:=by simp
 have hs:=DO a.seq b.seq;intro m;induction m with
 |zero=>
  intro i v d;have h1:fR s.c s.hist p q=gY (Z p) (Z q):=by
   have o:p.drop i=[]\/q.drop i=[]:=by exact zqda17
   rw[d,O6 o,Dq,Dq];unfold gY
   repeat' split
   all_goals omega
  rw[h1]at j;have r:=FH _ _ _ j;exact zqda13
 |succ m l=>
  intro i v d;have g:i<Z p:=o_;have f:i<Z q:=o_;have F:=cD g;have C:=cD f;have next:=l (i+1) o_
  rw[Ac g,Ac f]at d;have k:fR s.c s.hist (p[i]::p.drop (i+1)) (q[i]::q.drop (i+1))=if p[i]=q[i]then fR s.c s.hist (p.drop (i+1)) (q.drop (i+1))else sJ s.c s.hist p[i] q[i]:=rfl
  rw[k]at d;clear k;have B:=aGr s h p[i] q[i];by_cases e:p[i]=q[i]
  .rw [bu e]at d;have w:(p[i] !=q[i])=false:=by rw[e];simp
   have next:=next d
   generalize p[i]=x at*
   generalize q[i]=y at*
   generalize gY (Z p) (Z q)=t at*
   exact tA
  .rw [bt e]at d;have w:(p[i] !=q[i])=true:=by simpa using e
   rw[d]at j;have r:=FH _ _ _ j;clear next l d
   generalize sJ s.c s.hist p[i] q[i]=z at*
   generalize p[i]=x at*
   generalize q[i]=y at*
   exact zqda13
def TU(s:Sta)(h:OrdOK s)(a b:Pn)(w:0<=a.at')(o:0<=b.at')(R:Int)(d:iL s a b=R):bj 229 [.ptr s.cs,a.av,b.av] (ii R):=by
 have m:=aAk s.c s.now a h.now w h.age _ rfl;have i:=aAk s.c s.now b h.now o h.age _ rfl;have hs:=DO a.seq b.seq;rw[aBq]at d;cases h1:oS s.c s.now a with
 |true=>
  rw[h1]at m d;rw[bu rfl]at d;cases e:oS s.c s.now b with
  |true=>
   rw[e]at i d;rw[bu rfl]at d;rw[d]at hs;exact zqda4
  |false=>
   rw[e]at i d;rw[bt d_]at d;subst d;exact zqda4
 |false=>
  rw[h1]at m d;rw[bt d_]at d;cases e:oS s.c s.now b with
  |true=>
   rw[e]at i d;rw[bu rfl]at d;subst d;exact zqda4
  |false=>
   rw[e]at i d;rw[bt d_]at d;by_cases k:a.g.ten=b.g.ten
   .have hz:ptC s a b=0:=by unfold ptC;rw[k];exact wU.2 rfl
    rw[hz]at d;have z:=FH _ _ _ d;have x:(a.g.ten !=b.g.ten)=false:=by rw[k];simp
    generalize gY a.seq b.seq=u at*
    exact zqda4
   .have x:(a.g.ten !=b.g.ten)=true:=by simpa using k
    have B:=aAh s.c h.sm a.g.ten (h.path _);have D:=aAh s.c h.sm b.g.ten (h.path _);have v:Z (upL s.c.ns a.g.ten).reverse<=12:=by rw[Ip];exact h.path _
    have r:Z (upL s.c.ns b.g.ten).reverse<=12:=by rw[Ip];exact h.path _
    have n:=aMQ s h a b (upL s.c.ns a.g.ten).reverse (upL s.c.ns b.g.ten).reverse v r R d _ 0 (Bv _) rfl;generalize (upL s.c.ns a.g.ten).reverse=p at*
    generalize (upL s.c.ns b.g.ten).reverse=q at*
    have l:Z (iv p)=Z p:=by simp
    have j:Z (iv q)=Z q:=by simp
    have C:=DO (Z (iv p)) (Z (iv q));have y:((min (Z p) (Z q):Nat):Int)=min (Z p:Int) (Z q:Int):=o_;unfold cpF at n;rw[y,<-l,<-j]at n;generalize gY (Z (iv p):Int) (Z (iv q):Int)=t at*
    exact zqda4
abbrev lS(s:Sta):aa:=.func (.func 231) [] [.ptr [.func (.func 229) [] []],.ptr s.cs]
def yL(s:Sta)(h:OrdOK s)(a b:Pn)(c:0<=a.at')(d:0<=b.at'):bj 231 [a.av,b.av,.ptr [.func (.func 229) [] []],.ptr s.cs] (ii (iL s a b)):=by
 have h1:=TU s h a b c d _ rfl;generalize iL s a b=r at*
 exact c_ f231 λ_=>zW
def E3(a b r:Int)(c:gY a b=r):bj 185 [ii a,ii b] (ii r):=by
 unfold gY at c;by_cases h1:a<b
 .rw [bu h1]at c;exact zqda10
 .rw [bt h1]at c;by_cases d:b<a
  .rw [bu d]at c;exact zqda10
  .rw [bt d]at c;exact zqda10
def aD9(s:Sta)(h:OrdOK s)(p q:ax)(hp:Z p<=12)(A:Z q<=12)(R:Int):∀(m i:Nat),i+m=min (Z p) (Z q)->fR s.c s.hist (p.drop i) (q.drop i)=R->
  BC E f184 (ii R) [(3,G2 0 0),(7,CA 1 (iv p) J0),(8,CA 1 (iv q) J0),(9,ii i)] [Do 35 s.cs]:=by
 have g:Z (iv p)=Z p:=by simp
 have f:Z (iv q)=Z q:=by simp
 intro m;induction m with
 |zero=>
  intro i u a;have o:p.drop i=[]\/q.drop i=[]:=by exact zqda17
  rw[O6 o,Dq,Dq]at a;have h1:gY (Z (iv p)) (Z (iv q))=R:=by
   rw[<-a,g,f];unfold gY
   repeat' split
   all_goals omega
  have r:=E3 _ _ _ h1;by_cases b:i<Z p
  .exact tA
  .exact tA
 |succ m k=>
  intro i u a;have b:i<Z p:=o_;have d:i<Z q:=o_;have B:=cD b;have z:=cD d;have next:=k (i+1) o_
  rw[Ac b,Ac d]at a;have j:fR s.c s.hist (p[i]::p.drop (i+1)) (q[i]::q.drop (i+1))=if p[i]=q[i]then fR s.c s.hist (p.drop (i+1)) (q.drop (i+1))else sJ s.c s.hist p[i] q[i]:=rfl
  rw[j]at a;clear j k;generalize p[i]=x at*
  generalize q[i]=y at*
  by_cases e:x=y
  .rw [bu e]at a;have v:(x==y)=true:=by rw[e];simp
   have next:=next a
   exact tA
  .rw [bt e]at a;have v:(x==y)=false:=by simpa using e
   have h1:=JC s.c h.sm s.hist h.lt h.hl x;have w:=JC s.c h.sm s.hist h.lt h.hl y;unfold sJ at a;clear next
   generalize mD s.c s.hist x=l1 at*
   generalize mD s.c s.hist y=l2 at*
   by_cases l:l1<l2
   .rw [bu l]at a;subst a;exact tA
   .rw [bt l]at a;by_cases n:l2<l1
    .rw [bu n]at a;subst a;exact tA
    .rw [bt n]at a;have r:=E3 _ _ _ a;exact tA
def aN9(s:Sta)(h:OrdOK s)(x y:Int):bj 184 [s.av,ii x,ii y] (ii (fR s.c s.hist (bP s.c.ns x) (bP s.c.ns y))):=by
 have i:=tE s.c h.sm x;have e:=tE s.c h.sm y;have b:=Cl (pT s.c.ns x) h.few;have d:=Cl (pT s.c.ns y) h.few;have a:=aD9 s h (bP s.c.ns x) (bP s.c.ns y) b d _ _ 0 (Bv _) rfl;have a:BC E f184 (ii (fR s.c s.hist (bP s.c.ns x) (bP s.c.ns y))) [(3,G2 0 0),(7,CA 1 (iv (bP s.c.ns x)) J0),(8,CA 1 (iv (bP s.c.ns y)) J0),(9,ii 0)] [Do 35 s.cs]:=a;generalize fR s.c s.hist (bP s.c.ns x) (bP s.c.ns y)=R at*
 generalize bP s.c.ns x=p at*
 generalize bP s.c.ns y=q at*
 exact c_ f184 λ_=>zW
def aFG(s:Sta)(h:OrdOK s)(a b:Pn)(m:0<=a.at')(l:0<=b.at')(R:Int)(d:iL s a b=R):bj 127 [s.av,a.av,b.av] (ii R):=by
 have k:=P5 s.c s.now a h.now m h.age _ rfl;have j:=P5 s.c s.now b h.now l h.age _ rfl;have hs:=E3 a.seq b.seq _ rfl;rw[aBq]at d;cases h1:oS s.c s.now a with
 |true=>
  rw[h1]at k d;rw[bu rfl]at d;cases i:oS s.c s.now b with
  |true=>
   rw[i]at j d;rw[bu rfl]at d;rw[d]at hs;exact zqda5
  |false=>
   rw[i]at j d;rw[bt d_]at d;subst d;exact zqda5
 |false=>
  rw[h1]at k d;rw[bt d_]at d;cases i:oS s.c s.now b with
  |true=>
   rw[i]at j d;rw[bu rfl]at d;subst d;exact zqda5
  |false=>
   rw[i]at j d;rw[bt d_]at d;have o:=aN9 s h a.g.ten b.g.ten;have e:ptC s a b=fR s.c s.hist (bP s.c.ns a.g.ten) (bP s.c.ns b.g.ten):=rfl;rw[e]at d;generalize fR s.c s.hist (bP s.c.ns a.g.ten) (bP s.c.ns b.g.ten)=t at*
   unfold orI at d;by_cases hz:t=0
   .rw [bu hz]at d;rw[d]at hs;have n:(t !=0)=false:=by rw[hz];rfl
    exact zqda5
   .rw [bt hz]at d;rw[d]at*
    have n:(R !=0)=true:=by simpa using hz
    exact zqda5
def rA(s:Sta):ba:=srt (ltP s) s.pend
abbrev rsF(out:ba)(i:Int):au:=[(1,G2 0 0),(3,CA 11 (pnv out) J0),(4,ii i)]
abbrev rsO(s:Sta):aw:=[Do 35 s.cs]
def aAH{x y:Pn}{s:Sta}{out:ba}{k:Nat}(h:out[k]? =X y):nF (ltP s) x out (k+1)=if ltP s x y=O then nF (ltP s) x out k else k+1:=by simp only[nF,h]
def aRh(s:Sta)(h:OrdOK s)(q:∀p∈s.pend,0<=p.at')(R:aa)(x:Pn)(i:Nat)(w:i<1048576)(f:(pnv s.pend)[i]? =X x.av)(o:0<=x.at')(out:ba)(u:Z out<=1048576)(d:∀p∈out,0<=p.at')
  (next:∀K:Nat,K<=Z out->K=nF (ltP s) x out (Z out)->BC (Er [] [45,46,47]) f82 R [(1,G2 0 0),(3,CA 11 ((pnv out).take K++[x.av]++(pnv out).drop K) J0),(4,ii ((i:Int)+1))] (rsO s)):∀(k:Nat),k<=Z out->nF (ltP s) x out (Z out)=nF (ltP s) x out k->
  To (Er [] [45,46,47]) f82 (.pure (Io R)) (G0 (stk f82 1) (rsF out i++[(5,ii k)]) (rsO s)):=by
 have m:Z (pnv out)=Z out:=by simp
 intro k;induction k with
 |zero=>
  intro j a;have next:=next 0 (Nat.zero_le _) (by rw[a];rfl)
  have r:Z (List.take 0 (pnv out))=0:=by simp
  refine gV ?_
  repeat' first|refine pA ?_|refine Aj 0 (Aa o_ ?_)|refine⟨i,rfl,?_⟩|refine⟨_,f,?_⟩|refine⟨⟨by simp only[maxLen];simp;omega,by simp;omega⟩,?_⟩|refine Aa (Aa (by simp[maxLen]) s_) ?_|exact rfl|refine lA ?_ ?_|intro h
  exact zW
 |succ k t=>
  intro j a;have b:k<Z out:=o_;have l:=uY b;have g:=d _ (Av b);rw[aAH (Ab b)]at a;have n:=aFG s h x out[k] o g _ rfl;have c:((k+1:Nat):Int)-1=((k:Nat):Int):=o_;by_cases hl:iL s x out[k]<0
  .have e:ltP s x out[k]=true:=bq hl;rw[bu e]at a;have next:=t o_ a
   generalize out[k]=y at*
   generalize iL s x y=v at*
   refine gV ?_
   repeat' first|refine pA ?_|refine⟨i,rfl,?_⟩|refine Aj k (Aa o_ ?_)|refine⟨_,f,?_⟩|refine⟨_,l,?_⟩|refine .p n ?_|exact rfl|refine lA ?_ ?_|intro h
   rw[c];exact zW
  .have e:ltP s x out[k]=false:=bp hl;rw[bt (by rw[e];decide)]at a;have next:=next (k+1) j a.symm
   generalize out[k]=y at*
   generalize iL s x y=v at*
   refine gV ?_
   repeat' first|refine pA ?_|refine Aj (k+1) (Aa rfl ?_)|refine⟨i,rfl,?_⟩|refine Aj k (Aa o_ ?_)|refine⟨_,f,?_⟩|refine⟨_,l,?_⟩|refine .p n ?_|refine⟨⟨by simp only[maxLen];simp;omega,by simp;omega⟩,?_⟩|refine Aa (Aa (by simp only[bV];omega) (by simp only[aW];omega)) ?_|exact rfl|refine lA ?_ ?_|intro h
   exact zW
def aOH(s:Sta)(h:OrdOK s)(hl:Z s.pend<=1000000)(d:∀p∈s.pend,0<=p.at')(R:ba):∀(m i:Nat) (out:ba),i+m=Z s.pend->Z out=i->(∀p∈out,0<=p.at')->(s.pend.drop i).foldl (lJ (ltP s)) out=R->
  BC (Er [] [45,46,47]) f82 (CA 11 (pnv R) J0) (rsF out i) (rsO s):=by
 have l:Z (pnv s.pend)=Z s.pend:=by simp
 intro m;induction m with
 |zero=>
  intro i out q o b a;rw[Ae o_]at a;have a:out=R:=a;subst a;exact tA
 |succ m t=>
  intro i out q o b a;have c:i<Z s.pend:=o_;rw[Ac c,Ao]at a;have n:=uY c;have g:=d _ (Av c);generalize s.pend[i]=x at a n g;have f:Z (pnv out)=Z out:=by simp
  have hp:=vK (ltP s) out x
  have j:=aRh s h d (CA 11 (pnv R) J0) x i o_ n g out o_ b (λK u r=>by
   have e:(pnv out).take K++[x.av]++(pnv out).drop K=pnv (lJ (ltP s) out x):=by unfold lJ;rw[<-r];simp
   rw[e]
   exact t (i+1) (lJ (ltP s) out x) o_ (by have:=hp.length_eq;simp at this;omega) (λp k=>by
    rcases Ba.1 (hp.mem_iff.1 k)with rfl|k
    .exact g
    .exact b p k) a) (Z out) (Bc _) rfl
  refine gV ?_;refine aT λh=>?_;rw[<-f]at j;exact zW
def aEX(s:Sta)(h:OrdOK s)(hl:Z s.pend<=1000000)(a:∀p∈s.pend,0<=p.at'):bj 82 [s.av] (CA 11 (pnv (rA s)) J0):=by refine gA (Er [] [45,46,47]) f82 λ_=>gV ?_;refine To.part [1,3,4] [0] rfl rfl rfl ?_;refine To.looseF ?_;exact aOH s h hl a (rA s) (Z s.pend) 0 [] o_ rfl (λp hp=>by cases hp) rfl
def uS(l:ba):Z (pnv l)=Z l:=by simp
def Z2(A B:ba)(x:Pn){i:Nat}(a:i=Z A):(pnv (A++x::B))[i]? =X x.av:=by subst a;simp
def DH(A M B:ba)(x y:Pn){i j:Nat}(a:i=Z A)(c:j=Z A+Z M+1):
  (pnv (A++x::(M++y::B)))[i]? =X x.av/\(pnv (A++x::(M++y::B)))[j]? =X y.av/\((pnv (A++x::(M++y::B))).set i y.av).set j x.av=pnv (A++y::(M++x::B))/\((pnv (A++x::(M++y::B))).set j x.av).set i y.av=pnv (A++y::(M++x::B)):=by
 have e:A++x::(M++y::B)=(A++x::M)++y::B:=by simp
 have b:((pnv (A++x::(M++y::B))).set i y.av).set j x.av=pnv (A++y::(M++x::B)):=by
  have h:=ZX A M B x y;have f:A++x::(M++[y])++B=A++x::(M++y::B):=by simp
  have d:A++[y]++M++x::B=A++y::(M++x::B):=by simp
  rw[f,d]at h;subst a c;rw[<-h];simp only[pnv,Gb]
 refine⟨Z2 _ _ _ a,by rw[e];exact Z2 _ _ _ q_,b,?_⟩;rw[List.set_comm _ _ o_];exact b
def oB(l:ba):Prop:=∀p∈l,0<=p.at'
def oB.perm{l m:ba}(h:l.Perm m)(a:oB l):oB m:=λp hp=>a p (h.mem_iff.2 hp)
abbrev bS(l:ba):aw:=[.row 0 11 104 (pnv l)]
abbrev isF(s:Sta)(a b i:Nat):au:=[(0,.row 0 0),(1,ii a),(2,ii b),(3,lS s),(8,ii i)]
def WY(s:Sta)(h:OrdOK s)(R:ba)(A T B:ba)(x:Pn)(a b i:Nat)(P:a=Z A)(Be:i=Z A+Z T)(hl:Z A+Z T+Z B<=1000000)(At:i<b)(V:b<=1000001)(M:0<=x.at')(As:oB T)
  (next:To (Er [] [37,39,40,41]) f324 (.full 1 (Io (GT [])) (bS R)) (BB f324 (isF s a b (i+1)) (bS (A++(lJ (ltP s) T x++B))))):∀(k:Nat),k<=Z T->nF (ltP s) x T (Z T)=nF (ltP s) x T k->
  To (Er [] [37,39,40,41]) f324 (.full 1 (Io (GT [])) (bS R)) (G0 (stk f324 1) (isF s a b i++[(9,ii ((Z A+k:Nat):Int))]) (bS (A++(T.take k++x::(T.drop k++B))))):=by
 intro k;induction k with
 |zero=>
  intro N f;have e:lJ (ltP s) T x++B=T.take 0++x::(T.drop 0++B):=by unfold lJ;rw[f];simp[nF]
  rw[e]at next
  generalize pnv (A++(T.take 0++x::(T.drop 0++B)))=L at*
  subst P;exact tA
 |succ k D=>
  intro N f;have g:k<Z T:=o_;have I:=As _ (Av g);have u:T.take (k+1)=T.take k++[T[k]]:=Hf g;have F:T.drop k=T[k]::T.drop (k+1):=Ac g;rw[aAH (Ab g)]at f;have Q:=yL s h x T[k] M I;have c:((Z A+(k+1):Nat):Int)-1=((Z A+k:Nat):Int):=o_;have z:A++(T.take (k+1)++x::(T.drop (k+1)++B))=(A++T.take k)++T[k]::([]++x::(T.drop (k+1)++B)):=by rw[u];simp only[Ag,Ca,Bi]
  obtain⟨q,t,_,p⟩:=DH (A++T.take k) [] (T.drop (k+1)++B) T[k] x (i:=Z A+k) (j:=Z A+(k+1)) q_ q_;have G:(A++T.take k)++x::([]++T[k]::(T.drop (k+1)++B))=A++(T.take k++x::(T.drop k++B)):=by rw[F];simp only[Ag,Ca,Bi]
  have K:Z (pnv ((A++T.take k)++T[k]::([]++x::(T.drop (k+1)++B))))=Z A+Z T+1+Z B:=by simp;omega
  rw[G]at p;rw[z];by_cases o:iL s x T[k]<0
  .have e:ltP s x T[k]=true:=bq o;rw[bu e]at f;have m:=D o_ f;dsimp only[bS]at m⊢;rw[<-p]at m;clear next D
   generalize iL s x T[k]=v at*
   generalize T[k]=y at*
   generalize pnv ((A++T.take k)++y::([]++x::(T.drop (k+1)++B)))=L at*
   obtain⟨j,n⟩:∃j,j=Z A+(k+1):=⟨_,rfl⟩
   obtain⟨l,d⟩:∃l,l=Z A+k:=⟨_,rfl⟩
   have J:j=l+1:=o_;have H:a<j:=o_;have w:j<Z L:=o_;have C:j<=1000000:=o_;rw[<-n]at c m t⊢;rw[<-d]at c m q;clear n d p z G u F K f;refine gV ?_;refine aT λh=>?_
   repeat' first|refine pA ?_|refine⟨j,rfl,?_⟩|refine⟨_,t,?_⟩|refine⟨l,c,?_⟩|refine⟨_,q,?_⟩|exact rfl|refine lA ?_ ?_|intro h
   refine .p Q ?_
   repeat' first|refine pA ?_|exact rfl|refine lA ?_ ?_|intro h
   repeat' first|refine pA ?_|refine⟨j,rfl,?_⟩|refine⟨_,t,?_⟩|refine⟨l,c,?_⟩|refine⟨_,q,?_⟩|refine Aa (by rw[Dj];omega) ?_|exact rfl|refine lA ?_ ?_|intro h
   refine To.part [0,1,2,3,8,9] [0] rfl rfl rfl ?_;rw[<-c]at m;exact m
  .have e:ltP s x T[k]=false:=bp o;rw[bt (by rw[e];decide)]at f;have r:lJ (ltP s) T x++B=T.take k++T[k]::([]++x::(T.drop (k+1)++B)):=by unfold lJ;rw[f,u];simp only[Ag,Ca,Bi]
   have r:A++(lJ (ltP s) T x++B)=(A++T.take k)++T[k]::([]++x::(T.drop (k+1)++B)):=by rw[r,Ag]
   rw[r]at next
   clear D;dsimp only[bS]at next⊢
   generalize iL s x T[k]=v at*
   generalize T[k]=y at*
   generalize pnv ((A++T.take k)++y::([]++x::(T.drop (k+1)++B)))=L at*
   obtain⟨j,n⟩:∃j,j=Z A+(k+1):=⟨_,rfl⟩
   obtain⟨l,d⟩:∃l,l=Z A+k:=⟨_,rfl⟩
   have J:j=l+1:=o_;have H:a<j:=o_;have w:j<Z L:=o_;have C:j<=1000000:=o_;rw[<-n]at c t⊢;rw[<-d]at c q;clear n d p z G u F K f r;exact tA
def aAB(s:Sta)(h:OrdOK s)(A B:ba)(a b:Nat)(j:a=Z A)(m:b<=1000000)(n:Z A+Z B<=1000000)(R:ba):∀(rest T:ba),R=A++(rest.foldl (lJ (ltP s)) T++B)->b=Z A+Z T+Z rest->b+Z B<=1000000->oB (T++rest)->
  To (Er [] [37,39,40,41]) f324 (.full 1 (Io (GT [])) (bS R)) (BB f324 (isF s a b (Z A+Z T)) (bS (A++(T++(rest++B)))))
 |[],T,hR,hlen,hB,hat=>by
  subst hR;dsimp only[bS,List.foldl_nil,Bi];generalize pnv (A++(T++B))=L at*
  obtain⟨i,g⟩:∃i,i=Z A+Z T:=⟨_,rfl⟩
  rw[<-g]at hlen⊢;have l:b=i:=by simpa using hlen
  exact tA
 |x::rest,T,hR,hlen,hB,hat=>by
  have f:b=Z A+Z T+Z rest+1:=by simp at hlen;omega
  have hp:=vK (ltP s) T x;have e:=hp.length_eq;have d:oB (lJ (ltP s) T x++rest):=hat.perm ((Fu.trans (Dt rest hp.symm)));have c:=aAB s h A B a b j m n R rest (lJ (ltP s) T x) hR (by simp at e;omega) hB d;have q:Z A+Z (lJ (ltP s) T x)=Z A+Z T+1:=by simp at e;omega
  rw[q]at c;have k:0<=x.at':=hat x s_;have o:oB T:=λp hp=>hat p (Dh _ hp);have c:=WY s h R A T (rest++B) x a b (Z A+Z T) j rfl q_ o_ o_ k o c (Z T) (Bc _) rfl;rw[List.take_length,List.drop_length,Bi]at c;dsimp only[bS]at c⊢;rw[Ca];generalize pnv (A++(T++x::(rest++B)))=L at*
  obtain⟨i,g⟩:∃i,i=Z A+Z T:=⟨_,rfl⟩
  rw[<-g]at c⊢;have r:i<b:=o_;exact tA
def WX(s:Sta)(h:OrdOK s)(A At B:ba)(a b:Nat)(l:a=Z A)(i:b=Z A+Z At)(j:b+Z B<=1000000)(c:oB At):
  ar 324 [.row 0 0,ii a,ii b,lS s] (bS (A++(At++B))) (Io (GT [])) (bS (A++(srt (ltP s) At++B))):=by
 have h1:To (Er [] [37,39,40,41]) f324 (.full 1 (Io (GT [])) (bS (A++(srt (ltP s) At++B)))) (BB f324 [(0,.row 0 0),(1,ii a),(2,ii b),(3,lS s),(8,ii ((a:Int)+1))] (bS (A++(At++B)))):=by
  cases At with
  |nil=>
   have e:srt (ltP s) []=[]:=rfl;rw[e];dsimp only[bS];generalize pnv (A++([]++B))=L at*
   simp at i;exact tA
  |cons x At=>
   simp at i;have:=aAB s h A B a b l o_ o_ (A++(srt (ltP s) (x::At)++B)) At [x] rfl q_ j c;have e:Z A+Z [x]=a+1:=by simp;omega
   rw[e]at this;exact this
 generalize A++(srt (ltP s) At++B)=R at*
 dsimp only[bS]at h1⊢;generalize pnv (A++(At++B))=L at*
 have k:a<=1000000:=o_;clear c;refine eA (Er [] [37,39,40,41]) f324 1 λ_=>gV ?_
 have d:inR Is ((a:Int)+1):=⟨by simp only[bV];omega,by simp only[aW];omega⟩
 refine Fk (Aa d ?_);exact zW
def PE(R Y:ba)(a b N:Nat)(cv:aa):∀(Be V An M:ba) (i:Nat),Z Be=Z V->i+Z Be=N->a+i=Z An->b+i=Z An+Z Be+Z M->Z An+Z Be+Z M+Z V+Z Y<=1000000->R=An++(V++(M++(Be++Y)))->
  To (Er [] [16,20,21,22,23]) f366 (.full 1 (Io (GT [])) (bS R)) (BB f366 [(0,.row 0 0),(1,ii a),(2,ii b),(3,ii N),(10,ii i)] (bS (An++(Be++(M++(V++Y))))))
 |[],[],An,M,i,hl,hN,hi,hj,hb,hR=>by
  subst hR;dsimp only[bS,Bi];generalize pnv (An++(M++Y))=L at*
  have n:i=N:=by simpa using hN
  subst n;exact tA
 |x::Be,y::V,An,M,i,hl,hN,hi,hj,hb,hR=>by
  have d:Z Be=Z V:=by simpa using hl
  simp at hN hj hb;have k:=PE R Y a b N cv Be V (An++[y]) (M++[x]) (i+1) d o_ q_ q_ q_ (by rw[hR];simp only[Ag,Ca,Bi]);obtain⟨q,r,o,_⟩:=DH An (Be++M) (V++Y) x y (i:=a+i) (j:=b+i) hi q_;have u:An++y::(Be++M++x::(V++Y))=(An++[y])++(Be++((M++[x])++(V++Y))):=by simp only[Ag,Ca,Bi]
  have s:An++(x::Be++(M++(y::V++Y)))=An++x::(Be++M++y::(V++Y)):=by simp only[Ag,Ca,Bi]
  rw[u]at o;rw[s];dsimp only[bS]at k⊢;rw[<-o]at k;have f:Z (pnv (An++x::(Be++M++y::(V++Y))))=Z An+Z Be+Z M+Z V+Z Y+2:=by simp;omega
  generalize pnv (An++x::(Be++M++y::(V++Y)))=L at*
  have hiN:i<N:=o_
  obtain⟨c,g⟩:∃c,c=a+i:=⟨_,rfl⟩
  obtain⟨j,e⟩:∃j,j=b+i:=⟨_,rfl⟩
  have m:(a:Int)+i=(c:Int):=o_;have l:(b:Int)+i=(j:Int):=o_;have v:j<Z L:=o_;have t:c<Z L:=o_;have w:j<=1000000:=o_;have p:c<=1000000:=o_;rw[<-g]at k q;rw[<-e]at k r;clear g e hj hi hb f s u hR hN hl d o;refine gV ?_;refine aT λh=>?_
  repeat' first|refine pA ?_|refine⟨j,l,?_⟩|refine⟨_,r,?_⟩|refine⟨c,m,?_⟩|refine⟨_,q,?_⟩|refine Aa (by rw[Dj];omega) ?_|exact rfl|refine lA ?_ ?_|intro h
  exact zW
def UX(s:Sta)(An Be M V Y:ba)(a b N:Nat)(h:a=Z An)(d:N=Z Be)(c:Z Be=Z V)(e:b=Z An+Z Be+Z M)(hl:Z An+Z Be+Z M+Z V+Z Y<=1000000):
  ar 366 [.row 0 0,ii a,ii b,ii N,lS s] (bS (An++(Be++(M++(V++Y))))) (Io (GT [])) (bS (An++(V++(M++(Be++Y))))):=by
 have h1:=PE _ Y a b N (lS s) Be V An M 0 c o_ o_ o_ hl rfl;dsimp only[bS]at h1⊢;generalize pnv (An++(Be++(M++(V++Y))))=L at*
 generalize pnv (An++(V++(M++(Be++Y))))=R at*
 refine eA (Er [] [16,20,21,22,23]) f366 1 λ_=>?_;exact zW
def aE6(s:Sta)(R:ba)(m:Nat)(hm:m<=1000000):∀(n:Nat) (An Be V Y:ba) (i j:Nat),i+j<=n->i=Z Be->j=Z V->0<i->0<j->m=Z An+i->Z An+Z Be+Z V+Z Y<=1000000->R=An++(V++(Be++Y))->
  To E f356 (.full 1 (Io (GT [])) (bS R)) (BB f356 [(0,.row 0 0),(2,ii m),(4,lS s),(10,ii i),(11,ii j)] (bS (An++(Be++(V++Y))))):=by
 intro n;induction n with
 |zero=>intro An Be V Y i j h;omega
 |succ n p=>
  intro An Be V Y i j B o t C D F hl g;by_cases r:i=j
  .have f:((m:Int)-i)=((m-i:Nat):Int):=o_;have h1:=UX s An Be [] V Y (m-i) m i o_ o o_ q_ q_;rw[Bi,Bi,<-f,<-g]at h1;have A:((i:Int) !=(j:Int))=false:=by rw[r];simp
   dsimp only[bS]at h1⊢;generalize pnv (An++(Be++(V++Y)))=L at*
   generalize pnv R=K at*
   clear g hl p;exact tA
  .have A:((i:Int) !=(j:Int))=true:=by simp;omega
   by_cases z:j<i
   .obtain ⟨d,a,rfl,e⟩:∃d a,Be=d++a/\Z d=j:=⟨Be.take j,Be.drop j,(Bl j Be).symm,by simp;omega⟩
    have w:i=j+Z a:=by rw[o,Ah,e]
    have f:((m:Int)-i)=((m-i:Nat):Int):=o_;have k:((i:Int)-j)=((i-j:Nat):Int):=o_;rw[Ah]at hl;have h1:=UX s An d a V Y (m-i) m j o_ e.symm o_ o_ o_;have l:=p (An++V) a d Y (i-j) j o_ o_ o_ o_ o_ (by rw[Ah];omega) (by rw[Ah];omega) (by rw[g];simp only[Ag]);rw[<-f]at h1;rw[<-k,Ag]at l;rw[Ag d a];dsimp only[bS]at h1 l⊢;generalize pnv (An++(d++(a++(V++Y))))=L at*
    generalize pnv (An++(V++(a++(d++Y))))=K at*
    have u:i<=1000000:=o_;clear g hl p f k o t w e;exact tA
   .obtain ⟨b,c,rfl,q⟩:∃b c,V=b++c/\Z c=i:=⟨V.take (j-i),V.drop (j-i),(Bl (j-i) V).symm,by simp;omega⟩
    have v:j=Z b+i:=by rw[t,Ah,q]
    have f:((m:Int)-i)=((m-i:Nat):Int):=o_;have k:((j:Int)-i)=((j-i:Nat):Int):=o_;have x:((m:Int)+j-i)=((m+(j-i):Nat):Int):=o_;rw[Ah]at hl;have h1:=UX s An Be b c Y (m-i) (m+(j-i)) i o_ o o_ o_ o_;have l:=p An c b (Be++Y) i (j-i) o_ o_ o_ o_ o_ o_ (by rw[Ah];omega) (by rw[g];simp only[Ag]);rw[<-f,<-x]at h1;rw[<-k]at l;rw[Ag b c];dsimp only[bS]at h1 l⊢;generalize pnv (An++(Be++(b++(c++Y))))=L at*
    generalize pnv (An++(c++(b++(Be++Y))))=K at*
    have y:j<=1000000:=o_;have u:i<=1000000:=o_;clear g hl p f k x o t v q;exact tA
def aOI(s:Sta)(An Be V Y:ba)(a m b:Nat)(o:a=Z An)(hm:m=a+Z Be)(n:b=m+Z V)(h:Be≠[])(e:V≠[])(hl:b+Z Y<=1000000):
  ar 356 [.row 0 0,ii a,ii m,ii b,lS s] (bS (An++(Be++(V++Y)))) (Io (GT [])) (bS (An++(V++(Be++Y)))):=by
 have l:=Dp.2 h;have p:=Dp.2 e;have h1:=aE6 s _ m o_ _ An Be V Y (m-a) (b-m) (Bc _) o_ o_ o_ o_ o_ o_ rfl;have k:(m:Int)-a=((m-a:Nat):Int):=o_;have c:(b:Int)-m=((b-m:Nat):Int):=o_;rw[<-k,<-c]at h1;dsimp only[bS]at h1⊢;generalize pnv (An++(Be++(V++Y)))=L at*
 generalize pnv (An++(V++(Be++Y)))=R at*
 have d:a<=m:=o_;have j:m<=b:=o_;have i:b<=1000000:=o_;refine eA E f356 1 λ_=>?_;exact zW
def NI(lo a:Nat):((lo:Int)+a).fdiv (2^Cv 1)=(((lo+a)/2:Nat):Int):=by have e:(2:Int)^Cv 1=2:=rfl;rw[e,Ea _ d_];omega
def aAJ{c:Nat}(h:c<=1000000):inR Is (c:Int):=Aa (by simp only[bV];omega) (by simp only[aW];omega)
def LR{L:ba}{h:Nat}{y:Pn}(a:L[h]? =X y):(pnv L)[h]? =X y.av:=by simp[a]
def aOx(s:Sta)(hs:OrdOK s)(L:ba)(g:oB L)(B:Z L<=1000000)(a:Nat)(u:Pn)(m:L[a]? =X u)(P:Nat->Bool)(n:∀h y,L[h]? =X y->P h=ltP s y u)(R:ba)(k:Nat)
  (next:To (Er [] [61,63,64,65,113,115,116,117]) f325 (.full 1 (Io (GT [])) (bS R)) (G0 (stk f325 1) [(0,.row 0 0),(10,ii k),(13,ii a)] (bS L))):∀(f lo d:Nat),d-lo<=f->lo<=d->d<=Z L->bis P f lo d=k->
  To (Er [] [61,63,64,65,113,115,116,117]) f325 (.full 1 (Io (GT [])) (bS R)) (BB f325 [(0,.row 0 0),(1,ii a),(4,lS s),(10,ii lo),(11,ii d)] (bS L))
 |0,lo,d,hf,h1,h2,b=>by
  have e:lo=d:=o_;subst e;have b:lo=k:=b;subst b;exact zqda2
 |f+1,lo,d,hf,h1,h2,b=>by
  by_cases o:lo<d
  .unfold bis at b;rw[bu o]at b
   obtain⟨c,C⟩:∃c,c=(lo+d)/2:=⟨_,rfl⟩
   rw[<-C]at b;have i:c<Z L:=o_;have w:L[c]? =X L[c]:=Ab i;have j:=n c _ w;have l:=yL s hs L[c] u (g _ (Av i)) (g _ (Ax m));have z:=LR w;have A:=LR m;have t:a<Z L:=(Ad.1 m).1;have hm:=NI lo d;rw[<-C]at hm;have x:=aAJ (show c<=1000000 by omega);have D:c<Z (pnv L):=by rw[uS];exact i
   have F:a<Z (pnv L):=by rw[uS];exact t
   generalize L[c]=y at*
   cases p:P c with
   |true=>
    rw[p,bu rfl]at b;have q:iL s y u<0:=bn (j.symm.trans p);have r:=aOx s hs L g B a u m P n R k next f (c+1) d o_ o_ h2 b
    generalize iL s y u=v at*
    dsimp only[bS]at r⊢;generalize pnv L=K at*
    clear n next
    refine gV ?_;refine aT λh=>?_
    repeat' first|refine pA ?_|(rw[hm];refine Fk (Aa x ?_))|refine⟨c,rfl,?_⟩|refine⟨_,z,?_⟩|refine⟨a,rfl,?_⟩|refine⟨_,A,?_⟩|refine .p l ?_|exact rfl|refine lA ?_ ?_|intro h
    exact zW
   |false=>
    rw[p,bt d_]at b;have q:¬ iL s y u<0:=bm (j.symm.trans p);have r:=aOx s hs L g B a u m P n R k next f lo c o_ o_ o_ b
    generalize iL s y u=v at*
    dsimp only[bS]at r⊢;generalize pnv L=K at*
    clear n next
    refine gV ?_;refine aT λh=>?_
    repeat' first|refine pA ?_|(rw[hm];refine Fk (Aa x ?_))|refine⟨c,rfl,?_⟩|refine⟨_,z,?_⟩|refine⟨a,rfl,?_⟩|refine⟨_,A,?_⟩|refine .p l ?_|exact rfl|refine lA ?_ ?_|intro h
    exact zW
  .unfold bis at b;rw[bt o]at b;subst b;exact zqda2
def mv1(R W:ba)(u:Pn):∀(V A:ba) (i k:Nat),k=Z A->i=Z A+Z V+1->Z A+Z V+Z W<=999999->R=A++(V++u::W)->
  To (Er [] [61,63,64,65,113,115,116,117]) f325 (.full 1 (Io (GT [])) (bS R)) (G0 (stk f325 1) [(0,.row 0 0),(10,ii i),(13,ii k)] (bS (A++u::(V++W))))
 |[],A,i,k,hk,hi,hl,hR=>by
  subst hR;dsimp only[bS,Bi];generalize pnv (A++u::W)=L at*
  have e:i<=1000000:=o_;have d:i=k+1:=by simp at hi;omega
  exact tA
 |y::V,A,i,k,hk,hi,hl,hR=>by
  simp at hi hl;have c:=mv1 R W u V (A++[y]) i (k+1) q_ q_ q_ (by rw[hR];simp only[Ag,Ca,Bi]);obtain⟨n,l,f,_⟩:=DH A [] (V++W) u y (i:=k) (j:=k+1) hk q_;have m:A++y::([]++u::(V++W))=(A++[y])++u::(V++W):=by simp only[Ag,Ca,Bi]
  have g:A++u::(y::V++W)=A++u::([]++y::(V++W)):=by simp only[Ag,Ca,Bi]
  rw[m]at f;rw[g];dsimp only[bS]at c⊢;rw[<-f]at c;have b:Z (pnv (A++u::([]++y::(V++W))))=Z A+Z V+Z W+2:=by simp;omega
  generalize pnv (A++u::([]++y::(V++W)))=L at*
  obtain⟨j,q⟩:∃j,j=k+1:=⟨_,rfl⟩
  rw[<-q]at c l;have a:(k:Int)+1=(j:Int):=o_;have o:j<Z L:=o_;have p:k<Z L:=o_;have r:j<=1000000:=o_;have s:k<=1000000:=o_;have e:i<=1000000:=o_;have d:k+1<i:=o_;rw[<-a]at c;clear b g m hR hl f hk hi;refine gV ?_
  repeat' first|refine pA ?_|refine aT λh=>?_|refine⟨j,a,?_⟩|refine⟨_,l,?_⟩|refine⟨k,rfl,?_⟩|refine⟨_,n,?_⟩|refine Aa (by rw[Dj];omega) ?_|exact rfl|refine lA ?_ ?_|intro h
  exact zW
def aOw(s:Sta)(hs:OrdOK s)(L:ba)(i:oB L)(F:Z L<=1000000)(m:Nat)(u:Pn)(o:L[m]? =X u)(P:Nat->Bool)(p:∀h y,L[h]? =X y->P h= !ltP s u y)(R:ba)(k:Nat)
  (next:To (Er [] [61,63,64,65,113,115,116,117]) f325 (.full 1 (Io (GT [])) (bS R)) (G0 (stk f325 3) [(0,.row 0 0),(14,ii k),(17,ii m)] (bS L))):∀(f lo d:Nat),d-lo<=f->lo<=d->d<=Z L->bis P f lo d=k->
  To (Er [] [61,63,64,65,113,115,116,117]) f325 (.full 1 (Io (GT [])) (bS R)) (G0 (stk f325 2) [(0,.row 0 0),(2,ii m),(4,lS s),(14,ii lo),(15,ii d)] (bS L))
 |0,lo,d,hf,h1,h2,a=>by
  have e:lo=d:=o_;subst e;have a:lo=k:=a;subst a;exact zqda2
 |f+1,lo,d,hf,h1,h2,a=>by
  by_cases q:lo<d
  .unfold bis at a;rw[bu q]at a
   obtain⟨c,G⟩:∃c,c=(lo+d)/2:=⟨_,rfl⟩
   rw[<-G]at a;have j:c<Z L:=o_;have A:L[c]? =X L[c]:=Ab j;have g:=p c _ A;have n:=yL s hs u L[c] (i _ (Ax o)) (i _ (Av j));have C:=LR A;have D:=LR o;have x:m<Z L:=(Ad.1 o).1;have hm:=NI lo d;rw[<-G]at hm;have B:=aAJ (show c<=1000000 by omega);have H:c<Z (pnv L):=by rw[uS];exact j
   have I:m<Z (pnv L):=by rw[uS];exact x
   generalize L[c]=y at*
   cases r:P c with
   |true=>
    rw[r,bu rfl]at a;have l:ltP s u y=false:=by rw[r]at g;simpa using g.symm
    have t:¬ iL s u y<0:=bm l;have z:(!decide (iL s u y<0))=true:=congrArg (λb=>!b) l;have w:=aOw s hs L i F m u o P p R k next f (c+1) d o_ o_ h2 a
    clear l;generalize iL s u y=v at*
    dsimp only[bS]at w⊢;generalize pnv L=K at*
    clear p next
    refine gV ?_;refine aT λh=>?_
    repeat' first|refine pA ?_|(rw[hm];refine Fk (Aa B ?_))|refine⟨m,rfl,?_⟩|refine⟨_,D,?_⟩|refine⟨c,rfl,?_⟩|refine⟨_,C,?_⟩|refine .p n ?_|refine Aa (λ_=>?_) (λh=>bv (z.symm.trans h) d_)|exact rfl|refine lA ?_ ?_|intro h
    exact zW
   |false=>
    rw[r,bt d_]at a;have l:ltP s u y=true:=by rw[r]at g;simpa using g.symm
    have t:iL s u y<0:=bn l;have z:(!decide (iL s u y<0))=false:=congrArg (λb=>!b) l;have w:=aOw s hs L i F m u o P p R k next f lo c o_ o_ o_ a
    clear l;generalize iL s u y=v at*
    dsimp only[bS]at w⊢;generalize pnv L=K at*
    clear p next
    refine gV ?_;refine aT λh=>?_
    repeat' first|refine pA ?_|(rw[hm];refine Fk (Aa B ?_))|refine⟨m,rfl,?_⟩|refine⟨_,D,?_⟩|refine⟨c,rfl,?_⟩|refine⟨_,C,?_⟩|refine .p n ?_|refine Aa (λh=>bv (z.symm.trans h) d_) (λ_=>?_)|exact rfl|refine lA ?_ ?_|intro h
    exact zW
  .unfold bis at a;rw[bt q]at a;subst a;exact zqda2
def mv2(R:ba)(u:Pn)(A:ba)(i:Nat)(w:i=Z A):∀(n:Nat) (V W:ba) (k:Nat),Z V=n->k=Z A+n->Z A+n+Z W<=999999->R=A++u::(V++W)->
  To (Er [] [61,63,64,65,113,115,116,117]) f325 (.full 1 (Io (GT [])) (bS R)) (G0 (stk f325 3) [(0,.row 0 0),(14,ii i),(17,ii k)] (bS (A++(V++u::W)))):=by
 intro n;induction n with
 |zero=>
  intro V W k b o hl e;cases Ch.1 b;subst e;dsimp only[bS,Bi];generalize pnv (A++u::W)=L at*
  have f:k=i:=o_;have B:i<=1000000:=o_;exact tA
 |succ n r=>
  intro V W k b o hl e
  obtain⟨V,y,rfl⟩:∃C y,V=C++[y]:=⟨V.dropLast,V.getLast (by intro h;rw[h]at b;cases b),(Kw _).symm⟩
  have l:Z V=n:=by simpa using b
  have d:=r V (y::W) (k-1) l o_ q_ (by rw[e];simp only[Ag,Ca,Bi]);obtain⟨m,x,_,g⟩:=DH (A++V) [] W y u (i:=k-1) (j:=k) q_ q_;have s:A++V++u::([]++y::W)=A++(V++u::(y::W)):=by simp only[Ag,Ca,Bi]
  have p:A++(V++[y]++u::W)=A++V++y::([]++u::W):=by simp only[Ag,Ca,Bi]
  rw[s]at g;rw[p];dsimp only[bS]at d⊢;rw[<-g]at d;have c:Z (pnv (A++V++y::([]++u::W)))=Z A+Z V+Z W+2:=by simp;omega
  generalize pnv (A++V++y::([]++u::W))=L at*
  obtain⟨j,q⟩:∃j,j=k-1:=⟨_,rfl⟩
  rw[<-q]at d m;have a:(k:Int)-1=(j:Int):=o_;have v:j<Z L:=o_;have z:k<Z L:=o_;have D:k<=1000000:=o_;have t:k=j+1:=o_;have f:i<k:=o_;rw[<-a]at d;clear c p s e hl g o w r q;refine gV ?_
  repeat' first|refine pA ?_|refine aT λh=>?_|refine⟨j,a,?_⟩|refine⟨_,m,?_⟩|refine⟨k,rfl,?_⟩|refine⟨_,x,?_⟩|refine Aa (by rw[Dj];omega) ?_|exact rfl|refine lA ?_ ?_|intro h
  exact zW
abbrev aJ7(K:az):aw:=[.row 0 11 104 K]
def Stp(f:Nat)(s:Sta)(x y z:Nat)(K a:az):Prop:=
 (x<y/\y<z/\aA Tryz.prog f [.row 0 0,ii x,ii y,ii z,lS s] (aJ7 K) (Io (GT [])) (aJ7 a))\/(x<y/\¬ y<z/\K=a)\/(¬ x<y/\K=a)
abbrev aJz(s:Sta)(a m b mid n c d:Nat)(p:Int):au:=[(0,.row 0 0),(1,ii a),(2,ii m),(3,ii b),(4,lS s),(18,ii mid),(19,ii n),(20,ii c),(21,ii d),(22,ii p)]
set_option maxHeartbeats 8000000 in
def aEn(s:Sta)(a m b mid n st c:Nat)(p:Int)(B:n<=2000000)(u:n=c+st)(k h d g:az)(r:Stp 356 s st m c k h)(v:Stp 325 s a st mid h d)(z:Stp 325 s mid c b d g):
  To (Er [] [61,63,64,65,113,115,116,117]) f325 (.full 1 (Io (GT [])) (aJ7 g)) (G0 (stk f325 4) (aJz s a m b mid n st st p) (aJ7 k)):=by
 obtain⟨i,t⟩:∃i:Int,i=(c:Int):=⟨_,rfl⟩
 have l:((n:Int)-st)=(c:Int):=o_;rcases r with⟨e,q,w⟩|⟨e,q,rfl⟩|⟨e,rfl⟩<;>rcases v with⟨o,A,C⟩|⟨o,A,rfl⟩|⟨o,rfl⟩<;>rcases z with⟨j,x,y⟩|⟨j,x,rfl⟩|⟨j,rfl⟩
 all_goals (try rw[<-l]at w)
 all_goals (try rw[<-l]at y)
 all_goals (try (exfalso;omega))
 all_goals
  exact tA
def aOv(s:Sta)(hs:OrdOK s)(L:ba)(j:oB L)(Q:Z L<=1000000)(a m b mid n p o l:Nat)(P:Nat->Bool)(u:∀c,o<=c->c<l->c<=p/\∃y z,L[p-c]? =X y/\L[c]? =X z/\P c= !ltP s y z)(R:ba)(k:Nat)
  (next:To (Er [] [61,63,64,65,113,115,116,117]) f325 (.full 1 (Io (GT [])) (bS R)) (G0 (stk f325 4) (aJz s a m b mid n k k p) (bS L))):∀(f lo g:Nat),g-lo<=f->lo<=g->o<=lo->g<=l->bis P f lo g=k->
  To (Er [] [61,63,64,65,113,115,116,117]) f325 (.full 1 (Io (GT [])) (bS R)) (G0 (stk f325 4) (aJz s a m b mid n lo g p) (bS L))
 |0,lo,g,hf,h1,h2,h3,d=>by
  have e:lo=g:=o_;subst e;have d:lo=k:=d;subst d;exact next
 |f+1,lo,g,hf,h1,h2,h3,d=>by
  by_cases w:lo<g
  .unfold bis at d;rw[bu w]at d
   obtain⟨c,At⟩:∃c,c=(lo+g)/2:=⟨_,rfl⟩
   rw[<-At]at d;obtain⟨W,y,z,M,I,i⟩:=u c o_ o_;have t:=yL s hs y z (j _ (Ax M)) (j _ (Ax I));have F:=LR M;have As:=LR I;have C:c<Z L:=(Ad.1 I).1;have A:p-c<Z L:=(Ad.1 M).1;have hm:=NI lo g;rw[<-At]at hm;have N:=aAJ (show c<=1000000 by omega);have T:c<Z (pnv L):=by rw[uS];exact C
   have D:p-c<Z (pnv L):=by rw[uS];exact A
   obtain⟨q,V⟩:∃q,q=p-c:=⟨_,rfl⟩
   have x:(p:Int)-c=(q:Int):=o_;rw[<-V]at F D A;have Be:p<=2000000:=o_;cases B:P c with
   |true=>
    rw[B,bu rfl]at d;have r:ltP s y z=false:=by rw[B]at i;simpa using i.symm
    have G:¬ iL s y z<0:=bm r;have J:(!decide (iL s y z<0))=true:=congrArg (λb=>!b) r;have H:=aOv s hs L j Q a m b mid n p o l P u R k next f (c+1) g o_ o_ o_ h3 d
    clear r;generalize iL s y z=v at*
    dsimp only[bS]at H⊢;generalize pnv L=K at*
    clear u next
    refine gV ?_;refine aT λh=>?_
    repeat' first|refine pA ?_|(rw[hm];refine Fk (Aa N ?_))|refine⟨q,x,?_⟩|refine⟨_,F,?_⟩|refine⟨c,rfl,?_⟩|refine⟨_,As,?_⟩|refine .p t ?_|refine Aa (λ_=>?_) (λh=>bv (J.symm.trans h) d_)|exact rfl|refine lA ?_ ?_|intro h
    exact zW
   |false=>
    rw[B,bt d_]at d;have r:ltP s y z=true:=by rw[B]at i;simpa using i.symm
    have G:iL s y z<0:=bn r;have J:(!decide (iL s y z<0))=false:=congrArg (λb=>!b) r;have H:=aOv s hs L j Q a m b mid n p o l P u R k next f lo c o_ o_ h2 o_ d
    clear r;generalize iL s y z=v at*
    dsimp only[bS]at H⊢;generalize pnv L=K at*
    clear u next
    refine gV ?_;refine aT λh=>?_
    repeat' first|refine pA ?_|(rw[hm];refine Fk (Aa N ?_))|refine⟨q,x,?_⟩|refine⟨_,F,?_⟩|refine⟨c,rfl,?_⟩|refine⟨_,As,?_⟩|refine .p t ?_|refine Aa (λh=>bv (J.symm.trans h) d_) (λ_=>?_)|exact rfl|refine lA ?_ ?_|intro h
    exact zW
  .unfold bis at d;rw[bt w]at d;subst d;have e:lo=g:=o_;subst e;exact next
def thP(s:Sta)(L:ba)(p c:Nat):Bool:=match L[p-c]?,L[c]? with
 |some y,some z=>!ltP s y z
 |_,_=>S
def P4(An A:ba)(i:Nat)(h:Z An<=i):(An++A)[i]? =A[i-Z An]?:=Ar h
def aTo(s:Sta)(An Be V Y:ba)(a m b mid n lo d:Nat)(M:a=Z An)(hm:m=a+Z Be)(W:b=m+Z V)(hU:0<Z Be)(Q:0<Z V)(t:mid=(a+b)/2)(P:n=mid+m)
  (j:lo=if mid<m then n-b else a) (i:d=if mid<m then mid else m) (L:Tot (ltP s) (Be++V)) (k:Nat) (J:bis (thP s (An++(Be++(V++Y))) (n-1)) (d-lo) lo d=k):
  (∀c,lo<=c->c<d->c<=n-1/\∃y z,(An++(Be++(V++Y)))[n-1-c]? =X y/\(An++(Be++(V++Y)))[c]? =X z/\thP s (An++(Be++(V++Y))) (n-1) c= !ltP s y z)/\lo<=d/\a<=k/\k<=m/\m<=n-k/\n-k<=b/\k<=n/\
  (k-a=0\/Z V<=n-k-m\/ltO (ltP s) Be[k-a-1]? V[n-k-m]?)/\(n-k-m=0\/Z Be<=k-a\/ltO (ltP s) V[n-k-m-1]? Be[k-a]?):=by
 have N:∀c,a<=c->c<m->(An++(Be++(V++Y)))[c]? =Be[c-a]?:=λc h1 e=>by rw[P4 _ _ _ o_,Ai o_,M]
 have I:∀c,m<=c->c<b->(An++(Be++(V++Y)))[c]? =V[c-m]?:=λc h1 e=>by rw[P4 _ _ _ o_,P4 _ _ _ o_,Ai o_];congr 1;omega
 have l:lo<=d/\a<=lo/\d<=m/\n-d<=b/\m<=n-d/\n-lo<=b/\d<=n-1+1/\(lo=a\/n-lo=b)/\(d=m\/n-d=m):=by
  by_cases h:mid<m
  .rw [bu h]at j i;omega
  .rw [bt h]at j i;omega
 obtain⟨A,Am,R,T,l5,At,l7,u,H⟩:=l;have f:∀c,lo<=c->c<d->∃y z,V[n-1-c-m]? =X y/\Be[c-a]? =X z/\(An++(Be++(V++Y)))[n-1-c]? =X y/\(An++(Be++(V++Y)))[c]? =X z/\thP s (An++(Be++(V++Y))) (n-1) c= !ltP s y z:=λc h1 e=>by have C:V[n-1-c-m]? =X V[n-1-c-m]:=Ab o_;have x:Be[c-a]? =X Be[c-a]:=Ab o_;have w:=(I (n-1-c) o_ o_).trans C;have r:=(N c o_ o_).trans x;refine⟨_,_,C,x,w,r,?_⟩;unfold thP;rw[w,r]
 have p:∀y∈V,∀z∈Be,ltP s y z=S->ltP s z y=true:=λy G z hz h=>by
  rcases(Cc.1 L).2.2 z hz y G with q|q
  .exact q
  .rw [q]at h;cases h
 obtain⟨F,As,B,v⟩:=OL (thP s (An++(Be++(V++Y))) (n-1)) (d-lo) lo d (Bc _) A;rw[J]at F As B v;refine⟨λc h1 e=>⟨by omega,?_⟩,A,by omega,by omega,by omega,by omega,by omega,?_,?_⟩
 .obtain ⟨y,z,_,_,h3,K,g⟩:=f c h1 e;exact⟨y,z,h3,K,g⟩
 .rcases B with h|h
  .rcases u with e|e
   .left;omega
   .right;left;omega
  .by_cases D:k=lo
   .rcases u with e|e
    .left;omega
    .right;left;omega
   .obtain ⟨y,z,h1,e,_,_,g⟩:=f (k-1) o_ o_;rw[h]at g;have o:ltP s y z=false:=by simpa using g.symm
    right;right;refine⟨z,y,?_,?_,p y (Ax h1) z (Ax e) o⟩
    .rw [<-e];congr 1;omega
    .rw [<-h1];congr 1;omega
 .by_cases D:k=d
  .rcases H with e|e
   .right;left;omega
   .left;omega
  .obtain ⟨y,z,h1,e,_,_,g⟩:=f k o_ o_;rcases v with h|h
   .exact bv h D
   .rw [h]at g;have o:ltP s y z=true:=by simpa using g.symm
    right;right;refine⟨y,z,?_,?_,o⟩
    .rw [<-h1];congr 1;omega
    .rw [<-e]
def aSt(s:Sta)(V:ba)(u:Pn)(P:Nat->Bool)(o m b k:Nat)(p:b=m+Z V)(l:Up (ltP s) V)(n:Tot (ltP s) (u::V))(d:∀h y,m<=h->V[h-m]? =X y->(P h=O->ltP s y u=O)/\(P h=S->ltP s u y=O))(j:bis P (b-m) m b=k):
  m<=k/\k<=b/\V.take (k-m)++u::V.drop (k-m)=srt (ltP s) (u::V):=by
 obtain⟨a,i,g,f⟩:=OL P (b-m) m b (Bc _) o_;rw[j]at a i g f;refine⟨a,i,aPp (iO s) l n ?_ ?_⟩
 .by_cases c:k=m
  .left;omega
  .have e:V[k-m-1]? =X V[k-m-1]:=Ab o_;rcases g with h|h
   .exact bv h c
   .exact .inr ⟨_,_,e,rfl,(d (k-1) _ o_ (by rw[<-e];congr 1;omega)).1 h⟩
 .by_cases c:k=b
  .left;omega
  .have e:V[k-m]? =X V[k-m]:=Ab o_;rcases f with h|h
   .exact bv h c
   .exact .inr ⟨_,_,rfl,e,(d k _ a e).2 h⟩
def aIO(An A:ba)(u:Pn){a:Nat}(b:a=Z An):(An++u::A)[a]? =X u:=by subst b;simp
def aJy(s:Sta)(hs:OrdOK s)(An V Y:ba)(u:Pn)(a m b:Nat)(w:a=Z An)(hm:m=a+1)(C:b=m+Z V)(hl:b+Z Y<=999000)(c:oB (An++(u::(V++Y))))(v:Up (ltP s) V)(n:Tot (ltP s) (u::V)):
  ar 325 [.row 0 0,ii a,ii m,ii b,lS s] (bS (An++(u::(V++Y)))) (Io (GT [])) (bS (An++(srt (ltP s) (u::V)++Y))):=by
 have r:∀h,m<=h->h<b->(An++(u::(V++Y)))[h]? =V[h-m]?:=λh h1 i=>by rw[P4 _ _ _ o_,show h-Z An=(h-m)+1 by omega,Gf,Ai o_]
 obtain⟨P,l⟩:∃P:Nat->Bool,∀h y,(An++(u::(V++Y)))[h]? =X y->P h=ltP s y u:=⟨λh=>match (An++(u::(V++Y)))[h]? with|some y=>ltP s y u|none=>S,λh y e=>by simp only[e]⟩
 obtain⟨k,j⟩:∃k,bis P (b-m) m b=k:=⟨_,rfl⟩
 have d:∀y∈V,ltP s u y=O\/ltP s y u=true:=λy z=>(Bp.1 n).1 y z
 obtain⟨G,I,x⟩:=aSt s V u P 0 m b k C v n (λh y h1 i=>by
  have o:h<b:=by have:=(Ad.1 i).1;omega
  rw[l h y ((r h h1 o).trans i)];refine⟨id,λh3=>?_⟩;rcases d y (Ax i)with q|q
  .exact q
  .rw [q]at h3;cases h3) j
 have p:An++(srt (ltP s) (u::V)++Y)=An++(V.take (k-m)++u::(V.drop (k-m)++Y)):=by rw[<-x];simp only[Ag,Ca]
 have t:An++(u::(V++Y))=An++u::(V.take (k-m)++(V.drop (k-m)++Y)):=by rw[<-Ag (V.take _),Bl]
 have n1:=mv1 _ (V.drop (k-m)++Y) u (V.take (k-m)) An k a w q_ q_ p;rw[<-t]at n1;have n2:=aOx s hs _ c q_ a u (aIO An _ u w) P l _ k n1 _ m b (Bc _) o_ q_ j;have H:((m:Int)-a==1)=true:=by rw[hm];simp;omega
 dsimp only[bS]at n2⊢;generalize pnv (An++(u::(V++Y)))=L at*
 generalize pnv (An++(srt (ltP s) (u::V)++Y))=R at*
 have F:m<=b:=o_;have D:b<=1000000:=o_;have B:a<=m:=o_;clear n1 p t x r l d c n v j;exact zqda7
def aJx(s:Sta)(hs:OrdOK s)(An Be Y:ba)(v:Pn)(a m b:Nat)(I:a=Z An)(hm:m=a+Z Be)(F:b=m+1)(C:Z Be≠1)(hl:b+Z Y<=999000)(i:oB (An++(Be++(v::Y))))(x:Up (ltP s) Be)(c:Tot (ltP s) (Be++[v])):
  ar 325 [.row 0 0,ii a,ii m,ii b,lS s] (bS (An++(Be++(v::Y)))) (Io (GT [])) (bS (An++(srt (ltP s) (Be++[v])++Y))):=by
 have n:srt (ltP s) (Be++[v])=srt (ltP s) (v::Be):=aEw (iO s) c;rw[n];have c:Tot (ltP s) (v::Be):=c.perm (Dv);have u:∀h,a<=h->h<m->(An++(Be++(v::Y)))[h]? =Be[h-a]?:=λh h1 l=>by rw[P4 _ _ _ o_,Ai o_,I]
 obtain⟨P,p⟩:∃P:Nat->Bool,∀h y,(An++(Be++(v::Y)))[h]? =X y->P h= !ltP s v y:=⟨λh=>match (An++(Be++(v::Y)))[h]? with|some y=>!ltP s v y|none=>S,λh y e=>by simp only[e]⟩
 obtain⟨k,o⟩:∃k,bis P (m-a) a m=k:=⟨_,rfl⟩
 have j:∀y∈Be,ltP s v y=O\/ltP s y v=true:=λy B=>(Bp.1 c).1 y B
 obtain⟨K,N,z⟩:=aSt s Be v P 0 a m k hm x c (λh y h1 l=>by
  have r:h<m:=by have:=(Ad.1 l).1;omega
  rw[p h y ((u h h1 r).trans l)];refine⟨λh3=>?_,λh3=>by simpa using h3⟩;rcases j y (Ax l)with q|q
  .rw [q]at h3;cases h3
  .exact q) o
 have t:An++(srt (ltP s) (v::Be)++Y)=(An++Be.take (k-a))++v::(Be.drop (k-a)++Y):=by rw[<-z];simp only[Ag,Ca]
 have w:An++(Be++(v::Y))=(An++Be.take (k-a))++(Be.drop (k-a)++v::Y):=by rw[Ag,<-Ag (Be.take _),Bl]
 have n1:=mv2 _ v (An++Be.take (k-a)) k q_ _ (Be.drop (k-a)) Y m rfl q_ q_ t;rw[<-w]at n1;have d:(An++(Be++(v::Y)))[m]? =X v:=by rw[<-Ag];exact aIO (An++Be) Y v q_
 have n2:=aOw s hs _ i q_ m v d P p _ k n1 _ a m (Bc _) o_ q_ o;have M:((m:Int)-a==1)=false:=by rw[hm];simp;omega
 have J:((b:Int)-m==1)=true:=by rw[F];simp;omega
 dsimp only[bS]at n2⊢;generalize pnv (An++(Be++(v::Y)))=L at*
 generalize pnv (An++(srt (ltP s) (v::Be)++Y))=R at*
 have H:m<=b:=o_;have G:b<=1000000:=o_;have D:a<=m:=o_;clear n1 t w z u p j i c x o d;exact zqda7
def aOl(s:Sta)(hs:OrdOK s):∀(N:Nat) (An Be V Y:ba) (a m b:Nat),Z Be+Z V<=N->a=Z An->m=a+Z Be->b=m+Z V->0<Z Be->0<Z V->b+Z Y<=999000->oB (An++(Be++(V++Y)))->Up (ltP s) Be->Up (ltP s) V->Tot (ltP s) (Be++V)->
  ar 325 [.row 0 0,ii a,ii m,ii b,lS s] (bS (An++(Be++(V++Y)))) (Io (GT [])) (bS (An++(srt (ltP s) (Be++V)++Y))):=by
 intro N;induction N with
 |zero=>intro An Be V Y a m b hN;omega
 |succ N W=>
  intro An Be V Y a m b hN C hm H pU pV hl d F D p;by_cases r:Z Be=1
  .obtain ⟨u,rfl⟩:=Mh.1 r;exact aJy s hs An V Y u a m b C hm H hl d D p
  by_cases P:Z V=1
  .obtain ⟨v,rfl⟩:=Mh.1 P;exact aJx s hs An Be Y v a m b C hm H r hl d F p
  obtain⟨mid,j⟩:∃mid,mid=(a+b)/2:=⟨_,rfl⟩
  obtain⟨n,hn⟩:∃n,n=mid+m:=⟨_,rfl⟩
  obtain⟨lo,i⟩:∃lo,lo=if mid<m then n-b else a:=⟨_,rfl⟩
  obtain⟨o,c⟩:∃o,o=if mid<m then mid else m:=⟨_,rfl⟩
  obtain⟨k,G⟩:∃k,bis (thP s (An++(Be++(V++Y))) (n-1)) (o-lo) lo o=k:=⟨_,rfl⟩
  obtain⟨hP,I,k1,k2,k3,k4,k5,z,x⟩:=aTo s An Be V Y a m b mid n lo o C hm H pU pV j hn i c p k G;have hst:(k-a)+(n-k-m)=mid-a:=o_;have t:=aK9 (iO s) F D p z x;have y:=yF F (k-a);have q:=yF D (n-k-m);have Am:Tot (ltP s) (Be.take (k-a)++V.take (n-k-m)):=Fz ((Ic _ Be).append (Ic _ V)) p;have t2:Tot (ltP s) (Be.drop (k-a)++V.drop (n-k-m)):=Fz ((Ie _ Be).append (Ie _ V)) p;have tU:Be.take (k-a)++Be.drop (k-a)=Be:=Bl _ _;have T:V.take (n-k-m)++V.drop (n-k-m)=V:=Bl _ _;have lU1:Z (Be.take (k-a))=k-a:=by simp;omega
  have B:Z (Be.drop (k-a))=m-k:=by simp;omega
  have w:Z (V.take (n-k-m))=n-k-m:=by simp;omega
  have lV2:Z (V.drop (n-k-m))=b-(n-k):=by simp;omega
  generalize Be.take (k-a)=U1 at*
  generalize Be.drop (k-a)=U2 at*
  generalize V.take (n-k-m)=V1 at*
  generalize V.drop (n-k-m)=V2 at*
  have K:An++(Be++(V++Y))=An++(U1++(U2++(V1++(V2++Y)))):=by rw[<-tU,<-T];simp only[Ag]
  have lS1:Z (srt (ltP s) (U1++V1))=mid-a:=by rw[(fC (ltP s) (U1++V1)).length_eq,Ah];omega
  have M:oB (An++(U1++(V1++(U2++(V2++Y))))):=d.perm (by
   rw[K];refine Dm An (Dm U1 ?_);rw[<-Ag U2,<-Ag V1]
   exact Dt _ Dv)
  have p2:oB ((An++srt (ltP s) (U1++V1))++(U2++(V2++Y))):=M.perm (by
   rw[Ag An];refine Dm An ?_;rw[<-Ag U1]
   exact Dt _ (fC (ltP s) (U1++V1)).symm)
  have d1:Stp 356 s k m (n-k) (pnv (An++(Be++(V++Y)))) (pnv (An++(U1++(V1++(U2++(V2++Y)))))):=by
   rw[K];by_cases e:k<m
   .by_cases l:m<n-k
    .refine .inl ⟨e,l,?_⟩;have:=aOI s (An++U1) U2 V1 (V2++Y) k m (n-k) q_ o_ o_ (by intro h;rw[h]at B;simp at B;omega) (by intro h;rw[h]at w;simp at w;omega) q_;rw[Ag An,Ag An]at this;exact this
    .refine .inr (.inl ⟨e,l,?_⟩);have:V1=[]:=Ch.1 o_;rw[this];rfl
   .refine .inr (.inr ⟨e,?_⟩);have:U2=[]:=Ch.1 o_;rw[this];rfl
  have d2:Stp 325 s a k mid (pnv (An++(U1++(V1++(U2++(V2++Y)))))) (pnv (An++(srt (ltP s) (U1++V1)++(U2++(V2++Y))))):=by
   by_cases e:a<k
   .by_cases l:k<mid
    .exact .inl ⟨e,l,W An U1 V1 (U2++(V2++Y)) a k mid o_ C o_ o_ o_ o_ q_ M (Cc.1 y).1 (Cc.1 q).1 Am⟩
    .refine .inr (.inl ⟨e,l,?_⟩);have:V1=[]:=Ch.1 o_;rw[this,Ap,yK (iO s) (Cc.1 y).1];rfl
   .refine .inr (.inr ⟨e,?_⟩);have:U1=[]:=Ch.1 o_;have At:srt (ltP s) ([]++V1)=V1:=yK (iO s) (Cc.1 q).1;rw[this,At];rfl
  have d3:Stp 325 s mid (n-k) b (pnv (An++(srt (ltP s) (U1++V1)++(U2++(V2++Y))))) (pnv (An++(srt (ltP s) (Be++V)++Y))):=by
   rw[<-t,Ag (srt (ltP s) (U1++V1))];by_cases e:mid<n-k
   .by_cases l:n-k<b
    .have:=W (An++srt (ltP s) (U1++V1)) U2 V2 Y mid (n-k) b o_ q_ o_ o_ o_ o_ hl p2 (Cc.1 y).2.1 (Cc.1 q).2.1 t2;rw[Ag An,Ag An]at this;exact .inl ⟨e,l,this⟩
    .refine .inr (.inl ⟨e,l,?_⟩);have:V2=[]:=Ch.1 o_;rw[this,Ap,yK (iO s) (Cc.1 y).2.1];rfl
   .refine .inr (.inr ⟨e,?_⟩);have:U2=[]:=Ch.1 o_;have At:srt (ltP s) ([]++V2)=V2:=yK (iO s) (Cc.1 q).2.1;rw[this,At];rfl
  have n1:=aEn s a m b mid n k (n-k) ((n-1:Nat):Int) o_ o_ _ _ _ _ d1 d2 d3;have n2:=aOv s hs _ d q_ a m b mid n (n-1) lo o _ hP _ k n1 _ lo o (Bc _) I (Bc _) (Bc _) G;have e1:((m:Int)-a==1)=false:=by simp;omega
  have e2:((b:Int)-m==1)=false:=by simp;omega
  have e3:((n:Int)-1)=((n-1:Nat):Int):=o_;have J:=NI a b;rw[<-j]at J;have hr:=aAJ (show mid<=1000000 by omega);rw[<-e3]at n2;have en:(n:Int)=(mid:Int)+m:=o_;have hm9:m<=b:=o_;have hb9:b<=1000000:=o_;have ha9:a<=m:=o_;have Q:mid<=1000000:=o_;dsimp only[bS,aJz]at n2⊢;generalize pnv (An++(Be++(V++Y)))=L at*
  generalize pnv (An++(srt (ltP s) (Be++V)++Y))=R at*
  clear n1 d1 d2 d3 M p2 K t y q Am t2 tU T hP G d p F D z x;by_cases hq:mid<m
  .rw [bu hq]at i c;have As:(lo:Int)=(mid:Int)+m-b:=o_;subst c;rw[As,en]at n2;refine eA (Er [] [61,63,64,65,113,115,116,117]) f325 1 λ_=>?_
   repeat' first|refine pA ?_|refine Aa (λh=>bv (e1.symm.trans h) d_) (λ_=>?_)|refine Aa (λh=>bv (e2.symm.trans h) d_) (λ_=>?_)|(rw[J];refine Fk (Aa hr ?_))|refine Aa (λ_=>?_) (λh=>bv (bm h) o_)|exact rfl|refine lA ?_ ?_|intro h
   exact zW
  .rw [bt hq]at i c;subst i c;rw[en]at n2;refine eA (Er [] [61,63,64,65,113,115,116,117]) f325 1 λ_=>?_
   repeat' first|refine pA ?_|refine Aa (λh=>bv (e1.symm.trans h) d_) (λ_=>?_)|refine Aa (λh=>bv (e2.symm.trans h) d_) (λ_=>?_)|(rw[J];refine Fk (Aa hr ?_))|refine Aa (λh=>bv (bn h) o_) (λ_=>?_)|exact rfl|refine lA ?_ ?_|intro h
   exact zW
def oI{n:Nat}(h:n<=1000000):A8 n 88:=⟨by simp only[maxLen];omega,by omega⟩
def aOr(s:Sta)(hs:OrdOK s)(P:ba)(n:Nat)(t:n=Z P)(hl:n<40)(a:oB P)(e:Tot (ltP s) P):
  ar 288 [.row 0 0,ii n,lS s] (bS P) (Io (GT [])) (bS (srt (ltP s) P)):=by
 by_cases z:n<20
 .have h1:=WX s hs [] P [] 0 n rfl q_ q_ a;rw[Bi,Bi,Ap,Ap]at h1;generalize srt (ltP s) P=R at*
  dsimp only[bS]at h1⊢;generalize pnv P=L at*
  clear t a e;refine eA E f288 1 λ_=>?_
  repeat' first|refine pA ?_|exact rfl|refine lA ?_ ?_|intro h
  refine gV ?_;refine Aa (λh=>bv (bn h) o_) (λ_=>?_)
  repeat' first|refine pA ?_|refine .eff [] [0] _ _ rfl h1 ?_|exact rfl|refine lA ?_ ?_|intro h
  exact tA
 .obtain ⟨A,B,rfl,j⟩:∃A B,P=A++B/\Z A=20:=⟨P.take 20,P.drop 20,(Bl 20 P).symm,by simp;omega⟩
  rw[Ah,j]at t;have c:oB A:=λp hp=>a p (Dh _ hp);have b:oB B:=λp hp=>a p (List.mem_append_right _ hp);obtain⟨o,tB,_⟩:=Cc.1 e;have k:=fC (ltP s) A;have i:=fC (ltP s) B;have q:Z (srt (ltP s) A)=20:=by rw[k.length_eq,j]
  have r:Z (srt (ltP s) B)=Z B:=i.length_eq;have h1:=WX s hs [] A B 0 20 rfl q_ o_ c;rw[Bi,Bi]at h1;have d:=WX s hs (srt (ltP s) A) B [] 20 n q.symm o_ q_ b;rw[Ap,Ap]at d;by_cases C:n=20
  .have x:B=[]:=Ch.1 o_;subst x;rw[Ap]at h1 d⊢;have y:srt (ltP s) ([]:ba)=[]:=rfl;rw[y,Ap]at d;rw[Ap]at h1;generalize srt (ltP s) A=R at*
   dsimp only[bS]at h1 d⊢;generalize pnv A=L at*
   clear j a e c b o tB k i q r;refine eA E f288 1 λ_=>?_
   repeat' first|refine pA ?_|exact rfl|refine lA ?_ ?_|intro h
   refine gV ?_;refine Aa (λ_=>?_) (λh=>bv (bm h) o_)
   repeat' first|refine pA ?_|refine .eff [] [0] _ _ rfl h1 ?_|exact rfl|refine lA ?_ ?_|intro h
   refine gV ?_;refine Aa (λh=>bv (bn h) o_) (λ_=>?_)
   repeat' first|refine pA ?_|refine .eff [] [0] _ _ rfl d ?_|exact rfl|refine lA ?_ ?_|intro h
   exact tA
  .have v:=sX (iO s) o;have w:=sX (iO s) tB;have l:(srt (ltP s) A++srt (ltP s) B).Perm (A++B):=k.append i;have m:Tot (ltP s) (srt (ltP s) A++srt (ltP s) B):=e.perm l.symm;have h3:=aOl s hs _ [] (srt (ltP s) A) (srt (ltP s) B) [] 0 20 n (Bc _) rfl q_ o_ o_ o_ q_ (by rw[Bi,Ap];exact a.perm l.symm) v w m;rw[Bi,Bi,Ap,Ap]at h3;have u:srt (ltP s) (srt (ltP s) A++srt (ltP s) B)=srt (ltP s) (A++B):=UV (iO s) (((fC _ _).trans l).trans (fC _ _).symm) (sX (iO s) m) (sX (iO s) e);rw[u]at h3;generalize srt (ltP s) (A++B)=R at*
   dsimp only[bS]at h1 d h3⊢;generalize pnv (A++B)=L at*
   generalize pnv (srt (ltP s) A++B)=L2 at*
   generalize pnv (srt (ltP s) A++srt (ltP s) B)=L3 at*
   clear j a e c b o tB k i q r v w l m u;refine eA E f288 1 λ_=>?_
   repeat' first|refine pA ?_|exact rfl|refine lA ?_ ?_|intro h
   refine gV ?_;refine Aa (λ_=>?_) (λh=>bv (bm h) o_)
   repeat' first|refine pA ?_|refine .eff [] [0] _ _ rfl h1 ?_|exact rfl|refine lA ?_ ?_|intro h
   refine gV ?_;refine Aa (λh=>bv (bn h) o_) (λ_=>?_)
   repeat' first|refine pA ?_|refine .eff [] [0] _ _ rfl d ?_|exact rfl|refine lA ?_ ?_|intro h
   refine gV ?_;refine Aa (λ_=>?_) (λh=>bv (bm h) o_)
   repeat' first|refine pA ?_|exact rfl|refine lA ?_ ?_|intro h
   refine gV ?_;refine Aa (λh=>bv (bn h) o_) (λ_=>?_)
   repeat' first|refine pA ?_|refine Aa (λ_=>?_) (λh=>bv (bm h) o_)|refine .eff [] [0] _ _ rfl h3 ?_|exact rfl|refine lA ?_ ?_|intro h
   exact tA
def aOs(s:Sta)(hs:OrdOK s)(P:ba)(hl:Z P<40)(a:oB P)(c:Tot (ltP s) P):
  ar 230 [.row 0 0,lS s] (bS P) (Io (GT [])) (bS (srt (ltP s) P)):=by
 have h1:=aOr s hs P (Z (pnv P)) s_ (by simpa using hl) a c;generalize srt (ltP s) P=R at*
 have b:Z (pnv P)<=1000000:=by simp;omega
 dsimp only[bS]at h1⊢;generalize pnv P=L at*
 clear a c;refine eA E f230 1 λ_=>?_;exact zW
def aDA(xs:ba)(a:Z xs<=1000000):ar 138 [CA 11 (pnv xs) J0] [] (Io (.row 0 0)) (bS xs):=by
 refine eA (Er [2,5] []) f138 0 λ_=>gV ?_;intro b c;refine gV ?_;refine⟨λh=>?_,λh=>?_⟩
 .refine gV ?_;refine⟨[],[1],⟨rfl,rfl⟩,?_⟩;conv=>whnf
  unfold bS;rw[c (by simpa using h)];exact⟨rfl,rfl⟩
 .refine gV ?_;refine⟨oI (by simpa using a),gV ?_⟩;refine⟨[],[1],⟨rfl,rfl⟩,?_⟩;exact⟨rfl,rfl⟩
def aGb(s:Sta)(hs:OrdOK s)(hl:Z s.pend<40)(a:oB s.pend)(c:Tot (ltP s) s.pend):
  bj 161 [s.av] (CA 11 (pnv (rA s)) J0):=by
 have h1:=aDA s.pend o_;have b:=aOs s hs s.pend hl a c;have e:srt (ltP s) s.pend=rA s:=rfl;rw[e]at b;generalize rA s=R at*
 refine c_ f161 λ_=>gV ?_;refine .eff [] [] _ _ rfl h1 (gV ?_);refine .eff [2,0] [1] _ _ rfl b ?_;refine gW hE ?_;conv=>whnf
end Go.Proofs.YtenkdioaefckoaaGreatDoor
