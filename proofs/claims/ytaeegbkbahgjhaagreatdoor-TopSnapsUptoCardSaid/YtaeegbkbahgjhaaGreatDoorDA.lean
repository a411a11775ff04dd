/- Part 9 of what the statement rests on. -/
import Derived.Test.YtaeegbkbahgjhaaGreatDoorCA
set_option linter.all false
set_option maxHeartbeats 1000000
open And renaming intro->Ac
open Bool renaming and_false->Es,false_and->Gi,false_eq_true->Cp,true_and->Cz
open Exists renaming intro->Ap
open Int renaming fdiv->Ki,fdiv_eq_ediv_of_nonneg->Dz,natCast_mul->Ef,tdiv->Lx,toNat->Dp,toNat_natCast->Bv
open List renaming append_assoc->Af,append_nil->Ar,cons_append->Ce,dropLast_concat_getLast->Ks,drop_eq_getElem_cons->Ae,drop_eq_nil_of_le->Ah,drop_sublist->Ie,eraseIdx_eq_take_drop_succ->Fz,foldl_cons->Bc,getElem?_append_left->Ag,getElem?_append_right->Ak,getElem?_cons_succ->Fu,getElem?_eq_getElem->Aa,getElem?_eq_some_iff->Ab,getElem?_map->Bg,getElem?_set_ne->Bb,getElem?_set_self->Au,getElem_mem->Bf,getElem_of_mem->Iu,length_append->Ai,length_cons->Al,length_drop->Eh,length_eq_one_iff->Mf,length_eq_zero_iff->Cl,length_map->Cc,length_pos_iff->Dx,length_set->Dh,map_append->Bm,map_cons->Bl,map_drop->Ix,map_set->Gt,map_take->Gh,mem_append->Ba,mem_append_left->Dc,mem_append_right->Cv,mem_cons->Aw,mem_cons_of_mem->Ay,mem_cons_self->Ao,mem_of_getElem?->Av,mem_range->Ho,mem_singleton->Dj,mem_singleton_self->Je,nil_append->Bn,pairwise_append->Cd,pairwise_cons->Cb,pairwise_singleton->Jd,perm_append_comm->Dv,perm_middle->Ei,prefix_refl->Cn,range->Di,set_append_right->Ha,take_append_drop->Bo,take_length->Ge,take_sublist->Ic,take_succ_eq_append_getElem->Hd
open List.Pairwise renaming imp->Jj,nil->Ll,sublist->Gb
open List.Perm renaming append_left->Du,append_right->Dr,refl->Jk
open Nat renaming add_assoc->Kd,add_comm->Mc,add_mul->Bw,add_sub_cancel->Hv,and_two_pow_sub_one_eq_mod->Jt,blt->Ff,blt_eq->Ju,div_add_mod->Fx,div_le_self->Hc,div_lt_iff_lt_mul->Dl,div_mul_le_self->Hi,eq_zero_or_pos->Fp,le_div_iff_mul_le->Ib,le_refl->Bd,le_trans->Cx,lt_or_ge->Ni,lt_trans->Nj,min_eq_left->Gr,mod_le->Md,mod_lt->Fg,mul_add->Gj,mul_add_div->Kr,mul_assoc->Hz,mul_comm->Dd,mul_div_mul_right->Mt,mul_le_mul->Gk,mul_le_mul_right->Br,one_mul->Gu,pow_add->Fi,pow_le_pow_right->Eu,pow_pos->Mz,strongRecOn->Hx,testBit_two_pow->Ky,two_pow_add_eq_or_of_lt->Ig,zero_add->Bp,zero_mul->Mb
open Or renaming inl->Gd,inr->Ko
open UInt8 renaming ofNat->Dt
namespace Go.Proofs.YtaeegbkbahgjhaaGreatDoor
open Go Go.AW Go.Proofs
def zqda0{P:Prop}(h:P:=by
 refine gV ?_;refine aT λ h=>gV ?_;refine Ac (Ac d_ d_) (gV ?_);rw [e];refine aJ (gV ?_);refine Ac o_ (gV ?_);rw [d];refine Gd (Ac (Ac (show Dp (k:Int)<=64 by omega) (Ac (by simp only [cJ];omega) (by simp only [bE];omega))) ?_);refine gV ?_;rw [a]
 exact zW):P:=h
def zqda1{P:Prop}(h:P:=by
 dsimp only [bN] at next⊢
 generalize pnv L=K at *
 refine gV ?_
 exact zW):P:=h
def zqda2{P:Prop}(h:P:=by
 subst c;refine c_ Tryz.f222 λ_=>?_;have hz1:=λ d=>JP d
 exact zW):P:=h
def zqda3{P:Prop}(h:P:=by exact c_ Tryz.f139 λ_=>zW):P:=h
def zqda4{P:Prop}(h:P:=by
 rw [Ah o_] at b;have b:a++[]=R:=b;rw [Ar] at b;subst b;refine gV ?_
 exact zW):P:=h
def zqda5{P:Prop}(h:P:=by
 refine cT (E:=(Er [] [61,63,64,65,113,115,116,117])) (fn:=Tryz.f225) (g:=.full 1 _ _) λ_=>?_
 exact zW):P:=h
def zqda6{P:Prop}(h:P:=by
 generalize iM p.length q.length=t at *
 generalize iM a.seq b.seq=u at *
 refine gV ?_
 exact zW):P:=h
def zqda7{P:Prop}(h:P:=by
 refine cP hE 2 ?_;conv=>whnf
 exact To.cutC [2,8,9,10,11,13,14,15,16,17,18] 0 rfl rfl rfl rfl fin):P:=h
def zqda8{P:Prop}(h:P:=by
 refine cP hE 3 ?_;conv=>whnf
 exact To.cutC [2,8,9,10,11,13,14,15,16,17,18] 0 rfl rfl rfl rfl step):P:=h
def zqda9{P:Prop}(h:P:=by
 refine cP hE 2 ?_;conv=>whnf
 exact To.cutC [2,8,9,10,11,13,14,15,16] 0 rfl rfl rfl rfl fin):P:=h
def zqda10{P:Prop}(h:P:=by
 refine cP hE 3 ?_;conv=>whnf
 exact To.cutC [2,8,9,10,11,13,14,15,16] 0 rfl rfl rfl rfl step):P:=h
def zqda11{P:Prop}(h:P:=by exact c_ Tryz.f223 λ_=>zW):P:=h
def zqda12{P:Prop}(h:P:=by
 subst a
 exact c_ Tryz.f179 λ_=>zW):P:=h
def BF{a b A B:Nat}(d:a<=A)(c:b<=B):a*b<=A*B:=Gk d c
def YY(x y:Nat)(i:x<18446744073709551616)(h:y<18446744073709551616):
  ∃ a b c d:Nat,a=x % 4294967296*(y % 4294967296)/\b=x / 4294967296*(y % 4294967296)/\c=x % 4294967296*(y / 4294967296)/\d=x / 4294967296*(y / 4294967296)/\
   a<=18446744065119617025/\b<=18446744065119617025/\c<=18446744065119617025/\d<=18446744065119617025/\x*y=d*18446744073709551616+(b+c)*4294967296+a:=by
 refine ⟨_,_,_,_,rfl,rfl,rfl,rfl,BF (A:=4294967295) (B:=4294967295) o_ o_,BF (A:=4294967295) (B:=4294967295) o_ o_,BF (A:=4294967295) (B:=4294967295) o_ o_,BF (A:=4294967295) (B:=4294967295) o_ o_,?_⟩;have e:x=x / 4294967296*4294967296+x % 4294967296:=o_;have g:y=y / 4294967296*4294967296+y % 4294967296:=o_;generalize x / 4294967296=p at *
 generalize x % 4294967296=q at *
 generalize y / 4294967296=r at *
 generalize y % 4294967296=s at *
 subst e g;simp only [Bw,Gj];have h1:p*4294967296*(r*4294967296)=p*r*18446744073709551616:=by rw [Nat.mul_mul_mul_comm]
 have f:p*4294967296*s=p*s*4294967296:=Nat.mul_right_comm ..;have h3:q*(r*4294967296)=q*r*4294967296:=(Hz ..).symm;rw [h1,f,h3];omega
def NO(x y:Nat):Nat:=x*y / 18446744073709551616
def DE(x y:Nat):Nat:=x*y % 18446744073709551616
def aGQ{x y a b c d:Nat}(h:x*y=d*18446744073709551616+(b+c)*4294967296+a)(f:a<=18446744065119617025)(e:b<=18446744065119617025)(g:c<=18446744065119617025):
  d+(b+a / 4294967296) / 4294967296+((b+a / 4294967296) % 4294967296+c) / 4294967296=NO x y:=by
 unfold NO;rw [h];omega
abbrev uu(n:Nat):aa:=.int .u64 (n:Int)
def FD(n:Nat):Nat:=if n<18446744073709551616 then n else 18446744073709551615
def E2(a b:Nat):Nat:=FD (a+b)
def uM(a b:Nat):Nat:=FD (a*b / 4294967296)
def ofF(n:Int):Nat:=if n<=0 then 0 else if n<4294967296 then n.toNat*4294967296 else 18446744073709551615
def A4(a b:Nat):Nat:=if a=0 then 0 else if b=0 then 18446744073709551615 else FD (a*4294967296 / b)
def JA(a b:Int):Nat:=A4 (max a 0).toNat (max b 0).toNat
def IZ(n:Nat):FD n<18446744073709551616:=by unfold FD;split<;>omega
def XK(a b:Nat):E2 a b<18446744073709551616:=IZ _
def JQ(a b:Nat):uM a b<18446744073709551616:=IZ _
def aIl(a b:Nat):A4 a b<18446744073709551616:=by
 unfold A4
 repeat' split
 .omega
 .omega
 .exact IZ _
def RF(n:Int):ofF n<18446744073709551616:=by
 unfold ofF
 repeat' split
 all_goals omega
def aLz{a b:Nat}(c:0<b)(h:b<=a / 4294967296):FD (a*4294967296 / b)=18446744073709551615:=by have h1:b*4294967296<=a:=o_;have d:18446744073709551616*b<=a*4294967296:=o_;have h3:18446744073709551616<=a*4294967296 / b:=(Ib c).2 d;exact if_neg (Nat.not_lt.2 h3)
def aLy{a b:Nat}(d:a / 4294967296<b):a*4294967296 / b<18446744073709551616/\FD (a*4294967296 / b)=a*4294967296 / b:=by have c:a*4294967296<18446744073709551616*b:=o_;have h3:a*4294967296 / b<18446744073709551616:=(Dl o_).2 c;exact ⟨h3,if_pos h3⟩
set_option maxRecDepth 10000
structure Dg(y1 y0 u v q r:Nat):Prop where
 rest:u=q*y1+r
 top:u*4294967296+v<(q+1)*(y1*4294967296+y0)
 few:q<=4294967297
def qY(q b a:Nat):q*(b*4294967296+a)=q*b*4294967296+q*a:=by rw [Gj,Hz]
def Dg.zero{c d u v:Nat}(h1:2147483648<=c)(h:d<4294967296)(g:v<4294967296)(j:u<c*4294967296+d):Dg c d u v (u / c) (u % c):=by
 have e:u=u / c*c+u % c:=by rw [Dd];exact (Fx u c).symm
 have i:u % c<c:=Fg _ o_;refine ⟨e,?_,?_⟩
 .rw [qY,Bw,Gu,Bw,Bw _ _ d,Gu];generalize u / c*c=a at *
  generalize u / c*d=b;omega
 .have f:u / c<4294967298:=by refine (Dl o_).2 ?_;omega
  omega
def Dg.step{c d u v q r:Nat}(h:Dg c d u v q r)(l:v<4294967296)(n:u<c*4294967296+d)(i:4294967296<=q\/4294967296*r+v<q*d):1<=q/\Dg c d u v (q-1) (r+c):=by
 obtain ⟨e,m,o⟩:=h;have j:1<=q:=by
  rcases i with h | h
  .omega
  .rcases Fp q with rfl | g
   .rw [Mb] at h;omega
   .exact g
 refine ⟨j,?_⟩;have f:q=q-1+1:=o_;have k:u*4294967296+v<q*(c*4294967296+d):=by
  rcases i with h | h
  .have g:4294967296*(c*4294967296+d)<=q*(c*4294967296+d):=Br _ h;omega
  .rw [qY];generalize q*c=a at *
   generalize q*d=b at *
   omega
 refine ⟨?_,by rw [<-f];exact k,by omega⟩;have p:q*c=(q-1)*c+c:=by rw [f,Hv,Bw,Gu]
 omega
def Dg.fin{d c u v q r:Nat}(h:Dg d c u v q r)(i:q*c<=4294967296*r+v):q*(d*4294967296+c)<=u*4294967296+v/\q=(u*4294967296+v) / (d*4294967296+c):=by
 obtain ⟨e,f,g⟩:=h;have hl:q*(d*4294967296+c)<=u*4294967296+v:=by
  rw [qY];generalize q*d=a at *
  generalize q*c=b at *
  omega
 refine ⟨hl,?_⟩;have hp:0<d*4294967296+c:=by
  rcases Fp (d*4294967296+c) with h | h
  .rw [h,Nat.mul_zero] at f;omega
  .exact h
 refine Nat.le_antisymm ((Ib hp).2 hl) ?_;have:=(Dl hp).2 f;omega
def Dg.far{a v q r:Nat}(c:a<4294967296)(b:q<=4294967296)(d:4294967296<=r):q*a<=4294967296*r+v:=by have h1:q*a<=4294967296*4294967295:=Gk b o_;omega
def aIm{Y u v w a t b:Nat}(f:0<Y)(h1:a=(u*4294967296+v) / Y)(i:t=u*4294967296+v-a*Y)(d:b=(t*4294967296+w) / Y)(h:w<4294967296):a*4294967296+b=(u*18446744073709551616+v*4294967296+w) / Y:=by
 have e:u*4294967296+v=a*Y+t:=by
  have:a*Y<=u*4294967296+v:=by rw [h1];exact Hi ..
  omega
 have g:u*18446744073709551616+v*4294967296+w=Y*(a*4294967296)+(t*4294967296+w):=by
  have:Y*(a*4294967296)=a*Y*4294967296:=by rw [<-Hz,Dd Y a]
  rw [this];have h3:u*18446744073709551616=u*4294967296*4294967296:=by rw [Hz]
  have c:(u*4294967296+v)*4294967296=(a*Y+t)*4294967296:=by rw [e]
  rw [Bw,Bw] at c;rw [h3,c,Kd]
 rw [g,Kr f,<-d]
def O6{Y N q t:Nat}(a:0<Y)(h1:q=N / Y)(b:t=N-q*Y):t<Y:=by have e:=Fx N Y;have l:=Fg N a;subst h1;rw [Dd] at e;omega
structure Ord{α:Type}(lt:α->α->Bool):Prop where
 tr:∀ a b c,lt a b=true->lt b c=true->lt a c=true
 irr:∀ a,lt a a=false
def Up{α:Type}(lt:α->α->Bool)(l:List α):Prop:=l.Pairwise λ a b=>lt a b=true
def Tot{α:Type}(lt:α->α->Bool)(l:List α):Prop:=l.Pairwise λ a b=>lt a b=true\/lt b a=true
def Tot.perm{α:Type}{lt:α->α->Bool}{l m:List α}(h:l.Perm m)(a:Tot lt l):Tot lt m:=h.pairwise a λ h=>h.symm
def Ord.asym{α:Type}{lt:α->α->Bool}(o:Ord lt){a b:α}(h:lt a b=true):lt b a=false:=by
 cases c:lt b a with
 | false=>rfl
 | true=>have:=o.tr _ _ _ h c;rw [o.irr] at this;cases this
def QD{α:Type}{lt:α->α->Bool}(o:Ord lt):∀ {l m:List α},l.Perm m->Up lt l->Up lt m->l=m
 | [],m,h,_,_=>(List.nil_perm.1 h).symm
 | x::l,[],h,_,_=>absurd h.length_eq s_
 | x::l,y::m,h,h1,h2=>by
  have e:x=y:=by
   have b:x∈y::m:=h.mem_iff.1 (Ao ..);have a:y∈x::l:=h.mem_iff.2 (Ao ..);rcases Aw.1 b with e | b
   .exact e
   rcases Aw.1 a with e | a
   .exact e.symm
   have d:=(Cb.1 h1).1 y a;have c:=(Cb.1 h2).1 x b;rw [o.asym d] at c;cases c
  subst e;rw [QD o ((List.perm_cons x).1 h) (Cb.1 h1).2 (Cb.1 h2).2]
def aAD{α:Type}{lt:α->α->Bool}{A B:List α}{x:α}(g:Up lt (A++B))(f:∀ a∈A,lt a x=true)(d:∀ b∈B,lt x b=true):Up lt (A++x::B):=by
 obtain ⟨h1,e,h3⟩:=Cd.1 g;refine Cd.2 ⟨h1,Cb.2 ⟨d,e⟩,λ a h b c=>?_⟩;rcases Aw.1 c with rfl | c
 .exact f a h
 .exact h3 a h b c
def vP{α:Type}{lt:α->α->Bool}(o:Ord lt){A B:List α}(j:Up lt A)(i:Up lt B)(h:A=[]\/B=[]\/∃ f x y g,A=f++[x]/\B=y::g/\lt x y=true):∀ a∈A,∀ b∈B,lt a b=true:=by
 intro a h1 b c;rcases h with rfl | rfl | ⟨f,x,y,g,rfl,rfl,h⟩
 .cases h1
 .cases c
 have d:a=x\/lt a x=true:=by
  rcases Ba.1 h1 with h1 | h1
  .exact .inr ((Cd.1 j).2.2 a h1 x (Ao ..))
  .exact .inl (by simpa using h1)
 have e:b=y\/lt y b=true:=by
  rcases Aw.1 c with c | c
  .exact .inl c
  .exact .inr ((Cb.1 i).1 b c)
 rcases d with rfl | d<;>rcases e with rfl | e
 .exact h
 .exact o.tr _ _ _ h e
 .exact o.tr _ _ _ d h
 .exact o.tr _ _ _ d (o.tr _ _ _ h e)
def aJz{α:Type}{lt:α->α->Bool}(o:Ord lt){f h g e j i:List α}(C:Up lt (f++h))(u:Up lt (g++e))
  (h1:f=[]\/e=[]\/∃ l x y k,f=l++[x]/\e=y::k/\lt x y=true) (p:g=[]\/h=[]\/∃ l x y k,g=l++[x]/\h=y::k/\lt x y=true)
  (n:j.Perm (f++g)) (m:i.Perm (h++e)) (r:Up lt j) (t:Up lt i):Up lt (j++i)/\(j++i).Perm (f++h++(g++e)):=by
 obtain ⟨B,s,A⟩:=Cd.1 C;obtain ⟨w,z,D⟩:=Cd.1 u;have v:=vP o B z h1;have q:=vP o w s p;refine ⟨Cd.2 ⟨r,t,λ a c b d=>?_⟩,?_⟩
 .rcases Ba.1 (n.mem_iff.1 c) with c | c<;>rcases Ba.1 (m.mem_iff.1 d) with d | d
  .exact A a c b d
  .exact v a c b d
  .exact q a c b d
  .exact D a c b d
 .refine (n.append m).trans ?_;rw [Af,Af];refine Du f ?_;rw [<-Af,<-Af];exact Dr e Dv
def oH{α:Type}(lt:α->α->Bool)(x:α)(l:List α):Nat->Nat
 | 0=>0
 | k+1=>match l[k]? with
  | some y=>if lt x y then oH lt x l k else k+1
  | none=>k+1
def nJ{α:Type}(lt:α->α->Bool)(l:List α)(x:α):List α:=l.take (oH lt x l l.length)++x::l.drop (oH lt x l l.length)
def srt{α:Type}(lt:α->α->Bool)(l:List α):List α:=l.foldl (nJ lt) []
def VR{α:Type}{lt:α->α->Bool}{x:α}{l:List α}:∀ k,oH lt x l k<=k
 | 0=>Bd _
 | k+1=>by
  unfold oH;split
  .split
   .exact Nat.le_succ_of_le (VR k)
   .exact Bd _
  .exact Bd _
def VT{α:Type}{lt:α->α->Bool}{x:α}{l:List α}:∀ (k i:Nat) (h:i<l.length),oH lt x l k<=i->i<k->lt x l[i]=true
 | 0,i,h,_,h2=>by omega
 | k+1,i,h,h1,h2=>by
  unfold oH at h1;split at h1
  .rename_i y a;split at h1
   .rename_i hl;by_cases e:i=k
    .subst e;rw [Aa h] at a;cases a;exact hl
    .exact VT k i h h1 o_
   .omega
  .omega
def VQ{α:Type}{lt:α->α->Bool}{x:α}{l:List α}:∀ (k:Nat) (_:k<=l.length),oH lt x l k=0\/∃ (i:Nat) (h:i<l.length),oH lt x l k=i+1/\lt x l[i]=false
 | 0,_=>.inl rfl
 | k+1,h=>by
  have a:k<l.length:=h;have e:oH lt x l (k+1)=if lt x l[k]=true then oH lt x l k else k+1:=by show (match l[k]? with | some y=>if lt x y=true then oH lt x l k else k+1 | none=>k+1)=_;rw [Aa a]
  rw [e];cases hl:lt x l[k] with
  | true=>rw [if_pos rfl];exact VQ k o_
  | false=>exact .inr ⟨k,a,if_neg d_,hl⟩
def yE{α:Type}(lt:α->α->Bool)(l:List α)(x:α):(nJ lt l x).Perm (x::l):=by unfold nJ;refine Ei.trans ?_;rw [Bo]
def aHi{α:Type}{lt:α->α->Bool}(o:Ord lt){l:List α}{x:α}(k:Up lt l)(r:∀ y∈l,lt x y=true\/lt y x=true):Up lt (nJ lt l x):=by
 unfold nJ;have p:=VR (lt:=lt) (x:=x) (l:=l) l.length;have f:Up lt (l.take (oH lt x l l.length)++l.drop (oH lt x l l.length)):=by rw [Bo];exact k
 refine aAD f (λ a c=>?_) (λ b t=>?_)
 .rcases VQ (lt:=lt) (x:=x) (l:=l) l.length (Bd _) with h | ⟨i,g,h,s⟩
  .rw [h] at c;cases c
  .rw [h] at c;have m:lt l[i] x=true:=by
    rcases r l[i] (Bf g) with q | q
    .rw [s] at q;cases q
    .exact q
   rw [Hd g] at c;rcases Ba.1 c with c | c
   .refine o.tr _ _ _ ?_ m;have d:Up lt (l.take i++l.drop i):=by rw [Bo];exact k
    rw [Ae g] at d;exact (Cd.1 d).2.2 a c _ (Ao ..)
   .rw [Dj.1 c];exact m
 .obtain ⟨j,n,e⟩:=Iu t;rw [List.getElem_drop] at e;rw [<-e];rw [Eh] at n;exact VT l.length _ o_ o_ o_
def aA7{α:Type}{lt:α->α->Bool}(o:Ord lt):∀ (l a:List α),Up lt a->Tot lt (a++l)->Up lt (l.foldl (nJ lt) a)/\(l.foldl (nJ lt) a).Perm (a++l)
 | [],a,hu,_=>⟨hu,by simp⟩
 | x::l,a,hu,ht=>by have hp:=yE lt a x;have b:(a++x::l).Perm (nJ lt a x++l):=Ei.trans (hp.symm.append_right l);obtain ⟨d,e⟩:=aA7 o l (nJ lt a x) (aHi o hu λ y c=>((Cd.1 ht).2.2 y c x (Ao ..)).symm) (ht.perm b);exact ⟨d,e.trans b.symm⟩
def qW{α:Type}{lt:α->α->Bool}(o:Ord lt){l:List α}(h:Tot lt l):Up lt (srt lt l):=(aA7 o l [] Ll h).1
def F7{α:Type}{lt:α->α->Bool}:∀ (l a:List α),(l.foldl (nJ lt) a).Perm (a++l)
 | [],a=>by simp
 | x::l,a=>(F7 l (nJ lt a x)).trans (((yE lt a x).append_right l).trans Ei.symm)
def fG{α:Type}(lt:α->α->Bool)(l:List α):(srt lt l).Perm l:=F7 l []
def IS{α:Type}{lt:α->α->Bool}(o:Ord lt){l W:List α}(h:Tot lt l)(a:Up lt W)(hp:W.Perm l):W=srt lt l:=QD o (hp.trans (fG lt l).symm) a (qW o h)
def aJS{α:Type}{lt:α->α->Bool}(o:Ord lt){l:List α}(a:Up lt l):l=srt lt l:=IS o (Jj (λ h=>.inl h) a) a (Jk l)
def bis(P:Nat->Bool):Nat->Nat->Nat->Nat
 | 0,lo,_=>lo
 | f+1,lo,hi=>if lo<hi then (if P ((lo+hi) / 2)=true then bis P f ((lo+hi) / 2+1) hi else bis P f lo ((lo+hi) / 2)) else lo
def KV(P:Nat->Bool):∀ (f lo e:Nat),e-lo<=f->lo<=e->lo<=bis P f lo e/\bis P f lo e<=e/\(bis P f lo e=lo\/P (bis P f lo e-1)=true)/\(bis P f lo e=e\/P (bis P f lo e)=false)
 | 0,lo,e,h,h2=>⟨Bd _,h2,.inl rfl,.inl (show lo=e by omega)⟩
 | f+1,lo,e,h,h2=>by
  unfold bis;by_cases h3:lo<e
  .rw [if_pos h3];cases hp:P ((lo+e) / 2) with
   | true=>
    rw [if_pos rfl];obtain ⟨a,b,c,d⟩:=KV P f ((lo+e) / 2+1) e o_ o_;refine ⟨by omega,b,?_,d⟩;rcases c with c | c
    .right;rw [c,Hv];exact hp
    .exact .inr c
   | false=>
    rw [if_neg d_];obtain ⟨a,b,c,d⟩:=KV P f lo ((lo+e) / 2) o_ o_;refine ⟨a,by omega,c,?_⟩;rcases d with d | d
    .right;rw [d];exact hp
    .exact .inr d
  .rw [if_neg h3];exact ⟨Bd _,h2,.inl rfl,.inl o_⟩
def ltO{α:Type}(lt:α->α->Bool)(x y:Option α):Prop:=∃ a b,x=some a/\y=some b/\lt a b=true
def vO{α:Type}{lt:α->α->Bool}{l:List α}(h:Up lt l)(s:Nat):Up lt (l.take s++l.drop s):=by rw [Bo];exact h
def GT{α:Type}{l:List α}{s:Nat}(hs:s≠0){a:α}(h:l[s-1]? =some a):l.take s=l.take (s-1)++[a]:=by obtain ⟨hl,e⟩:=Ab.1 h;have b:s=s-1+1:=o_;rw [b,Hd hl,e,Hv]
def G7{α:Type}{l:List α}{t:Nat}{b:α}(h:l[t]? =some b):l.drop t=b::l.drop (t+1):=by obtain ⟨hl,e⟩:=Ab.1 h;rw [Ae hl,e]
def aD7{α:Type}{lt:α->α->Bool}{U V:List α}{s t:Nat}(h:s=0\/V.length<=t\/ltO lt U[s-1]? V[t]?):
  U.take s=[]\/V.drop t=[]\/∃ a x y b,U.take s=a++[x]/\V.drop t=y::b/\lt x y=true:=by
 by_cases hs:s=0
 .exact .inl (by rw [hs];rfl)
 rcases h with h | h | ⟨x,y,d,c,hl⟩
 .exact absurd h hs
 .exact .inr (.inl (Ah h))
 .exact .inr (.inr ⟨_,x,y,_,GT hs d,G7 c,hl⟩)
def aGS{α:Type}{lt:α->α->Bool}(o:Ord lt){U V:List α}{s t:Nat}(e:Up lt U)(f:Up lt V)(c:Tot lt (U++V))
  (h1:s=0\/V.length<=t\/ltO lt U[s-1]? V[t]?) (d:t=0\/U.length<=s\/ltO lt V[t-1]? U[s]?):
  srt lt (U.take s++V.take t)++srt lt (U.drop s++V.drop t)=srt lt (U++V):=by
 have g:Tot lt (U.take s++V.take t):=by refine Gb ?_ c;exact (Ic s U).append (Ic t V)
 have h:Tot lt (U.drop s++V.drop t):=by refine Gb ?_ c;exact (Ie s U).append (Ie t V)
 obtain ⟨a,b⟩:=aJz o (vO e s) (vO f t) (aD7 h1) (aD7 d) (fG lt _) (fG lt _) (qW o g) (qW o h);rw [Bo,Bo] at b;exact IS o c a b
def aKD{α:Type}{lt:α->α->Bool}(o:Ord lt){V:List α}{u:α}{t:Nat}(f:Up lt V)(k:Tot lt (u::V))(h1:t=0\/ltO lt V[t-1]? (some u))(g:V.length<=t\/ltO lt (some u) V[t]?):
  V.take t++u::V.drop t=srt lt (u::V):=by
 have j:=vP (A:=V.take t) (B:=[u]) o (Gb (Ic t V) f) (Jd ..) (by
  rcases h1 with h | ⟨a,b,c,d,hl⟩
  .exact .inl (by rw [h];rfl)
  .by_cases e:t=0
   .exact .inl (by rw [e];rfl)
   .cases d
    exact .inr (.inr ⟨_,a,u,[],GT e c,rfl,hl⟩))
 have i:=vP (A:=[u]) (B:=V.drop t) o (Jd ..) (Gb (Ie t V) f) (by
  rcases g with h | ⟨a,b,c,d,hl⟩
  .exact .inr (.inl (Ah h))
  .cases c
   exact .inr (.inr ⟨[],u,b,_,rfl,G7 d,hl⟩))
 refine IS o k (aAD (vO f t) (λ a c=>j a c u (Je u)) (λ b d=>i u (Je u) b d)) ?_;refine Ei.trans ?_;rw [Bo]
def vU{α:Type}{lt:α->α->Bool}(o:Ord lt){l:List α}(a:Up lt l):srt lt l=l:=(aJS o a).symm
def aA6{α:Type}{lt:α->α->Bool}(o:Ord lt){U V:List α}(a:Tot lt (U++V)):srt lt (U++V)=srt lt (V++U):=
 IS o (a.perm Dv) (qW o a) ((fG lt _).trans Dv)
def NT(x:Nat)(a:x<18446744073709551616):dL .and .u64 (x:Int) 4294967295=((x % 4294967296:Nat):Int):=by have h:=yM .u64 x 4294967295 (by simp only [bE];omega) d_;have e:x &&& 4294967295=x % 4294967296:=Jt x 32;rw [e] at h;exact h
def fN(x:Nat):Ki (x:Int) (2 ^ Dp 32)=((x / 4294967296:Nat):Int):=by show Ki (x:Int) 4294967296=_;rw [Dz _ d_];omega
def YZ(x y:Nat)(k:x<18446744073709551616)(l:y<18446744073709551616):aq 177 [.int .u64 x,.int .u64 y] [] (.ret (.tup [.int .u64 (NO x y:Nat),.int .u64 (DE x y:Nat)])) []:=by
 obtain ⟨a,b,c,d,q,t,r,p,z,v,w,D,hs⟩:=YY x y k l;have F:=aGQ hs z v w;have G:DE x y<18446744073709551616:=Fg _ d_;have o:((x % 4294967296:Nat):Int)*((y % 4294967296:Nat):Int)=(a:Int):=by rw [q,Ef]
 have u:((x / 4294967296:Nat):Int)*((y % 4294967296:Nat):Int)=(b:Int):=by rw [t,Ef]
 have s:((x % 4294967296:Nat):Int)*((y / 4294967296:Nat):Int)=(c:Int):=by rw [r,Ef]
 have n:((x / 4294967296:Nat):Int)*((y / 4294967296:Nat):Int)=(d:Int):=by rw [p,Ef]
 have C:(b:Int)+((a / 4294967296:Nat):Int)=((b+a / 4294967296:Nat):Int):=o_;have m:(((b+a / 4294967296) % 4294967296:Nat):Int)+(c:Int)=(((b+a / 4294967296) % 4294967296+c:Nat):Int):=o_;have B:(d:Int)+(((b+a / 4294967296) / 4294967296:Nat):Int)+((((b+a / 4294967296) % 4294967296+c) / 4294967296:Nat):Int)=((NO x y:Nat):Int):=o_;have h:¬ (inR .u64 ((x:Int)*(y:Int)))->IntKind.wrap .u64 ((x:Int)*(y:Int))=((DE x y:Nat):Int):=λ_=>by unfold DE;rw [<-Ef];simp [IntKind.wrap,IntKind.signed,IntKind.bits]
 refine c_ Tryz.f177 λ_=>gV ?_;rw [NT x k];refine Ac d_ (gV ?_);rw [fN x,NT y l];refine Ac d_ (gV ?_);rw [fN y,o];refine aJ (gV ?_);rw [u];refine aJ (gV ?_);refine Ac d_ (gV ?_);rw [fN a,C];refine aJ (gV ?_);rw [NT _ o_];refine Ac d_ (gV ?_);rw [fN (b+a / 4294967296),s];refine aJ (gV ?_);rw [m];refine aJ (gV ?_);rw [n];refine aJ (gV ?_);refine aJ (gV ?_);refine Ac d_ (gV ?_);rw [fN ((b+a / 4294967296) % 4294967296+c),B];refine aJ (gV ?_);by_cases j:inR .u64 ((x:Int)*(y:Int))
 .have e:(x:Int)*(y:Int)=((DE x y:Nat):Int):=by obtain ⟨h1,i⟩:=j;simp only [cJ,bE] at h1 i;rw [<-Ef] at h1 i⊢;unfold DE;omega
  rw [e];exact zW
 .rw [h j];refine Ko ?_;refine gW hE ?_;conv=>whnf
def aMs{M:Imm}{ob:Hs}{vs:ba}{a b c:aa}(h:cA M ob vs [a,b,c]):∃ u v x,vs=[u,v,x]/\Rep M ob u a/\Rep M ob v b/\Rep M ob x c:=by
 obtain ⟨hl,d⟩:=h
 match vs,hl with
 | [u,v,x],_=>exact ⟨u,v,x,rfl,d 0 _ _ rfl rfl,d 1 _ _ rfl rfl,d 2 _ _ rfl rfl⟩
def aBC{M:Imm}{ob:Hs}{n:Nat}(h:n<18446744073709551616):Rep M ob (.int .u64 (n:Int)) (uu n):=.int _ _ ⟨by simp only [cJ];omega,by simp only [bE];omega⟩
def aEJ(x y:Nat)(l:x<18446744073709551616)(m:y<18446744073709551616):aq 178 [uu x,uu y,.int .u64 0] [] (.ret (.tup [uu ((x+y) % 18446744073709551616),uu ((x+y) / 18446744073709551616)])) []:=by
 intro M ob w g hm h;obtain ⟨u,v,c,rfl,j,b,k⟩:=aMs h;obtain ⟨rfl,_⟩:=j.int_inv;obtain ⟨rfl,_⟩:=b.int_inv;obtain ⟨rfl,_⟩:=k.int_inv;refine .inr ⟨.tuple #[.int .u64 (((x+y) % 18446744073709551616:Nat):Int),.int .u64 (((x+y) / 18446744073709551616:Nat):Int)],w,?_,M,ob,Ext.refl _ _ _ _,hm,?_⟩
 .rw [run_callFunc_extern (show Tryz.prog.funcs[178]? =some Tryz.f178 by kernel_rfl) (by kernel_rfl) (by kernel_rfl) (by kernel_rfl) (e:=(Extern.MathBitsCarry.rows.head!).2) (by kernel_rfl)];rfl
 .refine .tup [_,_] _ rfl λ i v a b d=>?_
  match i,b,d with
  | 0,b,d=>cases b;cases d;exact aBC (Fg _ d_)
  | 1,b,d=>cases b;cases d;exact aBC o_
def M5(b:Bool)(x y:Nat)(r:Nat)(a:(if b=true then x else y)=r):aq 179 [.bool b,uu x,uu y] [] (.ret (uu r)) []:=by
 cases b with
 | true=>
  have a:x=r:=a;exact zqda12
 | false=>
  have a:y=r:=a;exact zqda12
def aHC(n:Int)(r:Nat)(a:ofF n=r):aq 128 [ii n] [] (.ret (uu r)) []:=by
 unfold ofF at a;by_cases h1:n<=0
 .rw [if_pos h1] at a;subst a;exact c_ Tryz.f128 λ_=>zW
 .rw [if_neg h1] at a;by_cases b:n<4294967296
  .rw [if_pos b] at a;have e:n*2 ^ Dp 32=(r:Int):=by show n*4294967296=_;omega
   have c:(r:Int)<18446744073709551616:=o_;refine c_ Tryz.f128 λ_=>?_
   repeat' first | (refine gN hE ?_;conv=>whnf) | refine Gd (Ac (Ac d_ (by rw [e];exact ⟨by simp only [cJ];omega,by simp only [bE];omega⟩)) ?_) | exact rfl | refine zt ?_ | refine zu ?_ ?_ | intro h | fail
   rw [e]
  .rw [if_neg b] at a;subst a;exact c_ Tryz.f128 λ_=>zW
def aDu(a b:Nat)(j:a<18446744073709551616)(i:b<18446744073709551616)(r:Nat)(c:E2 a b=r):aq 132 [uu a,uu b] [] (.ret (uu r)) []:=by
 have h1:=aEJ a b j i;unfold E2 FD at c;by_cases h:a+b<18446744073709551616
 .rw [if_pos h] at c;have d:(a+b) / 18446744073709551616=0:=o_;have k:(a+b) % 18446744073709551616=r:=o_;rw [d,k] at h1;have e:=M5 false 18446744073709551615 r r rfl;exact c_ Tryz.f132 λ_=>zW
 .rw [if_neg h] at c;have d:(a+b) / 18446744073709551616=1:=o_;rw [d] at h1;have e:=M5 true 18446744073709551615 ((a+b) % 18446744073709551616) r c;generalize (a+b) % 18446744073709551616=q at h1 e;exact c_ Tryz.f132 λ_=>zW
def aGy{h l:Nat}(hl:l<4294967296):h*4294967296 ||| l=h*4294967296+l:=by have:=Ig (i:=32) hl h;rw [Dd] at this;exact this.symm
def aNX{h l:Nat}(a:h<4294967296)(hl:l<4294967296):dL .or .u64 ((h*4294967296:Nat):Int) (l:Int)=((h*4294967296+l:Nat):Int):=by have e:=oM .u64 (h*4294967296) l (by simp only [bE];omega) (by simp only [bE];omega);rw [aGy hl] at e;exact e
def aDj(a b:Nat)(k:a<18446744073709551616)(m:b<18446744073709551616)(r:Nat)(c:uM a b=r):aq 131 [uu a,uu b] [] (.ret (uu r)) []:=by
 have h1:=YZ a b k m;have hp:a*b<18446744073709551616*18446744073709551616:=Nat.mul_lt_mul'' k m;have e:=fN (NO a b);have j:=fN (DE a b);have d:a*b=NO a b*18446744073709551616+DE a b:=by unfold NO DE;omega
 have q:DE a b<18446744073709551616:=Fg _ d_;unfold uM FD at c;generalize a*b=P at c d hp;generalize NO a b=H at h1 e d;generalize DE a b=L at h1 j d q;by_cases h:P / 4294967296<18446744073709551616
 .rw [if_pos h] at c;have i:H / 4294967296=0:=o_;have s:H<4294967296:=o_;have p:H*4294967296+L / 4294967296=r:=o_;have o:(H:Int)*2 ^ Dp 32=((H*4294967296:Nat):Int):=by show (H:Int)*4294967296=_;omega
  have n:=aNX (h:=H) (l:=L / 4294967296) s o_;rw [i] at e;rw [p] at n;refine c_ Tryz.f131 λ_=>?_
  repeat' first | (refine gN hE ?_;conv=>whnf) | refine .pure _ [] h1 ?_ | (rw [e];refine Ac d_ ?_) | (rw [o];refine Gd (Ac (Ac d_ ⟨by simp only [cJ];omega,by simp only [bE];omega⟩) ?_)) | (rw [j];refine Ac d_ ?_) | exact rfl | refine zt ?_ | refine zu ?_ ?_ | intro h | fail
  rw [n]
 .rw [if_neg h] at c;subst c;have i:(0:Int)<((H / 4294967296:Nat):Int):=o_;generalize ((H / 4294967296:Nat):Int)=Q at i e;refine c_ Tryz.f131 λ_=>?_
  repeat' first | (refine gN hE ?_;conv=>whnf) | refine .pure _ [] h1 ?_ | (rw [e];refine Ac d_ ?_) | exact rfl | refine zt ?_ | refine zu ?_ ?_ | intro h | fail
def R1(n:Int):aq 128 [ii n] [] (.ret (uu (ofF n))) []:=aHC n _ rfl
def WN(a b:Nat)(d:a<18446744073709551616)(c:b<18446744073709551616):aq 132 [uu a,uu b] [] (.ret (uu (E2 a b))) []:=aDu a b d c _ rfl
def J8(a b:Nat)(d:a<18446744073709551616)(c:b<18446744073709551616):aq 131 [uu a,uu b] [] (.ret (uu (uM a b))) []:=aDj a b d c _ rfl
def bl8(v:Nat):Nat:=if v<1 then 0 else if v<2 then 1 else if v<4 then 2 else if v<8 then 3 else if v<16 then 4 else if v<32 then 5 else if v<64 then 6 else if v<128 then 7 else 8
def aMa:ax:=(Di 256).map λ v=>Dt (bl8 v)
def mR{v:Nat}(h:v<256):aMa[v]? =some (Dt (bl8 v)):=by simp [aMa,h]
def aLO{v:Nat}(h:1<=v)(a:v<256):1<=bl8 v/\bl8 v<=8/\2 ^ (bl8 v-1)<=v/\v<2 ^ bl8 v:=by
 unfold bl8
 repeat' split
 all_goals simp
 all_goals omega
def pQ(v:Nat):bl8 v<=8:=by
 unfold bl8
 repeat' split
 all_goals omega
def kS(v:Nat):((Dt (bl8 v)).toNat:Int)=(bl8 v:Int):=by have:=pQ v;simp;omega
def BL(x n:Nat):Prop:=1<=n/\2 ^ (n-1)<=x/\x<2 ^ n
def BL.up{x n:Nat}(k:Nat)(h:BL (x / 2 ^ k) n):BL x (k+n):=by
 obtain ⟨h1,a,h3⟩:=h;have hp:0<2 ^ k:=Mz d_;refine ⟨by omega,?_,?_⟩
 .have:=(Ib hp).1 a;rw [show k+n-1=n-1+k by omega,Fi];exact this
 .have:=(Dl hp).1 h3;rw [Mc,Fi];exact this
def BL.le{x n:Nat}(h:BL x n)(b:x<18446744073709551616):n<=64:=by
 obtain ⟨h1,a,_⟩:=h;rcases Ni 64 n with h3 | h3
 .have:2 ^ 64<=2 ^ (n-1):=Eu d_ o_;omega
 .exact h3
def sB{v:Nat}(h:1<=v)(b:v<256):BL v (bl8 v):=by obtain ⟨a,_,c,d⟩:=aLO h b;exact ⟨a,c,d⟩
def hiN(x k:Nat):Ki (x:Int) (2 ^ k)=((x / 2 ^ k:Nat):Int):=by rw [Dz _ (Int.pow_nonneg d_)];push_cast;rfl
def J5(x:Nat):Ki (x:Int) (2 ^ Dp 16)=((x / 65536:Nat):Int):=hiN x 16
def hi8(x:Nat):Ki (x:Int) (2 ^ Dp 8)=((x / 256:Nat):Int):=hiN x 8
def Y3(x:Nat)(e:1<=x)(d:x<18446744073709551616):∃ n:Nat,BL x n/\aq 275 [uu x] [] (.ret (ii n)) []:=by
 by_cases i:4294967296<=x
 .by_cases h1:65536<=x / 4294967296
  .by_cases c:256<=x / 4294967296 / 65536
   .have b:BL x (32+(16+(8+(bl8 (x / 4294967296 / 65536 / 256))))):=BL.up 32 (BL.up 16 (BL.up 8 (sB (v:=x / 4294967296 / 65536 / 256) o_ o_)));refine Ap (32+(16+(8+(bl8 (x / 4294967296 / 65536 / 256))))) (Ac b ?_);have a:(x / 4294967296 / 65536 / 256)<256:=o_;refine c_ Tryz.f275 λ_=>?_
    repeat' first | (refine gN hE ?_;conv=>whnf) | (rw [fN];refine Ac d_ ?_) | (rw [J5];refine Ac d_ ?_) | (rw [hi8];refine Ac d_ ?_) | refine Ap _ (Ac (mR a) ?_) | (rw [kS];have:=pQ ((x / 4294967296 / 65536 / 256));refine aJ ?_) | exact rfl | refine zt ?_ | refine zu ?_ ?_ | intro h | fail
    all_goals exact congrArg (λ n=>Res.ret (aa.int .i64 n)) (by (try rw [kS]);omega)
   .have b:BL x (32+(16+(bl8 (x / 4294967296 / 65536)))):=BL.up 32 (BL.up 16 (sB (v:=x / 4294967296 / 65536) o_ o_));refine Ap (32+(16+(bl8 (x / 4294967296 / 65536)))) (Ac b ?_);have a:(x / 4294967296 / 65536)<256:=o_;refine c_ Tryz.f275 λ_=>?_
    repeat' first | (refine gN hE ?_;conv=>whnf) | (rw [fN];refine Ac d_ ?_) | (rw [J5];refine Ac d_ ?_) | (rw [hi8];refine Ac d_ ?_) | refine Ap _ (Ac (mR a) ?_) | (rw [kS];have:=pQ ((x / 4294967296 / 65536));refine aJ ?_) | exact rfl | refine zt ?_ | refine zu ?_ ?_ | intro h | fail
    all_goals exact congrArg (λ n=>Res.ret (aa.int .i64 n)) (by (try rw [kS]);omega)
  .by_cases c:256<=x / 4294967296
   .have b:BL x (32+(8+(bl8 (x / 4294967296 / 256)))):=BL.up 32 (BL.up 8 (sB (v:=x / 4294967296 / 256) o_ o_));refine Ap (32+(8+(bl8 (x / 4294967296 / 256)))) (Ac b ?_);have a:(x / 4294967296 / 256)<256:=o_;refine c_ Tryz.f275 λ_=>?_
    repeat' first | (refine gN hE ?_;conv=>whnf) | (rw [fN];refine Ac d_ ?_) | (rw [J5];refine Ac d_ ?_) | (rw [hi8];refine Ac d_ ?_) | refine Ap _ (Ac (mR a) ?_) | (rw [kS];have:=pQ ((x / 4294967296 / 256));refine aJ ?_) | exact rfl | refine zt ?_ | refine zu ?_ ?_ | intro h | fail
    all_goals exact congrArg (λ n=>Res.ret (aa.int .i64 n)) (by (try rw [kS]);omega)
   .have b:BL x (32+(bl8 (x / 4294967296))):=BL.up 32 (sB (v:=x / 4294967296) o_ o_);refine Ap (32+(bl8 (x / 4294967296))) (Ac b ?_);have a:(x / 4294967296)<256:=o_;refine c_ Tryz.f275 λ_=>?_
    repeat' first | (refine gN hE ?_;conv=>whnf) | (rw [fN];refine Ac d_ ?_) | (rw [J5];refine Ac d_ ?_) | (rw [hi8];refine Ac d_ ?_) | refine Ap _ (Ac (mR a) ?_) | (rw [kS];have:=pQ ((x / 4294967296));refine aJ ?_) | exact rfl | refine zt ?_ | refine zu ?_ ?_ | intro h | fail
    all_goals exact congrArg (λ n=>Res.ret (aa.int .i64 n)) (by (try rw [kS]);omega)
 .by_cases h1:65536<=x
  .by_cases c:256<=x / 65536
   .have b:BL x (16+(8+(bl8 (x / 65536 / 256)))):=BL.up 16 (BL.up 8 (sB (v:=x / 65536 / 256) o_ o_));refine Ap (16+(8+(bl8 (x / 65536 / 256)))) (Ac b ?_);have a:(x / 65536 / 256)<256:=o_;refine c_ Tryz.f275 λ_=>?_
    repeat' first | (refine gN hE ?_;conv=>whnf) | (rw [fN];refine Ac d_ ?_) | (rw [J5];refine Ac d_ ?_) | (rw [hi8];refine Ac d_ ?_) | refine Ap _ (Ac (mR a) ?_) | (rw [kS];have:=pQ ((x / 65536 / 256));refine aJ ?_) | exact rfl | refine zt ?_ | refine zu ?_ ?_ | intro h | fail
    all_goals exact congrArg (λ n=>Res.ret (aa.int .i64 n)) (by (try rw [kS]);omega)
   .have b:BL x (16+(bl8 (x / 65536))):=BL.up 16 (sB (v:=x / 65536) o_ o_);refine Ap (16+(bl8 (x / 65536))) (Ac b ?_);have a:(x / 65536)<256:=o_;refine c_ Tryz.f275 λ_=>?_
    repeat' first | (refine gN hE ?_;conv=>whnf) | (rw [fN];refine Ac d_ ?_) | (rw [J5];refine Ac d_ ?_) | (rw [hi8];refine Ac d_ ?_) | refine Ap _ (Ac (mR a) ?_) | (rw [kS];have:=pQ ((x / 65536));refine aJ ?_) | exact rfl | refine zt ?_ | refine zu ?_ ?_ | intro h | fail
    all_goals exact congrArg (λ n=>Res.ret (aa.int .i64 n)) (by (try rw [kS]);omega)
  .by_cases c:256<=x
   .have b:BL x (8+(bl8 (x / 256))):=BL.up 8 (sB (v:=x / 256) o_ o_);refine Ap (8+(bl8 (x / 256))) (Ac b ?_);have a:(x / 256)<256:=o_;refine c_ Tryz.f275 λ_=>?_
    repeat' first | (refine gN hE ?_;conv=>whnf) | (rw [fN];refine Ac d_ ?_) | (rw [J5];refine Ac d_ ?_) | (rw [hi8];refine Ac d_ ?_) | refine Ap _ (Ac (mR a) ?_) | (rw [kS];have:=pQ ((x / 256));refine aJ ?_) | exact rfl | refine zt ?_ | refine zu ?_ ?_ | intro h | fail
    all_goals exact congrArg (λ n=>Res.ret (aa.int .i64 n)) (by (try rw [kS]);omega)
   .have b:BL x (bl8 (x)):=sB (v:=x) o_ o_;refine Ap (bl8 (x)) (Ac b ?_);have a:x<256:=o_;refine c_ Tryz.f275 λ_=>?_
    repeat' first | (refine gN hE ?_;conv=>whnf) | (rw [fN];refine Ac d_ ?_) | (rw [J5];refine Ac d_ ?_) | (rw [hi8];refine Ac d_ ?_) | refine Ap _ (Ac (mR a) ?_) | (rw [kS];have:=pQ (x);refine aJ ?_) | exact rfl | refine zt ?_ | refine zu ?_ ?_ | intro h | fail
    all_goals exact congrArg (λ n=>Res.ret (aa.int .i64 n)) (by (try rw [kS]);omega)
def aMI(x n:Nat)(a:n<=64)(h:aq 275 [uu x] [] (.ret (ii n)) []):aq 263 [uu x] [] (.ret (ii ((64-n:Nat):Int))) []:=by
 have e:(64:Int)-(n:Int)=((64-n:Nat):Int):=o_;refine c_ Tryz.f263 λ_=>?_
 repeat' first | (refine gN hE ?_;conv=>whnf) | refine .pure _ [] h ?_ | exact rfl | refine zt ?_ | refine zu ?_ ?_ | intro h | fail
 rw [e]
def wu(n:Int):IntKind.wrap .u64 n=n % 18446744073709551616:=by simp [IntKind.wrap,IntKind.signed,IntKind.bits]
def aAU(x y:Nat):Lx (x:Int) (y:Int)=((x / y:Nat):Int):=rfl
noncomputable abbrev fD:Func:=Tryz.f249
def dvF(s Y a b u c d q r:Nat):ar:=[(2,uu Y),(8,uu s),(9,uu a),(10,uu b),(11,uu u),(13,uu c),(14,uu d),(15,uu q),(16,uu r)]
def dvG(s Y a b u c d q t e r:Nat):ar:=[(2,uu Y),(8,uu s),(9,uu a),(10,uu b),(11,uu u),(13,uu c),(14,uu d),(15,uu q),(16,uu r),(17,uu t),(18,uu e)]
def aDZ(s Y a b u c f:Nat)(G:aa)(h1:2147483648<=a)(t:a<4294967296)(z:b<4294967296)(w:c<4294967296)(x:u<a*4294967296+b)
  (fin:∀ r,To E fD (.pure (.ret G)) (.code (nC fD 21) (dvF s Y a b u c f ((u*4294967296+c) / (a*4294967296+b)) r) [])):
  ∀ (q r:Nat),Dg a b u c q r->r<4294967296->To E fD (.pure (.ret G)) (.head (stk fD 0) (dvF s Y a b u c f q r) []):=by
 intro q;induction q using Hx with
 | _ q p=>
 intro r e B;have l:(4294967296:Int)*(r:Int)=((4294967296*r:Nat):Int):=o_;have j:((4294967296*r:Nat):Int)+(c:Int)=((4294967296*r+c:Nat):Int):=o_;have k:(q:Int)*(b:Int)=((q*b:Nat):Int):=(Ef q b).symm;have step:(4294967296<=q\/4294967296*r+c<q*b)->To E fD (.pure (.ret G)) (.code (nC fD 18) (dvF s Y a b u c f q r) []):=λ y=>by
  obtain ⟨F,d⟩:=e.step w x y;have C:=d.few;have n:=e.few;have i:(q:Int)-1=((q-1:Nat):Int):=o_;have m:(r:Int)+(a:Int)=((r+a:Nat):Int):=o_;unfold dvF;by_cases o:4294967296<=r+a
  .have g:=(d.fin (Dg.far z o_ o)).2;have fin:=fin (r+a);rw [<-g] at fin;refine gV ?_;rw [i];refine aJ (gV ?_);rw [m];refine aJ (gV ?_);refine aT λ h=>?_;exact zqda9
  .have next:=p (q-1) o_ (r+a) d o_
   unfold dvF at next
   repeat' first | (refine gN hE ?_;conv=>whnf) | (rw [i];refine aJ ?_) | (rw [m];refine aJ ?_) | exact rfl | refine zt ?_ | refine zu ?_ ?_ | intro h | fail
   exact zW
 by_cases v:4294967296<=q
 .have step:=step (.inl v);unfold dvF at step⊢;refine gV ?_;refine aT λ h=>gV ?_;refine aY ?_;exact zqda10
 .have D:q*b<=4294967295*4294967295:=Gk o_ o_;by_cases A:4294967296*r+c<q*b
  .have step:=step (.inr A);unfold dvF at step⊢;refine gV ?_;refine aF λ h=>gV ?_;rw [k];refine aJ (gV ?_);rw [l];refine aJ (gV ?_);rw [j];refine aJ (gV ?_);refine aT λ h=>?_;exact zqda10
  .have g:=(e.fin o_).2;have fin:=fin r;rw [<-g] at fin;unfold dvF at fin⊢;refine gV ?_;refine aF λ h=>gV ?_;rw [k];refine aJ (gV ?_);rw [l];refine aJ (gV ?_);rw [j];refine aJ (gV ?_);refine aF λ h=>?_;exact zqda9
def aDY(s Y a b u g c p t:Nat)(G:aa)(h1:2147483648<=a)(w:a<4294967296)(B:b<4294967296)(y:c<4294967296)(z:t<a*4294967296+b)
  (fin:∀ r,To E fD (.pure (.ret G)) (.code (nC fD 28) (dvG s Y a b u g c p t ((t*4294967296+c) / (a*4294967296+b)) r) [])):
  ∀ (q r:Nat),Dg a b t c q r->r<4294967296->To E fD (.pure (.ret G)) (.head (stk fD 1) (dvG s Y a b u g c p t q r) []):=by
 intro q;induction q using Hx with
 | _ q v=>
 intro r e D;have l:(4294967296:Int)*(r:Int)=((4294967296*r:Nat):Int):=o_;have j:((4294967296*r:Nat):Int)+(c:Int)=((4294967296*r+c:Nat):Int):=o_;have k:(q:Int)*(b:Int)=((q*b:Nat):Int):=(Ef q b).symm;have step:(4294967296<=q\/4294967296*r+c<q*b)->To E fD (.pure (.ret G)) (.code (nC fD 25) (dvG s Y a b u g c p t q r) []):=λ A=>by
  obtain ⟨I,d⟩:=e.step y z A;have F:=d.few;have n:=e.few;have i:(q:Int)-1=((q-1:Nat):Int):=o_;have m:(r:Int)+(a:Int)=((r+a:Nat):Int):=o_;unfold dvG;by_cases o:4294967296<=r+a
  .have f:=(d.fin (Dg.far B o_ o)).2;have fin:=fin (r+a);rw [<-f] at fin;refine gV ?_;rw [i];refine aJ (gV ?_);rw [m];refine aJ (gV ?_);refine aT λ h=>?_;exact zqda7
  .have next:=v (q-1) o_ (r+a) d o_
   unfold dvG at next
   repeat' first | (refine gN hE ?_;conv=>whnf) | (rw [i];refine aJ ?_) | (rw [m];refine aJ ?_) | exact rfl | refine zt ?_ | refine zu ?_ ?_ | intro h | fail
   exact zW
 by_cases x:4294967296<=q
 .have step:=step (.inl x);unfold dvG at step⊢;refine gV ?_;refine aT λ h=>gV ?_;refine aY ?_;exact zqda8
 .have H:q*b<=4294967295*4294967295:=Gk o_ o_;by_cases C:4294967296*r+c<q*b
  .have step:=step (.inr C);unfold dvG at step⊢;refine gV ?_;refine aF λ h=>gV ?_;rw [k];refine aJ (gV ?_);rw [l];refine aJ (gV ?_);rw [j];refine aJ (gV ?_);refine aT λ h=>?_;exact zqda8
  .have f:=(e.fin o_).2;have fin:=fin r;rw [<-f] at fin;unfold dvG at fin⊢;refine gV ?_;refine aF λ h=>gV ?_;rw [k];refine aJ (gV ?_);rw [l];refine aJ (gV ?_);rw [j];refine aJ (gV ?_);refine aF λ h=>?_;exact zqda7
def aIa{a lo y s L:Nat}(f:BL y L)(p:L<=64)(hs:s=64-L)(k:a<y)(hl:lo<18446744073709551616):
  9223372036854775808<=y*2 ^ s/\y*2 ^ s<18446744073709551616/\a*2 ^ s+lo / 2 ^ (64-s)<y*2 ^ s/\lo / 2 ^ (64-s)<2 ^ s/\(a*18446744073709551616+lo) / y=((a*2 ^ s+lo / 2 ^ (64-s))*18446744073709551616+lo*2 ^ s % 18446744073709551616) / (y*2 ^ s):=by
 obtain ⟨m,g,j⟩:=f;have hp:0<2 ^ s:=Mz d_;have b:2 ^ (64-s)*2 ^ s=18446744073709551616:=by rw [<-Fi,show 64-s+s=64 by omega]
 have n:2 ^ (L-1)*2 ^ s=9223372036854775808:=by rw [<-Fi,show L-1+s=63 by omega]
 have q:2 ^ L*2 ^ s=18446744073709551616:=by rw [<-Fi,show L+s=64 by omega]
 have o:2 ^ (L-1)*2 ^ s<=y*2 ^ s:=Br _ g;have l:y*2 ^ s<2 ^ L*2 ^ s:=Nat.mul_lt_mul_of_pos_right j hp;have c:lo*2 ^ s / 18446744073709551616=lo / 2 ^ (64-s):=by rw [<-b,Mt _ _ hp]
 have i:=Fx (lo*2 ^ s) 18446744073709551616;rw [c] at i;have e:lo / 2 ^ (64-s)<2 ^ s:=by refine (Dl (Mz d_)).2 ?_;rw [Dd,b];exact hl
 have d:(a+1)*2 ^ s<=y*2 ^ s:=Br _ k;rw [Bw,Gu] at d;have h:(a*18446744073709551616+lo)*2 ^ s=(a*2 ^ s+lo / 2 ^ (64-s))*18446744073709551616+lo*2 ^ s % 18446744073709551616:=by rw [Bw,Bw,Nat.mul_right_comm];omega
 refine ⟨by omega,by omega,by omega,e,?_⟩;rw [<-h,Mt _ _ hp]
def aFL(x s:Nat):(x:Int)*2 ^ Dp (s:Int)=((x*2 ^ s:Nat):Int):=by rw [Bv];push_cast;rfl
def aJU(x s:Nat):Ki (x:Int) (2 ^ Dp (s:Int))=((x / 2 ^ s:Nat):Int):=hiN x s
def aH9(s Y g i u m b q t a r:Nat)(hs:s<=64)(k:q*4294967296+a<18446744073709551616)(n:Y<18446744073709551616)(f:a*Y<=t*4294967296+b)(d:t*4294967296+b-a*Y<18446744073709551616):
  To E fD (.pure (.ret (.tup [uu (q*4294967296+a),uu ((t*4294967296+b-a*Y) / 2 ^ s)]))) (.code (nC fD 28) (dvG s Y g i u m b q t a r) []):=by
 have h:q*4294967296<18446744073709551616:=Nat.lt_of_le_of_lt (Nat.le_add_right _ _) k;have c:(q:Int)*4294967296=((q*4294967296:Nat):Int):=o_;have j:((q*4294967296:Nat):Int)+(a:Int)=((q*4294967296+a:Nat):Int):=o_;have l:(a:Int)*(Y:Int)=((a*Y:Nat):Int):=(Ef a Y).symm;have e:IntKind.wrap .u64 (IntKind.wrap .u64 (IntKind.wrap .u64 ((t:Int)*4294967296)+(b:Int))-IntKind.wrap .u64 ((a*Y:Nat):Int))=((t*4294967296+b-a*Y:Nat):Int):=by
  simp only [wu];generalize a*Y=z at *
  omega
 unfold dvG;generalize p:t*4294967296+b-a*Y=R at *
 generalize o:a*Y=P at *
 refine gV ?_;rw [c];refine aJ (gV ?_);rw [j];refine aJ (gV ?_);refine Ko (gV ?_);refine Ko (gV ?_);rw [l];refine Ko (gV ?_);refine Ko (gV ?_);rw [e,aJU];refine Ac (Ac o_ (show Dp (s:Int)<=64 by omega)) ?_;refine gW hE ?_;conv=>whnf
def aLv(s Y a f u b d q r:Nat)(G:aa)(h1:2147483648<=a)(g:a<4294967296)(j:f<4294967296)(l:b<4294967296)(e:d<4294967296)(h:Y=a*4294967296+f)(A:u<Y)(k:q=(u*4294967296+b) / Y)
  (fin:∀ r,To E fD (.pure (.ret G)) (.code (nC fD 28) (dvG s Y a f u b d q (u*4294967296+b-q*Y) (((u*4294967296+b-q*Y)*4294967296+d) / Y) r) [])):
  To E fD (.pure (.ret G)) (.code (nC fD 21) (dvF s Y a f u b d q r) []):=by
 have n:q*Y<=u*4294967296+b:=by rw [k];exact Hi ..
 have i:0<Y:=o_;have c:=O6 i k rfl;have y:(q:Int)*(Y:Int)=((q*Y:Nat):Int):=(Ef q Y).symm;have m:IntKind.wrap .u64 (IntKind.wrap .u64 (IntKind.wrap .u64 ((u:Int)*4294967296)+(b:Int))-IntKind.wrap .u64 ((q*Y:Nat):Int))=((u*4294967296+b-q*Y:Nat):Int):=by
  simp only [wu];generalize q*Y=z at *
  omega
 generalize u*4294967296+b-q*Y=t at *
 have p:=aDY s Y a f u b d q t G h1 g j e (by rw [<-h];exact c) (by rw [<-h];exact fin) (t / a) (t % a) (Dg.zero h1 j e (by rw [<-h];exact c)) (by have:=Fg t (show 0<a by omega);omega);have v:=Fx t a;have o:=aAU t a;have w:((t / a:Nat):Int)*(a:Int)=((t / a*a:Nat):Int):=(Ef _ _).symm;have x:(t:Int)-((t / a*a:Nat):Int)=((t % a:Nat):Int):=by
  rw [Dd] at v;generalize t / a*a=z at *
  omega
 have C:t / a*a<=t:=Hi ..;have B:t / a<=t:=Hc ..;have hm:=Fg t (show 0<a by omega);unfold dvF;unfold dvG at p;generalize t / a*a=z at *
 generalize t / a=q2 at *
 generalize t % a=r2 at *
 generalize q*Y=P at *
 refine gV ?_;refine Ko (gV ?_);refine Ko (gV ?_);rw [y];refine Ko (gV ?_);refine Ko (gV ?_);rw [m];refine Ac o_ (gV ?_);rw [o];refine aJ (gV ?_);rw [w];refine aJ (gV ?_);rw [x];exact zW
def aH8(b lo y s Y H Q U A a e i d q r z:Nat)(G:aa)(N:0<b)(S:b<y)(hs:s<=63)(c:aq 263 [uu y] [] (.ret (ii s)) [])
  (O:Y<18446744073709551616) (k:H<=U) (R:U<Y) (K:Q<=U) (t:(y:Int)*2 ^ Dp (s:Int)=(Y:Int)) (I:(b:Int)*2 ^ Dp (s:Int)=(H:Int)) (n:Ki (lo:Int) (2 ^ Dp ((64-s:Nat):Int))=(Q:Int))
  (v:dL .or .u64 (H:Int) (Q:Int)=(U:Int)) (B:IntKind.wrap .u64 ((lo:Int)*2 ^ (min (Dp (s:Int)) (IntKind.bits .u64)))=(A:Int))
  (F:Ki (Y:Int) (2 ^ Dp 32)=(a:Int)) (p:dL .and .u64 (Y:Int) 4294967295=(e:Int)) (C:Ki (A:Int) (2 ^ Dp 32)=(i:Int)) (u:dL .and .u64 (A:Int) 4294967295=(d:Int))
  (l:0<a) (j:Lx (U:Int) (a:Int)=(q:Int)) (m:(q:Int)*(a:Int)=(z:Int)) (J:(U:Int)-(z:Int)=(r:Int)) (P:z<=U) (L:q<=U) (M:r<=U)
  (w:To E fD (.pure (.ret G)) (.head (stk fD 0) (dvF s Y a e U i d q r) [])):aq 249 [uu b,uu lo,uu y] [] (.ret G) []:=by
 have o:((y:Int)==0)=false:=beq_eq_false_iff_ne.2 o_;have x:((b:Int)==0)=false:=beq_eq_false_iff_ne.2 o_;have D:(64:Int)-(s:Int)=((64-s:Nat):Int):=o_;unfold dvF at w;refine c_ Tryz.f249 λ_=>gV ?_;refine Ac (λ h=>absurd (o.symm.trans h) d_) (λ_=>gV ?_);refine aF λ h=>gV ?_;refine Ac (λ h=>absurd (x.symm.trans h) d_) (λ_=>gV ?_);refine .pure _ [] c (gV ?_);refine aJ (gV ?_);refine Ac o_ (gV ?_);rw [t];refine Gd (Ac (Ac (show Dp (s:Int)<=64 by omega) (Ac (by simp only [cJ];omega) (by simp only [bE];omega))) ?_);refine gV ?_;rw [F];refine Ac d_ (gV ?_);rw [p];refine Ac o_ (gV ?_);rw [I];refine Gd (Ac (Ac (show Dp (s:Int)<=64 by omega) (Ac (by simp only [cJ];omega) (by simp only [bE];omega))) ?_);refine gV ?_;rw [D];refine aJ (gV ?_);rw [n];refine Ac (Ac o_ (show Dp ((64-s:Nat):Int)<=64 by omega)) ?_;refine gV ?_;rw [v];refine Ac o_ (gV ?_);refine Ko (gV ?_);rw [B,C];refine Ac d_ (gV ?_);rw [u];refine Ac o_ (gV ?_);rw [j];refine aJ (gV ?_);rw [m];refine aJ (gV ?_);rw [J];exact zW
def SR(b lo y:Nat)(h0:0<b)(hh:b<y)(X:y<18446744073709551616)(hl:lo<18446744073709551616):∃ m:Int,aq 249 [uu b,uu lo,uu y] [] (.ret (.tup [uu ((b*18446744073709551616+lo) / y),.int .u64 m])) []:=by
 obtain ⟨L,R,hc⟩:=Y3 y o_ X;have d:=R.le X;have t:=aMI y L d hc;have hL1:=R.1
 obtain ⟨s,hs⟩:∃ s,s=64-L:=⟨_,rfl⟩
 obtain ⟨n1,n2,C,V,T⟩:=aIa R d hs hh hl;rw [<-hs] at t;rw [T];have hA:lo*2 ^ s % 18446744073709551616<18446744073709551616:=Fg _ d_;have g:dL .or .u64 ((b*2 ^ s:Nat):Int) ((lo / 2 ^ (64-s):Nat):Int)=((b*2 ^ s+lo / 2 ^ (64-s):Nat):Int):=by
  have S:=Ig V b;rw [Dd] at S;rw [S];generalize y*2 ^ s=Y at *
  generalize b*2 ^ s=H at *
  generalize lo / 2 ^ (64-s)=Q at *
  exact oM .u64 H Q (by simp only [bE];omega) (by simp only [bE];omega)
 have i:IntKind.wrap .u64 ((lo:Int)*2 ^ (min (Dp (s:Int)) (IntKind.bits .u64)))=((lo*2 ^ s % 18446744073709551616:Nat):Int):=by have h:=aFL lo s;rw [Bv] at h;rw [wu,Bv,Gr (show s<=IntKind.bits .u64 from (show s<=64 by omega)),h];generalize lo*2 ^ s=z;omega
 have e:=aFL y s;have j:=aFL b s;have c:=aJU lo (64-s);clear V;generalize y*2 ^ s=Y at *
 generalize b*2 ^ s=H at *
 generalize lo / 2 ^ (64-s)=Q at *
 generalize lo*2 ^ s % 18446744073709551616=A at *
 have D:H<=H+Q:=Nat.le_add_right ..;have J:Q<=H+Q:=Nat.le_add_left ..;generalize H+Q=U at *
 have k:2147483648<=Y / 4294967296:=by clear e j c g i;omega
 have o:Y / 4294967296<4294967296:=by clear e j c g i;omega
 have l:Y % 4294967296<4294967296:=Fg _ d_;have n:A / 4294967296<4294967296:=by clear e j c g i;omega
 have B:A % 4294967296<4294967296:=Fg _ d_;have a:Y=Y / 4294967296*4294967296+Y % 4294967296:=by clear e j c g i;omega
 have Z:U*18446744073709551616+A=U*18446744073709551616+A / 4294967296*4294967296+A % 4294967296:=by clear e j c g i;omega
 have P:=fN Y;have F:=NT Y n2;have M:=fN A;have I:=NT A hA;have p:0<Y:=o_;rw [Z];clear Z T;generalize A / 4294967296=a1 at *
 generalize A % 4294967296=a0 at *
 have two:=aIm (Y:=Y) (u:=U) (v:=a1) (w:=a0) p rfl rfl rfl B;have x:(U*18446744073709551616+a1*4294967296+a0) / Y<18446744073709551616:=(Dl p).2 (by clear e j c g i P F M I two a;omega);have G:(((U*4294967296+a1-(U*4294967296+a1) / Y*Y)*4294967296+a0) / Y)*Y<=(U*4294967296+a1-(U*4294967296+a1) / Y*Y)*4294967296+a0:=Hi ..;have O:=O6 (N:=(U*4294967296+a1-(U*4294967296+a1) / Y*Y)*4294967296+a0) p rfl rfl;have tail:=λ r=>aH9 s Y (Y / 4294967296) (Y % 4294967296) U a1 a0 ((U*4294967296+a1) / Y) (U*4294967296+a1-(U*4294967296+a1) / Y*Y) (((U*4294967296+a1-(U*4294967296+a1) / Y*Y)*4294967296+a0) / Y) r o_ (by rw [two];exact x) n2 G (Nj O n2);rw [two] at tail;have mid:=λ r=>aLv s Y (Y / 4294967296) (Y % 4294967296) U a1 a0 ((U*4294967296+a1) / Y) r _ k o l n B a C rfl tail;have q:0<Y / 4294967296:=o_;have K:=Fg U q;have W:=aDZ s Y (Y / 4294967296) (Y % 4294967296) U a1 a0 _ k o l n (by rw [<-a];exact C) (by rw [<-a];exact mid) (U / (Y / 4294967296)) (U % (Y / 4294967296)) (Dg.zero k l n (by rw [<-a];exact C)) (Nj K o);have et:=Fx U (Y / 4294967296)
 exact ⟨_,aH8 b lo y s Y H Q U A _ _ a1 a0 _ _ (U / (Y / 4294967296)*(Y / 4294967296)) _ h0 hh o_ t n2 D C J e j c g i P F M I q (aAU _ _) (Ef _ _).symm (by
  rw [Dd] at et;generalize U / (Y / 4294967296)*(Y / 4294967296)=z at *
  clear e j c g i P F M I a tail mid W two
  omega) (Hi ..) (Hc ..) (Md ..) W⟩
def aL9(x y:Nat):Int.tmod (x:Int) (y:Int)=((x % y:Nat):Int):=rfl
def SQ(lo y:Nat)(d:0<y)(e:y<18446744073709551616)(hl:lo<18446744073709551616):aq 249 [uu 0,uu lo,uu y] [] (.ret (.tup [uu (lo / y),uu (lo % y)])) []:=by
 have c:((y:Int)==0)=false:=beq_eq_false_iff_ne.2 o_;have b:=aAU lo y;have a:=aL9 lo y;have j:lo / y<=lo:=Hc ..;have i:=Md lo y;generalize lo / y=q at *
 generalize lo % y=r at *
 refine c_ Tryz.f249 λ_=>gV ?_;refine Ac (λ h=>absurd (c.symm.trans h) d_) (λ_=>?_)
 repeat' first | (refine gN hE ?_;conv=>whnf) | (rw [b];refine aJ ?_) | (rw [a];refine aJ ?_) | exact rfl | refine zt ?_ | refine zu ?_ ?_ | intro h | fail
 rw [a]
def aD4(a lo y:Nat)(c:a<y)(b:y<18446744073709551616)(hl:lo<18446744073709551616):∃ m:Int,aq 249 [uu a,uu lo,uu y] [] (.ret (.tup [uu ((a*18446744073709551616+lo) / y),.int .u64 m])) []:=by
 rcases Fp a with rfl | h
 .rw [Mb,Bp];exact ⟨_,SQ lo y c b hl⟩
 .exact SR a lo y h c b hl
def aLN(a b:Nat)(p:a<18446744073709551616)(k:b<18446744073709551616)(r:Nat)(c:A4 a b=r):aq 217 [uu a,uu b] [] (.ret (uu r)) []:=by
 unfold A4 at c;by_cases j:a=0
 .subst j;have c:0=r:=c;subst c;exact c_ Tryz.f217 λ_=>zW
 .have e:((a:Int)==0)=false:=beq_eq_false_iff_ne.2 o_;rw [if_neg j] at c;have d:=fN a
  obtain ⟨W,o⟩:∃ W,W=a % 4294967296*4294967296:=⟨_,rfl⟩
  have l:IntKind.wrap .u64 ((a:Int)*2 ^ (min (Dp 32) (IntKind.bits .u64)))=(W:Int):=by show IntKind.wrap .u64 ((a:Int)*4294967296)=_;rw [wu];omega
  by_cases h1:b<=a / 4294967296
  .have c:18446744073709551615=r:=by
    rcases Fp b with rfl | hp
    .exact c
    .rw [if_neg o_,aLz hp h1] at c;exact c
   subst c;generalize a / 4294967296=H at *
   refine c_ Tryz.f217 λ_=>gV ?_;refine Ac (λ h=>absurd (e.symm.trans h) d_) (λ_=>gV ?_);rw [d];refine Ac d_ (gV ?_);refine Ac d_ (gV ?_);refine Ko ?_;exact zW
  .obtain ⟨m,i⟩:=aD4 (a / 4294967296) W b o_ k o_;have n:a / 4294967296*18446744073709551616+W=a*4294967296:=o_;rw [n] at i;rw [if_neg o_,(aLy o_).2] at c;rw [c] at i;generalize a / 4294967296=H at *
   refine c_ Tryz.f217 λ_=>gV ?_;refine Ac (λ h=>absurd (e.symm.trans h) d_) (λ_=>gV ?_);rw [d];refine Ac d_ (gV ?_);refine Ac d_ (gV ?_);refine Ko (gV ?_);refine aF λ h=>?_;rw [l];exact zW
def aJo(a b:Nat)(d:a<18446744073709551616)(c:b<18446744073709551616):aq 217 [uu a,uu b] [] (.ret (uu (A4 a b))) []:=aLN a b d c _ rfl
def WJ(a b:Nat)(d:a<18446744073709551616)(c:b<18446744073709551616):aq 252 [uu a,uu b] [] (.ret (uu (A4 a b))) []:=by have h:=aJo a b d c;generalize A4 a b=r at h;exact c_ Tryz.f252 λ_=>zW
def BM(a b:Int)(i:a<=9223372036854775807)(e:b<=9223372036854775807):aq 175 [ii a,ii b] [] (.ret (uu (JA a b))) []:=by have h:=aJo (max a 0).toNat (max b 0).toNat o_ o_;unfold JA;have c:(((max a 0).toNat:Nat):Int)=max a 0:=o_;have d:(((max b 0).toNat:Nat):Int)=max b 0:=o_;generalize A4 (max a 0).toNat (max b 0).toNat=r at h;unfold uu at h;rw [c,d] at h;exact c_ Tryz.f175 λ_=>zW
def aFS(n:Nat):FD n=if n<18446744073709551616 then n else 18446744073709551615:=rfl
def SU:az:=[3037000499,3611622602,3938502375,4112874772,4202935002,4248701964,4271771996,4283353945,4289156689,4292061009,4293513906,4294240539,4294603902,4294785595,4294876444,4294921869]
abbrev aAW:ay:=SU.map uu
def FN(f x i:Nat):Nat:=if f.testBit (15-i)=true then uM x ((SU[i]?).getD 0) else x
def aM2(f:Nat):Nat:=(Di 16).foldl (FN f) 4294967296
def uR(age half:Int):Nat:=
 if 63<(max age 0).toNat / (max half 1).toNat then 0 else aM2 (JA (((max age 0).toNat % (max half 1).toNat:Nat):Int) ((max half 1).toNat:Int) / 65536) / 2 ^ ((max age 0).toNat / (max half 1).toNat)
def aIV(f k:Nat):f &&& 2 ^ k=if f.testBit k=true then 2 ^ k else 0:=by
 refine Nat.eq_of_testBit_eq λ j=>?_;rw [Nat.testBit_and,Ky];by_cases h:k=j
 .subst h;cases f.testBit k<;>simp
 .cases f.testBit k<;>simp [h,Ky]
def aD6{i:Nat}(h:i<16):∃ p:Nat,SU[i]? =some p/\p<=4294967296/\aAW[i]? =some (uu p):=by
 have hl:SU.length=16:=rfl;refine ⟨SU[i],Aa o_,?_,by show (SU.map uu)[i]? =_;rw [Bg,Aa o_];rfl⟩;have:∀ p∈SU,p<=4294967296:=by decide
 exact this _ (Bf _)
def aCq{x p:Nat}(a:x<=4294967296)(hp:p<=4294967296):uM x p<=4294967296:=by
 unfold uM;have h1:x*p<=4294967296*4294967296:=Gk a hp;generalize x*p=z at *
 rw [aFS];split<;>omega
def WO{f x i:Nat}(b:i<16)(a:x<=4294967296):FN f x i<=4294967296:=by
 unfold FN;obtain ⟨p,h1,c,_⟩:=aD6 b;rw [h1];split
 .exact aCq a c
 .exact a
def WP(f:Nat):∀ (l:az) (x:Nat),(∀ i∈l,i<16)->x<=4294967296->l.foldl (FN f) x<=4294967296
 | [],x,_,hx=>hx
 | i::l,x,h,hx=>WP f l _ (λ j a=>h j (Ay _ a)) (WO (h i (Ao ..)) hx)
def aHE(f:Nat):aM2 f<=4294967296:=WP f _ _ (λ i a=>Ho.1 a) (Bd _)
def aHF(age half:Int):uR age half<=4294967296:=by
 unfold uR;split
 .omega
 .exact Cx (Hc ..) (aHE _)
def wD(a b:Int):JA a b<18446744073709551616:=aIl _ _
def Q1(f:Nat){i:Nat}(h:i<16)(x:Nat):((Di 16).drop i).foldl (FN f) x=((Di 16).drop (i+1)).foldl (FN f) (FN f x i):=by rw [Ae (by simpa using h)];simp
def aAB{i:Nat}(h:i<16):i=0\/i=1\/i=2\/i=3\/i=4\/i=5\/i=6\/i=7\/i=8\/i=9\/i=10\/i=11\/i=12\/i=13\/i=14\/i=15:=o_
def QG:aq 176 [] [] (.ret (.agg aAW)) []:=by exact c_ Tryz.f176 λ_=>zW
noncomputable abbrev fDF:Func:=Tryz.f127
def aIn(A H f:Nat)(F:f<18446744073709551616)(D:A<9223372036854775808)(B:0<H)(v:H<9223372036854775808)(G:A / H<=63)(R:Nat):∀ (m i x:Nat),i+m=16->x<=4294967296->((Di 16).drop i).foldl (FN f) x / 2 ^ (A / H)=R->
  To E fDF (.pure (.ret (uu R))) (.head (stk fDF 0) [(0,ii A),(1,ii H),(5,uu f),(6,uu x),(23,.agg aAW),(24,ii i)] []):=by
 intro m;induction m with
 | zero=>
  intro i x u j c;rw [Ah q_] at c;have c:x / 2 ^ (A / H)=R:=c;have e:=aAU A H;have d:=aJU x (A / H);rw [c] at d;have z:A / H<=A:=Hc ..;generalize A / H=q at *
  refine gV ?_;refine aF λ h=>gV ?_;refine Ac o_ (gV ?_);rw [e];refine aJ (gV ?_);rw [d];refine Ac (Ac o_ (show Dp (q:Int)<=64 by omega)) ?_;refine gW hE ?_;conv=>whnf
 | succ m n=>
  intro i x u j c;rw [Q1 f o_] at c;have next:=n (i+1) (FN f x i) o_ (WO o_ j) c
  obtain ⟨p,hp,s,l⟩:=aD6 (i:=i) o_;have e:(15:Int)-(i:Int)=((15-i:Nat):Int):=o_;have d:(1:Int)*2 ^ Dp ((15-i:Nat):Int)=((2 ^ (15-i):Nat):Int):=by have:=aFL 1 (15-i);rw [Gu] at this;exact this
  have t:2 ^ (15-i)<=2 ^ 15:=Eu d_ o_;have a:=yM .u64 f (2 ^ (15-i)) (by simp only [bE];omega) (by simp only [bE];omega);rw [aIV] at a;have o:0<2 ^ (15-i):=Mz d_;unfold FN at next
  rw [hp] at next
  have hm:=J8 x p o_ o_;have C:15-i<=15:=o_;generalize 15-i=k at *
  have go:∀ b,f.testBit k=b->To E fDF (.pure (.ret (uu R))) (.head (stk fDF 0) [(0,ii A),(1,ii H),(5,uu f),(6,uu x),(23,.agg aAW),(24,ii i)] []):=λ b g=>by
   cases b with
   | true=>
    rw [g,if_pos rfl] at next
    rw [g] at a;have nxt:To E fDF (.pure (.ret (uu R))) (.head (stk fDF 0) [(0,ii A),(1,ii H),(5,uu f),(6,uu (uM x p)),(23,.agg aAW),(24,ii ((i+1:Nat):Int))] []):=next
    clear next
    generalize uM x p=y at *
    have a:dL .and .u64 (f:Int) ((2 ^ k:Nat):Int)=((2 ^ k:Nat):Int):=by rw [a];rfl
    generalize 2 ^ k=w at *
    have r:((w:Int) !=0)=true:=by rw [bne_iff_ne];omega
    rcases aAB (show i<16 by omega) with rfl | rfl | rfl | rfl | rfl | rfl | rfl | rfl | rfl | rfl | rfl | rfl | rfl | rfl | rfl | rfl
    all_goals cases hp
    all_goals
     exact zqda0
   | false=>
    rw [g,if_neg d_] at next
    rw [g] at a;have a:dL .and .u64 (f:Int) ((2 ^ k:Nat):Int)=0:=by rw [a];rfl
    generalize 2 ^ k=w at *
    have r:((0:Int) !=0)=false:=rfl;rcases aAB (show i<16 by omega) with rfl | rfl | rfl | rfl | rfl | rfl | rfl | rfl | rfl | rfl | rfl | rfl | rfl | rfl | rfl | rfl
    all_goals cases hp
    all_goals
     exact zqda0
  exact go _ rfl
def R4(age half:Int)(h1:age<=9223372036854775807)(t:half<=9223372036854775807)(R:Nat)(a:uR age half=R):aq 127 [ii age,ii half] [] (.ret (uu R)) []:=by
 unfold uR at a;have e:(((max age 0).toNat:Nat):Int)=max age 0:=o_;have i:(((max half 1).toNat:Nat):Int)=max half 1:=o_;have l:(max age 0).toNat<9223372036854775808:=o_;have k:0<(max half 1).toNat:=o_;have b:(max half 1).toNat<9223372036854775808:=o_;generalize (max age 0).toNat=A at *
 generalize (max half 1).toNat=H at *
 have c:=aAU A H;have n:=aL9 A H;have s:A / H<=A:=Hc ..;have m:=Md A H;by_cases d:63<A / H
 .rw [if_pos d] at a;subst a;generalize A / H=q at *
  refine c_ Tryz.f127 λ_=>gV ?_;rw [<-e,<-i];refine Ac o_ (gV ?_);rw [c];exact zW
 .rw [if_neg d] at a;have j:=BM ((A % H:Nat):Int) (H:Int) o_ o_;have o:=wD ((A % H:Nat):Int) (H:Int);generalize JA ((A % H:Nat):Int) (H:Int)=T at *
  have p:=J5 T;have u:=aIn A H (T / 65536) o_ l k b o_ R 16 0 4294967296 o_ (Bd _) a;generalize T / 65536=f at *
  generalize A / H=q at *
  generalize A % H=r at *
  refine c_ Tryz.f127 λ_=>gV ?_;rw [<-e,<-i];refine Ac o_ (gV ?_);rw [c];refine aJ (gV ?_);refine aF λ h=>gV ?_;refine Ac o_ (gV ?_);rw [n];refine .pure _ [] j (gV ?_);rw [p];refine Ac d_ (gV ?_);refine .pure _ [] QG ?_;exact zW
def ZM(age half:Int)(h1:age<=9223372036854775807)(a:half<=9223372036854775807):aq 127 [ii age,ii half] [] (.ret (uu (uR age half))) []:=R4 age half h1 a _ rfl
def ZZ(x:Nat)(n m:Int):Nat:=if 0<n then max x (JA n m) else x
def Z0(u v:V3):Nat:=ZZ (ZZ (ZZ 0 u.a v.a) u.b v.b) u.c v.c
def KN{x:Nat}{n m:Int}(h:x<18446744073709551616):ZZ x n m<18446744073709551616:=by
 have:=wD n m;unfold ZZ;split
 .omega
 .exact h
def aIg(u v:V3):Z0 u v<18446744073709551616:=KN (KN (KN d_))
def aL5(v u:V3)(M:Imm)(ob:Hs)(vs:ba)(h:cA M ob vs [v.av,u.av]):(inR .i64 v.a/\inR .i64 v.b/\inR .i64 v.c)/\inR .i64 u.a/\inR .i64 u.b/\inR .i64 u.c:=by
 have hl:1<vs.length:=by rw [h.1];simp
 have h1:=h.2 0 _ v.av (Aa o_) rfl;have d:=h.2 1 _ u.av (Aa hl) rfl;exact ⟨⟨cD h1 0 _ rfl,cD h1 1 _ rfl,cD h1 2 _ rfl⟩,cD d 0 _ rfl,cD d 1 _ rfl,cD d 2 _ rfl⟩
def aIf(u v:V3)(r:Nat)(d:Z0 u v=r):aq 137 [u.av,v.av] [] (.ret (uu r)) []:=by
  refine aA.get _ (aL5 u v) λ⟨⟨⟨a1,a2⟩,⟨b1,b2⟩,⟨c1,c2⟩⟩,⟨d1,d2⟩,⟨e1,e2⟩,⟨f1,f2⟩⟩=>?_;simp only [cJ,bE] at a1 a2 b1 b2 c1 c2 d1 d2 e1 e2 f1 f2;have h1:=BM u.a v.a o_ o_;have e:=BM u.b v.b o_ o_;have h3:=BM u.c v.c o_ o_;have l1:=wD u.a v.a;have l2:=wD u.b v.b;have l:=wD u.c v.c;unfold Z0 ZZ at d;generalize JA u.a v.a=p at *
  generalize JA u.b v.b=q at *
  generalize JA u.c v.c=s at *
  by_cases k:0<u.a<;>by_cases i:0<u.b<;>by_cases j:0<u.c<;>simp only [k,i,j,if_true,if_false] at d
  all_goals
   subst d;refine c_ Tryz.f137 λ_=>gV ?_
   repeat' first
    | (refine gW hE ?_;conv=>whnf)
    | refine .pure _ [] h1 ?_
    | refine .pure _ [] e ?_
    | refine .pure _ [] h3 ?_
    | exact rfl
    | refine aY ?_
    | refine aN ?_
    | refine aT λ h=>?_
    | refine aF λ h=>?_
    | refine aJ ?_
    | refine Ap _ (Ac rfl ?_)
    | refine Ac d_ ?_
    | fail
   all_goals exact congrArg (λ n=>Res.ret (aa.int .u64 n)) o_
def aJB(v:V3)(h:Hos):V3:=fQ v h.c
def B9(c:Con):V3:=c.hs.foldl aJB V3.zero
noncomputable abbrev aM3:Func:=Tryz.f133
def aAN(l:List Hos)(hl:l.length<=1048576)(r:V3):∀ (m i:Nat) (v:V3),i+m=l.length->(l.drop i).foldl aJB v=r->
  To E aM3 (.pure (.ret r.av)) (.head (stk aM3 0) [(2,.ref 0 0),(3,.ref 1 0),(7,.slice 6 (hav l) .no),(8,ii (l.length:Nat)),(9,ii i)] [.cells 32 V3.zero.cs,.cells 32 v.cs]):=by
 have d:(hav l).length=l.length:=by simp
 intro m;induction m with
 | zero=>
  intro i v e a;rw [Ah o_] at a;have a:v=r:=a;subst a;refine gV ?_;exact zW
 | succ m g=>
  intro i v e a;have b:i<l.length:=o_;rw [Ae b,Bc] at a;have next:=g (i+1) _ o_ a
  have get:=wU b;generalize l[i]=x at get next
  have f:=iN v x.c;unfold aJB at next
  generalize fQ v x.c=w at f next
  refine gV ?_;exact zW
def aAM(c:Con)(b:c.sm):aq 133 [c.av] [] (.ret (B9 c).av) []:=by
 have a:(hav c.hs).length=c.hs.length:=by simp
 have h1:=b.hs;have next:=aAN c.hs o_ (B9 c) c.hs.length 0 V3.zero o_ rfl
 generalize B9 c=r at next
 rw [<-a] at next
 refine c_ Tryz.f133 λ_=>?_
 repeat' first | (refine gN hE ?_;conv=>whnf) | exact rfl | refine zt ?_ | refine zu ?_ ?_ | intro h | fail
 refine To.part [2,3,7,8,9] [1,2] rfl rfl rfl ?_;exact next
def eB{α:Type}(d:Nat->α->Nat):List α->Nat->az
 | [],_=>[]
 | x::r,i=>d i x::eB d r (i+1)
def jO{α:Type}(d:Nat->α->Nat):∀ (l:List α) (i:Nat),(eB d l i).length=l.length
 | [],_=>rfl
 | _::r,i=>by simp [eB,jO d r (i+1)]
def HU{α:Type}(d:Nat->α->Nat):∀ (l:List α) (i k:Nat) (h:k<l.length),(eB d l i)[k]? =some (d (i+k) l[k])
 | [],_,k,h=>absurd h s_
 | x::r,i,0,_=>rfl
 | x::r,i,k+1,h=>by have:=HU d r (i+1) k (by simpa using h);simp only [eB,Fu,List.getElem_cons_succ];rw [this,show i+1+k=i+(k+1) by omega]
def aDf{l:az}{i:Nat}(h:i<l.length):(fv l)[i]? =some (uu l[i]):=by simp [fv,h]
def LtF(l:az):Prop:=∀ x∈l,x<18446744073709551616
def uJ(c:Con)(i:Nat)(v:V3):Nat:=if bD c.ns (i:Int)=true then Z0 v (B9 c) else 0
def AX(c:Con)(l:a6):az:=eB (uJ c) (ofL c l) 0
def tkS(a:az)(n half:Int)(i:Nat)(x:Nat):Nat:=if i<a.length then E2 (uM x (uR n half)) (uM ((a[i]?).getD 0) (ofF n)) else uM x (uR n half)
def tkL(h a:az)(n half:Int):az:=eB (tkS a n half) h 0
def TR(c:Con):az:=eB (λ_ _=>0) c.ns 0
noncomputable abbrev aM0:Func:=Tryz.f134
abbrev aK3(c:Con):aa:=.func (.func 136) [] [.ptr c.cs,.ptr (B9 c).cs]
def aDz(c:Con) (l:a8)(hl:l.length<=1048576)(hm:∀ (i:Nat) (h:i<l.length),aq 136 (ii i::l[i].av::[.ptr c.cs,.ptr (B9 c).cs]) [] (.ret (uu ((uJ c) i l[i]))) [])(R:az):∀ (m i:Nat) (a:az),i+m=l.length->a.length=i->a++eB (uJ c) (l.drop i) i=R->
  To (Eo [5] []) aM0 (.pure (.ret (.slice 1 (fv R) .no))) (.head (stk aM0 0) [(1,aK3 c),(5,.slice 1 (fv a) (.own 0 0)),(8,.slice 3 (vav l) .no),(9,ii (l.length:Nat)),(10,ii i)] [.tail 0 1 82]):=by
 have j:(vav l).length=l.length:=by simp
 intro m;induction m with
 | zero=>
  intro i a p n b;exact zqda4
 | succ m k=>
  intro i a p n b;have d:i<l.length:=o_;have get:=vM d;have g:=hm i d;rw [Ae d] at b;generalize l[i]=x at get g b;have b:a++((uJ c) i x::eB (uJ c) (l.drop (i+1)) (i+1))=R:=b;generalize (uJ c) i x=y at g b;have next:=k (i+1) (a++[y]) o_ q_ (by rw [Af];exact b)
  have e:fv (a++[y])=fv a++[uu y]:=by simp [fv]
  rw [e] at next
  have o:(fv a).length=a.length:=by simp
  refine gV ?_;exact zW
def aLf(c:Con) (l:a8)(hl:l.length<=1048576)(hm:∀ (i:Nat) (h:i<l.length),aq 136 (ii i::l[i].av::[.ptr c.cs,.ptr (B9 c).cs]) [] (.ret (uu ((uJ c) i l[i]))) []):
  aq 134 [.slice 3 (vav l) .no,aK3 c] [] (.ret (.slice 1 (fv (eB (uJ c) l 0)) .no)) []:=by
 have a:(vav l).length=l.length:=by simp
 have next:=aDz c l hl hm (eB (uJ c) l 0) l.length 0 [] o_ rfl rfl
 generalize eB (uJ c) l 0=R at next
 rw [<-a] at next
 refine cT (E:=(Eo [5] [])) (fn:=Tryz.f134) (g:=.pure _) λ_=>?_;exact zW
noncomputable abbrev aMZ:Func:=Tryz.f129
abbrev aK2(sh:az)(n half:Int):aa:=.func (.func 130) [] [.ptr [uu (uR n half)],.ptr [.slice 1 (fv sh) .no],.ptr [uu (ofF n)]]
def aDy(d:az)(n half:Int) (l:az)(hl:l.length<=1048576)(hm:∀ (i:Nat) (h:i<l.length),aq 130 (ii i::uu l[i]::[.ptr [uu (uR n half)],.ptr [.slice 1 (fv d) .no],.ptr [uu (ofF n)]]) [] (.ret (uu ((tkS d n half) i l[i]))) [])(R:az):∀ (m i:Nat) (a:az),i+m=l.length->a.length=i->a++eB (tkS d n half) (l.drop i) i=R->
  To (Eo [5] []) aMZ (.pure (.ret (.slice 1 (fv R) .no))) (.head (stk aMZ 0) [(1,aK2 d n half),(5,.slice 1 (fv a) (.own 0 0)),(8,.slice 1 (fv l) .no),(9,ii (l.length:Nat)),(10,ii i)] [.tail 0 1 82]):=by
 have j:(fv l).length=l.length:=by simp
 intro m;induction m with
 | zero=>
  intro i a q o b;exact zqda4
 | succ m k=>
  intro i a q o b;have c:i<l.length:=o_;have get:=aDf c;have g:=hm i c;rw [Ae c] at b;generalize l[i]=x at get g b;have b:a++((tkS d n half) i x::eB (tkS d n half) (l.drop (i+1)) (i+1))=R:=b;generalize (tkS d n half) i x=y at g b;have next:=k (i+1) (a++[y]) o_ q_ (by rw [Af];exact b)
  have e:fv (a++[y])=fv a++[uu y]:=by simp [fv]
  rw [e] at next
  have p:(fv a).length=a.length:=by simp
  refine gV ?_;exact zW
def aLe(a:az)(n half:Int) (l:az)(hl:l.length<=1048576)(hm:∀ (i:Nat) (h:i<l.length),aq 130 (ii i::uu l[i]::[.ptr [uu (uR n half)],.ptr [.slice 1 (fv a) .no],.ptr [uu (ofF n)]]) [] (.ret (uu ((tkS a n half) i l[i]))) []):
  aq 129 [.slice 1 (fv l) .no,aK2 a n half] [] (.ret (.slice 1 (fv (eB (tkS a n half) l 0)) .no)) []:=by
 have b:(fv l).length=l.length:=by simp
 have next:=aDy a n half l hl hm (eB (tkS a n half) l 0) l.length 0 [] o_ rfl rfl
 generalize eB (tkS a n half) l 0=R at next
 rw [<-b] at next
 refine cT (E:=(Eo [5] [])) (fn:=Tryz.f129) (g:=.pure _) λ_=>?_;exact zW
noncomputable abbrev aMY:Func:=Tryz.f114
abbrev aK1:aa:=.func (.func 115) [] []
def aDx  (l:bc)(hl:l.length<=1048576)(hm:∀ (i:Nat) (h:i<l.length),aq 115 (ii i::l[i].av::[]) [] (.ret (uu ((λ_ _=>0) i l[i]))) [])(R:az):∀ (m i:Nat) (a:az),i+m=l.length->a.length=i->a++eB (λ_ _=>0) (l.drop i) i=R->
  To (Eo [5] []) aMY (.pure (.ret (.slice 1 (fv R) .no))) (.head (stk aMY 0) [(1,aK1),(5,.slice 1 (fv a) (.own 0 0)),(8,.slice 11 (nav l) .no),(9,ii (l.length:Nat)),(10,ii i)] [.tail 0 1 82]):=by
 have g:(nav l).length=l.length:=by simp
 intro m;induction m with
 | zero=>
  intro i a o k b;exact zqda4
 | succ m j=>
  intro i a o k b;have c:i<l.length:=o_;have get:=kX c;have d:=hm i c;rw [Ae c] at b;generalize l[i]=x at get d b;have b:a++((λ_ _=>0) i x::eB (λ_ _=>0) (l.drop (i+1)) (i+1))=R:=b;generalize (λ_ _=>0) i x=y at d b;have next:=j (i+1) (a++[y]) o_ q_ (by rw [Af];exact b)
  have e:fv (a++[y])=fv a++[uu y]:=by simp [fv]
  rw [e] at next
  have n:(fv a).length=a.length:=by simp
  refine gV ?_;exact zW
def aLd  (l:bc)(hl:l.length<=1048576)(hm:∀ (i:Nat) (h:i<l.length),aq 115 (ii i::l[i].av::[]) [] (.ret (uu ((λ_ _=>0) i l[i]))) []):
  aq 114 [.slice 11 (nav l) .no,aK1] [] (.ret (.slice 1 (fv (eB (λ_ _=>0) l 0)) .no)) []:=by
 have a:(nav l).length=l.length:=by simp
 have next:=aDx  l hl hm (eB (λ_ _=>0) l 0) l.length 0 [] o_ rfl rfl
 generalize eB (λ_ _=>0) l 0=R at next
 rw [<-a] at next
 refine cT (E:=(Eo [5] [])) (fn:=Tryz.f114) (g:=.pure _) λ_=>?_;exact zW
def aLx(u v:V3):aq 137 [u.av,v.av] [] (.ret (uu (Z0 u v))) []:=aIf u v _ rfl
def aFN(c:Con)(i:Nat)(v:V3):aq 136 [ii i,v.av,.ptr c.cs,.ptr (B9 c).cs] [] (.ret (uu (uJ c i v))) []:=by
 have h1:=jW c (i:Int);have d:=aLx v (B9 c);unfold uJ;generalize B9 c=a at *
 generalize Z0 v a=y at *
 cases b:bD c.ns (i:Int) with
 | true=>
  rw [b] at h1;exact c_ Tryz.f136 λ_=>zW
 | false=>
  rw [b] at h1;exact c_ Tryz.f136 λ_=>zW
def X9(c:Con)(b:c.sm)(l:a6)(hl:l.length<=1048576):aq 87 [c.av,.slice 14 (rav l) .no] [] (.ret (.slice 1 (fv (AX c l)) .no)) []:=by
 have h1:=aAM c b;have e:=NE c b l hl;have j:=b.ns;have d:(ofL c l).length=c.ns.length:=by unfold ofL mN;simp
 have h3:=aLf c (ofL c l) o_ λ i h=>aFN c i _;unfold AX;unfold aK3 at h3;generalize eB (uJ c) (ofL c l) 0=R at *
 generalize ofL c l=us at *
 generalize B9 c=a at *
 exact c_ Tryz.f87 λ_=>zW
def aJJ(a:az)(hs:LtF a)(hsl:a.length<=1048576)(n half:Int)(i x:Nat)(d:x<18446744073709551616):aq 130 [ii i,uu x,.ptr [uu (uR n half)],.ptr [.slice 1 (fv a) .no],.ptr [uu (ofF n)]] [] (.ret (uu (tkS a n half i x))) []:=by
 have j:=aHF n half;have e:=RF n;have h1:=J8 x (uR n half) d o_;have l1:=JQ x (uR n half);have c:(fv a).length=a.length:=by simp
 unfold tkS;generalize uR n half=f at *
 generalize ofF n=t at *
 generalize uM x f=y at *
 by_cases b:i<a.length
 .rw [if_pos b,Aa b];have get:=aDf b;have hz:=hs _ (Bf b);show aA _ _ _ _ (.ret (uu (E2 y (uM a[i] t)))) _;generalize a[i]=z at *
  have h:=J8 z t hz e;have l2:=JQ z t;generalize uM z t=w at *
  have h3:=WN y w l1 l2;generalize E2 y w=r at *
  exact c_ Tryz.f130 λ_=>zW
 .rw [if_neg b];exact c_ Tryz.f130 λ_=>zW
def aFM(c:Con)(l:a6):LtF (AX c l):=by
 intro x b;obtain ⟨k,a,e⟩:=Iu b;unfold AX at a e;rw [jO] at a;have:=HU (uJ c) (ofL c l) 0 k a;rw [Aa (by rw [jO];exact a),e] at this;cases this;unfold uJ;split
 .exact aIg _ _
 .decide
def aFf(h a:az)(e:LtF h)(hl:h.length<=1048576)(hs:LtF a)(hsl:a.length<=1048576)(n half:Int)(b:n<=9223372036854775807)(c:half<=9223372036854775807):aq 86 [.slice 1 (fv h) .no,.slice 1 (fv a) .no,ii n,ii half] [] (.ret (.slice 1 (fv (tkL h a n half)) .no)) []:=by
 have h1:=ZM n half b c;have j:=R1 n;have h3:=aLe a n half h hl λ i d=>aJJ a hs hsl n half i _ (e _ (Bf d));unfold tkL;unfold aK2 at h3;generalize eB (tkS a n half) h 0=R at *
 generalize uR n half=f at *
 generalize ofF n=t at *
 exact c_ Tryz.f86 λ_=>zW
def aL0(i:Nat)(x:Nod):aq 115 [ii i,x.av] [] (.ret (uu 0)) []:=by exact c_ Tryz.f115 λ_=>zW
def aET(c:Con)(a:c.sm):aq 77 [c.av] [] (.ret (.slice 1 (fv (TR c)) .no)) []:=by
 have b:=a.ns;have h3:=aLd c.ns o_ λ i h=>aL0 i _;unfold TR;unfold aK1 at h3;generalize eB (λ_ _=>0) c.ns 0=R at *
 exact c_ Tryz.f77 λ_=>zW
def jI(a:Int)(l:a7):Int:=Q2.ak a (l.map Pn.q)
def dN(l:a7)(a:Int):a7:=if jI a l<0 then l else l.eraseIdx (jI a l).toNat
def kG(l:a7)(p:Pn):a7:=l.take (Q2.putAt p.q (l.map Pn.q))++[p]++l.drop (Q2.putAt p.q (l.map Pn.q))
def aFg(l:a7)(a:Int):(dN l a).map Pn.q=Q2.takeP (l.map Pn.q) a:=by
 unfold dN Q2.takeP jI;split
 .rfl
 .simp [Fz,Gh,Ix]
def aBV(l:a7)(p:Pn):(kG l p).map Pn.q=Q2.putP (l.map Pn.q) p.q:=by unfold kG Q2.putP;simp [Gh,Ix]
def aBT(l:a7)(a:Int):aq 79 [.slice 11 (pnv l) .no,ii a] [] (.ret (ii (jI a l))) []:=by have h:=Q2.find_ok (l.map Pn.q) a;rw [GG] at h;exact h
def JD(l:a7)(p:Pn)(hl:l.length<=1000000):aq 82 [.slice 11 (pnv l) .no,p.av] [] (.ret (.slice 11 (pnv (kG l p)) .no)) []:=by have h:=Q2.put_ok (l.map Pn.q) p.q (by simpa using hl);rw [<-aBV,GG,GG] at h;exact h
def rI(l:a7)(a:Int)(hl:l.length<=1000000):aq 47 [.slice 11 (pnv l) .no,ii a] [] (.ret (.tup [.slice 11 (pnv (dN l a)) .no,.bool (!decide (jI a l<0))])) []:=by have h:=Q2.take_ok (l.map Pn.q) a (by simpa using hl);rw [<-aFg,GG,GG] at h;exact h
structure Ev where
 (k id n:Int)
 deriving DecidableEq
abbrev _root_.bg:=List Ev
def Ev.cs(e:Ev):ay:=[ii e.k,ii e.id,ii e.n]
def Ev.av(e:Ev):aa:=.agg e.cs
abbrev evv(l:bg):ay:=l.map Ev.av
structure Rd where
 s:Sta
 ev:bg
 head:Bool
 start:Int
def P7(r:Rd)(p:Pn)(fl:Int)(hs:aw):Rd:=
 ⟨{r.s with pend:=dN r.s.pend p.g.id,run:=r.s.run++[⟨p.g,p.seq,p.at',r.s.now,fl,hs⟩]},r.ev++[⟨1,p.g.id,fl⟩],r.head,r.start⟩
def FT(r:Rd)(p:Pn):Option (Int×aw)->Rd×Bool
 | none=>(r,false)
 | some (fl,hs)=>if (r.head&& !bmB r.s.now p.g r.start)=true then (r,false) else (P7 r p fl hs,true)
def admR(r:Rd)(p:Pn):Rd×Bool:=FT r p (cM r.s.c r.s.run p.g)
def dX(run:a6)(r:Rd)(id:Int):Rd:=
 let x:=aU run (aS (λ x=>x.g.id==id) run 0).toNat
 ⟨{r.s with pend:=kG r.s.pend x.pn},r.ev++[⟨2,id,0⟩],r.head,r.start⟩
def mW(r:Rd)(ids:aw):Rd:=
 let q:=ids.foldl (dX r.s.run) r
 ⟨{q.s with run:=aE r.s.run ids},q.ev,q.head,q.start⟩
def pE(r:Rd)(p:Pn):Option Int->Rd
 | none=>r
 | some n=>⟨r.s,r.ev++[⟨4,p.g.id,n⟩],true,n⟩
def aJb(r:Rd)(p:Pn):Option aw->Rd
 | some ids=>(admR (mW r ids) p).1
 | none=>pE r p (uF r.s.c r.s.now r.s.run p.g)
def cQ(r:Rd)(p:Pn):Rd:=
 if (admR r p).2=true then (admR r p).1 else if r.head=true then r else aJb r p (gK r.s.c r.s.run p.g)
def iM(a b:Int):Int:=if a<b then -1 else if b<a then 1 else 0
def QI(c:Con)(h:az)(n:Int):Nat:=(bQ c.ns n).foldl (λ x t=>if t<(h.length:Int) then E2 x ((h[t.toNat]?).getD 0) else x) 0
def aL2(c:Con)(n:Int):Int:=if 0<=n/\n<(c.ns.length:Int) then max 1 (cY c.ns n).w else 1
def oD(c:Con)(h:az)(n:Int):Nat:=A4 (QI c h n) (ofF (aL2 c n))
def tI(c:Con)(h:az)(x y:Int):Int:=if oD c h x<oD c h y then -1 else if oD c h y<oD c h x then 1 else iM x y
def iD(c:Con)(h:az):aw->aw->Int
 | [],[]=>0
 | [],_::_=> -1
 | _::_,[]=>1
 | x::p,y::q=>if x=y then iD c h p q else tI c h x y
def tH(c:Con)(now:Int)(p:Pn):Bool:=decide (0<c.age)&&(decide (p.at'<=now)&&decide (c.age<=now-p.at'))
def ptC(s:Sta)(a b:Pn):Int:=iD s.c s.hist (fI s.c.ns a.g.ten) (fI s.c.ns b.g.ten)
def jG(s:Sta)(a b:Pn):Int:=
 if tH s.c s.now a=true then (if tH s.c s.now b=true then iM a.seq b.seq else -1)
 else if tH s.c s.now b=true then 1 else (if ptC s a b=0 then iM a.seq b.seq else ptC s a b)
def ltP(s:Sta)(a b:Pn):Bool:=decide (jG s a b<0)
def pH{a b:Int}:iM a b<0↔a<b:=by
 unfold iM
 repeat' split
 all_goals omega
def aCg{a b:Int}:iM a b=0↔a=b:=by
 unfold iM
 repeat' split
 all_goals omega
def aGF{a b:Int}:0<iM a b↔b<a:=by
 unfold iM
 repeat' split
 all_goals omega
def aGJ{c:Con}{h:az}{x y:Int}:tI c h x y<0↔oD c h x<oD c h y\/(oD c h x=oD c h y/\x<y):=by
 have:=pH (a:=x) (b:=y);unfold tI
 repeat' split
 all_goals omega
def aGK{c:Con}{h:az}{x y:Int}:0<tI c h x y↔tI c h y x<0:=by
 have h1:=aGF (a:=x) (b:=y);have d:=pH (a:=y) (b:=x);unfold tI
 repeat' split
 all_goals omega
def aCn{c:Con}{h:az}{x y:Int}:tI c h x y=0↔x=y:=by
 have h1:=aCg (a:=x) (b:=y);unfold tI;constructor
 .intro hz
  repeat' split at hz
  all_goals omega
 .rintro rfl;rw [if_neg o_,if_neg o_];exact h1.2 rfl
def uC{c:Con}{h:az}:∀ {p q:aw},iD c h p q=0↔p=q
 | [],[]=>by simp [iD]
 | [],_::_=>by simp [iD]
 | _::_,[]=>by simp [iD]
 | x::p,y::q=>by
  unfold iD;by_cases e:x=y
  .rw [if_pos e,uC];subst e;simp
  .rw [if_neg e];have:=aCn (c:=c) (h:=h) (x:=x) (y:=y);constructor
   .intro h1;exact absurd (this.1 h1) e
   .intro h1;cases h1;exact absurd rfl e
def T7{c:Con}{h:az}:∀ {p q:aw},0<iD c h p q↔iD c h q p<0
 | [],[]=>by simp [iD]
 | [],_::_=>by simp [iD]
 | _::_,[]=>by simp [iD]
 | x::p,y::q=>by
  unfold iD;by_cases e:x=y
  .subst e;rw [if_pos rfl,if_pos rfl];exact T7
  .rw [if_neg e,if_neg (λ h=>e h.symm)];exact aGK
def aGH{c:Con}{h:az}{x y z:Int}(h1:tI c h x y<0)(a:tI c h y z<0):tI c h x z<0:=by
 rw [aGJ] at *
 omega
def T6{c:Con}{h:az}:∀ {p q r:aw},iD c h p q<0->iD c h q r<0->iD c h p r<0
 | [],[],_,h1,_=>by simp [iD] at h1
 | [],_::_,[],_,h2=>by simp [iD] at h2
 | [],_::_,_::_,_,_=>by simp [iD]
 | _::_,[],_,h1,_=>by simp [iD] at h1
 | _::_,_::_,[],_,h2=>by simp [iD] at h2
 | x::p,y::q,z::r,h1,h2=>by
  unfold iD at *
  by_cases b:x=y
  .subst b;rw [if_pos rfl] at h1;by_cases a:x=z
   .rw [if_pos a] at h2⊢;exact T6 h1 h2
   .rw [if_neg a] at h2⊢;exact h2
  .rw [if_neg b] at h1;by_cases a:y=z
   .subst a;rw [if_neg b];exact h1
   .rw [if_neg a] at h2;have h3:=aGH h1 h2;by_cases d:x=z
    .subst d;have:=(aCn (c:=c) (h:=h) (x:=x) (y:=x)).2 rfl;omega
    .rw [if_neg d];exact h3
def iA(s:Sta):Ord (ltP s) where
 irr a:=by have h1:=(uC (c:=s.c) (h:=s.hist) (p:=fI s.c.ns a.g.ten)).2 rfl;have h2:=(aCg (a:=a.seq) (b:=a.seq)).2 rfl;unfold ltP jG ptC;rw [h1,h2];split<;>simp
 tr a b c h1 h2:=by
  unfold ltP jG at *
  simp only [decide_eq_true_eq] at *
  have n1:=pH (a:=a.seq) (b:=b.seq);have n2:=pH (a:=b.seq) (b:=c.seq);have n3:=pH (a:=a.seq) (b:=c.seq);have t1:=uC (c:=s.c) (h:=s.hist) (p:=fI s.c.ns a.g.ten) (q:=fI s.c.ns b.g.ten);have t2:=uC (c:=s.c) (h:=s.hist) (p:=fI s.c.ns b.g.ten) (q:=fI s.c.ns c.g.ten);cases ha:tH s.c s.now a<;>cases hb:tH s.c s.now b<;>cases hc:tH s.c s.now c<;>simp only [ha,hb,hc,if_true,if_false,reduceIte,Cp] at * <;>try omega
  by_cases z1:ptC s a b=0
  .have e1:=t1.1 z1;rw [if_pos z1] at h1;have e3:ptC s a c=ptC s b c:=by unfold ptC;rw [e1]
   rw [e3];split at h2
   .rename_i z;rw [if_pos z];omega
   .rename_i z;rw [if_neg z];exact h2
  .rw [if_neg z1] at h1;by_cases z2:ptC s b c=0
   .have e2:=t2.1 z2;have e3:ptC s a c=ptC s a b:=by unfold ptC;rw [e2]
    rw [e3,if_neg z1];exact h1
   .rw [if_neg z2] at h2;have h3:ptC s a c<0:=T6 h1 h2;rw [if_neg o_];exact h3
def aGY(s:Sta){a b:Pn}(h:a.seq≠b.seq):ltP s a b=true\/ltP s b a=true:=by
 unfold ltP jG;simp only [decide_eq_true_eq];have n1:=pH (a:=a.seq) (b:=b.seq);have n2:=pH (a:=b.seq) (b:=a.seq);have d:=uC (c:=s.c) (h:=s.hist) (p:=fI s.c.ns a.g.ten) (q:=fI s.c.ns b.g.ten);have e:=uC (c:=s.c) (h:=s.hist) (p:=fI s.c.ns b.g.ten) (q:=fI s.c.ns a.g.ten);have j:=T7 (c:=s.c) (h:=s.hist) (p:=fI s.c.ns a.g.ten) (q:=fI s.c.ns b.g.ten);cases i:tH s.c s.now a<;>cases f:tH s.c s.now b<;>simp only [if_true,if_false,reduceIte,Cp]<;>try omega
 unfold ptC;by_cases z:iD s.c s.hist (fI s.c.ns a.g.ten) (fI s.c.ns b.g.ten)=0
 .rw [if_pos z,if_pos (e.2 (d.1 z).symm)];omega
 .rw [if_neg z,if_neg (λ h=>z (d.2 (e.1 h).symm))];omega
def aA0(h:az)(x:Nat)(t:Int):Nat:=if t<(h.length:Int) then E2 x ((h[t.toNat]?).getD 0) else x
def UG{h:az}{x:Nat}{t:Int}(a:x<18446744073709551616):aA0 h x t<18446744073709551616:=by
 unfold aA0;split
 .exact XK _ _
 .exact a
def aFo(c:Con)(h:az)(n:Int):QI c h n<18446744073709551616:=by
 have go:∀ (l:aw) (x:Nat),x<18446744073709551616->l.foldl (aA0 h) x<18446744073709551616:=λ l=>by
  induction l with
  | nil=>exact λ x b=>b
  | cons a l d=>exact λ x b=>d _ (UG b)
 exact go _ _ d_
noncomputable abbrev aHJ:Func:=Tryz.f253
def ZN(h:az)(p:LtF h)(hl:h.length<=1048576)(l:aw)(j:∀ t∈l,0<=t)(k:l.length<=1048576)(R:Nat):∀ (m i x:Nat),i+m=l.length->x<18446744073709551616->(l.drop i).foldl (aA0 h) x=R->
  To E aHJ (.pure (.ret (uu R))) (.head (stk aHJ 0) [(1,.slice 1 (fv h) .no),(7,uu x),(12,.slice 1 (iv l) .no),(13,ii (l.length:Nat)),(14,ii i)] []):=by
 have f:(iv l).length=l.length:=by simp
 have g:(fv h).length=h.length:=by simp
 intro m;induction m with
 | zero=>
  intro i x n d a;rw [Ah o_] at a;have a:x=R:=a;subst a;refine gV ?_;exact zW
 | succ m e=>
  intro i x n d a;have b:i<l.length:=o_;have get:=gR b;have o:=j _ (Bf b);rw [Ae b,Bc] at a;have next:=e (i+1) _ o_ (UG d) a
  clear a e;generalize l[i]=t at *
  unfold aA0 at next
  by_cases h1:t<(h.length:Int)
  .rw [if_pos h1] at next
   have c:t.toNat<h.length:=o_;have r:t=(t.toNat:Int):=o_;have q:=aDf c;have hz:=p _ (Bf c);rw [Aa c] at next
   have next:To E aHJ (.pure (.ret (uu R))) (.head (stk aHJ 0) [(1,.slice 1 (fv h) .no),(7,uu (E2 x h[t.toNat])),(12,.slice 1 (iv l) .no),(13,ii (l.length:Nat)),(14,ii ((i:Int)+1))] []):=next
   generalize h[t.toNat]=z at *
   have s:=WN x z d hz;generalize E2 x z=y at *
   refine gV ?_;exact zW
  .rw [if_neg h1] at next
   refine gV ?_;exact zW
def aHI(c:Con)(e:c.sm)(h:az)(j:LtF h)(hl:h.length<=1048576)(n:Int):aq 253 [c.av,.slice 1 (fv h) .no,ii n] [] (.ret (uu (QI c h n))) []:=by
 have k:=PU c e n;have d:∀ t∈bQ c.ns n,0<=t:=λ t i=>(lD c n t i).1;have b:(bQ c.ns n).length<=1048576:=yZ c e n;have next:=ZN h j hl (bQ c.ns n) d b (QI c h n) (bQ c.ns n).length 0 0 o_ d_ rfl
 generalize QI c h n=R at *
 generalize bQ c.ns n=l at *
 have a:(iv l).length=l.length:=by simp
 try rw [<-a] at next
 exact c_ Tryz.f253 λ_=>zW
end Go.Proofs.YtaeegbkbahgjhaaGreatDoor
namespace Go.AW
open Go.RowKit
def NL:BInv:=⟨λ_ bs _=>bs=[],λ_ _ _ h=>h⟩
def U8:∀ (l:au) (k:Nat) (h:k<l.length),aB l k=l[k]
 | _::_,0,_=>rfl
 | _::r,k+1,h=>U8 r k (by simpa using h)
def Mem.bury{M:Imm}{ob:Hs}{ac:au}{w:World}(hm:Mem M ob ac w){k n:Nat}{d:ba}(x:ac[k]? =some .dead)(t:ob[k]? =some d)(hl:d.length=n+1):
  Mem M (ob.set k (d++[eD []])) (ac.set k (.bun (n+1) NL)) w/\Ext M ob ac w M (ob.set k (d++[eD []])) (ac.set k (.bun (n+1) NL)) w/\dJ ob (ob.set k (d++[eD []])):=by
 have s:k<ac.length:=(Ab.1 x).1;have i:k<ob.length:=(Ab.1 t).1;have g:dJ ob (ob.set k (d++[eD []])):=λ j hs f=>by
  by_cases e:k=j
  .subst e;rw [t] at f;cases f;exact ⟨_,Au i,List.prefix_append _ _⟩
  .exact ⟨hs,by rw [Bb e];exact f,Cn _⟩
 have l:blk (d++[eD []])=[]:=BR s_;have q:∀ {j b:Nat},aG (ob.set k (d++[eD []])) (ac.set k (.bun (n+1) NL)) j b->aG ob ac j b:=λ{j b} ⟨c,hs,o,p,e3,e4⟩=>by
  by_cases e:k=j
  .subst e;rw [Au i] at e3;cases e3;rw [l] at e4;cases e4
  .rw [Bb e] at o e3;exact ⟨c,hs,o,p,e3,e4⟩
 have r:∀ (j:Nat) c,(ac.set k (.bun (n+1) NL))[j]? =some c->∃ hs,(ob.set k (d++[eD []]))[j]? =some hs/\hD M (ob.set k (d++[eD []])) w hs c:=λ j c f=>by
  by_cases e:k=j
  .subst e;rw [Au s] at f;cases f;refine ⟨_,Au i,by simp [hl],[],?_,λ b D=>(by cases D),rfl⟩;rw [Ak o_,hl];simp
  .rw [Bb e] at f;obtain ⟨hs,o,p⟩:=hm.obj j c f;refine ⟨hs,by rw [Bb e];exact o,?_⟩;cases c with
   | cells I cs'=>
    obtain ⟨b,H,G,cv,F,B,C,z⟩:=p;exact ⟨b,H,G,cv,F,B,C,λ n v a y m=>(z n v a y m).mono (λ_ _ _ h=>h) g⟩
   | _=>exact p
 exact ⟨⟨hm.imm,by simp [hm.len],r,λ j b m=>hm.lt j b (q m),λ j A b h1 u=>hm.inj j A b (q h1) (q u)⟩,⟨λ_ _ _ h=>h,λ_ _ _ h=>.inl h,g,rfl,rfl,rfl,Bd _,λ_ _ _=>rfl,λ j b m=>.inl ⟨j,q m⟩⟩,g⟩
def To.bury{E:Env}{fn:Func}{g:Goal}{st:bf}{fr:ar}{ac:au}(k:Nat)(s:aB ac k= .dead)(i:Ff k g.n0=true)(h:∀ n,To E fn g (.code st fr (bM ac k (.bun (n+1) NL))))(e:g.strict=true:=by rfl):To E fn g (.code st fr ac):=
 .mk λ l M0 ob0 d w0 a w hst hs=>by
  obtain ⟨M,ob,m,hm,j,y,u,z⟩:=hs;have c:k<ob0.length:=by rw [hst.1];simpa [Ju] using i
  obtain ⟨hs,p,x⟩:=m.hs k _ (Aa c);have q:=hst.2 e _ (Bf c)
  obtain ⟨n,i⟩:∃ n,hs.length=n+1:=⟨hs.length-1,by have:=x.length_le;omega⟩
  have f:ac[k]? =some .dead:=by have b:k<ac.length:=o_;rw [Aa b];rw [<-U8 ac k b,s]
  obtain ⟨r,v,o⟩:=hm.bury f p i;refine (h n).rec λ h=>h l M0 ob0 d w0 a w hst ?_;rw [aP f];exact ⟨M,_,m.trans v,r,λ t=>(j t).mono (λ_ _ _ h=>h) o,y,u.mono (λ_ _ _ h=>h) o,by simp;omega⟩
end Go.AW
namespace Go.Proofs.YtaeegbkbahgjhaaGreatDoor
open Go Go.AW Go.Proofs
set_option maxRecDepth 10000
def aNE(f:aa):ar:=[(2,.ref 1 0),(6,f)]
def P1(a:aw)(g:Nat)(o:ab):au:=[.dead,.cells 66 [.row 2 g],.row g 1 3 (iv a),o]
def QC{i:Nat}(h:i<=12):i=0\/i=1\/i=2\/i=3\/i=4\/i=5\/i=6\/i=7\/i=8\/i=9\/i=10\/i=11\/i=12:=o_
def aEC(f:aa)(a:aw)(x:Int)(g:Nat)(d:g<=12)(hl:a.length=g)(l:Nat)(R:Loop)(b:R.state= .ready):
  To (El l [] [] []) qN (.keep 4 (.ret (.bool true)) (P1 (a++[x]) (g+1) (.bun 0 (bY l (busy R))))) (.code [.code (rfA qN),.beginR,.code (rfB qN)] (iE (aNE f) 7 (ii x)) (P1 a g (.bun 0 (bY l R)))):=by
 rcases QC d with rfl | rfl | rfl | rfl | rfl | rfl | rfl | rfl | rfl | rfl | rfl | rfl | rfl
 all_goals
  have c:(iv a).length=a.length:=by simp
  have e:iv (a++[x])=iv a++[ii x]:=by simp
  unfold P1;rw [e];refine gV ?_;refine To.beginR (k:=3) (gg:=0) rfl rfl b ?_;exact zW
def auJ(f:aa)(ob0:Hs)(R:Loop)(l:Nat)(a:aw):BInv:=jR ob0 (aNE f) R (P1 a a.length (.bun 0 (bY l R)))
def aEB{j d:Code}(f:aa)(ob0:Hs)(l:Nat)(R:Loop)(a:aw)(x:Int)(hl:a.length<=12)(c:RecOK qN 7 j d R)(m:rfA qN=j)(q:rfB qN=d):
  bH Tryz.prog (.yield l) [ii x] [.bun 0 (auJ f ob0 R l a)] (.ret (.bool true)) [.bun 1 (auJ f ob0 R l (a++[x]))]:=by
 subst m q;unfold auJ;have rd:=λ g (o:g<=12) h=>aEC f a x g o h l R c.ready;have e:(a++[x]).length=a.length+1:=by simp
 obtain ⟨g,i⟩:∃ g,a.length=g:=⟨_,rfl⟩
 rw [e];rw [i] at hl⊢;rcases QC hl with rfl | rfl | rfl | rfl | rfl | rfl | rfl | rfl | rfl | rfl | rfl | rfl | rfl
 all_goals
  exact gT (E:=Ex [] [] []) (fn:=qN) (k:=3) (n:=4) (p:=7) (gg:=0) (L':=P1 (a++[x]) _ (.bun 0 (bY l (busy R)))) (b:=true) c.params c.ready c.pend c.assign c.body c.size rfl rfl rfl rfl rfl rfl rfl λ_=>rd _ hl i
def FW{P:Program}{l B:Nat}(F:aw->BInv)(h:∀ (a:aw) x,a.length<=B->bH P (.yield l) [ii x] [.bun 0 (F a)] (.ret (.bool true)) [.bun 1 (F (a++[x]))]):∀ (xs a:aw),a.length+xs.length<=B+1->Ylds P l xs (F a) (F (a++xs)) true
 | [],a,_=>by rw [Ar];exact .nil _
 | x::r,a,hl=>by have:=FW F h r (a++[x]) (by simp at hl⊢;omega);rw [Af] at this;exact .next x r _ _ _ _ (h a x (by simp at hl;omega)) this
abbrev aE5(c:Con):aa:=.func (.func 243) [] [.ref 0 0,.ptr c.cs]
def aIT(c:Con)(k:c.sm)(n:Int)(i:(upL c.ns n).length<=12):aq 250 [.nilslice,aE5 c] [.cells 3 [ii n]] (.ret (.row 1 0)) [.bun 1 NL,.row 0 1 3 (iv (upL c.ns n))]:=by
 have h:((nav c.ns).length:Int)<=9223372036854775807:=by have:=k.ns;simp only [Cc];omega
 refine cT (E:=E) (fn:=Tryz.f250) (g:=.full 1 _ _) λ_=>gV ?_;refine To.cutC [2,6] 2 rfl rfl rfl rfl ?_;refine To.mapO (aGL 1) (NK 1) ?_;refine To.beginRow 1 0 3 rfl rfl ?_;refine To.range [0] rfl rfl (λ_ _=>by rfl) rfl (λ_ _=>rfl) rfl λ l ob0 R hst p=>?_;have a:=FW (P:=Tryz.prog) (l:=l) (B:=12) (auJ (aE5 c) ob0 R l) (λ e x hl=>aEB (aE5 c) ob0 l R e x hl p rfl rfl) (upL c.ns n) [] q_;rw [Bn] at a;unfold auJ at a;have b:([]:aw).length=0:=rfl;rw [b] at a
 obtain ⟨q,o⟩:∃ q,(upL c.ns n).length=q:=⟨_,rfl⟩
 rw [o] at a i;rcases QC i with rfl | rfl | rfl | rfl | rfl | rfl | rfl | rfl | rfl | rfl | rfl | rfl | rfl
 all_goals
  obtain ⟨m,j,d⟩:=IQ l c n _ _ true h a;refine ⟨_,true,_,[.cells 3 [m]],j,d,rfl,rfl,?_⟩;refine To.bury 0 rfl rfl λ z=>gV ?_;refine ⟨[],[0,2],⟨rfl,rfl⟩,rfl,?_⟩;show [ab.bun (match gm 1 0 (z+1) (z+1) with | some g=>g | none=>0) NL,_]=_;rw [mV];rfl
def aIz(c:Con)(b:c.sm)(n:Int)(a:(upL c.ns n).length<=12):aq 220 [aE5 c] [.cells 3 [ii n]] (.ret (.row 1 0)) [.bun 1 NL,.row 0 1 3 (iv (upL c.ns n))]:=by have h:=aIT c b n a;generalize upL c.ns n=l at h;refine cT (E:=E) (fn:=Tryz.f220) (g:=.full 1 _ _) λ_=>?_;exact zW
def UN{α:Type}(A M B:List α)(x y:α):((A++x::(M++[y])++B).set A.length y).set (A.length+M.length+1) x=A++[y]++M++x::B:=by
 have e:A++x::(M++[y])++B=A++x::(M++y::B):=by simp
 rw [e,Ha _ _ o_,Ha _ _ o_];rw [show A.length-A.length=0 by omega,show A.length+M.length+1-A.length=M.length+1 by omega];simp
noncomputable abbrev aHK:Func:=Tryz.f221
def aBz(R:aw):∀ (n:Nat) (A M B:aw),M.length<=n->A.length+M.length+B.length<=1048576->A++M.reverse++B=R->
  To (Er [] [14,16,17]) aHK (.full 1 (.ret (.tup [])) [.row 0 1 3 (iv R)]) (.head (stk aHK 0) [(0,.row 0 0),(2,ii (A.length:Nat)),(3,ii ((A.length:Int)+M.length-1))] [.row 0 1 3 (iv (A++M++B))]):=by
 intro n;induction n with
 | zero=>
  intro A M B d hl a;have d:M=[]:=Cl.1 o_;subst d;have a:A++[]++B=R:=a;rw [a];have e:(([]:aw).length:Int)=0:=rfl;rw [e];refine gV ?_;exact zW
 | succ n u=>
  intro A M B d hl a;by_cases c:M.length<2
  .have q:M.reverse=M:=by
    match M,c with
    | [],_=>rfl
    | [_],_=>rfl
   rw [q] at a;rw [a];refine gV ?_;exact zW
  .obtain ⟨x,M',y,rfl⟩:∃ x M' y,M=x::(M'++[y]):=by
    match M,c with
    | x::r,c=>
     have f:r≠[]:=λ e=>by subst e;simp at c
     exact ⟨x,r.dropLast,r.getLast f,by rw [Ks]⟩
   have next:=u (A++[y]) M' (x::B) (by simp at d;omega) (by simp at hl⊢;omega) (by rw [<-a];simp)
   have z:(iv (A++x::(M'++[y])++B))[A.length]? =some (ii x):=by simp
   have p:(iv (A++x::(M'++[y])++B))[A.length+M'.length+1]? =some (ii y):=by rw [show A++x::(M'++[y])++B=(A++x::M')++y::B by simp];simp only [Bm];rw [Ak q_];simp only [Cc,Ai,Al,Bl];rw [show A.length+M'.length+1-(A.length+(M'.length+1))=0 by omega];rfl
   have m:((A.length:Int)+((x::(M'++[y])).length:Nat)-1)=((A.length+M'.length+1:Nat):Int):=by simp;omega
   have g:(iv (A++x::(M'++[y])++B)).length=A.length+M'.length+2+B.length:=by simp;omega
   have es:((iv (A++x::(M'++[y])++B)).set A.length (ii y)).set (A.length+M'.length+1) (ii x)=iv (A++[y]++M'++x::B):=by rw [<-UN A M' B x y];simp only [iv,Gt]
   have o:((A++[y]).length:Int)=(A.length:Int)+1:=by simp
   have b:(A.length:Int)+1+(M'.length:Int)-1=((A.length+M'.length+1:Nat):Int)-1:=o_;rw [m];rw [o,b,<-es] at next
   generalize iv (A++x::(M'++[y])++B)=L at *
   have k:A.length+M'.length+1<=1048576:=by simp at hl;omega
   obtain ⟨j,l⟩:∃ j,j=A.length+M'.length+1:=⟨_,rfl⟩
   have w:A.length<j:=o_;have s:j<L.length:=o_;have v:j<=1048576:=o_;rw [<-l] at p next⊢
   clear hl k g m es o b l;generalize A.length=i at *
   refine gV ?_;refine aT λ h=>?_
   repeat' first | (refine gN (hEr [] [14,16,17]) ?_;conv=>whnf) | refine ⟨j,rfl,?_⟩ | refine ⟨_,p,?_⟩ | refine ⟨i,rfl,?_⟩ | refine ⟨_,z,?_⟩ | refine Ac (by rw [Dh];omega) ?_ | exact rfl | refine zt ?_ | refine zu ?_ ?_ | intro h | fail
   exact zW
def aKd(l:aw)(hl:l.length<=1048576):aq 221 [.row 0 0] [.row 0 1 3 (iv l)] (.ret (.tup [])) [.row 0 1 3 (iv l.reverse)]:=by
 have a:(iv l).length=l.length:=by simp
 have next:=aBz l.reverse l.length [] l [] (Bd _) q_ s_
 have e:((0:Nat):Int)+(l.length:Int)-1=((iv l).length:Int)-1:=by rw [a];omega
 have next:To (Er [] [14,16,17]) aHK (.full 1 (.ret (.tup [])) [.row 0 1 3 (iv l.reverse)]) (.head (stk aHK 0) [(0,.row 0 0),(2,ii 0),(3,ii (((0:Nat):Int)+l.length-1))] [.row 0 1 3 (iv (l++[]))]):=next
 rw [e,Ar] at next
 refine cT (E:=(Er [] [14,16,17])) (fn:=Tryz.f221) (g:=.full 1 _ _) λ_=>gV ?_;refine Gd (Ac (Ac (by simp only [cJ];rw [a];omega) (by simp only [bE];rw [a];omega)) ?_);exact zW
def U5(c:Con)(b:c.sm)(n:Int)(a:(upL c.ns n).length<=12):aq 185 [c.av,ii n] [] (.ret (.slice 1 (iv (upL c.ns n).reverse) .no)) []:=by
 have h1:=TY c n;have d:=aIz c b n a;have h3:=aKd (upL c.ns n) o_;generalize upL c.ns n=l at *
 refine c_ Tryz.f185 λ_=>gV ?_;refine .pure _ [.cells 3 [ii n]] h1 ?_;exact zW
def N1(c:Con)(d:c.sm)(h:az)(l:LtF h)(hl:h.length<=1048576)(n:Int):aq 223 [c.av,.slice 1 (fv h) .no,ii n] [] (.ret (uu (oD c h n))) []:=by
  have h1:=aHI c d h l hl n;have l1:=aFo c h n;have i:=d.ns;have k:(nav c.ns).length=c.ns.length:=by simp
  unfold oD;unfold aL2 at *
  by_cases b:0<=n/\n<(c.ns.length:Int)
  .rw [if_pos b];have a:n.toNat<c.ns.length:=o_;have j:n=(n.toNat:Int):=o_;have get:=wI (c:=c) (n:=n) ⟨by omega,a⟩;generalize cY c.ns n=x at *
   have e:=R1 (max 1 x.w);have l2:=RF (max 1 x.w);generalize QI c h n=p at *
   generalize ofF (max 1 x.w)=q at *
   have h3:=WJ p q l1 l2;generalize A4 p q=r at *
   exact zqda11
  .rw [if_neg b];have e:=R1 1;have l2:=RF 1;generalize QI c h n=p at *
   generalize ofF 1=q at *
   have h3:=WJ p q l1 l2;generalize A4 p q=r at *
   by_cases m:0<=n
   .exact zqda11
   .exact zqda11
def U6(c:Con)(now:Int)(p:Pn)(k:0<=now/\now<=1099511627776)(hp:0<=p.at')(l:c.age<=9223372036854775807)(r:Bool)(a:tH c now p=r):aq 183 [c.av,ii now,p.av] [] (.ret (.bool r)) []:=by
  unfold tH at a;have j:IntKind.wrap .u64 now=now:=by rw [wu];omega
  by_cases i:0<c.age
  .by_cases e:p.at'<=now
   .have m:now-p.at'=((now-p.at').toNat:Int):=o_;rw [decide_eq_true i,decide_eq_true e,Cz,Cz] at a;by_cases d:c.age<=now-p.at'
    .rw [decide_eq_true d] at a;subst a;refine c_ Tryz.f183 λ_=>?_
     repeat' first | (refine gN hE ?_;conv=>whnf) | exact rfl | refine zt ?_ | refine zu ?_ ?_ | intro h | fail
     all_goals exact congrArg (λ b=>Res.ret (aa.bool b)) (decide_eq_true d)
    .rw [decide_eq_false d] at a;subst a;refine c_ Tryz.f183 λ_=>?_
     repeat' first | (refine gN hE ?_;conv=>whnf) | exact rfl | refine zt ?_ | refine zu ?_ ?_ | intro h | fail
     all_goals exact congrArg (λ b=>Res.ret (aa.bool b)) (decide_eq_false d)
   .rw [decide_eq_false e,Gi,Es] at a;subst a;exact c_ Tryz.f183 λ_=>zW
  .rw [decide_eq_false i,Gi] at a;subst a;exact c_ Tryz.f183 λ_=>zW
structure OrdOK(s:Sta):Prop where
 sm:s.c.sm
 few:s.c.ns.length<=12
 lt:LtF s.hist
 hl:s.hist.length<=1048576
 now:0<=s.now/\s.now<=1099511627776
 age:s.c.age<=9223372036854775807
def OrdOK.path{s:Sta}(h:OrdOK s)(n:Int):(upL s.c.ns n).length<=12:=Cx (aE3 _ _) h.few
def aAa(a b:Nat):Int:=if a<b then -1 else if b<a then 1 else 0
def aGI(c:Con)(h:az)(x y:Int):tI c h x y=orI (aAa (oD c h x) (oD c h y)) (iM x y):=by
 unfold tI orI aAa
 repeat' split
 all_goals first | rfl | omega
def aIA(s:Sta)(a b:Pn):jG s a b=if tH s.c s.now a=true then (if tH s.c s.now b=true then iM a.seq b.seq else -1) else if tH s.c s.now b=true then 1 else orI (ptC s a b) (iM a.seq b.seq):=by unfold jG orI;rfl
def JP(x:Nat):aq 251 [uu x] [] (.ret (.bool false)) []:=by refine c_ Tryz.f251 λ_=>gV ?_;exact congrArg (λ b=>Res.ret (aa.bool b)) s_
def aEj(a b:Nat)(r:Int)(c:aAa a b=r):aq 222 [uu a,uu b] [] (.ret (ii r)) []:=by
 unfold aAa at c;by_cases h1:a<b
 .rw [if_pos h1] at c;exact zqda2
 .rw [if_neg h1] at c;by_cases e:b<a
  .rw [if_pos e] at c;exact zqda2
  .rw [if_neg e] at c;exact zqda2
def BH(a b:Int):aq 184 [ii a,ii b] [] (.ret (ii (iM a b))) []:=W9 a b _ rfl
def aCk(s:Sta)(h:OrdOK s)(x y:Int):aq 186 [.ptr s.cs,ii x,ii y] [] (.ret (ii (tI s.c s.hist x y))) []:=by
 have h1:=N1 s.c h.sm s.hist h.lt h.hl x;have b:=N1 s.c h.sm s.hist h.lt h.hl y;have h3:=aEj (oD s.c s.hist x) (oD s.c s.hist y) _ rfl;have d:=BH x y;rw [aGI];have a:=C4 (aAa (oD s.c s.hist x) (oD s.c s.hist y)) (iM x y) _ rfl;generalize aAa (oD s.c s.hist x) (oD s.c s.hist y)=p at *
 generalize iM x y=q at *
 generalize orI p q=r at *
 generalize oD s.c s.hist x=l1 at *
 generalize oD s.c s.hist y=l2 at *
 exact c_ Tryz.f186 λ_=>zW
noncomputable abbrev aNg:Func:=Tryz.f139
abbrev cpF(s:Sta)(p q:aw)(t:Int)(i:Nat):ar:=[(0,.ptr s.cs),(4,.ref 0 0),(5,.ref 1 0),(9,ii t),(10,.slice 1 (iv p) .no),(11,.slice 1 (iv q) .no),(90,ii ((min p.length q.length:Nat):Int)),(91,ii i)]
abbrev cpO(a b:Pn):au:=[.cells 79 a.cs,.cells 79 b.cs]
def aAL{c:Con}{h:az}:∀ {p q:aw},(p=[]\/q=[])->iD c h p q=iM p.length q.length
 | [],[],_=>rfl
 | [],_::_,_=>by simp [iD,iM]
 | _::_,[],_=>by
  show (1:Int)=iM _ _;unfold iM;rw [if_neg (by simp<;>omega),if_pos (by simp<;>omega)]
 | _::_,_::_,h=>by rcases h with h | h<;>cases h
def aIw(s:Sta)(h:OrdOK s)(a b:Pn)(p q:aw)(hp:p.length<=12)(D:q.length<=12)(R:Int)(j:orI (iD s.c s.hist p q) (iM a.seq b.seq)=R):∀ (m i:Nat),i+m=min p.length q.length->iD s.c s.hist p q=iD s.c s.hist (p.drop i) (q.drop i)->
  To E aNg (.pure (.ret (ii R))) (.head (stk aNg 0) (cpF s p q (iM p.length q.length) i) (cpO a b)):=by
 have v:(iv p).length=p.length:=by simp
 have o:(iv q).length=q.length:=by simp
 have hs:=BH a.seq b.seq;intro m;induction m with
 | zero=>
  intro i w d;have h1:iD s.c s.hist p q=iM p.length q.length:=by
   have r:p.drop i=[]\/q.drop i=[]:=by
    rcases Nat.le_total p.length q.length with h | h
    .exact .inl (Ah o_)
    .exact .inr (Ah o_)
   rw [d,aAL r,Eh,Eh];unfold iM
   repeat' split
   all_goals omega
  rw [h1] at j;have A:=C4 _ _ _ j;exact zqda6
 | succ m k=>
  intro i w d;have g:i<p.length:=o_;have f:i<q.length:=o_;have F:=gR g;have B:=gR f;have next:=k (i+1) o_
  rw [Ae g,Ae f] at d;have l:iD s.c s.hist (p[i]::p.drop (i+1)) (q[i]::q.drop (i+1))=if p[i]=q[i] then iD s.c s.hist (p.drop (i+1)) (q.drop (i+1)) else tI s.c s.hist p[i] q[i]:=rfl
  rw [l] at d;clear l;have C:=aCk s h p[i] q[i];by_cases e:p[i]=q[i]
  .rw [if_pos e] at d;have n:(p[i] !=q[i])=false:=by rw [e];simp
   have next:=next d
   generalize p[i]=x at *
   generalize q[i]=y at *
   generalize iM p.length q.length=t at *
   refine gV ?_;exact zW
  .rw [if_neg e] at d;have n:(p[i] !=q[i])=true:=by simpa using e
   rw [d] at j;have A:=C4 _ _ _ j;clear next k d
   generalize tI s.c s.hist p[i] q[i]=z at *
   generalize p[i]=x at *
   generalize q[i]=y at *
   exact zqda6
def PD(s:Sta)(h:OrdOK s)(a b:Pn)(r:0<=a.at')(v:0<=b.at')(R:Int)(d:jG s a b=R):aq 139 [.ptr s.cs,a.av,b.av] [] (.ret (ii R)) []:=by
 have n:=U6 s.c s.now a h.now r h.age _ rfl;have i:=U6 s.c s.now b h.now v h.age _ rfl;have hs:=BH a.seq b.seq;rw [aIA] at d;cases h1:tH s.c s.now a with
 | true=>
  rw [h1] at n d;rw [if_pos rfl] at d;cases e:tH s.c s.now b with
  | true=>
   rw [e] at i d;rw [if_pos rfl] at d;rw [d] at hs;exact zqda3
  | false=>
   rw [e] at i d;rw [if_neg d_] at d;subst d;exact zqda3
 | false=>
  rw [h1] at n d;rw [if_neg d_] at d;cases e:tH s.c s.now b with
  | true=>
   rw [e] at i d;rw [if_pos rfl] at d;subst d;exact zqda3
  | false=>
   rw [e] at i d;rw [if_neg d_] at d;by_cases k:a.g.ten=b.g.ten
   .have hz:ptC s a b=0:=by unfold ptC;rw [k];exact uC.2 rfl
    rw [hz] at d;have B:=C4 _ _ _ d;have o:(a.g.ten !=b.g.ten)=false:=by rw [k];simp
    generalize iM a.seq b.seq=u at *
    exact zqda3
   .have o:(a.g.ten !=b.g.ten)=true:=by simpa using k
    have z:=U5 s.c h.sm a.g.ten (h.path _);have x:=U5 s.c h.sm b.g.ten (h.path _);have l1:(upL s.c.ns a.g.ten).reverse.length<=12:=by rw [List.length_reverse];exact h.path _
    have l2:(upL s.c.ns b.g.ten).reverse.length<=12:=by rw [List.length_reverse];exact h.path _
    have m:=aIw s h a b (upL s.c.ns a.g.ten).reverse (upL s.c.ns b.g.ten).reverse l1 l2 R d _ 0 (Bp _) rfl;generalize (upL s.c.ns a.g.ten).reverse=p at *
    generalize (upL s.c.ns b.g.ten).reverse=q at *
    have l:(iv p).length=p.length:=by simp
    have j:(iv q).length=q.length:=by simp
    have y:=BH (iv p).length (iv q).length;have w:((min p.length q.length:Nat):Int)=min (p.length:Int) (q.length:Int):=o_;unfold cpF at m;rw [w,<-l,<-j] at m;generalize iM ((iv p).length:Int) ((iv q).length:Int)=t at *
    exact zqda3
abbrev kQ(s:Sta):aa:=.func (.func 141) [] [.ptr [.func (.func 139) [] []],.ptr s.cs]
def vV(s:Sta)(h:OrdOK s)(a b:Pn)(d:0<=a.at')(c:0<=b.at'):aq 141 [a.av,b.av,.ptr [.func (.func 139) [] []],.ptr s.cs] [] (.ret (ii (jG s a b))) []:=by
 have h1:=PD s h a b d c _ rfl;generalize jG s a b=r at *
 exact c_ Tryz.f141 λ_=>zW
def A0(s:Sta):a7:=srt (ltP s) s.pend
def aHh{x y:Pn}{s:Sta}{out:a7}{k:Nat}(h:out[k]? =some y):oH (ltP s) x out (k+1)=if ltP s x y=true then oH (ltP s) x out k else k+1:=by simp only [oH,h]
def sL(l:a7):(pnv l).length=l.length:=by simp
def UQ(A B:a7)(x:Pn){i:Nat}(a:i=A.length):(pnv (A++x::B))[i]? =some x.av:=by subst a;simp
def BD(A M B:a7)(x y:Pn){i j:Nat}(a:i=A.length)(d:j=A.length+M.length+1):
  (pnv (A++x::(M++y::B)))[i]? =some x.av/\(pnv (A++x::(M++y::B)))[j]? =some y.av/\((pnv (A++x::(M++y::B))).set i y.av).set j x.av=pnv (A++y::(M++x::B))/\((pnv (A++x::(M++y::B))).set j x.av).set i y.av=pnv (A++y::(M++x::B)):=by
 have e:A++x::(M++y::B)=(A++x::M)++y::B:=by simp
 have b:((pnv (A++x::(M++y::B))).set i y.av).set j x.av=pnv (A++y::(M++x::B)):=by
  have h:=UN A M B x y;have c:A++x::(M++[y])++B=A++x::(M++y::B):=by simp
  have f:A++[y]++M++x::B=A++y::(M++x::B):=by simp
  rw [c,f] at h;subst a d;rw [<-h];simp only [pnv,Gt]
 refine ⟨UQ _ _ _ a,by rw [e];exact UQ _ _ _ q_,b,?_⟩;rw [List.set_comm _ _ o_];exact b
def mO(l:a7):Prop:=∀ p∈l,0<=p.at'
def mO.perm{l m:a7}(h:l.Perm m)(a:mO l):mO m:=λ p hp=>a p (h.mem_iff.2 hp)
abbrev bN(l:a7):au:=[.row 0 11 79 (pnv l)]
noncomputable abbrev OT:Func:=Tryz.f224
abbrev isF(s:Sta)(a b i:Nat):ar:=[(0,.row 0 0),(1,ii a),(2,ii b),(3,kQ s),(8,ii i)]
def RQ(s:Sta)(h:OrdOK s)(R:a7)(A T B:a7)(x:Pn)(a b i:Nat)(O:a=A.length)(V:i=A.length+T.length)(hl:A.length+T.length+B.length<=1000000)(S:i<b)(U:b<=1000001)(P:0<=x.at')(M:mO T)
  (next:To (Er [] [37,39,40,41]) OT (.full 1 (.ret (.tup [])) (bN R)) (.head (stk OT 0) (isF s a b (i+1)) (bN (A++(nJ (ltP s) T x++B))))):∀ (k:Nat),k<=T.length->oH (ltP s) x T T.length=oH (ltP s) x T k->
  To (Er [] [37,39,40,41]) OT (.full 1 (.ret (.tup [])) (bN R)) (.head (stk OT 1) (isF s a b i++[(9,ii ((A.length+k:Nat):Int))]) (bN (A++(T.take k++x::(T.drop k++B))))):=by
 intro k;induction k with
 | zero=>
  intro N g;have e:nJ (ltP s) T x++B=T.take 0++x::(T.drop 0++B):=by unfold nJ;rw [g];simp [oH]
  rw [e] at next
  generalize pnv (A++(T.take 0++x::(T.drop 0++B)))=L at *
  subst O;refine gV ?_;exact zW
 | succ k D=>
  intro N g;have f:k<T.length:=o_;have H:=M _ (Bf f);have r:T.take (k+1)=T.take k++[T[k]]:=Hd f;have I:T.drop k=T[k]::T.drop (k+1):=Ae f;rw [aHh (Aa f)] at g;have Q:=vV s h x T[k] P H;have c:((A.length+(k+1):Nat):Int)-1=((A.length+k:Nat):Int):=o_;have G:A++(T.take (k+1)++x::(T.drop (k+1)++B))=(A++T.take k)++T[k]::([]++x::(T.drop (k+1)++B)):=by rw [r];simp only [Af,Ce,Bn]
  obtain ⟨p,q,_,u⟩:=BD (A++T.take k) [] (T.drop (k+1)++B) T[k] x (i:=A.length+k) (j:=A.length+(k+1)) q_ q_;have J:(A++T.take k)++x::([]++T[k]::(T.drop (k+1)++B))=A++(T.take k++x::(T.drop k++B)):=by rw [I];simp only [Af,Ce,Bn]
  have K:(pnv ((A++T.take k)++T[k]::([]++x::(T.drop (k+1)++B)))).length=A.length+T.length+1+B.length:=by simp;omega
  rw [J] at u;rw [G];by_cases o:jG s x T[k]<0
  .have e:ltP s x T[k]=true:=decide_eq_true o;rw [if_pos e] at g;have m:=D o_ g;dsimp only [bN] at m⊢;rw [<-u] at m;clear next D
   generalize jG s x T[k]=v at *
   generalize T[k]=y at *
   generalize pnv ((A++T.take k)++y::([]++x::(T.drop (k+1)++B)))=L at *
   obtain ⟨j,n⟩:∃ j,j=A.length+(k+1):=⟨_,rfl⟩
   obtain ⟨l,d⟩:∃ l,l=A.length+k:=⟨_,rfl⟩
   have F:j=l+1:=o_;have w:a<j:=o_;have z:j<L.length:=o_;have C:j<=1000000:=o_;rw [<-n] at c m q⊢;rw [<-d] at c m p;clear n d u G J r I K g;refine gV ?_;refine aT λ h=>?_
   repeat' first | (refine gN (hEr [] [37,39,40,41]) ?_;conv=>whnf) | refine ⟨j,rfl,?_⟩ | refine ⟨_,q,?_⟩ | refine ⟨l,c,?_⟩ | refine ⟨_,p,?_⟩ | exact rfl | refine zt ?_ | refine zu ?_ ?_ | intro h | fail
   refine .pure _ [] Q ?_
   repeat' first | (refine gN (hEr [] [37,39,40,41]) ?_;conv=>whnf) | exact rfl | refine zt ?_ | refine zu ?_ ?_ | intro h | fail
   repeat' first | (refine gN (hEr [] [37,39,40,41]) ?_;conv=>whnf) | refine ⟨j,rfl,?_⟩ | refine ⟨_,q,?_⟩ | refine ⟨l,c,?_⟩ | refine ⟨_,p,?_⟩ | refine Ac (by rw [Dh];omega) ?_ | exact rfl | refine zt ?_ | refine zu ?_ ?_ | intro h | fail
   refine To.part [0,1,2,3,8,9] [0] rfl rfl rfl ?_;rw [<-c] at m;exact m
  .have e:ltP s x T[k]=false:=decide_eq_false o;rw [if_neg (by rw [e];decide)] at g;have t:nJ (ltP s) T x++B=T.take k++T[k]::([]++x::(T.drop (k+1)++B)):=by unfold nJ;rw [g,r];simp only [Af,Ce,Bn]
   have t:A++(nJ (ltP s) T x++B)=(A++T.take k)++T[k]::([]++x::(T.drop (k+1)++B)):=by rw [t,Af]
   rw [t] at next
   clear D;dsimp only [bN] at next⊢
   generalize jG s x T[k]=v at *
   generalize T[k]=y at *
   generalize pnv ((A++T.take k)++y::([]++x::(T.drop (k+1)++B)))=L at *
   obtain ⟨j,n⟩:∃ j,j=A.length+(k+1):=⟨_,rfl⟩
   obtain ⟨l,d⟩:∃ l,l=A.length+k:=⟨_,rfl⟩
   have F:j=l+1:=o_;have w:a<j:=o_;have z:j<L.length:=o_;have C:j<=1000000:=o_;rw [<-n] at c q⊢;rw [<-d] at c p;clear n d u G J r I K g t;refine gV ?_;exact zW
def VN(s:Sta)(h:OrdOK s)(A B:a7)(a b:Nat)(j:a=A.length)(n:b<=1000000)(r:A.length+B.length<=1000000)(R:a7):∀ (rest T:a7),R=A++(rest.foldl (nJ (ltP s)) T++B)->b=A.length+T.length+rest.length->b+B.length<=1000000->mO (T++rest)->
  To (Er [] [37,39,40,41]) OT (.full 1 (.ret (.tup [])) (bN R)) (.head (stk OT 0) (isF s a b (A.length+T.length)) (bN (A++(T++(rest++B)))))
 | [],T,hR,hlen,hB,hat=>by
  subst hR;dsimp only [bN,List.foldl_nil,Bn];generalize pnv (A++(T++B))=L at *
  obtain ⟨i,f⟩:∃ i,i=A.length+T.length:=⟨_,rfl⟩
  rw [<-f] at hlen⊢;have q:b=i:=by simpa using hlen
  refine gV ?_;exact zW
 | x::rest,T,hR,hlen,hB,hat=>by
  have g:b=A.length+T.length+rest.length+1:=by simp at hlen;omega
  have hp:=yE (ltP s) T x;have e:=hp.length_eq;have d:mO (nJ (ltP s) T x++rest):=hat.perm ((Ei.trans (Dr rest hp.symm)));have c:=VN s h A B a b j n r R rest (nJ (ltP s) T x) hR (by simp at e;omega) hB d;have k:A.length+(nJ (ltP s) T x).length=A.length+T.length+1:=by simp at e;omega
  rw [k] at c;have m:0<=x.at':=hat x s_;have l:mO T:=λ p hp=>hat p (Dc _ hp);have c:=RQ s h R A T (rest++B) x a b (A.length+T.length) j rfl q_ o_ o_ m l c T.length (Bd _) rfl;rw [Ge,List.drop_length,Bn] at c;dsimp only [bN] at c⊢;rw [Ce];generalize pnv (A++(T++x::(rest++B)))=L at *
  obtain ⟨i,f⟩:∃ i,i=A.length+T.length:=⟨_,rfl⟩
  rw [<-f] at c⊢;have o:i<b:=o_;refine gV ?_;exact zW
def RP(s:Sta)(h:OrdOK s)(A S B:a7)(a b:Nat)(k:a=A.length)(i:b=A.length+S.length)(l:b+B.length<=1000000)(c:mO S):
  aq 224 [.row 0 0,ii a,ii b,kQ s] (bN (A++(S++B))) (.ret (.tup [])) (bN (A++(srt (ltP s) S++B))):=by
 have h1:To (Er [] [37,39,40,41]) OT (.full 1 (.ret (.tup [])) (bN (A++(srt (ltP s) S++B)))) (.head (stk OT 0) [(0,.row 0 0),(1,ii a),(2,ii b),(3,kQ s),(8,ii ((a:Int)+1))] (bN (A++(S++B)))):=by
  cases S with
  | nil=>
   have e:srt (ltP s) []=[]:=rfl;rw [e];dsimp only [bN];generalize pnv (A++([]++B))=L at *
   simp at i;refine gV ?_;exact zW
  | cons x S=>
   simp at i;have:=VN s h A B a b k o_ o_ (A++(srt (ltP s) (x::S)++B)) S [x] rfl q_ l c;have e:A.length+[x].length=a+1:=by simp;omega
   rw [e] at this;exact this
 generalize A++(srt (ltP s) S++B)=R at *
 dsimp only [bN] at h1⊢;generalize pnv (A++(S++B))=L at *
 have j:a<=1000000:=o_;clear c;refine cT (E:=(Er [] [37,39,40,41])) (fn:=Tryz.f224) (g:=.full 1 _ _) λ_=>gV ?_
 have d:inR .i64 ((a:Int)+1):=⟨by simp only [cJ];omega,by simp only [bE];omega⟩
 refine Gd (Ac d ?_);exact zW
noncomputable abbrev aM4:Func:=Tryz.f264
def LU(R Y:a7)(a b N:Nat)(cv:aa):∀ (U V X M:a7) (i:Nat),U.length=V.length->i+U.length=N->a+i=X.length->b+i=X.length+U.length+M.length->X.length+U.length+M.length+V.length+Y.length<=1000000->R=X++(V++(M++(U++Y)))->
  To (Er [] [16,20,21,22,23]) aM4 (.full 1 (.ret (.tup [])) (bN R)) (.head (stk aM4 0) [(0,.row 0 0),(1,ii a),(2,ii b),(3,ii N),(10,ii i)] (bN (X++(U++(M++(V++Y))))))
 | [],[],X,M,i,hl,hN,hi,hj,hb,hR=>by
  subst hR;dsimp only [bN,Bn];generalize pnv (X++(M++Y))=L at *
  have n:i=N:=by simpa using hN
  subst n;refine gV ?_;exact zW
 | x::U,y::V,X,M,i,hl,hN,hi,hj,hb,hR=>by
  have g:U.length=V.length:=by simpa using hl
  simp at hN hj hb;have k:=LU R Y a b N cv U V (X++[y]) (M++[x]) (i+1) g o_ q_ q_ q_ (by rw [hR];simp only [Af,Ce,Bn]);obtain ⟨p,q,o,_⟩:=BD X (U++M) (V++Y) x y (i:=a+i) (j:=b+i) hi q_;have u:X++y::(U++M++x::(V++Y))=(X++[y])++(U++((M++[x])++(V++Y))):=by simp only [Af,Ce,Bn]
  have r:X++(x::U++(M++(y::V++Y)))=X++x::(U++M++y::(V++Y)):=by simp only [Af,Ce,Bn]
  rw [u] at o;rw [r];dsimp only [bN] at k⊢;rw [<-o] at k;have f:(pnv (X++x::(U++M++y::(V++Y)))).length=X.length+U.length+M.length+V.length+Y.length+2:=by simp;omega
  generalize pnv (X++x::(U++M++y::(V++Y)))=L at *
  have hiN:i<N:=o_
  obtain ⟨c,e⟩:∃ c,c=a+i:=⟨_,rfl⟩
  obtain ⟨j,d⟩:∃ j,j=b+i:=⟨_,rfl⟩
  have l:(a:Int)+i=(c:Int):=o_;have m:(b:Int)+i=(j:Int):=o_;have v:j<L.length:=o_;have t:c<L.length:=o_;have w:j<=1000000:=o_;have s:c<=1000000:=o_;rw [<-e] at k p;rw [<-d] at k q;clear e d hj hi hb f r u hR hN hl g o;refine gV ?_;refine aT λ h=>?_
  repeat' first | (refine gN (hEr [] [16,20,21,22,23]) ?_;conv=>whnf) | refine ⟨j,m,?_⟩ | refine ⟨_,q,?_⟩ | refine ⟨c,l,?_⟩ | refine ⟨_,p,?_⟩ | refine Ac (by rw [Dh];omega) ?_ | exact rfl | refine zt ?_ | refine zu ?_ ?_ | intro h | fail
  exact zW
def QH(s:Sta)(X U M V Y:a7)(a b N:Nat)(d:a=X.length)(h:N=U.length)(c:U.length=V.length)(e:b=X.length+U.length+M.length)(hl:X.length+U.length+M.length+V.length+Y.length<=1000000):
  aq 264 [.row 0 0,ii a,ii b,ii N,kQ s] (bN (X++(U++(M++(V++Y))))) (.ret (.tup [])) (bN (X++(V++(M++(U++Y))))):=by
 have h1:=LU _ Y a b N (kQ s) U V X M 0 c o_ o_ o_ hl rfl;dsimp only [bN] at h1⊢;generalize pnv (X++(U++(M++(V++Y))))=L at *
 generalize pnv (X++(V++(M++(U++Y))))=R at *
 refine cT (E:=(Er [] [16,20,21,22,23])) (fn:=Tryz.f264) (g:=.full 1 _ _) λ_=>?_;exact zW
noncomputable abbrev aM7:Func:=Tryz.f254
def aBs(s:Sta)(R:a7)(m:Nat)(hm:m<=1000000):∀ (n:Nat) (X U V Y:a7) (i j:Nat),i+j<=n->i=U.length->j=V.length->0<i->0<j->m=X.length+i->X.length+U.length+V.length+Y.length<=1000000->R=X++(V++(U++Y))->
  To E aM7 (.full 1 (.ret (.tup [])) (bN R)) (.head (stk aM7 0) [(0,.row 0 0),(2,ii m),(4,kQ s),(10,ii i),(11,ii j)] (bN (X++(U++(V++Y))))):=by
 intro n;induction n with
 | zero=>intro X U V Y i j h;omega
 | succ n k=>
  intro X U V Y i j D q u F C B hl g;by_cases v:i=j
  .have e:((m:Int)-i)=((m-i:Nat):Int):=o_;have h1:=QH s X U [] V Y (m-i) m i o_ q o_ q_ q_;rw [Bn,Bn,<-e,<-g] at h1;have y:((i:Int) !=(j:Int))=false:=by rw [v];simp
   dsimp only [bN] at h1⊢;generalize pnv (X++(U++(V++Y)))=L at *
   generalize pnv R=K at *
   clear g hl k;refine gV ?_;exact zW
  .have y:((i:Int) !=(j:Int))=true:=by simp;omega
   by_cases z:j<i
   .obtain ⟨c,d,rfl,f⟩:∃ c d,U=c++d/\c.length=j:=⟨U.take j,U.drop j,(Bo j U).symm,by simp;omega⟩
    have r:i=j+d.length:=by rw [q,Ai,f]
    have e:((m:Int)-i)=((m-i:Nat):Int):=o_;have l:((i:Int)-j)=((i-j:Nat):Int):=o_;rw [Ai] at hl;have h1:=QH s X c d V Y (m-i) m j o_ f.symm o_ o_ o_;have o:=k (X++V) d c Y (i-j) j o_ o_ o_ o_ o_ (by rw [Ai];omega) (by rw [Ai];omega) (by rw [g];simp only [Af]);rw [<-e] at h1;rw [<-l,Af] at o;rw [Af c d];dsimp only [bN] at h1 o⊢;generalize pnv (X++(c++(d++(V++Y))))=L at *
    generalize pnv (X++(V++(d++(c++Y))))=K at *
    have t:i<=1000000:=o_;clear g hl k e l q u r f;refine gV ?_;exact zW
   .obtain ⟨b,a,rfl,p⟩:∃ b a,V=b++a/\a.length=i:=⟨V.take (j-i),V.drop (j-i),(Bo (j-i) V).symm,by simp;omega⟩
    have w:j=b.length+i:=by rw [u,Ai,p]
    have e:((m:Int)-i)=((m-i:Nat):Int):=o_;have l:((j:Int)-i)=((j-i:Nat):Int):=o_;have x:((m:Int)+j-i)=((m+(j-i):Nat):Int):=o_;rw [Ai] at hl;have h1:=QH s X U b a Y (m-i) (m+(j-i)) i o_ q o_ o_ o_;have o:=k X a b (U++Y) i (j-i) o_ o_ o_ o_ o_ o_ (by rw [Ai];omega) (by rw [g];simp only [Af]);rw [<-e,<-x] at h1;rw [<-l] at o;rw [Af b a];dsimp only [bN] at h1 o⊢;generalize pnv (X++(U++(b++(a++Y))))=L at *
    generalize pnv (X++(a++(b++(U++Y))))=K at *
    have A:j<=1000000:=o_;have t:i<=1000000:=o_;clear g hl k e l x q u w p;refine gV ?_;exact zW
def aJ6(s:Sta)(X U V Y:a7)(a m b:Nat)(n:a=X.length)(hm:m=a+U.length)(o:b=m+V.length)(k:U≠[])(c:V≠[])(hl:b+Y.length<=1000000):
  aq 254 [.row 0 0,ii a,ii m,ii b,kQ s] (bN (X++(U++(V++Y)))) (.ret (.tup [])) (bN (X++(V++(U++Y)))):=by
 have l:=Dx.2 k;have p:=Dx.2 c;have h1:=aBs s _ m o_ _ X U V Y (m-a) (b-m) (Bd _) o_ o_ o_ o_ o_ o_ rfl;have h:(m:Int)-a=((m-a:Nat):Int):=o_;have d:(b:Int)-m=((b-m:Nat):Int):=o_;rw [<-h,<-d] at h1;dsimp only [bN] at h1⊢;generalize pnv (X++(U++(V++Y)))=L at *
 generalize pnv (X++(V++(U++Y)))=R at *
 have e:a<=m:=o_;have j:m<=b:=o_;have i:b<=1000000:=o_;refine cT (E:=E) (fn:=Tryz.f254) (g:=.full 1 _ _) λ_=>?_;exact zW
noncomputable abbrev qL:Func:=Tryz.f225
def JS(lo a:Nat):((lo:Int)+a).fdiv (2 ^ Dp 1)=(((lo+a) / 2:Nat):Int):=by have e:(2:Int) ^ Dp 1=2:=rfl;rw [e,Dz _ d_];omega
def VV{c:Nat}(h:c<=1000000):inR .i64 (c:Int):=Ac (by simp only [cJ];omega) (by simp only [bE];omega)
def IC{L:a7}{h:Nat}{y:Pn}(a:L[h]? =some y):(pnv L)[h]? =some y.av:=by simp [a]
set_option maxHeartbeats 1000000 in
def aJX(s:Sta)(hs:OrdOK s)(L:a7)(g:mO L)(C:L.length<=1000000)(a:Nat)(u:Pn)(l:L[a]? =some u)(P:Nat->Bool)(o:∀ h y,L[h]? =some y->P h=ltP s y u)(R:a7)(k:Nat)
  (next:To (Er [] [61,63,64,65,113,115,116,117]) qL (.full 1 (.ret (.tup [])) (bN R)) (.head (stk qL 1) [(0,.row 0 0),(10,ii k),(13,ii a)] (bN L))):∀ (f lo d:Nat),d-lo<=f->lo<=d->d<=L.length->bis P f lo d=k->
  To (Er [] [61,63,64,65,113,115,116,117]) qL (.full 1 (.ret (.tup [])) (bN R)) (.head (stk qL 0) [(0,.row 0 0),(1,ii a),(4,kQ s),(10,ii lo),(11,ii d)] (bN L))
 | 0,lo,d,hf,h1,h2,b=>by
  have e:lo=d:=o_;subst e;have b:lo=k:=b;subst b;exact zqda1
 | f+1,lo,d,hf,h1,h2,b=>by
  by_cases j:lo<d
  .unfold bis at b;rw [if_pos j] at b
   obtain ⟨c,A⟩:∃ c,c=(lo+d) / 2:=⟨_,rfl⟩
   rw [<-A] at b;have i:c<L.length:=o_;have B:L[c]? =some L[c]:=Aa i;have m:=o c _ B;have n:=vV s hs L[c] u (g _ (Bf i)) (g _ (Av l));have x:=IC B;have z:=IC l;have q:a<L.length:=(Ab.1 l).1;have hm:=JS lo d;rw [<-A] at hm;have w:=VV (show c<=1000000 by omega);have D:c<(pnv L).length:=by rw [sL];exact i
   have F:a<(pnv L).length:=by rw [sL];exact q
   generalize L[c]=y at *
   cases p:P c with
   | true=>
    rw [p,if_pos rfl] at b;have t:jG s y u<0:=of_decide_eq_true (m.symm.trans p);have r:=aJX s hs L g C a u l P o R k next f (c+1) d o_ o_ h2 b
    generalize jG s y u=v at *
    dsimp only [bN] at r⊢;generalize pnv L=K at *
    clear o next
    refine gV ?_;refine aT λ h=>?_
    repeat' first | (refine gN (hEr [] [61,63,64,65,113,115,116,117]) ?_;conv=>whnf) | (rw [hm];refine Gd (Ac w ?_)) | refine ⟨c,rfl,?_⟩ | refine ⟨_,x,?_⟩ | refine ⟨a,rfl,?_⟩ | refine ⟨_,z,?_⟩ | refine .pure _ [] n ?_ | exact rfl | refine zt ?_ | refine zu ?_ ?_ | intro h | fail
    exact zW
   | false=>
    rw [p,if_neg d_] at b;have t:¬ jG s y u<0:=of_decide_eq_false (m.symm.trans p);have r:=aJX s hs L g C a u l P o R k next f lo c o_ o_ o_ b
    generalize jG s y u=v at *
    dsimp only [bN] at r⊢;generalize pnv L=K at *
    clear o next
    refine gV ?_;refine aT λ h=>?_
    repeat' first | (refine gN (hEr [] [61,63,64,65,113,115,116,117]) ?_;conv=>whnf) | (rw [hm];refine Gd (Ac w ?_)) | refine ⟨c,rfl,?_⟩ | refine ⟨_,x,?_⟩ | refine ⟨a,rfl,?_⟩ | refine ⟨_,z,?_⟩ | refine .pure _ [] n ?_ | exact rfl | refine zt ?_ | refine zu ?_ ?_ | intro h | fail
    exact zW
  .unfold bis at b;rw [if_neg j] at b;subst b;exact zqda1
def mv1(R W:a7)(u:Pn):∀ (V A:a7) (i k:Nat),k=A.length->i=A.length+V.length+1->A.length+V.length+W.length<=999999->R=A++(V++u::W)->
  To (Er [] [61,63,64,65,113,115,116,117]) qL (.full 1 (.ret (.tup [])) (bN R)) (.head (stk qL 1) [(0,.row 0 0),(10,ii i),(13,ii k)] (bN (A++u::(V++W))))
 | [],A,i,k,hk,hi,hl,hR=>by
  subst hR;dsimp only [bN,Bn];generalize pnv (A++u::W)=L at *
  have e:i<=1000000:=o_;have d:i=k+1:=by simp at hi;omega
  refine gV ?_;exact zW
 | y::V,A,i,k,hk,hi,hl,hR=>by
  simp at hi hl;have c:=mv1 R W u V (A++[y]) i (k+1) q_ q_ q_ (by rw [hR];simp only [Af,Ce,Bn]);obtain ⟨o,g,f,_⟩:=BD A [] (V++W) u y (i:=k) (j:=k+1) hk q_;have m:A++y::([]++u::(V++W))=(A++[y])++u::(V++W):=by simp only [Af,Ce,Bn]
  have l:A++u::(y::V++W)=A++u::([]++y::(V++W)):=by simp only [Af,Ce,Bn]
  rw [m] at f;rw [l];dsimp only [bN] at c⊢;rw [<-f] at c;have b:(pnv (A++u::([]++y::(V++W)))).length=A.length+V.length+W.length+2:=by simp;omega
  generalize pnv (A++u::([]++y::(V++W)))=L at *
  obtain ⟨j,q⟩:∃ j,j=k+1:=⟨_,rfl⟩
  rw [<-q] at c g;have a:(k:Int)+1=(j:Int):=o_;have n:j<L.length:=o_;have r:k<L.length:=o_;have p:j<=1000000:=o_;have s:k<=1000000:=o_;have e:i<=1000000:=o_;have d:k+1<i:=o_;rw [<-a] at c;clear b l m hR hl f hk hi;refine gV ?_
  repeat' first | (refine gN (hEr [] [61,63,64,65,113,115,116,117]) ?_;conv=>whnf) | refine aT λ h=>?_ | refine ⟨j,a,?_⟩ | refine ⟨_,g,?_⟩ | refine ⟨k,rfl,?_⟩ | refine ⟨_,o,?_⟩ | refine Ac (by rw [Dh];omega) ?_ | exact rfl | refine zt ?_ | refine zu ?_ ?_ | intro h | fail
  exact zW
set_option maxHeartbeats 1000000 in
def aJW(s:Sta)(hs:OrdOK s)(L:a7)(g:mO L)(G:L.length<=1000000)(m:Nat)(u:Pn)(o:L[m]? =some u)(P:Nat->Bool)(q:∀ h y,L[h]? =some y->P h= !ltP s u y)(R:a7)(k:Nat)
  (next:To (Er [] [61,63,64,65,113,115,116,117]) qL (.full 1 (.ret (.tup [])) (bN R)) (.head (stk qL 3) [(0,.row 0 0),(14,ii k),(17,ii m)] (bN L))):∀ (f lo d:Nat),d-lo<=f->lo<=d->d<=L.length->bis P f lo d=k->
  To (Er [] [61,63,64,65,113,115,116,117]) qL (.full 1 (.ret (.tup [])) (bN R)) (.head (stk qL 2) [(0,.row 0 0),(2,ii m),(4,kQ s),(14,ii lo),(15,ii d)] (bN L))
 | 0,lo,d,hf,h1,h2,a=>by
  have e:lo=d:=o_;subst e;have a:lo=k:=a;subst a;exact zqda1
 | f+1,lo,d,hf,h1,h2,a=>by
  by_cases n:lo<d
  .unfold bis at a;rw [if_pos n] at a
   obtain ⟨c,D⟩:∃ c,c=(lo+d) / 2:=⟨_,rfl⟩
   rw [<-D] at a;have j:c<L.length:=o_;have F:L[c]? =some L[c]:=Aa j;have i:=q c _ F;have p:=vV s hs u L[c] (g _ (Av o)) (g _ (Bf j));have B:=IC F;have C:=IC o;have w:m<L.length:=(Ab.1 o).1;have hm:=JS lo d;rw [<-D] at hm;have A:=VV (show c<=1000000 by omega);have H:c<(pnv L).length:=by rw [sL];exact j
   have I:m<(pnv L).length:=by rw [sL];exact w
   generalize L[c]=y at *
   cases r:P c with
   | true=>
    rw [r,if_pos rfl] at a;have l:ltP s u y=false:=by rw [r] at i;simpa using i.symm
    have x:¬ jG s u y<0:=of_decide_eq_false l;have z:(!decide (jG s u y<0))=true:=congrArg (λ b=>!b) l;have t:=aJW s hs L g G m u o P q R k next f (c+1) d o_ o_ h2 a
    clear l;generalize jG s u y=v at *
    dsimp only [bN] at t⊢;generalize pnv L=K at *
    clear q next
    refine gV ?_;refine aT λ h=>?_
    repeat' first | (refine gN (hEr [] [61,63,64,65,113,115,116,117]) ?_;conv=>whnf) | (rw [hm];refine Gd (Ac A ?_)) | refine ⟨m,rfl,?_⟩ | refine ⟨_,C,?_⟩ | refine ⟨c,rfl,?_⟩ | refine ⟨_,B,?_⟩ | refine .pure _ [] p ?_ | refine Ac (λ_=>?_) (λ h=>absurd (z.symm.trans h) d_) | exact rfl | refine zt ?_ | refine zu ?_ ?_ | intro h | fail
    exact zW
   | false=>
    rw [r,if_neg d_] at a;have l:ltP s u y=true:=by rw [r] at i;simpa using i.symm
    have x:jG s u y<0:=of_decide_eq_true l;have z:(!decide (jG s u y<0))=false:=congrArg (λ b=>!b) l;have t:=aJW s hs L g G m u o P q R k next f lo c o_ o_ o_ a
    clear l;generalize jG s u y=v at *
    dsimp only [bN] at t⊢;generalize pnv L=K at *
    clear q next
    refine gV ?_;refine aT λ h=>?_
    repeat' first | (refine gN (hEr [] [61,63,64,65,113,115,116,117]) ?_;conv=>whnf) | (rw [hm];refine Gd (Ac A ?_)) | refine ⟨m,rfl,?_⟩ | refine ⟨_,C,?_⟩ | refine ⟨c,rfl,?_⟩ | refine ⟨_,B,?_⟩ | refine .pure _ [] p ?_ | refine Ac (λ h=>absurd (z.symm.trans h) d_) (λ_=>?_) | exact rfl | refine zt ?_ | refine zu ?_ ?_ | intro h | fail
    exact zW
  .unfold bis at a;rw [if_neg n] at a;subst a;exact zqda1
def mv2(R:a7)(u:Pn)(A:a7)(i:Nat)(z:i=A.length):∀ (n:Nat) (V W:a7) (k:Nat),V.length=n->k=A.length+n->A.length+n+W.length<=999999->R=A++u::(V++W)->
  To (Er [] [61,63,64,65,113,115,116,117]) qL (.full 1 (.ret (.tup [])) (bN R)) (.head (stk qL 3) [(0,.row 0 0),(14,ii i),(17,ii k)] (bN (A++(V++u::W)))):=by
 intro n;induction n with
 | zero=>
  intro V W k a q hl e;cases Cl.1 a;subst e;dsimp only [bN,Bn];generalize pnv (A++u::W)=L at *
  have g:k=i:=o_;have D:i<=1000000:=o_;refine gV ?_;exact zW
 | succ n o=>
  intro V W k a q hl e
  obtain ⟨V,y,rfl⟩:∃ x y,V=x++[y]:=⟨V.dropLast,V.getLast (by intro h;rw [h] at a;cases a),(Ks _).symm⟩
  have f:V.length=n:=by simpa using a
  have d:=o V (y::W) (k-1) f o_ q_ (by rw [e];simp only [Af,Ce,Bn]);obtain ⟨m,v,_,l⟩:=BD (A++V) [] W y u (i:=k-1) (j:=k) q_ q_;have s:A++V++u::([]++y::W)=A++(V++u::(y::W)):=by simp only [Af,Ce,Bn]
  have r:A++(V++[y]++u::W)=A++V++y::([]++u::W):=by simp only [Af,Ce,Bn]
  rw [s] at l;rw [r];dsimp only [bN] at d⊢;rw [<-l] at d;have c:(pnv (A++V++y::([]++u::W))).length=A.length+V.length+W.length+2:=by simp;omega
  generalize pnv (A++V++y::([]++u::W))=L at *
  obtain ⟨j,p⟩:∃ j,j=k-1:=⟨_,rfl⟩
  rw [<-p] at d m;have b:(k:Int)-1=(j:Int):=o_;have t:j<L.length:=o_;have w:k<L.length:=o_;have C:k<=1000000:=o_;have B:k=j+1:=o_;have g:i<k:=o_;rw [<-b] at d;clear c r s e hl l q z o p;refine gV ?_
  repeat' first | (refine gN (hEr [] [61,63,64,65,113,115,116,117]) ?_;conv=>whnf) | refine aT λ h=>?_ | refine ⟨j,b,?_⟩ | refine ⟨_,m,?_⟩ | refine ⟨k,rfl,?_⟩ | refine ⟨_,v,?_⟩ | refine Ac (by rw [Dh];omega) ?_ | exact rfl | refine zt ?_ | refine zu ?_ ?_ | intro h | fail
  exact zW
abbrev aF6(K:ay):au:=[.row 0 11 79 K]
def Stp(f:Nat)(s:Sta)(x y z:Nat)(K a:ay):Prop:=
 (x<y/\y<z/\aA Tryz.prog f [.row 0 0,ii x,ii y,ii z,kQ s] (aF6 K) (.ret (.tup [])) (aF6 a))\/(x<y/\¬ y<z/\K=a)\/(¬ x<y/\K=a)
abbrev aFl(s:Sta)(a m b mid n c d:Nat)(p:Int):ar:=[(0,.row 0 0),(1,ii a),(2,ii m),(3,ii b),(4,kQ s),(18,ii mid),(19,ii n),(20,ii c),(21,ii d),(22,ii p)]
set_option maxHeartbeats 8000000 in
def aAX(s:Sta)(a m b mid n st c:Nat)(p:Int)(C:n<=2000000)(q:n=c+st)(o k d e:ay)(r:Stp 254 s st m c o k)(x:Stp 225 s a st mid k d)(u:Stp 225 s mid c b d e):
  To (Er [] [61,63,64,65,113,115,116,117]) qL (.full 1 (.ret (.tup [])) (aF6 e)) (.head (stk qL 4) (aFl s a m b mid n st st p) (aF6 o)):=by
 obtain ⟨h,z⟩:∃ h:Int,h=(c:Int):=⟨_,rfl⟩
 have i:((n:Int)-st)=(c:Int):=o_;rcases r with ⟨l,v,t⟩ | ⟨l,v,rfl⟩ | ⟨l,rfl⟩<;>rcases x with ⟨g,w,B⟩ | ⟨g,w,rfl⟩ | ⟨g,rfl⟩<;>rcases u with ⟨j,A,y⟩ | ⟨j,A,rfl⟩ | ⟨j,rfl⟩
 all_goals (try rw [<-i] at t)
 all_goals (try rw [<-i] at y)
 all_goals (try (exfalso;omega))
 all_goals
  refine gV ?_;exact zW
set_option maxHeartbeats 1000000 in
def aJV(s:Sta)(hs:OrdOK s)(L:a7)(i:mO L)(S:L.length<=1000000)(a m b mid n p j o:Nat)(P:Nat->Bool)(A:∀ c,j<=c->c<o->c<=p/\∃ y z,L[p-c]? =some y/\L[c]? =some z/\P c= !ltP s y z)(R:a7)(k:Nat)
  (next:To (Er [] [61,63,64,65,113,115,116,117]) qL (.full 1 (.ret (.tup [])) (bN R)) (.head (stk qL 4) (aFl s a m b mid n k k p) (bN L))):∀ (f lo g:Nat),g-lo<=f->lo<=g->j<=lo->g<=o->bis P f lo g=k->
  To (Er [] [61,63,64,65,113,115,116,117]) qL (.full 1 (.ret (.tup [])) (bN R)) (.head (stk qL 4) (aFl s a m b mid n lo g p) (bN L))
 | 0,lo,g,hf,h1,h2,h3,d=>by
  have e:lo=g:=o_;subst e;have d:lo=k:=d;subst d;exact next
 | f+1,lo,g,hf,h1,h2,h3,d=>by
  by_cases t:lo<g
  .unfold bis at d;rw [if_pos t] at d
   obtain ⟨c,Q⟩:∃ c,c=(lo+g) / 2:=⟨_,rfl⟩
   rw [<-Q] at d;obtain ⟨T,y,z,F,I,l⟩:=A c o_ o_;have w:=vV s hs y z (i _ (Av F)) (i _ (Av I));have D:=IC F;have O:=IC I;have C:c<L.length:=(Ab.1 I).1;have u:p-c<L.length:=(Ab.1 F).1;have hm:=JS lo g;rw [<-Q] at hm;have N:=VV (show c<=1000000 by omega);have U:c<(pnv L).length:=by rw [sL];exact C
   have G:p-c<(pnv L).length:=by rw [sL];exact u
   obtain ⟨q,W⟩:∃ q,q=p-c:=⟨_,rfl⟩
   have x:(p:Int)-c=(q:Int):=o_;rw [<-W] at D G u;have V:p<=2000000:=o_;cases B:P c with
   | true=>
    rw [B,if_pos rfl] at d;have r:ltP s y z=false:=by rw [B] at l;simpa using l.symm
    have J:¬ jG s y z<0:=of_decide_eq_false r;have M:(!decide (jG s y z<0))=true:=congrArg (λ b=>!b) r;have H:=aJV s hs L i S a m b mid n p j o P A R k next f (c+1) g o_ o_ o_ h3 d
    clear r;generalize jG s y z=v at *
    dsimp only [bN] at H⊢;generalize pnv L=K at *
    clear A next
    refine gV ?_;refine aT λ h=>?_
    repeat' first | (refine gN (hEr [] [61,63,64,65,113,115,116,117]) ?_;conv=>whnf) | (rw [hm];refine Gd (Ac N ?_)) | refine ⟨q,x,?_⟩ | refine ⟨_,D,?_⟩ | refine ⟨c,rfl,?_⟩ | refine ⟨_,O,?_⟩ | refine .pure _ [] w ?_ | refine Ac (λ_=>?_) (λ h=>absurd (M.symm.trans h) d_) | exact rfl | refine zt ?_ | refine zu ?_ ?_ | intro h | fail
    exact zW
   | false=>
    rw [B,if_neg d_] at d;have r:ltP s y z=true:=by rw [B] at l;simpa using l.symm
    have J:jG s y z<0:=of_decide_eq_true r;have M:(!decide (jG s y z<0))=false:=congrArg (λ b=>!b) r;have H:=aJV s hs L i S a m b mid n p j o P A R k next f lo c o_ o_ h2 o_ d
    clear r;generalize jG s y z=v at *
    dsimp only [bN] at H⊢;generalize pnv L=K at *
    clear A next
    refine gV ?_;refine aT λ h=>?_
    repeat' first | (refine gN (hEr [] [61,63,64,65,113,115,116,117]) ?_;conv=>whnf) | (rw [hm];refine Gd (Ac N ?_)) | refine ⟨q,x,?_⟩ | refine ⟨_,D,?_⟩ | refine ⟨c,rfl,?_⟩ | refine ⟨_,O,?_⟩ | refine .pure _ [] w ?_ | refine Ac (λ h=>absurd (M.symm.trans h) d_) (λ_=>?_) | exact rfl | refine zt ?_ | refine zu ?_ ?_ | intro h | fail
    exact zW
  .unfold bis at d;rw [if_neg t] at d;subst d;have e:lo=g:=o_;subst e;exact next
def thP(s:Sta)(L:a7)(p c:Nat):Bool:=match L[p-c]?,L[c]? with
 | some y,some z=>!ltP s y z
 | _,_=>false
def MF(X A:a7)(i:Nat)(h:X.length<=i):(X++A)[i]? =A[i-X.length]?:=Ak h
def aN2(s:Sta)(X U V Y:a7)(a m b mid n lo d:Nat)(H:a=X.length)(hm:m=a+U.length)(S:b=m+V.length)(Z:0<U.length)(Q:0<V.length)(A:mid=(a+b) / 2)(R:n=mid+m)
  (j:lo=if mid<m then n-b else a) (i:d=if mid<m then mid else m) (I:Tot (ltP s) (U++V)) (k:Nat) (G:bis (thP s (X++(U++(V++Y))) (n-1)) (d-lo) lo d=k):
  (∀ c,lo<=c->c<d->c<=n-1/\∃ y z,(X++(U++(V++Y)))[n-1-c]? =some y/\(X++(U++(V++Y)))[c]? =some z/\thP s (X++(U++(V++Y))) (n-1) c= !ltP s y z)/\lo<=d/\a<=k/\k<=m/\m<=n-k/\n-k<=b/\k<=n/\
  (k-a=0\/V.length<=n-k-m\/ltO (ltP s) U[k-a-1]? V[n-k-m]?)/\(n-k-m=0\/U.length<=k-a\/ltO (ltP s) V[n-k-m-1]? U[k-a]?):=by
 have D:∀ c,a<=c->c<m->(X++(U++(V++Y)))[c]? =U[c-a]?:=λ c h1 e=>by rw [MF _ _ _ o_,Ag o_,H]
 have J:∀ c,m<=c->c<b->(X++(U++(V++Y)))[c]? =V[c-m]?:=λ c h1 e=>by rw [MF _ _ _ o_,MF _ _ _ o_,Ag o_];congr 1;omega
 have o:lo<=d/\a<=lo/\d<=m/\n-d<=b/\m<=n-d/\n-lo<=b/\d<=n-1+1/\(lo=a\/n-lo=b)/\(d=m\/n-d=m):=by
  by_cases h:mid<m
  .rw [if_pos h] at j i;omega
  .rw [if_neg h] at j i;omega
 obtain ⟨l1,l2,P,l4,T,O,W,v,F⟩:=o;have f:∀ c,lo<=c->c<d->∃ y z,V[n-1-c-m]? =some y/\U[c-a]? =some z/\(X++(U++(V++Y)))[n-1-c]? =some y/\(X++(U++(V++Y)))[c]? =some z/\thP s (X++(U++(V++Y))) (n-1) c= !ltP s y z:=λ c h1 e=>by have r:V[n-1-c-m]? =some V[n-1-c-m]:=Aa o_;have x:U[c-a]? =some U[c-a]:=Aa o_;have B:=(J (n-1-c) o_ o_).trans r;have t:=(D c o_ o_).trans x;refine ⟨_,_,r,x,B,t,?_⟩;unfold thP;rw [B,t]
 have l:∀ y∈V,∀ z∈U,ltP s y z=false->ltP s z y=true:=λ y L z hz h=>by
  rcases (Cd.1 I).2.2 z hz y L with q | q
  .exact q
  .rw [q] at h;cases h
 obtain ⟨K,M,u,C⟩:=KV (thP s (X++(U++(V++Y))) (n-1)) (d-lo) lo d (Bd _) l1;rw [G] at K M u C;refine ⟨λ c h1 e=>⟨by omega,?_⟩,l1,by omega,by omega,by omega,by omega,by omega,?_,?_⟩
 .obtain ⟨y,z,_,_,h3,N,g⟩:=f c h1 e;exact ⟨y,z,h3,N,g⟩
 .rcases u with h | h
  .rcases v with e | e
   .left;omega
   .right;left;omega
  .by_cases w:k=lo
   .rcases v with e | e
    .left;omega
    .right;left;omega
   .obtain ⟨y,z,h1,e,_,_,g⟩:=f (k-1) o_ o_;rw [h] at g;have p:ltP s y z=false:=by simpa using g.symm
    right;right;refine ⟨z,y,?_,?_,l y (Av h1) z (Av e) p⟩
    .rw [<-e];congr 1;omega
    .rw [<-h1];congr 1;omega
 .by_cases w:k=d
  .rcases F with e | e
   .right;left;omega
   .left;omega
  .obtain ⟨y,z,h1,e,_,_,g⟩:=f k o_ o_;rcases C with h | h
   .exact absurd h w
   .rw [h] at g;have p:ltP s y z=true:=by simpa using g.symm
    right;right;refine ⟨y,z,?_,?_,p⟩
    .rw [<-h1];congr 1;omega
    .rw [<-e]
def aNr(s:Sta)(V:a7)(u:Pn)(P:Nat->Bool)(o m b k:Nat)(p:b=m+V.length)(j:Up (ltP s) V)(n:Tot (ltP s) (u::V))(f:∀ h y,m<=h->V[h-m]? =some y->(P h=true->ltP s y u=true)/\(P h=false->ltP s u y=true))(l:bis P (b-m) m b=k):
  m<=k/\k<=b/\V.take (k-m)++u::V.drop (k-m)=srt (ltP s) (u::V):=by
 obtain ⟨a,d,i,g⟩:=KV P (b-m) m b (Bd _) o_;rw [l] at a d i g;refine ⟨a,d,aKD (iA s) j n ?_ ?_⟩
 .by_cases c:k=m
  .left;omega
  .have e:V[k-m-1]? =some V[k-m-1]:=Aa o_;rcases i with h | h
   .exact absurd h c
   .exact .inr ⟨_,_,e,rfl,(f (k-1) _ o_ (by rw [<-e];congr 1;omega)).1 h⟩
 .by_cases c:k=b
  .left;omega
  .have e:V[k-m]? =some V[k-m]:=Aa o_;rcases g with h | h
   .exact absurd h c
   .exact .inr ⟨_,_,rfl,e,(f k _ a e).2 h⟩
def aEE(X A:a7)(u:Pn){a:Nat}(b:a=X.length):(X++u::A)[a]? =some u:=by subst b;simp
set_option maxHeartbeats 1000000 in
def aFk(s:Sta)(hs:OrdOK s)(X V Y:a7)(u:Pn)(a m b:Nat)(r:a=X.length)(hm:m=a+1)(B:b=m+V.length)(hl:b+Y.length<=999000)(c:mO (X++(u::(V++Y))))(p:Up (ltP s) V)(n:Tot (ltP s) (u::V)):
  aq 225 [.row 0 0,ii a,ii m,ii b,kQ s] (bN (X++(u::(V++Y)))) (.ret (.tup [])) (bN (X++(srt (ltP s) (u::V)++Y))):=by
 have v:∀ h,m<=h->h<b->(X++(u::(V++Y)))[h]? =V[h-m]?:=λ h h1 i=>by rw [MF _ _ _ o_,show h-X.length=(h-m)+1 by omega,Fu,Ag o_]
 obtain ⟨P,o⟩:∃ P:Nat->Bool,∀ h y,(X++(u::(V++Y)))[h]? =some y->P h=ltP s y u:=⟨λ h=>match (X++(u::(V++Y)))[h]? with | some y=>ltP s y u | none=>false,λ h y e=>by simp only [e]⟩
 obtain ⟨k,l⟩:∃ k,bis P (b-m) m b=k:=⟨_,rfl⟩
 have d:∀ y∈V,ltP s u y=true\/ltP s y u=true:=λ y D=>(Cb.1 n).1 y D
 obtain ⟨I,H,x⟩:=aNr s V u P 0 m b k B p n (λ h y h1 i=>by
  have j:h<b:=by have:=(Ab.1 i).1;omega
  rw [o h y ((v h h1 j).trans i)];refine ⟨id,λ h3=>?_⟩;rcases d y (Av i) with q | q
  .exact q
  .rw [q] at h3;cases h3) l
 have t:X++(srt (ltP s) (u::V)++Y)=X++(V.take (k-m)++u::(V.drop (k-m)++Y)):=by rw [<-x];simp only [Af,Ce]
 have w:X++(u::(V++Y))=X++u::(V.take (k-m)++(V.drop (k-m)++Y)):=by rw [<-Af (V.take _),Bo]
 have n1:=mv1 _ (V.drop (k-m)++Y) u (V.take (k-m)) X k a r q_ q_ t;rw [<-w] at n1;have n2:=aJX s hs _ c q_ a u (aEE X _ u r) P o _ k n1 _ m b (Bd _) o_ q_ l;have G:((m:Int)-a==1)=true:=by rw [hm];simp;omega
 dsimp only [bN] at n2⊢;generalize pnv (X++(u::(V++Y)))=L at *
 generalize pnv (X++(srt (ltP s) (u::V)++Y))=R at *
 have F:m<=b:=o_;have C:b<=1000000:=o_;have z:a<=m:=o_;clear n1 t w x v o d c n p l;exact zqda5
set_option maxHeartbeats 1000000 in
def aFj(s:Sta)(hs:OrdOK s)(X U Y:a7)(v:Pn)(a m b:Nat)(B:a=X.length)(hm:m=a+U.length)(D:b=m+1)(H:U.length≠1)(hl:b+Y.length<=999000)(i:mO (X++(U++(v::Y))))(z:Up (ltP s) U)(c:Tot (ltP s) (U++[v])):
  aq 225 [.row 0 0,ii a,ii m,ii b,kQ s] (bN (X++(U++(v::Y)))) (.ret (.tup [])) (bN (X++(srt (ltP s) (U++[v])++Y))):=by
 have n:srt (ltP s) (U++[v])=srt (ltP s) (v::U):=aA6 (iA s) c;rw [n];have c:Tot (ltP s) (v::U):=c.perm (Dv);have u:∀ h,a<=h->h<m->(X++(U++(v::Y)))[h]? =U[h-a]?:=λ h h1 l=>by rw [MF _ _ _ o_,Ag o_,B]
 obtain ⟨P,r⟩:∃ P:Nat->Bool,∀ h y,(X++(U++(v::Y)))[h]? =some y->P h= !ltP s v y:=⟨λ h=>match (X++(U++(v::Y)))[h]? with | some y=>!ltP s v y | none=>false,λ h y e=>by simp only [e]⟩
 obtain ⟨k,p⟩:∃ k,bis P (m-a) a m=k:=⟨_,rfl⟩
 have j:∀ y∈U,ltP s v y=true\/ltP s y v=true:=λ y G=>(Cb.1 c).1 y G
 obtain ⟨M,K,x⟩:=aNr s U v P 0 a m k hm z c (λ h y h1 l=>by
  have o:h<m:=by have:=(Ab.1 l).1;omega
  rw [r h y ((u h h1 o).trans l)];refine ⟨λ h3=>?_,λ h3=>by simpa using h3⟩;rcases j y (Av l) with q | q
  .rw [q] at h3;cases h3
  .exact q) p
 have t:X++(srt (ltP s) (v::U)++Y)=(X++U.take (k-a))++v::(U.drop (k-a)++Y):=by rw [<-x];simp only [Af,Ce]
 have w:X++(U++(v::Y))=(X++U.take (k-a))++(U.drop (k-a)++v::Y):=by rw [Af,<-Af (U.take _),Bo]
 have n1:=mv2 _ v (X++U.take (k-a)) k q_ _ (U.drop (k-a)) Y m rfl q_ q_ t;rw [<-w] at n1;have d:(X++(U++(v::Y)))[m]? =some v:=by rw [<-Af];exact aEE (X++U) Y v q_
 have n2:=aJW s hs _ i q_ m v d P r _ k n1 _ a m (Bd _) o_ q_ p;have J:((m:Int)-a==1)=false:=by rw [hm];simp;omega
 have N:((b:Int)-m==1)=true:=by rw [D];simp;omega
 dsimp only [bN] at n2⊢;generalize pnv (X++(U++(v::Y)))=L at *
 generalize pnv (X++(srt (ltP s) (v::U)++Y))=R at *
 have I:m<=b:=o_;have F:b<=1000000:=o_;have C:a<=m:=o_;clear n1 t w x u r j i c z p d;exact zqda5
set_option maxHeartbeats 2000000 in
def aJL(s:Sta)(hs:OrdOK s):∀ (N:Nat) (X U V Y:a7) (a m b:Nat),U.length+V.length<=N->a=X.length->m=a+U.length->b=m+V.length->0<U.length->0<V.length->b+Y.length<=999000->mO (X++(U++(V++Y)))->Up (ltP s) U->Up (ltP s) V->Tot (ltP s) (U++V)->
  aq 225 [.row 0 0,ii a,ii m,ii b,kQ s] (bN (X++(U++(V++Y)))) (.ret (.tup [])) (bN (X++(srt (ltP s) (U++V)++Y))):=by
 intro N;induction N with
 | zero=>intro X U V Y a m b hN;omega
 | succ N ih=>
  intro X U V Y a m b hN D hm K pU pV hl c F C o;by_cases r:U.length=1
  .obtain ⟨u,rfl⟩:=Mf.1 r;exact aFk s hs X V Y u a m b D hm K hl c C o
  by_cases I:V.length=1
  .obtain ⟨v,rfl⟩:=Mf.1 I;exact aFj s hs X U Y v a m b D hm K r hl c F o
  obtain ⟨mid,j⟩:∃ mid,mid=(a+b) / 2:=⟨_,rfl⟩
  obtain ⟨n,hn⟩:∃ n,n=mid+m:=⟨_,rfl⟩
  obtain ⟨lo,i⟩:∃ lo,lo=if mid<m then n-b else a:=⟨_,rfl⟩
  obtain ⟨p,d⟩:∃ p,p=if mid<m then mid else m:=⟨_,rfl⟩
  obtain ⟨k,O⟩:∃ k,bis (thP s (X++(U++(V++Y))) (n-1)) (p-lo) lo p=k:=⟨_,rfl⟩
  obtain ⟨hP,Q,k1,k2,k3,k4,k5,q,w⟩:=aN2 s X U V Y a m b mid n lo p D hm K pU pV j hn i d o k O;have hst:(k-a)+(n-k-m)=mid-a:=o_;have y:=aGS (iA s) F C o q w;have t:=vO F (k-a);have x:=vO C (n-k-m);have t1:Tot (ltP s) (U.take (k-a)++V.take (n-k-m)):=Gb ((Ic _ U).append (Ic _ V)) o;have W:Tot (ltP s) (U.drop (k-a)++V.drop (n-k-m)):=Gb ((Ie _ U).append (Ie _ V)) o;have tU:U.take (k-a)++U.drop (k-a)=U:=Bo _ _;have tV:V.take (n-k-m)++V.drop (n-k-m)=V:=Bo _ _;have lU1:(U.take (k-a)).length=k-a:=by simp;omega
  have z:(U.drop (k-a)).length=m-k:=by simp;omega
  have B:(V.take (n-k-m)).length=n-k-m:=by simp;omega
  have lV2:(V.drop (n-k-m)).length=b-(n-k):=by simp;omega
  generalize U.take (k-a)=U1 at *
  generalize U.drop (k-a)=U2 at *
  generalize V.take (n-k-m)=V1 at *
  generalize V.drop (n-k-m)=V2 at *
  have M:X++(U++(V++Y))=X++(U1++(U2++(V1++(V2++Y)))):=by rw [<-tU,<-tV];simp only [Af]
  have lS1:(srt (ltP s) (U1++V1)).length=mid-a:=by rw [(fG (ltP s) (U1++V1)).length_eq,Ai];omega
  have J:mO (X++(U1++(V1++(U2++(V2++Y))))):=c.perm (by
   rw [M];refine Du X (Du U1 ?_);rw [<-Af U2,<-Af V1]
   exact Dr _ Dv)
  have p2:mO ((X++srt (ltP s) (U1++V1))++(U2++(V2++Y))):=J.perm (by
   rw [Af X];refine Du X ?_;rw [<-Af U1]
   exact Dr _ (fG (ltP s) (U1++V1)).symm)
  have T:Stp 254 s k m (n-k) (pnv (X++(U++(V++Y)))) (pnv (X++(U1++(V1++(U2++(V2++Y)))))):=by
   rw [M];by_cases e:k<m
   .by_cases l:m<n-k
    .refine .inl ⟨e,l,?_⟩;have:=aJ6 s (X++U1) U2 V1 (V2++Y) k m (n-k) q_ o_ o_ (by intro h;rw [h] at z;simp at z;omega) (by intro h;rw [h] at B;simp at B;omega) q_;rw [Af X,Af X] at this;exact this
    .refine .inr (.inl ⟨e,l,?_⟩);have:V1=[]:=Cl.1 o_;rw [this];rfl
   .refine .inr (.inr ⟨e,?_⟩);have:U2=[]:=Cl.1 o_;rw [this];rfl
  have d2:Stp 225 s a k mid (pnv (X++(U1++(V1++(U2++(V2++Y)))))) (pnv (X++(srt (ltP s) (U1++V1)++(U2++(V2++Y))))):=by
   by_cases e:a<k
   .by_cases l:k<mid
    .exact .inl ⟨e,l,ih X U1 V1 (U2++(V2++Y)) a k mid o_ D o_ o_ o_ o_ q_ J (Cd.1 t).1 (Cd.1 x).1 t1⟩
    .refine .inr (.inl ⟨e,l,?_⟩);have:V1=[]:=Cl.1 o_;rw [this,Ar,vU (iA s) (Cd.1 t).1];rfl
   .refine .inr (.inr ⟨e,?_⟩);have:U1=[]:=Cl.1 o_;have S:srt (ltP s) ([]++V1)=V1:=vU (iA s) (Cd.1 x).1;rw [this,S];rfl
  have d3:Stp 225 s mid (n-k) b (pnv (X++(srt (ltP s) (U1++V1)++(U2++(V2++Y))))) (pnv (X++(srt (ltP s) (U++V)++Y))):=by
   rw [<-y,Af (srt (ltP s) (U1++V1))];by_cases e:mid<n-k
   .by_cases l:n-k<b
    .have:=ih (X++srt (ltP s) (U1++V1)) U2 V2 Y mid (n-k) b o_ q_ o_ o_ o_ o_ hl p2 (Cd.1 t).2.1 (Cd.1 x).2.1 W;rw [Af X,Af X] at this;exact .inl ⟨e,l,this⟩
    .refine .inr (.inl ⟨e,l,?_⟩);have:V2=[]:=Cl.1 o_;rw [this,Ar,vU (iA s) (Cd.1 t).2.1];rfl
   .refine .inr (.inr ⟨e,?_⟩);have:U2=[]:=Cl.1 o_;have S:srt (ltP s) ([]++V2)=V2:=vU (iA s) (Cd.1 x).2.1;rw [this,S];rfl
  have n1:=aAX s a m b mid n k (n-k) ((n-1:Nat):Int) o_ o_ _ _ _ _ T d2 d3;have n2:=aJV s hs _ c q_ a m b mid n (n-1) lo p _ hP _ k n1 _ lo p (Bd _) Q (Bd _) (Bd _) O;have e1:((m:Int)-a==1)=false:=by simp;omega
  have e2:((b:Int)-m==1)=false:=by simp;omega
  have e3:((n:Int)-1)=((n-1:Nat):Int):=o_;have H:=JS a b;rw [<-j] at H;have hr:=VV (show mid<=1000000 by omega);rw [<-e3] at n2;have Z:(n:Int)=(mid:Int)+m:=o_;have hm9:m<=b:=o_;have hb9:b<=1000000:=o_;have ha9:a<=m:=o_;have P:mid<=1000000:=o_;dsimp only [bN,aFl] at n2⊢;generalize pnv (X++(U++(V++Y)))=L at *
  generalize pnv (X++(srt (ltP s) (U++V)++Y))=R at *
  clear n1 T d2 d3 J p2 M y t x t1 W tU tV hP O c o F C q w;by_cases hq:mid<m
  .rw [if_pos hq] at i d;have G:(lo:Int)=(mid:Int)+m-b:=o_;subst d;rw [G,Z] at n2;refine cT (E:=(Er [] [61,63,64,65,113,115,116,117])) (fn:=Tryz.f225) (g:=.full 1 _ _) λ_=>?_
   repeat' first | (refine gN (hEr [] [61,63,64,65,113,115,116,117]) ?_;conv=>whnf) | refine Ac (λ h=>absurd (e1.symm.trans h) d_) (λ_=>?_) | refine Ac (λ h=>absurd (e2.symm.trans h) d_) (λ_=>?_) | (rw [H];refine Gd (Ac hr ?_)) | refine Ac (λ_=>?_) (λ h=>absurd (of_decide_eq_false h) o_) | exact rfl | refine zt ?_ | refine zu ?_ ?_ | intro h | fail
   exact zW
  .rw [if_neg hq] at i d;subst i d;rw [Z] at n2;refine cT (E:=(Er [] [61,63,64,65,113,115,116,117])) (fn:=Tryz.f225) (g:=.full 1 _ _) λ_=>?_
   repeat' first | (refine gN (hEr [] [61,63,64,65,113,115,116,117]) ?_;conv=>whnf) | refine Ac (λ h=>absurd (e1.symm.trans h) d_) (λ_=>?_) | refine Ac (λ h=>absurd (e2.symm.trans h) d_) (λ_=>?_) | (rw [H];refine Gd (Ac hr ?_)) | refine Ac (λ h=>absurd (of_decide_eq_true h) o_) (λ_=>?_) | exact rfl | refine zt ?_ | refine zu ?_ ?_ | intro h | fail
   exact zW
def BN{n:Nat}(h:n<=1000000):A1 n 88:=⟨by simp only [maxLen];omega,by omega⟩
def aJQ(s:Sta)(hs:OrdOK s)(P:a7)(n:Nat)(t:n=P.length)(hl:n<40)(a:mO P)(e:Tot (ltP s) P):
  aq 188 [.row 0 0,ii n,kQ s] (bN P) (.ret (.tup [])) (bN (srt (ltP s) P)):=by
 by_cases x:n<20
 .have h1:=RP s hs [] P [] 0 n rfl q_ q_ a;rw [Bn,Bn,Ar,Ar] at h1;generalize srt (ltP s) P=R at *
  dsimp only [bN] at h1⊢;generalize pnv P=L at *
  clear t a e;refine cT (E:=E) (fn:=Tryz.f188) (g:=.full 1 _ _) λ_=>?_
  repeat' first | (refine gN hE ?_;conv=>whnf) | exact rfl | refine zt ?_ | refine zu ?_ ?_ | intro h | fail
  refine gV ?_;refine Ac (λ h=>absurd (of_decide_eq_true h) o_) (λ_=>?_)
  repeat' first | (refine gN hE ?_;conv=>whnf) | refine .eff [] [0] _ _ rfl h1 ?_ | exact rfl | refine zt ?_ | refine zu ?_ ?_ | intro h | fail
  refine gV ?_;exact zW
 .obtain ⟨A,B,rfl,k⟩:∃ A B,P=A++B/\A.length=20:=⟨P.take 20,P.drop 20,(Bo 20 P).symm,by simp;omega⟩
  rw [Ai,k] at t;have c:mO A:=λ p hp=>a p (Dc _ hp);have b:mO B:=λ p hp=>a p (Cv _ hp);obtain ⟨q,tB,_⟩:=Cd.1 e;have j:=fG (ltP s) A;have l:=fG (ltP s) B;have o:(srt (ltP s) A).length=20:=by rw [j.length_eq,k]
  have w:(srt (ltP s) B).length=B.length:=l.length_eq;have h1:=RP s hs [] A B 0 20 rfl q_ o_ c;rw [Bn,Bn] at h1;have d:=RP s hs (srt (ltP s) A) B [] 20 n o.symm o_ q_ b;rw [Ar,Ar] at d;by_cases C:n=20
  .have z:B=[]:=Cl.1 o_;subst z;rw [Ar] at h1 d⊢;have y:srt (ltP s) ([]:a7)=[]:=rfl;rw [y,Ar] at d;rw [Ar] at h1;generalize srt (ltP s) A=R at *
   dsimp only [bN] at h1 d⊢;generalize pnv A=L at *
   clear k a e c b q tB j l o w;refine cT (E:=E) (fn:=Tryz.f188) (g:=.full 1 _ _) λ_=>?_
   repeat' first | (refine gN hE ?_;conv=>whnf) | exact rfl | refine zt ?_ | refine zu ?_ ?_ | intro h | fail
   refine gV ?_;refine Ac (λ_=>?_) (λ h=>absurd (of_decide_eq_false h) o_)
   repeat' first | (refine gN hE ?_;conv=>whnf) | refine .eff [] [0] _ _ rfl h1 ?_ | exact rfl | refine zt ?_ | refine zu ?_ ?_ | intro h | fail
   refine gV ?_;refine Ac (λ h=>absurd (of_decide_eq_true h) o_) (λ_=>?_)
   repeat' first | (refine gN hE ?_;conv=>whnf) | refine .eff [] [0] _ _ rfl d ?_ | exact rfl | refine zt ?_ | refine zu ?_ ?_ | intro h | fail
   refine gV ?_;exact zW
  .have u:=qW (iA s) q;have r:=qW (iA s) tB;have i:(srt (ltP s) A++srt (ltP s) B).Perm (A++B):=j.append l;have m:Tot (ltP s) (srt (ltP s) A++srt (ltP s) B):=e.perm i.symm;have h3:=aJL s hs _ [] (srt (ltP s) A) (srt (ltP s) B) [] 0 20 n (Bd _) rfl q_ o_ o_ o_ q_ (by rw [Bn,Ar];exact a.perm i.symm) u r m;rw [Bn,Bn,Ar,Ar] at h3;have v:srt (ltP s) (srt (ltP s) A++srt (ltP s) B)=srt (ltP s) (A++B):=QD (iA s) (((fG _ _).trans i).trans (fG _ _).symm) (qW (iA s) m) (qW (iA s) e);rw [v] at h3;generalize srt (ltP s) (A++B)=R at *
   dsimp only [bN] at h1 d h3⊢;generalize pnv (A++B)=L at *
   generalize pnv (srt (ltP s) A++B)=L2 at *
   generalize pnv (srt (ltP s) A++srt (ltP s) B)=L3 at *
   clear k a e c b q tB j l o w u r i m v;refine cT (E:=E) (fn:=Tryz.f188) (g:=.full 1 _ _) λ_=>?_
   repeat' first | (refine gN hE ?_;conv=>whnf) | exact rfl | refine zt ?_ | refine zu ?_ ?_ | intro h | fail
   refine gV ?_;refine Ac (λ_=>?_) (λ h=>absurd (of_decide_eq_false h) o_)
   repeat' first | (refine gN hE ?_;conv=>whnf) | refine .eff [] [0] _ _ rfl h1 ?_ | exact rfl | refine zt ?_ | refine zu ?_ ?_ | intro h | fail
   refine gV ?_;refine Ac (λ h=>absurd (of_decide_eq_true h) o_) (λ_=>?_)
   repeat' first | (refine gN hE ?_;conv=>whnf) | refine .eff [] [0] _ _ rfl d ?_ | exact rfl | refine zt ?_ | refine zu ?_ ?_ | intro h | fail
   refine gV ?_;refine Ac (λ_=>?_) (λ h=>absurd (of_decide_eq_false h) o_)
   repeat' first | (refine gN hE ?_;conv=>whnf) | exact rfl | refine zt ?_ | refine zu ?_ ?_ | intro h | fail
   refine gV ?_;refine Ac (λ h=>absurd (of_decide_eq_true h) o_) (λ_=>?_)
   repeat' first | (refine gN hE ?_;conv=>whnf) | refine Ac (λ_=>?_) (λ h=>absurd (of_decide_eq_false h) o_) | refine .eff [] [0] _ _ rfl h3 ?_ | exact rfl | refine zt ?_ | refine zu ?_ ?_ | intro h | fail
   refine gV ?_;exact zW
def aJR(s:Sta)(hs:OrdOK s)(P:a7)(hl:P.length<40)(a:mO P)(b:Tot (ltP s) P):
  aq 140 [.row 0 0,kQ s] (bN P) (.ret (.tup [])) (bN (srt (ltP s) P)):=by
 have h1:=aJQ s hs P (pnv P).length s_ (by simpa using hl) a b;generalize srt (ltP s) P=R at *
 have c:(pnv P).length<=1000000:=by simp;omega
 dsimp only [bN] at h1⊢;generalize pnv P=L at *
 clear a b;refine cT (E:=E) (fn:=Tryz.f140) (g:=.full 1 _ _) λ_=>?_;exact zW
def aAb(xs:a7)(c:xs.length<=1000000):aq 68 [.slice 11 (pnv xs) .no] [] (.ret (.row 0 0)) (bN xs):=by
 refine cT (E:=(Er [2,5] [])) (fn:=Tryz.f68) (g:=.full 0 _ _) λ_=>gV ?_;intro b a;refine gV ?_;refine ⟨λ h=>?_,λ h=>?_⟩
 .refine gV ?_;refine ⟨[],[1],⟨rfl,rfl⟩,?_⟩;conv=>whnf
  rw [a (by simpa using h)];exact ⟨rfl,rfl⟩
 .refine gV ?_;refine ⟨BN (by simpa using c),gV ?_⟩;refine ⟨[],[1],⟨rfl,rfl⟩,?_⟩;exact ⟨rfl,rfl⟩
def aB6(s:Sta)(hs:OrdOK s)(hl:s.pend.length<40)(a:mO s.pend)(c:Tot (ltP s) s.pend):
  aq 91 [s.av] [] (.ret (.slice 11 (pnv (A0 s)) .no)) []:=by
 have h1:=aAb s.pend o_;have b:=aJR s hs s.pend hl a c;have e:srt (ltP s) s.pend=A0 s:=rfl;rw [e] at b;generalize A0 s=R at *
 refine c_ Tryz.f91 λ_=>gV ?_;refine .eff [] [] _ _ rfl h1 (gV ?_);refine .eff [2,0] [1] _ _ rfl b ?_;refine gW hE ?_;conv=>whnf
end Go.Proofs.YtaeegbkbahgjhaaGreatDoor
