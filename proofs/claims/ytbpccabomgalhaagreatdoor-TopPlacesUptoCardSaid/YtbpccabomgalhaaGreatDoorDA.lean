/- Part 9 of what the statement rests on. -/
import Derived.Test.YtbpccabomgalhaaGreatDoorCA
set_option linter.all false
set_option maxHeartbeats 1000000
open And renaming intro->Ab
open Bool renaming and_false->Fc,false_and->Gb,false_eq_true->Cn,true_and->Dc
open Exists renaming intro->Ao
open Int renaming fdiv->Ke,fdiv_eq_ediv_of_nonneg->Dy,natCast_mul->Ee,tdiv->Lt,toNat->Dm,toNat_natCast->Bn
open List renaming append_assoc->Ae,append_nil->Au,cons_append->Ca,dropLast_concat_getLast->Kn,drop_eq_getElem_cons->Ag,drop_eq_nil_of_le->Ai,drop_sublist->Hx,eraseIdx_eq_take_drop_succ->Fu,foldl_cons->Ba,getElem?_append_left->Af,getElem?_append_right->Ak,getElem?_cons_succ->Fo,getElem?_eq_getElem->Aa,getElem?_eq_some_iff->Ac,getElem?_map->Bh,getElem?_set_ne->Ax,getElem?_set_self->Aq,getElem_mem->Bd,getElem_of_mem->Il,length_append->Ah,length_cons->Al,length_drop->Eg,length_eq_one_iff->Ho,length_eq_zero_iff->Ck,length_map->Cf,length_pos_iff->Dw,length_set->Df,map_append->Bk,map_cons->Bl,map_drop->Ip,map_set->Gk,map_take->Ga,mem_append->Az,mem_append_left->De,mem_append_right->Cv,mem_cons->Bc,mem_cons_of_mem->Bb,mem_cons_self->Ar,mem_of_getElem?->Av,mem_range->Jg,mem_singleton->Dh,mem_singleton_self->Iz,nil_append->Bm,pairwise_append->Bz,pairwise_cons->Cr,pairwise_singleton->Iy,perm_append_comm->Dv,perm_middle->Eh,prefix_refl->Cl,range->Dr,set_append_right->Gt,take_append_drop->Bp,take_length->Fx,take_sublist->Hw,take_succ_eq_append_getElem->Gw
open List.Pairwise renaming imp->Je,nil->Li,sublist->Fw
open List.Perm renaming append_left->Du,append_right->Dq,refl->Jf
open Nat renaming add_assoc->Ka,add_comm->Ly,add_mul->Bv,add_sub_cancel->Hn,and_two_pow_sub_one_eq_mod->Jp,blt->Ey,blt_eq->Jq,div_add_mod->Ft,div_le_self->Gv,div_lt_iff_lt_mul->Di,div_mul_le_self->Hb,eq_zero_or_pos->Fi,le_div_iff_mul_le->Hu,le_refl->Bf,le_trans->Cx,lt_or_ge->Mz,lt_trans->Na,min_eq_left->Gh,mod_le->Lz,mod_lt->Ez,mul_add->Gl,mul_add_div->Km,mul_assoc->Ir,mul_comm->Da,mul_div_mul_right->Mm,mul_le_mul->Gc,mul_le_mul_right->Bs,one_mul->Gm,pow_add->Fm,pow_le_pow_right->Ek,pow_pos->Mq,strongRecOn->Hq,testBit_two_pow->Kv,two_pow_add_eq_or_of_lt->Hy,zero_add->Bw,zero_mul->Lx
open Or renaming inl->Fq,inr->Kl
open UInt8 renaming ofNat->Dt
namespace Go.Proofs.YtbpccabomgalhaaGreatDoor
open Go Go.AW Go.Proofs
def zqda0{P:Prop}(h:P:=by
 refine gV ?_;refine aT λ h=>gV ?_;refine Ab (Ab d_ d_) (gV ?_);rw [e];refine aJ (gV ?_);refine Ab o_ (gV ?_);rw [d];refine Fq (Ab (Ab (show Dm (k:Int)<=64 by omega) (Ab (by simp only [bW];omega) (by simp only [aW];omega))) ?_);refine gV ?_;rw [a]
 exact zW):P:=h
def zqda1{P:Prop}(h:P:=by
 dsimp only [bK] at next⊢
 generalize pnv L=K at *
 refine gV ?_
 exact zW):P:=h
def zqda2{P:Prop}(h:P:=by
 subst c;refine c_ Tryz.f222 λ_=>?_;have hz1:=λ d=>JD d
 exact zW):P:=h
def zqda3{P:Prop}(h:P:=by exact c_ Tryz.f132 λ_=>zW):P:=h
def zqda4{P:Prop}(h:P:=by
 rw [Ai o_] at b;have b:a++[]=R:=b;rw [Au] at b;subst b;refine gV ?_
 exact zW):P:=h
def zqda5{P:Prop}(h:P:=by
 refine cT (E:=(Er [] [61,63,64,65,113,115,116,117])) (fn:=Tryz.f225) (g:=.full 1 _ _) λ_=>?_
 exact zW):P:=h
def zqda6{P:Prop}(h:P:=by
 generalize iE p.length q.length=t at *
 generalize iE a.seq b.seq=u at *
 refine gV ?_
 exact zW):P:=h
def zqda7{P:Prop}(h:P:=by
 refine cJ hE 2 ?_;conv=>whnf
 exact To.cutC [2,8,9,10,11,13,14,15,16,17,18] 0 rfl rfl rfl rfl fin):P:=h
def zqda8{P:Prop}(h:P:=by
 refine cJ hE 3 ?_;conv=>whnf
 exact To.cutC [2,8,9,10,11,13,14,15,16,17,18] 0 rfl rfl rfl rfl step):P:=h
def zqda9{P:Prop}(h:P:=by
 refine cJ hE 2 ?_;conv=>whnf
 exact To.cutC [2,8,9,10,11,13,14,15,16] 0 rfl rfl rfl rfl fin):P:=h
def zqda10{P:Prop}(h:P:=by
 refine cJ hE 3 ?_;conv=>whnf
 exact To.cutC [2,8,9,10,11,13,14,15,16] 0 rfl rfl rfl rfl step):P:=h
def zqda11{P:Prop}(h:P:=by exact c_ Tryz.f223 λ_=>zW):P:=h
def zqda12{P:Prop}(h:P:=by
 subst a
 exact c_ Tryz.f170 λ_=>zW):P:=h
def A4{a b A B:Nat}(c:a<=A)(d:b<=B):a*b<=A*B:=Gc c d
def YD(x y:Nat)(i:x<18446744073709551616)(h:y<18446744073709551616):
  ∃ a b c d:Nat,a=x % 4294967296*(y % 4294967296)/\b=x / 4294967296*(y % 4294967296)/\c=x % 4294967296*(y / 4294967296)/\d=x / 4294967296*(y / 4294967296)/\
   a<=18446744065119617025/\b<=18446744065119617025/\c<=18446744065119617025/\d<=18446744065119617025/\x*y=d*18446744073709551616+(b+c)*4294967296+a:=by
 refine ⟨_,_,_,_,rfl,rfl,rfl,rfl,A4 (A:=4294967295) (B:=4294967295) o_ o_,A4 (A:=4294967295) (B:=4294967295) o_ o_,A4 (A:=4294967295) (B:=4294967295) o_ o_,A4 (A:=4294967295) (B:=4294967295) o_ o_,?_⟩;have g:x=x / 4294967296*4294967296+x % 4294967296:=o_;have e:y=y / 4294967296*4294967296+y % 4294967296:=o_;generalize x / 4294967296=p at *
 generalize x % 4294967296=q at *
 generalize y / 4294967296=r at *
 generalize y % 4294967296=s at *
 subst g e;simp only [Bv,Gl];have h1:p*4294967296*(r*4294967296)=p*r*18446744073709551616:=by rw [Nat.mul_mul_mul_comm]
 have f:p*4294967296*s=p*s*4294967296:=Nat.mul_right_comm ..;have h3:q*(r*4294967296)=q*r*4294967296:=(Ir ..).symm;rw [h1,f,h3];omega
def M7(x y:Nat):Nat:=x*y / 18446744073709551616
def C0(x y:Nat):Nat:=x*y % 18446744073709551616
def aGI{x y a b c d:Nat}(h:x*y=d*18446744073709551616+(b+c)*4294967296+a)(e:a<=18446744065119617025)(f:b<=18446744065119617025)(g:c<=18446744065119617025):
  d+(b+a / 4294967296) / 4294967296+((b+a / 4294967296) % 4294967296+c) / 4294967296=M7 x y:=by
 unfold M7;rw [h];omega
abbrev uu(n:Nat):aa:=.int .u64 (n:Int)
def EY(n:Nat):Nat:=if n<18446744073709551616 then n else 18446744073709551615
def EP(a b:Nat):Nat:=EY (a+b)
def uD(a b:Nat):Nat:=EY (a*b / 4294967296)
def ofF(n:Int):Nat:=if n<=0 then 0 else if n<4294967296 then n.toNat*4294967296 else 18446744073709551615
def AQ(a b:Nat):Nat:=if a=0 then 0 else if b=0 then 18446744073709551615 else EY (a*4294967296 / b)
def IX(a b:Int):Nat:=AQ (max a 0).toNat (max b 0).toNat
def IP(n:Nat):EY n<18446744073709551616:=by unfold EY;split<;>omega
def WZ(a b:Nat):EP a b<18446744073709551616:=IP _
def JE(a b:Nat):uD a b<18446744073709551616:=IP _
def aIe(a b:Nat):AQ a b<18446744073709551616:=by
 unfold AQ
 repeat' split
 .omega
 .omega
 .exact IP _
def QW(n:Int):ofF n<18446744073709551616:=by
 unfold ofF
 repeat' split
 all_goals omega
def aLv{a b:Nat}(c:0<b)(h:b<=a / 4294967296):EY (a*4294967296 / b)=18446744073709551615:=by have h1:b*4294967296<=a:=o_;have d:18446744073709551616*b<=a*4294967296:=o_;have h3:18446744073709551616<=a*4294967296 / b:=(Hu c).2 d;exact if_neg (Nat.not_lt.2 h3)
def aLu{a b:Nat}(d:a / 4294967296<b):a*4294967296 / b<18446744073709551616/\EY (a*4294967296 / b)=a*4294967296 / b:=by have c:a*4294967296<18446744073709551616*b:=o_;have h3:a*4294967296 / b<18446744073709551616:=(Di o_).2 c;exact ⟨h3,if_pos h3⟩
set_option maxRecDepth 10000
structure Dg(y1 y0 u v q r:Nat):Prop where
 rest:u=q*y1+r
 top:u*4294967296+v<(q+1)*(y1*4294967296+y0)
 few:q<=4294967297
def qY(q b a:Nat):q*(b*4294967296+a)=q*b*4294967296+q*a:=by rw [Gl,Ir]
def Dg.zero{c d u v:Nat}(h1:2147483648<=c)(g:d<4294967296)(h:v<4294967296)(f:u<c*4294967296+d):Dg c d u v (u / c) (u % c):=by
 have e:u=u / c*c+u % c:=by rw [Da];exact (Ft u c).symm
 have j:u % c<c:=Ez _ o_;refine ⟨e,?_,?_⟩
 .rw [qY,Bv,Gm,Bv,Bv _ _ d,Gm];generalize u / c*c=a at *
  generalize u / c*d=b;omega
 .have i:u / c<4294967298:=by refine (Di o_).2 ?_;omega
  omega
def Dg.step{c d u v q r:Nat}(h:Dg c d u v q r)(l:v<4294967296)(n:u<c*4294967296+d)(i:4294967296<=q\/4294967296*r+v<q*d):1<=q/\Dg c d u v (q-1) (r+c):=by
 obtain ⟨e,p,m⟩:=h;have j:1<=q:=by
  rcases i with h | h
  .omega
  .rcases Fi q with rfl | g
   .rw [Lx] at h;omega
   .exact g
 refine ⟨j,?_⟩;have f:q=q-1+1:=o_;have k:u*4294967296+v<q*(c*4294967296+d):=by
  rcases i with h | h
  .have g:4294967296*(c*4294967296+d)<=q*(c*4294967296+d):=Bs _ h;omega
  .rw [qY];generalize q*c=a at *
   generalize q*d=b at *
   omega
 refine ⟨?_,by rw [<-f];exact k,by omega⟩;have o:q*c=(q-1)*c+c:=by rw [f,Hn,Bv,Gm]
 omega
def Dg.fin{d c u v q r:Nat}(h:Dg d c u v q r)(i:q*c<=4294967296*r+v):q*(d*4294967296+c)<=u*4294967296+v/\q=(u*4294967296+v) / (d*4294967296+c):=by
 obtain ⟨e,f,g⟩:=h;have hl:q*(d*4294967296+c)<=u*4294967296+v:=by
  rw [qY];generalize q*d=a at *
  generalize q*c=b at *
  omega
 refine ⟨hl,?_⟩;have hp:0<d*4294967296+c:=by
  rcases Fi (d*4294967296+c) with h | h
  .rw [h,Nat.mul_zero] at f;omega
  .exact h
 refine Nat.le_antisymm ((Hu hp).2 hl) ?_;have:=(Di hp).2 f;omega
def Dg.far{a v q r:Nat}(c:a<4294967296)(b:q<=4294967296)(d:4294967296<=r):q*a<=4294967296*r+v:=by have h1:q*a<=4294967296*4294967295:=Gc b o_;omega
def aIf{Y u v w a t b:Nat}(g:0<Y)(h1:a=(u*4294967296+v) / Y)(h:t=u*4294967296+v-a*Y)(d:b=(t*4294967296+w) / Y)(i:w<4294967296):a*4294967296+b=(u*18446744073709551616+v*4294967296+w) / Y:=by
 have e:u*4294967296+v=a*Y+t:=by
  have:a*Y<=u*4294967296+v:=by rw [h1];exact Hb ..
  omega
 have f:u*18446744073709551616+v*4294967296+w=Y*(a*4294967296)+(t*4294967296+w):=by
  have:Y*(a*4294967296)=a*Y*4294967296:=by rw [<-Ir,Da Y a]
  rw [this];have h3:u*18446744073709551616=u*4294967296*4294967296:=by rw [Ir]
  have c:(u*4294967296+v)*4294967296=(a*Y+t)*4294967296:=by rw [e]
  rw [Bv,Bv] at c;rw [h3,c,Ka]
 rw [f,Km g,<-d]
def OO{Y N q t:Nat}(a:0<Y)(h1:q=N / Y)(b:t=N-q*Y):t<Y:=by have e:=Ft N Y;have l:=Ez N a;subst h1;rw [Da] at e;omega
structure Ord{α:Type}(lt:α->α->Bool):Prop where
 tr:∀ a b c,lt a b=true->lt b c=true->lt a c=true
 irr:∀ a,lt a a=false
def Up{α:Type}(lt:α->α->Bool)(l:List α):Prop:=l.Pairwise λ a b=>lt a b=true
def Tot{α:Type}(lt:α->α->Bool)(l:List α):Prop:=l.Pairwise λ a b=>lt a b=true\/lt b a=true
def Tot.perm{α:Type}{lt:α->α->Bool}{l m:List α}(h:l.Perm m)(a:Tot lt l):Tot lt m:=h.pairwise a λ h=>h.symm
def Ord.asym{α:Type}{lt:α->α->Bool}(o:Ord lt){a b:α}(h:lt a b=true):lt b a=false:=by
 cases c:lt b a with
 | false=>rfl
 | true=>have:=o.tr _ _ _ h c;rw [o.irr] at this;cases this
def PW{α:Type}{lt:α->α->Bool}(o:Ord lt):∀ {l m:List α},l.Perm m->Up lt l->Up lt m->l=m
 | [],m,h,_,_=>(List.nil_perm.1 h).symm
 | x::l,[],h,_,_=>absurd h.length_eq s_
 | x::l,y::m,h,h1,h2=>by
  have e:x=y:=by
   have b:x∈y::m:=h.mem_iff.1 (Ar ..);have a:y∈x::l:=h.mem_iff.2 (Ar ..);rcases Bc.1 b with e | b
   .exact e
   rcases Bc.1 a with e | a
   .exact e.symm
   have d:=(Cr.1 h1).1 y a;have c:=(Cr.1 h2).1 x b;rw [o.asym d] at c;cases c
  subst e;rw [PW o ((List.perm_cons x).1 h) (Cr.1 h1).2 (Cr.1 h2).2]
def aAs{α:Type}{lt:α->α->Bool}{A B:List α}{x:α}(d:Up lt (A++B))(e:∀ a∈A,lt a x=true)(f:∀ b∈B,lt x b=true):Up lt (A++x::B):=by
 obtain ⟨h1,g,h3⟩:=Bz.1 d;refine Bz.2 ⟨h1,Cr.2 ⟨f,g⟩,λ a h b c=>?_⟩;rcases Bc.1 c with rfl | c
 .exact e a h
 .exact h3 a h b c
def vJ{α:Type}{lt:α->α->Bool}(o:Ord lt){A B:List α}(i:Up lt A)(j:Up lt B)(h:A=[]\/B=[]\/∃ f x y g,A=f++[x]/\B=y::g/\lt x y=true):∀ a∈A,∀ b∈B,lt a b=true:=by
 intro a h1 b c;rcases h with rfl | rfl | ⟨f,x,y,g,rfl,rfl,h⟩
 .cases h1
 .cases c
 have d:a=x\/lt a x=true:=by
  rcases Az.1 h1 with h1 | h1
  .exact .inr ((Bz.1 i).2.2 a h1 x (Ar ..))
  .exact .inl (by simpa using h1)
 have e:b=y\/lt y b=true:=by
  rcases Bc.1 c with c | c
  .exact .inl c
  .exact .inr ((Cr.1 j).1 b c)
 rcases d with rfl | d<;>rcases e with rfl | e
 .exact h
 .exact o.tr _ _ _ h e
 .exact o.tr _ _ _ d h
 .exact o.tr _ _ _ d (o.tr _ _ _ h e)
def aJu{α:Type}{lt:α->α->Bool}(o:Ord lt){f g h e j i:List α}(z:Up lt (f++g))(A:Up lt (h++e))
  (h1:f=[]\/e=[]\/∃ l x y k,f=l++[x]/\e=y::k/\lt x y=true) (u:h=[]\/g=[]\/∃ l x y k,h=l++[x]/\g=y::k/\lt x y=true)
  (n:j.Perm (f++h)) (m:i.Perm (g++e)) (r:Up lt j) (t:Up lt i):Up lt (j++i)/\(j++i).Perm (f++g++(h++e)):=by
 obtain ⟨q,p,C⟩:=Bz.1 z;obtain ⟨B,v,w⟩:=Bz.1 A;have D:=vJ o q v h1;have s:=vJ o B p u;refine ⟨Bz.2 ⟨r,t,λ a c b d=>?_⟩,?_⟩
 .rcases Az.1 (n.mem_iff.1 c) with c | c<;>rcases Az.1 (m.mem_iff.1 d) with d | d
  .exact C a c b d
  .exact D a c b d
  .exact s a c b d
  .exact w a c b d
 .refine (n.append m).trans ?_;rw [Ae,Ae];refine Du f ?_;rw [<-Ae,<-Ae];exact Dq e Dv
def oG{α:Type}(lt:α->α->Bool)(x:α)(l:List α):Nat->Nat
 | 0=>0
 | k+1=>match l[k]? with
  | some y=>if lt x y then oG lt x l k else k+1
  | none=>k+1
def nK{α:Type}(lt:α->α->Bool)(l:List α)(x:α):List α:=l.take (oG lt x l l.length)++x::l.drop (oG lt x l l.length)
def srt{α:Type}(lt:α->α->Bool)(l:List α):List α:=l.foldl (nK lt) []
def U9{α:Type}{lt:α->α->Bool}{x:α}{l:List α}:∀ k,oG lt x l k<=k
 | 0=>Bf _
 | k+1=>by
  unfold oG;split
  .split
   .exact Nat.le_succ_of_le (U9 k)
   .exact Bf _
  .exact Bf _
def VA{α:Type}{lt:α->α->Bool}{x:α}{l:List α}:∀ (k i:Nat) (h:i<l.length),oG lt x l k<=i->i<k->lt x l[i]=true
 | 0,i,h,_,h2=>by omega
 | k+1,i,h,h1,h2=>by
  unfold oG at h1;split at h1
  .rename_i y a;split at h1
   .rename_i hl;by_cases e:i=k
    .subst e;rw [Aa h] at a;cases a;exact hl
    .exact VA k i h h1 o_
   .omega
  .omega
def U8{α:Type}{lt:α->α->Bool}{x:α}{l:List α}:∀ (k:Nat) (_:k<=l.length),oG lt x l k=0\/∃ (i:Nat) (h:i<l.length),oG lt x l k=i+1/\lt x l[i]=false
 | 0,_=>.inl rfl
 | k+1,h=>by
  have a:k<l.length:=h;have e:oG lt x l (k+1)=if lt x l[k]=true then oG lt x l k else k+1:=by show (match l[k]? with | some y=>if lt x y=true then oG lt x l k else k+1 | none=>k+1)=_;rw [Aa a]
  rw [e];cases hl:lt x l[k] with
  | true=>rw [if_pos rfl];exact U8 k o_
  | false=>exact .inr ⟨k,a,if_neg d_,hl⟩
def yA{α:Type}(lt:α->α->Bool)(l:List α)(x:α):(nK lt l x).Perm (x::l):=by unfold nK;refine Eh.trans ?_;rw [Bp]
def aHa{α:Type}{lt:α->α->Bool}(o:Ord lt){l:List α}{x:α}(m:Up lt l)(s:∀ y∈l,lt x y=true\/lt y x=true):Up lt (nK lt l x):=by
 unfold nK;have n:=U9 (lt:=lt) (x:=x) (l:=l) l.length;have f:Up lt (l.take (oG lt x l l.length)++l.drop (oG lt x l l.length)):=by rw [Bp];exact m
 refine aAs f (λ a c=>?_) (λ b r=>?_)
 .rcases U8 (lt:=lt) (x:=x) (l:=l) l.length (Bf _) with h | ⟨i,g,h,p⟩
  .rw [h] at c;cases c
  .rw [h] at c;have k:lt l[i] x=true:=by
    rcases s l[i] (Bd g) with q | q
    .rw [p] at q;cases q
    .exact q
   rw [Gw g] at c;rcases Az.1 c with c | c
   .refine o.tr _ _ _ ?_ k;have d:Up lt (l.take i++l.drop i):=by rw [Bp];exact m
    rw [Ag g] at d;exact (Bz.1 d).2.2 a c _ (Ar ..)
   .rw [Dh.1 c];exact k
 .obtain ⟨j,t,e⟩:=Il r;rw [List.getElem_drop] at e;rw [<-e];rw [Eg] at t;exact VA l.length _ o_ o_ o_
def aAX{α:Type}{lt:α->α->Bool}(o:Ord lt):∀ (l a:List α),Up lt a->Tot lt (a++l)->Up lt (l.foldl (nK lt) a)/\(l.foldl (nK lt) a).Perm (a++l)
 | [],a,hu,_=>⟨hu,by simp⟩
 | x::l,a,hu,ht=>by have hp:=yA lt a x;have b:(a++x::l).Perm (nK lt a x++l):=Eh.trans (hp.symm.append_right l);obtain ⟨d,e⟩:=aAX o l (nK lt a x) (aHa o hu λ y c=>((Bz.1 ht).2.2 y c x (Ar ..)).symm) (ht.perm b);exact ⟨d,e.trans b.symm⟩
def qW{α:Type}{lt:α->α->Bool}(o:Ord lt){l:List α}(h:Tot lt l):Up lt (srt lt l):=(aAX o l [] Li h).1
def FT{α:Type}{lt:α->α->Bool}:∀ (l a:List α),(l.foldl (nK lt) a).Perm (a++l)
 | [],a=>by simp
 | x::l,a=>(FT l (nK lt a x)).trans (((yA lt a x).append_right l).trans Eh.symm)
def fE{α:Type}(lt:α->α->Bool)(l:List α):(srt lt l).Perm l:=FT l []
def II{α:Type}{lt:α->α->Bool}(o:Ord lt){l W:List α}(h:Tot lt l)(a:Up lt W)(hp:W.Perm l):W=srt lt l:=PW o (hp.trans (fE lt l).symm) a (qW o h)
def aJN{α:Type}{lt:α->α->Bool}(o:Ord lt){l:List α}(a:Up lt l):l=srt lt l:=II o (Je (λ h=>.inl h) a) a (Jf l)
def bis(P:Nat->Bool):Nat->Nat->Nat->Nat
 | 0,lo,_=>lo
 | f+1,lo,hi=>if lo<hi then (if P ((lo+hi) / 2)=true then bis P f ((lo+hi) / 2+1) hi else bis P f lo ((lo+hi) / 2)) else lo
def KJ(P:Nat->Bool):∀ (f lo e:Nat),e-lo<=f->lo<=e->lo<=bis P f lo e/\bis P f lo e<=e/\(bis P f lo e=lo\/P (bis P f lo e-1)=true)/\(bis P f lo e=e\/P (bis P f lo e)=false)
 | 0,lo,e,h,h2=>⟨Bf _,h2,.inl rfl,.inl (show lo=e by omega)⟩
 | f+1,lo,e,h,h2=>by
  unfold bis;by_cases h3:lo<e
  .rw [if_pos h3];cases hp:P ((lo+e) / 2) with
   | true=>
    rw [if_pos rfl];obtain ⟨a,b,c,d⟩:=KJ P f ((lo+e) / 2+1) e o_ o_;refine ⟨by omega,b,?_,d⟩;rcases c with c | c
    .right;rw [c,Hn];exact hp
    .exact .inr c
   | false=>
    rw [if_neg d_];obtain ⟨a,b,c,d⟩:=KJ P f lo ((lo+e) / 2) o_ o_;refine ⟨a,by omega,c,?_⟩;rcases d with d | d
    .right;rw [d];exact hp
    .exact .inr d
  .rw [if_neg h3];exact ⟨Bf _,h2,.inl rfl,.inl o_⟩
def ltO{α:Type}(lt:α->α->Bool)(x y:Option α):Prop:=∃ a b,x=some a/\y=some b/\lt a b=true
def vI{α:Type}{lt:α->α->Bool}{l:List α}(h:Up lt l)(s:Nat):Up lt (l.take s++l.drop s):=by rw [Bp];exact h
def GG{α:Type}{l:List α}{s:Nat}(hs:s≠0){a:α}(h:l[s-1]? =some a):l.take s=l.take (s-1)++[a]:=by obtain ⟨hl,e⟩:=Ac.1 h;have b:s=s-1+1:=o_;rw [b,Gw hl,e,Hn]
def GX{α:Type}{l:List α}{t:Nat}{b:α}(h:l[t]? =some b):l.drop t=b::l.drop (t+1):=by obtain ⟨hl,e⟩:=Ac.1 h;rw [Ag hl,e]
def aD8{α:Type}{lt:α->α->Bool}{U V:List α}{s t:Nat}(h:s=0\/V.length<=t\/ltO lt U[s-1]? V[t]?):
  U.take s=[]\/V.drop t=[]\/∃ c x y d,U.take s=c++[x]/\V.drop t=y::d/\lt x y=true:=by
 by_cases hs:s=0
 .exact .inl (by rw [hs];rfl)
 rcases h with h | h | ⟨x,y,b,a,hl⟩
 .exact absurd h hs
 .exact .inr (.inl (Ai h))
 .exact .inr (.inr ⟨_,x,y,_,GG hs b,GX a,hl⟩)
def aGK{α:Type}{lt:α->α->Bool}(o:Ord lt){U V:List α}{s t:Nat}(h:Up lt U)(d:Up lt V)(c:Tot lt (U++V))
  (h1:s=0\/V.length<=t\/ltO lt U[s-1]? V[t]?) (f:t=0\/U.length<=s\/ltO lt V[t-1]? U[s]?):
  srt lt (U.take s++V.take t)++srt lt (U.drop s++V.drop t)=srt lt (U++V):=by
 have e:Tot lt (U.take s++V.take t):=by refine Fw ?_ c;exact (Hw s U).append (Hw t V)
 have g:Tot lt (U.drop s++V.drop t):=by refine Fw ?_ c;exact (Hx s U).append (Hx t V)
 obtain ⟨a,b⟩:=aJu o (vI h s) (vI d t) (aD8 h1) (aD8 f) (fE lt _) (fE lt _) (qW o e) (qW o g);rw [Bp,Bp] at b;exact II o c a b
def aKB{α:Type}{lt:α->α->Bool}(o:Ord lt){V:List α}{u:α}{t:Nat}(f:Up lt V)(k:Tot lt (u::V))(h1:t=0\/ltO lt V[t-1]? (some u))(i:V.length<=t\/ltO lt (some u) V[t]?):
  V.take t++u::V.drop t=srt lt (u::V):=by
 have j:=vJ (A:=V.take t) (B:=[u]) o (Fw (Hw t V) f) (Iy ..) (by
  rcases h1 with h | ⟨a,b,c,d,hl⟩
  .exact .inl (by rw [h];rfl)
  .by_cases e:t=0
   .exact .inl (by rw [e];rfl)
   .cases d
    exact .inr (.inr ⟨_,a,u,[],GG e c,rfl,hl⟩))
 have g:=vJ (A:=[u]) (B:=V.drop t) o (Iy ..) (Fw (Hx t V) f) (by
  rcases i with h | ⟨a,b,c,d,hl⟩
  .exact .inr (.inl (Ai h))
  .cases c
   exact .inr (.inr ⟨[],u,b,_,rfl,GX d,hl⟩))
 refine II o k (aAs (vI f t) (λ a c=>j a c u (Iz u)) (λ b d=>g u (Iz u) b d)) ?_;refine Eh.trans ?_;rw [Bp]
def vN{α:Type}{lt:α->α->Bool}(o:Ord lt){l:List α}(a:Up lt l):srt lt l=l:=(aJN o a).symm
def aAW{α:Type}{lt:α->α->Bool}(o:Ord lt){U V:List α}(a:Tot lt (U++V)):srt lt (U++V)=srt lt (V++U):=
 II o (a.perm Dv) (qW o a) ((fE lt _).trans Dv)
def ND(x:Nat)(a:x<18446744073709551616):dK .and .u64 (x:Int) 4294967295=((x % 4294967296:Nat):Int):=by have h:=yJ .u64 x 4294967295 (by simp only [aW];omega) d_;have e:x &&& 4294967295=x % 4294967296:=Jp x 32;rw [e] at h;exact h
def fJ(x:Nat):Ke (x:Int) (2 ^ Dm 32)=((x / 4294967296:Nat):Int):=by show Ke (x:Int) 4294967296=_;rw [Dy _ d_];omega
def YE(x y:Nat)(k:x<18446744073709551616)(j:y<18446744073709551616):aq 168 [.int .u64 x,.int .u64 y] [] (.ret (.tup [.int .u64 (M7 x y:Nat),.int .u64 (C0 x y:Nat)])) []:=by
 obtain ⟨a,b,c,d,u,v,r,hd,q,s,n,C,hs⟩:=YD x y k j;have F:=aGI hs q s n;have D:C0 x y<18446744073709551616:=Ez _ d_;have p:((x % 4294967296:Nat):Int)*((y % 4294967296:Nat):Int)=(a:Int):=by rw [u,Ee]
 have w:((x / 4294967296:Nat):Int)*((y % 4294967296:Nat):Int)=(b:Int):=by rw [v,Ee]
 have t:((x % 4294967296:Nat):Int)*((y / 4294967296:Nat):Int)=(c:Int):=by rw [r,Ee]
 have B:((x / 4294967296:Nat):Int)*((y / 4294967296:Nat):Int)=(d:Int):=by rw [hd,Ee]
 have o:(b:Int)+((a / 4294967296:Nat):Int)=((b+a / 4294967296:Nat):Int):=o_;have m:(((b+a / 4294967296) % 4294967296:Nat):Int)+(c:Int)=(((b+a / 4294967296) % 4294967296+c:Nat):Int):=o_;have z:(d:Int)+(((b+a / 4294967296) / 4294967296:Nat):Int)+((((b+a / 4294967296) % 4294967296+c) / 4294967296:Nat):Int)=((M7 x y:Nat):Int):=o_;have h:¬ (inR .u64 ((x:Int)*(y:Int)))->IntKind.wrap .u64 ((x:Int)*(y:Int))=((C0 x y:Nat):Int):=λ_=>by unfold C0;rw [<-Ee];simp [IntKind.wrap,IntKind.signed,IntKind.bits]
 refine c_ Tryz.f168 λ_=>gV ?_;rw [ND x k];refine Ab d_ (gV ?_);rw [fJ x,ND y j];refine Ab d_ (gV ?_);rw [fJ y,p];refine aJ (gV ?_);rw [w];refine aJ (gV ?_);refine Ab d_ (gV ?_);rw [fJ a,o];refine aJ (gV ?_);rw [ND _ o_];refine Ab d_ (gV ?_);rw [fJ (b+a / 4294967296),t];refine aJ (gV ?_);rw [m];refine aJ (gV ?_);rw [B];refine aJ (gV ?_);refine aJ (gV ?_);refine Ab d_ (gV ?_);rw [fJ ((b+a / 4294967296) % 4294967296+c),z];refine aJ (gV ?_);by_cases i:inR .u64 ((x:Int)*(y:Int))
 .have e:(x:Int)*(y:Int)=((C0 x y:Nat):Int):=by obtain ⟨h1,l⟩:=i;simp only [bW,aW] at h1 l;rw [<-Ee] at h1 l⊢;unfold C0;omega
  rw [e];exact zW
 .rw [h i];refine Kl ?_;refine gW hE ?_;conv=>whnf
def aMo{M:Imm}{ob:Hs}{vs:ba}{a b c:aa}(h:bX M ob vs [a,b,c]):∃ u v x,vs=[u,v,x]/\Rep M ob u a/\Rep M ob v b/\Rep M ob x c:=by
 obtain ⟨hl,d⟩:=h
 match vs,hl with
 | [u,v,x],_=>exact ⟨u,v,x,rfl,d 0 _ _ rfl rfl,d 1 _ _ rfl rfl,d 2 _ _ rfl rfl⟩
def aBt{M:Imm}{ob:Hs}{n:Nat}(h:n<18446744073709551616):Rep M ob (.int .u64 (n:Int)) (uu n):=.int _ _ ⟨by simp only [bW];omega,by simp only [aW];omega⟩
def aEI(x y:Nat)(m:x<18446744073709551616)(l:y<18446744073709551616):aq 169 [uu x,uu y,.int .u64 0] [] (.ret (.tup [uu ((x+y) % 18446744073709551616),uu ((x+y) / 18446744073709551616)])) []:=by
 intro M ob w g hm h;obtain ⟨u,v,c,rfl,k,b,j⟩:=aMo h;obtain ⟨rfl,_⟩:=k.int_inv;obtain ⟨rfl,_⟩:=b.int_inv;obtain ⟨rfl,_⟩:=j.int_inv;refine .inr ⟨.tuple #[.int .u64 (((x+y) % 18446744073709551616:Nat):Int),.int .u64 (((x+y) / 18446744073709551616:Nat):Int)],w,?_,M,ob,Ext.refl _ _ _ _,hm,?_⟩
 .rw [run_callFunc_extern (show Tryz.prog.funcs[169]? =some Tryz.f169 by kernel_rfl) (by kernel_rfl) (by kernel_rfl) (by kernel_rfl) (e:=(Extern.MathBitsCarry.rows.head!).2) (by kernel_rfl)];rfl
 .refine .tup [_,_] _ rfl λ i v a b d=>?_
  match i,b,d with
  | 0,b,d=>cases b;cases d;exact aBt (Ez _ d_)
  | 1,b,d=>cases b;cases d;exact aBt o_
def MI(b:Bool)(x y:Nat)(r:Nat)(a:(if b=true then x else y)=r):aq 170 [.bool b,uu x,uu y] [] (.ret (uu r)) []:=by
 cases b with
 | true=>
  have a:x=r:=a;exact zqda12
 | false=>
  have a:y=r:=a;exact zqda12
def aHy(n:Int)(r:Nat)(a:ofF n=r):aq 122 [ii n] [] (.ret (uu r)) []:=by
 unfold ofF at a;by_cases h1:n<=0
 .rw [if_pos h1] at a;subst a;exact c_ Tryz.f122 λ_=>zW
 .rw [if_neg h1] at a;by_cases b:n<4294967296
  .rw [if_pos b] at a;have e:n*2 ^ Dm 32=(r:Int):=by show n*4294967296=_;omega
   have c:(r:Int)<18446744073709551616:=o_;refine c_ Tryz.f122 λ_=>?_
   repeat' first | (refine gN hE ?_;conv=>whnf) | refine Fq (Ab (Ab d_ (by rw [e];exact ⟨by simp only [bW];omega,by simp only [aW];omega⟩)) ?_) | exact rfl | refine zt ?_ | refine zu ?_ ?_ | intro h | fail
   rw [e]
  .rw [if_neg b] at a;subst a;exact c_ Tryz.f122 λ_=>zW
def aDw(a b:Nat)(j:a<18446744073709551616)(i:b<18446744073709551616)(r:Nat)(c:EP a b=r):aq 126 [uu a,uu b] [] (.ret (uu r)) []:=by
 have h1:=aEI a b j i;unfold EP EY at c;by_cases h:a+b<18446744073709551616
 .rw [if_pos h] at c;have d:(a+b) / 18446744073709551616=0:=o_;have k:(a+b) % 18446744073709551616=r:=o_;rw [d,k] at h1;have e:=MI false 18446744073709551615 r r rfl;exact c_ Tryz.f126 λ_=>zW
 .rw [if_neg h] at c;have d:(a+b) / 18446744073709551616=1:=o_;rw [d] at h1;have e:=MI true 18446744073709551615 ((a+b) % 18446744073709551616) r c;generalize (a+b) % 18446744073709551616=q at h1 e;exact c_ Tryz.f126 λ_=>zW
def aGr{h l:Nat}(hl:l<4294967296):h*4294967296 ||| l=h*4294967296+l:=by have:=Hy (i:=32) hl h;rw [Da] at this;exact this.symm
def aNY{h l:Nat}(a:h<4294967296)(hl:l<4294967296):dK .or .u64 ((h*4294967296:Nat):Int) (l:Int)=((h*4294967296+l:Nat):Int):=by have e:=oK .u64 (h*4294967296) l (by simp only [aW];omega) (by simp only [aW];omega);rw [aGr hl] at e;exact e
def aDl(a b:Nat)(n:a<18446744073709551616)(m:b<18446744073709551616)(r:Nat)(c:uD a b=r):aq 125 [uu a,uu b] [] (.ret (uu r)) []:=by
 have h1:=YE a b n m;have hp:a*b<18446744073709551616*18446744073709551616:=Nat.mul_lt_mul'' n m;have e:=fJ (M7 a b);have k:=fJ (C0 a b);have d:a*b=M7 a b*18446744073709551616+C0 a b:=by unfold M7 C0;omega
 have q:C0 a b<18446744073709551616:=Ez _ d_;unfold uD EY at c;generalize a*b=P at c d hp;generalize M7 a b=H at h1 e d;generalize C0 a b=L at h1 k d q;by_cases h:P / 4294967296<18446744073709551616
 .rw [if_pos h] at c;have i:H / 4294967296=0:=o_;have p:H<4294967296:=o_;have s:H*4294967296+L / 4294967296=r:=o_;have o:(H:Int)*2 ^ Dm 32=((H*4294967296:Nat):Int):=by show (H:Int)*4294967296=_;omega
  have j:=aNY (h:=H) (l:=L / 4294967296) p o_;rw [i] at e;rw [s] at j;refine c_ Tryz.f125 λ_=>?_
  repeat' first | (refine gN hE ?_;conv=>whnf) | refine .pure _ [] h1 ?_ | (rw [e];refine Ab d_ ?_) | (rw [o];refine Fq (Ab (Ab d_ ⟨by simp only [bW];omega,by simp only [aW];omega⟩) ?_)) | (rw [k];refine Ab d_ ?_) | exact rfl | refine zt ?_ | refine zu ?_ ?_ | intro h | fail
  rw [j]
 .rw [if_neg h] at c;subst c;have i:(0:Int)<((H / 4294967296:Nat):Int):=o_;generalize ((H / 4294967296:Nat):Int)=Q at i e;refine c_ Tryz.f125 λ_=>?_
  repeat' first | (refine gN hE ?_;conv=>whnf) | refine .pure _ [] h1 ?_ | (rw [e];refine Ab d_ ?_) | exact rfl | refine zt ?_ | refine zu ?_ ?_ | intro h | fail
def RG(n:Int):aq 122 [ii n] [] (.ret (uu (ofF n))) []:=aHy n _ rfl
def VW(a b:Nat)(d:a<18446744073709551616)(c:b<18446744073709551616):aq 126 [uu a,uu b] [] (.ret (uu (EP a b))) []:=aDw a b d c _ rfl
def JU(a b:Nat)(d:a<18446744073709551616)(c:b<18446744073709551616):aq 125 [uu a,uu b] [] (.ret (uu (uD a b))) []:=aDl a b d c _ rfl
def bl8(v:Nat):Nat:=if v<1 then 0 else if v<2 then 1 else if v<4 then 2 else if v<8 then 3 else if v<16 then 4 else if v<32 then 5 else if v<64 then 6 else if v<128 then 7 else 8
def aL7:ay:=(Dr 256).map λ v=>Dt (bl8 v)
def mN{v:Nat}(h:v<256):aL7[v]? =some (Dt (bl8 v)):=by simp [aL7,h]
def aLM{v:Nat}(h:1<=v)(a:v<256):1<=bl8 v/\bl8 v<=8/\2 ^ (bl8 v-1)<=v/\v<2 ^ bl8 v:=by
 unfold bl8
 repeat' split
 all_goals simp
 all_goals omega
def pT(v:Nat):bl8 v<=8:=by
 unfold bl8
 repeat' split
 all_goals omega
def kQ(v:Nat):((Dt (bl8 v)).toNat:Int)=(bl8 v:Int):=by have:=pT v;simp;omega
def BL(x n:Nat):Prop:=1<=n/\2 ^ (n-1)<=x/\x<2 ^ n
def BL.up{x n:Nat}(k:Nat)(h:BL (x / 2 ^ k) n):BL x (k+n):=by
 obtain ⟨h1,a,h3⟩:=h;have hp:0<2 ^ k:=Mq d_;refine ⟨by omega,?_,?_⟩
 .have:=(Hu hp).1 a;rw [show k+n-1=n-1+k by omega,Fm];exact this
 .have:=(Di hp).1 h3;rw [Ly,Fm];exact this
def BL.le{x n:Nat}(h:BL x n)(a:x<18446744073709551616):n<=64:=by
 obtain ⟨h1,b,_⟩:=h;rcases Mz 64 n with h3 | h3
 .have:2 ^ 64<=2 ^ (n-1):=Ek d_ o_;omega
 .exact h3
def rY{v:Nat}(h:1<=v)(b:v<256):BL v (bl8 v):=by obtain ⟨a,_,c,d⟩:=aLM h b;exact ⟨a,c,d⟩
def hiN(x k:Nat):Ke (x:Int) (2 ^ k)=((x / 2 ^ k:Nat):Int):=by rw [Dy _ (Int.pow_nonneg d_)];push_cast;rfl
def JQ(x:Nat):Ke (x:Int) (2 ^ Dm 16)=((x / 65536:Nat):Int):=hiN x 16
def hi8(x:Nat):Ke (x:Int) (2 ^ Dm 8)=((x / 256:Nat):Int):=hiN x 8
def YI(x:Nat)(i:1<=x)(d:x<18446744073709551616):∃ n:Nat,BL x n/\aq 297 [uu x] [] (.ret (ii n)) []:=by
 by_cases e:4294967296<=x
 .by_cases h1:65536<=x / 4294967296
  .by_cases c:256<=x / 4294967296 / 65536
   .have b:BL x (32+(16+(8+(bl8 (x / 4294967296 / 65536 / 256))))):=BL.up 32 (BL.up 16 (BL.up 8 (rY (v:=x / 4294967296 / 65536 / 256) o_ o_)));refine Ao (32+(16+(8+(bl8 (x / 4294967296 / 65536 / 256))))) (Ab b ?_);have a:(x / 4294967296 / 65536 / 256)<256:=o_;refine c_ Tryz.f297 λ_=>?_
    repeat' first | (refine gN hE ?_;conv=>whnf) | (rw [fJ];refine Ab d_ ?_) | (rw [JQ];refine Ab d_ ?_) | (rw [hi8];refine Ab d_ ?_) | refine Ao _ (Ab (mN a) ?_) | (rw [kQ];have:=pT ((x / 4294967296 / 65536 / 256));refine aJ ?_) | exact rfl | refine zt ?_ | refine zu ?_ ?_ | intro h | fail
    all_goals exact congrArg (λ n=>Res.ret (aa.int .i64 n)) (by (try rw [kQ]);omega)
   .have b:BL x (32+(16+(bl8 (x / 4294967296 / 65536)))):=BL.up 32 (BL.up 16 (rY (v:=x / 4294967296 / 65536) o_ o_));refine Ao (32+(16+(bl8 (x / 4294967296 / 65536)))) (Ab b ?_);have a:(x / 4294967296 / 65536)<256:=o_;refine c_ Tryz.f297 λ_=>?_
    repeat' first | (refine gN hE ?_;conv=>whnf) | (rw [fJ];refine Ab d_ ?_) | (rw [JQ];refine Ab d_ ?_) | (rw [hi8];refine Ab d_ ?_) | refine Ao _ (Ab (mN a) ?_) | (rw [kQ];have:=pT ((x / 4294967296 / 65536));refine aJ ?_) | exact rfl | refine zt ?_ | refine zu ?_ ?_ | intro h | fail
    all_goals exact congrArg (λ n=>Res.ret (aa.int .i64 n)) (by (try rw [kQ]);omega)
  .by_cases c:256<=x / 4294967296
   .have b:BL x (32+(8+(bl8 (x / 4294967296 / 256)))):=BL.up 32 (BL.up 8 (rY (v:=x / 4294967296 / 256) o_ o_));refine Ao (32+(8+(bl8 (x / 4294967296 / 256)))) (Ab b ?_);have a:(x / 4294967296 / 256)<256:=o_;refine c_ Tryz.f297 λ_=>?_
    repeat' first | (refine gN hE ?_;conv=>whnf) | (rw [fJ];refine Ab d_ ?_) | (rw [JQ];refine Ab d_ ?_) | (rw [hi8];refine Ab d_ ?_) | refine Ao _ (Ab (mN a) ?_) | (rw [kQ];have:=pT ((x / 4294967296 / 256));refine aJ ?_) | exact rfl | refine zt ?_ | refine zu ?_ ?_ | intro h | fail
    all_goals exact congrArg (λ n=>Res.ret (aa.int .i64 n)) (by (try rw [kQ]);omega)
   .have b:BL x (32+(bl8 (x / 4294967296))):=BL.up 32 (rY (v:=x / 4294967296) o_ o_);refine Ao (32+(bl8 (x / 4294967296))) (Ab b ?_);have a:(x / 4294967296)<256:=o_;refine c_ Tryz.f297 λ_=>?_
    repeat' first | (refine gN hE ?_;conv=>whnf) | (rw [fJ];refine Ab d_ ?_) | (rw [JQ];refine Ab d_ ?_) | (rw [hi8];refine Ab d_ ?_) | refine Ao _ (Ab (mN a) ?_) | (rw [kQ];have:=pT ((x / 4294967296));refine aJ ?_) | exact rfl | refine zt ?_ | refine zu ?_ ?_ | intro h | fail
    all_goals exact congrArg (λ n=>Res.ret (aa.int .i64 n)) (by (try rw [kQ]);omega)
 .by_cases h1:65536<=x
  .by_cases c:256<=x / 65536
   .have b:BL x (16+(8+(bl8 (x / 65536 / 256)))):=BL.up 16 (BL.up 8 (rY (v:=x / 65536 / 256) o_ o_));refine Ao (16+(8+(bl8 (x / 65536 / 256)))) (Ab b ?_);have a:(x / 65536 / 256)<256:=o_;refine c_ Tryz.f297 λ_=>?_
    repeat' first | (refine gN hE ?_;conv=>whnf) | (rw [fJ];refine Ab d_ ?_) | (rw [JQ];refine Ab d_ ?_) | (rw [hi8];refine Ab d_ ?_) | refine Ao _ (Ab (mN a) ?_) | (rw [kQ];have:=pT ((x / 65536 / 256));refine aJ ?_) | exact rfl | refine zt ?_ | refine zu ?_ ?_ | intro h | fail
    all_goals exact congrArg (λ n=>Res.ret (aa.int .i64 n)) (by (try rw [kQ]);omega)
   .have b:BL x (16+(bl8 (x / 65536))):=BL.up 16 (rY (v:=x / 65536) o_ o_);refine Ao (16+(bl8 (x / 65536))) (Ab b ?_);have a:(x / 65536)<256:=o_;refine c_ Tryz.f297 λ_=>?_
    repeat' first | (refine gN hE ?_;conv=>whnf) | (rw [fJ];refine Ab d_ ?_) | (rw [JQ];refine Ab d_ ?_) | (rw [hi8];refine Ab d_ ?_) | refine Ao _ (Ab (mN a) ?_) | (rw [kQ];have:=pT ((x / 65536));refine aJ ?_) | exact rfl | refine zt ?_ | refine zu ?_ ?_ | intro h | fail
    all_goals exact congrArg (λ n=>Res.ret (aa.int .i64 n)) (by (try rw [kQ]);omega)
  .by_cases c:256<=x
   .have b:BL x (8+(bl8 (x / 256))):=BL.up 8 (rY (v:=x / 256) o_ o_);refine Ao (8+(bl8 (x / 256))) (Ab b ?_);have a:(x / 256)<256:=o_;refine c_ Tryz.f297 λ_=>?_
    repeat' first | (refine gN hE ?_;conv=>whnf) | (rw [fJ];refine Ab d_ ?_) | (rw [JQ];refine Ab d_ ?_) | (rw [hi8];refine Ab d_ ?_) | refine Ao _ (Ab (mN a) ?_) | (rw [kQ];have:=pT ((x / 256));refine aJ ?_) | exact rfl | refine zt ?_ | refine zu ?_ ?_ | intro h | fail
    all_goals exact congrArg (λ n=>Res.ret (aa.int .i64 n)) (by (try rw [kQ]);omega)
   .have b:BL x (bl8 (x)):=rY (v:=x) o_ o_;refine Ao (bl8 (x)) (Ab b ?_);have a:x<256:=o_;refine c_ Tryz.f297 λ_=>?_
    repeat' first | (refine gN hE ?_;conv=>whnf) | (rw [fJ];refine Ab d_ ?_) | (rw [JQ];refine Ab d_ ?_) | (rw [hi8];refine Ab d_ ?_) | refine Ao _ (Ab (mN a) ?_) | (rw [kQ];have:=pT (x);refine aJ ?_) | exact rfl | refine zt ?_ | refine zu ?_ ?_ | intro h | fail
    all_goals exact congrArg (λ n=>Res.ret (aa.int .i64 n)) (by (try rw [kQ]);omega)
def aMI(x n:Nat)(a:n<=64)(h:aq 297 [uu x] [] (.ret (ii n)) []):aq 285 [uu x] [] (.ret (ii ((64-n:Nat):Int))) []:=by
 have e:(64:Int)-(n:Int)=((64-n:Nat):Int):=o_;refine c_ Tryz.f285 λ_=>?_
 repeat' first | (refine gN hE ?_;conv=>whnf) | refine .pure _ [] h ?_ | exact rfl | refine zt ?_ | refine zu ?_ ?_ | intro h | fail
 rw [e]
def wu(n:Int):IntKind.wrap .u64 n=n % 18446744073709551616:=by simp [IntKind.wrap,IntKind.signed,IntKind.bits]
def aAK(x y:Nat):Lt (x:Int) (y:Int)=((x / y:Nat):Int):=rfl
noncomputable abbrev fD:Func:=Tryz.f261
def dvF(s Y b a u c d q r:Nat):ar:=[(2,uu Y),(8,uu s),(9,uu b),(10,uu a),(11,uu u),(13,uu c),(14,uu d),(15,uu q),(16,uu r)]
def dvG(s Y b a u c e q t d r:Nat):ar:=[(2,uu Y),(8,uu s),(9,uu b),(10,uu a),(11,uu u),(13,uu c),(14,uu e),(15,uu q),(16,uu r),(17,uu t),(18,uu d)]
def aDW(s Y b a u c e:Nat)(G:aa)(h1:2147483648<=b)(o:b<4294967296)(t:a<4294967296)(m:c<4294967296)(x:u<b*4294967296+a)
  (fin:∀ r,To E fD (.pure (.ret G)) (.code (nD fD 21) (dvF s Y b a u c e ((u*4294967296+c) / (b*4294967296+a)) r) [])):
  ∀ (q r:Nat),Dg b a u c q r->r<4294967296->To E fD (.pure (.ret G)) (.head (stk fD 0) (dvF s Y b a u c e q r) []):=by
 intro q;induction q using Hq with
 | _ q v=>
 intro r hd A;have j:(4294967296:Int)*(r:Int)=((4294967296*r:Nat):Int):=o_;have i:((4294967296*r:Nat):Int)+(c:Int)=((4294967296*r+c:Nat):Int):=o_;have k:(q:Int)*(a:Int)=((q*a:Nat):Int):=(Ee q a).symm;have step:(4294967296<=q\/4294967296*r+c<q*a)->To E fD (.pure (.ret G)) (.code (nD fD 18) (dvF s Y b a u c e q r) []):=λ w=>by
  obtain ⟨B,d⟩:=hd.step m x w;have D:=d.few;have z:=hd.few;have g:(q:Int)-1=((q-1:Nat):Int):=o_;have l:(r:Int)+(b:Int)=((r+b:Nat):Int):=o_;unfold dvF;by_cases p:4294967296<=r+b
  .have f:=(d.fin (Dg.far t o_ p)).2;have fin:=fin (r+b);rw [<-f] at fin;refine gV ?_;rw [g];refine aJ (gV ?_);rw [l];refine aJ (gV ?_);refine aT λ h=>?_;exact zqda9
  .have next:=v (q-1) o_ (r+b) d o_
   unfold dvF at next
   repeat' first | (refine gN hE ?_;conv=>whnf) | (rw [g];refine aJ ?_) | (rw [l];refine aJ ?_) | exact rfl | refine zt ?_ | refine zu ?_ ?_ | intro h | fail
   exact zW
 by_cases y:4294967296<=q
 .have step:=step (.inl y);unfold dvF at step⊢;refine gV ?_;refine aT λ h=>gV ?_;refine aY ?_;exact zqda10
 .have C:q*a<=4294967295*4294967295:=Gc o_ o_;by_cases n:4294967296*r+c<q*a
  .have step:=step (.inr n);unfold dvF at step⊢;refine gV ?_;refine aF λ h=>gV ?_;rw [k];refine aJ (gV ?_);rw [j];refine aJ (gV ?_);rw [i];refine aJ (gV ?_);refine aT λ h=>?_;exact zqda10
  .have f:=(hd.fin o_).2;have fin:=fin r;rw [<-f] at fin;unfold dvF at fin⊢;refine gV ?_;refine aF λ h=>gV ?_;rw [k];refine aJ (gV ?_);rw [j];refine aJ (gV ?_);rw [i];refine aJ (gV ?_);refine aF λ h=>?_;exact zqda9
def aDV(s Y b a u e c p t:Nat)(G:aa)(h1:2147483648<=b)(o:b<4294967296)(w:a<4294967296)(m:c<4294967296)(z:t<b*4294967296+a)
  (fin:∀ r,To E fD (.pure (.ret G)) (.code (nD fD 28) (dvG s Y b a u e c p t ((t*4294967296+c) / (b*4294967296+a)) r) [])):
  ∀ (q r:Nat),Dg b a t c q r->r<4294967296->To E fD (.pure (.ret G)) (.head (stk fD 1) (dvG s Y b a u e c p t q r) []):=by
 intro q;induction q using Hq with
 | _ q x=>
 intro r hd C;have j:(4294967296:Int)*(r:Int)=((4294967296*r:Nat):Int):=o_;have i:((4294967296*r:Nat):Int)+(c:Int)=((4294967296*r+c:Nat):Int):=o_;have k:(q:Int)*(a:Int)=((q*a:Nat):Int):=(Ee q a).symm;have step:(4294967296<=q\/4294967296*r+c<q*a)->To E fD (.pure (.ret G)) (.code (nD fD 25) (dvG s Y b a u e c p t q r) []):=λ y=>by
  obtain ⟨D,d⟩:=hd.step m z y;have H:=d.few;have B:=hd.few;have g:(q:Int)-1=((q-1:Nat):Int):=o_;have l:(r:Int)+(b:Int)=((r+b:Nat):Int):=o_;unfold dvG;by_cases v:4294967296<=r+b
  .have f:=(d.fin (Dg.far w o_ v)).2;have fin:=fin (r+b);rw [<-f] at fin;refine gV ?_;rw [g];refine aJ (gV ?_);rw [l];refine aJ (gV ?_);refine aT λ h=>?_;exact zqda7
  .have next:=x (q-1) o_ (r+b) d o_
   unfold dvG at next
   repeat' first | (refine gN hE ?_;conv=>whnf) | (rw [g];refine aJ ?_) | (rw [l];refine aJ ?_) | exact rfl | refine zt ?_ | refine zu ?_ ?_ | intro h | fail
   exact zW
 by_cases A:4294967296<=q
 .have step:=step (.inl A);unfold dvG at step⊢;refine gV ?_;refine aT λ h=>gV ?_;refine aY ?_;exact zqda8
 .have F:q*a<=4294967295*4294967295:=Gc o_ o_;by_cases n:4294967296*r+c<q*a
  .have step:=step (.inr n);unfold dvG at step⊢;refine gV ?_;refine aF λ h=>gV ?_;rw [k];refine aJ (gV ?_);rw [j];refine aJ (gV ?_);rw [i];refine aJ (gV ?_);refine aT λ h=>?_;exact zqda8
  .have f:=(hd.fin o_).2;have fin:=fin r;rw [<-f] at fin;unfold dvG at fin⊢;refine gV ?_;refine aF λ h=>gV ?_;rw [k];refine aJ (gV ?_);rw [j];refine aJ (gV ?_);rw [i];refine aJ (gV ?_);refine aF λ h=>?_;exact zqda7
def aH4{a lo y s L:Nat}(k:BL y L)(p:L<=64)(hs:s=64-L)(f:a<y)(hl:lo<18446744073709551616):
  9223372036854775808<=y*2 ^ s/\y*2 ^ s<18446744073709551616/\a*2 ^ s+lo / 2 ^ (64-s)<y*2 ^ s/\lo / 2 ^ (64-s)<2 ^ s/\(a*18446744073709551616+lo) / y=((a*2 ^ s+lo / 2 ^ (64-s))*18446744073709551616+lo*2 ^ s % 18446744073709551616) / (y*2 ^ s):=by
 obtain ⟨o,e,g⟩:=k;have hp:0<2 ^ s:=Mq d_;have b:2 ^ (64-s)*2 ^ s=18446744073709551616:=by rw [<-Fm,show 64-s+s=64 by omega]
 have l:2 ^ (L-1)*2 ^ s=9223372036854775808:=by rw [<-Fm,show L-1+s=63 by omega]
 have n:2 ^ L*2 ^ s=18446744073709551616:=by rw [<-Fm,show L+s=64 by omega]
 have q:2 ^ (L-1)*2 ^ s<=y*2 ^ s:=Bs _ e;have m:y*2 ^ s<2 ^ L*2 ^ s:=Nat.mul_lt_mul_of_pos_right g hp;have d:lo*2 ^ s / 18446744073709551616=lo / 2 ^ (64-s):=by rw [<-b,Mm _ _ hp]
 have c:=Ft (lo*2 ^ s) 18446744073709551616;rw [d] at c;have j:lo / 2 ^ (64-s)<2 ^ s:=by refine (Di (Mq d_)).2 ?_;rw [Da,b];exact hl
 have h:(a+1)*2 ^ s<=y*2 ^ s:=Bs _ f;rw [Bv,Gm] at h;have i:(a*18446744073709551616+lo)*2 ^ s=(a*2 ^ s+lo / 2 ^ (64-s))*18446744073709551616+lo*2 ^ s % 18446744073709551616:=by rw [Bv,Bv,Nat.mul_right_comm];omega
 refine ⟨by omega,by omega,by omega,j,?_⟩;rw [<-i,Mm _ _ hp]
def aFC(x s:Nat):(x:Int)*2 ^ Dm (s:Int)=((x*2 ^ s:Nat):Int):=by rw [Bn];push_cast;rfl
def aJP(x s:Nat):Ke (x:Int) (2 ^ Dm (s:Int))=((x / 2 ^ s:Nat):Int):=hiN x s
def aH3(s Y m g u d b q t a r:Nat)(hs:s<=64)(j:q*4294967296+a<18446744073709551616)(o:Y<18446744073709551616)(e:a*Y<=t*4294967296+b)(h:t*4294967296+b-a*Y<18446744073709551616):
  To E fD (.pure (.ret (.tup [uu (q*4294967296+a),uu ((t*4294967296+b-a*Y) / 2 ^ s)]))) (.code (nD fD 28) (dvG s Y m g u d b q t a r) []):=by
 have c:q*4294967296<18446744073709551616:=Nat.lt_of_le_of_lt (Nat.le_add_right _ _) j;have f:(q:Int)*4294967296=((q*4294967296:Nat):Int):=o_;have l:((q*4294967296:Nat):Int)+(a:Int)=((q*4294967296+a:Nat):Int):=o_;have k:(a:Int)*(Y:Int)=((a*Y:Nat):Int):=(Ee a Y).symm;have i:IntKind.wrap .u64 (IntKind.wrap .u64 (IntKind.wrap .u64 ((t:Int)*4294967296)+(b:Int))-IntKind.wrap .u64 ((a*Y:Nat):Int))=((t*4294967296+b-a*Y:Nat):Int):=by
  simp only [wu];generalize a*Y=z at *
  omega
 unfold dvG;generalize p:t*4294967296+b-a*Y=R at *
 generalize n:a*Y=P at *
 refine gV ?_;rw [f];refine aJ (gV ?_);rw [l];refine aJ (gV ?_);refine Kl (gV ?_);refine Kl (gV ?_);rw [k];refine Kl (gV ?_);refine Kl (gV ?_);rw [i,aJP];refine Ab (Ab o_ (show Dm (s:Int)<=64 by omega)) ?_;refine gW hE ?_;conv=>whnf
def aLp(s Y a d u b c q r:Nat)(G:aa)(h1:2147483648<=a)(g:a<4294967296)(j:d<4294967296)(o:b<4294967296)(f:c<4294967296)(h:Y=a*4294967296+d)(C:u<Y)(k:q=(u*4294967296+b) / Y)
  (fin:∀ r,To E fD (.pure (.ret G)) (.code (nD fD 28) (dvG s Y a d u b c q (u*4294967296+b-q*Y) (((u*4294967296+b-q*Y)*4294967296+c) / Y) r) [])):
  To E fD (.pure (.ret G)) (.code (nD fD 21) (dvF s Y a d u b c q r) []):=by
 have l:q*Y<=u*4294967296+b:=by rw [k];exact Hb ..
 have i:0<Y:=o_;have e:=OO i k rfl;have y:(q:Int)*(Y:Int)=((q*Y:Nat):Int):=(Ee q Y).symm;have w:IntKind.wrap .u64 (IntKind.wrap .u64 (IntKind.wrap .u64 ((u:Int)*4294967296)+(b:Int))-IntKind.wrap .u64 ((q*Y:Nat):Int))=((u*4294967296+b-q*Y:Nat):Int):=by
  simp only [wu];generalize q*Y=z at *
  omega
 generalize u*4294967296+b-q*Y=t at *
 have x:=aDV s Y a d u b c q t G h1 g j f (by rw [<-h];exact e) (by rw [<-h];exact fin) (t / a) (t % a) (Dg.zero h1 j f (by rw [<-h];exact e)) (by have:=Ez t (show 0<a by omega);omega);have m:=Ft t a;have n:=aAK t a;have v:((t / a:Nat):Int)*(a:Int)=((t / a*a:Nat):Int):=(Ee _ _).symm;have p:(t:Int)-((t / a*a:Nat):Int)=((t % a:Nat):Int):=by
  rw [Da] at m;generalize t / a*a=z at *
  omega
 have A:t / a*a<=t:=Hb ..;have B:t / a<=t:=Gv ..;have hm:=Ez t (show 0<a by omega);unfold dvF;unfold dvG at x;generalize t / a*a=z at *
 generalize t / a=q2 at *
 generalize t % a=r2 at *
 generalize q*Y=P at *
 refine gV ?_;refine Kl (gV ?_);refine Kl (gV ?_);rw [y];refine Kl (gV ?_);refine Kl (gV ?_);rw [w];refine Ab o_ (gV ?_);rw [n];refine aJ (gV ?_);rw [v];refine aJ (gV ?_);rw [p];exact zW
def aH2(a lo y s Y H Q U A b i d e q r z:Nat)(G:aa)(K:0<a)(N:a<y)(hs:s<=63)(c:aq 285 [uu y] [] (.ret (ii s)) [])
  (M:Y<18446744073709551616) (t:H<=U) (P:U<Y) (L:Q<=U) (x:(y:Int)*2 ^ Dm (s:Int)=(Y:Int)) (u:(a:Int)*2 ^ Dm (s:Int)=(H:Int)) (v:Ke (lo:Int) (2 ^ Dm ((64-s:Nat):Int))=(Q:Int))
  (n:dK .or .u64 (H:Int) (Q:Int)=(U:Int)) (p:IntKind.wrap .u64 ((lo:Int)*2 ^ (min (Dm (s:Int)) (IntKind.bits .u64)))=(A:Int))
  (J:Ke (Y:Int) (2 ^ Dm 32)=(b:Int)) (I:dK .and .u64 (Y:Int) 4294967295=(i:Int)) (k:Ke (A:Int) (2 ^ Dm 32)=(d:Int)) (l:dK .and .u64 (A:Int) 4294967295=(e:Int))
  (B:0<b) (D:Lt (U:Int) (b:Int)=(q:Int)) (o:(q:Int)*(b:Int)=(z:Int)) (j:(U:Int)-(z:Int)=(r:Int)) (R:z<=U) (O:q<=U) (S:r<=U)
  (C:To E fD (.pure (.ret G)) (.head (stk fD 0) (dvF s Y b i U d e q r) [])):aq 261 [uu a,uu lo,uu y] [] (.ret G) []:=by
 have m:((y:Int)==0)=false:=beq_eq_false_iff_ne.2 o_;have w:((a:Int)==0)=false:=beq_eq_false_iff_ne.2 o_;have F:(64:Int)-(s:Int)=((64-s:Nat):Int):=o_;unfold dvF at C;refine c_ Tryz.f261 λ_=>gV ?_;refine Ab (λ h=>absurd (m.symm.trans h) d_) (λ_=>gV ?_);refine aF λ h=>gV ?_;refine Ab (λ h=>absurd (w.symm.trans h) d_) (λ_=>gV ?_);refine .pure _ [] c (gV ?_);refine aJ (gV ?_);refine Ab o_ (gV ?_);rw [x];refine Fq (Ab (Ab (show Dm (s:Int)<=64 by omega) (Ab (by simp only [bW];omega) (by simp only [aW];omega))) ?_);refine gV ?_;rw [J];refine Ab d_ (gV ?_);rw [I];refine Ab o_ (gV ?_);rw [u];refine Fq (Ab (Ab (show Dm (s:Int)<=64 by omega) (Ab (by simp only [bW];omega) (by simp only [aW];omega))) ?_);refine gV ?_;rw [F];refine aJ (gV ?_);rw [v];refine Ab (Ab o_ (show Dm ((64-s:Nat):Int)<=64 by omega)) ?_;refine gV ?_;rw [n];refine Ab o_ (gV ?_);refine Kl (gV ?_);rw [p,k];refine Ab d_ (gV ?_);rw [l];refine Ab o_ (gV ?_);rw [D];refine aJ (gV ?_);rw [o];refine aJ (gV ?_);rw [j];exact zW
def R8(b lo y:Nat)(h0:0<b)(V:b<y)(S:y<18446744073709551616)(hl:lo<18446744073709551616):∃ m:Int,aq 261 [uu b,uu lo,uu y] [] (.ret (.tup [uu ((b*18446744073709551616+lo) / y),.int .u64 m])) []:=by
 obtain ⟨L,M,hc⟩:=YI y o_ S;have j:=M.le S;have t:=aMI y L j hc;have hL1:=M.1
 obtain ⟨s,hs⟩:∃ s,s=64-L:=⟨_,rfl⟩
 obtain ⟨n1,n2,C,Z,n5⟩:=aH4 M j hs V hl;rw [<-hs] at t;rw [n5];have hA:lo*2 ^ s % 18446744073709551616<18446744073709551616:=Ez _ d_;have c:dK .or .u64 ((b*2 ^ s:Nat):Int) ((lo / 2 ^ (64-s):Nat):Int)=((b*2 ^ s+lo / 2 ^ (64-s):Nat):Int):=by
  have T:=Hy Z b;rw [Da] at T;rw [T];generalize y*2 ^ s=Y at *
  generalize b*2 ^ s=H at *
  generalize lo / 2 ^ (64-s)=Q at *
  exact oK .u64 H Q (by simp only [aW];omega) (by simp only [aW];omega)
 have d:IntKind.wrap .u64 ((lo:Int)*2 ^ (min (Dm (s:Int)) (IntKind.bits .u64)))=((lo*2 ^ s % 18446744073709551616:Nat):Int):=by have h:=aFC lo s;rw [Bn] at h;rw [wu,Bn,Gh (show s<=IntKind.bits .u64 from (show s<=64 by omega)),h];generalize lo*2 ^ s=z;omega
 have i:=aFC y s;have e:=aFC b s;have g:=aJP lo (64-s);clear Z;generalize y*2 ^ s=Y at *
 generalize b*2 ^ s=H at *
 generalize lo / 2 ^ (64-s)=Q at *
 generalize lo*2 ^ s % 18446744073709551616=A at *
 have J:H<=H+Q:=Nat.le_add_right ..;have K:Q<=H+Q:=Nat.le_add_left ..;generalize H+Q=U at *
 have n:2147483648<=Y / 4294967296:=by clear i e g c d;omega
 have k:Y / 4294967296<4294967296:=by clear i e g c d;omega
 have p:Y % 4294967296<4294967296:=Ez _ d_;have l:A / 4294967296<4294967296:=by clear i e g c d;omega
 have q:A % 4294967296<4294967296:=Ez _ d_;have a:Y=Y / 4294967296*4294967296+Y % 4294967296:=by clear i e g c d;omega
 have W:U*18446744073709551616+A=U*18446744073709551616+A / 4294967296*4294967296+A % 4294967296:=by clear i e g c d;omega
 have P:=fJ Y;have O:=ND Y n2;have D:=fJ A;have F:=ND A hA;have o:0<Y:=o_;rw [W];clear W n5;generalize A / 4294967296=a1 at *
 generalize A % 4294967296=a0 at *
 have two:=aIf (Y:=Y) (u:=U) (v:=a1) (w:=a0) o rfl rfl rfl q;have B:(U*18446744073709551616+a1*4294967296+a0) / Y<18446744073709551616:=(Di o).2 (by clear i e g c d P O D F two a;omega);have R:(((U*4294967296+a1-(U*4294967296+a1) / Y*Y)*4294967296+a0) / Y)*Y<=(U*4294967296+a1-(U*4294967296+a1) / Y*Y)*4294967296+a0:=Hb ..;have I:=OO (N:=(U*4294967296+a1-(U*4294967296+a1) / Y*Y)*4294967296+a0) o rfl rfl;have tail:=λ r=>aH3 s Y (Y / 4294967296) (Y % 4294967296) U a1 a0 ((U*4294967296+a1) / Y) (U*4294967296+a1-(U*4294967296+a1) / Y*Y) (((U*4294967296+a1-(U*4294967296+a1) / Y*Y)*4294967296+a0) / Y) r o_ (by rw [two];exact B) n2 R (Na I n2);rw [two] at tail;have mid:=λ r=>aLp s Y (Y / 4294967296) (Y % 4294967296) U a1 a0 ((U*4294967296+a1) / Y) r _ n k p l q a C rfl tail;have x:0<Y / 4294967296:=o_;have G:=Ez U x;have X:=aDW s Y (Y / 4294967296) (Y % 4294967296) U a1 a0 _ n k p l (by rw [<-a];exact C) (by rw [<-a];exact mid) (U / (Y / 4294967296)) (U % (Y / 4294967296)) (Dg.zero n p l (by rw [<-a];exact C)) (Na G k);have et:=Ft U (Y / 4294967296)
 exact ⟨_,aH2 b lo y s Y H Q U A _ _ a1 a0 _ _ (U / (Y / 4294967296)*(Y / 4294967296)) _ h0 V o_ t n2 J C K i e g c d P O D F x (aAK _ _) (Ee _ _).symm (by
  rw [Da] at et;generalize U / (Y / 4294967296)*(Y / 4294967296)=z at *
  clear i e g c d P O D F a tail mid X two
  omega) (Hb ..) (Gv ..) (Lz ..) X⟩
def aL6(x y:Nat):Int.tmod (x:Int) (y:Int)=((x % y:Nat):Int):=rfl
def R7(lo y:Nat)(e:0<y)(i:y<18446744073709551616)(hl:lo<18446744073709551616):aq 261 [uu 0,uu lo,uu y] [] (.ret (.tup [uu (lo / y),uu (lo % y)])) []:=by
 have b:((y:Int)==0)=false:=beq_eq_false_iff_ne.2 o_;have c:=aAK lo y;have a:=aL6 lo y;have d:lo / y<=lo:=Gv ..;have j:=Lz lo y;generalize lo / y=q at *
 generalize lo % y=r at *
 refine c_ Tryz.f261 λ_=>gV ?_;refine Ab (λ h=>absurd (b.symm.trans h) d_) (λ_=>?_)
 repeat' first | (refine gN hE ?_;conv=>whnf) | (rw [c];refine aJ ?_) | (rw [a];refine aJ ?_) | exact rfl | refine zt ?_ | refine zu ?_ ?_ | intro h | fail
 rw [a]
def aD5(a lo y:Nat)(c:a<y)(b:y<18446744073709551616)(hl:lo<18446744073709551616):∃ m:Int,aq 261 [uu a,uu lo,uu y] [] (.ret (.tup [uu ((a*18446744073709551616+lo) / y),.int .u64 m])) []:=by
 rcases Fi a with rfl | h
 .rw [Lx,Bw];exact ⟨_,R7 lo y c b hl⟩
 .exact R8 a lo y h c b hl
def aLL(a b:Nat)(n:a<18446744073709551616)(k:b<18446744073709551616)(r:Nat)(c:AQ a b=r):aq 218 [uu a,uu b] [] (.ret (uu r)) []:=by
 unfold AQ at c;by_cases i:a=0
 .subst i;have c:0=r:=c;subst c;exact c_ Tryz.f218 λ_=>zW
 .have d:((a:Int)==0)=false:=beq_eq_false_iff_ne.2 o_;rw [if_neg i] at c;have e:=fJ a
  obtain ⟨W,o⟩:∃ W,W=a % 4294967296*4294967296:=⟨_,rfl⟩
  have l:IntKind.wrap .u64 ((a:Int)*2 ^ (min (Dm 32) (IntKind.bits .u64)))=(W:Int):=by show IntKind.wrap .u64 ((a:Int)*4294967296)=_;rw [wu];omega
  by_cases h1:b<=a / 4294967296
  .have c:18446744073709551615=r:=by
    rcases Fi b with rfl | hp
    .exact c
    .rw [if_neg o_,aLv hp h1] at c;exact c
   subst c;generalize a / 4294967296=H at *
   refine c_ Tryz.f218 λ_=>gV ?_;refine Ab (λ h=>absurd (d.symm.trans h) d_) (λ_=>gV ?_);rw [e];refine Ab d_ (gV ?_);refine Ab d_ (gV ?_);refine Kl ?_;exact zW
  .obtain ⟨m,hd⟩:=aD5 (a / 4294967296) W b o_ k o_;have j:a / 4294967296*18446744073709551616+W=a*4294967296:=o_;rw [j] at hd;rw [if_neg o_,(aLu o_).2] at c;rw [c] at hd;generalize a / 4294967296=H at *
   refine c_ Tryz.f218 λ_=>gV ?_;refine Ab (λ h=>absurd (d.symm.trans h) d_) (λ_=>gV ?_);rw [e];refine Ab d_ (gV ?_);refine Ab d_ (gV ?_);refine Kl (gV ?_);refine aF λ h=>?_;rw [l];exact zW
def aJi(a b:Nat)(d:a<18446744073709551616)(c:b<18446744073709551616):aq 218 [uu a,uu b] [] (.ret (uu (AQ a b))) []:=aLL a b d c _ rfl
def VQ(a b:Nat)(d:a<18446744073709551616)(c:b<18446744073709551616):aq 264 [uu a,uu b] [] (.ret (uu (AQ a b))) []:=by have h:=aJi a b d c;generalize AQ a b=r at h;exact c_ Tryz.f264 λ_=>zW
def BA(a b:Int)(i:a<=9223372036854775807)(e:b<=9223372036854775807):aq 166 [ii a,ii b] [] (.ret (uu (IX a b))) []:=by have h:=aJi (max a 0).toNat (max b 0).toNat o_ o_;unfold IX;have d:(((max a 0).toNat:Nat):Int)=max a 0:=o_;have c:(((max b 0).toNat:Nat):Int)=max b 0:=o_;generalize AQ (max a 0).toNat (max b 0).toNat=r at h;unfold uu at h;rw [d,c] at h;exact c_ Tryz.f166 λ_=>zW
def aFK(n:Nat):EY n=if n<18446744073709551616 then n else 18446744073709551615:=rfl
def SA:az:=[3037000499,3611622602,3938502375,4112874772,4202935002,4248701964,4271771996,4283353945,4289156689,4292061009,4293513906,4294240539,4294603902,4294785595,4294876444,4294921869]
abbrev aAM:ax:=SA.map uu
def E7(f x i:Nat):Nat:=if f.testBit (15-i)=true then uD x ((SA[i]?).getD 0) else x
def aM5(f:Nat):Nat:=(Dr 16).foldl (E7 f) 4294967296
def uL(age half:Int):Nat:=
 if 63<(max age 0).toNat / (max half 1).toNat then 0 else aM5 (IX (((max age 0).toNat % (max half 1).toNat:Nat):Int) ((max half 1).toNat:Int) / 65536) / 2 ^ ((max age 0).toNat / (max half 1).toNat)
def aIP(f k:Nat):f &&& 2 ^ k=if f.testBit k=true then 2 ^ k else 0:=by
 refine Nat.eq_of_testBit_eq λ j=>?_;rw [Nat.testBit_and,Kv];by_cases h:k=j
 .subst h;cases f.testBit k<;>simp
 .cases f.testBit k<;>simp [h,Kv]
def aD7{i:Nat}(h:i<16):∃ p:Nat,SA[i]? =some p/\p<=4294967296/\aAM[i]? =some (uu p):=by
 have hl:SA.length=16:=rfl;refine ⟨SA[i],Aa o_,?_,by show (SA.map uu)[i]? =_;rw [Bh,Aa o_];rfl⟩;have:∀ p∈SA,p<=4294967296:=by decide
 exact this _ (Bd _)
def aCj{x p:Nat}(a:x<=4294967296)(hp:p<=4294967296):uD x p<=4294967296:=by
 unfold uD;have h1:x*p<=4294967296*4294967296:=Gc a hp;generalize x*p=z at *
 rw [aFK];split<;>omega
def VX{f x i:Nat}(c:i<16)(a:x<=4294967296):E7 f x i<=4294967296:=by
 unfold E7;obtain ⟨p,h1,b,_⟩:=aD7 c;rw [h1];split
 .exact aCj a b
 .exact a
def VY(f:Nat):∀ (l:az) (x:Nat),(∀ i∈l,i<16)->x<=4294967296->l.foldl (E7 f) x<=4294967296
 | [],x,_,hx=>hx
 | i::l,x,h,hx=>VY f l _ (λ j a=>h j (Bb _ a)) (VX (h i (Ar ..)) hx)
def aHA(f:Nat):aM5 f<=4294967296:=VY f _ _ (λ i a=>Jg.1 a) (Bf _)
def aHB(age half:Int):uL age half<=4294967296:=by
 unfold uL;split
 .omega
 .exact Cx (Gv ..) (aHA _)
def vV(a b:Int):IX a b<18446744073709551616:=aIe _ _
def QK(f:Nat){i:Nat}(h:i<16)(x:Nat):((Dr 16).drop i).foldl (E7 f) x=((Dr 16).drop (i+1)).foldl (E7 f) (E7 f x i):=by rw [Ag (by simpa using h)];simp
def aAq{i:Nat}(h:i<16):i=0\/i=1\/i=2\/i=3\/i=4\/i=5\/i=6\/i=7\/i=8\/i=9\/i=10\/i=11\/i=12\/i=13\/i=14\/i=15:=o_
def P0:aq 167 [] [] (.ret (.agg aAM)) []:=by exact c_ Tryz.f167 λ_=>zW
noncomputable abbrev fDF:Func:=Tryz.f121
def aIg(A H f:Nat)(D:f<18446744073709551616)(C:A<9223372036854775808)(F:0<H)(v:H<9223372036854775808)(B:A / H<=63)(R:Nat):∀ (m i x:Nat),i+m=16->x<=4294967296->((Dr 16).drop i).foldl (E7 f) x / 2 ^ (A / H)=R->
  To E fDF (.pure (.ret (uu R))) (.head (stk fDF 0) [(0,ii A),(1,ii H),(5,uu f),(6,uu x),(23,.agg aAM),(24,ii i)] []):=by
 intro m;induction m with
 | zero=>
  intro i x r j c;rw [Ai q_] at c;have c:x / 2 ^ (A / H)=R:=c;have e:=aAK A H;have d:=aJP x (A / H);rw [c] at d;have o:A / H<=A:=Gv ..;generalize A / H=q at *
  refine gV ?_;refine aF λ h=>gV ?_;refine Ab o_ (gV ?_);rw [e];refine aJ (gV ?_);rw [d];refine Ab (Ab o_ (show Dm (q:Int)<=64 by omega)) ?_;refine gW hE ?_;conv=>whnf
 | succ m t=>
  intro i x r j c;rw [QK f o_] at c;have next:=t (i+1) (E7 f x i) o_ (VX o_ j) c
  obtain ⟨p,hp,l,z⟩:=aD7 (i:=i) o_;have e:(15:Int)-(i:Int)=((15-i:Nat):Int):=o_;have d:(1:Int)*2 ^ Dm ((15-i:Nat):Int)=((2 ^ (15-i):Nat):Int):=by have:=aFC 1 (15-i);rw [Gm] at this;exact this
  have s:2 ^ (15-i)<=2 ^ 15:=Ek d_ o_;have a:=yJ .u64 f (2 ^ (15-i)) (by simp only [aW];omega) (by simp only [aW];omega);rw [aIP] at a;have n:0<2 ^ (15-i):=Mq d_;unfold E7 at next
  rw [hp] at next
  have hm:=JU x p o_ o_;have G:15-i<=15:=o_;generalize 15-i=k at *
  have go:∀ b,f.testBit k=b->To E fDF (.pure (.ret (uu R))) (.head (stk fDF 0) [(0,ii A),(1,ii H),(5,uu f),(6,uu x),(23,.agg aAM),(24,ii i)] []):=λ b g=>by
   cases b with
   | true=>
    rw [g,if_pos rfl] at next
    rw [g] at a;have nxt:To E fDF (.pure (.ret (uu R))) (.head (stk fDF 0) [(0,ii A),(1,ii H),(5,uu f),(6,uu (uD x p)),(23,.agg aAM),(24,ii ((i+1:Nat):Int))] []):=next
    clear next
    generalize uD x p=y at *
    have a:dK .and .u64 (f:Int) ((2 ^ k:Nat):Int)=((2 ^ k:Nat):Int):=by rw [a];rfl
    generalize 2 ^ k=w at *
    have u:((w:Int) !=0)=true:=by rw [bne_iff_ne];omega
    rcases aAq (show i<16 by omega) with rfl | rfl | rfl | rfl | rfl | rfl | rfl | rfl | rfl | rfl | rfl | rfl | rfl | rfl | rfl | rfl
    all_goals cases hp
    all_goals
     exact zqda0
   | false=>
    rw [g,if_neg d_] at next
    rw [g] at a;have a:dK .and .u64 (f:Int) ((2 ^ k:Nat):Int)=0:=by rw [a];rfl
    generalize 2 ^ k=w at *
    have u:((0:Int) !=0)=false:=rfl;rcases aAq (show i<16 by omega) with rfl | rfl | rfl | rfl | rfl | rfl | rfl | rfl | rfl | rfl | rfl | rfl | rfl | rfl | rfl | rfl
    all_goals cases hp
    all_goals
     exact zqda0
  exact go _ rfl
def RJ(age half:Int)(h1:age<=9223372036854775807)(t:half<=9223372036854775807)(R:Nat)(a:uL age half=R):aq 121 [ii age,ii half] [] (.ret (uu R)) []:=by
 unfold uL at a;have i:(((max age 0).toNat:Nat):Int)=max age 0:=o_;have d:(((max half 1).toNat:Nat):Int)=max half 1:=o_;have n:(max age 0).toNat<9223372036854775808:=o_;have s:0<(max half 1).toNat:=o_;have b:(max half 1).toNat<9223372036854775808:=o_;generalize (max age 0).toNat=A at *
 generalize (max half 1).toNat=H at *
 have c:=aAK A H;have p:=aL6 A H;have j:A / H<=A:=Gv ..;have m:=Lz A H;by_cases e:63<A / H
 .rw [if_pos e] at a;subst a;generalize A / H=q at *
  refine c_ Tryz.f121 λ_=>gV ?_;rw [<-i,<-d];refine Ab o_ (gV ?_);rw [c];exact zW
 .rw [if_neg e] at a;have k:=BA ((A % H:Nat):Int) (H:Int) o_ o_;have l:=vV ((A % H:Nat):Int) (H:Int);generalize IX ((A % H:Nat):Int) (H:Int)=T at *
  have o:=JQ T;have u:=aIg A H (T / 65536) o_ n s b o_ R 16 0 4294967296 o_ (Bf _) a;generalize T / 65536=f at *
  generalize A / H=q at *
  generalize A % H=r at *
  refine c_ Tryz.f121 λ_=>gV ?_;rw [<-i,<-d];refine Ab o_ (gV ?_);rw [c];refine aJ (gV ?_);refine aF λ h=>gV ?_;refine Ab o_ (gV ?_);rw [p];refine .pure _ [] k (gV ?_);rw [o];refine Ab d_ (gV ?_);refine .pure _ [] P0 ?_;exact zW
def Y3(age half:Int)(h1:age<=9223372036854775807)(a:half<=9223372036854775807):aq 121 [ii age,ii half] [] (.ret (uu (uL age half))) []:=RJ age half h1 a _ rfl
def ZI(x:Nat)(n m:Int):Nat:=if 0<n then max x (IX n m) else x
def ZJ(u v:V3):Nat:=ZI (ZI (ZI 0 u.a v.a) u.b v.b) u.c v.c
def J8{x:Nat}{n m:Int}(h:x<18446744073709551616):ZI x n m<18446744073709551616:=by
 have:=vV n m;unfold ZI;split
 .omega
 .exact h
def aIb(u v:V3):ZJ u v<18446744073709551616:=J8 (J8 (J8 d_))
def aL3(v u:V3)(M:Imm)(ob:Hs)(vs:ba)(h:bX M ob vs [v.av,u.av]):(inR .i64 v.a/\inR .i64 v.b/\inR .i64 v.c)/\inR .i64 u.a/\inR .i64 u.b/\inR .i64 u.c:=by
 have hl:1<vs.length:=by rw [h.1];simp
 have h1:=h.2 0 _ v.av (Aa o_) rfl;have d:=h.2 1 _ u.av (Aa hl) rfl;exact ⟨⟨cN h1 0 _ rfl,cN h1 1 _ rfl,cN h1 2 _ rfl⟩,cN d 0 _ rfl,cN d 1 _ rfl,cN d 2 _ rfl⟩
def aIa(u v:V3)(r:Nat)(d:ZJ u v=r):aq 130 [u.av,v.av] [] (.ret (uu r)) []:=by
  refine aA.get _ (aL3 u v) λ⟨⟨⟨a1,a2⟩,⟨b1,b2⟩,⟨c1,c2⟩⟩,⟨d1,d2⟩,⟨e1,e2⟩,⟨f1,f2⟩⟩=>?_;simp only [bW,aW] at a1 a2 b1 b2 c1 c2 d1 d2 e1 e2 f1 f2;have h1:=BA u.a v.a o_ o_;have i:=BA u.b v.b o_ o_;have h3:=BA u.c v.c o_ o_;have l1:=vV u.a v.a;have l2:=vV u.b v.b;have l:=vV u.c v.c;unfold ZJ ZI at d;generalize IX u.a v.a=p at *
  generalize IX u.b v.b=q at *
  generalize IX u.c v.c=s at *
  by_cases j:0<u.a<;>by_cases e:0<u.b<;>by_cases k:0<u.c<;>simp only [j,e,k,if_true,if_false] at d
  all_goals
   subst d;refine c_ Tryz.f130 λ_=>gV ?_
   repeat' first
    | (refine gW hE ?_;conv=>whnf)
    | refine .pure _ [] h1 ?_
    | refine .pure _ [] i ?_
    | refine .pure _ [] h3 ?_
    | exact rfl
    | refine aY ?_
    | refine aN ?_
    | refine aT λ h=>?_
    | refine aF λ h=>?_
    | refine aJ ?_
    | refine Ao _ (Ab rfl ?_)
    | refine Ab d_ ?_
    | fail
   all_goals exact congrArg (λ n=>Res.ret (aa.int .u64 n)) o_
def aJw(v:V3)(h:Hos):V3:=fP v h.c
def BW(c:Con):V3:=c.hs.foldl aJw V3.zero
noncomputable abbrev aM6:Func:=Tryz.f127
def aAD(l:List Hos)(hl:l.length<=1048576)(r:V3):∀ (m i:Nat) (v:V3),i+m=l.length->(l.drop i).foldl aJw v=r->
  To E aM6 (.pure (.ret r.av)) (.head (stk aM6 0) [(2,.ref 0 0),(3,.ref 1 0),(7,.slice 6 (hav l) .no),(8,ii (l.length:Nat)),(9,ii i)] [.cells 41 V3.zero.cs,.cells 41 v.cs]):=by
 have d:(hav l).length=l.length:=by simp
 intro m;induction m with
 | zero=>
  intro i v f a;rw [Ai o_] at a;have a:v=r:=a;subst a;refine gV ?_;exact zW
 | succ m g=>
  intro i v f a;have b:i<l.length:=o_;rw [Ag b,Ba] at a;have next:=g (i+1) _ o_ a
  have get:=wK b;generalize l[i]=x at get next
  have e:=iH v x.c;unfold aJw at next
  generalize fP v x.c=w at e next
  refine gV ?_;exact zW
def aAB(c:Con)(b:c.sm):aq 127 [c.av] [] (.ret (BW c).av) []:=by
 have a:(hav c.hs).length=c.hs.length:=by simp
 have h1:=b.hs;have next:=aAD c.hs o_ (BW c) c.hs.length 0 V3.zero o_ rfl
 generalize BW c=r at next
 rw [<-a] at next
 refine c_ Tryz.f127 λ_=>?_
 repeat' first | (refine gN hE ?_;conv=>whnf) | exact rfl | refine zt ?_ | refine zu ?_ ?_ | intro h | fail
 refine To.part [2,3,7,8,9] [1,2] rfl rfl rfl ?_;exact next
def dW{α:Type}(d:Nat->α->Nat):List α->Nat->az
 | [],_=>[]
 | x::r,i=>d i x::dW d r (i+1)
def oL{α:Type}(d:Nat->α->Nat):∀ (l:List α) (i:Nat),(dW d l i).length=l.length
 | [],_=>rfl
 | _::r,i=>by simp [dW,oL d r (i+1)]
def HI{α:Type}(d:Nat->α->Nat):∀ (l:List α) (i k:Nat) (h:k<l.length),(dW d l i)[k]? =some (d (i+k) l[k])
 | [],_,k,h=>absurd h s_
 | x::r,i,0,_=>rfl
 | x::r,i,k+1,h=>by have:=HI d r (i+1) k (by simpa using h);simp only [dW,Fo,List.getElem_cons_succ];rw [this,show i+1+k=i+(k+1) by omega]
def aDh{l:az}{i:Nat}(h:i<l.length):(fv l)[i]? =some (uu l[i]):=by simp [fv,h]
def LtF(l:az):Prop:=∀ x∈l,x<18446744073709551616
def tY(c:Con)(i:Nat)(v:V3):Nat:=if bC c.ns (i:Int)=true then ZJ v (BW c) else 0
def AL(c:Con)(l:a6):az:=dW (tY c) (ofL c l) 0
def tkS(a:az)(n half:Int)(i:Nat)(x:Nat):Nat:=if i<a.length then EP (uD x (uL n half)) (uD ((a[i]?).getD 0) (ofF n)) else uD x (uL n half)
def tkL(h a:az)(n half:Int):az:=dW (tkS a n half) h 0
def S7(c:Con):az:=dW (λ_ _=>0) c.ns 0
noncomputable abbrev aM3:Func:=Tryz.f128
abbrev aK1(c:Con):aa:=.func (.func 129) [] [.ptr c.cs,.ptr (BW c).cs]
def aDB(c:Con) (l:a8)(hl:l.length<=1048576)(hm:∀ (i:Nat) (h:i<l.length),aq 129 (ii i::l[i].av::[.ptr c.cs,.ptr (BW c).cs]) [] (.ret (uu ((tY c) i l[i]))) [])(R:az):∀ (m i:Nat) (a:az),i+m=l.length->a.length=i->a++dW (tY c) (l.drop i) i=R->
  To (Eo [5] []) aM3 (.pure (.ret (.slice 1 (fv R) .no))) (.head (stk aM3 0) [(1,aK1 c),(5,.slice 1 (fv a) (.own 0 0)),(8,.slice 3 (vav l) .no),(9,ii (l.length:Nat)),(10,ii i)] [.tail 0 1 169]):=by
 have j:(vav l).length=l.length:=by simp
 intro m;induction m with
 | zero=>
  intro i a k o b;exact zqda4
 | succ m n=>
  intro i a k o b;have d:i<l.length:=o_;have get:=vF d;have g:=hm i d;rw [Ag d] at b;generalize l[i]=x at get g b;have b:a++((tY c) i x::dW (tY c) (l.drop (i+1)) (i+1))=R:=b;generalize (tY c) i x=y at g b;have next:=n (i+1) (a++[y]) o_ q_ (by rw [Ae];exact b)
  have e:fv (a++[y])=fv a++[uu y]:=by simp [fv]
  rw [e] at next
  have p:(fv a).length=a.length:=by simp
  refine gV ?_;exact zW
def aLd(c:Con) (l:a8)(hl:l.length<=1048576)(hm:∀ (i:Nat) (h:i<l.length),aq 129 (ii i::l[i].av::[.ptr c.cs,.ptr (BW c).cs]) [] (.ret (uu ((tY c) i l[i]))) []):
  aq 128 [.slice 3 (vav l) .no,aK1 c] [] (.ret (.slice 1 (fv (dW (tY c) l 0)) .no)) []:=by
 have a:(vav l).length=l.length:=by simp
 have next:=aDB c l hl hm (dW (tY c) l 0) l.length 0 [] o_ rfl rfl
 generalize dW (tY c) l 0=R at next
 rw [<-a] at next
 refine cT (E:=(Eo [5] [])) (fn:=Tryz.f128) (g:=.pure _) λ_=>?_;exact zW
noncomputable abbrev aM2:Func:=Tryz.f123
abbrev aK0(sh:az)(n half:Int):aa:=.func (.func 124) [] [.ptr [uu (uL n half)],.ptr [.slice 1 (fv sh) .no],.ptr [uu (ofF n)]]
def aDA(d:az)(n half:Int) (l:az)(hl:l.length<=1048576)(hm:∀ (i:Nat) (h:i<l.length),aq 124 (ii i::uu l[i]::[.ptr [uu (uL n half)],.ptr [.slice 1 (fv d) .no],.ptr [uu (ofF n)]]) [] (.ret (uu ((tkS d n half) i l[i]))) [])(R:az):∀ (m i:Nat) (a:az),i+m=l.length->a.length=i->a++dW (tkS d n half) (l.drop i) i=R->
  To (Eo [5] []) aM2 (.pure (.ret (.slice 1 (fv R) .no))) (.head (stk aM2 0) [(1,aK0 d n half),(5,.slice 1 (fv a) (.own 0 0)),(8,.slice 1 (fv l) .no),(9,ii (l.length:Nat)),(10,ii i)] [.tail 0 1 169]):=by
 have j:(fv l).length=l.length:=by simp
 intro m;induction m with
 | zero=>
  intro i a k p b;exact zqda4
 | succ m o=>
  intro i a k p b;have c:i<l.length:=o_;have get:=aDh c;have g:=hm i c;rw [Ag c] at b;generalize l[i]=x at get g b;have b:a++((tkS d n half) i x::dW (tkS d n half) (l.drop (i+1)) (i+1))=R:=b;generalize (tkS d n half) i x=y at g b;have next:=o (i+1) (a++[y]) o_ q_ (by rw [Ae];exact b)
  have e:fv (a++[y])=fv a++[uu y]:=by simp [fv]
  rw [e] at next
  have q:(fv a).length=a.length:=by simp
  refine gV ?_;exact zW
def aLc(a:az)(n half:Int) (l:az)(hl:l.length<=1048576)(hm:∀ (i:Nat) (h:i<l.length),aq 124 (ii i::uu l[i]::[.ptr [uu (uL n half)],.ptr [.slice 1 (fv a) .no],.ptr [uu (ofF n)]]) [] (.ret (uu ((tkS a n half) i l[i]))) []):
  aq 123 [.slice 1 (fv l) .no,aK0 a n half] [] (.ret (.slice 1 (fv (dW (tkS a n half) l 0)) .no)) []:=by
 have b:(fv l).length=l.length:=by simp
 have next:=aDA a n half l hl hm (dW (tkS a n half) l 0) l.length 0 [] o_ rfl rfl
 generalize dW (tkS a n half) l 0=R at next
 rw [<-b] at next
 refine cT (E:=(Eo [5] [])) (fn:=Tryz.f123) (g:=.pure _) λ_=>?_;exact zW
noncomputable abbrev aM1:Func:=Tryz.f109
abbrev aKZ:aa:=.func (.func 110) [] []
def aDz  (l:bb)(hl:l.length<=1048576)(hm:∀ (i:Nat) (h:i<l.length),aq 110 (ii i::l[i].av::[]) [] (.ret (uu ((λ_ _=>0) i l[i]))) [])(R:az):∀ (m i:Nat) (a:az),i+m=l.length->a.length=i->a++dW (λ_ _=>0) (l.drop i) i=R->
  To (Eo [5] []) aM1 (.pure (.ret (.slice 1 (fv R) .no))) (.head (stk aM1 0) [(1,aKZ),(5,.slice 1 (fv a) (.own 0 0)),(8,.slice 11 (nav l) .no),(9,ii (l.length:Nat)),(10,ii i)] [.tail 0 1 169]):=by
 have g:(nav l).length=l.length:=by simp
 intro m;induction m with
 | zero=>
  intro i a j n b;exact zqda4
 | succ m k=>
  intro i a j n b;have c:i<l.length:=o_;have get:=kS c;have d:=hm i c;rw [Ag c] at b;generalize l[i]=x at get d b;have b:a++((λ_ _=>0) i x::dW (λ_ _=>0) (l.drop (i+1)) (i+1))=R:=b;generalize (λ_ _=>0) i x=y at d b;have next:=k (i+1) (a++[y]) o_ q_ (by rw [Ae];exact b)
  have e:fv (a++[y])=fv a++[uu y]:=by simp [fv]
  rw [e] at next
  have o:(fv a).length=a.length:=by simp
  refine gV ?_;exact zW
def aLb  (l:bb)(hl:l.length<=1048576)(hm:∀ (i:Nat) (h:i<l.length),aq 110 (ii i::l[i].av::[]) [] (.ret (uu ((λ_ _=>0) i l[i]))) []):
  aq 109 [.slice 11 (nav l) .no,aKZ] [] (.ret (.slice 1 (fv (dW (λ_ _=>0) l 0)) .no)) []:=by
 have a:(nav l).length=l.length:=by simp
 have next:=aDz  l hl hm (dW (λ_ _=>0) l 0) l.length 0 [] o_ rfl rfl
 generalize dW (λ_ _=>0) l 0=R at next
 rw [<-a] at next
 refine cT (E:=(Eo [5] [])) (fn:=Tryz.f109) (g:=.pure _) λ_=>?_;exact zW
def aLr(u v:V3):aq 130 [u.av,v.av] [] (.ret (uu (ZJ u v))) []:=aIa u v _ rfl
def aFE(c:Con)(i:Nat)(v:V3):aq 129 [ii i,v.av,.ptr c.cs,.ptr (BW c).cs] [] (.ret (uu (tY c i v))) []:=by
 have h1:=jL c (i:Int);have d:=aLr v (BW c);unfold tY;generalize BW c=a at *
 generalize ZJ v a=y at *
 cases b:bC c.ns (i:Int) with
 | true=>
  rw [b] at h1;exact c_ Tryz.f129 λ_=>zW
 | false=>
  rw [b] at h1;exact c_ Tryz.f129 λ_=>zW
def XN(c:Con)(b:c.sm)(l:a6)(hl:l.length<=1048576):aq 87 [c.av,.slice 14 (rav l) .no] [] (.ret (.slice 1 (fv (AL c l)) .no)) []:=by
 have h1:=aAB c b;have j:=CW c b l hl;have e:=b.ns;have d:(ofL c l).length=c.ns.length:=by unfold ofL mJ;simp
 have h3:=aLd c (ofL c l) o_ λ i h=>aFE c i _;unfold AL;unfold aK1 at h3;generalize dW (tY c) (ofL c l) 0=R at *
 generalize ofL c l=us at *
 generalize BW c=a at *
 exact c_ Tryz.f87 λ_=>zW
def aJE(a:az)(hs:LtF a)(hsl:a.length<=1048576)(n half:Int)(i x:Nat)(d:x<18446744073709551616):aq 124 [ii i,uu x,.ptr [uu (uL n half)],.ptr [.slice 1 (fv a) .no],.ptr [uu (ofF n)]] [] (.ret (uu (tkS a n half i x))) []:=by
 have j:=aHB n half;have e:=QW n;have h1:=JU x (uL n half) d o_;have l1:=JE x (uL n half);have c:(fv a).length=a.length:=by simp
 unfold tkS;generalize uL n half=f at *
 generalize ofF n=t at *
 generalize uD x f=y at *
 by_cases b:i<a.length
 .rw [if_pos b,Aa b];have get:=aDh b;have hz:=hs _ (Bd b);show aA _ _ _ _ (.ret (uu (EP y (uD a[i] t)))) _;generalize a[i]=z at *
  have h:=JU z t hz e;have l2:=JE z t;generalize uD z t=w at *
  have h3:=VW y w l1 l2;generalize EP y w=r at *
  exact c_ Tryz.f124 λ_=>zW
 .rw [if_neg b];exact c_ Tryz.f124 λ_=>zW
def aFD(c:Con)(l:a6):LtF (AL c l):=by
 intro x b;obtain ⟨k,a,e⟩:=Il b;unfold AL at a e;rw [oL] at a;have:=HI (tY c) (ofL c l) 0 k a;rw [Aa (by rw [oL];exact a),e] at this;cases this;unfold tY;split
 .exact aIb _ _
 .decide
def aFh(h a:az)(d:LtF h)(hl:h.length<=1048576)(hs:LtF a)(hsl:a.length<=1048576)(n half:Int)(c:n<=9223372036854775807)(e:half<=9223372036854775807):aq 86 [.slice 1 (fv h) .no,.slice 1 (fv a) .no,ii n,ii half] [] (.ret (.slice 1 (fv (tkL h a n half)) .no)) []:=by
 have h1:=Y3 n half c e;have j:=RG n;have h3:=aLc a n half h hl λ i b=>aJE a hs hsl n half i _ (d _ (Bd b));unfold tkL;unfold aK0 at h3;generalize dW (tkS a n half) h 0=R at *
 generalize uL n half=f at *
 generalize ofF n=t at *
 exact c_ Tryz.f86 λ_=>zW
def aLY(i:Nat)(x:Nod):aq 110 [ii i,x.av] [] (.ret (uu 0)) []:=by exact c_ Tryz.f110 λ_=>zW
def aET(c:Con)(a:c.sm):aq 77 [c.av] [] (.ret (.slice 1 (fv (S7 c)) .no)) []:=by
 have b:=a.ns;have h3:=aLb c.ns o_ λ i h=>aLY i _;unfold S7;unfold aKZ at h3;generalize dW (λ_ _=>0) c.ns 0=R at *
 exact c_ Tryz.f77 λ_=>zW
def iW(a:Int)(l:a7):Int:=Q2.ak a (l.map Pn.q)
def dN(l:a7)(a:Int):a7:=if iW a l<0 then l else l.eraseIdx (iW a l).toNat
def jV(l:a7)(p:Pn):a7:=l.take (Q2.putAt p.q (l.map Pn.q))++[p]++l.drop (Q2.putAt p.q (l.map Pn.q))
def aFi(l:a7)(a:Int):(dN l a).map Pn.q=Q2.takeP (l.map Pn.q) a:=by
 unfold dN Q2.takeP iW;split
 .rfl
 .simp [Fu,Ga,Ip]
def aBM(l:a7)(p:Pn):(jV l p).map Pn.q=Q2.putP (l.map Pn.q) p.q:=by unfold jV Q2.putP;simp [Ga,Ip]
def aBK(l:a7)(a:Int):aq 79 [.slice 11 (pnv l) .no,ii a] [] (.ret (ii (iW a l))) []:=by have h:=Q2.find_ok (l.map Pn.q) a;rw [F5] at h;exact h
def IZ(l:a7)(p:Pn)(hl:l.length<=1000000):aq 82 [.slice 11 (pnv l) .no,p.av] [] (.ret (.slice 11 (pnv (jV l p)) .no)) []:=by have h:=Q2.put_ok (l.map Pn.q) p.q (by simpa using hl);rw [<-aBM,F5,F5] at h;exact h
def rI(l:a7)(a:Int)(hl:l.length<=1000000):aq 50 [.slice 11 (pnv l) .no,ii a] [] (.ret (.tup [.slice 11 (pnv (dN l a)) .no,.bool (!decide (iW a l<0))])) []:=by have h:=Q2.take_ok (l.map Pn.q) a (by simpa using hl);rw [<-aFi,F5,F5] at h;exact h
structure Ev where
 (k id n:Int)
 deriving DecidableEq
abbrev _root_.bg:=List Ev
def Ev.cs(e:Ev):ax:=[ii e.k,ii e.id,ii e.n]
def Ev.av(e:Ev):aa:=.agg e.cs
abbrev evv(l:bg):ax:=l.map Ev.av
structure Rd where
 s:Sta
 ev:bg
 head:Bool
 start:Int
def PL(r:Rd)(p:Pn)(fl:Int)(hs:aw):Rd:=
 ⟨{r.s with pend:=dN r.s.pend p.g.id,run:=r.s.run++[⟨p.g,p.seq,p.at',r.s.now,fl,hs⟩]},r.ev++[⟨1,p.g.id,fl⟩],r.head,r.start⟩
def FE(r:Rd)(p:Pn):Option (Int×aw)->Rd×Bool
 | none=>(r,false)
 | some (fl,hs)=>if (r.head&& !bmB r.s.now p.g r.start)=true then (r,false) else (PL r p fl hs,true)
def admR(r:Rd)(p:Pn):Rd×Bool:=FE r p (cG r.s.c r.s.run p.g)
def dT(run:a6)(r:Rd)(id:Int):Rd:=
 let x:=aR run (aQ (λ x=>x.g.id==id) run 0).toNat
 ⟨{r.s with pend:=jV r.s.pend x.pn},r.ev++[⟨2,id,0⟩],r.head,r.start⟩
def mW(r:Rd)(ids:aw):Rd:=
 let q:=ids.foldl (dT r.s.run) r
 ⟨{q.s with run:=aE r.s.run ids},q.ev,q.head,q.start⟩
def pE(r:Rd)(p:Pn):Option Int->Rd
 | none=>r
 | some n=>⟨r.s,r.ev++[⟨4,p.g.id,n⟩],true,n⟩
def aI3(r:Rd)(p:Pn):Option aw->Rd
 | some ids=>(admR (mW r ids) p).1
 | none=>pE r p (tW r.s.c r.s.now r.s.run p.g)
def cO(r:Rd)(p:Pn):Rd:=
 if (admR r p).2=true then (admR r p).1 else if r.head=true then r else aI3 r p (gI r.s.c r.s.run p.g)
def iE(a b:Int):Int:=if a<b then -1 else if b<a then 1 else 0
def P2(c:Con)(h:az)(n:Int):Nat:=(bP c.ns n).foldl (λ x t=>if t<(h.length:Int) then EP x ((h[t.toNat]?).getD 0) else x) 0
def aL0(c:Con)(n:Int):Int:=if 0<=n/\n<(c.ns.length:Int) then max 1 (cX c.ns n).w else 1
def oD(c:Con)(h:az)(n:Int):Nat:=AQ (P2 c h n) (ofF (aL0 c n))
def tE(c:Con)(h:az)(x y:Int):Int:=if oD c h x<oD c h y then -1 else if oD c h y<oD c h x then 1 else iE x y
def hD(c:Con)(h:az):aw->aw->Int
 | [],[]=>0
 | [],_::_=> -1
 | _::_,[]=>1
 | x::p,y::q=>if x=y then hD c h p q else tE c h x y
def tD(c:Con)(now:Int)(p:Pn):Bool:=decide (0<c.age)&&(decide (p.at'<=now)&&decide (c.age<=now-p.at'))
def ptC(s:Sta)(a b:Pn):Int:=hD s.c s.hist (fF s.c.ns a.g.ten) (fF s.c.ns b.g.ten)
def iT(s:Sta)(a b:Pn):Int:=
 if tD s.c s.now a=true then (if tD s.c s.now b=true then iE a.seq b.seq else -1)
 else if tD s.c s.now b=true then 1 else (if ptC s a b=0 then iE a.seq b.seq else ptC s a b)
def ltP(s:Sta)(a b:Pn):Bool:=decide (iT s a b<0)
def pI{a b:Int}:iE a b<0↔a<b:=by
 unfold iE
 repeat' split
 all_goals omega
def aB9{a b:Int}:iE a b=0↔a=b:=by
 unfold iE
 repeat' split
 all_goals omega
def aGx{a b:Int}:0<iE a b↔b<a:=by
 unfold iE
 repeat' split
 all_goals omega
def aGB{c:Con}{h:az}{x y:Int}:tE c h x y<0↔oD c h x<oD c h y\/(oD c h x=oD c h y/\x<y):=by
 have:=pI (a:=x) (b:=y);unfold tE
 repeat' split
 all_goals omega
def aGC{c:Con}{h:az}{x y:Int}:0<tE c h x y↔tE c h y x<0:=by
 have h1:=aGx (a:=x) (b:=y);have d:=pI (a:=y) (b:=x);unfold tE
 repeat' split
 all_goals omega
def aCg{c:Con}{h:az}{x y:Int}:tE c h x y=0↔x=y:=by
 have h1:=aB9 (a:=x) (b:=y);unfold tE;constructor
 .intro hz
  repeat' split at hz
  all_goals omega
 .rintro rfl;rw [if_neg o_,if_neg o_];exact h1.2 rfl
def tQ{c:Con}{h:az}:∀ {p q:aw},hD c h p q=0↔p=q
 | [],[]=>by simp [hD]
 | [],_::_=>by simp [hD]
 | _::_,[]=>by simp [hD]
 | x::p,y::q=>by
  unfold hD;by_cases e:x=y
  .rw [if_pos e,tQ];subst e;simp
  .rw [if_neg e];have:=aCg (c:=c) (h:=h) (x:=x) (y:=y);constructor
   .intro h1;exact absurd (this.1 h1) e
   .intro h1;cases h1;exact absurd rfl e
def TQ{c:Con}{h:az}:∀ {p q:aw},0<hD c h p q↔hD c h q p<0
 | [],[]=>by simp [hD]
 | [],_::_=>by simp [hD]
 | _::_,[]=>by simp [hD]
 | x::p,y::q=>by
  unfold hD;by_cases e:x=y
  .subst e;rw [if_pos rfl,if_pos rfl];exact TQ
  .rw [if_neg e,if_neg (λ h=>e h.symm)];exact aGC
def aGz{c:Con}{h:az}{x y z:Int}(h1:tE c h x y<0)(a:tE c h y z<0):tE c h x z<0:=by
 rw [aGB] at *
 omega
def TP{c:Con}{h:az}:∀ {p q r:aw},hD c h p q<0->hD c h q r<0->hD c h p r<0
 | [],[],_,h1,_=>by simp [hD] at h1
 | [],_::_,[],_,h2=>by simp [hD] at h2
 | [],_::_,_::_,_,_=>by simp [hD]
 | _::_,[],_,h1,_=>by simp [hD] at h1
 | _::_,_::_,[],_,h2=>by simp [hD] at h2
 | x::p,y::q,z::r,h1,h2=>by
  unfold hD at *
  by_cases b:x=y
  .subst b;rw [if_pos rfl] at h1;by_cases a:x=z
   .rw [if_pos a] at h2⊢;exact TP h1 h2
   .rw [if_neg a] at h2⊢;exact h2
  .rw [if_neg b] at h1;by_cases a:y=z
   .subst a;rw [if_neg b];exact h1
   .rw [if_neg a] at h2;have h3:=aGz h1 h2;by_cases d:x=z
    .subst d;have:=(aCg (c:=c) (h:=h) (x:=x) (y:=x)).2 rfl;omega
    .rw [if_neg d];exact h3
def gZ(s:Sta):Ord (ltP s) where
 irr a:=by have h1:=(tQ (c:=s.c) (h:=s.hist) (p:=fF s.c.ns a.g.ten)).2 rfl;have h2:=(aB9 (a:=a.seq) (b:=a.seq)).2 rfl;unfold ltP iT ptC;rw [h1,h2];split<;>simp
 tr a b c h1 h2:=by
  unfold ltP iT at *
  simp only [decide_eq_true_eq] at *
  have n1:=pI (a:=a.seq) (b:=b.seq);have n2:=pI (a:=b.seq) (b:=c.seq);have n3:=pI (a:=a.seq) (b:=c.seq);have t1:=tQ (c:=s.c) (h:=s.hist) (p:=fF s.c.ns a.g.ten) (q:=fF s.c.ns b.g.ten);have t2:=tQ (c:=s.c) (h:=s.hist) (p:=fF s.c.ns b.g.ten) (q:=fF s.c.ns c.g.ten);cases ha:tD s.c s.now a<;>cases hb:tD s.c s.now b<;>cases hc:tD s.c s.now c<;>simp only [ha,hb,hc,if_true,if_false,reduceIte,Cn] at * <;>try omega
  by_cases z1:ptC s a b=0
  .have e1:=t1.1 z1;rw [if_pos z1] at h1;have e3:ptC s a c=ptC s b c:=by unfold ptC;rw [e1]
   rw [e3];split at h2
   .rename_i z;rw [if_pos z];omega
   .rename_i z;rw [if_neg z];exact h2
  .rw [if_neg z1] at h1;by_cases z2:ptC s b c=0
   .have e2:=t2.1 z2;have e3:ptC s a c=ptC s a b:=by unfold ptC;rw [e2]
    rw [e3,if_neg z1];exact h1
   .rw [if_neg z2] at h2;have h3:ptC s a c<0:=TP h1 h2;rw [if_neg o_];exact h3
def aGQ(s:Sta){a b:Pn}(h:a.seq≠b.seq):ltP s a b=true\/ltP s b a=true:=by
 unfold ltP iT;simp only [decide_eq_true_eq];have n1:=pI (a:=a.seq) (b:=b.seq);have n2:=pI (a:=b.seq) (b:=a.seq);have e:=tQ (c:=s.c) (h:=s.hist) (p:=fF s.c.ns a.g.ten) (q:=fF s.c.ns b.g.ten);have d:=tQ (c:=s.c) (h:=s.hist) (p:=fF s.c.ns b.g.ten) (q:=fF s.c.ns a.g.ten);have j:=TQ (c:=s.c) (h:=s.hist) (p:=fF s.c.ns a.g.ten) (q:=fF s.c.ns b.g.ten);cases f:tD s.c s.now a<;>cases i:tD s.c s.now b<;>simp only [if_true,if_false,reduceIte,Cn]<;>try omega
 unfold ptC;by_cases z:hD s.c s.hist (fF s.c.ns a.g.ten) (fF s.c.ns b.g.ten)=0
 .rw [if_pos z,if_pos (d.2 (e.1 z).symm)];omega
 .rw [if_neg z,if_neg (λ h=>z (e.2 (d.1 h).symm))];omega
def aAQ(h:az)(x:Nat)(t:Int):Nat:=if t<(h.length:Int) then EP x ((h[t.toNat]?).getD 0) else x
def TZ{h:az}{x:Nat}{t:Int}(a:x<18446744073709551616):aAQ h x t<18446744073709551616:=by
 unfold aAQ;split
 .exact WZ _ _
 .exact a
def aFq(c:Con)(h:az)(n:Int):P2 c h n<18446744073709551616:=by
 have go:∀ (l:aw) (x:Nat),x<18446744073709551616->l.foldl (aAQ h) x<18446744073709551616:=λ l=>by
  induction l with
  | nil=>exact λ x b=>b
  | cons a l d=>exact λ x b=>d _ (TZ b)
 exact go _ _ d_
noncomputable abbrev aHG:Func:=Tryz.f265
def Y4(h:az)(j:LtF h)(hl:h.length<=1048576)(l:aw)(o:∀ t∈l,0<=t)(n:l.length<=1048576)(R:Nat):∀ (m i x:Nat),i+m=l.length->x<18446744073709551616->(l.drop i).foldl (aAQ h) x=R->
  To E aHG (.pure (.ret (uu R))) (.head (stk aHG 0) [(1,.slice 1 (fv h) .no),(7,uu x),(12,.slice 1 (iv l) .no),(13,ii (l.length:Nat)),(14,ii i)] []):=by
 have f:(iv l).length=l.length:=by simp
 have k:(fv h).length=h.length:=by simp
 intro m;induction m with
 | zero=>
  intro i x g d a;rw [Ai o_] at a;have a:x=R:=a;subst a;refine gV ?_;exact zW
 | succ m e=>
  intro i x g d a;have b:i<l.length:=o_;have get:=gM b;have p:=o _ (Bd b);rw [Ag b,Ba] at a;have next:=e (i+1) _ o_ (TZ d) a
  clear a e;generalize l[i]=t at *
  unfold aAQ at next
  by_cases h1:t<(h.length:Int)
  .rw [if_pos h1] at next
   have c:t.toNat<h.length:=o_;have r:t=(t.toNat:Int):=o_;have q:=aDh c;have hz:=j _ (Bd c);rw [Aa c] at next
   have next:To E aHG (.pure (.ret (uu R))) (.head (stk aHG 0) [(1,.slice 1 (fv h) .no),(7,uu (EP x h[t.toNat])),(12,.slice 1 (iv l) .no),(13,ii (l.length:Nat)),(14,ii ((i:Int)+1))] []):=next
   generalize h[t.toNat]=z at *
   have s:=VW x z d hz;generalize EP x z=y at *
   refine gV ?_;exact zW
  .rw [if_neg h1] at next
   refine gV ?_;exact zW
def aHF(c:Con)(e:c.sm)(h:az)(i:LtF h)(hl:h.length<=1048576)(n:Int):aq 265 [c.av,.slice 1 (fv h) .no,ii n] [] (.ret (uu (P2 c h n))) []:=by
 have k:=O9 c e n;have b:∀ t∈bP c.ns n,0<=t:=λ t j=>(kZ c n t j).1;have d:(bP c.ns n).length<=1048576:=yV c e n;have next:=Y4 h i hl (bP c.ns n) b d (P2 c h n) (bP c.ns n).length 0 0 o_ d_ rfl
 generalize P2 c h n=R at *
 generalize bP c.ns n=l at *
 have a:(iv l).length=l.length:=by simp
 try rw [<-a] at next
 exact c_ Tryz.f265 λ_=>zW
end Go.Proofs.YtbpccabomgalhaaGreatDoor
namespace Go.AW
open Go.RowKit
def M4:BInv:=⟨λ_ bs _=>bs=[],λ_ _ _ h=>h⟩
def UP:∀ (l:au) (k:Nat) (h:k<l.length),aB l k=l[k]
 | _::_,0,_=>rfl
 | _::r,k+1,h=>UP r k (by simpa using h)
def Mem.bury{M:Imm}{ob:Hs}{ac:au}{w:World}(hm:Mem M ob ac w){k n:Nat}{d:ba}(H:ac[k]? =some .dead)(t:ob[k]? =some d)(hl:d.length=n+1):
  Mem M (ob.set k (d++[dX []])) (ac.set k (.bun (n+1) M4)) w/\Ext M ob ac w M (ob.set k (d++[dX []])) (ac.set k (.bun (n+1) M4)) w/\cV ob (ob.set k (d++[dX []])):=by
 have r:k<ac.length:=(Ac.1 H).1;have i:k<ob.length:=(Ac.1 t).1;have g:cV ob (ob.set k (d++[dX []])):=λ j hs f=>by
  by_cases e:k=j
  .subst e;rw [t] at f;cases f;exact ⟨_,Aq i,List.prefix_append _ _⟩
  .exact ⟨hs,by rw [Ax e];exact f,Cl _⟩
 have l:blk (d++[dX []])=[]:=BF s_;have o:∀ {j b:Nat},aG (ob.set k (d++[dX []])) (ac.set k (.bun (n+1) M4)) j b->aG ob ac j b:=λ{j b} ⟨c,hs,p,q,e3,e4⟩=>by
  by_cases e:k=j
  .subst e;rw [Aq i] at e3;cases e3;rw [l] at e4;cases e4
  .rw [Ax e] at p e3;exact ⟨c,hs,p,q,e3,e4⟩
 have s:∀ (j:Nat) c,(ac.set k (.bun (n+1) M4))[j]? =some c->∃ hs,(ob.set k (d++[dX []]))[j]? =some hs/\gX M (ob.set k (d++[dX []])) w hs c:=λ j c f=>by
  by_cases e:k=j
  .subst e;rw [Aq r] at f;cases f;refine ⟨_,Aq i,by simp [hl],[],?_,λ b C=>(by cases C),rfl⟩;rw [Ak o_,hl];simp
  .rw [Ax e] at f;obtain ⟨hs,p,q⟩:=hm.obj j c f;refine ⟨hs,by rw [Ax e];exact p,?_⟩;cases c with
   | cells I cs'=>
    obtain ⟨b,z,G,cv,y,F,u,B⟩:=q;exact ⟨b,z,G,cv,y,F,u,λ n v a x m=>(B n v a x m).mono (λ_ _ _ h=>h) g⟩
   | _=>exact q
 exact ⟨⟨hm.imm,by simp [hm.len],s,λ j b m=>hm.lt j b (o m),λ j D b h1 A=>hm.inj j D b (o h1) (o A)⟩,⟨λ_ _ _ h=>h,λ_ _ _ h=>.inl h,g,rfl,rfl,rfl,Bf _,λ_ _ _=>rfl,λ j b m=>.inl ⟨j,o m⟩⟩,g⟩
def To.bury{E:Env}{fn:Func}{g:Goal}{st:bf}{fr:ar}{ac:au}(k:Nat)(y:aB ac k= .dead)(i:Ey k g.n0=true)(h:∀ n,To E fn g (.code st fr (bJ ac k (.bun (n+1) M4))))(e:g.strict=true:=by rfl):To E fn g (.code st fr ac):=
 .mk λ j M0 ob0 b w0 a w hst hs=>by
  obtain ⟨M,ob,m,hm,l,s,u,z⟩:=hs;have d:k<ob0.length:=by rw [hst.1];simpa [Jq] using i
  obtain ⟨hs,p,v⟩:=m.hs k _ (Aa d);have q:=hst.2 e _ (Bd d)
  obtain ⟨n,i⟩:∃ n,hs.length=n+1:=⟨hs.length-1,by have:=v.length_le;omega⟩
  have f:ac[k]? =some .dead:=by have c:k<ac.length:=o_;rw [Aa c];rw [<-UP ac k c,y]
  obtain ⟨r,x,o⟩:=hm.bury f p i;refine (h n).rec λ h=>h j M0 ob0 b w0 a w hst ?_;rw [aL f];exact ⟨M,_,m.trans x,r,λ t=>(l t).mono (λ_ _ _ h=>h) o,s,u.mono (λ_ _ _ h=>h) o,by simp;omega⟩
end Go.AW
namespace Go.Proofs.YtbpccabomgalhaaGreatDoor
open Go Go.AW Go.Proofs
set_option maxRecDepth 10000
def aNG(f:aa):ar:=[(2,.ref 1 0),(6,f)]
def PF(a:aw)(g:Nat)(o:ab):au:=[.dead,.cells 46 [.row 2 g],.row g 1 3 (iv a),o]
def PU{i:Nat}(h:i<=12):i=0\/i=1\/i=2\/i=3\/i=4\/i=5\/i=6\/i=7\/i=8\/i=9\/i=10\/i=11\/i=12:=o_
def aEB(f:aa)(a:aw)(x:Int)(g:Nat)(c:g<=12)(hl:a.length=g)(l:Nat)(R:Loop)(b:R.state= .ready):
  To (El l [] [] []) qO (.keep 4 (.ret (.bool true)) (PF (a++[x]) (g+1) (.bun 0 (bY l (busy R))))) (.code [.code (rfA qO),.beginR,.code (rfB qO)] (gR (aNG f) 7 (ii x)) (PF a g (.bun 0 (bY l R)))):=by
 rcases PU c with rfl | rfl | rfl | rfl | rfl | rfl | rfl | rfl | rfl | rfl | rfl | rfl | rfl
 all_goals
  have d:(iv a).length=a.length:=by simp
  have e:iv (a++[x])=iv a++[ii x]:=by simp
  unfold PF;rw [e];refine gV ?_;refine To.beginR (k:=3) (gg:=0) rfl rfl b ?_;exact zW
def auJ(f:aa)(ob0:Hs)(R:Loop)(l:Nat)(a:aw):BInv:=jG ob0 (aNG f) R (PF a a.length (.bun 0 (bY l R)))
def aEA{j d:Code}(f:aa)(ob0:Hs)(l:Nat)(R:Loop)(a:aw)(x:Int)(hl:a.length<=12)(c:RecOK qO 7 j d R)(o:rfA qO=j)(q:rfB qO=d):
  bF Tryz.prog (.yield l) [ii x] [.bun 0 (auJ f ob0 R l a)] (.ret (.bool true)) [.bun 1 (auJ f ob0 R l (a++[x]))]:=by
 subst o q;unfold auJ;have rd:=λ g (m:g<=12) h=>aEB f a x g m h l R c.ready;have e:(a++[x]).length=a.length+1:=by simp
 obtain ⟨g,i⟩:∃ g,a.length=g:=⟨_,rfl⟩
 rw [e];rw [i] at hl⊢;rcases PU hl with rfl | rfl | rfl | rfl | rfl | rfl | rfl | rfl | rfl | rfl | rfl | rfl | rfl
 all_goals
  exact gO (E:=Ex [] [] []) (fn:=qO) (k:=3) (n:=4) (p:=7) (gg:=0) (L':=PF (a++[x]) _ (.bun 0 (bY l (busy R)))) (b:=true) c.params c.ready c.pend c.assign c.body c.size rfl rfl rfl rfl rfl rfl rfl λ_=>rd _ hl i
def FI{P:Program}{l B:Nat}(F:aw->BInv)(h:∀ (a:aw) x,a.length<=B->bF P (.yield l) [ii x] [.bun 0 (F a)] (.ret (.bool true)) [.bun 1 (F (a++[x]))]):∀ (xs a:aw),a.length+xs.length<=B+1->Ylds P l xs (F a) (F (a++xs)) true
 | [],a,_=>by rw [Au];exact .nil _
 | x::r,a,hl=>by have:=FI F h r (a++[x]) (by simp at hl⊢;omega);rw [Ae] at this;exact .next x r _ _ _ _ (h a x (by simp at hl;omega)) this
abbrev aE6(c:Con):aa:=.func (.func 66) [] [.ref 0 0,.ptr c.cs]
def aIN(c:Con)(k:c.sm)(n:Int)(i:(upL c.ns n).length<=12):aq 262 [.nilslice,aE6 c] [.cells 3 [ii n]] (.ret (.row 1 0)) [.bun 1 M4,.row 0 1 3 (iv (upL c.ns n))]:=by
 have b:((nav c.ns).length:Int)<=9223372036854775807:=by have:=k.ns;simp only [Cf];omega
 refine cT (E:=E) (fn:=Tryz.f262) (g:=.full 1 _ _) λ_=>gV ?_;refine To.cutC [2,6] 2 rfl rfl rfl rfl ?_;refine To.mapO (aGD 1) (M3 1) ?_;refine To.beginRow 1 0 3 rfl rfl ?_;refine To.range [0] rfl rfl (λ_ _=>by rfl) rfl (λ_ _=>rfl) rfl λ l ob0 R hst o=>?_;have a:=FI (P:=Tryz.prog) (l:=l) (B:=12) (auJ (aE6 c) ob0 R l) (λ h x hl=>aEA (aE6 c) ob0 l R h x hl o rfl rfl) (upL c.ns n) [] q_;rw [Bm] at a;unfold auJ at a;have d:([]:aw).length=0:=rfl;rw [d] at a
 obtain ⟨q,j⟩:∃ q,(upL c.ns n).length=q:=⟨_,rfl⟩
 rw [j] at a i;rcases PU i with rfl | rfl | rfl | rfl | rfl | rfl | rfl | rfl | rfl | rfl | rfl | rfl | rfl
 all_goals
  obtain ⟨m,p,e⟩:=IE l c n _ _ true b a;refine ⟨_,true,_,[.cells 3 [m]],p,e,rfl,rfl,?_⟩;refine To.bury 0 rfl rfl λ z=>gV ?_;refine ⟨[],[0,2],⟨rfl,rfl⟩,rfl,?_⟩;show [ab.bun (match gm 1 0 (z+1) (z+1) with | some g=>g | none=>0) M4,_]=_;rw [mV];rfl
def aIt(c:Con)(b:c.sm)(n:Int)(a:(upL c.ns n).length<=12):aq 220 [aE6 c] [.cells 3 [ii n]] (.ret (.row 1 0)) [.bun 1 M4,.row 0 1 3 (iv (upL c.ns n))]:=by have h:=aIN c b n a;generalize upL c.ns n=l at h;refine cT (E:=E) (fn:=Tryz.f220) (g:=.full 1 _ _) λ_=>?_;exact zW
def T6{α:Type}(A M B:List α)(x y:α):((A++x::(M++[y])++B).set A.length y).set (A.length+M.length+1) x=A++[y]++M++x::B:=by
 have e:A++x::(M++[y])++B=A++x::(M++y::B):=by simp
 rw [e,Gt _ _ o_,Gt _ _ o_];rw [show A.length-A.length=0 by omega,show A.length+M.length+1-A.length=M.length+1 by omega];simp
noncomputable abbrev aHH:Func:=Tryz.f221
def aBq(R:aw):∀ (n:Nat) (A M B:aw),M.length<=n->A.length+M.length+B.length<=1048576->A++M.reverse++B=R->
  To (Er [] [14,16,17]) aHH (.full 1 (.ret (.tup [])) [.row 0 1 3 (iv R)]) (.head (stk aHH 0) [(0,.row 0 0),(2,ii (A.length:Nat)),(3,ii ((A.length:Int)+M.length-1))] [.row 0 1 3 (iv (A++M++B))]):=by
 intro n;induction n with
 | zero=>
  intro A M B d hl a;have d:M=[]:=Ck.1 o_;subst d;have a:A++[]++B=R:=a;rw [a];have e:(([]:aw).length:Int)=0:=rfl;rw [e];refine gV ?_;exact zW
 | succ n v=>
  intro A M B d hl a;by_cases c:M.length<2
  .have q:M.reverse=M:=by
    match M,c with
    | [],_=>rfl
    | [_],_=>rfl
   rw [q] at a;rw [a];refine gV ?_;exact zW
  .obtain ⟨x,M',y,rfl⟩:∃ x M' y,M=x::(M'++[y]):=by
    match M,c with
    | x::r,c=>
     have g:r≠[]:=λ e=>by subst e;simp at c
     exact ⟨x,r.dropLast,r.getLast g,by rw [Kn]⟩
   have next:=v (A++[y]) M' (x::B) (by simp at d;omega) (by simp at hl⊢;omega) (by rw [<-a];simp)
   have z:(iv (A++x::(M'++[y])++B))[A.length]? =some (ii x):=by simp
   have m:(iv (A++x::(M'++[y])++B))[A.length+M'.length+1]? =some (ii y):=by rw [show A++x::(M'++[y])++B=(A++x::M')++y::B by simp];simp only [Bk];rw [Ak q_];simp only [Cf,Ah,Al,Bl];rw [show A.length+M'.length+1-(A.length+(M'.length+1))=0 by omega];rfl
   have p:((A.length:Int)+((x::(M'++[y])).length:Nat)-1)=((A.length+M'.length+1:Nat):Int):=by simp;omega
   have k:(iv (A++x::(M'++[y])++B)).length=A.length+M'.length+2+B.length:=by simp;omega
   have es:((iv (A++x::(M'++[y])++B)).set A.length (ii y)).set (A.length+M'.length+1) (ii x)=iv (A++[y]++M'++x::B):=by rw [<-T6 A M' B x y];simp only [iv,Gk]
   have l:((A++[y]).length:Int)=(A.length:Int)+1:=by simp
   have b:(A.length:Int)+1+(M'.length:Int)-1=((A.length+M'.length+1:Nat):Int)-1:=o_;rw [p];rw [l,b,<-es] at next
   generalize iv (A++x::(M'++[y])++B)=L at *
   have f:A.length+M'.length+1<=1048576:=by simp at hl;omega
   obtain ⟨j,o⟩:∃ j,j=A.length+M'.length+1:=⟨_,rfl⟩
   have s:A.length<j:=o_;have w:j<L.length:=o_;have u:j<=1048576:=o_;rw [<-o] at m next⊢
   clear hl f k p es l b o;generalize A.length=i at *
   refine gV ?_;refine aT λ h=>?_
   repeat' first | (refine gN (hEr [] [14,16,17]) ?_;conv=>whnf) | refine ⟨j,rfl,?_⟩ | refine ⟨_,m,?_⟩ | refine ⟨i,rfl,?_⟩ | refine ⟨_,z,?_⟩ | refine Ab (by rw [Df];omega) ?_ | exact rfl | refine zt ?_ | refine zu ?_ ?_ | intro h | fail
   exact zW
def aJ7(l:aw)(hl:l.length<=1048576):aq 221 [.row 0 0] [.row 0 1 3 (iv l)] (.ret (.tup [])) [.row 0 1 3 (iv l.reverse)]:=by
 have a:(iv l).length=l.length:=by simp
 have next:=aBq l.reverse l.length [] l [] (Bf _) q_ s_
 have e:((0:Nat):Int)+(l.length:Int)-1=((iv l).length:Int)-1:=by rw [a];omega
 have next:To (Er [] [14,16,17]) aHH (.full 1 (.ret (.tup [])) [.row 0 1 3 (iv l.reverse)]) (.head (stk aHH 0) [(0,.row 0 0),(2,ii 0),(3,ii (((0:Nat):Int)+l.length-1))] [.row 0 1 3 (iv (l++[]))]):=next
 rw [e,Au] at next
 refine cT (E:=(Er [] [14,16,17])) (fn:=Tryz.f221) (g:=.full 1 _ _) λ_=>gV ?_;refine Fq (Ab (Ab (by simp only [bW];rw [a];omega) (by simp only [aW];rw [a];omega)) ?_);exact zW
def UM(c:Con)(b:c.sm)(n:Int)(a:(upL c.ns n).length<=12):aq 173 [c.av,ii n] [] (.ret (.slice 1 (iv (upL c.ns n).reverse) .no)) []:=by
 have h1:=TH c n;have d:=aIt c b n a;have h3:=aJ7 (upL c.ns n) o_;generalize upL c.ns n=l at *
 refine c_ Tryz.f173 λ_=>gV ?_;refine .pure _ [.cells 3 [ii n]] h1 ?_;exact zW
def NK(c:Con)(d:c.sm)(h:az)(i:LtF h)(hl:h.length<=1048576)(n:Int):aq 223 [c.av,.slice 1 (fv h) .no,ii n] [] (.ret (uu (oD c h n))) []:=by
  have h1:=aHF c d h i hl n;have l1:=aFq c h n;have l:=d.ns;have j:(nav c.ns).length=c.ns.length:=by simp
  unfold oD;unfold aL0 at *
  by_cases b:0<=n/\n<(c.ns.length:Int)
  .rw [if_pos b];have a:n.toNat<c.ns.length:=o_;have k:n=(n.toNat:Int):=o_;have get:=wA (c:=c) (n:=n) ⟨by omega,a⟩;generalize cX c.ns n=x at *
   have e:=RG (max 1 x.w);have l2:=QW (max 1 x.w);generalize P2 c h n=p at *
   generalize ofF (max 1 x.w)=q at *
   have h3:=VQ p q l1 l2;generalize AQ p q=r at *
   exact zqda11
  .rw [if_neg b];have e:=RG 1;have l2:=QW 1;generalize P2 c h n=p at *
   generalize ofF 1=q at *
   have h3:=VQ p q l1 l2;generalize AQ p q=r at *
   by_cases m:0<=n
   .exact zqda11
   .exact zqda11
def UN(c:Con)(now:Int)(p:Pn)(k:0<=now/\now<=1099511627776)(hp:0<=p.at')(l:c.age<=9223372036854775807)(r:Bool)(a:tD c now p=r):aq 171 [c.av,ii now,p.av] [] (.ret (.bool r)) []:=by
  unfold tD at a;have j:IntKind.wrap .u64 now=now:=by rw [wu];omega
  by_cases i:0<c.age
  .by_cases e:p.at'<=now
   .have m:now-p.at'=((now-p.at').toNat:Int):=o_;rw [decide_eq_true i,decide_eq_true e,Dc,Dc] at a;by_cases d:c.age<=now-p.at'
    .rw [decide_eq_true d] at a;subst a;refine c_ Tryz.f171 λ_=>?_
     repeat' first | (refine gN hE ?_;conv=>whnf) | exact rfl | refine zt ?_ | refine zu ?_ ?_ | intro h | fail
     all_goals exact congrArg (λ b=>Res.ret (aa.bool b)) (decide_eq_true d)
    .rw [decide_eq_false d] at a;subst a;refine c_ Tryz.f171 λ_=>?_
     repeat' first | (refine gN hE ?_;conv=>whnf) | exact rfl | refine zt ?_ | refine zu ?_ ?_ | intro h | fail
     all_goals exact congrArg (λ b=>Res.ret (aa.bool b)) (decide_eq_false d)
   .rw [decide_eq_false e,Gb,Fc] at a;subst a;exact c_ Tryz.f171 λ_=>zW
  .rw [decide_eq_false i,Gb] at a;subst a;exact c_ Tryz.f171 λ_=>zW
structure OrdOK(s:Sta):Prop where
 sm:s.c.sm
 few:s.c.ns.length<=12
 lt:LtF s.hist
 hl:s.hist.length<=1048576
 now:0<=s.now/\s.now<=1099511627776
 age:s.c.age<=9223372036854775807
def OrdOK.path{s:Sta}(h:OrdOK s)(n:Int):(upL s.c.ns n).length<=12:=Cx (aE4 _ _) h.few
def ZT(a b:Nat):Int:=if a<b then -1 else if b<a then 1 else 0
def aGA(c:Con)(h:az)(x y:Int):tE c h x y=orI (ZT (oD c h x) (oD c h y)) (iE x y):=by
 unfold tE orI ZT
 repeat' split
 all_goals first | rfl | omega
def aIu(s:Sta)(a b:Pn):iT s a b=if tD s.c s.now a=true then (if tD s.c s.now b=true then iE a.seq b.seq else -1) else if tD s.c s.now b=true then 1 else orI (ptC s a b) (iE a.seq b.seq):=by unfold iT orI;rfl
def JD(x:Nat):aq 263 [uu x] [] (.ret (.bool false)) []:=by refine c_ Tryz.f263 λ_=>gV ?_;exact congrArg (λ b=>Res.ret (aa.bool b)) s_
def aEi(a b:Nat)(r:Int)(c:ZT a b=r):aq 222 [uu a,uu b] [] (.ret (ii r)) []:=by
 unfold ZT at c;by_cases h1:a<b
 .rw [if_pos h1] at c;exact zqda2
 .rw [if_neg h1] at c;by_cases e:b<a
  .rw [if_pos e] at c;exact zqda2
  .rw [if_neg e] at c;exact zqda2
def A6(a b:Int):aq 172 [ii a,ii b] [] (.ret (ii (iE a b))) []:=WO a b _ rfl
def aCd(s:Sta)(h:OrdOK s)(x y:Int):aq 174 [.ptr s.cs,ii x,ii y] [] (.ret (ii (tE s.c s.hist x y))) []:=by
 have h1:=NK s.c h.sm s.hist h.lt h.hl x;have a:=NK s.c h.sm s.hist h.lt h.hl y;have h3:=aEi (oD s.c s.hist x) (oD s.c s.hist y) _ rfl;have b:=A6 x y;rw [aGA];have d:=CP (ZT (oD s.c s.hist x) (oD s.c s.hist y)) (iE x y) _ rfl;generalize ZT (oD s.c s.hist x) (oD s.c s.hist y)=p at *
 generalize iE x y=q at *
 generalize orI p q=r at *
 generalize oD s.c s.hist x=l1 at *
 generalize oD s.c s.hist y=l2 at *
 exact c_ Tryz.f174 λ_=>zW
noncomputable abbrev aNi:Func:=Tryz.f132
abbrev cpF(s:Sta)(p q:aw)(t:Int)(i:Nat):ar:=[(0,.ptr s.cs),(4,.ref 0 0),(5,.ref 1 0),(9,ii t),(10,.slice 1 (iv p) .no),(11,.slice 1 (iv q) .no),(90,ii ((min p.length q.length:Nat):Int)),(91,ii i)]
abbrev cpO(a b:Pn):au:=[.cells 45 a.cs,.cells 45 b.cs]
def aAy{c:Con}{h:az}:∀ {p q:aw},(p=[]\/q=[])->hD c h p q=iE p.length q.length
 | [],[],_=>rfl
 | [],_::_,_=>by simp [hD,iE]
 | _::_,[],_=>by
  show (1:Int)=iE _ _;unfold iE;rw [if_neg (by simp<;>omega),if_pos (by simp<;>omega)]
 | _::_,_::_,h=>by rcases h with h | h<;>cases h
def aIp(s:Sta)(h:OrdOK s)(a b:Pn)(p q:aw)(hp:p.length<=12)(C:q.length<=12)(R:Int)(j:orI (hD s.c s.hist p q) (iE a.seq b.seq)=R):∀ (m i:Nat),i+m=min p.length q.length->hD s.c s.hist p q=hD s.c s.hist (p.drop i) (q.drop i)->
  To E aNi (.pure (.ret (ii R))) (.head (stk aNi 0) (cpF s p q (iE p.length q.length) i) (cpO a b)):=by
 have n:(iv p).length=p.length:=by simp
 have w:(iv q).length=q.length:=by simp
 have hs:=A6 a.seq b.seq;intro m;induction m with
 | zero=>
  intro i r d;have h1:hD s.c s.hist p q=iE p.length q.length:=by
   have hd:p.drop i=[]\/q.drop i=[]:=by
    rcases Nat.le_total p.length q.length with h | h
    .exact .inl (Ai o_)
    .exact .inr (Ai o_)
   rw [d,aAy hd,Eg,Eg];unfold iE
   repeat' split
   all_goals omega
  rw [h1] at j;have v:=CP _ _ _ j;exact zqda6
 | succ m l=>
  intro i r d;have f:i<p.length:=o_;have g:i<q.length:=o_;have A:=gM f;have D:=gM g;have next:=l (i+1) o_
  rw [Ag f,Ag g] at d;have k:hD s.c s.hist (p[i]::p.drop (i+1)) (q[i]::q.drop (i+1))=if p[i]=q[i] then hD s.c s.hist (p.drop (i+1)) (q.drop (i+1)) else tE s.c s.hist p[i] q[i]:=rfl
  rw [k] at d;clear k;have B:=aCd s h p[i] q[i];by_cases e:p[i]=q[i]
  .rw [if_pos e] at d;have o:(p[i] !=q[i])=false:=by rw [e];simp
   have next:=next d
   generalize p[i]=x at *
   generalize q[i]=y at *
   generalize iE p.length q.length=t at *
   refine gV ?_;exact zW
  .rw [if_neg e] at d;have o:(p[i] !=q[i])=true:=by simpa using e
   rw [d] at j;have v:=CP _ _ _ j;clear next l d
   generalize tE s.c s.hist p[i] q[i]=z at *
   generalize p[i]=x at *
   generalize q[i]=y at *
   exact zqda6
def OW(s:Sta)(h:OrdOK s)(a b:Pn)(v:0<=a.at')(w:0<=b.at')(R:Int)(d:iT s a b=R):aq 132 [.ptr s.cs,a.av,b.av] [] (.ret (ii R)) []:=by
 have m:=UN s.c s.now a h.now v h.age _ rfl;have i:=UN s.c s.now b h.now w h.age _ rfl;have hs:=A6 a.seq b.seq;rw [aIu] at d;cases h1:tD s.c s.now a with
 | true=>
  rw [h1] at m d;rw [if_pos rfl] at d;cases e:tD s.c s.now b with
  | true=>
   rw [e] at i d;rw [if_pos rfl] at d;rw [d] at hs;exact zqda3
  | false=>
   rw [e] at i d;rw [if_neg d_] at d;subst d;exact zqda3
 | false=>
  rw [h1] at m d;rw [if_neg d_] at d;cases e:tD s.c s.now b with
  | true=>
   rw [e] at i d;rw [if_pos rfl] at d;subst d;exact zqda3
  | false=>
   rw [e] at i d;rw [if_neg d_] at d;by_cases l:a.g.ten=b.g.ten
   .have hz:ptC s a b=0:=by unfold ptC;rw [l];exact tQ.2 rfl
    rw [hz] at d;have z:=CP _ _ _ d;have r:(a.g.ten !=b.g.ten)=false:=by rw [l];simp
    generalize iE a.seq b.seq=u at *
    exact zqda3
   .have r:(a.g.ten !=b.g.ten)=true:=by simpa using l
    have y:=UM s.c h.sm a.g.ten (h.path _);have x:=UM s.c h.sm b.g.ten (h.path _);have l1:(upL s.c.ns a.g.ten).reverse.length<=12:=by rw [List.length_reverse];exact h.path _
    have l2:(upL s.c.ns b.g.ten).reverse.length<=12:=by rw [List.length_reverse];exact h.path _
    have n:=aIp s h a b (upL s.c.ns a.g.ten).reverse (upL s.c.ns b.g.ten).reverse l1 l2 R d _ 0 (Bw _) rfl;generalize (upL s.c.ns a.g.ten).reverse=p at *
    generalize (upL s.c.ns b.g.ten).reverse=q at *
    have j:(iv p).length=p.length:=by simp
    have k:(iv q).length=q.length:=by simp
    have B:=A6 (iv p).length (iv q).length;have o:((min p.length q.length:Nat):Int)=min (p.length:Int) (q.length:Int):=o_;unfold cpF at n;rw [o,<-j,<-k] at n;generalize iE ((iv p).length:Int) ((iv q).length:Int)=t at *
    exact zqda3
abbrev kO(s:Sta):aa:=.func (.func 134) [] [.ptr [.func (.func 132) [] []],.ptr s.cs]
def vO(s:Sta)(h:OrdOK s)(a b:Pn)(c:0<=a.at')(d:0<=b.at'):aq 134 [a.av,b.av,.ptr [.func (.func 132) [] []],.ptr s.cs] [] (.ret (ii (iT s a b))) []:=by
 have h1:=OW s h a b c d _ rfl;generalize iT s a b=r at *
 exact c_ Tryz.f134 λ_=>zW
def CO(s:Sta):a7:=srt (ltP s) s.pend
def aG9{x y:Pn}{s:Sta}{out:a7}{k:Nat}(h:out[k]? =some y):oG (ltP s) x out (k+1)=if ltP s x y=true then oG (ltP s) x out k else k+1:=by simp only [oG,h]
def sI(l:a7):(pnv l).length=l.length:=by simp
def T9(A B:a7)(x:Pn){i:Nat}(a:i=A.length):(pnv (A++x::B))[i]? =some x.av:=by subst a;simp
def A2(A M B:a7)(x y:Pn){i j:Nat}(b:i=A.length)(d:j=A.length+M.length+1):
  (pnv (A++x::(M++y::B)))[i]? =some x.av/\(pnv (A++x::(M++y::B)))[j]? =some y.av/\((pnv (A++x::(M++y::B))).set i y.av).set j x.av=pnv (A++y::(M++x::B))/\((pnv (A++x::(M++y::B))).set j x.av).set i y.av=pnv (A++y::(M++x::B)):=by
 have e:A++x::(M++y::B)=(A++x::M)++y::B:=by simp
 have a:((pnv (A++x::(M++y::B))).set i y.av).set j x.av=pnv (A++y::(M++x::B)):=by
  have h:=T6 A M B x y;have c:A++x::(M++[y])++B=A++x::(M++y::B):=by simp
  have f:A++[y]++M++x::B=A++y::(M++x::B):=by simp
  rw [c,f] at h;subst b d;rw [<-h];simp only [pnv,Gk]
 refine ⟨T9 _ _ _ b,by rw [e];exact T9 _ _ _ q_,a,?_⟩;rw [List.set_comm _ _ o_];exact a
def mK(l:a7):Prop:=∀ p∈l,0<=p.at'
def mK.perm{l m:a7}(h:l.Perm m)(a:mK l):mK m:=λ p hp=>a p (h.mem_iff.2 hp)
abbrev bK(l:a7):au:=[.row 0 11 45 (pnv l)]
noncomputable abbrev OE:Func:=Tryz.f224
abbrev isF(s:Sta)(a b i:Nat):ar:=[(0,.row 0 0),(1,ii a),(2,ii b),(3,kO s),(8,ii i)]
def Q5(s:Sta)(h:OrdOK s)(R:a7)(A T B:a7)(x:Pn)(a b i:Nat)(P:a=A.length)(U:i=A.length+T.length)(hl:A.length+T.length+B.length<=1000000)(Q:i<b)(V:b<=1000001)(M:0<=x.at')(N:mK T)
  (next:To (Er [] [37,39,40,41]) OE (.full 1 (.ret (.tup [])) (bK R)) (.head (stk OE 0) (isF s a b (i+1)) (bK (A++(nK (ltP s) T x++B))))):∀ (k:Nat),k<=T.length->oG (ltP s) x T T.length=oG (ltP s) x T k->
  To (Er [] [37,39,40,41]) OE (.full 1 (.ret (.tup [])) (bK R)) (.head (stk OE 1) (isF s a b i++[(9,ii ((A.length+k:Nat):Int))]) (bK (A++(T.take k++x::(T.drop k++B))))):=by
 intro k;induction k with
 | zero=>
  intro S l;have e:nK (ltP s) T x++B=T.take 0++x::(T.drop 0++B):=by unfold nK;rw [l];simp [oG]
  rw [e] at next
  generalize pnv (A++(T.take 0++x::(T.drop 0++B)))=L at *
  subst P;refine gV ?_;exact zW
 | succ k C=>
  intro S l;have g:k<T.length:=o_;have w:=N _ (Bd g);have p:T.take (k+1)=T.take k++[T[k]]:=Gw g;have D:T.drop k=T[k]::T.drop (k+1):=Ag g;rw [aG9 (Aa g)] at l;have O:=vO s h x T[k] M w;have c:((A.length+(k+1):Nat):Int)-1=((A.length+k:Nat):Int):=o_;have z:A++(T.take (k+1)++x::(T.drop (k+1)++B))=(A++T.take k)++T[k]::([]++x::(T.drop (k+1)++B)):=by rw [p];simp only [Ae,Ca,Bm]
  obtain ⟨r,q,_,t⟩:=A2 (A++T.take k) [] (T.drop (k+1)++B) T[k] x (i:=A.length+k) (j:=A.length+(k+1)) q_ q_;have G:(A++T.take k)++x::([]++T[k]::(T.drop (k+1)++B))=A++(T.take k++x::(T.drop k++B)):=by rw [D];simp only [Ae,Ca,Bm]
  have K:(pnv ((A++T.take k)++T[k]::([]++x::(T.drop (k+1)++B)))).length=A.length+T.length+1+B.length:=by simp;omega
  rw [G] at t;rw [z];by_cases n:iT s x T[k]<0
  .have e:ltP s x T[k]=true:=decide_eq_true n;rw [if_pos e] at l;have m:=C o_ l;dsimp only [bK] at m⊢;rw [<-t] at m;clear next C
   generalize iT s x T[k]=v at *
   generalize T[k]=y at *
   generalize pnv ((A++T.take k)++y::([]++x::(T.drop (k+1)++B)))=L at *
   obtain ⟨j,o⟩:∃ j,j=A.length+(k+1):=⟨_,rfl⟩
   obtain ⟨f,d⟩:∃ f,f=A.length+k:=⟨_,rfl⟩
   have J:j=f+1:=o_;have I:a<j:=o_;have F:j<L.length:=o_;have H:j<=1000000:=o_;rw [<-o] at c m q⊢;rw [<-d] at c m r;clear o d t z G p D K l;refine gV ?_;refine aT λ h=>?_
   repeat' first | (refine gN (hEr [] [37,39,40,41]) ?_;conv=>whnf) | refine ⟨j,rfl,?_⟩ | refine ⟨_,q,?_⟩ | refine ⟨f,c,?_⟩ | refine ⟨_,r,?_⟩ | exact rfl | refine zt ?_ | refine zu ?_ ?_ | intro h | fail
   refine .pure _ [] O ?_
   repeat' first | (refine gN (hEr [] [37,39,40,41]) ?_;conv=>whnf) | exact rfl | refine zt ?_ | refine zu ?_ ?_ | intro h | fail
   repeat' first | (refine gN (hEr [] [37,39,40,41]) ?_;conv=>whnf) | refine ⟨j,rfl,?_⟩ | refine ⟨_,q,?_⟩ | refine ⟨f,c,?_⟩ | refine ⟨_,r,?_⟩ | refine Ab (by rw [Df];omega) ?_ | exact rfl | refine zt ?_ | refine zu ?_ ?_ | intro h | fail
   refine To.part [0,1,2,3,8,9] [0] rfl rfl rfl ?_;rw [<-c] at m;exact m
  .have e:ltP s x T[k]=false:=decide_eq_false n;rw [if_neg (by rw [e];decide)] at l;have u:nK (ltP s) T x++B=T.take k++T[k]::([]++x::(T.drop (k+1)++B)):=by unfold nK;rw [l,p];simp only [Ae,Ca,Bm]
   have u:A++(nK (ltP s) T x++B)=(A++T.take k)++T[k]::([]++x::(T.drop (k+1)++B)):=by rw [u,Ae]
   rw [u] at next
   clear C;dsimp only [bK] at next⊢
   generalize iT s x T[k]=v at *
   generalize T[k]=y at *
   generalize pnv ((A++T.take k)++y::([]++x::(T.drop (k+1)++B)))=L at *
   obtain ⟨j,o⟩:∃ j,j=A.length+(k+1):=⟨_,rfl⟩
   obtain ⟨f,d⟩:∃ f,f=A.length+k:=⟨_,rfl⟩
   have J:j=f+1:=o_;have I:a<j:=o_;have F:j<L.length:=o_;have H:j<=1000000:=o_;rw [<-o] at c q⊢;rw [<-d] at c r;clear o d t z G p D K l u;refine gV ?_;exact zW
def U6(s:Sta)(h:OrdOK s)(A B:a7)(a b:Nat)(j:a=A.length)(q:b<=1000000)(o:A.length+B.length<=1000000)(R:a7):∀ (rest T:a7),R=A++(rest.foldl (nK (ltP s)) T++B)->b=A.length+T.length+rest.length->b+B.length<=1000000->mK (T++rest)->
  To (Er [] [37,39,40,41]) OE (.full 1 (.ret (.tup [])) (bK R)) (.head (stk OE 0) (isF s a b (A.length+T.length)) (bK (A++(T++(rest++B)))))
 | [],T,hR,hlen,hB,hat=>by
  subst hR;dsimp only [bK,List.foldl_nil,Bm];generalize pnv (A++(T++B))=L at *
  obtain ⟨i,g⟩:∃ i,i=A.length+T.length:=⟨_,rfl⟩
  rw [<-g] at hlen⊢;have r:b=i:=by simpa using hlen
  refine gV ?_;exact zW
 | x::rest,T,hR,hlen,hB,hat=>by
  have f:b=A.length+T.length+rest.length+1:=by simp at hlen;omega
  have hp:=yA (ltP s) T x;have e:=hp.length_eq;have d:mK (nK (ltP s) T x++rest):=hat.perm ((Eh.trans (Dq rest hp.symm)));have c:=U6 s h A B a b j q o R rest (nK (ltP s) T x) hR (by simp at e;omega) hB d;have k:A.length+(nK (ltP s) T x).length=A.length+T.length+1:=by simp at e;omega
  rw [k] at c;have l:0<=x.at':=hat x s_;have m:mK T:=λ p hp=>hat p (De _ hp);have c:=Q5 s h R A T (rest++B) x a b (A.length+T.length) j rfl q_ o_ o_ l m c T.length (Bf _) rfl;rw [Fx,List.drop_length,Bm] at c;dsimp only [bK] at c⊢;rw [Ca];generalize pnv (A++(T++x::(rest++B)))=L at *
  obtain ⟨i,g⟩:∃ i,i=A.length+T.length:=⟨_,rfl⟩
  rw [<-g] at c⊢;have n:i<b:=o_;refine gV ?_;exact zW
def Q4(s:Sta)(h:OrdOK s)(A S B:a7)(a b:Nat)(k:a=A.length)(i:b=A.length+S.length)(j:b+B.length<=1000000)(c:mK S):
  aq 224 [.row 0 0,ii a,ii b,kO s] (bK (A++(S++B))) (.ret (.tup [])) (bK (A++(srt (ltP s) S++B))):=by
 have h1:To (Er [] [37,39,40,41]) OE (.full 1 (.ret (.tup [])) (bK (A++(srt (ltP s) S++B)))) (.head (stk OE 0) [(0,.row 0 0),(1,ii a),(2,ii b),(3,kO s),(8,ii ((a:Int)+1))] (bK (A++(S++B)))):=by
  cases S with
  | nil=>
   have e:srt (ltP s) []=[]:=rfl;rw [e];dsimp only [bK];generalize pnv (A++([]++B))=L at *
   simp at i;refine gV ?_;exact zW
  | cons x S=>
   simp at i;have:=U6 s h A B a b k o_ o_ (A++(srt (ltP s) (x::S)++B)) S [x] rfl q_ j c;have e:A.length+[x].length=a+1:=by simp;omega
   rw [e] at this;exact this
 generalize A++(srt (ltP s) S++B)=R at *
 dsimp only [bK] at h1⊢;generalize pnv (A++(S++B))=L at *
 have l:a<=1000000:=o_;clear c;refine cT (E:=(Er [] [37,39,40,41])) (fn:=Tryz.f224) (g:=.full 1 _ _) λ_=>gV ?_
 have d:inR .i64 ((a:Int)+1):=⟨by simp only [bW];omega,by simp only [aW];omega⟩
 refine Fq (Ab d ?_);exact zW
noncomputable abbrev aM7:Func:=Tryz.f286
def LE(R Y:a7)(a b N:Nat)(cv:aa):∀ (U V X M:a7) (i:Nat),U.length=V.length->i+U.length=N->a+i=X.length->b+i=X.length+U.length+M.length->X.length+U.length+M.length+V.length+Y.length<=1000000->R=X++(V++(M++(U++Y)))->
  To (Er [] [16,20,21,22,23]) aM7 (.full 1 (.ret (.tup [])) (bK R)) (.head (stk aM7 0) [(0,.row 0 0),(1,ii a),(2,ii b),(3,ii N),(10,ii i)] (bK (X++(U++(M++(V++Y))))))
 | [],[],X,M,i,hl,hN,hi,hj,hb,hR=>by
  subst hR;dsimp only [bK,Bm];generalize pnv (X++(M++Y))=L at *
  have o:i=N:=by simpa using hN
  subst o;refine gV ?_;exact zW
 | x::U,y::V,X,M,i,hl,hN,hi,hj,hb,hR=>by
  have d:U.length=V.length:=by simpa using hl
  simp at hN hj hb;have k:=LE R Y a b N cv U V (X++[y]) (M++[x]) (i+1) d o_ q_ q_ q_ (by rw [hR];simp only [Ae,Ca,Bm]);obtain ⟨u,r,l,_⟩:=A2 X (U++M) (V++Y) x y (i:=a+i) (j:=b+i) hi q_;have t:X++y::(U++M++x::(V++Y))=(X++[y])++(U++((M++[x])++(V++Y))):=by simp only [Ae,Ca,Bm]
  have s:X++(x::U++(M++(y::V++Y)))=X++x::(U++M++y::(V++Y)):=by simp only [Ae,Ca,Bm]
  rw [t] at l;rw [s];dsimp only [bK] at k⊢;rw [<-l] at k;have f:(pnv (X++x::(U++M++y::(V++Y)))).length=X.length+U.length+M.length+V.length+Y.length+2:=by simp;omega
  generalize pnv (X++x::(U++M++y::(V++Y)))=L at *
  have hiN:i<N:=o_
  obtain ⟨c,g⟩:∃ c,c=a+i:=⟨_,rfl⟩
  obtain ⟨j,e⟩:∃ j,j=b+i:=⟨_,rfl⟩
  have n:(a:Int)+i=(c:Int):=o_;have m:(b:Int)+i=(j:Int):=o_;have v:j<L.length:=o_;have p:c<L.length:=o_;have w:j<=1000000:=o_;have q:c<=1000000:=o_;rw [<-g] at k u;rw [<-e] at k r;clear g e hj hi hb f s t hR hN hl d l;refine gV ?_;refine aT λ h=>?_
  repeat' first | (refine gN (hEr [] [16,20,21,22,23]) ?_;conv=>whnf) | refine ⟨j,m,?_⟩ | refine ⟨_,r,?_⟩ | refine ⟨c,n,?_⟩ | refine ⟨_,u,?_⟩ | refine Ab (by rw [Df];omega) ?_ | exact rfl | refine zt ?_ | refine zu ?_ ?_ | intro h | fail
  exact zW
def P1(s:Sta)(X U M V Y:a7)(a b N:Nat)(e:a=X.length)(d:N=U.length)(c:U.length=V.length)(h:b=X.length+U.length+M.length)(hl:X.length+U.length+M.length+V.length+Y.length<=1000000):
  aq 286 [.row 0 0,ii a,ii b,ii N,kO s] (bK (X++(U++(M++(V++Y))))) (.ret (.tup [])) (bK (X++(V++(M++(U++Y))))):=by
 have h1:=LE _ Y a b N (kO s) U V X M 0 c o_ o_ o_ hl rfl;dsimp only [bK] at h1⊢;generalize pnv (X++(U++(M++(V++Y))))=L at *
 generalize pnv (X++(V++(M++(U++Y))))=R at *
 refine cT (E:=(Er [] [16,20,21,22,23])) (fn:=Tryz.f286) (g:=.full 1 _ _) λ_=>?_;exact zW
noncomputable abbrev aNa:Func:=Tryz.f266
def aBj(s:Sta)(R:a7)(m:Nat)(hm:m<=1000000):∀ (n:Nat) (X U V Y:a7) (i j:Nat),i+j<=n->i=U.length->j=V.length->0<i->0<j->m=X.length+i->X.length+U.length+V.length+Y.length<=1000000->R=X++(V++(U++Y))->
  To E aNa (.full 1 (.ret (.tup [])) (bK R)) (.head (stk aNa 0) [(0,.row 0 0),(2,ii m),(4,kO s),(10,ii i),(11,ii j)] (bK (X++(U++(V++Y))))):=by
 intro n;induction n with
 | zero=>intro X U V Y i j h;omega
 | succ n o=>
  intro X U V Y i j B k v D A C hl g;by_cases t:i=j
  .have f:((m:Int)-i)=((m-i:Nat):Int):=o_;have h1:=P1 s X U [] V Y (m-i) m i o_ k o_ q_ q_;rw [Bm,Bm,<-f,<-g] at h1;have x:((i:Int) !=(j:Int))=false:=by rw [t];simp
   dsimp only [bK] at h1⊢;generalize pnv (X++(U++(V++Y)))=L at *
   generalize pnv R=K at *
   clear g hl o;refine gV ?_;exact zW
  .have x:((i:Int) !=(j:Int))=true:=by simp;omega
   by_cases y:j<i
   .obtain ⟨d,a,rfl,e⟩:∃ d a,U=d++a/\d.length=j:=⟨U.take j,U.drop j,(Bp j U).symm,by simp;omega⟩
    have r:i=j+a.length:=by rw [k,Ah,e]
    have f:((m:Int)-i)=((m-i:Nat):Int):=o_;have hd:((i:Int)-j)=((i-j:Nat):Int):=o_;rw [Ah] at hl;have h1:=P1 s X d a V Y (m-i) m j o_ e.symm o_ o_ o_;have p:=o (X++V) a d Y (i-j) j o_ o_ o_ o_ o_ (by rw [Ah];omega) (by rw [Ah];omega) (by rw [g];simp only [Ae]);rw [<-f] at h1;rw [<-hd,Ae] at p;rw [Ae d a];dsimp only [bK] at h1 p⊢;generalize pnv (X++(d++(a++(V++Y))))=L at *
    generalize pnv (X++(V++(a++(d++Y))))=K at *
    have q:i<=1000000:=o_;clear g hl o f hd k v r e;refine gV ?_;exact zW
   .obtain ⟨b,c,rfl,l⟩:∃ b c,V=b++c/\c.length=i:=⟨V.take (j-i),V.drop (j-i),(Bp (j-i) V).symm,by simp;omega⟩
    have u:j=b.length+i:=by rw [v,Ah,l]
    have f:((m:Int)-i)=((m-i:Nat):Int):=o_;have hd:((j:Int)-i)=((j-i:Nat):Int):=o_;have w:((m:Int)+j-i)=((m+(j-i):Nat):Int):=o_;rw [Ah] at hl;have h1:=P1 s X U b c Y (m-i) (m+(j-i)) i o_ k o_ o_ o_;have p:=o X c b (U++Y) i (j-i) o_ o_ o_ o_ o_ o_ (by rw [Ah];omega) (by rw [g];simp only [Ae]);rw [<-f,<-w] at h1;rw [<-hd] at p;rw [Ae b c];dsimp only [bK] at h1 p⊢;generalize pnv (X++(U++(b++(c++Y))))=L at *
    generalize pnv (X++(c++(b++(U++Y))))=K at *
    have z:j<=1000000:=o_;have q:i<=1000000:=o_;clear g hl o f hd w k v u l;refine gV ?_;exact zW
def aJ0(s:Sta)(X U V Y:a7)(a m b:Nat)(l:a=X.length)(hm:m=a+U.length)(n:b=m+V.length)(d:U≠[])(e:V≠[])(hl:b+Y.length<=1000000):
  aq 266 [.row 0 0,ii a,ii m,ii b,kO s] (bK (X++(U++(V++Y)))) (.ret (.tup [])) (bK (X++(V++(U++Y)))):=by
 have o:=Dw.2 d;have k:=Dw.2 e;have h1:=aBj s _ m o_ _ X U V Y (m-a) (b-m) (Bf _) o_ o_ o_ o_ o_ o_ rfl;have h:(m:Int)-a=((m-a:Nat):Int):=o_;have hd:(b:Int)-m=((b-m:Nat):Int):=o_;rw [<-h,<-hd] at h1;dsimp only [bK] at h1⊢;generalize pnv (X++(U++(V++Y)))=L at *
 generalize pnv (X++(V++(U++Y)))=R at *
 have i:a<=m:=o_;have j:m<=b:=o_;have c:b<=1000000:=o_;refine cT (E:=E) (fn:=Tryz.f266) (g:=.full 1 _ _) λ_=>?_;exact zW
noncomputable abbrev qM:Func:=Tryz.f225
def JG(lo a:Nat):((lo:Int)+a).fdiv (2 ^ Dm 1)=(((lo+a) / 2:Nat):Int):=by have e:(2:Int) ^ Dm 1=2:=rfl;rw [e,Dy _ d_];omega
def VB{c:Nat}(h:c<=1000000):inR .i64 (c:Int):=Ab (by simp only [bW];omega) (by simp only [aW];omega)
def H1{L:a7}{h:Nat}{y:Pn}(a:L[h]? =some y):(pnv L)[h]? =some y.av:=by simp [a]
set_option maxHeartbeats 1000000 in
def aJS(s:Sta)(hs:OrdOK s)(L:a7)(g:mK L)(C:L.length<=1000000)(a:Nat)(u:Pn)(n:L[a]? =some u)(P:Nat->Bool)(j:∀ h y,L[h]? =some y->P h=ltP s y u)(R:a7)(k:Nat)
  (next:To (Er [] [61,63,64,65,113,115,116,117]) qM (.full 1 (.ret (.tup [])) (bK R)) (.head (stk qM 1) [(0,.row 0 0),(10,ii k),(13,ii a)] (bK L))):∀ (f lo d:Nat),d-lo<=f->lo<=d->d<=L.length->bis P f lo d=k->
  To (Er [] [61,63,64,65,113,115,116,117]) qM (.full 1 (.ret (.tup [])) (bK R)) (.head (stk qM 0) [(0,.row 0 0),(1,ii a),(4,kO s),(10,ii lo),(11,ii d)] (bK L))
 | 0,lo,d,hf,h1,h2,b=>by
  have e:lo=d:=o_;subst e;have b:lo=k:=b;subst b;exact zqda1
 | f+1,lo,d,hf,h1,h2,b=>by
  by_cases m:lo<d
  .unfold bis at b;rw [if_pos m] at b
   obtain ⟨c,A⟩:∃ c,c=(lo+d) / 2:=⟨_,rfl⟩
   rw [<-A] at b;have i:c<L.length:=o_;have z:L[c]? =some L[c]:=Aa i;have l:=j c _ z;have o:=vO s hs L[c] u (g _ (Bd i)) (g _ (Av n));have B:=H1 z;have w:=H1 n;have q:a<L.length:=(Ac.1 n).1;have hm:=JG lo d;rw [<-A] at hm;have x:=VB (show c<=1000000 by omega);have D:c<(pnv L).length:=by rw [sI];exact i
   have F:a<(pnv L).length:=by rw [sI];exact q
   generalize L[c]=y at *
   cases p:P c with
   | true=>
    rw [p,if_pos rfl] at b;have t:iT s y u<0:=of_decide_eq_true (l.symm.trans p);have r:=aJS s hs L g C a u n P j R k next f (c+1) d o_ o_ h2 b
    generalize iT s y u=v at *
    dsimp only [bK] at r⊢;generalize pnv L=K at *
    clear j next
    refine gV ?_;refine aT λ h=>?_
    repeat' first | (refine gN (hEr [] [61,63,64,65,113,115,116,117]) ?_;conv=>whnf) | (rw [hm];refine Fq (Ab x ?_)) | refine ⟨c,rfl,?_⟩ | refine ⟨_,B,?_⟩ | refine ⟨a,rfl,?_⟩ | refine ⟨_,w,?_⟩ | refine .pure _ [] o ?_ | exact rfl | refine zt ?_ | refine zu ?_ ?_ | intro h | fail
    exact zW
   | false=>
    rw [p,if_neg d_] at b;have t:¬ iT s y u<0:=of_decide_eq_false (l.symm.trans p);have r:=aJS s hs L g C a u n P j R k next f lo c o_ o_ o_ b
    generalize iT s y u=v at *
    dsimp only [bK] at r⊢;generalize pnv L=K at *
    clear j next
    refine gV ?_;refine aT λ h=>?_
    repeat' first | (refine gN (hEr [] [61,63,64,65,113,115,116,117]) ?_;conv=>whnf) | (rw [hm];refine Fq (Ab x ?_)) | refine ⟨c,rfl,?_⟩ | refine ⟨_,B,?_⟩ | refine ⟨a,rfl,?_⟩ | refine ⟨_,w,?_⟩ | refine .pure _ [] o ?_ | exact rfl | refine zt ?_ | refine zu ?_ ?_ | intro h | fail
    exact zW
  .unfold bis at b;rw [if_neg m] at b;subst b;exact zqda1
def mv1(R W:a7)(u:Pn):∀ (V A:a7) (i k:Nat),k=A.length->i=A.length+V.length+1->A.length+V.length+W.length<=999999->R=A++(V++u::W)->
  To (Er [] [61,63,64,65,113,115,116,117]) qM (.full 1 (.ret (.tup [])) (bK R)) (.head (stk qM 1) [(0,.row 0 0),(10,ii i),(13,ii k)] (bK (A++u::(V++W))))
 | [],A,i,k,hk,hi,hl,hR=>by
  subst hR;dsimp only [bK,Bm];generalize pnv (A++u::W)=L at *
  have f:i<=1000000:=o_;have e:i=k+1:=by simp at hi;omega
  refine gV ?_;exact zW
 | y::V,A,i,k,hk,hi,hl,hR=>by
  simp at hi hl;have c:=mv1 R W u V (A++[y]) i (k+1) q_ q_ q_ (by rw [hR];simp only [Ae,Ca,Bm]);obtain ⟨r,g,d,_⟩:=A2 A [] (V++W) u y (i:=k) (j:=k+1) hk q_;have m:A++y::([]++u::(V++W))=(A++[y])++u::(V++W):=by simp only [Ae,Ca,Bm]
  have l:A++u::(y::V++W)=A++u::([]++y::(V++W)):=by simp only [Ae,Ca,Bm]
  rw [m] at d;rw [l];dsimp only [bK] at c⊢;rw [<-d] at c;have b:(pnv (A++u::([]++y::(V++W)))).length=A.length+V.length+W.length+2:=by simp;omega
  generalize pnv (A++u::([]++y::(V++W)))=L at *
  obtain ⟨j,s⟩:∃ j,j=k+1:=⟨_,rfl⟩
  rw [<-s] at c g;have a:(k:Int)+1=(j:Int):=o_;have p:j<L.length:=o_;have n:k<L.length:=o_;have q:j<=1000000:=o_;have o:k<=1000000:=o_;have f:i<=1000000:=o_;have e:k+1<i:=o_;rw [<-a] at c;clear b l m hR hl d hk hi;refine gV ?_
  repeat' first | (refine gN (hEr [] [61,63,64,65,113,115,116,117]) ?_;conv=>whnf) | refine aT λ h=>?_ | refine ⟨j,a,?_⟩ | refine ⟨_,g,?_⟩ | refine ⟨k,rfl,?_⟩ | refine ⟨_,r,?_⟩ | refine Ab (by rw [Df];omega) ?_ | exact rfl | refine zt ?_ | refine zu ?_ ?_ | intro h | fail
  exact zW
set_option maxHeartbeats 1000000 in
def aJR(s:Sta)(hs:OrdOK s)(L:a7)(i:mK L)(G:L.length<=1000000)(m:Nat)(u:Pn)(p:L[m]? =some u)(P:Nat->Bool)(n:∀ h y,L[h]? =some y->P h= !ltP s u y)(R:a7)(k:Nat)
  (next:To (Er [] [61,63,64,65,113,115,116,117]) qM (.full 1 (.ret (.tup [])) (bK R)) (.head (stk qM 3) [(0,.row 0 0),(14,ii k),(17,ii m)] (bK L))):∀ (f lo d:Nat),d-lo<=f->lo<=d->d<=L.length->bis P f lo d=k->
  To (Er [] [61,63,64,65,113,115,116,117]) qM (.full 1 (.ret (.tup [])) (bK R)) (.head (stk qM 2) [(0,.row 0 0),(2,ii m),(4,kO s),(14,ii lo),(15,ii d)] (bK L))
 | 0,lo,d,hf,h1,h2,a=>by
  have e:lo=d:=o_;subst e;have a:lo=k:=a;subst a;exact zqda1
 | f+1,lo,d,hf,h1,h2,a=>by
  by_cases o:lo<d
  .unfold bis at a;rw [if_pos o] at a
   obtain ⟨c,D⟩:∃ c,c=(lo+d) / 2:=⟨_,rfl⟩
   rw [<-D] at a;have l:c<L.length:=o_;have C:L[c]? =some L[c]:=Aa l;have g:=n c _ C;have q:=vO s hs u L[c] (i _ (Av p)) (i _ (Bd l));have F:=H1 C;have A:=H1 p;have w:m<L.length:=(Ac.1 p).1;have hm:=JG lo d;rw [<-D] at hm;have B:=VB (show c<=1000000 by omega);have I:c<(pnv L).length:=by rw [sI];exact l
   have H:m<(pnv L).length:=by rw [sI];exact w
   generalize L[c]=y at *
   cases r:P c with
   | true=>
    rw [r,if_pos rfl] at a;have j:ltP s u y=false:=by rw [r] at g;simpa using g.symm
    have z:¬ iT s u y<0:=of_decide_eq_false j;have t:(!decide (iT s u y<0))=true:=congrArg (λ b=>!b) j;have x:=aJR s hs L i G m u p P n R k next f (c+1) d o_ o_ h2 a
    clear j;generalize iT s u y=v at *
    dsimp only [bK] at x⊢;generalize pnv L=K at *
    clear n next
    refine gV ?_;refine aT λ h=>?_
    repeat' first | (refine gN (hEr [] [61,63,64,65,113,115,116,117]) ?_;conv=>whnf) | (rw [hm];refine Fq (Ab B ?_)) | refine ⟨m,rfl,?_⟩ | refine ⟨_,A,?_⟩ | refine ⟨c,rfl,?_⟩ | refine ⟨_,F,?_⟩ | refine .pure _ [] q ?_ | refine Ab (λ_=>?_) (λ h=>absurd (t.symm.trans h) d_) | exact rfl | refine zt ?_ | refine zu ?_ ?_ | intro h | fail
    exact zW
   | false=>
    rw [r,if_neg d_] at a;have j:ltP s u y=true:=by rw [r] at g;simpa using g.symm
    have z:iT s u y<0:=of_decide_eq_true j;have t:(!decide (iT s u y<0))=false:=congrArg (λ b=>!b) j;have x:=aJR s hs L i G m u p P n R k next f lo c o_ o_ o_ a
    clear j;generalize iT s u y=v at *
    dsimp only [bK] at x⊢;generalize pnv L=K at *
    clear n next
    refine gV ?_;refine aT λ h=>?_
    repeat' first | (refine gN (hEr [] [61,63,64,65,113,115,116,117]) ?_;conv=>whnf) | (rw [hm];refine Fq (Ab B ?_)) | refine ⟨m,rfl,?_⟩ | refine ⟨_,A,?_⟩ | refine ⟨c,rfl,?_⟩ | refine ⟨_,F,?_⟩ | refine .pure _ [] q ?_ | refine Ab (λ h=>absurd (t.symm.trans h) d_) (λ_=>?_) | exact rfl | refine zt ?_ | refine zu ?_ ?_ | intro h | fail
    exact zW
  .unfold bis at a;rw [if_neg o] at a;subst a;exact zqda1
def mv2(R:a7)(u:Pn)(A:a7)(i:Nat)(w:i=A.length):∀ (n:Nat) (V W:a7) (k:Nat),V.length=n->k=A.length+n->A.length+n+W.length<=999999->R=A++u::(V++W)->
  To (Er [] [61,63,64,65,113,115,116,117]) qM (.full 1 (.ret (.tup [])) (bK R)) (.head (stk qM 3) [(0,.row 0 0),(14,ii i),(17,ii k)] (bK (A++(V++u::W)))):=by
 intro n;induction n with
 | zero=>
  intro V W k b s hl e;cases Ck.1 b;subst e;dsimp only [bK,Bm];generalize pnv (A++u::W)=L at *
  have g:k=i:=o_;have t:i<=1000000:=o_;refine gV ?_;exact zW
 | succ n o=>
  intro V W k b s hl e
  obtain ⟨V,y,rfl⟩:∃ C y,V=C++[y]:=⟨V.dropLast,V.getLast (by intro h;rw [h] at b;cases b),(Kn _).symm⟩
  have l:V.length=n:=by simpa using b
  have d:=o V (y::W) (k-1) l o_ q_ (by rw [e];simp only [Ae,Ca,Bm]);obtain ⟨q,x,_,f⟩:=A2 (A++V) [] W y u (i:=k-1) (j:=k) q_ q_;have p:A++V++u::([]++y::W)=A++(V++u::(y::W)):=by simp only [Ae,Ca,Bm]
  have m:A++(V++[y]++u::W)=A++V++y::([]++u::W):=by simp only [Ae,Ca,Bm]
  rw [p] at f;rw [m];dsimp only [bK] at d⊢;rw [<-f] at d;have c:(pnv (A++V++y::([]++u::W))).length=A.length+V.length+W.length+2:=by simp;omega
  generalize pnv (A++V++y::([]++u::W))=L at *
  obtain ⟨j,r⟩:∃ j,j=k-1:=⟨_,rfl⟩
  rw [<-r] at d q;have a:(k:Int)-1=(j:Int):=o_;have D:j<L.length:=o_;have z:k<L.length:=o_;have B:k<=1000000:=o_;have v:k=j+1:=o_;have g:i<k:=o_;rw [<-a] at d;clear c m p e hl f s w o r;refine gV ?_
  repeat' first | (refine gN (hEr [] [61,63,64,65,113,115,116,117]) ?_;conv=>whnf) | refine aT λ h=>?_ | refine ⟨j,a,?_⟩ | refine ⟨_,q,?_⟩ | refine ⟨k,rfl,?_⟩ | refine ⟨_,x,?_⟩ | refine Ab (by rw [Df];omega) ?_ | exact rfl | refine zt ?_ | refine zu ?_ ?_ | intro h | fail
  exact zW
abbrev aFX(K:ax):au:=[.row 0 11 45 K]
def Stp(f:Nat)(s:Sta)(x y z:Nat)(K a:ax):Prop:=
 (x<y/\y<z/\aA Tryz.prog f [.row 0 0,ii x,ii y,ii z,kO s] (aFX K) (.ret (.tup [])) (aFX a))\/(x<y/\¬ y<z/\K=a)\/(¬ x<y/\K=a)
abbrev aFn(s:Sta)(a m b mid n c d:Nat)(p:Int):ar:=[(0,.row 0 0),(1,ii a),(2,ii m),(3,ii b),(4,kO s),(18,ii mid),(19,ii n),(20,ii c),(21,ii d),(22,ii p)]
set_option maxHeartbeats 8000000 in
def aAN(s:Sta)(a m b mid n st c:Nat)(p:Int)(B:n<=2000000)(z:n=c+st)(l h o g:ax)(u:Stp 266 s st m c l h)(q:Stp 225 s a st mid h o)(y:Stp 225 s mid c b o g):
  To (Er [] [61,63,64,65,113,115,116,117]) qM (.full 1 (.ret (.tup [])) (aFX g)) (.head (stk qM 4) (aFn s a m b mid n st st p) (aFX l)):=by
 obtain ⟨i,r⟩:∃ i:Int,i=(c:Int):=⟨_,rfl⟩
 have j:((n:Int)-st)=(c:Int):=o_;rcases u with ⟨e,x,A⟩ | ⟨e,x,rfl⟩ | ⟨e,rfl⟩<;>rcases q with ⟨d,v,C⟩ | ⟨d,v,rfl⟩ | ⟨d,rfl⟩<;>rcases y with ⟨k,w,t⟩ | ⟨k,w,rfl⟩ | ⟨k,rfl⟩
 all_goals (try rw [<-j] at A)
 all_goals (try rw [<-j] at t)
 all_goals (try (exfalso;omega))
 all_goals
  refine gV ?_;exact zW
set_option maxHeartbeats 1000000 in
def aJQ(s:Sta)(hs:OrdOK s)(L:a7)(o:mK L)(S:L.length<=1000000)(a m b mid n p i j:Nat)(P:Nat->Bool)(u:∀ c,i<=c->c<j->c<=p/\∃ y z,L[p-c]? =some y/\L[c]? =some z/\P c= !ltP s y z)(R:a7)(k:Nat)
  (next:To (Er [] [61,63,64,65,113,115,116,117]) qM (.full 1 (.ret (.tup [])) (bK R)) (.head (stk qM 4) (aFn s a m b mid n k k p) (bK L))):∀ (f lo g:Nat),g-lo<=f->lo<=g->i<=lo->g<=j->bis P f lo g=k->
  To (Er [] [61,63,64,65,113,115,116,117]) qM (.full 1 (.ret (.tup [])) (bK R)) (.head (stk qM 4) (aFn s a m b mid n lo g p) (bK L))
 | 0,lo,g,hf,h1,h2,h3,d=>by
  have e:lo=g:=o_;subst e;have d:lo=k:=d;subst d;exact next
 | f+1,lo,g,hf,h1,h2,h3,d=>by
  by_cases w:lo<g
  .unfold bis at d;rw [if_pos w] at d
   obtain ⟨c,Q⟩:∃ c,c=(lo+g) / 2:=⟨_,rfl⟩
   rw [<-Q] at d;obtain ⟨W,y,z,J,D,l⟩:=u c o_ o_;have A:=vO s hs y z (o _ (Av J)) (o _ (Av D));have I:=H1 J;have N:=H1 D;have G:c<L.length:=(Ac.1 D).1;have x:p-c<L.length:=(Ac.1 J).1;have hm:=JG lo g;rw [<-Q] at hm;have O:=VB (show c<=1000000 by omega);have V:c<(pnv L).length:=by rw [sI];exact G
   have F:p-c<(pnv L).length:=by rw [sI];exact x
   obtain ⟨q,U⟩:∃ q,q=p-c:=⟨_,rfl⟩
   have t:(p:Int)-c=(q:Int):=o_;rw [<-U] at I F x;have T:p<=2000000:=o_;cases B:P c with
   | true=>
    rw [B,if_pos rfl] at d;have r:ltP s y z=false:=by rw [B] at l;simpa using l.symm
    have M:¬ iT s y z<0:=of_decide_eq_false r;have C:(!decide (iT s y z<0))=true:=congrArg (λ b=>!b) r;have H:=aJQ s hs L o S a m b mid n p i j P u R k next f (c+1) g o_ o_ o_ h3 d
    clear r;generalize iT s y z=v at *
    dsimp only [bK] at H⊢;generalize pnv L=K at *
    clear u next
    refine gV ?_;refine aT λ h=>?_
    repeat' first | (refine gN (hEr [] [61,63,64,65,113,115,116,117]) ?_;conv=>whnf) | (rw [hm];refine Fq (Ab O ?_)) | refine ⟨q,t,?_⟩ | refine ⟨_,I,?_⟩ | refine ⟨c,rfl,?_⟩ | refine ⟨_,N,?_⟩ | refine .pure _ [] A ?_ | refine Ab (λ_=>?_) (λ h=>absurd (C.symm.trans h) d_) | exact rfl | refine zt ?_ | refine zu ?_ ?_ | intro h | fail
    exact zW
   | false=>
    rw [B,if_neg d_] at d;have r:ltP s y z=true:=by rw [B] at l;simpa using l.symm
    have M:iT s y z<0:=of_decide_eq_true r;have C:(!decide (iT s y z<0))=false:=congrArg (λ b=>!b) r;have H:=aJQ s hs L o S a m b mid n p i j P u R k next f lo c o_ o_ h2 o_ d
    clear r;generalize iT s y z=v at *
    dsimp only [bK] at H⊢;generalize pnv L=K at *
    clear u next
    refine gV ?_;refine aT λ h=>?_
    repeat' first | (refine gN (hEr [] [61,63,64,65,113,115,116,117]) ?_;conv=>whnf) | (rw [hm];refine Fq (Ab O ?_)) | refine ⟨q,t,?_⟩ | refine ⟨_,I,?_⟩ | refine ⟨c,rfl,?_⟩ | refine ⟨_,N,?_⟩ | refine .pure _ [] A ?_ | refine Ab (λ h=>absurd (C.symm.trans h) d_) (λ_=>?_) | exact rfl | refine zt ?_ | refine zu ?_ ?_ | intro h | fail
    exact zW
  .unfold bis at d;rw [if_neg w] at d;subst d;have e:lo=g:=o_;subst e;exact next
def thP(s:Sta)(L:a7)(p c:Nat):Bool:=match L[p-c]?,L[c]? with
 | some y,some z=>!ltP s y z
 | _,_=>false
def LU(X A:a7)(i:Nat)(h:X.length<=i):(X++A)[i]? =A[i-X.length]?:=Ak h
def aN3(s:Sta)(X U V Y:a7)(a m b mid n lo d:Nat)(L:a=X.length)(hm:m=a+U.length)(hb:b=m+V.length)(S:0<U.length)(T:0<V.length)(x:mid=(a+b) / 2)(R:n=mid+m)
  (j:lo=if mid<m then n-b else a) (i:d=if mid<m then mid else m) (M:Tot (ltP s) (U++V)) (k:Nat) (N:bis (thP s (X++(U++(V++Y))) (n-1)) (d-lo) lo d=k):
  (∀ c,lo<=c->c<d->c<=n-1/\∃ y z,(X++(U++(V++Y)))[n-1-c]? =some y/\(X++(U++(V++Y)))[c]? =some z/\thP s (X++(U++(V++Y))) (n-1) c= !ltP s y z)/\lo<=d/\a<=k/\k<=m/\m<=n-k/\n-k<=b/\k<=n/\
  (k-a=0\/V.length<=n-k-m\/ltO (ltP s) U[k-a-1]? V[n-k-m]?)/\(n-k-m=0\/U.length<=k-a\/ltO (ltP s) V[n-k-m-1]? U[k-a]?):=by
 have G:∀ c,a<=c->c<m->(X++(U++(V++Y)))[c]? =U[c-a]?:=λ c h1 e=>by rw [LU _ _ _ o_,Af o_,L]
 have D:∀ c,m<=c->c<b->(X++(U++(V++Y)))[c]? =V[c-m]?:=λ c h1 e=>by rw [LU _ _ _ o_,LU _ _ _ o_,Af o_];congr 1;omega
 have p:lo<=d/\a<=lo/\d<=m/\n-d<=b/\m<=n-d/\n-lo<=b/\d<=n-1+1/\(lo=a\/n-lo=b)/\(d=m\/n-d=m):=by
  by_cases h:mid<m
  .rw [if_pos h] at j i;omega
  .rw [if_neg h] at j i;omega
 obtain ⟨l1,l2,Z,O,P,W,Q,A,K⟩:=p;have g:∀ c,lo<=c->c<d->∃ y z,V[n-1-c-m]? =some y/\U[c-a]? =some z/\(X++(U++(V++Y)))[n-1-c]? =some y/\(X++(U++(V++Y)))[c]? =some z/\thP s (X++(U++(V++Y))) (n-1) c= !ltP s y z:=λ c h1 e=>by have r:V[n-1-c-m]? =some V[n-1-c-m]:=Aa o_;have B:U[c-a]? =some U[c-a]:=Aa o_;have w:=(D (n-1-c) o_ o_).trans r;have v:=(G c o_ o_).trans B;refine ⟨_,_,r,B,w,v,?_⟩;unfold thP;rw [w,v]
 have l:∀ y∈V,∀ z∈U,ltP s y z=false->ltP s z y=true:=λ y F z hz h=>by
  rcases (Bz.1 M).2.2 z hz y F with q | q
  .exact q
  .rw [q] at h;cases h
 obtain ⟨J,H,u,C⟩:=KJ (thP s (X++(U++(V++Y))) (n-1)) (d-lo) lo d (Bf _) l1;rw [N] at J H u C;refine ⟨λ c h1 e=>⟨by omega,?_⟩,l1,by omega,by omega,by omega,by omega,by omega,?_,?_⟩
 .obtain ⟨y,z,_,_,h3,I,f⟩:=g c h1 e;exact ⟨y,z,h3,I,f⟩
 .rcases u with h | h
  .rcases A with e | e
   .left;omega
   .right;left;omega
  .by_cases t:k=lo
   .rcases A with e | e
    .left;omega
    .right;left;omega
   .obtain ⟨y,z,h1,e,_,_,f⟩:=g (k-1) o_ o_;rw [h] at f;have o:ltP s y z=false:=by simpa using f.symm
    right;right;refine ⟨z,y,?_,?_,l y (Av h1) z (Av e) o⟩
    .rw [<-e];congr 1;omega
    .rw [<-h1];congr 1;omega
 .by_cases t:k=d
  .rcases K with e | e
   .right;left;omega
   .left;omega
  .obtain ⟨y,z,h1,e,_,_,f⟩:=g k o_ o_;rcases C with h | h
   .exact absurd h t
   .rw [h] at f;have o:ltP s y z=true:=by simpa using f.symm
    right;right;refine ⟨y,z,?_,?_,o⟩
    .rw [<-h1];congr 1;omega
    .rw [<-e]
def aNt(s:Sta)(V:a7)(u:Pn)(P:Nat->Bool)(o m b k:Nat)(p:b=m+V.length)(j:Up (ltP s) V)(l:Tot (ltP s) (u::V))(d:∀ h y,m<=h->V[h-m]? =some y->(P h=true->ltP s y u=true)/\(P h=false->ltP s u y=true))(n:bis P (b-m) m b=k):
  m<=k/\k<=b/\V.take (k-m)++u::V.drop (k-m)=srt (ltP s) (u::V):=by
 obtain ⟨c,f,g,i⟩:=KJ P (b-m) m b (Bf _) o_;rw [n] at c f g i;refine ⟨c,f,aKB (gZ s) j l ?_ ?_⟩
 .by_cases a:k=m
  .left;omega
  .have e:V[k-m-1]? =some V[k-m-1]:=Aa o_;rcases g with h | h
   .exact absurd h a
   .exact .inr ⟨_,_,e,rfl,(d (k-1) _ o_ (by rw [<-e];congr 1;omega)).1 h⟩
 .by_cases a:k=b
  .left;omega
  .have e:V[k-m]? =some V[k-m]:=Aa o_;rcases i with h | h
   .exact absurd h a
   .exact .inr ⟨_,_,rfl,e,(d k _ c e).2 h⟩
def aED(X A:a7)(u:Pn){a:Nat}(b:a=X.length):(X++u::A)[a]? =some u:=by subst b;simp
set_option maxHeartbeats 1000000 in
def aFm(s:Sta)(hs:OrdOK s)(X V Y:a7)(u:Pn)(a m b:Nat)(x:a=X.length)(hm:m=a+1)(D:b=m+V.length)(hl:b+Y.length<=999000)(d:mK (X++(u::(V++Y))))(w:Up (ltP s) V)(n:Tot (ltP s) (u::V)):
  aq 225 [.row 0 0,ii a,ii m,ii b,kO s] (bK (X++(u::(V++Y)))) (.ret (.tup [])) (bK (X++(srt (ltP s) (u::V)++Y))):=by
 have r:∀ h,m<=h->h<b->(X++(u::(V++Y)))[h]? =V[h-m]?:=λ h h1 i=>by rw [LU _ _ _ o_,show h-X.length=(h-m)+1 by omega,Fo,Af o_]
 obtain ⟨P,l⟩:∃ P:Nat->Bool,∀ h y,(X++(u::(V++Y)))[h]? =some y->P h=ltP s y u:=⟨λ h=>match (X++(u::(V++Y)))[h]? with | some y=>ltP s y u | none=>false,λ h y e=>by simp only [e]⟩
 obtain ⟨k,o⟩:∃ k,bis P (b-m) m b=k:=⟨_,rfl⟩
 have c:∀ y∈V,ltP s u y=true\/ltP s y u=true:=λ y B=>(Cr.1 n).1 y B
 obtain ⟨I,H,t⟩:=aNt s V u P 0 m b k D w n (λ h y h1 i=>by
  have j:h<b:=by have:=(Ac.1 i).1;omega
  rw [l h y ((r h h1 j).trans i)];refine ⟨id,λ h3=>?_⟩;rcases c y (Av i) with q | q
  .exact q
  .rw [q] at h3;cases h3) o
 have p:X++(srt (ltP s) (u::V)++Y)=X++(V.take (k-m)++u::(V.drop (k-m)++Y)):=by rw [<-t];simp only [Ae,Ca]
 have v:X++(u::(V++Y))=X++u::(V.take (k-m)++(V.drop (k-m)++Y)):=by rw [<-Ae (V.take _),Bp]
 have n1:=mv1 _ (V.drop (k-m)++Y) u (V.take (k-m)) X k a x q_ q_ p;rw [<-v] at n1;have n2:=aJS s hs _ d q_ a u (aED X _ u x) P l _ k n1 _ m b (Bf _) o_ q_ o;have G:((m:Int)-a==1)=true:=by rw [hm];simp;omega
 dsimp only [bK] at n2⊢;generalize pnv (X++(u::(V++Y)))=L at *
 generalize pnv (X++(srt (ltP s) (u::V)++Y))=R at *
 have F:m<=b:=o_;have z:b<=1000000:=o_;have C:a<=m:=o_;clear n1 p v t r l c d n w o;exact zqda5
set_option maxHeartbeats 1000000 in
def aFl(s:Sta)(hs:OrdOK s)(X U Y:a7)(v:Pn)(a m b:Nat)(G:a=X.length)(hm:m=a+U.length)(H:b=m+1)(C:U.length≠1)(hl:b+Y.length<=999000)(i:mK (X++(U++(v::Y))))(z:Up (ltP s) U)(c:Tot (ltP s) (U++[v])):
  aq 225 [.row 0 0,ii a,ii m,ii b,kO s] (bK (X++(U++(v::Y)))) (.ret (.tup [])) (bK (X++(srt (ltP s) (U++[v])++Y))):=by
 have r:srt (ltP s) (U++[v])=srt (ltP s) (v::U):=aAW (gZ s) c;rw [r];have c:Tot (ltP s) (v::U):=c.perm (Dv);have u:∀ h,a<=h->h<m->(X++(U++(v::Y)))[h]? =U[h-a]?:=λ h h1 l=>by rw [LU _ _ _ o_,Af o_,G]
 obtain ⟨P,o⟩:∃ P:Nat->Bool,∀ h y,(X++(U++(v::Y)))[h]? =some y->P h= !ltP s v y:=⟨λ h=>match (X++(U++(v::Y)))[h]? with | some y=>!ltP s v y | none=>false,λ h y e=>by simp only [e]⟩
 obtain ⟨k,p⟩:∃ k,bis P (m-a) a m=k:=⟨_,rfl⟩
 have d:∀ y∈U,ltP s v y=true\/ltP s y v=true:=λ y D=>(Cr.1 c).1 y D
 obtain ⟨N,K,w⟩:=aNt s U v P 0 a m k hm z c (λ h y h1 l=>by
  have n:h<m:=by have:=(Ac.1 l).1;omega
  rw [o h y ((u h h1 n).trans l)];refine ⟨λ h3=>?_,λ h3=>by simpa using h3⟩;rcases d y (Av l) with q | q
  .rw [q] at h3;cases h3
  .exact q) p
 have t:X++(srt (ltP s) (v::U)++Y)=(X++U.take (k-a))++v::(U.drop (k-a)++Y):=by rw [<-w];simp only [Ae,Ca]
 have x:X++(U++(v::Y))=(X++U.take (k-a))++(U.drop (k-a)++v::Y):=by rw [Ae,<-Ae (U.take _),Bp]
 have n1:=mv2 _ v (X++U.take (k-a)) k q_ _ (U.drop (k-a)) Y m rfl q_ q_ t;rw [<-x] at n1;have j:(X++(U++(v::Y)))[m]? =some v:=by rw [<-Ae];exact aED (X++U) Y v q_
 have n2:=aJR s hs _ i q_ m v j P o _ k n1 _ a m (Bf _) o_ q_ p;have J:((m:Int)-a==1)=false:=by rw [hm];simp;omega
 have M:((b:Int)-m==1)=true:=by rw [H];simp;omega
 dsimp only [bK] at n2⊢;generalize pnv (X++(U++(v::Y)))=L at *
 generalize pnv (X++(srt (ltP s) (v::U)++Y))=R at *
 have I:m<=b:=o_;have B:b<=1000000:=o_;have F:a<=m:=o_;clear n1 t x w u o d i c z p j;exact zqda5
set_option maxHeartbeats 2000000 in
def aJG(s:Sta)(hs:OrdOK s):∀ (N:Nat) (X U V Y:a7) (a m b:Nat),U.length+V.length<=N->a=X.length->m=a+U.length->b=m+V.length->0<U.length->0<V.length->b+Y.length<=999000->mK (X++(U++(V++Y)))->Up (ltP s) U->Up (ltP s) V->Tot (ltP s) (U++V)->
  aq 225 [.row 0 0,ii a,ii m,ii b,kO s] (bK (X++(U++(V++Y)))) (.ret (.tup [])) (bK (X++(srt (ltP s) (U++V)++Y))):=by
 intro N;induction N with
 | zero=>intro X U V Y a m b hN;omega
 | succ N W=>
  intro X U V Y a m b hN F hm J pU pV hl c C D p;by_cases y:U.length=1
  .obtain ⟨u,rfl⟩:=Ho.1 y;exact aFm s hs X V Y u a m b F hm J hl c D p
  by_cases Q:V.length=1
  .obtain ⟨v,rfl⟩:=Ho.1 Q;exact aFl s hs X U Y v a m b F hm J y hl c C p
  obtain ⟨mid,j⟩:∃ mid,mid=(a+b) / 2:=⟨_,rfl⟩
  obtain ⟨n,hn⟩:∃ n,n=mid+m:=⟨_,rfl⟩
  obtain ⟨lo,i⟩:∃ lo,lo=if mid<m then n-b else a:=⟨_,rfl⟩
  obtain ⟨o,d⟩:∃ o,o=if mid<m then mid else m:=⟨_,rfl⟩
  obtain ⟨k,S⟩:∃ k,bis (thP s (X++(U++(V++Y))) (n-1)) (o-lo) lo o=k:=⟨_,rfl⟩
  obtain ⟨hP,I,k1,k2,k3,k4,k5,z,t⟩:=aN3 s X U V Y a m b mid n lo o F hm J pU pV j hn i d p k S;have hst:(k-a)+(n-k-m)=mid-a:=o_;have r:=aGK (gZ s) C D p z t;have B:=vI C (k-a);have w:=vI D (n-k-m);have t1:Tot (ltP s) (U.take (k-a)++V.take (n-k-m)):=Fw ((Hw _ U).append (Hw _ V)) p;have t2:Tot (ltP s) (U.drop (k-a)++V.drop (n-k-m)):=Fw ((Hx _ U).append (Hx _ V)) p;have tU:U.take (k-a)++U.drop (k-a)=U:=Bp _ _;have tV:V.take (n-k-m)++V.drop (n-k-m)=V:=Bp _ _;have lU1:(U.take (k-a)).length=k-a:=by simp;omega
  have x:(U.drop (k-a)).length=m-k:=by simp;omega
  have q:(V.take (n-k-m)).length=n-k-m:=by simp;omega
  have lV2:(V.drop (n-k-m)).length=b-(n-k):=by simp;omega
  generalize U.take (k-a)=U1 at *
  generalize U.drop (k-a)=U2 at *
  generalize V.take (n-k-m)=V1 at *
  generalize V.drop (n-k-m)=V2 at *
  have H:X++(U++(V++Y))=X++(U1++(U2++(V1++(V2++Y)))):=by rw [<-tU,<-tV];simp only [Ae]
  have lS1:(srt (ltP s) (U1++V1)).length=mid-a:=by rw [(fE (ltP s) (U1++V1)).length_eq,Ah];omega
  have M:mK (X++(U1++(V1++(U2++(V2++Y))))):=c.perm (by
   rw [H];refine Du X (Du U1 ?_);rw [<-Ae U2,<-Ae V1]
   exact Dq _ Dv)
  have p2:mK ((X++srt (ltP s) (U1++V1))++(U2++(V2++Y))):=M.perm (by
   rw [Ae X];refine Du X ?_;rw [<-Ae U1]
   exact Dq _ (fE (ltP s) (U1++V1)).symm)
  have d1:Stp 266 s k m (n-k) (pnv (X++(U++(V++Y)))) (pnv (X++(U1++(V1++(U2++(V2++Y)))))):=by
   rw [H];by_cases e:k<m
   .by_cases l:m<n-k
    .refine .inl ⟨e,l,?_⟩;have:=aJ0 s (X++U1) U2 V1 (V2++Y) k m (n-k) q_ o_ o_ (by intro h;rw [h] at x;simp at x;omega) (by intro h;rw [h] at q;simp at q;omega) q_;rw [Ae X,Ae X] at this;exact this
    .refine .inr (.inl ⟨e,l,?_⟩);have:V1=[]:=Ck.1 o_;rw [this];rfl
   .refine .inr (.inr ⟨e,?_⟩);have:U2=[]:=Ck.1 o_;rw [this];rfl
  have d2:Stp 225 s a k mid (pnv (X++(U1++(V1++(U2++(V2++Y)))))) (pnv (X++(srt (ltP s) (U1++V1)++(U2++(V2++Y))))):=by
   by_cases e:a<k
   .by_cases l:k<mid
    .exact .inl ⟨e,l,W X U1 V1 (U2++(V2++Y)) a k mid o_ F o_ o_ o_ o_ q_ M (Bz.1 B).1 (Bz.1 w).1 t1⟩
    .refine .inr (.inl ⟨e,l,?_⟩);have:V1=[]:=Ck.1 o_;rw [this,Au,vN (gZ s) (Bz.1 B).1];rfl
   .refine .inr (.inr ⟨e,?_⟩);have:U1=[]:=Ck.1 o_;have K:srt (ltP s) ([]++V1)=V1:=vN (gZ s) (Bz.1 w).1;rw [this,K];rfl
  have d3:Stp 225 s mid (n-k) b (pnv (X++(srt (ltP s) (U1++V1)++(U2++(V2++Y))))) (pnv (X++(srt (ltP s) (U++V)++Y))):=by
   rw [<-r,Ae (srt (ltP s) (U1++V1))];by_cases e:mid<n-k
   .by_cases l:n-k<b
    .have:=W (X++srt (ltP s) (U1++V1)) U2 V2 Y mid (n-k) b o_ q_ o_ o_ o_ o_ hl p2 (Bz.1 B).2.1 (Bz.1 w).2.1 t2;rw [Ae X,Ae X] at this;exact .inl ⟨e,l,this⟩
    .refine .inr (.inl ⟨e,l,?_⟩);have:V2=[]:=Ck.1 o_;rw [this,Au,vN (gZ s) (Bz.1 B).2.1];rfl
   .refine .inr (.inr ⟨e,?_⟩);have:U2=[]:=Ck.1 o_;have K:srt (ltP s) ([]++V2)=V2:=vN (gZ s) (Bz.1 w).2.1;rw [this,K];rfl
  have n1:=aAN s a m b mid n k (n-k) ((n-1:Nat):Int) o_ o_ _ _ _ _ d1 d2 d3;have n2:=aJQ s hs _ c q_ a m b mid n (n-1) lo o _ hP _ k n1 _ lo o (Bf _) I (Bf _) (Bf _) S;have e1:((m:Int)-a==1)=false:=by simp;omega
  have e2:((b:Int)-m==1)=false:=by simp;omega
  have e3:((n:Int)-1)=((n-1:Nat):Int):=o_;have O:=JG a b;rw [<-j] at O;have T:=VB (show mid<=1000000 by omega);rw [<-e3] at n2;have en:(n:Int)=(mid:Int)+m:=o_;have hm9:m<=b:=o_;have hb9:b<=1000000:=o_;have ha9:a<=m:=o_;have G:mid<=1000000:=o_;dsimp only [bK,aFn] at n2⊢;generalize pnv (X++(U++(V++Y)))=L at *
  generalize pnv (X++(srt (ltP s) (U++V)++Y))=R at *
  clear n1 d1 d2 d3 M p2 H r B w t1 t2 tU tV hP S c p C D z t;by_cases Z:mid<m
  .rw [if_pos Z] at i d;have P:(lo:Int)=(mid:Int)+m-b:=o_;subst d;rw [P,en] at n2;refine cT (E:=(Er [] [61,63,64,65,113,115,116,117])) (fn:=Tryz.f225) (g:=.full 1 _ _) λ_=>?_
   repeat' first | (refine gN (hEr [] [61,63,64,65,113,115,116,117]) ?_;conv=>whnf) | refine Ab (λ h=>absurd (e1.symm.trans h) d_) (λ_=>?_) | refine Ab (λ h=>absurd (e2.symm.trans h) d_) (λ_=>?_) | (rw [O];refine Fq (Ab T ?_)) | refine Ab (λ_=>?_) (λ h=>absurd (of_decide_eq_false h) o_) | exact rfl | refine zt ?_ | refine zu ?_ ?_ | intro h | fail
   exact zW
  .rw [if_neg Z] at i d;subst i d;rw [en] at n2;refine cT (E:=(Er [] [61,63,64,65,113,115,116,117])) (fn:=Tryz.f225) (g:=.full 1 _ _) λ_=>?_
   repeat' first | (refine gN (hEr [] [61,63,64,65,113,115,116,117]) ?_;conv=>whnf) | refine Ab (λ h=>absurd (e1.symm.trans h) d_) (λ_=>?_) | refine Ab (λ h=>absurd (e2.symm.trans h) d_) (λ_=>?_) | (rw [O];refine Fq (Ab T ?_)) | refine Ab (λ h=>absurd (of_decide_eq_true h) o_) (λ_=>?_) | exact rfl | refine zt ?_ | refine zu ?_ ?_ | intro h | fail
   exact zW
def BB{n:Nat}(h:n<=1000000):AO n 88:=⟨by simp only [maxLen];omega,by omega⟩
def aJL(s:Sta)(hs:OrdOK s)(P:a7)(n:Nat)(r:n=P.length)(hl:n<40)(a:mK P)(e:Tot (ltP s) P):
  aq 176 [.row 0 0,ii n,kO s] (bK P) (.ret (.tup [])) (bK (srt (ltP s) P)):=by
 by_cases z:n<20
 .have h1:=Q4 s hs [] P [] 0 n rfl q_ q_ a;rw [Bm,Bm,Au,Au] at h1;generalize srt (ltP s) P=R at *
  dsimp only [bK] at h1⊢;generalize pnv P=L at *
  clear r a e;refine cT (E:=E) (fn:=Tryz.f176) (g:=.full 1 _ _) λ_=>?_
  repeat' first | (refine gN hE ?_;conv=>whnf) | exact rfl | refine zt ?_ | refine zu ?_ ?_ | intro h | fail
  refine gV ?_;refine Ab (λ h=>absurd (of_decide_eq_true h) o_) (λ_=>?_)
  repeat' first | (refine gN hE ?_;conv=>whnf) | refine .eff [] [0] _ _ rfl h1 ?_ | exact rfl | refine zt ?_ | refine zu ?_ ?_ | intro h | fail
  refine gV ?_;exact zW
 .obtain ⟨A,B,rfl,l⟩:∃ A B,P=A++B/\A.length=20:=⟨P.take 20,P.drop 20,(Bp 20 P).symm,by simp;omega⟩
  rw [Ah,l] at r;have b:mK A:=λ p hp=>a p (De _ hp);have c:mK B:=λ p hp=>a p (Cv _ hp);obtain ⟨m,tB,_⟩:=Bz.1 e;have i:=fE (ltP s) A;have k:=fE (ltP s) B;have q:(srt (ltP s) A).length=20:=by rw [i.length_eq,l]
  have v:(srt (ltP s) B).length=B.length:=k.length_eq;have h1:=Q4 s hs [] A B 0 20 rfl q_ o_ b;rw [Bm,Bm] at h1;have d:=Q4 s hs (srt (ltP s) A) B [] 20 n q.symm o_ q_ c;rw [Au,Au] at d;by_cases C:n=20
  .have y:B=[]:=Ck.1 o_;subst y;rw [Au] at h1 d⊢;have x:srt (ltP s) ([]:a7)=[]:=rfl;rw [x,Au] at d;rw [Au] at h1;generalize srt (ltP s) A=R at *
   dsimp only [bK] at h1 d⊢;generalize pnv A=L at *
   clear l a e b c m tB i k q v;refine cT (E:=E) (fn:=Tryz.f176) (g:=.full 1 _ _) λ_=>?_
   repeat' first | (refine gN hE ?_;conv=>whnf) | exact rfl | refine zt ?_ | refine zu ?_ ?_ | intro h | fail
   refine gV ?_;refine Ab (λ_=>?_) (λ h=>absurd (of_decide_eq_false h) o_)
   repeat' first | (refine gN hE ?_;conv=>whnf) | refine .eff [] [0] _ _ rfl h1 ?_ | exact rfl | refine zt ?_ | refine zu ?_ ?_ | intro h | fail
   refine gV ?_;refine Ab (λ h=>absurd (of_decide_eq_true h) o_) (λ_=>?_)
   repeat' first | (refine gN hE ?_;conv=>whnf) | refine .eff [] [0] _ _ rfl d ?_ | exact rfl | refine zt ?_ | refine zu ?_ ?_ | intro h | fail
   refine gV ?_;exact zW
  .have t:=qW (gZ s) m;have w:=qW (gZ s) tB;have j:(srt (ltP s) A++srt (ltP s) B).Perm (A++B):=i.append k;have o:Tot (ltP s) (srt (ltP s) A++srt (ltP s) B):=e.perm j.symm;have h3:=aJG s hs _ [] (srt (ltP s) A) (srt (ltP s) B) [] 0 20 n (Bf _) rfl q_ o_ o_ o_ q_ (by rw [Bm,Au];exact a.perm j.symm) t w o;rw [Bm,Bm,Au,Au] at h3;have u:srt (ltP s) (srt (ltP s) A++srt (ltP s) B)=srt (ltP s) (A++B):=PW (gZ s) (((fE _ _).trans j).trans (fE _ _).symm) (qW (gZ s) o) (qW (gZ s) e);rw [u] at h3;generalize srt (ltP s) (A++B)=R at *
   dsimp only [bK] at h1 d h3⊢;generalize pnv (A++B)=L at *
   generalize pnv (srt (ltP s) A++B)=L2 at *
   generalize pnv (srt (ltP s) A++srt (ltP s) B)=L3 at *
   clear l a e b c m tB i k q v t w j o u;refine cT (E:=E) (fn:=Tryz.f176) (g:=.full 1 _ _) λ_=>?_
   repeat' first | (refine gN hE ?_;conv=>whnf) | exact rfl | refine zt ?_ | refine zu ?_ ?_ | intro h | fail
   refine gV ?_;refine Ab (λ_=>?_) (λ h=>absurd (of_decide_eq_false h) o_)
   repeat' first | (refine gN hE ?_;conv=>whnf) | refine .eff [] [0] _ _ rfl h1 ?_ | exact rfl | refine zt ?_ | refine zu ?_ ?_ | intro h | fail
   refine gV ?_;refine Ab (λ h=>absurd (of_decide_eq_true h) o_) (λ_=>?_)
   repeat' first | (refine gN hE ?_;conv=>whnf) | refine .eff [] [0] _ _ rfl d ?_ | exact rfl | refine zt ?_ | refine zu ?_ ?_ | intro h | fail
   refine gV ?_;refine Ab (λ_=>?_) (λ h=>absurd (of_decide_eq_false h) o_)
   repeat' first | (refine gN hE ?_;conv=>whnf) | exact rfl | refine zt ?_ | refine zu ?_ ?_ | intro h | fail
   refine gV ?_;refine Ab (λ h=>absurd (of_decide_eq_true h) o_) (λ_=>?_)
   repeat' first | (refine gN hE ?_;conv=>whnf) | refine Ab (λ_=>?_) (λ h=>absurd (of_decide_eq_false h) o_) | refine .eff [] [0] _ _ rfl h3 ?_ | exact rfl | refine zt ?_ | refine zu ?_ ?_ | intro h | fail
   refine gV ?_;exact zW
def aJM(s:Sta)(hs:OrdOK s)(P:a7)(hl:P.length<40)(a:mK P)(c:Tot (ltP s) P):
  aq 133 [.row 0 0,kO s] (bK P) (.ret (.tup [])) (bK (srt (ltP s) P)):=by
 have h1:=aJL s hs P (pnv P).length s_ (by simpa using hl) a c;generalize srt (ltP s) P=R at *
 have b:(pnv P).length<=1000000:=by simp;omega
 dsimp only [bK] at h1⊢;generalize pnv P=L at *
 clear a c;refine cT (E:=E) (fn:=Tryz.f133) (g:=.full 1 _ _) λ_=>?_;exact zW
def ZU(xs:a7)(c:xs.length<=1000000):aq 19 [.slice 11 (pnv xs) .no] [] (.ret (.row 0 0)) (bK xs):=by
 refine cT (E:=(Er [2,5] [])) (fn:=Tryz.f19) (g:=.full 0 _ _) λ_=>gV ?_;intro b a;refine gV ?_;refine ⟨λ h=>?_,λ h=>?_⟩
 .refine gV ?_;refine ⟨[],[1],⟨rfl,rfl⟩,?_⟩;conv=>whnf
  rw [a (by simpa using h)];exact ⟨rfl,rfl⟩
 .refine gV ?_;refine ⟨BB (by simpa using c),gV ?_⟩;refine ⟨[],[1],⟨rfl,rfl⟩,?_⟩;exact ⟨rfl,rfl⟩
def aBZ(s:Sta)(hs:OrdOK s)(hl:s.pend.length<40)(a:mK s.pend)(c:Tot (ltP s) s.pend):
  aq 90 [s.av] [] (.ret (.slice 11 (pnv (CO s)) .no)) []:=by
 have h1:=ZU s.pend o_;have b:=aJM s hs s.pend hl a c;have e:srt (ltP s) s.pend=CO s:=rfl;rw [e] at b;generalize CO s=R at *
 refine c_ Tryz.f90 λ_=>gV ?_;refine .eff [] [] _ _ rfl h1 (gV ?_);refine .eff [2,0] [1] _ _ rfl b ?_;refine gW hE ?_;conv=>whnf
end Go.Proofs.YtbpccabomgalhaaGreatDoor
