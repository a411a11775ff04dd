/- Part 9 of what the statement rests on. -/
import Derived.Test.YtidhfoefaomodaaGreatDoorCA
set_option linter.all false
set_option maxHeartbeats 1000000
open And renaming intro->Ac
open Bool renaming and_false->Db,false_and->Fj,false_eq_true->Cp,true_and->Cy
open Exists renaming intro->Ao
open Int renaming fdiv->Kk,fdiv_eq_ediv_of_nonneg->Ea,natCast_mul->Eg,tdiv->Ly,toNat->Dq,toNat_natCast->Bt
open List renaming append_assoc->Af,append_nil->Av,cons_append->Cc,dropLast_concat_getLast->Ku,drop_eq_getElem_cons->Ae,drop_eq_nil_of_le->Ah,drop_sublist->Ih,eraseIdx_eq_take_drop_succ->Ga,foldl_cons->Ba,getElem?_append_left->Ag,getElem?_append_right->Ak,getElem?_cons_succ->Fv,getElem?_eq_getElem->Aa,getElem?_eq_some_iff->Ab,getElem?_map->Bf,getElem?_set_ne->Ay,getElem?_set_self->Ar,getElem_mem->Bh,getElem_of_mem->Iv,length_append->Ai,length_cons->Al,length_drop->Ei,length_eq_one_iff->Mh,length_eq_zero_iff->Cl,length_map->Ch,length_pos_iff->Dy,length_set->Dr,map_append->Bm,map_cons->Bl,map_drop->Ix,map_set->Gr,map_take->Gh,mem_append->Az,mem_append_left->Dd,mem_append_right->Cu,mem_cons->Bb,mem_cons_of_mem->Bd,mem_cons_self->Ap,mem_of_getElem?->Au,mem_range->Hn,mem_singleton->Dj,mem_singleton_self->Jf,nil_append->Bn,pairwise_append->Cb,pairwise_cons->Cv,pairwise_singleton->Je,perm_append_comm->Dw,perm_middle->Ej,prefix_refl->Cn,range->Di,set_append_right->Gy,take_append_drop->Bq,take_length->Ge,take_sublist->Ig,take_succ_eq_append_getElem->Hc
open List.Pairwise renaming imp->Jk,nil->Ln,sublist->Gc
open List.Perm renaming append_left->Dv,append_right->Dt,refl->Jl
open Nat renaming add_assoc->Kf,add_comm->Md,add_mul->Bx,add_sub_cancel->Hw,and_two_pow_sub_one_eq_mod->Jv,blt->Ff,blt_eq->Jw,div_add_mod->Fy,div_le_self->Hb,div_lt_iff_lt_mul->Dl,div_mul_le_self->Hh,eq_zero_or_pos->Fp,le_div_iff_mul_le->Ic,le_refl->Bc,le_trans->Cz,lt_or_ge->Nh,lt_trans->Ni,min_eq_left->Gp,mod_le->Mf,mod_lt->Fg,mul_add->Gs,mul_add_div->Kt,mul_assoc->Iz,mul_comm->De,mul_div_mul_right->Mt,mul_le_mul->Gj,mul_le_mul_right->Bu,one_mul->Gt,pow_add->Fu,pow_le_pow_right->Ew,pow_pos->Mz,strongRecOn->Hy,testBit_two_pow->La,two_pow_add_eq_or_of_lt->Ii,zero_add->Bo,zero_mul->Mc
open Or renaming inl->Gd,inr->Ks
open UInt8 renaming ofNat->Dm
namespace Go.Proofs.YtidhfoefaomodaaGreatDoor
open Go Go.AW Go.Proofs
def zqda0 {P:Prop} (h:P:=by
 refine gV ?_;refine aT λ h=>?_;refine gV ?_;refine Ac (Ac d_ d_) ?_;refine gV ?_;rw [g];refine aJ ?_;refine gV ?_;refine Ac o_ ?_;refine gV ?_;rw [d];refine Gd (Ac (Ac (show Dq (k:Int)<=64 by omega) (Ac (by simp only [cJ];omega) (by simp only [bE];omega))) ?_);refine gV ?_;rw [a]
 exact zW):P:=h
def zqda1 {P:Prop} (h:P:=by
 dsimp only [bK] at ao⊢
 generalize pnv L=K at *
 refine gV ?_
 exact zW):P:=h
def zqda2 {P:Prop} (h:P:=by
 subst c;refine c_ Tryz.f230 λ_=>?_;have hz1:=λ d=>IS d
 exact zW):P:=h
def zqda3 {P:Prop} (h:P:=by exact c_ Tryz.f109 λ_=>zW):P:=h
def zqda4 {P:Prop} (h:P:=by
 rw [Ah o_] at b;have b:a++[]=R:=b;rw [Av] at b;subst b;refine gV ?_
 exact zW):P:=h
def zqda5 {P:Prop} (h:P:=by
 refine cT (E:=(Er [] [61,63,64,65,113,115,116,117])) (fn:=Tryz.f233) (g:=.full 1 _ _) λ_=>?_
 exact zW):P:=h
def zqda6 {P:Prop} (h:P:=by
 generalize iA p.length q.length=t at *
 generalize iA a.seq b.seq=u at *
 refine gV ?_
 exact zW):P:=h
def zqda7 {P:Prop} (h:P:=by
 refine cO hE 2 ?_;conv=>whnf
 exact To.cutC [2,8,9,10,11,13,14,15,16,17,18] 0 rfl rfl rfl rfl fin):P:=h
def zqda8 {P:Prop} (h:P:=by
 refine cO hE 3 ?_;conv=>whnf
 exact To.cutC [2,8,9,10,11,13,14,15,16,17,18] 0 rfl rfl rfl rfl step):P:=h
def zqda9 {P:Prop} (h:P:=by
 refine cO hE 2 ?_;conv=>whnf
 exact To.cutC [2,8,9,10,11,13,14,15,16] 0 rfl rfl rfl rfl fin):P:=h
def zqda10 {P:Prop} (h:P:=by
 refine cO hE 3 ?_;conv=>whnf
 exact To.cutC [2,8,9,10,11,13,14,15,16] 0 rfl rfl rfl rfl step):P:=h
def zqda11 {P:Prop} (h:P:=by exact c_ Tryz.f231 λ_=>zW):P:=h
def zqda12 {P:Prop} (h:P:=by
 subst a
 exact c_ Tryz.f283 λ_=>zW):P:=h
def AM {a b A B:Nat} (c:a<=A) (d:b<=B):a*b<=A*B:=Gj c d
def XK (x y:Nat) (h:x<18446744073709551616) (i:y<18446744073709551616):
  ∃ a b c d:Nat,a=x % 4294967296*(y % 4294967296)/\b=x / 4294967296*(y % 4294967296)/\c=x % 4294967296*(y / 4294967296)/\d=x / 4294967296*(y / 4294967296)/\
   a<=18446744065119617025/\b<=18446744065119617025/\c<=18446744065119617025/\d<=18446744065119617025/\x*y=d*18446744073709551616+(b+c)*4294967296+a:=by
 refine ⟨_,_,_,_,rfl,rfl,rfl,rfl,AM (A:=4294967295) (B:=4294967295) o_ o_,AM (A:=4294967295) (B:=4294967295) o_ o_,AM (A:=4294967295) (B:=4294967295) o_ o_,AM (A:=4294967295) (B:=4294967295) o_ o_,?_⟩;have g:x=x / 4294967296*4294967296+x % 4294967296:=o_;have e:y=y / 4294967296*4294967296+y % 4294967296:=o_;generalize x / 4294967296=p at *
 generalize x % 4294967296=q at *
 generalize y / 4294967296=r at *
 generalize y % 4294967296=s at *
 subst g e;simp only [Bx,Gs];have h1:p*4294967296*(r*4294967296)=p*r*18446744073709551616:=by rw [Nat.mul_mul_mul_comm]
 have f:p*4294967296*s=p*s*4294967296:=Nat.mul_right_comm ..;have h3:q*(r*4294967296)=q*r*4294967296:=(Iz ..).symm;rw [h1,f,h3];omega
def MN (x y:Nat):Nat:=x*y / 18446744073709551616
def CK (x y:Nat):Nat:=x*y % 18446744073709551616
def aFQ {x y a b c d:Nat} (h:x*y=d*18446744073709551616+(b+c)*4294967296+a) (e:a<=18446744065119617025) (g:b<=18446744065119617025) (f:c<=18446744065119617025):
  d+(b+a / 4294967296) / 4294967296+((b+a / 4294967296) % 4294967296+c) / 4294967296=MN x y:=by
 unfold MN;rw [h];omega
abbrev uu (n:Nat):aa:=.int .u64 (n:Int)
def EL (n:Nat):Nat:=if n<18446744073709551616 then n else 18446744073709551615
def EB (a b:Nat):Nat:=EL (a+b)
def tI (a b:Nat):Nat:=EL (a*b / 4294967296)
def ofF (n:Int):Nat:=if n<=0 then 0 else if n<4294967296 then n.toNat*4294967296 else 18446744073709551615
def AA (a b:Nat):Nat:=if a=0 then 0 else if b=0 then 18446744073709551615 else EL (a*4294967296 / b)
def IE (a b:Int):Nat:=AA (max a 0).toNat (max b 0).toNat
def H6 (n:Nat):EL n<18446744073709551616:=by unfold EL;split<;>omega
def V4 (a b:Nat):EB a b<18446744073709551616:=H6 _
def IT (a b:Nat):tI a b<18446744073709551616:=H6 _
def aHh (a b:Nat):AA a b<18446744073709551616:=by
 unfold AA
 repeat' split
 .omega
 .omega
 .exact H6 _
def P4 (n:Int):ofF n<18446744073709551616:=by
 unfold ofF
 repeat' split
 all_goals omega
def aKv {a b:Nat} (d:0<b) (h:b<=a / 4294967296):EL (a*4294967296 / b)=18446744073709551615:=by have h1:b*4294967296<=a:=o_;have c:18446744073709551616*b<=a*4294967296:=o_;have h3:18446744073709551616<=a*4294967296 / b:=(Ic d).2 c;exact if_neg (Nat.not_lt.2 h3)
def aKu {a b:Nat} (d:a / 4294967296<b):a*4294967296 / b<18446744073709551616/\EL (a*4294967296 / b)=a*4294967296 / b:=by have c:a*4294967296<18446744073709551616*b:=o_;have h3:a*4294967296 / b<18446744073709551616:=(Dl o_).2 c;exact ⟨h3,if_pos h3⟩
set_option maxRecDepth 10000
structure Dg (y1 y0 u v q r:Nat):Prop where
 rest:u=q*y1+r
 top:u*4294967296+v<(q+1)*(y1*4294967296+y0)
 few:q<=4294967297
def qY (q b a:Nat):q*(b*4294967296+a)=q*b*4294967296+q*a:=by rw [Gs,Iz]
def Dg.zero {c d u v:Nat} (h1:2147483648<=c) (h:d<4294967296) (f:v<4294967296) (j:u<c*4294967296+d):Dg c d u v (u / c) (u % c):=by
 have e:u=u / c*c+u % c:=by rw [De];exact (Fy u c).symm
 have g:u % c<c:=Fg _ o_;refine ⟨e,?_,?_⟩
 .rw [qY,Bx,Gt,Bx,Bx _ _ d,Gt];generalize u / c*c=a at *
  generalize u / c*d=b;omega
 .have i:u / c<4294967298:=by refine (Dl o_).2 ?_;omega
  omega
def Dg.step {c d u v q r:Nat} (h:Dg c d u v q r) (n:v<4294967296) (o:u<c*4294967296+d) (f:4294967296<=q\/4294967296*r+v<q*d):1<=q/\Dg c d u v (q-1) (r+c):=by
 obtain ⟨e,l,m⟩:=h;have k:1<=q:=by
  rcases f with h | h
  .omega
  .rcases Fp q with rfl | g
   .rw [Mc] at h;omega
   .exact g
 refine ⟨k,?_⟩;have i:q=q-1+1:=o_;have j:u*4294967296+v<q*(c*4294967296+d):=by
  rcases f with h | h
  .have g:4294967296*(c*4294967296+d)<=q*(c*4294967296+d):=Bu _ h;omega
  .rw [qY];generalize q*c=a at *
   generalize q*d=b at *
   omega
 refine ⟨?_,by rw [<-i];exact j,by omega⟩;have p:q*c=(q-1)*c+c:=by rw [i,Hw,Bx,Gt]
 omega
def Dg.fin {d c u v q r:Nat} (h:Dg d c u v q r) (i:q*c<=4294967296*r+v):q*(d*4294967296+c)<=u*4294967296+v/\q=(u*4294967296+v) / (d*4294967296+c):=by
 obtain ⟨e,f,g⟩:=h;have hl:q*(d*4294967296+c)<=u*4294967296+v:=by
  rw [qY];generalize q*d=a at *
  generalize q*c=b at *
  omega
 refine ⟨hl,?_⟩;have hp:0<d*4294967296+c:=by
  rcases Fp (d*4294967296+c) with h | h
  .rw [h,Nat.mul_zero] at f;omega
  .exact h
 refine Nat.le_antisymm ((Ic hp).2 hl) ?_;have:=(Dl hp).2 f;omega
def Dg.far {a v q r:Nat} (d:a<4294967296) (b:q<=4294967296) (c:4294967296<=r):q*a<=4294967296*r+v:=by have h1:q*a<=4294967296*4294967295:=Gj b o_;omega
def aHi {Y u v w a t b:Nat} (g:0<Y) (h1:a=(u*4294967296+v) / Y) (h:t=u*4294967296+v-a*Y) (f:b=(t*4294967296+w) / Y) (i:w<4294967296):a*4294967296+b=(u*18446744073709551616+v*4294967296+w) / Y:=by
 have e:u*4294967296+v=a*Y+t:=by
  have:a*Y<=u*4294967296+v:=by rw [h1];exact Hh ..
  omega
 have d:u*18446744073709551616+v*4294967296+w=Y*(a*4294967296)+(t*4294967296+w):=by
  have:Y*(a*4294967296)=a*Y*4294967296:=by rw [<-Iz,De Y a]
  rw [this];have h3:u*18446744073709551616=u*4294967296*4294967296:=by rw [Iz]
  have c:(u*4294967296+v)*4294967296=(a*Y+t)*4294967296:=by rw [e]
  rw [Bx,Bx] at c;rw [h3,c,Kf]
 rw [d,Kt g,<-f]
def N2 {Y N q t:Nat} (a:0<Y) (h1:q=N / Y) (b:t=N-q*Y):t<Y:=by have e:=Fy N Y;have l:=Fg N a;subst h1;rw [De] at e;omega
structure Ord {α:Type} (lt:α->α->Bool):Prop where
 tr:∀ a b c,lt a b=true->lt b c=true->lt a c=true
 irr:∀ a,lt a a=false
def Up {α:Type} (lt:α->α->Bool) (l:List α):Prop:=l.Pairwise λ a b=>lt a b=true
def Tot {α:Type} (lt:α->α->Bool) (l:List α):Prop:=l.Pairwise λ a b=>lt a b=true\/lt b a=true
def Tot.perm {α:Type} {lt:α->α->Bool} {l m:List α} (h:l.Perm m) (a:Tot lt l):Tot lt m:=h.pairwise a λ h=>h.symm
def Ord.asym {α:Type} {lt:α->α->Bool} (o:Ord lt) {a b:α} (h:lt a b=true):lt b a=false:=by
 cases c:lt b a with
 | false=>rfl
 | true=>have:=o.tr _ _ _ h c;rw [o.irr] at this;cases this
def O3 {α:Type} {lt:α->α->Bool} (o:Ord lt):∀ {l m:List α},l.Perm m->Up lt l->Up lt m->l=m
 | [],m,h,_,_=>(List.nil_perm.1 h).symm
 | x::l,[],h,_,_=>absurd h.length_eq s_
 | x::l,y::m,h,h1,h2=>by
  have e:x=y:=by
   have a:x∈y::m:=h.mem_iff.1 (Ap ..);have b:y∈x::l:=h.mem_iff.2 (Ap ..);rcases Bb.1 a with e | a
   .exact e
   rcases Bb.1 b with e | b
   .exact e.symm
   have d:=(Cv.1 h1).1 y b;have c:=(Cv.1 h2).1 x a;rw [o.asym d] at c;cases c
  subst e;rw [O3 o ((List.perm_cons x).1 h) (Cv.1 h1).2 (Cv.1 h2).2]
def ZU {α:Type} {lt:α->α->Bool} {A B:List α} {x:α} (g:Up lt (A++B)) (d:∀ a∈A,lt a x=true) (f:∀ b∈B,lt x b=true):Up lt (A++x::B):=by
 obtain ⟨h1,e,h3⟩:=Cb.1 g;refine Cb.2 ⟨h1,Cv.2 ⟨f,e⟩,λ a h b c=>?_⟩;rcases Bb.1 c with rfl | c
 .exact d a h
 .exact h3 a h b c
def uM {α:Type} {lt:α->α->Bool} (o:Ord lt) {A B:List α} (i:Up lt A) (j:Up lt B) (h:A=[]\/B=[]\/∃ g x y f,A=g++[x]/\B=y::f/\lt x y=true):∀ a∈A,∀ b∈B,lt a b=true:=by
 intro a h1 b c;rcases h with rfl | rfl | ⟨g,x,y,f,rfl,rfl,h⟩
 .cases h1
 .cases c
 have d:a=x\/lt a x=true:=by
  rcases Az.1 h1 with h1 | h1
  .exact .inr ((Cb.1 i).2.2 a h1 x (Ap ..))
  .exact .inl (by simpa using h1)
 have e:b=y\/lt y b=true:=by
  rcases Bb.1 c with c | c
  .exact .inl c
  .exact .inr ((Cv.1 j).1 b c)
 rcases d with rfl | d<;>rcases e with rfl | e
 .exact h
 .exact o.tr _ _ _ h e
 .exact o.tr _ _ _ d h
 .exact o.tr _ _ _ d (o.tr _ _ _ h e)
def aIx {α:Type} {lt:α->α->Bool} (o:Ord lt) {f g h e i j:List α} (D:Up lt (f++g)) (s:Up lt (h++e))
  (h1:f=[]\/e=[]\/∃ l x y k,f=l++[x]/\e=y::k/\lt x y=true) (r:h=[]\/g=[]\/∃ l x y k,h=l++[x]/\g=y::k/\lt x y=true)
  (n:i.Perm (f++h)) (m:j.Perm (g++e)) (B:Up lt i) (t:Up lt j):Up lt (i++j)/\(i++j).Perm (f++g++(h++e)):=by
 obtain ⟨C,w,q⟩:=Cb.1 D;obtain ⟨p,v,z⟩:=Cb.1 s;have u:=uM o C v h1;have A:=uM o p w r;refine ⟨Cb.2 ⟨B,t,λ a d b c=>?_⟩,?_⟩
 .rcases Az.1 (n.mem_iff.1 d) with d | d<;>rcases Az.1 (m.mem_iff.1 c) with c | c
  .exact q a d b c
  .exact u a d b c
  .exact A a d b c
  .exact z a d b c
 .refine (n.append m).trans ?_;rw [Af,Af];refine Dv f ?_;rw [<-Af,<-Af];exact Dt e Dw
def nU {α:Type} (lt:α->α->Bool) (x:α) (l:List α):Nat->Nat
 | 0=>0
 | k+1=>match l[k]? with
  | some y=>if lt x y then nU lt x l k else k+1
  | none=>k+1
def mW {α:Type} (lt:α->α->Bool) (l:List α) (x:α):List α:=l.take (nU lt x l l.length)++x::l.drop (nU lt x l l.length)
def srt {α:Type} (lt:α->α->Bool) (l:List α):List α:=l.foldl (mW lt) []
def UJ {α:Type} {lt:α->α->Bool} {x:α} {l:List α}:∀ k,nU lt x l k<=k
 | 0=>Bc _
 | k+1=>by
  unfold nU;split
  .split
   .exact Nat.le_succ_of_le (UJ k)
   .exact Bc _
  .exact Bc _
def UK {α:Type} {lt:α->α->Bool} {x:α} {l:List α}:∀ (k i:Nat) (h:i<l.length),nU lt x l k<=i->i<k->lt x l[i]=true
 | 0,i,h,_,h2=>by omega
 | k+1,i,h,h1,h2=>by
  unfold nU at h1;split at h1
  .rename_i y a;split at h1
   .rename_i hl;by_cases e:i=k
    .subst e;rw [Aa h] at a;cases a;exact hl
    .exact UK k i h h1 o_
   .omega
  .omega
def UI {α:Type} {lt:α->α->Bool} {x:α} {l:List α}:∀ (k:Nat) (_:k<=l.length),nU lt x l k=0\/∃ (i:Nat) (h:i<l.length),nU lt x l k=i+1/\lt x l[i]=false
 | 0,_=>.inl rfl
 | k+1,h=>by
  have a:k<l.length:=h;have e:nU lt x l (k+1)=if lt x l[k]=true then nU lt x l k else k+1:=by show (match l[k]? with | some y=>if lt x y=true then nU lt x l k else k+1 | none=>k+1)=_;rw [Aa a]
  rw [e];cases hl:lt x l[k] with
  | true=>rw [if_pos rfl];exact UI k o_
  | false=>exact .inr ⟨k,a,if_neg d_,hl⟩
def xL {α:Type} (lt:α->α->Bool) (l:List α) (x:α):(mW lt l x).Perm (x::l):=by unfold mW;refine Ej.trans ?_;rw [Bq]
def aGh {α:Type} {lt:α->α->Bool} (o:Ord lt) {l:List α} {x:α} (k:Up lt l) (r:∀ y∈l,lt x y=true\/lt y x=true):Up lt (mW lt l x):=by
 unfold mW;have s:=UJ (lt:=lt) (x:=x) (l:=l) l.length;have f:Up lt (l.take (nU lt x l l.length)++l.drop (nU lt x l l.length)):=by rw [Bq];exact k
 refine ZU f (λ a c=>?_) (λ b p=>?_)
 .rcases UI (lt:=lt) (x:=x) (l:=l) l.length (Bc _) with h | ⟨i,g,h,t⟩
  .rw [h] at c;cases c
  .rw [h] at c;have m:lt l[i] x=true:=by
    rcases r l[i] (Bh g) with q | q
    .rw [t] at q;cases q
    .exact q
   rw [Hc g] at c;rcases Az.1 c with c | c
   .refine o.tr _ _ _ ?_ m;have d:Up lt (l.take i++l.drop i):=by rw [Bq];exact k
    rw [Ae g] at d;exact (Cb.1 d).2.2 a c _ (Ap ..)
   .rw [Dj.1 c];exact m
 .obtain ⟨j,n,e⟩:=Iv p;rw [List.getElem_drop] at e;rw [<-e];rw [Ei] at n;exact UK l.length _ o_ o_ o_
def aAl {α:Type} {lt:α->α->Bool} (o:Ord lt):∀ (l a:List α),Up lt a->Tot lt (a++l)->Up lt (l.foldl (mW lt) a)/\(l.foldl (mW lt) a).Perm (a++l)
 | [],a,hu,_=>⟨hu,by simp⟩
 | x::l,a,hu,ht=>by have hp:=xL lt a x;have b:(a++x::l).Perm (mW lt a x++l):=Ej.trans (hp.symm.append_right l);obtain ⟨c,d⟩:=aAl o l (mW lt a x) (aGh o hu λ y e=>((Cb.1 ht).2.2 y e x (Ap ..)).symm) (ht.perm b);exact ⟨c,d.trans b.symm⟩
def qG {α:Type} {lt:α->α->Bool} (o:Ord lt) {l:List α} (h:Tot lt l):Up lt (srt lt l):=(aAl o l [] Ln h).1
def FE {α:Type} {lt:α->α->Bool}:∀ (l a:List α),(l.foldl (mW lt) a).Perm (a++l)
 | [],a=>by simp
 | x::l,a=>(FE l (mW lt a x)).trans (((xL lt a x).append_right l).trans Ej.symm)
def fA {α:Type} (lt:α->α->Bool) (l:List α):(srt lt l).Perm l:=FE l []
def H0 {α:Type} {lt:α->α->Bool} (o:Ord lt) {l W:List α} (h:Tot lt l) (a:Up lt W) (hp:W.Perm l):W=srt lt l:=O3 o (hp.trans (fA lt l).symm) a (qG o h)
def aIQ {α:Type} {lt:α->α->Bool} (o:Ord lt) {l:List α} (a:Up lt l):l=srt lt l:=H0 o (Jk (λ h=>.inl h) a) a (Jl l)
def bis (P:Nat->Bool):Nat->Nat->Nat->Nat
 | 0,lo,_=>lo
 | f+1,lo,hi=>if lo<hi then (if P ((lo+hi) / 2)=true then bis P f ((lo+hi) / 2+1) hi else bis P f lo ((lo+hi) / 2)) else lo
def JV (P:Nat->Bool):∀ (f lo e:Nat),e-lo<=f->lo<=e->lo<=bis P f lo e/\bis P f lo e<=e/\(bis P f lo e=lo\/P (bis P f lo e-1)=true)/\(bis P f lo e=e\/P (bis P f lo e)=false)
 | 0,lo,e,h,h2=>⟨Bc _,h2,.inl rfl,.inl (show lo=e by omega)⟩
 | f+1,lo,e,h,h2=>by
  unfold bis;by_cases h3:lo<e
  .rw [if_pos h3];cases hp:P ((lo+e) / 2) with
   | true=>
    rw [if_pos rfl];obtain ⟨a,b,c,d⟩:=JV P f ((lo+e) / 2+1) e o_ o_;refine ⟨by omega,b,?_,d⟩;rcases c with c | c
    .right;rw [c,Hw];exact hp
    .exact .inr c
   | false=>
    rw [if_neg d_];obtain ⟨a,b,c,d⟩:=JV P f lo ((lo+e) / 2) o_ o_;refine ⟨a,by omega,c,?_⟩;rcases d with d | d
    .right;rw [d];exact hp
    .exact .inr d
  .rw [if_neg h3];exact ⟨Bc _,h2,.inl rfl,.inl o_⟩
def ltO {α:Type} (lt:α->α->Bool) (x y:Option α):Prop:=∃ a b,x=some a/\y=some b/\lt a b=true
def uL {α:Type} {lt:α->α->Bool} {l:List α} (h:Up lt l) (s:Nat):Up lt (l.take s++l.drop s):=by rw [Bq];exact h
def FY {α:Type} {l:List α} {s:Nat} (hs:s≠0) {a:α} (h:l[s-1]? =some a):l.take s=l.take (s-1)++[a]:=by obtain ⟨hl,e⟩:=Ab.1 h;have b:s=s-1+1:=o_;rw [b,Hc hl,e,Hw]
def GB {α:Type} {l:List α} {t:Nat} {b:α} (h:l[t]? =some b):l.drop t=b::l.drop (t+1):=by obtain ⟨hl,e⟩:=Ab.1 h;rw [Ae hl,e]
def aDn {α:Type} {lt:α->α->Bool} {U V:List α} {s t:Nat} (h:s=0\/V.length<=t\/ltO lt U[s-1]? V[t]?):
  U.take s=[]\/V.drop t=[]\/∃ d x y a,U.take s=d++[x]/\V.drop t=y::a/\lt x y=true:=by
 by_cases hs:s=0
 .exact .inl (by rw [hs];rfl)
 rcases h with h | h | ⟨x,y,b,c,hl⟩
 .exact absurd h hs
 .exact .inr (.inl (Ah h))
 .exact .inr (.inr ⟨_,x,y,_,FY hs b,GB c,hl⟩)
def aFS {α:Type} {lt:α->α->Bool} (o:Ord lt) {U V:List α} {s t:Nat} (f:Up lt U) (h:Up lt V) (c:Tot lt (U++V))
  (h1:s=0\/V.length<=t\/ltO lt U[s-1]? V[t]?) (g:t=0\/U.length<=s\/ltO lt V[t-1]? U[s]?):
  srt lt (U.take s++V.take t)++srt lt (U.drop s++V.drop t)=srt lt (U++V):=by
 have d:Tot lt (U.take s++V.take t):=by refine Gc ?_ c;exact (Ig s U).append (Ig t V)
 have e:Tot lt (U.drop s++V.drop t):=by refine Gc ?_ c;exact (Ih s U).append (Ih t V)
 obtain ⟨a,b⟩:=aIx o (uL f s) (uL h t) (aDn h1) (aDn g) (fA lt _) (fA lt _) (qG o d) (qG o e);rw [Bq,Bq] at b;exact H0 o c a b
def aJC {α:Type} {lt:α->α->Bool} (o:Ord lt) {V:List α} {u:α} {t:Nat} (f:Up lt V) (i:Tot lt (u::V)) (h1:t=0\/ltO lt V[t-1]? (some u)) (g:V.length<=t\/ltO lt (some u) V[t]?):
  V.take t++u::V.drop t=srt lt (u::V):=by
 have j:=uM (A:=V.take t) (B:=[u]) o (Gc (Ig t V) f) (Je ..) (by
  rcases h1 with h | ⟨a,b,d,c,hl⟩
  .exact .inl (by rw [h];rfl)
  .by_cases e:t=0
   .exact .inl (by rw [e];rfl)
   .cases c
    exact .inr (.inr ⟨_,a,u,[],FY e d,rfl,hl⟩))
 have k:=uM (A:=[u]) (B:=V.drop t) o (Je ..) (Gc (Ih t V) f) (by
  rcases g with h | ⟨a,b,d,c,hl⟩
  .exact .inr (.inl (Ah h))
  .cases d
   exact .inr (.inr ⟨[],u,b,_,rfl,GB c,hl⟩))
 refine H0 o i (ZU (uL f t) (λ a d=>j a d u (Jf u)) (λ b c=>k u (Jf u) b c)) ?_;refine Ej.trans ?_;rw [Bq]
def uP {α:Type} {lt:α->α->Bool} (o:Ord lt) {l:List α} (a:Up lt l):srt lt l=l:=(aIQ o a).symm
def aAk {α:Type} {lt:α->α->Bool} (o:Ord lt) {U V:List α} (a:Tot lt (U++V)):srt lt (U++V)=srt lt (V++U):=
 H0 o (a.perm Dw) (qG o a) ((fA lt _).trans Dw)
def MS (x:Nat) (a:x<18446744073709551616):dF .and .u64 (x:Int) 4294967295=((x % 4294967296:Nat):Int):=by have h:=xS .u64 x 4294967295 (by simp only [bE];omega) d_;have e:x &&& 4294967295=x % 4294967296:=Jv x 32;rw [e] at h;exact h
def fK (x:Nat):Kk (x:Int) (2 ^ Dq 32)=((x / 4294967296:Nat):Int):=by show Kk (x:Int) 4294967296=_;rw [Ea _ d_];omega
def XL (x y:Nat) (l:x<18446744073709551616) (k:y<18446744073709551616):ar 279 [.int .u64 x,.int .u64 y] [] (.ret (.tup [.int .u64 (MN x y:Nat),.int .u64 (CK x y:Nat)])) []:=by
 obtain ⟨a,b,c,d,B,p,o,w,r,t,s,F,hs⟩:=XK x y l k;have G:=aFQ hs r t s;have D:CK x y<18446744073709551616:=Fg _ d_;have m:((x % 4294967296:Nat):Int)*((y % 4294967296:Nat):Int)=(a:Int):=by rw [B,Eg]
 have u:((x / 4294967296:Nat):Int)*((y % 4294967296:Nat):Int)=(b:Int):=by rw [p,Eg]
 have C:((x % 4294967296:Nat):Int)*((y / 4294967296:Nat):Int)=(c:Int):=by rw [o,Eg]
 have v:((x / 4294967296:Nat):Int)*((y / 4294967296:Nat):Int)=(d:Int):=by rw [w,Eg]
 have z:(b:Int)+((a / 4294967296:Nat):Int)=((b+a / 4294967296:Nat):Int):=o_;have q:(((b+a / 4294967296) % 4294967296:Nat):Int)+(c:Int)=(((b+a / 4294967296) % 4294967296+c:Nat):Int):=o_;have n:(d:Int)+(((b+a / 4294967296) / 4294967296:Nat):Int)+((((b+a / 4294967296) % 4294967296+c) / 4294967296:Nat):Int)=((MN x y:Nat):Int):=o_;have h:¬ (inR .u64 ((x:Int)*(y:Int)))->IntKind.wrap .u64 ((x:Int)*(y:Int))=((CK x y:Nat):Int):=λ_=>by unfold CK;rw [<-Eg];simp [IntKind.wrap,IntKind.signed,IntKind.bits]
 refine c_ Tryz.f279 λ_=>?_;refine gV ?_;rw [MS x l];refine Ac d_ ?_;refine gV ?_;rw [fK x,MS y k];refine Ac d_ ?_;refine gV ?_;rw [fK y,m];refine aJ ?_;refine gV ?_;rw [u];refine aJ ?_;refine gV ?_;refine Ac d_ ?_;refine gV ?_;rw [fK a,z];refine aJ ?_;refine gV ?_;rw [MS _ o_];refine Ac d_ ?_;refine gV ?_;rw [fK (b+a / 4294967296),C];refine aJ ?_;refine gV ?_;rw [q];refine aJ ?_;refine gV ?_;rw [v];refine aJ ?_;refine gV ?_;refine aJ ?_;refine gV ?_;refine Ac d_ ?_;refine gV ?_;rw [fK ((b+a / 4294967296) % 4294967296+c),n];refine aJ ?_;refine gV ?_;by_cases j:inR .u64 ((x:Int)*(y:Int))
 .have e:(x:Int)*(y:Int)=((CK x y:Nat):Int):=by obtain ⟨h1,i⟩:=j;simp only [cJ,bE] at h1 i;rw [<-Eg] at h1 i⊢;unfold CK;omega
  rw [e];exact zW
 .rw [h j];refine Ks ?_;refine gW hE ?_;conv=>whnf
def aLi {M:Imm} {ob:Hs} {vs:List Value} {a b c:aa} (h:cA M ob vs [a,b,c]):∃ u v x,vs=[u,v,x]/\Rep M ob u a/\Rep M ob v b/\Rep M ob x c:=by
 obtain ⟨hl,d⟩:=h
 match vs,hl with
 | [u,v,x],_=>exact ⟨u,v,x,rfl,d 0 _ _ rfl rfl,d 1 _ _ rfl rfl,d 2 _ _ rfl rfl⟩
def aAT {M:Imm} {ob:Hs} {n:Nat} (h:n<18446744073709551616):Rep M ob (.int .u64 (n:Int)) (uu n):=.int _ _ ⟨by simp only [cJ];omega,by simp only [bE];omega⟩
def aDZ (x y:Nat) (m:x<18446744073709551616) (l:y<18446744073709551616):ar 282 [uu x,uu y,.int .u64 0] [] (.ret (.tup [uu ((x+y) % 18446744073709551616),uu ((x+y) / 18446744073709551616)])) []:=by
 intro M ob w g hm j;obtain ⟨u,v,c,rfl,k,b,h⟩:=aLi j;obtain ⟨rfl,_⟩:=k.int_inv;obtain ⟨rfl,_⟩:=b.int_inv;obtain ⟨rfl,_⟩:=h.int_inv;refine .inr ⟨.tuple #[.int .u64 (((x+y) % 18446744073709551616:Nat):Int),.int .u64 (((x+y) / 18446744073709551616:Nat):Int)],w,?_,M,ob,Ext.refl _ _ _ _,hm,?_⟩
 .rw [run_callFunc_extern (show Tryz.prog.funcs[282]? =some Tryz.f282 by kernel_rfl) (by kernel_rfl) (by kernel_rfl) (by kernel_rfl) (e:=(Extern.MathBitsCarry.rows.head!).2) (by kernel_rfl)];rfl
 .refine .tup [_,_] _ rfl λ i v a b d=>?_
  match i,b,d with
  | 0,b,d=>cases b;cases d;exact aAT (Fg _ d_)
  | 1,b,d=>cases b;cases d;exact aAT o_
def L4 (b:Bool) (x y:Nat) (r:Nat) (a:(if b=true then x else y)=r):ar 283 [.bool b,uu x,uu y] [] (.ret (uu r)) []:=by
 cases b with
 | true=>
  have a:x=r:=a;exact zqda12
 | false=>
  have a:y=r:=a;exact zqda12
def aGB (n:Int) (r:Nat) (a:ofF n=r):ar 256 [ii n] [] (.ret (uu r)) []:=by
 unfold ofF at a;by_cases h1:n<=0
 .rw [if_pos h1] at a;subst a;exact c_ Tryz.f256 λ_=>zW
 .rw [if_neg h1] at a;by_cases b:n<4294967296
  .rw [if_pos b] at a;have e:n*2 ^ Dq 32=(r:Int):=by show n*4294967296=_;omega
   have c:(r:Int)<18446744073709551616:=o_;refine c_ Tryz.f256 λ_=>?_
   repeat' first | (refine gN hE ?_;conv=>whnf) | refine Gd (Ac (Ac d_ (by rw [e];exact ⟨by simp only [cJ];omega,by simp only [bE];omega⟩)) ?_) | exact rfl | (refine zt ?_;try intro h) | refine zu (λ h=>?_) λ h=>?_ | fail
   rw [e]
  .rw [if_neg b] at a;subst a;exact c_ Tryz.f256 λ_=>zW
def aCM (a b:Nat) (j:a<18446744073709551616) (k:b<18446744073709551616) (r:Nat) (c:EB a b=r):ar 260 [uu a,uu b] [] (.ret (uu r)) []:=by
 have h1:=aDZ a b j k;unfold EB EL at c;by_cases h:a+b<18446744073709551616
 .rw [if_pos h] at c;have d:(a+b) / 18446744073709551616=0:=o_;have i:(a+b) % 18446744073709551616=r:=o_;rw [d,i] at h1;have e:=L4 false 18446744073709551615 r r rfl;exact c_ Tryz.f260 λ_=>zW
 .rw [if_neg h] at c;have d:(a+b) / 18446744073709551616=1:=o_;rw [d] at h1;have e:=L4 true 18446744073709551615 ((a+b) % 18446744073709551616) r c;generalize (a+b) % 18446744073709551616=q at h1 e;exact c_ Tryz.f260 λ_=>zW
def CC {h l:Nat} (hl:l<4294967296):h*4294967296 ||| l=h*4294967296+l:=by have:=Ii (i:=32) hl h;rw [De] at this;exact this.symm
def aMR {h l:Nat} (a:h<4294967296) (hl:l<4294967296):dF .or .u64 ((h*4294967296:Nat):Int) (l:Int)=((h*4294967296+l:Nat):Int):=by have e:=nZ .u64 (h*4294967296) l (by simp only [bE];omega) (by simp only [bE];omega);rw [CC hl] at e;exact e
def aCB (a b:Nat) (n:a<18446744073709551616) (k:b<18446744073709551616) (r:Nat) (e:tI a b=r):ar 259 [uu a,uu b] [] (.ret (uu r)) []:=by
 have h1:=XL a b n k;have hp:a*b<18446744073709551616*18446744073709551616:=Nat.mul_lt_mul'' n k;have c:=fK (MN a b);have m:=fK (CK a b);have d:a*b=MN a b*18446744073709551616+CK a b:=by unfold MN CK;omega
 have p:CK a b<18446744073709551616:=Fg _ d_;unfold tI EL at e;generalize a*b=P at e d hp;generalize MN a b=H at h1 c d;generalize CK a b=L at h1 m d p;by_cases h:P / 4294967296<18446744073709551616
 .rw [if_pos h] at e;have i:H / 4294967296=0:=o_;have o:H<4294967296:=o_;have s:H*4294967296+L / 4294967296=r:=o_;have q:(H:Int)*2 ^ Dq 32=((H*4294967296:Nat):Int):=by show (H:Int)*4294967296=_;omega
  have j:=aMR (h:=H) (l:=L / 4294967296) o o_;rw [i] at c;rw [s] at j;refine c_ Tryz.f259 λ_=>?_
  repeat' first | (refine gN hE ?_;conv=>whnf) | refine .pure _ [] h1 ?_ | (rw [c];refine Ac d_ ?_) | (rw [q];refine Gd (Ac (Ac d_ ⟨by simp only [cJ];omega,by simp only [bE];omega⟩) ?_)) | (rw [m];refine Ac d_ ?_) | exact rfl | (refine zt ?_;try intro h) | refine zu (λ h=>?_) λ h=>?_ | fail
  rw [j]
 .rw [if_neg h] at e;subst e;have i:(0:Int)<((H / 4294967296:Nat):Int):=o_;generalize ((H / 4294967296:Nat):Int)=Q at i c;refine c_ Tryz.f259 λ_=>?_
  repeat' first | (refine gN hE ?_;conv=>whnf) | refine .pure _ [] h1 ?_ | (rw [c];refine Ac d_ ?_) | exact rfl | (refine zt ?_;try intro h) | refine zu (λ h=>?_) λ h=>?_ | fail
def QM (n:Int):ar 256 [ii n] [] (.ret (uu (ofF n))) []:=aGB n _ rfl
def U5 (a b:Nat) (d:a<18446744073709551616) (c:b<18446744073709551616):ar 260 [uu a,uu b] [] (.ret (uu (EB a b))) []:=aCM a b d c _ rfl
def JB (a b:Nat) (d:a<18446744073709551616) (c:b<18446744073709551616):ar 259 [uu a,uu b] [] (.ret (uu (tI a b))) []:=aCB a b d c _ rfl
def bl8 (v:Nat):Nat:=if v<1 then 0 else if v<2 then 1 else if v<4 then 2 else if v<8 then 3 else if v<16 then 4 else if v<32 then 5 else if v<64 then 6 else if v<128 then 7 else 8
def aK3:List UInt8:=(Di 256).map λ v=>Dm (bl8 v)
def mB {v:Nat} (h:v<256):aK3[v]? =some (Dm (bl8 v)):=by simp [aK3,h]
def aKK {v:Nat} (h:1<=v) (a:v<256):1<=bl8 v/\bl8 v<=8/\2 ^ (bl8 v-1)<=v/\v<2 ^ bl8 v:=by
 unfold bl8
 repeat' split
 all_goals simp
 all_goals omega
def pE (v:Nat):bl8 v<=8:=by
 unfold bl8
 repeat' split
 all_goals omega
def kJ (v:Nat):((Dm (bl8 v)).toNat:Int)=(bl8 v:Int):=by have:=pE v;simp;omega
def BL (x n:Nat):Prop:=1<=n/\2 ^ (n-1)<=x/\x<2 ^ n
def BL.up {x n:Nat} (k:Nat) (h:BL (x / 2 ^ k) n):BL x (k+n):=by
 obtain ⟨h1,a,h3⟩:=h;have hp:0<2 ^ k:=Mz d_;refine ⟨by omega,?_,?_⟩
 .have:=(Ic hp).1 a;rw [show k+n-1=n-1+k by omega,Fu];exact this
 .have:=(Dl hp).1 h3;rw [Md,Fu];exact this
def BL.le {x n:Nat} (h:BL x n) (a:x<18446744073709551616):n<=64:=by
 obtain ⟨h1,b,_⟩:=h;rcases Nh 64 n with h3 | h3
 .have:2 ^ 64<=2 ^ (n-1):=Ew d_ o_;omega
 .exact h3
def rF {v:Nat} (h:1<=v) (b:v<256):BL v (bl8 v):=by obtain ⟨a,_,c,d⟩:=aKK h b;exact ⟨a,c,d⟩
def hiN (x k:Nat):Kk (x:Int) (2 ^ k)=((x / 2 ^ k:Nat):Int):=by rw [Ea _ (Int.pow_nonneg d_)];push_cast;rfl
def I8 (x:Nat):Kk (x:Int) (2 ^ Dq 16)=((x / 65536:Nat):Int):=hiN x 16
def hi8 (x:Nat):Kk (x:Int) (2 ^ Dq 8)=((x / 256:Nat):Int):=hiN x 8
def XP (x:Nat) (i:1<=x) (d:x<18446744073709551616):∃ n:Nat,BL x n/\ar 301 [uu x] [] (.ret (ii n)) []:=by
 by_cases e:4294967296<=x
 .by_cases h1:65536<=x / 4294967296
  .by_cases c:256<=x / 4294967296 / 65536
   .have a:BL x (32+(16+(8+(bl8 (x / 4294967296 / 65536 / 256))))):=BL.up 32 (BL.up 16 (BL.up 8 (rF (v:=x / 4294967296 / 65536 / 256) o_ o_)));refine Ao (32+(16+(8+(bl8 (x / 4294967296 / 65536 / 256))))) (Ac a ?_);have b:(x / 4294967296 / 65536 / 256)<256:=o_;refine c_ Tryz.f301 λ_=>?_
    repeat' first | (refine gN hE ?_;conv=>whnf) | (rw [fK];refine Ac d_ ?_) | (rw [I8];refine Ac d_ ?_) | (rw [hi8];refine Ac d_ ?_) | refine Ao _ (Ac (mB b) ?_) | (rw [kJ];have:=pE ((x / 4294967296 / 65536 / 256));refine aJ ?_) | exact rfl | (refine zt ?_;try intro h) | refine zu (λ h=>?_) λ h=>?_ | fail
    all_goals exact congrArg (λ n=>Res.ret (aa.int .i64 n)) (by (try rw [kJ]);omega)
   .have a:BL x (32+(16+(bl8 (x / 4294967296 / 65536)))):=BL.up 32 (BL.up 16 (rF (v:=x / 4294967296 / 65536) o_ o_));refine Ao (32+(16+(bl8 (x / 4294967296 / 65536)))) (Ac a ?_);have b:(x / 4294967296 / 65536)<256:=o_;refine c_ Tryz.f301 λ_=>?_
    repeat' first | (refine gN hE ?_;conv=>whnf) | (rw [fK];refine Ac d_ ?_) | (rw [I8];refine Ac d_ ?_) | (rw [hi8];refine Ac d_ ?_) | refine Ao _ (Ac (mB b) ?_) | (rw [kJ];have:=pE ((x / 4294967296 / 65536));refine aJ ?_) | exact rfl | (refine zt ?_;try intro h) | refine zu (λ h=>?_) λ h=>?_ | fail
    all_goals exact congrArg (λ n=>Res.ret (aa.int .i64 n)) (by (try rw [kJ]);omega)
  .by_cases c:256<=x / 4294967296
   .have a:BL x (32+(8+(bl8 (x / 4294967296 / 256)))):=BL.up 32 (BL.up 8 (rF (v:=x / 4294967296 / 256) o_ o_));refine Ao (32+(8+(bl8 (x / 4294967296 / 256)))) (Ac a ?_);have b:(x / 4294967296 / 256)<256:=o_;refine c_ Tryz.f301 λ_=>?_
    repeat' first | (refine gN hE ?_;conv=>whnf) | (rw [fK];refine Ac d_ ?_) | (rw [I8];refine Ac d_ ?_) | (rw [hi8];refine Ac d_ ?_) | refine Ao _ (Ac (mB b) ?_) | (rw [kJ];have:=pE ((x / 4294967296 / 256));refine aJ ?_) | exact rfl | (refine zt ?_;try intro h) | refine zu (λ h=>?_) λ h=>?_ | fail
    all_goals exact congrArg (λ n=>Res.ret (aa.int .i64 n)) (by (try rw [kJ]);omega)
   .have a:BL x (32+(bl8 (x / 4294967296))):=BL.up 32 (rF (v:=x / 4294967296) o_ o_);refine Ao (32+(bl8 (x / 4294967296))) (Ac a ?_);have b:(x / 4294967296)<256:=o_;refine c_ Tryz.f301 λ_=>?_
    repeat' first | (refine gN hE ?_;conv=>whnf) | (rw [fK];refine Ac d_ ?_) | (rw [I8];refine Ac d_ ?_) | (rw [hi8];refine Ac d_ ?_) | refine Ao _ (Ac (mB b) ?_) | (rw [kJ];have:=pE ((x / 4294967296));refine aJ ?_) | exact rfl | (refine zt ?_;try intro h) | refine zu (λ h=>?_) λ h=>?_ | fail
    all_goals exact congrArg (λ n=>Res.ret (aa.int .i64 n)) (by (try rw [kJ]);omega)
 .by_cases h1:65536<=x
  .by_cases c:256<=x / 65536
   .have a:BL x (16+(8+(bl8 (x / 65536 / 256)))):=BL.up 16 (BL.up 8 (rF (v:=x / 65536 / 256) o_ o_));refine Ao (16+(8+(bl8 (x / 65536 / 256)))) (Ac a ?_);have b:(x / 65536 / 256)<256:=o_;refine c_ Tryz.f301 λ_=>?_
    repeat' first | (refine gN hE ?_;conv=>whnf) | (rw [fK];refine Ac d_ ?_) | (rw [I8];refine Ac d_ ?_) | (rw [hi8];refine Ac d_ ?_) | refine Ao _ (Ac (mB b) ?_) | (rw [kJ];have:=pE ((x / 65536 / 256));refine aJ ?_) | exact rfl | (refine zt ?_;try intro h) | refine zu (λ h=>?_) λ h=>?_ | fail
    all_goals exact congrArg (λ n=>Res.ret (aa.int .i64 n)) (by (try rw [kJ]);omega)
   .have a:BL x (16+(bl8 (x / 65536))):=BL.up 16 (rF (v:=x / 65536) o_ o_);refine Ao (16+(bl8 (x / 65536))) (Ac a ?_);have b:(x / 65536)<256:=o_;refine c_ Tryz.f301 λ_=>?_
    repeat' first | (refine gN hE ?_;conv=>whnf) | (rw [fK];refine Ac d_ ?_) | (rw [I8];refine Ac d_ ?_) | (rw [hi8];refine Ac d_ ?_) | refine Ao _ (Ac (mB b) ?_) | (rw [kJ];have:=pE ((x / 65536));refine aJ ?_) | exact rfl | (refine zt ?_;try intro h) | refine zu (λ h=>?_) λ h=>?_ | fail
    all_goals exact congrArg (λ n=>Res.ret (aa.int .i64 n)) (by (try rw [kJ]);omega)
  .by_cases c:256<=x
   .have a:BL x (8+(bl8 (x / 256))):=BL.up 8 (rF (v:=x / 256) o_ o_);refine Ao (8+(bl8 (x / 256))) (Ac a ?_);have b:(x / 256)<256:=o_;refine c_ Tryz.f301 λ_=>?_
    repeat' first | (refine gN hE ?_;conv=>whnf) | (rw [fK];refine Ac d_ ?_) | (rw [I8];refine Ac d_ ?_) | (rw [hi8];refine Ac d_ ?_) | refine Ao _ (Ac (mB b) ?_) | (rw [kJ];have:=pE ((x / 256));refine aJ ?_) | exact rfl | (refine zt ?_;try intro h) | refine zu (λ h=>?_) λ h=>?_ | fail
    all_goals exact congrArg (λ n=>Res.ret (aa.int .i64 n)) (by (try rw [kJ]);omega)
   .have a:BL x (bl8 (x)):=rF (v:=x) o_ o_;refine Ao (bl8 (x)) (Ac a ?_);have b:x<256:=o_;refine c_ Tryz.f301 λ_=>?_
    repeat' first | (refine gN hE ?_;conv=>whnf) | (rw [fK];refine Ac d_ ?_) | (rw [I8];refine Ac d_ ?_) | (rw [hi8];refine Ac d_ ?_) | refine Ao _ (Ac (mB b) ?_) | (rw [kJ];have:=pE (x);refine aJ ?_) | exact rfl | (refine zt ?_;try intro h) | refine zu (λ h=>?_) λ h=>?_ | fail
    all_goals exact congrArg (λ n=>Res.ret (aa.int .i64 n)) (by (try rw [kJ]);omega)
def aLx (x n:Nat) (a:n<=64) (h:ar 301 [uu x] [] (.ret (ii n)) []):ar 310 [uu x] [] (.ret (ii ((64-n:Nat):Int))) []:=by
 have e:(64:Int)-(n:Int)=((64-n:Nat):Int):=o_;refine c_ Tryz.f310 λ_=>?_
 repeat' first | (refine gN hE ?_;conv=>whnf) | refine .pure _ [] h ?_ | exact rfl | (refine zt ?_;try intro h) | refine zu (λ h=>?_) λ h=>?_ | fail
 rw [e]
def wu (n:Int):IntKind.wrap .u64 n=n % 18446744073709551616:=by simp [IntKind.wrap,IntKind.signed,IntKind.bits]
def Z8 (x y:Nat):Ly (x:Int) (y:Int)=((x / y:Nat):Int):=rfl
noncomputable abbrev fD:Func:=Tryz.f303
def dvF (s Y d b u a c q r:Nat):List (Nat×aa):=[(2,uu Y),(8,uu s),(9,uu d),(10,uu b),(11,uu u),(13,uu a),(14,uu c),(15,uu q),(16,uu r)]
def dvG (s Y e c u b d q t a r:Nat):List (Nat×aa):=[(2,uu Y),(8,uu s),(9,uu e),(10,uu c),(11,uu u),(13,uu b),(14,uu d),(15,uu q),(16,uu r),(17,uu t),(18,uu a)]
def aDc (s Y a b u c e:Nat) (G:aa) (h1:2147483648<=a) (z:a<4294967296) (v:b<4294967296) (p:c<4294967296) (x:u<a*4294967296+b)
  (fin:∀ r,To E fD (.pure (.ret G)) (.code (mQ fD 21) (dvF s Y a b u c e ((u*4294967296+c) / (a*4294967296+b)) r) [])):
  ∀ (q r:Nat),Dg a b u c q r->r<4294967296->To E fD (.pure (.ret G)) (.head (stk fD 0) (dvF s Y a b u c e q r) []):=by
 intro q;induction q using Hy with
 | _ q A=>
 intro r f F;have l:(4294967296:Int)*(r:Int)=((4294967296*r:Nat):Int):=o_;have j:((4294967296*r:Nat):Int)+(c:Int)=((4294967296*r+c:Nat):Int):=o_;have i:(q:Int)*(b:Int)=((q*b:Nat):Int):=(Eg q b).symm;have step:(4294967296<=q\/4294967296*r+c<q*b)->To E fD (.pure (.ret G)) (.code (mQ fD 18) (dvF s Y a b u c e q r) []):=λ n=>by
  obtain ⟨B,d⟩:=f.step p x n;have D:=d.few;have y:=f.few;have m:(q:Int)-1=((q-1:Nat):Int):=o_;have k:(r:Int)+(a:Int)=((r+a:Nat):Int):=o_;unfold dvF;by_cases w:4294967296<=r+a
  .have g:=(d.fin (Dg.far v o_ w)).2;have fin:=fin (r+a);rw [<-g] at fin;refine gV ?_;rw [m];refine aJ ?_;refine gV ?_;rw [k];refine aJ ?_;refine gV ?_;refine aT λ h=>?_;exact zqda9
  .have ao:=A (q-1) o_ (r+a) d o_
   unfold dvF at ao
   repeat' first | (refine gN hE ?_;conv=>whnf) | (rw [m];refine aJ ?_) | (rw [k];refine aJ ?_) | exact rfl | (refine zt ?_;try intro h) | refine zu (λ h=>?_) λ h=>?_ | fail
   exact zW
 by_cases o:4294967296<=q
 .have step:=step (.inl o);unfold dvF at step⊢;refine gV ?_;refine aT λ h=>?_;refine gV ?_;refine aY ?_;exact zqda10
 .have C:q*b<=4294967295*4294967295:=Gj o_ o_;by_cases t:4294967296*r+c<q*b
  .have step:=step (.inr t);unfold dvF at step⊢;refine gV ?_;refine aF λ h=>?_;refine gV ?_;rw [i];refine aJ ?_;refine gV ?_;rw [l];refine aJ ?_;refine gV ?_;rw [j];refine aJ ?_;refine gV ?_;refine aT λ h=>?_;exact zqda10
  .have g:=(f.fin o_).2;have fin:=fin r;rw [<-g] at fin;unfold dvF at fin⊢;refine gV ?_;refine aF λ h=>?_;refine gV ?_;rw [i];refine aJ ?_;refine gV ?_;rw [l];refine aJ ?_;refine gV ?_;rw [j];refine aJ ?_;refine gV ?_;refine aF λ h=>?_;exact zqda9
def aDb (s Y a b u g c p t:Nat) (G:aa) (h1:2147483648<=a) (B:a<4294967296) (x:b<4294967296) (v:c<4294967296) (z:t<a*4294967296+b)
  (fin:∀ r,To E fD (.pure (.ret G)) (.code (mQ fD 28) (dvG s Y a b u g c p t ((t*4294967296+c) / (a*4294967296+b)) r) [])):
  ∀ (q r:Nat),Dg a b t c q r->r<4294967296->To E fD (.pure (.ret G)) (.head (stk fD 1) (dvG s Y a b u g c p t q r) []):=by
 intro q;induction q using Hy with
 | _ q C=>
 intro r e I;have l:(4294967296:Int)*(r:Int)=((4294967296*r:Nat):Int):=o_;have j:((4294967296*r:Nat):Int)+(c:Int)=((4294967296*r+c:Nat):Int):=o_;have i:(q:Int)*(b:Int)=((q*b:Nat):Int):=(Eg q b).symm;have step:(4294967296<=q\/4294967296*r+c<q*b)->To E fD (.pure (.ret G)) (.code (mQ fD 25) (dvG s Y a b u g c p t q r) []):=λ n=>by
  obtain ⟨D,d⟩:=e.step v z n;have H:=d.few;have A:=e.few;have m:(q:Int)-1=((q-1:Nat):Int):=o_;have k:(r:Int)+(a:Int)=((r+a:Nat):Int):=o_;unfold dvG;by_cases y:4294967296<=r+a
  .have f:=(d.fin (Dg.far x o_ y)).2;have fin:=fin (r+a);rw [<-f] at fin;refine gV ?_;rw [m];refine aJ ?_;refine gV ?_;rw [k];refine aJ ?_;refine gV ?_;refine aT λ h=>?_;exact zqda7
  .have ao:=C (q-1) o_ (r+a) d o_
   unfold dvG at ao
   repeat' first | (refine gN hE ?_;conv=>whnf) | (rw [m];refine aJ ?_) | (rw [k];refine aJ ?_) | exact rfl | (refine zt ?_;try intro h) | refine zu (λ h=>?_) λ h=>?_ | fail
   exact zW
 by_cases o:4294967296<=q
 .have step:=step (.inl o);unfold dvG at step⊢;refine gV ?_;refine aT λ h=>?_;refine gV ?_;refine aY ?_;exact zqda8
 .have F:q*b<=4294967295*4294967295:=Gj o_ o_;by_cases w:4294967296*r+c<q*b
  .have step:=step (.inr w);unfold dvG at step⊢;refine gV ?_;refine aF λ h=>?_;refine gV ?_;rw [i];refine aJ ?_;refine gV ?_;rw [l];refine aJ ?_;refine gV ?_;rw [j];refine aJ ?_;refine gV ?_;refine aT λ h=>?_;exact zqda8
  .have f:=(e.fin o_).2;have fin:=fin r;rw [<-f] at fin;unfold dvG at fin⊢;refine gV ?_;refine aF λ h=>?_;refine gV ?_;rw [i];refine aJ ?_;refine gV ?_;rw [l];refine aJ ?_;refine gV ?_;rw [j];refine aJ ?_;refine gV ?_;refine aF λ h=>?_;exact zqda7
def aG7 {a lo y s L:Nat} (d:BL y L) (n:L<=64) (hs:s=64-L) (g:a<y) (hl:lo<18446744073709551616):
  9223372036854775808<=y*2 ^ s/\y*2 ^ s<18446744073709551616/\a*2 ^ s+lo / 2 ^ (64-s)<y*2 ^ s/\lo / 2 ^ (64-s)<2 ^ s/\(a*18446744073709551616+lo) / y=((a*2 ^ s+lo / 2 ^ (64-s))*18446744073709551616+lo*2 ^ s % 18446744073709551616) / (y*2 ^ s):=by
 obtain ⟨m,f,h⟩:=d;have hp:0<2 ^ s:=Mz d_;have b:2 ^ (64-s)*2 ^ s=18446744073709551616:=by rw [<-Fu,show 64-s+s=64 by omega]
 have o:2 ^ (L-1)*2 ^ s=9223372036854775808:=by rw [<-Fu,show L-1+s=63 by omega]
 have l:2 ^ L*2 ^ s=18446744073709551616:=by rw [<-Fu,show L+s=64 by omega]
 have p:2 ^ (L-1)*2 ^ s<=y*2 ^ s:=Bu _ f;have q:y*2 ^ s<2 ^ L*2 ^ s:=Nat.mul_lt_mul_of_pos_right h hp;have e:lo*2 ^ s / 18446744073709551616=lo / 2 ^ (64-s):=by rw [<-b,Mt _ _ hp]
 have i:=Fy (lo*2 ^ s) 18446744073709551616;rw [e] at i;have j:lo / 2 ^ (64-s)<2 ^ s:=by refine (Dl (Mz d_)).2 ?_;rw [De,b];exact hl
 have c:(a+1)*2 ^ s<=y*2 ^ s:=Bu _ g;rw [Bx,Gt] at c;have k:(a*18446744073709551616+lo)*2 ^ s=(a*2 ^ s+lo / 2 ^ (64-s))*18446744073709551616+lo*2 ^ s % 18446744073709551616:=by rw [Bx,Bx,Nat.mul_right_comm];omega
 refine ⟨by omega,by omega,by omega,j,?_⟩;rw [<-k,Mt _ _ hp]
def aEM (x s:Nat):(x:Int)*2 ^ Dq (s:Int)=((x*2 ^ s:Nat):Int):=by rw [Bt];push_cast;rfl
def aIS (x s:Nat):Kk (x:Int) (2 ^ Dq (s:Int))=((x / 2 ^ s:Nat):Int):=hiN x s
def aG6 (s Y f l u k b q t a r:Nat) (hs:s<=64) (j:q*4294967296+a<18446744073709551616) (n:Y<18446744073709551616) (d:a*Y<=t*4294967296+b) (h:t*4294967296+b-a*Y<18446744073709551616):
  To E fD (.pure (.ret (.tup [uu (q*4294967296+a),uu ((t*4294967296+b-a*Y) / 2 ^ s)]))) (.code (mQ fD 28) (dvG s Y f l u k b q t a r) []):=by
 have g:q*4294967296<18446744073709551616:=Nat.lt_of_le_of_lt (Nat.le_add_right _ _) j;have m:(q:Int)*4294967296=((q*4294967296:Nat):Int):=o_;have i:((q*4294967296:Nat):Int)+(a:Int)=((q*4294967296+a:Nat):Int):=o_;have c:(a:Int)*(Y:Int)=((a*Y:Nat):Int):=(Eg a Y).symm;have e:IntKind.wrap .u64 (IntKind.wrap .u64 (IntKind.wrap .u64 ((t:Int)*4294967296)+(b:Int))-IntKind.wrap .u64 ((a*Y:Nat):Int))=((t*4294967296+b-a*Y:Nat):Int):=by
  simp only [wu];generalize a*Y=z at *
  omega
 unfold dvG;generalize o:t*4294967296+b-a*Y=R at *
 generalize p:a*Y=P at *
 refine gV ?_;rw [m];refine aJ ?_;refine gV ?_;rw [i];refine aJ ?_;refine gV ?_;refine Ks ?_;refine gV ?_;refine Ks ?_;refine gV ?_;rw [c];refine Ks ?_;refine gV ?_;refine Ks ?_;refine gV ?_;rw [e,aIS];refine Ac (Ac o_ (show Dq (s:Int)<=64 by omega)) ?_;refine gW hE ?_;conv=>whnf
def aKr (s Y a f u b c q r:Nat) (G:aa) (h1:2147483648<=a) (i:a<4294967296) (j:f<4294967296) (p:b<4294967296) (d:c<4294967296) (g:Y=a*4294967296+f) (B:u<Y) (k:q=(u*4294967296+b) / Y)
  (fin:∀ r,To E fD (.pure (.ret G)) (.code (mQ fD 28) (dvG s Y a f u b c q (u*4294967296+b-q*Y) (((u*4294967296+b-q*Y)*4294967296+c) / Y) r) [])):
  To E fD (.pure (.ret G)) (.code (mQ fD 21) (dvF s Y a f u b c q r) []):=by
 have v:q*Y<=u*4294967296+b:=by rw [k];exact Hh ..
 have h:0<Y:=o_;have e:=N2 h k rfl;have l:(q:Int)*(Y:Int)=((q*Y:Nat):Int):=(Eg q Y).symm;have w:IntKind.wrap .u64 (IntKind.wrap .u64 (IntKind.wrap .u64 ((u:Int)*4294967296)+(b:Int))-IntKind.wrap .u64 ((q*Y:Nat):Int))=((u*4294967296+b-q*Y:Nat):Int):=by
  simp only [wu];generalize q*Y=z at *
  omega
 generalize u*4294967296+b-q*Y=t at *
 have o:=aDb s Y a f u b c q t G h1 i j d (by rw [<-g];exact e) (by rw [<-g];exact fin) (t / a) (t % a) (Dg.zero h1 j d (by rw [<-g];exact e)) (by have:=Fg t (show 0<a by omega);omega);have m:=Fy t a;have x:=Z8 t a;have n:((t / a:Nat):Int)*(a:Int)=((t / a*a:Nat):Int):=(Eg _ _).symm;have y:(t:Int)-((t / a*a:Nat):Int)=((t % a:Nat):Int):=by
  rw [De] at m;generalize t / a*a=z at *
  omega
 have A:t / a*a<=t:=Hh ..;have C:t / a<=t:=Hb ..;have hm:=Fg t (show 0<a by omega);unfold dvF;unfold dvG at o;generalize t / a*a=z at *
 generalize t / a=q2 at *
 generalize t % a=r2 at *
 generalize q*Y=P at *
 refine gV ?_;refine Ks ?_;refine gV ?_;refine Ks ?_;refine gV ?_;rw [l];refine Ks ?_;refine gV ?_;refine Ks ?_;refine gV ?_;rw [w];refine Ac o_ ?_;refine gV ?_;rw [x];refine aJ ?_;refine gV ?_;rw [n];refine aJ ?_;refine gV ?_;rw [y];exact zW
def aG5 (b lo y s Y H Q U A a i e d q r z:Nat) (G:aa) (O:0<b) (M:b<y) (hs:s<=63) (c:ar 310 [uu y] [] (.ret (ii s)) [])
  (K:Y<18446744073709551616) (J:H<=U) (S:U<Y) (L:Q<=U) (p:(y:Int)*2 ^ Dq (s:Int)=(Y:Int)) (l:(b:Int)*2 ^ Dq (s:Int)=(H:Int)) (u:Kk (lo:Int) (2 ^ Dq ((64-s:Nat):Int))=(Q:Int))
  (D:dF .or .u64 (H:Int) (Q:Int)=(U:Int)) (o:IntKind.wrap .u64 ((lo:Int)*2 ^ (min (Dq (s:Int)) (IntKind.bits .u64)))=(A:Int))
  (B:Kk (Y:Int) (2 ^ Dq 32)=(a:Int)) (v:dF .and .u64 (Y:Int) 4294967295=(i:Int)) (C:Kk (A:Int) (2 ^ Dq 32)=(e:Int)) (m:dF .and .u64 (A:Int) 4294967295=(d:Int))
  (F:0<a) (I:Ly (U:Int) (a:Int)=(q:Int)) (x:(q:Int)*(a:Int)=(z:Int)) (w:(U:Int)-(z:Int)=(r:Int)) (P:z<=U) (N:q<=U) (R:r<=U)
  (t:To E fD (.pure (.ret G)) (.head (stk fD 0) (dvF s Y a i U e d q r) [])):ar 303 [uu b,uu lo,uu y] [] (.ret G) []:=by
 have n:((y:Int)==0)=false:=beq_eq_false_iff_ne.2 o_;have k:((b:Int)==0)=false:=beq_eq_false_iff_ne.2 o_;have j:(64:Int)-(s:Int)=((64-s:Nat):Int):=o_;unfold dvF at t;refine c_ Tryz.f303 λ_=>?_;refine gV ?_;refine Ac (λ h=>absurd (n.symm.trans h) d_) (λ_=>?_);refine gV ?_;refine aF λ h=>?_;refine gV ?_;refine Ac (λ h=>absurd (k.symm.trans h) d_) (λ_=>?_);refine gV ?_;refine .pure _ [] c ?_;refine gV ?_;refine aJ ?_;refine gV ?_;refine Ac o_ ?_;refine gV ?_;rw [p];refine Gd (Ac (Ac (show Dq (s:Int)<=64 by omega) (Ac (by simp only [cJ];omega) (by simp only [bE];omega))) ?_);refine gV ?_;rw [B];refine Ac d_ ?_;refine gV ?_;rw [v];refine Ac o_ ?_;refine gV ?_;rw [l];refine Gd (Ac (Ac (show Dq (s:Int)<=64 by omega) (Ac (by simp only [cJ];omega) (by simp only [bE];omega))) ?_);refine gV ?_;rw [j];refine aJ ?_;refine gV ?_;rw [u];refine Ac (Ac o_ (show Dq ((64-s:Nat):Int)<=64 by omega)) ?_;refine gV ?_;rw [D];refine Ac o_ ?_;refine gV ?_;refine Ks ?_;refine gV ?_;rw [o,C];refine Ac d_ ?_;refine gV ?_;rw [m];refine Ac o_ ?_;refine gV ?_;rw [I];refine aJ ?_;refine gV ?_;rw [x];refine aJ ?_;refine gV ?_;rw [w];exact zW
def RB (b lo y:Nat) (h0:0<b) (X:b<y) (Z:y<18446744073709551616) (hl:lo<18446744073709551616):∃ m:Int,ar 303 [uu b,uu lo,uu y] [] (.ret (.tup [uu ((b*18446744073709551616+lo) / y),.int .u64 m])) []:=by
 obtain ⟨L,F,hc⟩:=XP y o_ Z;have e:=F.le Z;have q:=aLx y L e hc;have hL1:=F.1
 obtain ⟨s,hs⟩:∃ s,s=64-L:=⟨_,rfl⟩
 obtain ⟨n1,n2,C,S,W⟩:=aG7 F e hs X hl;rw [<-hs] at q;rw [W];have hA:lo*2 ^ s % 18446744073709551616<18446744073709551616:=Fg _ d_;have j:dF .or .u64 ((b*2 ^ s:Nat):Int) ((lo / 2 ^ (64-s):Nat):Int)=((b*2 ^ s+lo / 2 ^ (64-s):Nat):Int):=by
  have T:=Ii S b;rw [De] at T;rw [T];generalize y*2 ^ s=Y at *
  generalize b*2 ^ s=H at *
  generalize lo / 2 ^ (64-s)=Q at *
  exact nZ .u64 H Q (by simp only [bE];omega) (by simp only [bE];omega)
 have d:IntKind.wrap .u64 ((lo:Int)*2 ^ (min (Dq (s:Int)) (IntKind.bits .u64)))=((lo*2 ^ s % 18446744073709551616:Nat):Int):=by have h:=aEM lo s;rw [Bt] at h;rw [wu,Bt,Gp (show s<=IntKind.bits .u64 from (show s<=64 by omega)),h];generalize lo*2 ^ s=z;omega
 have g:=aEM y s;have c:=aEM b s;have i:=aIS lo (64-s);clear S;generalize y*2 ^ s=Y at *
 generalize b*2 ^ s=H at *
 generalize lo / 2 ^ (64-s)=Q at *
 generalize lo*2 ^ s % 18446744073709551616=A at *
 have O:H<=H+Q:=Nat.le_add_right ..;have I:Q<=H+Q:=Nat.le_add_left ..;generalize H+Q=U at *
 have l:2147483648<=Y / 4294967296:=by clear g c i j d;omega
 have p:Y / 4294967296<4294967296:=by clear g c i j d;omega
 have o:Y % 4294967296<4294967296:=Fg _ d_;have n:A / 4294967296<4294967296:=by clear g c i j d;omega
 have B:A % 4294967296<4294967296:=Fg _ d_;have a:Y=Y / 4294967296*4294967296+Y % 4294967296:=by clear g c i j d;omega
 have eN:U*18446744073709551616+A=U*18446744073709551616+A / 4294967296*4294967296+A % 4294967296:=by clear g c i j d;omega
 have J:=fK Y;have G:=MS Y n2;have K:=fK A;have D:=MS A hA;have k:0<Y:=o_;rw [eN];clear eN W;generalize A / 4294967296=a1 at *
 generalize A % 4294967296=a0 at *
 have two:=aHi (Y:=Y) (u:=U) (v:=a1) (w:=a0) k rfl rfl rfl B;have t:(U*18446744073709551616+a1*4294967296+a0) / Y<18446744073709551616:=(Dl k).2 (by clear g c i j d J G K D two a;omega);have P:(((U*4294967296+a1-(U*4294967296+a1) / Y*Y)*4294967296+a0) / Y)*Y<=(U*4294967296+a1-(U*4294967296+a1) / Y*Y)*4294967296+a0:=Hh ..;have M:=N2 (N:=(U*4294967296+a1-(U*4294967296+a1) / Y*Y)*4294967296+a0) k rfl rfl;have tail:=λ r=>aG6 s Y (Y / 4294967296) (Y % 4294967296) U a1 a0 ((U*4294967296+a1) / Y) (U*4294967296+a1-(U*4294967296+a1) / Y*Y) (((U*4294967296+a1-(U*4294967296+a1) / Y*Y)*4294967296+a0) / Y) r o_ (by rw [two];exact t) n2 P (Ni M n2);rw [two] at tail;have mid:=λ r=>aKr s Y (Y / 4294967296) (Y % 4294967296) U a1 a0 ((U*4294967296+a1) / Y) r _ l p o n B a C rfl tail;have x:0<Y / 4294967296:=o_;have R:=Fg U x;have V:=aDc s Y (Y / 4294967296) (Y % 4294967296) U a1 a0 _ l p o n (by rw [<-a];exact C) (by rw [<-a];exact mid) (U / (Y / 4294967296)) (U % (Y / 4294967296)) (Dg.zero l o n (by rw [<-a];exact C)) (Ni R p);have et:=Fy U (Y / 4294967296)
 exact ⟨_,aG5 b lo y s Y H Q U A _ _ a1 a0 _ _ (U / (Y / 4294967296)*(Y / 4294967296)) _ h0 X o_ q n2 O C I g c i j d J G K D x (Z8 _ _) (Eg _ _).symm (by
  rw [De] at et;generalize U / (Y / 4294967296)*(Y / 4294967296)=z at *
  clear g c i j d J G K D a tail mid V two
  omega) (Hh ..) (Hb ..) (Mf ..) V⟩
def aK2 (x y:Nat):Int.tmod (x:Int) (y:Int)=((x % y:Nat):Int):=rfl
def Q9 (lo y:Nat) (e:0<y) (j:y<18446744073709551616) (hl:lo<18446744073709551616):ar 303 [uu 0,uu lo,uu y] [] (.ret (.tup [uu (lo / y),uu (lo % y)])) []:=by
 have b:((y:Int)==0)=false:=beq_eq_false_iff_ne.2 o_;have c:=Z8 lo y;have a:=aK2 lo y;have d:lo / y<=lo:=Hb ..;have i:=Mf lo y;generalize lo / y=q at *
 generalize lo % y=r at *
 refine c_ Tryz.f303 λ_=>?_;refine gV ?_;refine Ac (λ h=>absurd (b.symm.trans h) d_) (λ_=>?_)
 repeat' first | (refine gN hE ?_;conv=>whnf) | (rw [c];refine aJ ?_) | (rw [a];refine aJ ?_) | exact rfl | (refine zt ?_;try intro h) | refine zu (λ h=>?_) λ h=>?_ | fail
 rw [a]
def aDk (a lo y:Nat) (c:a<y) (b:y<18446744073709551616) (hl:lo<18446744073709551616):∃ m:Int,ar 303 [uu a,uu lo,uu y] [] (.ret (.tup [uu ((a*18446744073709551616+lo) / y),.int .u64 m])) []:=by
 rcases Fp a with rfl | h
 .rw [Mc,Bo];exact ⟨_,Q9 lo y c b hl⟩
 .exact RB a lo y h c b hl
def aKJ (a b:Nat) (p:a<18446744073709551616) (k:b<18446744073709551616) (r:Nat) (c:AA a b=r):ar 288 [uu a,uu b] [] (.ret (uu r)) []:=by
 unfold AA at c;by_cases e:a=0
 .subst e;have c:0=r:=c;subst c;exact c_ Tryz.f288 λ_=>zW
 .have d:((a:Int)==0)=false:=beq_eq_false_iff_ne.2 o_;rw [if_neg e] at c;have j:=fK a
  obtain ⟨W,o⟩:∃ W,W=a % 4294967296*4294967296:=⟨_,rfl⟩
  have l:IntKind.wrap .u64 ((a:Int)*2 ^ (min (Dq 32) (IntKind.bits .u64)))=(W:Int):=by show IntKind.wrap .u64 ((a:Int)*4294967296)=_;rw [wu];omega
  by_cases h1:b<=a / 4294967296
  .have c:18446744073709551615=r:=by
    rcases Fp b with rfl | hp
    .exact c
    .rw [if_neg o_,aKv hp h1] at c;exact c
   subst c;generalize a / 4294967296=H at *
   refine c_ Tryz.f288 λ_=>?_;refine gV ?_;refine Ac (λ h=>absurd (d.symm.trans h) d_) (λ_=>?_);refine gV ?_;rw [j];refine Ac d_ ?_;refine gV ?_;refine Ac d_ ?_;refine gV ?_;refine Ks ?_;exact zW
  .obtain ⟨m,i⟩:=aDk (a / 4294967296) W b o_ k o_;have n:a / 4294967296*18446744073709551616+W=a*4294967296:=o_;rw [n] at i;rw [if_neg o_,(aKu o_).2] at c;rw [c] at i;generalize a / 4294967296=H at *
   refine c_ Tryz.f288 λ_=>?_;refine gV ?_;refine Ac (λ h=>absurd (d.symm.trans h) d_) (λ_=>?_);refine gV ?_;rw [j];refine Ac d_ ?_;refine gV ?_;refine Ac d_ ?_;refine gV ?_;refine Ks ?_;refine gV ?_;refine aF λ h=>?_;rw [l];exact zW
def aIn (a b:Nat) (d:a<18446744073709551616) (c:b<18446744073709551616):ar 288 [uu a,uu b] [] (.ret (uu (AA a b))) []:=aKJ a b d c _ rfl
def UZ (a b:Nat) (c:a<18446744073709551616) (d:b<18446744073709551616):ar 268 [uu a,uu b] [] (.ret (uu (AA a b))) []:=by have h:=aIn a b c d;generalize AA a b=r at h;exact c_ Tryz.f268 λ_=>zW
def AU (a b:Int) (e:a<=9223372036854775807) (i:b<=9223372036854775807):ar 280 [ii a,ii b] [] (.ret (uu (IE a b))) []:=by have h:=aIn (max a 0).toNat (max b 0).toNat o_ o_;unfold IE;have d:(((max a 0).toNat:Nat):Int)=max a 0:=o_;have c:(((max b 0).toNat:Nat):Int)=max b 0:=o_;generalize AA (max a 0).toNat (max b 0).toNat=r at h;unfold uu at h;rw [d,c] at h;exact c_ Tryz.f280 λ_=>zW
def aET (n:Nat):EL n=if n<18446744073709551616 then n else 18446744073709551615:=rfl
def RD:List Nat:=[3037000499,3611622602,3938502375,4112874772,4202935002,4248701964,4271771996,4283353945,4289156689,4292061009,4293513906,4294240539,4294603902,4294785595,4294876444,4294921869]
abbrev aAa:List aa:=RD.map uu
def EU (f x i:Nat):Nat:=if f.testBit (15-i)=true then tI x ((RD[i]?).getD 0) else x
def aLR (f:Nat):Nat:=(Di 16).foldl (EU f) 4294967296
def tM (age half:Int):Nat:=
 if 63<(max age 0).toNat / (max half 1).toNat then 0 else aLR (IE (((max age 0).toNat % (max half 1).toNat:Nat):Int) ((max half 1).toNat:Int) / 65536) / 2 ^ ((max age 0).toNat / (max half 1).toNat)
def aHT (f k:Nat):f &&& 2 ^ k=if f.testBit k=true then 2 ^ k else 0:=by
 refine Nat.eq_of_testBit_eq λ j=>?_;rw [Nat.testBit_and,La];by_cases h:k=j
 .subst h;cases f.testBit k<;>simp
 .cases f.testBit k<;>simp [h,La]
def aDm {i:Nat} (h:i<16):∃ p:Nat,RD[i]? =some p/\p<=4294967296/\aAa[i]? =some (uu p):=by
 have hl:RD.length=16:=rfl;refine ⟨RD[i],Aa o_,?_,by show (RD.map uu)[i]? =_;rw [Bf,Aa o_];rfl⟩;have:∀ p∈RD,p<=4294967296:=by decide
 exact this _ (Bh _)
def aBH {x p:Nat} (a:x<=4294967296) (hp:p<=4294967296):tI x p<=4294967296:=by
 unfold tI;have h1:x*p<=4294967296*4294967296:=Gj a hp;generalize x*p=z at *
 rw [aET];split<;>omega
def U6 {f x i:Nat} (c:i<16) (a:x<=4294967296):EU f x i<=4294967296:=by
 unfold EU;obtain ⟨p,h1,b,_⟩:=aDm c;rw [h1];split
 .exact aBH a b
 .exact a
def U7 (f:Nat):∀ (l:List Nat) (x:Nat),(∀ i∈l,i<16)->x<=4294967296->l.foldl (EU f) x<=4294967296
 | [],x,_,hx=>hx
 | i::l,x,h,hx=>U7 f l _ (λ j a=>h j (Bd _ a)) (U6 (h i (Ap ..)) hx)
def aGD (f:Nat):aLR f<=4294967296:=U7 f _ _ (λ i a=>Hn.1 a) (Bc _)
def aGE (age half:Int):tM age half<=4294967296:=by
 unfold tM;split
 .omega
 .exact Cz (Hb ..) (aGD _)
def uZ (a b:Int):IE a b<18446744073709551616:=aHh _ _
def PR (f:Nat) {i:Nat} (h:i<16) (x:Nat):((Di 16).drop i).foldl (EU f) x=((Di 16).drop (i+1)).foldl (EU f) (EU f x i):=by rw [Ae (by simpa using h)];simp
def ZS {i:Nat} (h:i<16):i=0\/i=1\/i=2\/i=3\/i=4\/i=5\/i=6\/i=7\/i=8\/i=9\/i=10\/i=11\/i=12\/i=13\/i=14\/i=15:=o_
def O6:ar 281 [] [] (.ret (.agg aAa)) []:=by exact c_ Tryz.f281 λ_=>zW
noncomputable abbrev fDF:Func:=Tryz.f255
def aHj (A H f:Nat) (C:f<18446744073709551616) (D:A<9223372036854775808) (G:0<H) (l:H<9223372036854775808) (F:A / H<=63) (R:Nat):∀ (m i x:Nat),i+m=16->x<=4294967296->((Di 16).drop i).foldl (EU f) x / 2 ^ (A / H)=R->
  To E fDF (.pure (.ret (uu R))) (.head (stk fDF 0) [(0,ii A),(1,ii H),(5,uu f),(6,uu x),(23,.agg aAa),(24,ii i)] []):=by
 intro m;induction m with
 | zero=>
  intro i x t j c;rw [Ah q_] at c;have c:x / 2 ^ (A / H)=R:=c;have g:=Z8 A H;have d:=aIS x (A / H);rw [c] at d;have v:A / H<=A:=Hb ..;generalize A / H=q at *
  refine gV ?_;refine aF λ h=>?_;refine gV ?_;refine Ac o_ ?_;refine gV ?_;rw [g];refine aJ ?_;refine gV ?_;rw [d];refine Ac (Ac o_ (show Dq (q:Int)<=64 by omega)) ?_;refine gW hE ?_;conv=>whnf
 | succ m z=>
  intro i x t j c;rw [PR f o_] at c;have ao:=z (i+1) (EU f x i) o_ (U6 o_ j) c
  obtain ⟨p,hp,o,n⟩:=aDm (i:=i) o_;have g:(15:Int)-(i:Int)=((15-i:Nat):Int):=o_;have d:(1:Int)*2 ^ Dq ((15-i:Nat):Int)=((2 ^ (15-i):Nat):Int):=by have:=aEM 1 (15-i);rw [Gt] at this;exact this
  have u:2 ^ (15-i)<=2 ^ 15:=Ew d_ o_;have a:=xS .u64 f (2 ^ (15-i)) (by simp only [bE];omega) (by simp only [bE];omega);rw [aHT] at a;have s:0<2 ^ (15-i):=Mz d_;unfold EU at ao
  rw [hp] at ao
  have hm:=JB x p o_ o_;have B:15-i<=15:=o_;generalize 15-i=k at *
  have go:∀ b,f.testBit k=b->To E fDF (.pure (.ret (uu R))) (.head (stk fDF 0) [(0,ii A),(1,ii H),(5,uu f),(6,uu x),(23,.agg aAa),(24,ii i)] []):=λ b e=>by
   cases b with
   | true=>
    rw [e,if_pos rfl] at ao
    rw [e] at a;have nxt:To E fDF (.pure (.ret (uu R))) (.head (stk fDF 0) [(0,ii A),(1,ii H),(5,uu f),(6,uu (tI x p)),(23,.agg aAa),(24,ii ((i+1:Nat):Int))] []):=ao
    clear ao
    generalize tI x p=y at *
    have a:dF .and .u64 (f:Int) ((2 ^ k:Nat):Int)=((2 ^ k:Nat):Int):=by rw [a];rfl
    generalize 2 ^ k=w at *
    have r:((w:Int) !=0)=true:=by rw [bne_iff_ne];omega
    rcases ZS (show i<16 by omega) with rfl | rfl | rfl | rfl | rfl | rfl | rfl | rfl | rfl | rfl | rfl | rfl | rfl | rfl | rfl | rfl
    all_goals cases hp
    all_goals
     exact zqda0
   | false=>
    rw [e,if_neg d_] at ao
    rw [e] at a;have a:dF .and .u64 (f:Int) ((2 ^ k:Nat):Int)=0:=by rw [a];rfl
    generalize 2 ^ k=w at *
    have r:((0:Int) !=0)=false:=rfl;rcases ZS (show i<16 by omega) with rfl | rfl | rfl | rfl | rfl | rfl | rfl | rfl | rfl | rfl | rfl | rfl | rfl | rfl | rfl | rfl
    all_goals cases hp
    all_goals
     exact zqda0
  exact go _ rfl
def QO (age half:Int) (h1:age<=9223372036854775807) (t:half<=9223372036854775807) (R:Nat) (a:tM age half=R):ar 255 [ii age,ii half] [] (.ret (uu R)) []:=by
 unfold tM at a;have d:(((max age 0).toNat:Nat):Int)=max age 0:=o_;have c:(((max half 1).toNat:Nat):Int)=max half 1:=o_;have n:(max age 0).toNat<9223372036854775808:=o_;have p:0<(max half 1).toNat:=o_;have b:(max half 1).toNat<9223372036854775808:=o_;generalize (max age 0).toNat=A at *
 generalize (max half 1).toNat=H at *
 have i:=Z8 A H;have o:=aK2 A H;have s:A / H<=A:=Hb ..;have l:=Mf A H;by_cases e:63<A / H
 .rw [if_pos e] at a;subst a;generalize A / H=q at *
  refine c_ Tryz.f255 λ_=>?_;refine gV ?_;rw [<-d,<-c];refine Ac o_ ?_;refine gV ?_;rw [i];exact zW
 .rw [if_neg e] at a;have m:=AU ((A % H:Nat):Int) (H:Int) o_ o_;have k:=uZ ((A % H:Nat):Int) (H:Int);generalize IE ((A % H:Nat):Int) (H:Int)=T at *
  have j:=I8 T;have u:=aHj A H (T / 65536) o_ n p b o_ R 16 0 4294967296 o_ (Bc _) a;generalize T / 65536=f at *
  generalize A / H=q at *
  generalize A % H=r at *
  refine c_ Tryz.f255 λ_=>?_;refine gV ?_;rw [<-d,<-c];refine Ac o_ ?_;refine gV ?_;rw [i];refine aJ ?_;refine gV ?_;refine aF λ h=>?_;refine gV ?_;refine Ac o_ ?_;refine gV ?_;rw [o];refine .pure _ [] m ?_;refine gV ?_;rw [j];refine Ac d_ ?_;refine gV ?_;refine .pure _ [] O6 ?_;exact zW
def YB (age half:Int) (h1:age<=9223372036854775807) (a:half<=9223372036854775807):ar 255 [ii age,ii half] [] (.ret (uu (tM age half))) []:=QO age half h1 a _ rfl
def YP (x:Nat) (n m:Int):Nat:=if 0<n then max x (IE n m) else x
def YQ (u v:V3):Nat:=YP (YP (YP 0 u.a v.a) u.b v.b) u.c v.c
def JN {x:Nat} {n m:Int} (h:x<18446744073709551616):YP x n m<18446744073709551616:=by
 have:=uZ n m;unfold YP;split
 .omega
 .exact h
def aHe (u v:V3):YQ u v<18446744073709551616:=JN (JN (JN d_))
def aKY (v u:V3) (M:Imm) (ob:Hs) (vs:List Value) (h:cA M ob vs [v.av,u.av]):(inR .i64 v.a/\inR .i64 v.b/\inR .i64 v.c)/\inR .i64 u.a/\inR .i64 u.b/\inR .i64 u.c:=by
 have hl:1<vs.length:=by rw [h.1];simp
 have h1:=h.2 0 _ v.av (Aa o_) rfl;have d:=h.2 1 _ u.av (Aa hl) rfl;exact ⟨⟨cD h1 0 _ rfl,cD h1 1 _ rfl,cD h1 2 _ rfl⟩,cD d 0 _ rfl,cD d 1 _ rfl,cD d 2 _ rfl⟩
def aHd (u v:V3) (r:Nat) (d:YQ u v=r):ar 264 [u.av,v.av] [] (.ret (uu r)) []:=by
  refine aA.get _ (aKY u v) λ⟨⟨⟨a1,a2⟩,⟨b1,b2⟩,⟨c1,c2⟩⟩,⟨d1,d2⟩,⟨e1,e2⟩,⟨f1,f2⟩⟩=>?_;simp only [cJ,bE] at a1 a2 b1 b2 c1 c2 d1 d2 e1 e2 f1 f2;have h1:=AU u.a v.a o_ o_;have e:=AU u.b v.b o_ o_;have h3:=AU u.c v.c o_ o_;have l1:=uZ u.a v.a;have l2:=uZ u.b v.b;have l:=uZ u.c v.c;unfold YQ YP at d;generalize IE u.a v.a=p at *
  generalize IE u.b v.b=q at *
  generalize IE u.c v.c=s at *
  by_cases k:0<u.a<;>by_cases j:0<u.b<;>by_cases i:0<u.c<;>simp only [k,j,i,if_true,if_false] at d
  all_goals
   subst d;refine c_ Tryz.f264 λ_=>?_;refine gV ?_
   repeat' first
    | (refine gW hE ?_;conv=>whnf)
    | refine .pure _ [] h1 ?_
    | refine .pure _ [] e ?_
    | refine .pure _ [] h3 ?_
    | exact rfl
    | refine aY ?_
    | refine aN ?_
    | refine aT λ h=>?_
    | refine aF λ h=>?_
    | refine aJ ?_
    | refine Ao _ (Ac rfl ?_)
    | refine Ac d_ ?_
    | fail
   all_goals exact congrArg (λ n=>Res.ret (aa.int .u64 n)) o_
def aIz (v:V3) (h:Hos):V3:=fO v h.c
def BG (c:Con):V3:=c.hs.foldl aIz V3.zero
noncomputable abbrev aLS:Func:=Tryz.f261
def Z3 (l:List Hos) (hl:l.length<=1048576) (r:V3):∀ (m i:Nat) (v:V3),i+m=l.length->(l.drop i).foldl aIz v=r->
  To E aLS (.pure (.ret r.av)) (.head (stk aLS 0) [(2,.ref 0 0),(3,.ref 1 0),(7,.slice 6 (hav l) .no),(8,ii (l.length:Nat)),(9,ii i)] [.cells 43 V3.zero.cs,.cells 43 v.cs]):=by
 have d:(hav l).length=l.length:=by simp
 intro m;induction m with
 | zero=>
  intro i v g a;rw [Ah o_] at a;have a:v=r:=a;subst a;refine gV ?_;exact zW
 | succ m e=>
  intro i v g a;have b:i<l.length:=o_;rw [Ae b,Ba] at a;have ao:=e (i+1) _ o_ a
  have get:=vX b;generalize l[i]=x at get ao
  have f:=iB v x.c;unfold aIz at ao
  generalize fO v x.c=w at f ao
  refine gV ?_;exact zW
def Z1 (c:Con) (b:c.sm):ar 261 [c.av] [] (.ret (BG c).av) []:=by
 have a:(hav c.hs).length=c.hs.length:=by simp
 have h1:=b.hs;have ao:=Z3 c.hs o_ (BG c) c.hs.length 0 V3.zero o_ rfl
 generalize BG c=r at ao
 rw [<-a] at ao
 refine c_ Tryz.f261 λ_=>?_
 repeat' first | (refine gN hE ?_;conv=>whnf) | exact rfl | (refine zt ?_;try intro h) | refine zu (λ h=>?_) λ h=>?_ | fail
 refine To.part [2,3,7,8,9] [1,2] rfl rfl rfl ?_;exact ao
def dQ {α:Type} (d:Nat->α->Nat):List α->Nat->List Nat
 | [],_=>[]
 | x::r,i=>d i x::dQ d r (i+1)
def oA {α:Type} (d:Nat->α->Nat):∀ (l:List α) (i:Nat),(dQ d l i).length=l.length
 | [],_=>rfl
 | _::r,i=>by simp [dQ,oA d r (i+1)]
def GX {α:Type} (d:Nat->α->Nat):∀ (l:List α) (i k:Nat) (h:k<l.length),(dQ d l i)[k]? =some (d (i+k) l[k])
 | [],_,k,h=>absurd h s_
 | x::r,i,0,_=>rfl
 | x::r,i,k+1,h=>by have:=GX d r (i+1) k (by simpa using h);simp only [dQ,Fv,List.getElem_cons_succ];rw [this,show i+1+k=i+(k+1) by omega]
def aCx {l:List Nat} {i:Nat} (h:i<l.length):(fv l)[i]? =some (uu l[i]):=by simp [fv,h]
def LtF (l:List Nat):Prop:=∀ x∈l,x<18446744073709551616
def tE (c:Con) (i:Nat) (v:V3):Nat:=if bB c.ns (i:Int)=true then YQ v (BG c) else 0
def zS (c:Con) (l:List Rn):List Nat:=dQ (tE c) (ofL c l) 0
def tkS (a:List Nat) (n half:Int) (i:Nat) (x:Nat):Nat:=if i<a.length then EB (tI x (tM n half)) (tI ((a[i]?).getD 0) (ofF n)) else tI x (tM n half)
def tkL (h a:List Nat) (n half:Int):List Nat:=dQ (tkS a n half) h 0
def SD (c:Con):List Nat:=dQ (λ_ _=>0) c.ns 0
noncomputable abbrev aLP:Func:=Tryz.f262
abbrev aJ3 (c:Con):aa:=.func (.func 263) [] [.ptr c.cs,.ptr (BG c).cs]
def aCR (c:Con)  (l:List V3) (hl:l.length<=1048576) (hm:∀ (i:Nat) (h:i<l.length),ar 263 (ii i::l[i].av::[.ptr c.cs,.ptr (BG c).cs]) [] (.ret (uu ((tE c) i l[i]))) []) (R:List Nat):∀ (m i:Nat) (a:List Nat),i+m=l.length->a.length=i->a++dQ (tE c) (l.drop i) i=R->
  To (Eo [5] []) aLP (.pure (.ret (.slice 1 (fv R) .no))) (.head (stk aLP 0) [(1,aJ3 c),(5,.slice 1 (fv a) (.own 0 0)),(8,.slice 3 (vav l) .no),(9,ii (l.length:Nat)),(10,ii i)] [.tail 0 1 130]):=by
 have j:(vav l).length=l.length:=by simp
 intro m;induction m with
 | zero=>
  intro i a n o b;exact zqda4
 | succ m k=>
  intro i a n o b;have d:i<l.length:=o_;have get:=uJ d;have g:=hm i d;rw [Ae d] at b;generalize l[i]=x at get g b;have b:a++((tE c) i x::dQ (tE c) (l.drop (i+1)) (i+1))=R:=b;generalize (tE c) i x=y at g b;have ao:=k (i+1) (a++[y]) o_ q_ (by rw [Af];exact b)
  have e:fv (a++[y])=fv a++[uu y]:=by simp [fv]
  rw [e] at ao
  have p:(fv a).length=a.length:=by simp
  refine gV ?_;exact zW
def aKf (c:Con)  (l:List V3) (hl:l.length<=1048576) (hm:∀ (i:Nat) (h:i<l.length),ar 263 (ii i::l[i].av::[.ptr c.cs,.ptr (BG c).cs]) [] (.ret (uu ((tE c) i l[i]))) []):
  ar 262 [.slice 3 (vav l) .no,aJ3 c] [] (.ret (.slice 1 (fv (dQ (tE c) l 0)) .no)) []:=by
 have a:(vav l).length=l.length:=by simp
 have ao:=aCR c l hl hm (dQ (tE c) l 0) l.length 0 [] o_ rfl rfl
 generalize dQ (tE c) l 0=R at ao
 rw [<-a] at ao
 refine cT (E:=(Eo [5] [])) (fn:=Tryz.f262) (g:=.pure _) λ_=>?_;exact zW
noncomputable abbrev aLO:Func:=Tryz.f257
abbrev aJ2 (sh:List Nat) (n half:Int):aa:=.func (.func 258) [] [.ptr [uu (tM n half)],.ptr [.slice 1 (fv sh) .no],.ptr [uu (ofF n)]]
def aCQ (c:List Nat) (n half:Int)  (l:List Nat) (hl:l.length<=1048576) (hm:∀ (i:Nat) (h:i<l.length),ar 258 (ii i::uu l[i]::[.ptr [uu (tM n half)],.ptr [.slice 1 (fv c) .no],.ptr [uu (ofF n)]]) [] (.ret (uu ((tkS c n half) i l[i]))) []) (R:List Nat):∀ (m i:Nat) (a:List Nat),i+m=l.length->a.length=i->a++dQ (tkS c n half) (l.drop i) i=R->
  To (Eo [5] []) aLO (.pure (.ret (.slice 1 (fv R) .no))) (.head (stk aLO 0) [(1,aJ2 c n half),(5,.slice 1 (fv a) (.own 0 0)),(8,.slice 1 (fv l) .no),(9,ii (l.length:Nat)),(10,ii i)] [.tail 0 1 130]):=by
 have j:(fv l).length=l.length:=by simp
 intro m;induction m with
 | zero=>
  intro i a o p b;exact zqda4
 | succ m k=>
  intro i a o p b;have d:i<l.length:=o_;have get:=aCx d;have g:=hm i d;rw [Ae d] at b;generalize l[i]=x at get g b;have b:a++((tkS c n half) i x::dQ (tkS c n half) (l.drop (i+1)) (i+1))=R:=b;generalize (tkS c n half) i x=y at g b;have ao:=k (i+1) (a++[y]) o_ q_ (by rw [Af];exact b)
  have e:fv (a++[y])=fv a++[uu y]:=by simp [fv]
  rw [e] at ao
  have q:(fv a).length=a.length:=by simp
  refine gV ?_;exact zW
def aKe (a:List Nat) (n half:Int)  (l:List Nat) (hl:l.length<=1048576) (hm:∀ (i:Nat) (h:i<l.length),ar 258 (ii i::uu l[i]::[.ptr [uu (tM n half)],.ptr [.slice 1 (fv a) .no],.ptr [uu (ofF n)]]) [] (.ret (uu ((tkS a n half) i l[i]))) []):
  ar 257 [.slice 1 (fv l) .no,aJ2 a n half] [] (.ret (.slice 1 (fv (dQ (tkS a n half) l 0)) .no)) []:=by
 have b:(fv l).length=l.length:=by simp
 have ao:=aCQ a n half l hl hm (dQ (tkS a n half) l 0) l.length 0 [] o_ rfl rfl
 generalize dQ (tkS a n half) l 0=R at ao
 rw [<-b] at ao
 refine cT (E:=(Eo [5] [])) (fn:=Tryz.f257) (g:=.pure _) λ_=>?_;exact zW
noncomputable abbrev aLN:Func:=Tryz.f249
abbrev aJ1:aa:=.func (.func 250) [] []
def aCP   (l:List Nod) (hl:l.length<=1048576) (hm:∀ (i:Nat) (h:i<l.length),ar 250 (ii i::l[i].av::[]) [] (.ret (uu ((λ_ _=>0) i l[i]))) []) (R:List Nat):∀ (m i:Nat) (a:List Nat),i+m=l.length->a.length=i->a++dQ (λ_ _=>0) (l.drop i) i=R->
  To (Eo [5] []) aLN (.pure (.ret (.slice 1 (fv R) .no))) (.head (stk aLN 0) [(1,aJ1),(5,.slice 1 (fv a) (.own 0 0)),(8,.slice 11 (nav l) .no),(9,ii (l.length:Nat)),(10,ii i)] [.tail 0 1 130]):=by
 have g:(nav l).length=l.length:=by simp
 intro m;induction m with
 | zero=>
  intro i a k n b;exact zqda4
 | succ m j=>
  intro i a k n b;have c:i<l.length:=o_;have get:=kL c;have d:=hm i c;rw [Ae c] at b;generalize l[i]=x at get d b;have b:a++((λ_ _=>0) i x::dQ (λ_ _=>0) (l.drop (i+1)) (i+1))=R:=b;generalize (λ_ _=>0) i x=y at d b;have ao:=j (i+1) (a++[y]) o_ q_ (by rw [Af];exact b)
  have e:fv (a++[y])=fv a++[uu y]:=by simp [fv]
  rw [e] at ao
  have o:(fv a).length=a.length:=by simp
  refine gV ?_;exact zW
def aKd   (l:List Nod) (hl:l.length<=1048576) (hm:∀ (i:Nat) (h:i<l.length),ar 250 (ii i::l[i].av::[]) [] (.ret (uu ((λ_ _=>0) i l[i]))) []):
  ar 249 [.slice 11 (nav l) .no,aJ1] [] (.ret (.slice 1 (fv (dQ (λ_ _=>0) l 0)) .no)) []:=by
 have a:(nav l).length=l.length:=by simp
 have ao:=aCP  l hl hm (dQ (λ_ _=>0) l 0) l.length 0 [] o_ rfl rfl
 generalize dQ (λ_ _=>0) l 0=R at ao
 rw [<-a] at ao
 refine cT (E:=(Eo [5] [])) (fn:=Tryz.f249) (g:=.pure _) λ_=>?_;exact zW
def aKt (u v:V3):ar 264 [u.av,v.av] [] (.ret (uu (YQ u v))) []:=aHd u v _ rfl
def aEO (c:Con) (i:Nat) (v:V3):ar 263 [ii i,v.av,.ptr c.cs,.ptr (BG c).cs] [] (.ret (uu (tE c i v))) []:=by
 have h1:=jF c (i:Int);have d:=aKt v (BG c);unfold tE;generalize BG c=a at *
 generalize YQ v a=y at *
 cases b:bB c.ns (i:Int) with
 | true=>
  rw [b] at h1;exact c_ Tryz.f263 λ_=>zW
 | false=>
  rw [b] at h1;exact c_ Tryz.f263 λ_=>zW
def WU (c:Con) (b:c.sm) (l:List Rn) (hl:l.length<=1048576):ar 212 [c.av,.slice 14 (rav l) .no] [] (.ret (.slice 1 (fv (zS c l)) .no)) []:=by
 have h1:=Z1 c b;have j:=MD c b l hl;have e:=b.ns;have d:(ofL c l).length=c.ns.length:=by unfold ofL lX;simp
 have h3:=aKf c (ofL c l) o_ λ i h=>aEO c i _;unfold zS;unfold aJ3 at h3;generalize dQ (tE c) (ofL c l) 0=R at *
 generalize ofL c l=us at *
 generalize BG c=a at *
 exact c_ Tryz.f212 λ_=>zW
def aIG (a:List Nat) (hs:LtF a) (hsl:a.length<=1048576) (n half:Int) (i x:Nat) (e:x<18446744073709551616):ar 258 [ii i,uu x,.ptr [uu (tM n half)],.ptr [.slice 1 (fv a) .no],.ptr [uu (ofF n)]] [] (.ret (uu (tkS a n half i x))) []:=by
 have j:=aGE n half;have d:=P4 n;have h1:=JB x (tM n half) e o_;have l1:=IT x (tM n half);have c:(fv a).length=a.length:=by simp
 unfold tkS;generalize tM n half=f at *
 generalize ofF n=t at *
 generalize tI x f=y at *
 by_cases b:i<a.length
 .rw [if_pos b,Aa b];have get:=aCx b;have hz:=hs _ (Bh b);show aA _ _ _ _ (.ret (uu (EB y (tI a[i] t)))) _;generalize a[i]=z at *
  have h:=JB z t hz d;have l2:=IT z t;generalize tI z t=w at *
  have h3:=U5 y w l1 l2;generalize EB y w=r at *
  exact c_ Tryz.f258 λ_=>zW
 .rw [if_neg b];exact c_ Tryz.f258 λ_=>zW
def aEN (c:Con) (l:List Rn):LtF (zS c l):=by
 intro x b;obtain ⟨k,a,e⟩:=Iv b;unfold zS at a e;rw [oA] at a;have:=GX (tE c) (ofL c l) 0 k a;rw [Aa (by rw [oA];exact a),e] at this;cases this;unfold tE;split
 .exact aHe _ _
 .decide
def aEv (h a:List Nat) (c:LtF h) (hl:h.length<=1048576) (hs:LtF a) (hsl:a.length<=1048576) (n half:Int) (b:n<=9223372036854775807) (d:half<=9223372036854775807):ar 211 [.slice 1 (fv h) .no,.slice 1 (fv a) .no,ii n,ii half] [] (.ret (.slice 1 (fv (tkL h a n half)) .no)) []:=by
 have h1:=YB n half b d;have j:=QM n;have h3:=aKe a n half h hl λ i e=>aIG a hs hsl n half i _ (c _ (Bh e));unfold tkL;unfold aJ2 at h3;generalize dQ (tkS a n half) h 0=R at *
 generalize tM n half=f at *
 generalize ofF n=t at *
 exact c_ Tryz.f211 λ_=>zW
def aKV (i:Nat) (x:Nod):ar 250 [ii i,x.av] [] (.ret (uu 0)) []:=by exact c_ Tryz.f250 λ_=>zW
def aD9 (c:Con) (a:c.sm):ar 203 [c.av] [] (.ret (.slice 1 (fv (SD c)) .no)) []:=by
 have b:=a.ns;have h3:=aKd c.ns o_ λ i h=>aKV i _;unfold SD;unfold aJ1 at h3;generalize dQ (λ_ _=>0) c.ns 0=R at *
 exact c_ Tryz.f203 λ_=>zW
def iQ (a:Int) (l:List Pn):Int:=Q2.ak a (l.map Pn.q)
def dI (l:List Pn) (a:Int):List Pn:=if iQ a l<0 then l else l.eraseIdx (iQ a l).toNat
def jO (l:List Pn) (p:Pn):List Pn:=l.take (Q2.putAt p.q (l.map Pn.q))++[p]++l.drop (Q2.putAt p.q (l.map Pn.q))
def aEw (l:List Pn) (a:Int):(dI l a).map Pn.q=Q2.takeP (l.map Pn.q) a:=by
 unfold dI Q2.takeP iQ;split
 .rfl
 .simp [Ga,Gh,Ix]
def aBb (l:List Pn) (p:Pn):(jO l p).map Pn.q=Q2.putP (l.map Pn.q) p.q:=by unfold jO Q2.putP;simp [Gh,Ix]
def aA9 (l:List Pn) (a:Int):ar 205 [.slice 11 (pnv l) .no,ii a] [] (.ret (ii (iQ a l))) []:=by have h:=Q2.find_ok (l.map Pn.q) a;rw [yT] at h;exact h
def IG (l:List Pn) (p:Pn) (hl:l.length<=1000000):ar 180 [.slice 11 (pnv l) .no,p.av] [] (.ret (.slice 11 (pnv (jO l p)) .no)) []:=by have h:=Q2.put_ok (l.map Pn.q) p.q (by simpa using hl);rw [<-aBb,yT,yT] at h;exact h
def qO (l:List Pn) (a:Int) (hl:l.length<=1000000):ar 138 [.slice 11 (pnv l) .no,ii a] [] (.ret (.tup [.slice 11 (pnv (dI l a)) .no,.bool (!decide (iQ a l<0))])) []:=by have h:=Q2.take_ok (l.map Pn.q) a (by simpa using hl);rw [<-aEw,yT,yT] at h;exact h
structure Ev where
 (k id n:Int)
 deriving DecidableEq
def Ev.cs (e:Ev):List aa:=[ii e.k,ii e.id,ii e.n]
def Ev.av (e:Ev):aa:=.agg e.cs
abbrev evv (l:List Ev):List aa:=l.map Ev.av
structure Rd where
 s:Sta
 ev:List Ev
 head:Bool
 start:Int
def OY (r:Rd) (p:Pn) (fl:Int) (hs:List Int):Rd:=
 ⟨{r.s with pend:=dI r.s.pend p.g.id,run:=r.s.run++[⟨p.g,p.seq,p.at',r.s.now,fl,hs⟩]},r.ev++[⟨1,p.g.id,fl⟩],r.head,r.start⟩
def EZ (r:Rd) (p:Pn):Option (Int×List Int)->Rd×Bool
 | none=>(r,false)
 | some (fl,hs)=>if (r.head&& !bmB r.s.now p.g r.start)=true then (r,false) else (OY r p fl hs,true)
def admR (r:Rd) (p:Pn):Rd×Bool:=EZ r p (cK r.s.c r.s.run p.g)
def dO (run:List Rn) (r:Rd) (id:Int):Rd:=
 let x:=aS run (aR (λ x=>x.g.id==id) run 0).toNat
 ⟨{r.s with pend:=jO r.s.pend x.pn},r.ev++[⟨2,id,0⟩],r.head,r.start⟩
def mJ (r:Rd) (ids:List Int):Rd:=
 let q:=ids.foldl (dO r.s.run) r
 ⟨{q.s with run:=aE r.s.run ids},q.ev,q.head,q.start⟩
def oQ (r:Rd) (p:Pn):Option Int->Rd
 | none=>r
 | some n=>⟨r.s,r.ev++[⟨4,p.g.id,n⟩],true,n⟩
def aIa (r:Rd) (p:Pn):Option (List Int)->Rd
 | some ids=>(admR (mJ r ids) p).1
 | none=>oQ r p (sY r.s.c r.s.now r.s.run p.g)
def cQ (r:Rd) (p:Pn):Rd:=
 if (admR r p).2=true then (admR r p).1 else if r.head=true then r else aIa r p (gE r.s.c r.s.run p.g)
def iA (a b:Int):Int:=if a<b then -1 else if b<a then 1 else 0
def O8 (c:Con) (h:List Nat) (n:Int):Nat:=(bQ c.ns n).foldl (λ x t=>if t<(h.length:Int) then EB x ((h[t.toNat]?).getD 0) else x) 0
def aKW (c:Con) (n:Int):Int:=if 0<=n/\n<(c.ns.length:Int) then max 1 (cW c.ns n).w else 1
def nQ (c:Con) (h:List Nat) (n:Int):Nat:=AA (O8 c h n) (ofF (aKW c n))
def sK (c:Con) (h:List Nat) (x y:Int):Int:=if nQ c h x<nQ c h y then -1 else if nQ c h y<nQ c h x then 1 else iA x y
def gT (c:Con) (h:List Nat):List Int->List Int->Int
 | [],[]=>0
 | [],_::_=> -1
 | _::_,[]=>1
 | x::p,y::q=>if x=y then gT c h p q else sK c h x y
def sJ (c:Con) (now:Int) (p:Pn):Bool:=decide (0<c.age)&&(decide (p.at'<=now)&&decide (c.age<=now-p.at'))
def ptC (s:Sta) (a b:Pn):Int:=gT s.c s.hist (fB s.c.ns a.g.ten) (fB s.c.ns b.g.ten)
def iO (s:Sta) (a b:Pn):Int:=
 if sJ s.c s.now a=true then (if sJ s.c s.now b=true then iA a.seq b.seq else -1)
 else if sJ s.c s.now b=true then 1 else (if ptC s a b=0 then iA a.seq b.seq else ptC s a b)
def ltP (s:Sta) (a b:Pn):Bool:=decide (iO s a b<0)
def oV {a b:Int}:iA a b<0↔a<b:=by
 unfold iA
 repeat' split
 all_goals omega
def aBx {a b:Int}:iA a b=0↔a=b:=by
 unfold iA
 repeat' split
 all_goals omega
def aFE {a b:Int}:0<iA a b↔b<a:=by
 unfold iA
 repeat' split
 all_goals omega
def aFI {c:Con} {h:List Nat} {x y:Int}:sK c h x y<0↔nQ c h x<nQ c h y\/(nQ c h x=nQ c h y/\x<y):=by
 have:=oV (a:=x) (b:=y);unfold sK
 repeat' split
 all_goals omega
def aFJ {c:Con} {h:List Nat} {x y:Int}:0<sK c h x y↔sK c h y x<0:=by
 have h1:=aFE (a:=x) (b:=y);have d:=oV (a:=y) (b:=x);unfold sK
 repeat' split
 all_goals omega
def aBE {c:Con} {h:List Nat} {x y:Int}:sK c h x y=0↔x=y:=by
 have h1:=aBx (a:=x) (b:=y);unfold sK;constructor
 .intro hz
  repeat' split at hz
  all_goals omega
 .rintro rfl;rw [if_neg o_,if_neg o_];exact h1.2 rfl
def sW {c:Con} {h:List Nat}:∀ {p q:List Int},gT c h p q=0↔p=q
 | [],[]=>by simp [gT]
 | [],_::_=>by simp [gT]
 | _::_,[]=>by simp [gT]
 | x::p,y::q=>by
  unfold gT;by_cases e:x=y
  .rw [if_pos e,sW];subst e;simp
  .rw [if_neg e];have:=aBE (c:=c) (h:=h) (x:=x) (y:=y);constructor
   .intro h1;exact absurd (this.1 h1) e
   .intro h1;cases h1;exact absurd rfl e
def ST {c:Con} {h:List Nat}:∀ {p q:List Int},0<gT c h p q↔gT c h q p<0
 | [],[]=>by simp [gT]
 | [],_::_=>by simp [gT]
 | _::_,[]=>by simp [gT]
 | x::p,y::q=>by
  unfold gT;by_cases e:x=y
  .subst e;rw [if_pos rfl,if_pos rfl];exact ST
  .rw [if_neg e,if_neg (λ h=>e h.symm)];exact aFJ
def aFG {c:Con} {h:List Nat} {x y z:Int} (h1:sK c h x y<0) (a:sK c h y z<0):sK c h x z<0:=by
 rw [aFI] at *
 omega
def SR {c:Con} {h:List Nat}:∀ {p q r:List Int},gT c h p q<0->gT c h q r<0->gT c h p r<0
 | [],[],_,h1,_=>by simp [gT] at h1
 | [],_::_,[],_,h2=>by simp [gT] at h2
 | [],_::_,_::_,_,_=>by simp [gT]
 | _::_,[],_,h1,_=>by simp [gT] at h1
 | _::_,_::_,[],_,h2=>by simp [gT] at h2
 | x::p,y::q,z::r,h1,h2=>by
  unfold gT at *
  by_cases b:x=y
  .subst b;rw [if_pos rfl] at h1;by_cases a:x=z
   .rw [if_pos a] at h2⊢;exact SR h1 h2
   .rw [if_neg a] at h2⊢;exact h2
  .rw [if_neg b] at h1;by_cases a:y=z
   .subst a;rw [if_neg b];exact h1
   .rw [if_neg a] at h2;have h3:=aFG h1 h2;by_cases d:x=z
    .subst d;have:=(aBE (c:=c) (h:=h) (x:=x) (y:=x)).2 rfl;omega
    .rw [if_neg d];exact h3
def gS (s:Sta):Ord (ltP s) where
 irr a:=by have h1:=(sW (c:=s.c) (h:=s.hist) (p:=fB s.c.ns a.g.ten)).2 rfl;have h2:=(aBx (a:=a.seq) (b:=a.seq)).2 rfl;unfold ltP iO ptC;rw [h1,h2];split<;>simp
 tr a b c h1 h2:=by
  unfold ltP iO at *
  simp only [decide_eq_true_eq] at *
  have n1:=oV (a:=a.seq) (b:=b.seq);have n2:=oV (a:=b.seq) (b:=c.seq);have n3:=oV (a:=a.seq) (b:=c.seq);have t1:=sW (c:=s.c) (h:=s.hist) (p:=fB s.c.ns a.g.ten) (q:=fB s.c.ns b.g.ten);have t2:=sW (c:=s.c) (h:=s.hist) (p:=fB s.c.ns b.g.ten) (q:=fB s.c.ns c.g.ten);cases ha:sJ s.c s.now a<;>cases hb:sJ s.c s.now b<;>cases hc:sJ s.c s.now c<;>simp only [ha,hb,hc,if_true,if_false,reduceIte,Cp] at * <;>try omega
  by_cases z1:ptC s a b=0
  .have e1:=t1.1 z1;rw [if_pos z1] at h1;have e3:ptC s a c=ptC s b c:=by unfold ptC;rw [e1]
   rw [e3];split at h2
   .rename_i z;rw [if_pos z];omega
   .rename_i z;rw [if_neg z];exact h2
  .rw [if_neg z1] at h1;by_cases z2:ptC s b c=0
   .have e2:=t2.1 z2;have e3:ptC s a c=ptC s a b:=by unfold ptC;rw [e2]
    rw [e3,if_neg z1];exact h1
   .rw [if_neg z2] at h2;have h3:ptC s a c<0:=SR h1 h2;rw [if_neg o_];exact h3
def aFY (s:Sta) {a b:Pn} (h:a.seq≠b.seq):ltP s a b=true\/ltP s b a=true:=by
 unfold ltP iO;simp only [decide_eq_true_eq];have n1:=oV (a:=a.seq) (b:=b.seq);have n2:=oV (a:=b.seq) (b:=a.seq);have e:=sW (c:=s.c) (h:=s.hist) (p:=fB s.c.ns a.g.ten) (q:=fB s.c.ns b.g.ten);have d:=sW (c:=s.c) (h:=s.hist) (p:=fB s.c.ns b.g.ten) (q:=fB s.c.ns a.g.ten);have i:=ST (c:=s.c) (h:=s.hist) (p:=fB s.c.ns a.g.ten) (q:=fB s.c.ns b.g.ten);cases f:sJ s.c s.now a<;>cases j:sJ s.c s.now b<;>simp only [if_true,if_false,reduceIte,Cp]<;>try omega
 unfold ptC;by_cases z:gT s.c s.hist (fB s.c.ns a.g.ten) (fB s.c.ns b.g.ten)=0
 .rw [if_pos z,if_pos (d.2 (e.1 z).symm)];omega
 .rw [if_neg z,if_neg (λ h=>z (e.2 (d.1 h).symm))];omega
def aAe (h:List Nat) (x:Nat) (t:Int):Nat:=if t<(h.length:Int) then EB x ((h[t.toNat]?).getD 0) else x
def S2 {h:List Nat} {x:Nat} {t:Int} (a:x<18446744073709551616):aAe h x t<18446744073709551616:=by
 unfold aAe;split
 .exact V4 _ _
 .exact a
def aED (c:Con) (h:List Nat) (n:Int):O8 c h n<18446744073709551616:=by
 have go:∀ (l:List Int) (x:Nat),x<18446744073709551616->l.foldl (aAe h) x<18446744073709551616:=λ l=>by
  induction l with
  | nil=>exact λ x b=>b
  | cons a l d=>exact λ x b=>d _ (S2 b)
 exact go _ _ d_
noncomputable abbrev aGI:Func:=Tryz.f269
def YC (h:List Nat) (n:LtF h) (hl:h.length<=1048576) (l:List Int) (k:∀ t∈l,0<=t) (j:l.length<=1048576) (R:Nat):∀ (m i x:Nat),i+m=l.length->x<18446744073709551616->(l.drop i).foldl (aAe h) x=R->
  To E aGI (.pure (.ret (uu R))) (.head (stk aGI 0) [(1,.slice 1 (fv h) .no),(7,uu x),(12,.slice 1 (iv l) .no),(13,ii (l.length:Nat)),(14,ii i)] []):=by
 have f:(iv l).length=l.length:=by simp
 have g:(fv h).length=h.length:=by simp
 intro m;induction m with
 | zero=>
  intro i x o d a;rw [Ah o_] at a;have a:x=R:=a;subst a;refine gV ?_;exact zW
 | succ m e=>
  intro i x o d a;have c:i<l.length:=o_;have get:=fJ c;have p:=k _ (Bh c);rw [Ae c,Ba] at a;have ao:=e (i+1) _ o_ (S2 d) a
  clear a e;generalize l[i]=t at *
  unfold aAe at ao
  by_cases h1:t<(h.length:Int)
  .rw [if_pos h1] at ao
   have b:t.toNat<h.length:=o_;have q:t=(t.toNat:Int):=o_;have r:=aCx b;have hz:=n _ (Bh b);rw [Aa b] at ao
   have ao:To E aGI (.pure (.ret (uu R))) (.head (stk aGI 0) [(1,.slice 1 (fv h) .no),(7,uu (EB x h[t.toNat])),(12,.slice 1 (iv l) .no),(13,ii (l.length:Nat)),(14,ii ((i:Int)+1))] []):=ao
   generalize h[t.toNat]=z at *
   have s:=U5 x z d hz;generalize EB x z=y at *
   refine gV ?_;exact zW
  .rw [if_neg h1] at ao
   refine gV ?_;exact zW
def aGH (c:Con) (e:c.sm) (h:List Nat) (j:LtF h) (hl:h.length<=1048576) (n:Int):ar 269 [c.av,.slice 1 (fv h) .no,ii n] [] (.ret (uu (O8 c h n))) []:=by
 have k:=OM c e n;have d:∀ t∈bQ c.ns n,0<=t:=λ t i=>(kO c n t i).1;have b:(bQ c.ns n).length<=1048576:=yG c e n;have ao:=YC h j hl (bQ c.ns n) d b (O8 c h n) (bQ c.ns n).length 0 0 o_ d_ rfl
 generalize O8 c h n=R at *
 generalize bQ c.ns n=l at *
 have a:(iv l).length=l.length:=by simp
 try rw [<-a] at ao
 exact c_ Tryz.f269 λ_=>zW
end Go.Proofs.YtidhfoefaomodaaGreatDoor
namespace Go.AW
open Go.RowKit
def MK:BInv:=⟨λ_ bs _=>bs=[],λ_ _ _ h=>h⟩
def T1:∀ (l:List ab) (k:Nat) (h:k<l.length),aC l k=l[k]
 | _::_,0,_=>rfl
 | _::r,k+1,h=>T1 r k (by simpa using h)
def Mem.bury {M:Imm} {ob:Hs} {ac:List ab} {w:World} (hm:Mem M ob ac w) {k n:Nat} {d:List Value} (B:ac[k]? =some .dead) (t:ob[k]? =some d) (hl:d.length=n+1):
  Mem M (ob.set k (d++[dR []])) (ac.set k (.bun (n+1) MK)) w/\Ext M ob ac w M (ob.set k (d++[dR []])) (ac.set k (.bun (n+1) MK)) w/\dE ob (ob.set k (d++[dR []])):=by
 have r:k<ac.length:=(Ab.1 B).1;have g:k<ob.length:=(Ab.1 t).1;have i:dE ob (ob.set k (d++[dR []])):=λ j hs f=>by
  by_cases e:k=j
  .subst e;rw [t] at f;cases f;exact ⟨_,Ar g,List.prefix_append _ _⟩
  .exact ⟨hs,by rw [Ay e];exact f,Cn _⟩
 have m:blk (d++[dR []])=[]:=A0 s_;have p:∀ {j b:Nat},aG (ob.set k (d++[dR []])) (ac.set k (.bun (n+1) MK)) j b->aG ob ac j b:=λ{j b} ⟨c,hs,q,o,e3,e4⟩=>by
  by_cases e:k=j
  .subst e;rw [Ar g] at e3;cases e3;rw [m] at e4;cases e4
  .rw [Ay e] at q e3;exact ⟨c,hs,q,o,e3,e4⟩
 have s:∀ (j:Nat) c,(ac.set k (.bun (n+1) MK))[j]? =some c->∃ hs,(ob.set k (d++[dR []]))[j]? =some hs/\gQ M (ob.set k (d++[dR []])) w hs c:=λ j c f=>by
  by_cases e:k=j
  .subst e;rw [Ar r] at f;cases f;refine ⟨_,Ar g,by simp [hl],[],?_,λ b A=>(by cases A),rfl⟩;rw [Ak o_,hl];simp
  .rw [Ay e] at f;obtain ⟨hs,q,o⟩:=hm.obj j c f;refine ⟨hs,by rw [Ay e];exact q,?_⟩;cases c with
   | cells I cs'=>
    obtain ⟨b,x,G,cv,u,H,y,F⟩:=o;exact ⟨b,x,G,cv,u,H,y,λ n v a C l=>(F n v a C l).mono (λ_ _ _ h=>h) i⟩
   | _=>exact o
 exact ⟨⟨hm.imm,by simp [hm.len],s,λ j b l=>hm.lt j b (p l),λ j D b h1 z=>hm.inj j D b (p h1) (p z)⟩,⟨λ_ _ _ h=>h,λ_ _ _ h=>.inl h,i,rfl,rfl,rfl,Bc _,λ_ _ _=>rfl,λ j b l=>.inl ⟨j,p l⟩⟩,i⟩
def To.bury {E:Env} {fn:Func} {g:Goal} {st:List KI} {fr:List (Nat×aa)} {ac:List ab} (k:Nat) (r:aC ac k= .dead) (i:Ff k g.n0=true) (h:∀ n,To E fn g (.code st fr (bJ ac k (.bun (n+1) MK)))) (d:g.strict=true:=by rfl):To E fn g (.code st fr ac):=
 .mk λ l M0 ob0 c w0 a w hst hs=>by
  obtain ⟨M,ob,m,hm,j,y,v,z⟩:=hs;have e:k<ob0.length:=by rw [hst.1];simpa [Jw] using i
  obtain ⟨hs,x,u⟩:=m.hs k _ (Aa e);have q:=hst.2 d _ (Bh e)
  obtain ⟨n,i⟩:∃ n,hs.length=n+1:=⟨hs.length-1,by have:=u.length_le;omega⟩
  have b:ac[k]? =some .dead:=by have f:k<ac.length:=o_;rw [Aa f];rw [<-T1 ac k f,r]
  obtain ⟨p,s,o⟩:=hm.bury b x i;refine (h n).rec λ h=>h l M0 ob0 c w0 a w hst ?_;rw [aO b];exact ⟨M,_,m.trans s,p,λ t=>(j t).mono (λ_ _ _ h=>h) o,y,v.mono (λ_ _ _ h=>h) o,by simp;omega⟩
end Go.AW
namespace Go.Proofs.YtidhfoefaomodaaGreatDoor
open Go Go.AW Go.Proofs
set_option maxRecDepth 10000
def aMv (f:aa):List (Nat×aa):=[(2,.ref 1 0),(6,f)]
def OT (a:List Int) (g:Nat) (o:ab):List ab:=[.dead,.cells 48 [.row 2 g],.row g 1 3 (iv a),o]
def O2 {i:Nat} (h:i<=12):i=0\/i=1\/i=2\/i=3\/i=4\/i=5\/i=6\/i=7\/i=8\/i=9\/i=10\/i=11\/i=12:=o_
def aDQ (f:aa) (a:List Int) (x:Int) (g:Nat) (b:g<=12) (hl:a.length=g) (l:Nat) (R:Loop) (c:R.state= .ready):
  To (El l [] [] []) pZ (.keep 4 (.ret (.bool true)) (OT (a++[x]) (g+1) (.bun 0 (bY l (busy R))))) (.code [.code (rfA pZ),.beginR,.code (rfB pZ)] (Go.AW.bW (aMv f) 7 (ii x)) (OT a g (.bun 0 (bY l R)))):=by
 rcases O2 b with rfl | rfl | rfl | rfl | rfl | rfl | rfl | rfl | rfl | rfl | rfl | rfl | rfl
 all_goals
  have d:(iv a).length=a.length:=by simp
  have e:iv (a++[x])=iv a++[ii x]:=by simp
  unfold OT;rw [e];refine gV ?_;refine To.beginR (k:=3) (gg:=0) rfl rfl c ?_;exact zW
def auJ (f:aa) (ob0:Hs) (R:Loop) (l:Nat) (a:List Int):BInv:=iZ ob0 (aMv f) R (OT a a.length (.bun 0 (bY l R)))
def aDP {i d:Code} (f:aa) (ob0:Hs) (l:Nat) (R:Loop) (a:List Int) (x:Int) (hl:a.length<=12) (c:RecOK pZ 7 i d R) (q:rfA pZ=i) (m:rfB pZ=d):
  bN Tryz.prog (.yield l) [ii x] [.bun 0 (auJ f ob0 R l a)] (.ret (.bool true)) [.bun 1 (auJ f ob0 R l (a++[x]))]:=by
 subst q m;unfold auJ;have rd:=λ g (o:g<=12) h=>aDQ f a x g o h l R c.ready;have e:(a++[x]).length=a.length+1:=by simp
 obtain ⟨g,j⟩:∃ g,a.length=g:=⟨_,rfl⟩
 rw [e];rw [j] at hl⊢;rcases O2 hl with rfl | rfl | rfl | rfl | rfl | rfl | rfl | rfl | rfl | rfl | rfl | rfl | rfl
 all_goals
  exact gI (E:=Ex [] [] []) (fn:=pZ) (k:=3) (n:=4) (p:=7) (gg:=0) (L':=OT (a++[x]) _ (.bun 0 (bY l (busy R)))) (b:=true) c.params c.ready c.pend c.assign c.body c.size rfl rfl rfl rfl rfl rfl rfl λ_=>rd _ hl j
def E2 {P:Program} {l B:Nat} (F:List Int->BInv) (h:∀ (a:List Int) x,a.length<=B->bN P (.yield l) [ii x] [.bun 0 (F a)] (.ret (.bool true)) [.bun 1 (F (a++[x]))]):∀ (xs a:List Int),a.length+xs.length<=B+1->Ylds P l xs (F a) (F (a++xs)) true
 | [],a,_=>by rw [Av];exact .nil _
 | x::r,a,hl=>by have:=E2 F h r (a++[x]) (by simp at hl⊢;omega);rw [Af] at this;exact .next x r _ _ _ _ (h a x (by simp at hl;omega)) this
abbrev aEm (c:Con):aa:=.func (.func 192) [] [.ref 0 0,.ptr c.cs]
def aHR (c:Con) (j:c.sm) (n:Int) (i:(upL c.ns n).length<=12):ar 266 [.nilslice,aEm c] [.cells 3 [ii n]] (.ret (.row 1 0)) [.bun 1 MK,.row 0 1 3 (iv (upL c.ns n))]:=by
 have h:((nav c.ns).length:Int)<=9223372036854775807:=by have:=j.ns;simp only [Ch];omega
 refine cT (E:=E) (fn:=Tryz.f266) (g:=.full 1 _ _) λ_=>?_;refine gV ?_;refine To.cutC [2,6] 2 rfl rfl rfl rfl ?_;refine To.mapO (aFK 1) (MJ 1) ?_;refine To.beginRow 1 0 3 rfl rfl ?_;refine To.range [0] rfl rfl (λ_ _=>by rfl) rfl (λ_ _=>rfl) rfl λ l ob0 R hst o=>?_;have a:=E2 (P:=Tryz.prog) (l:=l) (B:=12) (auJ (aEm c) ob0 R l) (λ e x hl=>aDP (aEm c) ob0 l R e x hl o rfl rfl) (upL c.ns n) [] q_;rw [Bn] at a;unfold auJ at a;have b:([]:List Int).length=0:=rfl;rw [b] at a
 obtain ⟨q,p⟩:∃ q,(upL c.ns n).length=q:=⟨_,rfl⟩
 rw [p] at a i;rcases O2 i with rfl | rfl | rfl | rfl | rfl | rfl | rfl | rfl | rfl | rfl | rfl | rfl | rfl
 all_goals
  obtain ⟨m,k,d⟩:=HW l c n _ _ true h a;refine ⟨_,true,_,[.cells 3 [m]],k,d,rfl,rfl,?_⟩;refine To.bury 0 rfl rfl λ z=>?_;refine gV ?_;refine ⟨[],[0,2],⟨rfl,rfl⟩,rfl,?_⟩;show [ab.bun (match gm 1 0 (z+1) (z+1) with | some g=>g | none=>0) MK,_]=_;rw [mH];rfl
def aHx (c:Con) (a:c.sm) (n:Int) (b:(upL c.ns n).length<=12):ar 228 [aEm c] [.cells 3 [ii n]] (.ret (.row 1 0)) [.bun 1 MK,.row 0 1 3 (iv (upL c.ns n))]:=by have h:=aHR c a n b;generalize upL c.ns n=l at h;refine cT (E:=E) (fn:=Tryz.f228) (g:=.full 1 _ _) λ_=>?_;exact zW
def TC {α:Type} (A M B:List α) (x y:α):((A++x::(M++[y])++B).set A.length y).set (A.length+M.length+1) x=A++[y]++M++x::B:=by
 have e:A++x::(M++[y])++B=A++x::(M++y::B):=by simp
 rw [e,Gy _ _ o_,Gy _ _ o_];rw [show A.length-A.length=0 by omega,show A.length+M.length+1-A.length=M.length+1 by omega];simp
noncomputable abbrev aGJ:Func:=Tryz.f229
def aAQ (R:List Int):∀ (n:Nat) (A M B:List Int),M.length<=n->A.length+M.length+B.length<=1048576->A++M.reverse++B=R->
  To (Er [] [14,16,17]) aGJ (.full 1 (.ret (.tup [])) [.row 0 1 3 (iv R)]) (.head (stk aGJ 0) [(0,.row 0 0),(2,ii (A.length:Nat)),(3,ii ((A.length:Int)+M.length-1))] [.row 0 1 3 (iv (A++M++B))]):=by
 intro n;induction n with
 | zero=>
  intro A M B d hl a;have d:M=[]:=Cl.1 o_;subst d;have a:A++[]++B=R:=a;rw [a];have e:(([]:List Int).length:Int)=0:=rfl;rw [e];refine gV ?_;exact zW
 | succ n w=>
  intro A M B d hl a;by_cases c:M.length<2
  .have v:M.reverse=M:=by
    match M,c with
    | [],_=>rfl
    | [_],_=>rfl
   rw [v] at a;rw [a];refine gV ?_;exact zW
  .obtain ⟨x,M',y,rfl⟩:∃ x M' y,M=x::(M'++[y]):=by
    match M,c with
    | x::r,c=>
     have g:r≠[]:=λ e=>by subst e;simp at c
     exact ⟨x,r.dropLast,r.getLast g,by rw [Ku]⟩
   have ao:=w (A++[y]) M' (x::B) (by simp at d;omega) (by simp at hl⊢;omega) (by rw [<-a];simp)
   have q:(iv (A++x::(M'++[y])++B))[A.length]? =some (ii x):=by simp
   have o:(iv (A++x::(M'++[y])++B))[A.length+M'.length+1]? =some (ii y):=by rw [show A++x::(M'++[y])++B=(A++x::M')++y::B by simp];simp only [Bm];rw [Ak q_];simp only [Ch,Ai,Al,Bl];rw [show A.length+M'.length+1-(A.length+(M'.length+1))=0 by omega];rfl
   have p:((A.length:Int)+((x::(M'++[y])).length:Nat)-1)=((A.length+M'.length+1:Nat):Int):=by simp;omega
   have f:(iv (A++x::(M'++[y])++B)).length=A.length+M'.length+2+B.length:=by simp;omega
   have es:((iv (A++x::(M'++[y])++B)).set A.length (ii y)).set (A.length+M'.length+1) (ii x)=iv (A++[y]++M'++x::B):=by rw [<-TC A M' B x y];simp only [iv,Gr]
   have m:((A++[y]).length:Int)=(A.length:Int)+1:=by simp
   have b:(A.length:Int)+1+(M'.length:Int)-1=((A.length+M'.length+1:Nat):Int)-1:=o_;rw [p];rw [m,b,<-es] at ao
   generalize iv (A++x::(M'++[y])++B)=L at *
   have k:A.length+M'.length+1<=1048576:=by simp at hl;omega
   obtain ⟨j,l⟩:∃ j,j=A.length+M'.length+1:=⟨_,rfl⟩
   have z:A.length<j:=o_;have u:j<L.length:=o_;have s:j<=1048576:=o_;rw [<-l] at o ao⊢
   clear hl k f p es m b l;generalize A.length=i at *
   refine gV ?_;refine aT λ h=>?_
   repeat' first | (refine gN (hEr [] [14,16,17]) ?_;conv=>whnf) | refine ⟨j,rfl,?_⟩ | refine ⟨_,o,?_⟩ | refine ⟨i,rfl,?_⟩ | refine ⟨_,q,?_⟩ | refine Ac (by rw [Dr];omega) ?_ | exact rfl | (refine zt ?_;try intro h) | refine zu (λ h=>?_) λ h=>?_ | fail
   exact zW
def aJb (l:List Int) (hl:l.length<=1048576):ar 229 [.row 0 0] [.row 0 1 3 (iv l)] (.ret (.tup [])) [.row 0 1 3 (iv l.reverse)]:=by
 have a:(iv l).length=l.length:=by simp
 have ao:=aAQ l.reverse l.length [] l [] (Bc _) q_ s_
 have e:((0:Nat):Int)+(l.length:Int)-1=((iv l).length:Int)-1:=by rw [a];omega
 have ao:To (Er [] [14,16,17]) aGJ (.full 1 (.ret (.tup [])) [.row 0 1 3 (iv l.reverse)]) (.head (stk aGJ 0) [(0,.row 0 0),(2,ii 0),(3,ii (((0:Nat):Int)+l.length-1))] [.row 0 1 3 (iv (l++[]))]):=ao
 rw [e,Av] at ao
 refine cT (E:=(Er [] [14,16,17])) (fn:=Tryz.f229) (g:=.full 1 _ _) λ_=>?_;refine gV ?_;refine Gd (Ac (Ac (by simp only [cJ];rw [a];omega) (by simp only [bE];rw [a];omega)) ?_);exact zW
def TX (c:Con) (a:c.sm) (n:Int) (b:(upL c.ns n).length<=12):ar 166 [c.av,ii n] [] (.ret (.slice 1 (iv (upL c.ns n).reverse) .no)) []:=by
 have h1:=SK c n;have d:=aHx c a n b;have h3:=aJb (upL c.ns n) o_;generalize upL c.ns n=l at *
 refine c_ Tryz.f166 λ_=>?_;refine gV ?_;refine .pure _ [.cells 3 [ii n]] h1 ?_;exact zW
def MZ (c:Con) (d:c.sm) (h:List Nat) (k:LtF h) (hl:h.length<=1048576) (n:Int):ar 231 [c.av,.slice 1 (fv h) .no,ii n] [] (.ret (uu (nQ c h n))) []:=by
  have h1:=aGH c d h k hl n;have l1:=aED c h n;have i:=d.ns;have j:(nav c.ns).length=c.ns.length:=by simp
  unfold nQ;unfold aKW at *
  by_cases b:0<=n/\n<(c.ns.length:Int)
  .rw [if_pos b];have a:n.toNat<c.ns.length:=o_;have l:n=(n.toNat:Int):=o_;have get:=vL (c:=c) (n:=n) ⟨by omega,a⟩;generalize cW c.ns n=x at *
   have e:=QM (max 1 x.w);have l2:=P4 (max 1 x.w);generalize O8 c h n=p at *
   generalize ofF (max 1 x.w)=q at *
   have h3:=UZ p q l1 l2;generalize AA p q=r at *
   exact zqda11
  .rw [if_neg b];have e:=QM 1;have l2:=P4 1;generalize O8 c h n=p at *
   generalize ofF 1=q at *
   have h3:=UZ p q l1 l2;generalize AA p q=r at *
   by_cases m:0<=n
   .exact zqda11
   .exact zqda11
def TY (c:Con) (now:Int) (p:Pn) (j:0<=now/\now<=1099511627776) (hp:0<=p.at') (l:c.age<=9223372036854775807) (r:Bool) (a:sJ c now p=r):ar 164 [c.av,ii now,p.av] [] (.ret (.bool r)) []:=by
  unfold sJ at a;have m:IntKind.wrap .u64 now=now:=by rw [wu];omega
  by_cases i:0<c.age
  .by_cases e:p.at'<=now
   .have k:now-p.at'=((now-p.at').toNat:Int):=o_;rw [decide_eq_true i,decide_eq_true e,Cy,Cy] at a;by_cases d:c.age<=now-p.at'
    .rw [decide_eq_true d] at a;subst a;refine c_ Tryz.f164 λ_=>?_
     repeat' first | (refine gN hE ?_;conv=>whnf) | exact rfl | (refine zt ?_;try intro h) | refine zu (λ h=>?_) λ h=>?_ | fail
     all_goals exact congrArg (λ b=>Res.ret (aa.bool b)) (decide_eq_true d)
    .rw [decide_eq_false d] at a;subst a;refine c_ Tryz.f164 λ_=>?_
     repeat' first | (refine gN hE ?_;conv=>whnf) | exact rfl | (refine zt ?_;try intro h) | refine zu (λ h=>?_) λ h=>?_ | fail
     all_goals exact congrArg (λ b=>Res.ret (aa.bool b)) (decide_eq_false d)
   .rw [decide_eq_false e,Fj,Db] at a;subst a;exact c_ Tryz.f164 λ_=>zW
  .rw [decide_eq_false i,Fj] at a;subst a;exact c_ Tryz.f164 λ_=>zW
structure OrdOK (s:Sta):Prop where
 sm:s.c.sm
 few:s.c.ns.length<=12
 lt:LtF s.hist
 hl:s.hist.length<=1048576
 now:0<=s.now/\s.now<=1099511627776
 age:s.c.age<=9223372036854775807
def OrdOK.path {s:Sta} (h:OrdOK s) (n:Int):(upL s.c.ns n).length<=12:=Cz (aEk _ _) h.few
def Y0 (a b:Nat):Int:=if a<b then -1 else if b<a then 1 else 0
def aFH (c:Con) (h:List Nat) (x y:Int):sK c h x y=orI (Y0 (nQ c h x) (nQ c h y)) (iA x y):=by
 unfold sK orI Y0
 repeat' split
 all_goals first | rfl | omega
def aHy (s:Sta) (a b:Pn):iO s a b=if sJ s.c s.now a=true then (if sJ s.c s.now b=true then iA a.seq b.seq else -1) else if sJ s.c s.now b=true then 1 else orI (ptC s a b) (iA a.seq b.seq):=by unfold iO orI;rfl
def IS (x:Nat):ar 267 [uu x] [] (.ret (.bool false)) []:=by refine c_ Tryz.f267 λ_=>?_;refine gV ?_;exact congrArg (λ b=>Res.ret (aa.bool b)) s_
def aDx (a b:Nat) (r:Int) (c:Y0 a b=r):ar 230 [uu a,uu b] [] (.ret (ii r)) []:=by
 unfold Y0 at c;by_cases h1:a<b
 .rw [if_pos h1] at c;exact zqda2
 .rw [if_neg h1] at c;by_cases e:b<a
  .rw [if_pos e] at c;exact zqda2
  .rw [if_neg e] at c;exact zqda2
def AO (a b:Int):ar 165 [ii a,ii b] [] (.ret (ii (iA a b))) []:=VP a b _ rfl
def aBB (s:Sta) (h:OrdOK s) (x y:Int):ar 167 [.ptr s.cs,ii x,ii y] [] (.ret (ii (sK s.c s.hist x y))) []:=by
 have h1:=MZ s.c h.sm s.hist h.lt h.hl x;have b:=MZ s.c h.sm s.hist h.lt h.hl y;have h3:=aDx (nQ s.c s.hist x) (nQ s.c s.hist y) _ rfl;have d:=AO x y;rw [aFH];have a:=CB (Y0 (nQ s.c s.hist x) (nQ s.c s.hist y)) (iA x y) _ rfl;generalize Y0 (nQ s.c s.hist x) (nQ s.c s.hist y)=p at *
 generalize iA x y=q at *
 generalize orI p q=r at *
 generalize nQ s.c s.hist x=l1 at *
 generalize nQ s.c s.hist y=l2 at *
 exact c_ Tryz.f167 λ_=>zW
noncomputable abbrev aL7:Func:=Tryz.f109
abbrev cpF (s:Sta) (p q:List Int) (t:Int) (i:Nat):List (Nat×aa):=[(0,.ptr s.cs),(4,.ref 0 0),(5,.ref 1 0),(9,ii t),(10,.slice 1 (iv p) .no),(11,.slice 1 (iv q) .no),(90,ii ((min p.length q.length:Nat):Int)),(91,ii i)]
abbrev cpO (a b:Pn):List ab:=[.cells 47 a.cs,.cells 47 b.cs]
def Z0 {c:Con} {h:List Nat}:∀ {p q:List Int},(p=[]\/q=[])->gT c h p q=iA p.length q.length
 | [],[],_=>rfl
 | [],_::_,_=>by simp [gT,iA]
 | _::_,[],_=>by
  show (1:Int)=iA _ _;unfold iA;rw [if_neg (by simp<;>omega),if_pos (by simp<;>omega)]
 | _::_,_::_,h=>by rcases h with h | h<;>cases h
def aHs (s:Sta) (h:OrdOK s) (a b:Pn) (p q:List Int) (hp:p.length<=12) (D:q.length<=12) (R:Int) (j:orI (gT s.c s.hist p q) (iA a.seq b.seq)=R):∀ (m i:Nat),i+m=min p.length q.length->gT s.c s.hist p q=gT s.c s.hist (p.drop i) (q.drop i)->
  To E aL7 (.pure (.ret (ii R))) (.head (stk aL7 0) (cpF s p q (iA p.length q.length) i) (cpO a b)):=by
 have w:(iv p).length=p.length:=by simp
 have v:(iv q).length=q.length:=by simp
 have hs:=AO a.seq b.seq;intro m;induction m with
 | zero=>
  intro i o d;have h1:gT s.c s.hist p q=iA p.length q.length:=by
   have r:p.drop i=[]\/q.drop i=[]:=by
    rcases Nat.le_total p.length q.length with h | h
    .exact .inl (Ah o_)
    .exact .inr (Ah o_)
   rw [d,Z0 r,Ei,Ei];unfold iA
   repeat' split
   all_goals omega
  rw [h1] at j;have n:=CB _ _ _ j;exact zqda6
 | succ m l=>
  intro i o d;have g:i<p.length:=o_;have f:i<q.length:=o_;have F:=fJ g;have C:=fJ f;have ao:=l (i+1) o_
  rw [Ae g,Ae f] at d;have k:gT s.c s.hist (p[i]::p.drop (i+1)) (q[i]::q.drop (i+1))=if p[i]=q[i] then gT s.c s.hist (p.drop (i+1)) (q.drop (i+1)) else sK s.c s.hist p[i] q[i]:=rfl
  rw [k] at d;clear k;have B:=aBB s h p[i] q[i];by_cases e:p[i]=q[i]
  .rw [if_pos e] at d;have A:(p[i] !=q[i])=false:=by rw [e];simp
   have ao:=ao d
   generalize p[i]=x at *
   generalize q[i]=y at *
   generalize iA p.length q.length=t at *
   refine gV ?_;exact zW
  .rw [if_neg e] at d;have A:(p[i] !=q[i])=true:=by simpa using e
   rw [d] at j;have n:=CB _ _ _ j;clear ao l d
   generalize sK s.c s.hist p[i] q[i]=z at *
   generalize p[i]=x at *
   generalize q[i]=y at *
   exact zqda6
def N8 (s:Sta) (h:OrdOK s) (a b:Pn) (v:0<=a.at') (o:0<=b.at') (R:Int) (d:iO s a b=R):ar 109 [.ptr s.cs,a.av,b.av] [] (.ret (ii R)) []:=by
 have n:=TY s.c s.now a h.now v h.age _ rfl;have i:=TY s.c s.now b h.now o h.age _ rfl;have hs:=AO a.seq b.seq;rw [aHy] at d;cases h1:sJ s.c s.now a with
 | true=>
  rw [h1] at n d;rw [if_pos rfl] at d;cases e:sJ s.c s.now b with
  | true=>
   rw [e] at i d;rw [if_pos rfl] at d;rw [d] at hs;exact zqda3
  | false=>
   rw [e] at i d;rw [if_neg d_] at d;subst d;exact zqda3
 | false=>
  rw [h1] at n d;rw [if_neg d_] at d;cases e:sJ s.c s.now b with
  | true=>
   rw [e] at i d;rw [if_pos rfl] at d;subst d;exact zqda3
  | false=>
   rw [e] at i d;rw [if_neg d_] at d;by_cases j:a.g.ten=b.g.ten
   .have hz:ptC s a b=0:=by unfold ptC;rw [j];exact sW.2 rfl
    rw [hz] at d;have y:=CB _ _ _ d;have w:(a.g.ten !=b.g.ten)=false:=by rw [j];simp
    generalize iA a.seq b.seq=u at *
    exact zqda3
   .have w:(a.g.ten !=b.g.ten)=true:=by simpa using j
    have B:=TX s.c h.sm a.g.ten (h.path _);have z:=TX s.c h.sm b.g.ten (h.path _);have l1:(upL s.c.ns a.g.ten).reverse.length<=12:=by rw [List.length_reverse];exact h.path _
    have l2:(upL s.c.ns b.g.ten).reverse.length<=12:=by rw [List.length_reverse];exact h.path _
    have m:=aHs s h a b (upL s.c.ns a.g.ten).reverse (upL s.c.ns b.g.ten).reverse l1 l2 R d _ 0 (Bo _) rfl;generalize (upL s.c.ns a.g.ten).reverse=p at *
    generalize (upL s.c.ns b.g.ten).reverse=q at *
    have l:(iv p).length=p.length:=by simp
    have k:(iv q).length=q.length:=by simp
    have x:=AO (iv p).length (iv q).length;have r:((min p.length q.length:Nat):Int)=min (p.length:Int) (q.length:Int):=o_;unfold cpF at m;rw [r,<-l,<-k] at m;generalize iA ((iv p).length:Int) ((iv q).length:Int)=t at *
    exact zqda3
abbrev kH (s:Sta):aa:=.func (.func 111) [] [.ptr [.func (.func 109) [] []],.ptr s.cs]
def uQ (s:Sta) (h:OrdOK s) (a b:Pn) (c:0<=a.at') (d:0<=b.at'):ar 111 [a.av,b.av,.ptr [.func (.func 109) [] []],.ptr s.cs] [] (.ret (ii (iO s a b))) []:=by
 have h1:=N8 s h a b c d _ rfl;generalize iO s a b=r at *
 exact c_ Tryz.f111 λ_=>zW
def B9 (s:Sta):List Pn:=srt (ltP s) s.pend
def aGg {x y:Pn} {s:Sta} {out:List Pn} {k:Nat} (h:out[k]? =some y):nU (ltP s) x out (k+1)=if ltP s x y=true then nU (ltP s) x out k else k+1:=by simp only [nU,h]
def rT (l:List Pn):(pnv l).length=l.length:=by simp
def TG (A B:List Pn) (x:Pn) {i:Nat} (a:i=A.length):(pnv (A++x::B))[i]? =some x.av:=by subst a;simp
def AK (A M B:List Pn) (x y:Pn) {i j:Nat} (a:i=A.length) (f:j=A.length+M.length+1):
  (pnv (A++x::(M++y::B)))[i]? =some x.av/\(pnv (A++x::(M++y::B)))[j]? =some y.av/\((pnv (A++x::(M++y::B))).set i y.av).set j x.av=pnv (A++y::(M++x::B))/\((pnv (A++x::(M++y::B))).set j x.av).set i y.av=pnv (A++y::(M++x::B)):=by
 have e:A++x::(M++y::B)=(A++x::M)++y::B:=by simp
 have b:((pnv (A++x::(M++y::B))).set i y.av).set j x.av=pnv (A++y::(M++x::B)):=by
  have h:=TC A M B x y;have c:A++x::(M++[y])++B=A++x::(M++y::B):=by simp
  have d:A++[y]++M++x::B=A++y::(M++x::B):=by simp
  rw [c,d] at h;subst a f;rw [<-h];simp only [pnv,Gr]
 refine ⟨TG _ _ _ a,by rw [e];exact TG _ _ _ q_,b,?_⟩;rw [List.set_comm _ _ o_];exact b
def lY (l:List Pn):Prop:=∀ p∈l,0<=p.at'
def lY.perm {l m:List Pn} (h:l.Perm m) (a:lY l):lY m:=λ p hp=>a p (h.mem_iff.2 hp)
abbrev bK (l:List Pn):List ab:=[.row 0 11 47 (pnv l)]
noncomputable abbrev NS:Func:=Tryz.f232
abbrev isF (s:Sta) (a b i:Nat):List (Nat×aa):=[(0,.row 0 0),(1,ii a),(2,ii b),(3,kH s),(8,ii i)]
def QC (s:Sta) (h:OrdOK s) (R:List Pn) (A T B:List Pn) (x:Pn) (a b i:Nat) (Q:a=A.length) (V:i=A.length+T.length) (hl:A.length+T.length+B.length<=1000000) (N:i<b) (U:b<=1000001) (S:0<=x.at') (P:lY T)
  (ao:To (Er [] [37,39,40,41]) NS (.full 1 (.ret (.tup [])) (bK R)) (.head (stk NS 0) (isF s a b (i+1)) (bK (A++(mW (ltP s) T x++B))))):∀ (k:Nat),k<=T.length->nU (ltP s) x T T.length=nU (ltP s) x T k->
  To (Er [] [37,39,40,41]) NS (.full 1 (.ret (.tup [])) (bK R)) (.head (stk NS 1) (isF s a b i++[(9,ii ((A.length+k:Nat):Int))]) (bK (A++(T.take k++x::(T.drop k++B))))):=by
 intro k;induction k with
 | zero=>
  intro O f;have e:mW (ltP s) T x++B=T.take 0++x::(T.drop 0++B):=by unfold mW;rw [f];simp [nU]
  rw [e] at ao
  generalize pnv (A++(T.take 0++x::(T.drop 0++B)))=L at *
  subst Q;refine gV ?_;exact zW
 | succ k J=>
  intro O f;have l:k<T.length:=o_;have I:=P _ (Bh l);have p:T.take (k+1)=T.take k++[T[k]]:=Hc l;have z:T.drop k=T[k]::T.drop (k+1):=Ae l;rw [aGg (Aa l)] at f;have M:=uQ s h x T[k] S I;have c:((A.length+(k+1):Nat):Int)-1=((A.length+k:Nat):Int):=o_;have F:A++(T.take (k+1)++x::(T.drop (k+1)++B))=(A++T.take k)++T[k]::([]++x::(T.drop (k+1)++B)):=by rw [p];simp only [Af,Cc,Bn]
  obtain ⟨u,r,_,t⟩:=AK (A++T.take k) [] (T.drop (k+1)++B) T[k] x (i:=A.length+k) (j:=A.length+(k+1)) q_ q_;have H:(A++T.take k)++x::([]++T[k]::(T.drop (k+1)++B))=A++(T.take k++x::(T.drop k++B)):=by rw [z];simp only [Af,Cc,Bn]
  have K:(pnv ((A++T.take k)++T[k]::([]++x::(T.drop (k+1)++B)))).length=A.length+T.length+1+B.length:=by simp;omega
  rw [H] at t;rw [F];by_cases o:iO s x T[k]<0
  .have e:ltP s x T[k]=true:=decide_eq_true o;rw [if_pos e] at f;have m:=J o_ f;dsimp only [bK] at m⊢;rw [<-t] at m;clear ao J
   generalize iO s x T[k]=v at *
   generalize T[k]=y at *
   generalize pnv ((A++T.take k)++y::([]++x::(T.drop (k+1)++B)))=L at *
   obtain ⟨j,n⟩:∃ j,j=A.length+(k+1):=⟨_,rfl⟩
   obtain ⟨g,d⟩:∃ g,g=A.length+k:=⟨_,rfl⟩
   have G:j=g+1:=o_;have w:a<j:=o_;have C:j<L.length:=o_;have D:j<=1000000:=o_;rw [<-n] at c m r⊢;rw [<-d] at c m u;clear n d t F H p z K f;refine gV ?_;refine aT λ h=>?_
   repeat' first | (refine gN (hEr [] [37,39,40,41]) ?_;conv=>whnf) | refine ⟨j,rfl,?_⟩ | refine ⟨_,r,?_⟩ | refine ⟨g,c,?_⟩ | refine ⟨_,u,?_⟩ | exact rfl | (refine zt ?_;try intro h) | refine zu (λ h=>?_) λ h=>?_ | fail
   refine .pure _ [] M ?_
   repeat' first | (refine gN (hEr [] [37,39,40,41]) ?_;conv=>whnf) | exact rfl | (refine zt ?_;try intro h) | refine zu (λ h=>?_) λ h=>?_ | fail
   repeat' first | (refine gN (hEr [] [37,39,40,41]) ?_;conv=>whnf) | refine ⟨j,rfl,?_⟩ | refine ⟨_,r,?_⟩ | refine ⟨g,c,?_⟩ | refine ⟨_,u,?_⟩ | refine Ac (by rw [Dr];omega) ?_ | exact rfl | (refine zt ?_;try intro h) | refine zu (λ h=>?_) λ h=>?_ | fail
   refine To.part [0,1,2,3,8,9] [0] rfl rfl rfl ?_;rw [<-c] at m;exact m
  .have e:ltP s x T[k]=false:=decide_eq_false o;rw [if_neg (by rw [e];decide)] at f;have q:mW (ltP s) T x++B=T.take k++T[k]::([]++x::(T.drop (k+1)++B)):=by unfold mW;rw [f,p];simp only [Af,Cc,Bn]
   have q:A++(mW (ltP s) T x++B)=(A++T.take k)++T[k]::([]++x::(T.drop (k+1)++B)):=by rw [q,Af]
   rw [q] at ao
   clear J;dsimp only [bK] at ao⊢
   generalize iO s x T[k]=v at *
   generalize T[k]=y at *
   generalize pnv ((A++T.take k)++y::([]++x::(T.drop (k+1)++B)))=L at *
   obtain ⟨j,n⟩:∃ j,j=A.length+(k+1):=⟨_,rfl⟩
   obtain ⟨g,d⟩:∃ g,g=A.length+k:=⟨_,rfl⟩
   have G:j=g+1:=o_;have w:a<j:=o_;have C:j<L.length:=o_;have D:j<=1000000:=o_;rw [<-n] at c r⊢;rw [<-d] at c u;clear n d t F H p z K f q;refine gV ?_;exact zW
def UG (s:Sta) (h:OrdOK s) (A B:List Pn) (a b:Nat) (j:a=A.length) (m:b<=1000000) (k:A.length+B.length<=1000000) (R:List Pn):∀ (rest T:List Pn),R=A++(rest.foldl (mW (ltP s)) T++B)->b=A.length+T.length+rest.length->b+B.length<=1000000->lY (T++rest)->
  To (Er [] [37,39,40,41]) NS (.full 1 (.ret (.tup [])) (bK R)) (.head (stk NS 0) (isF s a b (A.length+T.length)) (bK (A++(T++(rest++B)))))
 | [],T,hR,hlen,hB,hat=>by
  subst hR;dsimp only [bK,List.foldl_nil,Bn];generalize pnv (A++(T++B))=L at *
  obtain ⟨i,g⟩:∃ i,i=A.length+T.length:=⟨_,rfl⟩
  rw [<-g] at hlen⊢;have l:b=i:=by simpa using hlen
  refine gV ?_;exact zW
 | x::rest,T,hR,hlen,hB,hat=>by
  have f:b=A.length+T.length+rest.length+1:=by simp at hlen;omega
  have hp:=xL (ltP s) T x;have d:=hp.length_eq;have e:lY (mW (ltP s) T x++rest):=hat.perm ((Ej.trans (Dt rest hp.symm)));have c:=UG s h A B a b j m k R rest (mW (ltP s) T x) hR (by simp at d;omega) hB e;have r:A.length+(mW (ltP s) T x).length=A.length+T.length+1:=by simp at d;omega
  rw [r] at c;have q:0<=x.at':=hat x s_;have o:lY T:=λ p hp=>hat p (Dd _ hp);have c:=QC s h R A T (rest++B) x a b (A.length+T.length) j rfl q_ o_ o_ q o c T.length (Bc _) rfl;rw [Ge,List.drop_length,Bn] at c;dsimp only [bK] at c⊢;rw [Cc];generalize pnv (A++(T++x::(rest++B)))=L at *
  obtain ⟨i,g⟩:∃ i,i=A.length+T.length:=⟨_,rfl⟩
  rw [<-g] at c⊢;have n:i<b:=o_;refine gV ?_;exact zW
def QB (s:Sta) (h:OrdOK s) (A S B:List Pn) (a b:Nat) (k:a=A.length) (i:b=A.length+S.length) (l:b+B.length<=1000000) (c:lY S):
  ar 232 [.row 0 0,ii a,ii b,kH s] (bK (A++(S++B))) (.ret (.tup [])) (bK (A++(srt (ltP s) S++B))):=by
 have h1:To (Er [] [37,39,40,41]) NS (.full 1 (.ret (.tup [])) (bK (A++(srt (ltP s) S++B)))) (.head (stk NS 0) [(0,.row 0 0),(1,ii a),(2,ii b),(3,kH s),(8,ii ((a:Int)+1))] (bK (A++(S++B)))):=by
  cases S with
  | nil=>
   have e:srt (ltP s) []=[]:=rfl;rw [e];dsimp only [bK];generalize pnv (A++([]++B))=L at *
   simp at i;refine gV ?_;exact zW
  | cons x S=>
   simp at i;have:=UG s h A B a b k o_ o_ (A++(srt (ltP s) (x::S)++B)) S [x] rfl q_ l c;have e:A.length+[x].length=a+1:=by simp;omega
   rw [e] at this;exact this
 generalize A++(srt (ltP s) S++B)=R at *
 dsimp only [bK] at h1⊢;generalize pnv (A++(S++B))=L at *
 have j:a<=1000000:=o_;clear c;refine cT (E:=(Er [] [37,39,40,41])) (fn:=Tryz.f232) (g:=.full 1 _ _) λ_=>?_;refine gV ?_
 have d:inR .i64 ((a:Int)+1):=⟨by simp only [cJ];omega,by simp only [bE];omega⟩
 refine Gd (Ac d ?_);exact zW
noncomputable abbrev aLT:Func:=Tryz.f289
def KT (R Y:List Pn) (a b N:Nat) (cv:aa):∀ (U V X M:List Pn) (i:Nat),U.length=V.length->i+U.length=N->a+i=X.length->b+i=X.length+U.length+M.length->X.length+U.length+M.length+V.length+Y.length<=1000000->R=X++(V++(M++(U++Y)))->
  To (Er [] [16,20,21,22,23]) aLT (.full 1 (.ret (.tup [])) (bK R)) (.head (stk aLT 0) [(0,.row 0 0),(1,ii a),(2,ii b),(3,ii N),(10,ii i)] (bK (X++(U++(M++(V++Y))))))
 | [],[],X,M,i,hl,hN,hi,hj,hb,hR=>by
  subst hR;dsimp only [bK,Bn];generalize pnv (X++(M++Y))=L at *
  have l:i=N:=by simpa using hN
  subst l;refine gV ?_;exact zW
 | x::U,y::V,X,M,i,hl,hN,hi,hj,hb,hR=>by
  have e:U.length=V.length:=by simpa using hl
  simp at hN hj hb;have k:=KT R Y a b N cv U V (X++[y]) (M++[x]) (i+1) e o_ q_ q_ q_ (by rw [hR];simp only [Af,Cc,Bn]);obtain ⟨u,r,n,_⟩:=AK X (U++M) (V++Y) x y (i:=a+i) (j:=b+i) hi q_;have t:X++y::(U++M++x::(V++Y))=(X++[y])++(U++((M++[x])++(V++Y))):=by simp only [Af,Cc,Bn]
  have s:X++(x::U++(M++(y::V++Y)))=X++x::(U++M++y::(V++Y)):=by simp only [Af,Cc,Bn]
  rw [t] at n;rw [s];dsimp only [bK] at k⊢;rw [<-n] at k;have g:(pnv (X++x::(U++M++y::(V++Y)))).length=X.length+U.length+M.length+V.length+Y.length+2:=by simp;omega
  generalize pnv (X++x::(U++M++y::(V++Y)))=L at *
  have hiN:i<N:=o_
  obtain ⟨c,f⟩:∃ c,c=a+i:=⟨_,rfl⟩
  obtain ⟨j,d⟩:∃ j,j=b+i:=⟨_,rfl⟩
  have o:(a:Int)+i=(c:Int):=o_;have m:(b:Int)+i=(j:Int):=o_;have v:j<L.length:=o_;have p:c<L.length:=o_;have w:j<=1000000:=o_;have q:c<=1000000:=o_;rw [<-f] at k u;rw [<-d] at k r;clear f d hj hi hb g s t hR hN hl e n;refine gV ?_;refine aT λ h=>?_
  repeat' first | (refine gN (hEr [] [16,20,21,22,23]) ?_;conv=>whnf) | refine ⟨j,m,?_⟩ | refine ⟨_,r,?_⟩ | refine ⟨c,o,?_⟩ | refine ⟨_,u,?_⟩ | refine Ac (by rw [Dr];omega) ?_ | exact rfl | (refine zt ?_;try intro h) | refine zu (λ h=>?_) λ h=>?_ | fail
  exact zW
def O7 (s:Sta) (X U M V Y:List Pn) (a b N:Nat) (h:a=X.length) (e:N=U.length) (c:U.length=V.length) (d:b=X.length+U.length+M.length) (hl:X.length+U.length+M.length+V.length+Y.length<=1000000):
  ar 289 [.row 0 0,ii a,ii b,ii N,kH s] (bK (X++(U++(M++(V++Y))))) (.ret (.tup [])) (bK (X++(V++(M++(U++Y))))):=by
 have h1:=KT _ Y a b N (kH s) U V X M 0 c o_ o_ o_ hl rfl;dsimp only [bK] at h1⊢;generalize pnv (X++(U++(M++(V++Y))))=L at *
 generalize pnv (X++(V++(M++(U++Y))))=R at *
 refine cT (E:=(Er [] [16,20,21,22,23])) (fn:=Tryz.f289) (g:=.full 1 _ _) λ_=>?_;exact zW
noncomputable abbrev aLX:Func:=Tryz.f270
def aAJ (s:Sta) (R:List Pn) (m:Nat) (hm:m<=1000000):∀ (n:Nat) (X U V Y:List Pn) (i j:Nat),i+j<=n->i=U.length->j=V.length->0<i->0<j->m=X.length+i->X.length+U.length+V.length+Y.length<=1000000->R=X++(V++(U++Y))->
  To E aLX (.full 1 (.ret (.tup [])) (bK R)) (.head (stk aLX 0) [(0,.row 0 0),(2,ii m),(4,kH s),(10,ii i),(11,ii j)] (bK (X++(U++(V++Y))))):=by
 intro n;induction n with
 | zero=>intro X U V Y i j h;omega
 | succ n q=>
  intro X U V Y i j B o r C D F hl g;by_cases w:i=j
  .have e:((m:Int)-i)=((m-i:Nat):Int):=o_;have h1:=O7 s X U [] V Y (m-i) m i o_ o o_ q_ q_;rw [Bn,Bn,<-e,<-g] at h1;have A:((i:Int) !=(j:Int))=false:=by rw [w];simp
   dsimp only [bK] at h1⊢;generalize pnv (X++(U++(V++Y)))=L at *
   generalize pnv R=K at *
   clear g hl q;refine gV ?_;exact zW
  .have A:((i:Int) !=(j:Int))=true:=by simp;omega
   by_cases z:j<i
   .obtain ⟨d,b,rfl,f⟩:∃ d b,U=d++b/\d.length=j:=⟨U.take j,U.drop j,(Bq j U).symm,by simp;omega⟩
    have t:i=j+b.length:=by rw [o,Ai,f]
    have e:((m:Int)-i)=((m-i:Nat):Int):=o_;have p:((i:Int)-j)=((i-j:Nat):Int):=o_;rw [Ai] at hl;have h1:=O7 s X d b V Y (m-i) m j o_ f.symm o_ o_ o_;have l:=q (X++V) b d Y (i-j) j o_ o_ o_ o_ o_ (by rw [Ai];omega) (by rw [Ai];omega) (by rw [g];simp only [Af]);rw [<-e] at h1;rw [<-p,Af] at l;rw [Af d b];dsimp only [bK] at h1 l⊢;generalize pnv (X++(d++(b++(V++Y))))=L at *
    generalize pnv (X++(V++(b++(d++Y))))=K at *
    have v:i<=1000000:=o_;clear g hl q e p o r t f;refine gV ?_;exact zW
   .obtain ⟨c,a,rfl,k⟩:∃ c a,V=c++a/\a.length=i:=⟨V.take (j-i),V.drop (j-i),(Bq (j-i) V).symm,by simp;omega⟩
    have u:j=c.length+i:=by rw [r,Ai,k]
    have e:((m:Int)-i)=((m-i:Nat):Int):=o_;have p:((j:Int)-i)=((j-i:Nat):Int):=o_;have x:((m:Int)+j-i)=((m+(j-i):Nat):Int):=o_;rw [Ai] at hl;have h1:=O7 s X U c a Y (m-i) (m+(j-i)) i o_ o o_ o_ o_;have l:=q X a c (U++Y) i (j-i) o_ o_ o_ o_ o_ o_ (by rw [Ai];omega) (by rw [g];simp only [Af]);rw [<-e,<-x] at h1;rw [<-p] at l;rw [Af c a];dsimp only [bK] at h1 l⊢;generalize pnv (X++(U++(c++(a++Y))))=L at *
    generalize pnv (X++(a++(c++(U++Y))))=K at *
    have y:j<=1000000:=o_;have v:i<=1000000:=o_;clear g hl q e p x o r u k;refine gV ?_;exact zW
def aI4 (s:Sta) (X U V Y:List Pn) (a m b:Nat) (p:a=X.length) (hm:m=a+U.length) (l:b=m+V.length) (j:U≠[]) (e:V≠[]) (hl:b+Y.length<=1000000):
  ar 270 [.row 0 0,ii a,ii m,ii b,kH s] (bK (X++(U++(V++Y)))) (.ret (.tup [])) (bK (X++(V++(U++Y)))):=by
 have n:=Dy.2 j;have o:=Dy.2 e;have h1:=aAJ s _ m o_ _ X U V Y (m-a) (b-m) (Bc _) o_ o_ o_ o_ o_ o_ rfl;have d:(m:Int)-a=((m-a:Nat):Int):=o_;have i:(b:Int)-m=((b-m:Nat):Int):=o_;rw [<-d,<-i] at h1;dsimp only [bK] at h1⊢;generalize pnv (X++(U++(V++Y)))=L at *
 generalize pnv (X++(V++(U++Y)))=R at *
 have h:a<=m:=o_;have c:m<=b:=o_;have k:b<=1000000:=o_;refine cT (E:=E) (fn:=Tryz.f270) (g:=.full 1 _ _) λ_=>?_;exact zW
noncomputable abbrev pX:Func:=Tryz.f233
def IV (lo a:Nat):((lo:Int)+a).fdiv (2 ^ Dq 1)=(((lo+a) / 2:Nat):Int):=by have e:(2:Int) ^ Dq 1=2:=rfl;rw [e,Ea _ d_];omega
def UL {c:Nat} (h:c<=1000000):inR .i64 (c:Int):=Ac (by simp only [cJ];omega) (by simp only [bE];omega)
def HI {L:List Pn} {h:Nat} {y:Pn} (a:L[h]? =some y):(pnv L)[h]? =some y.av:=by simp [a]
set_option maxHeartbeats 1000000 in
def aIV (s:Sta) (hs:OrdOK s) (L:List Pn) (g:lY L) (w:L.length<=1000000) (a:Nat) (u:Pn) (j:L[a]? =some u) (P:Nat->Bool) (n:∀ h y,L[h]? =some y->P h=ltP s y u) (R:List Pn) (k:Nat)
  (ao:To (Er [] [61,63,64,65,113,115,116,117]) pX (.full 1 (.ret (.tup [])) (bK R)) (.head (stk pX 1) [(0,.row 0 0),(10,ii k),(13,ii a)] (bK L))):∀ (f lo d:Nat),d-lo<=f->lo<=d->d<=L.length->bis P f lo d=k->
  To (Er [] [61,63,64,65,113,115,116,117]) pX (.full 1 (.ret (.tup [])) (bK R)) (.head (stk pX 0) [(0,.row 0 0),(1,ii a),(4,kH s),(10,ii lo),(11,ii d)] (bK L))
 | 0,lo,d,hf,h1,h2,b=>by
  have e:lo=d:=o_;subst e;have b:lo=k:=b;subst b;exact zqda1
 | f+1,lo,d,hf,h1,h2,b=>by
  by_cases l:lo<d
  .unfold bis at b;rw [if_pos l] at b
   obtain ⟨c,x⟩:∃ c,c=(lo+d) / 2:=⟨_,rfl⟩
   rw [<-x] at b;have i:c<L.length:=o_;have B:L[c]? =some L[c]:=Aa i;have m:=n c _ B;have o:=uQ s hs L[c] u (g _ (Bh i)) (g _ (Au j));have C:=HI B;have z:=HI j;have q:a<L.length:=(Ab.1 j).1;have hm:=IV lo d;rw [<-x] at hm;have A:=UL (show c<=1000000 by omega);have D:c<(pnv L).length:=by rw [rT];exact i
   have F:a<(pnv L).length:=by rw [rT];exact q
   generalize L[c]=y at *
   cases p:P c with
   | true=>
    rw [p,if_pos rfl] at b;have t:iO s y u<0:=of_decide_eq_true (m.symm.trans p);have r:=aIV s hs L g w a u j P n R k ao f (c+1) d o_ o_ h2 b
    generalize iO s y u=v at *
    dsimp only [bK] at r⊢;generalize pnv L=K at *
    clear n ao
    refine gV ?_;refine aT λ h=>?_
    repeat' first | (refine gN (hEr [] [61,63,64,65,113,115,116,117]) ?_;conv=>whnf) | (rw [hm];refine Gd (Ac A ?_)) | refine ⟨c,rfl,?_⟩ | refine ⟨_,C,?_⟩ | refine ⟨a,rfl,?_⟩ | refine ⟨_,z,?_⟩ | refine .pure _ [] o ?_ | exact rfl | (refine zt ?_;try intro h) | refine zu (λ h=>?_) λ h=>?_ | fail
    exact zW
   | false=>
    rw [p,if_neg d_] at b;have t:¬ iO s y u<0:=of_decide_eq_false (m.symm.trans p);have r:=aIV s hs L g w a u j P n R k ao f lo c o_ o_ o_ b
    generalize iO s y u=v at *
    dsimp only [bK] at r⊢;generalize pnv L=K at *
    clear n ao
    refine gV ?_;refine aT λ h=>?_
    repeat' first | (refine gN (hEr [] [61,63,64,65,113,115,116,117]) ?_;conv=>whnf) | (rw [hm];refine Gd (Ac A ?_)) | refine ⟨c,rfl,?_⟩ | refine ⟨_,C,?_⟩ | refine ⟨a,rfl,?_⟩ | refine ⟨_,z,?_⟩ | refine .pure _ [] o ?_ | exact rfl | (refine zt ?_;try intro h) | refine zu (λ h=>?_) λ h=>?_ | fail
    exact zW
  .unfold bis at b;rw [if_neg l] at b;subst b;exact zqda1
def mv1 (R W:List Pn) (u:Pn):∀ (V A:List Pn) (i k:Nat),k=A.length->i=A.length+V.length+1->A.length+V.length+W.length<=999999->R=A++(V++u::W)->
  To (Er [] [61,63,64,65,113,115,116,117]) pX (.full 1 (.ret (.tup [])) (bK R)) (.head (stk pX 1) [(0,.row 0 0),(10,ii i),(13,ii k)] (bK (A++u::(V++W))))
 | [],A,i,k,hk,hi,hl,hR=>by
  subst hR;dsimp only [bK,Bn];generalize pnv (A++u::W)=L at *
  have f:i<=1000000:=o_;have d:i=k+1:=by simp at hi;omega
  refine gV ?_;exact zW
 | y::V,A,i,k,hk,hi,hl,hR=>by
  simp at hi hl;have c:=mv1 R W u V (A++[y]) i (k+1) q_ q_ q_ (by rw [hR];simp only [Af,Cc,Bn]);obtain ⟨s,g,e,_⟩:=AK A [] (V++W) u y (i:=k) (j:=k+1) hk q_;have m:A++y::([]++u::(V++W))=(A++[y])++u::(V++W):=by simp only [Af,Cc,Bn]
  have l:A++u::(y::V++W)=A++u::([]++y::(V++W)):=by simp only [Af,Cc,Bn]
  rw [m] at e;rw [l];dsimp only [bK] at c⊢;rw [<-e] at c;have b:(pnv (A++u::([]++y::(V++W)))).length=A.length+V.length+W.length+2:=by simp;omega
  generalize pnv (A++u::([]++y::(V++W)))=L at *
  obtain ⟨j,n⟩:∃ j,j=k+1:=⟨_,rfl⟩
  rw [<-n] at c g;have a:(k:Int)+1=(j:Int):=o_;have p:j<L.length:=o_;have r:k<L.length:=o_;have q:j<=1000000:=o_;have o:k<=1000000:=o_;have f:i<=1000000:=o_;have d:k+1<i:=o_;rw [<-a] at c;clear b l m hR hl e hk hi;refine gV ?_
  repeat' first | (refine gN (hEr [] [61,63,64,65,113,115,116,117]) ?_;conv=>whnf) | refine aT λ h=>?_ | refine ⟨j,a,?_⟩ | refine ⟨_,g,?_⟩ | refine ⟨k,rfl,?_⟩ | refine ⟨_,s,?_⟩ | refine Ac (by rw [Dr];omega) ?_ | exact rfl | (refine zt ?_;try intro h) | refine zu (λ h=>?_) λ h=>?_ | fail
  exact zW
set_option maxHeartbeats 1000000 in
def aIU (s:Sta) (hs:OrdOK s) (L:List Pn) (g:lY L) (A:L.length<=1000000) (m:Nat) (u:Pn) (n:L[m]? =some u) (P:Nat->Bool) (p:∀ h y,L[h]? =some y->P h= !ltP s u y) (R:List Pn) (k:Nat)
  (ao:To (Er [] [61,63,64,65,113,115,116,117]) pX (.full 1 (.ret (.tup [])) (bK R)) (.head (stk pX 3) [(0,.row 0 0),(14,ii k),(17,ii m)] (bK L))):∀ (f lo d:Nat),d-lo<=f->lo<=d->d<=L.length->bis P f lo d=k->
  To (Er [] [61,63,64,65,113,115,116,117]) pX (.full 1 (.ret (.tup [])) (bK R)) (.head (stk pX 2) [(0,.row 0 0),(2,ii m),(4,kH s),(14,ii lo),(15,ii d)] (bK L))
 | 0,lo,d,hf,h1,h2,a=>by
  have e:lo=d:=o_;subst e;have a:lo=k:=a;subst a;exact zqda1
 | f+1,lo,d,hf,h1,h2,a=>by
  by_cases o:lo<d
  .unfold bis at a;rw [if_pos o] at a
   obtain ⟨c,B⟩:∃ c,c=(lo+d) / 2:=⟨_,rfl⟩
   rw [<-B] at a;have j:c<L.length:=o_;have F:L[c]? =some L[c]:=Aa j;have i:=p c _ F;have q:=uQ s hs u L[c] (g _ (Au n)) (g _ (Bh j));have G:=HI F;have C:=HI n;have x:m<L.length:=(Ab.1 n).1;have hm:=IV lo d;rw [<-B] at hm;have D:=UL (show c<=1000000 by omega);have I:c<(pnv L).length:=by rw [rT];exact j
   have H:m<(pnv L).length:=by rw [rT];exact x
   generalize L[c]=y at *
   cases r:P c with
   | true=>
    rw [r,if_pos rfl] at a;have l:ltP s u y=false:=by rw [r] at i;simpa using i.symm
    have z:¬ iO s u y<0:=of_decide_eq_false l;have t:(!decide (iO s u y<0))=true:=congrArg (λ b=>!b) l;have w:=aIU s hs L g A m u n P p R k ao f (c+1) d o_ o_ h2 a
    clear l;generalize iO s u y=v at *
    dsimp only [bK] at w⊢;generalize pnv L=K at *
    clear p ao
    refine gV ?_;refine aT λ h=>?_
    repeat' first | (refine gN (hEr [] [61,63,64,65,113,115,116,117]) ?_;conv=>whnf) | (rw [hm];refine Gd (Ac D ?_)) | refine ⟨m,rfl,?_⟩ | refine ⟨_,C,?_⟩ | refine ⟨c,rfl,?_⟩ | refine ⟨_,G,?_⟩ | refine .pure _ [] q ?_ | refine Ac (λ_=>?_) (λ h=>absurd (t.symm.trans h) d_) | exact rfl | (refine zt ?_;try intro h) | refine zu (λ h=>?_) λ h=>?_ | fail
    exact zW
   | false=>
    rw [r,if_neg d_] at a;have l:ltP s u y=true:=by rw [r] at i;simpa using i.symm
    have z:iO s u y<0:=of_decide_eq_true l;have t:(!decide (iO s u y<0))=false:=congrArg (λ b=>!b) l;have w:=aIU s hs L g A m u n P p R k ao f lo c o_ o_ o_ a
    clear l;generalize iO s u y=v at *
    dsimp only [bK] at w⊢;generalize pnv L=K at *
    clear p ao
    refine gV ?_;refine aT λ h=>?_
    repeat' first | (refine gN (hEr [] [61,63,64,65,113,115,116,117]) ?_;conv=>whnf) | (rw [hm];refine Gd (Ac D ?_)) | refine ⟨m,rfl,?_⟩ | refine ⟨_,C,?_⟩ | refine ⟨c,rfl,?_⟩ | refine ⟨_,G,?_⟩ | refine .pure _ [] q ?_ | refine Ac (λ h=>absurd (t.symm.trans h) d_) (λ_=>?_) | exact rfl | (refine zt ?_;try intro h) | refine zu (λ h=>?_) λ h=>?_ | fail
    exact zW
  .unfold bis at a;rw [if_neg o] at a;subst a;exact zqda1
def mv2 (R:List Pn) (u:Pn) (A:List Pn) (i:Nat) (z:i=A.length):∀ (n:Nat) (V W:List Pn) (k:Nat),V.length=n->k=A.length+n->A.length+n+W.length<=999999->R=A++u::(V++W)->
  To (Er [] [61,63,64,65,113,115,116,117]) pX (.full 1 (.ret (.tup [])) (bK R)) (.head (stk pX 3) [(0,.row 0 0),(14,ii i),(17,ii k)] (bK (A++(V++u::W)))):=by
 intro n;induction n with
 | zero=>
  intro V W k a o hl e;cases Cl.1 a;subst e;dsimp only [bK,Bn];generalize pnv (A++u::W)=L at *
  have f:k=i:=o_;have B:i<=1000000:=o_;refine gV ?_;exact zW
 | succ n r=>
  intro V W k a o hl e
  obtain ⟨V,y,rfl⟩:∃ C y,V=C++[y]:=⟨V.dropLast,V.getLast (by intro h;rw [h] at a;cases a),(Ku _).symm⟩
  have g:V.length=n:=by simpa using a
  have d:=r V (y::W) (k-1) g o_ q_ (by rw [e];simp only [Af,Cc,Bn]);obtain ⟨s,w,_,l⟩:=AK (A++V) [] W y u (i:=k-1) (j:=k) q_ q_;have q:A++V++u::([]++y::W)=A++(V++u::(y::W)):=by simp only [Af,Cc,Bn]
  have p:A++(V++[y]++u::W)=A++V++y::([]++u::W):=by simp only [Af,Cc,Bn]
  rw [q] at l;rw [p];dsimp only [bK] at d⊢;rw [<-l] at d;have c:(pnv (A++V++y::([]++u::W))).length=A.length+V.length+W.length+2:=by simp;omega
  generalize pnv (A++V++y::([]++u::W))=L at *
  obtain ⟨j,m⟩:∃ j,j=k-1:=⟨_,rfl⟩
  rw [<-m] at d s;have b:(k:Int)-1=(j:Int):=o_;have v:j<L.length:=o_;have D:k<L.length:=o_;have t:k<=1000000:=o_;have x:k=j+1:=o_;have f:i<k:=o_;rw [<-b] at d;clear c p q e hl l o z r m;refine gV ?_
  repeat' first | (refine gN (hEr [] [61,63,64,65,113,115,116,117]) ?_;conv=>whnf) | refine aT λ h=>?_ | refine ⟨j,b,?_⟩ | refine ⟨_,s,?_⟩ | refine ⟨k,rfl,?_⟩ | refine ⟨_,w,?_⟩ | refine Ac (by rw [Dr];omega) ?_ | exact rfl | (refine zt ?_;try intro h) | refine zu (λ h=>?_) λ h=>?_ | fail
  exact zW
abbrev aE6 (K:List aa):List ab:=[.row 0 11 47 K]
def Stp (f:Nat) (s:Sta) (x y z:Nat) (K a:List aa):Prop:=
 (x<y/\y<z/\aA Tryz.prog f [.row 0 0,ii x,ii y,ii z,kH s] (aE6 K) (.ret (.tup [])) (aE6 a))\/(x<y/\¬ y<z/\K=a)\/(¬ x<y/\K=a)
abbrev aEB (s:Sta) (a m b mid n c d:Nat) (p:Int):List (Nat×aa):=[(0,.row 0 0),(1,ii a),(2,ii m),(3,ii b),(4,kH s),(18,ii mid),(19,ii n),(20,ii c),(21,ii d),(22,ii p)]
set_option maxHeartbeats 8000000 in
def aAb (s:Sta) (a m b mid n st c:Nat) (p:Int) (B:n<=2000000) (A:n=c+st) (j e l h:List aa) (t:Stp 270 s st m c j e) (x:Stp 233 s a st mid e l) (y:Stp 233 s mid c b l h):
  To (Er [] [61,63,64,65,113,115,116,117]) pX (.full 1 (.ret (.tup [])) (aE6 h)) (.head (stk pX 4) (aEB s a m b mid n st st p) (aE6 j)):=by
 obtain ⟨d,r⟩:∃ d:Int,d=(c:Int):=⟨_,rfl⟩
 have i:((n:Int)-st)=(c:Int):=o_;rcases t with ⟨o,q,u⟩ | ⟨o,q,rfl⟩ | ⟨o,rfl⟩<;>rcases x with ⟨k,v,C⟩ | ⟨k,v,rfl⟩ | ⟨k,rfl⟩<;>rcases y with ⟨g,w,z⟩ | ⟨g,w,rfl⟩ | ⟨g,rfl⟩
 all_goals (try rw [<-i] at u)
 all_goals (try rw [<-i] at z)
 all_goals (try (exfalso;omega))
 all_goals
  refine gV ?_;exact zW
set_option maxHeartbeats 1000000 in
def aIT (s:Sta) (hs:OrdOK s) (L:List Pn) (j:lY L) (N:L.length<=1000000) (a m b mid n p l i:Nat) (P:Nat->Bool) (x:∀ c,l<=c->c<i->c<=p/\∃ y z,L[p-c]? =some y/\L[c]? =some z/\P c= !ltP s y z) (R:List Pn) (k:Nat)
  (ao:To (Er [] [61,63,64,65,113,115,116,117]) pX (.full 1 (.ret (.tup [])) (bK R)) (.head (stk pX 4) (aEB s a m b mid n k k p) (bK L))):∀ (f lo g:Nat),g-lo<=f->lo<=g->l<=lo->g<=i->bis P f lo g=k->
  To (Er [] [61,63,64,65,113,115,116,117]) pX (.full 1 (.ret (.tup [])) (bK R)) (.head (stk pX 4) (aEB s a m b mid n lo g p) (bK L))
 | 0,lo,g,hf,h1,h2,h3,d=>by
  have e:lo=g:=o_;subst e;have d:lo=k:=d;subst d;exact ao
 | f+1,lo,g,hf,h1,h2,h3,d=>by
  by_cases w:lo<g
  .unfold bis at d;rw [if_pos w] at d
   obtain ⟨c,O⟩:∃ c,c=(lo+g) / 2:=⟨_,rfl⟩
   rw [<-O] at d;obtain ⟨T,y,z,H,I,o⟩:=x c o_ o_;have A:=uQ s hs y z (j _ (Au H)) (j _ (Au I));have M:=HI H;have Q:=HI I;have G:c<L.length:=(Ab.1 I).1;have t:p-c<L.length:=(Ab.1 H).1;have hm:=IV lo g;rw [<-O] at hm;have S:=UL (show c<=1000000 by omega);have U:c<(pnv L).length:=by rw [rT];exact G
   have F:p-c<(pnv L).length:=by rw [rT];exact t
   obtain ⟨q,W⟩:∃ q,q=p-c:=⟨_,rfl⟩
   have u:(p:Int)-c=(q:Int):=o_;rw [<-W] at M F t;have V:p<=2000000:=o_;cases B:P c with
   | true=>
    rw [B,if_pos rfl] at d;have r:ltP s y z=false:=by rw [B] at o;simpa using o.symm
    have J:¬ iO s y z<0:=of_decide_eq_false r;have C:(!decide (iO s y z<0))=true:=congrArg (λ b=>!b) r;have D:=aIT s hs L j N a m b mid n p l i P x R k ao f (c+1) g o_ o_ o_ h3 d
    clear r;generalize iO s y z=v at *
    dsimp only [bK] at D⊢;generalize pnv L=K at *
    clear x ao
    refine gV ?_;refine aT λ h=>?_
    repeat' first | (refine gN (hEr [] [61,63,64,65,113,115,116,117]) ?_;conv=>whnf) | (rw [hm];refine Gd (Ac S ?_)) | refine ⟨q,u,?_⟩ | refine ⟨_,M,?_⟩ | refine ⟨c,rfl,?_⟩ | refine ⟨_,Q,?_⟩ | refine .pure _ [] A ?_ | refine Ac (λ_=>?_) (λ h=>absurd (C.symm.trans h) d_) | exact rfl | (refine zt ?_;try intro h) | refine zu (λ h=>?_) λ h=>?_ | fail
    exact zW
   | false=>
    rw [B,if_neg d_] at d;have r:ltP s y z=true:=by rw [B] at o;simpa using o.symm
    have J:iO s y z<0:=of_decide_eq_true r;have C:(!decide (iO s y z<0))=false:=congrArg (λ b=>!b) r;have D:=aIT s hs L j N a m b mid n p l i P x R k ao f lo c o_ o_ h2 o_ d
    clear r;generalize iO s y z=v at *
    dsimp only [bK] at D⊢;generalize pnv L=K at *
    clear x ao
    refine gV ?_;refine aT λ h=>?_
    repeat' first | (refine gN (hEr [] [61,63,64,65,113,115,116,117]) ?_;conv=>whnf) | (rw [hm];refine Gd (Ac S ?_)) | refine ⟨q,u,?_⟩ | refine ⟨_,M,?_⟩ | refine ⟨c,rfl,?_⟩ | refine ⟨_,Q,?_⟩ | refine .pure _ [] A ?_ | refine Ac (λ h=>absurd (C.symm.trans h) d_) (λ_=>?_) | exact rfl | (refine zt ?_;try intro h) | refine zu (λ h=>?_) λ h=>?_ | fail
    exact zW
  .unfold bis at d;rw [if_neg w] at d;subst d;have e:lo=g:=o_;subst e;exact ao
def thP (s:Sta) (L:List Pn) (p c:Nat):Bool:=match L[p-c]?,L[c]? with
 | some y,some z=>!ltP s y z
 | _,_=>false
def LD (X A:List Pn) (i:Nat) (h:X.length<=i):(X++A)[i]? =A[i-X.length]?:=Ak h
def aMW (s:Sta) (X U V Y:List Pn) (a m b mid n lo d:Nat) (M:a=X.length) (hm:m=a+U.length) (P:b=m+V.length) (hU:0<U.length) (Q:0<V.length) (w:mid=(a+b) / 2) (O:n=mid+m)
  (j:lo=if mid<m then n-b else a) (i:d=if mid<m then mid else m) (G:Tot (ltP s) (U++V)) (k:Nat) (I:bis (thP s (X++(U++(V++Y))) (n-1)) (d-lo) lo d=k):
  (∀ c,lo<=c->c<d->c<=n-1/\∃ y z,(X++(U++(V++Y)))[n-1-c]? =some y/\(X++(U++(V++Y)))[c]? =some z/\thP s (X++(U++(V++Y))) (n-1) c= !ltP s y z)/\lo<=d/\a<=k/\k<=m/\m<=n-k/\n-k<=b/\k<=n/\
  (k-a=0\/V.length<=n-k-m\/ltO (ltP s) U[k-a-1]? V[n-k-m]?)/\(n-k-m=0\/U.length<=k-a\/ltO (ltP s) V[n-k-m-1]? U[k-a]?):=by
 have N:∀ c,a<=c->c<m->(X++(U++(V++Y)))[c]? =U[c-a]?:=λ c h1 e=>by rw [LD _ _ _ o_,Ag o_,M]
 have K:∀ c,m<=c->c<b->(X++(U++(V++Y)))[c]? =V[c-m]?:=λ c h1 e=>by rw [LD _ _ _ o_,LD _ _ _ o_,Ag o_];congr 1;omega
 have l:lo<=d/\a<=lo/\d<=m/\n-d<=b/\m<=n-d/\n-lo<=b/\d<=n-1+1/\(lo=a\/n-lo=b)/\(d=m\/n-d=m):=by
  by_cases h:mid<m
  .rw [if_pos h] at j i;omega
  .rw [if_neg h] at j i;omega
 obtain ⟨l1,l2,Z,T,S,W,R,B,L⟩:=l;have f:∀ c,lo<=c->c<d->∃ y z,V[n-1-c-m]? =some y/\U[c-a]? =some z/\(X++(U++(V++Y)))[n-1-c]? =some y/\(X++(U++(V++Y)))[c]? =some z/\thP s (X++(U++(V++Y))) (n-1) c= !ltP s y z:=λ c h1 e=>by have C:V[n-1-c-m]? =some V[n-1-c-m]:=Aa o_;have A:U[c-a]? =some U[c-a]:=Aa o_;have r:=(K (n-1-c) o_ o_).trans C;have u:=(N c o_ o_).trans A;refine ⟨_,_,C,A,r,u,?_⟩;unfold thP;rw [r,u]
 have p:∀ y∈V,∀ z∈U,ltP s y z=false->ltP s z y=true:=λ y J z hz h=>by
  rcases (Cb.1 G).2.2 z hz y J with q | q
  .exact q
  .rw [q] at h;cases h
 obtain ⟨D,H,v,t⟩:=JV (thP s (X++(U++(V++Y))) (n-1)) (d-lo) lo d (Bc _) l1;rw [I] at D H v t;refine ⟨λ c h1 e=>⟨by omega,?_⟩,l1,by omega,by omega,by omega,by omega,by omega,?_,?_⟩
 .obtain ⟨y,z,_,_,h3,F,g⟩:=f c h1 e;exact ⟨y,z,h3,F,g⟩
 .rcases v with h | h
  .rcases B with e | e
   .left;omega
   .right;left;omega
  .by_cases x:k=lo
   .rcases B with e | e
    .left;omega
    .right;left;omega
   .obtain ⟨y,z,h1,e,_,_,g⟩:=f (k-1) o_ o_;rw [h] at g;have o:ltP s y z=false:=by simpa using g.symm
    right;right;refine ⟨z,y,?_,?_,p y (Au h1) z (Au e) o⟩
    .rw [<-e];congr 1;omega
    .rw [<-h1];congr 1;omega
 .by_cases x:k=d
  .rcases L with e | e
   .right;left;omega
   .left;omega
  .obtain ⟨y,z,h1,e,_,_,g⟩:=f k o_ o_;rcases t with h | h
   .exact absurd h x
   .rw [h] at g;have o:ltP s y z=true:=by simpa using g.symm
    right;right;refine ⟨y,z,?_,?_,o⟩
    .rw [<-h1];congr 1;omega
    .rw [<-e]
def aMi (s:Sta) (V:List Pn) (u:Pn) (P:Nat->Bool) (o m b k:Nat) (p:b=m+V.length) (j:Up (ltP s) V) (l:Tot (ltP s) (u::V)) (i:∀ h y,m<=h->V[h-m]? =some y->(P h=true->ltP s y u=true)/\(P h=false->ltP s u y=true)) (n:bis P (b-m) m b=k):
  m<=k/\k<=b/\V.take (k-m)++u::V.drop (k-m)=srt (ltP s) (u::V):=by
 obtain ⟨a,f,g,d⟩:=JV P (b-m) m b (Bc _) o_;rw [n] at a f g d;refine ⟨a,f,aJC (gS s) j l ?_ ?_⟩
 .by_cases c:k=m
  .left;omega
  .have e:V[k-m-1]? =some V[k-m-1]:=Aa o_;rcases g with h | h
   .exact absurd h c
   .exact .inr ⟨_,_,e,rfl,(i (k-1) _ o_ (by rw [<-e];congr 1;omega)).1 h⟩
 .by_cases c:k=b
  .left;omega
  .have e:V[k-m]? =some V[k-m]:=Aa o_;rcases d with h | h
   .exact absurd h c
   .exact .inr ⟨_,_,rfl,e,(i k _ a e).2 h⟩
def aDS (X A:List Pn) (u:Pn) {a:Nat} (b:a=X.length):(X++u::A)[a]? =some u:=by subst b;simp
set_option maxHeartbeats 1000000 in
def aEA (s:Sta) (hs:OrdOK s) (X V Y:List Pn) (u:Pn) (a m b:Nat) (x:a=X.length) (hm:m=a+1) (B:b=m+V.length) (hl:b+Y.length<=999000) (d:lY (X++(u::(V++Y)))) (p:Up (ltP s) V) (j:Tot (ltP s) (u::V)):
  ar 233 [.row 0 0,ii a,ii m,ii b,kH s] (bK (X++(u::(V++Y)))) (.ret (.tup [])) (bK (X++(srt (ltP s) (u::V)++Y))):=by
 have w:∀ h,m<=h->h<b->(X++(u::(V++Y)))[h]? =V[h-m]?:=λ h h1 i=>by rw [LD _ _ _ o_,show h-X.length=(h-m)+1 by omega,Fv,Ag o_]
 obtain ⟨P,o⟩:∃ P:Nat->Bool,∀ h y,(X++(u::(V++Y)))[h]? =some y->P h=ltP s y u:=⟨λ h=>match (X++(u::(V++Y)))[h]? with | some y=>ltP s y u | none=>false,λ h y e=>by simp only [e]⟩
 obtain ⟨k,n⟩:∃ k,bis P (b-m) m b=k:=⟨_,rfl⟩
 have c:∀ y∈V,ltP s u y=true\/ltP s y u=true:=λ y D=>(Cv.1 j).1 y D
 obtain ⟨G,H,t⟩:=aMi s V u P 0 m b k B p j (λ h y h1 i=>by
  have l:h<b:=by have:=(Ab.1 i).1;omega
  rw [o h y ((w h h1 l).trans i)];refine ⟨id,λ h3=>?_⟩;rcases c y (Au i) with q | q
  .exact q
  .rw [q] at h3;cases h3) n
 have r:X++(srt (ltP s) (u::V)++Y)=X++(V.take (k-m)++u::(V.drop (k-m)++Y)):=by rw [<-t];simp only [Af,Cc]
 have v:X++(u::(V++Y))=X++u::(V.take (k-m)++(V.drop (k-m)++Y)):=by rw [<-Af (V.take _),Bq]
 have n1:=mv1 _ (V.drop (k-m)++Y) u (V.take (k-m)) X k a x q_ q_ r;rw [<-v] at n1;have n2:=aIV s hs _ d q_ a u (aDS X _ u x) P o _ k n1 _ m b (Bc _) o_ q_ n;have I:((m:Int)-a==1)=true:=by rw [hm];simp;omega
 dsimp only [bK] at n2⊢;generalize pnv (X++(u::(V++Y)))=L at *
 generalize pnv (X++(srt (ltP s) (u::V)++Y))=R at *
 have z:m<=b:=o_;have F:b<=1000000:=o_;have C:a<=m:=o_;clear n1 r v t w o c d j p n;exact zqda5
set_option maxHeartbeats 1000000 in
def aEz (s:Sta) (hs:OrdOK s) (X U Y:List Pn) (v:Pn) (a m b:Nat) (H:a=X.length) (hm:m=a+U.length) (C:b=m+1) (G:U.length≠1) (hl:b+Y.length<=999000) (j:lY (X++(U++(v::Y)))) (z:Up (ltP s) U) (c:Tot (ltP s) (U++[v])):
  ar 233 [.row 0 0,ii a,ii m,ii b,kH s] (bK (X++(U++(v::Y)))) (.ret (.tup [])) (bK (X++(srt (ltP s) (U++[v])++Y))):=by
 have p:srt (ltP s) (U++[v])=srt (ltP s) (v::U):=aAk (gS s) c;rw [p];have c:Tot (ltP s) (v::U):=c.perm (Dw);have x:∀ h,a<=h->h<m->(X++(U++(v::Y)))[h]? =U[h-a]?:=λ h h1 l=>by rw [LD _ _ _ o_,Ag o_,H]
 obtain ⟨P,r⟩:∃ P:Nat->Bool,∀ h y,(X++(U++(v::Y)))[h]? =some y->P h= !ltP s v y:=⟨λ h=>match (X++(U++(v::Y)))[h]? with | some y=>!ltP s v y | none=>false,λ h y e=>by simp only [e]⟩
 obtain ⟨k,o⟩:∃ k,bis P (m-a) a m=k:=⟨_,rfl⟩
 have i:∀ y∈U,ltP s v y=true\/ltP s y v=true:=λ y F=>(Cv.1 c).1 y F
 obtain ⟨J,K,u⟩:=aMi s U v P 0 a m k hm z c (λ h y h1 l=>by
  have n:h<m:=by have:=(Ab.1 l).1;omega
  rw [r h y ((x h h1 n).trans l)];refine ⟨λ h3=>?_,λ h3=>by simpa using h3⟩;rcases i y (Au l) with q | q
  .rw [q] at h3;cases h3
  .exact q) o
 have t:X++(srt (ltP s) (v::U)++Y)=(X++U.take (k-a))++v::(U.drop (k-a)++Y):=by rw [<-u];simp only [Af,Cc]
 have w:X++(U++(v::Y))=(X++U.take (k-a))++(U.drop (k-a)++v::Y):=by rw [Af,<-Af (U.take _),Bq]
 have n1:=mv2 _ v (X++U.take (k-a)) k q_ _ (U.drop (k-a)) Y m rfl q_ q_ t;rw [<-w] at n1;have d:(X++(U++(v::Y)))[m]? =some v:=by rw [<-Af];exact aDS (X++U) Y v q_
 have n2:=aIU s hs _ j q_ m v d P r _ k n1 _ a m (Bc _) o_ q_ o;have N:((m:Int)-a==1)=false:=by rw [hm];simp;omega
 have M:((b:Int)-m==1)=true:=by rw [C];simp;omega
 dsimp only [bK] at n2⊢;generalize pnv (X++(U++(v::Y)))=L at *
 generalize pnv (X++(srt (ltP s) (v::U)++Y))=R at *
 have B:m<=b:=o_;have I:b<=1000000:=o_;have D:a<=m:=o_;clear n1 t w u x r i j c z o d;exact zqda5
set_option maxHeartbeats 2000000 in
def aIJ (s:Sta) (hs:OrdOK s):∀ (N:Nat) (X U V Y:List Pn) (a m b:Nat),U.length+V.length<=N->a=X.length->m=a+U.length->b=m+V.length->0<U.length->0<V.length->b+Y.length<=999000->lY (X++(U++(V++Y)))->Up (ltP s) U->Up (ltP s) V->Tot (ltP s) (U++V)->
  ar 233 [.row 0 0,ii a,ii m,ii b,kH s] (bK (X++(U++(V++Y)))) (.ret (.tup [])) (bK (X++(srt (ltP s) (U++V)++Y))):=by
 intro N;induction N with
 | zero=>intro X U V Y a m b hN;omega
 | succ N ih=>
  intro X U V Y a m b hN F hm K pU pV hl d D C p;by_cases B:U.length=1
  .obtain ⟨u,rfl⟩:=Mh.1 B;exact aEA s hs X V Y u a m b F hm K hl d C p
  by_cases S:V.length=1
  .obtain ⟨v,rfl⟩:=Mh.1 S;exact aEz s hs X U Y v a m b F hm K B hl d D p
  obtain ⟨mid,j⟩:∃ mid,mid=(a+b) / 2:=⟨_,rfl⟩
  obtain ⟨n,hn⟩:∃ n,n=mid+m:=⟨_,rfl⟩
  obtain ⟨lo,i⟩:∃ lo,lo=if mid<m then n-b else a:=⟨_,rfl⟩
  obtain ⟨o,e⟩:∃ o,o=if mid<m then mid else m:=⟨_,rfl⟩
  obtain ⟨k,H⟩:∃ k,bis (thP s (X++(U++(V++Y))) (n-1)) (o-lo) lo o=k:=⟨_,rfl⟩
  obtain ⟨hP,P,k1,k2,k3,k4,k5,r,w⟩:=aMW s X U V Y a m b mid n lo o F hm K pU pV j hn i e p k H;have hst:(k-a)+(n-k-m)=mid-a:=o_;have x:=aFS (gS s) D C p r w;have q:=uL D (k-a);have t:=uL C (n-k-m);have t1:Tot (ltP s) (U.take (k-a)++V.take (n-k-m)):=Gc ((Ig _ U).append (Ig _ V)) p;have Z:Tot (ltP s) (U.drop (k-a)++V.drop (n-k-m)):=Gc ((Ih _ U).append (Ih _ V)) p;have tU:U.take (k-a)++U.drop (k-a)=U:=Bq _ _;have tV:V.take (n-k-m)++V.drop (n-k-m)=V:=Bq _ _;have lU1:(U.take (k-a)).length=k-a:=by simp;omega
  have y:(U.drop (k-a)).length=m-k:=by simp;omega
  have z:(V.take (n-k-m)).length=n-k-m:=by simp;omega
  have lV2:(V.drop (n-k-m)).length=b-(n-k):=by simp;omega
  generalize U.take (k-a)=U1 at *
  generalize U.drop (k-a)=U2 at *
  generalize V.take (n-k-m)=V1 at *
  generalize V.drop (n-k-m)=V2 at *
  have Q:X++(U++(V++Y))=X++(U1++(U2++(V1++(V2++Y)))):=by rw [<-tU,<-tV];simp only [Af]
  have lS1:(srt (ltP s) (U1++V1)).length=mid-a:=by rw [(fA (ltP s) (U1++V1)).length_eq,Ai];omega
  have I:lY (X++(U1++(V1++(U2++(V2++Y))))):=d.perm (by
   rw [Q];refine Dv X (Dv U1 ?_);rw [<-Af U2,<-Af V1]
   exact Dt _ Dw)
  have p2:lY ((X++srt (ltP s) (U1++V1))++(U2++(V2++Y))):=I.perm (by
   rw [Af X];refine Dv X ?_;rw [<-Af U1]
   exact Dt _ (fA (ltP s) (U1++V1)).symm)
  have d1:Stp 270 s k m (n-k) (pnv (X++(U++(V++Y)))) (pnv (X++(U1++(V1++(U2++(V2++Y)))))):=by
   rw [Q];by_cases c:k<m
   .by_cases l:m<n-k
    .refine .inl ⟨c,l,?_⟩;have:=aI4 s (X++U1) U2 V1 (V2++Y) k m (n-k) q_ o_ o_ (by intro h;rw [h] at y;simp at y;omega) (by intro h;rw [h] at z;simp at z;omega) q_;rw [Af X,Af X] at this;exact this
    .refine .inr (.inl ⟨c,l,?_⟩);have:V1=[]:=Cl.1 o_;rw [this];rfl
   .refine .inr (.inr ⟨c,?_⟩);have:U2=[]:=Cl.1 o_;rw [this];rfl
  have d2:Stp 233 s a k mid (pnv (X++(U1++(V1++(U2++(V2++Y)))))) (pnv (X++(srt (ltP s) (U1++V1)++(U2++(V2++Y))))):=by
   by_cases c:a<k
   .by_cases l:k<mid
    .exact .inl ⟨c,l,ih X U1 V1 (U2++(V2++Y)) a k mid o_ F o_ o_ o_ o_ q_ I (Cb.1 q).1 (Cb.1 t).1 t1⟩
    .refine .inr (.inl ⟨c,l,?_⟩);have:V1=[]:=Cl.1 o_;rw [this,Av,uP (gS s) (Cb.1 q).1];rfl
   .refine .inr (.inr ⟨c,?_⟩);have:U1=[]:=Cl.1 o_;have O:srt (ltP s) ([]++V1)=V1:=uP (gS s) (Cb.1 t).1;rw [this,O];rfl
  have d3:Stp 233 s mid (n-k) b (pnv (X++(srt (ltP s) (U1++V1)++(U2++(V2++Y))))) (pnv (X++(srt (ltP s) (U++V)++Y))):=by
   rw [<-x,Af (srt (ltP s) (U1++V1))];by_cases c:mid<n-k
   .by_cases l:n-k<b
    .have:=ih (X++srt (ltP s) (U1++V1)) U2 V2 Y mid (n-k) b o_ q_ o_ o_ o_ o_ hl p2 (Cb.1 q).2.1 (Cb.1 t).2.1 Z;rw [Af X,Af X] at this;exact .inl ⟨c,l,this⟩
    .refine .inr (.inl ⟨c,l,?_⟩);have:V2=[]:=Cl.1 o_;rw [this,Av,uP (gS s) (Cb.1 q).2.1];rfl
   .refine .inr (.inr ⟨c,?_⟩);have:U2=[]:=Cl.1 o_;have O:srt (ltP s) ([]++V2)=V2:=uP (gS s) (Cb.1 t).2.1;rw [this,O];rfl
  have n1:=aAb s a m b mid n k (n-k) ((n-1:Nat):Int) o_ o_ _ _ _ _ d1 d2 d3;have n2:=aIT s hs _ d q_ a m b mid n (n-1) lo o _ hP _ k n1 _ lo o (Bc _) P (Bc _) (Bc _) H;have e1:((m:Int)-a==1)=false:=by simp;omega
  have W:((b:Int)-m==1)=false:=by simp;omega
  have e3:((n:Int)-1)=((n-1:Nat):Int):=o_;have G:=IV a b;rw [<-j] at G;have T:=UL (show mid<=1000000 by omega);rw [<-e3] at n2;have en:(n:Int)=(mid:Int)+m:=o_;have hm9:m<=b:=o_;have hb9:b<=1000000:=o_;have ha9:a<=m:=o_;have J:mid<=1000000:=o_;dsimp only [bK,aEB] at n2⊢;generalize pnv (X++(U++(V++Y)))=L at *
  generalize pnv (X++(srt (ltP s) (U++V)++Y))=R at *
  clear n1 d1 d2 d3 I p2 Q x q t t1 Z tU tV hP H d p D C r w;by_cases hq:mid<m
  .rw [if_pos hq] at i e;have M:(lo:Int)=(mid:Int)+m-b:=o_;subst e;rw [M,en] at n2;refine cT (E:=(Er [] [61,63,64,65,113,115,116,117])) (fn:=Tryz.f233) (g:=.full 1 _ _) λ_=>?_
   repeat' first | (refine gN (hEr [] [61,63,64,65,113,115,116,117]) ?_;conv=>whnf) | refine Ac (λ h=>absurd (e1.symm.trans h) d_) (λ_=>?_) | refine Ac (λ h=>absurd (W.symm.trans h) d_) (λ_=>?_) | (rw [G];refine Gd (Ac T ?_)) | refine Ac (λ_=>?_) (λ h=>absurd (of_decide_eq_false h) o_) | exact rfl | (refine zt ?_;try intro h) | refine zu (λ h=>?_) λ h=>?_ | fail
   exact zW
  .rw [if_neg hq] at i e;subst i e;rw [en] at n2;refine cT (E:=(Er [] [61,63,64,65,113,115,116,117])) (fn:=Tryz.f233) (g:=.full 1 _ _) λ_=>?_
   repeat' first | (refine gN (hEr [] [61,63,64,65,113,115,116,117]) ?_;conv=>whnf) | refine Ac (λ h=>absurd (e1.symm.trans h) d_) (λ_=>?_) | refine Ac (λ h=>absurd (W.symm.trans h) d_) (λ_=>?_) | (rw [G];refine Gd (Ac T ?_)) | refine Ac (λ h=>absurd (of_decide_eq_true h) o_) (λ_=>?_) | exact rfl | (refine zt ?_;try intro h) | refine zu (λ h=>?_) λ h=>?_ | fail
   exact zW
def AV {n:Nat} (h:n<=1000000):zX n 88:=⟨by simp only [maxLen];omega,by omega⟩
def aIO (s:Sta) (hs:OrdOK s) (P:List Pn) (n:Nat) (t:n=P.length) (hl:n<40) (a:lY P) (e:Tot (ltP s) P):
  ar 169 [.row 0 0,ii n,kH s] (bK P) (.ret (.tup [])) (bK (srt (ltP s) P)):=by
 by_cases z:n<20
 .have h1:=QB s hs [] P [] 0 n rfl q_ q_ a;rw [Bn,Bn,Av,Av] at h1;generalize srt (ltP s) P=R at *
  dsimp only [bK] at h1⊢;generalize pnv P=L at *
  clear t a e;refine cT (E:=E) (fn:=Tryz.f169) (g:=.full 1 _ _) λ_=>?_
  repeat' first | (refine gN hE ?_;conv=>whnf) | exact rfl | (refine zt ?_;try intro h) | refine zu (λ h=>?_) λ h=>?_ | fail
  refine gV ?_;refine Ac (λ h=>absurd (of_decide_eq_true h) o_) (λ_=>?_)
  repeat' first | (refine gN hE ?_;conv=>whnf) | refine .eff [] [0] _ _ rfl h1 ?_ | exact rfl | (refine zt ?_;try intro h) | refine zu (λ h=>?_) λ h=>?_ | fail
  refine gV ?_;exact zW
 .obtain ⟨A,B,rfl,l⟩:∃ A B,P=A++B/\A.length=20:=⟨P.take 20,P.drop 20,(Bq 20 P).symm,by simp;omega⟩
  rw [Ai,l] at t;have b:lY A:=λ p hp=>a p (Dd _ hp);have c:lY B:=λ p hp=>a p (Cu _ hp);obtain ⟨o,tB,_⟩:=Cb.1 e;have i:=fA (ltP s) A;have j:=fA (ltP s) B;have m:(srt (ltP s) A).length=20:=by rw [i.length_eq,l]
  have w:(srt (ltP s) B).length=B.length:=j.length_eq;have h1:=QB s hs [] A B 0 20 rfl q_ o_ b;rw [Bn,Bn] at h1;have d:=QB s hs (srt (ltP s) A) B [] 20 n m.symm o_ q_ c;rw [Av,Av] at d;by_cases C:n=20
  .have y:B=[]:=Cl.1 o_;subst y;rw [Av] at h1 d⊢;have x:srt (ltP s) ([]:List Pn)=[]:=rfl;rw [x,Av] at d;rw [Av] at h1;generalize srt (ltP s) A=R at *
   dsimp only [bK] at h1 d⊢;generalize pnv A=L at *
   clear l a e b c o tB i j m w;refine cT (E:=E) (fn:=Tryz.f169) (g:=.full 1 _ _) λ_=>?_
   repeat' first | (refine gN hE ?_;conv=>whnf) | exact rfl | (refine zt ?_;try intro h) | refine zu (λ h=>?_) λ h=>?_ | fail
   refine gV ?_;refine Ac (λ_=>?_) (λ h=>absurd (of_decide_eq_false h) o_)
   repeat' first | (refine gN hE ?_;conv=>whnf) | refine .eff [] [0] _ _ rfl h1 ?_ | exact rfl | (refine zt ?_;try intro h) | refine zu (λ h=>?_) λ h=>?_ | fail
   refine gV ?_;refine Ac (λ h=>absurd (of_decide_eq_true h) o_) (λ_=>?_)
   repeat' first | (refine gN hE ?_;conv=>whnf) | refine .eff [] [0] _ _ rfl d ?_ | exact rfl | (refine zt ?_;try intro h) | refine zu (λ h=>?_) λ h=>?_ | fail
   refine gV ?_;exact zW
  .have v:=qG (gS s) o;have u:=qG (gS s) tB;have k:(srt (ltP s) A++srt (ltP s) B).Perm (A++B):=i.append j;have q:Tot (ltP s) (srt (ltP s) A++srt (ltP s) B):=e.perm k.symm;have h3:=aIJ s hs _ [] (srt (ltP s) A) (srt (ltP s) B) [] 0 20 n (Bc _) rfl q_ o_ o_ o_ q_ (by rw [Bn,Av];exact a.perm k.symm) v u q;rw [Bn,Bn,Av,Av] at h3;have r:srt (ltP s) (srt (ltP s) A++srt (ltP s) B)=srt (ltP s) (A++B):=O3 (gS s) (((fA _ _).trans k).trans (fA _ _).symm) (qG (gS s) q) (qG (gS s) e);rw [r] at h3;generalize srt (ltP s) (A++B)=R at *
   dsimp only [bK] at h1 d h3⊢;generalize pnv (A++B)=L at *
   generalize pnv (srt (ltP s) A++B)=L2 at *
   generalize pnv (srt (ltP s) A++srt (ltP s) B)=L3 at *
   clear l a e b c o tB i j m w v u k q r;refine cT (E:=E) (fn:=Tryz.f169) (g:=.full 1 _ _) λ_=>?_
   repeat' first | (refine gN hE ?_;conv=>whnf) | exact rfl | (refine zt ?_;try intro h) | refine zu (λ h=>?_) λ h=>?_ | fail
   refine gV ?_;refine Ac (λ_=>?_) (λ h=>absurd (of_decide_eq_false h) o_)
   repeat' first | (refine gN hE ?_;conv=>whnf) | refine .eff [] [0] _ _ rfl h1 ?_ | exact rfl | (refine zt ?_;try intro h) | refine zu (λ h=>?_) λ h=>?_ | fail
   refine gV ?_;refine Ac (λ h=>absurd (of_decide_eq_true h) o_) (λ_=>?_)
   repeat' first | (refine gN hE ?_;conv=>whnf) | refine .eff [] [0] _ _ rfl d ?_ | exact rfl | (refine zt ?_;try intro h) | refine zu (λ h=>?_) λ h=>?_ | fail
   refine gV ?_;refine Ac (λ_=>?_) (λ h=>absurd (of_decide_eq_false h) o_)
   repeat' first | (refine gN hE ?_;conv=>whnf) | exact rfl | (refine zt ?_;try intro h) | refine zu (λ h=>?_) λ h=>?_ | fail
   refine gV ?_;refine Ac (λ h=>absurd (of_decide_eq_true h) o_) (λ_=>?_)
   repeat' first | (refine gN hE ?_;conv=>whnf) | refine Ac (λ_=>?_) (λ h=>absurd (of_decide_eq_false h) o_) | refine .eff [] [0] _ _ rfl h3 ?_ | exact rfl | (refine zt ?_;try intro h) | refine zu (λ h=>?_) λ h=>?_ | fail
   refine gV ?_;exact zW
def aIP (s:Sta) (hs:OrdOK s) (P:List Pn) (hl:P.length<40) (a:lY P) (b:Tot (ltP s) P):
  ar 110 [.row 0 0,kH s] (bK P) (.ret (.tup [])) (bK (srt (ltP s) P)):=by
 have h1:=aIO s hs P (pnv P).length s_ (by simpa using hl) a b;generalize srt (ltP s) P=R at *
 have c:(pnv P).length<=1000000:=by simp;omega
 dsimp only [bK] at h1⊢;generalize pnv P=L at *
 clear a b;refine cT (E:=E) (fn:=Tryz.f110) (g:=.full 1 _ _) λ_=>?_;exact zW
def Y1 (xs:List Pn) (a:xs.length<=1000000):ar 106 [.slice 11 (pnv xs) .no] [] (.ret (.row 0 0)) (bK xs):=by
 refine cT (E:=(Er [2,5] [])) (fn:=Tryz.f106) (g:=.full 0 _ _) λ_=>?_;refine gV ?_;intro b c;refine gV ?_;refine ⟨λ h=>?_,λ h=>?_⟩
 .refine gV ?_;refine ⟨[],[1],⟨rfl,rfl⟩,?_⟩;conv=>whnf
  rw [c (by simpa using h)];exact ⟨rfl,rfl⟩
 .refine gV ?_;refine ⟨AV (by simpa using a),?_⟩;refine gV ?_;refine ⟨[],[1],⟨rfl,rfl⟩,?_⟩;exact ⟨rfl,rfl⟩
def aBm (s:Sta) (hs:OrdOK s) (hl:s.pend.length<40) (a:lY s.pend) (c:Tot (ltP s) s.pend):
  ar 51 [s.av] [] (.ret (.slice 11 (pnv (B9 s)) .no)) []:=by
 have h1:=Y1 s.pend o_;have b:=aIP s hs s.pend hl a c;have e:srt (ltP s) s.pend=B9 s:=rfl;rw [e] at b;generalize B9 s=R at *
 refine c_ Tryz.f51 λ_=>?_;refine gV ?_;refine .eff [] [] _ _ rfl h1 ?_;refine gV ?_;refine .eff [2,0] [1] _ _ rfl b ?_;refine gW hE ?_;conv=>whnf
end Go.Proofs.YtidhfoefaomodaaGreatDoor
