/- Part 8 of what the statement rests on. -/
import Derived.Lib.Builder
import Derived.Lib.UnsafeStr
import Derived.Lib.Walk
import Derived.Shelf.RegionOpenPlain
import Derived.Test.YtenkdioaefckoaaGreatDoorRP
set_option linter.all false
set_option maxHeartbeats 2000000
open Go.AW.Res renaming ret->Io
open Go.AW.St renaming head->G0
open Go.AW.Tk renaming no->J0
open Go.AW.aa renaming agg->He,bool->DA,int->GE,nilptr->By,ref->G2,slice->CA,str->HA,tup->GT
open Go.AW.ab renaming cells->Do,tail->Fr
open Go.IntKind renaming i64->Is,u64->IH
open List renaming length->Z
open Bool renaming true->O,false->S
open Option renaming some->X,none->U
open And renaming intro->Aa
open Bool renaming and_assoc->Gc,and_eq_true->Af,and_false->Bo,and_true->Hz,eq_false_or_eq_true->Eu,eq_iff_iff->Gk,false_and->Cq,not_eq_false'->Ja,not_eq_true'->Db,or_eq_true->Fg,true_and->Bt
open Decidable renaming not_not->Ds
open Exists renaming intro->Aj
open Go.Builtin renaming unsafeSliceData_->Iu,unsafeString_->Jw
open Go.Result renaming andThen->Es
open Int renaming fdiv_eq_ediv_of_nonneg->Ea,le_refl->Ei,toNat_natCast->Bm
open List renaming all_cons->Hi,all_eq_true->Ck,any_eq_true->Fq,append_assoc->Ag,append_nil->Ap,cons_append->Ca,count_append->Jj,count_cons_self->Ko,count_eq_zero->Lc,drop->Fx,drop_eq_getElem_cons->Ac,drop_eq_nil_of_le->Ae,drop_left->Ld,drop_zero->Bz,eraseIdx_eq_take_drop_succ->Fb,ext_getElem?->Ez,foldl_cons->Ao,getElem?_append_left->Ai,getElem?_append_right->Ar,getElem?_drop->Dd,getElem?_eq_getElem->Ab,getElem?_eq_none->Bk,getElem?_map->Bw,getElem?_take_of_lt->Bj,getElem_mem->Av,length_append->Ah,length_cons->Al,length_drop->Dq,length_eraseIdx->Kn,length_map->Cb,length_nil->Bs,length_pos_iff->Dp,length_take->Dr,map_append->Bh,map_cons->Bg,map_drop->Ia,map_map->Dx,map_take->Fw,mem_append->Bx,mem_cons->Ba,mem_cons_of_mem->Az,mem_cons_self->Aw,mem_map->Co,mem_map_of_mem->Cn,nodup_cons->Ce,not_mem_nil->Lz,pairwise_iff_getElem->Ek,range->Df,range'->Hw,replicate->Ak,take->Fi,take_add_one->Lm,take_append_of_le_length->Eh,take_of_length_le->Bq
open Nat renaming le_refl->Bc,le_trans->Cl,min_eq_left->Gl,mod_eq_of_lt->Hn,mul_add->Gd,mul_assoc->Hk,mul_comm->Cz,mul_le_mul_right->Br,pow_add->Ey,pow_le_pow_right->Ej,strongRecOn->Hy,zero_add->Bv,zero_le->Bn,zero_lt_succ->Ma
open Or renaming inl->Fk,inr->Jl
open UInt8 renaming ofNat->Dn,toNat_ofNat'->Gx
namespace Go.Proofs.YtenkdioaefckoaaGreatDoor
variable{P:Prop}
open Go.Proofs.Tryz
open Go Go.AW Go.Proofs
def zqca0(h:P:=by
 have b:S=r:=b;subst b;rcases z with⟨rfl,rfl⟩|rfl
 .refine gV ?_;refine aT λh=>?_
  repeat' first|refine pA ?_|refine⟨i,rfl,?_⟩|refine⟨u0.toNat,j,?_⟩|refine⟨_,get,?_⟩|refine⟨_,e,?_⟩|refine⟨_,n,?_⟩|refine Aj _ (Aa (d _) ?_)|refine .p a ?_|exact rfl|refine lA ?_ ?_|intro h
 .refine gV ?_;refine aT λh=>?_
  repeat' first|refine pA ?_|refine⟨i,rfl,?_⟩|refine⟨u0.toNat,j,?_⟩|refine⟨_,get,?_⟩|refine⟨_,e,?_⟩|refine⟨_,n,?_⟩|refine Aj _ (Aa (d _) ?_)|refine .p a ?_|exact rfl|refine lA ?_ ?_|intro h):P:=h
def zqca1(h:P:=by
 refine To.leave (f:=141) (args:=[G2 1 0]) [] rfl [] [1] rfl (catch_pan 0 1) ?_
 exact To.left hE rfl rfl rfl):P:=h
def zqca2(h:P:=by
 refine gV ?_;refine aT λh=>gV ?_;refine⟨i,rfl,gV ?_⟩;refine⟨_,get,gV ?_⟩;refine .p c ?_;refine bO (hEr [] [64,65,66]) 20 ?_;conv=>whnf
 refine To.cutC [1,3,4,6,7,14,15,16] 3 rfl rfl rfl rfl ?_;refine vP p ?_
 exact zW):P:=h
def zqca3(h:P:=by
 refine gV ?_;refine .eff [] [1,2] _ _ rfl (aA.strip (nums_ok [x.n] s_ l s_ _ q_)) (gV ?_);have il:=il_cons x [x.n] (by rw[h1,b,j];rfl);have a:putN x.k.toNat++pl [x.n]≠[]:=by rw[il];exact pl_ne _ _
 refine .eff [] [1,2] _ _ rfl (str_ok _ a _) (gV ?_)
 rw[il]):P:=h
def zqca4(h:P:=by
 refine⟨λc=>?_,λc=>?_⟩
 .refine gV ?_;rw[bu c]at a;rw[a]
 .refine gV ?_;rw[bt (by rw[c];simp)]at a;refine .inl ⟨⟨by simp only[bV];omega,by simp only[aW];omega⟩,?_⟩;have e:=g (i+1) o_ (by rw[<-a];push_cast;rfl)
  exact zW):P:=h
def zqca5(h:P:=by
 refine gV ?_;refine⟨i,rfl,gV ?_⟩;refine⟨by rw[a];omega,?_⟩;refine gV ?_;refine⟨A7 (by have:=EO (pav l) i;omega),?_⟩;refine gV ?_;refine⟨oI q_,gV ?_⟩;refine⟨i,rfl,gV ?_⟩;refine⟨by rw[a];omega,?_⟩;refine gV ?_;refine⟨oI q_,gV ?_⟩;rw[putP,hp];have:Fi i (pav l)++[p.av]++Fx i (pav l)=pav (l.take i++[p]++l.drop i):=by simp
 rw[<-this]
 rfl):P:=h
def zqca6(h:P:=by
 refine gV ?_;have next:=r (i+1) 1 (bs++putN x.toNat) o_ (.inr rfl) (λ_=>rfl) (λ_=>rfl) q_ a
 rcases f with rfl|rfl
 .refine .sole rfl (.eff [] [0,1] _ _ rfl (ws_ok bs _ o_) (gV ?_));refine aJ (gV ?_);exact To.part [0,6,7,8] [0,1] rfl rfl rfl next
 .refine .sole rfl (.eff [] [0,1] _ _ rfl (ws_ok bs _ o_) (gV ?_));refine aJ (gV ?_);refine To.part [0,6,7,8] [0,1] rfl rfl rfl ?_
  exact next):P:=h
def zqca7(h:P:=by
 refine bO hE 10 ?_;conv=>whnf
 refine To.cutC [1,4] 1 rfl rfl rfl rfl ?_
 exact(gU x S r a)):P:=h
def zqca8(h:P:=by
 refine gV ?_;refine aJ (gV ?_);refine gV ?_;refine Aa (λh=>bv (bn h) s_) (λ_=>gV ?_);refine⟨[],[0,1],⟨rfl,rfl⟩,?_⟩
 exact⟨rfl,rfl⟩):P:=h
def zqca9(h:P:=by
 refine⟨[],[0],⟨rfl,rfl⟩,?_⟩
 exact⟨rfl,rfl⟩):P:=h
def zqca10(h:P:=by
 refine eA (Eo [14] []) f112 2 λ_=>gV ?_;refine .eff [] [0,1] _ _ rfl (OJ _) (gV ?_);refine⟨⟨by simp only[maxLen];simp;omega,by simp;omega⟩,?_⟩;refine gV ?_;refine⟨[],[0,1],⟨rfl,rfl⟩,?_⟩;conv=>whnf
 refine⟨rfl,?_⟩;unfold wrO;rw[Bh]
 rfl):P:=h
def zqca11(h:P:=by
 refine gW hEc ?_;conv=>whnf
 refine .p (gC _ _ rfl) ?_;refine bO hEc 2 ?_;conv=>whnf
 refine To.cutC [1,2] 2 rfl rfl rfl rfl ?_
 exact(aBu x r a)):P:=h
def zqca12(h:P:=by
 simp only[Con.non,Af,beq_iff_eq]at h;obtain⟨⟨⟨h1,b⟩,h3⟩,d⟩:=h;obtain⟨ns,hs,half,age⟩:=c;dsimp only at h1 b h3 d;have e:ns=[]:=by cases ns with|nil=>rfl|cons a l=>simp at h1;omega
 have f:hs=[]:=by cases hs with|nil=>rfl|cons a l=>simp at b;omega
 subst e f h3 d
 rfl):P:=h
def zqca13(h:P:=by
 intro i g bs q f m _ j a;have e:=m rfl;subst e;rw[Ae o_]at a;have a:bs++[]=B:=a;rw[Ap]at a;subst a;refine gV ?_;refine aF λh=>gV ?_;refine⟨[],[0,1],⟨rfl,rfl⟩,?_⟩;rcases f with rfl|rfl
 .exact ⟨rfl,rfl⟩
 .exact ⟨rfl,rfl⟩):P:=h
def zqca14(h:P:=by
 refine eA (Eo [14] []) f112 1 λ_=>gV ?_;refine .eff [] [0] _ _ rfl (cc_fresh _) (gV ?_);refine⟨⟨by simp only[maxLen];simp;omega,by simp;omega⟩,?_⟩;refine gV ?_
 exact zx [0,1]):P:=h
def zqca15(h:P:=by exact c_ f148 λ_=>zW):P:=h
def zqca16(h:P:=by
 refine Lib.run_unsafeString_row w.drew 261 3 9 5 aD7 aID g a.size (by have k:w.drew.heap[g]? =X (.cells a 5 (0,0)):=u;simp[Go.World.shape?,k]) l o o_ (by unfold maxLen at h;omega) ?_;intro j x q;rw[bI,Bv]
 exact c j x q):P:=h
def zqca17(h:P:=by
 refine To.left hE rfl rfl ?_;refine⟨[],[0,1,2],⟨rfl,rfl⟩,?_⟩
 exact⟨rfl,rfl⟩):P:=h
def zqca18(h:P:=by
 refine gW hEc ?_;conv=>whnf
 refine .pan _ (dN _ _ rfl) ?_;conv=>whnf
 exact zqca1):P:=h
def zqca19(h:P:=by
 have h2:pav (xs.take i++[p]++xs.drop i)=(pav xs).take i++[p.av]++(pav xs).drop i:=by simp
 rw[h2]
 exact congrArg (λl=>[ab.row 1 11 104 l,.row 0 11 104 [p.av]]) h):P:=h
def zqca20(h:P:=by
 refine .effp [] [0] _ _ rfl (bU h3) ?_
 exact zx [0]):P:=h
def zqca21(h:P:=by
 refine .effp [] [0] _ _ rfl (bU h1) ?_
 exact zx [0]):P:=h
def zqca22(h:P:=by
 refine To.part [1,3,4,14,15,16] [0,1] rfl rfl rfl ?_;refine a ?_;clear d a;simp only[bo,bk,bne_iff_ne,ne_eq,bne_eq_false_iff_eq,Ds]at*
 simp[gcB]
 try omega):P:=h
def zqca23(h:P:=by
 subst d;refine congrArg (λq=>Res.ret (aa.bool q)) ?_;simp only[bo,bk]at*
 first|(rw[bp o_];rfl)|(rw[bq o_];rfl)):P:=h
def zqca24(h:P:=by exact c_ f75 λ_=>zW):P:=h
def zqca25(h:P:=by
 refine gV ?_;refine .p (k xs[i] (Av b)) (gV ?_);rw[Ac b]at a;have a:(if p xs[i]=O then(i:Int)else NS p (xs.drop (i+1)) ((i:Int)+1))=r:=a
 exact zqca4):P:=h
def zqca26(h:P:=by
 simp only[okI,kB,Af,bo,and_true]
 omega):P:=h
def zqca27(h:P:=by
 refine gV ?_;refine .eff [] [1,2] _ _ rfl (str_ok _ a _) (gV ?_)
 rw[il]):P:=h
def zqca28(h:P:=by
 refine bO hE 8 ?_;conv=>whnf
 refine To.cutC [1,4] 1 rfl rfl rfl rfl ?_
 exact(gU x _ r a)):P:=h
def zqca29(h:P:=by
 refine .effp [] [0] _ _ rfl (kI h1) ?_
 exact zx [0]):P:=h
def zqca30(h:P:=by
 refine gV ?_;refine aY ?_
 refine gW hE ?_;conv=>whnf):P:=h
def zqca31(h:P:=by
 refine gV ?_;refine To.part [0,6,7,8] [0,1] rfl rfl rfl ?_
 exact A0 l o_ d _ 1 o_ (Z l) 0 0 bs o_ (.inl rfl) (λh=>by omega) (λ_=>rfl) o_ rfl):P:=h
def zqca32(h:P:=by
 simp only[h1]at b d;have b:Res.pan (bD 10)=r:=b;have d:rdU=As:=d;subst b d;refine .effp [] [0] _ _ rfl (yR h1) ?_
 exact zx [0]):P:=h
def zqca33(h:P:=by
 simp only[g]at d f;have d:Res.pan (bD 10)=r:=d;have f:rdU=As:=f;subst d f;refine .effp [] [0] _ _ rfl (bU g) ?_
 exact zx [0]):P:=h
def zqca34(h:P:=by
 simp only[j]at b d;have b:Res.pan (bD 10)=r:=b;have d:rdU=As:=d;subst b d;refine .effp [] [0] _ _ rfl (bU j) ?_
 exact zx [0]):P:=h
def zqca35(h:P:=by
 refine gV ?_;refine⟨[],[0,1],⟨rfl,rfl⟩,?_⟩
 exact⟨rfl,rfl⟩):P:=h
def zqca36(h:P:=by
 refine To.leave (f:=141) (args:=[G2 1 0]) [] rfl [] [1] rfl (catch_pan 0 8) ?_
 exact To.left hE rfl rfl rfl):P:=h
def zqca37(h:P:=by
 have:w.drew.heap[b]? =X (.cells #[p,.slice (X ⟨g,0,U⟩) (Z l) cap] tWr (0,0)):=d
 rw[Lib.cell_of_heap this];rfl):P:=h
def zqca38(h:P:=by exact bv (bm h) o_):P:=h
def zqca39(h:P:=by
 intro i j a;refine gV ?_;refine aF λh=>gV ?_;rw[Ae o_]at a;rw[<-a]
 rfl):P:=h
def zqca40(h:P:=by
 refine gV ?_;refine Aa (λ_=>?_) (λh=>bv h d_);refine To.loose (gV ?_)
 exact zqca9):P:=h
def zqca41(h:P:=by
 replace a:=iS a b;refine gV ?_;refine aN ?_
 exact zqca7):P:=h
def zqca42(h:P:=by exact bv (bn h) o_):P:=h
def zqca43(h:P:=by
 rw[Ae o_,Ae o_]at c;subst c;refine gV ?_
 exact zW):P:=h
def zqca44(h:P:=by
 refine bO hEc 2 ?_;conv=>whnf
 refine To.cutC [1,2] 2 rfl rfl rfl rfl ?_
 exact(aNU x r a)):P:=h
def zqca45(h:P:=by
 refine bO hE 11 ?_;conv=>whnf
 refine To.cutC [1,4] 1 rfl rfl rfl rfl ?_
 exact(gU x S r a)):P:=h
def zqca46(h:P:=by
 simp only[h1]at d f;have d:Res.pan (bD 10)=r:=d;have f:rdU=As:=f;subst d f
 exact zqca21):P:=h
def zqca47(h:P:=by
 simp only[h3]at b d;have b:Res.pan (bD 10)=r:=b;have d:rdU=As:=d;subst b d
 exact zqca20):P:=h
def zqca48(h:P:=by
 refine bO hEc 2 ?_;conv=>whnf
 refine To.cutC [1,2] 2 rfl rfl rfl rfl ?_
 exact(aNT x r a)):P:=h
def zqca49(h:P:=by
 rcases vM (λx=>x.id==a) l 0 with h|h
 .unfold am at c;omega
 .unfold am;omega):P:=h
def zqca50(h:P:=by
 simp only[h1]at a b;have a:Res.pan (bD 10)=r:=a;have b:rdU=As:=b;subst a b
 exact zqca29):P:=h
def zqca51(h:P:=by
 rw[e]at a d;have a:S=b:=a;subst a;refine gV ?_
 exact zW):P:=h
def zqca52(h:P:=by
 have a:R=false:=a;subst a
 exact c_ f44 λ_=>zW):P:=h
def zqca53(h:P:=by
 rw[eqL_len (by intro e;rw[c,d,e]at h;simp at h)]
 refine gW hE ?_;conv=>whnf):P:=h
def zqca54(h:P:=by
 refine gV ?_;have c:=bn h;unfold takeP;rw[bu c,h]
 rfl):P:=h
def zqca55(h:P:=by
 refine gV ?_;refine To.part [1,7,69,70,71] [0,1] rfl rfl rfl ?_
 exact next):P:=h
structure Cmd where
 k:Int
 c:Con
 g:Gan
 n:Int
 deriving DecidableEq
def Cmd.cs(x:Cmd):az:=[ii x.k,CA 11 (nav x.c.ns) J0,CA 6 (hav x.c.hs) J0,ii x.c.half,ii x.c.age,ii x.g.id,ii x.g.ten,ii x.g.pods,ii x.g.need.a,ii x.g.need.b,ii x.g.need.c,ii x.g.run,ii x.g.lev,ii x.g.pref,ii x.n]
def Cmd.av(x:Cmd):aa:=He x.cs
def kB(x:Int):Bool:=decide (0<=x)&&decide (x<=1099511627776)
def okI:ax->Bool
 |[]=>O
 |x::r=>kB x&&okI r
def V3.l(v:V3):ax:=[v.a,v.b,v.c]
def Nod.ok(x:Nod):Bool:=(decide (-1<=x.p)&&decide (x.p<=1099511627776))&&okI [x.w]&&okI x.n.l&&okI x.b.l&&okI x.l.l
def Hos.ok(x:Hos):Bool:=okI [x.f,x.b,x.r]&&okI x.c.l
def uK:bc->Bool
 |[]=>O
 |x::r=>x.ok&&uK r
def oA:List Hos->Bool
 |[]=>O
 |x::r=>x.ok&&oA r
def Con.tok(c:Con):Bool:=uK c.ns&&oA c.hs&&okI [c.half,c.age]
def Gan.ok(g:Gan):Bool:=okI [g.id,g.ten,g.pods,g.run,g.lev,g.pref]&&okI g.need.l
def Con.none(c:Con):Bool:=decide ((Z c.ns:Int)=0)&&decide ((Z c.hs:Int)=0)&&decide (c.half=0)&&decide (c.age=0)
def Gan.zero:Gan:=⟨0,0,0,⟨0,0,0⟩,0,0,0⟩
namespace C8
set_option maxRecDepth 10000
def bD(e:Int):aa:=.iface 286 (He [ii e])
def gC(b:Bool)(e:Int)(h:b=O):bj 142 [DA b,ii e] (GT []):=by subst h;refine c_ f142 λ_=>gV ?_;refine⟨λh=>bv h d_,λh=>?_⟩;refine gW hE ?_;conv=>whnf
def dN(b:Bool)(e:Int)(h:b=S):ar 142 [DA b,ii e] [] (.pan (bD e)) []:=by subst h;refine c_ f142 λ_=>gV ?_;refine⟨λh=>?_,λh=>bv h d_⟩;refine gV ?_;rfl
def aNq(l:ax):Res:=if okI l then Io (GT [])else .pan (bD 1)
def aBT(l:ax)(hl:Ig (Z (iv l)))(r:Res):∀(n i:Nat),i+n=Z l->aNq (l.drop i)=r->
  To E f145 (.pure r) (BB f145 [(4,CA 1 (iv l) J0),(5,GE Is (Z (iv l):Nat)),(6,GE Is i)] []):=by
 have d:Z (iv l)=Z l:=by simp
 intro n;induction n with
 |zero=>
  intro i g a;rw[Ae o_]at a;refine gV ?_;refine⟨λh=>bv (bn h) o_,λh=>gV ?_⟩;exact a
 |succ n e=>
  intro i g a;have b:i<Z l:=o_;rw[Ac b]at a;have a:(if kB l[i]&&okI (l.drop (i+1))then Res.ret (GT [])else .pan (bD 1))=r:=a;refine gV ?_;refine⟨λh=>?_,λh=>bv (bm h) o_⟩;refine gV ?_;refine⟨i,rfl,gV ?_⟩;refine⟨_,cD b,gV ?_⟩;refine⟨λh1=>?_,λh1=>?_⟩
  .refine gV ?_;rcases Eu (decide (l[i]<=1099511627776))with c|c
   .refine .p (gC _ _ c) (gV ?_);refine .inl ⟨⟨by simp only[bV];omega,by simp only[aW];omega⟩,?_⟩;refine gV ?_;refine To.head [4,5,6] ?_;refine e (i+1) o_ ?_;have h3:kB l[i]=true:=by unfold kB;rw[c];simpa using h1
    rw[h3,Bt]at a;exact a
   .refine .pan _ (dN _ _ c) ?_;have h3:kB l[i]=false:=by unfold kB;rw[c];simp
    rw[h3]at a;exact a
  .refine gV ?_;refine .pan _ (dN _ _ rfl) ?_;have h3:kB l[i]=false:=by unfold kB;have:decide (0<=l[i])=false:=h1;rw[this];rfl
   rw[h3]at a;exact a
def O8(l:ax)(r:Res)(c:aNq l=r):ar 145 [CA 1 (iv l) J0] [] r []:=by refine c_ f145 λb=>?_;have a:=aBT l b.1 _ (Z l) 0 o_ c;exact zW
def kO(l:ax)(h:okI l=O):bj 145 [CA 1 (iv l) J0] (GT []):=O8 l _ (bu h)
def iG(l:ax)(h:okI l=S):ar 145 [CA 1 (iv l) J0] [] (.pan (bD 1)) []:=O8 l _ (bt (by rw[h];simp))
def oR(b:Bool):Res:=if b then Io (GT [])else .pan (bD 1)
def FO{b:Bool}{r:Res}(a:oR b=r)(h:b=S):Res.pan (bD 1)=r:=by subst h;exact a
def YI(c:Con)(r:Res)(hl:Ig (Z (hav c.hs))):∀(n i:Nat),i+n=Z c.hs->oR (oA (c.hs.drop i)&&okI [c.half,c.age])=r->
  To E f143 (.pure r) (G0 (stk f143 1) [(1,G2 0 0),(37,CA 6 (hav c.hs) J0),(38,GE Is (Z (hav c.hs):Nat)),(39,GE Is i)] [Do 30 c.cs]):=by
 have g:Z (hav c.hs)=Z c.hs:=by simp
 intro n;induction n with
 |zero=>
  intro i k a;rw[Ae o_]at a;refine gV ?_;refine⟨λh=>bv (bn h) o_,λh=>gV ?_⟩;cases d:okI [c.half,c.age]with
  |true=>
   refine .p (aA.strip (kO [c.half,c.age] d)) (gV ?_);rw[d]at a;exact a
  |false=>
   refine .pan _ (aA.strip (iG [c.half,c.age] d)) ?_;rw[d]at a;exact a
 |succ n j=>
  intro i k a;have e:i<Z c.hs:=o_;rw[Ac e]at a;have a:oR ((c.hs[i].ok&&oA (c.hs.drop (i+1)))&&okI [c.half,c.age])=r:=a;generalize m:c.hs[i]=x at a;refine gV ?_;refine⟨λh=>?_,λh=>bv (bm h) o_⟩;refine gV ?_;refine⟨i,rfl,gV ?_⟩;refine⟨_,(oG e).trans (by rw[m]),gV ?_⟩;cases d:okI [x.f,x.b,x.r]with
  |false=>
   refine .pan _ (aA.strip (iG [x.f,x.b,x.r] d)) ?_;exact FO a (by unfold Hos.ok;rw[d];rfl)
  |true=>
   refine .p (aA.strip (kO [x.f,x.b,x.r] d)) (gV ?_);refine⟨by decide,gV ?_⟩;cases h3:okI x.c.l with
   |false=>
    refine .pan _ (aA.strip (iG x.c.l h3)) ?_;exact FO a (by unfold Hos.ok;rw[d,h3];rfl)
   |true=>
    refine .p (aA.strip (kO x.c.l h3)) (gV ?_);refine .inl ⟨⟨by simp only[bV];omega,by simp only[aW];omega⟩,?_⟩;refine gV ?_;refine To.cut [1,37,38,39] 1 rfl rfl rfl rfl ?_;refine j (i+1) o_ ?_;have:x.ok=true:=by unfold Hos.ok;rw[d,h3];rfl
    rw[this,Bt]at a;exact a
def aDy(c:Con)(r:Res)(hl:Ig (Z (nav c.ns)))(u:Ig (Z (hav c.hs))):∀(n i:Nat),i+n=Z c.ns->oR (uK (c.ns.drop i)&&(oA c.hs&&okI [c.half,c.age]))=r->
  To E f143 (.pure r) (BB f143 [(1,G2 0 0),(7,CA 11 (nav c.ns) J0),(8,GE Is (Z (nav c.ns):Nat)),(9,GE Is i)] [Do 30 c.cs]):=by
 have q:Z (nav c.ns)=Z c.ns:=by simp
 intro n;induction n with
 |zero=>
  intro i v d;rw[Ae o_]at d;refine gV ?_;refine⟨λh=>bv (bn h) o_,λh=>?_⟩;have o:=YI c r u (Z c.hs) 0 o_ d;exact zW
 |succ n y=>
  intro i v d;have e:i<Z c.ns:=o_;rw[Ac e]at d;have d:oR ((c.ns[i].ok&&uK (c.ns.drop (i+1)))&&(oA c.hs&&okI [c.half,c.age]))=r:=d;generalize s:c.ns[i]=x at d;have a:x.ok=S->Res.pan (bD 1)=r:=λh=>FO d (by rw[h];rfl);refine gV ?_;refine⟨λh=>?_,λh=>bv (bm h) o_⟩;refine gV ?_;refine⟨i,rfl,gV ?_⟩;refine⟨_,(fP e).trans (by rw[s]),gV ?_⟩;refine⟨λh1=>?_,λh1=>?_⟩
  .have h1:decide (-1<=x.p)=true:=h1;refine gV ?_;rcases Eu (decide (x.p<=1099511627776))with g|g
   .refine .p (gC _ _ g) (gV ?_);cases h3:okI [x.w]with
    |false=>
     refine .pan _ (aA.strip (iG [x.w] h3)) ?_;exact a (by unfold Nod.ok;rw[h3];simp)
    |true=>
    refine .p (aA.strip (kO [x.w] h3)) (gV ?_);refine⟨by decide,gV ?_⟩;cases m:okI x.n.l with
    |false=>
     refine .pan _ (aA.strip (iG x.n.l m)) ?_;exact a (by unfold Nod.ok;rw[m];simp)
    |true=>
    refine .p (aA.strip (kO x.n.l m)) (gV ?_);refine⟨by decide,gV ?_⟩;cases j:okI x.b.l with
    |false=>
     refine .pan _ (aA.strip (iG x.b.l j)) ?_;exact a (by unfold Nod.ok;rw[j];simp)
    |true=>
    refine .p (aA.strip (kO x.b.l j)) (gV ?_);refine⟨by decide,gV ?_⟩;cases k:okI x.l.l with
    |false=>
     refine .pan _ (aA.strip (iG x.l.l k)) ?_;exact a (by unfold Nod.ok;rw[k];simp)
    |true=>
    refine .p (aA.strip (kO x.l.l k)) (gV ?_);refine .inl ⟨⟨by simp only[bV];omega,by simp only[aW];omega⟩,?_⟩;refine gV ?_;refine To.cut [1,7,8,9] 1 rfl rfl rfl rfl ?_;refine y (i+1) o_ ?_;have:x.ok=true:=by unfold Nod.ok;rw[h1,g,h3,m,j,k];rfl
    rw[this,Bt]at d;exact d
   .refine .pan _ (dN _ _ g) ?_;exact a (by unfold Nod.ok;rw[g];simp)
  .have h1:decide (-1<=x.p)=false:=h1;refine gV ?_;refine .pan _ (dN _ _ rfl) ?_;exact a (by unfold Nod.ok;rw[h1];simp)
def aBo(c:Con)(M:Imm)(ob:Hs)(vs:bb)(h:cL M ob vs [c.av]):(Z (nav c.ns):Int)<=9223372036854775807/\(Z (hav c.hs):Int)<=9223372036854775807:=by
 have hl:0<Z vs:=by rw[h.1];simp
 have:=h.2 0 _ c.av (Ab hl) rfl;exact⟨cN this 0 _ rfl,cN this 1 _ rfl⟩
def HD(c:Con)(r:Res)(b:oR c.tok=r):ar 143 [c.av] [] r []:=by refine aA.get _ (aBo c) λ⟨hl,d⟩=>?_;refine c_ f143 λ_=>?_;have a:=aDy c r hl d (Z c.ns) 0 o_ (by rw[<-b];unfold Con.tok;rw[Gc];rfl);exact zW
def aDv(c:Con)(h:c.tok=O):bj 143 [c.av] (GT []):=HD c _ (bu h)
def YE(c:Con)(h:c.tok=S):ar 143 [c.av] [] (.pan (bD 1)) []:=HD c _ (bt (by rw[h];simp))
def SO(x:Gan)(r:Res)(b:oR x.ok=r):ar 144 [x.av] [] r []:=by
 refine c_ f144 λ_=>gV ?_;cases h1:okI [x.id,x.ten,x.pods,x.run,x.lev,x.pref]with
 |false=>
  refine .pan _ (aA.strip (iG [x.id,x.ten,x.pods,x.run,x.lev,x.pref] h1)) ?_;exact FO b (by unfold Gan.ok;rw[h1];rfl)
 |true=>
  refine .p (aA.strip (kO [x.id,x.ten,x.pods,x.run,x.lev,x.pref] h1)) (gV ?_);refine⟨by decide,gV ?_⟩;cases a:okI x.need.l with
  |false=>
   refine .pan _ (aA.strip (iG x.need.l a)) ?_;exact FO b (by unfold Gan.ok;rw[h1,a];rfl)
  |true=>
   refine .p (aA.strip (kO x.need.l a)) (gV ?_);rw[<-b];unfold Gan.ok;rw[h1,a];rfl
def aLR(x:Gan)(h:x.ok=O):bj 144 [x.av] (GT []):=SO x _ (bu h)
def aHj(x:Gan)(h:x.ok=S):ar 144 [x.av] [] (.pan (bD 1)) []:=SO x _ (bt (by rw[h];simp))
def catch_ret(x:Int):CR Tryz.prog 141 [G2 0 0] [Do 37 [ii x]] U [Do 37 [ii x]]:=by refine CR.of (E:=E) (fn:=f141) (n0:=1) (r:=GT []) (by rfl) (by rfl) (by rfl) (λ_ _=>by rfl) (by rfl) (by decide+kernel) (by rfl) (by rfl) (by rfl) (by rfl) λ_=>gV ?_;refine⟨λ_=>?_,λh=>bv h d_⟩;exact zW
def catch_pan(x e:Int):CR Tryz.prog 141 [G2 0 0] [Do 37 [ii x]] (X (bD e)) [Do 37 [ii e]]:=by refine CR.of (E:=E) (fn:=f141) (n0:=1) (r:=GT []) (by rfl) (by rfl) (by rfl) (λ_ _=>by rfl) (by rfl) (by decide+kernel) (by rfl) (by rfl) (by rfl) (by rfl) λ_=>gV ?_;refine⟨λh=>bv h d_,λ_=>gV ?_⟩;refine⟨λ_=>?_,λh=>bv h d_⟩;exact zW
def _root_.Go.Proofs.YtenkdioaefckoaaGreatDoor.Gan.isZ(g:Gan):Bool:=((g.id==0)&&((g.ten==0)&&((g.pods==0)&&((g.need.a==0)&&((g.need.b==0)&&((g.need.c==0)&&((g.run==0)&&((g.lev==0)&&((g.pref==0)&&O)))))))))
def chkL(x:Cmd):Int:=if decide ((Z (nav x.c.ns):Int)<=12)&&decide ((Z (hav x.c.hs):Int)<=24)then 0 else 8
def chkN(x:Cmd):Int:=if okI [x.n]then chkL x else 1
def chkG(x:Cmd):Int:=if x.g.ok then chkN x else 1
def chkC(x:Cmd):Int:=if x.c.tok then chkG x else 1
def chk4(x:Cmd):Int:=if((x.k==3||x.k==4)||x.k==5)||x.n==0 then chkC x else 1
def chk3(x:Cmd):Int:=if x.k==2||x.g.isZ then chk4 x else 1
def _root_.Go.Proofs.YtenkdioaefckoaaGreatDoor.Con.non(c:Con):Bool:=(((Z (nav c.ns):Int)==0&&(Z (hav c.hs):Int)==0)&&c.half==0)&&c.age==0
def chk2(x:Cmd):Int:=if x.k==1||x.c.non then chk3 x else 1
def chk(x:Cmd):Int:=if decide (1<=x.k)&&decide (x.k<=6)then chk2 x else 1
abbrev chF:au:=[(1,G2 0 0),(2,G2 1 0)]
abbrev chO(x:Cmd):aw:=[Do 47 x.cs,Do 37 [ii 0]]
noncomputable abbrev Ec:Env:=Ed [(141,[G2 1 0])]
def hEc:ae Ec:=hEd _
def aMU(x:Cmd)(r:Int)(h:0=r):To Ec f96 (.pure (Io (ii r))) (.code (gB f96 9) chF (chO x)):=by
 subst h;refine gW hEc ?_;conv=>whnf
 refine To.leave (f:=141) (args:=[G2 1 0]) [] rfl [] [1] rfl (catch_ret 0) ?_;exact To.left hE rfl rfl rfl
def aSu(x:Cmd)(r:Int)(a:chkL x=r):To Ec f96 (.pure (Io (ii r))) (.code (gB f96 8) chF (chO x)):=by
 unfold chkL at a;refine gW hEc ?_;conv=>whnf
 refine⟨λh1=>?_,λh1=>?_⟩
 .refine gW hEc ?_;conv=>whnf
  rcases Eu (decide ((Z (hav x.c.hs):Int)<=24))with b|b
  .rw [b,h1]at a;refine .p (gC _ _ b) ?_;refine bO hEc 2 ?_;conv=>whnf
   refine To.cutC [1,2] 2 rfl rfl rfl rfl ?_;exact(aMU x r a)
  .rw [b,Bo]at a;subst a;refine .pan _ (dN _ _ b) ?_;conv=>whnf
   exact zqca36
 .rw [h1,Cq]at a;subst a;refine gW hEc ?_;conv=>whnf
  refine .pan _ (dN _ _ rfl) ?_;conv=>whnf
  exact zqca36
def aSv(x:Cmd)(r:Int)(a:chkN x=r):To Ec f96 (.pure (Io (ii r))) (.code (gB f96 7) chF (chO x)):=by
 unfold chkN at a;refine gW hEc ?_;conv=>whnf
 cases h:okI [x.n]with
 |true=>
  rw[h]at a;refine .p (aA.strip (kO [x.n] h)) ?_;refine bO hEc 2 ?_;conv=>whnf
  refine To.cutC [1,2] 2 rfl rfl rfl rfl ?_;exact(aSu x r a)
 |false=>
  rw[h]at a;subst a;refine .pan _ (aA.strip (iG [x.n] h)) ?_;conv=>whnf
  exact zqca1
def aSw(x:Cmd)(r:Int)(a:chkG x=r):To Ec f96 (.pure (Io (ii r))) (.code (gB f96 6) chF (chO x)):=by
 unfold chkG at a;refine gW hEc ?_;conv=>whnf
 cases h:x.g.ok with
 |true=>
  rw[h]at a;refine .p (aLR x.g h) ?_;refine bO hEc 2 ?_;conv=>whnf
  refine To.cutC [1,2] 2 rfl rfl rfl rfl ?_;exact(aSv x r a)
 |false=>
  rw[h]at a;subst a;refine .pan _ (aHj x.g h) ?_;conv=>whnf
  exact zqca1
def aBu(x:Cmd)(r:Int)(a:chkC x=r):To Ec f96 (.pure (Io (ii r))) (.code (gB f96 5) chF (chO x)):=by
 unfold chkC at a;refine gW hEc ?_;conv=>whnf
 cases h:x.c.tok with
 |true=>
  rw[h]at a;refine .p (aDv x.c h) ?_;refine bO hEc 2 ?_;conv=>whnf
  refine To.cutC [1,2] 2 rfl rfl rfl rfl ?_;exact(aSw x r a)
 |false=>
  rw[h]at a;subst a;refine .pan _ (YE x.c h) ?_;conv=>whnf
  exact zqca1
def fB{b:Bool}{p q r:Int}(a:(if b then p else q)=r)(h:b=O):p=r:=by subst h;exact a
def iS{b:Bool}{p q r:Int}(a:(if b then p else q)=r)(h:b=S):q=r:=by subst h;exact a
def aNT(x:Cmd)(r:Int)(a:chk4 x=r):To Ec f96 (.pure (Io (ii r))) (.code (gB f96 4) chF (chO x)):=by
 unfold chk4 at a;refine gW hEc ?_;conv=>whnf
 refine⟨λh1=>?_,λh1=>?_⟩
 .have h1:(x.k==3)=true:=h1;replace a:=fB a (by simp[h1]);refine gW hEc ?_;conv=>whnf
  refine aY ?_;refine gW hEc ?_;conv=>whnf
  refine aY ?_;exact zqca11
 .have h1:(x.k==3)=false:=h1;refine gW hEc ?_;conv=>whnf
  refine⟨λb=>?_,λb=>?_⟩
  .have b:(x.k==4)=true:=b;replace a:=fB a (by simp[b]);refine gW hEc ?_;conv=>whnf
   refine aY ?_;exact zqca11
  .have b:(x.k==4)=false:=b;refine gW hEc ?_;conv=>whnf
   refine⟨λh3=>?_,λh3=>?_⟩
   .have h3:(x.k==5)=true:=h3;replace a:=fB a (by simp[h3]);exact zqca11
   .have h3:(x.k==5)=false:=h3;refine gW hEc ?_;conv=>whnf
    refine(Eu (x.n==0)).elim (λc=>?_) (λc=>?_)
    .replace a:=fB a (by simp[c]);refine .p (gC _ _ c) ?_;refine bO hEc 2 ?_;conv=>whnf
     refine To.cutC [1,2] 2 rfl rfl rfl rfl ?_;exact(aBu x r a)
    .replace a:=iS a (by simp[h1,b,h3,c]);subst a;refine .pan _ (dN _ _ c) ?_;conv=>whnf
     exact zqca1
def aNU(x:Cmd)(r:Int)(a:chk3 x=r):To Ec f96 (.pure (Io (ii r))) (.code (gB f96 3) chF (chO x)):=by
 unfold chk3 at a;refine gW hEc ?_;conv=>whnf
 refine⟨λh1=>?_,λh1=>?_⟩
 .have h1:(x.k==2)=true:=h1;replace a:=fB a (by simp[h1]);refine gW hEc ?_;conv=>whnf
  exact .p (gC _ _ rfl) zqca48
 .have h1:(x.k==2)=false:=h1;refine gW hEc ?_;conv=>whnf
  refine(Eu x.g.isZ).elim (λb=>?_) (λb=>?_)
  .replace a:=fB a (by simp[b]);exact .p (gC _ _ b) zqca48
  .replace a:=iS a (by simp[h1,b]);subst a;refine .pan _ (dN _ _ b) ?_;conv=>whnf
   exact zqca1
def aSx(x:Cmd)(r:Int)(a:chk2 x=r):To Ec f96 (.pure (Io (ii r))) (.code (gB f96 2) chF (chO x)):=by
 unfold chk2 Con.non at a;refine gW hEc ?_;conv=>whnf
 refine⟨λh1=>?_,λh1=>?_⟩
 .have h1:(x.k==1)=true:=h1;replace a:=fB a (by rw[h1];rfl);refine gW hEc ?_;conv=>whnf
  exact .p (gC _ _ rfl) zqca44
 .have h1:(x.k==1)=false:=h1;refine gW hEc ?_;conv=>whnf
  refine⟨λb=>?_,λb=>?_⟩
  .have b:((Z (nav x.c.ns):Int)==0)=true:=b;refine gW hEc ?_;conv=>whnf
   refine⟨λh3=>?_,λh3=>?_⟩
   .have h3:((Z (hav x.c.hs):Int)==0)=true:=h3;refine gW hEc ?_;conv=>whnf
    refine⟨λd=>?_,λd=>?_⟩
    .have d:(x.c.half==0)=true:=d;refine gW hEc ?_;conv=>whnf
     refine(Eu (x.c.age==0)).elim (λe=>?_) (λe=>?_)
     .replace a:=fB a (by rw[h1,b,h3,d,e];rfl);exact .p (gC _ _ e) zqca44
     .replace a:=iS a (by rw[h1,e,Bo];rfl);subst a;refine .pan _ (dN _ _ e) ?_;conv=>whnf
      exact zqca1
    .have d:(x.c.half==0)=false:=d;replace a:=iS a (by rw[h1,d,Bo,Cq];rfl);subst a;exact zqca18
   .have h3:((Z (hav x.c.hs):Int)==0)=false:=h3;replace a:=iS a (by rw[h1,h3,Bo];rfl);subst a;refine gW hEc ?_;conv=>whnf
    refine aN ?_;exact zqca18
  .have b:((Z (nav x.c.ns):Int)==0)=false:=b;replace a:=iS a (by rw[h1,b];rfl);subst a;refine gW hEc ?_;conv=>whnf
   refine aN ?_;refine gW hEc ?_;conv=>whnf
   refine aN ?_;exact zqca18
def aSy(x:Cmd)(r:Int)(a:chk x=r):To Ec f96 (.pure (Io (ii r))) (.code (gB f96 1) chF (chO x)):=by
 unfold chk at a;refine gW hEc ?_;conv=>whnf
 refine⟨λh1=>?_,λh1=>?_⟩
 .have h1:decide (1<=x.k)=true:=h1;refine gW hEc ?_;conv=>whnf
  refine(Eu (decide (x.k<=6))).elim (λb=>?_) (λb=>?_)
  .rw [h1,b]at a;refine .p (gC _ _ b) ?_;refine bO hEc 2 ?_;conv=>whnf
   refine To.cutC [1,2] 2 rfl rfl rfl rfl ?_;exact(aSx x r a)
  .rw [b,Bo]at a;subst a;refine .pan _ (dN _ _ b) ?_;conv=>whnf
   exact zqca1
 .have h1:decide (1<=x.k)=false:=h1;rw[h1,Cq]at a;subst a;exact zqca18
def check_any(x:Cmd)(r:Int)(a:chk x=r):bj 96 [x.av] (ii r):=by refine c_ f96 λ_=>gV ?_;refine To.defer (f:=141) (args:=[G2 1 0]) _ rfl rfl ?_;refine To.cutC [1,2] 2 rfl rfl rfl rfl ?_;exact aSy x r a
def check_ok(x:Cmd):bj 96 [x.av] (ii (chk x)):=check_any x _ rfl
def NR(l:ax)(hl:Ig (Z (iv l)))(r:Bool):∀(n i:Nat),i+n=Z l->okI (l.drop i)=r->
  BC E f72 (DA r) [(0,CA 1 (iv l) J0),(3,GE Is i)] []:=by
 have d:Z (iv l)=Z l:=by simp
 intro n;induction n with
 |zero=>
  intro i j a;rw[Ae o_]at a;subst a;refine gV ?_;refine⟨λh=>bv (bn h) o_,λh=>gV ?_⟩;rfl
 |succ n k=>
  intro i j a;have c:i<Z l:=o_;rw[Ac c]at a;have a:(kB l[i]&&okI (l.drop (i+1)))=r:=a;generalize g:l[i]=x at a;have get:(iv l)[i]? =X (ii x):=(cD c).trans (by rw[g]);refine gV ?_;refine⟨λh=>?_,λh=>bv (bm h) o_⟩;refine gV ?_;refine⟨i,rfl,gV ?_⟩;refine⟨_,get,gV ?_⟩;refine⟨λh1=>?_,λh1=>?_⟩
  .have h1:decide (x<0)=true:=h1;have h3:kB x=false:=by have:=bn h1;unfold kB;rw[bp o_];rfl
   rw[h3]at a;subst a;refine gV ?_;refine⟨λ_=>?_,λh=>bv h d_⟩;refine gV ?_;rfl
  .have h1:decide (x<0)=false:=h1;have h1:=bm h1;refine gV ?_;refine⟨i,rfl,gV ?_⟩;refine⟨_,get,gV ?_⟩;refine⟨λb=>?_,λb=>?_⟩
   .have b:decide (1099511627776<x)=true:=b;have h3:kB x=false:=by have:=bn b;unfold kB;rw[bp (p:=x<=1099511627776) o_,Bo]
    rw[h3]at a;subst a;refine gV ?_;rfl
   .have b:decide (1099511627776<x)=false:=b;have b:=bm b;have h3:kB x=true:=by unfold kB;rw[bq o_,bq o_];rfl
    rw[h3,Bt]at a;refine gV ?_;refine .inl ⟨⟨by simp only[bV];omega,by simp only[aW];omega⟩,?_⟩;have e:=k (i+1) o_ a;exact zW
def CD(l:ax):bj 72 [CA 1 (iv l) J0] (DA (okI l)):=by refine c_ f72 λb=>?_;have a:=NR l b.1 _ (Z l) 0 o_ rfl;exact zW
def EH(v:V3):bj 116 [He v.cs] (DA (okI v.l)):=by refine c_ f116 λ_=>gV ?_;refine⟨by decide,gV ?_⟩;refine⟨by decide,gV ?_⟩;refine⟨by decide,gV ?_⟩;refine .p (aA.strip (CD v.l)) ?_;refine gW hE ?_;conv=>whnf
def aFj(g:Gan):bj 71 [g.av] (DA g.ok):=by
 refine c_ f71 λ_=>gV ?_;refine .p (aA.strip (CD [g.id,g.ten,g.pods,g.run,g.lev,g.pref])) (gV ?_);refine⟨λh=>?_,λh=>?_⟩
 .refine gV ?_;refine .p (EH g.need) (gV ?_);unfold Gan.ok;rw[h];rfl
 .refine gV ?_;unfold Gan.ok;rw[h];rfl
def uC(c:Con):bj 70 [c.av] (DA c.non):=by
 refine c_ f70 λ_=>?_;unfold Con.non;refine gV ?_;refine⟨λh1=>?_,λh1=>?_⟩
 .have h1:((Z (nav c.ns):Int)==0)=true:=h1;refine gV ?_;refine⟨λa=>?_,λa=>?_⟩
  .have a:((Z (hav c.hs):Int)==0)=true:=a;refine gV ?_;refine⟨λh3=>?_,λh3=>?_⟩
   .have h3:(c.half==0)=true:=h3;refine gV ?_;rw[h1,a,h3];rfl
   .have h3:(c.half==0)=false:=h3;refine gV ?_;rw[h1,a,h3];rfl
  .have a:((Z (hav c.hs):Int)==0)=false:=a;refine gV ?_;refine⟨λh=>bv h d_,λ_=>gV ?_⟩;rw[h1,a];rfl
 .have h1:((Z (nav c.ns):Int)==0)=false:=h1;refine gV ?_;refine⟨λh=>bv h d_,λ_=>gV ?_⟩;refine⟨λh=>bv h d_,λ_=>gV ?_⟩;rw[h1];rfl
def VK(c:Con)(o:Ig (Z (hav c.hs)))(r:Bool):∀(n i:Nat),i+n=Z c.hs->(oA (c.hs.drop i)&&okI [c.half,c.age])=r->
  To E f69 (.pure (Io (DA r))) (G0 (stk f69 1) [(1,G2 0 0),(5,GE Is i)] [Do 30 c.cs]):=by
 have j:Z (hav c.hs)=Z c.hs:=by simp
 intro n;induction n with
 |zero=>
  intro i l a;rw[Ae o_]at a;subst a;refine gV ?_;refine⟨λh=>bv (bn h) o_,λh=>gV ?_⟩;refine .p (aA.strip (CD [c.half,c.age])) (gV ?_);rfl
 |succ n k=>
  intro i l a;have e:i<Z c.hs:=o_;rw[Ac e]at a;have a:((c.hs[i].ok&&oA (c.hs.drop (i+1)))&&okI [c.half,c.age])=r:=a;generalize m:c.hs[i]=x at a;have get:(hav c.hs)[i]? =X x.av:=(oG e).trans (by rw[m]);have g:x.ok=S->r=false:=λh=>by rw[h]at a;exact a.symm
  refine gV ?_;refine⟨λh=>?_,λh=>bv (bm h) o_⟩;refine gV ?_;refine⟨i,rfl,gV ?_⟩;refine⟨_,get,gV ?_⟩;refine .p (aA.strip (CD [x.f,x.b,x.r])) (gV ?_);refine⟨λh1=>?_,λh1=>?_⟩
  .have h1:=jF h1;have:=g (by unfold Hos.ok;rw[h1];rfl);subst this;exact zqca30
  .have h1:=jG h1;refine gV ?_;refine .p (EH x.c) (gV ?_);refine⟨λd=>?_,λd=>?_⟩
   .have d:=jF d;have:=g (by unfold Hos.ok;rw[d,Bo]);subst this;refine gW hE ?_;conv=>whnf
   .have d:=jG d;refine gV ?_;refine .inl ⟨⟨by simp only[bV];omega,by simp only[aW];omega⟩,?_⟩;refine gV ?_;refine To.cut [1,5] 1 rfl rfl rfl rfl ?_;refine k (i+1) o_ ?_;have:x.ok=true:=by unfold Hos.ok;rw[h1,d];rfl
    rw[this,Bt]at a;exact a
def aCh(c:Con)(hl:Ig (Z (nav c.ns)))(u:Ig (Z (hav c.hs)))(r:Bool):∀(n i:Nat),i+n=Z c.ns->(uK (c.ns.drop i)&&(oA c.hs&&okI [c.half,c.age]))=r->
  BC E f69 (DA r) [(1,G2 0 0),(3,GE Is i)] [Do 30 c.cs]:=by
 have o:Z (nav c.ns)=Z c.ns:=by simp
 intro n;induction n with
 |zero=>
  intro i v d;rw[Ae o_]at d;refine gV ?_;refine⟨λh=>bv (bn h) o_,λh=>?_⟩;have q:=VK c u r (Z c.hs) 0 o_ d;exact zW
 |succ n y=>
  intro i v d;have m:i<Z c.ns:=o_;rw[Ac m]at d;have d:((c.ns[i].ok&&uK (c.ns.drop (i+1)))&&(oA c.hs&&okI [c.half,c.age]))=r:=d;generalize s:c.ns[i]=x at d;have get:(nav c.ns)[i]? =X x.av:=(fP m).trans (by rw[s]);have a:x.ok=S->r=false:=λh=>by rw[h]at d;exact d.symm
  refine gV ?_;refine⟨λh=>?_,λh=>bv (bm h) o_⟩;refine gV ?_;refine⟨i,rfl,gV ?_⟩;refine⟨_,get,gV ?_⟩;refine⟨λh1=>?_,λh1=>?_⟩
  .have h1:decide (x.p< -1)=true:=h1;have h1:=bn h1;have:=a (by unfold Nod.ok;rw[bp (p:= -1<=x.p) o_];simp only[Cq]);subst this;exact zW
  .have h1:decide (x.p< -1)=false:=h1;have h1:=bm h1;refine gV ?_;refine⟨λe=>?_,λe=>?_⟩
   .have e:decide (1099511627776<x.p)=true:=e;have e:=bn e;have:=a (by unfold Nod.ok;rw[bp (p:=x.p<=1099511627776) o_];simp only[Cq,Bo]);subst this;exact zW
   .have e:decide (1099511627776<x.p)=false:=e;have e:=bm e;refine gV ?_;refine .p (aA.strip (CD [x.w])) (gV ?_);refine⟨λh3=>?_,λh3=>?_⟩
    .have h3:=jF h3;have:=a (by unfold Nod.ok;rw[h3];simp only[Cq,Bo]);subst this;refine gV ?_;refine aY (gV ?_);refine aY ?_;exact zqca30
    .have h3:=jG h3;refine gV ?_;refine .p (EH x.n) (gV ?_);refine⟨λk=>?_,λk=>?_⟩
     .have k:=jF k;have:=a (by unfold Nod.ok;rw[k];simp only[Cq,Bo]);subst this;refine gV ?_;refine aY ?_;exact zqca30
     .have k:=jG k;refine gV ?_;refine .p (EH x.b) (gV ?_);refine⟨λg=>?_,λg=>?_⟩
      .have g:=jF g;have:=a (by unfold Nod.ok;rw[g];simp only[Cq,Bo]);subst this;exact zqca30
      .have g:=jG g;refine gV ?_;refine .p (EH x.l) (gV ?_);refine⟨λj=>?_,λj=>?_⟩
       .have j:=jF j;have:=a (by unfold Nod.ok;rw[j];simp only[Bo]);subst this;refine gW hE ?_;conv=>whnf
       .have j:=jG j;refine gV ?_;refine .inl ⟨⟨by simp only[bV];omega,by simp only[aW];omega⟩,?_⟩;refine gV ?_;refine To.cut [1,3] 1 rfl rfl rfl rfl ?_;refine y (i+1) o_ ?_;have:x.ok=true:=by unfold Nod.ok;rw[h3,k,g,j,bq (p:= -1<=x.p) o_,bq (p:=x.p<=1099511627776) o_];rfl
        rw[this,Bt]at d;exact d
theorem OC(c:Con):bj 69 [c.av] (DA c.tok):=by refine aA.get _ (aBo c) λ⟨hl,a⟩=>?_;refine c_ f69 λ_=>gV ?_;refine To.cut [1,3] 1 rfl rfl rfl rfl ?_;exact aCh c hl a _ (Z c.ns) 0 o_ (by unfold Con.tok;rw[Gc];rfl)
def nV(r:Nat):Code->bg->Option bg
 |.region id o d,ks=>bif Nat.beq id r then X (.code (.region id o d)::ks)else U
 |.seq a b,ks=>(match nV r a (.code b::ks)with|some x=>X x|none=>nV r b ks)
 |.cond _ a b,ks=>(match nV r a ks with|some x=>X x|none=>nV r b ks)
 |.block id b,ks=>nV r b (.inB id::ks)
 |.loop b,ks=>nV r b (.inL b::ks)
 |_,_=>U
def nW(fn:Func)(r:Nat):bg:=match nV r (dS fn) []with|some ks=>ks|none=>[]
def gU(x:Cmd)(b:Bool)(r:Int)(a:(if b then chkL x else 1)=r):To E f35 (.pure (Io (ii r))) (.code (gB f35 5) [(1,G2 0 0),(4,DA b)] [Do 47 x.cs]):=by
 refine gV ?_;refine⟨λh=>?_,λh=>?_⟩
 .have h:=jF h;subst h;refine gV ?_;rw[<-a];rfl
 .have h:=jG h;subst h;have a:chkL x=r:=a;unfold chkL at a;refine gV ?_;refine⟨λh1=>?_,λh1=>?_⟩
  .have h1:decide ((12:Int)<(Z (nav x.c.ns):Int))=true:=h1;have h1:=bn h1;rw[bp o_,Cq]at a;subst a;refine gV ?_;refine aY (gV ?_);rfl
  .have h1:decide ((12:Int)<(Z (nav x.c.ns):Int))=false:=h1;have h1:=bm h1;rw[bq o_,Bt]at a;refine gV ?_;refine⟨λd=>?_,λd=>?_⟩
   .have d:decide ((24:Int)<(Z (hav x.c.hs):Int))=true:=d;have d:=bn d;rw[bp o_]at a;subst a;refine gV ?_;rfl
   .have d:decide ((24:Int)<(Z (hav x.c.hs):Int))=false:=d;have d:=bm d;rw[bq o_]at a;subst a;refine gV ?_;rfl
def WW{g:Gan}(h:g.isZ=O):g.ok=true:=by simp only[Gan.isZ,Af,beq_iff_eq,and_true]at h;obtain⟨h1,a,h3,f,d,i,b,e,c⟩:=h;unfold Gan.ok V3.l;rw[h1,a,h3,f,d,i,b,e,c];rfl
def aS2(x:Cmd)(r:Int)(a:chk x=r)(h1:(x.k==1)=O):To E f35 (.pure (Io (ii r))) (.code (nW f35 5) [(1,G2 0 0),(3,G2 1 0)] [Do 47 x.cs,Do 45 Gan.zero.cs]):=by
 have h:x.k=1:=by simpa using h1
 have i:chk x=if x.g.isZ then(if x.n==0 then(if x.c.tok then chkG x else 1)else 1)else 1:=by unfold chk chk2 chk3 chk4 chkC;rw[h];rfl
 rw[i]at a;refine gV ?_;refine⟨λb=>?_,λb=>?_⟩
 .have b:x.g.isZ=true:=b;replace a:=fB a b;refine gV ?_;refine⟨λh3=>?_,λh3=>?_⟩
  .have h3:(x.n==0)=true:=h3;replace a:=fB a h3;have d:x.n=0:=by simpa using h3
   have e:chkG x=chkL x:=by unfold chkG chkN;rw[WW b,d];rfl
   rw[e]at a;refine gV ?_;exact .p (OC x.c) zqca28
  .have h3:(x.n==0)=false:=h3;replace a:=iS a h3;exact zqca7
 .have b:x.g.isZ=false:=b;exact zqca41
def WP{c:Con}(h:c.non=O):c.tok=true:=by exact zqca12
def aS1(x:Cmd)(r:Int)(a:chk x=r)(h1:(x.k==2)=O):To E f35 (.pure (Io (ii r))) (.code (nW f35 7) [(1,G2 0 0),(3,G2 1 0)] [Do 47 x.cs,Do 45 Gan.zero.cs]):=by
 have h:x.k=2:=by simpa using h1
 have i:chk x=if x.c.non then(if x.n==0 then chkC x else 1)else 1:=by unfold chk chk2 chk3 chk4;rw[h];rfl
 rw[i]at a;refine gV ?_;refine .p (uC x.c) (gV ?_);refine⟨λb=>?_,λb=>?_⟩
 .have b:x.c.non=true:=b;replace a:=fB a b;refine gV ?_;refine⟨λh3=>?_,λh3=>?_⟩
  .have h3:(x.n==0)=true:=h3;replace a:=fB a h3;have d:x.n=0:=by simpa using h3
   have e:chkC x=if x.g.ok then chkL x else 1:=by unfold chkC chkG chkN;rw[WP b,d];rfl
   rw[e]at a;refine gV ?_;exact .p (aFj x.g) zqca28
  .have h3:(x.n==0)=false:=h3;replace a:=iS a h3;exact zqca7
 .have b:x.c.non=false:=b;exact zqca41
def aO1(x:Cmd)(r:Int)(a:chk x=r)(h1:x.k=3\/x.k=4\/x.k=5):To E f35 (.pure (Io (ii r))) (.code (nW f35 11) [(1,G2 0 0),(3,G2 1 0)] [Do 47 x.cs,Do 45 Gan.zero.cs]):=by
 have d:chk x=if x.c.non then(if x.g.isZ then chkC x else 1)else 1:=by unfold chk chk2 chk3 chk4;rcases h1 with h|h|h<;>rw[h]<;>rfl
 rw[d]at a;refine gV ?_;refine .p (uC x.c) (gV ?_);refine⟨λb=>?_,λb=>?_⟩
 .have b:x.c.non=true:=b;replace a:=fB a b;refine gV ?_;refine⟨λh3=>?_,λh3=>?_⟩
  .have h3:x.g.isZ=true:=h3;replace a:=fB a h3;have e:chkC x=if okI [x.n]then chkL x else 1:=by unfold chkC chkG chkN;rw[WP b,WW h3];rfl
   rw[e]at a;refine gV ?_;exact .p (aA.strip (CD [x.n])) zqca28
  .have h3:x.g.isZ=false:=h3;replace a:=iS a h3;exact zqca45
 .have b:x.c.non=false:=b;replace a:=iS a b;refine gV ?_;refine aN ?_;exact zqca45
def aS0(x:Cmd)(r:Int)(a:chk x=r)(h1:x.k=6):To E f35 (.pure (Io (ii r))) (.code (nW f35 13) [(1,G2 0 0),(3,G2 1 0)] [Do 47 x.cs,Do 45 Gan.zero.cs]):=by
 have i:chk x=if x.c.non then(if x.g.isZ then(if x.n==0 then chkC x else 1)else 1)else 1:=by unfold chk chk2 chk3 chk4;rw[h1];rfl
 rw[i]at a;refine gV ?_;refine .p (uC x.c) (gV ?_);refine⟨λb=>?_,λb=>?_⟩
 .have b:x.c.non=true:=b;replace a:=fB a b;refine gV ?_;refine⟨λh3=>?_,λh3=>?_⟩
  .have h3:x.g.isZ=true:=h3;replace a:=fB a h3;have e:(if x.n==0 then chkC x else 1)=if(x.n==0)then chkL x else 1:=by
    cases h:(x.n==0)with
    |false=>rfl
    |true=>
     have d:x.n=0:=by simpa using h
     show chkC x=chkL x;unfold chkC chkG chkN;rw[WP b,WW h3,d];rfl
   rw[e]at a;refine bO hE 16 ?_;conv=>whnf
   refine To.cutC [1,4] 1 rfl rfl rfl rfl ?_;exact(gU x _ r a)
  .have h3:x.g.isZ=false:=h3;replace a:=iS a h3;exact zqca7
 .have b:x.c.non=false:=b;exact zqca41
def rcheck_any(x:Cmd)(r:Int)(b:chk x=r):bj 35 [x.av] (ii r):=by
 refine c_ f35 λ_=>gV ?_;refine⟨λh1=>?_,λh1=>?_⟩
 .refine To.cutC [1,3] 2 rfl rfl rfl rfl ?_;exact aS2 x r b h1
 .have h1:(x.k==1)=false:=h1;refine gV ?_;refine⟨λj=>?_,λj=>?_⟩
  .refine To.cutC [1,3] 2 rfl rfl rfl rfl ?_;exact aS1 x r b j
  .have j:(x.k==2)=false:=j;refine gV ?_;refine⟨λh3=>?_,λh3=>?_⟩
   .have h3:(x.k==3)=true:=h3;have a:x.k=3:=by simpa using h3
    refine gV ?_;refine⟨λ_=>?_,λh=>bv (h3.symm.trans h) d_⟩;refine To.cutC [1,3] 2 rfl rfl rfl rfl ?_;exact aO1 x r b (.inl a)
   .have h3:(x.k==3)=false:=h3;refine gV ?_;refine⟨λc=>?_,λc=>?_⟩
    .have c:(x.k==4)=true:=c;have a:x.k=4:=by simpa using c
     refine gV ?_;refine⟨λ_=>?_,λh=>bv (c.symm.trans h) d_⟩;refine To.cutC [1,3] 2 rfl rfl rfl rfl ?_;exact aO1 x r b (.inr (.inl a))
    .have c:(x.k==4)=false:=c;refine gV ?_;refine⟨λd=>?_,λd=>?_⟩
     .have d:(x.k==5)=true:=d;have a:x.k=5:=by simpa using d
      refine To.cutC [1,3] 2 rfl rfl rfl rfl ?_;exact aO1 x r b (.inr (.inr a))
     .have d:(x.k==5)=false:=d;refine gV ?_;refine⟨λi=>?_,λi=>?_⟩
      .have i:(x.k==6)=true:=i;have a:x.k=6:=by simpa using i
       refine To.cutC [1,3] 2 rfl rfl rfl rfl ?_;exact aS0 x r b a
      .have i:(x.k==6)=false:=i;have e:(decide (1<=x.k)&&decide (x.k<=6))=false:=by
        simp only[beq_eq_false_iff_ne]at h1 j h3 c d i;by_cases a:1<=x.k
        .rw [bp (p:=x.k<=6) o_,Bo]
        .rw [bp a,Cq]
       replace b:=iS b e;refine bO hE 1 ?_;conv=>whnf
       refine To.cutC [1,4] 1 rfl rfl rfl rfl ?_;exact(gU x S r b)
def eqL{α:Type}(f:α->α->Bool):List α->List α->Bool
 |[],[]=>O
 |x::r,y::s=>f x y&&eqL f r s
 |_,_=>S
def eqL_len{α:Type}{f:α->α->Bool}:∀{a b:List α},Z a≠Z b->eqL f a b=S
 |[],[],h=>bv rfl h
 |[],_::_,_=>rfl
 |_::_,[],_=>rfl
 |x::r,y::s,h=>by have:=eqL_len (f:=f) (a:=r) (b:=s) (by simpa using h);simp[eqL,this]
def _root_.Go.Proofs.YtenkdioaefckoaaGreatDoor.Nod.eqb(x y:Nod):Bool:=(x.p==y.p)&&((x.w==y.w)&&((x.n.a==y.n.a)&&((x.n.b==y.n.b)&&((x.n.c==y.n.c)&&((x.b.a==y.b.a)&&((x.b.b==y.b.b)&&((x.b.c==y.b.c)&&((x.l.a==y.l.a)&&((x.l.b==y.l.b)&&((x.l.c==y.l.c)&&O))))))))))
def _root_.Go.Proofs.YtenkdioaefckoaaGreatDoor.Hos.eqb(x y:Hos):Bool:=(x.f==y.f)&&((x.b==y.b)&&((x.r==y.r)&&((x.c.a==y.c.a)&&((x.c.b==y.c.b)&&((x.c.c==y.c.c)&&O)))))
def _root_.Go.Proofs.YtenkdioaefckoaaGreatDoor.Gan.eqb(x y:Gan):Bool:=(x.id==y.id)&&((x.ten==y.ten)&&((x.pods==y.pods)&&((x.need.a==y.need.a)&&((x.need.b==y.need.b)&&((x.need.c==y.need.c)&&((x.run==y.run)&&((x.lev==y.lev)&&((x.pref==y.pref)&&O))))))))
def _root_.Go.Proofs.YtenkdioaefckoaaGreatDoor.Nod.eqb_eq{x y:Nod}:x.eqb y=O↔x=y:=by obtain⟨_,_,⟨_,_,_⟩,⟨_,_,_⟩,⟨_,_,_⟩⟩:=x;obtain⟨_,_,⟨_,_,_⟩,⟨_,_,_⟩,⟨_,_,_⟩⟩:=y;simp[Nod.eqb,and_assoc]
def _root_.Go.Proofs.YtenkdioaefckoaaGreatDoor.Hos.eqb_eq{x y:Hos}:x.eqb y=O↔x=y:=by obtain⟨_,_,_,⟨_,_,_⟩⟩:=x;obtain⟨_,_,_,⟨_,_,_⟩⟩:=y;simp[Hos.eqb]
def _root_.Go.Proofs.YtenkdioaefckoaaGreatDoor.Gan.eqb_eq{x y:Gan}:x.eqb y=O↔x=y:=by obtain⟨_,_,_,⟨_,_,_⟩,_,_,_⟩:=x;obtain⟨_,_,_,⟨_,_,_⟩,_,_,_⟩:=y;simp[Gan.eqb,and_assoc]
def aHN(a b:bc)(j:Z a=Z b)(hl:Ig (Z (nav a)))(r:Bool):∀(n i:Nat),i+n=Z a->eqL Nod.eqb (a.drop i) (b.drop i)=r->
  BC E f85 (DA r) [(0,CA 11 (nav a) J0),(1,CA 11 (nav b) J0),(12,GE Is (Z (nav a):Nat)),(13,GE Is i)] []:=by
 have e:Z (nav a)=Z a:=by simp
 intro n;induction n with
 |zero=>
  intro i o c;exact zqca43
 |succ n p=>
  intro i o c;have h1:i<Z a:=o_;have d:i<Z b:=o_;rw[Ac h1,Ac d]at c;have c:(Nod.eqb a[i] b[i]&&eqL Nod.eqb (a.drop (i+1)) (b.drop (i+1)))=r:=c;generalize l:a[i]=x at c;generalize k:b[i]=y at c;have q:(nav a)[i]? =X (Nod.av x):=by simp[l,h1]
  have m:(nav b)[i]? =X (Nod.av y):=by simp[k,d]
  refine gV ?_;refine aT λh=>?_
  repeat' first|refine pA ?_|refine⟨_,q,?_⟩|refine⟨_,m,?_⟩|exact rfl|refine lA ?_ ?_|intro h
  .rename_i h;have h:Nod.eqb x y=false:=jF h;rw[h]at c;rw[<-c];rfl
  .rename_i h;have h:Nod.eqb x y=true:=jG h;rw[h,Bt]at c;have g:=p (i+1) o_ c;exact zW
def eqN_ok(a b:bc):bj 85 [CA 11 (nav a) J0,CA 11 (nav b) J0] (DA (eqL Nod.eqb a b)):=by
 have c:Z (nav a)=Z a:=by simp
 have d:Z (nav b)=Z b:=by simp
 refine c_ f85 λj=>?_;have hl:(Z (nav a):Int)<=9223372036854775807:=j.1;refine gV ?_;refine⟨λh=>?_,λh=>?_⟩
 .have h:((Z (nav a):Int) !=(Z (nav b):Int))=true:=h;exact zqca53
 .have h:((Z (nav a):Int) !=(Z (nav b):Int))=false:=h;have i:=aHN a b (by simp at h;omega) hl _ (Z a) 0 o_ rfl;exact zW
def aHP(a b:List Hos)(j:Z a=Z b)(hl:Ig (Z (hav a)))(r:Bool):∀(n i:Nat),i+n=Z a->eqL Hos.eqb (a.drop i) (b.drop i)=r->
  BC E f86 (DA r) [(0,CA 6 (hav a) J0),(1,CA 6 (hav b) J0),(12,GE Is (Z (hav a):Nat)),(13,GE Is i)] []:=by
 have g:Z (hav a)=Z a:=by simp
 intro n;induction n with
 |zero=>
  intro i o c;exact zqca43
 |succ n p=>
  intro i o c;have h1:i<Z a:=o_;have e:i<Z b:=o_;rw[Ac h1,Ac e]at c;have c:(Hos.eqb a[i] b[i]&&eqL Hos.eqb (a.drop (i+1)) (b.drop (i+1)))=r:=c;generalize l:a[i]=x at c;generalize k:b[i]=y at c;have q:(hav a)[i]? =X (Hos.av x):=by simp[l,h1]
  have m:(hav b)[i]? =X (Hos.av y):=by simp[k,e]
  refine gV ?_;refine aT λh=>?_
  repeat' first|refine pA ?_|refine⟨_,q,?_⟩|refine⟨_,m,?_⟩|exact rfl|refine lA ?_ ?_|intro h
  .rename_i h;have h:Hos.eqb x y=false:=jF h;rw[h]at c;rw[<-c];rfl
  .rename_i h;have h:Hos.eqb x y=true:=jG h;rw[h,Bt]at c;have d:=p (i+1) o_ c;exact zW
def eqH_ok(a b:List Hos):bj 86 [CA 6 (hav a) J0,CA 6 (hav b) J0] (DA (eqL Hos.eqb a b)):=by
 have c:Z (hav a)=Z a:=by simp
 have d:Z (hav b)=Z b:=by simp
 refine c_ f86 λj=>?_;have hl:(Z (hav a):Int)<=9223372036854775807:=j.1;refine gV ?_;refine⟨λh=>?_,λh=>?_⟩
 .have h:((Z (hav a):Int) !=(Z (hav b):Int))=true:=h;exact zqca53
 .have h:((Z (hav a):Int) !=(Z (hav b):Int))=false:=h;have i:=aHP a b (by simp at h;omega) hl _ (Z a) 0 o_ rfl;exact zW
def sameC(a b:Con):Bool:=eqL Nod.eqb a.ns b.ns&&(eqL Hos.eqb a.hs b.hs&&((a.half==b.half)&&(a.age==b.age)))
def same(a b:Cmd):Bool:=(a.k==b.k)&&(a.g.eqb b.g&&((a.n==b.n)&&sameC a.c b.c))
def EZ(a b:Con)(g:Z a.hs=Z b.hs)(hl:Ig (Z (hav a.hs)))(r:Bool):∀(n i:Nat),i+n=Z a.hs->eqL Hos.eqb (a.hs.drop i) (b.hs.drop i)=r->
  To E f50 (.pure (Io (DA r))) (G0 (stk f50 1) [(2,G2 0 0),(3,G2 1 0),(6,GE Is i)] [Do 30 a.cs,Do 30 b.cs]):=by
 have e:Z (hav a.hs)=Z a.hs:=by simp
 intro n;induction n with
 |zero=>
  intro i m c;exact zqca43
 |succ n o=>
  intro i m c;have h1:i<Z a.hs:=o_;have d:i<Z b.hs:=o_;rw[Ac h1,Ac d]at c;have c:(Hos.eqb a.hs[i] b.hs[i]&&eqL Hos.eqb (a.hs.drop (i+1)) (b.hs.drop (i+1)))=r:=c;generalize k:a.hs[i]=x at c;generalize j:b.hs[i]=y at c;have p:(hav a.hs)[i]? =X (Hos.av x):=by simp[k,h1]
  have l:(hav b.hs)[i]? =X (Hos.av y):=by simp[j,d]
  refine gV ?_;refine aT λh=>?_
  repeat' first|refine pA ?_|refine⟨_,p,?_⟩|refine⟨_,l,?_⟩|exact rfl|refine lA ?_ ?_|intro h
  .have h:Hos.eqb x y=false:=jF h;rw[h]at c;rw[<-c];rfl
  .have h:Hos.eqb x y=true:=jG h;rw[h,Bt]at c;have f:=o (i+1) o_ c;exact zW
def aEY(a b:Con)(l:Z a.ns=Z b.ns)(d:Z a.hs=Z b.hs)(hl:Ig (Z (nav a.ns)))(e:Ig (Z (hav a.hs)))(r:Bool):∀(n i:Nat),i+n=Z a.ns->(eqL Nod.eqb (a.ns.drop i) (b.ns.drop i)&&eqL Hos.eqb a.hs b.hs)=r->
  BC E f50 (DA r) [(2,G2 0 0),(3,G2 1 0),(5,GE Is i)] [Do 30 a.cs,Do 30 b.cs]:=by
 have g:Z (nav a.ns)=Z a.ns:=by simp
 intro n;induction n with
 |zero=>
  intro i q c;rw[Ae o_,Ae o_]at c;have c:eqL Hos.eqb a.hs b.hs=r:=c;refine gV ?_;have j:=EZ a b d e r (Z a.hs) 0 o_ c;exact zW
 |succ n s=>
  intro i q c;have h1:i<Z a.ns:=o_;have f:i<Z b.ns:=o_;rw[Ac h1,Ac f]at c;have c:((Nod.eqb a.ns[i] b.ns[i]&&eqL Nod.eqb (a.ns.drop (i+1)) (b.ns.drop (i+1)))&&eqL Hos.eqb a.hs b.hs)=r:=c;generalize o:a.ns[i]=x at c;generalize m:b.ns[i]=y at c;have u:(nav a.ns)[i]? =X (Nod.av x):=by simp[o,h1]
  have p:(nav b.ns)[i]? =X (Nod.av y):=by simp[m,f]
  refine gV ?_;refine aT λh=>?_
  repeat' first|refine pA ?_|refine⟨_,u,?_⟩|refine⟨_,p,?_⟩|exact rfl|refine lA ?_ ?_|intro h
  .have h:Nod.eqb x y=false:=jF h;rw[h]at c;rw[<-c];rfl
  .have h:Nod.eqb x y=true:=jG h;rw[h,Bt]at c;have k:=s (i+1) o_ c;exact zW
def aIo(a b:Con)(M:Imm)(ob:Hs)(vs:bb)(h:cL M ob vs [a.av,b.av]):(Z (nav a.ns):Int)<=9223372036854775807/\(Z (hav a.hs):Int)<=9223372036854775807:=by
 have hl:0<Z vs:=by rw[h.1];simp
 have:=h.2 0 _ a.av (Ab hl) rfl;exact⟨cN this 0 _ rfl,cN this 1 _ rfl⟩
def aAp{a b:Nat}(h:((a:Int) !=(b:Int))=O):a≠b:=by intro e;rw[e]at h;simp at h
def aBc{a b:Nat}(h:((a:Int) !=(b:Int))=S):a=b:=by simp at h;omega
def aEZ(a b:Con)(r:Bool)(d:sameC a b=r):bj 50 [a.av,b.av] (DA r):=by
 refine aA.get _ (aIo a b) λ⟨hl,i⟩=>?_;have l:Z (nav a.ns)=Z a.ns:=by simp
 have m:Z (nav b.ns)=Z b.ns:=by simp
 have n:Z (hav a.hs)=Z a.hs:=by simp
 have k:Z (hav b.hs)=Z b.hs:=by simp
 refine c_ f50 λ_=>gV ?_;refine Aa (λh1=>?_) (λh1=>?_)
 .have h1:((Z (nav a.ns):Int) !=(Z (nav b.ns):Int))=true:=h1;have e:sameC a b=false:=by unfold sameC;rw[eqL_len (by rw[<-l,<-m];exact aAp h1)];rfl
  rw[e]at d;subst d;exact zW
 .have h1:((Z (nav a.ns):Int) !=(Z (nav b.ns):Int))=false:=h1;refine gV ?_;refine Aa (λh=>?_) (λh=>?_)
  .have h:((Z (hav a.hs):Int) !=(Z (hav b.hs):Int))=true:=h;have e:sameC a b=false:=by unfold sameC;rw[eqL_len (f:=Hos.eqb) (by rw[<-n,<-k];exact aAp h),Cq,Bo]
   rw[e]at d;subst d;exact zW
  .have h:((Z (hav a.hs):Int) !=(Z (hav b.hs):Int))=false:=h;have o:=aBc h1;have p:=aBc h;refine gV ?_;refine Aa (λh3=>?_) (λh3=>?_)
   .have h3:(!(a.half==b.half))=true:=h3;have h3:=jF h3;have e:sameC a b=false:=by unfold sameC;rw[h3,Cq,Bo,Bo]
    rw[e]at d;subst d;exact zW
   .have h3:(!(a.half==b.half))=false:=h3;have h3:=jG h3;refine gV ?_;refine Aa (λc=>?_) (λc=>?_)
    .have c:(!(a.age==b.age))=true:=c;have c:=jF c;have e:sameC a b=false:=by unfold sameC;rw[c,Bo,Bo,Bo]
     rw[e]at d;subst d;exact zW
    .have c:(!(a.age==b.age))=false:=c;have c:=jG c;have e:sameC a b=(eqL Nod.eqb a.ns b.ns&&eqL Hos.eqb a.hs b.hs):=by unfold sameC;rw[h3,c,Hz,Hz]
     rw[e]at d;have j:=aEY a b o_ o_ hl i _ (Z a.ns) 0 o_ d;exact zW
def rsame_c(a b:Con):bj 50 [a.av,b.av] (DA (sameC a b)):=aEZ a b _ rfl
end C8
namespace Q2
structure Pend where
 (id tenant pods n0 n1 n2 run level prefer seq since:Int)
 deriving DecidableEq
abbrev _root_.bi:=List Pend
def Pend.cs(p:Pend):az:=[GE Is p.id,GE Is p.tenant,GE Is p.pods,GE Is p.n0,GE Is p.n1,GE Is p.n2,GE Is p.run,GE Is p.level,GE Is p.prefer,GE Is p.seq,GE Is p.since]
def Pend.av(p:Pend):aa:=He p.cs
abbrev pav(l:bi):az:=l.map Pend.av
def zI{n:Int}(h1: -9223372036854775808<=n)(a:n<=9223372036854775807):inR Is n:=⟨by simp only[bV];omega,by simp only[aW];omega⟩
def idx(p:Pend->Bool):bi->Int->Int
 |[],_=> -1
 |x::r,i=>if p x then i else idx p r (i+1)
def am(a:Int)(l:bi):Int:=idx (λx=>x.id==a) l 0
def aGg(a b:Int):Pend:=⟨a,0,0,0,0,0,0,0,0,b,0⟩
def qZ{l:bi}{i:Nat}(h:i<Z l):(pav l)[i]? =X l[i].av:=by simp[pav,h]
set_option maxRecDepth 10000
def aRH(p:Pend):bj 413 [p.av] (GE Is p.id):=by refine c_ f413 λ_=>?_;refine gW hE ?_;conv=>whnf
def aEH(p:Pend):bj 414 [p.av] (GE Is p.seq):=by refine c_ f414 λ_=>?_;refine gW hE ?_;conv=>whnf
def aRE(p:Pend)(b:Int):bj 210 [.iface 292 p.av,GE Is b] (DA (p.id==b)):=by refine c_ f210 λ_=>?_;have a:=aRH p;exact zW
def LO(p q:Pend):bj 215 [.iface 292 p.av,.iface 292 q.av] (DA (decide (q.seq<p.seq))):=by refine c_ f215 λ_=>?_;have a:=aEH p;have b:=aEH q;exact zW
def aKB(x p:Pend):bj 214 [x.av,.ptr p.cs] (DA (decide (p.seq<x.seq))):=by refine c_ f214 λ_=>?_;have a:=LO x p;exact zW
def aHv(x:Pend)(a:Int):bj 209 [x.av,.ptr [GE Is a]] (DA (x.id==a)):=by refine c_ f209 λ_=>?_;have b:=aRE x a;exact zW
def WZ(f:FuncId)(l:az)(xs:bi)(p:Pend->Bool)(k:∀x∈xs,aA Tryz.prog f [x.av,.ptr l] [] (Io (DA (p x))) [])(hl:Ig (Z (pav xs)))(r:Int):
  ∀(n i:Nat),i+n=Z xs->idx p (xs.drop i) i=r->
  To E f208 (.pure (Io (GE Is r))) (BB f208
   [(0,CA 11 (pav xs) J0),(1,.func (.func f) [] [.ptr l]),(7,GE Is (Z (pav xs):Nat)),(8,GE Is i)] []):=by
 have d:Z (pav xs)=Z xs:=by simp
 intro n;induction n with
 |zero=>
  intro i j a;refine gV ?_;refine⟨λh=>?_,λh=>?_⟩
  .exact zqca42
  .refine gV ?_;rw[Ae o_]at a;rw[<-a];rfl
 |succ n g=>
  intro i j a;have b:i<Z xs:=o_;refine gV ?_;refine⟨λh=>?_,λh=>?_⟩
  .refine gV ?_;refine⟨i,rfl,gV ?_⟩;refine⟨_,qZ b,gV ?_⟩;refine .p (k xs[i] (Av b)) (gV ?_);rw[Ac b]at a;have a:(if p xs[i]then(i:Int)else idx p (xs.drop (i+1)) ((i:Int)+1))=r:=a;exact zqca4
  .exact zqca38
def SC(f:FuncId)(l:az)(xs:bi)(p:Pend->Bool)(b:∀x∈xs,aA Tryz.prog f [x.av,.ptr l] [] (Io (DA (p x))) []):
  bj 208 [CA 11 (pav xs) J0,.func (.func f) [] [.ptr l]] (GE Is (idx p xs 0)):=by
 refine c_ f208 λa=>gV ?_;refine To.head [0,1,7,8] ?_;exact WZ f l xs p b a.1 _ (Z xs) 0 o_ s_
def find_ok(xs:bi)(a:Int):bj 149 [CA 11 (pav xs) J0,GE Is a] (GE Is (am a xs)):=by refine c_ f149 λ_=>?_;have b:=SC _ _ xs (λx=>x.id==a) λx _=>aHv x a;exact zW
def A7{n:Nat}(h:n<=1000000):A8 n 88:=⟨by simp only[maxLen];omega,by omega⟩
def HE(xs:bi)(a:Z xs<=1000000):ar 138 [CA 11 (pav xs) J0] [] (Io (.row 0 0)) [.row 0 11 104 (pav xs)]:=by
 refine eA (Er [2,5] []) f138 0 λ_=>gV ?_;intro b c;refine gV ?_;refine⟨λh=>?_,λh=>?_⟩
 .refine gV ?_;refine⟨[],[1],⟨rfl,rfl⟩,?_⟩;conv=>whnf
  rw[c (by simpa using h)];exact⟨rfl,rfl⟩
 .refine gV ?_;refine⟨A7 (by simpa using a),gV ?_⟩;refine⟨[],[1],⟨rfl,rfl⟩,?_⟩;exact⟨rfl,rfl⟩
def del_list{α:Type}(l:List α)(i:Nat)(f:i<Z l)(z:α):
  (l.take (0+i)++(l.drop (i+1)).take (Z l-(i+1))++l.drop (0+i+(Z l-(i+1)))).take (0+(Z l-1))++Ak (Z l-(Z l-1)) z++
   (l.take (0+i)++(l.drop (i+1)).take (Z l-(i+1))++l.drop (0+i+(Z l-(i+1)))).drop (0+(Z l-1)+(Z l-(Z l-1)))=l.eraseIdx i++[z]:=by
 have d:(l.drop (i+1)).take (Z l-(i+1))=l.drop (i+1):=Bq s_;have e:Z l-(Z l-1)=1:=o_;have a:Z (l.take (0+i)++l.drop (i+1))=Z l-1:=by simp;omega
 rw[d,e,Fb];simp only[Bv]at a⊢;have b:(l.take i++l.drop (i+1)++l.drop (i+(Z l-(i+1)))).take (Z l-1)=l.take i++l.drop (i+1):=by rw[Eh o_,Bq o_]
 have c:(l.take i++l.drop (i+1)++l.drop (i+(Z l-(i+1)))).drop (Z l-1+1)=[]:=by refine Ae ?_;rw[Ah,a,Dq];omega
 rw[b,c];simp
def aDq(xs:bi)(i:Nat)(d:i<Z xs)(e:Z xs<=1000000):ar 154 [.row 0 0,GE Is i,GE Is ((i:Int)+1)] [.row 0 11 104 (pav xs)]
  (Io (.sub 0 0 0 (Z xs-1) 11)) [.row 0 11 104 (pav (xs.eraseIdx i)++[(aGg 0 0).av])]:=by
 refine eA E f154 1 λ_=>gV ?_;refine⟨i,rfl,gV ?_⟩;refine⟨i+1,by push_cast;rfl,?_⟩;refine gV ?_;refine⟨Z xs,by simp,gV ?_⟩;refine⟨⟨⟨by omega,by omega⟩,by simp⟩,gV ?_⟩;refine⟨λh=>?_,λh=>?_⟩
 .simp at h;omega
 .refine gV ?_;refine⟨i,rfl,gV ?_⟩;refine⟨by simp;omega,?_⟩;refine gV ?_;refine⟨i+1,by push_cast;rfl,?_⟩;refine gV ?_;refine⟨by simp;omega,?_⟩;refine gV ?_;have a:Z (pav xs)=Z xs:=by simp
  have b:Z (Fi (Z (pav xs)-(i+1)) (Fx (i+1) (pav xs)))=Z xs-(i+1):=by simp
  rw[b,a];refine⟨by omega,gV ?_⟩;refine⟨Z xs-1,by omega,gV ?_⟩;refine⟨Z xs,rfl,gV ?_⟩;refine⟨by simp;omega,?_⟩;refine gV ?_;refine⟨[],[0],⟨rfl,rfl⟩,?_⟩;conv=>whnf
  refine⟨?_,?_⟩
  .show Res.ret (.sub 0 0 0 (i+(Z xs-(i+1))) 11)=_;rw[show i+(Z xs-(i+1))=Z xs-1 from by omega]
  .have h:=del_list (pav xs) i (by rw[a];exact d) (aGg 0 0).av;rw[a]at h;have c:(pav xs).eraseIdx i=pav (xs.eraseIdx i):=by simp only[pav,Fb,Bh,Fw,Ia]
   rw[c]at h;exact congrArg (λl=>[ab.row 0 11 104 l]) h
def NA(xs ys:az)(lo len:Nat):ar 273 [.row 0 0,.sub 1 0 lo len 11] [.row 0 11 104 xs,.row 0 11 104 ys] (Io (DA S)) [.row 0 11 104 xs,.row 0 11 104 ys]:=
 Q5 (fn:=f273) (tS:=31) (tR:=4) (e:=104) (by kernel_rfl) (by kernel_rfl) (by kernel_rfl) (by kernel_rfl) (by kernel_rfl) (by kernel_rfl) (by kernel_rfl) d_ xs ys lo len
def DE{α:Type}(xs ys:List α)(lo len q:Nat)(h:lo+len<=Z xs):(xs.take lo++ys.take len++xs.drop (lo+min (Z ys) len))[q]? =if lo<=q/\q<lo+min (Z ys) len then ys[q-lo]? else xs[q]?:=by
 have a:Z (xs.take lo)=lo:=by simp;omega
 have c:Z (ys.take len)=min (Z ys) len:=by rw[Dr,Nat.min_comm]
 by_cases h1:q<lo
 .rw [bt o_,Ag,Ai o_,Bj h1]
 .by_cases b:q<lo+min (Z ys) len
  .rw [bu ⟨by omega,b⟩,Ai (by rw[Ah];omega),Ar o_,a,Bj o_]
  .rw [bt o_,Ar (by rw[Ah];omega),Ah,a,c,Dd];congr 1;omega
def aAC{α:Type}(l:List α)(p:α)(i q:Nat)(c:i<=Z l):(l.take i++[p]++l.drop i)[q]? =if q<i then l[q]? else if q=i then X p else l[q-1]?:=by
 have b:Z (l.take i)=i:=by simp;omega
 by_cases h1:q<i
 .rw [bu h1,Ag,Ai o_,Bj h1]
 .rw [bt h1,Ag,Ar o_,b];by_cases a:q=i
  .rw [bu a,a];simp
  .rw [bt a,show q-i=(q-1-i)+1 from by omega];show(l.drop i)[q-1-i]? =_;rw[Dd];congr 1;omega
def WY{α:Type}(l L:List α)(p:α)(i:Nat)(k:i<Z l)(f:Z L=Z l+1)(hl:∀q,q<Z l->L[q]? =l[q]?):
  ∀A B,A=L.take (i+1)++((L.drop i).take (Z L-i)).take (Z L-(i+1))++L.drop (i+1+min (Z ((L.drop i).take (Z L-i))) (Z L-(i+1)))->
   B=A.take i++[p].take (Z A-i)++A.drop (i+min (Z [p]) (Z A-i))->B=l.take i++[p]++l.drop i:=by
 intro A B c e;have g:Z ((L.drop i).take (Z L-i))=Z l+1-i:=by simp;omega
 have d:∀q,A[q]? =if i+1<=q/\q<Z l+1 then L[q-1]? else L[q]?:=λq=>by
  rw[c,DE _ _ _ _ _ o_,g,f];by_cases h:i+1<=q/\q<Z l+1
  .rw [bu o_,bu h,Bj o_,Dd];congr 1;omega
  .rw [bt o_,bt h]
 have b:Z A=Z l+1:=by rw[c];simp;omega
 refine Ez λq=>?_;rw[aAC _ _ _ _ o_,e,DE _ _ _ _ _ o_];have j:min (Z [p]) (Z A-i)=1:=by rw[b];simp;omega
 rw[j];by_cases h1:q<i
 .rw [bt o_,bu h1,d,bt o_,hl q o_]
 .rw [bt h1];by_cases a:q=i
  .rw [bu o_,bu a,a];simp
  .rw [bt o_,bt a,d];by_cases h3:q<Z l+1
   .rw [bu o_,hl _ o_]
   .rw [bt o_,Bk o_,Bk o_]
def aLw{α:Type}(l L:List α)(p:α)(i:Nat)(k:i<Z l)(f:Z L=Z l+1)(hl:∀q,q<i->L[q]? =l[q]?):
  ∀A B,A=L.take i++[p].take (Z L-i)++L.drop (i+min (Z [p]) (Z L-i))->
   B=A.take (i+1)++((l.drop i).take (Z l-i)).take (Z A-(i+1))++A.drop (i+1+min (Z ((l.drop i).take (Z l-i))) (Z A-(i+1)))->B=l.take i++[p]++l.drop i:=by
 intro A B d e;have g:Z ((l.drop i).take (Z l-i))=Z l-i:=by simp
 have j:min (Z [p]) (Z L-i)=1:=by rw[f];simp;omega
 have b:∀q,A[q]? =if q=i then X p else L[q]?:=λq=>by
  rw[d,DE _ _ _ _ _ o_,j];by_cases h:q=i
  .rw [bu o_,bu h,h];simp
  .rw [bt o_,bt h]
 have c:Z A=Z l+1:=by rw[d];simp;omega
 refine Ez λq=>?_;rw[aAC _ _ _ _ o_,e,DE _ _ _ _ _ o_,g,c,show min (Z l-i) (Z l+1-(i+1))=Z l-i from by omega];by_cases h1:q<i
 .rw [bt o_,bu h1,b,bt o_,hl q h1]
 .rw [bt h1];by_cases a:q=i
  .rw [bt o_,bu a,b,bu a]
  .rw [bt a];by_cases h3:q<Z l+1
   .rw [bu o_,Bj o_,Dd];congr 1;omega
   .rw [bt o_,b,bt a,Bk o_,Bk o_]
def oI{n:Nat}(h:n<=1000001):A8 n 88:=⟨by simp only[maxLen];omega,by omega⟩
def J4(xs:bi)(p:Pend)(i:Nat)(hi:i<=Z xs)(hx:Z xs<=1000000):
  ar 216 [.row 0 0,GE Is i,.row 1 0] [.row 0 11 104 (pav xs),.row 0 11 104 [p.av]]
  (Io (.row 0 1)) [.row 1 11 104 (pav (xs.take i++[p]++xs.drop i)),.row 0 11 104 [p.av]]:=by
 have hlen:Z (pav xs)=Z xs:=by simp
 refine eA (Er [60] []) f216 2 λ_=>?_;refine To.cap (t:=0) rfl rfl λc hc hcm=>?_;rw[hlen]at hc;refine gV ?_;refine⟨i,rfl,gV ?_⟩;rw[hlen];refine⟨hi,gV ?_⟩;refine⟨λh=>?_,λh=>?_⟩
 .cases h
 .refine gV ?_;refine⟨λh=>?_,λh=>?_⟩
  .refine gV ?_
   have hi2:i=Z xs:=by have:(i:Int)=Z xs:=(by simpa using h);omega
   refine⟨by rw[hlen];exact oI q_,?_⟩;refine gV ?_;refine⟨[],[0,1],⟨rfl,rfl⟩,?_⟩;conv=>whnf
   refine⟨rfl,?_⟩;have:pav (xs.take i++[p]++xs.drop i)=pav xs++[p.av]:=by simp[hi2]
   rw[this];rfl
  .have hi2:i<Z xs:=by
    have:¬ (i:Int)=Z xs:=by simpa using h
    omega
   refine gV ?_;have h1:(Z [p.av])=1:=rfl;rw[hlen,h1];refine .inl ⟨zI o_ o_,gV ?_⟩;refine⟨λh=>?_,λh=>?_⟩
   .have hg:c<Z xs+1:=by have:=bn h;omega
    refine gV ?_;refine⟨i,rfl,gV ?_⟩;refine⟨⟨by simp;omega,by omega⟩,?_⟩;refine gV ?_;refine .inl ⟨zI o_ o_,gV ?_⟩;refine .inl ⟨zI o_ o_,gV ?_⟩;refine⟨Z xs+1-i,by omega,gV ?_⟩;refine⟨⟨by omega,oI o_⟩,gV ?_⟩;refine⟨i,rfl,gV ?_⟩;have hL:Z (Fi i (pav xs)++Ak (Z xs+1-i) (aGg 0 0).av)=Z xs+1:=by simp;omega
    refine⟨by simp;omega,?_⟩;refine gV ?_;refine .inl ⟨zI o_ o_,gV ?_⟩;refine⟨i+1,by push_cast;rfl,?_⟩;refine gV ?_;refine⟨by simp;omega,?_⟩;refine gV ?_;refine⟨i,rfl,gV ?_⟩;refine⟨by simp;omega,?_⟩;refine bO (hEr [60] []) 7 ?_;conv=>whnf
    refine To.become (j:=0) (k:=2) [9] rfl rfl rfl rfl (gV ?_);refine⟨[],[0,1],⟨rfl,rfl⟩,?_⟩;conv=>whnf
    refine⟨rfl,?_⟩;have h:=aLw (pav xs) _ p.av i (by rw[hlen];exact hi2) (by rw[hL,hlen]) (λq hq=>by rw[Ai q_,Bj hq]) _ _ rfl rfl;exact zqca19
   .have hg:Z xs+1<=c:=by have:=bm h;omega
    refine gV ?_;refine .inl ⟨zI o_ o_,gV ?_⟩;refine⟨Z xs+1,by push_cast;rfl,?_⟩;refine gV ?_;refine⟨⟨by simp,hg⟩,gV ?_⟩;refine .inl ⟨zI o_ o_,gV ?_⟩;refine⟨i+1,by push_cast;rfl,?_⟩;refine gV ?_;refine⟨by simp;omega,?_⟩;refine gV ?_;refine .eff [] [1,0] _ _ rfl (NA _ _ _ _) (gV ?_);refine⟨λh=>?_,λh=>?_⟩
    .refine gV ?_;refine .inl ⟨zI o_ o_,gV ?_⟩;refine⟨i+1,by push_cast;rfl,?_⟩;refine gV ?_;refine⟨by simp;omega,?_⟩;refine gV ?_;refine⟨i,rfl,gV ?_⟩;refine⟨by simp;omega,?_⟩;refine gV ?_;refine⟨i,rfl,gV ?_⟩;refine⟨by simp;omega,?_⟩;refine gV ?_;refine⟨[],[0,1],⟨rfl,rfl⟩,?_⟩;conv=>whnf
     refine⟨rfl,?_⟩;have hL:Z (pav xs++Ak (Z xs+1-Z (pav xs)) (aa.agg (Ak 11 aa.undef)))=Z (pav xs)+1:=by simp
     have h:=WY (pav xs) _ p.av i (by rw[hlen];exact hi2) hL (λq hq=>by rw[Ai hq]) _ _ rfl rfl;exact zqca19
    .cases h
def putAt(p:Pend)(l:bi):Nat:=if idx (λx=>decide (p.seq<x.seq)) l 0<0 then Z l else(idx (λx=>decide (p.seq<x.seq)) l 0).toNat
def putP(l:bi)(p:Pend):bi:=l.take (putAt p l)++[p]++l.drop (putAt p l)
def takeP(l:bi)(a:Int):bi:=if am a l<0 then l else l.eraseIdx (am a l).toNat
def vM(p:Pend->Bool):∀(l:bi) (i:Int),idx p l i= -1\/(i<=idx p l i/\idx p l i<i+Z l)
 |[],i=>.inl rfl
 |x::r,i=>by
  unfold idx;split
  .right;simp;omega
  .rcases vM p r (i+1)with h|h
   .exact .inl h
   .right;simp;omega
def put_ok(l:bi)(p:Pend)(hl:Z l<=1000000):bj 152 [CA 11 (pav l) J0,p.av] (CA 11 (pav (putP l p)) J0):=by
 have a:Z (pav l)=Z l:=by simp
 refine gA (Er [17] []) f152 λ_=>gV ?_;refine .p (SC _ _ l (λx=>decide (p.seq<x.seq)) λx _=>aKB x p) (gV ?_);have fin:∀(i:Nat),i=putAt p l->i<=Z l:=λi c=>by
  subst c;unfold putAt;rcases vM (λx=>decide (p.seq<x.seq)) l 0 with h|h
  .rw [bu o_];exact Bc _
  .rw [bt o_];omega
 refine⟨λh=>?_,λh=>?_⟩
 .have b:putAt p l=Z l:=bu (bn h);refine gV ?_;refine .p (HE l hl) (gV ?_);rw[a];refine .sole rfl (.eff [] [1,2] _ _ rfl (J4 l p (Z l) (Bc _) hl) (gV ?_));rw[<-b];rfl
 .have b:idx (λx=>decide (p.seq<x.seq)) l 0=((putAt p l:Nat):Int):=by have:=bm h;unfold putAt;rw[bt this];omega
  rw[b];refine gV ?_;refine .p (HE l hl) (gV ?_);refine .sole rfl (.eff [] [1,2] _ _ rfl (J4 l p (putAt p l) (fin _ rfl) hl) (gV ?_));rfl
def take_ok(l:bi)(a:Int)(hl:Z l<=1000000):bj 101 [CA 11 (pav l) J0,GE Is a] (GT [CA 11 (pav (takeP l a)) J0,DA (!decide (am a l<0))]):=by
 refine c_ f101 λ_=>gV ?_;refine .p (HE l hl) (gV ?_);refine .p (find_ok l a) (gV ?_);refine⟨λh=>?_,λh=>?_⟩
 .exact zqca54
 .have c:=bm h;have j:am a l<Z l:=by exact zqca49
  have e:am a l=(((am a l).toNat:Nat):Int):=o_;have i:takeP l a=l.eraseIdx (am a l).toNat:=bt c;rw[h,i]
  obtain⟨k,d⟩:∃k:Nat,am a l=(k:Int):=⟨_,e⟩
  have b:k<Z l:=o_;rw[d,Bm];refine gV ?_;refine .inl ⟨zI o_ o_,gV ?_⟩;refine .eff [] [0] _ _ rfl (aDq l k b hl) (gV ?_);have:Fi (Z l-1) (Fx 0 (pav (l.eraseIdx k)++[(aGg 0 0).av]))=pav (l.eraseIdx k):=by rw[Bz,Eh (by simp[Kn,b]),Bq (by simp[Kn,b])]
  have h3:Res.ret (GT [CA 11 (Fi (Z l-1) (Fx 0 (pav (l.eraseIdx k)++[(aGg 0 0).av]))) J0,DA O])=Res.ret (GT [CA 11 (pav (l.eraseIdx k)) J0,DA (!S)]):=by rw[this];rfl
  exact h3
def NX(xs:bi)(a:Int)(hl:Ig (Z (pav xs)))(r:Int):∀(n i:Nat),i+n=Z xs->idx (λx=>x.id==a) (xs.drop i) i=r->
  BC E f42 (GE Is r) [(0,CA 11 (pav xs) J0),(1,GE Is a),(5,GE Is i)] []:=by
 have e:Z (pav xs)=Z xs:=by simp
 intro n;induction n with
 |zero=>
  intro i k b;refine gV ?_;refine⟨λh=>?_,λh=>?_⟩
  .exact zqca42
  .refine gV ?_;rw[Ae o_]at b;rw[<-b];rfl
 |succ n j=>
  intro i k b;have c:i<Z xs:=o_;refine gV ?_;refine⟨λh=>?_,λh=>?_⟩
  .refine gV ?_;refine⟨i,rfl,gV ?_⟩;refine⟨_,qZ c,gV ?_⟩;rw[Ac c]at b;have b:(if xs[i].id==a then(i:Int)else idx (λx=>x.id==a) (xs.drop (i+1)) ((i:Int)+1))=r:=b;refine⟨λd=>?_,λd=>?_⟩
   .refine gV ?_;rw[bu d]at b;rw[b]
   .refine gV ?_;rw[bt (by rw[d];simp)]at b;refine .inl ⟨zI o_ o_,?_⟩;have g:=j (i+1) o_ (by rw[<-b];push_cast;rfl);exact zW
  .exact zqca38
def findref_ok(xs:bi)(a:Int):bj 42 [CA 11 (pav xs) J0,GE Is a] (GE Is (am a xs)):=by refine c_ f42 λb=>gV ?_;refine To.head [0,1,5] ?_;exact NX xs a b.1 _ (Z xs) 0 o_ (by simp[am])
def EO{α:Type}(l:List α)(k:Nat):Z (l.take k)<=Z l:=by simp;omega
def takeref_ok(l:bi)(a:Int)(hl:Z l<=1000000):bj 43 [CA 11 (pav l) J0,GE Is a] (GT [CA 11 (pav (takeP l a)) J0,DA (!decide (am a l<0))]):=by
 have b:Z (pav l)=Z l:=by simp
 refine c_ f43 λ_=>gV ?_;refine .p (findref_ok l a) (gV ?_);refine⟨λh=>?_,λh=>?_⟩
 .refine gV ?_;refine⟨A7 (by rw[b];exact hl),?_⟩;exact zqca54
 .have c:=bm h;have j:am a l<Z l:=by exact zqca49
  have e:takeP l a=l.eraseIdx (am a l).toNat:=bt c;rw[h,e]
  obtain⟨k,d⟩:∃k:Nat,am a l=(k:Int):=⟨(am a l).toNat,by omega⟩
  have i:k<Z l:=o_;rw[d,Bm];refine gV ?_;refine⟨k,rfl,gV ?_⟩;refine⟨by rw[b];omega,?_⟩;refine gV ?_;refine⟨A7 (by have:=EO (pav l) k;omega),?_⟩;refine gV ?_;refine .inl ⟨zI o_ o_,gV ?_⟩;refine⟨k+1,by push_cast;rfl,?_⟩;refine gV ?_;refine⟨by rw[b];omega,?_⟩;refine gV ?_;refine⟨A7 q_,gV ?_⟩;have:Fi k (pav l)++Fx (k+1) (pav l)=pav (l.eraseIdx k):=by simp only[pav,Fb,Bh,Fw,Ia]
  rw[this];rfl
def aCy{p:Pend}{l:bi}{i:Nat}(h:idx (λx=>decide (p.seq<x.seq)) l 0=(i:Int)):putAt p l=i:=by unfold putAt;rw[h,bt o_];rfl
def V8{p:Pend}{l:bi}(h:idx (λx=>decide (p.seq<x.seq)) l 0= -1):putAt p l=Z l:=by unfold putAt;rw[h,bu o_]
def QP(l:bi)(p:Pend)(hl:Z l<=1000000):∀(n i:Nat),i+n=Z l->idx (λx=>decide (p.seq<x.seq)) (l.drop i) i=idx (λx=>decide (p.seq<x.seq)) l 0->
  BC (Er [] [29,30,31]) f77 (CA 11 (pav (putP l p)) J0) [(0,CA 11 (pav l) J0),(3,G2 0 0),(5,GE Is i)] [Do 104 p.cs]:=by
 have a:Z (pav l)=Z l:=by simp
 intro n;induction n with
 |zero=>
  intro i g b;refine gV ?_;refine⟨λh=>?_,λh=>?_⟩
  .exact zqca42
  .refine gV ?_;refine⟨λd=>(by cases d),λ_=>?_⟩;have hp:putAt p l=i:=by
    rw[V8]
    .omega
    .rw [<-b,Ae o_];rfl
   exact zqca5
 |succ n j=>
  intro i g b;have c:i<Z l:=o_;refine gV ?_;refine⟨λh=>?_,λh=>?_⟩
  .refine gV ?_;refine⟨i,rfl,gV ?_⟩;refine⟨_,qZ c,gV ?_⟩;rw[Ac c]at b;have b:(if decide (p.seq<l[i].seq)then(i:Int)else idx (λx=>decide (p.seq<x.seq)) (l.drop (i+1)) ((i:Int)+1))=idx (λx=>decide (p.seq<x.seq)) l 0:=b;refine⟨λd=>?_,λd=>?_⟩
   .refine gV ?_;have h3:=bn d;rw[bt q_]at b;refine .inl ⟨zI o_ o_,?_⟩;have e:=j (i+1) o_ (by rw[<-b];push_cast;rfl);exact zW
   .have h3:=bm d;rw[bu q_]at b;have hp:putAt p l=i:=aCy b.symm;exact zqca5
  .exact zqca38
def putref_ok(l:bi)(p:Pend)(hl:Z l<=1000000):bj 77 [CA 11 (pav l) J0,p.av] (CA 11 (pav (putP l p)) J0):=by refine gA (Er [] [29,30,31]) f77 λ_=>?_;have a:=QP l p hl (Z l) 0 o_ s_;exact zW
def ND(l:bi)(i:Nat):Bool:=match l[i]?,l[i-1]? with
 |some c,some p=>!((decide (0<i)&& !decide (p.seq<c.seq))||(am c.id l !=(i:Int)))
 |_,_=>O
def iV(l:bi):Nat->Nat->Bool
 |0,_=>O
 |n+1,i=>ND l i&&iV l n (i+1)
def checkP(l:bi):Bool:=iV l (Z l) 0
def YL(l:bi)(hl:Z l<=1000000)(r:Bool):∀(n i:Nat),i+n=Z l->iV l n i=r->
  BC E f170 (DA r) [(0,CA 11 (pav l) J0),(5,CA 11 (pav l) J0),(6,GE Is (Z (pav l):Nat)),(7,GE Is i)] []:=by
 have k:Z (pav l)=Z l:=by simp
 intro n;induction n with
 |zero=>
  intro i m a;refine gV ?_;refine⟨λh=>?_,λh=>?_⟩
  .exact zqca42
  .refine gV ?_;rw[<-a];rfl
 |succ n o=>
  intro i m a;have d:i<Z l:=o_;have a:(ND l i&&iV l n (i+1))=r:=a
  have back:iV l n (i+1)=r->inR Is ((i:Int)+1)/\BC E f170 (DA r) [(0,CA 11 (pav l) J0),(5,CA 11 (pav l) J0),(6,GE Is (Z (pav l):Nat)),(7,GE Is ((i:Int)+1))] []:=λh=>
   ⟨zI o_ o_,by have:=o (i+1) o_ h;push_cast at this;exact this⟩
  refine gV ?_;refine⟨λh=>?_,λh=>?_⟩
  .refine gV ?_;refine⟨i,rfl,gV ?_⟩;refine⟨_,qZ d,gV ?_⟩;refine⟨λh1=>?_,λh1=>?_⟩
   .have g:0<i:=by have:=bn h1;omega
    have b:i-1<Z l:=o_;have c:ND l i= !((O&& !decide (l[i-1].seq<l[i].seq))||(am l[i].id l !=(i:Int))):=by unfold ND;rw[Ab d,Ab b,bq g]
    refine gV ?_;refine .inl ⟨zI o_ o_,gV ?_⟩;refine⟨i-1,by omega,gV ?_⟩;refine⟨_,qZ b,gV ?_⟩;refine .p (LO _ _) (gV ?_);refine⟨λe=>?_,λe=>?_⟩
    .refine gV ?_;refine⟨λ_=>?_,λh3=>(by cases h3)⟩;refine gV ?_;rw[c,e]at a;rw[<-a];rfl
    .refine gV ?_;refine .p (find_ok _ _) (gV ?_);refine⟨λh3=>?_,λh3=>?_⟩
     .refine gV ?_;rw[c,e,h3]at a;rw[<-a];rfl
     .refine gV ?_;rw[c,e,h3]at a;obtain⟨j,q⟩:=back a;refine .inl ⟨j,?_⟩;exact zW
   .have p:i=0:=by have:=bm h1;omega
    have c:ND l i= !((S&&S)||(am l[i].id l !=(i:Int))):=by unfold ND;have b:i-1<Z l:=o_;rw[Ab d,Ab b];subst p;simp
    refine gV ?_;refine⟨λe=>(by cases e),λ_=>gV ?_⟩;refine .p (find_ok _ _) (gV ?_);refine⟨λh3=>?_,λh3=>?_⟩
    .refine gV ?_;rw[c,h3]at a;rw[<-a];rfl
    .refine gV ?_;rw[c,h3]at a;obtain⟨j,q⟩:=back a;refine .inl ⟨j,?_⟩;exact zW
  .exact zqca38
def check_ok(l:bi)(hl:Z l<=1000000):bj 170 [CA 11 (pav l) J0] (DA (checkP l)):=by refine c_ f170 λ_=>?_;have a:=YL l hl _ (Z l) 0 o_ rfl;exact zW
def eqP(x y:Pend):Bool:=(x.id==y.id)&&((x.tenant==y.tenant)&&((x.pods==y.pods)&&((x.n0==y.n0)&&((x.n1==y.n1)&&((x.n2==y.n2)&&((x.run==y.run)&&((x.level==y.level)&&((x.prefer==y.prefer)&&((x.seq==y.seq)&&((x.since==y.since)&&O))))))))))
def aBd{x y:Pend}:eqP x y=O↔x=y:=by obtain⟨g,f,t,p,q,h,j,l,k,i,a⟩:=x;obtain⟨c,d,v,s,m,n,e,r,u,o,b⟩:=y;simp[eqP]
def aB8(a b:bi)(m:Z a=Z b)(hl:Ig (Z (pav a)))(r:Bool):∀(n i:Nat),i+n=Z a->decide (a.drop i=b.drop i)=r->
  BC E f51 (DA r) [(0,CA 11 (pav a) J0),(1,CA 11 (pav b) J0),(5,GE Is i)] []:=by
 have l:Z (pav a)=Z a:=by simp
 intro n;induction n with
 |zero=>
  intro i o d;refine gV ?_;refine⟨λh=>?_,λh=>?_⟩
  .exact zqca42
  .refine gV ?_;rw[Ae o_,Ae o_]at d;rw[<-d];rfl
 |succ n p=>
  intro i o d;have g:i<Z a:=o_;have c:i<Z b:=o_;rw[Ac g,Ac c]at d;refine gV ?_;refine⟨λh=>?_,λh=>?_⟩
  .refine gV ?_;refine⟨i,rfl,gV ?_⟩;refine⟨_,qZ g,gV ?_⟩;refine⟨i,rfl,gV ?_⟩;refine⟨_,qZ c,gV ?_⟩;refine⟨λk=>?_,λk=>?_⟩
   .have h3:(!eqP a[i] b[i])=true:=k;refine gV ?_;have j:a[i]≠b[i]:=λe=>by rw[aBd.2 e]at h3;cases h3
    rw[<-d,bp λe=>j (List.cons.inj e).1]
   .have h3:(!eqP a[i] b[i])=false:=k;have q:a[i]=b[i]:=aBd.1 (by simpa using h3);refine gV ?_;refine .inl ⟨zI o_ o_,gV ?_⟩;refine To.head [0,1,5] ?_;have:=p (i+1) o_ (by rw[<-d,q];exact decide_eq_decide.2 ⟨λe=>by rw[e],λe=>(List.cons.inj e).2⟩);push_cast at this;exact this
  .exact zqca38
def same_ok(a b:bi):bj 51 [CA 11 (pav a) J0,CA 11 (pav b) J0] (DA (decide (a=b))):=by
 have j:Z (pav a)=Z a:=by simp
 have i:Z (pav b)=Z b:=by simp
 refine c_ f51 λk=>gV ?_;refine⟨λh=>?_,λh=>?_⟩
 .refine gV ?_;have d:a≠b:=λe=>by subst e;simp at h
  rw[bp d]
 .have c:Z a=Z b:=by
   have:((Z a:Nat):Int)=Z b:=by simpa using h
   omega
  refine gV ?_;refine To.head [0,1,5] ?_;exact aB8 a b c k.1 _ (Z a) 0 o_ s_
def GA(p:Pend->Bool):∀(l:bi) (i:Int) (k:Nat) (h:k<Z l),p l[k]=O->(∀(j:Nat) (a:j<Z l),j<k->p l[j]=S)->idx p l i=i+k
 |[],i,k,h,_,_=>by simp at h
 |x::r,i,0,h,h1,_=>by
  have:p x=true:=h1;simp[idx,this]
 |x::r,i,k+1,h,h1,h2=>by have c:p x=false:=h2 0 s_ o_;have:=GA p r (i+1) k (by simpa using h) (by simpa using h1) (λj a b=>by grind);unfold idx;rw[bt (by rw[c];simp),this];push_cast;omega
theorem aG3{p:Pend->Bool}:∀{l:bi} {i:Int} {k:Nat} (h:k<Z l),p l[k]=O->idx p l i<=i+k
 |[],i,k,h,_=>by simp at h
 |x::r,i,0,h,h1=>by
  have:p x=true:=h1;simp[idx,this]
 |x::r,i,k+1,h,h1=>by
  unfold idx;split
  .omega
  .have:=aG3 (l:=r) (i:=i+1) (k:=k) (by simpa using h) (by simpa using h1);push_cast at this⊢;omega
structure Good(l:bi):Prop where
 seq:l.Pairwise λa b=>a.seq<b.seq
 id:l.Pairwise λa b=>a.id≠b.id
def wQ{l:bi}:∀{n i:Nat},iV l n i=O↔ ∀j,i<=j->j<i+n->ND l j=O
 |0,i=>by simp[iV];omega
 |n+1,i=>by
  simp only[iV,Af,wQ (n:=n) (i:=i+1)]
  grind
theorem FM{l:bi}{j:Nat}(b:j<Z l):ND l j=O↔(∀(h:0<j),(l[j-1]' o_).seq<l[j].seq)/\am l[j].id l=(j:Int):=by
 have a:j-1<Z l:=o_;unfold ND
 grind
def check_good{l:bi}:checkP l=O↔Good l:=by
 unfold checkP;rw[wQ];constructor
 .intro h;have hs:∀(j i:Nat) (a:j<Z l) (c:i<j),(l[i]' o_).seq<l[j].seq:=by
   intro j;induction j with
   |zero=>intro i _ c;omega
   |succ j d=>
    grind[FM,Int.lt_trans]
  refine⟨Ek.2 λi j c a b=>hs j i a b,Ek.2 λi j c a b e=>?_⟩
  grind[FM,aG3]
 .intro h j _ a;have a:j<Z l:=o_;refine(FM a).2 ⟨λf=>Ek.1 h.seq _ _ o_ a o_,?_⟩;have:=GA (λx=>x.id==l[j].id) l 0 j a s_ λi c b=>by have:=Ek.1 h.id i j c a b;simpa using this
  unfold am;omega
def insP(p:Pend):bi->bi
 |[]=>[p]
 |x::r=>if p.seq<x.seq then p::x::r else x::insP p r
def V9(p x:Pend)(r:bi):putAt p (x::r)=if p.seq<x.seq then 0 else putAt p r+1:=by
 by_cases h:p.seq<x.seq
 .rw [bu h];have:idx (λx=>decide (p.seq<x.seq)) (x::r) 0=0:=by unfold idx;rw[bu (by simpa using h)]
  unfold putAt;rw[this];rfl
 .rw [bt h];have e:idx (λx=>decide (p.seq<x.seq)) (x::r) 0=idx (λx=>decide (p.seq<x.seq)) r 1:=by
   conv=>lhs;unfold idx
   rw[bt (by simpa using h)];rfl
  have b:∀(q:Pend->Bool) (l:bi) (i:Int),(idx q l i= -1/\idx q l (i+1)= -1)\/(i<=idx q l i/\idx q l (i+1)=idx q l i+1):=by
   intro q l;induction l with
   |nil=>intro i;exact .inl ⟨rfl,rfl⟩
   |cons y t c=>
    intro i;unfold idx
    grind
  rcases b (λx=>decide (p.seq<x.seq)) r 0 with⟨h1,a⟩|⟨h1,a⟩
  .unfold putAt;rw[e,show(1:Int)=0+1 from rfl,a,h1];simp
  .unfold putAt
   grind
def putP_ins(p:Pend):∀(l:bi),putP l p=insP p l
 |[]=>rfl
 |x::r=>by
  have a:=putP_ins p r;unfold putP at a⊢;rw[V9];unfold insP
  grind
def shift(n k q:Nat):Nat:=if k<=q then q-k else q+n-k
end Q2
structure Pn where
 g:Gan
 (seq at':Int)
 deriving DecidableEq
abbrev _root_.ba:=List Pn
def Pn.cs(x:Pn):az:=[ii x.g.id,ii x.g.ten,ii x.g.pods,ii x.g.need.a,ii x.g.need.b,ii x.g.need.c,ii x.g.run,ii x.g.lev,ii x.g.pref,ii x.seq,ii x.at']
def Pn.av(x:Pn):aa:=He x.cs
abbrev pnv(l:ba):az:=l.map Pn.av
def uY{l:ba}{i:Nat}(h:i<Z l):(pnv l)[i]? =X l[i].av:=by simp[pnv,h]
abbrev fv(l:a6):az:=l.map λx:Nat=>GE IH (x:Int)
structure Sta where
 c:Con
 (now nxt:Int)
 pend:ba
 run:a7
 hist:a6
 deriving DecidableEq
def Sta.cs(s:Sta):az:=[CA 11 (nav s.c.ns) J0,CA 6 (hav s.c.hs) J0,ii s.c.half,ii s.c.age,ii s.now,ii s.nxt,CA 11 (pnv s.pend) J0,CA 14 (rav s.run) J0,CA 1 (fv s.hist) J0]
def Sta.av(s:Sta):aa:=He s.cs
def gL(c:Con):Bool:=decide (c.ns=[])&&(decide (c.hs=[])&&(decide (c.half=0)&&decide (c.age=0)))
def IJ(g:Gan):Bool:=decide (1<=g.id/\g.id<=1073741824/\1<=g.pods/\g.pods<=16)&&(aO g.need&&decide (1<=g.run/\g.run<=1048576/\0<=g.lev/\g.lev<=3/\0<=g.pref/\g.pref<=g.lev))
def dO(c:Con)(g:Gan):Int:=if IJ g=O then(if bB c.ns g.ten=O then 0 else 3)else 1
def Rn.pn(r:Rn):Pn:=⟨r.g,r.seq,r.at'⟩
def pnB(s:Sta)(p:Pn):Bool:=decide (dO s.c p.g=0)&&(!(cE s.c [] p.g).isNone&&decide ((0<=p.seq/\p.seq<s.nxt)/\0<=p.at'/\p.at'<=s.now))
def rnB(s:Sta)(r:Rn):Bool:=decide ((r.at'<=r.st/\r.st<=s.now)/\s.now<dG r)&&(sP s.c (iB s.c (s.run.filter λx=>!(x.g.id==r.g.id))) r.g r.hs&&decide ((bC s.c.hs (r.hs.headD 0)).f=r.fl))
def rZ(c:Con)(n:Int):V3:=if bB c.ns n=O then dZ (iY c.ns n (mB c.ns)) (cH c.ns n).b else iY c.ns n (mB c.ns)
def QO(s:Sta):Bool:=(Df (Z s.c.ns)).all λi:Nat=>bY (atV (ofL s.c s.run) (i:Int)) (rZ s.c (i:Int))
def Pn.q(x:Pn):Q2.Pend:=⟨x.g.id,x.g.ten,x.g.pods,x.g.need.a,x.g.need.b,x.g.need.c,x.g.run,x.g.lev,x.g.pref,x.seq,x.at'⟩
def pS(l:ba):Q2.pav (l.map Pn.q)=pnv l:=by simp[Q2.pav,pnv,Pn.q,Q2.Pend.av,Q2.Pend.cs,Pn.av,Pn.cs]
def aE5(l:ba):Bool:=Q2.checkP (l.map Pn.q)
def ids(s:Sta):ax:=s.pend.map (λp=>p.g.id)++s.run.map λr=>r.g.id
def seqs(s:Sta):ax:=s.pend.map (λp=>p.seq)++s.run.map λr=>r.seq
def SG(s:Sta):Bool:=(gL s.c||decide (bG s.c=0))&&decide ((0<=s.now/\s.now<=1099511627776)/\(1<=s.nxt/\s.nxt<=1099511627776)/\Z s.hist=Z s.c.ns/\Z s.pend+Z s.run<=32)
def nZ(s:Sta):Bool:=SG s&&(aE5 s.pend&&((s.pend.all (pnB s)&&s.run.all λr=>pnB s r.pn&&rnB s r)&&(decide (ids s).Nodup&&(decide (seqs s).Nodup&&QO s))))
def qD{c:Con}{g:Gan}:dO c g=0↔IJ g=O/\bB c.ns g.ten=true:=by unfold dO;cases IJ g<;>cases bB c.ns g.ten<;>decide
def BX(p:V3->Int)(u:Int)(x:Rn):Int:=p x.g.need*((x.hs.count u:Nat):Int)
def A3{p:V3->Int}(hp:Prj p)(need:V3)(a:0<=p need/\p need<=1048576)(j:Nat):∀(hs:ax) (xs:a8) (v:Int),j<Z xs->v<=eB->p ((xs[j]?).getD V3.zero)=max v (-eB)->p (((hs.foldl (qF need) xs)[j]?).getD V3.zero)=max (v-p need*((hs.count (j:Int):Nat):Int)) (-eB)
 |[],xs,v,_,_,h=>by simpa using h
 |u::r,xs,v,hj,hv,h=>by
  rw[Ao];have e:=aC4 need xs u j;by_cases b:u=(j:Int)
  .subst b;rw[bu ⟨by omega,by omega,by omega⟩]at e;rw[Ko];have hm:p need*(((r.count (j:Int)+1:Nat):Nat):Int)=p need*((r.count (j:Int):Nat):Int)+p need:=by rw[Int.natCast_add,Int.mul_add];simp
   rw[hm];have c:p (((qF need xs (j:Int))[j]?).getD V3.zero)=max (v-p need) (-eB):=by
    rw[e,hp.sub,h];unfold aBY fZ eB at*
    omega
   rw[A3 hp need a j r _ (v-p need) (by rw[qE];exact hj) o_ c];omega
  .rw [bt o_]at e;rw[List.count_cons_of_ne (by simpa using b)];exact A3 hp need a j r _ v (by rw[qE];exact hj) hv (by rw[e];exact h)
theorem R6{p:V3->Int}(hp:Prj p)(j:Nat):∀(l:a7) (xs:a8) (v:Int),(∀x∈l,0<=p x.g.need/\p x.g.need<=1048576)->j<Z xs->v<=eB->p ((xs[j]?).getD V3.zero)=max v (-eB)->p (((l.foldl wN xs)[j]?).getD V3.zero)=max (v-cR (l.map (BX p (j:Int)))) (-eB)
 |[],xs,v,_,_,_,h=>by
  show _=max (v-0) _;rw[Int.sub_zero];exact h
 |x::r,xs,v,hn,hj,hv,h=>by have a:=hn x (Aw ..);have e:=A3 hp x.g.need a j x.hs xs v hj hv h;have hz:0<=p x.g.need*((x.hs.count (j:Int):Nat):Int):=Int.mul_nonneg a.1 o_;rw[Ao,Bg];have b:=R6 hp j r (wN xs x) (v-p x.g.need*((x.hs.count (j:Int):Nat):Int)) (λy c=>hn y (Az _ c)) (by rw[vQ];exact hj) o_ e;rw[b];show _=max (v-(BX p (j:Int) x+cR _)) _;unfold BX;congr 1;omega
structure RnOK(s:Sta)(r:Rn):Prop where
 gang:dO s.c r.g=0
 st:0<=r.st/\r.st<=s.now
 chk:sP s.c (iB s.c (s.run.filter λx=>!(x.g.id==r.g.id))) r.g r.hs=O
def aBs{s:Sta}(h:nZ s=O){r:Rn}(e:r∈s.run):RnOK s r:=by unfold nZ at h;simp only[Af,Ck]at h;have h1:=h.2.2.1.2 r e;unfold pnB rnB at h1;simp only[Af,bo]at h1;obtain⟨⟨a,_,b⟩,c,d,_⟩:=h1;exact⟨a,⟨Int.le_trans b.2.1 c.1.1,c.1.2⟩,d⟩
def OI{c:Con}{free:a8}{g:Gan}{hs:ax}(h:sP c free g hs=O):(Z hs:Int)=g.pods/\∀u∈hs,0<=u/\u<(Z free:Int)/\((hs.count u:Nat):Int)<=dM ((free[u.toNat]?).getD V3.zero) g.need:=by
 unfold sP at h;by_cases hl:(Z hs:Int)=g.pods
 .rw [bu hl,Fq]at h;obtain⟨G,_,b⟩:=h;refine⟨hl,λu f=>?_⟩;unfold chkG GL at b;simp only[Af,Ck]at b;have a:=b.2 u f;unfold aHs at a;by_cases h1:u<0
  .rw [bu (bq h1)]at a;cases a
  .rw [bt (by rw[bp h1];decide)]at a;by_cases d:(Z free:Int)<=u
   .rw [bu (bq d)]at a;cases a
   .rw [bt (by rw[bp d];decide)]at a;have e:C5 u hs=((hs.count u:Nat):Int):=by unfold C5;rw[BJ];omega
    grind
 .rw [bt hl]at h;cases h
theorem zN(c:Con)(l:a7):Z (iB c l)=Z c.hs:=by
 have key:∀(l:a7) (xs:a8),Z (l.foldl wN xs)=Z xs:=λl=>by
  induction l with
  |nil=>intro xs;rfl
  |cons x r a=>intro xs;rw[Ao,a,vQ]
 unfold iB;rw[key];simp
theorem aQB(c:Con){j:Nat}(a:j<Z c.hs):(((Df (Z c.hs)).map λi:Nat=>(bC c.hs (i:Int)).c)[j]?).getD V3.zero=(bC c.hs (j:Int)).c:=by rw[Bw,List.getElem?_range a];rfl
def YN{c:Con}(h:bG c=0){j:Nat}(a:j<Z c.hs):aO (bC c.hs (j:Int)).c=true:=by
 unfold bG at h;split at h
 .split at h
  .split at h
   .rename_i b;rw[Ck]at b;have d:bC c.hs (j:Int)=c.hs[j]:=by unfold bC;rw[Bm,Ab a];rfl
    have:=b c.hs[j] (Av a);unfold jJ at this
    grind
   .cases h
  .cases h
 .cases h
def aAU{p:V3->Int}(hp:Prj p){c:Con}(a:∀j:Nat,j<Z c.hs->0<=p (bC c.hs (j:Int)).c/\p (bC c.hs (j:Int)).c<=1048576){l:a7}(d:∀x∈l,0<=p x.g.need/\p x.g.need<=1048576){j:Nat}(b:j<Z c.hs):p (((iB c l)[j]?).getD V3.zero)=max (p (bC c.hs (j:Int)).c-cR (l.map (BX p (j:Int)))) (-eB):=by
 have e:=a j b;unfold iB
 grind[R6,aQB]
def ZM{f:Rn->Int}{r:Rn}:∀{l:a7},r∈l->(l.map λx=>x.g.id).Nodup->cR (l.map f)=cR ((l.filter λx=>!(x.g.id==r.g.id)).map f)+f r
 |[],h,_=>by cases h
 |x::l,h,hd=>by
  rw[Bg,Ce]at hd;rw[Bg];show f x+cR (l.map f)=_;rcases Ba.1 h with rfl|h
  .rw [List.filter_cons_of_neg s_];have e:l.filter (λx=>!(x.g.id==r.g.id))=l:=by rw[List.filter_eq_self];intro y b;have:y.g.id≠r.g.id:=λq=>hd.1 (by rw[<-q];exact Co.2 ⟨y,b,rfl⟩);simpa using this
   rw[e];omega
  .have a:x.g.id≠r.g.id:=λq=>hd.1 (by rw[q];exact Co.2 ⟨r,h,rfl⟩);rw[List.filter_cons_of_pos (by simpa using a),Bg];show _=(f x+cR _)+f r;rw[ZM h hd.2];omega
def uT{free need:V3}{n:Int}(f:aO need=O)(h1:1<=n)(h:n<=dM free need):need.a*n<=free.a/\need.b*n<=free.b/\need.c*n<=free.c:=by
 have d:bY need free=true:=by
  cases e:bY need free with
  |true=>rfl
  |false=>
   unfold dM at h;rw[bt (by rw[e];decide)]at h;omega
 exact((DI f d _).1 h).2
set_option maxRecDepth 10000
def gR(n lo a:Int):Bool:=decide (lo<=n)&&decide (n<=a)
def gQ{n lo a:Int}:gR n lo a=O↔lo<=n/\n<=a:=by unfold gR;simp
def jN(n lo a:Int):bj 201 [ii n,ii lo,ii a] (DA (gR n lo a)):=by
 unfold gR;by_cases h1:lo<=n
 .rw [bq h1,Bt];exact c_ f201 λ_=>zW
 .rw [bp h1,Cq];exact c_ f201 λ_=>zW
def yO(n lo a:Int):bj 155 [ii n,ii lo,ii a] (DA (gR n lo a)):=by
 unfold gR;by_cases h1:lo<=n
 .rw [bq h1,Bt];exact c_ f155 λ_=>zW
 .rw [bp h1,Cq];exact c_ f155 λ_=>zW
def V6(v:V3)(b:Bool)(d:aO v=b):bj 206 [v.av] (DA b):=by
 unfold aO at d;refine c_ f206 λ_=>?_
 repeat' first
  |(refine gW hE ?_;conv=>whnf)
  |exact d
  |refine aY ?_
  |refine aN ?_
  |refine Aa (λh=>?_) (λh=>?_)
  |refine aJ ?_
  |refine Aj _ (Aa rfl ?_)
  |refine Aa d_ ?_
 all_goals (refine congrArg (λb=>Res.ret (aa.bool b)) ?_;rw[<-d];simp only[bo,bk]at*)
 .rw [bp (p:=0<=v.a/\v.a<=1048576) o_];rfl
 .rw [bp (p:=0<=v.a/\v.a<=1048576) o_];rfl
 .rw [bp (p:=0<=v.b/\v.b<=1048576) o_,Bo];rfl
 .rw [bp (p:=0<=v.b/\v.b<=1048576) o_,Bo];rfl
 .rw [bp (p:=0<=v.c/\v.c<=1048576) o_,Bo]
 .rw [bp (p:=0<=v.c/\v.c<=1048576) o_,Bo]
 .rw [bq (p:=0<=v.a/\v.a<=1048576) o_,bq (p:=0<=v.b/\v.b<=1048576) o_,bq (p:=0<=v.c/\v.c<=1048576) o_];rfl
def fF(v:V3):bj 206 [v.av] (DA (aO v)):=V6 v _ rfl
def J7(x:Hos):Bool:=gR x.f 0 100&&(gR x.b 0 100&&(gR x.r 0 100&&aO x.c))
def aLG(x:Hos):bj 203 [x.av] (DA (J7 x)):=by
 have h1:=jN x.f 0 100;have a:=jN x.b 0 100;have h3:=jN x.r 0 100;have d:=fF x.c;unfold J7;generalize gR x.f 0 100=b1 at h1;generalize gR x.b 0 100=b2 at a;generalize gR x.r 0 100=b3 at h3;generalize aO x.c=b4 at d;cases b1<;>cases b2<;>cases b3<;>cases b4
 all_goals
  exact c_ f203 λ_=>zW
def aG6(x:Hos):J7 x=jJ x:=by
 rw[Gk];unfold J7 jJ;by_cases h:BR x
 .rw [bu h];unfold BR at h;simp only[Af,gQ];constructor
  .intro q;omega
  .intro q;cases q
 .rw [bt h];unfold BR at h;simp only[Af,gQ];constructor
  .intro q;exact q.2.2.2
  .intro q;exact⟨by omega,by omega,by omega,q⟩
def aCC(c:Con)(i:Nat)(t:i<1048576)(x:Nod)(get:(nav c.ns)[i]? =X x.av)(s:rU i x):bj 202 [c.av,ii i] (DA S):=by
 have d:=jN x.p 0 ((i:Int)-1);have e:=jN x.w 1 1000;have hl:=jN x.w 1 1000;have k:=fF x.n;have m:=fF x.b;have j:=fF x.l;have o:=mO x.l x.n;unfold rU at s;by_cases r:i=0
 .by_cases hp:x.p= -1
  .have q:gR x.w 1 1000=false:=by
    cases a:gR x.w 1 1000 with
    |false=>rfl
    |true=>have:=gQ.1 a;omega
   rw[q]at e;subst r;refine c_ f202 λ_=>?_
   repeat' first|refine pA ?_|refine⟨i,rfl,?_⟩|refine⟨_,get,?_⟩|refine .p d ?_|refine .p e ?_|refine .p hl ?_|refine .p k ?_|refine .p m ?_|refine .p j ?_|refine .p o ?_|exact rfl|refine lA ?_ ?_|intro h
  .subst r;refine c_ f202 λ_=>?_
   repeat' first|refine pA ?_|refine⟨i,rfl,?_⟩|refine⟨_,get,?_⟩|refine .p d ?_|refine .p e ?_|refine .p hl ?_|refine .p k ?_|refine .p m ?_|refine .p j ?_|refine .p o ?_|exact rfl|refine lA ?_ ?_|intro h
   all_goals (exfalso;simp at*;omega)
 .cases a:gR x.p 0 ((i:Int)-1)with
  |false=>
   rw[a]at d;exact c_ f202 λ_=>zW
  |true=>
   rw[a]at d;have:=gQ.1 a;have q:gR x.w 1 1000=false:=by
    cases a:gR x.w 1 1000 with
    |false=>rfl
    |true=>have:=gQ.1 a;omega
   rw[q]at e;refine c_ f202 λ_=>?_
   repeat' first|refine pA ?_|refine⟨i,rfl,?_⟩|refine⟨_,get,?_⟩|refine .p d ?_|refine .p e ?_|refine .p hl ?_|refine .p k ?_|refine .p m ?_|refine .p j ?_|refine .p o ?_|exact rfl|refine lA ?_ ?_|intro h
def WG(c:Con)(i:Nat)(s:i<1048576)(x:Nod)(get:(nav c.ns)[i]? =X x.av)(q:¬ rU i x)(a:bB c.ns (i:Int)=O):bj 202 [c.av,ii i] (DA (aO x.n&&(aO x.b&&(aO x.l&&bY x.l x.n)))):=by
 have d:=jN x.p 0 ((i:Int)-1);have o:=jN x.w 1 1000;have hl:=kQ c (i:Int);rw[a]at hl;have j:=fF x.n;have k:=fF x.b;have e:=fF x.l;have m:=mO x.l x.n;unfold rU at q;rw[gQ.2 (show 1<=x.w/\x.w<=1000 by omega)]at o;generalize aO x.n=q1 at j;generalize aO x.b=q2 at k;generalize aO x.l=q3 at e;generalize bY x.l x.n=q4 at m;by_cases r:i=0
 .have hp:x.p= -1:=o_;subst r;cases q1<;>cases q2<;>cases q3<;>cases q4
  all_goals
   refine c_ f202 λ_=>?_
   repeat' first|refine pA ?_|refine⟨i,rfl,?_⟩|refine⟨_,get,?_⟩|refine .p d ?_|refine .p o ?_|refine .p hl ?_|refine .p j ?_|refine .p k ?_|refine .p e ?_|refine .p m ?_|exact rfl|refine lA ?_ ?_|intro h
   all_goals (exfalso;simp at*;omega)
 .rw [gQ.2 (show 0<=x.p/\x.p<=(i:Int)-1 by omega)]at d;cases q1<;>cases q2<;>cases q3<;>cases q4
  all_goals
   exact c_ f202 λ_=>zW
def aF0(c:Con)(i:Nat)(v:i<1048576)(x:Nod)(get:(nav c.ns)[i]? =X x.av)(t:¬ rU i x)(e:bB c.ns (i:Int)=S)(r:Bool)(s:(zB x.n&&(zB x.b&&zB x.l))=r):bj 202 [c.av,ii i] (DA r):=by
 have d:=jN x.p 0 ((i:Int)-1);have j:=jN x.w 1 1000;have hl:=kQ c (i:Int);rw[e]at hl;have m:=fF x.n;have o:=fF x.b;have k:=fF x.l;have q:=mO x.l x.n;unfold rU at t;rw[gQ.2 (show 1<=x.w/\x.w<=1000 by omega)]at j;have fin:(((x.p==x.p)&&((x.w==x.w)&&((x.n.a==0)&&((x.n.b==0)&&((x.n.c==0)&&((x.b.a==0)&&((x.b.b==0)&&((x.b.c==0)&&((x.l.a==0)&&((x.l.b==0)&&((x.l.c==0)&&O)))))))))))=r):=by rw[<-s];unfold zB;simp[Gc]
 by_cases u:i=0
 .have hp:x.p= -1:=o_;subst u;refine c_ f202 λ_=>?_
  repeat' first|refine pA ?_|refine⟨i,rfl,?_⟩|refine⟨_,get,?_⟩|refine .p d ?_|refine .p j ?_|refine .p hl ?_|refine .p m ?_|refine .p o ?_|refine .p k ?_|refine .p q ?_|exact rfl|refine lA ?_ ?_|intro h
  .exact bv (show(x.p != -1)=O by assumption) (by rw[hp];decide)
  .exact congrArg (λb=>Res.ret (aa.bool b)) fin
 .rw [gQ.2 (show 0<=x.p/\x.p<=(i:Int)-1 by omega)]at d;refine c_ f202 λ_=>?_
  repeat' first|refine pA ?_|refine⟨i,rfl,?_⟩|refine⟨_,get,?_⟩|refine .p d ?_|refine .p j ?_|refine .p hl ?_|refine .p m ?_|refine .p o ?_|refine .p k ?_|refine .p q ?_|exact rfl|refine lA ?_ ?_|intro h
  exact congrArg (λb=>Res.ret (aa.bool b)) fin
def aFZ(c:Con)(i:Nat)(b:i<1048576)(x:Nod)(get:(nav c.ns)[i]? =X x.av):bj 202 [c.av,ii i] (DA (lQ (bB c.ns (i:Int)) i x)):=by
 unfold lQ;by_cases a:rU i x
 .rw [bu a];exact aCC c i b x get a
 .rw [bt a];cases hl:bB c.ns (i:Int)with
  |false=>rw[bt d_];exact aF0 c i b x get a hl _ rfl
  |true=>rw[bu rfl];exact WG c i b x get a hl
def FQ(ns:bc):Nat->bc->Bool
 |_,[]=>O
 |i,x::r=>lQ (bB ns (i:Int)) i x&&FQ ns (i+1) r
def FE(c:Con)(j:c.sm)(r:Int):∀(m i:Nat) (b:Bool),i+m=Z c.hs->(if(b&&(c.hs.drop i).all jJ)=O then(0:Int)else 2)=r->
  To E f146 (.pure (Io (ii r))) (G0 (stk f146 1) [(1,G2 0 0),(3,DA b),(5,ii i)] [Do 30 c.cs]):=by
 have f:Z (hav c.hs)=Z c.hs:=by simp
 have h1:=j.hs;intro m;induction m with
 |zero=>
  intro i b h a;rw[Ae o_]at a;cases b with
  |false=>
   have a:2=r:=a;subst a;exact tA
  |true=>
   have a:0=r:=a;subst a;exact tA
 |succ m g=>
  intro i b h a;cases b with
  |false=>
   have a:2=r:=a;subst a;exact tA
  |true=>
   have d:i<Z c.hs:=o_;rw[Ac d,Hi,<-aG6]at a;have get:=oG d;generalize c.hs[i]=x at a get;have e:=aLG x;have next:=g (i+1) (J7 x) o_ a
   generalize J7 x=q at e next
   exact tA
def WI(c:Con)(f:c.sm)(r:Int):∀(m i:Nat) (b:Bool),i+m=Z c.ns->(if((b&&FQ c.ns i (c.ns.drop i))&&c.hs.all jJ)=O then(0:Int)else 2)=r->
  BC E f146 (ii r) [(1,G2 0 0),(3,DA b),(4,ii i)] [Do 30 c.cs]:=by
 have g:Z (nav c.ns)=Z c.ns:=by simp
 have h1:=f.ns;intro m;induction m with
 |zero=>
  intro i b j a;rw[Ae o_]at a;have next:=FE c f r (Z c.hs) 0 b o_ (by rw[<-a];show _=if((b&&O)&&_)=O then(0:Int)else 2;rw[Hz];rfl)
  cases b with
  |false=>
   exact tA
  |true=>
   exact tA
 |succ m h=>
  intro i b j a;cases b with
  |false=>
   have next:=FE c f r (Z c.hs) 0 S o_ (by rw[<-a];rfl)
   exact tA
  |true=>
   have d:i<Z c.ns:=o_;rw[Ac d]at a;have get:=fP d;generalize c.ns[i]=x at a get;have e:=aFZ c i o_ x get;have next:=h (i+1) (lQ (bB c.ns (i:Int)) i x) o_ a
   generalize lQ (bB c.ns (i:Int)) i x=q at e next
   exact tA
def RJ(ns:bc):∀(l:bc) (i:Nat),FQ ns i l=jH ns i l
 |[],_=>rfl
 |x::r,i=>by unfold FQ jH;rw[RJ ns r (i+1),tF];cases lQ (bB ns (i:Int)) i x<;>rfl
def aB3(c:Con):Bool:=gR (Z c.ns) 1 12&&(gR (Z c.hs) 1 24&&(gR c.half 1 1048576&&gR c.age 0 1048576))
def PL(c:Con):aB3 c=O↔wZ c:=by unfold aB3 wZ;simp only[Af,gQ];omega
def aDD(c:Con):(if((aB3 c&&FQ c.ns 0 (c.ns.drop 0))&&c.hs.all jJ)=O then(0:Int)else 2)=bG c:=by
 unfold bG;rw[Bz,RJ];cases hs:aB3 c with
 |false=>
  rw[bt (c:=wZ c) (λq=>by rw[(PL c).2 q]at hs;cases hs)];rfl
 |true=>
  rw[bu (c:=wZ c) ((PL c).1 hs)];cases jH c.ns 0 c.ns<;>cases c.hs.all jJ<;>rfl
def uZ(c:Con)(i:c.sm):bj 146 [c.av] (ii (bG c)):=by
 have a:Z (nav c.ns)=Z c.ns:=by simp
 have b:Z (hav c.hs)=Z c.hs:=by simp
 have h:=WI c i (bG c) (Z c.ns) 0 (aB3 c) o_ (aDD c);have d:=jN (Z (nav c.ns):Nat) 1 12;have k:=jN (Z (hav c.hs):Nat) 1 24;have e:=jN c.half 1 1048576;have j:=jN c.age 0 1048576;unfold aB3 at h;rw[<-a,<-b]at h;generalize gR (Z (nav c.ns):Nat) 1 12=q1 at d h;generalize gR (Z (hav c.hs):Nat) 1 24=q2 at k h;generalize gR c.half 1 1048576=q3 at e h;generalize gR c.age 0 1048576=q4 at j h;generalize bG c=r at h;cases q1<;>cases q2<;>cases q3<;>cases q4
 all_goals
  exact c_ f146 λ_=>zW
def aQG(g:Gan):Bool:=gR g.id 1 1073741824&&(gR g.pods 1 16&&(aO g.need&&(gR g.run 1 1048576&&(gR g.lev 0 3&&gR g.pref 0 g.lev))))
def aM4(g:Gan):aQG g=IJ g:=by
 rw[Gk];unfold aQG IJ;simp only[Af,gQ,bo];constructor
 .rintro ⟨a,b,c,d,e,f⟩;exact⟨⟨a.1,a.2,b.1,b.2⟩,c,d.1,d.2,e.1,e.2,f.1,f.2⟩
 .rintro ⟨⟨a,b,c,d⟩,v,e,f,h,i,j,k⟩;exact⟨⟨a,b⟩,⟨c,d⟩,v,⟨e,f⟩,⟨h,i⟩,j,k⟩
def PN(c:Con)(g:Gan):bj 148 [c.av,g.av] (ii (dO c g)):=by
 have d:=yO g.id 1 1073741824;have i:=yO g.pods 1 16;have e:=fF g.need;have j:=yO g.run 1 1048576;have b:=yO g.lev 0 3;have h:=yO g.pref 0 g.lev;have a:=kQ c g.ten;unfold dO;rw[<-aM4];unfold aQG;generalize gR g.id 1 1073741824=q1 at d;generalize gR g.pods 1 16=q2 at i;generalize aO g.need=q3 at e;generalize gR g.run 1 1048576=q4 at j;generalize gR g.lev 0 3=q5 at b;generalize gR g.pref 0 g.lev=q6 at h;generalize bB c.ns g.ten=q7 at a;cases q1 with
 |false=>
  exact zqca15
 |true=>
  cases q2 with
  |false=>
   exact zqca15
  |true=>
   cases q3 with
   |false=>
    exact zqca15
   |true=>
    cases q4 with
    |false=>
     exact zqca15
    |true=>
     cases q5 with
     |false=>
      exact zqca15
     |true=>
      cases q6 with
      |false=>
       exact zqca15
      |true=>
       cases q7 with
       |false=>
        exact zqca15
       |true=>
        exact zqca15
def V0(c:Con)(d:c.sm)(g:Gan):bj 75 [c.av,g.av] (ii (dO c g)):=by
 have e:=sR g.need;have hl:=kX c d g.ten;rw[tF]at hl;unfold dO IJ;generalize aO g.need=q3 at e;generalize bB c.ns g.ten=q7 at hl;by_cases b:1<=g.id/\g.id<=1073741824/\1<=g.pods/\g.pods<=16
 .rw [bq b];cases q3 with
  |false=>
   exact zqca24
  |true=>
   by_cases a:1<=g.run/\g.run<=1048576/\0<=g.lev/\g.lev<=3/\0<=g.pref/\g.pref<=g.lev
   .rw [bq a];cases q7 with
    |false=>
     exact zqca24
    |true=>
     exact zqca24
   .rw [bp a];exact zqca24
 .rw [bp b];exact zqca24
def XO(c:Con):Bool:=C8.eqL Nod.eqb c.ns []&&(C8.eqL Hos.eqb c.hs []&&(c.half==0&&c.age==0))
def aDi(c:Con):XO c=gL c:=by obtain⟨ns,hs,a,b⟩:=c;unfold XO gL;cases ns<;>cases hs<;>simp[C8.eqL]<;>rfl
def aDx:Con:=⟨[],[],0,0⟩
def aEL(c:Con):bj 44 [c.av,aDx.av] (DA (gL c)):=by
 have h1:=C8.eqN_ok c.ns [];have b:=C8.eqH_ok c.hs [];rw[<-aDi];unfold XO;generalize C8.eqL Nod.eqb c.ns []=q1 at h1;generalize C8.eqL Hos.eqb c.hs []=q2 at b
 obtain⟨R,a⟩:∃R:Bool,R=(q1&&(q2&&(c.half==0&&c.age==0))):=⟨_,rfl⟩
 rw[<-a];cases q1 with
 |false=>
  exact zqca52
 |true=>
  cases q2 with
  |false=>
   exact zqca52
  |true=>
   have a:R=(c.half==0&&c.age==0):=a;refine c_ f44 λ_=>?_
   repeat' first|refine pA ?_|refine .p h1 ?_|refine .p b ?_|exact rfl|refine lA ?_ ?_|intro h
   all_goals (rw[a];simp_all[aDx])
def uC(c:Con):bj 169 [c.av] (DA (gL c)):=by have h:=aEL c;generalize gL c=q at h;exact c_ f169 λ_=>zW
def NS{α:Type}(p:α->Bool):List α->Int->Int
 |[],_=> -1
 |x::r,i=>if p x=O then i else NS p r (i+1)
def GC{α:Type}(p:α->Bool):∀(l:List α) (i:Int),0<=i->decide (0<=NS p l i)=l.any p
 |[],i,_=>rfl
 |x::r,i,h=>by
  unfold NS;rw[List.any_cons];cases hp:p x with
  |true=>rw[bu rfl,bq h];rfl
  |false=>rw[bt d_,GC p r (i+1) o_];rfl
def W4(f:FuncId)(cap:az)(xs:ax)(p:Int->Bool)(k:∀x∈xs,aA Tryz.prog f [ii x,.ptr cap] [] (Io (DA (p x))) [])(hl:Ig (Z (iv xs)))(r:Int):
  ∀(n i:Nat),i+n=Z xs->NS p (xs.drop i) i=r->
  BC E f330 (GE Is r) [(0,CA 1 (iv xs) J0),(1,.func (.func f) [] [.ptr cap]),(7,GE Is (Z (iv xs):Nat)),(8,GE Is i)] []:=by
  have d:Z (iv xs)=Z xs:=by simp
  intro n;induction n with
  |zero=>
   exact zqca39
  |succ n g=>
   intro i j a;have b:i<Z xs:=o_;refine gV ?_;refine aT λh=>gV ?_;refine⟨i,rfl,gV ?_⟩;refine⟨_,cD b,?_⟩;exact zqca25
def W6(f:FuncId)(cap:az)(xs:List ax)(p:ax->Bool)(k:∀x∈xs,aA Tryz.prog f [CA 1 (iv x) J0,.ptr cap] [] (Io (DA (p x))) [])(hl:Ig (Z (gav xs)))(r:Int):
  ∀(n i:Nat),i+n=Z xs->NS p (xs.drop i) i=r->
  BC E f360 (GE Is r) [(0,CA 1 (gav xs) J0),(1,.func (.func f) [] [.ptr cap]),(7,GE Is (Z (gav xs):Nat)),(8,GE Is i)] []:=by
  have d:Z (gav xs)=Z xs:=by simp
  intro n;induction n with
  |zero=>
   exact zqca39
  |succ n g=>
   intro i j a;have b:i<Z xs:=o_;refine gV ?_;refine aT λh=>gV ?_;refine⟨i,rfl,gV ?_⟩;refine⟨_,DW b,?_⟩;exact zqca25
def aIk(f:FuncId)(cap:az)(xs:ax)(p:Int->Bool)(b:∀x∈xs,aA Tryz.prog f [ii x,.ptr cap] [] (Io (DA (p x))) []):
  bj 337 [CA 1 (iv xs) J0,.func (.func f) [] [.ptr cap]] (DA (xs.any p)):=by
 have c:bj 330 [CA 1 (iv xs) J0,.func (.func f) [] [.ptr cap]] (GE Is (NS p xs 0)):=by refine c_ f330 λa=>gV ?_;refine To.head [0,1,7,8] ?_;exact W4 f cap xs p b a.1 _ (Z xs) 0 o_ s_
 rw[<-GC p xs 0 (Ei _)];exact c_ f337 λ_=>zW
def aIl(f:FuncId)(cap:az)(xs:List ax)(p:ax->Bool)(b:∀x∈xs,aA Tryz.prog f [CA 1 (iv x) J0,.ptr cap] [] (Io (DA (p x))) []):
  bj 335 [CA 1 (gav xs) J0,.func (.func f) [] [.ptr cap]] (DA (xs.any p)):=by
 have c:bj 360 [CA 1 (gav xs) J0,.func (.func f) [] [.ptr cap]] (GE Is (NS p xs 0)):=by refine c_ f360 λa=>gV ?_;refine To.head [0,1,7,8] ?_;exact W6 f cap xs p b a.1 _ (Z xs) 0 o_ s_
 rw[<-GC p xs 0 (Ei _)];exact c_ f335 λ_=>zW
def aMT(G:ax)(a:Z G<=1048576)(h:Int):bj 338 [ii h,.ptr [CA 1 (iv G) J0]] (DA (!inB h G)):=by have b:=AD G a h;exact c_ f338 λ_=>zW
def aQv(G l:ax)(a:Z G<=1048576):bj 336 [CA 1 (iv G) J0,.ptr [CA 1 (iv l) J0]] (DA (!(l.any λh=>!inB h G))):=by
 have b:=aIk 338 [CA 1 (iv G) J0] l (λh=>!inB h G) λx _=>aMT G a x;refine c_ f336 λ_=>?_;refine bO hE 10 ?_;conv=>whnf
 refine To.frz [2] [0] ?_;exact zW
def aDZ{l:a8}{u:Int}(a:0<=u)(h1:u<(Z l:Int)):(vav l)[u.toNat]? =X ((l[u.toNat]?).getD V3.zero).av:=by rw[Ab (show u.toNat<Z l by omega)];exact kN o_
def aJf{c:Con}{l:a7}{n:Int}(h:c.ok n):(vav (ofL c l))[n.toNat]? =X (atV (ofL c l) n).av:=by
 obtain⟨a,h1⟩:=h;have hl:Z (ofL c l)=Z c.ns:=by unfold ofL mK;simp
 unfold atV;rw[bt q_];exact aDZ a o_
def NJ(k:ax)(v:aa)(x:ax):∀(es:List (ax×aa)),bZ (mZ es k v) x=if k=x then X v else bZ es x
 |[]=>rfl
 |(j,w)::r=>by
  show bZ (if j=k then(k,v)::r else(j,w)::mZ r k v) x=if k=x then X v else(if j=x then X w else bZ r x)
  by_cases b:j=k
  .subst b;rw[bu rfl];show(if j=x then X v else bZ r x)=_;by_cases a:j=x
   .rw [bu a,bu a]
   .rw [bt a,bt a,bt a]
  .rw [bt b];show(if j=x then X w else bZ (mZ r k v) x)=_;rw[NJ k v x r];by_cases a:j=x
   .subst a;rw[bu rfl,bt (λq=>b q.symm),bu rfl]
   .rw [bt a,bt a]
def aQQ(es:List (ax×aa))(pre:ax):Prop:=∀h:Int,bZ es [h]=if pre.count h=0 then U else X (ii ((pre.count h:Nat):Int))
def aGD{es:List (ax×aa)}{pre:ax}(hm:aQQ es pre)(h v:Int)(b:v=((pre.count h:Nat):Int)+1):aQQ (mZ es [h] (ii v)) (pre++[h]):=λx=>by
 rw[NJ,Jj];by_cases a:h=x
 .subst a;rw[bu rfl,bt s_,b];simp
 .rw [bt (by simpa using a),hm x];have:[h].count x=0:=Lc.2 (by simpa using λq=>a q.symm);rw[this,Nat.add_zero]
def plS(free:a8)(need:V3)(n h:Int):Bool:=if decide (h<0)=O then S else if decide ((Z free:Int)<=h)=O then S else !decide (dM ((free[h.toNat]?).getD V3.zero) need<n)
def plB(free:a8)(need:V3):ax->ax->Bool
 |_,[]=>O
 |pre,h::r=>plS free need (((pre.count h:Nat):Int)+1) h&&plB free need (pre++[h]) r
def aHa(l:ax)(G:ax):Bool:=!(l.any λh=>!inB h G)
abbrev plF(c:Con)(free:a8)(g:Gan)(l:ax)(i:Int):au:=[(1,CA 3 (vav free) J0),(4,.ptr c.cs),(6,.ptr g.cs),(7,.ptr [CA 1 (iv l) J0]),(9,.mref 0),(18,CA 1 (iv l) J0),(19,GE Is (Z (iv l):Nat)),(20,ii i)]
def aF3(c:Con)(I:c.sm)(free:a8)(g:Gan)(l:ax)(hl:Z l<=1048576)(A:Bool)(L:(gpL c g.lev).any (aHa l)=A)(r:Bool):∀(m i:Nat) (es:List (ax×aa)),i+m=Z l->aQQ es (l.take i)->(plB free g.need (l.take i) (l.drop i)&&A)=r->
  BC E f299 (DA r) (plF c free g l (i:Int)) [.mp S es]:=by
 have H:Z (iv l)=Z l:=by simp
 have N:Z (vav free)=Z free:=by simp
 intro m;induction m with
 |zero=>
  intro i es K hm b;rw[Ae o_]at b;have b:A=r:=b;subst b;have D:=W8 c g.lev;have P:=I.hs;have h1:=KE c I g.lev;have y:=aIl 336 [CA 1 (iv l) J0] (gpL c g.lev) (aHa l) λG As=>aQv G l (by have:=(D.2 G As).2.1;omega);rw[L]at y;generalize gpL c g.lev=gs at h1 y;exact tA
 |succ m x=>
  intro i es K hm b;have p:i<Z l:=o_;have C:l.take (i+1)=l.take i++[l[i]]:=by rw[Lm,Ab p];rfl
  rw[Ac p]at b;have get:=cD p;have x:=λes=>x (i+1) es o_;rw[C]at x;generalize l[i]=u0 at b get x;have t:((l.take i).count u0)<=1048576:=Cl List.count_le_length q_;have next:=λv (M:v=(((l.take i).count u0:Nat):Int)+1)=>x (mZ es [u0] (ii v)) (aGD hm u0 v M)
  have s:=hm u0;have d:∀v,bZ (mZ es [u0] v) [u0]=X v:=λv=>by rw[NJ,bu rfl]
  have b:((plS free g.need ((((l.take i).count u0:Nat):Int)+1) u0&&plB free g.need (l.take i++[u0]) (l.drop (i+1)))&&A)=r:=b;generalize plB free g.need (l.take i++[u0]) (l.drop (i+1))=B at b next
  generalize (l.take i).count u0=k at t s b next
  unfold plS at b;have go:∀(w:Int),w=(k:Int)->(∃o,bZ es [u0]=o/\(o=U/\w=0\/o=X (ii w)))->BC E f299 (DA r) (plF c free g l (i:Int)) [.mp S es]:=λw J ⟨o,n,z⟩=>by
   have next:=next (w+1) o_
   rw[show((k:Int)+1)=w+1 from by omega]at b;by_cases h1:u0<0
   .rw [bq h1]at b;exact zqca0
   .rw [bp h1,bt d_]at b;by_cases y:(Z free:Int)<=u0
    .rw [bq y]at b;exact zqca0
    .rw [bp y,bt d_]at b;have j:u0=(u0.toNat:Int):=o_;have e:=aDZ (l:=free) (u:=u0) o_ o_;generalize (free[u0.toNat]?).getD V3.zero=fv at e b;have a:=Z3 fv g.need;generalize dM fv g.need=q at a b;by_cases h3:q<w+1
     .rw [bq h3]at b;exact zqca0
     .rw [bp h3]at b;have next:=next b
      rcases z with⟨rfl,rfl⟩|rfl
      all_goals
       refine gV ?_;refine aT λh=>?_
       repeat' first|refine pA ?_|refine⟨i,rfl,?_⟩|refine⟨u0.toNat,j,?_⟩|refine⟨_,get,?_⟩|refine⟨_,e,?_⟩|refine⟨_,n,?_⟩|refine Aj _ (Aa (d _) ?_)|refine .p a ?_|exact rfl|refine lA ?_ ?_|intro h
       exact To.cut [1,4,6,7,9,18,19,20] 1 rfl rfl rfl rfl next
  by_cases F:k=0
  .rw [bu F]at s;exact go 0 o_ ⟨_,s,.inl ⟨rfl,rfl⟩⟩
  .rw [bt F]at s;exact go k rfl ⟨_,s,.inr rfl⟩
def M8{free:a8}{need:V3}{n h:Int}:plS free need n h=O↔0<=h/\h<(Z free:Int)/\n<=dM ((free[h.toNat]?).getD V3.zero) need:=by
 unfold plS;by_cases h1:h<0
 .rw [bu (bq h1)];constructor
  .intro q;cases q
  .intro q;omega
 .rw [bt (by rw[bp h1];decide)];by_cases a:(Z free:Int)<=h
  .rw [bu (bq a)];constructor
   .intro q;cases q
   .intro q;omega
  .rw [bt (by rw[bp a];decide)];simp;omega
def aAg{free:a8}{need:V3}:∀(l pre:ax),plB free need pre l=O↔ ∀u∈l,0<=u/\u<(Z free:Int)/\(((pre++l).count u:Nat):Int)<=dM ((free[u.toNat]?).getD V3.zero) need
 |[],pre=>by simp[plB]
 |h::r,pre=>by
  unfold plB;rw[Af,M8,aAg r (pre++[h]),Ag];show _↔ ∀u∈h::r,0<=u/\u<(Z free:Int)/\(((pre++h::r).count u:Nat):Int)<=dM ((free[u.toNat]?).getD V3.zero) need;have e:pre++([h]++r)=pre++h::r:=rfl;rw[e];constructor
  .rintro ⟨⟨a,b,c⟩,d⟩ u f;by_cases g:u∈r
   .exact d u g
   .rcases Ba.1 f with rfl|f
    .refine ⟨a,b,?_⟩;rw[Jj,Ko,Lc.2 g];simpa using c
    .exact bv f g
  .intro d;refine⟨?_,λu f=>d u (Az _ f)⟩;obtain⟨a,b,c⟩:=d h (Aw ..);refine⟨a,b,?_⟩;rw[Jj,Ko]at c;omega
def KQ{free:a8}{need:V3}{hs:ax}:GL free need hs=O↔ ∀u∈hs,0<=u/\u<(Z free:Int)/\((hs.count u:Nat):Int)<=dM ((free[u.toNat]?).getD V3.zero) need:=by
 unfold GL;rw[Ck];have key:∀u,aHs free need hs u=plS free need (C5 u hs) u:=λu=>rfl;constructor
 .intro q u a;have:=q u a;rw[key,M8]at this;have e:C5 u hs=((hs.count u:Nat):Int):=by unfold C5;rw[BJ];omega
  rw[e]at this;exact this
 .intro q u a;rw[key,M8];have e:C5 u hs=((hs.count u:Nat):Int):=by unfold C5;rw[BJ];omega
  rw[e];exact q u a
def aLJ(l G:ax):aHa l G=IN G l:=by rw[Gk,xX];unfold aHa inB;simp[Fq]
def aQy(c:Con)(free:a8)(g:Gan)(l:ax)(hl:(Z l:Int)=g.pods):(plB free g.need [] l&&(gpL c g.lev).any (aHa l))=sP c free g l:=by
 unfold sP;rw[bu hl];have e:plB free g.need [] l=GL free g.need l:=by rw[Gk,aAg,KQ];rfl
 rw[e,Gk,Af,Fq,Fq];unfold chkG;simp only[aLJ,Af];constructor
 .rintro ⟨a,G,b,d⟩;exact⟨G,b,d,a⟩
 .rintro ⟨G,b,d,a⟩;exact⟨a,G,b,d⟩
def aO9(c:Con)(i:c.sm)(free:a8)(g:Gan)(l:ax)(hl:Z l<=1048576):bj 299 [c.av,CA 3 (vav free) J0,g.av,CA 1 (iv l) J0] (DA (sP c free g l)):=by
 have a:Z (iv l)=Z l:=by simp
 by_cases h1:(Z l:Int)=g.pods
 .have b:=aF3 c i free g l hl _ rfl (sP c free g l) (Z l) 0 [] o_ (λh=>by simp[bZ]) (aQy c free g l h1);have d:(((Z (iv l):Nat):Int) !=g.pods)=false:=by rw[a];simp[h1]
  generalize sP c free g l=r at b;refine c_ f299 λ_=>?_;refine bO hE 16 ?_;conv=>whnf
  refine To.frz [4,6,7] [0,1,2] ?_
  repeat' first|refine pA ?_|refine Aa (λh=>bv h (by rw[d];decide)) (λh=>?_)|exact rfl|refine lA ?_ ?_|intro h
  exact To.part [1,4,6,7,9,18,19,20] [3] rfl rfl rfl b
 .have d:(((Z (iv l):Nat):Int) !=g.pods)=true:=by rw[a];simp[h1]
  have e:sP c free g l=false:=bt h1;rw[e];refine c_ f299 λ_=>?_;refine bO hE 16 ?_;conv=>whnf
  refine To.frz [4,6,7] [0,1,2] ?_;exact zW
abbrev itP(p:Pn):aa:=.iface 104 p.av
abbrev itR(r:Rn):aa:=.iface 85 r.av
abbrev aLv(l:ba):az:=l.map itP
abbrev aCU(l:a7):az:=l.map itR
abbrev alO(s:Sta):aw:=[Do 35 s.cs,Fr 0 1 20]
def aNg(s:Sta)(j:Z s.run<=1000000)(l:az)(R:az):∀(m i:Nat) (a:az),i+m=Z s.run->Z a<=1000000+i->a++aCU (s.run.drop i)=R->
  To (Eo [3] []) f238 (.pure (Io (CA 1 R J0))) (G0 (stk f238 1) [(1,G2 0 0),(3,CA 1 a (.own 1 0)),(22,CA 14 (rav s.run) J0),(23,GE Is (Z (rav s.run):Nat)),(24,ii i)] (alO s)):=by
 have d:Z (rav s.run)=Z s.run:=by simp
 intro m;induction m with
 |zero=>
  intro i a e g b;rw[Ae o_]at b;have b:a++[]=R:=b;rw[Ap]at b;subst b;exact tA
 |succ m f=>
  intro i a e g b;have c:i<Z s.run:=o_;rw[Ac c]at b;have get:=cB c;generalize s.run[i]=x at b get;have next:=f (i+1) (a++[itR x]) o_ q_ (by rw[Ag];exact b)
  refine gV ?_;refine aT λh=>?_
  repeat' first|refine pA ?_|refine⟨i,rfl,?_⟩|refine⟨_,get,?_⟩|refine Aa (Aa (show Z a+1<=maxLen by simp only[maxLen];omega) (show(Z a+1)*16<=140737488355328 by omega)) ?_|exact rfl|refine lA ?_ ?_|intro h
  exact zW
def aNh(s:Sta)(hp:Z s.pend<=1000000)(e:Z s.run<=1000000)(R:az):∀(m i:Nat) (a:az),i+m=Z s.pend->Z a<=i->(a++aLv (s.pend.drop i))++aCU s.run=R->
  BC (Eo [3] []) f238 (CA 1 R J0) [(1,G2 0 0),(3,CA 1 a (.own 1 0)),(9,CA 11 (pnv s.pend) J0),(10,GE Is (Z (pnv s.pend):Nat)),(11,ii i)] (alO s):=by
 have d:Z (pnv s.pend)=Z s.pend:=by simp
 intro m;induction m with
 |zero=>
  intro i a f j b;rw[Ae o_]at b;have b:(a++[])++aCU s.run=R:=b;rw[Ap]at b;have next:=aNg s e [] R (Z s.run) 0 a o_ o_ b
  exact tA
 |succ m g=>
  intro i a f j b;have c:i<Z s.pend:=o_;rw[Ac c]at b;have get:=uY c;generalize s.pend[i]=x at b get;have next:=g (i+1) (a++[itP x]) o_ q_ (by rw[Ag a];exact b)
  refine gV ?_;refine aT λh=>?_
  repeat' first|refine pA ?_|refine⟨i,rfl,?_⟩|refine⟨_,get,?_⟩|refine Aa (Aa (show Z a+1<=maxLen by simp only[maxLen];omega) (show(Z a+1)*16<=140737488355328 by omega)) ?_|exact rfl|refine lA ?_ ?_|intro h
  exact zW
def aJU(s:Sta)(hp:Z s.pend<=1000000)(a:Z s.run<=1000000):bj 238 [s.av] (CA 1 (aLv s.pend++aCU s.run) J0):=by
 have next:=aNh s hp a (aLv s.pend++aCU s.run) (Z s.pend) 0 [] o_ s_ rfl
 refine gA (Eo [3] []) f238 λ_=>?_;exact zW
def Y5(p:Pn):bj 239 [itP p] (GT [p.av,DA O]):=by exact c_ f239 λ_=>zW
def Y4(r:Rn):bj 239 [itR r] (GT [r.pn.av,DA O]):=by exact c_ f239 λ_=>zW
def aN2(l:a7)(id:Int):aB l [id]=l.filter λx=>!(x.g.id==id):=by unfold aB;congr 1;funext x;simp[inB]
def aG7{l:List Hos}{n:Int}(a:0<=n)(h1:n<(Z l:Int)):(hav l)[n.toNat]? =X (bC l n).av:=by have h:n.toNat<Z l:=o_;unfold bC;rw[Bw,Ab h];rfl
def aDC{c:Con}{free:a8}{g:Gan}{l:ax}(d:Z free=Z c.hs)(hp:1<=g.pods)(h:sP c free g l=O):(iv l)[0]? =X (ii (l.headD 0))/\0<=l.headD 0/\l.headD 0<(Z c.hs:Int):=by
 unfold sP at h;by_cases hl:(Z l:Int)=g.pods
 .rw [bu hl]at h;cases l with
  |nil=>simp at hl;omega
  |cons u r=>
   rw[Fq]at h;obtain⟨G,e,b⟩:=h;unfold chkG at b;rw[Af]at b;have a:=KQ.1 b.2 u (Aw ..);refine⟨rfl,a.1,?_⟩;have:=a.2.1;show u<_;omega
 .rw [bt hl]at h;cases h
def rnO(s:Sta)(r:Rn):aw:=[Do 35 s.cs,Do 85 r.cs]
def aON(s:Sta)(r:Rn):aw:=[.fcells s.cs,.fcells r.cs]
def aOM(s:Sta)(r:Rn):ak [0,1] (rnO s r)=aON s r:=by kernel_rfl
def aKb(s:Sta)(r:Rn):xH [2,3] (aC (aON s r)) [(2,G2 0 0),(3,G2 1 0)]=[(2,.ptr s.cs),(3,.ptr r.cs)]:=by kernel_rfl
def Z4{g:Goal}{ks:bg}(s:Sta)(r:Rn)(h:To E f240 g (.code ks [(2,.ptr s.cs),(3,.ptr r.cs)] (aON s r))):To E f240 g (.code ks [(2,G2 0 0),(3,G2 1 0)] (rnO s r)):=by refine To.frz [2,3] [0,1] ?_;rw[aOM,aKb];exact h
def aEO(s:Sta)(r:Rn)(W:a7)(F:a8)(l:Int)(k:Bool)(b:Bool)
  (h1:bj 158 [r.av] (ii l))
  (a:bj 140 [CA 14 (rav s.run) J0,CA 1 (iv [r.g.id]) J0] (CA 14 (rav W) J0))
  (h3:bj 272 [s.c.av,CA 14 (rav W) J0] (CA 3 (vav F) J0))
  (m:bj 299 [s.c.av,CA 3 (vav F) J0,r.g.av,CA 1 (iv r.hs) J0] (DA k))
  (n:k=O->(iv r.hs)[0]? =X (ii (r.hs.headD 0))/\0<=r.hs.headD 0/\(hav s.c.hs)[(r.hs.headD 0).toNat]? =X (bC s.c.hs (r.hs.headD 0)).av)
  (d:(decide ((r.at'<=r.st/\r.st<=s.now)/\s.now<l)&&(k&&decide ((bC s.c.hs (r.hs.headD 0)).f=r.fl)))=b):
  bj 240 [s.av,r.av] (DA b):=by
 have a:bj 140 [CA 14 (rav s.run) J0,CA 1 (iv [r.g.id]) .full] (CA 14 (rav W) J0):=aA.strip a;cases k with
 |true=>
  obtain⟨i,j,e⟩:=n rfl;generalize r.hs.headD 0=u at i j e d;generalize bC s.c.hs u=y at e d;refine c_ f240 λ_=>?_;refine bO hE 13 ?_;conv=>whnf
  refine To.cutC [2,3] 2 rfl rfl rfl rfl ?_;refine Z4 s r ?_
  repeat' first|refine pA ?_|refine .p h1 ?_|refine .p a ?_|refine .p h3 ?_|refine .p m ?_|refine⟨0,rfl,?_⟩|refine⟨_,i,?_⟩|refine Aj u.toNat (Aa (by simp only[Int.toNat_of_nonneg j]) ?_)|refine⟨_,e,?_⟩|exact rfl|refine lA ?_ ?_|intro h
  all_goals
   exact zqca23
 |false=>
  refine c_ f240 λ_=>?_;refine bO hE 13 ?_;conv=>whnf
  refine To.cutC [2,3] 2 rfl rfl rfl rfl ?_;refine Z4 s r ?_
  repeat' first|refine pA ?_|refine .p h1 ?_|refine .p a ?_|refine .p h3 ?_|refine .p m ?_|exact rfl|refine lA ?_ ?_|intro h
  all_goals
   exact zqca23
def aJV(s:Sta)(a:s.c.sm)(hs:Sm s.run)(r:Rn)(hp:1<=r.g.pods)(i:Z r.hs<=1048576):bj 240 [s.av,r.av] (DA (rnB s r)):=by
 have e:=iQ hs [r.g.id];have h:=qQ s.run hs [r.g.id] s_;have h3:=aAT s.c a (aB s.run [r.g.id]) e;have j:=zN s.c (aB s.run [r.g.id]);have m:=aO9 s.c a (iB s.c (aB s.run [r.g.id])) r.g r.hs i;refine aEO s r _ _ _ _ _ (GW r) h h3 m (λd=>?_) ?_
 .obtain ⟨k,b,l⟩:=aDC j hp d;exact⟨k,b,aG7 b l⟩
 .rw [aN2];rfl
def aNm(es:List (ax×aa))(l:ax):Prop:=∀h:Int,bZ es [h]=if l.contains h=O then X (DA O)else U
def RV{es:List (ax×aa)}{l:ax}(hm:aNm es l)(h:Int):aNm (mZ es [h] (DA O)) (h::l):=λx=>by
 rw[NJ,List.contains_cons];by_cases a:h=x
 .subst a;simp
 .have b:(x==h)=false:=by simp;exact λq=>a q.symm
  rw[bt (by simpa using a),hm x,b,Bool.false_or]
def ggO(s:Sta):aw:=[Do 35 s.cs]
def aPN(s:Sta):aw:=[.fcells s.cs]
def aPM(s:Sta):ak [0] (ggO s)=aPN s:=by kernel_rfl
def aLN(s:Sta):xH [1] (aC (aPN s)) [(1,G2 0 0)]=[(1,.ptr s.cs)]:=by kernel_rfl
def aLL{g:Goal}{ks:bg}(s:Sta)(h:To (Er [] [64,65,66]) f171 g (.code ks [(1,.ptr s.cs)] (aPN s))):To (Er [] [64,65,66]) f171 g (.code ks [(1,G2 0 0)] (ggO s)):=by refine To.frz [1] [0] ?_;rw[aPM,aLN];exact h
abbrev ggF(s:Sta)(xs:az)(i:Int):au:=[(1,.ptr s.cs),(3,.mref 0),(4,.mref 1),(14,CA 1 xs J0),(15,GE Is (Z xs:Nat)),(16,ii i)]
def gbF(s:Sta)(xs:az)(i:Int)(x:aa):au:=[(1,.ptr s.cs),(3,.mref 0),(4,.mref 1),(6,x),(7,G2 2 0),(14,CA 1 xs J0),(15,GE Is (Z xs:Nat)),(16,ii i)]
def aRN(s:Sta)(xs:az)(i:Int)(x:aa)(p:Pn):au:=[(1,.ptr s.cs),(3,.mref 0),(4,.mref 1),(6,x),(7,.ptr p.cs),(14,CA 1 xs J0),(15,GE Is (Z xs:Nat)),(16,ii i)]
abbrev Ent:Type:=List (ax×aa)
def gbO(b a:Ent)(p:Pn):aw:=[.mp S b,.mp S a,Do 104 p.cs]
def aPT(b a:Ent)(p:Pn):aw:=[.mp S b,.mp S a,.fcells p.cs]
def aPS(b a:Ent)(p:Pn):ak [2] (gbO b a p)=aPT b a p:=by kernel_rfl
def aLP(s:Sta)(xs:az)(i:Int)(x:aa)(b a:Ent)(p:Pn):xH [7] (aC (aPT b a p)) (gbF s xs i x)=aRN s xs i x p:=by kernel_rfl
def vP{g:Goal}{ks:bg}{s:Sta}{xs:az}{i:Int}{x:aa}{b a:Ent}(p:Pn)(h:To (Er [] [64,65,66]) f171 g (.code ks (aRN s xs i x p) (aPT b a p))):To (Er [] [64,65,66]) f171 g (.code ks (gbF s xs i x) (gbO b a p)):=by refine To.frz [7] [2] ?_;rw[aPS,aLP];exact h
def gcB(s:Sta)(p:Pn)(b a:Bool)(G:Int)(N Q:Bool):Bool:=!b&&(!a&&(decide ((0<=p.seq/\p.seq<s.nxt)/\0<=p.at'/\p.at'<=s.now)&&(decide (G=0)&&(!N&&Q))))
def ggP(s:Sta)(xs:az)(o:Z xs<=1048576)(i:Nat)(t:i<Z xs)(p:Pn)(get:xs[i]? =X (itP p))(e j:Ent)(l:bZ e [p.g.id]=U)(r:bZ j [p.seq]=U)(G:Int)(N b:Bool)
  (n:bj 148 [s.c.av,p.g.av] (ii G)) (k:G=0->bj 151 [s.c.av,p.g.av] (DA N))
  (d:gcB s p S S G N O=S->b=S)
  (a:gcB s p S S G N O=O->BC (Er [] [64,65,66]) f171 (DA b) (ggF s xs ((i:Int)+1)) [.mp S (mZ e [p.g.id] (DA O)),.mp S (mZ j [p.seq] (DA O))]):
  BC (Er [] [64,65,66]) f171 (DA b) (ggF s xs (i:Int)) [.mp S e,.mp S j]:=by
 have m:=Y5 p;cases N<;>skip
 all_goals
  refine gV ?_;refine aT λh=>gV ?_;refine⟨i,rfl,gV ?_⟩;refine⟨_,get,gV ?_⟩;refine .p m ?_;refine bO (hEr [] [64,65,66]) 20 ?_;conv=>whnf
  refine To.cutC [1,3,4,6,7,14,15,16] 3 rfl rfl rfl rfl ?_;refine vP p ?_
  repeat' first|refine pA ?_|refine⟨_,l,?_⟩|refine⟨_,r,?_⟩|refine .p n ?_|refine .p (k (by simpa using ‹(G !=0)=S›)) ?_|exact rfl|refine lA ?_ ?_|intro h
  all_goals (try (
   refine congrArg (λq=>Res.ret (aa.bool q)) (d ?_).symm;clear d a;simp only[bo,bk,bne_iff_ne,ne_eq,bne_eq_false_iff_eq,Ds]at*
   simp[gcB]
   try omega))
  all_goals
   exact zqca22
def ggR(s:Sta)(xs:az)(t:Z xs<=1048576)(i:Nat)(v:i<Z xs)(r:Rn)(p:Pn)(hp:r.pn=p)(get:xs[i]? =X (itR r))(e j:Ent)(m:bZ e [p.g.id]=U)(u:bZ j [p.seq]=U)(G:Int)(N Q b:Bool)
  (o:bj 148 [s.c.av,p.g.av] (ii G)) (l:G=0->bj 151 [s.c.av,p.g.av] (DA N))
  (n:G=0->bj 240 [s.av,r.av] (DA Q))
  (d:gcB s p S S G N Q=S->b=S)
  (a:gcB s p S S G N Q=O->BC (Er [] [64,65,66]) f171 (DA b) (ggF s xs ((i:Int)+1)) [.mp S (mZ e [p.g.id] (DA O)),.mp S (mZ j [p.seq] (DA O))]):
  BC (Er [] [64,65,66]) f171 (DA b) (ggF s xs (i:Int)) [.mp S e,.mp S j]:=by
 have k:=Y4 r;rw[hp]at k;cases N<;>cases Q
 all_goals
  refine gV ?_;refine aT λh=>gV ?_;refine⟨i,rfl,gV ?_⟩;refine⟨_,get,gV ?_⟩;refine .p k ?_;refine bO (hEr [] [64,65,66]) 20 ?_;conv=>whnf
  refine To.cutC [1,3,4,6,7,14,15,16] 3 rfl rfl rfl rfl ?_;refine vP p ?_
  repeat' first|refine pA ?_|refine⟨_,m,?_⟩|refine⟨_,u,?_⟩|refine .p o ?_|refine .p (l (by simpa using ‹(G !=0)=S›)) ?_|refine .p (n (by simpa using ‹(G !=0)=S›)) ?_|exact rfl|refine lA ?_ ?_|intro h
  all_goals (try (
   refine congrArg (λq=>Res.ret (aa.bool q)) (d ?_).symm;clear d a;simp only[bo,bk,bne_iff_ne,ne_eq,bne_eq_false_iff_eq,Ds]at*
   simp[gcB]
   try omega))
  all_goals
   exact zqca22
def aRL(s:Sta)(xs:az)(e:Z xs<=1048576)(i:Nat)(f:i<Z xs)(p:Pn)(get:xs[i]? =X (itP p))(a b:Ent)(m:bZ a [p.g.id]=X (DA O)\/bZ a [p.g.id]=U/\bZ b [p.seq]=X (DA O)):
  BC (Er [] [64,65,66]) f171 (DA S) (ggF s xs (i:Int)) [.mp S a,.mp S b]:=by
 have c:=Y5 p;rcases m with d|⟨d,j⟩
 .exact zqca2
 .exact zqca2
def aRK(s:Sta)(xs:az)(e:Z xs<=1048576)(i:Nat)(f:i<Z xs)(r:Rn)(p:Pn)(hp:r.pn=p)(get:xs[i]? =X (itR r))(a b:Ent)(m:bZ a [p.g.id]=X (DA O)\/bZ a [p.g.id]=U/\bZ b [p.seq]=X (DA O)):
  BC (Er [] [64,65,66]) f171 (DA S) (ggF s xs (i:Int)) [.mp S a,.mp S b]:=by
 have c:=Y4 r;rw[hp]at c;rcases m with d|⟨d,j⟩
 .exact zqca2
 .exact zqca2
inductive It where
 |p (x:Pn)
 |r (x:Rn)
def It.av:It->aa
 |.p x=>itP x
 |.r x=>itR x
def It.pn:It->Pn
 |.p x=>x
 |.r x=>x.pn
def It.q(s:Sta):It->Bool
 |.p _=>O
 |.r x=>rnB s x
def It.sm:It->Prop
 |.p _=>True
 |.r x=>Z x.hs<=1048576
def gaB(s:Sta):ax->ax->List It->Bool
 |_,_,[]=>O
 |a,b,x::l=>gcB s x.pn (a.contains x.pn.g.id) (b.contains x.pn.seq) (dO s.c x.pn.g) (cE s.c [] x.pn.g).isNone (x.q s)&&gaB s (x.pn.g.id::a) (x.pn.seq::b) l
def xG{c:Con}{g:Gan}(h:dO c g=0):1<=g.pods/\g.pods<=16:=by obtain⟨h1,_⟩:=qD.1 h;unfold IJ at h1;rw[Af]at h1;have:=bn h1.1;omega
def aLM(s:Sta)(F:s.c.sm)(hs:Sm s.run)(l:List It)(hl:Z l<=1048576)(u:∀x∈l,x.sm)(b:Bool):∀(m i:Nat) (a d:Ent) (f j:ax),i+m=Z l->aNm a f->aNm d j->gaB s f j (l.drop i)=b->
  BC (Er [] [64,65,66]) f171 (DA b) (ggF s (l.map It.av) (i:Int)) [.mp S a,.mp S d]:=by
 have D:Z (l.map It.av)=Z l:=by simp
 intro m;induction m with
 |zero=>
  intro i a d f j G h1 w e;rw[Ae o_]at e;have e:O=b:=e;subst e;exact tA
 |succ m v=>
  intro i a d f j G h1 w e;have n:i<Z l:=o_;rw[Ac n]at e;have get:(l.map It.av)[i]? =X (l[i].av):=by simp[n]
  have z:=u l[i] (Av n);have v:=λa d f j=>v (i+1) a d f j o_;generalize l[i]=x at e get z;have e:(gcB s x.pn (f.contains x.pn.g.id) (j.contains x.pn.seq) (dO s.c x.pn.g) (cE s.c [] x.pn.g).isNone (x.q s)&&gaB s (x.pn.g.id::f) (x.pn.seq::j) (l.drop (i+1)))=b:=e;have k:=h1 x.pn.g.id;have t:=w x.pn.seq;have next:=v _ _ (x.pn.g.id::f) (x.pn.seq::j) (RV h1 x.pn.g.id) (RV w x.pn.seq)
  generalize gaB s (x.pn.g.id::f) (x.pn.seq::j) (l.drop (i+1))=R at e next
  cases B:f.contains x.pn.g.id with
  |true=>
   rw[B]at e k;have e:S=b:=by rw[<-e];rfl
   subst e;cases x with
   |p x=>exact aRL s _ o_ i o_ x get a d (.inl k)
   |r x=>exact aRK s _ o_ i o_ x x.pn rfl get a d (.inl k)
  |false=>
   rw[B]at e k;cases A:j.contains x.pn.seq with
   |true=>
    rw[A]at e t;have e:S=b:=by rw[<-e];rfl
    subst e;cases x with
    |p x=>exact aRL s _ o_ i o_ x get a d (.inr ⟨k,t⟩)
    |r x=>exact aRK s _ o_ i o_ x x.pn rfl get a d (.inr ⟨k,t⟩)
   |false=>
    rw[A]at e t;have C:=PN s.c x.pn.g;have y:=λh:dO s.c x.pn.g=0=>RS s.c F x.pn.g (by have:=xG h;omega);cases x with
    |p x=>
     refine ggP s _ o_ i o_ x get a d k t _ _ b C y (λo=>?_) (λo=>?_)
     .exact e.symm.trans (congrArg (λq:Bool=>q&&R) o)
     .exact next ((congrArg (λq:Bool=>q&&R) o).symm.trans e)
    |r x=>
     have H:=λh:dO s.c x.pn.g=0=>aJV s F hs x (xG (g:=x.g) h).1 z;refine ggR s _ o_ i o_ x x.pn rfl get a d k t _ _ _ b C y H (λo=>?_) (λo=>?_)
     .exact e.symm.trans (congrArg (λq:Bool=>q&&R) o)
     .exact next ((congrArg (λq:Bool=>q&&R) o).symm.trans e)
def sL(s:Sta):List It:=s.pend.map It.p++s.run.map It.r
def aPC(s:Sta):(sL s).map It.av=aLv s.pend++aCU s.run:=by unfold sL;rw[Bh,Dx,Dx];rfl
def aHi(s:Sta)(j:s.c.sm)(hp:Z s.pend<=1000)(k:Z s.run<=1000)(hs:Sm s.run):bj 171 [s.av] (DA (gaB s [] [] (sL s))):=by
 have d:=aJU s o_ o_;rw[<-aPC]at d;have e:Z (sL s)<=2000:=by unfold sL;simp;omega
 have next:=aLM s j hs (sL s) o_ (λx a=>by
  unfold sL at a;rw[Bx,Co,Co]at a;rcases a with⟨y,_,rfl⟩|⟨y,i,rfl⟩
  .trivial
  .exact hs.2 y i) _ (Z (sL s)) 0 [] [] [] [] o_ (λh=>rfl) (λh=>rfl) rfl
 rw[Bz]at next
 generalize (sL s).map It.av=xs at d next
 generalize gaB s [] [] (sL s)=b at next
 refine gA (Er [] [64,65,66]) f171 λ_=>?_;refine bO (hEr [] [64,65,66]) 10 ?_;conv=>whnf
 refine To.cutC [1] 1 rfl rfl rfl rfl ?_;refine aLL s ?_
 repeat' first|refine pA ?_|refine .p d ?_|exact rfl|refine lA ?_ ?_|intro h
 exact To.part [1,3,4,14,15,16] [1,2] rfl rfl rfl next
def aPR(s:Sta)(p:Pn)(q e d:Bool):gcB s p e d (dO s.c p.g) (cE s.c [] p.g).isNone q=(!e&&(!d&&(pnB s p&&q))):=by unfold gcB pnB;generalize decide (dO s.c p.g=0)=a;generalize (cE s.c [] p.g).isNone=b;generalize decide ((0<=p.seq/\p.seq<s.nxt)/\0<=p.at'/\p.at'<=s.now)=c;cases e<;>cases d<;>cases a<;>cases b<;>cases c<;>cases q<;>rfl
def aAS(s:Sta):∀(l:List It) (a b:ax),gaB s a b l=O↔(∀x∈l,(pnB s x.pn&&x.q s)=O)/\((l.map λx=>x.pn.g.id).Nodup/\∀x∈l,x.pn.g.id∉a)/\((l.map λx=>x.pn.seq).Nodup/\∀x∈l,x.pn.seq∉b)
 |[],a,b=>by simp[gaB]
 |x::r,a,b=>by
  unfold gaB;rw[aPR,Af,aAS s r];simp only[Af,Db,List.contains_eq_mem,bk,Bg,Ce,Ba,forall_eq_or_imp,not_or,Co,not_exists,not_and];constructor
  .rintro ⟨⟨h1,h,h3⟩,m,⟨k,f⟩,i,d⟩;exact⟨⟨h3,m⟩,⟨⟨λy c e=>(f y c).1 e,k⟩,h1,λy c=>(f y c).2⟩,⟨λy c e=>(d y c).1 e,i⟩,h,λy c=>(d y c).2⟩
  .rintro ⟨⟨h3,m⟩,⟨⟨f,k⟩,h1,n⟩,⟨d,i⟩,h,j⟩;exact⟨⟨h1,h,h3⟩,m,⟨k,λy c=>⟨λe=>f y c e,n y c⟩⟩,i,λy c=>⟨λe=>d y c e,j y c⟩⟩
def aPU(s:Sta):gaB s [] [] (sL s)=((s.pend.all (pnB s)&&s.run.all λr=>pnB s r.pn&&rnB s r)&&(decide (ids s).Nodup&&decide (seqs s).Nodup)):=by
 rw[Gk,aAS];have e:((sL s).map λx=>x.pn.g.id)=ids s:=by unfold sL ids;rw[Bh,Dx,Dx];rfl
 have f:((sL s).map λx=>x.pn.seq)=seqs s:=by unfold sL seqs;rw[Bh,Dx,Dx];rfl
 rw[e,f];simp only[Lz,not_false_eq_true,implies_true,and_true,Af,bo,Ck];have c:(∀x∈sL s,pnB s x.pn=O/\x.q s=O)↔(∀x∈s.pend,pnB s x=O)/\∀x∈s.run,pnB s x.pn=O/\rnB s x=true:=by
  unfold sL;constructor
  .intro h;exact⟨λx a=>(h (.p x) (List.mem_append_left _ (Cn a))).1,λx a=>h (.r x) (List.mem_append_right _ (Cn a))⟩
  .rintro ⟨h1,d⟩ x a;rw[Bx,Co,Co]at a;rcases a with⟨y,b,rfl⟩|⟨y,b,rfl⟩
   .exact ⟨h1 y b,rfl⟩
   .exact d y b
 rw[c]
def quO(s:Sta):aw:=[Do 35 s.cs]
def aO3(s:Sta):aw:=[.fcells s.cs]
def aO2(s:Sta):ak [0] (quO s)=aO3 s:=by kernel_rfl
def aKy(s:Sta):xH [1] (aC (aO3 s)) [(1,G2 0 0)]=[(1,.ptr s.cs)]:=by kernel_rfl
def aKw{g:Goal}{ks:bg}(s:Sta)(h:To E f172 g (.code ks [(1,.ptr s.cs)] (aO3 s))):To E f172 g (.code ks [(1,G2 0 0)] (quO s)):=by refine To.frz [1] [0] ?_;rw[aO2,aKy];exact h
def aKx(s:Sta)(j:s.c.sm)(Be:a8)(t:Z Be=Z s.c.ns)(p:∀i:Nat,i<Z Be->(vav Be)[i]? =X (atV Be (i:Int)).av)(b:Bool):∀(m i:Nat),i+m=Z Be->((Hw i m).all λi:Nat=>bY (atV Be (i:Int)) (rZ s.c (i:Int)))=b->
  BC E f172 (DA b) [(1,.ptr s.cs),(10,CA 3 (vav Be) J0),(11,GE Is (Z (vav Be):Nat)),(12,ii (i:Int))] []:=by
 have g:Z (vav Be)=Z Be:=by simp
 have h1:=j.ns;intro m;induction m with
 |zero=>
  intro i o a;have a:O=b:=a;subst a;exact tA
 |succ m q=>
  intro i o a;have f:i<Z Be:=o_;have a:(bY (atV Be (i:Int)) (rZ s.c (i:Int))&&((Hw (i+1) m).all λi:Nat=>bY (atV Be (i:Int)) (rZ s.c (i:Int))))=b:=a;have next:=q (i+1) o_
  generalize ((Hw (i+1) m).all λi:Nat=>bY (atV Be (i:Int)) (rZ s.c (i:Int)))=R at a next
  have get:=p i f;have k:=vF (c:=s.c) (n:=(i:Int)) ⟨by omega,by omega⟩;have l:=aGo s.c j (i:Int);have hl:=kQ s.c (i:Int);unfold rZ at a;generalize atV Be (i:Int)=u at a get;generalize cH s.c.ns (i:Int)=y at a k;generalize iY s.c.ns (i:Int) (mB s.c.ns)=v at a l;cases h:bB s.c.ns (i:Int)with
  |true=>
   rw[h]at a hl;have r:=jA v y.b;have a:(bY u (dZ v y.b)&&R)=b:=a;generalize dZ v y.b=w at r a;have d:=xZ u w;cases e:bY u w with
   |true=>
    rw[e]at a d;have next:=next a
    exact tA
   |false=>
    exact zqca51
  |false=>
   rw[h]at a hl;have a:(bY u v&&R)=b:=a;have d:=xZ u v;cases e:bY u v with
   |true=>
    rw[e]at a d;have next:=next a
    exact tA
   |false=>
    exact zqca51
def aGl(c:Con)(l:a7):Z (ofL c l)=Z c.ns:=by unfold ofL mK;simp
def aCx(s:Sta)(a:s.c.sm)(h:Z s.run<=1048576):bj 172 [s.av] (DA (QO s)):=by
 have d:=RF s.c a s.run h;have b:=aGl s.c s.run
 have next:=aKx s a (ofL s.c s.run) b (λi j=>by
  have:=aJf (c:=s.c) (l:=s.run) (n:=(i:Int)) ⟨by omega,by omega⟩;rw[Bm]at this
  exact this) _ (Z (ofL s.c s.run)) 0 o_ rfl
 have e:((Hw 0 (Z (ofL s.c s.run))).all λi:Nat=>bY (atV (ofL s.c s.run) (i:Int)) (rZ s.c (i:Int)))=QO s:=by unfold QO;rw[b,List.range_eq_range']
 rw[e]at next
 generalize QO s=q at next
 generalize ofL s.c s.run=Be at d next
 refine c_ f172 λ_=>?_;refine bO hE 10 ?_;conv=>whnf
 refine To.cutC [1] 1 rfl rfl rfl rfl ?_;refine aKw s ?_;exact zW
def FU(s:Sta):Prop:=(0<=s.now/\s.now<=1099511627776)/\(1<=s.nxt/\s.nxt<=1099511627776)/\Z s.hist=Z s.c.ns/\Z s.pend+Z s.run<=32
instance (s:Sta):Decidable (FU s):=by unfold FU;infer_instance
def U7(s:Sta)(e:Bool)(k:Int)(q g u:Bool)(b:Int)
  (t:bj 169 [s.c.av] (DA e))
  (d:bj 146 [s.c.av] (ii k))
  (r:Z s.pend+Z s.run<=32->bj 170 [CA 11 (pnv s.pend) J0] (DA q))
  (j:Z s.pend+Z s.run<=32->bj 171 [s.av] (DA g))
  (i:Z s.pend+Z s.run<=32->bj 172 [s.av] (DA u))
  (l:(if(((e||decide (k=0))&&decide (FU s))&&(q&&(g&&u)))=O then 0 else 1)=b):
  bj 110 [s.av] (ii b):=by
 have v:Z (pnv s.pend)=Z s.pend:=by simp
 have p:Z (rav s.run)=Z s.run:=by simp
 have o:Z (fv s.hist)=Z s.hist:=by simp
 have m:Z (nav s.c.ns)=Z s.c.ns:=by simp
 refine c_ f110 λ_=>?_
 repeat' first|refine pA ?_|refine Fk (Aa (Aa (by simp only[bV,bo]at*;omega) (by simp only[aW,bo]at*;omega)) ?_)|refine .p t ?_|refine .p d ?_|refine .p (r (by simp only[bo,bk,Db,Ja]at*;omega)) ?_|refine .p (j (by simp only[bo,bk,Db,Ja]at*;omega)) ?_|refine .p (i (by simp only[bo,bk,Db,Ja]at*;omega)) ?_|exact rfl|refine lA ?_ ?_|intro h
 all_goals
  subst l;refine congrArg (λn=>Res.ret (aa.int Is n)) ?_;simp only[bo,bk,Db,Ja,beq_iff_eq,beq_eq_false_iff_ne,ne_eq]at*
  first
  |(exfalso;omega)
  |(by_cases a:FU s
    .rw [bq a];unfold FU at a
     first
     |(exfalso;omega)
     |simp[*]
    .rw [bp a]
     first
     |(exfalso;unfold FU at a;omega)
     |simp)
def I4(s:Sta)(a:s.c.sm)(hs:Sm s.run):bj 110 [s.av] (ii (if nZ s=O then 0 else 1)):=by
 refine U7 s (gL s.c) (bG s.c) (aE5 s.pend) (gaB s [] [] (sL s)) (QO s) _ (uC s.c) (uZ s.c a) (λh=>?_) (λh=>aHi s a o_ o_ hs) (λh=>aCx s a o_) ?_
 .have:=Q2.check_ok (s.pend.map Pn.q) (by rw[Cb];omega);rw[pS]at this;exact this
 .rw [aPU];unfold nZ SG FU;congr 1;simp only[Gc]
namespace C8
open Go.RowKit
set_option maxRecDepth 100000
abbrev tWr:TypeId:=258
def zC:liesAt Tryz.prog Tryz.prog.depth tWr (2/Tryz.prog.cellsOf tWr) 0 193 1=true:=by kernel_rfl
def yM:(Tryz.prog.info? 193).map (·.size)=X 2:=by kernel_rfl
def O4:Tryz.prog.underlying 191=X (.pointer 193):=by kernel_rfl
def O3:Tryz.prog.underlying 319=X .unsafePointer:=by kernel_rfl
def S0:Tryz.prog.funcs[244]? =X f244:=by kernel_rfl
def gO(b:Nat)(w:World)(h:w.cell? ⟨b,0,U⟩=X (.pointer U))(a:w.shape? b=X (tWr,2))(g:w.frozen? ⟨b,0,U⟩=S):
  Calls Tryz.prog 174 #[.pointer (X ⟨b,0,U⟩)] w λe w'=>e= .returned (.tuple #[])/\w'=w.setCell ⟨b,0,U⟩ (.pointer (X ⟨b,0,U⟩)):=by
 obtain⟨j,d,c⟩:=Option.map_eq_some_iff.1 yM
 go_enter Tryz.func174,Tryz.ntmps174
 go_wp2
 rw[Lib.run_to_unsafe w ⟨b,0,U⟩ O4 O3 d (by rw[c];decide) a (Ma 1)];simp only[Es];rw[Oper.upon_value]
 go_wp2
 rw[run_callFunc_extern S0 (by kernel_rfl) (by kernel_rfl) (by kernel_rfl) (e:=Extern.AbiNoEscape.same) (by kernel_rfl)];rw[Lib.run_noEscape];simp only[Es];rw[Oper.upon_value]
 go_wp2
 rw[Lib.run_from_unsafe w ⟨b,0,U⟩ O3 O4 d a zC];simp only[Es];rw[Oper.upon_value]
 go_wp2
 go_end0;exact⟨rfl,rfl⟩
def aD7:Tryz.prog.underlying 261=X (.pointer 5):=by kernel_rfl
def aID:Tryz.prog.cellsOf 5=1:=by kernel_rfl
def pG(b g cap:Nat)(p:Value)(a:Array Value)(l:ay)(w:World)(d:w.heap[b]? =X (.cells #[p,.slice (X ⟨g,0,U⟩) (Z l) cap] tWr (0,0)))(u:w.heap[g]? =X (.cells a 5 (0,0)))(o:l≠[])
  (n:Z l<=cap) (h:cap<=maxLen) (s:a.size=cap) (c:∀(j:Nat) x,l[j]? =X x->w.cell? ⟨g,j,U⟩=X (.int .u8 x.toNat)):
  Calls Tryz.prog 115 #[.pointer (X ⟨b,0,U⟩)] w λe w'=>e= .returned (.string ⟨l.toArray⟩)/\LV g (Z l) w w':=by
 have i:Z l≠0:=by simpa using o
 have y:w.drew.cell? ⟨b,1,U⟩=X (.slice (X ⟨g,0,U⟩) (Z l) cap):=by exact zqca37
 have r:(Iu #[109] 261 #[.slice (X ⟨g,0,U⟩) (Z l) cap]).run Tryz.prog w.drew= .ok (.pointer (X ⟨g,0,U⟩)) w.drew:=
  Lib.run_unsafeSliceData_row _ _ _ _ _ _ o_
 have v:(Jw #[261,3] 9 #[.pointer (X ⟨g,0,U⟩),.int .i64 (Z l)]).run Tryz.prog w.drew= .ok (.string ⟨l.toArray⟩) (w.drew.freeze ⟨g,0,U⟩ (Z l)):=by exact zqca16
 have m:Tryz.prog.follows Departure.mixedOrders=true:=hE.mix
 go_enter Tryz.func115,Tryz.ntmps115
 go_wp2
 go_region_o
 all_goals (go_wp2;go_ret;exact⟨rfl,XA i⟩)
def cc_fresh(s:aa):ar 174 [G2 0 0] [Do tWr [By,s]] (Io (GT [])) [Do tWr [G2 0 0,s]]:=
 oZ (λ_ _=>by rfl) gO s
def str_ok(l:ay)(a:l≠[])(p:aa):ar 115 [G2 0 0] [Do tWr [p,CA 1 (l.map ub) (.own 1 0)],Fr 0 1 5] (Io (HA l)) [.dead,.dead]:=
 nR (λ_ _=>by rfl) pG l a p
def aH:Nat->Nat->Nat->ay->Option (Nat×Nat)
 |0,_,_,_=>U
 |_+1,_,_,[]=>U
 |f+1,i,acc,c::r=>if c.toNat<128 then(if c.toNat=0/\0<i then U else X (acc+(c.toNat%128)*2^(7*i),i+1))else aH f (i+1) (acc+(c.toNat%128)*2^(7*i)) r
def dF(l:ay):Option (Nat×Nat):=aH 9 0 0 l
def aRM:Option (Nat×Nat)->aa
 |some (n,k)=>.tup [.int .i64 n,.int .i64 k,.int .i64 0]
 |none=>.tup [.int .i64 0,.int .i64 0,.int .i64 10]
def putN(n:Nat):ay:=if n<128 then[Dn n]else Dn (128+n%128)::putN (n/128)
 termination_by n
 decreasing_by omega
def hD:∀(f i a:Nat) (l:ay) (n k:Nat),i+f=9->a<2^(7*i)->aH f i a l=X (n,k)->n<2^63/\i<k/\k<=9/\k<=i+Z l
 |0,_,_,_,_,_,_,_,h=>by cases h
 |f+1,i,a,[],_,_,_,_,h=>by cases h
 |f+1,i,a,c::r,n,k,hi,ha,h=>by
  have b:a+(c.toNat%128)*2^(7*i)<2^(7*(i+1)):=by
   have h3:c.toNat%128<=127:=o_;have d:(c.toNat%128)*2^(7*i)<=127*2^(7*i):=Br _ h3
   grind[Gd,Ey]
  simp only[aH]at h;split at h
  .split at h
   .cases h
   .cases h;have:2^(7*(i+1))<=2^63:=Ej d_ o_;simp only[Al];omega
  .have:=hD f (i+1) _ r n k o_ b h;simp only[Al];omega
def SJ:∀(f i a n:Nat) (s:ay),i+f=9->n<2^(7*f)->(0<i->0<n)->aH f i a (putN n++s)=X (a+n*2^(7*i),i+Z (putN n))
 |0,i,a,n,s,_,hn,h0=>by simp at hn;omega
 |f+1,i,a,n,s,hi,hn,h0=>by
  have g:2^(7*(f+1))=128*2^(7*f):=by rw[Gd,Ey];omega
  have c:2^(7*(i+1))=128*2^(7*i):=by rw[Gd,Ey];omega
  rw[putN];by_cases h:n<128
  .have e:(Dn n).toNat=n:=by rw[Gx,Hn o_]
   rw[bu h];simp only[Ca,List.nil_append,aH,e,bu h,Hn h];rw[bt o_];simp
  .have e:(Dn (128+n%128)).toNat=128+n%128:=by rw[Gx,Hn o_]
   rw[bt h];simp only[Ca,aH,e];rw[bt o_,SJ f (i+1) _ (n/128) s o_ o_ (λ_=>by omega)];have b:(128+n%128)%128=n%128:=o_;rw[b,c];have d:n*2^(7*i)=(n%128)*2^(7*i)+n/128*(128*2^(7*i)):=by rw[<-Hk,<-Nat.add_mul];congr 1;omega
   grind[Al,Option.some.injEq,Prod.mk.injEq]
def aAR{l:ay}{n k:Nat}(h:dF l=X (n,k)):n<2^63/\0<k/\k<=9/\k<=Z l:=by have:=hD 9 0 0 l n k rfl d_ h;omega
def leN:ay->Nat
 |[]=>0
 |c::r=>c.toNat+256*leN r
def NO:∀(l:ay),leN l<2^(8*Z l)
 |[]=>by simp[leN]
 |c::r=>by have:=NO r;have h:=c.toNat_lt;simp only[leN,Al,Gd,Ey];omega
def tQ:∀(l:ay) (c:UInt8),leN (l++[c])=leN l+c.toNat*2^(8*Z l)
 |[],c=>by simp[leN]
 |d::r,c=>by
  simp only[Ca,leN,tQ r c,Al,Gd,Ey];have:c.toNat*(2^(8*Z r)*2^(8*1))=256*(c.toNat*2^(8*Z r)):=by rw[<-Hk,Cz]
  omega
def IT{l:ay}{i:Nat}{c:UInt8}(h:l[i]? =X c):l.take (i+1)=l.take i++[c]:=by rw[Lm,h];rfl
def QU(n:Nat):∀b,n<2^(7*b)->Z (putN n)<=b+1:=by
 induction n using Hy with
 |ind n c=>
  intro b a;rw[putN];split
  .simp
  .rename_i h;cases b with
   |zero=>simp at a;omega
   |succ b=>
    have:=c (n/128) o_ b (by rw[Gd,Ey]at a;omega);simp only[Al];omega
def aHf(n:Nat)(s:ay)(a:n<2^63):dF (putN n++s)=X (n,Z (putN n)):=by have:=SJ 9 0 0 n s rfl o_ (λh=>by omega);simpa[dF]using this
set_option maxRecDepth 10000
def aFV(n:Nat):∀(a:ay),Z a+Z (putN n)<=100->(n:Int)<=9223372036854775807->
  BC (Eo [3] []) f173 (HA (a++putN n)) [(0,GE Is n),(3,CA 1 (a.map ub) (.own 0 0))] [Fr 0 1 5]:=by
 induction n using Hy with
 |ind n g=>
  intro a c j;have i:(n:Int).fdiv (2^Int.toNat 7)=((n/128:Nat):Int):=by rw[Ea _ d_];simp
  have d:=LW n;have hp:1<=Z (putN n):=by rw[putN];split<;>simp
  have hl:Z (a.map ub)=Z a:=by simp
  refine gV ?_;refine⟨λh=>?_,λh=>?_⟩
  .have h:127<n:=by have:=bn h;omega
   have e:dB .or .u8 ((n%256:Nat):Int) 128=((128+n%128:Nat):Int):=by have:=nN .u8 (n%256) 128 (by simp only[aW];omega) d_;rw[aPh ⟨n%256,by omega⟩]at this;simp only at this;rw[show n%256%128=n%128 from by omega]at this;exact this
   have b:putN n=Dn (128+n%128)::putN (n/128):=by rw[putN,bt o_]
   refine gV ?_;refine .inr (gV ?_);refine⟨⟨by simp only[maxLen];simp;omega,by simp;omega⟩,?_⟩;refine gV ?_;refine⟨⟨by decide,by decide⟩,gV ?_⟩;rw[i,d,e];refine To.part [0,3] [0] rfl rfl rfl ?_;have:=g (n/128) o_ (a++[Dn (128+n%128)]) (by rw[b]at c;simp at c⊢;omega) o_;rw[b];rw[Ag,Bh,Bg,O2 o_]at this;exact this
  .have h:¬ 127<n:=by have:=bm h;omega
   have b:putN n=[Dn n]:=by rw[putN,bu o_]
   refine gV ?_;refine .inr (gV ?_);refine⟨⟨by simp only[maxLen];simp;omega,by simp;omega⟩,?_⟩;refine gV ?_;refine⟨a++[Dn n],?_,by simp;omega,?_⟩
   .rw [d,Hn o_,<-O2 o_,Bh];rfl
   refine gV ?_;rw[b]
def put_ok(n:Int):bj 173 [GE Is n] (HA (putN n.toNat)):=by refine gA (Eo [3] []) f173 λa=>?_;have b:n<=9223372036854775807:=a.1.2;have:=QU n.toNat 9 o_;have e:max n 0=(n.toNat:Int):=o_;refine gV ?_;rw[e];refine To.head [0,3] ?_;exact aFV n.toNat [] (by simpa using(by omega:Z (putN n.toNat)<=100)) o_
def pl:ax->ay
 |[]=>[]
 |n::r=>putN n.toNat++pl r
theorem pl_append(a b:ax):pl (a++b)=pl a++pl b:=by
 induction a with
 |nil=>rfl
 |cons n r c=>simp[pl,c]
theorem pn_len{n:Int}(h:n<=9223372036854775807):Z (putN n.toNat)<=10:=by have:=QU n.toNat 9 o_;omega
theorem pl_len:∀{l:ax},(∀n∈l,n<=9223372036854775807)->Z (pl l)<=10*Z l
 |[],_=>by simp[pl]
 |n::r,h=>by have h1:=pn_len (h n s_);have a:=pl_len (l:=r) λm hm=>h m (by simp[hm]);simp only[pl,Ah,Al];omega
def aPD{n:Int}(h:kB n=O):0<=n/\n<=1099511627776:=by simpa[kB]using h
def okI_b:∀{l:ax},okI l=O->∀n∈l,0<=n/\n<=1099511627776
 |[],_,n,a=>by cases a
 |x::r,h,n,a=>by
  simp only[okI,Af]at h;rcases Ba.1 a with rfl|a
  .exact aPD h.1
  .exact okI_b h.2 n a
def _root_.Go.Proofs.YtenkdioaefckoaaGreatDoor.Gan.il(g:Gan):ax:=[g.id,g.ten,g.pods,g.need.a,g.need.b,g.need.c,g.run,g.lev,g.pref]
def _root_.Go.Proofs.YtenkdioaefckoaaGreatDoor.Nod.il(x:Nod):ax:=[x.p+1,x.w,x.n.a,x.n.b,x.n.c,x.b.a,x.b.b,x.b.c,x.l.a,x.l.b,x.l.c]
def _root_.Go.Proofs.YtenkdioaefckoaaGreatDoor.Hos.il(x:Hos):ax:=[x.f,x.b,x.r,x.c.a,x.c.b,x.c.c]
def nodL:bc->ax
 |[]=>[]
 |x::r=>x.il++nodL r
def hosL:List Hos->ax
 |[]=>[]
 |x::r=>x.il++hosL r
def _root_.Go.Proofs.YtenkdioaefckoaaGreatDoor.Con.il(c:Con):ax:=[(Z (nav c.ns):Int)]++nodL c.ns++([(Z (hav c.hs):Int)]++hosL c.hs++[c.half,c.age])
def _root_.Go.Proofs.YtenkdioaefckoaaGreatDoor.Cmd.il(x:Cmd):ax:=x.k::(if x.k==1 then x.c.il else if x.k==2 then x.g.il else if x.k==6 then[]else[x.n])
def aD1{v:V3}(h:okI v.l=O):(0<=v.a/\v.a<=1099511627776)/\(0<=v.b/\v.b<=1099511627776)/\(0<=v.c/\v.c<=1099511627776):=
 ⟨okI_b h _ (by simp[V3.l]),okI_b h _ (by simp[V3.l]),okI_b h _ (by simp[V3.l])⟩
abbrev wrO(bs:ay)(g:Nat):aw:=[Do tWr [G2 0 0,CA 1 (bs.map ub) (.own 1 g)],Fr g 1 5]
def OJ(xs:az):ar 174 [G2 0 0] [Do tWr [G2 0 0,CA 1 xs (.own 1 0)],Fr 0 1 5] (Io (GT [])) [Do tWr [G2 0 0,CA 1 xs (.own 1 0)],Fr 0 1 5]:=by
 refine eA E f174 2 λ_=>?_
 repeat' first|refine pA ?_|exact rfl|refine lA ?_ ?_|intro h
 exact zx [0,1]
def xT(s:ay)(hs:Z s<=1000):ar 112 [G2 0 0,HA s] [Do tWr [By,CA 1 [] .nil]] (Io (GT [ii (Z s),.nilif])) (wrO s 0):=by exact zqca14
def ws_ok(bs s:ay)(hs:Z bs+Z s<=1000000):ar 112 [G2 0 0,HA s] (wrO bs 0) (Io (GT [ii (Z s),.nilif])) (wrO (bs++s) 1):=by exact zqca10
noncomputable abbrev S3:Func:=f166
def A0(l:ax)(hl:Ig (Z (iv l)))(s:∀n∈l,n<=9223372036854775807)(B:ay)(d:Nat)(o:10*Z l<=1000):∀(n i g:Nat) (bs:ay),i+n=Z l->(g=0\/g=1)->(n=0->g=d)->(0<n->d=1)->Z bs+10*n<=100000->bs++pl (l.drop i)=B->
  To E S3 (.full 2 (Io (GT [])) (wrO B d)) (BB S3 [(0,G2 0 0),(6,CA 1 (iv l) J0),(7,GE Is (Z (iv l):Nat)),(8,GE Is i)] (wrO bs g)):=by
 have t:Z (iv l)=Z l:=by simp
 intro n;induction n with
 |zero=>
  exact zqca13
 |succ n r=>
  intro i g bs q f _ k j a;have u:=k o_;subst u;have b:i<Z l:=o_;rw[Ac b]at a;have c:=s l[i] (Av b);generalize p:l[i]=x at a c;have a:bs++(putN x.toNat++pl (l.drop (i+1)))=B:=a;rw[<-Ag]at a;have get:(iv l)[i]? =X (ii x):=(cD b).trans (by rw[p]);have hp:=pn_len c;refine gV ?_;refine aT λh=>gV ?_;refine⟨i,rfl,gV ?_⟩;refine⟨_,get,gV ?_⟩;exact .p (put_ok x) zqca6
def nums_ok(l:ax)(i:l≠[])(d:∀n∈l,n<=9223372036854775807)(a:Z l<=100)(bs:ay)(c:Z bs+10*Z l<=100000):
  ar 166 [G2 0 0,CA 1 (iv l) J0] (wrO bs 0) (Io (GT [])) (wrO (bs++pl l) 1):=by
 have e:Z (iv l)=Z l:=by simp
 have b:0<Z l:=Dp.2 i;refine eA E f166 2 λ_=>?_;exact zqca31
def nums_fresh(k:Int)(a:k<=9223372036854775807):ar 166 [G2 0 0,CA 1 [ii k] J0] [Do tWr [By,CA 1 [] .nil]] (Io (GT [])) (wrO (putN k.toNat) 0):=by have hp:=pn_len a;refine eA E f166 1 λ_=>gV ?_;refine gV ?_;refine Aa (λ_=>?_) (λh=>bv (bm h) s_);refine gV ?_;refine⟨0,rfl,gV ?_⟩;refine⟨_,rfl,gV ?_⟩;refine .p (put_ok k) (gV ?_);refine .sole rfl (.eff [] [0] _ _ rfl (xT _ o_) ?_);exact zqca8
def v3_m{v:V3}(h:okI v.l=O):∀n∈v.l,n<=9223372036854775807:=λn a=>by have:=okI_b h n a;omega
def l3_m{a b c:Int}(h:okI [a,b,c]=O):∀n∈[a,b,c],n<=9223372036854775807:=λn d=>by have:=okI_b h n d;omega
def uO(v:V3)(h:okI v.l=O)(bs:ay)(a:Z bs<=90000):ar 237 [G2 0 0,He v.cs] (wrO bs 0) (Io (GT [])) (wrO (bs++pl v.l) 1):=by refine eA E f237 2 λ_=>gV ?_;refine⟨by decide,gV ?_⟩;refine .eff [2] [0,1] _ _ rfl (aA.strip (nums_ok v.l (by simp[V3.l]) (v3_m h) (by simp[V3.l]) bs (by simp[V3.l];omega))) ?_;exact zqca35
def gan_b{g:Gan}(h:g.ok=O):okI [g.id,g.ten,g.pods]=O/\okI g.need.l=O/\okI [g.run,g.lev,g.pref]=true:=by simp only[Gan.ok,okI,Af,Hz]at h⊢;obtain⟨⟨h1,a,h3,d,c,e⟩,b⟩:=h;exact⟨⟨h1,a,h3⟩,b,d,c,e⟩
def aDX(g:Gan)(h:g.ok=O)(bs:ay)(b:Z bs<=80000):ar 168 [G2 0 0,g.av] (wrO bs 0) (Io (GT [])) (wrO (bs++pl g.il) 1):=by
 obtain⟨h1,a,h3⟩:=gan_b h;have c:=pl_len (l3_m h1);have d:=pl_len (v3_m a);have e:bs++pl g.il=((bs++pl [g.id,g.ten,g.pods])++pl g.need.l)++pl [g.run,g.lev,g.pref]:=by rw[Ag,Ag,<-pl_append,<-pl_append];rfl
 rw[e];simp only[V3.l,Al,Bs]at c d;refine eA E f168 2 λ_=>gV ?_;refine .eff [] [0,1] _ _ rfl (aA.strip (nums_ok [g.id,g.ten,g.pods] s_ (l3_m h1) s_ bs q_)) (gV ?_);refine .eff [] [0,1] _ _ rfl (uO g.need a _ q_) (gV ?_);refine .eff [] [0,1] _ _ rfl (aA.strip (nums_ok [g.run,g.lev,g.pref] s_ (l3_m h3) s_ _ (by simp[V3.l];omega))) ?_;exact zqca35
def aGu{x:Nod}(h:x.ok=O):(-1<=x.p/\x.p<=1099511627776)/\(0<=x.w/\x.w<=1099511627776)/\okI x.n.l=O/\okI x.b.l=O/\okI x.l.l=true:=by simp only[Nod.ok,Af,bo]at h;obtain⟨⟨⟨⟨h1,a⟩,h3⟩,d⟩,c⟩:=h;exact⟨h1,okI_b a _ s_,h3,d,c⟩
def aG8{x:Hos}(h:x.ok=O):okI [x.f,x.b,x.r]=O/\okI x.c.l=true:=by simpa only[Hos.ok,Af]using h
def aNi{l:bc}(h:uK l=O):∀(i:Nat) (a:i<Z l),l[i].ok=true:=by
 induction l with
 |nil=>intro i a;simp at a
 |cons x r b=>
  simp only[uK,Af]at h;intro i a;cases i with
  |zero=>exact h.1
  |succ i=>exact b h.2 i (by simpa using a)
def aNj{l:List Hos}(h:oA l=O):∀(i:Nat) (a:i<Z l),l[i].ok=true:=by
 induction l with
 |nil=>intro i a;simp at a
 |cons x r b=>
  simp only[oA,Af]at h;intro i a;cases i with
  |zero=>exact h.1
  |succ i=>exact b h.2 i (by simpa using a)
theorem il_len(x:Nod)(h:x.ok=O):Z (pl x.il)<=110:=by
 obtain⟨h1,d,h3,c,b⟩:=aGu h
 have:=pl_len (l:=x.il) (λn a=>by
  simp only[Nod.il,Ba,Lz,or_false]at a;have e:=aD1 h3;have f:=aD1 c;have g:=aD1 b
  rcases a with rfl|rfl|rfl|rfl|rfl|rfl|rfl|rfl|rfl|rfl|rfl<;>omega)
 simpa[Nod.il]using this
theorem ih_len(x:Hos)(h:x.ok=O):Z (pl x.il)<=60:=by
 obtain⟨h1,d⟩:=aG8 h
 have:=pl_len (l:=x.il) (λn c=>by
  simp only[Hos.il,Ba,Lz,or_false]at c;have a:=okI_b h1;have i:=aD1 d;have e:=a x.f s_;have j:=a x.b s_;have g:=a x.r s_
  rcases c with rfl|rfl|rfl|rfl|rfl|rfl<;>omega)
 simpa[Hos.il]using this
def aBH(c:Con)(y:(Z (hav c.hs):Int)<=24)(w:oA c.hs=O)(q:okI [c.half,c.age]=O)(B:ay):∀(n i:Nat) (bs:ay),i+n=Z c.hs->Z bs+60*n<=20000->bs++(pl (hosL (c.hs.drop i))++pl [c.half,c.age])=B->
  To E f167 (.full 2 (Io (GT [])) (wrO B 1)) (G0 (stk f167 1) [(0,G2 0 0),(3,G2 2 0),(49,CA 6 (hav c.hs) J0),(50,GE Is (Z (hav c.hs):Nat)),(51,GE Is i)] (wrO bs 1++[Do 30 c.cs])):=by
 have u:Z (hav c.hs)=Z c.hs:=by simp
 have hm:∀n∈[c.half,c.age],n<=9223372036854775807:=λn m=>by have:=okI_b q n m;omega
 intro n;induction n with
 |zero=>
  intro i bs o g a;rw[Ae o_]at a;have a:bs++pl [c.half,c.age]=B:=a;subst a;refine gV ?_;refine aF λh=>gV ?_;exact .eff [] [0,1] _ _ rfl (aA.strip (nums_ok [c.half,c.age] s_ hm s_ bs q_)) zqca35
 |succ n p=>
  intro i bs o g a;have d:i<Z c.hs:=o_;rw[Ac d]at a;have e:=aNj w i d;generalize k:c.hs[i]=x at a e;have a:bs++(pl (x.il++hosL (c.hs.drop (i+1)))++pl [c.half,c.age])=B:=a;obtain⟨h1,j⟩:=aG8 e;have v:=pl_len (l3_m h1);have s:=pl_len (v3_m j);have z:=ih_len x e;simp only[V3.l,Al,Bs]at v s;have ex:bs++pl x.il=(bs++pl [x.f,x.b,x.r])++pl x.c.l:=by rw[Ag,<-pl_append];rfl
  rw[pl_append,Ag,<-Ag,ex]at a;have get:(hav c.hs)[i]? =X x.av:=(oG d).trans (by rw[k]);refine gV ?_;refine aT λh=>gV ?_;refine⟨i,rfl,gV ?_⟩;refine⟨_,get,gV ?_⟩;refine .eff [] [0,1] _ _ rfl (aA.strip (nums_ok [x.f,x.b,x.r] s_ (l3_m h1) s_ bs q_)) (gV ?_);refine .eff [] [0,1] _ _ rfl (uO x.c j _ q_) (gV ?_);refine aJ (gV ?_);refine To.part [0,3,49,50,51] [0,1,2] rfl rfl rfl ?_;exact p (i+1) _ o_ (by rw[<-ex];simp;omega) a
def aBF(c:Con)(g:(Z (nav c.ns):Int)<=12)(s:(Z (hav c.hs):Int)<=24)(j:uK c.ns=O)(G:oA c.hs=O)(A:okI [c.half,c.age]=O)(B:ay):∀(n i:Nat) (bs:ay),i+n=Z c.ns->Z bs+110*n<=10000->
  bs++(pl (nodL (c.ns.drop i))++(pl [(Z (hav c.hs):Int)]++(pl (hosL c.hs)++pl [c.half,c.age])))=B->
  To E f167 (.full 2 (Io (GT [])) (wrO B 1)) (BB f167 [(0,G2 0 0),(3,G2 2 0),(15,CA 11 (nav c.ns) J0),(16,GE Is (Z (nav c.ns):Nat)),(17,GE Is i)] (wrO bs 1++[Do 30 c.cs])):=by
 have D:Z (nav c.ns)=Z c.ns:=by simp
 have F:Z (hav c.hs)=Z c.hs:=by simp
 intro n;induction n with
 |zero=>
  intro i bs u k a;rw[Ae o_]at a;have a:bs++(pl [(Z (hav c.hs):Int)]++(pl (hosL c.hs)++pl [c.half,c.age]))=B:=a;rw[<-Ag]at a;have f:∀n∈[(Z (hav c.hs):Int)],n<=9223372036854775807:=λn g=>by simp at g;omega
  have m:=pl_len f;simp only[Al,Bs]at m;refine gV ?_;refine aF λh=>gV ?_;refine .eff [] [0,1] _ _ rfl (aA.strip (nums_ok [(Z (hav c.hs):Int)] s_ f s_ bs q_)) (gV ?_);refine To.part [0,3,49,50,51] [0,1,2] rfl rfl rfl ?_;exact aBH c s G A B (Z c.hs) 0 _ o_ (by simp only[Ah];omega) a
 |succ n v=>
  intro i bs u k a;have d:i<Z c.ns:=o_;rw[Ac d]at a;have e:=aNi j i d;generalize r:c.ns[i]=x at a e;have a:bs++(pl (x.il++nodL (c.ns.drop (i+1)))++_)=B:=a;obtain⟨h1,H,h3,q,o⟩:=aGu e;have hm:∀n∈[x.p+1,x.w],n<=9223372036854775807:=λn g=>by simp at g;omega
  have m:=pl_len hm;have C:=pl_len (v3_m h3);have y:=pl_len (v3_m q);have z:=pl_len (v3_m o);have I:=il_len x e;simp only[V3.l,Al,Bs]at m C y z;have ex:bs++pl x.il=(((bs++pl [x.p+1,x.w])++pl x.n.l)++pl x.b.l)++pl x.l.l:=by rw[Ag,Ag,Ag,<-pl_append,<-pl_append,<-pl_append];rfl
  rw[pl_append,Ag,<-Ag,ex]at a;have get:(nav c.ns)[i]? =X x.av:=(fP d).trans (by rw[r]);refine gV ?_;refine aT λh=>gV ?_;refine⟨i,rfl,gV ?_⟩;refine⟨_,get,gV ?_⟩;refine aJ (gV ?_);refine .eff [] [0,1] _ _ rfl (aA.strip (nums_ok [x.p+1,x.w] s_ hm s_ bs q_)) (gV ?_);refine .eff [] [0,1] _ _ rfl (uO x.n h3 _ q_) (gV ?_);refine .eff [] [0,1] _ _ rfl (uO x.b q _ (by simp[V3.l];omega)) ?_;refine gV ?_;refine .eff [] [0,1] _ _ rfl (uO x.l o _ (by simp[V3.l];omega)) ?_;refine gV ?_;refine aJ (gV ?_);refine To.part [0,3,15,16,17] [0,1,2] rfl rfl rfl ?_;exact v (i+1) _ o_ (by rw[<-ex];simp;omega) a
def aDY(c:Con)(b:(Z (nav c.ns):Int)<=12)(k:(Z (hav c.hs):Int)<=24)(d:c.tok=O)(bs:ay)(h:Z bs<=100):
  ar 167 [G2 0 0,c.av] (wrO bs 0) (Io (GT [])) (wrO (bs++pl c.il) 1):=by
 have i:Z (nav c.ns)=Z c.ns:=by simp
 simp only[Con.tok,Af]at d;obtain⟨⟨h1,e⟩,h3⟩:=d;have a:∀n∈[(Z (nav c.ns):Int)],n<=9223372036854775807:=λn b=>by simp at b;omega
 have j:=pl_len a;simp only[Al,Bs]at j;refine eA E f167 2 λ_=>gV ?_;refine .eff [] [0,1] _ _ rfl (aA.strip (nums_ok [(Z (nav c.ns):Int)] s_ a s_ bs q_)) (gV ?_);refine To.part [0,3,15,16,17] [0,1,2] rfl rfl rfl ?_;exact aBF c b k h1 e h3 _ (Z c.ns) 0 _ o_ (by simp only[Ah];omega) (by simp only[Con.il,pl_append,Ag,Bz])
structure Told(x:Cmd):Prop where
 k:1<=x.k/\x.k<=6
 c:x.k=1\/x.c.non=O
 g:x.k=2\/x.g.isZ=O
 n:(x.k=3\/x.k=4\/x.k=5)\/x.n=0
 cok:x.c.tok=O
 gok:x.g.ok=O
 nok:0<=x.n/\x.n<=1099511627776
 ln:(Z (nav x.c.ns):Int)<=12
 lh:(Z (hav x.c.hs):Int)<=24
def rJ{b:Bool}{y:Int}(h:(if b then y else 1)=0):b=O/\y=0:=by
 cases b with
 |true=>exact⟨rfl,h⟩
 |false=>cases h
def chk_told{x:Cmd}(h:chk x=0):Told x:=by
 unfold chk at h;obtain⟨h1,h⟩:=rJ h;unfold chk2 at h;obtain⟨h2,h⟩:=rJ h;unfold chk3 at h;obtain⟨h3,h⟩:=rJ h;unfold chk4 at h;obtain⟨h4,h⟩:=rJ h;unfold chkC at h;obtain⟨h5,h⟩:=rJ h;unfold chkG at h;obtain⟨h6,h⟩:=rJ h;unfold chkN at h;obtain⟨h7,h⟩:=rJ h;unfold chkL at h;simp only[Af,Fg,bo,beq_iff_eq]at h1 h2 h3 h4;have h8:decide ((Z (nav x.c.ns):Int)<=12)=O/\decide ((Z (hav x.c.hs):Int)<=24)=true:=by
  split at h
  .rename_i hh;simpa using hh
  .cases h
 exact⟨h1,h2,h3,by
                    rcases h4 with((h4|h4)|h4)|h4
                    .exact .inl (.inl h4)
                    .exact .inl (.inr (.inl h4))
                    .exact .inl (.inr (.inr h4))
                    .exact .inr h4,h5,h6,okI_b h7 _ s_,bn h8.1,bn h8.2⟩
def encB(x:Cmd):ay:=if chk x=0 then pl x.il else[]
def pl_ne(k:Int)(r:ax):pl (k::r)≠[]:=by
 have:1<=Z (putN k.toNat):=by rw[putN];split<;>simp
 intro h;have h1:Z (pl (k::r))=0:=by rw[h];rfl
 simp only[pl,Ah]at h1;omega
def il_cons(x:Cmd)(r:ax)(h:(if x.k==1 then x.c.il else if x.k==2 then x.g.il else if x.k==6 then[]else[x.n])=r):putN x.k.toNat++pl r=pl x.il:=by subst h;rfl
def enc_ok(x:Cmd):bj 106 [x.av] (GT [HA (encB x),ii (chk x)]):=by
 refine c_ f106 λ_=>gV ?_;refine .p (check_ok x) (gV ?_);refine⟨λh=>?_,λh=>?_⟩
 .have h:(chk x !=0)=true:=h;have m:¬ chk x=0:=by simpa using h
  have e:encB x=[]:=bt m;rw[e];refine gW hE ?_;conv=>whnf
 .have h:(chk x !=0)=false:=h;have m:chk x=0:=by simpa using h
  have e:encB x=pl x.il:=bu m;rw[e,m];have T:=chk_told m;have o:x.k<=9223372036854775807:=by have:=T.k;omega
  have hp:=pn_len o;refine gV ?_;refine .eff [] [1] _ _ rfl (aA.strip (nums_fresh x.k o)) (gV ?_);refine Aa (λh1=>?_) (λh1=>?_)
  .have h1:(x.k==1)=true:=h1;have il:=il_cons x x.c.il (by rw[h1];rfl);have a:putN x.k.toNat++pl x.c.il≠[]:=by rw[il];exact pl_ne _ _
   refine gV ?_;exact .eff [] [1,2] _ _ rfl (aDY x.c T.ln T.lh T.cok _ o_) zqca27
  .have h1:(x.k==1)=false:=h1;refine gV ?_;refine Aa (λb=>?_) (λb=>?_)
   .have b:(x.k==2)=true:=b;have il:=il_cons x x.g.il (by rw[h1,b];rfl);have a:putN x.k.toNat++pl x.g.il≠[]:=by rw[il];exact pl_ne _ _
    refine gV ?_;exact .eff [] [1,2] _ _ rfl (aDX x.g T.gok _ o_) zqca27
   .have b:(x.k==2)=false:=b;have l:∀n∈[x.n],n<=9223372036854775807:=λn l=>by have:=T.nok;simp at l;omega
    refine gV ?_;refine Aa (λh3=>?_) (λh3=>?_)
    .have h3:(x.k==3)=true:=h3;have j:(x.k==6)=false:=by have:=eq_of_beq h3;rw[this];rfl
     refine gV ?_;refine Aa (λ_=>?_) (λh=>bv (h3.symm.trans h) d_);exact zqca3
    .have h3:(x.k==3)=false:=h3;refine gV ?_;refine Aa (λd=>?_) (λd=>?_)
     .have d:(x.k==4)=true:=d;have j:(x.k==6)=false:=by have:=eq_of_beq d;rw[this];rfl
      refine gV ?_;refine Aa (λ_=>?_) (λh=>bv (d.symm.trans h) d_);exact zqca3
     .have d:(x.k==4)=false:=d;refine gV ?_;refine Aa (λi=>?_) (λi=>?_)
      .have i:(x.k==5)=true:=i;have j:(x.k==6)=false:=by have:=eq_of_beq i;rw[this];rfl
       exact zqca3
      .have i:(x.k==5)=false:=i;have j:(x.k==6)=true:=by have:=T.k;simp at h1 b h3 d i⊢;omega
       have il:=il_cons x [] (by rw[h1,b,j];rfl);rw[show putN x.k.toNat++pl []=putN x.k.toNat from Ap _]at il;have a:putN x.k.toNat≠[]:=by rw[il];exact pl_ne _ _
       exact zqca27
def aHe(l:ay):∀(f i a:Nat) (rest:ay),i+f=9->rest=l.drop i->i<=Z l->a<2^(7*i)->
  BC E f260 (aRM (aH f i a rest)) [(0,HA l),(5,GE Is a),(10,GE Is (min (Z l:Int) 9)),(11,GE Is i)] []:=by
 intro f;induction f with
 |zero=>
  intro i a rest u g hl p;refine gV ?_;refine aF λh=>gV ?_;rfl
 |succ f w=>
  intro i a rest u g hl p;cases rest with
  |nil=>
   have x:Z l<=i:=by simpa using g.symm
   refine gV ?_;refine aF λh=>gV ?_;rfl
  |cons c r=>
   have q:l[i]? =X c:=by
    have:(l.drop i)[0]? =X c:=by rw[<-g];rfl
    simpa using this
   have v:i<Z l:=(List.getElem?_eq_some_iff.1 q).1;have k:r=l.drop (i+1):=by rw[<-List.drop_drop,<-g];rfl
   have y:2^(7*(i+1))=128*2^(7*i):=by rw[Gd,Ey];omega
   have h3:c.toNat%128<=127:=o_;have z:(c.toNat%128)*2^(7*i)<=127*2^(7*i):=Br _ h3;have B:2^(7*(i+1))<=2^63:=Ej d_ o_;have s:c.toNat<256:=c.toNat_lt;have m:dB .and .u8 (c.toNat:Int) 127=((c.toNat%128:Nat):Int):=by have:=vT .u8 c.toNat 127 (by simp only[aW];omega) d_;rw[show(127:Nat)=2^7-1 from rfl,aNf]at this;exact this
   have j:(7*(i:Int)).toNat=7*i:=o_;have o:((c.toNat%128:Nat):Int)*2^(7*i)=((c.toNat%128*2^(7*i):Nat):Int):=by simp
   have t:dB .or Is (a:Int) ((c.toNat%128*2^(7*i):Nat):Int)=((a+c.toNat%128*2^(7*i):Nat):Int):=by rw[nN Is _ _ (by simp only[aW];omega) (by simp only[aW];omega),WM p]
   refine gV ?_;refine aT λh=>gV ?_;refine⟨i,rfl,gV ?_⟩;refine⟨c,q,gV ?_⟩;refine .inl ⟨by rw[m];exact vL (by simp only[aW];omega),?_⟩;refine gV ?_;refine aJ (gV ?_);refine⟨by omega,gV ?_⟩;refine .inl ⟨⟨by rw[j];simp only[IntKind.bits];omega,by rw[m,j,o];exact vL (by simp only[aW];omega)⟩,?_⟩;refine gV ?_;rw[m,j,o,t];refine⟨λh=>?_,λh=>?_⟩
   .have b:c.toNat<128:=by have:=bn h;omega
    have n:¬ (c.toNat=0/\0<i)->aH (f+1) i a (c::r)=X (a+(c.toNat%128)*2^(7*i),i+1):=λhz=>by rw[aH,bu b,bt hz]
    refine gV ?_;refine Aa (λhz=>?_) (λhz=>?_)
    .have hz:c.toNat=0:=by have hz:((c.toNat:Int)==0)=true:=hz;have:=eq_of_beq hz;omega
     refine gV ?_;refine Aa (λd=>?_) (λd=>?_)
     .have d:0<i:=by have:=bn d;omega
      refine gV ?_;rw[aH,bu b,bu ⟨hz,d⟩];rfl
     .have d:¬ 0<i:=by have:=bm d;omega
      rw[n o_];refine gV ?_;refine aJ (gV ?_);rfl
    .have hz:¬ c.toNat=0:=by have hz:((c.toNat:Int)==0)=false:=hz;intro e;rw[e]at hz;cases hz
     rw[n o_];refine gV ?_;refine aN (gV ?_);refine aJ (gV ?_);rfl
   .have b:¬ c.toNat<128:=by have:=bm h;omega
    rw[aH,bt b];refine gV ?_;refine aJ (gV ?_);refine To.head [0,5,10,11] ?_;exact w (i+1) (a+(c.toNat%128)*2^(7*i)) r o_ k o_ o_
def aHd(l:ay):bj 260 [HA l] (aRM (dF l)):=by refine c_ f260 λ_=>gV ?_;refine To.head [0,5,10,11] ?_;exact aHe l 9 0 0 l rfl rfl (Bn _) d_
def aP{α:Type}{o:Option α}{C:Prop}(a:o=U->C)(h1:∀x,o=X x->C):C:=by
 cases o with
 |none=>exact a rfl
 |some x=>exact h1 x rfl
abbrev tRd:TypeId:=278
abbrev rdO(s:ay):aw:=[Do tRd [HA s]]
abbrev rdU:aw:=[Do tRd [.undef]]
def bT(s:ay):Option (Int×ay):=match dF s with
 |some (n,k)=>X ((n:Int),s.drop k)
 |none=>U
def pO{α:Type}(av:α->aa):Option (α×ay)->Res
 |some (a,_)=>.ret (av a)
 |none=>.pan (bD 10)
def AZ{α:Type}:Option (α×ay)->aw
 |some (_,s)=>rdO s
 |none=>rdU
def bL{s s':ay}{n:Int}(h:bT s=X (n,s')):ar 194 [G2 0 0] (rdO s) (Io (ii n)) (rdO s'):=by
 unfold bT at h;split at h
 .rename_i m k b;cases h;have a:=aHd s;rw[b]at a;have c:=aAR b;refine eA E f194 1 λ_=>gV ?_;refine .p a (gV ?_);refine .p (gC _ _ rfl) (gV ?_);refine⟨k,rfl,gV ?_⟩;refine⟨by omega,gV ?_⟩;exact zx [0]
 .cases h
def bU{s:ay}(h:bT s=U):ar 194 [G2 0 0] (rdO s) (.pan (bD 10)) rdU:=by
 unfold bT at h;split at h
 .cases h
 .rename_i b;have a:=aHd s;rw[b]at a;refine aA.blur (ap:=rdO s) ?_;refine eA E f194 1 λ_=>gV ?_;refine .p a (gV ?_);refine .pan _ (dN _ _ rfl) ?_;exact zx [0]
def dQ(s:ay):Option (Int×ay):=match bT s with
 |some (n,s')=>if decide (n<=(Z s':Int))then X (n,s')else U
 |none=>U
def nP{s s':ay}{n:Int}(h:dQ s=X (n,s')):ar 261 [G2 0 0] (rdO s) (Io (ii n)) (rdO s'):=by
 unfold dQ at h;split at h
 .rename_i m c a;split at h
  .rename_i b;cases h;refine eA E f261 1 λ_=>gV ?_;refine .eff [] [0] _ _ rfl (bL a) (gV ?_);refine .p (gC _ _ b) (gV ?_);exact zx [0]
  .cases h
 .cases h
def kI{s:ay}(h:dQ s=U):ar 261 [G2 0 0] (rdO s) (.pan (bD 10)) rdU:=by
 unfold dQ at h;split at h
 .rename_i m c a;split at h
  .cases h
  .rename_i b;refine aA.blur (ap:=rdO c) ?_;refine eA E f261 1 λ_=>gV ?_;refine .eff [] [0] _ _ rfl (bL a) (gV ?_);refine .pan _ (dN _ _ (by simpa using b)) ?_;exact zx [0]
 .rename_i a;refine eA E f261 1 λ_=>gV ?_;refine .effp [] [0] _ _ rfl (bU a) ?_;exact zx [0]
def qW(s:ay):Option (V3×ay):=match bT s with
 |none=>U
 |some (a,s)=>match bT s with
  |none=>U
  |some (b,s)=>match bT s with
   |none=>U
   |some (c,s)=>X (⟨a,b,c⟩,s)
def Y6(s:ay)(r:Res)(As:aw)(d:pO (λv:V3=>He v.cs) (qW s)=r)(e:AZ (qW s)=As):ar 262 [G2 0 0] (rdO s) r As:=by
 unfold qW at d e;refine eA E f262 1 λ_=>gV ?_;refine gV ?_;refine aY (gV ?_);refine aP (o:=bT s) (λh1=>?_) (λ⟨a,i⟩ h1=>?_)
 .simp only[h1]at d e;have d:Res.pan (bD 10)=r:=d;have e:rdU=As:=e;subst d e;exact zqca21
 simp only[h1]at d e;refine .eff [] [0] _ _ rfl (bL h1) (gV ?_);refine⟨⟨by decide,by decide⟩,gV ?_⟩;refine aJ (gV ?_);refine gV ?_;refine aY (gV ?_);refine aP (o:=bT i) (λh=>?_) (λ⟨b,j⟩ h=>?_)
 .simp only[h]at d e;have d:Res.pan (bD 10)=r:=d;have e:rdU=As:=e;subst d e;refine .effp [] [0] _ _ rfl (bU h) ?_;exact zx [0]
 simp only[h]at d e;refine .eff [] [0] _ _ rfl (bL h) (gV ?_);refine⟨⟨by decide,by decide⟩,gV ?_⟩;refine aJ (gV ?_);refine gV ?_;refine aY (gV ?_);refine aP (o:=bT j) (λh3=>?_) (λ⟨c,k⟩ h3=>?_)
 .simp only[h3]at d e;have d:Res.pan (bD 10)=r:=d;have e:rdU=As:=e;subst d e;exact zqca20
 simp only[h3]at d e;refine .eff [] [0] _ _ rfl (bL h3) (gV ?_);refine⟨⟨by decide,by decide⟩,gV ?_⟩;refine aJ (gV ?_);refine gV ?_;refine aN (gV ?_);subst d e;exact zqca9
def yC{s s':ay}{v:V3}(h:qW s=X (v,s')):ar 262 [G2 0 0] (rdO s) (Io (He v.cs)) (rdO s'):=Y6 s _ _ (by rw[h];rfl) (by rw[h];rfl)
def yD{s:ay}(h:qW s=U):ar 262 [G2 0 0] (rdO s) (.pan (bD 10)) rdU:=Y6 s _ _ (by rw[h];rfl) (by rw[h];rfl)
def rGan(s:ay):Option (Gan×ay):=match bT s with
 |none=>U
 |some (a,s)=>match bT s with
  |none=>U
  |some (b,s)=>match bT s with
   |none=>U
   |some (c,s)=>match qW s with
    |none=>U
    |some (v,s)=>match bT s with
         |none=>U
         |some (d,s)=>match bT s with
          |none=>U
          |some (e,s)=>match bT s with
           |none=>U
           |some (f,s)=>X (⟨a,b,c,v,d,e,f⟩,s)
def P6(s:ay)(r:Res)(As:aw)(h:pO Gan.av (rGan s)=r)(i:AZ (rGan s)=As):ar 196 [G2 0 0] (rdO s) r As:=by
 unfold rGan at h i;refine eA E f196 1 λ_=>gV ?_;refine aP (o:=bT s) (λh1=>?_) (λ⟨a,p⟩ h1=>?_)
 .simp only[h1]at h i;have h:Res.pan (bD 10)=r:=h;have i:rdU=As:=i;subst h i;exact zqca21
 simp only[h1]at h i;refine .eff [] [0] _ _ rfl (bL h1) (gV ?_);refine aP (o:=bT p) (λm=>?_) (λ⟨b,x⟩ m=>?_)
 .simp only[m]at h i;have h:Res.pan (bD 10)=r:=h;have i:rdU=As:=i;subst h i;refine .effp [] [0] _ _ rfl (bU m) ?_;exact zx [0]
 simp only[m]at h i;refine .eff [] [0] _ _ rfl (bL m) (gV ?_);refine aP (o:=bT x) (λh3=>?_) (λ⟨c,w⟩ h3=>?_)
 .simp only[h3]at h i;have h:Res.pan (bD 10)=r:=h;have i:rdU=As:=i;subst h i;exact zqca20
 simp only[h3]at h i;refine .eff [] [0] _ _ rfl (bL h3) (gV ?_);refine aP (o:=qW w) (λl=>?_) (λ⟨v,q⟩ l=>?_)
 .simp only[l]at h i;have h:Res.pan (bD 10)=r:=h;have i:rdU=As:=i;subst h i;refine .effp [] [0] _ _ rfl (yD l) ?_;exact zx [0]
 simp only[l]at h i;refine .eff [] [0] _ _ rfl (yC l) (gV ?_);refine aP (o:=bT q) (λj=>?_) (λ⟨d,u⟩ j=>?_)
 .simp only[j]at h i;have h:Res.pan (bD 10)=r:=h;have i:rdU=As:=i;subst h i;refine .effp [] [0] _ _ rfl (bU j) ?_;exact zx [0]
 simp only[j]at h i;refine .eff [] [0] _ _ rfl (bL j) (gV ?_);refine aP (o:=bT u) (λn=>?_) (λ⟨e,t⟩ n=>?_)
 .simp only[n]at h i;have h:Res.pan (bD 10)=r:=h;have i:rdU=As:=i;subst h i;refine .effp [] [0] _ _ rfl (bU n) ?_;exact zx [0]
 simp only[n]at h i;refine .eff [] [0] _ _ rfl (bL n) (gV ?_);refine aP (o:=bT t) (λk=>?_) (λ⟨f,y⟩ k=>?_)
 .simp only[k]at h i;have h:Res.pan (bD 10)=r:=h;have i:rdU=As:=i;subst h i;refine .effp [] [0] _ _ rfl (bU k) ?_;exact zx [0]
 simp only[k]at h i;refine .eff [] [0] _ _ rfl (bL k) (gV ?_);subst h i;exact zqca9
def DJ{s s':ay}{v:Gan}(h:rGan s=X (v,s')):ar 196 [G2 0 0] (rdO s) (Io v.av) (rdO s'):=P6 s _ _ (by rw[h];rfl) (by rw[h];rfl)
def yR{s:ay}(h:rGan s=U):ar 196 [G2 0 0] (rdO s) (.pan (bD 10)) rdU:=P6 s _ _ (by rw[h];rfl) (by rw[h];rfl)
def bW{s s':ay}{n:Int}(h:bT s=X (n,s')):0<=n/\n<=9223372036854775807/\Z s'+1<=Z s:=by
 unfold bT at h;split at h
 .rename_i m k a;cases h;have:=aAR a;simp only[Dq];omega
 .cases h
def fE{s s':ay}{n:Int}(h:dQ s=X (n,s')):0<=n/\n<=9223372036854775807/\Z s'+1<=Z s/\n<=Z s':=by
 unfold dQ at h;split at h
 .rename_i m c a;split at h
  .rename_i b;cases h;have:=bW a;have:=bn b;omega
  .cases h
 .cases h
def rVec_b{s s':ay}{v:V3}(h:qW s=X (v,s')):Z s'+1<=Z s:=by
 unfold qW at h;split at h
 .cases h
 .rename_i h1;split at h
  .cases h
  .rename_i a;split at h
   .cases h
   .rename_i h3;cases h;have:=bW h1;have:=bW a;have:=bW h3;omega
def aKt(s:ay):Option (Nod×ay):=match bT s with
 |none=>U
 |some (p,s)=>match bT s with
  |none=>U
  |some (w,s)=>match qW s with
   |none=>U
   |some (a,s)=>match qW s with
    |none=>U
    |some (b,s)=>match qW s with
         |none=>U
         |some (c,s)=>X (⟨p-1,w,a,b,c⟩,s)
def yV(s:ay):Option (Hos×ay):=match bT s with
 |none=>U
 |some (f,s)=>match bT s with
  |none=>U
  |some (b,s)=>match bT s with
   |none=>U
   |some (r,s)=>match qW s with
    |none=>U
    |some (c,s)=>X (⟨f,b,r,c⟩,s)
def aKu(ns:bc)(hs:List Hos)(s:ay):Option (Con×ay):=match bT s with
 |none=>U
 |some (a,s)=>match bT s with
  |none=>U
  |some (b,s)=>X (⟨ns,hs,a,b⟩,s)
def rH(ns:bc):Nat->List Hos->ay->Option (Con×ay)
 |0,hs,s=>aKu ns hs s
 |m+1,hs,s=>match yV s with
  |none=>U
  |some (x,s)=>rH ns m (hs++[x]) s
def rHs(ns:bc)(s:ay):Option (Con×ay):=match dQ s with
 |none=>U
 |some (n,s)=>rH ns n.toNat [] s
def rN:Nat->bc->ay->Option (Con×ay)
 |0,ns,s=>rHs ns s
 |m+1,ns,s=>match aKt s with
  |none=>U
  |some (x,s)=>rN m (ns++[x]) s
def H2(s:ay):Option (Con×ay):=match dQ s with
 |none=>U
 |some (n,s)=>rN n.toNat [] s
def aFI(ns:bc)(n:Int)(z:n<=9223372036854775807)(r:Res)(As:aw):∀(m i:Nat) (s:ay) (hs:List Hos),(i+m:Int)=n->Z hs+Z s<=1000000000->pO Con.av (rH ns m hs s)=r->AZ (rH ns m hs s)=As->
  To E f195 (.full 1 r As) (G0 (stk f195 1) [(0,G2 0 0),(2,G2 1 0),(32,GE Is n),(33,GE Is i)] [Do tRd [HA s],Do 30 [CA 11 (nav ns) J0,CA 6 (hav hs) (.own 2 0),ii 0,ii 0],Fr 0 6 132]):=by
 intro m;induction m with
 |zero=>
  intro i s hs u hl d f;unfold rH aKu at d f;refine gV ?_;refine aF λh=>gV ?_;refine aP (o:=bT s) (λh1=>?_) (λ⟨a,k⟩ h1=>?_)
  .exact zqca46
  simp only[h1]at d f;refine .eff [] [0] _ _ rfl (bL h1) (gV ?_);refine aP (o:=bT k) (λg=>?_) (λ⟨b,p⟩ g=>?_)
  .exact zqca33
  simp only[g]at d f;refine .eff [] [0] _ _ rfl (bL g) (gV ?_);subst d f;exact zqca9
 |succ m w=>
  intro i s hs u hl d f;unfold rH yV at d f;have l:Z (hav hs)=Z hs:=by simp
  refine gV ?_;refine aT λh=>gV ?_;refine aP (o:=bT s) (λh1=>?_) (λ⟨a,k⟩ h1=>?_)
  .exact zqca46
  simp only[h1]at d f;refine .eff [] [0] _ _ rfl (bL h1) (gV ?_);refine aP (o:=bT k) (λg=>?_) (λ⟨b,p⟩ g=>?_)
  .exact zqca33
  simp only[g]at d f;refine .eff [] [0] _ _ rfl (bL g) (gV ?_);refine aP (o:=bT p) (λh3=>?_) (λ⟨c,x⟩ h3=>?_)
  .simp only[h3]at d f;have d:Res.pan (bD 10)=r:=d;have f:rdU=As:=f;subst d f;exact zqca20
  simp only[h3]at d f;refine .eff [] [0] _ _ rfl (bL h3) (gV ?_);refine aP (o:=qW x) (λj=>?_) (λ⟨v,q⟩ j=>?_)
  .simp only[j]at d f;have d:Res.pan (bD 10)=r:=d;have f:rdU=As:=f;subst d f;refine .effp [] [0] _ _ rfl (yD j) ?_;exact zx [0]
  simp only[j]at d f;refine .eff [] [0] _ _ rfl (yC j) (gV ?_);have y:=bW h1;have C:=bW g;have B:=bW h3;have A:=rVec_b j;refine Aa ⟨by simp only[maxLen];simp;omega,by simp;omega⟩ ?_;refine gV ?_;refine aJ (gV ?_);refine To.part [0,2,32,33] [0,1,2] rfl rfl rfl ?_;have next:=w (i+1) q (hs++[⟨a,b,c,v⟩]) o_ q_ d f
  have e:hav (hs++[⟨a,b,c,v⟩])=hav hs++[Hos.av ⟨a,b,c,v⟩]:=by simp
  rw[e]at next
  exact next
def aFF(n:Int)(C:n<=9223372036854775807)(r:Res)(As:aw):∀(m i:Nat) (s:ay) (ns:bc),(i+m:Int)=n->Z ns+Z s<=1000000000->pO Con.av (rN m ns s)=r->AZ (rN m ns s)=As->
  To E f195 (.full 1 r As) (BB f195 [(0,G2 0 0),(2,G2 1 0),(6,GE Is n),(7,GE Is i)] [Do tRd [HA s],Do 30 [CA 11 (nav ns) (.own 2 0),CA 6 [] .nil,ii 0,ii 0],Fr 0 11 130]):=by
 intro m;induction m with
 |zero=>
  intro i s ns x hl f g;unfold rN rHs at f g;refine gV ?_;refine aF λh=>gV ?_;refine aP (o:=dQ s) (λh1=>?_) (λ⟨k,q⟩ h1=>?_)
  .simp only[h1]at f g;have f:Res.pan (bD 10)=r:=f;have g:rdU=As:=g;subst f g;exact zqca29
  simp only[h1]at f g;refine .eff [] [0] _ _ rfl (nP h1) (gV ?_);have v:=fE h1;refine To.part [0,2,32,33] [0,1] rfl rfl rfl ?_;refine To.begin 1 1 132 rfl rfl ?_;exact aFI ns k o_ r As k.toNat 0 q [] o_ q_ f g
 |succ m y=>
  intro i s ns x hl f g;unfold rN aKt at f g;have u:Z (nav ns)=Z ns:=by simp
  refine gV ?_;refine aT λh=>gV ?_;refine aP (o:=bT s) (λh1=>?_) (λ⟨a,q⟩ h1=>?_)
  .simp only[h1]at f g;have f:Res.pan (bD 10)=r:=f;have g:rdU=As:=g;subst f g;exact zqca21
  simp only[h1]at f g;refine .eff [] [0] _ _ rfl (bL h1) (gV ?_);have v:=bW h1;refine aJ (gV ?_);refine aP (o:=bT q) (λp=>?_) (λ⟨b,B⟩ p=>?_)
  .simp only[p]at f g;have f:Res.pan (bD 10)=r:=f;have g:rdU=As:=g;subst f g;refine .effp [] [0] _ _ rfl (bU p) ?_;exact zx [0]
  simp only[p]at f g;refine .eff [] [0] _ _ rfl (bL p) (gV ?_);refine aP (o:=qW B) (λh3=>?_) (λ⟨c,A⟩ h3=>?_)
  .simp only[h3]at f g;have f:Res.pan (bD 10)=r:=f;have g:rdU=As:=g;subst f g;refine .effp [] [0] _ _ rfl (yD h3) ?_;exact zx [0]
  simp only[h3]at f g;refine .eff [] [0] _ _ rfl (yC h3) (gV ?_);refine aP (o:=qW A) (λl=>?_) (λ⟨d,w⟩ l=>?_)
  .simp only[l]at f g;have f:Res.pan (bD 10)=r:=f;have g:rdU=As:=g;subst f g;refine .effp [] [0] _ _ rfl (yD l) ?_;exact zx [0]
  simp only[l]at f g;refine .eff [] [0] _ _ rfl (yC l) (gV ?_);refine aP (o:=qW w) (λj=>?_) (λ⟨e,z⟩ j=>?_)
  .simp only[j]at f g;have f:Res.pan (bD 10)=r:=f;have g:rdU=As:=g;subst f g;refine .effp [] [0] _ _ rfl (yD j) ?_;exact zx [0]
  simp only[j]at f g;refine .eff [] [0] _ _ rfl (yC j) (gV ?_);have H:=bW p;have G:=rVec_b h3;have D:=rVec_b l;have F:=rVec_b j;refine Aa ⟨by simp only[maxLen];simp;omega,by simp;omega⟩ ?_;refine gV ?_;refine aJ (gV ?_);refine To.part [0,2,6,7] [0,1,2] rfl rfl rfl ?_;have next:=y (i+1) z (ns++[⟨a-1,b,c,d,e⟩]) o_ q_ f g
  have e:nav (ns++[⟨a-1,b,c,d,e⟩])=nav ns++[Nod.av ⟨a-1,b,c,d,e⟩]:=by simp
  rw[e]at next
  exact next
def QD(s:ay)(hs:Z s<=1000000000)(r:Res)(As:aw)(b:pO Con.av (H2 s)=r)(a:AZ (H2 s)=As):ar 195 [G2 0 0] (rdO s) r As:=by
 unfold H2 at b a;refine eA E f195 1 λ_=>gV ?_;refine aP (o:=dQ s) (λh1=>?_) (λ⟨k,c⟩ h1=>?_)
 .simp only[h1]at b a;have b:Res.pan (bD 10)=r:=b;have a:rdU=As:=a;subst b a;exact zqca29
 simp only[h1]at b a;refine .eff [] [0] _ _ rfl (nP h1) (gV ?_);have d:=fE h1;refine To.part [0,2,6,7] [0,1] rfl rfl rfl ?_;refine To.begin 1 0 130 rfl rfl ?_;exact aFF k o_ r As k.toNat 0 c [] o_ q_ b a
def aKq{s s':ay}(hs:Z s<=1000000000){v:Con}(h:H2 s=X (v,s')):ar 195 [G2 0 0] (rdO s) (Io v.av) (rdO s'):=QD s hs _ _ (by rw[h];rfl) (by rw[h];rfl)
def aFE{s:ay}(hs:Z s<=1000000000)(h:H2 s=U):ar 195 [G2 0 0] (rdO s) (.pan (bD 10)) rdU:=QD s hs _ _ (by rw[h];rfl) (by rw[h];rfl)
def _root_.Go.Proofs.YtenkdioaefckoaaGreatDoor.Con.zero:Con:=⟨[],[],0,0⟩
def H3(s:ay):Option (Cmd×ay):=match bT s with
 |none=>U
 |some (k,s)=>if k==1 then(match H2 s with
   |none=>U
   |some (c,s)=>X (⟨k,c,Gan.zero,0⟩,s))
  else if k==2 then(match rGan s with
   |none=>U
   |some (g,s)=>X (⟨k,Con.zero,g,0⟩,s))
  else if(k==3||k==4)||k==5 then(match bT s with
   |none=>U
   |some (n,s)=>X (⟨k,Con.zero,Gan.zero,n⟩,s))
  else X (⟨k,Con.zero,Gan.zero,0⟩,s)
abbrev zCs:az:=[ii 0,CA 11 [] .nil,CA 6 [] .nil,ii 0,ii 0,ii 0,ii 0,ii 0,ii 0,ii 0,ii 0,ii 0,ii 0,ii 0,ii 0]
abbrev dcO(s:ay):aw:=[Do 47 zCs,Do tRd [HA s],Do 276 [G2 1 0]]
abbrev dcX(x:Cmd)(s:ay):aw:=[Do 47 x.cs,Do tRd [HA s],Do 276 [G2 1 0]]
abbrev dcU:aw:=wM (λ_=>.undef) (dcO [])
def aML{s:ay}(h:bT s=U):ar 193 [G2 2 0,G2 0 0] (dcO s) (.pan (bD 10)) dcU:=by refine aA.blur (ap:=[Do 47 zCs,Do tRd [.undef],Do 276 [G2 1 0]]) ?_;refine eA E f193 3 λ_=>gV ?_;refine .effp [] [1] _ _ rfl (bU h) ?_;exact zx [0,1,2]
def aSs{s a:ay}(hs:Z a<=1000000000)(h:bT s=X (1,a))(b:H2 a=U):ar 193 [G2 2 0,G2 0 0] (dcO s) (.pan (bD 10)) dcU:=by refine aA.blur (ap:=[Do 47 (ii 1::zCs.tail),Do tRd [.undef],Do 276 [G2 1 0]]) ?_;refine eA E f193 3 λ_=>gV ?_;refine .eff [] [1] _ _ rfl (bL h) (gV ?_);refine aY (gV ?_);refine .effp [] [1] _ _ rfl (aFE hs b) ?_;exact zx [0,1,2]
def aTn{s a b:ay}{c:Con}(hs:Z a<=1000000000)(h:bT s=X (1,a))(d:H2 a=X (c,b)):ar 193 [G2 2 0,G2 0 0] (dcO s) (Io (GT [])) (dcX ⟨1,c,Gan.zero,0⟩ b):=by refine eA E f193 3 λ_=>gV ?_;refine .eff [] [1] _ _ rfl (bL h) (gV ?_);refine aY (gV ?_);refine .eff [] [1] _ _ rfl (aKq hs d) (gV ?_);exact zx [0,1,2]
def aSr{s a:ay}(h:bT s=X (2,a))(b:rGan a=U):ar 193 [G2 2 0,G2 0 0] (dcO s) (.pan (bD 10)) dcU:=by refine aA.blur (ap:=[Do 47 (ii 2::zCs.tail),Do tRd [.undef],Do 276 [G2 1 0]]) ?_;refine eA E f193 3 λ_=>gV ?_;refine .eff [] [1] _ _ rfl (bL h) (gV ?_);refine aN (gV ?_);refine aY (gV ?_);refine .effp [] [1] _ _ rfl (yR b) ?_;exact zx [0,1,2]
def aTm{s e d:ay}{g:Gan}(h:bT s=X (2,e))(i:rGan e=X (g,d)):ar 193 [G2 2 0,G2 0 0] (dcO s) (Io (GT [])) (dcX ⟨2,Con.zero,g,0⟩ d):=by refine aA.loose (ap:=[Do 47 [ii 2,CA 11 [] .nil,CA 6 [] .nil,ii 0,ii 0,ii g.id,ii g.ten,ii g.pods,ii g.need.a,ii g.need.b,ii g.need.c,ii g.run,ii g.lev,ii g.pref,ii 0],Do tRd [HA d],Do 276 [G2 1 0]]) ?_;refine eA E f193 3 λ_=>gV ?_;refine .eff [] [1] _ _ rfl (bL h) (gV ?_);refine aN (gV ?_);refine aY (gV ?_);refine .eff [] [1] _ _ rfl (DJ i) (gV ?_);exact zx [0,1,2]
def aSq{s b:ay}{k:Int}(c:k=3\/k=4\/k=5)(h:bT s=X (k,b))(a:bT b=U):ar 193 [G2 2 0,G2 0 0] (dcO s) (.pan (bD 10)) dcU:=by
 rcases c with rfl|rfl|rfl
 .refine aA.blur (ap:=[Do 47 (ii 3::zCs.tail),Do tRd [.undef],Do 276 [G2 1 0]]) ?_;refine eA E f193 3 λ_=>gV ?_;refine .eff [] [1] _ _ rfl (bL h) (gV ?_)
  repeat' first|refine pA ?_|refine .effp [] [1] _ _ rfl (bU a) ?_|exact rfl|refine lA ?_ ?_|intro h
  exact zx [0,1,2]
 .refine aA.blur (ap:=[Do 47 (ii 4::zCs.tail),Do tRd [.undef],Do 276 [G2 1 0]]) ?_;refine eA E f193 3 λ_=>gV ?_;refine .eff [] [1] _ _ rfl (bL h) (gV ?_)
  repeat' first|refine pA ?_|refine .effp [] [1] _ _ rfl (bU a) ?_|exact rfl|refine lA ?_ ?_|intro h
  exact zx [0,1,2]
 .refine aA.blur (ap:=[Do 47 (ii 5::zCs.tail),Do tRd [.undef],Do 276 [G2 1 0]]) ?_;refine eA E f193 3 λ_=>gV ?_;refine .eff [] [1] _ _ rfl (bL h) (gV ?_)
  repeat' first|refine pA ?_|refine .effp [] [1] _ _ rfl (bU a) ?_|exact rfl|refine lA ?_ ?_|intro h
  exact zx [0,1,2]
abbrev nCs(k n:Int):az:=[ii k,CA 11 [] .nil,CA 6 [] .nil,ii 0,ii 0,ii 0,ii 0,ii 0,ii 0,ii 0,ii 0,ii 0,ii 0,ii 0,ii n]
def aTl{s c b:ay}{k n:Int}(d:k=3\/k=4\/k=5)(h:bT s=X (k,c))(a:bT c=X (n,b)):ar 193 [G2 2 0,G2 0 0] (dcO s) (Io (GT [])) (dcX ⟨k,Con.zero,Gan.zero,n⟩ b):=by
 refine aA.loose (ap:=[Do 47 (nCs k n),Do tRd [HA b],Do 276 [G2 1 0]]) ?_;rcases d with rfl|rfl|rfl
 all_goals
  refine eA E f193 3 λ_=>gV ?_;refine .eff [] [1] _ _ rfl (bL h) (gV ?_)
  repeat' first|refine pA ?_|refine .eff [] [1] _ _ rfl (bL a) ?_|exact rfl|refine lA ?_ ?_|intro h
  exact zx [0,1,2]
def aTk{s a:ay}{k:Int}(h1:(k==1)=S)(b:(k==2)=S)(h3:(k==3)=S)(d:(k==4)=S)(c:(k==5)=S)(h:bT s=X (k,a)):
  ar 193 [G2 2 0,G2 0 0] (dcO s) (Io (GT [])) (dcX ⟨k,Con.zero,Gan.zero,0⟩ a):=by
 refine aA.loose (ap:=[Do 47 (nCs k 0),Do tRd [HA a],Do 276 [G2 1 0]]) ?_;refine eA E f193 3 λ_=>gV ?_;refine .eff [] [1] _ _ rfl (bL h) (gV ?_);refine Aa (λh=>bv (h.symm.trans h1) d_) (λ_=>gV ?_);refine Aa (λh=>bv (h.symm.trans b) d_) (λ_=>gV ?_);refine Aa (λh=>bv (h.symm.trans h3) d_) (λ_=>gV ?_);refine Aa (λh=>bv (h.symm.trans d) d_) (λ_=>gV ?_);refine Aa (λh=>bv (h.symm.trans c) d_) (λ_=>gV ?_);exact zx [0,1,2]
def aSp{s s':ay}{x:Cmd}(hs:Z s<=1000000000)(h:H3 s=X (x,s')):ar 193 [G2 2 0,G2 0 0] (dcO s) (Io (GT [])) (dcX x s'):=by
 unfold H3 at h;split at h
 .cases h
 .rename_i k i h1;have g:=bW h1;split at h
  .rename_i a;have a:=eq_of_beq a;subst a;split at h
   .cases h
   .rename_i d;cases h;exact aTn o_ h1 d
  .rename_i c;split at h
   .rename_i a;have a:=eq_of_beq a;subst a;split at h
    .cases h
    .rename_i d;cases h;exact aTm h1 d
   .rename_i e;split at h
    .rename_i a;simp at a;split at h
     .cases h
     .rename_i d;cases h;exact aTl o_ h1 d
    .rename_i b;cases h;simp only[Fg,not_or,Bool.not_eq_true]at c e b;exact aTk c e b.1.1 b.1.2 b.2 h1
def aQt{s:ay}(hs:Z s<=1000000000)(h:H3 s=U):ar 193 [G2 2 0,G2 0 0] (dcO s) (.pan (bD 10)) dcU:=by
 unfold H3 at h;split at h
 .rename_i h1;exact aML h1
 .rename_i k d h1;have c:=bW h1;split at h
  .rename_i a;have a:=eq_of_beq a;subst a;split at h
   .rename_i b;exact aSs o_ h1 b
   .cases h
  .split at h
   .rename_i a;have a:=eq_of_beq a;subst a;split at h
    .rename_i b;exact aSr h1 b
    .cases h
   .split at h
    .rename_i a;simp at a;split at h
     .rename_i b;exact aSq o_ h1 b
     .cases h
    .cases h
abbrev d1V:aa:=.func (.func 193) [] [G2 2 0,G2 0 0]
noncomputable abbrev Et:Env:=Ed [(141,[G2 3 0])]
def hEt:ae Et:=hEd _
def aN8{s s':ay}{x:Cmd}(hs:Z s<=1000000000)(h:H3 s=X (x,s')):ar 192 [d1V] (dcO s) (Io (ii 0)) (dcX x s'):=by
 refine eA E f192 3 λ_=>gV ?_;refine To.defer (f:=141) (args:=[G2 3 0]) _ rfl rfl ?_;refine gW hEt ?_;conv=>whnf
 refine .eff [] [0,1,2] _ _ rfl (aSp hs h) ?_;refine gW hEt ?_;conv=>whnf
 refine To.leave (f:=141) (args:=[G2 3 0]) [] rfl [] [3] rfl (catch_ret 0) ?_;exact zqca17
def aJk{s:ay}(hs:Z s<=1000000000)(h:H3 s=U):ar 192 [d1V] (dcO s) (Io (ii 10)) dcU:=by
 refine eA E f192 3 λ_=>gV ?_;refine To.defer (f:=141) (args:=[G2 3 0]) _ rfl rfl ?_;refine gW hEt ?_;conv=>whnf
 refine .effp [] [0,1,2] _ _ rfl (aQt hs h) ?_;conv=>whnf
 refine To.leave (f:=141) (args:=[G2 3 0]) [] rfl [] [3] rfl (catch_pan 0 10) ?_;exact zqca17
def _root_.Go.Proofs.YtenkdioaefckoaaGreatDoor.Cmd.zero:Cmd:=⟨0,Con.zero,Gan.zero,0⟩
def dec(s:ay):Option Cmd:=match H3 s with
 |some (x,r)=>if r=[]/\chk x=0 then X x else U
 |none=>U
def decX(s:ay):Cmd:=(dec s).getD Cmd.zero
def decE(s:ay):Int:=match dec s with|some _=>0|none=>10
def decode_ok(s:ay)(hs:Z s<=1000000000):bj 134 [HA s] (GT [(decX s).av,ii (decE s)]):=by
 refine c_ f134 λ_=>gV ?_;refine aP (o:=H3 s) (λh=>?_) (λ⟨x,r⟩ h=>?_)
 .have k:decX s=Cmd.zero:=by unfold decX dec;rw[h];rfl
  have i:decE s=10:=by unfold decE dec;rw[h]
  rw[k,i];refine .eff [] [1,2,3] _ _ rfl (aJk hs h) ?_
  repeat' first|refine pA ?_|exact rfl|refine lA ?_ ?_|intro h
 .refine .eff [] [1,2,3] _ _ rfl (aN8 hs h) (gV ?_);refine aN (gV ?_);refine Aa (λa=>?_) (λa=>?_)
  .have a:(!(r==[]))=true:=a;have d:¬ r=[]:=by intro e;rw[e]at a;simp at a
   have b:dec s=none:=by unfold dec;rw[h];exact bt (λh=>d h.1)
   have k:decX s=Cmd.zero:=by unfold decX;rw[b];rfl
   have i:decE s=10:=by unfold decE;rw[b]
   rw[k,i]
   repeat' first|refine pA ?_|exact rfl|refine lA ?_ ?_|intro h
  .have a:(!(r==[]))=false:=a;have d:r=[]:=by simpa using a
   refine gV ?_;refine .p (check_ok x) (gV ?_);refine Aa (λj=>?_) (λj=>?_)
   .have j:(chk x !=0)=true:=j;have c:¬ chk x=0:=by simpa using j
    have b:dec s=none:=by unfold dec;rw[h];exact bt (λh=>c h.2)
    have k:decX s=Cmd.zero:=by unfold decX;rw[b];rfl
    have i:decE s=10:=by unfold decE;rw[b]
    rw[k,i]
    repeat' first|refine pA ?_|exact rfl|refine lA ?_ ?_|intro h
   .have j:(chk x !=0)=false:=j;have c:chk x=0:=by simpa using j
    have b:dec s=X x:=by unfold dec;rw[h];exact bu ⟨d,c⟩
    have k:decX s=x:=by unfold decX;rw[b];rfl
    have i:decE s=0:=by unfold decE;rw[b]
    rw[k,i]
    repeat' first|refine pA ?_|exact rfl|refine lA ?_ ?_|intro h
def bF{n:Int}(a:0<=n)(h:n<=1099511627777)(s:ay):bT (putN n.toNat++s)=X (n,s):=by
 unfold bT;rw[aHf n.toNat s o_]
 grind
def tI{v:V3}(h:okI v.l=O)(s:ay):qW (pl v.l++s)=X (v,s):=by
 obtain⟨h1,d,h3⟩:=aD1 h;have e:pl v.l++s=putN v.a.toNat++(putN v.b.toNat++(putN v.c.toNat++s)):=by simp[pl,V3.l]
 rw[e];unfold qW;rw[bF h1.1 o_];dsimp only;rw[bF d.1 o_];dsimp only;rw[bF h3.1 o_]
def pQ{g:Gan}(h:g.ok=O)(s:ay):rGan (pl g.il++s)=X (g,s):=by
 obtain⟨h1,b,h3⟩:=gan_b h;have c:=okI_b h1 g.id s_;have i:=okI_b h1 g.ten s_;have d:=okI_b h1 g.pods s_;have j:=okI_b h3 g.run s_;have a:=okI_b h3 g.lev s_;have f:=okI_b h3 g.pref s_;have e:pl g.il++s=putN g.id.toNat++(putN g.ten.toNat++(putN g.pods.toNat++(pl g.need.l++(putN g.run.toNat++(putN g.lev.toNat++(putN g.pref.toNat++s)))))):=by simp[pl,Gan.il,V3.l]
 rw[e];unfold rGan;rw[bF c.1 o_];dsimp only;rw[bF i.1 o_];dsimp only;rw[bF d.1 o_];dsimp only;rw[tI b];dsimp only;rw[bF j.1 o_];dsimp only;rw[bF a.1 o_];dsimp only;rw[bF f.1 o_]
def aFP{x:Nod}(h:x.ok=O)(s:ay):aKt (pl x.il++s)=X (x,s):=by
 obtain⟨h1,a,h3,d,c⟩:=aGu h;have e:pl x.il++s=putN (x.p+1).toNat++(putN x.w.toNat++(pl x.n.l++(pl x.b.l++(pl x.l.l++s)))):=by simp[pl,Nod.il,V3.l]
 rw[e];unfold aKt;rw[bF o_ o_];dsimp only;rw[bF a.1 o_];dsimp only;rw[tI h3];dsimp only;rw[tI d];dsimp only;rw[tI c];simp
def yU{x:Hos}(h:x.ok=O)(s:ay):yV (pl x.il++s)=X (x,s):=by
 obtain⟨h1,a⟩:=aG8 h;have d:=okI_b h1 x.f s_;have i:=okI_b h1 x.b s_;have g:=okI_b h1 x.r s_;have e:pl x.il++s=putN x.f.toNat++(putN x.b.toNat++(putN x.r.toNat++(pl x.c.l++s))):=by simp[pl,Hos.il,V3.l]
 rw[e];unfold yV;rw[bF d.1 o_];dsimp only;rw[bF i.1 o_];dsimp only;rw[bF g.1 o_];dsimp only;rw[tI a]
def putN_pos(n:Nat):1<=Z (putN n):=by rw[putN];split<;>simp
def RM:∀(l:bc),Z l<=Z (pl (nodL l))
 |[]=>by simp
 |x::r=>by
  have h1:=RM r;have a:=putN_pos (x.p+1).toNat;simp only[nodL,pl_append,Ah,Al];have:1<=Z (pl x.il):=by simp only[Nod.il,pl,Ah];omega
  omega
def SE:∀(l:List Hos),Z l<=Z (pl (hosL l))
 |[]=>by simp
 |x::r=>by
  have h1:=SE r;have a:=putN_pos x.f.toNat;simp only[hosL,pl_append,Ah,Al];have:1<=Z (pl x.il):=by simp only[Hos.il,pl,Ah];omega
  omega
def gI{n:Int}(a:0<=n)(h:n<=1099511627777)(s:ay)(hs:n<=Z s):dQ (putN n.toNat++s)=X (n,s):=by unfold dQ;rw[bF a h];dsimp only;rw[bu (by simpa using hs)]
def aFQ:∀(l:bc) (a:bc) (s:ay),uK l=O->rN (Z l) a (pl (nodL l)++s)=rHs (a++l) s
 |[],a,s,_=>by simp[rN,nodL,pl]
 |x::r,a,s,h=>by
  simp only[uK,Af]at h;have e:pl (nodL (x::r))++s=pl x.il++(pl (nodL r)++s):=by simp[nodL,pl_append]
  rw[e,Al];unfold rN;rw[aFP h.1];dsimp only;rw[aFQ r (a++[x]) s h.2];simp
def E8(ns:bc):∀(l:List Hos) (a:List Hos) (s:ay),oA l=O->rH ns (Z l) a (pl (hosL l)++s)=aKu ns (a++l) s
 |[],a,s,_=>by simp[rH,hosL,pl]
 |x::r,a,s,h=>by
  simp only[oA,Af]at h;have e:pl (hosL (x::r))++s=pl x.il++(pl (hosL r)++s):=by simp[hosL,pl_append]
  rw[e,Al];unfold rH;rw[yU h.1];dsimp only;rw[E8 ns r (a++[x]) s h.2];simp
def QJ{c:Con}(h:c.tok=O)(i:Z c.ns<=12)(l:Z c.hs<=24)(s:ay):H2 (pl c.il++s)=X (c,s):=by
 simp only[Con.tok,Af]at h;obtain⟨⟨h1,a⟩,h3⟩:=h;have b:=okI_b h3 c.half s_;have g:=okI_b h3 c.age s_;have f:Z (nav c.ns)=Z c.ns:=by simp
 have d:Z (hav c.hs)=Z c.hs:=by simp
 have j:=RM c.ns;have k:=SE c.hs;have e:pl c.il++s=putN (Z (nav c.ns):Int).toNat++(pl (nodL c.ns)++(putN (Z (hav c.hs):Int).toNat++(pl (hosL c.hs)++(putN c.half.toNat++(putN c.age.toNat++s))))):=by simp[pl,pl_append,Con.il]
 rw[e];unfold H2;rw[gI o_ o_ _ (by simp only[Ah];omega)];dsimp only;rw[Bm,f,aFQ c.ns [] _ h1];unfold rHs;rw[gI o_ o_ _ (by simp only[Ah];omega)];dsimp only;rw[Bm,d,E8 _ c.hs [] _ a];unfold aKu;rw[bF b.1 o_];dsimp only;rw[bF g.1 o_];simp
def aIn{c:Con}(h:c.non=O):c=Con.zero:=by exact zqca12
def SQ{g:Gan}(h:g.isZ=O):g=Gan.zero:=Gan.eqb_eq.1 h
def rCmd_put{x:Cmd}(T:Told x):H3 (pl x.il)=X (x,[]):=by
 obtain⟨k,c,g,n⟩:=x;have v:Z (nav c.ns)=Z c.ns:=by simp
 have u:Z (hav c.hs)=Z c.hs:=by simp
 have r:(Z (nav c.ns):Int)<=12:=T.ln;have t:(Z (hav c.hs):Int)<=24:=T.lh;have q:1<=k/\k<=6:=T.k;have p:k=1\/c.non=true:=T.c;have i:k=2\/g.isZ=true:=T.g;have d:(k=3\/k=4\/k=5)\/n=0:=T.n;have h:0<=n/\n<=1099511627776:=T.nok;have cok:c.tok=true:=T.cok;have gok:g.ok=true:=T.gok;clear T;have e:pl (Cmd.il ⟨k,c,g,n⟩)=putN k.toNat++pl (if k==1 then c.il else if k==2 then g.il else if k==6 then[]else[n]):=rfl;rw[e];unfold H3;rw[bF o_ o_];dsimp only;rcases p with rfl|f
 .have b:g=Gan.zero:=SQ (i.resolve_left o_);have a:n=0:=d.resolve_left o_;subst b a;have:=QJ cok o_ o_ []
  grind
 .have f:c=Con.zero:=aIn f;subst f;rcases i with rfl|b
  .have a:n=0:=d.resolve_left o_;subst a;have:=pQ gok []
   grind
  .have b:g=Gan.zero:=SQ b;subst b;have one:bT (pl [n])=X (n,[]):=bF h.1 o_ [];have o:(match bT (pl [n])with|none=>U|some (n,s)=>X ((⟨3,Con.zero,Gan.zero,n⟩:Cmd),s))=X (⟨3,Con.zero,Gan.zero,n⟩,[]):=by rw[one]
   have l:(match bT (pl [n])with|none=>U|some (n,s)=>X ((⟨4,Con.zero,Gan.zero,n⟩:Cmd),s))=X (⟨4,Con.zero,Gan.zero,n⟩,[]):=by rw[one]
   have m:(match bT (pl [n])with|none=>U|some (n,s)=>X ((⟨5,Con.zero,Gan.zero,n⟩:Cmd),s))=X (⟨5,Con.zero,Gan.zero,n⟩,[]):=by rw[one]
   have j:k=1\/k=2\/k=3\/k=4\/k=5\/k=6:=o_;rcases j with rfl|rfl|rfl|rfl|rfl|rfl
   .have a:n=0:=d.resolve_left o_;subst a;have:=QJ (c:=Con.zero) rfl d_ d_ []
    grind
   .have a:n=0:=d.resolve_left o_;subst a;have:=pQ (g:=Gan.zero) rfl []
    grind
   .exact o
   .exact l
   .exact m
   .have a:n=0:=d.resolve_left o_;subst a;rfl
def dec_enc{x:Cmd}(h:chk x=0):decX (encB x)=x/\decE (encB x)=0:=by
 have e:encB x=pl x.il:=bu h;have a:dec (encB x)=X x:=by unfold dec;rw[e,rCmd_put (chk_told h)];exact bu ⟨rfl,h⟩
 unfold decX decE;rw[a];exact⟨rfl,rfl⟩
end C8
namespace SW
open Go.RowKit
set_option maxRecDepth 100000
abbrev tWr:TypeId:=195
def zC:liesAt Tryz.prog Tryz.prog.depth tWr (2/Tryz.prog.cellsOf tWr) 0 193 1=true:=by kernel_rfl
def yM:(Tryz.prog.info? 193).map (·.size)=X 2:=by kernel_rfl
def O4:Tryz.prog.underlying 191=X (.pointer 193):=by kernel_rfl
def O3:Tryz.prog.underlying 319=X .unsafePointer:=by kernel_rfl
def S0:Tryz.prog.funcs[244]? =X f244:=by kernel_rfl
def gO(b:Nat)(w:World)(h:w.cell? ⟨b,0,U⟩=X (.pointer U))(a:w.shape? b=X (tWr,2))(g:w.frozen? ⟨b,0,U⟩=S):
  Calls Tryz.prog 174 #[.pointer (X ⟨b,0,U⟩)] w λe w'=>e= .returned (.tuple #[])/\w'=w.setCell ⟨b,0,U⟩ (.pointer (X ⟨b,0,U⟩)):=by
 obtain⟨j,d,c⟩:=Option.map_eq_some_iff.1 yM
 go_enter Tryz.func174,Tryz.ntmps174
 go_wp2
 rw[Lib.run_to_unsafe w ⟨b,0,U⟩ O4 O3 d (by rw[c];decide) a (Ma 1)];simp only[Es];rw[Oper.upon_value]
 go_wp2
 rw[run_callFunc_extern S0 (by kernel_rfl) (by kernel_rfl) (by kernel_rfl) (e:=Extern.AbiNoEscape.same) (by kernel_rfl)];rw[Lib.run_noEscape];simp only[Es];rw[Oper.upon_value]
 go_wp2
 rw[Lib.run_from_unsafe w ⟨b,0,U⟩ O3 O4 d a zC];simp only[Es];rw[Oper.upon_value]
 go_wp2
 go_end0;exact⟨rfl,rfl⟩
def aD7:Tryz.prog.underlying 261=X (.pointer 5):=by kernel_rfl
def aID:Tryz.prog.cellsOf 5=1:=by kernel_rfl
def pG(b g cap:Nat)(p:Value)(a:Array Value)(l:ay)(w:World)(d:w.heap[b]? =X (.cells #[p,.slice (X ⟨g,0,U⟩) (Z l) cap] tWr (0,0)))(u:w.heap[g]? =X (.cells a 5 (0,0)))(o:l≠[])
  (n:Z l<=cap) (h:cap<=maxLen) (s:a.size=cap) (c:∀(j:Nat) x,l[j]? =X x->w.cell? ⟨g,j,U⟩=X (.int .u8 x.toNat)):
  Calls Tryz.prog 115 #[.pointer (X ⟨b,0,U⟩)] w λe w'=>e= .returned (.string ⟨l.toArray⟩)/\LV g (Z l) w w':=by
 have i:Z l≠0:=by simpa using o
 have y:w.drew.cell? ⟨b,1,U⟩=X (.slice (X ⟨g,0,U⟩) (Z l) cap):=by exact zqca37
 have r:(Iu #[109] 261 #[.slice (X ⟨g,0,U⟩) (Z l) cap]).run Tryz.prog w.drew= .ok (.pointer (X ⟨g,0,U⟩)) w.drew:=
  Lib.run_unsafeSliceData_row _ _ _ _ _ _ o_
 have v:(Jw #[261,3] 9 #[.pointer (X ⟨g,0,U⟩),.int .i64 (Z l)]).run Tryz.prog w.drew= .ok (.string ⟨l.toArray⟩) (w.drew.freeze ⟨g,0,U⟩ (Z l)):=by exact zqca16
 have m:Tryz.prog.follows Departure.mixedOrders=true:=hE.mix
 go_enter Tryz.func115,Tryz.ntmps115
 go_wp2
 go_region_o
 all_goals (go_wp2;go_ret;exact⟨rfl,XA i⟩)
def cc_fresh(s:aa):ar 174 [G2 0 0] [Do tWr [By,s]] (Io (GT [])) [Do tWr [G2 0 0,s]]:=
 oZ (λ_ _=>by rfl) gO s
def str_ok(l:ay)(a:l≠[])(p:aa):ar 115 [G2 0 0] [Do tWr [p,CA 1 (l.map ub) (.own 1 0)],Fr 0 1 5] (Io (HA l)) [.dead,.dead]:=
 nR (λ_ _=>by rfl) pG l a p
open C8 (pl putN put_ok pn_len)
set_option maxRecDepth 10000
abbrev wrO(bs:ay)(g:Nat):aw:=[Do tWr [G2 0 0,CA 1 (bs.map ub) (.own 1 g)],Fr g 1 5]
def OJ(xs:az):ar 174 [G2 0 0] [Do tWr [G2 0 0,CA 1 xs (.own 1 0)],Fr 0 1 5] (Io (GT [])) [Do tWr [G2 0 0,CA 1 xs (.own 1 0)],Fr 0 1 5]:=by
 refine eA E f174 2 λ_=>?_
 repeat' first|refine pA ?_|exact rfl|refine lA ?_ ?_|intro h
 exact zx [0,1]
def xT(s:ay)(hs:Z s<=1000):ar 112 [G2 0 0,HA s] [Do tWr [By,CA 1 [] .nil]] (Io (GT [ii (Z s),.nilif])) (wrO s 0):=by exact zqca14
def ws_ok(bs s:ay)(hs:Z bs+Z s<=1000000):ar 112 [G2 0 0,HA s] (wrO bs 0) (Io (GT [ii (Z s),.nilif])) (wrO (bs++s) 1):=by exact zqca10
noncomputable abbrev S3:Func:=f111
def A0(l:ax)(hl:Ig (Z (iv l)))(s:∀n∈l,n<=9223372036854775807)(B:ay)(d:Nat)(o:10*Z l<=1000):∀(n i g:Nat) (bs:ay),i+n=Z l->(g=0\/g=1)->(n=0->g=d)->(0<n->d=1)->Z bs+10*n<=100000->bs++pl (l.drop i)=B->
  To E S3 (.full 2 (Io (GT [])) (wrO B d)) (BB S3 [(0,G2 0 0),(6,CA 1 (iv l) J0),(7,GE Is (Z (iv l):Nat)),(8,GE Is i)] (wrO bs g)):=by
 have t:Z (iv l)=Z l:=by simp
 intro n;induction n with
 |zero=>
  exact zqca13
 |succ n r=>
  intro i g bs q f _ k j a;have u:=k o_;subst u;have b:i<Z l:=o_;rw[Ac b]at a;have c:=s l[i] (Av b);generalize p:l[i]=x at a c;have a:bs++(putN x.toNat++pl (l.drop (i+1)))=B:=a;rw[<-Ag]at a;have get:(iv l)[i]? =X (ii x):=(cD b).trans (by rw[p]);have hp:=pn_len c;refine gV ?_;refine aT λh=>gV ?_;refine⟨i,rfl,gV ?_⟩;refine⟨_,get,gV ?_⟩;exact .p (C8.put_ok x) zqca6
def nums_ok(l:ax)(i:l≠[])(d:∀n∈l,n<=9223372036854775807)(a:Z l<=100)(bs:ay)(c:Z bs+10*Z l<=100000):
  ar 111 [G2 0 0,CA 1 (iv l) J0] (wrO bs 0) (Io (GT [])) (wrO (bs++pl l) 1):=by
 have e:Z (iv l)=Z l:=by simp
 have b:0<Z l:=Dp.2 i;refine eA E f111 2 λ_=>?_;exact zqca31
def nums_fresh(k:Int)(a:k<=9223372036854775807):ar 111 [G2 0 0,CA 1 [ii k] J0] [Do tWr [By,CA 1 [] .nil]] (Io (GT [])) (wrO (putN k.toNat) 0):=by have hp:=pn_len a;refine eA E f111 1 λ_=>gV ?_;refine gV ?_;refine Aa (λ_=>?_) (λh=>bv (bm h) s_);refine gV ?_;refine⟨0,rfl,gV ?_⟩;refine⟨_,rfl,gV ?_⟩;refine .p (C8.put_ok k) (gV ?_);refine .sole rfl (.eff [] [0] _ _ rfl (xT _ o_) ?_);exact zqca8
end SW
def KP(x i:Nat):UInt8:=Dn (x/2^(8*i)%256)
def IA(x i:Nat):ay:=(Df i).map (KP x)
def zR(x:Nat):ay:=IA x 8
def lF(x i:Nat):Z (IA x i)=i:=by simp[IA]
def KO(x i:Nat):IA x (i+1)=IA x i++[KP x i]:=by simp[IA,List.range_succ]
def aTg(x i:Nat):IntKind.u8.wrap ((x:Int).fdiv (2^(8*i)))=((((KP x i).toNat:Nat)):Int):=by
 rw[Ea _ (by exact Int.le_of_lt (Int.pow_pos d_))];have:(x:Int)/2^(8*i)=((x/2^(8*i):Nat):Int):=by simp
 rw[this,LW,KP,Gx,Nat.mod_mod]
def aCD(x:Nat):∀(m i:Nat) (row:az),i+m=8->row=(IA x i).map ub++Ak m (GE .u8 0)->
  BC E f113 (HA (zR x)) [(0,GE IH x),(3,.row 0 0),(7,GE Is 8),(8,GE Is i)] [.row 0 1 5 row]:=by
 intro m;induction m with
 |zero=>
  intro i row d a;have e:i=8:=o_;subst e;subst a;refine gV ?_;refine aF λh=>gV ?_;refine Aj (IA x 8) (Aa s_ (Aa (by simp[lF]) (gV ?_)));rfl
 |succ m c=>
  intro i row d a;have b:Z row=8:=by rw[a];simp[lF];omega
  have f:(8*(i:Int)).toNat=8*i:=o_;have g:=aTg x i
  have next:=c (i+1) (row.set i (ub (KP x i))) o_ (by
   rw[a,KO,Bh,List.set_append_right _ _ (by simp[lF])]
   simp[lF,List.replicate_succ])
  refine gV ?_;refine aT λh=>?_
  repeat' first|refine pA ?_|refine @Jl (inR IntKind.u8 _/\_) _ ?_|refine aJ ?_|refine Aa (Aa (show(0:Int)<=8*(i:Int) by omega) (show(8*(i:Int)).toNat<=64 by omega)) ?_|refine⟨i,rfl,?_⟩|refine Aa (show i<Z row by omega) ?_|exact rfl|refine lA ?_ ?_|intro h
  refine To.part [0,3,7,8] [0] rfl rfl rfl ?_;rw[f,g];exact next
def aKJ(x:Nat):bj 113 [GE IH x] (HA (zR x)):=by
 have next:=aCD x 8 0 (Ak 8 (GE .u8 0)) rfl rfl
 refine c_ f113 λ_=>?_
 repeat' first|refine pA ?_|exact rfl|refine lA ?_ ?_|intro h
 exact To.part [0,3,7,8] [0] rfl rfl rfl next
namespace C8
def RG(a b c:Int)(d:a<=9223372036854775807)(e:b<=9223372036854775807)(i:c<=9223372036854775807):ar 166 [G2 0 0,CA 1 [ii a,ii b,ii c] J0] [Do tWr [By,CA 1 [] .nil]] (Io (GT [])) (wrO (putN a.toNat++putN b.toNat++putN c.toNat) 0):=by have l:=pn_len d;have k:=pn_len e;have j:=pn_len i;refine eA E f166 1 λ_=>gV ?_;refine gV ?_;refine Aa (λ_=>?_) (λh=>bv (bm h) s_);refine gV ?_;refine⟨0,rfl,gV ?_⟩;refine⟨_,rfl,gV ?_⟩;refine .p (put_ok _) (gV ?_);refine .sole rfl (.eff [] [0] _ _ rfl (xT _ o_) (gV ?_));refine aJ (gV ?_);refine gV ?_;refine Aa (λ_=>?_) (λh=>bv (bm h) s_);refine gV ?_;refine⟨1,rfl,gV ?_⟩;refine⟨_,rfl,gV ?_⟩;refine .p (put_ok _) (gV ?_);refine .sole rfl (.eff [] [0,1] _ _ rfl (ws_ok _ _ o_) (gV ?_));refine aJ (gV ?_);refine gV ?_;refine Aa (λ_=>?_) (λh=>bv (bm h) s_);refine gV ?_;refine⟨2,rfl,gV ?_⟩;refine⟨_,rfl,gV ?_⟩;refine .p (put_ok _) (gV ?_);refine .sole rfl (.eff [] [0,1] _ _ rfl (ws_ok _ _ q_) ?_);exact zqca8
def OX(g:Gan)(h:g.ok=O):ar 168 [G2 0 0,g.av] [Do tWr [By,CA 1 [] .nil]] (Io (GT [])) (wrO (pl g.il) 0):=by
 obtain⟨h1,a,h3⟩:=gan_b h;have b:=l3_m h1 g.id s_;have d:=l3_m h1 g.ten s_;have c:=l3_m h1 g.pods s_;have m:=pn_len b;have k:=pn_len d;have j:=pn_len c;have i:=pl_len (v3_m a);simp only[V3.l,Al,Bs]at i;have e:pl g.il=(putN g.id.toNat++putN g.ten.toNat++putN g.pods.toNat)++pl g.need.l++pl [g.run,g.lev,g.pref]:=by simp[pl,Gan.il,V3.l]
 rw[e];refine eA E f168 1 λ_=>gV ?_;refine .eff [] [0] _ _ rfl (aA.strip (RG g.id g.ten g.pods b d c)) (gV ?_);refine .eff [] [0,2] _ _ rfl (uO g.need a _ q_) (gV ?_);refine .eff [] [0,2] _ _ rfl (aA.strip (nums_ok [g.run,g.lev,g.pref] s_ (l3_m h3) s_ _ (by simp[V3.l];omega))) ?_;refine gV ?_;refine⟨[],[0,2],⟨rfl,rfl⟩,?_⟩;exact⟨rfl,rfl⟩
def pg_ok(g:Gan)(h:g.ok=O):bj 114 [g.av] (HA (pl g.il)):=by have a:pl g.il≠[]:=pl_ne _ _;refine c_ f114 λ_=>gV ?_;refine .eff [] [1] _ _ rfl (OX g h) (gV ?_);refine .eff [] [1,2] _ _ rfl (str_ok _ a _) ?_;refine gW hE ?_;conv=>whnf
end C8
def Sta.cmd(s:Sta):Cmd:=⟨1,s.c,Gan.zero,0⟩
def oY(s:Sta):ay:=C8.encB s.cmd
def A5:a6->ay
 |[]=>[]
 |x::r=>zR x++A5 r
def wB:ba->ay
 |[]=>[]
 |x::r=>(C8.pl x.g.il++C8.pl [x.seq,x.at'])++wB r
def qV:a7->ay
 |[]=>[]
 |x::r=>(C8.pl x.g.il++C8.pl [x.seq,x.at',x.st,x.fl]++C8.pl x.hs)++qV r
def dK(s:Sta):ay:=C8.putN (Z (oY s))++oY s++C8.pl [s.now,s.nxt,(Z s.hist:Int)]++A5 s.hist++C8.pl [(Z s.pend:Int)]++wB s.pend++C8.pl [(Z s.run:Int)]++qV s.run
structure Wr(s:Sta):Prop where
 con:Z (oY s)<=10000
 nums:0<=s.now/\s.now<=1099511627776/\0<=s.nxt/\s.nxt<=1099511627776
 his:Z s.hist<=100
 pen:Z s.pend<=32
 run:Z s.run<=32
 pg:∀x∈s.pend,x.g.ok=O/\okI [x.seq,x.at']=O
 rg:∀x∈s.run,x.g.ok=O/\okI [x.seq,x.at',x.st,x.fl]=O/\okI x.hs=O/\x.hs≠[]/\Z x.hs<=16
abbrev enO(bs:ay)(g:Nat):aw:=SW.wrO bs g
def zL(g:Gan)(h:g.ok=O):Z (C8.pl g.il)<=90:=by
 obtain⟨h1,b,h3⟩:=C8.gan_b h;have d:=C8.pl_len (C8.l3_m h1);have c:=C8.pl_len (C8.v3_m b);have a:=C8.pl_len (C8.l3_m h3);have e:C8.pl g.il=C8.pl [g.id,g.ten,g.pods]++C8.pl g.need.l++C8.pl [g.run,g.lev,g.pref]:=by simp[C8.pl,Gan.il,V3.l]
 simp only[V3.l,Al,Bs]at d c a;rw[e,Ah,Ah];simp only[V3.l];omega
def oT{l:ax}(h:okI l=O):∀n∈l,n<=9223372036854775807:=λn a=>by have:=C8.okI_b h n a;omega
def aMe(s:Sta)(w:Wr s)(B:ay)(e:B≠[]):∀(m i:Nat) (bs:ay),i+m=Z s.run->Z bs+300*m<=40000->bs++qV (s.run.drop i)=B->
  To E f67 (.pure (Io (GT [HA B,ii 0]))) (G0 (stk f67 2) [(7,G2 0 0),(97,CA 14 (rav s.run) J0),(98,GE Is (Z (rav s.run):Nat)),(99,ii (i:Int))] (enO bs 0)):=by
 have l:Z (rav s.run)=Z s.run:=by simp
 have r:=w.run;intro m;induction m with
 |zero=>
  intro i bs n j a;rw[Ae o_]at a;have a:bs++[]=B:=a;rw[Ap]at a;subst a;refine gV ?_;refine aF λh=>gV ?_;refine .eff [] [0,1] _ _ rfl (SW.str_ok _ e _) ?_;refine gW hE ?_;conv=>whnf
 |succ m o=>
  intro i bs n j a;have b:i<Z s.run:=o_;rw[Ac b]at a;have get:=cB b;obtain⟨c,d,f,k,t⟩:=w.rg s.run[i] (Av b);generalize s.run[i]=x at a get c d f k t;have a:bs++((C8.pl x.g.il++C8.pl [x.seq,x.at',x.st,x.fl]++C8.pl x.hs)++qV (s.run.drop (i+1)))=B:=a;rw[<-Ag,<-Ag,<-Ag]at a;have v:=zL x.g c;have q:=C8.pl_len (oT d);have u:=C8.pl_len (oT f);simp only[Al,Bs]at q;have hp:=C8.pg_ok x.g c;have h1:=SW.ws_ok bs (C8.pl x.g.il) o_;have p:=SW.nums_ok [x.seq,x.at',x.st,x.fl] s_ (oT d) s_ (bs++C8.pl x.g.il) q_;have h3:=SW.nums_ok x.hs k (oT f) o_ (bs++C8.pl x.g.il++C8.pl [x.seq,x.at',x.st,x.fl]) (by simp only[Ah];omega);have next:=o (i+1) _ o_ (by simp only[Ah];omega) a
  refine gV ?_;refine aT λh=>gV ?_;refine⟨i,rfl,gV ?_⟩;refine⟨_,get,gV ?_⟩;refine .p hp (gV ?_);refine .sole rfl (.eff [] [0,1] _ _ rfl h1 (gV ?_));refine .eff [] [0,1] _ _ rfl (aA.strip p) (gV ?_);refine .eff [] [0,1] _ _ rfl h3 (gV ?_);refine aJ (gV ?_);exact To.part [7,97,98,99] [0,1] rfl rfl rfl next
def aMf(s:Sta)(w:Wr s)(B:ay)(f:B≠[]):∀(m i:Nat) (bs:ay),i+m=Z s.pend->Z bs+150*m<=20000->bs++wB (s.pend.drop i)++(C8.pl [(Z s.run:Int)]++qV s.run)=B->
  To E f67 (.pure (Io (GT [HA B,ii 0]))) (G0 (stk f67 1) [(1,.ptr s.cs),(7,G2 0 0),(69,CA 11 (pnv s.pend) J0),(70,GE Is (Z (pnv s.pend):Nat)),(71,ii (i:Int))] (enO bs 0)):=by
 have l:Z (pnv s.pend)=Z s.pend:=by simp
 have c:Z (rav s.run)=Z s.run:=by simp
 have v:=w.pen;have o:=w.run;intro m;induction m with
 |zero=>
  intro i bs q j a;rw[Ae o_]at a;have a:bs++[]++(C8.pl [(Z s.run:Int)]++qV s.run)=B:=a;rw[Ap,<-Ag]at a;have hm:∀n∈[(Z s.run:Int)],n<=9223372036854775807:=λn p=>by simp at p;omega
  have k:=C8.pl_len hm;simp only[Al,Bs]at k;have h1:=SW.nums_ok [(Z s.run:Int)] s_ hm s_ bs q_;have next:=aMe s w B f (Z s.run) 0 (bs++C8.pl [(Z s.run:Int)]) o_ (by rw[Ah];omega) a
  rw[<-c]at h1;rw[<-c]at next
  refine gV ?_;refine aF λh=>gV ?_;refine .eff [] [0,1] _ _ rfl (aA.strip h1) (gV ?_);exact To.part [7,97,98,99] [0,1] rfl rfl rfl next
 |succ m r=>
  intro i bs q j a;have b:i<Z s.pend:=o_;rw[Ac b]at a;have get:=uY b;obtain⟨d,e⟩:=w.pg s.pend[i] (Av b);generalize s.pend[i]=x at a get d e;have a:bs++((C8.pl x.g.il++C8.pl [x.seq,x.at'])++wB (s.pend.drop (i+1)))++(C8.pl [(Z s.run:Int)]++qV s.run)=B:=a;rw[<-Ag bs,<-Ag bs]at a;have k:=zL x.g d;have u:=C8.pl_len (oT e);simp only[Al,Bs]at u;have hp:=C8.pg_ok x.g d;have h1:=SW.ws_ok bs (C8.pl x.g.il) o_;have t:=SW.nums_ok [x.seq,x.at'] s_ (oT e) s_ (bs++C8.pl x.g.il) q_;have next:=r (i+1) _ o_ (by simp only[Ah];omega) a
  refine gV ?_;refine aT λh=>gV ?_;refine⟨i,rfl,gV ?_⟩;refine⟨_,get,gV ?_⟩;refine .p hp (gV ?_);refine .sole rfl (.eff [] [0,1] _ _ rfl h1 (gV ?_));refine .eff [] [0,1] _ _ rfl (aA.strip t) (gV ?_);refine aJ ?_;exact zqca55
def aPV{l:a6}{i:Nat}(h:i<Z l):(fv l)[i]? =X (GE IH (l[i]:Int)):=by simp[fv,h]
def aMg(s:Sta)(w:Wr s)(B:ay)(d:B≠[]):∀(m i:Nat) (bs:ay),i+m=Z s.hist->Z bs+8*m<=15000->bs++A5 (s.hist.drop i)++(C8.pl [(Z s.pend:Int)]++(wB s.pend++(C8.pl [(Z s.run:Int)]++qV s.run)))=B->
  BC E f67 (GT [HA B,ii 0]) [(1,.ptr s.cs),(7,G2 0 0),(49,CA 1 (fv s.hist) J0),(50,GE Is (Z (fv s.hist):Nat)),(51,ii (i:Int))] (enO bs 0):=by
 have g:Z (fv s.hist)=Z s.hist:=by simp
 have c:Z (pnv s.pend)=Z s.pend:=by simp
 have p:=w.pen;have o:=w.his;intro m;induction m with
 |zero=>
  intro i bs k e a;rw[Ae o_]at a;have a:bs++[]++(C8.pl [(Z s.pend:Int)]++(wB s.pend++(C8.pl [(Z s.run:Int)]++qV s.run)))=B:=a;rw[Ap,<-Ag,<-Ag]at a;have hm:∀n∈[(Z s.pend:Int)],n<=9223372036854775807:=λn j=>by simp at j;omega
  have f:=C8.pl_len hm;simp only[Al,Bs]at f;have h1:=SW.nums_ok [(Z s.pend:Int)] s_ hm s_ bs q_;have next:=aMf s w B d (Z s.pend) 0 (bs++C8.pl [(Z s.pend:Int)]) o_ (by rw[Ah];omega) a
  rw[<-c]at h1;rw[<-c]at next
  refine gV ?_;refine aF λh=>gV ?_;exact .eff [] [0,1] _ _ rfl (aA.strip h1) zqca55
 |succ m l=>
  intro i bs k e a;have b:i<Z s.hist:=o_;rw[Ac b]at a;have get:=aPV b;generalize s.hist[i]=x at a get;have a:bs++(zR x++A5 (s.hist.drop (i+1)))++(C8.pl [(Z s.pend:Int)]++(wB s.pend++(C8.pl [(Z s.run:Int)]++qV s.run)))=B:=a;rw[<-Ag bs]at a;have f:Z (zR x)=8:=lF x 8;have hp:=aKJ x;have h1:=SW.ws_ok bs (zR x) o_;have next:=l (i+1) _ o_ (by simp only[Ah];omega) a
  refine gV ?_;refine aT λh=>gV ?_;refine⟨i,rfl,gV ?_⟩;refine⟨_,get,gV ?_⟩;refine .p hp (gV ?_);refine .sole rfl (.eff [] [0,1] _ _ rfl h1 (gV ?_));refine aJ (gV ?_);exact To.part [1,7,49,50,51] [0,1] rfl rfl rfl next
def enB(s:Sta):aw:=[Do 35 s.cs]
def aQc(s:Sta):aw:=[.fcells s.cs]
def aQb(s:Sta):ak [0] (enB s)=aQc s:=by kernel_rfl
def aMj(s:Sta):xH [1] (aC (aQc s)) [(1,G2 0 0),(2,HA []),(3,ii 0)]=[(1,.ptr s.cs),(2,HA []),(3,ii 0)]:=by kernel_rfl
def aMi{g:Goal}{ks:bg}(s:Sta)(h:To E f67 g (.code ks [(1,.ptr s.cs),(2,HA []),(3,ii 0)] (aQc s))):To E f67 g (.code ks [(1,G2 0 0),(2,HA []),(3,ii 0)] (enB s)):=by refine To.frz [1] [0] ?_;rw[aQb,aMj];exact h
def aQa(s:Sta):ay:=if nZ s=O then dK s else[]
def aJP(s:Sta)(r:s.c.sm)(hs:Sm s.run)(m:nZ s=O->Wr s):bj 67 [s.av] (GT [HA (aQa s),ii (if nZ s=O then 0 else 1)]):=by
 have a:=I4 s r hs;unfold aQa;cases i:nZ s with
 |false=>
  rw[i]at a;have a:bj 110 [s.av] (ii 1):=a;show aA _ _ _ _ (Io (GT [HA [],ii 1])) _;refine c_ f67 λ_=>?_
  repeat' first|refine pA ?_|refine .p a ?_|exact rfl|refine lA ?_ ?_|intro h
 |true=>
  rw[i]at a;have a:bj 110 [s.av] (ii 0):=a;show aA _ _ _ _ (Io (GT [HA (dK s),ii 0])) _;have w:=m i;have j:bj 106 [s.cmd.av] (GT [HA (oY s),ii (C8.chk s.cmd)]):=C8.enc_ok s.cmd;have b:Z (fv s.hist)=Z s.hist:=by simp
  have q:=w.con;have o:=w.his;obtain⟨n1,n2,v,t⟩:=w.nums;have h1:=SW.nums_fresh (Z (oY s):Int) o_;rw[Bm]at h1;have u:Z (C8.putN (Z (oY s)))<=10:=by have:=C8.pn_len (n:=(Z (oY s):Int)) o_;rw[Bm]at this;omega
  have k:=SW.ws_ok (C8.putN (Z (oY s))) (oY s) o_;have hm:∀n∈[s.now,s.nxt,(Z s.hist:Int)],n<=9223372036854775807:=λn l=>by simp at l;omega
  have p:=C8.pl_len hm;simp only[Al,Bs]at p;have h3:=SW.nums_ok [s.now,s.nxt,(Z s.hist:Int)] s_ hm s_ (C8.putN (Z (oY s))++oY s) q_;have d:dK s≠[]:=by
   intro h;have:=congrArg List.length h;unfold dK at this;have e:C8.pl [s.now,s.nxt,(Z s.hist:Int)]≠[]:=C8.pl_ne _ _;have:=Dp.2 e;simp only[Ah,Bs]at*
   omega
  have next:=aMg s w (dK s) d (Z s.hist) 0 (C8.putN (Z (oY s))++oY s++C8.pl [s.now,s.nxt,(Z s.hist:Int)]) o_ (by simp only[Ah];omega) (by unfold dK;simp only[Bz,Ag])
  rw[<-b]at h3;rw[<-b]at next
  generalize oY s=C at j h1 k h3 next
  generalize dK s=B at next
  generalize C8.chk s.cmd=ck at j;refine c_ f67 λ_=>?_;refine bO hE 13 ?_;conv=>whnf
  refine To.cutC [1,2,3] 1 rfl rfl rfl rfl ?_;refine aMi s (gV ?_);refine .p a (gV ?_);refine Aa (λh=>bv h d_) (λ_=>gV ?_);refine .p j (gV ?_);refine .eff [] [1] _ _ rfl (aA.strip h1) (gV ?_);refine .eff [] [1,2] _ _ rfl k (gV ?_);refine .eff [] [1,2] _ _ rfl (aA.strip h3) (gV ?_);exact To.part [1,7,49,50,51] [1,2] rfl rfl rfl next
open C8 (leN NO tQ IT)
def NV(l:ay):aa:=if Z l<8 then GT [GE IH 0,GE Is 0,GE Is 10]else GT [GE IH (leN (l.take 8)),GE Is 8,GE Is 0]
def aC2(l:ay)(hl:8<=Z l):∀(f i:Nat),i+f=8->
  BC E f263 (GT [GE IH (leN (l.take 8)),GE Is 8,GE Is 0]) [(0,HA l),(5,GE IH (leN (l.take i))),(10,GE Is i)] []:=by
 intro f;induction f with
 |zero=>
  intro i m;have e:i=8:=o_;subst e;refine gV ?_;refine aF λh=>?_
  repeat' first|refine pA ?_|exact rfl|refine lA ?_ ?_|intro h
 |succ f n=>
  intro i m
  obtain⟨c,g⟩:∃c,l[i]? =X c:=⟨l[i]' o_,Ab o_⟩
  have j:c.toNat<256:=c.toNat_lt;have a:=NO (l.take i);rw[Dr,Gl o_]at a;have o:2^(8*(i+1))=256*2^(8*i):=by rw[Gd,Ey];omega
  have q:c.toNat*2^(8*i)<=255*2^(8*i):=Br _ o_;have p:2^(8*(i+1))<=2^64:=Ej d_ o_;have b:(8*(i:Int)).toNat=8*i:=o_;have d:(c.toNat:Int)*2^(8*i)=((c.toNat*2^(8*i):Nat):Int):=by simp
  have k:dB .or IH (leN (l.take i):Int) ((c.toNat*2^(8*i):Nat):Int)=((leN (l.take (i+1)):Nat):Int):=by rw[nN IH _ _ (by simp only[aW];omega) (by simp only[aW];omega),WM a,IT g,tQ,Dr,Gl o_]
  have next:=n (i+1) o_
  refine gV ?_;refine aT λh=>gV ?_;refine⟨i,rfl,gV ?_⟩;refine⟨c,g,gV ?_⟩;refine Fk (Aa (show inR IntKind.u64 (c.toNat:Int)from vL (by simp only[aW];omega)) ?_);refine gV ?_;refine aJ (gV ?_);refine Aa (show(0:Int)<=8*(i:Int) by omega) ?_;refine gV ?_;refine Fk (Aa (Aa (by rw[b];simp only[IntKind.bits];omega) (by rw[b,d];exact vL (by simp only[aW];omega))) ?_);refine gV ?_;rw[b,d,k];refine aJ (gV ?_);exact To.part [0,5,10] [] rfl rfl rfl next
def aLO(l:ay):bj 263 [HA l] (NV l):=by
 unfold NV;by_cases h:Z l<8
 .rw [bu h];refine c_ f263 λ_=>gV ?_;refine Aa (λ_=>?_) (λh=>bv (bm h) o_)
  repeat' first|refine pA ?_|exact rfl|refine lA ?_ ?_|intro h
 .rw [bt h];have next:=aC2 l o_ 8 0 rfl
  refine c_ f263 λ_=>gV ?_;refine Aa (λh=>bv (bn h) o_) (λ_=>?_)
  repeat' first|refine pA ?_|exact rfl|refine lA ?_ ?_|intro h
  exact To.part [0,5,10] [] rfl rfl rfl next
open C8 (leN bT dQ rGan rdO rdU pO AZ bD aP bL bU nP kI DJ yR bW fE tRd)
abbrev RSt:Type:=Option ((Sta×Bool)×ay)
def Con.nil:Con:=⟨[],[],0,0⟩
def Sta.nil:Sta:=⟨Con.nil,0,0,[],[],[]⟩
def yV:Nat->ax->ay->Option (ax×ay)
 |0,hs,s=>X (hs,s)
 |m+1,hs,s=>match bT s with
  |none=>U
  |some (h,s)=>yV m (hs++[h]) s
def rR(c:Con)(now nxt:Int)(b:a6)(d:ba):Nat->a7->ay->RSt
 |0,rs,s=>X ((⟨c,now,nxt,d,rs,b⟩,s==[]),s)
 |m+1,rs,s=>match rGan s with
  |none=>U
  |some (g,s)=>match bT s with
   |none=>U
   |some (q,s)=>match bT s with
        |none=>U
        |some (a,s)=>match bT s with
         |none=>U
         |some (t,s)=>match bT s with
          |none=>U
          |some (f,s)=>if decide ((Z s:Int)<g.pods)=O then X ((⟨c,now,nxt,d,rs,b⟩,S),s)else match yV g.pods.toNat [] s with
           |none=>U
           |some (hs,s)=>rR c now nxt b d m (rs++[⟨g,q,a,t,f,hs⟩]) s
def rRs(c:Con)(now nxt:Int)(a:a6)(b:ba)(s:ay):RSt:=match dQ s with
 |none=>U
 |some (n,s)=>rR c now nxt a b n.toNat [] s
def rP(c:Con)(now nxt:Int)(b:a6):Nat->ba->ay->RSt
 |0,ps,s=>rRs c now nxt b ps s
 |m+1,ps,s=>match rGan s with
  |none=>U
  |some (g,s)=>match bT s with
   |none=>U
   |some (q,s)=>match bT s with
        |none=>U
        |some (a,s)=>rP c now nxt b m (ps++[⟨g,q,a⟩]) s
def rPs(c:Con)(now nxt:Int)(a:a6)(s:ay):RSt:=match dQ s with
 |none=>U
 |some (n,s)=>rP c now nxt a n.toNat [] s
def rH(c:Con)(now nxt:Int):Nat->a6->ay->RSt
 |0,hi,s=>rPs c now nxt hi s
 |m+1,hi,s=>if Z s<8 then X ((⟨c,now,nxt,[],[],hi⟩,S),s)else rH c now nxt m (hi++[leN (s.take 8)]) (s.drop 8)
def rB(c:Con)(s:ay):RSt:=match bT s with
 |none=>U
 |some (now,s)=>match bT s with
  |none=>U
  |some (nxt,s)=>match dQ s with
   |none=>U
   |some (n,s)=>rH c now nxt n.toNat [] s
def rSt(s:ay):RSt:=match dQ s with
 |none=>U
 |some (n,s)=>match C8.dec (s.take n.toNat)with
  |none=>X ((Sta.nil,S),s)
  |some x=>if x.k=1 then rB x.c (s.drop n.toNat)else X ((Sta.nil,S),s)
def stR(p:Sta×Bool):aa:=GT [p.1.av,DA p.2]
abbrev reC(c:Con)(now nxt:Int)(p r h:aa):az:=[CA 11 (nav c.ns) J0,CA 6 (hav c.hs) J0,ii c.half,ii c.age,ii now,ii nxt,p,r,h]
def M4{s s':ay}{g:Gan}(h:rGan s=X (g,s')):Z s'+1<=Z s/\0<=g.pods/\g.pods<=9223372036854775807:=by
 unfold C8.rGan at h;split at h
 .cases h
 .rename_i h1;split at h
  .cases h
  .rename_i b;split at h
   .cases h
   .rename_i h3;split at h
    .cases h
    .rename_i e;split at h
     .cases h
     .rename_i d;split at h
      .cases h
      .rename_i f;split at h
       .cases h
       .rename_i c;cases h;have k:=bW h1;have m:=bW b;have a:=bW h3;have n:=C8.rVec_b e;have j:=bW d;have l:=bW f;have i:=bW c;exact⟨by omega,a.1,a.2.1⟩
abbrev reR(c:Con)(now nxt:Int)(hi:a6)(ps:ba)(rs:a7)(s:ay):aw:=[Do tRd [HA s],Do 35 (reC c now nxt (CA 11 (pnv ps) J0) (CA 14 (rav rs) (.own 2 0)) (CA 1 (fv hi) J0)),Fr 0 14 85]
abbrev reG(g:Gan)(q a t f:Int)(x:aa):az:=[ii g.id,ii g.ten,ii g.pods,ii g.need.a,ii g.need.b,ii g.need.c,ii g.run,ii g.lev,ii g.pref,ii q,ii a,ii t,ii f,x]
def aKg(c:Con)(now nxt:Int)(p:a6)(v:ba)(b:a7)(A:Z b<=1000000)(n:Int)(i:Nat)(B:(i:Int)<9223372036854775807)(g:Gan)(q a t f:Int)(hp:0<=g.pods/\g.pods<=9223372036854775807)(r:Res)(As:aw)(m:Nat)
  (x:∀(hs:ax) (s:ay),Z s<=1000000->Z b+Z s+1<=1000000->Z hs<=1000000->pO stR (rR c now nxt p v m (b++[⟨g,q,a,t,f,hs⟩]) s)=r->AZ (rR c now nxt p v m (b++[⟨g,q,a,t,f,hs⟩]) s)=As->
   To E f198 (.full 1 r As) (G0 (stk f198 2) [(0,G2 0 0),(2,G2 1 0),(99,GE Is n),(100,GE Is ((i:Int)+1))] (reR c now nxt p v (b++[⟨g,q,a,t,f,hs⟩]) s))):
  ∀(k j:Nat) (s:ay) (hs:ax),(j+k:Int)=g.pods->Z hs+Z s<=1000000->Z b+Z s+1<=1000000->
   pO stR (match yV k hs s with|none=>U|some (hs,s)=>rR c now nxt p v m (b++[⟨g,q,a,t,f,hs⟩]) s)=r->AZ (match yV k hs s with|none=>U|some (hs,s)=>rR c now nxt p v m (b++[⟨g,q,a,t,f,hs⟩]) s)=As->
  To E f198 (.full 1 r As) (G0 (stk f198 3) [(0,G2 0 0),(2,G2 1 0),(10,G2 3 0),(99,GE Is n),(100,GE Is i),(125,ii g.pods),(126,GE Is j)]
   (reR c now nxt p v b s++[Do 85 (reG g q a t f (CA 1 (iv hs) (.own 4 0))),Fr 0 1 3])):=by
 intro k;induction k with
 |zero=>
  intro j s hs C hl w d l;have d:pO stR (rR c now nxt p v m (b++[⟨g,q,a,t,f,hs⟩]) s)=r:=d;have l:AZ (rR c now nxt p v m (b++[⟨g,q,a,t,f,hs⟩]) s)=As:=l;have y:Z (rav b)=Z b:=by simp
  have next:=x hs s o_ w o_ d l
  have e:rav (b++[⟨g,q,a,t,f,hs⟩])=rav b++[Rn.av ⟨g,q,a,t,f,hs⟩]:=by simp
  unfold reR at next
  rw[e]at next
  refine gV ?_;refine aF λh=>?_
  repeat' first|refine pA ?_|refine⟨⟨by simp only[maxLen];simp;omega,by simp;omega⟩,?_⟩|exact rfl|refine lA ?_ ?_|intro h
  exact To.part [0,2,99,100] [0,1,2] rfl rfl rfl next
 |succ k D=>
  intro j s hs C hl w d l;unfold yV at d l;have y:Z (iv hs)=Z hs:=by simp
  refine gV ?_;refine aT λh=>?_;refine bO hE 3 ?_;conv=>whnf
  refine To.permC hE [0,1,2,6] [3,4,5,7] (by rfl) ?_;conv=>whnf
  refine aLC ?_;conv=>whnf
  refine aP (o:=bT s) (λh1=>?_) (λ⟨u,z⟩ h1=>?_)
  .simp only[h1]at d l;have d:Res.pan (bD 10)=r:=d;have l:rdU=As:=l;subst d l;exact zqca21
  simp only[h1]at d l;refine .eff [] [0] _ _ rfl (bL h1) ?_;have F:=bW h1;have next:=D (j+1) z (hs++[u]) o_ q_ o_ d l
  have e:iv (hs++[u])=iv hs++[ii u]:=by simp
  rw[e]at next;conv=>whnf
  refine aLC ?_;conv=>whnf;conv=>whnf
  refine aLC ?_;conv=>whnf
  refine⟨⟨by simp only[maxLen];simp;omega,by simp;omega⟩,?_⟩;conv=>whnf
  refine aLC ?_;conv=>whnf;conv=>whnf
  refine aLC ?_;conv=>whnf
  refine gV ?_;refine aJ (gV ?_);exact To.part [0,2,10,99,100,125,126] [0,1,2,3,4] rfl rfl rfl next
def aJ1(c:Con)(now nxt:Int)(k:a6)(u:ba)(n:Int)(G:n<=9223372036854775807)(r:Res)(As:aw):∀(m i:Nat) (s:ay) (e:a7),(i+m:Int)=n->Z e+Z s<=1000000->pO stR (rR c now nxt k u m e s)=r->AZ (rR c now nxt k u m e s)=As->
  To E f198 (.full 1 r As) (G0 (stk f198 2) [(0,G2 0 0),(2,G2 1 0),(99,GE Is n),(100,GE Is i)] (reR c now nxt k u e s)):=by
 intro m;induction m with
 |zero=>
  intro i s e v hl b d;have b:Res.ret (GT [Sta.av ⟨c,now,nxt,u,e,k⟩,DA (s==[])])=r:=b;have d:rdO s=As:=d;subst b d;refine gV ?_;refine aF λh=>?_;refine bO hE 2 ?_;conv=>whnf
  refine To.permC hE [0,1,2,3,4,5] [6,7] (by rfl) ?_;conv=>whnf
  refine aLC ?_;conv=>whnf;conv=>whnf
  refine aLC ?_;conv=>whnf;conv=>whnf
  refine aLC ?_;conv=>whnf
  refine gV ?_;exact zqca9
 |succ m D=>
  intro i s e v hl b d;unfold rR at b d;have y:Z (rav e)=Z e:=by simp
  refine gV ?_;refine aT λh=>gV ?_;refine aP (o:=rGan s) (λh1=>?_) (λ⟨g,A⟩ h1=>?_)
  .exact zqca32
  simp only[h1]at b d;refine .eff [] [0] _ _ rfl (DJ h1) (gV ?_);refine aP (o:=bT A) (λp=>?_) (λ⟨q,C⟩ p=>?_)
  .simp only[p]at b d;have b:Res.pan (bD 10)=r:=b;have d:rdU=As:=d;subst b d;refine .effp [] [0] _ _ rfl (bU p) ?_;exact zx [0]
  simp only[p]at b d;refine .eff [] [0] _ _ rfl (bL p) (gV ?_);refine aP (o:=bT C) (λh3=>?_) (λ⟨a,F⟩ h3=>?_)
  .exact zqca47
  simp only[h3]at b d;refine .eff [] [0] _ _ rfl (bL h3) (gV ?_);refine aP (o:=bT F) (λl=>?_) (λ⟨t,B⟩ l=>?_)
  .simp only[l]at b d;have b:Res.pan (bD 10)=r:=b;have d:rdU=As:=d;subst b d;refine .effp [] [0] _ _ rfl (bU l) ?_;exact zx [0]
  simp only[l]at b d;refine .eff [] [0] _ _ rfl (bL l) (gV ?_);refine aP (o:=bT B) (λj=>?_) (λ⟨f,x⟩ j=>?_)
  .exact zqca34
  simp only[j]at b d;refine .eff [] [0] _ _ rfl (bL j) ?_;have z:=M4 h1;have N:=bW p;have M:=bW h3;have I:=bW l;have L:=bW j;refine gV ?_;refine Aa (λw=>?_) (λw=>?_)
  .rw [bu w]at b d;have b:Res.ret (GT [Sta.av ⟨c,now,nxt,u,e,k⟩,DA S])=r:=b;have d:rdO x=As:=d;subst b d;refine gV ?_;exact zqca9
  .rw [bt (by rw[w];decide)]at b d;refine gV ?_;refine To.part [0,2,10,99,100,125,126] [0,1,2,3] rfl rfl rfl ?_;refine To.begin 3 13 3 rfl rfl ?_;exact aKg c now nxt k u e o_ n i o_ g q a t f z.2 r As m (λhs s' J H K b d=>D (i+1) s' _ o_ q_ b d) g.pods.toNat 0 x [] o_ q_ o_ b d
abbrev reP(c:Con)(now nxt:Int)(hi:a6)(ps:ba)(s:ay):aw:=[Do tRd [HA s],Do 35 (reC c now nxt (CA 11 (pnv ps) (.own 2 0)) (CA 14 [] .nil) (CA 1 (fv hi) J0)),Fr 0 11 104]
def aJ3(c:Con)(now nxt:Int)(l:a6)(n:Int)(A:n<=9223372036854775807)(r:Res)(As:aw):∀(m i:Nat) (s:ay) (f:ba),(i+m:Int)=n->Z f+Z s<=1000000->pO stR (rP c now nxt l m f s)=r->AZ (rP c now nxt l m f s)=As->
  To E f198 (.full 1 r As) (G0 (stk f198 1) [(0,G2 0 0),(2,G2 1 0),(82,GE Is n),(83,GE Is i)] (reP c now nxt l f s)):=by
 intro m;induction m with
 |zero=>
  intro i s f p hl b d;unfold rP rRs at b d;refine gV ?_;refine aF λh=>gV ?_;refine aP (o:=dQ s) (λh1=>?_) (λ⟨k,u⟩ h1=>?_)
  .simp only[h1]at b d;have b:Res.pan (bD 10)=r:=b;have d:rdU=As:=d;subst b d;exact zqca29
  simp only[h1]at b d;refine .eff [] [0] _ _ rfl (nP h1) ?_;have w:=fE h1;refine gV ?_;refine To.part [0,2,99,100] [0,1] rfl rfl rfl ?_;refine To.begin 1 7 85 rfl rfl ?_;exact aJ1 c now nxt l f k o_ r As k.toNat 0 u [] o_ q_ b d
 |succ m y=>
  intro i s f p hl b d;unfold rP at b d;have v:Z (pnv f)=Z f:=by simp
  refine gV ?_;refine aT λh=>?_;refine bO hE 3 ?_;conv=>whnf
  refine To.permC hE [0,1,2,4,6,11] [3,5,7,8,9,10,12] (by rfl) ?_;conv=>whnf
  refine aLC ?_;conv=>whnf
  refine aP (o:=rGan s) (λh1=>?_) (λ⟨g,u⟩ h1=>?_)
  .exact zqca32
  simp only[h1]at b d;refine .eff [] [0] _ _ rfl (DJ h1) ?_;conv=>whnf
  refine aLC ?_;conv=>whnf
  refine aP (o:=bT u) (λj=>?_) (λ⟨q,x⟩ j=>?_)
  .exact zqca34
  simp only[j]at b d;refine .eff [] [0] _ _ rfl (bL j) ?_;conv=>whnf
  refine aLC ?_;conv=>whnf
  refine aP (o:=bT x) (λh3=>?_) (λ⟨a,z⟩ h3=>?_)
  .exact zqca47
  simp only[h3]at b d;refine .eff [] [0] _ _ rfl (bL h3) ?_;conv=>whnf
  refine aLC ?_;conv=>whnf;conv=>whnf
  refine aLC ?_;conv=>whnf;conv=>whnf
  refine aLC ?_;conv=>whnf
  refine⟨⟨by simp only[maxLen];simp;omega,by simp;omega⟩,?_⟩;conv=>whnf
  refine aLC ?_;conv=>whnf;conv=>whnf
  refine aLC ?_;conv=>whnf
  refine gV ?_;refine aJ (gV ?_);refine To.part [0,2,82,83] [0,1,2] rfl rfl rfl ?_;have w:=M4 h1;have C:=bW j;have B:=bW h3;have next:=y (i+1) z (f++[⟨g,q,a⟩]) o_ q_ b d
  have e:pnv (f++[⟨g,q,a⟩])=pnv f++[Pn.av ⟨g,q,a⟩]:=by simp
  unfold reP at next
  rw[e]at next
  exact next
abbrev reH(c:Con)(now nxt:Int)(hi:a6)(s:ay):aw:=[Do tRd [HA s],Do 35 (reC c now nxt (CA 11 [] .nil) (CA 14 [] .nil) (CA 1 (fv hi) (.own 2 0))),Fr 0 1 106]
def aKf(c:Con)(now nxt:Int)(n:Int)(v:n<=9223372036854775807)(r:Res)(As:aw):∀(m i:Nat) (s:ay) (d:a6),(i+m:Int)=n->Z d+Z s<=1000000->pO stR (rH c now nxt m d s)=r->AZ (rH c now nxt m d s)=As->
  To E f198 (.full 1 r As) (BB f198 [(0,G2 0 0),(2,G2 1 0),(50,GE Is n),(51,GE Is i)] (reH c now nxt d s)):=by
 intro m;induction m with
 |zero=>
  intro i s d g hl a b;unfold rH rPs at a b;refine gV ?_;refine aF λh=>gV ?_;refine aP (o:=dQ s) (λh1=>?_) (λ⟨k,p⟩ h1=>?_)
  .exact zqca50
  simp only[h1]at a b;refine .eff [] [0] _ _ rfl (nP h1) ?_;have u:=fE h1;refine gV ?_;refine To.part [0,2,82,83] [0,1] rfl rfl rfl ?_;refine To.begin 1 6 104 rfl rfl ?_;exact aJ3 c now nxt d k o_ r As k.toNat 0 p [] o_ q_ a b
 |succ m q=>
  intro i s d g hl a b;unfold rH at a b;have l:Z (fv d)=Z d:=by simp
  have f:=aLO s;unfold NV at f;by_cases j:Z s<8
  .rw [bu j]at a b f;have a:Res.ret (GT [Sta.av ⟨c,now,nxt,[],[],d⟩,DA S])=r:=a;have b:rdO s=As:=b;subst a b;refine gV ?_;refine aT λh=>gV ?_;exact .p f zqca40
  .rw [bt j]at a b f;have next:=q (i+1) (s.drop 8) (d++[leN (s.take 8)]) o_ q_ a b
   have e:fv (d++[leN (s.take 8)])=fv d++[GE IH ((leN (s.take 8):Nat):Int)]:=by simp
   unfold reH at next
   rw[e]at next
   refine gV ?_;refine aT λh=>gV ?_;refine .p f (gV ?_);refine Aa (λh=>bv h d_) (λ_=>gV ?_);refine⟨8,rfl,gV ?_⟩;refine⟨by omega,gV ?_⟩;refine⟨⟨by simp only[maxLen];simp;omega,by simp;omega⟩,?_⟩;refine gV ?_;refine aJ (gV ?_);exact To.part [0,2,50,51] [0,1,2] rfl rfl rfl next
def QC(s:ay)(hs:Z s<=1000000)(r:Res)(As:aw)(a:pO stR (rSt s)=r)(b:AZ (rSt s)=As):ar 198 [G2 0 0] (rdO s) r As:=by
 unfold rSt at a b;refine eA E f198 1 λ_=>gV ?_;refine aP (o:=dQ s) (λh1=>?_) (λ⟨n,e⟩ h1=>?_)
 .exact zqca50
 simp only[h1]at a b;refine .eff [] [0] _ _ rfl (nP h1) ?_;have w:=fE h1;have d:=C8.decode_ok (e.take n.toNat) q_;unfold C8.decX C8.decE at d;have i:n=((n.toNat:Nat):Int):=o_;refine aP (o:=C8.dec (e.take n.toNat)) (λp=>?_) (λx p=>?_)
 .simp only[p]at a b d;have d:bj 134 [HA (e.take n.toNat)] (GT [Cmd.zero.av,ii 10]):=d;have a:Res.ret (GT [Sta.av Sta.nil,DA S])=r:=a;have b:rdO e=As:=b;subst a b;refine gV ?_;refine⟨n.toNat,i,gV ?_⟩;refine⟨by omega,gV ?_⟩;refine .p d (gV ?_);refine Aa (λ_=>?_) (λh=>bv h d_);exact zqca40
 .simp only[p]at a b d;have d:bj 134 [HA (e.take n.toNat)] (GT [x.av,ii 0]):=d;by_cases m:x.k=1
  .rw [bu m]at a b;unfold rB at a b;refine gV ?_;refine⟨n.toNat,i,gV ?_⟩;refine⟨by omega,gV ?_⟩;refine .p d (gV ?_);refine Aa (λh=>bv h d_) (λ_=>gV ?_);refine Aa (λh=>bv h (by simp[m])) (λ_=>gV ?_);refine⟨n.toNat,i,gV ?_⟩;refine⟨by omega,?_⟩;refine bO hE 13 ?_;conv=>whnf
   refine To.permC hE [0,1,2,4,6,8,10] [3,5,7,9,11] (by rfl) ?_;conv=>whnf
   refine aLC ?_;conv=>whnf
   refine aP (o:=bT (e.drop n.toNat)) (λh3=>?_) (λ⟨now,u⟩ h3=>?_)
   .simp only[h3]at a b;have a:Res.pan (bD 10)=r:=a;have b:rdU=As:=b;subst a b;exact zqca20
   simp only[h3]at a b;refine .eff [] [0] _ _ rfl (bL h3) ?_;have C:=bW h3;conv=>whnf
   refine aLC ?_;conv=>whnf
   refine aP (o:=bT u) (λl=>?_) (λ⟨nxt,v⟩ l=>?_)
   .simp only[l]at a b;have a:Res.pan (bD 10)=r:=a;have b:rdU=As:=b;subst a b;refine .effp [] [0] _ _ rfl (bU l) ?_;exact zx [0]
   simp only[l]at a b;refine .eff [] [0] _ _ rfl (bL l) ?_;have z:=bW l;conv=>whnf
   refine aLC ?_;conv=>whnf;conv=>whnf
   refine aLC ?_;conv=>whnf;conv=>whnf
   refine aLC ?_;conv=>whnf;conv=>whnf
   refine aLC ?_;conv=>whnf
   refine gV ?_;refine aP (o:=dQ v) (λj=>?_) (λ⟨k,q⟩ j=>?_)
   .simp only[j]at a b;have a:Res.pan (bD 10)=r:=a;have b:rdU=As:=b;subst a b;refine .effp [] [0] _ _ rfl (kI j) ?_;exact zx [0]
   simp only[j]at a b;refine .eff [] [0] _ _ rfl (nP j) ?_;have B:=fE j;have y:Z (e.drop n.toNat)<=Z e:=by simp
   refine gV ?_;refine To.part [0,2,50,51] [0,1] rfl rfl rfl ?_;refine To.begin 1 8 106 rfl rfl ?_;exact aKf x.c now nxt k o_ r As k.toNat 0 q [] o_ q_ a b
  .rw [bt m]at a b;have a:Res.ret (GT [Sta.av Sta.nil,DA S])=r:=a;have b:rdO e=As:=b;subst a b;refine gV ?_;refine⟨n.toNat,i,gV ?_⟩;refine⟨by omega,gV ?_⟩;refine .p d (gV ?_);refine Aa (λh=>bv h d_) (λ_=>gV ?_);refine Aa (λ_=>?_) (λh=>bv h (by simp[m]));refine To.loose (gV ?_);exact zqca9
def aKo{s s':ay}(hs:Z s<=1000000){x:Sta}{b:Bool}(h:rSt s=X ((x,b),s')):ar 198 [G2 0 0] (rdO s) (Io (GT [x.av,DA b])) (rdO s'):=QC s hs _ _ (by rw[h];rfl) (by rw[h];rfl)
def aFC{s:ay}(hs:Z s<=1000000)(h:rSt s=U):ar 198 [G2 0 0] (rdO s) (.pan (bD 10)) rdU:=QC s hs _ _ (by rw[h];rfl) (by rw[h];rfl)
open C8 (bT dQ rGan rdO rdU bD aP bW fE tRd)
abbrev zSt:az:=[CA 11 [] .nil,CA 6 [] .nil,ii 0,ii 0,ii 0,ii 0,CA 11 [] .nil,CA 14 [] .nil,CA 1 [] .nil]
abbrev deO(s:ay):aw:=[Do 9 [HA s],Do 35 zSt,Do 4 [DA S]]
abbrev deX(s:ay)(x:Sta)(b:Bool):aw:=[Do 9 [HA s],Do 35 x.cs,Do 4 [DA b]]
abbrev deU:aw:=wM (λ_=>.undef) (deO [])
def aQs{s s':ay}(hs:Z s<=1000000){x:Sta}{b:Bool}(h:rSt s=X ((x,b),s')):ar 197 [G2 0 0,G2 1 0,G2 2 0] (deO s) (Io (GT [])) (deX s x b):=by refine eA E f197 3 λ_=>gV ?_;refine .eff [] [3] _ _ rfl (aKo hs h) (gV ?_);exact zx [0,1,2]
def aMK{s:ay}(hs:Z s<=1000000)(h:rSt s=U):ar 197 [G2 0 0,G2 1 0,G2 2 0] (deO s) (.pan (bD 10)) deU:=by refine aA.blur (ap:=deO s) ?_;refine eA E f197 3 λ_=>gV ?_;refine .effp [] [3] _ _ rfl (aFC hs h) ?_;exact zx [0,1,2]
abbrev dV:aa:=.func (.func 197) [] [G2 0 0,G2 1 0,G2 2 0]
def aJD{s s':ay}(hs:Z s<=1000000){x:Sta}{b:Bool}(h:rSt s=X ((x,b),s')):ar 192 [dV] (deO s) (Io (ii 0)) (deX s x b):=by
 refine eA E f192 3 λ_=>gV ?_;refine To.defer (f:=141) (args:=[G2 3 0]) _ rfl rfl ?_;refine gW C8.hEt ?_;conv=>whnf
 refine .eff [] [0,1,2] _ _ rfl (aQs hs h) ?_;refine gW C8.hEt ?_;conv=>whnf
 refine To.leave (f:=141) (args:=[G2 3 0]) [] rfl [] [3] rfl (C8.catch_ret 0) ?_;exact zqca17
def aEp{s:ay}(hs:Z s<=1000000)(h:rSt s=U):ar 192 [dV] (deO s) (Io (ii 10)) deU:=by
 refine eA E f192 3 λ_=>gV ?_;refine To.defer (f:=141) (args:=[G2 3 0]) _ rfl rfl ?_;refine gW C8.hEt ?_;conv=>whnf
 refine .effp [] [0,1,2] _ _ rfl (aMK hs h) ?_;conv=>whnf
 refine To.leave (f:=141) (args:=[G2 3 0]) [] rfl [] [3] rfl (C8.catch_pan 0 10) ?_;exact zqca17
def aFR:∀(m:Nat) (hs:ax) (s:ay) (hs':ax) (s':ay),yV m hs s=X (hs',s')->Z hs'+Z s'<=Z hs+Z s
 |0,hs,s,hs',s',h=>by cases h;exact Bc _
 |m+1,hs,s,hs',s',h=>by
  unfold yV at h;split at h
  .cases h
  .rename_i h1;have b:=bW h1;have:=aFR m _ _ _ _ h;simp at this;omega
def aRt(c:Con)(now nxt:Int)(d:a6)(e:ba)(N:Nat):∀(m:Nat) (a:a7) (s:ay) (x:Sta) (b:Bool) (s':ay),rR c now nxt d e m a s=X ((x,b),s')->Z a+Z s<=N->(∀y∈a,Z y.hs<=N)->x.c=c/\Z x.run<=N/\∀y∈x.run,Z y.hs<=N
 |0,a,s,x,b,s',h,hl,hy=>by cases h;exact⟨rfl,by show Z a<=N;omega,hy⟩
 |m+1,a,s,x,b,s',h,hl,hy=>by
  unfold rR at h;split at h
  .cases h
  .rename_i h1;split at h
   .cases h
   .rename_i i;split at h
    .cases h
    .rename_i h3;split at h
     .cases h
     .rename_i k;split at h
      .cases h
      .rename_i g;have l:=M4 h1;have r:=bW i;have q:=bW h3;have o:=bW k;have p:=bW g;split at h
       .cases h;exact⟨rfl,by show Z a<=N;omega,hy⟩
       .split at h
        .cases h
        .rename_i hs' n j;have f:=aFR _ _ _ _ _ j;simp at f;refine aRt c now nxt d e N m _ _ x b s' h q_ λy hm=>?_;rcases Bx.1 hm with hm|hm
         .exact hy y hm
         .rw [List.mem_singleton]at hm;subst hm;show Z hs'<=N;omega
def aRu(c:Con)(now nxt:Int)(d:a6)(N:Nat):∀(m:Nat) (a:ba) (s:ay) (x:Sta) (b:Bool) (s':ay),rP c now nxt d m a s=X ((x,b),s')->Z s<=N->x.c=c/\Z x.run<=N/\∀y∈x.run,Z y.hs<=N
 |0,a,s,x,b,s',h,hl=>by
  unfold rP rRs at h;split at h
  .cases h
  .rename_i h1;have e:=fE h1;exact aRt c now nxt d a N _ _ _ x b s' h q_ λy f=>by cases f
 |m+1,a,s,x,b,s',h,hl=>by
  unfold rP at h;split at h
  .cases h
  .rename_i h1;split at h
   .cases h
   .rename_i g;split at h
    .cases h
    .rename_i h3;have e:=M4 h1;have j:=bW g;have i:=bW h3;exact aRu c now nxt d N m _ _ x b s' h o_
def aRv(c:Con)(now nxt:Int)(N:Nat):∀(m:Nat) (a:a6) (s:ay) (x:Sta) (b:Bool) (s':ay),rH c now nxt m a s=X ((x,b),s')->Z s<=N->x.c=c/\Z x.run<=N/\∀y∈x.run,Z y.hs<=N
 |0,a,s,x,b,s',h,hl=>by
  unfold rH rPs at h;split at h
  .cases h
  .rename_i h1;have e:=fE h1;exact aRu c now nxt a N _ _ _ x b s' h o_
 |m+1,a,s,x,b,s',h,hl=>by
  unfold rH at h;split at h
  .cases h;exact⟨rfl,Bn _,λy d=>by cases d⟩
  .exact aRv c now nxt N m _ _ x b s' h q_
def aRs{s s':ay}{x:Sta}{b:Bool}(h:rSt s=X ((x,b),s'))(hl:Z s<=1000000):x.c.sm/\Sm x.run:=by
 unfold rSt at h;split at h
 .cases h
 .rename_i n q h1;have p:=fE h1;split at h
  .cases h;exact⟨⟨Bn _,Bn _⟩,Bn _,λy d=>by cases d⟩
  .rename_i y a;have e:C8.chk y=0:=by
    unfold C8.dec at a;split at a
    .split at a
     .rename_i g;cases a;exact g.2
     .cases a
    .cases a
   have T:=C8.chk_told e;have k:=T.ln;have i:=T.lh;simp only[Cb]at k i;split at h
   .unfold rB at h;split at h
    .cases h
    .rename_i h3;split at h
     .cases h
     .rename_i o;split at h
      .cases h
      .rename_i f;have l:=bW h3;have r:=bW o;have t:=fE f;simp only[Dq]at l;obtain⟨m,u,j⟩:=aRv y.c _ _ 1000000 _ _ _ x b s' h o_;rw[m];exact⟨⟨by omega,by omega⟩,by omega,λz hz=>by have:=j z hz;omega⟩
   .cases h;exact⟨⟨Bn _,Bn _⟩,Bn _,λy d=>by cases d⟩
def aDr(s:ay):Option Sta:=match rSt s with
 |some ((x,b),_)=>if b=O/\nZ x=O then X x else U
 |none=>U
def aEJ(s:ay):Sta:=(aDr s).getD Sta.nil
def aQr(s:ay):Int:=match aDr s with|some _=>0|none=>10
def aJS(s:ay)(hs:Z s<=1000000):bj 135 [HA s] (GT [(aEJ s).av,ii (aQr s)]):=by
 unfold aEJ aQr aDr;refine c_ f135 λ_=>gV ?_;refine aP (o:=rSt s) (λh=>?_) (λ⟨⟨x,b⟩,s'⟩ h=>?_)
 .simp only[h];refine .eff [] [0,2,3] _ _ rfl (aEp hs h) ?_
  repeat' first|refine pA ?_|exact rfl|refine lA ?_ ?_|intro h
 .obtain ⟨e,d⟩:=aRs h hs;have a:=I4 x e d;simp only[h];refine .eff [] [0,2,3] _ _ rfl (aJD hs h) ?_;cases b with
  |false=>
   rw[bt (λq=>bv q.1 d_)]
   repeat' first|refine pA ?_|exact rfl|refine lA ?_ ?_|intro h
  |true=>
   cases c:nZ x with
   |false=>
    rw[c]at a;have a:bj 110 [x.av] (ii 1):=a;rw[bt (λq=>bv q.2 d_)]
    repeat' first|refine pA ?_|refine .p a ?_|exact rfl|refine lA ?_ ?_|intro h
   |true=>
    rw[c]at a;have a:bj 110 [x.av] (ii 0):=a;rw[bu ⟨rfl,rfl⟩]
    repeat' first|refine pA ?_|refine .p a ?_|exact rfl|refine lA ?_ ?_|intro h
open C8 (leN bT dQ rGan bF pQ gI pl putN)
theorem AK{v:V3}(h:aO v=O):okI v.l=true:=by unfold aO at h;simp only[Af,bo]at h;simp only[V3.l,okI,kB,Af,bo,and_true];omega
def aDT{v:V3}(h:zB v=O):okI v.l=true:=by unfold zB at h;simp at h;simp only[V3.l,okI,kB,Af,bo,and_true];omega
def aGt{bl:Bool}{i:Nat}{x:Nod}(c:i<=100)(h:lQ bl i x=O):x.ok=true:=by
 unfold lQ at h;by_cases a:rU i x
 .rw [bu a]at h;cases h
 .rw [bt a]at h;unfold rU at a;have h3:okI x.n.l=O/\okI x.b.l=O/\okI x.l.l=true:=by
   cases bl with
   |true=>
    simp only[if_true,Af]at h
    grind[AK]
   |false=>
    rw[bt d_]at h;simp only[Af]at h;exact⟨aDT h.1,aDT h.2.1,aDT h.2.2⟩
  unfold Nod.ok;rw[h3.1,h3.2.1,h3.2.2];exact zqca26
def JP(ns:bc):∀(l:bc) (i:Nat),i+Z l<=100->jH ns i l=O->uK l=O
 |[],_,_,_=>rfl
 |x::r,i,hi,h=>by
  unfold jH at h;simp at hi;by_cases a:lQ (rlB ns i) i x=O
  .rw [bu a]at h;unfold uK;rw[aGt o_ a,JP ns r (i+1) o_ h];rfl
  .rw [bt a]at h;cases h
def aG5{x:Hos}(h:jJ x=O):x.ok=true:=by
 unfold jJ at h;by_cases a:BR x
 .rw [bu a]at h;cases h
 .rw [bt a]at h;unfold BR at a;unfold Hos.ok;rw[AK h];exact zqca26
def SD:∀(l:List Hos),l.all jJ=O->oA l=O
 |[],_=>rfl
 |x::r,h=>by rw[Hi,Af]at h;unfold oA;rw[aG5 h.1,SD r h.2];rfl
theorem LL{c:Con}(h:bG c=0):c.tok=O/\Z c.ns<=12/\Z c.hs<=24:=by
 unfold bG at h;by_cases h1:wZ c
 .rw [bu h1]at h;by_cases a:jH c.ns 0 c.ns=O
  .rw [bu a]at h;by_cases h3:c.hs.all jJ=O
   .unfold wZ at h1;refine⟨?_,h1.1.2,h1.2.1.2⟩;unfold Con.tok;rw[JP c.ns c.ns 0 o_ a,SD _ h3];simp only[Bool.and_self,Bt,okI,kB,Af,bo,and_true];omega
   .rw [bt h3]at h;cases h
  .rw [bt a]at h;cases h
 .rw [bt h1]at h;cases h
theorem K4{c:Con}(h:gL c=O):c.tok=O/\Z c.ns<=12/\Z c.hs<=24:=by unfold gL at h;simp only[Af,bo]at h;obtain⟨ns,hs,half,age⟩:=c;obtain⟨h1,a,h3,b⟩:=h;simp only at h1 a h3 b;subst h1 a h3 b;exact⟨rfl,by simp,by simp⟩
def ZH{c:Con}(h:c.tok=O)(e:Z c.ns<=12)(f:Z c.hs<=24):C8.chk ⟨1,c,Gan.zero,0⟩=0:=by
 have b:(Z (nav c.ns):Int)<=12:=by simp;omega
 have d:(Z (hav c.hs):Int)<=24:=by simp;omega
 have a:C8.chkL ⟨1,c,Gan.zero,0⟩=0:=by unfold C8.chkL;rw[bq b,bq d];rfl
 unfold C8.chk C8.chk2 C8.chk3 C8.chk4 C8.chkC C8.chkG C8.chkN;rw[a,h];rfl
def aBr{s:Sta}(h:nZ s=O):C8.chk s.cmd=0:=by
 unfold nZ SG at h;simp only[Af,Fg,bo]at h;obtain⟨⟨h1,_⟩,_⟩:=h;rcases h1 with h1|h1
 .obtain ⟨a,b,c⟩:=K4 h1;exact ZH a b c
 .obtain ⟨a,b,c⟩:=LL h1;exact ZH a b c
def WS{c:Con}{t:Int}(h:bB c.ns t=O):0<=t/\t<(Z c.ns:Int):=by
 unfold bB at h
 grind
def SN{c:Con}{g:Gan}(d:Z c.ns<=12)(h:dO c g=0):g.ok=true:=by obtain⟨h1,a⟩:=qD.1 h;have h3:=WS a;unfold IJ at h1;simp only[Af,bo]at h1;have b:=AK h1.2.1;unfold Gan.ok;rw[b];exact zqca26
def aBt{s:Sta}(h:nZ s=O):(s.c.tok=O/\Z s.c.ns<=12/\Z s.c.hs<=24)/\(∀x∈s.c.hs,0<=x.f/\x.f<=100)/\(0<=s.now/\s.now<=1099511627776)/\(1<=s.nxt/\s.nxt<=1099511627776)/\Z s.hist=Z s.c.ns/\Z s.pend+Z s.run<=32:=by
 unfold nZ SG at h;simp only[Af,Fg,bo]at h;obtain⟨⟨h1,g,h3,k,j⟩,_⟩:=h;refine⟨?_,?_,g,h3,k,j⟩
 .grind [K4,LL]
 .intro x i;rcases h1 with h1|h1
  .unfold gL at h1
   grind
  .unfold bG at h1;by_cases a:wZ s.c
   .rw [bu a]at h1;by_cases d:jH s.c.ns 0 s.c.ns=O
    .rw [bu d]at h1;by_cases b:s.c.hs.all jJ=O
     .have:=Ck.1 b x i;unfold jJ at this;by_cases e:BR x
      .rw [bu e]at this;cases this
      .unfold BR at e;omega
     .rw [bt b]at h1;cases h1
    .rw [bt d]at h1;cases h1
   .rw [bt a]at h1;cases h1
def TT{s:Sta}(h:nZ s=O):Z (oY s)<=3000:=by
 obtain⟨⟨h1,j,h3⟩,_⟩:=aBt h;have e:oY s=pl s.cmd.il:=bu (aBr h);rw[e];have key:∀(l:ax),okI l=O->Z (pl l)<=10*Z l:=λl hl=>C8.pl_len (oT hl);have a:∀(l:bc),uK l=O->Z (pl (C8.nodL l))<=110*Z l:=by
  intro l;induction l with
  |nil=>intro _;simp[C8.nodL,pl]
  |cons x r d=>
   intro hl;unfold uK at hl;rw[Af]at hl;have e:C8.nodL (x::r)=x.il++C8.nodL r:=rfl
   grind[C8.pl_append,Ah,C8.il_len,Al]
 have b:∀(l:List Hos),oA l=O->Z (pl (C8.hosL l))<=60*Z l:=by
  intro l;induction l with
  |nil=>intro _;simp[C8.hosL,pl]
  |cons x r d=>
   intro hl;unfold oA at hl;rw[Af]at hl;have e:C8.hosL (x::r)=x.il++C8.hosL r:=rfl
   grind[C8.pl_append,Ah,C8.ih_len,Al]
 unfold Con.tok at h1;simp only[Af]at h1;have g:=a _ h1.1.1;have o:=b _ h1.1.2;have i:=key [(1:Int)] rfl;have n:Z (pl [(Z (nav s.c.ns):Int)])<=10:=by grind[C8.pl_len]
 have m:Z (pl [(Z (hav s.c.hs):Int)])<=10:=by grind[C8.pl_len]
 have f:=key [s.c.half,s.c.age] h1.2;have k:s.cmd.il=[(1:Int)]++([(Z (nav s.c.ns):Int)]++(C8.nodL s.c.ns++([(Z (hav s.c.hs):Int)]++(C8.hosL s.c.hs++[s.c.half,s.c.age])))):=rfl
 grind[C8.pl_append,Ah,Al,Bs]
def YK{s:Sta}(h:nZ s=O):Wr s:=by
 obtain⟨⟨h1,q,h3⟩,z,w,y,J,I⟩:=aBt h;have k:=h;unfold nZ at k;simp only[Af,Ck]at k;refine⟨Cl (TT h) d_,⟨w.1,w.2,by omega,y.2⟩,by omega,by omega,by omega,λx d=>?_,λx d=>?_⟩
 .have a:=k.2.2.1.1 x d;unfold pnB at a;simp only[Af,bo]at a;refine⟨SN q a.1,?_⟩;have:=a.2.2;exact zqca26
 .have a:=k.2.2.1.2 x d;have G:=(aBs h d).chk;obtain⟨p,i⟩:=OI G;rw[zN]at i;unfold pnB rnB at a;simp only[Af,bo]at a;obtain⟨⟨o,_,t⟩,⟨H,K⟩,_,n⟩:=a;have hp:=xG o;have A:1<=x.g.pods/\x.g.pods<=16:=hp;have b:x.hs≠[]:=λe=>by rw[e]at p;simp at p;omega
  have F:0<=x.fl/\x.fl<=100:=by
   cases m:x.hs with
   |nil=>exact bv m b
   |cons u r=>
    have j:=i u (by rw[m];exact Aw ..);rw[m]at n;have n:(bC s.c.hs u).f=x.fl:=n;have C:u.toNat<Z s.c.hs:=o_;have hm:bC s.c.hs u∈s.c.hs:=by
     unfold bC
     grind[Ab,Av]
    have:=z _ hm;omega
  have t:(0<=x.seq/\x.seq<s.nxt)/\0<=x.at'/\x.at'<=s.now:=t;refine⟨SN q o,?_,?_,b,by omega⟩
  .exact zqca26
  .have key:∀(l:ax),(∀u∈l,0<=u/\u<(Z s.c.hs:Int))->okI l=true:=by
    intro l;induction l with
    |nil=>intro _;rfl
    |cons u r D=>
     intro hl;have j:=hl u (Aw ..);unfold okI;rw[D λv B=>hl v (Az _ B)];simp only[kB,Af,bo,and_true];omega
   exact key x.hs λu j=>⟨(i u j).1,(i u j).2.1⟩
open C8 (leN NO tQ bT dQ rGan bF pQ gI pl putN bW fE)
def R7(x:Nat):∀(i:Nat),leN (IA x i)=x%2^(8*i)
 |0=>by simp[IA,leN,Nat.mod_one]
 |i+1=>by rw[KO,tQ,lF,R7 x i];unfold KP;rw[Gx,Nat.mod_mod,Gd,Ey,Nat.mod_mul,Cz (2^(8*i)),show(2:Nat)^(8*1)=256 from rfl]
def aLk{x:Nat}(h:x<18446744073709551616):leN (zR x)=x:=by unfold zR;rw[R7,Hn o_]
def E8(c:Con)(now nxt:Int):∀(l a:a6) (s:ay),(∀x∈l,x<18446744073709551616)->rH c now nxt (Z l) a (A5 l++s)=rPs c now nxt (a++l) s
 |[],a,s,_=>by rw[Ap];rfl
 |x::r,a,s,h=>by
  have hl:Z (zR x)=8:=lF x 8;have e:A5 (x::r)++s=zR x++(A5 r++s):=by rw[<-Ag];rfl
  rw[e,Al];unfold rH;rw[bt (by rw[Ah];omega)];have d:(zR x++(A5 r++s)).take 8=zR x:=by rw[Eh o_,Bq o_]
  have f:(zR x++(A5 r++s)).drop 8=A5 r++s:=by rw[<-hl,Ld]
  rw[d,f,aLk (h x (Aw ..)),E8 c now nxt r _ s λy b=>h y (Az _ b),Ag];rfl
def aPa(a b:Int)(s:ay):pl [a,b]++s=putN a.toNat++(putN b.toNat++s):=by simp[pl]
def ok2{a b:Int}(h:okI [a,b]=O):(0<=a/\a<=1099511627777)/\0<=b/\b<=1099511627777:=by have h1:=C8.okI_b h a s_;have c:=C8.okI_b h b s_;omega
def aFO(c:Con)(now nxt:Int)(b:a6):∀(l a:ba) (s:ay),(∀x∈l,x.g.ok=O/\okI [x.seq,x.at']=O)->rP c now nxt b (Z l) a (wB l++s)=rRs c now nxt b (a++l) s
 |[],a,s,_=>by rw[Ap];rfl
 |x::r,a,s,h=>by
  obtain⟨h1,j⟩:=h x (Aw ..);obtain⟨d,f⟩:=ok2 j;have e:wB (x::r)++s=pl x.g.il++(putN x.seq.toNat++(putN x.at'.toNat++(wB r++s))):=by rw[<-aPa];show(pl x.g.il++pl [x.seq,x.at']++wB r)++s=_;simp only[Ag]
  rw[e,Al];unfold rP;rw[pQ h1];dsimp only;rw[bF d.1 d.2];dsimp only;rw[bF f.1 f.2];dsimp only;rw[aFO c now nxt b r _ s λy i=>h y (Az _ i),Ag];rfl
def yU:∀(l a:ax) (s:ay),okI l=O->yV (Z l) a (pl l++s)=X (a++l,s)
 |[],a,s,_=>by rw[Ap];rfl
 |x::r,a,s,h=>by
  have b:=C8.okI_b h x (Aw ..);have e:pl (x::r)++s=putN x.toNat++(pl r++s):=by simp[pl]
  have c:okI r=true:=by unfold okI at h;rw[Af]at h;exact h.2
  rw[e,Al];unfold yV;rw[bF b.1 o_];dsimp only;rw[yU r _ s c,Ag];rfl
def aAf:∀(l:ax),Z l<=Z (pl l)
 |[]=>Bn _
 |x::r=>by have:=aAf r;have:=C8.putN_pos x.toNat;simp only[pl,Ah,Al];omega
def aFN(c:Con)(now nxt:Int)(d:a6)(f:ba):∀(l a:a7),(∀x∈l,(Z x.hs:Int)=x.g.pods/\x.g.ok=O/\okI [x.seq,x.at',x.st,x.fl]=O/\okI x.hs=O)->rR c now nxt d f (Z l) a (qV l)=X ((⟨c,now,nxt,f,a++l,d⟩,O),[])
 |[],a,_=>by rw[Ap];rfl
 |x::r,a,h=>by
  obtain⟨p,h1,b,h3⟩:=h x (Aw ..);have i:=C8.okI_b b x.seq s_;have n:=C8.okI_b b x.at' s_;have m:=C8.okI_b b x.st s_;have k:=C8.okI_b b x.fl s_;have e:qV (x::r)=pl x.g.il++(putN x.seq.toNat++(putN x.at'.toNat++(putN x.st.toNat++(putN x.fl.toNat++(pl x.hs++qV r))))):=by show(pl x.g.il++pl [x.seq,x.at',x.st,x.fl]++pl x.hs)++qV r=_;simp[pl]
  rw[e,Al];unfold rR;rw[pQ h1];dsimp only;rw[bF i.1 o_];dsimp only;rw[bF n.1 o_];dsimp only;rw[bF m.1 o_];dsimp only;rw[bF k.1 o_];dsimp only;have o:=aAf x.hs;rw[bt (by grind[bp,Ah]),show x.g.pods.toNat=Z x.hs from by omega,yU _ _ _ h3];dsimp only;rw[aFN c now nxt d f r _ λy j=>h y (Az _ j),Ag];rfl
def GF:∀(l:a6),Z (A5 l)=8*Z l
 |[]=>rfl
 |x::r=>by have:Z (zR x)=8:=lF x 8;unfold A5;rw[Ah,GF r,Al];omega
def Q4:∀(l:ba),Z l<=Z (wB l)
 |[]=>Bn _
 |x::r=>by
  have h1:=Q4 r;have a:=aAf [x.seq,x.at'];unfold wB;simp only[Ah,Al,Bs]at*
  omega
def P1:∀(l:a7),Z l<=Z (qV l)
 |[]=>Bn _
 |x::r=>by
  have h1:=P1 r;have a:=aAf [x.seq,x.at',x.st,x.fl];unfold qV;simp only[Ah,Al,Bs]at*
  omega
def aKs{s:Sta}(h:nZ s=O)(d:∀x∈s.hist,x<18446744073709551616):rSt (dK s)=X ((s,O),[]):=by
 have w:=YK h;have a:=aBr h;obtain⟨q,⟨n1,n2,m,o⟩,p,n,v,l,g⟩:=w;have c:C8.dec (oY s)=X s.cmd:=by have e:oY s=pl s.cmd.il:=bu a;unfold C8.dec;rw[e,C8.rCmd_put (C8.chk_told a)];exact bu ⟨rfl,a⟩
 have u:=GF s.hist;have t:=Q4 s.pend;have r:=P1 s.run;have e:dK s=putN (Z (oY s):Int).toNat++(oY s++(putN s.now.toNat++(putN s.nxt.toNat++(putN (Z s.hist:Int).toNat++(A5 s.hist++(putN (Z s.pend:Int).toNat++(wB s.pend++(putN (Z s.run:Int).toNat++qV s.run)))))))):=by unfold dK;simp[pl]
 rw[e];unfold rSt;rw[gI o_ o_ _ (by rw[Ah];omega)];dsimp only;rw[Bm,List.take_left,Ld,c];dsimp only;rw[bu (show s.cmd.k=1 from rfl)];unfold rB;rw[bF n1 o_];dsimp only;rw[bF m o_];dsimp only;rw[gI o_ o_ _ (by rw[Ah];omega)];dsimp only;rw[Bm,E8 _ _ _ _ _ _ d];unfold rPs;rw[gI o_ o_ _ (by rw[Ah];omega)];dsimp only;rw[Bm,aFO _ _ _ _ _ _ _ l];unfold rRs;rw[gI o_ o_ _ o_];dsimp only;rw[Bm,aFN _ _ _ _ _ _ _ λx b=>?_]
 .rfl
 .obtain ⟨i,f,j,_,_⟩:=g x b;exact⟨(OI (aBs h b).chk).1,i,f,j⟩
def aMJ{s:Sta}(h:nZ s=O)(a:∀x∈s.hist,x<18446744073709551616):aDr (dK s)=X s:=by unfold aDr;rw[aKs h a];exact bu ⟨rfl,h⟩
end Go.Proofs.YtenkdioaefckoaaGreatDoor
