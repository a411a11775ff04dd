/- Part 8 of what the statement rests on. -/
import Derived.Lib.Builder
import Derived.Lib.UnsafeStr
import Derived.Lib.Walk
import Derived.Shelf.RegionOpenPlain
import Derived.Test.YtenkdioaefckoaaGreatDoorRA
set_option linter.all false
set_option maxHeartbeats 2000000
open Go.AW.Res renaming ret->Io
open Go.AW.St renaming head->G0
open Go.AW.Tk renaming no->J0
open Go.AW.aa renaming agg->He,bool->DA,int->GE,nilptr->By,ref->G2,slice->CA,str->HA,tup->GT
open Go.AW.ab renaming cells->Do,tail->Fr
open Go.IntKind renaming i64->Is,u64->IH
open List renaming length->Z
open Bool renaming true->O,false->U
open Option renaming some->X,none->D
open And renaming intro->Aa
open Bool renaming and_assoc->Ey,and_eq_true->Af,and_false->Br,and_true->Ii,eq_false_or_eq_true->Fa,eq_iff_iff->Gv,false_and->Cu,not_eq_false'->Jj,not_eq_true'->Dj,or_eq_true->Fo,true_and->Bz
open Decidable renaming not_not->Du
open Exists renaming intro->Aj
open Go.Builtin renaming unsafeSliceData_->Jd,unsafeString_->Kd
open Go.Result renaming andThen->Ez
open Int renaming fdiv_eq_ediv_of_nonneg->Ef,le_refl->Em,toNat_natCast->Bo
open List renaming all_cons->Hw,all_eq_true->Cj,any_eq_true->Fy,append_assoc->Ag,append_nil->Ao,cons_append->Bx,count_append->Jt,count_cons_self->Kv,count_eq_zero->Lh,drop->Gd,drop_eq_getElem_cons->Ac,drop_eq_nil_of_le->Ae,drop_left->Li,drop_zero->Ca,eraseIdx_eq_take_drop_succ->Fh,ext_getElem?->Fe,foldl_cons->Ap,getElem?_append_left->Ai,getElem?_append_right->Au,getElem?_drop->Dm,getElem?_eq_getElem->Ab,getElem?_eq_none->Bp,getElem?_map->Cd,getElem?_take_of_lt->Bm,getElem_mem->Aq,length_append->Ah,length_cons->Al,length_drop->Dt,length_eraseIdx->Ku,length_map->Bw,length_nil->Bj,length_pos_iff->Dd,length_take->Cs,map_append->Bi,map_cons->Bf,map_drop->Ij,map_map->Dz,map_take->Fm,mem_append->Cc,mem_cons->Az,mem_cons_of_mem->Bb,mem_cons_self->Aw,mem_map->Cq,mem_map_of_mem->Cf,nodup_cons->Ci,not_mem_nil->Ix,pairwise_iff_getElem->Es,range->Dh,range'->Ig,replicate->Ak,take->Fs,take_add_one->Lq,take_append_of_le_length->Ek,take_of_length_le->Bl
open Nat renaming le_refl->Bc,le_trans->Cp,min_eq_left->Gw,mod_eq_of_lt->Hz,mul_add->Hb,mul_assoc->Ik,mul_comm->De,mul_le_mul_right->Bu,pow_add->Fc,pow_le_pow_right->Ep,strongRecOn->Hq,zero_add->Bv,zero_le->Bq,zero_lt_succ->Mh
open Or renaming inl->Fu,inr->Jv
open UInt8 renaming ofNat->Da,toNat_ofNat'->Hg
namespace Go.Proofs.YtenkdioaefckoaaGreatDoor
variable{P:Prop}
open Go.Proofs.Tryz
open Go Go.AW Go.Proofs
def zqca0(h:P:=by
 have b:U=r:=b;subst b;rcases z with⟨rfl,rfl⟩|rfl
 .refine gV ?_;refine aT λh=>?_
  repeat' first|refine pA ?_|refine⟨i,rfl,?_⟩|refine⟨u0.toNat,j,?_⟩|refine⟨_,get,?_⟩|refine⟨_,e,?_⟩|refine⟨_,n,?_⟩|refine Aj _ (Aa (d _) ?_)|refine .p a ?_|exact rfl|refine lA ?_ ?_|intro h
 .refine gV ?_;refine aT λh=>?_
  repeat' first|refine pA ?_|refine⟨i,rfl,?_⟩|refine⟨u0.toNat,j,?_⟩|refine⟨_,get,?_⟩|refine⟨_,e,?_⟩|refine⟨_,n,?_⟩|refine Aj _ (Aa (d _) ?_)|refine .p a ?_|exact rfl|refine lA ?_ ?_|intro h):P:=h
def zqca1(h:P:=by
 refine To.leave (f:=141) (args:=[G2 1 0]) [] rfl [] [1] rfl (catch_pan 0 1) ?_
 exact To.left hE rfl rfl rfl):P:=h
def zqca2(h:P:=by
 refine gV ?_;refine aT λh=>gV ?_;refine⟨i,rfl,gV ?_⟩;refine⟨_,get,gV ?_⟩;refine .p c ?_;refine bR (hEr [] [64,65,66]) 20 ?_;conv=>whnf
 refine To.cutC [1,3,4,6,7,14,15,16] 3 rfl rfl rfl rfl ?_;refine xK p ?_
 exact zW):P:=h
def zqca3(h:P:=by
 refine gV ?_;refine .eff [] [1,2] _ _ rfl (aA.strip (nums_ok [x.n] s_ l s_ _ q_)) (gV ?_);have il:=il_cons x [x.n] (by rw[h1,b,j];rfl);have a:putN x.k.toNat++pl [x.n]≠[]:=by rw[il];exact pl_ne _ _
 refine .eff [] [1,2] _ _ rfl (str_ok _ a _) (gV ?_)
 rw[il]):P:=h
def zqca4(h:P:=by
 refine⟨λc=>?_,λc=>?_⟩
 .refine gV ?_;rw[bu c]at a;rw[a]
 .refine gV ?_;rw[bt (by rw[c];simp)]at a;refine .inl ⟨⟨by simp only[bS];omega,by simp only[aX];omega⟩,?_⟩;have d:=g (i+1) o_ (by rw[<-a];push_cast;rfl)
  exact zW):P:=h
def zqca5(h:P:=by
 refine gV ?_;refine⟨i,rfl,gV ?_⟩;refine⟨by rw[a];omega,?_⟩;refine gV ?_;refine⟨C9 (by have:=GN (pav l) i;omega),?_⟩;refine gV ?_;refine⟨pR q_,gV ?_⟩;refine⟨i,rfl,gV ?_⟩;refine⟨by rw[a];omega,?_⟩;refine gV ?_;refine⟨pR q_,gV ?_⟩;rw[putP,hp];have:Fs i (pav l)++[p.av]++Gd i (pav l)=pav (l.take i++[p]++l.drop i):=by simp
 rw[<-this]
 rfl):P:=h
def zqca6(h:P:=by
 refine gV ?_;have next:=p (i+1) 1 (bs++putN x.toNat) o_ (.inr rfl) (λ_=>rfl) (λ_=>rfl) q_ a
 rcases f with rfl|rfl
 .refine .sole rfl (.eff [] [0,1] _ _ rfl (ws_ok bs _ o_) (gV ?_));refine aJ (gV ?_);exact To.part [0,6,7,8] [0,1] rfl rfl rfl next
 .refine .sole rfl (.eff [] [0,1] _ _ rfl (ws_ok bs _ o_) (gV ?_));refine aJ (gV ?_);refine To.part [0,6,7,8] [0,1] rfl rfl rfl ?_
  exact next):P:=h
def zqca7(h:P:=by
 refine To.cutC [1,4] 1 rfl rfl rfl rfl ?_
 exact(iD x U r a)):P:=h
def zqca8(h:P:=by
 refine gV ?_;refine aJ (gV ?_);refine gV ?_;refine Aa (λh=>bv (bn h) s_) (λ_=>gV ?_);refine⟨[],[0,1],⟨rfl,rfl⟩,?_⟩
 exact⟨rfl,rfl⟩):P:=h
def zqca9(h:P:=by
 refine⟨[],[0],⟨rfl,rfl⟩,?_⟩
 exact⟨rfl,rfl⟩):P:=h
def zqca10(h:P:=by
 refine eA (Eo [14] []) f112 2 λ_=>gV ?_;refine .eff [] [0,1] _ _ rfl (Q3 _) (gV ?_);refine⟨⟨by simp only[maxLen];simp;omega,by simp;omega⟩,?_⟩;refine gV ?_;refine⟨[],[0,1],⟨rfl,rfl⟩,?_⟩;conv=>whnf
 refine⟨rfl,?_⟩;unfold wrO;rw[Bi]
 rfl):P:=h
def zqca11(h:P:=by
 refine gW hEc ?_;conv=>whnf
 refine .p (gM _ _ rfl) ?_;refine bR hEc 2 ?_;conv=>whnf
 refine To.cutC [1,2] 2 rfl rfl rfl rfl ?_
 exact(aCE x r a)):P:=h
def zqca12(h:P:=by
 simp only[Con.non,Af,beq_iff_eq]at h;obtain⟨⟨⟨h1,d⟩,h3⟩,b⟩:=h;obtain⟨ns,hs,half,age⟩:=c;dsimp only at h1 d h3 b;have e:ns=[]:=by cases ns with|nil=>rfl|cons a l=>simp at h1;omega
 have f:hs=[]:=by cases hs with|nil=>rfl|cons a l=>simp at d;omega
 subst e f h3 b
 rfl):P:=h
def zqca13(h:P:=by
 intro i g bs s f j _ d a;have e:=j rfl;subst e;rw[Ae o_]at a;have a:bs++[]=B:=a;rw[Ao]at a;subst a;refine gV ?_;refine aF λh=>gV ?_;refine⟨[],[0,1],⟨rfl,rfl⟩,?_⟩;rcases f with rfl|rfl
 .exact ⟨rfl,rfl⟩
 .exact ⟨rfl,rfl⟩):P:=h
def zqca14(h:P:=by
 refine eA (Eo [14] []) f112 1 λ_=>gV ?_;refine .eff [] [0] _ _ rfl (cc_fresh _) (gV ?_);refine⟨⟨by simp only[maxLen];simp;omega,by simp;omega⟩,?_⟩;refine gV ?_
 exact zx [0,1]):P:=h
def zqca15(h:P:=by exact c_ f148 λ_=>zW):P:=h
def zqca16(h:P:=by
 refine Lib.run_unsafeString_row w.drew 261 3 9 5 aFl aJN g a.size (by have i:w.drew.heap[g]? =X (.cells a 5 (0,0)):=s;simp[Go.World.shape?,i]) l n o_ (by unfold maxLen at d;omega) ?_;intro j x v;rw[bK,Bv]
 exact c j x v):P:=h
def zqca17(h:P:=by
 simp only[h1]at b a;have b:Res.pan (bF 10)=r:=b;have a:rdU=As:=a;subst b a;refine .effp [] [0] _ _ rfl (lF h1) ?_
 exact zx [0]):P:=h
def zqca18(h:P:=by
 refine To.left hE rfl rfl ?_;refine⟨[],[0,1,2],⟨rfl,rfl⟩,?_⟩
 exact⟨rfl,rfl⟩):P:=h
def zqca19(h:P:=by
 refine gW hEc ?_;conv=>whnf
 refine .pan _ (dY _ _ rfl) ?_;conv=>whnf
 exact zqca1):P:=h
def zqca20(h:P:=by
 have h2:pav (xs.take i++[p]++xs.drop i)=(pav xs).take i++[p.av]++(pav xs).drop i:=by simp
 rw[h2]
 exact congrArg (λl=>[ab.row 1 11 104 l,.row 0 11 104 [p.av]]) h):P:=h
def zqca21(h:P:=by
 refine .effp [] [0] _ _ rfl (bY h3) ?_
 exact zx [0]):P:=h
def zqca22(h:P:=by
 refine .effp [] [0] _ _ rfl (bY h1) ?_
 exact zx [0]):P:=h
def zqca23(h:P:=by
 refine To.part [1,3,4,14,15,16] [0,1] rfl rfl rfl ?_;refine a ?_;clear d a;simp only[bo,bk,bne_iff_ne,ne_eq,bne_eq_false_iff_eq,Du]at *
 simp[gcB]
 try omega):P:=h
def zqca24(h:P:=by
 subst a;refine congrArg (λq=>Res.ret (aa.bool q)) ?_;simp only[bo,bk]at *
 first|(rw[bp o_];rfl)|(rw[bq o_];rfl)):P:=h
def zqca25(h:P:=by exact c_ f75 λ_=>zW):P:=h
def zqca26(h:P:=by
 refine gV ?_;refine .p (k xs[i] (Aq b)) (gV ?_);rw[Ac b]at a;have a:(if p xs[i]=O then(i:Int)else P9 p (xs.drop (i+1)) ((i:Int)+1))=r:=a
 exact zqca4):P:=h
def zqca27(h:P:=by
 simp only[okI,kW,Af,bo,and_true]
 omega):P:=h
def zqca28(h:P:=by
 refine gV ?_;refine .eff [] [1,2] _ _ rfl (str_ok _ a _) (gV ?_)
 rw[il]):P:=h
def zqca29(h:P:=by
 refine bR hE 8 ?_;conv=>whnf
 refine To.cutC [1,4] 1 rfl rfl rfl rfl ?_
 exact(iD x _ r a)):P:=h
def zqca30(h:P:=by
 replace a:=jE a b;refine gV ?_;refine aN ?_;refine bR hE 10 ?_;conv=>whnf
 exact zqca7):P:=h
def zqca31(h:P:=by
 refine gV ?_;refine aY ?_
 refine gW hE ?_;conv=>whnf):P:=h
def zqca32(h:P:=by
 refine gV ?_;refine To.part [0,6,7,8] [0,1] rfl rfl rfl ?_
 exact CZ l o_ c _ 1 o_ (Z l) 0 0 bs o_ (.inl rfl) (λh=>by omega) (λ_=>rfl) o_ rfl):P:=h
def zqca33(h:P:=by
 simp only[h1]at d b;have d:Res.pan (bF 10)=r:=d;have b:rdU=As:=b;subst d b;refine .effp [] [0] _ _ rfl (A5 h1) ?_
 exact zx [0]):P:=h
def zqca34(h:P:=by
 simp only[g]at f d;have f:Res.pan (bF 10)=r:=f;have d:rdU=As:=d;subst f d;refine .effp [] [0] _ _ rfl (bY g) ?_
 exact zx [0]):P:=h
def zqca35(h:P:=by
 refine gV ?_;refine⟨[],[0,1],⟨rfl,rfl⟩,?_⟩
 exact⟨rfl,rfl⟩):P:=h
def zqca36(h:P:=by
 refine To.leave (f:=141) (args:=[G2 1 0]) [] rfl [] [1] rfl (catch_pan 0 8) ?_
 exact To.left hE rfl rfl rfl):P:=h
def zqca37(h:P:=by
 have:w.drew.heap[b]? =X (.cells #[p,.slice (X ⟨g,0,D⟩) (Z l) cap] tWr (0,0)):=h
 rw[Lib.cell_of_heap this];rfl):P:=h
def zqca38(h:P:=by
 replace a:=jE a h3;refine bR hE 10 ?_;conv=>whnf
 exact zqca7):P:=h
def zqca39(h:P:=by exact bv (bm h) o_):P:=h
def zqca40(h:P:=by
 intro i j a;refine gV ?_;refine aF λh=>gV ?_;rw[Ae o_]at a;rw[<-a]
 rfl):P:=h
def zqca41(h:P:=by
 refine gV ?_;refine Aa (λ_=>?_) (λh=>bv h d_);refine To.loose (gV ?_)
 exact zqca9):P:=h
def zqca42(h:P:=by exact bv (bn h) o_):P:=h
def zqca43(h:P:=by
 rw[Ae o_,Ae o_]at c;subst c;refine gV ?_
 exact zW):P:=h
def zqca44(h:P:=by
 refine bR hEc 2 ?_;conv=>whnf
 refine To.cutC [1,2] 2 rfl rfl rfl rfl ?_
 exact(aOV x r a)):P:=h
def zqca45(h:P:=by
 simp only[h1]at f d;have f:Res.pan (bF 10)=r:=f;have d:rdU=As:=d;subst f d
 exact zqca22):P:=h
def zqca46(h:P:=by
 simp only[h3]at d b;have d:Res.pan (bF 10)=r:=d;have b:rdU=As:=b;subst d b
 exact zqca21):P:=h
def zqca47(h:P:=by
 refine bR hEc 2 ?_;conv=>whnf
 refine To.cutC [1,2] 2 rfl rfl rfl rfl ?_
 exact(aOU x r a)):P:=h
def zqca48(h:P:=by
 rcases xI (λx=>x.id==a) l 0 with h|h
 .unfold am at c;omega
 .unfold am;omega):P:=h
def zqca49(h:P:=by
 refine .effp [] [0] _ _ rfl (bY l) ?_
 exact zx [0]):P:=h
def zqca50(h:P:=by
 refine .effp [] [0] _ _ rfl (AK j) ?_
 exact zx [0]):P:=h
def zqca51(h:P:=by
 rw[e]at a d;have a:U=b:=a;subst a;refine gV ?_
 exact zW):P:=h
def zqca52(h:P:=by
 have a:R=false:=a;subst a
 exact c_ f44 λ_=>zW):P:=h
def zqca53(h:P:=by
 rw[eqL_len (by intro e;rw[c,d,e]at h;simp at h)]
 refine gW hE ?_;conv=>whnf):P:=h
def zqca54(h:P:=by
 refine gV ?_;have c:=bn h;unfold takeP;rw[bu c,h]
 rfl):P:=h
def zqca55(h:P:=by
 refine gV ?_;refine To.part [1,7,69,70,71] [0,1] rfl rfl rfl ?_
 exact next):P:=h
structure Cmd where
 k:Int
 c:Con
 g:Gan
 n:Int
 deriving DecidableEq
def Cmd.cs(x:Cmd):az:=[ii x.k,CA 11 (nav x.c.ns) J0,CA 6 (hav x.c.hs) J0,ii x.c.half,ii x.c.age,ii x.g.id,ii x.g.ten,ii x.g.pods,ii x.g.need.a,ii x.g.need.b,ii x.g.need.c,ii x.g.run,ii x.g.lev,ii x.g.pref,ii x.n]
def Cmd.av(x:Cmd):aa:=He x.cs
def kW(x:Int):Bool:=decide (0<=x)&&decide (x<=1099511627776)
def okI:ax->Bool
 | []=>O
 | x::r=>kW x&&okI r
def V3.l(v:V3):ax:=[v.a,v.b,v.c]
def Nod.ok(x:Nod):Bool:=(decide (-1<=x.p)&&decide (x.p<=1099511627776))&&okI [x.w]&&okI x.n.l&&okI x.b.l&&okI x.l.l
def Hos.ok(x:Hos):Bool:=okI [x.f,x.b,x.r]&&okI x.c.l
def uL:bf->Bool
 | []=>O
 | x::r=>x.ok&&uL r
def nH:List Hos->Bool
 | []=>O
 | x::r=>x.ok&&nH r
def Con.tok(c:Con):Bool:=uL c.ns&&nH c.hs&&okI [c.half,c.age]
def Gan.ok(g:Gan):Bool:=okI [g.id,g.ten,g.pods,g.run,g.lev,g.pref]&&okI g.need.l
def Con.none(c:Con):Bool:=decide ((Z c.ns:Int)=0)&&decide ((Z c.hs:Int)=0)&&decide (c.half=0)&&decide (c.age=0)
def Gan.zero:Gan:=⟨0,0,0,⟨0,0,0⟩,0,0,0⟩
namespace C8
set_option maxRecDepth 10000
def bF(e:Int):aa:=.iface 286 (He [ii e])
def gM(b:Bool)(e:Int)(h:b=O):bj 142 [DA b,ii e] (GT []):=by subst h;refine c_ f142 λ_=>gV ?_;refine⟨λh=>bv h d_,λh=>?_⟩;refine gW hE ?_;conv=>whnf
def dY(b:Bool)(e:Int)(h:b=U):ar 142 [DA b,ii e] [] (.pan (bF e)) []:=by subst h;refine c_ f142 λ_=>gV ?_;refine⟨λh=>?_,λh=>bv h d_⟩;refine gV ?_;rfl
def aOt(l:ax):Res:=if okI l then Io (GT [])else .pan (bF 1)
def aC5(l:ax)(hl:Gf (Z (iv l)))(r:Res):∀(n i:Nat),i+n=Z l->aOt (l.drop i)=r->
  To E f145 (.pure r) (BV f145 [(4,CA 1 (iv l) J0),(5,GE Is (Z (iv l):Nat)),(6,GE Is i)] []):=by
 have d:Z (iv l)=Z l:=by simp
 intro n;induction n with
 | zero=>
  intro i g a;rw[Ae o_]at a;refine gV ?_;refine⟨λh=>bv (bn h) o_,λh=>gV ?_⟩;exact a
 | succ n e=>
  intro i g a;have b:i<Z l:=o_;rw[Ac b]at a;have a:(if kW l[i]&&okI (l.drop (i+1))then Res.ret (GT [])else .pan (bF 1))=r:=a;refine gV ?_;refine⟨λh=>?_,λh=>bv (bm h) o_⟩;refine gV ?_;refine⟨i,rfl,gV ?_⟩;refine⟨_,cK b,gV ?_⟩;refine⟨λh1=>?_,λh1=>?_⟩
  .refine gV ?_;rcases Fa (decide (l[i]<=1099511627776))with c|c
   .refine .p (gM _ _ c) (gV ?_);refine .inl ⟨⟨by simp only[bS];omega,by simp only[aX];omega⟩,?_⟩;refine gV ?_;refine To.head [4,5,6] ?_;refine e (i+1) o_ ?_;have h3:kW l[i]=true:=by unfold kW;rw[c];simpa using h1
    rw[h3,Bz]at a;exact a
   .refine .pan _ (dY _ _ c) ?_;have h3:kW l[i]=false:=by unfold kW;rw[c];simp
    rw[h3]at a;exact a
  .refine gV ?_;refine .pan _ (dY _ _ rfl) ?_;have h3:kW l[i]=false:=by unfold kW;have:decide (0<=l[i])=false:=h1;rw[this];rfl
   rw[h3]at a;exact a
def RW(l:ax)(r:Res)(c:aOt l=r):ar 145 [CA 1 (iv l) J0] [] r []:=by refine c_ f145 λb=>?_;have a:=aC5 l b.1 _ (Z l) 0 o_ c;exact zW
def lO(l:ax)(h:okI l=O):bj 145 [CA 1 (iv l) J0] (GT []):=RW l _ (bu h)
def iQ(l:ax)(h:okI l=U):ar 145 [CA 1 (iv l) J0] [] (.pan (bF 1)) []:=RW l _ (bt (by rw[h];simp))
def oR(b:Bool):Res:=if b then Io (GT [])else .pan (bF 1)
def H2{b:Bool}{r:Res}(a:oR b=r)(h:b=U):Res.pan (bF 1)=r:=by subst h;exact a
def aAh(c:Con)(r:Res)(hl:Gf (Z (hav c.hs))):∀(n i:Nat),i+n=Z c.hs->oR (nH (c.hs.drop i)&&okI [c.half,c.age])=r->
  To E f143 (.pure r) (G0 (stk f143 1) [(1,G2 0 0),(37,CA 6 (hav c.hs) J0),(38,GE Is (Z (hav c.hs):Nat)),(39,GE Is i)] [Do 30 c.cs]):=by
 have g:Z (hav c.hs)=Z c.hs:=by simp
 intro n;induction n with
 | zero=>
  intro i k a;rw[Ae o_]at a;refine gV ?_;refine⟨λh=>bv (bn h) o_,λh=>gV ?_⟩;cases d:okI [c.half,c.age]with
  | true=>
   refine .p (aA.strip (lO [c.half,c.age] d)) (gV ?_);rw[d]at a;exact a
  | false=>
   refine .pan _ (aA.strip (iQ [c.half,c.age] d)) ?_;rw[d]at a;exact a
 | succ n j=>
  intro i k a;have e:i<Z c.hs:=o_;rw[Ac e]at a;have a:oR ((c.hs[i].ok&&nH (c.hs.drop (i+1)))&&okI [c.half,c.age])=r:=a;generalize m:c.hs[i]=x at a;refine gV ?_;refine⟨λh=>?_,λh=>bv (bm h) o_⟩;refine gV ?_;refine⟨i,rfl,gV ?_⟩;refine⟨_,(nC e).trans (by rw[m]),gV ?_⟩;cases d:okI [x.f,x.b,x.r]with
  | false=>
   refine .pan _ (aA.strip (iQ [x.f,x.b,x.r] d)) ?_;exact H2 a (by unfold Hos.ok;rw[d];rfl)
  | true=>
   refine .p (aA.strip (lO [x.f,x.b,x.r] d)) (gV ?_);refine⟨by decide,gV ?_⟩;cases h3:okI x.c.l with
   | false=>
    refine .pan _ (aA.strip (iQ x.c.l h3)) ?_;exact H2 a (by unfold Hos.ok;rw[d,h3];rfl)
   | true=>
    refine .p (aA.strip (lO x.c.l h3)) (gV ?_);refine .inl ⟨⟨by simp only[bS];omega,by simp only[aX];omega⟩,?_⟩;refine gV ?_;refine To.cut [1,37,38,39] 1 rfl rfl rfl rfl ?_;refine j (i+1) o_ ?_;have:x.ok=true:=by unfold Hos.ok;rw[d,h3];rfl
    rw[this,Bz]at a;exact a
def aEM(c:Con)(r:Res)(hl:Gf (Z (nav c.ns)))(v:Gf (Z (hav c.hs))):∀(n i:Nat),i+n=Z c.ns->oR (uL (c.ns.drop i)&&(nH c.hs&&okI [c.half,c.age]))=r->
  To E f143 (.pure r) (BV f143 [(1,G2 0 0),(7,CA 11 (nav c.ns) J0),(8,GE Is (Z (nav c.ns):Nat)),(9,GE Is i)] [Do 30 c.cs]):=by
 have q:Z (nav c.ns)=Z c.ns:=by simp
 intro n;induction n with
 | zero=>
  intro i u d;rw[Ae o_]at d;refine gV ?_;refine⟨λh=>bv (bn h) o_,λh=>?_⟩;have o:=aAh c r v (Z c.hs) 0 o_ d;exact zW
 | succ n s=>
  intro i u d;have e:i<Z c.ns:=o_;rw[Ac e]at d;have d:oR ((c.ns[i].ok&&uL (c.ns.drop (i+1)))&&(nH c.hs&&okI [c.half,c.age]))=r:=d;generalize y:c.ns[i]=x at d;have a:x.ok=U->Res.pan (bF 1)=r:=λh=>H2 d (by rw[h];rfl);refine gV ?_;refine⟨λh=>?_,λh=>bv (bm h) o_⟩;refine gV ?_;refine⟨i,rfl,gV ?_⟩;refine⟨_,(fL e).trans (by rw[y]),gV ?_⟩;refine⟨λh1=>?_,λh1=>?_⟩
  .have h1:decide (-1<=x.p)=true:=h1;refine gV ?_;rcases Fa (decide (x.p<=1099511627776))with g|g
   .refine .p (gM _ _ g) (gV ?_);cases h3:okI [x.w]with
    | false=>
     refine .pan _ (aA.strip (iQ [x.w] h3)) ?_;exact a (by unfold Nod.ok;rw[h3];simp)
    | true=>
    refine .p (aA.strip (lO [x.w] h3)) (gV ?_);refine⟨by decide,gV ?_⟩;cases j:okI x.n.l with
    | false=>
     refine .pan _ (aA.strip (iQ x.n.l j)) ?_;exact a (by unfold Nod.ok;rw[j];simp)
    | true=>
    refine .p (aA.strip (lO x.n.l j)) (gV ?_);refine⟨by decide,gV ?_⟩;cases k:okI x.b.l with
    | false=>
     refine .pan _ (aA.strip (iQ x.b.l k)) ?_;exact a (by unfold Nod.ok;rw[k];simp)
    | true=>
    refine .p (aA.strip (lO x.b.l k)) (gV ?_);refine⟨by decide,gV ?_⟩;cases m:okI x.l.l with
    | false=>
     refine .pan _ (aA.strip (iQ x.l.l m)) ?_;exact a (by unfold Nod.ok;rw[m];simp)
    | true=>
    refine .p (aA.strip (lO x.l.l m)) (gV ?_);refine .inl ⟨⟨by simp only[bS];omega,by simp only[aX];omega⟩,?_⟩;refine gV ?_;refine To.cut [1,7,8,9] 1 rfl rfl rfl rfl ?_;refine s (i+1) o_ ?_;have:x.ok=true:=by unfold Nod.ok;rw[h1,g,h3,j,k,m];rfl
    rw[this,Bz]at d;exact d
   .refine .pan _ (dY _ _ g) ?_;exact a (by unfold Nod.ok;rw[g];simp)
  .have h1:decide (-1<=x.p)=false:=h1;refine gV ?_;refine .pan _ (dY _ _ rfl) ?_;exact a (by unfold Nod.ok;rw[h1];simp)
def aCy(c:Con)(M:Imm)(ob:Hs)(vs:bb)(h:cV M ob vs [c.av]):(Z (nav c.ns):Int)<=9223372036854775807/\(Z (hav c.hs):Int)<=9223372036854775807:=by
 have hl:0<Z vs:=by rw[h.1];simp
 have:=h.2 0 _ c.av (Ab hl) rfl;exact⟨cX this 0 _ rfl,cX this 1 _ rfl⟩
def JS(c:Con)(r:Res)(b:oR c.tok=r):ar 143 [c.av] [] r []:=by refine aA.get _ (aCy c) λ⟨hl,d⟩=>?_;refine c_ f143 λ_=>?_;have a:=aEM c r hl d (Z c.ns) 0 o_ (by rw[<-b];unfold Con.tok;rw[Ey];rfl);exact zW
def aEJ(c:Con)(h:c.tok=O):bj 143 [c.av] (GT []):=JS c _ (bu h)
def aAd(c:Con)(h:c.tok=U):ar 143 [c.av] [] (.pan (bF 1)) []:=JS c _ (bt (by rw[h];simp))
def U7(x:Gan)(r:Res)(b:oR x.ok=r):ar 144 [x.av] [] r []:=by
 refine c_ f144 λ_=>gV ?_;cases h1:okI [x.id,x.ten,x.pods,x.run,x.lev,x.pref]with
 | false=>
  refine .pan _ (aA.strip (iQ [x.id,x.ten,x.pods,x.run,x.lev,x.pref] h1)) ?_;exact H2 b (by unfold Gan.ok;rw[h1];rfl)
 | true=>
  refine .p (aA.strip (lO [x.id,x.ten,x.pods,x.run,x.lev,x.pref] h1)) (gV ?_);refine⟨by decide,gV ?_⟩;cases a:okI x.need.l with
  | false=>
   refine .pan _ (aA.strip (iQ x.need.l a)) ?_;exact H2 b (by unfold Gan.ok;rw[h1,a];rfl)
  | true=>
   refine .p (aA.strip (lO x.need.l a)) (gV ?_);rw[<-b];unfold Gan.ok;rw[h1,a];rfl
def aMV(x:Gan)(h:x.ok=O):bj 144 [x.av] (GT []):=U7 x _ (bu h)
def aIx(x:Gan)(h:x.ok=U):ar 144 [x.av] [] (.pan (bF 1)) []:=U7 x _ (bt (by rw[h];simp))
def catch_ret(x:Int):ER Tryz.prog 141 [G2 0 0] [Do 37 [ii x]] D [Do 37 [ii x]]:=by refine ER.of (E:=E) (fn:=f141) (n0:=1) (r:=GT []) (by rfl) (by rfl) (by rfl) (λ_ _=>by rfl) (by rfl) (by decide+kernel) (by rfl) (by rfl) (by rfl) (by rfl) λ_=>gV ?_;refine⟨λ_=>?_,λh=>bv h d_⟩;exact zW
def catch_pan(x e:Int):ER Tryz.prog 141 [G2 0 0] [Do 37 [ii x]] (X (bF e)) [Do 37 [ii e]]:=by refine ER.of (E:=E) (fn:=f141) (n0:=1) (r:=GT []) (by rfl) (by rfl) (by rfl) (λ_ _=>by rfl) (by rfl) (by decide+kernel) (by rfl) (by rfl) (by rfl) (by rfl) λ_=>gV ?_;refine⟨λh=>bv h d_,λ_=>gV ?_⟩;refine⟨λ_=>?_,λh=>bv h d_⟩;exact zW
def _root_.Go.Proofs.YtenkdioaefckoaaGreatDoor.Gan.isZ(g:Gan):Bool:=((g.id==0)&&((g.ten==0)&&((g.pods==0)&&((g.need.a==0)&&((g.need.b==0)&&((g.need.c==0)&&((g.run==0)&&((g.lev==0)&&((g.pref==0)&&O)))))))))
def chkL(x:Cmd):Int:=if decide ((Z (nav x.c.ns):Int)<=12)&&decide ((Z (hav x.c.hs):Int)<=24)then 0 else 8
def chkN(x:Cmd):Int:=if okI [x.n]then chkL x else 1
def chkG(x:Cmd):Int:=if x.g.ok then chkN x else 1
def chkC(x:Cmd):Int:=if x.c.tok then chkG x else 1
def chk4(x:Cmd):Int:=if((x.k==3||x.k==4)||x.k==5)||x.n==0 then chkC x else 1
def chk3(x:Cmd):Int:=if x.k==2||x.g.isZ then chk4 x else 1
def _root_.Go.Proofs.YtenkdioaefckoaaGreatDoor.Con.non(c:Con):Bool:=(((Z (nav c.ns):Int)==0&&(Z (hav c.hs):Int)==0)&&c.half==0)&&c.age==0
def chk2(x:Cmd):Int:=if x.k==1||x.c.non then chk3 x else 1
def chk(x:Cmd):Int:=if decide (1<=x.k)&&decide (x.k<=6)then chk2 x else 1
abbrev chF:au:=[(1,G2 0 0),(2,G2 1 0)]
abbrev chO(x:Cmd):aw:=[Do 47 x.cs,Do 37 [ii 0]]
noncomputable abbrev Ec:Env:=Ed [(141,[G2 1 0])]
def hEc:ae Ec:=hEd _
def aNY(x:Cmd)(r:Int)(h:0=r):To Ec f96 (.pure (Io (ii r))) (.code (eO f96 9) chF (chO x)):=by
 subst h;refine gW hEc ?_;conv=>whnf
 refine To.leave (f:=141) (args:=[G2 1 0]) [] rfl [] [1] rfl (catch_ret 0) ?_;exact To.left hE rfl rfl rfl
def aTk(x:Cmd)(r:Int)(a:chkL x=r):To Ec f96 (.pure (Io (ii r))) (.code (eO f96 8) chF (chO x)):=by
 unfold chkL at a;refine gW hEc ?_;conv=>whnf
 refine⟨λh1=>?_,λh1=>?_⟩
 .refine gW hEc ?_;conv=>whnf
  rcases Fa (decide ((Z (hav x.c.hs):Int)<=24))with b|b
  .rw [b,h1]at a;refine .p (gM _ _ b) ?_;refine bR hEc 2 ?_;conv=>whnf
   refine To.cutC [1,2] 2 rfl rfl rfl rfl ?_;exact(aNY x r a)
  .rw [b,Br]at a;subst a;refine .pan _ (dY _ _ b) ?_;conv=>whnf
   exact zqca36
 .rw [h1,Cu]at a;subst a;refine gW hEc ?_;conv=>whnf
  refine .pan _ (dY _ _ rfl) ?_;conv=>whnf
  exact zqca36
def aTl(x:Cmd)(r:Int)(a:chkN x=r):To Ec f96 (.pure (Io (ii r))) (.code (eO f96 7) chF (chO x)):=by
 unfold chkN at a;refine gW hEc ?_;conv=>whnf
 cases h:okI [x.n]with
 | true=>
  rw[h]at a;refine .p (aA.strip (lO [x.n] h)) ?_;refine bR hEc 2 ?_;conv=>whnf
  refine To.cutC [1,2] 2 rfl rfl rfl rfl ?_;exact(aTk x r a)
 | false=>
  rw[h]at a;subst a;refine .pan _ (aA.strip (iQ [x.n] h)) ?_;conv=>whnf
  exact zqca1
def aTm(x:Cmd)(r:Int)(a:chkG x=r):To Ec f96 (.pure (Io (ii r))) (.code (eO f96 6) chF (chO x)):=by
 unfold chkG at a;refine gW hEc ?_;conv=>whnf
 cases h:x.g.ok with
 | true=>
  rw[h]at a;refine .p (aMV x.g h) ?_;refine bR hEc 2 ?_;conv=>whnf
  refine To.cutC [1,2] 2 rfl rfl rfl rfl ?_;exact(aTl x r a)
 | false=>
  rw[h]at a;subst a;refine .pan _ (aIx x.g h) ?_;conv=>whnf
  exact zqca1
def aCE(x:Cmd)(r:Int)(a:chkC x=r):To Ec f96 (.pure (Io (ii r))) (.code (eO f96 5) chF (chO x)):=by
 unfold chkC at a;refine gW hEc ?_;conv=>whnf
 cases h:x.c.tok with
 | true=>
  rw[h]at a;refine .p (aEJ x.c h) ?_;refine bR hEc 2 ?_;conv=>whnf
  refine To.cutC [1,2] 2 rfl rfl rfl rfl ?_;exact(aTm x r a)
 | false=>
  rw[h]at a;subst a;refine .pan _ (aAd x.c h) ?_;conv=>whnf
  exact zqca1
def fM{b:Bool}{p q r:Int}(a:(if b then p else q)=r)(h:b=O):p=r:=by subst h;exact a
def jE{b:Bool}{p q r:Int}(a:(if b then p else q)=r)(h:b=U):q=r:=by subst h;exact a
def aOU(x:Cmd)(r:Int)(a:chk4 x=r):To Ec f96 (.pure (Io (ii r))) (.code (eO f96 4) chF (chO x)):=by
 unfold chk4 at a;refine gW hEc ?_;conv=>whnf
 refine⟨λh1=>?_,λh1=>?_⟩
 .have h1:(x.k==3)=true:=h1;replace a:=fM a (by simp[h1]);refine gW hEc ?_;conv=>whnf
  refine aY ?_;refine gW hEc ?_;conv=>whnf
  refine aY ?_;exact zqca11
 .have h1:(x.k==3)=false:=h1;refine gW hEc ?_;conv=>whnf
  refine⟨λb=>?_,λb=>?_⟩
  .have b:(x.k==4)=true:=b;replace a:=fM a (by simp[b]);refine gW hEc ?_;conv=>whnf
   refine aY ?_;exact zqca11
  .have b:(x.k==4)=false:=b;refine gW hEc ?_;conv=>whnf
   refine⟨λh3=>?_,λh3=>?_⟩
   .have h3:(x.k==5)=true:=h3;replace a:=fM a (by simp[h3]);exact zqca11
   .have h3:(x.k==5)=false:=h3;refine gW hEc ?_;conv=>whnf
    refine(Fa (x.n==0)).elim (λc=>?_) (λc=>?_)
    .replace a:=fM a (by simp[c]);refine .p (gM _ _ c) ?_;refine bR hEc 2 ?_;conv=>whnf
     refine To.cutC [1,2] 2 rfl rfl rfl rfl ?_;exact(aCE x r a)
    .replace a:=jE a (by simp[h1,b,h3,c]);subst a;refine .pan _ (dY _ _ c) ?_;conv=>whnf
     exact zqca1
def aOV(x:Cmd)(r:Int)(a:chk3 x=r):To Ec f96 (.pure (Io (ii r))) (.code (eO f96 3) chF (chO x)):=by
 unfold chk3 at a;refine gW hEc ?_;conv=>whnf
 refine⟨λh1=>?_,λh1=>?_⟩
 .have h1:(x.k==2)=true:=h1;replace a:=fM a (by simp[h1]);refine gW hEc ?_;conv=>whnf
  exact .p (gM _ _ rfl) zqca47
 .have h1:(x.k==2)=false:=h1;refine gW hEc ?_;conv=>whnf
  refine(Fa x.g.isZ).elim (λb=>?_) (λb=>?_)
  .replace a:=fM a (by simp[b]);exact .p (gM _ _ b) zqca47
  .replace a:=jE a (by simp[h1,b]);subst a;refine .pan _ (dY _ _ b) ?_;conv=>whnf
   exact zqca1
def aTn(x:Cmd)(r:Int)(a:chk2 x=r):To Ec f96 (.pure (Io (ii r))) (.code (eO f96 2) chF (chO x)):=by
 unfold chk2 Con.non at a;refine gW hEc ?_;conv=>whnf
 refine⟨λh1=>?_,λh1=>?_⟩
 .have h1:(x.k==1)=true:=h1;replace a:=fM a (by rw[h1];rfl);refine gW hEc ?_;conv=>whnf
  exact .p (gM _ _ rfl) zqca44
 .have h1:(x.k==1)=false:=h1;refine gW hEc ?_;conv=>whnf
  refine⟨λd=>?_,λd=>?_⟩
  .have d:((Z (nav x.c.ns):Int)==0)=true:=d;refine gW hEc ?_;conv=>whnf
   refine⟨λh3=>?_,λh3=>?_⟩
   .have h3:((Z (hav x.c.hs):Int)==0)=true:=h3;refine gW hEc ?_;conv=>whnf
    refine⟨λb=>?_,λb=>?_⟩
    .have b:(x.c.half==0)=true:=b;refine gW hEc ?_;conv=>whnf
     refine(Fa (x.c.age==0)).elim (λe=>?_) (λe=>?_)
     .replace a:=fM a (by rw[h1,d,h3,b,e];rfl);exact .p (gM _ _ e) zqca44
     .replace a:=jE a (by rw[h1,e,Br];rfl);subst a;refine .pan _ (dY _ _ e) ?_;conv=>whnf
      exact zqca1
    .have b:(x.c.half==0)=false:=b;replace a:=jE a (by rw[h1,b,Br,Cu];rfl);subst a;exact zqca19
   .have h3:((Z (hav x.c.hs):Int)==0)=false:=h3;replace a:=jE a (by rw[h1,h3,Br];rfl);subst a;refine gW hEc ?_;conv=>whnf
    refine aN ?_;exact zqca19
  .have d:((Z (nav x.c.ns):Int)==0)=false:=d;replace a:=jE a (by rw[h1,d];rfl);subst a;refine gW hEc ?_;conv=>whnf
   refine aN ?_;refine gW hEc ?_;conv=>whnf
   refine aN ?_;exact zqca19
def aTo(x:Cmd)(r:Int)(a:chk x=r):To Ec f96 (.pure (Io (ii r))) (.code (eO f96 1) chF (chO x)):=by
 unfold chk at a;refine gW hEc ?_;conv=>whnf
 refine⟨λh1=>?_,λh1=>?_⟩
 .have h1:decide (1<=x.k)=true:=h1;refine gW hEc ?_;conv=>whnf
  refine(Fa (decide (x.k<=6))).elim (λb=>?_) (λb=>?_)
  .rw [h1,b]at a;refine .p (gM _ _ b) ?_;refine bR hEc 2 ?_;conv=>whnf
   refine To.cutC [1,2] 2 rfl rfl rfl rfl ?_;exact(aTn x r a)
  .rw [b,Br]at a;subst a;refine .pan _ (dY _ _ b) ?_;conv=>whnf
   exact zqca1
 .have h1:decide (1<=x.k)=false:=h1;rw[h1,Cu]at a;subst a;exact zqca19
def check_any(x:Cmd)(r:Int)(a:chk x=r):bj 96 [x.av] (ii r):=by refine c_ f96 λ_=>gV ?_;refine To.defer (f:=141) (args:=[G2 1 0]) _ rfl rfl ?_;refine To.cutC [1,2] 2 rfl rfl rfl rfl ?_;exact aTo x r a
def check_ok(x:Cmd):bj 96 [x.av] (ii (chk x)):=check_any x _ rfl
def P8(l:ax)(hl:Gf (Z (iv l)))(r:Bool):∀(n i:Nat),i+n=Z l->okI (l.drop i)=r->
  DE E f72 (DA r) [(0,CA 1 (iv l) J0),(3,GE Is i)] []:=by
 have e:Z (iv l)=Z l:=by simp
 intro n;induction n with
 | zero=>
  intro i j a;rw[Ae o_]at a;subst a;refine gV ?_;refine⟨λh=>bv (bn h) o_,λh=>gV ?_⟩;rfl
 | succ n g=>
  intro i j a;have c:i<Z l:=o_;rw[Ac c]at a;have a:(kW l[i]&&okI (l.drop (i+1)))=r:=a;generalize k:l[i]=x at a;have get:(iv l)[i]? =X (ii x):=(cK c).trans (by rw[k]);refine gV ?_;refine⟨λh=>?_,λh=>bv (bm h) o_⟩;refine gV ?_;refine⟨i,rfl,gV ?_⟩;refine⟨_,get,gV ?_⟩;refine⟨λh1=>?_,λh1=>?_⟩
  .have h1:decide (x<0)=true:=h1;have h3:kW x=false:=by have:=bn h1;unfold kW;rw[bp o_];rfl
   rw[h3]at a;subst a;refine gV ?_;refine⟨λ_=>?_,λh=>bv h d_⟩;refine gV ?_;rfl
  .have h1:decide (x<0)=false:=h1;have h1:=bm h1;refine gV ?_;refine⟨i,rfl,gV ?_⟩;refine⟨_,get,gV ?_⟩;refine⟨λb=>?_,λb=>?_⟩
   .have b:decide (1099511627776<x)=true:=b;have h3:kW x=false:=by have:=bn b;unfold kW;rw[bp (p:=x<=1099511627776) o_,Br]
    rw[h3]at a;subst a;refine gV ?_;rfl
   .have b:decide (1099511627776<x)=false:=b;have b:=bm b;have h3:kW x=true:=by unfold kW;rw[bq o_,bq o_];rfl
    rw[h3,Bz]at a;refine gV ?_;refine .inl ⟨⟨by simp only[bS];omega,by simp only[aX];omega⟩,?_⟩;have d:=g (i+1) o_ a;exact zW
def EF(l:ax):bj 72 [CA 1 (iv l) J0] (DA (okI l)):=by refine c_ f72 λb=>?_;have a:=P8 l b.1 _ (Z l) 0 o_ rfl;exact zW
def GD(v:V3):bj 116 [He v.cs] (DA (okI v.l)):=by refine c_ f116 λ_=>gV ?_;refine⟨by decide,gV ?_⟩;refine⟨by decide,gV ?_⟩;refine⟨by decide,gV ?_⟩;refine .p (aA.strip (EF v.l)) ?_;refine gW hE ?_;conv=>whnf
def aGD(g:Gan):bj 71 [g.av] (DA g.ok):=by
 refine c_ f71 λ_=>gV ?_;refine .p (aA.strip (EF [g.id,g.ten,g.pods,g.run,g.lev,g.pref])) (gV ?_);refine⟨λh=>?_,λh=>?_⟩
 .refine gV ?_;refine .p (GD g.need) (gV ?_);unfold Gan.ok;rw[h];rfl
 .refine gV ?_;unfold Gan.ok;rw[h];rfl
def vY(c:Con):bj 70 [c.av] (DA c.non):=by
 refine c_ f70 λ_=>?_;unfold Con.non;refine gV ?_;refine⟨λh1=>?_,λh1=>?_⟩
 .have h1:((Z (nav c.ns):Int)==0)=true:=h1;refine gV ?_;refine⟨λa=>?_,λa=>?_⟩
  .have a:((Z (hav c.hs):Int)==0)=true:=a;refine gV ?_;refine⟨λh3=>?_,λh3=>?_⟩
   .have h3:(c.half==0)=true:=h3;refine gV ?_;rw[h1,a,h3];rfl
   .have h3:(c.half==0)=false:=h3;refine gV ?_;rw[h1,a,h3];rfl
  .have a:((Z (hav c.hs):Int)==0)=false:=a;refine gV ?_;refine⟨λh=>bv h d_,λ_=>gV ?_⟩;rw[h1,a];rfl
 .have h1:((Z (nav c.ns):Int)==0)=false:=h1;refine gV ?_;refine⟨λh=>bv h d_,λ_=>gV ?_⟩;refine⟨λh=>bv h d_,λ_=>gV ?_⟩;rw[h1];rfl
def X4(c:Con)(o:Gf (Z (hav c.hs)))(r:Bool):∀(n i:Nat),i+n=Z c.hs->(nH (c.hs.drop i)&&okI [c.half,c.age])=r->
  To E f69 (.pure (Io (DA r))) (G0 (stk f69 1) [(1,G2 0 0),(5,GE Is i)] [Do 30 c.cs]):=by
 have j:Z (hav c.hs)=Z c.hs:=by simp
 intro n;induction n with
 | zero=>
  intro i l a;rw[Ae o_]at a;subst a;refine gV ?_;refine⟨λh=>bv (bn h) o_,λh=>gV ?_⟩;refine .p (aA.strip (EF [c.half,c.age])) (gV ?_);rfl
 | succ n k=>
  intro i l a;have e:i<Z c.hs:=o_;rw[Ac e]at a;have a:((c.hs[i].ok&&nH (c.hs.drop (i+1)))&&okI [c.half,c.age])=r:=a;generalize m:c.hs[i]=x at a;have get:(hav c.hs)[i]? =X x.av:=(nC e).trans (by rw[m]);have g:x.ok=U->r=false:=λh=>by rw[h]at a;exact a.symm
  refine gV ?_;refine⟨λh=>?_,λh=>bv (bm h) o_⟩;refine gV ?_;refine⟨i,rfl,gV ?_⟩;refine⟨_,get,gV ?_⟩;refine .p (aA.strip (EF [x.f,x.b,x.r])) (gV ?_);refine⟨λh1=>?_,λh1=>?_⟩
  .have h1:=jU h1;have:=g (by unfold Hos.ok;rw[h1];rfl);subst this;exact zqca31
  .have h1:=jV h1;refine gV ?_;refine .p (GD x.c) (gV ?_);refine⟨λd=>?_,λd=>?_⟩
   .have d:=jU d;have:=g (by unfold Hos.ok;rw[d,Br]);subst this;refine gW hE ?_;conv=>whnf
   .have d:=jV d;refine gV ?_;refine .inl ⟨⟨by simp only[bS];omega,by simp only[aX];omega⟩,?_⟩;refine gV ?_;refine To.cut [1,5] 1 rfl rfl rfl rfl ?_;refine k (i+1) o_ ?_;have:x.ok=true:=by unfold Hos.ok;rw[h1,d];rfl
    rw[this,Bz]at a;exact a
def aDt(c:Con)(hl:Gf (Z (nav c.ns)))(v:Gf (Z (hav c.hs)))(r:Bool):∀(n i:Nat),i+n=Z c.ns->(uL (c.ns.drop i)&&(nH c.hs&&okI [c.half,c.age]))=r->
  DE E f69 (DA r) [(1,G2 0 0),(3,GE Is i)] [Do 30 c.cs]:=by
 have q:Z (nav c.ns)=Z c.ns:=by simp
 intro n;induction n with
 | zero=>
  intro i u d;rw[Ae o_]at d;refine gV ?_;refine⟨λh=>bv (bn h) o_,λh=>?_⟩;have o:=X4 c v r (Z c.hs) 0 o_ d;exact zW
 | succ n s=>
  intro i u d;have m:i<Z c.ns:=o_;rw[Ac m]at d;have d:((c.ns[i].ok&&uL (c.ns.drop (i+1)))&&(nH c.hs&&okI [c.half,c.age]))=r:=d;generalize y:c.ns[i]=x at d;have get:(nav c.ns)[i]? =X x.av:=(fL m).trans (by rw[y]);have a:x.ok=U->r=false:=λh=>by rw[h]at d;exact d.symm
  refine gV ?_;refine⟨λh=>?_,λh=>bv (bm h) o_⟩;refine gV ?_;refine⟨i,rfl,gV ?_⟩;refine⟨_,get,gV ?_⟩;refine⟨λh1=>?_,λh1=>?_⟩
  .have h1:decide (x.p< -1)=true:=h1;have h1:=bn h1;have:=a (by unfold Nod.ok;rw[bp (p:= -1<=x.p) o_];simp only[Cu]);subst this;exact zW
  .have h1:decide (x.p< -1)=false:=h1;have h1:=bm h1;refine gV ?_;refine⟨λe=>?_,λe=>?_⟩
   .have e:decide (1099511627776<x.p)=true:=e;have e:=bn e;have:=a (by unfold Nod.ok;rw[bp (p:=x.p<=1099511627776) o_];simp only[Cu,Br]);subst this;exact zW
   .have e:decide (1099511627776<x.p)=false:=e;have e:=bm e;refine gV ?_;refine .p (aA.strip (EF [x.w])) (gV ?_);refine⟨λh3=>?_,λh3=>?_⟩
    .have h3:=jU h3;have:=a (by unfold Nod.ok;rw[h3];simp only[Cu,Br]);subst this;refine gV ?_;refine aY (gV ?_);refine aY ?_;exact zqca31
    .have h3:=jV h3;refine gV ?_;refine .p (GD x.n) (gV ?_);refine⟨λg=>?_,λg=>?_⟩
     .have g:=jU g;have:=a (by unfold Nod.ok;rw[g];simp only[Cu,Br]);subst this;refine gV ?_;refine aY ?_;exact zqca31
     .have g:=jV g;refine gV ?_;refine .p (GD x.b) (gV ?_);refine⟨λj=>?_,λj=>?_⟩
      .have j:=jU j;have:=a (by unfold Nod.ok;rw[j];simp only[Cu,Br]);subst this;exact zqca31
      .have j:=jV j;refine gV ?_;refine .p (GD x.l) (gV ?_);refine⟨λk=>?_,λk=>?_⟩
       .have k:=jU k;have:=a (by unfold Nod.ok;rw[k];simp only[Br]);subst this;refine gW hE ?_;conv=>whnf
       .have k:=jV k;refine gV ?_;refine .inl ⟨⟨by simp only[bS];omega,by simp only[aX];omega⟩,?_⟩;refine gV ?_;refine To.cut [1,3] 1 rfl rfl rfl rfl ?_;refine s (i+1) o_ ?_;have:x.ok=true:=by unfold Nod.ok;rw[h3,g,j,k,bq (p:= -1<=x.p) o_,bq (p:=x.p<=1099511627776) o_];rfl
        rw[this,Bz]at d;exact d
theorem QW(c:Con):bj 69 [c.av] (DA c.tok):=by refine aA.get _ (aCy c) λ⟨hl,a⟩=>?_;refine c_ f69 λ_=>gV ?_;refine To.cut [1,3] 1 rfl rfl rfl rfl ?_;exact aDt c hl a _ (Z c.ns) 0 o_ (by unfold Con.tok;rw[Ey];rfl)
def pE(r:Nat):Code->bg->Option bg
 | .region id o d,ks=>bif Nat.beq id r then X (.code (.region id o d)::ks)else D
 | .seq a b,ks=>(match pE r a (.code b::ks)with|some x=>X x|none=>pE r b ks)
 | .cond _ a b,ks=>(match pE r a ks with|some x=>X x|none=>pE r b ks)
 | .block id b,ks=>pE r b (.inB id::ks)
 | .loop b,ks=>pE r b (.inL b::ks)
 | _,_=>D
def jF(fn:Func)(r:Nat):bg:=match pE r (eF fn) []with|some ks=>ks|none=>[]
def iD(x:Cmd)(b:Bool)(r:Int)(a:(if b then chkL x else 1)=r):To E f35 (.pure (Io (ii r))) (.code (eO f35 5) [(1,G2 0 0),(4,DA b)] [Do 47 x.cs]):=by
 refine gV ?_;refine⟨λh=>?_,λh=>?_⟩
 .have h:=jU h;subst h;refine gV ?_;rw[<-a];rfl
 .have h:=jV h;subst h;have a:chkL x=r:=a;unfold chkL at a;refine gV ?_;refine⟨λh1=>?_,λh1=>?_⟩
  .have h1:decide ((12:Int)<(Z (nav x.c.ns):Int))=true:=h1;have h1:=bn h1;rw[bp o_,Cu]at a;subst a;refine gV ?_;refine aY (gV ?_);rfl
  .have h1:decide ((12:Int)<(Z (nav x.c.ns):Int))=false:=h1;have h1:=bm h1;rw[bq o_,Bz]at a;refine gV ?_;refine⟨λd=>?_,λd=>?_⟩
   .have d:decide ((24:Int)<(Z (hav x.c.hs):Int))=true:=d;have d:=bn d;rw[bp o_]at a;subst a;refine gV ?_;rfl
   .have d:decide ((24:Int)<(Z (hav x.c.hs):Int))=false:=d;have d:=bm d;rw[bq o_]at a;subst a;refine gV ?_;rfl
def Y4{g:Gan}(h:g.isZ=O):g.ok=true:=by simp only[Gan.isZ,Af,beq_iff_eq,and_true]at h;obtain⟨h1,f,h3,c,i,a,d,e,b⟩:=h;unfold Gan.ok V3.l;rw[h1,f,h3,c,i,a,d,e,b];rfl
def aTN(x:Cmd)(r:Int)(a:chk x=r)(h1:(x.k==1)=O):To E f35 (.pure (Io (ii r))) (.code (jF f35 5) [(1,G2 0 0),(3,G2 1 0)] [Do 47 x.cs,Do 45 Gan.zero.cs]):=by
 have h:x.k=1:=by simpa using h1
 have i:chk x=if x.g.isZ then(if x.n==0 then(if x.c.tok then chkG x else 1)else 1)else 1:=by unfold chk chk2 chk3 chk4 chkC;rw[h];rfl
 rw[i]at a;refine gV ?_;refine⟨λb=>?_,λb=>?_⟩
 .have b:x.g.isZ=true:=b;replace a:=fM a b;refine gV ?_;refine⟨λh3=>?_,λh3=>?_⟩
  .have h3:(x.n==0)=true:=h3;replace a:=fM a h3;have d:x.n=0:=by simpa using h3
   have e:chkG x=chkL x:=by unfold chkG chkN;rw[Y4 b,d];rfl
   rw[e]at a;refine gV ?_;exact .p (QW x.c) zqca29
  .have h3:(x.n==0)=false:=h3;exact zqca38
 .have b:x.g.isZ=false:=b;exact zqca30
def YY{c:Con}(h:c.non=O):c.tok=true:=by exact zqca12
def aTM(x:Cmd)(r:Int)(a:chk x=r)(h1:(x.k==2)=O):To E f35 (.pure (Io (ii r))) (.code (jF f35 7) [(1,G2 0 0),(3,G2 1 0)] [Do 47 x.cs,Do 45 Gan.zero.cs]):=by
 have h:x.k=2:=by simpa using h1
 have i:chk x=if x.c.non then(if x.n==0 then chkC x else 1)else 1:=by unfold chk chk2 chk3 chk4;rw[h];rfl
 rw[i]at a;refine gV ?_;refine .p (vY x.c) (gV ?_);refine⟨λb=>?_,λb=>?_⟩
 .have b:x.c.non=true:=b;replace a:=fM a b;refine gV ?_;refine⟨λh3=>?_,λh3=>?_⟩
  .have h3:(x.n==0)=true:=h3;replace a:=fM a h3;have d:x.n=0:=by simpa using h3
   have e:chkC x=if x.g.ok then chkL x else 1:=by unfold chkC chkG chkN;rw[YY b,d];rfl
   rw[e]at a;refine gV ?_;exact .p (aGD x.g) zqca29
  .have h3:(x.n==0)=false:=h3;exact zqca38
 .have b:x.c.non=false:=b;exact zqca30
def aPY(x:Cmd)(r:Int)(a:chk x=r)(h1:x.k=3\/x.k=4\/x.k=5):To E f35 (.pure (Io (ii r))) (.code (jF f35 11) [(1,G2 0 0),(3,G2 1 0)] [Do 47 x.cs,Do 45 Gan.zero.cs]):=by
 have d:chk x=if x.c.non then(if x.g.isZ then chkC x else 1)else 1:=by unfold chk chk2 chk3 chk4;rcases h1 with h|h|h<;>rw[h]<;>rfl
 rw[d]at a;refine gV ?_;refine .p (vY x.c) (gV ?_);refine⟨λb=>?_,λb=>?_⟩
 .have b:x.c.non=true:=b;replace a:=fM a b;refine gV ?_;refine⟨λh3=>?_,λh3=>?_⟩
  .have h3:x.g.isZ=true:=h3;replace a:=fM a h3;have e:chkC x=if okI [x.n]then chkL x else 1:=by unfold chkC chkG chkN;rw[YY b,Y4 h3];rfl
   rw[e]at a;refine gV ?_;exact .p (aA.strip (EF [x.n])) zqca29
  .have h3:x.g.isZ=false:=h3;replace a:=jE a h3;refine bR hE 11 ?_;conv=>whnf
   exact zqca7
 .have b:x.c.non=false:=b;replace a:=jE a b;refine gV ?_;refine aN ?_;refine bR hE 11 ?_;conv=>whnf
  exact zqca7
def aTL(x:Cmd)(r:Int)(a:chk x=r)(h1:x.k=6):To E f35 (.pure (Io (ii r))) (.code (jF f35 13) [(1,G2 0 0),(3,G2 1 0)] [Do 47 x.cs,Do 45 Gan.zero.cs]):=by
 have i:chk x=if x.c.non then(if x.g.isZ then(if x.n==0 then chkC x else 1)else 1)else 1:=by unfold chk chk2 chk3 chk4;rw[h1];rfl
 rw[i]at a;refine gV ?_;refine .p (vY x.c) (gV ?_);refine⟨λb=>?_,λb=>?_⟩
 .have b:x.c.non=true:=b;replace a:=fM a b;refine gV ?_;refine⟨λh3=>?_,λh3=>?_⟩
  .have h3:x.g.isZ=true:=h3;replace a:=fM a h3;have e:(if x.n==0 then chkC x else 1)=if(x.n==0)then chkL x else 1:=by
    cases h:(x.n==0)with
    | false=>rfl
    | true=>
     have d:x.n=0:=by simpa using h
     show chkC x=chkL x;unfold chkC chkG chkN;rw[YY b,Y4 h3,d];rfl
   rw[e]at a;refine bR hE 16 ?_;conv=>whnf
   refine To.cutC [1,4] 1 rfl rfl rfl rfl ?_;exact(iD x _ r a)
  .have h3:x.g.isZ=false:=h3;exact zqca38
 .have b:x.c.non=false:=b;exact zqca30
def rcheck_any(x:Cmd)(r:Int)(a:chk x=r):bj 35 [x.av] (ii r):=by
 refine c_ f35 λ_=>gV ?_;refine⟨λh1=>?_,λh1=>?_⟩
 .refine To.cutC [1,3] 2 rfl rfl rfl rfl ?_;exact aTN x r a h1
 .have h1:(x.k==1)=false:=h1;refine gV ?_;refine⟨λj=>?_,λj=>?_⟩
  .refine To.cutC [1,3] 2 rfl rfl rfl rfl ?_;exact aTM x r a j
  .have j:(x.k==2)=false:=j;refine gV ?_;refine⟨λh3=>?_,λh3=>?_⟩
   .have h3:(x.k==3)=true:=h3;have b:x.k=3:=by simpa using h3
    refine gV ?_;refine⟨λ_=>?_,λh=>bv (h3.symm.trans h) d_⟩;refine To.cutC [1,3] 2 rfl rfl rfl rfl ?_;exact aPY x r a (.inl b)
   .have h3:(x.k==3)=false:=h3;refine gV ?_;refine⟨λc=>?_,λc=>?_⟩
    .have c:(x.k==4)=true:=c;have b:x.k=4:=by simpa using c
     refine gV ?_;refine⟨λ_=>?_,λh=>bv (c.symm.trans h) d_⟩;refine To.cutC [1,3] 2 rfl rfl rfl rfl ?_;exact aPY x r a (.inr (.inl b))
    .have c:(x.k==4)=false:=c;refine gV ?_;refine⟨λi=>?_,λi=>?_⟩
     .have i:(x.k==5)=true:=i;have b:x.k=5:=by simpa using i
      refine To.cutC [1,3] 2 rfl rfl rfl rfl ?_;exact aPY x r a (.inr (.inr b))
     .have i:(x.k==5)=false:=i;refine gV ?_;refine⟨λd=>?_,λd=>?_⟩
      .have d:(x.k==6)=true:=d;have b:x.k=6:=by simpa using d
       refine To.cutC [1,3] 2 rfl rfl rfl rfl ?_;exact aTL x r a b
      .have d:(x.k==6)=false:=d;have e:(decide (1<=x.k)&&decide (x.k<=6))=false:=by
        simp only[beq_eq_false_iff_ne]at h1 j h3 c i d;by_cases b:1<=x.k
        .rw [bp (p:=x.k<=6) o_,Br]
        .rw [bp b,Cu]
       replace a:=jE a e;refine bR hE 1 ?_;conv=>whnf
       exact zqca7
def eqL{α:Type}(f:α->α->Bool):List α->List α->Bool
 | [],[]=>O
 | x::r,y::s=>f x y&&eqL f r s
 | _,_=>U
def eqL_len{α:Type}{f:α->α->Bool}:∀{a b:List α},Z a≠Z b->eqL f a b=U
 | [],[],h=>bv rfl h
 | [],_::_,_=>rfl
 | _::_,[],_=>rfl
 | x::r,y::s,h=>by have:=eqL_len (f:=f) (a:=r) (b:=s) (by simpa using h);simp[eqL,this]
def _root_.Go.Proofs.YtenkdioaefckoaaGreatDoor.Nod.eqb(x y:Nod):Bool:=(x.p==y.p)&&((x.w==y.w)&&((x.n.a==y.n.a)&&((x.n.b==y.n.b)&&((x.n.c==y.n.c)&&((x.b.a==y.b.a)&&((x.b.b==y.b.b)&&((x.b.c==y.b.c)&&((x.l.a==y.l.a)&&((x.l.b==y.l.b)&&((x.l.c==y.l.c)&&O))))))))))
def _root_.Go.Proofs.YtenkdioaefckoaaGreatDoor.Hos.eqb(x y:Hos):Bool:=(x.f==y.f)&&((x.b==y.b)&&((x.r==y.r)&&((x.c.a==y.c.a)&&((x.c.b==y.c.b)&&((x.c.c==y.c.c)&&O)))))
def _root_.Go.Proofs.YtenkdioaefckoaaGreatDoor.Gan.eqb(x y:Gan):Bool:=(x.id==y.id)&&((x.ten==y.ten)&&((x.pods==y.pods)&&((x.need.a==y.need.a)&&((x.need.b==y.need.b)&&((x.need.c==y.need.c)&&((x.run==y.run)&&((x.lev==y.lev)&&((x.pref==y.pref)&&O))))))))
def _root_.Go.Proofs.YtenkdioaefckoaaGreatDoor.Nod.eqb_eq{x y:Nod}:x.eqb y=O↔x=y:=by obtain⟨_,_,⟨_,_,_⟩,⟨_,_,_⟩,⟨_,_,_⟩⟩:=x;obtain⟨_,_,⟨_,_,_⟩,⟨_,_,_⟩,⟨_,_,_⟩⟩:=y;simp[Nod.eqb,and_assoc]
def _root_.Go.Proofs.YtenkdioaefckoaaGreatDoor.Hos.eqb_eq{x y:Hos}:x.eqb y=O↔x=y:=by obtain⟨_,_,_,⟨_,_,_⟩⟩:=x;obtain⟨_,_,_,⟨_,_,_⟩⟩:=y;simp[Hos.eqb]
def _root_.Go.Proofs.YtenkdioaefckoaaGreatDoor.Gan.eqb_eq{x y:Gan}:x.eqb y=O↔x=y:=by obtain⟨_,_,_,⟨_,_,_⟩,_,_,_⟩:=x;obtain⟨_,_,_,⟨_,_,_⟩,_,_,_⟩:=y;simp[Gan.eqb,and_assoc]
def aI4(a b:bf)(p:Z a=Z b)(hl:Gf (Z (nav a)))(r:Bool):∀(n i:Nat),i+n=Z a->eqL Nod.eqb (a.drop i) (b.drop i)=r->
  DE E f85 (DA r) [(0,CA 11 (nav a) J0),(1,CA 11 (nav b) J0),(12,GE Is (Z (nav a):Nat)),(13,GE Is i)] []:=by
 have e:Z (nav a)=Z a:=by simp
 intro n;induction n with
 | zero=>
  intro i m c;exact zqca43
 | succ n j=>
  intro i m c;have h1:i<Z a:=o_;have g:i<Z b:=o_;rw[Ac h1,Ac g]at c;have c:(Nod.eqb a[i] b[i]&&eqL Nod.eqb (a.drop (i+1)) (b.drop (i+1)))=r:=c;generalize q:a[i]=x at c;generalize l:b[i]=y at c;have o:(nav a)[i]? =X (Nod.av x):=by simp[q,h1]
  have k:(nav b)[i]? =X (Nod.av y):=by simp[l,g]
  refine gV ?_;refine aT λh=>?_
  repeat' first|refine pA ?_|refine⟨_,o,?_⟩|refine⟨_,k,?_⟩|exact rfl|refine lA ?_ ?_|intro h
  .rename_i h;have h:Nod.eqb x y=false:=jU h;rw[h]at c;rw[<-c];rfl
  .rename_i h;have h:Nod.eqb x y=true:=jV h;rw[h,Bz]at c;have d:=j (i+1) o_ c;exact zW
def eqN_ok(a b:bf):bj 85 [CA 11 (nav a) J0,CA 11 (nav b) J0] (DA (eqL Nod.eqb a b)):=by
 have c:Z (nav a)=Z a:=by simp
 have d:Z (nav b)=Z b:=by simp
 refine c_ f85 λj=>?_;have hl:(Z (nav a):Int)<=9223372036854775807:=j.1;refine gV ?_;refine⟨λh=>?_,λh=>?_⟩
 .have h:((Z (nav a):Int) !=(Z (nav b):Int))=true:=h;exact zqca53
 .have h:((Z (nav a):Int) !=(Z (nav b):Int))=false:=h;have i:=aI4 a b (by simp at h;omega) hl _ (Z a) 0 o_ rfl;exact zW
def aI6(a b:List Hos)(p:Z a=Z b)(hl:Gf (Z (hav a)))(r:Bool):∀(n i:Nat),i+n=Z a->eqL Hos.eqb (a.drop i) (b.drop i)=r->
  DE E f86 (DA r) [(0,CA 6 (hav a) J0),(1,CA 6 (hav b) J0),(12,GE Is (Z (hav a):Nat)),(13,GE Is i)] []:=by
 have e:Z (hav a)=Z a:=by simp
 intro n;induction n with
 | zero=>
  intro i m c;exact zqca43
 | succ n j=>
  intro i m c;have h1:i<Z a:=o_;have g:i<Z b:=o_;rw[Ac h1,Ac g]at c;have c:(Hos.eqb a[i] b[i]&&eqL Hos.eqb (a.drop (i+1)) (b.drop (i+1)))=r:=c;generalize q:a[i]=x at c;generalize l:b[i]=y at c;have o:(hav a)[i]? =X (Hos.av x):=by simp[q,h1]
  have k:(hav b)[i]? =X (Hos.av y):=by simp[l,g]
  refine gV ?_;refine aT λh=>?_
  repeat' first|refine pA ?_|refine⟨_,o,?_⟩|refine⟨_,k,?_⟩|exact rfl|refine lA ?_ ?_|intro h
  .rename_i h;have h:Hos.eqb x y=false:=jU h;rw[h]at c;rw[<-c];rfl
  .rename_i h;have h:Hos.eqb x y=true:=jV h;rw[h,Bz]at c;have d:=j (i+1) o_ c;exact zW
def eqH_ok(a b:List Hos):bj 86 [CA 6 (hav a) J0,CA 6 (hav b) J0] (DA (eqL Hos.eqb a b)):=by
 have c:Z (hav a)=Z a:=by simp
 have d:Z (hav b)=Z b:=by simp
 refine c_ f86 λj=>?_;have hl:(Z (hav a):Int)<=9223372036854775807:=j.1;refine gV ?_;refine⟨λh=>?_,λh=>?_⟩
 .have h:((Z (hav a):Int) !=(Z (hav b):Int))=true:=h;exact zqca53
 .have h:((Z (hav a):Int) !=(Z (hav b):Int))=false:=h;have i:=aI6 a b (by simp at h;omega) hl _ (Z a) 0 o_ rfl;exact zW
def sameC(a b:Con):Bool:=eqL Nod.eqb a.ns b.ns&&(eqL Hos.eqb a.hs b.hs&&((a.half==b.half)&&(a.age==b.age)))
def same(a b:Cmd):Bool:=(a.k==b.k)&&(a.g.eqb b.g&&((a.n==b.n)&&sameC a.c b.c))
def G8(a b:Con)(o:Z a.hs=Z b.hs)(hl:Gf (Z (hav a.hs)))(r:Bool):∀(n i:Nat),i+n=Z a.hs->eqL Hos.eqb (a.hs.drop i) (b.hs.drop i)=r->
  To E f50 (.pure (Io (DA r))) (G0 (stk f50 1) [(2,G2 0 0),(3,G2 1 0),(6,GE Is i)] [Do 30 a.cs,Do 30 b.cs]):=by
 have e:Z (hav a.hs)=Z a.hs:=by simp
 intro n;induction n with
 | zero=>
  intro i l c;exact zqca43
 | succ n g=>
  intro i l c;have h1:i<Z a.hs:=o_;have f:i<Z b.hs:=o_;rw[Ac h1,Ac f]at c;have c:(Hos.eqb a.hs[i] b.hs[i]&&eqL Hos.eqb (a.hs.drop (i+1)) (b.hs.drop (i+1)))=r:=c;generalize p:a.hs[i]=x at c;generalize k:b.hs[i]=y at c;have m:(hav a.hs)[i]? =X (Hos.av x):=by simp[p,h1]
  have j:(hav b.hs)[i]? =X (Hos.av y):=by simp[k,f]
  refine gV ?_;refine aT λh=>?_
  repeat' first|refine pA ?_|refine⟨_,m,?_⟩|refine⟨_,j,?_⟩|exact rfl|refine lA ?_ ?_|intro h
  .have h:Hos.eqb x y=false:=jU h;rw[h]at c;rw[<-c];rfl
  .have h:Hos.eqb x y=true:=jV h;rw[h,Bz]at c;have d:=g (i+1) o_ c;exact zW
def aGf(a b:Con)(s:Z a.ns=Z b.ns)(e:Z a.hs=Z b.hs)(hl:Gf (Z (nav a.ns)))(d:Gf (Z (hav a.hs)))(r:Bool):∀(n i:Nat),i+n=Z a.ns->(eqL Nod.eqb (a.ns.drop i) (b.ns.drop i)&&eqL Hos.eqb a.hs b.hs)=r->
  DE E f50 (DA r) [(2,G2 0 0),(3,G2 1 0),(5,GE Is i)] [Do 30 a.cs,Do 30 b.cs]:=by
 have j:Z (nav a.ns)=Z a.ns:=by simp
 intro n;induction n with
 | zero=>
  intro i p c;rw[Ae o_,Ae o_]at c;have c:eqL Hos.eqb a.hs b.hs=r:=c;refine gV ?_;have f:=G8 a b e d r (Z a.hs) 0 o_ c;exact zW
 | succ n l=>
  intro i p c;have h1:i<Z a.ns:=o_;have k:i<Z b.ns:=o_;rw[Ac h1,Ac k]at c;have c:((Nod.eqb a.ns[i] b.ns[i]&&eqL Nod.eqb (a.ns.drop (i+1)) (b.ns.drop (i+1)))&&eqL Hos.eqb a.hs b.hs)=r:=c;generalize u:a.ns[i]=x at c;generalize o:b.ns[i]=y at c;have q:(nav a.ns)[i]? =X (Nod.av x):=by simp[u,h1]
  have m:(nav b.ns)[i]? =X (Nod.av y):=by simp[o,k]
  refine gV ?_;refine aT λh=>?_
  repeat' first|refine pA ?_|refine⟨_,q,?_⟩|refine⟨_,m,?_⟩|exact rfl|refine lA ?_ ?_|intro h
  .have h:Nod.eqb x y=false:=jU h;rw[h]at c;rw[<-c];rfl
  .have h:Nod.eqb x y=true:=jV h;rw[h,Bz]at c;have g:=l (i+1) o_ c;exact zW
def aJy(a b:Con)(M:Imm)(ob:Hs)(vs:bb)(h:cV M ob vs [a.av,b.av]):(Z (nav a.ns):Int)<=9223372036854775807/\(Z (hav a.hs):Int)<=9223372036854775807:=by
 have hl:0<Z vs:=by rw[h.1];simp
 have:=h.2 0 _ a.av (Ab hl) rfl;exact⟨cX this 0 _ rfl,cX this 1 _ rfl⟩
def aBA{a b:Nat}(h:((a:Int) !=(b:Int))=O):a≠b:=by intro e;rw[e]at h;simp at h
def aCn{a b:Nat}(h:((a:Int) !=(b:Int))=U):a=b:=by simp at h;omega
def aGg(a b:Con)(r:Bool)(d:sameC a b=r):bj 50 [a.av,b.av] (DA r):=by
 refine aA.get _ (aJy a b) λ⟨hl,i⟩=>?_;have k:Z (nav a.ns)=Z a.ns:=by simp
 have n:Z (nav b.ns)=Z b.ns:=by simp
 have l:Z (hav a.hs)=Z a.hs:=by simp
 have m:Z (hav b.hs)=Z b.hs:=by simp
 refine c_ f50 λ_=>gV ?_;refine Aa (λh1=>?_) (λh1=>?_)
 .have h1:((Z (nav a.ns):Int) !=(Z (nav b.ns):Int))=true:=h1;have e:sameC a b=false:=by unfold sameC;rw[eqL_len (by rw[<-k,<-n];exact aBA h1)];rfl
  rw[e]at d;subst d;exact zW
 .have h1:((Z (nav a.ns):Int) !=(Z (nav b.ns):Int))=false:=h1;refine gV ?_;refine Aa (λh=>?_) (λh=>?_)
  .have h:((Z (hav a.hs):Int) !=(Z (hav b.hs):Int))=true:=h;have e:sameC a b=false:=by unfold sameC;rw[eqL_len (f:=Hos.eqb) (by rw[<-l,<-m];exact aBA h),Cu,Br]
   rw[e]at d;subst d;exact zW
  .have h:((Z (hav a.hs):Int) !=(Z (hav b.hs):Int))=false:=h;have o:=aCn h1;have p:=aCn h;refine gV ?_;refine Aa (λh3=>?_) (λh3=>?_)
   .have h3:(!(a.half==b.half))=true:=h3;have h3:=jU h3;have e:sameC a b=false:=by unfold sameC;rw[h3,Cu,Br,Br]
    rw[e]at d;subst d;exact zW
   .have h3:(!(a.half==b.half))=false:=h3;have h3:=jV h3;refine gV ?_;refine Aa (λc=>?_) (λc=>?_)
    .have c:(!(a.age==b.age))=true:=c;have c:=jU c;have e:sameC a b=false:=by unfold sameC;rw[c,Br,Br,Br]
     rw[e]at d;subst d;exact zW
    .have c:(!(a.age==b.age))=false:=c;have c:=jV c;have e:sameC a b=(eqL Nod.eqb a.ns b.ns&&eqL Hos.eqb a.hs b.hs):=by unfold sameC;rw[h3,c,Ii,Ii]
     rw[e]at d;have j:=aGf a b o_ o_ hl i _ (Z a.ns) 0 o_ d;exact zW
def rsame_c(a b:Con):bj 50 [a.av,b.av] (DA (sameC a b)):=aGg a b _ rfl
end C8
namespace Q2
structure Pend where
 (id tenant pods n0 n1 n2 run level prefer seq since:Int)
 deriving DecidableEq
abbrev _root_.bi:=List Pend
def Pend.cs(p:Pend):az:=[GE Is p.id,GE Is p.tenant,GE Is p.pods,GE Is p.n0,GE Is p.n1,GE Is p.n2,GE Is p.run,GE Is p.level,GE Is p.prefer,GE Is p.seq,GE Is p.since]
def Pend.av(p:Pend):aa:=He p.cs
abbrev pav(l:bi):az:=l.map Pend.av
def BM{n:Int}(h1: -9223372036854775808<=n)(a:n<=9223372036854775807):inR Is n:=⟨by simp only[bS];omega,by simp only[aX];omega⟩
def idx(p:Pend->Bool):bi->Int->Int
 | [],_=> -1
 | x::r,i=>if p x then i else idx p r (i+1)
def am(a:Int)(l:bi):Int:=idx (λx=>x.id==a) l 0
def aHA(a b:Int):Pend:=⟨a,0,0,0,0,0,0,0,0,b,0⟩
def sO{l:bi}{i:Nat}(h:i<Z l):(pav l)[i]? =X l[i].av:=by simp[pav,h]
set_option maxRecDepth 10000
def aSz(p:Pend):bj 413 [p.av] (GE Is p.id):=by refine c_ f413 λ_=>?_;refine gW hE ?_;conv=>whnf
def aFY(p:Pend):bj 414 [p.av] (GE Is p.seq):=by refine c_ f414 λ_=>?_;refine gW hE ?_;conv=>whnf
def aSw(p:Pend)(b:Int):bj 210 [.iface 292 p.av,GE Is b] (DA (p.id==b)):=by refine c_ f210 λ_=>?_;have a:=aSz p;exact zW
def N1(p q:Pend):bj 215 [.iface 292 p.av,.iface 292 q.av] (DA (decide (q.seq<p.seq))):=by refine c_ f215 λ_=>?_;have b:=aFY p;have a:=aFY q;exact zW
def aLI(x p:Pend):bj 214 [x.av,.ptr p.cs] (DA (decide (p.seq<x.seq))):=by refine c_ f214 λ_=>?_;have a:=N1 x p;exact zW
def aIL(x:Pend)(a:Int):bj 209 [x.av,.ptr [GE Is a]] (DA (x.id==a)):=by refine c_ f209 λ_=>?_;have b:=aSw x a;exact zW
def Y7(f:FuncId)(l:az)(xs:bi)(p:Pend->Bool)(k:∀x∈xs,aA Tryz.prog f [x.av,.ptr l] [] (Io (DA (p x))) [])(hl:Gf (Z (pav xs)))(r:Int):
  ∀(n i:Nat),i+n=Z xs->idx p (xs.drop i) i=r->
  To E f208 (.pure (Io (GE Is r))) (BV f208
   [(0,CA 11 (pav xs) J0),(1,.func (.func f) [] [.ptr l]),(7,GE Is (Z (pav xs):Nat)),(8,GE Is i)] []):=by
 have e:Z (pav xs)=Z xs:=by simp
 intro n;induction n with
 | zero=>
  intro i j a;refine gV ?_;refine⟨λh=>?_,λh=>?_⟩
  .exact zqca42
  .refine gV ?_;rw[Ae o_]at a;rw[<-a];rfl
 | succ n g=>
  intro i j a;have b:i<Z xs:=o_;refine gV ?_;refine⟨λh=>?_,λh=>?_⟩
  .refine gV ?_;refine⟨i,rfl,gV ?_⟩;refine⟨_,sO b,gV ?_⟩;refine .p (k xs[i] (Aq b)) (gV ?_);rw[Ac b]at a;have a:(if p xs[i]then(i:Int)else idx p (xs.drop (i+1)) ((i:Int)+1))=r:=a;exact zqca4
  .exact zqca39
def UT(f:FuncId)(l:az)(xs:bi)(p:Pend->Bool)(b:∀x∈xs,aA Tryz.prog f [x.av,.ptr l] [] (Io (DA (p x))) []):
  bj 208 [CA 11 (pav xs) J0,.func (.func f) [] [.ptr l]] (GE Is (idx p xs 0)):=by
 refine c_ f208 λa=>gV ?_;refine To.head [0,1,7,8] ?_;exact Y7 f l xs p b a.1 _ (Z xs) 0 o_ s_
def find_ok(xs:bi)(a:Int):bj 149 [CA 11 (pav xs) J0,GE Is a] (GE Is (am a xs)):=by refine c_ f149 λ_=>?_;have b:=UT _ _ xs (λx=>x.id==a) λx _=>aIL x a;exact zW
def C9{n:Nat}(h:n<=1000000):DB n 88:=⟨by simp only[maxLen];omega,by omega⟩
def JT(xs:bi)(a:Z xs<=1000000):ar 138 [CA 11 (pav xs) J0] [] (Io (.row 0 0)) [.row 0 11 104 (pav xs)]:=by
 refine eA (Er [2,5] []) f138 0 λ_=>gV ?_;intro b c;refine gV ?_;refine⟨λh=>?_,λh=>?_⟩
 .refine gV ?_;refine⟨[],[1],⟨rfl,rfl⟩,?_⟩;conv=>whnf
  rw[c (by simpa using h)];exact⟨rfl,rfl⟩
 .refine gV ?_;refine⟨C9 (by simpa using a),gV ?_⟩;refine⟨[],[1],⟨rfl,rfl⟩,?_⟩;exact⟨rfl,rfl⟩
def del_list{α:Type}(l:List α)(i:Nat)(f:i<Z l)(z:α):
  (l.take (0+i)++(l.drop (i+1)).take (Z l-(i+1))++l.drop (0+i+(Z l-(i+1)))).take (0+(Z l-1))++Ak (Z l-(Z l-1)) z++
   (l.take (0+i)++(l.drop (i+1)).take (Z l-(i+1))++l.drop (0+i+(Z l-(i+1)))).drop (0+(Z l-1)+(Z l-(Z l-1)))=l.eraseIdx i++[z]:=by
 have c:(l.drop (i+1)).take (Z l-(i+1))=l.drop (i+1):=Bl s_;have e:Z l-(Z l-1)=1:=o_;have a:Z (l.take (0+i)++l.drop (i+1))=Z l-1:=by simp;omega
 rw[c,e,Fh];simp only[Bv]at a⊢;have b:(l.take i++l.drop (i+1)++l.drop (i+(Z l-(i+1)))).take (Z l-1)=l.take i++l.drop (i+1):=by rw[Ek o_,Bl o_]
 have d:(l.take i++l.drop (i+1)++l.drop (i+(Z l-(i+1)))).drop (Z l-1+1)=[]:=by refine Ae ?_;rw[Ah,a,Dt];omega
 rw[b,d];simp
def aED(xs:bi)(i:Nat)(c:i<Z xs)(e:Z xs<=1000000):ar 154 [.row 0 0,GE Is i,GE Is ((i:Int)+1)] [.row 0 11 104 (pav xs)]
  (Io (.sub 0 0 0 (Z xs-1) 11)) [.row 0 11 104 (pav (xs.eraseIdx i)++[(aHA 0 0).av])]:=by
 refine eA E f154 1 λ_=>gV ?_;refine⟨i,rfl,gV ?_⟩;refine⟨i+1,by push_cast;rfl,?_⟩;refine gV ?_;refine⟨Z xs,by simp,gV ?_⟩;refine⟨⟨⟨by omega,by omega⟩,by simp⟩,gV ?_⟩;refine⟨λh=>?_,λh=>?_⟩
 .simp at h;omega
 .refine gV ?_;refine⟨i,rfl,gV ?_⟩;refine⟨by simp;omega,?_⟩;refine gV ?_;refine⟨i+1,by push_cast;rfl,?_⟩;refine gV ?_;refine⟨by simp;omega,?_⟩;refine gV ?_;have a:Z (pav xs)=Z xs:=by simp
  have b:Z (Fs (Z (pav xs)-(i+1)) (Gd (i+1) (pav xs)))=Z xs-(i+1):=by simp
  rw[b,a];refine⟨by omega,gV ?_⟩;refine⟨Z xs-1,by omega,gV ?_⟩;refine⟨Z xs,rfl,gV ?_⟩;refine⟨by simp;omega,?_⟩;refine gV ?_;refine⟨[],[0],⟨rfl,rfl⟩,?_⟩;conv=>whnf
  refine⟨?_,?_⟩
  .show Res.ret (.sub 0 0 0 (i+(Z xs-(i+1))) 11)=_;rw[show i+(Z xs-(i+1))=Z xs-1 from by omega]
  .have h:=del_list (pav xs) i (by rw[a];exact c) (aHA 0 0).av;rw[a]at h;have d:(pav xs).eraseIdx i=pav (xs.eraseIdx i):=by simp only[pav,Fh,Bi,Fm,Ij]
   rw[d]at h;exact congrArg (λl=>[ab.row 0 11 104 l]) h
def PN(xs ys:az)(lo len:Nat):ar 273 [.row 0 0,.sub 1 0 lo len 11] [.row 0 11 104 xs,.row 0 11 104 ys] (Io (DA U)) [.row 0 11 104 xs,.row 0 11 104 ys]:=
 TS (fn:=f273) (tS:=31) (tR:=4) (e:=104) (by kernel_rfl) (by kernel_rfl) (by kernel_rfl) (by kernel_rfl) (by kernel_rfl) (by kernel_rfl) (by kernel_rfl) d_ xs ys lo len
def FD{α:Type}(xs ys:List α)(lo len q:Nat)(h:lo+len<=Z xs):(xs.take lo++ys.take len++xs.drop (lo+min (Z ys) len))[q]? =if lo<=q/\q<lo+min (Z ys) len then ys[q-lo]? else xs[q]?:=by
 have a:Z (xs.take lo)=lo:=by simp;omega
 have c:Z (ys.take len)=min (Z ys) len:=by rw[Cs,Nat.min_comm]
 by_cases h1:q<lo
 .rw [bt o_,Ag,Ai o_,Bm h1]
 .by_cases b:q<lo+min (Z ys) len
  .rw [bu ⟨by omega,b⟩,Ai (by rw[Ah];omega),Au o_,a,Bm o_]
  .rw [bt o_,Au (by rw[Ah];omega),Ah,a,c,Dm];congr 1;omega
def aBN{α:Type}(l:List α)(p:α)(i q:Nat)(c:i<=Z l):(l.take i++[p]++l.drop i)[q]? =if q<i then l[q]? else if q=i then X p else l[q-1]?:=by
 have b:Z (l.take i)=i:=by simp;omega
 by_cases h1:q<i
 .rw [bu h1,Ag,Ai o_,Bm h1]
 .rw [bt h1,Ag,Au o_,b];by_cases a:q=i
  .rw [bu a,a];simp
  .rw [bt a,show q-i=(q-1-i)+1 from by omega];show(l.drop i)[q-1-i]? =_;rw[Dm];congr 1;omega
def Y6{α:Type}(l L:List α)(p:α)(i:Nat)(k:i<Z l)(e:Z L=Z l+1)(hl:∀q,q<Z l->L[q]? =l[q]?):
  ∀A B,A=L.take (i+1)++((L.drop i).take (Z L-i)).take (Z L-(i+1))++L.drop (i+1+min (Z ((L.drop i).take (Z L-i))) (Z L-(i+1)))->
   B=A.take i++[p].take (Z A-i)++A.drop (i+min (Z [p]) (Z A-i))->B=l.take i++[p]++l.drop i:=by
 intro A B d f;have j:Z ((L.drop i).take (Z L-i))=Z l+1-i:=by simp;omega
 have c:∀q,A[q]? =if i+1<=q/\q<Z l+1 then L[q-1]? else L[q]?:=λq=>by
  rw[d,FD _ _ _ _ _ o_,j,e];by_cases h:i+1<=q/\q<Z l+1
  .rw [bu o_,bu h,Bm o_,Dm];congr 1;omega
  .rw [bt o_,bt h]
 have a:Z A=Z l+1:=by rw[d];simp;omega
 refine Fe λq=>?_;rw[aBN _ _ _ _ o_,f,FD _ _ _ _ _ o_];have g:min (Z [p]) (Z A-i)=1:=by rw[a];simp;omega
 rw[g];by_cases h1:q<i
 .rw [bt o_,bu h1,c,bt o_,hl q o_]
 .rw [bt h1];by_cases b:q=i
  .rw [bu o_,bu b,b];simp
  .rw [bt o_,bt b,c];by_cases h3:q<Z l+1
   .rw [bu o_,hl _ o_]
   .rw [bt o_,Bp o_,Bp o_]
def aMB{α:Type}(l L:List α)(p:α)(i:Nat)(k:i<Z l)(e:Z L=Z l+1)(hl:∀q,q<i->L[q]? =l[q]?):
  ∀A B,A=L.take i++[p].take (Z L-i)++L.drop (i+min (Z [p]) (Z L-i))->
   B=A.take (i+1)++((l.drop i).take (Z l-i)).take (Z A-(i+1))++A.drop (i+1+min (Z ((l.drop i).take (Z l-i))) (Z A-(i+1)))->B=l.take i++[p]++l.drop i:=by
 intro A B d f;have j:Z ((l.drop i).take (Z l-i))=Z l-i:=by simp
 have g:min (Z [p]) (Z L-i)=1:=by rw[e];simp;omega
 have c:∀q,A[q]? =if q=i then X p else L[q]?:=λq=>by
  rw[d,FD _ _ _ _ _ o_,g];by_cases h:q=i
  .rw [bu o_,bu h,h];simp
  .rw [bt o_,bt h]
 have b:Z A=Z l+1:=by rw[d];simp;omega
 refine Fe λq=>?_;rw[aBN _ _ _ _ o_,f,FD _ _ _ _ _ o_,j,b,show min (Z l-i) (Z l+1-(i+1))=Z l-i from by omega];by_cases h1:q<i
 .rw [bt o_,bu h1,c,bt o_,hl q h1]
 .rw [bt h1];by_cases a:q=i
  .rw [bt o_,bu a,c,bu a]
  .rw [bt a];by_cases h3:q<Z l+1
   .rw [bu o_,Bm o_,Dm];congr 1;omega
   .rw [bt o_,c,bt a,Bp o_,Bp o_]
def pR{n:Nat}(h:n<=1000001):DB n 88:=⟨by simp only[maxLen];omega,by omega⟩
def MS(xs:bi)(p:Pend)(i:Nat)(hi:i<=Z xs)(hx:Z xs<=1000000):
  ar 216 [.row 0 0,GE Is i,.row 1 0] [.row 0 11 104 (pav xs),.row 0 11 104 [p.av]]
  (Io (.row 0 1)) [.row 1 11 104 (pav (xs.take i++[p]++xs.drop i)),.row 0 11 104 [p.av]]:=by
 have hlen:Z (pav xs)=Z xs:=by simp
 refine eA (Er [60] []) f216 2 λ_=>?_;refine To.cap (t:=0) rfl rfl λc hc hcm=>?_;rw[hlen]at hc;refine gV ?_;refine⟨i,rfl,gV ?_⟩;rw[hlen];refine⟨hi,gV ?_⟩;refine⟨λh=>?_,λh=>?_⟩
 .cases h
 .refine gV ?_;refine⟨λh=>?_,λh=>?_⟩
  .refine gV ?_
   have hi2:i=Z xs:=by have:(i:Int)=Z xs:=(by simpa using h);omega
   refine⟨by rw[hlen];exact pR q_,?_⟩;refine gV ?_;refine⟨[],[0,1],⟨rfl,rfl⟩,?_⟩;conv=>whnf
   refine⟨rfl,?_⟩;have:pav (xs.take i++[p]++xs.drop i)=pav xs++[p.av]:=by simp[hi2]
   rw[this];rfl
  .have hi2:i<Z xs:=by
    have:¬ (i:Int)=Z xs:=by simpa using h
    omega
   refine gV ?_;have h1:(Z [p.av])=1:=rfl;rw[hlen,h1];refine .inl ⟨BM o_ o_,gV ?_⟩;refine⟨λh=>?_,λh=>?_⟩
   .have hg:c<Z xs+1:=by have:=bn h;omega
    refine gV ?_;refine⟨i,rfl,gV ?_⟩;refine⟨⟨by simp;omega,by omega⟩,?_⟩;refine gV ?_;refine .inl ⟨BM o_ o_,gV ?_⟩;refine .inl ⟨BM o_ o_,gV ?_⟩;refine⟨Z xs+1-i,by omega,gV ?_⟩;refine⟨⟨by omega,pR o_⟩,gV ?_⟩;refine⟨i,rfl,gV ?_⟩;have hL:Z (Fs i (pav xs)++Ak (Z xs+1-i) (aHA 0 0).av)=Z xs+1:=by simp;omega
    refine⟨by simp;omega,?_⟩;refine gV ?_;refine .inl ⟨BM o_ o_,gV ?_⟩;refine⟨i+1,by push_cast;rfl,?_⟩;refine gV ?_;refine⟨by simp;omega,?_⟩;refine gV ?_;refine⟨i,rfl,gV ?_⟩;refine⟨by simp;omega,?_⟩;refine bR (hEr [60] []) 7 ?_;conv=>whnf
    refine To.become (j:=0) (k:=2) [9] rfl rfl rfl rfl (gV ?_);refine⟨[],[0,1],⟨rfl,rfl⟩,?_⟩;conv=>whnf
    refine⟨rfl,?_⟩;have h:=aMB (pav xs) _ p.av i (by rw[hlen];exact hi2) (by rw[hL,hlen]) (λq hq=>by rw[Ai q_,Bm hq]) _ _ rfl rfl;exact zqca20
   .have hg:Z xs+1<=c:=by have:=bm h;omega
    refine gV ?_;refine .inl ⟨BM o_ o_,gV ?_⟩;refine⟨Z xs+1,by push_cast;rfl,?_⟩;refine gV ?_;refine⟨⟨by simp,hg⟩,gV ?_⟩;refine .inl ⟨BM o_ o_,gV ?_⟩;refine⟨i+1,by push_cast;rfl,?_⟩;refine gV ?_;refine⟨by simp;omega,?_⟩;refine gV ?_;refine .eff [] [1,0] _ _ rfl (PN _ _ _ _) (gV ?_);refine⟨λh=>?_,λh=>?_⟩
    .refine gV ?_;refine .inl ⟨BM o_ o_,gV ?_⟩;refine⟨i+1,by push_cast;rfl,?_⟩;refine gV ?_;refine⟨by simp;omega,?_⟩;refine gV ?_;refine⟨i,rfl,gV ?_⟩;refine⟨by simp;omega,?_⟩;refine gV ?_;refine⟨i,rfl,gV ?_⟩;refine⟨by simp;omega,?_⟩;refine gV ?_;refine⟨[],[0,1],⟨rfl,rfl⟩,?_⟩;conv=>whnf
     refine⟨rfl,?_⟩;have hL:Z (pav xs++Ak (Z xs+1-Z (pav xs)) (aa.agg (Ak 11 aa.undef)))=Z (pav xs)+1:=by simp
     have h:=Y6 (pav xs) _ p.av i (by rw[hlen];exact hi2) hL (λq hq=>by rw[Ai hq]) _ _ rfl rfl;exact zqca20
    .cases h
def putAt(p:Pend)(l:bi):Nat:=if idx (λx=>decide (p.seq<x.seq)) l 0<0 then Z l else(idx (λx=>decide (p.seq<x.seq)) l 0).toNat
def putP(l:bi)(p:Pend):bi:=l.take (putAt p l)++[p]++l.drop (putAt p l)
def takeP(l:bi)(a:Int):bi:=if am a l<0 then l else l.eraseIdx (am a l).toNat
def xI(p:Pend->Bool):∀(l:bi) (i:Int),idx p l i= -1\/(i<=idx p l i/\idx p l i<i+Z l)
 | [],i=>.inl rfl
 | x::r,i=>by
  unfold idx;split
  .right;simp;omega
  .rcases xI p r (i+1)with h|h
   .exact .inl h
   .right;simp;omega
def put_ok(l:bi)(p:Pend)(hl:Z l<=1000000):bj 152 [CA 11 (pav l) J0,p.av] (CA 11 (pav (putP l p)) J0):=by
 have a:Z (pav l)=Z l:=by simp
 refine gA (Er [17] []) f152 λ_=>gV ?_;refine .p (UT _ _ l (λx=>decide (p.seq<x.seq)) λx _=>aLI x p) (gV ?_);have fin:∀(i:Nat),i=putAt p l->i<=Z l:=λi c=>by
  subst c;unfold putAt;rcases xI (λx=>decide (p.seq<x.seq)) l 0 with h|h
  .rw [bu o_];exact Bc _
  .rw [bt o_];omega
 refine⟨λh=>?_,λh=>?_⟩
 .have b:putAt p l=Z l:=bu (bn h);refine gV ?_;refine .p (JT l hl) (gV ?_);rw[a];refine .sole rfl (.eff [] [1,2] _ _ rfl (MS l p (Z l) (Bc _) hl) (gV ?_));rw[<-b];rfl
 .have b:idx (λx=>decide (p.seq<x.seq)) l 0=((putAt p l:Nat):Int):=by have:=bm h;unfold putAt;rw[bt this];omega
  rw[b];refine gV ?_;refine .p (JT l hl) (gV ?_);refine .sole rfl (.eff [] [1,2] _ _ rfl (MS l p (putAt p l) (fin _ rfl) hl) (gV ?_));rfl
def take_ok(l:bi)(a:Int)(hl:Z l<=1000000):bj 101 [CA 11 (pav l) J0,GE Is a] (GT [CA 11 (pav (takeP l a)) J0,DA (!decide (am a l<0))]):=by
 refine c_ f101 λ_=>gV ?_;refine .p (JT l hl) (gV ?_);refine .p (find_ok l a) (gV ?_);refine⟨λh=>?_,λh=>?_⟩
 .exact zqca54
 .have c:=bm h;have j:am a l<Z l:=by exact zqca48
  have i:am a l=(((am a l).toNat:Nat):Int):=o_;have e:takeP l a=l.eraseIdx (am a l).toNat:=bt c;rw[h,e]
  obtain⟨k,d⟩:∃k:Nat,am a l=(k:Int):=⟨_,i⟩
  have b:k<Z l:=o_;rw[d,Bo];refine gV ?_;refine .inl ⟨BM o_ o_,gV ?_⟩;refine .eff [] [0] _ _ rfl (aED l k b hl) (gV ?_);have:Fs (Z l-1) (Gd 0 (pav (l.eraseIdx k)++[(aHA 0 0).av]))=pav (l.eraseIdx k):=by rw[Ca,Ek (by simp[Ku,b]),Bl (by simp[Ku,b])]
  have h3:Res.ret (GT [CA 11 (Fs (Z l-1) (Gd 0 (pav (l.eraseIdx k)++[(aHA 0 0).av]))) J0,DA O])=Res.ret (GT [CA 11 (pav (l.eraseIdx k)) J0,DA (!U)]):=by rw[this];rfl
  exact h3
def QE(xs:bi)(a:Int)(hl:Gf (Z (pav xs)))(r:Int):∀(n i:Nat),i+n=Z xs->idx (λx=>x.id==a) (xs.drop i) i=r->
  DE E f42 (GE Is r) [(0,CA 11 (pav xs) J0),(1,GE Is a),(5,GE Is i)] []:=by
 have g:Z (pav xs)=Z xs:=by simp
 intro n;induction n with
 | zero=>
  intro i k b;refine gV ?_;refine⟨λh=>?_,λh=>?_⟩
  .exact zqca42
  .refine gV ?_;rw[Ae o_]at b;rw[<-b];rfl
 | succ n j=>
  intro i k b;have c:i<Z xs:=o_;refine gV ?_;refine⟨λh=>?_,λh=>?_⟩
  .refine gV ?_;refine⟨i,rfl,gV ?_⟩;refine⟨_,sO c,gV ?_⟩;rw[Ac c]at b;have b:(if xs[i].id==a then(i:Int)else idx (λx=>x.id==a) (xs.drop (i+1)) ((i:Int)+1))=r:=b;refine⟨λd=>?_,λd=>?_⟩
   .refine gV ?_;rw[bu d]at b;rw[b]
   .refine gV ?_;rw[bt (by rw[d];simp)]at b;refine .inl ⟨BM o_ o_,?_⟩;have e:=j (i+1) o_ (by rw[<-b];push_cast;rfl);exact zW
  .exact zqca39
def findref_ok(xs:bi)(a:Int):bj 42 [CA 11 (pav xs) J0,GE Is a] (GE Is (am a xs)):=by refine c_ f42 λb=>gV ?_;refine To.head [0,1,5] ?_;exact QE xs a b.1 _ (Z xs) 0 o_ (by simp[am])
def GN{α:Type}(l:List α)(k:Nat):Z (l.take k)<=Z l:=by simp;omega
def takeref_ok(l:bi)(a:Int)(hl:Z l<=1000000):bj 43 [CA 11 (pav l) J0,GE Is a] (GT [CA 11 (pav (takeP l a)) J0,DA (!decide (am a l<0))]):=by
 have b:Z (pav l)=Z l:=by simp
 refine c_ f43 λ_=>gV ?_;refine .p (findref_ok l a) (gV ?_);refine⟨λh=>?_,λh=>?_⟩
 .refine gV ?_;refine⟨C9 (by rw[b];exact hl),?_⟩;exact zqca54
 .have c:=bm h;have j:am a l<Z l:=by exact zqca48
  have e:takeP l a=l.eraseIdx (am a l).toNat:=bt c;rw[h,e]
  obtain⟨k,d⟩:∃k:Nat,am a l=(k:Int):=⟨(am a l).toNat,by omega⟩
  have i:k<Z l:=o_;rw[d,Bo];refine gV ?_;refine⟨k,rfl,gV ?_⟩;refine⟨by rw[b];omega,?_⟩;refine gV ?_;refine⟨C9 (by have:=GN (pav l) k;omega),?_⟩;refine gV ?_;refine .inl ⟨BM o_ o_,gV ?_⟩;refine⟨k+1,by push_cast;rfl,?_⟩;refine gV ?_;refine⟨by rw[b];omega,?_⟩;refine gV ?_;refine⟨C9 q_,gV ?_⟩;have:Fs k (pav l)++Gd (k+1) (pav l)=pav (l.eraseIdx k):=by simp only[pav,Fh,Bi,Fm,Ij]
  rw[this];rfl
def aDL{p:Pend}{l:bi}{i:Nat}(h:idx (λx=>decide (p.seq<x.seq)) l 0=(i:Int)):putAt p l=i:=by unfold putAt;rw[h,bt o_];rfl
def YN{p:Pend}{l:bi}(h:idx (λx=>decide (p.seq<x.seq)) l 0= -1):putAt p l=Z l:=by unfold putAt;rw[h,bu o_]
def TE(l:bi)(p:Pend)(hl:Z l<=1000000):∀(n i:Nat),i+n=Z l->idx (λx=>decide (p.seq<x.seq)) (l.drop i) i=idx (λx=>decide (p.seq<x.seq)) l 0->
  DE (Er [] [29,30,31]) f77 (CA 11 (pav (putP l p)) J0) [(0,CA 11 (pav l) J0),(3,G2 0 0),(5,GE Is i)] [Do 104 p.cs]:=by
 have a:Z (pav l)=Z l:=by simp
 intro n;induction n with
 | zero=>
  intro i j b;refine gV ?_;refine⟨λh=>?_,λh=>?_⟩
  .exact zqca42
  .refine gV ?_;refine⟨λd=>(by cases d),λ_=>?_⟩;have hp:putAt p l=i:=by
    rw[YN]
    .omega
    .rw [<-b,Ae o_];rfl
   exact zqca5
 | succ n g=>
  intro i j b;have c:i<Z l:=o_;refine gV ?_;refine⟨λh=>?_,λh=>?_⟩
  .refine gV ?_;refine⟨i,rfl,gV ?_⟩;refine⟨_,sO c,gV ?_⟩;rw[Ac c]at b;have b:(if decide (p.seq<l[i].seq)then(i:Int)else idx (λx=>decide (p.seq<x.seq)) (l.drop (i+1)) ((i:Int)+1))=idx (λx=>decide (p.seq<x.seq)) l 0:=b;refine⟨λd=>?_,λd=>?_⟩
   .refine gV ?_;have h3:=bn d;rw[bt q_]at b;refine .inl ⟨BM o_ o_,?_⟩;have e:=g (i+1) o_ (by rw[<-b];push_cast;rfl);exact zW
   .have h3:=bm d;rw[bu q_]at b;have hp:putAt p l=i:=aDL b.symm;exact zqca5
  .exact zqca39
def putref_ok(l:bi)(p:Pend)(hl:Z l<=1000000):bj 77 [CA 11 (pav l) J0,p.av] (CA 11 (pav (putP l p)) J0):=by refine gA (Er [] [29,30,31]) f77 λ_=>?_;have a:=TE l p hl (Z l) 0 o_ s_;exact zW
def PR(l:bi)(i:Nat):Bool:=match l[i]?,l[i-1]? with
 | some c,some p=>!((decide (0<i)&& !decide (p.seq<c.seq))||(am c.id l !=(i:Int)))
 | _,_=>O
def jK(l:bi):Nat->Nat->Bool
 | 0,_=>O
 | n+1,i=>PR l i&&jK l n (i+1)
def checkP(l:bi):Bool:=jK l (Z l) 0
def aAk(l:bi)(hl:Z l<=1000000)(r:Bool):∀(n i:Nat),i+n=Z l->jK l n i=r->
  DE E f170 (DA r) [(0,CA 11 (pav l) J0),(5,CA 11 (pav l) J0),(6,GE Is (Z (pav l):Nat)),(7,GE Is i)] []:=by
 have k:Z (pav l)=Z l:=by simp
 intro n;induction n with
 | zero=>
  intro i q a;refine gV ?_;refine⟨λh=>?_,λh=>?_⟩
  .exact zqca42
  .refine gV ?_;rw[<-a];rfl
 | succ n m=>
  intro i q a;have d:i<Z l:=o_;have a:(PR l i&&jK l n (i+1))=r:=a
  have back:jK l n (i+1)=r->inR Is ((i:Int)+1)/\DE E f170 (DA r) [(0,CA 11 (pav l) J0),(5,CA 11 (pav l) J0),(6,GE Is (Z (pav l):Nat)),(7,GE Is ((i:Int)+1))] []:=λh=>
   ⟨BM o_ o_,by have:=m (i+1) o_ h;push_cast at this;exact this⟩
  refine gV ?_;refine⟨λh=>?_,λh=>?_⟩
  .refine gV ?_;refine⟨i,rfl,gV ?_⟩;refine⟨_,sO d,gV ?_⟩;refine⟨λh1=>?_,λh1=>?_⟩
   .have g:0<i:=by have:=bn h1;omega
    have b:i-1<Z l:=o_;have c:PR l i= !((O&& !decide (l[i-1].seq<l[i].seq))||(am l[i].id l !=(i:Int))):=by unfold PR;rw[Ab d,Ab b,bq g]
    refine gV ?_;refine .inl ⟨BM o_ o_,gV ?_⟩;refine⟨i-1,by omega,gV ?_⟩;refine⟨_,sO b,gV ?_⟩;refine .p (N1 _ _) (gV ?_);refine⟨λe=>?_,λe=>?_⟩
    .refine gV ?_;refine⟨λ_=>?_,λh3=>(by cases h3)⟩;refine gV ?_;rw[c,e]at a;rw[<-a];rfl
    .refine gV ?_;refine .p (find_ok _ _) (gV ?_);refine⟨λh3=>?_,λh3=>?_⟩
     .refine gV ?_;rw[c,e,h3]at a;rw[<-a];rfl
     .refine gV ?_;rw[c,e,h3]at a;obtain⟨j,p⟩:=back a;refine .inl ⟨j,?_⟩;exact zW
   .have o:i=0:=by have:=bm h1;omega
    have c:PR l i= !((U&&U)||(am l[i].id l !=(i:Int))):=by unfold PR;have b:i-1<Z l:=o_;rw[Ab d,Ab b];subst o;simp
    refine gV ?_;refine⟨λe=>(by cases e),λ_=>gV ?_⟩;refine .p (find_ok _ _) (gV ?_);refine⟨λh3=>?_,λh3=>?_⟩
    .refine gV ?_;rw[c,h3]at a;rw[<-a];rfl
    .refine gV ?_;rw[c,h3]at a;obtain⟨j,p⟩:=back a;refine .inl ⟨j,?_⟩;exact zW
  .exact zqca39
def check_ok(l:bi)(hl:Z l<=1000000):bj 170 [CA 11 (pav l) J0] (DA (checkP l)):=by refine c_ f170 λ_=>?_;have a:=aAk l hl _ (Z l) 0 o_ rfl;exact zW
def eqP(x y:Pend):Bool:=(x.id==y.id)&&((x.tenant==y.tenant)&&((x.pods==y.pods)&&((x.n0==y.n0)&&((x.n1==y.n1)&&((x.n2==y.n2)&&((x.run==y.run)&&((x.level==y.level)&&((x.prefer==y.prefer)&&((x.seq==y.seq)&&((x.since==y.since)&&O))))))))))
def aCo{x y:Pend}:eqP x y=O↔x=y:=by obtain⟨o,d,g,t,l,v,m,c,f,s,a⟩:=x;obtain⟨k,q,p,n,h,j,e,i,r,u,b⟩:=y;simp[eqP]
def aDj(a b:bi)(q:Z a=Z b)(hl:Gf (Z (pav a)))(r:Bool):∀(n i:Nat),i+n=Z a->decide (a.drop i=b.drop i)=r->
  DE E f51 (DA r) [(0,CA 11 (pav a) J0),(1,CA 11 (pav b) J0),(5,GE Is i)] []:=by
 have l:Z (pav a)=Z a:=by simp
 intro n;induction n with
 | zero=>
  intro i p d;refine gV ?_;refine⟨λh=>?_,λh=>?_⟩
  .exact zqca42
  .refine gV ?_;rw[Ae o_,Ae o_]at d;rw[<-d];rfl
 | succ n o=>
  intro i p d;have g:i<Z a:=o_;have c:i<Z b:=o_;rw[Ac g,Ac c]at d;refine gV ?_;refine⟨λh=>?_,λh=>?_⟩
  .refine gV ?_;refine⟨i,rfl,gV ?_⟩;refine⟨_,sO g,gV ?_⟩;refine⟨i,rfl,gV ?_⟩;refine⟨_,sO c,gV ?_⟩;refine⟨λk=>?_,λk=>?_⟩
   .have h3:(!eqP a[i] b[i])=true:=k;refine gV ?_;have j:a[i]≠b[i]:=λe=>by rw[aCo.2 e]at h3;cases h3
    rw[<-d,bp λe=>j (List.cons.inj e).1]
   .have h3:(!eqP a[i] b[i])=false:=k;have m:a[i]=b[i]:=aCo.1 (by simpa using h3);refine gV ?_;refine .inl ⟨BM o_ o_,gV ?_⟩;refine To.head [0,1,5] ?_;have:=o (i+1) o_ (by rw[<-d,m];exact decide_eq_decide.2 ⟨λe=>by rw[e],λe=>(List.cons.inj e).2⟩);push_cast at this;exact this
  .exact zqca39
def same_ok(a b:bi):bj 51 [CA 11 (pav a) J0,CA 11 (pav b) J0] (DA (decide (a=b))):=by
 have j:Z (pav a)=Z a:=by simp
 have c:Z (pav b)=Z b:=by simp
 refine c_ f51 λk=>gV ?_;refine⟨λh=>?_,λh=>?_⟩
 .refine gV ?_;have i:a≠b:=λe=>by subst e;simp at h
  rw[bp i]
 .have d:Z a=Z b:=by
   have:((Z a:Nat):Int)=Z b:=by simpa using h
   omega
  refine gV ?_;refine To.head [0,1,5] ?_;exact aDj a b d k.1 _ (Z a) 0 o_ s_
def IQ(p:Pend->Bool):∀(l:bi) (i:Int) (k:Nat) (h:k<Z l),p l[k]=O->(∀(j:Nat) (a:j<Z l),j<k->p l[j]=U)->idx p l i=i+k
 | [],i,k,h,_,_=>by simp at h
 | x::r,i,0,h,h1,_=>by
  have:p x=true:=h1;simp[idx,this]
 | x::r,i,k+1,h,h1,h2=>by have b:p x=false:=h2 0 s_ o_;have:=IQ p r (i+1) k (by simpa using h) (by simpa using h1) (λj a c=>by grind);unfold idx;rw[bt (by rw[b];simp),this];push_cast;omega
structure Good(l:bi):Prop where
 seq:l.Pairwise λa b=>a.seq<b.seq
 id:l.Pairwise λa b=>a.id≠b.id
def yL{l:bi}:∀{n i:Nat},jK l n i=O↔ ∀j,i<=j->j<i+n->PR l j=O
 | 0,i=>by simp[jK];omega
 | n+1,i=>by
  simp only[jK,Af,yL (n:=n) (i:=i+1)]
  grind
theorem H0{l:bi}{j:Nat}(b:j<Z l):PR l j=O↔(∀(h:0<j),(l[j-1]' o_).seq<l[j].seq)/\am l[j].id l=(j:Int):=by
 have a:j-1<Z l:=o_;unfold PR
 grind
def check_good{l:bi}:checkP l=O↔Good l:=by
 unfold checkP;rw[yL];constructor
 .intro h;have hs:∀(j i:Nat) (b:j<Z l) (c:i<j),(l[i]' o_).seq<l[j].seq:=by
   intro j;induction j with
   | zero=>intro i _ c;omega
   | succ j d=>
    grind[H0,Int.lt_trans]
  refine⟨Es.2 λi j c b a=>hs j i b a,Es.2 λi j c b a e=>?_⟩
  grind[H0]
 .intro h j _ b;have b:j<Z l:=o_;refine(H0 b).2 ⟨λf=>Es.1 h.seq _ _ o_ b o_,?_⟩;have:=IQ (λx=>x.id==l[j].id) l 0 j b s_ λi c a=>by have:=Es.1 h.id i j c b a;simpa using this
  unfold am;omega
def insP(p:Pend):bi->bi
 | []=>[p]
 | x::r=>if p.seq<x.seq then p::x::r else x::insP p r
def YO(p x:Pend)(r:bi):putAt p (x::r)=if p.seq<x.seq then 0 else putAt p r+1:=by
 by_cases h:p.seq<x.seq
 .rw [bu h];have:idx (λx=>decide (p.seq<x.seq)) (x::r) 0=0:=by unfold idx;rw[bu (by simpa using h)]
  unfold putAt;rw[this];rfl
 .rw [bt h];have e:idx (λx=>decide (p.seq<x.seq)) (x::r) 0=idx (λx=>decide (p.seq<x.seq)) r 1:=by
   conv=>lhs;unfold idx
   rw[bt (by simpa using h)];rfl
  have b:∀(q:Pend->Bool) (l:bi) (i:Int),(idx q l i= -1/\idx q l (i+1)= -1)\/(i<=idx q l i/\idx q l (i+1)=idx q l i+1):=by
   intro q l;induction l with
   | nil=>intro i;exact .inl ⟨rfl,rfl⟩
   | cons y t c=>
    intro i;unfold idx
    grind
  rcases b (λx=>decide (p.seq<x.seq)) r 0 with⟨h1,a⟩|⟨h1,a⟩
  .unfold putAt;rw[e,show(1:Int)=0+1 from rfl,a,h1];simp
  .unfold putAt
   grind
def putP_ins(p:Pend):∀(l:bi),putP l p=insP p l
 | []=>rfl
 | x::r=>by
  have a:=putP_ins p r;unfold putP at a⊢;rw[YO];unfold insP
  grind
def shift(n k q:Nat):Nat:=if k<=q then q-k else q+n-k
end Q2
structure Pn where
 g:Gan
 (seq at':Int)
 deriving DecidableEq
abbrev _root_.ba:=List Pn
def Pn.cs(x:Pn):az:=[ii x.g.id,ii x.g.ten,ii x.g.pods,ii x.g.need.a,ii x.g.need.b,ii x.g.need.c,ii x.g.run,ii x.g.lev,ii x.g.pref,ii x.seq,ii x.at']
def Pn.av(x:Pn):aa:=He x.cs
abbrev pnv(l:ba):az:=l.map Pn.av
def wX{l:ba}{i:Nat}(h:i<Z l):(pnv l)[i]? =X l[i].av:=by simp[pnv,h]
abbrev fv(l:a6):az:=l.map λx:Nat=>GE IH (x:Int)
structure Sta where
 c:Con
 (now nxt:Int)
 pend:ba
 run:a7
 hist:a6
 deriving DecidableEq
def Sta.cs(s:Sta):az:=[CA 11 (nav s.c.ns) J0,CA 6 (hav s.c.hs) J0,ii s.c.half,ii s.c.age,ii s.now,ii s.nxt,CA 11 (pnv s.pend) J0,CA 14 (rav s.run) J0,CA 1 (fv s.hist) J0]
def Sta.av(s:Sta):aa:=He s.cs
def hC(c:Con):Bool:=decide (c.ns=[])&&(decide (c.hs=[])&&(decide (c.half=0)&&decide (c.age=0)))
def K8(g:Gan):Bool:=decide (1<=g.id/\g.id<=1073741824/\1<=g.pods/\g.pods<=16)&&(aS g.need&&decide (1<=g.run/\g.run<=1048576/\0<=g.lev/\g.lev<=3/\0<=g.pref/\g.pref<=g.lev))
def dZ(c:Con)(g:Gan):Int:=if K8 g=O then(if bD c.ns g.ten=O then 0 else 3)else 1
def Rn.pn(r:Rn):Pn:=⟨r.g,r.seq,r.at'⟩
def pnB(s:Sta)(p:Pn):Bool:=decide (dZ s.c p.g=0)&&(!(cL s.c [] p.g).isNone&&decide ((0<=p.seq/\p.seq<s.nxt)/\0<=p.at'/\p.at'<=s.now))
def rnB(s:Sta)(r:Rn):Bool:=decide ((r.at'<=r.st/\r.st<=s.now)/\s.now<dQ r)&&(uK s.c (iL s.c (s.run.filter λx=>!(x.g.id==r.g.id))) r.g r.hs&&decide ((bE s.c.hs (r.hs.headD 0)).f=r.fl))
def tO(c:Con)(n:Int):V3:=if bD c.ns n=O then eU (jN c.ns n (mY c.ns)) (cO c.ns n).b else jN c.ns n (mY c.ns)
def TD(s:Sta):Bool:=(Dh (Z s.c.ns)).all λi:Nat=>cD (atV (ofL s.c s.run) (i:Int)) (tO s.c (i:Int))
def Pn.q(x:Pn):Q2.Pend:=⟨x.g.id,x.g.ten,x.g.pods,x.g.need.a,x.g.need.b,x.g.need.c,x.g.run,x.g.lev,x.g.pref,x.seq,x.at'⟩
def rA(l:ba):Q2.pav (l.map Pn.q)=pnv l:=by simp[Q2.pav,pnv,Pn.q,Q2.Pend.av,Q2.Pend.cs,Pn.av,Pn.cs]
def aGp(l:ba):Bool:=Q2.checkP (l.map Pn.q)
def ids(s:Sta):ax:=s.pend.map (λp=>p.g.id)++s.run.map λr=>r.g.id
def seqs(s:Sta):ax:=s.pend.map (λp=>p.seq)++s.run.map λr=>r.seq
def UY(s:Sta):Bool:=(hC s.c||decide (bL s.c=0))&&decide ((0<=s.now/\s.now<=1099511627776)/\(1<=s.nxt/\s.nxt<=1099511627776)/\Z s.hist=Z s.c.ns/\Z s.pend+Z s.run<=32)
def pI(s:Sta):Bool:=UY s&&(aGp s.pend&&((s.pend.all (pnB s)&&s.run.all λr=>pnB s r.pn&&rnB s r)&&(decide (ids s).Nodup&&(decide (seqs s).Nodup&&TD s))))
def rM{c:Con}{g:Gan}:dZ c g=0↔K8 g=O/\bD c.ns g.ten=true:=by unfold dZ;cases K8 g<;>cases bD c.ns g.ten<;>decide
def D0(p:V3->Int)(u:Int)(x:Rn):Int:=p x.g.need*((x.hs.count u:Nat):Int)
def C4{p:V3->Int}(hp:Prj p)(need:V3)(b:0<=p need/\p need<=1048576)(j:Nat):∀(hs:ax) (xs:a8) (v:Int),j<Z xs->v<=eW->p ((xs[j]?).getD V3.zero)=max v (-eW)->p (((hs.foldl (rQ need) xs)[j]?).getD V3.zero)=max (v-p need*((hs.count (j:Int):Nat):Int)) (-eW)
 | [],xs,v,_,_,h=>by simpa using h
 | u::r,xs,v,hj,hv,h=>by
  rw[Ap];have e:=aEh need xs u j;by_cases a:u=(j:Int)
  .subst a;rw[bu ⟨by omega,by omega,by omega⟩]at e;rw[Kv];have hm:p need*(((r.count (j:Int)+1:Nat):Nat):Int)=p need*((r.count (j:Int):Nat):Int)+p need:=by rw[Int.natCast_add,Int.mul_add];simp
   rw[hm];have c:p (((rQ need xs (j:Int))[j]?).getD V3.zero)=max (v-p need) (-eW):=by
    rw[e,hp.sub,h];unfold aDa gL eW at *
    omega
   rw[C4 hp need b j r _ (v-p need) (by rw[rO];exact hj) o_ c];omega
  .rw [bt o_]at e;rw[List.count_cons_of_ne (by simpa using a)];exact C4 hp need b j r _ v (by rw[rO];exact hj) hv (by rw[e];exact h)
theorem UO{p:V3->Int}(hp:Prj p)(j:Nat):∀(l:a7) (xs:a8) (v:Int),(∀x∈l,0<=p x.g.need/\p x.g.need<=1048576)->j<Z xs->v<=eW->p ((xs[j]?).getD V3.zero)=max v (-eW)->p (((l.foldl yJ xs)[j]?).getD V3.zero)=max (v-dA (l.map (D0 p (j:Int)))) (-eW)
 | [],xs,v,_,_,_,h=>by
  show _=max (v-0) _;rw[Int.sub_zero];exact h
 | x::r,xs,v,hn,hj,hv,h=>by have a:=hn x (Aw ..);have e:=C4 hp x.g.need a j x.hs xs v hj hv h;have hz:0<=p x.g.need*((x.hs.count (j:Int):Nat):Int):=Int.mul_nonneg a.1 o_;rw[Ap,Bf];have b:=UO hp j r (yJ xs x) (v-p x.g.need*((x.hs.count (j:Int):Nat):Int)) (λy c=>hn y (Bb _ c)) (by rw[xL];exact hj) o_ e;rw[b];show _=max (v-(D0 p (j:Int) x+dA _)) _;unfold D0;congr 1;omega
structure RnOK(s:Sta)(r:Rn):Prop where
 gang:dZ s.c r.g=0
 st:0<=r.st/\r.st<=s.now
 chk:uK s.c (iL s.c (s.run.filter λx=>!(x.g.id==r.g.id))) r.g r.hs=O
def aCC{s:Sta}(h:pI s=O){r:Rn}(e:r∈s.run):RnOK s r:=by unfold pI at h;simp only[Af,Cj]at h;have h1:=h.2.2.1.2 r e;unfold pnB rnB at h1;simp only[Af,bo]at h1;obtain⟨⟨a,_,b⟩,c,d,_⟩:=h1;exact⟨a,⟨Int.le_trans b.2.1 c.1.1,c.1.2⟩,d⟩
def Q1{c:Con}{free:a8}{g:Gan}{hs:ax}(h:uK c free g hs=O):(Z hs:Int)=g.pods/\∀u∈hs,0<=u/\u<(Z free:Int)/\((hs.count u:Nat):Int)<=dX ((free[u.toNat]?).getD V3.zero) g.need:=by
 unfold uK at h;by_cases hl:(Z hs:Int)=g.pods
 .rw [bu hl,Fy]at h;obtain⟨G,_,b⟩:=h;refine⟨hl,λu f=>?_⟩;unfold chkG IZ at b;simp only[Af,Cj]at b;have a:=b.2 u f;unfold aII at a;by_cases h1:u<0
  .rw [bu (bq h1)]at a;cases a
  .rw [bt (by rw[bp h1];decide)]at a;by_cases d:(Z free:Int)<=u
   .rw [bu (bq d)]at a;cases a
   .rw [bt (by rw[bp d];decide)]at a;have e:E6 u hs=((hs.count u:Nat):Int):=by unfold E6;rw[DN];omega
    grind
 .rw [bt hl]at h;cases h
theorem BR(c:Con)(l:a7):Z (iL c l)=Z c.hs:=by
 have key:∀(l:a7) (xs:a8),Z (l.foldl yJ xs)=Z xs:=λl=>by
  induction l with
  | nil=>intro xs;rfl
  | cons x r a=>intro xs;rw[Ap,a,xL]
 unfold iL;rw[key];simp
theorem aRy(c:Con){j:Nat}(a:j<Z c.hs):(((Dh (Z c.hs)).map λi:Nat=>(bE c.hs (i:Int)).c)[j]?).getD V3.zero=(bE c.hs (j:Int)).c:=by rw[Cd,List.getElem?_range a];rfl
def aAm{c:Con}(h:bL c=0){j:Nat}(b:j<Z c.hs):aS (bE c.hs (j:Int)).c=true:=by
 unfold bL at h;split at h
 .split at h
  .split at h
   .rename_i a;rw[Cj]at a;have d:bE c.hs (j:Int)=c.hs[j]:=by unfold bE;rw[Bo,Ab b];rfl
    have:=a c.hs[j] (Aq b);unfold jZ at this
    grind
   .cases h
  .cases h
 .cases h
def aB5{p:V3->Int}(hp:Prj p){c:Con}(a:∀j:Nat,j<Z c.hs->0<=p (bE c.hs (j:Int)).c/\p (bE c.hs (j:Int)).c<=1048576){l:a7}(e:∀x∈l,0<=p x.g.need/\p x.g.need<=1048576){j:Nat}(b:j<Z c.hs):p (((iL c l)[j]?).getD V3.zero)=max (p (bE c.hs (j:Int)).c-dA (l.map (D0 p (j:Int)))) (-eW):=by
 have d:=a j b;unfold iL
 grind[UO,aRy]
def aAV{f:Rn->Int}{r:Rn}:∀{l:a7},r∈l->(l.map λx=>x.g.id).Nodup->dA (l.map f)=dA ((l.filter λx=>!(x.g.id==r.g.id)).map f)+f r
 | [],h,_=>by cases h
 | x::l,h,hd=>by
  rw[Bf,Ci]at hd;rw[Bf];show f x+dA (l.map f)=_;rcases Az.1 h with rfl|h
  .rw [List.filter_cons_of_neg s_];have e:l.filter (λx=>!(x.g.id==r.g.id))=l:=by rw[List.filter_eq_self];intro y b;have:y.g.id≠r.g.id:=λq=>hd.1 (by rw[<-q];exact Cq.2 ⟨y,b,rfl⟩);simpa using this
   rw[e];omega
  .have a:x.g.id≠r.g.id:=λq=>hd.1 (by rw[q];exact Cq.2 ⟨r,h,rfl⟩);rw[List.filter_cons_of_pos (by simpa using a),Bf];show _=(f x+dA _)+f r;rw[aAV h hd.2];omega
def wT{free need:V3}{n:Int}(f:aS need=O)(h1:1<=n)(h:n<=dX free need):need.a*n<=free.a/\need.b*n<=free.b/\need.c*n<=free.c:=by
 have d:cD need free=true:=by
  cases e:cD need free with
  | true=>rfl
  | false=>
   unfold dX at h;rw[bt (by rw[e];decide)]at h;omega
 exact((FH f d _).1 h).2
set_option maxRecDepth 10000
def iB(n lo a:Int):Bool:=decide (lo<=n)&&decide (n<=a)
def iA{n lo a:Int}:iB n lo a=O↔lo<=n/\n<=a:=by unfold iB;simp
def kI(n lo a:Int):bj 201 [ii n,ii lo,ii a] (DA (iB n lo a)):=by
 unfold iB;by_cases h1:lo<=n
 .rw [bq h1,Bz];exact c_ f201 λ_=>zW
 .rw [bp h1,Cu];exact c_ f201 λ_=>zW
def A1(n lo a:Int):bj 155 [ii n,ii lo,ii a] (DA (iB n lo a)):=by
 unfold iB;by_cases h1:lo<=n
 .rw [bq h1,Bz];exact c_ f155 λ_=>zW
 .rw [bp h1,Cu];exact c_ f155 λ_=>zW
def YL(v:V3)(b:Bool)(d:aS v=b):bj 206 [v.av] (DA b):=by
 unfold aS at d;refine c_ f206 λ_=>?_
 repeat' first
  | (refine gW hE ?_;conv=>whnf)
  | exact d
  | refine aY ?_
  | refine aN ?_
  | refine Aa (λh=>?_) (λh=>?_)
  | refine aJ ?_
  | refine Aj _ (Aa rfl ?_)
  | refine Aa d_ ?_
 all_goals (refine congrArg (λb=>Res.ret (aa.bool b)) ?_;rw[<-d];simp only[bo,bk]at *)
 .rw [bp (p:=0<=v.a/\v.a<=1048576) o_];rfl
 .rw [bp (p:=0<=v.a/\v.a<=1048576) o_];rfl
 .rw [bp (p:=0<=v.b/\v.b<=1048576) o_,Br];rfl
 .rw [bp (p:=0<=v.b/\v.b<=1048576) o_,Br];rfl
 .rw [bp (p:=0<=v.c/\v.c<=1048576) o_,Br]
 .rw [bp (p:=0<=v.c/\v.c<=1048576) o_,Br]
 .rw [bq (p:=0<=v.a/\v.a<=1048576) o_,bq (p:=0<=v.b/\v.b<=1048576) o_,bq (p:=0<=v.c/\v.c<=1048576) o_];rfl
def fP(v:V3):bj 206 [v.av] (DA (aS v)):=YL v _ rfl
def MV(x:Hos):Bool:=iB x.f 0 100&&(iB x.b 0 100&&(iB x.r 0 100&&aS x.c))
def aMK(x:Hos):bj 203 [x.av] (DA (MV x)):=by
 have h1:=kI x.f 0 100;have d:=kI x.b 0 100;have h3:=kI x.r 0 100;have a:=fP x.c;unfold MV;generalize iB x.f 0 100=b1 at h1;generalize iB x.b 0 100=b2 at d;generalize iB x.r 0 100=b3 at h3;generalize aS x.c=b4 at a;cases b1<;>cases b2<;>cases b3<;>cases b4
 all_goals
  exact c_ f203 λ_=>zW
def aIl(x:Hos):MV x=jZ x:=by
 rw[Gv];unfold MV jZ;by_cases h:DU x
 .rw [bu h];unfold DU at h;simp only[Af,iA];constructor
  .intro q;omega
  .intro q;cases q
 .rw [bt h];unfold DU at h;simp only[Af,iA];constructor
  .intro q;exact q.2.2.2
  .intro q;exact⟨by omega,by omega,by omega,q⟩
def aDP(c:Con)(i:Nat)(t:i<1048576)(x:Nod)(get:(nav c.ns)[i]? =X x.av)(s:tJ i x):bj 202 [c.av,ii i] (DA U):=by
 have e:=kI x.p 0 ((i:Int)-1);have d:=kI x.w 1 1000;have hl:=kI x.w 1 1000;have j:=fP x.n;have q:=fP x.b;have k:=fP x.l;have o:=nO x.l x.n;unfold tJ at s;by_cases r:i=0
 .by_cases hp:x.p= -1
  .have m:iB x.w 1 1000=false:=by
    cases a:iB x.w 1 1000 with
    | false=>rfl
    | true=>have:=iA.1 a;omega
   rw[m]at d;subst r;refine c_ f202 λ_=>?_
   repeat' first|refine pA ?_|refine⟨i,rfl,?_⟩|refine⟨_,get,?_⟩|refine .p e ?_|refine .p d ?_|refine .p hl ?_|refine .p j ?_|refine .p q ?_|refine .p k ?_|refine .p o ?_|exact rfl|refine lA ?_ ?_|intro h
  .subst r;refine c_ f202 λ_=>?_
   repeat' first|refine pA ?_|refine⟨i,rfl,?_⟩|refine⟨_,get,?_⟩|refine .p e ?_|refine .p d ?_|refine .p hl ?_|refine .p j ?_|refine .p q ?_|refine .p k ?_|refine .p o ?_|exact rfl|refine lA ?_ ?_|intro h
   all_goals (exfalso;simp at *;omega)
 .cases a:iB x.p 0 ((i:Int)-1)with
  | false=>
   rw[a]at e;exact c_ f202 λ_=>zW
  | true=>
   rw[a]at e;have:=iA.1 a;have m:iB x.w 1 1000=false:=by
    cases a:iB x.w 1 1000 with
    | false=>rfl
    | true=>have:=iA.1 a;omega
   rw[m]at d;refine c_ f202 λ_=>?_
   repeat' first|refine pA ?_|refine⟨i,rfl,?_⟩|refine⟨_,get,?_⟩|refine .p e ?_|refine .p d ?_|refine .p hl ?_|refine .p j ?_|refine .p q ?_|refine .p k ?_|refine .p o ?_|exact rfl|refine lA ?_ ?_|intro h
def YP(c:Con)(i:Nat)(s:i<1048576)(x:Nod)(get:(nav c.ns)[i]? =X x.av)(q:¬ tJ i x)(a:bD c.ns (i:Int)=O):bj 202 [c.av,ii i] (DA (aS x.n&&(aS x.b&&(aS x.l&&cD x.l x.n)))):=by
 have k:=kI x.p 0 ((i:Int)-1);have j:=kI x.w 1 1000;have hl:=lR c (i:Int);rw[a]at hl;have d:=fP x.n;have o:=fP x.b;have e:=fP x.l;have m:=nO x.l x.n;unfold tJ at q;rw[iA.2 (show 1<=x.w/\x.w<=1000 by omega)]at j;generalize aS x.n=q1 at d;generalize aS x.b=q2 at o;generalize aS x.l=q3 at e;generalize cD x.l x.n=q4 at m;by_cases r:i=0
 .have hp:x.p= -1:=o_;subst r;cases q1<;>cases q2<;>cases q3<;>cases q4
  all_goals
   refine c_ f202 λ_=>?_
   repeat' first|refine pA ?_|refine⟨i,rfl,?_⟩|refine⟨_,get,?_⟩|refine .p k ?_|refine .p j ?_|refine .p hl ?_|refine .p d ?_|refine .p o ?_|refine .p e ?_|refine .p m ?_|exact rfl|refine lA ?_ ?_|intro h
   all_goals (exfalso;simp at *;omega)
 .rw [iA.2 (show 0<=x.p/\x.p<=(i:Int)-1 by omega)]at k;cases q1<;>cases q2<;>cases q3<;>cases q4
  all_goals
   exact c_ f202 λ_=>zW
def aHj(c:Con)(i:Nat)(v:i<1048576)(x:Nod)(get:(nav c.ns)[i]? =X x.av)(t:¬ tJ i x)(e:bD c.ns (i:Int)=U)(r:Bool)(s:(zB x.n&&(zB x.b&&zB x.l))=r):bj 202 [c.av,ii i] (DA r):=by
 have j:=kI x.p 0 ((i:Int)-1);have d:=kI x.w 1 1000;have hl:=lR c (i:Int);rw[e]at hl;have k:=fP x.n;have q:=fP x.b;have m:=fP x.l;have o:=nO x.l x.n;unfold tJ at t;rw[iA.2 (show 1<=x.w/\x.w<=1000 by omega)]at d;have fin:(((x.p==x.p)&&((x.w==x.w)&&((x.n.a==0)&&((x.n.b==0)&&((x.n.c==0)&&((x.b.a==0)&&((x.b.b==0)&&((x.b.c==0)&&((x.l.a==0)&&((x.l.b==0)&&((x.l.c==0)&&O)))))))))))=r):=by rw[<-s];unfold zB;simp[Ey]
 by_cases u:i=0
 .have hp:x.p= -1:=o_;subst u;refine c_ f202 λ_=>?_
  repeat' first|refine pA ?_|refine⟨i,rfl,?_⟩|refine⟨_,get,?_⟩|refine .p j ?_|refine .p d ?_|refine .p hl ?_|refine .p k ?_|refine .p q ?_|refine .p m ?_|refine .p o ?_|exact rfl|refine lA ?_ ?_|intro h
  .exact bv (show(x.p != -1)=O by assumption) (by rw[hp];decide)
  .exact congrArg (λb=>Res.ret (aa.bool b)) fin
 .rw [iA.2 (show 0<=x.p/\x.p<=(i:Int)-1 by omega)]at j;refine c_ f202 λ_=>?_
  repeat' first|refine pA ?_|refine⟨i,rfl,?_⟩|refine⟨_,get,?_⟩|refine .p j ?_|refine .p d ?_|refine .p hl ?_|refine .p k ?_|refine .p q ?_|refine .p m ?_|refine .p o ?_|exact rfl|refine lA ?_ ?_|intro h
  exact congrArg (λb=>Res.ret (aa.bool b)) fin
def aHi(c:Con)(i:Nat)(b:i<1048576)(x:Nod)(get:(nav c.ns)[i]? =X x.av):bj 202 [c.av,ii i] (DA (mO (bD c.ns (i:Int)) i x)):=by
 unfold mO;by_cases a:tJ i x
 .rw [bu a];exact aDP c i b x get a
 .rw [bt a];cases hl:bD c.ns (i:Int)with
  | false=>rw[bt d_];exact aHj c i b x get a hl _ rfl
  | true=>rw[bu rfl];exact YP c i b x get a hl
def H4(ns:bf):Nat->bf->Bool
 | _,[]=>O
 | i,x::r=>mO (bD ns (i:Int)) i x&&H4 ns (i+1) r
def HQ(c:Con)(j:c.sm)(r:Int):∀(m i:Nat) (b:Bool),i+m=Z c.hs->(if(b&&(c.hs.drop i).all jZ)=O then(0:Int)else 2)=r->
  To E f146 (.pure (Io (ii r))) (G0 (stk f146 1) [(1,G2 0 0),(3,DA b),(5,ii i)] [Do 30 c.cs]):=by
 have f:Z (hav c.hs)=Z c.hs:=by simp
 have h1:=j.hs;intro m;induction m with
 | zero=>
  intro i b h a;rw[Ae o_]at a;cases b with
  | false=>
   have a:2=r:=a;subst a;exact tA
  | true=>
   have a:0=r:=a;subst a;exact tA
 | succ m g=>
  intro i b h a;cases b with
  | false=>
   have a:2=r:=a;subst a;exact tA
  | true=>
   have d:i<Z c.hs:=o_;rw[Ac d,Hw,<-aIl]at a;have get:=nC d;generalize c.hs[i]=x at a get;have e:=aMK x;have next:=g (i+1) (MV x) o_ a
   generalize MV x=q at e next
   exact tA
def YR(c:Con)(f:c.sm)(r:Int):∀(m i:Nat) (b:Bool),i+m=Z c.ns->(if((b&&H4 c.ns i (c.ns.drop i))&&c.hs.all jZ)=O then(0:Int)else 2)=r->
  DE E f146 (ii r) [(1,G2 0 0),(3,DA b),(4,ii i)] [Do 30 c.cs]:=by
 have g:Z (nav c.ns)=Z c.ns:=by simp
 have h1:=f.ns;intro m;induction m with
 | zero=>
  intro i b j a;rw[Ae o_]at a;have next:=HQ c f r (Z c.hs) 0 b o_ (by rw[<-a];show _=if((b&&O)&&_)=O then(0:Int)else 2;rw[Ii];rfl)
  cases b with
  | false=>
   exact tA
  | true=>
   exact tA
 | succ m h=>
  intro i b j a;cases b with
  | false=>
   have next:=HQ c f r (Z c.hs) 0 U o_ (by rw[<-a];rfl)
   exact tA
  | true=>
   have d:i<Z c.ns:=o_;rw[Ac d]at a;have get:=fL d;generalize c.ns[i]=x at a get;have e:=aHi c i o_ x get;have next:=h (i+1) (mO (bD c.ns (i:Int)) i x) o_ a
   generalize mO (bD c.ns (i:Int)) i x=q at e next
   exact tA
def T3(ns:bf):∀(l:bf) (i:Nat),H4 ns i l=jW ns i l
 | [],_=>rfl
 | x::r,i=>by unfold H4 jW;rw[T3 ns r (i+1),vD];cases mO (bD ns (i:Int)) i x<;>rfl
def aDe(c:Con):Bool:=iB (Z c.ns) 1 12&&(iB (Z c.hs) 1 24&&(iB c.half 1 1048576&&iB c.age 0 1048576))
def R6(c:Con):aDe c=O↔yX c:=by unfold aDe yX;simp only[Af,iA];omega
def aER(c:Con):(if((aDe c&&H4 c.ns 0 (c.ns.drop 0))&&c.hs.all jZ)=O then(0:Int)else 2)=bL c:=by
 unfold bL;rw[Ca,T3];cases hs:aDe c with
 | false=>
  rw[bt (c:=yX c) (λq=>by rw[(R6 c).2 q]at hs;cases hs)];rfl
 | true=>
  rw[bu (c:=yX c) ((R6 c).1 hs)];cases jW c.ns 0 c.ns<;>cases c.hs.all jZ<;>rfl
def wY(c:Con)(k:c.sm):bj 146 [c.av] (ii (bL c)):=by
 have b:Z (nav c.ns)=Z c.ns:=by simp
 have a:Z (hav c.hs)=Z c.hs:=by simp
 have h:=YR c k (bL c) (Z c.ns) 0 (aDe c) o_ (aER c);have e:=kI (Z (nav c.ns):Nat) 1 12;have d:=kI (Z (hav c.hs):Nat) 1 24;have i:=kI c.half 1 1048576;have j:=kI c.age 0 1048576;unfold aDe at h;rw[<-b,<-a]at h;generalize iB (Z (nav c.ns):Nat) 1 12=q1 at e h;generalize iB (Z (hav c.hs):Nat) 1 24=q2 at d h;generalize iB c.half 1 1048576=q3 at i h;generalize iB c.age 0 1048576=q4 at j h;generalize bL c=r at h;cases q1<;>cases q2<;>cases q3<;>cases q4
 all_goals
  exact c_ f146 λ_=>zW
def aRD(g:Gan):Bool:=iB g.id 1 1073741824&&(iB g.pods 1 16&&(aS g.need&&(iB g.run 1 1048576&&(iB g.lev 0 3&&iB g.pref 0 g.lev))))
def aN8(g:Gan):aRD g=K8 g:=by
 rw[Gv];unfold aRD K8;simp only[Af,iA,bo];constructor
 .rintro ⟨a,b,c,d,e,f⟩;exact⟨⟨a.1,a.2,b.1,b.2⟩,c,d.1,d.2,e.1,e.2,f.1,f.2⟩
 .rintro ⟨⟨a,b,c,d⟩,v,e,f,h,i,j,k⟩;exact⟨⟨a,b⟩,⟨c,d⟩,v,⟨e,f⟩,⟨h,i⟩,j,k⟩
def R7(c:Con)(g:Gan):bj 148 [c.av,g.av] (ii (dZ c g)):=by
 have d:=A1 g.id 1 1073741824;have a:=A1 g.pods 1 16;have e:=fP g.need;have h:=A1 g.run 1 1048576;have j:=A1 g.lev 0 3;have b:=A1 g.pref 0 g.lev;have i:=lR c g.ten;unfold dZ;rw[<-aN8];unfold aRD;generalize iB g.id 1 1073741824=q1 at d;generalize iB g.pods 1 16=q2 at a;generalize aS g.need=q3 at e;generalize iB g.run 1 1048576=q4 at h;generalize iB g.lev 0 3=q5 at j;generalize iB g.pref 0 g.lev=q6 at b;generalize bD c.ns g.ten=q7 at i;cases q1 with
 | false=>
  exact zqca15
 | true=>
  cases q2 with
  | false=>
   exact zqca15
  | true=>
   cases q3 with
   | false=>
    exact zqca15
   | true=>
    cases q4 with
    | false=>
     exact zqca15
    | true=>
     cases q5 with
     | false=>
      exact zqca15
     | true=>
      cases q6 with
      | false=>
       exact zqca15
      | true=>
       cases q7 with
       | false=>
        exact zqca15
       | true=>
        exact zqca15
def YI(c:Con)(e:c.sm)(g:Gan):bj 75 [c.av,g.av] (ii (dZ c g)):=by
 have d:=uN g.need;have hl:=mB c e g.ten;rw[vD]at hl;unfold dZ K8;generalize aS g.need=q3 at d;generalize bD c.ns g.ten=q7 at hl;by_cases a:1<=g.id/\g.id<=1073741824/\1<=g.pods/\g.pods<=16
 .rw [bq a];cases q3 with
  | false=>
   exact zqca25
  | true=>
   by_cases b:1<=g.run/\g.run<=1048576/\0<=g.lev/\g.lev<=3/\0<=g.pref/\g.pref<=g.lev
   .rw [bq b];cases q7 with
    | false=>
     exact zqca25
    | true=>
     exact zqca25
   .rw [bp b];exact zqca25
 .rw [bp a];exact zqca25
def ZU(c:Con):Bool:=C8.eqL Nod.eqb c.ns []&&(C8.eqL Hos.eqb c.hs []&&(c.half==0&&c.age==0))
def aEw(c:Con):ZU c=hC c:=by obtain⟨ns,hs,b,a⟩:=c;unfold ZU hC;cases ns<;>cases hs<;>simp[C8.eqL]<;>rfl
def aEL:Con:=⟨[],[],0,0⟩
def aF2(c:Con):bj 44 [c.av,aEL.av] (DA (hC c)):=by
 have h1:=C8.eqN_ok c.ns [];have b:=C8.eqH_ok c.hs [];rw[<-aEw];unfold ZU;generalize C8.eqL Nod.eqb c.ns []=q1 at h1;generalize C8.eqL Hos.eqb c.hs []=q2 at b
 obtain⟨R,a⟩:∃R:Bool,R=(q1&&(q2&&(c.half==0&&c.age==0))):=⟨_,rfl⟩
 rw[<-a];cases q1 with
 | false=>
  exact zqca52
 | true=>
  cases q2 with
  | false=>
   exact zqca52
  | true=>
   have a:R=(c.half==0&&c.age==0):=a;refine c_ f44 λ_=>?_
   repeat' first|refine pA ?_|refine .p h1 ?_|refine .p b ?_|exact rfl|refine lA ?_ ?_|intro h
   all_goals (rw[a];simp_all[aEL])
def vY(c:Con):bj 169 [c.av] (DA (hC c)):=by have h:=aF2 c;generalize hC c=q at h;exact c_ f169 λ_=>zW
def P9{α:Type}(p:α->Bool):List α->Int->Int
 | [],_=> -1
 | x::r,i=>if p x=O then i else P9 p r (i+1)
def IS{α:Type}(p:α->Bool):∀(l:List α) (i:Int),0<=i->decide (0<=P9 p l i)=l.any p
 | [],i,_=>rfl
 | x::r,i,h=>by
  unfold P9;rw[List.any_cons];cases hp:p x with
  | true=>rw[bu rfl,bq h];rfl
  | false=>rw[bt d_,IS p r (i+1) o_];rfl
def ZA(f:FuncId)(cap:az)(xs:ax)(p:Int->Bool)(k:∀x∈xs,aA Tryz.prog f [ii x,.ptr cap] [] (Io (DA (p x))) [])(hl:Gf (Z (iv xs)))(r:Int):
  ∀(n i:Nat),i+n=Z xs->P9 p (xs.drop i) i=r->
  DE E f330 (GE Is r) [(0,CA 1 (iv xs) J0),(1,.func (.func f) [] [.ptr cap]),(7,GE Is (Z (iv xs):Nat)),(8,GE Is i)] []:=by
  have e:Z (iv xs)=Z xs:=by simp
  intro n;induction n with
  | zero=>
   exact zqca40
  | succ n g=>
   intro i j a;have b:i<Z xs:=o_;refine gV ?_;refine aT λh=>gV ?_;refine⟨i,rfl,gV ?_⟩;refine⟨_,cK b,?_⟩;exact zqca26
def ZC(f:FuncId)(cap:az)(xs:List ax)(p:ax->Bool)(k:∀x∈xs,aA Tryz.prog f [CA 1 (iv x) J0,.ptr cap] [] (Io (DA (p x))) [])(hl:Gf (Z (gav xs)))(r:Int):
  ∀(n i:Nat),i+n=Z xs->P9 p (xs.drop i) i=r->
  DE E f360 (GE Is r) [(0,CA 1 (gav xs) J0),(1,.func (.func f) [] [.ptr cap]),(7,GE Is (Z (gav xs):Nat)),(8,GE Is i)] []:=by
  have e:Z (gav xs)=Z xs:=by simp
  intro n;induction n with
  | zero=>
   exact zqca40
  | succ n g=>
   intro i j a;have b:i<Z xs:=o_;refine gV ?_;refine aT λh=>gV ?_;refine⟨i,rfl,gV ?_⟩;refine⟨_,FS b,?_⟩;exact zqca26
def aJu(f:FuncId)(cap:az)(xs:ax)(p:Int->Bool)(b:∀x∈xs,aA Tryz.prog f [ii x,.ptr cap] [] (Io (DA (p x))) []):
  bj 337 [CA 1 (iv xs) J0,.func (.func f) [] [.ptr cap]] (DA (xs.any p)):=by
 have c:bj 330 [CA 1 (iv xs) J0,.func (.func f) [] [.ptr cap]] (GE Is (P9 p xs 0)):=by refine c_ f330 λa=>gV ?_;refine To.head [0,1,7,8] ?_;exact ZA f cap xs p b a.1 _ (Z xs) 0 o_ s_
 rw[<-IS p xs 0 (Em _)];exact c_ f337 λ_=>zW
def aJv(f:FuncId)(cap:az)(xs:List ax)(p:ax->Bool)(b:∀x∈xs,aA Tryz.prog f [CA 1 (iv x) J0,.ptr cap] [] (Io (DA (p x))) []):
  bj 335 [CA 1 (gav xs) J0,.func (.func f) [] [.ptr cap]] (DA (xs.any p)):=by
 have c:bj 360 [CA 1 (gav xs) J0,.func (.func f) [] [.ptr cap]] (GE Is (P9 p xs 0)):=by refine c_ f360 λa=>gV ?_;refine To.head [0,1,7,8] ?_;exact ZC f cap xs p b a.1 _ (Z xs) 0 o_ s_
 rw[<-IS p xs 0 (Em _)];exact c_ f335 λ_=>zW
def aNX(G:ax)(a:Z G<=1048576)(h:Int):bj 338 [ii h,.ptr [CA 1 (iv G) J0]] (DA (!inB h G)):=by have b:=B4 G a h;exact c_ f338 λ_=>zW
def aRs(G l:ax)(a:Z G<=1048576):bj 336 [CA 1 (iv G) J0,.ptr [CA 1 (iv l) J0]] (DA (!(l.any λh=>!inB h G))):=by
 have b:=aJu 338 [CA 1 (iv G) J0] l (λh=>!inB h G) λx _=>aNX G a x;refine c_ f336 λ_=>?_;refine bR hE 10 ?_;conv=>whnf
 refine To.frz [2] [0] ?_;exact zW
def aFe{l:a8}{u:Int}(a:0<=u)(h1:u<(Z l:Int)):(vav l)[u.toNat]? =X ((l[u.toNat]?).getD V3.zero).av:=by rw[Ab (show u.toNat<Z l by omega)];exact lN o_
def aKo{c:Con}{l:a7}{n:Int}(h:c.ok n):(vav (ofL c l))[n.toNat]? =X (atV (ofL c l) n).av:=by
 obtain⟨a,h1⟩:=h;have hl:Z (ofL c l)=Z c.ns:=by unfold ofL nG;simp
 unfold atV;rw[bt q_];exact aFe a o_
def PZ(k:ax)(v:aa)(x:ax):∀(es:List (ax×aa)),cE (oA es k v) x=if k=x then X v else cE es x
 | []=>rfl
 | (j,w)::r=>by
  show cE (if j=k then(k,v)::r else(j,w)::oA r k v) x=if k=x then X v else(if j=x then X w else cE r x)
  by_cases b:j=k
  .subst b;rw[bu rfl];show(if j=x then X v else cE r x)=_;by_cases a:j=x
   .rw [bu a,bu a]
   .rw [bt a,bt a,bt a]
  .rw [bt b];show(if j=x then X w else cE (oA r k v) x)=_;rw[PZ k v x r];by_cases a:j=x
   .subst a;rw[bu rfl,bt (λq=>b q.symm),bu rfl]
   .rw [bt a,bt a]
def aRO(es:List (ax×aa))(pre:ax):Prop:=∀h:Int,cE es [h]=if pre.count h=0 then D else X (ii ((pre.count h:Nat):Int))
def aHU{es:List (ax×aa)}{pre:ax}(hm:aRO es pre)(h v:Int)(b:v=((pre.count h:Nat):Int)+1):aRO (oA es [h] (ii v)) (pre++[h]):=λx=>by
 rw[PZ,Jt];by_cases a:h=x
 .subst a;rw[bu rfl,bt s_,b];simp
 .rw [bt (by simpa using a),hm x];have:[h].count x=0:=Lh.2 (by simpa using λq=>a q.symm);rw[this,Nat.add_zero]
def plS(free:a8)(need:V3)(n h:Int):Bool:=if decide (h<0)=O then U else if decide ((Z free:Int)<=h)=O then U else !decide (dX ((free[h.toNat]?).getD V3.zero) need<n)
def plB(free:a8)(need:V3):ax->ax->Bool
 | _,[]=>O
 | pre,h::r=>plS free need (((pre.count h:Nat):Int)+1) h&&plB free need (pre++[h]) r
def aIo(l:ax)(G:ax):Bool:=!(l.any λh=>!inB h G)
abbrev plF(c:Con)(free:a8)(g:Gan)(l:ax)(i:Int):au:=[(1,CA 3 (vav free) J0),(4,.ptr c.cs),(6,.ptr g.cs),(7,.ptr [CA 1 (iv l) J0]),(9,.mref 0),(18,CA 1 (iv l) J0),(19,GE Is (Z (iv l):Nat)),(20,ii i)]
def aHm(c:Con)(I:c.sm)(free:a8)(g:Gan)(l:ax)(hl:Z l<=1048576)(A:Bool)(As:(gpL c g.lev).any (aIo l)=A)(r:Bool):∀(m i:Nat) (es:List (ax×aa)),i+m=Z l->aRO es (l.take i)->(plB free g.need (l.take i) (l.drop i)&&A)=r->
  DE E f299 (DA r) (plF c free g l (i:Int)) [.mp U es]:=by
 have H:Z (iv l)=Z l:=by simp
 have M:Z (vav free)=Z free:=by simp
 intro m;induction m with
 | zero=>
  intro i es K hm b;rw[Ae o_]at b;have b:A=r:=b;subst b;have Be:=ZE c g.lev;have L:=I.hs;have h1:=MZ c I g.lev;have y:=aJv 336 [CA 1 (iv l) J0] (gpL c g.lev) (aIo l) λG P=>aRs G l (by have:=(Be.2 G P).2.1;omega);rw[As]at y;generalize gpL c g.lev=gs at h1 y;exact tA
 | succ m s=>
  intro i es K hm b;have p:i<Z l:=o_;have C:l.take (i+1)=l.take i++[l[i]]:=by rw[Lq,Ab p];rfl
  rw[Ac p]at b;have get:=cK p;have s:=λes=>s (i+1) es o_;rw[C]at s;generalize l[i]=u0 at b get s;have t:((l.take i).count u0)<=1048576:=Cp List.count_le_length q_;have next:=λv (N:v=(((l.take i).count u0:Nat):Int)+1)=>s (oA es [u0] (ii v)) (aHU hm u0 v N)
  have x:=hm u0;have d:∀v,cE (oA es [u0] v) [u0]=X v:=λv=>by rw[PZ,bu rfl]
  have b:((plS free g.need ((((l.take i).count u0:Nat):Int)+1) u0&&plB free g.need (l.take i++[u0]) (l.drop (i+1)))&&A)=r:=b;generalize plB free g.need (l.take i++[u0]) (l.drop (i+1))=B at b next
  generalize (l.take i).count u0=k at t x b next
  unfold plS at b;have go:∀(w:Int),w=(k:Int)->(∃o,cE es [u0]=o/\(o=D/\w=0\/o=X (ii w)))->DE E f299 (DA r) (plF c free g l (i:Int)) [.mp U es]:=λw J ⟨o,n,z⟩=>by
   have next:=next (w+1) o_
   rw[show((k:Int)+1)=w+1 from by omega]at b;by_cases h1:u0<0
   .rw [bq h1]at b;exact zqca0
   .rw [bp h1,bt d_]at b;by_cases y:(Z free:Int)<=u0
    .rw [bq y]at b;exact zqca0
    .rw [bp y,bt d_]at b;have j:u0=(u0.toNat:Int):=o_;have e:=aFe (l:=free) (u:=u0) o_ o_;generalize (free[u0.toNat]?).getD V3.zero=fv at e b;have a:=aBc fv g.need;generalize dX fv g.need=q at a b;by_cases h3:q<w+1
     .rw [bq h3]at b;exact zqca0
     .rw [bp h3]at b;have next:=next b
      rcases z with⟨rfl,rfl⟩|rfl
      all_goals
       refine gV ?_;refine aT λh=>?_
       repeat' first|refine pA ?_|refine⟨i,rfl,?_⟩|refine⟨u0.toNat,j,?_⟩|refine⟨_,get,?_⟩|refine⟨_,e,?_⟩|refine⟨_,n,?_⟩|refine Aj _ (Aa (d _) ?_)|refine .p a ?_|exact rfl|refine lA ?_ ?_|intro h
       exact To.cut [1,4,6,7,9,18,19,20] 1 rfl rfl rfl rfl next
  by_cases F:k=0
  .rw [bu F]at x;exact go 0 o_ ⟨_,x,.inl ⟨rfl,rfl⟩⟩
  .rw [bt F]at x;exact go k rfl ⟨_,x,.inr rfl⟩
def PK{free:a8}{need:V3}{n h:Int}:plS free need n h=O↔0<=h/\h<(Z free:Int)/\n<=dX ((free[h.toNat]?).getD V3.zero) need:=by
 unfold plS;by_cases h1:h<0
 .rw [bu (bq h1)];constructor
  .intro q;cases q
  .intro q;omega
 .rw [bt (by rw[bp h1];decide)];by_cases a:(Z free:Int)<=h
  .rw [bu (bq a)];constructor
   .intro q;cases q
   .intro q;omega
  .rw [bt (by rw[bp a];decide)];simp;omega
def aBq{free:a8}{need:V3}:∀(l pre:ax),plB free need pre l=O↔ ∀u∈l,0<=u/\u<(Z free:Int)/\(((pre++l).count u:Nat):Int)<=dX ((free[u.toNat]?).getD V3.zero) need
 | [],pre=>by simp[plB]
 | h::r,pre=>by
  unfold plB;rw[Af,PK,aBq r (pre++[h]),Ag];show _↔ ∀u∈h::r,0<=u/\u<(Z free:Int)/\(((pre++h::r).count u:Nat):Int)<=dX ((free[u.toNat]?).getD V3.zero) need;have e:pre++([h]++r)=pre++h::r:=rfl;rw[e];constructor
  .rintro ⟨⟨a,b,c⟩,d⟩ u f;by_cases g:u∈r
   .exact d u g
   .rcases Az.1 f with rfl|f
    .refine ⟨a,b,?_⟩;rw[Jt,Kv,Lh.2 g];simpa using c
    .exact bv f g
  .intro d;refine⟨?_,λu f=>d u (Bb _ f)⟩;obtain⟨a,b,c⟩:=d h (Aw ..);refine⟨a,b,?_⟩;rw[Jt,Kv]at c;omega
def ND{free:a8}{need:V3}{hs:ax}:IZ free need hs=O↔ ∀u∈hs,0<=u/\u<(Z free:Int)/\((hs.count u:Nat):Int)<=dX ((free[u.toNat]?).getD V3.zero) need:=by
 unfold IZ;rw[Cj];have key:∀u,aII free need hs u=plS free need (E6 u hs) u:=λu=>rfl;constructor
 .intro q u a;have:=q u a;rw[key,PK]at this;have e:E6 u hs=((hs.count u:Nat):Int):=by unfold E6;rw[DN];omega
  rw[e]at this;exact this
 .intro q u a;rw[key,PK];have e:E6 u hs=((hs.count u:Nat):Int):=by unfold E6;rw[DN];omega
  rw[e];exact q u a
def aMN(l G:ax):aIo l G=LF G l:=by rw[Gv,AE];unfold aIo inB;simp[Fy]
def aRv(c:Con)(free:a8)(g:Gan)(l:ax)(hl:(Z l:Int)=g.pods):(plB free g.need [] l&&(gpL c g.lev).any (aIo l))=uK c free g l:=by
 unfold uK;rw[bu hl];have e:plB free g.need [] l=IZ free g.need l:=by rw[Gv,aBq,ND];rfl
 rw[e,Gv,Af,Fy,Fy];unfold chkG;simp only[aMN,Af];constructor
 .rintro ⟨a,G,b,d⟩;exact⟨G,b,d,a⟩
 .rintro ⟨G,b,d,a⟩;exact⟨a,G,b,d⟩
def aP6(c:Con)(i:c.sm)(free:a8)(g:Gan)(l:ax)(hl:Z l<=1048576):bj 299 [c.av,CA 3 (vav free) J0,g.av,CA 1 (iv l) J0] (DA (uK c free g l)):=by
 have a:Z (iv l)=Z l:=by simp
 by_cases h1:(Z l:Int)=g.pods
 .have b:=aHm c i free g l hl _ rfl (uK c free g l) (Z l) 0 [] o_ (λh=>by simp[cE]) (aRv c free g l h1);have d:(((Z (iv l):Nat):Int) !=g.pods)=false:=by rw[a];simp[h1]
  generalize uK c free g l=r at b;refine c_ f299 λ_=>?_;refine bR hE 16 ?_;conv=>whnf
  refine To.frz [4,6,7] [0,1,2] ?_
  repeat' first|refine pA ?_|refine Aa (λh=>bv h (by rw[d];decide)) (λh=>?_)|exact rfl|refine lA ?_ ?_|intro h
  exact To.part [1,4,6,7,9,18,19,20] [3] rfl rfl rfl b
 .have d:(((Z (iv l):Nat):Int) !=g.pods)=true:=by rw[a];simp[h1]
  have e:uK c free g l=false:=bt h1;rw[e];refine c_ f299 λ_=>?_;refine bR hE 16 ?_;conv=>whnf
  refine To.frz [4,6,7] [0,1,2] ?_;exact zW
abbrev itP(p:Pn):aa:=.iface 104 p.av
abbrev itR(r:Rn):aa:=.iface 85 r.av
abbrev aMA(l:ba):az:=l.map itP
abbrev aD8(l:a7):az:=l.map itR
abbrev alO(s:Sta):aw:=[Do 35 s.cs,Fr 0 1 20]
def aOj(s:Sta)(j:Z s.run<=1000000)(l:az)(R:az):∀(m i:Nat) (a:az),i+m=Z s.run->Z a<=1000000+i->a++aD8 (s.run.drop i)=R->
  To (Eo [3] []) f238 (.pure (Io (CA 1 R J0))) (G0 (stk f238 1) [(1,G2 0 0),(3,CA 1 a (.own 1 0)),(22,CA 14 (rav s.run) J0),(23,GE Is (Z (rav s.run):Nat)),(24,ii i)] (alO s)):=by
 have d:Z (rav s.run)=Z s.run:=by simp
 intro m;induction m with
 | zero=>
  intro i a g f b;rw[Ae o_]at b;have b:a++[]=R:=b;rw[Ao]at b;subst b;exact tA
 | succ m e=>
  intro i a g f b;have c:i<Z s.run:=o_;rw[Ac c]at b;have get:=cH c;generalize s.run[i]=x at b get;have next:=e (i+1) (a++[itR x]) o_ q_ (by rw[Ag];exact b)
  refine gV ?_;refine aT λh=>?_
  repeat' first|refine pA ?_|refine⟨i,rfl,?_⟩|refine⟨_,get,?_⟩|refine Aa (Aa (show Z a+1<=maxLen by simp only[maxLen];omega) (show(Z a+1)*16<=140737488355328 by omega)) ?_|exact rfl|refine lA ?_ ?_|intro h
  exact zW
def aOk(s:Sta)(hp:Z s.pend<=1000000)(f:Z s.run<=1000000)(R:az):∀(m i:Nat) (a:az),i+m=Z s.pend->Z a<=i->(a++aMA (s.pend.drop i))++aD8 s.run=R->
  DE (Eo [3] []) f238 (CA 1 R J0) [(1,G2 0 0),(3,CA 1 a (.own 1 0)),(9,CA 11 (pnv s.pend) J0),(10,GE Is (Z (pnv s.pend):Nat)),(11,ii i)] (alO s):=by
 have d:Z (pnv s.pend)=Z s.pend:=by simp
 intro m;induction m with
 | zero=>
  intro i a j g b;rw[Ae o_]at b;have b:(a++[])++aD8 s.run=R:=b;rw[Ao]at b;have next:=aOj s f [] R (Z s.run) 0 a o_ o_ b
  exact tA
 | succ m e=>
  intro i a j g b;have c:i<Z s.pend:=o_;rw[Ac c]at b;have get:=wX c;generalize s.pend[i]=x at b get;have next:=e (i+1) (a++[itP x]) o_ q_ (by rw[Ag a];exact b)
  refine gV ?_;refine aT λh=>?_
  repeat' first|refine pA ?_|refine⟨i,rfl,?_⟩|refine⟨_,get,?_⟩|refine Aa (Aa (show Z a+1<=maxLen by simp only[maxLen];omega) (show(Z a+1)*16<=140737488355328 by omega)) ?_|exact rfl|refine lA ?_ ?_|intro h
  exact zW
def aK1(s:Sta)(hp:Z s.pend<=1000000)(a:Z s.run<=1000000):bj 238 [s.av] (CA 1 (aMA s.pend++aD8 s.run) J0):=by
 have next:=aOk s hp a (aMA s.pend++aD8 s.run) (Z s.pend) 0 [] o_ s_ rfl
 refine gA (Eo [3] []) f238 λ_=>?_;exact zW
def aAC(p:Pn):bj 239 [itP p] (GT [p.av,DA O]):=by exact c_ f239 λ_=>zW
def aAB(r:Rn):bj 239 [itR r] (GT [r.pn.av,DA O]):=by exact c_ f239 λ_=>zW
def aO3(l:a7)(id:Int):aB l [id]=l.filter λx=>!(x.g.id==id):=by unfold aB;congr 1;funext x;simp[inB]
def aIm{l:List Hos}{n:Int}(a:0<=n)(h1:n<(Z l:Int)):(hav l)[n.toNat]? =X (bE l n).av:=by have h:n.toNat<Z l:=o_;unfold bE;rw[Cd,Ab h];rfl
def aEQ{c:Con}{free:a8}{g:Gan}{l:ax}(e:Z free=Z c.hs)(hp:1<=g.pods)(h:uK c free g l=O):(iv l)[0]? =X (ii (l.headD 0))/\0<=l.headD 0/\l.headD 0<(Z c.hs:Int):=by
 unfold uK at h;by_cases hl:(Z l:Int)=g.pods
 .rw [bu hl]at h;cases l with
  | nil=>simp at hl;omega
  | cons u r=>
   rw[Fy]at h;obtain⟨G,d,b⟩:=h;unfold chkG at b;rw[Af]at b;have a:=ND.1 b.2 u (Aw ..);refine⟨rfl,a.1,?_⟩;have:=a.2.1;show u<_;omega
 .rw [bt hl]at h;cases h
def rnO(s:Sta)(r:Rn):aw:=[Do 35 s.cs,Do 85 r.cs]
def aPK(s:Sta)(r:Rn):aw:=[.fcells s.cs,.fcells r.cs]
def aPJ(s:Sta)(r:Rn):ak [0,1] (rnO s r)=aPK s r:=by kernel_rfl
def aLi(s:Sta)(r:Rn):zJ [2,3] (aE (aPK s r)) [(2,G2 0 0),(3,G2 1 0)]=[(2,.ptr s.cs),(3,.ptr r.cs)]:=by kernel_rfl
def aBd{g:Goal}{ks:bg}(s:Sta)(r:Rn)(h:To E f240 g (.code ks [(2,.ptr s.cs),(3,.ptr r.cs)] (aPK s r))):To E f240 g (.code ks [(2,G2 0 0),(3,G2 1 0)] (rnO s r)):=by refine To.frz [2,3] [0,1] ?_;rw[aPJ,aLi];exact h
def aF5(s:Sta)(r:Rn)(W:a7)(F:a8)(l:Int)(k:Bool)(b:Bool)
  (h1:bj 158 [r.av] (ii l))
  (d:bj 140 [CA 14 (rav s.run) J0,CA 1 (iv [r.g.id]) J0] (CA 14 (rav W) J0))
  (h3:bj 272 [s.c.av,CA 14 (rav W) J0] (CA 3 (vav F) J0))
  (m:bj 299 [s.c.av,CA 3 (vav F) J0,r.g.av,CA 1 (iv r.hs) J0] (DA k))
  (n:k=O->(iv r.hs)[0]? =X (ii (r.hs.headD 0))/\0<=r.hs.headD 0/\(hav s.c.hs)[(r.hs.headD 0).toNat]? =X (bE s.c.hs (r.hs.headD 0)).av)
  (a:(decide ((r.at'<=r.st/\r.st<=s.now)/\s.now<l)&&(k&&decide ((bE s.c.hs (r.hs.headD 0)).f=r.fl)))=b):
  bj 240 [s.av,r.av] (DA b):=by
 have d:bj 140 [CA 14 (rav s.run) J0,CA 1 (iv [r.g.id]) .full] (CA 14 (rav W) J0):=aA.strip d;cases k with
 | true=>
  obtain⟨i,j,e⟩:=n rfl;generalize r.hs.headD 0=u at i j e a;generalize bE s.c.hs u=y at e a;refine c_ f240 λ_=>?_;refine bR hE 13 ?_;conv=>whnf
  refine To.cutC [2,3] 2 rfl rfl rfl rfl ?_;refine aBd s r ?_
  repeat' first|refine pA ?_|refine .p h1 ?_|refine .p d ?_|refine .p h3 ?_|refine .p m ?_|refine⟨0,rfl,?_⟩|refine⟨_,i,?_⟩|refine Aj u.toNat (Aa (by simp only[Int.toNat_of_nonneg j]) ?_)|refine⟨_,e,?_⟩|exact rfl|refine lA ?_ ?_|intro h
  all_goals
   exact zqca24
 | false=>
  refine c_ f240 λ_=>?_;refine bR hE 13 ?_;conv=>whnf
  refine To.cutC [2,3] 2 rfl rfl rfl rfl ?_;refine aBd s r ?_
  repeat' first|refine pA ?_|refine .p h1 ?_|refine .p d ?_|refine .p h3 ?_|refine .p m ?_|exact rfl|refine lA ?_ ?_|intro h
  all_goals
   exact zqca24
def aK2(s:Sta)(a:s.c.sm)(hs:Sm s.run)(r:Rn)(hp:1<=r.g.pods)(d:Z r.hs<=1048576):bj 240 [s.av,r.av] (DA (rnB s r)):=by
 have h:=jC hs [r.g.id];have m:=sD s.run hs [r.g.id] s_;have h3:=aB4 s.c a (aB s.run [r.g.id]) h;have i:=BR s.c (aB s.run [r.g.id]);have k:=aP6 s.c a (iL s.c (aB s.run [r.g.id])) r.g r.hs d;refine aF5 s r _ _ _ _ _ (JA r) m h3 k (λl=>?_) ?_
 .obtain ⟨e,b,j⟩:=aEQ i hp l;exact⟨e,b,aIm b j⟩
 .rw [aO3];rfl
def aOn(es:List (ax×aa))(l:ax):Prop:=∀h:Int,cE es [h]=if l.contains h=O then X (DA O)else D
def UD{es:List (ax×aa)}{l:ax}(hm:aOn es l)(h:Int):aOn (oA es [h] (DA O)) (h::l):=λx=>by
 rw[PZ,List.contains_cons];by_cases a:h=x
 .subst a;simp
 .have b:(x==h)=false:=by simp;exact λq=>a q.symm
  rw[bt (by simpa using a),hm x,b,Bool.false_or]
def ggO(s:Sta):aw:=[Do 35 s.cs]
def aQK(s:Sta):aw:=[.fcells s.cs]
def aQJ(s:Sta):ak [0] (ggO s)=aQK s:=by kernel_rfl
def aMR(s:Sta):zJ [1] (aE (aQK s)) [(1,G2 0 0)]=[(1,.ptr s.cs)]:=by kernel_rfl
def aMP{g:Goal}{ks:bg}(s:Sta)(h:To (Er [] [64,65,66]) f171 g (.code ks [(1,.ptr s.cs)] (aQK s))):To (Er [] [64,65,66]) f171 g (.code ks [(1,G2 0 0)] (ggO s)):=by refine To.frz [1] [0] ?_;rw[aQJ,aMR];exact h
abbrev ggF(s:Sta)(xs:az)(i:Int):au:=[(1,.ptr s.cs),(3,.mref 0),(4,.mref 1),(14,CA 1 xs J0),(15,GE Is (Z xs:Nat)),(16,ii i)]
def gbF(s:Sta)(xs:az)(i:Int)(x:aa):au:=[(1,.ptr s.cs),(3,.mref 0),(4,.mref 1),(6,x),(7,G2 2 0),(14,CA 1 xs J0),(15,GE Is (Z xs:Nat)),(16,ii i)]
def aSF(s:Sta)(xs:az)(i:Int)(x:aa)(p:Pn):au:=[(1,.ptr s.cs),(3,.mref 0),(4,.mref 1),(6,x),(7,.ptr p.cs),(14,CA 1 xs J0),(15,GE Is (Z xs:Nat)),(16,ii i)]
abbrev Ent:Type:=List (ax×aa)
def gbO(a b:Ent)(p:Pn):aw:=[.mp U a,.mp U b,Do 104 p.cs]
def aQQ(a b:Ent)(p:Pn):aw:=[.mp U a,.mp U b,.fcells p.cs]
def aQP(a b:Ent)(p:Pn):ak [2] (gbO a b p)=aQQ a b p:=by kernel_rfl
def aMT(s:Sta)(xs:az)(i:Int)(x:aa)(a b:Ent)(p:Pn):zJ [7] (aE (aQQ a b p)) (gbF s xs i x)=aSF s xs i x p:=by kernel_rfl
def xK{g:Goal}{ks:bg}{s:Sta}{xs:az}{i:Int}{x:aa}{a b:Ent}(p:Pn)(h:To (Er [] [64,65,66]) f171 g (.code ks (aSF s xs i x p) (aQQ a b p))):To (Er [] [64,65,66]) f171 g (.code ks (gbF s xs i x) (gbO a b p)):=by refine To.frz [7] [2] ?_;rw[aQP,aMT];exact h
def gcB(s:Sta)(p:Pn)(b a:Bool)(G:Int)(N Q:Bool):Bool:=!b&&(!a&&(decide ((0<=p.seq/\p.seq<s.nxt)/\0<=p.at'/\p.at'<=s.now)&&(decide (G=0)&&(!N&&Q))))
def ggP(s:Sta)(xs:az)(o:Z xs<=1048576)(i:Nat)(t:i<Z xs)(p:Pn)(get:xs[i]? =X (itP p))(e j:Ent)(k:cE e [p.g.id]=D)(m:cE j [p.seq]=D)(G:Int)(N b:Bool)
  (r:bj 148 [s.c.av,p.g.av] (ii G)) (l:G=0->bj 151 [s.c.av,p.g.av] (DA N))
  (d:gcB s p U U G N O=U->b=U)
  (a:gcB s p U U G N O=O->DE (Er [] [64,65,66]) f171 (DA b) (ggF s xs ((i:Int)+1)) [.mp U (oA e [p.g.id] (DA O)),.mp U (oA j [p.seq] (DA O))]):
  DE (Er [] [64,65,66]) f171 (DA b) (ggF s xs (i:Int)) [.mp U e,.mp U j]:=by
 have n:=aAC p;cases N<;>skip
 all_goals
  refine gV ?_;refine aT λh=>gV ?_;refine⟨i,rfl,gV ?_⟩;refine⟨_,get,gV ?_⟩;refine .p n ?_;refine bR (hEr [] [64,65,66]) 20 ?_;conv=>whnf
  refine To.cutC [1,3,4,6,7,14,15,16] 3 rfl rfl rfl rfl ?_;refine xK p ?_
  repeat' first|refine pA ?_|refine⟨_,k,?_⟩|refine⟨_,m,?_⟩|refine .p r ?_|refine .p (l (by simpa using ‹(G !=0)=U›)) ?_|exact rfl|refine lA ?_ ?_|intro h
  all_goals (try (
   refine congrArg (λq=>Res.ret (aa.bool q)) (d ?_).symm;clear d a;simp only[bo,bk,bne_iff_ne,ne_eq,bne_eq_false_iff_eq,Du]at *
   simp[gcB]
   try omega))
  all_goals
   exact zqca23
def ggR(s:Sta)(xs:az)(t:Z xs<=1048576)(i:Nat)(v:i<Z xs)(r:Rn)(p:Pn)(hp:r.pn=p)(get:xs[i]? =X (itR r))(e j:Ent)(l:cE e [p.g.id]=D)(n:cE j [p.seq]=D)(G:Int)(N Q b:Bool)
  (u:bj 148 [s.c.av,p.g.av] (ii G)) (m:G=0->bj 151 [s.c.av,p.g.av] (DA N))
  (o:G=0->bj 240 [s.av,r.av] (DA Q))
  (d:gcB s p U U G N Q=U->b=U)
  (a:gcB s p U U G N Q=O->DE (Er [] [64,65,66]) f171 (DA b) (ggF s xs ((i:Int)+1)) [.mp U (oA e [p.g.id] (DA O)),.mp U (oA j [p.seq] (DA O))]):
  DE (Er [] [64,65,66]) f171 (DA b) (ggF s xs (i:Int)) [.mp U e,.mp U j]:=by
 have k:=aAB r;rw[hp]at k;cases N<;>cases Q
 all_goals
  refine gV ?_;refine aT λh=>gV ?_;refine⟨i,rfl,gV ?_⟩;refine⟨_,get,gV ?_⟩;refine .p k ?_;refine bR (hEr [] [64,65,66]) 20 ?_;conv=>whnf
  refine To.cutC [1,3,4,6,7,14,15,16] 3 rfl rfl rfl rfl ?_;refine xK p ?_
  repeat' first|refine pA ?_|refine⟨_,l,?_⟩|refine⟨_,n,?_⟩|refine .p u ?_|refine .p (m (by simpa using ‹(G !=0)=U›)) ?_|refine .p (o (by simpa using ‹(G !=0)=U›)) ?_|exact rfl|refine lA ?_ ?_|intro h
  all_goals (try (
   refine congrArg (λq=>Res.ret (aa.bool q)) (d ?_).symm;clear d a;simp only[bo,bk,bne_iff_ne,ne_eq,bne_eq_false_iff_eq,Du]at *
   simp[gcB]
   try omega))
  all_goals
   exact zqca23
def aSD(s:Sta)(xs:az)(e:Z xs<=1048576)(i:Nat)(f:i<Z xs)(p:Pn)(get:xs[i]? =X (itP p))(a b:Ent)(m:cE a [p.g.id]=X (DA O)\/cE a [p.g.id]=D/\cE b [p.seq]=X (DA O)):
  DE (Er [] [64,65,66]) f171 (DA U) (ggF s xs (i:Int)) [.mp U a,.mp U b]:=by
 have c:=aAC p;rcases m with d|⟨d,j⟩
 .exact zqca2
 .exact zqca2
def aSC(s:Sta)(xs:az)(e:Z xs<=1048576)(i:Nat)(f:i<Z xs)(r:Rn)(p:Pn)(hp:r.pn=p)(get:xs[i]? =X (itR r))(a b:Ent)(m:cE a [p.g.id]=X (DA O)\/cE a [p.g.id]=D/\cE b [p.seq]=X (DA O)):
  DE (Er [] [64,65,66]) f171 (DA U) (ggF s xs (i:Int)) [.mp U a,.mp U b]:=by
 have c:=aAB r;rw[hp]at c;rcases m with d|⟨d,j⟩
 .exact zqca2
 .exact zqca2
inductive It where
 | p (x:Pn)
 | r (x:Rn)
def It.av:It->aa
 | .p x=>itP x
 | .r x=>itR x
def It.pn:It->Pn
 | .p x=>x
 | .r x=>x.pn
def It.q(s:Sta):It->Bool
 | .p _=>O
 | .r x=>rnB s x
def It.sm:It->Prop
 | .p _=>True
 | .r x=>Z x.hs<=1048576
def gaB(s:Sta):ax->ax->List It->Bool
 | _,_,[]=>O
 | a,b,x::l=>gcB s x.pn (a.contains x.pn.g.id) (b.contains x.pn.seq) (dZ s.c x.pn.g) (cL s.c [] x.pn.g).isNone (x.q s)&&gaB s (x.pn.g.id::a) (x.pn.seq::b) l
def zI{c:Con}{g:Gan}(h:dZ c g=0):1<=g.pods/\g.pods<=16:=by obtain⟨h1,_⟩:=rM.1 h;unfold K8 at h1;rw[Af]at h1;have:=bn h1.1;omega
def aMQ(s:Sta)(Be:s.c.sm)(hs:Sm s.run)(l:List It)(hl:Z l<=1048576)(v:∀x∈l,x.sm)(b:Bool):∀(m i:Nat) (a d:Ent) (f j:ax),i+m=Z l->aOn a f->aOn d j->gaB s f j (l.drop i)=b->
  DE (Er [] [64,65,66]) f171 (DA b) (ggF s (l.map It.av) (i:Int)) [.mp U a,.mp U d]:=by
 have B:Z (l.map It.av)=Z l:=by simp
 intro m;induction m with
 | zero=>
  intro i a d f j H h1 w e;rw[Ae o_]at e;have e:O=b:=e;subst e;exact tA
 | succ m u=>
  intro i a d f j H h1 w e;have n:i<Z l:=o_;rw[Ac n]at e;have get:(l.map It.av)[i]? =X (l[i].av):=by simp[n]
  have C:=v l[i] (Aq n);have u:=λa d f j=>u (i+1) a d f j o_;generalize l[i]=x at e get C;have e:(gcB s x.pn (f.contains x.pn.g.id) (j.contains x.pn.seq) (dZ s.c x.pn.g) (cL s.c [] x.pn.g).isNone (x.q s)&&gaB s (x.pn.g.id::f) (x.pn.seq::j) (l.drop (i+1)))=b:=e;have k:=h1 x.pn.g.id;have t:=w x.pn.seq;have next:=u _ _ (x.pn.g.id::f) (x.pn.seq::j) (UD h1 x.pn.g.id) (UD w x.pn.seq)
  generalize gaB s (x.pn.g.id::f) (x.pn.seq::j) (l.drop (i+1))=R at e next
  cases A:f.contains x.pn.g.id with
  | true=>
   rw[A]at e k;have e:U=b:=by rw[<-e];rfl
   subst e;cases x with
   | p x=>exact aSD s _ o_ i o_ x get a d (.inl k)
   | r x=>exact aSC s _ o_ i o_ x x.pn rfl get a d (.inl k)
  | false=>
   rw[A]at e k;cases z:j.contains x.pn.seq with
   | true=>
    rw[z]at e t;have e:U=b:=by rw[<-e];rfl
    subst e;cases x with
    | p x=>exact aSD s _ o_ i o_ x get a d (.inr ⟨k,t⟩)
    | r x=>exact aSC s _ o_ i o_ x x.pn rfl get a d (.inr ⟨k,t⟩)
   | false=>
    rw[z]at e t;have F:=R7 s.c x.pn.g;have y:=λh:dZ s.c x.pn.g=0=>T9 s.c Be x.pn.g (by have:=zI h;omega);cases x with
    | p x=>
     refine ggP s _ o_ i o_ x get a d k t _ _ b F y (λo=>?_) (λo=>?_)
     .exact e.symm.trans (congrArg (λq:Bool=>q&&R) o)
     .exact next ((congrArg (λq:Bool=>q&&R) o).symm.trans e)
    | r x=>
     have G:=λh:dZ s.c x.pn.g=0=>aK2 s Be hs x (zI (g:=x.g) h).1 C;refine ggR s _ o_ i o_ x x.pn rfl get a d k t _ _ _ b F y G (λo=>?_) (λo=>?_)
     .exact e.symm.trans (congrArg (λq:Bool=>q&&R) o)
     .exact next ((congrArg (λq:Bool=>q&&R) o).symm.trans e)
def uG(s:Sta):List It:=s.pend.map It.p++s.run.map It.r
def aQz(s:Sta):(uG s).map It.av=aMA s.pend++aD8 s.run:=by unfold uG;rw[Bi,Dz,Dz];rfl
def aIw(s:Sta)(j:s.c.sm)(hp:Z s.pend<=1000)(k:Z s.run<=1000)(hs:Sm s.run):bj 171 [s.av] (DA (gaB s [] [] (uG s))):=by
 have a:=aK1 s o_ o_;rw[<-aQz]at a;have e:Z (uG s)<=2000:=by unfold uG;simp;omega
 have next:=aMQ s j hs (uG s) o_ (λx d=>by
  unfold uG at d;rw[Cc,Cq,Cq]at d;rcases d with⟨y,_,rfl⟩|⟨y,i,rfl⟩
  .trivial
  .exact hs.2 y i) _ (Z (uG s)) 0 [] [] [] [] o_ (λh=>rfl) (λh=>rfl) rfl
 rw[Ca]at next
 generalize (uG s).map It.av=xs at a next
 generalize gaB s [] [] (uG s)=b at next
 refine gA (Er [] [64,65,66]) f171 λ_=>?_;refine bR (hEr [] [64,65,66]) 10 ?_;conv=>whnf
 refine To.cutC [1] 1 rfl rfl rfl rfl ?_;refine aMP s ?_
 repeat' first|refine pA ?_|refine .p a ?_|exact rfl|refine lA ?_ ?_|intro h
 exact To.part [1,3,4,14,15,16] [1,2] rfl rfl rfl next
def aQO(s:Sta)(p:Pn)(q e d:Bool):gcB s p e d (dZ s.c p.g) (cL s.c [] p.g).isNone q=(!e&&(!d&&(pnB s p&&q))):=by unfold gcB pnB;generalize decide (dZ s.c p.g=0)=a;generalize (cL s.c [] p.g).isNone=b;generalize decide ((0<=p.seq/\p.seq<s.nxt)/\0<=p.at'/\p.at'<=s.now)=c;cases e<;>cases d<;>cases a<;>cases b<;>cases c<;>cases q<;>rfl
def aB3(s:Sta):∀(l:List It) (a b:ax),gaB s a b l=O↔(∀x∈l,(pnB s x.pn&&x.q s)=O)/\((l.map λx=>x.pn.g.id).Nodup/\∀x∈l,x.pn.g.id∉a)/\((l.map λx=>x.pn.seq).Nodup/\∀x∈l,x.pn.seq∉b)
 | [],a,b=>by simp[gaB]
 | x::r,a,b=>by
  unfold gaB;rw[aQO,Af,aB3 s r];simp only[Af,Dj,List.contains_eq_mem,bk,Bf,Ci,Az,forall_eq_or_imp,not_or,Cq,not_exists,not_and];constructor
  .rintro ⟨⟨h1,k,h3⟩,h,⟨m,d⟩,i,f⟩;exact⟨⟨h3,h⟩,⟨⟨λy c e=>(d y c).1 e,m⟩,h1,λy c=>(d y c).2⟩,⟨λy c e=>(f y c).1 e,i⟩,k,λy c=>(f y c).2⟩
  .rintro ⟨⟨h3,h⟩,⟨⟨d,m⟩,h1,n⟩,⟨f,i⟩,k,j⟩;exact⟨⟨h1,k,h3⟩,h,⟨m,λy c=>⟨λe=>d y c e,n y c⟩⟩,i,λy c=>⟨λe=>f y c e,j y c⟩⟩
def aQR(s:Sta):gaB s [] [] (uG s)=((s.pend.all (pnB s)&&s.run.all λr=>pnB s r.pn&&rnB s r)&&(decide (ids s).Nodup&&decide (seqs s).Nodup)):=by
 rw[Gv,aB3];have d:((uG s).map λx=>x.pn.g.id)=ids s:=by unfold uG ids;rw[Bi,Dz,Dz];rfl
 have f:((uG s).map λx=>x.pn.seq)=seqs s:=by unfold uG seqs;rw[Bi,Dz,Dz];rfl
 rw[d,f];simp only[Ix,not_false_eq_true,implies_true,and_true,Af,bo,Cj];have c:(∀x∈uG s,pnB s x.pn=O/\x.q s=O)↔(∀x∈s.pend,pnB s x=O)/\∀x∈s.run,pnB s x.pn=O/\rnB s x=true:=by
  unfold uG;constructor
  .intro h;exact⟨λx a=>(h (.p x) (List.mem_append_left _ (Cf a))).1,λx a=>h (.r x) (List.mem_append_right _ (Cf a))⟩
  .rintro ⟨h1,e⟩ x a;rw[Cc,Cq,Cq]at a;rcases a with⟨y,b,rfl⟩|⟨y,b,rfl⟩
   .exact ⟨h1 y b,rfl⟩
   .exact e y b
 rw[c]
def quO(s:Sta):aw:=[Do 35 s.cs]
def aP0(s:Sta):aw:=[.fcells s.cs]
def aPZ(s:Sta):ak [0] (quO s)=aP0 s:=by kernel_rfl
def aLF(s:Sta):zJ [1] (aE (aP0 s)) [(1,G2 0 0)]=[(1,.ptr s.cs)]:=by kernel_rfl
def aLD{g:Goal}{ks:bg}(s:Sta)(h:To E f172 g (.code ks [(1,.ptr s.cs)] (aP0 s))):To E f172 g (.code ks [(1,G2 0 0)] (quO s)):=by refine To.frz [1] [0] ?_;rw[aPZ,aLF];exact h
def aLE(s:Sta)(j:s.c.sm)(At:a8)(t:Z At=Z s.c.ns)(q:∀i:Nat,i<Z At->(vav At)[i]? =X (atV At (i:Int)).av)(b:Bool):∀(m i:Nat),i+m=Z At->((Ig i m).all λi:Nat=>cD (atV At (i:Int)) (tO s.c (i:Int)))=b->
  DE E f172 (DA b) [(1,.ptr s.cs),(10,CA 3 (vav At) J0),(11,GE Is (Z (vav At):Nat)),(12,ii (i:Int))] []:=by
 have g:Z (vav At)=Z At:=by simp
 have h1:=j.ns;intro m;induction m with
 | zero=>
  intro i r a;have a:O=b:=a;subst a;exact tA
 | succ m k=>
  intro i r a;have f:i<Z At:=o_;have a:(cD (atV At (i:Int)) (tO s.c (i:Int))&&((Ig (i+1) m).all λi:Nat=>cD (atV At (i:Int)) (tO s.c (i:Int))))=b:=a;have next:=k (i+1) o_
  generalize ((Ig (i+1) m).all λi:Nat=>cD (atV At (i:Int)) (tO s.c (i:Int)))=R at a next
  have get:=q i f;have l:=xD (c:=s.c) (n:=(i:Int)) ⟨by omega,by omega⟩;have o:=aHH s.c j (i:Int);have hl:=lR s.c (i:Int);unfold tO at a;generalize atV At (i:Int)=u at a get;generalize cO s.c.ns (i:Int)=y at a l;generalize jN s.c.ns (i:Int) (mY s.c.ns)=v at a o;cases h:bD s.c.ns (i:Int)with
  | true=>
   rw[h]at a hl;have p:=jQ v y.b;have a:(cD u (eU v y.b)&&R)=b:=a;generalize eU v y.b=w at p a;have d:=AG u w;cases e:cD u w with
   | true=>
    rw[e]at a d;have next:=next a
    exact tA
   | false=>
    exact zqca51
  | false=>
   rw[h]at a hl;have a:(cD u v&&R)=b:=a;have d:=AG u v;cases e:cD u v with
   | true=>
    rw[e]at a d;have next:=next a
    exact tA
   | false=>
    exact zqca51
def aHE(c:Con)(l:a7):Z (ofL c l)=Z c.ns:=by unfold ofL nG;simp
def aDK(s:Sta)(b:s.c.sm)(h:Z s.run<=1048576):bj 172 [s.av] (DA (TD s)):=by
 have d:=TZ s.c b s.run h;have a:=aHE s.c s.run
 have next:=aLE s b (ofL s.c s.run) a (λi j=>by
  have:=aKo (c:=s.c) (l:=s.run) (n:=(i:Int)) ⟨by omega,by omega⟩;rw[Bo]at this
  exact this) _ (Z (ofL s.c s.run)) 0 o_ rfl
 have e:((Ig 0 (Z (ofL s.c s.run))).all λi:Nat=>cD (atV (ofL s.c s.run) (i:Int)) (tO s.c (i:Int)))=TD s:=by unfold TD;rw[a,List.range_eq_range']
 rw[e]at next
 generalize TD s=q at next
 generalize ofL s.c s.run=At at d next
 refine c_ f172 λ_=>?_;refine bR hE 10 ?_;conv=>whnf
 refine To.cutC [1] 1 rfl rfl rfl rfl ?_;refine aLD s ?_;exact zW
def H9(s:Sta):Prop:=(0<=s.now/\s.now<=1099511627776)/\(1<=s.nxt/\s.nxt<=1099511627776)/\Z s.hist=Z s.c.ns/\Z s.pend+Z s.run<=32
instance (s:Sta):Decidable (H9 s):=by unfold H9;infer_instance
def XQ(s:Sta)(e:Bool)(k:Int)(q g u:Bool)(b:Int)
  (d:bj 169 [s.c.av] (DA e))
  (i:bj 146 [s.c.av] (ii k))
  (r:Z s.pend+Z s.run<=32->bj 170 [CA 11 (pnv s.pend) J0] (DA q))
  (m:Z s.pend+Z s.run<=32->bj 171 [s.av] (DA g))
  (v:Z s.pend+Z s.run<=32->bj 172 [s.av] (DA u))
  (l:(if(((e||decide (k=0))&&decide (H9 s))&&(q&&(g&&u)))=O then 0 else 1)=b):
  bj 110 [s.av] (ii b):=by
 have p:Z (pnv s.pend)=Z s.pend:=by simp
 have j:Z (rav s.run)=Z s.run:=by simp
 have o:Z (fv s.hist)=Z s.hist:=by simp
 have t:Z (nav s.c.ns)=Z s.c.ns:=by simp
 refine c_ f110 λ_=>?_
 repeat' first|refine pA ?_|refine Fu (Aa (Aa (by simp only[bS,bo]at *;omega) (by simp only[aX,bo]at *;omega)) ?_)|refine .p d ?_|refine .p i ?_|refine .p (r (by simp only[bo,bk,Dj,Jj]at *;omega)) ?_|refine .p (m (by simp only[bo,bk,Dj,Jj]at *;omega)) ?_|refine .p (v (by simp only[bo,bk,Dj,Jj]at *;omega)) ?_|exact rfl|refine lA ?_ ?_|intro h
 all_goals
  subst l;refine congrArg (λn=>Res.ret (aa.int Is n)) ?_;simp only[bo,bk,Dj,Jj,beq_iff_eq,beq_eq_false_iff_ne,ne_eq]at *
  first
  | (exfalso;omega)
  | (by_cases a:H9 s
     .rw [bq a];unfold H9 at a
      first
      | (exfalso;omega)
      | simp[*]
     .rw [bp a]
      first
      | (exfalso;unfold H9 at a;omega)
      | simp)
def LU(s:Sta)(a:s.c.sm)(hs:Sm s.run):bj 110 [s.av] (ii (if pI s=O then 0 else 1)):=by
 refine XQ s (hC s.c) (bL s.c) (aGp s.pend) (gaB s [] [] (uG s)) (TD s) _ (vY s.c) (wY s.c a) (λh=>?_) (λh=>aIw s a o_ o_ hs) (λh=>aDK s a o_) ?_
 .have:=Q2.check_ok (s.pend.map Pn.q) (by rw[Bw];omega);rw[rA]at this;exact this
 .rw [aQR];unfold pI UY H9;congr 1;simp only[Ey]
namespace C8
open Go.RowKit
set_option maxRecDepth 100000
abbrev tWr:TypeId:=258
def BG:liesAt Tryz.prog Tryz.prog.depth tWr (2 / Tryz.prog.cellsOf tWr) 0 193 1=true:=by kernel_rfl
def AZ:(Tryz.prog.info? 193).map (·.size)=X 2:=by kernel_rfl
def RQ:Tryz.prog.underlying 191=X (.pointer 193):=by kernel_rfl
def RP:Tryz.prog.underlying 319=X .unsafePointer:=by kernel_rfl
def VG:Tryz.prog.funcs[244]? =X f244:=by kernel_rfl
def hZ(b:Nat)(w:World)(h:w.cell? ⟨b,0,D⟩=X (.pointer D))(a:w.shape? b=X (tWr,2))(g:w.frozen? ⟨b,0,D⟩=U):
  Calls Tryz.prog 174 #[.pointer (X ⟨b,0,D⟩)] w λe w'=>e= .returned (.tuple #[])/\w'=w.setCell ⟨b,0,D⟩ (.pointer (X ⟨b,0,D⟩)):=by
 obtain⟨j,d,c⟩:=Option.map_eq_some_iff.1 AZ
 go_enter Tryz.func174,Tryz.ntmps174
 go_wp2
 rw[Lib.run_to_unsafe w ⟨b,0,D⟩ RQ RP d (by rw[c];decide) a (Mh 1)];simp only[Ez];rw[Oper.upon_value]
 go_wp2
 rw[run_callFunc_extern VG (by kernel_rfl) (by kernel_rfl) (by kernel_rfl) (e:=Extern.AbiNoEscape.same) (by kernel_rfl)];rw[Lib.run_noEscape];simp only[Ez];rw[Oper.upon_value]
 go_wp2
 rw[Lib.run_from_unsafe w ⟨b,0,D⟩ RP RQ d a BG];simp only[Ez];rw[Oper.upon_value]
 go_wp2
 go_end0;exact⟨rfl,rfl⟩
def aFl:Tryz.prog.underlying 261=X (.pointer 5):=by kernel_rfl
def aJN:Tryz.prog.cellsOf 5=1:=by kernel_rfl
def qQ(b g cap:Nat)(p:Value)(a:Array Value)(l:ay)(w:World)(h:w.heap[b]? =X (.cells #[p,.slice (X ⟨g,0,D⟩) (Z l) cap] tWr (0,0)))(s:w.heap[g]? =X (.cells a 5 (0,0)))(n:l≠[])
  (o:Z l<=cap) (d:cap<=maxLen) (q:a.size=cap) (c:∀(j:Nat) x,l[j]? =X x->w.cell? ⟨g,j,D⟩=X (.int .u8 x.toNat)):
  Calls Tryz.prog 115 #[.pointer (X ⟨b,0,D⟩)] w λe w'=>e= .returned (.string ⟨l.toArray⟩)/\N6 g (Z l) w w':=by
 have k:Z l≠0:=by simpa using n
 have y:w.drew.cell? ⟨b,1,D⟩=X (.slice (X ⟨g,0,D⟩) (Z l) cap):=by exact zqca37
 have u:(Jd #[109] 261 #[.slice (X ⟨g,0,D⟩) (Z l) cap]).run Tryz.prog w.drew= .ok (.pointer (X ⟨g,0,D⟩)) w.drew:=
  Lib.run_unsafeSliceData_row _ _ _ _ _ _ o_
 have r:(Kd #[261,3] 9 #[.pointer (X ⟨g,0,D⟩),.int .i64 (Z l)]).run Tryz.prog w.drew= .ok (.string ⟨l.toArray⟩) (w.drew.freeze ⟨g,0,D⟩ (Z l)):=by exact zqca16
 have m:Tryz.prog.follows Departure.mixedOrders=true:=hE.mix
 go_enter Tryz.func115,Tryz.ntmps115
 go_wp2
 go_region_o
 all_goals (go_wp2;go_ret;exact⟨rfl,ZG k⟩)
def cc_fresh(s:aa):ar 174 [G2 0 0] [Do tWr [By,s]] (Io (GT [])) [Do tWr [G2 0 0,s]]:=
 qL (λ_ _=>by rfl) hZ s
def str_ok(l:ay)(a:l≠[])(p:aa):ar 115 [G2 0 0] [Do tWr [p,CA 1 (l.map ub) (.own 1 0)],Fr 0 1 5] (Io (HA l)) [.dead,.dead]:=
 oY (λ_ _=>by rfl) qQ l a p
def aH:Nat->Nat->Nat->ay->Option (Nat×Nat)
 | 0,_,_,_=>D
 | _+1,_,_,[]=>D
 | f+1,i,acc,c::r=>if c.toNat<128 then(if c.toNat=0/\0<i then D else X (acc+(c.toNat % 128)*2 ^ (7*i),i+1))else aH f (i+1) (acc+(c.toNat % 128)*2 ^ (7*i)) r
def dP(l:ay):Option (Nat×Nat):=aH 9 0 0 l
def aSE:Option (Nat×Nat)->aa
 | some (n,k)=>.tup [.int .i64 n,.int .i64 k,.int .i64 0]
 | none=>.tup [.int .i64 0,.int .i64 0,.int .i64 10]
def putN(n:Nat):ay:=if n<128 then[Da n]else Da (128+n % 128)::putN (n / 128)
 termination_by n
 decreasing_by omega
def iI:∀(f i a:Nat) (l:ay) (n k:Nat),i+f=9->a<2 ^ (7*i)->aH f i a l=X (n,k)->n<2 ^ 63/\i<k/\k<=9/\k<=i+Z l
 | 0,_,_,_,_,_,_,_,h=>by cases h
 | f+1,i,a,[],_,_,_,_,h=>by cases h
 | f+1,i,a,c::r,n,k,hi,ha,h=>by
  have b:a+(c.toNat % 128)*2 ^ (7*i)<2 ^ (7*(i+1)):=by
   have h3:c.toNat % 128<=127:=o_;have d:(c.toNat % 128)*2 ^ (7*i)<=127*2 ^ (7*i):=Bu _ h3
   grind[Hb,Fc]
  simp only[aH]at h;split at h
  .split at h
   .cases h
   .cases h;have:2 ^ (7*(i+1))<=2 ^ 63:=Ep d_ o_;simp only[Al];omega
  .have:=iI f (i+1) _ r n k o_ b h;simp only[Al];omega
def U3:∀(f i a n:Nat) (s:ay),i+f=9->n<2 ^ (7*f)->(0<i->0<n)->aH f i a (putN n++s)=X (a+n*2 ^ (7*i),i+Z (putN n))
 | 0,i,a,n,s,_,hn,h0=>by simp at hn;omega
 | f+1,i,a,n,s,hi,hn,h0=>by
  have g:2 ^ (7*(f+1))=128*2 ^ (7*f):=by rw[Hb,Fc];omega
  have b:2 ^ (7*(i+1))=128*2 ^ (7*i):=by rw[Hb,Fc];omega
  rw[putN];by_cases h:n<128
  .have e:(Da n).toNat=n:=by rw[Hg,Hz o_]
   rw[bu h];simp only[Bx,List.nil_append,aH,e,bu h,Hz h];rw[bt o_];simp
  .have e:(Da (128+n % 128)).toNat=128+n % 128:=by rw[Hg,Hz o_]
   rw[bt h];simp only[Bx,aH,e];rw[bt o_,U3 f (i+1) _ (n / 128) s o_ o_ (λ_=>by omega)];have c:(128+n % 128) % 128=n % 128:=o_;rw[c,b];have d:n*2 ^ (7*i)=(n % 128)*2 ^ (7*i)+n / 128*(128*2 ^ (7*i)):=by rw[<-Ik,<-Nat.add_mul];congr 1;omega
   grind[Al,Option.some.injEq,Prod.mk.injEq]
def aB2{l:ay}{n k:Nat}(h:dP l=X (n,k)):n<2 ^ 63/\0<k/\k<=9/\k<=Z l:=by have:=iI 9 0 0 l n k rfl d_ h;omega
def leN:ay->Nat
 | []=>0
 | c::r=>c.toNat+256*leN r
def P4:∀(l:ay),leN l<2 ^ (8*Z l)
 | []=>by simp[leN]
 | c::r=>by have:=P4 r;have h:=c.toNat_lt;simp only[leN,Al,Hb,Fc];omega
def vT:∀(l:ay) (c:UInt8),leN (l++[c])=leN l+c.toNat*2 ^ (8*Z l)
 | [],c=>by simp[leN]
 | d::r,c=>by
  simp only[Bx,leN,vT r c,Al,Hb,Fc];have:c.toNat*(2 ^ (8*Z r)*2 ^ (8*1))=256*(c.toNat*2 ^ (8*Z r)):=by rw[<-Ik,De]
  omega
def LL{l:ay}{i:Nat}{c:UInt8}(h:l[i]? =X c):l.take (i+1)=l.take i++[c]:=by rw[Lq,h];rfl
def HL(n:Nat):∀b,n<2 ^ (7*b)->Z (putN n)<=b+1:=by
 induction n using Hq with
 | ind n c=>
  intro b a;rw[putN];split
  .simp
  .rename_i h;cases b with
   | zero=>simp at a;omega
   | succ b=>
    have:=c (n / 128) o_ b (by rw[Hb,Fc]at a;omega);simp only[Al];omega
def aIt(n:Nat)(s:ay)(a:n<2 ^ 63):dP (putN n++s)=X (n,Z (putN n)):=by have:=U3 9 0 0 n s rfl o_ (λh=>by omega);simpa[dP]using this
set_option maxRecDepth 10000
def aHf(n:Nat):∀(a:ay),Z a+Z (putN n)<=100->(n:Int)<=9223372036854775807->
  DE (Eo [3] []) f173 (HA (a++putN n)) [(0,GE Is n),(3,CA 1 (a.map ub) (.own 0 0))] [Fr 0 1 5]:=by
 induction n using Hq with
 | ind n e=>
  intro a c j;have g:(n:Int).fdiv (2 ^ Int.toNat 7)=((n / 128:Nat):Int):=by rw[Ef _ d_];simp
  have d:=N8 n;have hp:1<=Z (putN n):=by rw[putN];split<;>simp
  have hl:Z (a.map ub)=Z a:=by simp
  refine gV ?_;refine⟨λh=>?_,λh=>?_⟩
  .have h:127<n:=by have:=bn h;omega
   have i:dL .or .u8 ((n % 256:Nat):Int) 128=((128+n % 128:Nat):Int):=by have:=oP .u8 (n % 256) 128 (by simp only[aX];omega) d_;rw[aQe ⟨n % 256,by omega⟩]at this;simp only at this;rw[show n % 256 % 128=n % 128 from by omega]at this;exact this
   have b:putN n=Da (128+n % 128)::putN (n / 128):=by rw[putN,bt o_]
   refine gV ?_;refine .inr (gV ?_);refine⟨⟨by simp only[maxLen];simp;omega,by simp;omega⟩,?_⟩;refine gV ?_;refine⟨⟨by decide,by decide⟩,gV ?_⟩;rw[g,d,i];refine To.part [0,3] [0] rfl rfl rfl ?_;have:=e (n / 128) o_ (a++[Da (128+n % 128)]) (by rw[b]at c;simp at c⊢;omega) o_;rw[b];rw[Ag,Bi,Bf,AP o_]at this;exact this
  .have h:¬ 127<n:=by have:=bm h;omega
   have b:putN n=[Da n]:=by rw[putN,bu o_]
   refine gV ?_;refine .inr (gV ?_);refine⟨⟨by simp only[maxLen];simp;omega,by simp;omega⟩,?_⟩;refine gV ?_;refine⟨a++[Da n],?_,by simp;omega,?_⟩
   .rw [d,Hz o_,<-AP o_,Bi];rfl
   refine gV ?_;rw[b]
def put_ok(n:Int):bj 173 [GE Is n] (HA (putN n.toNat)):=by refine gA (Eo [3] []) f173 λa=>?_;have b:n<=9223372036854775807:=a.1.2;have:=HL n.toNat 9 o_;have e:max n 0=(n.toNat:Int):=o_;refine gV ?_;rw[e];refine To.head [0,3] ?_;exact aHf n.toNat [] (by simpa using(by omega:Z (putN n.toNat)<=100)) o_
def pl:ax->ay
 | []=>[]
 | n::r=>putN n.toNat++pl r
theorem pl_append(a b:ax):pl (a++b)=pl a++pl b:=by
 induction a with
 | nil=>rfl
 | cons n r c=>simp[pl,c]
theorem pn_len{n:Int}(h:n<=9223372036854775807):Z (putN n.toNat)<=10:=by have:=HL n.toNat 9 o_;omega
theorem pl_len:∀{l:ax},(∀n∈l,n<=9223372036854775807)->Z (pl l)<=10*Z l
 | [],_=>by simp[pl]
 | n::r,h=>by have h1:=pn_len (h n s_);have a:=pl_len (l:=r) λm hm=>h m (by simp[hm]);simp only[pl,Ah,Al];omega
def aQA{n:Int}(h:kW n=O):0<=n/\n<=1099511627776:=by simpa[kW]using h
def okI_b:∀{l:ax},okI l=O->∀n∈l,0<=n/\n<=1099511627776
 | [],_,n,a=>by cases a
 | x::r,h,n,a=>by
  simp only[okI,Af]at h;rcases Az.1 a with rfl|a
  .exact aQA h.1
  .exact okI_b h.2 n a
def _root_.Go.Proofs.YtenkdioaefckoaaGreatDoor.Gan.il(g:Gan):ax:=[g.id,g.ten,g.pods,g.need.a,g.need.b,g.need.c,g.run,g.lev,g.pref]
def _root_.Go.Proofs.YtenkdioaefckoaaGreatDoor.Nod.il(x:Nod):ax:=[x.p+1,x.w,x.n.a,x.n.b,x.n.c,x.b.a,x.b.b,x.b.c,x.l.a,x.l.b,x.l.c]
def _root_.Go.Proofs.YtenkdioaefckoaaGreatDoor.Hos.il(x:Hos):ax:=[x.f,x.b,x.r,x.c.a,x.c.b,x.c.c]
def nodL:bf->ax
 | []=>[]
 | x::r=>x.il++nodL r
def hosL:List Hos->ax
 | []=>[]
 | x::r=>x.il++hosL r
def _root_.Go.Proofs.YtenkdioaefckoaaGreatDoor.Con.il(c:Con):ax:=[(Z (nav c.ns):Int)]++nodL c.ns++([(Z (hav c.hs):Int)]++hosL c.hs++[c.half,c.age])
def _root_.Go.Proofs.YtenkdioaefckoaaGreatDoor.Cmd.il(x:Cmd):ax:=x.k::(if x.k==1 then x.c.il else if x.k==2 then x.g.il else if x.k==6 then[]else[x.n])
def W7{v:V3}(h:okI v.l=O):(0<=v.a/\v.a<=1099511627776)/\(0<=v.b/\v.b<=1099511627776)/\(0<=v.c/\v.c<=1099511627776):=
 ⟨okI_b h _ (by simp[V3.l]),okI_b h _ (by simp[V3.l]),okI_b h _ (by simp[V3.l])⟩
abbrev wrO(bs:ay)(g:Nat):aw:=[Do tWr [G2 0 0,CA 1 (bs.map ub) (.own 1 g)],Fr g 1 5]
def Q3(xs:az):ar 174 [G2 0 0] [Do tWr [G2 0 0,CA 1 xs (.own 1 0)],Fr 0 1 5] (Io (GT [])) [Do tWr [G2 0 0,CA 1 xs (.own 1 0)],Fr 0 1 5]:=by
 refine eA E f174 2 λ_=>?_
 repeat' first|refine pA ?_|exact rfl|refine lA ?_ ?_|intro h
 exact zx [0,1]
def AA(s:ay)(hs:Z s<=1000):ar 112 [G2 0 0,HA s] [Do tWr [By,CA 1 [] .nil]] (Io (GT [ii (Z s),.nilif])) (wrO s 0):=by exact zqca14
def ws_ok(bs s:ay)(hs:Z bs+Z s<=1000000):ar 112 [G2 0 0,HA s] (wrO bs 0) (Io (GT [ii (Z s),.nilif])) (wrO (bs++s) 1):=by exact zqca10
noncomputable abbrev VH:Func:=f166
def CZ(l:ax)(hl:Gf (Z (iv l)))(q:∀n∈l,n<=9223372036854775807)(B:ay)(m:Nat)(o:10*Z l<=1000):∀(n i g:Nat) (bs:ay),i+n=Z l->(g=0\/g=1)->(n=0->g=m)->(0<n->m=1)->Z bs+10*n<=100000->bs++pl (l.drop i)=B->
  To E VH (.full 2 (Io (GT [])) (wrO B m)) (BV VH [(0,G2 0 0),(6,CA 1 (iv l) J0),(7,GE Is (Z (iv l):Nat)),(8,GE Is i)] (wrO bs g)):=by
 have t:Z (iv l)=Z l:=by simp
 intro n;induction n with
 | zero=>
  exact zqca13
 | succ n p=>
  intro i g bs s f _ k d a;have r:=k o_;subst r;have b:i<Z l:=o_;rw[Ac b]at a;have c:=q l[i] (Aq b);generalize u:l[i]=x at a c;have a:bs++(putN x.toNat++pl (l.drop (i+1)))=B:=a;rw[<-Ag]at a;have get:(iv l)[i]? =X (ii x):=(cK b).trans (by rw[u]);have hp:=pn_len c;refine gV ?_;refine aT λh=>gV ?_;refine⟨i,rfl,gV ?_⟩;refine⟨_,get,gV ?_⟩;exact .p (put_ok x) zqca6
def nums_ok(l:ax)(i:l≠[])(c:∀n∈l,n<=9223372036854775807)(a:Z l<=100)(bs:ay)(d:Z bs+10*Z l<=100000):
  ar 166 [G2 0 0,CA 1 (iv l) J0] (wrO bs 0) (Io (GT [])) (wrO (bs++pl l) 1):=by
 have e:Z (iv l)=Z l:=by simp
 have b:0<Z l:=Dd.2 i;refine eA E f166 2 λ_=>?_;exact zqca32
def nums_fresh(k:Int)(a:k<=9223372036854775807):ar 166 [G2 0 0,CA 1 [ii k] J0] [Do tWr [By,CA 1 [] .nil]] (Io (GT [])) (wrO (putN k.toNat) 0):=by have hp:=pn_len a;refine eA E f166 1 λ_=>gV ?_;refine gV ?_;refine Aa (λ_=>?_) (λh=>bv (bm h) s_);refine gV ?_;refine⟨0,rfl,gV ?_⟩;refine⟨_,rfl,gV ?_⟩;refine .p (put_ok k) (gV ?_);refine .sole rfl (.eff [] [0] _ _ rfl (AA _ o_) ?_);exact zqca8
def v3_m{v:V3}(h:okI v.l=O):∀n∈v.l,n<=9223372036854775807:=λn a=>by have:=okI_b h n a;omega
def l3_m{a b c:Int}(h:okI [a,b,c]=O):∀n∈[a,b,c],n<=9223372036854775807:=λn d=>by have:=okI_b h n d;omega
def wK(v:V3)(h:okI v.l=O)(bs:ay)(a:Z bs<=90000):ar 237 [G2 0 0,He v.cs] (wrO bs 0) (Io (GT [])) (wrO (bs++pl v.l) 1):=by refine eA E f237 2 λ_=>gV ?_;refine⟨by decide,gV ?_⟩;refine .eff [2] [0,1] _ _ rfl (aA.strip (nums_ok v.l (by simp[V3.l]) (v3_m h) (by simp[V3.l]) bs (by simp[V3.l];omega))) ?_;exact zqca35
def gan_b{g:Gan}(h:g.ok=O):okI [g.id,g.ten,g.pods]=O/\okI g.need.l=O/\okI [g.run,g.lev,g.pref]=true:=by simp only[Gan.ok,okI,Af,Ii]at h⊢;obtain⟨⟨h1,d,h3,b,e,a⟩,c⟩:=h;exact⟨⟨h1,d,h3⟩,c,b,e,a⟩
def aFc(g:Gan)(h:g.ok=O)(bs:ay)(c:Z bs<=80000):ar 168 [G2 0 0,g.av] (wrO bs 0) (Io (GT [])) (wrO (bs++pl g.il) 1):=by
 obtain⟨h1,a,h3⟩:=gan_b h;have d:=pl_len (l3_m h1);have b:=pl_len (v3_m a);have e:bs++pl g.il=((bs++pl [g.id,g.ten,g.pods])++pl g.need.l)++pl [g.run,g.lev,g.pref]:=by rw[Ag,Ag,<-pl_append,<-pl_append];rfl
 rw[e];simp only[V3.l,Al,Bj]at d b;refine eA E f168 2 λ_=>gV ?_;refine .eff [] [0,1] _ _ rfl (aA.strip (nums_ok [g.id,g.ten,g.pods] s_ (l3_m h1) s_ bs q_)) (gV ?_);refine .eff [] [0,1] _ _ rfl (wK g.need a _ q_) (gV ?_);refine .eff [] [0,1] _ _ rfl (aA.strip (nums_ok [g.run,g.lev,g.pref] s_ (l3_m h3) s_ _ (by simp[V3.l];omega))) ?_;exact zqca35
def aBz{x:Nod}(h:x.ok=O):(-1<=x.p/\x.p<=1099511627776)/\(0<=x.w/\x.w<=1099511627776)/\okI x.n.l=O/\okI x.b.l=O/\okI x.l.l=true:=by simp only[Nod.ok,Af,bo]at h;obtain⟨⟨⟨⟨h1,c⟩,h3⟩,a⟩,d⟩:=h;exact⟨h1,okI_b c _ s_,h3,a,d⟩
def aBX{x:Hos}(h:x.ok=O):okI [x.f,x.b,x.r]=O/\okI x.c.l=true:=by simpa only[Hos.ok,Af]using h
def aCO{l:bf}(h:uL l=O):∀(i:Nat) (a:i<Z l),l[i].ok=true:=by
 induction l with
 | nil=>intro i a;simp at a
 | cons x r b=>
  simp only[uL,Af]at h;intro i a;cases i with
  | zero=>exact h.1
  | succ i=>exact b h.2 i (by simpa using a)
def aCP{l:List Hos}(h:nH l=O):∀(i:Nat) (a:i<Z l),l[i].ok=true:=by
 induction l with
 | nil=>intro i a;simp at a
 | cons x r b=>
  simp only[nH,Af]at h;intro i a;cases i with
  | zero=>exact h.1
  | succ i=>exact b h.2 i (by simpa using a)
theorem il_len(x:Nod)(h:x.ok=O):Z (pl x.il)<=110:=by
 obtain⟨h1,g,h3,b,c⟩:=aBz h
 have:=pl_len (l:=x.il) (λn a=>by
  simp only[Nod.il,Az,Ix,or_false]at a;have d:=W7 h3;have f:=W7 b;have e:=W7 c
  rcases a with rfl|rfl|rfl|rfl|rfl|rfl|rfl|rfl|rfl|rfl|rfl<;>omega)
 simpa[Nod.il]using this
theorem ih_len(x:Hos)(h:x.ok=O):Z (pl x.il)<=60:=by
 obtain⟨h1,d⟩:=aBX h
 have:=pl_len (l:=x.il) (λn c=>by
  simp only[Hos.il,Az,Ix,or_false]at c;have a:=okI_b h1;have j:=W7 d;have g:=a x.f s_;have e:=a x.b s_;have i:=a x.r s_
  rcases c with rfl|rfl|rfl|rfl|rfl|rfl<;>omega)
 simpa[Hos.il]using this
def aCT(c:Con)(z:(Z (hav c.hs):Int)<=24)(w:nH c.hs=O)(q:okI [c.half,c.age]=O)(B:ay):∀(n i:Nat) (bs:ay),i+n=Z c.hs->Z bs+60*n<=20000->bs++(pl (hosL (c.hs.drop i))++pl [c.half,c.age])=B->
  To E f167 (.full 2 (Io (GT [])) (wrO B 1)) (G0 (stk f167 1) [(0,G2 0 0),(3,G2 2 0),(49,CA 6 (hav c.hs) J0),(50,GE Is (Z (hav c.hs):Nat)),(51,GE Is i)] (wrO bs 1++[Do 30 c.cs])):=by
 have u:Z (hav c.hs)=Z c.hs:=by simp
 have hm:∀n∈[c.half,c.age],n<=9223372036854775807:=λn o=>by have:=okI_b q n o;omega
 intro n;induction n with
 | zero=>
  intro i bs p g a;rw[Ae o_]at a;have a:bs++pl [c.half,c.age]=B:=a;subst a;refine gV ?_;refine aF λh=>gV ?_;exact .eff [] [0,1] _ _ rfl (aA.strip (nums_ok [c.half,c.age] s_ hm s_ bs q_)) zqca35
 | succ n k=>
  intro i bs p g a;have d:i<Z c.hs:=o_;rw[Ac d]at a;have e:=aCP w i d;generalize v:c.hs[i]=x at a e;have a:bs++(pl (x.il++hosL (c.hs.drop (i+1)))++pl [c.half,c.age])=B:=a;obtain⟨h1,j⟩:=aBX e;have s:=pl_len (l3_m h1);have m:=pl_len (v3_m j);have y:=ih_len x e;simp only[V3.l,Al,Bj]at s m;have ex:bs++pl x.il=(bs++pl [x.f,x.b,x.r])++pl x.c.l:=by rw[Ag,<-pl_append];rfl
  rw[pl_append,Ag,<-Ag,ex]at a;have get:(hav c.hs)[i]? =X x.av:=(nC d).trans (by rw[v]);refine gV ?_;refine aT λh=>gV ?_;refine⟨i,rfl,gV ?_⟩;refine⟨_,get,gV ?_⟩;refine .eff [] [0,1] _ _ rfl (aA.strip (nums_ok [x.f,x.b,x.r] s_ (l3_m h1) s_ bs q_)) (gV ?_);refine .eff [] [0,1] _ _ rfl (wK x.c j _ q_) (gV ?_);refine aJ (gV ?_);refine To.part [0,3,49,50,51] [0,1,2] rfl rfl rfl ?_;exact k (i+1) _ o_ (by rw[<-ex];simp;omega) a
def aCR(c:Con)(g:(Z (nav c.ns):Int)<=12)(C:(Z (hav c.hs):Int)<=24)(j:uL c.ns=O)(G:nH c.hs=O)(A:okI [c.half,c.age]=O)(B:ay):∀(n i:Nat) (bs:ay),i+n=Z c.ns->Z bs+110*n<=10000->
  bs++(pl (nodL (c.ns.drop i))++(pl [(Z (hav c.hs):Int)]++(pl (hosL c.hs)++pl [c.half,c.age])))=B->
  To E f167 (.full 2 (Io (GT [])) (wrO B 1)) (BV f167 [(0,G2 0 0),(3,G2 2 0),(15,CA 11 (nav c.ns) J0),(16,GE Is (Z (nav c.ns):Nat)),(17,GE Is i)] (wrO bs 1++[Do 30 c.cs])):=by
 have Be:Z (nav c.ns)=Z c.ns:=by simp
 have y:Z (hav c.hs)=Z c.hs:=by simp
 intro n;induction n with
 | zero=>
  intro i bs z k a;rw[Ae o_]at a;have a:bs++(pl [(Z (hav c.hs):Int)]++(pl (hosL c.hs)++pl [c.half,c.age]))=B:=a;rw[<-Ag]at a;have f:∀n∈[(Z (hav c.hs):Int)],n<=9223372036854775807:=λn g=>by simp at g;omega
  have m:=pl_len f;simp only[Al,Bj]at m;refine gV ?_;refine aF λh=>gV ?_;refine .eff [] [0,1] _ _ rfl (aA.strip (nums_ok [(Z (hav c.hs):Int)] s_ f s_ bs q_)) (gV ?_);refine To.part [0,3,49,50,51] [0,1,2] rfl rfl rfl ?_;exact aCT c C G A B (Z c.hs) 0 _ o_ (by simp only[Ah];omega) a
 | succ n r=>
  intro i bs z k a;have d:i<Z c.ns:=o_;rw[Ac d]at a;have e:=aCO j i d;generalize F:c.ns[i]=x at a e;have a:bs++(pl (x.il++nodL (c.ns.drop (i+1)))++_)=B:=a;obtain⟨h1,I,h3,o,q⟩:=aBz e;have hm:∀n∈[x.p+1,x.w],n<=9223372036854775807:=λn g=>by simp at g;omega
  have m:=pl_len hm;have s:=pl_len (v3_m h3);have u:=pl_len (v3_m o);have v:=pl_len (v3_m q);have H:=il_len x e;simp only[V3.l,Al,Bj]at m s u v;have ex:bs++pl x.il=(((bs++pl [x.p+1,x.w])++pl x.n.l)++pl x.b.l)++pl x.l.l:=by rw[Ag,Ag,Ag,<-pl_append,<-pl_append,<-pl_append];rfl
  rw[pl_append,Ag,<-Ag,ex]at a;have get:(nav c.ns)[i]? =X x.av:=(fL d).trans (by rw[F]);refine gV ?_;refine aT λh=>gV ?_;refine⟨i,rfl,gV ?_⟩;refine⟨_,get,gV ?_⟩;refine aJ (gV ?_);refine .eff [] [0,1] _ _ rfl (aA.strip (nums_ok [x.p+1,x.w] s_ hm s_ bs q_)) (gV ?_);refine .eff [] [0,1] _ _ rfl (wK x.n h3 _ q_) (gV ?_);refine .eff [] [0,1] _ _ rfl (wK x.b o _ (by simp[V3.l];omega)) ?_;refine gV ?_;refine .eff [] [0,1] _ _ rfl (wK x.l q _ (by simp[V3.l];omega)) ?_;refine gV ?_;refine aJ (gV ?_);refine To.part [0,3,15,16,17] [0,1,2] rfl rfl rfl ?_;exact r (i+1) _ o_ (by rw[<-ex];simp;omega) a
def aFd(c:Con)(b:(Z (nav c.ns):Int)<=12)(h:(Z (hav c.hs):Int)<=24)(d:c.tok=O)(bs:ay)(e:Z bs<=100):
  ar 167 [G2 0 0,c.av] (wrO bs 0) (Io (GT [])) (wrO (bs++pl c.il) 1):=by
 have k:Z (nav c.ns)=Z c.ns:=by simp
 simp only[Con.tok,Af]at d;obtain⟨⟨h1,j⟩,h3⟩:=d;have a:∀n∈[(Z (nav c.ns):Int)],n<=9223372036854775807:=λn b=>by simp at b;omega
 have i:=pl_len a;simp only[Al,Bj]at i;refine eA E f167 2 λ_=>gV ?_;refine .eff [] [0,1] _ _ rfl (aA.strip (nums_ok [(Z (nav c.ns):Int)] s_ a s_ bs q_)) (gV ?_);refine To.part [0,3,15,16,17] [0,1,2] rfl rfl rfl ?_;exact aCR c b h h1 j h3 _ (Z c.ns) 0 _ o_ (by simp only[Ah];omega) (by simp only[Con.il,pl_append,Ag,Ca])
structure Told(x:Cmd):Prop where
 k:1<=x.k/\x.k<=6
 c:x.k=1\/x.c.non=O
 g:x.k=2\/x.g.isZ=O
 n:(x.k=3\/x.k=4\/x.k=5)\/x.n=0
 cok:x.c.tok=O
 gok:x.g.ok=O
 nok:0<=x.n/\x.n<=1099511627776
 ln:(Z (nav x.c.ns):Int)<=12
 lh:(Z (hav x.c.hs):Int)<=24
def sX{b:Bool}{y:Int}(h:(if b then y else 1)=0):b=O/\y=0:=by
 cases b with
 | true=>exact⟨rfl,h⟩
 | false=>cases h
def chk_told{x:Cmd}(h:chk x=0):Told x:=by
 unfold chk at h;obtain⟨h1,h⟩:=sX h;unfold chk2 at h;obtain⟨h2,h⟩:=sX h;unfold chk3 at h;obtain⟨h3,h⟩:=sX h;unfold chk4 at h;obtain⟨h4,h⟩:=sX h;unfold chkC at h;obtain⟨h5,h⟩:=sX h;unfold chkG at h;obtain⟨h6,h⟩:=sX h;unfold chkN at h;obtain⟨h7,h⟩:=sX h;unfold chkL at h;simp only[Af,Fo,bo,beq_iff_eq]at h1 h2 h3 h4;have h8:decide ((Z (nav x.c.ns):Int)<=12)=O/\decide ((Z (hav x.c.hs):Int)<=24)=true:=by
  split at h
  .rename_i hh;simpa using hh
  .cases h
 exact⟨h1,h2,h3,by
                    rcases h4 with((h4|h4)|h4)|h4
                    .exact .inl (.inl h4)
                    .exact .inl (.inr (.inl h4))
                    .exact .inl (.inr (.inr h4))
                    .exact .inr h4,h5,h6,okI_b h7 _ s_,bn h8.1,bn h8.2⟩
def encB(x:Cmd):ay:=if chk x=0 then pl x.il else[]
def pl_ne(k:Int)(r:ax):pl (k::r)≠[]:=by
 have:1<=Z (putN k.toNat):=by rw[putN];split<;>simp
 intro h;have h1:Z (pl (k::r))=0:=by rw[h];rfl
 simp only[pl,Ah]at h1;omega
def il_cons(x:Cmd)(r:ax)(h:(if x.k==1 then x.c.il else if x.k==2 then x.g.il else if x.k==6 then[]else[x.n])=r):putN x.k.toNat++pl r=pl x.il:=by subst h;rfl
def enc_ok(x:Cmd):bj 106 [x.av] (GT [HA (encB x),ii (chk x)]):=by
 refine c_ f106 λ_=>gV ?_;refine .p (check_ok x) (gV ?_);refine⟨λh=>?_,λh=>?_⟩
 .have h:(chk x !=0)=true:=h;have m:¬ chk x=0:=by simpa using h
  have e:encB x=[]:=bt m;rw[e];refine gW hE ?_;conv=>whnf
 .have h:(chk x !=0)=false:=h;have m:chk x=0:=by simpa using h
  have e:encB x=pl x.il:=bu m;rw[e,m];have T:=chk_told m;have o:x.k<=9223372036854775807:=by have:=T.k;omega
  have hp:=pn_len o;refine gV ?_;refine .eff [] [1] _ _ rfl (aA.strip (nums_fresh x.k o)) (gV ?_);refine Aa (λh1=>?_) (λh1=>?_)
  .have h1:(x.k==1)=true:=h1;have il:=il_cons x x.c.il (by rw[h1];rfl);have a:putN x.k.toNat++pl x.c.il≠[]:=by rw[il];exact pl_ne _ _
   refine gV ?_;exact .eff [] [1,2] _ _ rfl (aFd x.c T.ln T.lh T.cok _ o_) zqca28
  .have h1:(x.k==1)=false:=h1;refine gV ?_;refine Aa (λb=>?_) (λb=>?_)
   .have b:(x.k==2)=true:=b;have il:=il_cons x x.g.il (by rw[h1,b];rfl);have a:putN x.k.toNat++pl x.g.il≠[]:=by rw[il];exact pl_ne _ _
    refine gV ?_;exact .eff [] [1,2] _ _ rfl (aFc x.g T.gok _ o_) zqca28
   .have b:(x.k==2)=false:=b;have l:∀n∈[x.n],n<=9223372036854775807:=λn l=>by have:=T.nok;simp at l;omega
    refine gV ?_;refine Aa (λh3=>?_) (λh3=>?_)
    .have h3:(x.k==3)=true:=h3;have j:(x.k==6)=false:=by have:=eq_of_beq h3;rw[this];rfl
     refine gV ?_;refine Aa (λ_=>?_) (λh=>bv (h3.symm.trans h) d_);exact zqca3
    .have h3:(x.k==3)=false:=h3;refine gV ?_;refine Aa (λd=>?_) (λd=>?_)
     .have d:(x.k==4)=true:=d;have j:(x.k==6)=false:=by have:=eq_of_beq d;rw[this];rfl
      refine gV ?_;refine Aa (λ_=>?_) (λh=>bv (d.symm.trans h) d_);exact zqca3
     .have d:(x.k==4)=false:=d;refine gV ?_;refine Aa (λi=>?_) (λi=>?_)
      .have i:(x.k==5)=true:=i;have j:(x.k==6)=false:=by have:=eq_of_beq i;rw[this];rfl
       exact zqca3
      .have i:(x.k==5)=false:=i;have j:(x.k==6)=true:=by have:=T.k;simp at h1 b h3 d i⊢;omega
       have il:=il_cons x [] (by rw[h1,b,j];rfl);rw[show putN x.k.toNat++pl []=putN x.k.toNat from Ao _]at il;have a:putN x.k.toNat≠[]:=by rw[il];exact pl_ne _ _
       exact zqca28
def aIs(l:ay):∀(f i a:Nat) (rest:ay),i+f=9->rest=l.drop i->i<=Z l->a<2 ^ (7*i)->
  DE E f260 (aSE (aH f i a rest)) [(0,HA l),(5,GE Is a),(10,GE Is (min (Z l:Int) 9)),(11,GE Is i)] []:=by
 intro f;induction f with
 | zero=>
  intro i a rest w g hl n;refine gV ?_;refine aF λh=>gV ?_;rfl
 | succ f s=>
  intro i a rest w g hl n;cases rest with
  | nil=>
   have x:Z l<=i:=by simpa using g.symm
   refine gV ?_;refine aF λh=>gV ?_;rfl
  | cons c r=>
   have q:l[i]? =X c:=by
    have:(l.drop i)[0]? =X c:=by rw[<-g];rfl
    simpa using this
   have u:i<Z l:=(List.getElem?_eq_some_iff.1 q).1;have m:r=l.drop (i+1):=by rw[<-List.drop_drop,<-g];rfl
   have z:2 ^ (7*(i+1))=128*2 ^ (7*i):=by rw[Hb,Fc];omega
   have h3:c.toNat % 128<=127:=o_;have y:(c.toNat % 128)*2 ^ (7*i)<=127*2 ^ (7*i):=Bu _ h3;have B:2 ^ (7*(i+1))<=2 ^ 63:=Ep d_ o_;have t:c.toNat<256:=c.toNat_lt;have j:dL .and .u8 (c.toNat:Int) 127=((c.toNat % 128:Nat):Int):=by have:=xO .u8 c.toNat 127 (by simp only[aX];omega) d_;rw[show(127:Nat)=2 ^ 7-1 from rfl,aOi]at this;exact this
   have k:(7*(i:Int)).toNat=7*i:=o_;have p:((c.toNat % 128:Nat):Int)*2 ^ (7*i)=((c.toNat % 128*2 ^ (7*i):Nat):Int):=by simp
   have v:dL .or Is (a:Int) ((c.toNat % 128*2 ^ (7*i):Nat):Int)=((a+c.toNat % 128*2 ^ (7*i):Nat):Int):=by rw[oP Is _ _ (by simp only[aX];omega) (by simp only[aX];omega),YV n]
   refine gV ?_;refine aT λh=>gV ?_;refine⟨i,rfl,gV ?_⟩;refine⟨c,q,gV ?_⟩;refine .inl ⟨by rw[j];exact lS (by simp only[aX];omega),?_⟩;refine gV ?_;refine aJ (gV ?_);refine⟨by omega,gV ?_⟩;refine .inl ⟨⟨by rw[k];simp only[IntKind.bits];omega,by rw[j,k,p];exact lS (by simp only[aX];omega)⟩,?_⟩;refine gV ?_;rw[j,k,p,v];refine⟨λh=>?_,λh=>?_⟩
   .have b:c.toNat<128:=by have:=bn h;omega
    have o:¬ (c.toNat=0/\0<i)->aH (f+1) i a (c::r)=X (a+(c.toNat % 128)*2 ^ (7*i),i+1):=λhz=>by rw[aH,bu b,bt hz]
    refine gV ?_;refine Aa (λhz=>?_) (λhz=>?_)
    .have hz:c.toNat=0:=by have hz:((c.toNat:Int)==0)=true:=hz;have:=eq_of_beq hz;omega
     refine gV ?_;refine Aa (λd=>?_) (λd=>?_)
     .have d:0<i:=by have:=bn d;omega
      refine gV ?_;rw[aH,bu b,bu ⟨hz,d⟩];rfl
     .have d:¬ 0<i:=by have:=bm d;omega
      rw[o o_];refine gV ?_;refine aJ (gV ?_);rfl
    .have hz:¬ c.toNat=0:=by have hz:((c.toNat:Int)==0)=false:=hz;intro e;rw[e]at hz;cases hz
     rw[o o_];refine gV ?_;refine aN (gV ?_);refine aJ (gV ?_);rfl
   .have b:¬ c.toNat<128:=by have:=bm h;omega
    rw[aH,bt b];refine gV ?_;refine aJ (gV ?_);refine To.head [0,5,10,11] ?_;exact s (i+1) (a+(c.toNat % 128)*2 ^ (7*i)) r o_ m o_ o_
def aIr(l:ay):bj 260 [HA l] (aSE (dP l)):=by refine c_ f260 λ_=>gV ?_;refine To.head [0,5,10,11] ?_;exact aIs l 9 0 0 l rfl rfl (Bq _) d_
def aU{α:Type}{o:Option α}{C:Prop}(a:o=D->C)(h1:∀x,o=X x->C):C:=by
 cases o with
 | none=>exact a rfl
 | some x=>exact h1 x rfl
abbrev tRd:TypeId:=278
abbrev rdO(s:ay):aw:=[Do tRd [HA s]]
abbrev rdU:aw:=[Do tRd [.undef]]
def bX(s:ay):Option (Int×ay):=match dP s with
 | some (n,k)=>X ((n:Int),s.drop k)
 | none=>D
def qV{α:Type}(av:α->aa):Option (α×ay)->Res
 | some (a,_)=>.ret (av a)
 | none=>.pan (bF 10)
def CY{α:Type}:Option (α×ay)->aw
 | some (_,s)=>rdO s
 | none=>rdU
def bP{s s':ay}{n:Int}(h:bX s=X (n,s')):ar 194 [G2 0 0] (rdO s) (Io (ii n)) (rdO s'):=by
 unfold bX at h;split at h
 .rename_i m k b;cases h;have a:=aIr s;rw[b]at a;have c:=aB2 b;refine eA E f194 1 λ_=>gV ?_;refine .p a (gV ?_);refine .p (gM _ _ rfl) (gV ?_);refine⟨k,rfl,gV ?_⟩;refine⟨by omega,gV ?_⟩;exact zx [0]
 .cases h
def bY{s:ay}(h:bX s=D):ar 194 [G2 0 0] (rdO s) (.pan (bF 10)) rdU:=by
 unfold bX at h;split at h
 .cases h
 .rename_i b;have a:=aIr s;rw[b]at a;refine aA.blur (ap:=rdO s) ?_;refine eA E f194 1 λ_=>gV ?_;refine .p a (gV ?_);refine .pan _ (dY _ _ rfl) ?_;exact zx [0]
def eD(s:ay):Option (Int×ay):=match bX s with
 | some (n,s')=>if decide (n<=(Z s':Int))then X (n,s')else D
 | none=>D
def oW{s s':ay}{n:Int}(h:eD s=X (n,s')):ar 261 [G2 0 0] (rdO s) (Io (ii n)) (rdO s'):=by
 unfold eD at h;split at h
 .rename_i m c b;split at h
  .rename_i a;cases h;refine eA E f261 1 λ_=>gV ?_;refine .eff [] [0] _ _ rfl (bP b) (gV ?_);refine .p (gM _ _ a) (gV ?_);exact zx [0]
  .cases h
 .cases h
def lF{s:ay}(h:eD s=D):ar 261 [G2 0 0] (rdO s) (.pan (bF 10)) rdU:=by
 unfold eD at h;split at h
 .rename_i m b a;split at h
  .cases h
  .rename_i c;refine aA.blur (ap:=rdO b) ?_;refine eA E f261 1 λ_=>gV ?_;refine .eff [] [0] _ _ rfl (bP a) (gV ?_);refine .pan _ (dY _ _ (by simpa using c)) ?_;exact zx [0]
 .rename_i a;refine eA E f261 1 λ_=>gV ?_;refine .effp [] [0] _ _ rfl (bY a) ?_;exact zx [0]
def sM(s:ay):Option (V3×ay):=match bX s with
 | none=>D
 | some (a,s)=>match bX s with
  | none=>D
  | some (b,s)=>match bX s with
   | none=>D
   | some (c,s)=>X (⟨a,b,c⟩,s)
def aAE(s:ay)(r:Res)(As:aw)(e:qV (λv:V3=>He v.cs) (sM s)=r)(d:CY (sM s)=As):ar 262 [G2 0 0] (rdO s) r As:=by
 unfold sM at e d;refine eA E f262 1 λ_=>gV ?_;refine gV ?_;refine aY (gV ?_);refine aU (o:=bX s) (λh1=>?_) (λ⟨a,i⟩ h1=>?_)
 .simp only[h1]at e d;have e:Res.pan (bF 10)=r:=e;have d:rdU=As:=d;subst e d;exact zqca22
 simp only[h1]at e d;refine .eff [] [0] _ _ rfl (bP h1) (gV ?_);refine⟨⟨by decide,by decide⟩,gV ?_⟩;refine aJ (gV ?_);refine gV ?_;refine aY (gV ?_);refine aU (o:=bX i) (λh=>?_) (λ⟨b,j⟩ h=>?_)
 .simp only[h]at e d;have e:Res.pan (bF 10)=r:=e;have d:rdU=As:=d;subst e d;refine .effp [] [0] _ _ rfl (bY h) ?_;exact zx [0]
 simp only[h]at e d;refine .eff [] [0] _ _ rfl (bP h) (gV ?_);refine⟨⟨by decide,by decide⟩,gV ?_⟩;refine aJ (gV ?_);refine gV ?_;refine aY (gV ?_);refine aU (o:=bX j) (λh3=>?_) (λ⟨c,k⟩ h3=>?_)
 .simp only[h3]at e d;have e:Res.pan (bF 10)=r:=e;have d:rdU=As:=d;subst e d;exact zqca21
 simp only[h3]at e d;refine .eff [] [0] _ _ rfl (bP h3) (gV ?_);refine⟨⟨by decide,by decide⟩,gV ?_⟩;refine aJ (gV ?_);refine gV ?_;refine aN (gV ?_);subst e d;exact zqca9
def AJ{s s':ay}{v:V3}(h:sM s=X (v,s')):ar 262 [G2 0 0] (rdO s) (Io (He v.cs)) (rdO s'):=aAE s _ _ (by rw[h];rfl) (by rw[h];rfl)
def AK{s:ay}(h:sM s=D):ar 262 [G2 0 0] (rdO s) (.pan (bF 10)) rdU:=aAE s _ _ (by rw[h];rfl) (by rw[h];rfl)
def rGan(s:ay):Option (Gan×ay):=match bX s with
 | none=>D
 | some (a,s)=>match bX s with
  | none=>D
  | some (b,s)=>match bX s with
   | none=>D
   | some (c,s)=>match sM s with
    | none=>D
    | some (v,s)=>match bX s with
         | none=>D
         | some (d,s)=>match bX s with
          | none=>D
          | some (e,s)=>match bX s with
           | none=>D
           | some (f,s)=>X (⟨a,b,c,v,d,e,f⟩,s)
def SO(s:ay)(r:Res)(As:aw)(i:qV Gan.av (rGan s)=r)(h:CY (rGan s)=As):ar 196 [G2 0 0] (rdO s) r As:=by
 unfold rGan at i h;refine eA E f196 1 λ_=>gV ?_;refine aU (o:=bX s) (λh1=>?_) (λ⟨a,p⟩ h1=>?_)
 .simp only[h1]at i h;have i:Res.pan (bF 10)=r:=i;have h:rdU=As:=h;subst i h;exact zqca22
 simp only[h1]at i h;refine .eff [] [0] _ _ rfl (bP h1) (gV ?_);refine aU (o:=bX p) (λl=>?_) (λ⟨b,q⟩ l=>?_)
 .simp only[l]at i h;have i:Res.pan (bF 10)=r:=i;have h:rdU=As:=h;subst i h;exact zqca49
 simp only[l]at i h;refine .eff [] [0] _ _ rfl (bP l) (gV ?_);refine aU (o:=bX q) (λh3=>?_) (λ⟨c,w⟩ h3=>?_)
 .simp only[h3]at i h;have i:Res.pan (bF 10)=r:=i;have h:rdU=As:=h;subst i h;exact zqca21
 simp only[h3]at i h;refine .eff [] [0] _ _ rfl (bP h3) (gV ?_);refine aU (o:=sM w) (λj=>?_) (λ⟨v,x⟩ j=>?_)
 .simp only[j]at i h;have i:Res.pan (bF 10)=r:=i;have h:rdU=As:=h;subst i h;exact zqca50
 simp only[j]at i h;refine .eff [] [0] _ _ rfl (AJ j) (gV ?_);refine aU (o:=bX x) (λm=>?_) (λ⟨d,t⟩ m=>?_)
 .simp only[m]at i h;have i:Res.pan (bF 10)=r:=i;have h:rdU=As:=h;subst i h;refine .effp [] [0] _ _ rfl (bY m) ?_;exact zx [0]
 simp only[m]at i h;refine .eff [] [0] _ _ rfl (bP m) (gV ?_);refine aU (o:=bX t) (λn=>?_) (λ⟨e,u⟩ n=>?_)
 .simp only[n]at i h;have i:Res.pan (bF 10)=r:=i;have h:rdU=As:=h;subst i h;refine .effp [] [0] _ _ rfl (bY n) ?_;exact zx [0]
 simp only[n]at i h;refine .eff [] [0] _ _ rfl (bP n) (gV ?_);refine aU (o:=bX u) (λk=>?_) (λ⟨f,y⟩ k=>?_)
 .simp only[k]at i h;have i:Res.pan (bF 10)=r:=i;have h:rdU=As:=h;subst i h;refine .effp [] [0] _ _ rfl (bY k) ?_;exact zx [0]
 simp only[k]at i h;refine .eff [] [0] _ _ rfl (bP k) (gV ?_);subst i h;exact zqca9
def FI{s s':ay}{v:Gan}(h:rGan s=X (v,s')):ar 196 [G2 0 0] (rdO s) (Io v.av) (rdO s'):=SO s _ _ (by rw[h];rfl) (by rw[h];rfl)
def A5{s:ay}(h:rGan s=D):ar 196 [G2 0 0] (rdO s) (.pan (bF 10)) rdU:=SO s _ _ (by rw[h];rfl) (by rw[h];rfl)
def cA{s s':ay}{n:Int}(h:bX s=X (n,s')):0<=n/\n<=9223372036854775807/\Z s'+1<=Z s:=by
 unfold bX at h;split at h
 .rename_i m k a;cases h;have:=aB2 a;simp only[Dt];omega
 .cases h
def fO{s s':ay}{n:Int}(h:eD s=X (n,s')):0<=n/\n<=9223372036854775807/\Z s'+1<=Z s/\n<=Z s':=by
 unfold eD at h;split at h
 .rename_i m c b;split at h
  .rename_i a;cases h;have:=cA b;have:=bn a;omega
  .cases h
 .cases h
def rVec_b{s s':ay}{v:V3}(h:sM s=X (v,s')):Z s'+1<=Z s:=by
 unfold sM at h;split at h
 .cases h
 .rename_i h1;split at h
  .cases h
  .rename_i a;split at h
   .cases h
   .rename_i h3;cases h;have:=cA h1;have:=cA a;have:=cA h3;omega
def aLz(s:ay):Option (Nod×ay):=match bX s with
 | none=>D
 | some (p,s)=>match bX s with
  | none=>D
  | some (w,s)=>match sM s with
   | none=>D
   | some (a,s)=>match sM s with
    | none=>D
    | some (b,s)=>match sM s with
         | none=>D
         | some (c,s)=>X (⟨p-1,w,a,b,c⟩,s)
def A9(s:ay):Option (Hos×ay):=match bX s with
 | none=>D
 | some (f,s)=>match bX s with
  | none=>D
  | some (b,s)=>match bX s with
   | none=>D
   | some (r,s)=>match sM s with
    | none=>D
    | some (c,s)=>X (⟨f,b,r,c⟩,s)
def aLA(ns:bf)(hs:List Hos)(s:ay):Option (Con×ay):=match bX s with
 | none=>D
 | some (a,s)=>match bX s with
  | none=>D
  | some (b,s)=>X (⟨ns,hs,a,b⟩,s)
def rH(ns:bf):Nat->List Hos->ay->Option (Con×ay)
 | 0,hs,s=>aLA ns hs s
 | m+1,hs,s=>match A9 s with
  | none=>D
  | some (x,s)=>rH ns m (hs++[x]) s
def rHs(ns:bf)(s:ay):Option (Con×ay):=match eD s with
 | none=>D
 | some (n,s)=>rH ns n.toNat [] s
def rN:Nat->bf->ay->Option (Con×ay)
 | 0,ns,s=>rHs ns s
 | m+1,ns,s=>match aLz s with
  | none=>D
  | some (x,s)=>rN m (ns++[x]) s
def KN(s:ay):Option (Con×ay):=match eD s with
 | none=>D
 | some (n,s)=>rN n.toNat [] s
def aG2(ns:bf)(n:Int)(z:n<=9223372036854775807)(r:Res)(As:aw):∀(m i:Nat) (s:ay) (hs:List Hos),(i+m:Int)=n->Z hs+Z s<=1000000000->qV Con.av (rH ns m hs s)=r->CY (rH ns m hs s)=As->
  To E f195 (.full 1 r As) (G0 (stk f195 1) [(0,G2 0 0),(2,G2 1 0),(32,GE Is n),(33,GE Is i)] [Do tRd [HA s],Do 30 [CA 11 (nav ns) J0,CA 6 (hav hs) (.own 2 0),ii 0,ii 0],Fr 0 6 132]):=by
 intro m;induction m with
 | zero=>
  intro i s hs u hl f d;unfold rH aLA at f d;refine gV ?_;refine aF λh=>gV ?_;refine aU (o:=bX s) (λh1=>?_) (λ⟨a,k⟩ h1=>?_)
  .exact zqca45
  simp only[h1]at f d;refine .eff [] [0] _ _ rfl (bP h1) (gV ?_);refine aU (o:=bX k) (λg=>?_) (λ⟨b,l⟩ g=>?_)
  .exact zqca34
  simp only[g]at f d;refine .eff [] [0] _ _ rfl (bP g) (gV ?_);subst f d;exact zqca9
 | succ m q=>
  intro i s hs u hl f d;unfold rH A9 at f d;have p:Z (hav hs)=Z hs:=by simp
  refine gV ?_;refine aT λh=>gV ?_;refine aU (o:=bX s) (λh1=>?_) (λ⟨a,k⟩ h1=>?_)
  .exact zqca45
  simp only[h1]at f d;refine .eff [] [0] _ _ rfl (bP h1) (gV ?_);refine aU (o:=bX k) (λg=>?_) (λ⟨b,l⟩ g=>?_)
  .exact zqca34
  simp only[g]at f d;refine .eff [] [0] _ _ rfl (bP g) (gV ?_);refine aU (o:=bX l) (λh3=>?_) (λ⟨c,w⟩ h3=>?_)
  .simp only[h3]at f d;have f:Res.pan (bF 10)=r:=f;have d:rdU=As:=d;subst f d;exact zqca21
  simp only[h3]at f d;refine .eff [] [0] _ _ rfl (bP h3) (gV ?_);refine aU (o:=sM w) (λj=>?_) (λ⟨v,x⟩ j=>?_)
  .simp only[j]at f d;have f:Res.pan (bF 10)=r:=f;have d:rdU=As:=d;subst f d;exact zqca50
  simp only[j]at f d;refine .eff [] [0] _ _ rfl (AJ j) (gV ?_);have C:=cA h1;have B:=cA g;have A:=cA h3;have y:=rVec_b j;refine Aa ⟨by simp only[maxLen];simp;omega,by simp;omega⟩ ?_;refine gV ?_;refine aJ (gV ?_);refine To.part [0,2,32,33] [0,1,2] rfl rfl rfl ?_;have next:=q (i+1) x (hs++[⟨a,b,c,v⟩]) o_ q_ f d
  have e:hav (hs++[⟨a,b,c,v⟩])=hav hs++[Hos.av ⟨a,b,c,v⟩]:=by simp
  rw[e]at next
  exact next
def aGZ(n:Int)(F:n<=9223372036854775807)(r:Res)(As:aw):∀(m i:Nat) (s:ay) (ns:bf),(i+m:Int)=n->Z ns+Z s<=1000000000->qV Con.av (rN m ns s)=r->CY (rN m ns s)=As->
  To E f195 (.full 1 r As) (BV f195 [(0,G2 0 0),(2,G2 1 0),(6,GE Is n),(7,GE Is i)] [Do tRd [HA s],Do 30 [CA 11 (nav ns) (.own 2 0),CA 6 [] .nil,ii 0,ii 0],Fr 0 11 130]):=by
 intro m;induction m with
 | zero=>
  intro i s ns y hl g f;unfold rN rHs at g f;refine gV ?_;refine aF λh=>gV ?_;refine aU (o:=eD s) (λh1=>?_) (λ⟨k,q⟩ h1=>?_)
  .simp only[h1]at g f;have g:Res.pan (bF 10)=r:=g;have f:rdU=As:=f;subst g f;refine .effp [] [0] _ _ rfl (lF h1) ?_;exact zx [0]
  simp only[h1]at g f;refine .eff [] [0] _ _ rfl (oW h1) (gV ?_);have z:=fO h1;refine To.part [0,2,32,33] [0,1] rfl rfl rfl ?_;refine To.begin 1 1 132 rfl rfl ?_;exact aG2 ns k o_ r As k.toNat 0 q [] o_ q_ g f
 | succ m v=>
  intro i s ns y hl g f;unfold rN aLz at g f;have u:Z (nav ns)=Z ns:=by simp
  refine gV ?_;refine aT λh=>gV ?_;refine aU (o:=bX s) (λh1=>?_) (λ⟨a,q⟩ h1=>?_)
  .simp only[h1]at g f;have g:Res.pan (bF 10)=r:=g;have f:rdU=As:=f;subst g f;exact zqca22
  simp only[h1]at g f;refine .eff [] [0] _ _ rfl (bP h1) (gV ?_);have z:=cA h1;refine aJ (gV ?_);refine aU (o:=bX q) (λl=>?_) (λ⟨b,w⟩ l=>?_)
  .simp only[l]at g f;have g:Res.pan (bF 10)=r:=g;have f:rdU=As:=f;subst g f;exact zqca49
  simp only[l]at g f;refine .eff [] [0] _ _ rfl (bP l) (gV ?_);refine aU (o:=sM w) (λh3=>?_) (λ⟨c,A⟩ h3=>?_)
  .simp only[h3]at g f;have g:Res.pan (bF 10)=r:=g;have f:rdU=As:=f;subst g f;refine .effp [] [0] _ _ rfl (AK h3) ?_;exact zx [0]
  simp only[h3]at g f;refine .eff [] [0] _ _ rfl (AJ h3) (gV ?_);refine aU (o:=sM A) (λj=>?_) (λ⟨d,B⟩ j=>?_)
  .simp only[j]at g f;have g:Res.pan (bF 10)=r:=g;have f:rdU=As:=f;subst g f;exact zqca50
  simp only[j]at g f;refine .eff [] [0] _ _ rfl (AJ j) (gV ?_);refine aU (o:=sM B) (λp=>?_) (λ⟨e,x⟩ p=>?_)
  .simp only[p]at g f;have g:Res.pan (bF 10)=r:=g;have f:rdU=As:=f;subst g f;refine .effp [] [0] _ _ rfl (AK p) ?_;exact zx [0]
  simp only[p]at g f;refine .eff [] [0] _ _ rfl (AJ p) (gV ?_);have H:=cA l;have G:=rVec_b h3;have C:=rVec_b j;have Be:=rVec_b p;refine Aa ⟨by simp only[maxLen];simp;omega,by simp;omega⟩ ?_;refine gV ?_;refine aJ (gV ?_);refine To.part [0,2,6,7] [0,1,2] rfl rfl rfl ?_;have next:=v (i+1) x (ns++[⟨a-1,b,c,d,e⟩]) o_ q_ g f
  have e:nav (ns++[⟨a-1,b,c,d,e⟩])=nav ns++[Nod.av ⟨a-1,b,c,d,e⟩]:=by simp
  rw[e]at next
  exact next
def SY(s:ay)(hs:Z s<=1000000000)(r:Res)(As:aw)(b:qV Con.av (KN s)=r)(a:CY (KN s)=As):ar 195 [G2 0 0] (rdO s) r As:=by
 unfold KN at b a;refine eA E f195 1 λ_=>gV ?_;refine aU (o:=eD s) (λh1=>?_) (λ⟨k,c⟩ h1=>?_)
 .exact zqca17
 simp only[h1]at b a;refine .eff [] [0] _ _ rfl (oW h1) (gV ?_);have d:=fO h1;refine To.part [0,2,6,7] [0,1] rfl rfl rfl ?_;refine To.begin 1 0 130 rfl rfl ?_;exact aGZ k o_ r As k.toNat 0 c [] o_ q_ b a
def aLw{s s':ay}(hs:Z s<=1000000000){v:Con}(h:KN s=X (v,s')):ar 195 [G2 0 0] (rdO s) (Io v.av) (rdO s'):=SY s hs _ _ (by rw[h];rfl) (by rw[h];rfl)
def aGY{s:ay}(hs:Z s<=1000000000)(h:KN s=D):ar 195 [G2 0 0] (rdO s) (.pan (bF 10)) rdU:=SY s hs _ _ (by rw[h];rfl) (by rw[h];rfl)
def _root_.Go.Proofs.YtenkdioaefckoaaGreatDoor.Con.zero:Con:=⟨[],[],0,0⟩
def KO(s:ay):Option (Cmd×ay):=match bX s with
 | none=>D
 | some (k,s)=>if k==1 then(match KN s with
   | none=>D
   | some (c,s)=>X (⟨k,c,Gan.zero,0⟩,s))
  else if k==2 then(match rGan s with
   | none=>D
   | some (g,s)=>X (⟨k,Con.zero,g,0⟩,s))
  else if(k==3||k==4)||k==5 then(match bX s with
   | none=>D
   | some (n,s)=>X (⟨k,Con.zero,Gan.zero,n⟩,s))
  else X (⟨k,Con.zero,Gan.zero,0⟩,s)
abbrev zCs:az:=[ii 0,CA 11 [] .nil,CA 6 [] .nil,ii 0,ii 0,ii 0,ii 0,ii 0,ii 0,ii 0,ii 0,ii 0,ii 0,ii 0,ii 0]
abbrev dcO(s:ay):aw:=[Do 47 zCs,Do tRd [HA s],Do 276 [G2 1 0]]
abbrev dcX(x:Cmd)(s:ay):aw:=[Do 47 x.cs,Do tRd [HA s],Do 276 [G2 1 0]]
abbrev dcU:aw:=yI (λ_=>.undef) (dcO [])
def aNP{s:ay}(h:bX s=D):ar 193 [G2 2 0,G2 0 0] (dcO s) (.pan (bF 10)) dcU:=by refine aA.blur (ap:=[Do 47 zCs,Do tRd [.undef],Do 276 [G2 1 0]]) ?_;refine eA E f193 3 λ_=>gV ?_;refine .effp [] [1] _ _ rfl (bY h) ?_;exact zx [0,1,2]
def aTi{s a:ay}(hs:Z a<=1000000000)(h:bX s=X (1,a))(b:KN a=D):ar 193 [G2 2 0,G2 0 0] (dcO s) (.pan (bF 10)) dcU:=by refine aA.blur (ap:=[Do 47 (ii 1::zCs.tail),Do tRd [.undef],Do 276 [G2 1 0]]) ?_;refine eA E f193 3 λ_=>gV ?_;refine .eff [] [1] _ _ rfl (bP h) (gV ?_);refine aY (gV ?_);refine .effp [] [1] _ _ rfl (aGY hs b) ?_;exact zx [0,1,2]
def aT8{s a b:ay}{c:Con}(hs:Z a<=1000000000)(h:bX s=X (1,a))(d:KN a=X (c,b)):ar 193 [G2 2 0,G2 0 0] (dcO s) (Io (GT [])) (dcX ⟨1,c,Gan.zero,0⟩ b):=by refine eA E f193 3 λ_=>gV ?_;refine .eff [] [1] _ _ rfl (bP h) (gV ?_);refine aY (gV ?_);refine .eff [] [1] _ _ rfl (aLw hs d) (gV ?_);exact zx [0,1,2]
def aTh{s a:ay}(h:bX s=X (2,a))(b:rGan a=D):ar 193 [G2 2 0,G2 0 0] (dcO s) (.pan (bF 10)) dcU:=by refine aA.blur (ap:=[Do 47 (ii 2::zCs.tail),Do tRd [.undef],Do 276 [G2 1 0]]) ?_;refine eA E f193 3 λ_=>gV ?_;refine .eff [] [1] _ _ rfl (bP h) (gV ?_);refine aN (gV ?_);refine aY (gV ?_);refine .effp [] [1] _ _ rfl (A5 b) ?_;exact zx [0,1,2]
def aT7{s e d:ay}{g:Gan}(h:bX s=X (2,e))(i:rGan e=X (g,d)):ar 193 [G2 2 0,G2 0 0] (dcO s) (Io (GT [])) (dcX ⟨2,Con.zero,g,0⟩ d):=by refine aA.loose (ap:=[Do 47 [ii 2,CA 11 [] .nil,CA 6 [] .nil,ii 0,ii 0,ii g.id,ii g.ten,ii g.pods,ii g.need.a,ii g.need.b,ii g.need.c,ii g.run,ii g.lev,ii g.pref,ii 0],Do tRd [HA d],Do 276 [G2 1 0]]) ?_;refine eA E f193 3 λ_=>gV ?_;refine .eff [] [1] _ _ rfl (bP h) (gV ?_);refine aN (gV ?_);refine aY (gV ?_);refine .eff [] [1] _ _ rfl (FI i) (gV ?_);exact zx [0,1,2]
def aTg{s b:ay}{k:Int}(c:k=3\/k=4\/k=5)(h:bX s=X (k,b))(a:bX b=D):ar 193 [G2 2 0,G2 0 0] (dcO s) (.pan (bF 10)) dcU:=by
 rcases c with rfl|rfl|rfl
 .refine aA.blur (ap:=[Do 47 (ii 3::zCs.tail),Do tRd [.undef],Do 276 [G2 1 0]]) ?_;refine eA E f193 3 λ_=>gV ?_;refine .eff [] [1] _ _ rfl (bP h) (gV ?_)
  repeat' first|refine pA ?_|refine .effp [] [1] _ _ rfl (bY a) ?_|exact rfl|refine lA ?_ ?_|intro h
  exact zx [0,1,2]
 .refine aA.blur (ap:=[Do 47 (ii 4::zCs.tail),Do tRd [.undef],Do 276 [G2 1 0]]) ?_;refine eA E f193 3 λ_=>gV ?_;refine .eff [] [1] _ _ rfl (bP h) (gV ?_)
  repeat' first|refine pA ?_|refine .effp [] [1] _ _ rfl (bY a) ?_|exact rfl|refine lA ?_ ?_|intro h
  exact zx [0,1,2]
 .refine aA.blur (ap:=[Do 47 (ii 5::zCs.tail),Do tRd [.undef],Do 276 [G2 1 0]]) ?_;refine eA E f193 3 λ_=>gV ?_;refine .eff [] [1] _ _ rfl (bP h) (gV ?_)
  repeat' first|refine pA ?_|refine .effp [] [1] _ _ rfl (bY a) ?_|exact rfl|refine lA ?_ ?_|intro h
  exact zx [0,1,2]
abbrev nCs(k n:Int):az:=[ii k,CA 11 [] .nil,CA 6 [] .nil,ii 0,ii 0,ii 0,ii 0,ii 0,ii 0,ii 0,ii 0,ii 0,ii 0,ii 0,ii n]
def aT6{s c a:ay}{k n:Int}(d:k=3\/k=4\/k=5)(h:bX s=X (k,c))(b:bX c=X (n,a)):ar 193 [G2 2 0,G2 0 0] (dcO s) (Io (GT [])) (dcX ⟨k,Con.zero,Gan.zero,n⟩ a):=by
 refine aA.loose (ap:=[Do 47 (nCs k n),Do tRd [HA a],Do 276 [G2 1 0]]) ?_;rcases d with rfl|rfl|rfl
 all_goals
  refine eA E f193 3 λ_=>gV ?_;refine .eff [] [1] _ _ rfl (bP h) (gV ?_)
  repeat' first|refine pA ?_|refine .eff [] [1] _ _ rfl (bP b) ?_|exact rfl|refine lA ?_ ?_|intro h
  exact zx [0,1,2]
def aT5{s a:ay}{k:Int}(h1:(k==1)=U)(c:(k==2)=U)(h3:(k==3)=U)(b:(k==4)=U)(d:(k==5)=U)(h:bX s=X (k,a)):
  ar 193 [G2 2 0,G2 0 0] (dcO s) (Io (GT [])) (dcX ⟨k,Con.zero,Gan.zero,0⟩ a):=by
 refine aA.loose (ap:=[Do 47 (nCs k 0),Do tRd [HA a],Do 276 [G2 1 0]]) ?_;refine eA E f193 3 λ_=>gV ?_;refine .eff [] [1] _ _ rfl (bP h) (gV ?_);refine Aa (λh=>bv (h.symm.trans h1) d_) (λ_=>gV ?_);refine Aa (λh=>bv (h.symm.trans c) d_) (λ_=>gV ?_);refine Aa (λh=>bv (h.symm.trans h3) d_) (λ_=>gV ?_);refine Aa (λh=>bv (h.symm.trans b) d_) (λ_=>gV ?_);refine Aa (λh=>bv (h.symm.trans d) d_) (λ_=>gV ?_);exact zx [0,1,2]
def aTf{s s':ay}{x:Cmd}(hs:Z s<=1000000000)(h:KO s=X (x,s')):ar 193 [G2 2 0,G2 0 0] (dcO s) (Io (GT [])) (dcX x s'):=by
 unfold KO at h;split at h
 .cases h
 .rename_i k i h1;have g:=cA h1;split at h
  .rename_i b;have b:=eq_of_beq b;subst b;split at h
   .cases h
   .rename_i d;cases h;exact aT8 o_ h1 d
  .rename_i c;split at h
   .rename_i b;have b:=eq_of_beq b;subst b;split at h
    .cases h
    .rename_i d;cases h;exact aT7 h1 d
   .rename_i e;split at h
    .rename_i b;simp at b;split at h
     .cases h
     .rename_i d;cases h;exact aT6 o_ h1 d
    .rename_i a;cases h;simp only[Fo,not_or,Bool.not_eq_true]at c e a;exact aT5 c e a.1.1 a.1.2 a.2 h1
def aRq{s:ay}(hs:Z s<=1000000000)(h:KO s=D):ar 193 [G2 2 0,G2 0 0] (dcO s) (.pan (bF 10)) dcU:=by
 unfold KO at h;split at h
 .rename_i h1;exact aNP h1
 .rename_i k d h1;have c:=cA h1;split at h
  .rename_i a;have a:=eq_of_beq a;subst a;split at h
   .rename_i b;exact aTi o_ h1 b
   .cases h
  .split at h
   .rename_i a;have a:=eq_of_beq a;subst a;split at h
    .rename_i b;exact aTh h1 b
    .cases h
   .split at h
    .rename_i a;simp at a;split at h
     .rename_i b;exact aTg o_ h1 b
     .cases h
    .cases h
abbrev d1V:aa:=.func (.func 193) [] [G2 2 0,G2 0 0]
noncomputable abbrev Et:Env:=Ed [(141,[G2 3 0])]
def hEt:ae Et:=hEd _
def aO9{s s':ay}{x:Cmd}(hs:Z s<=1000000000)(h:KO s=X (x,s')):ar 192 [d1V] (dcO s) (Io (ii 0)) (dcX x s'):=by
 refine eA E f192 3 λ_=>gV ?_;refine To.defer (f:=141) (args:=[G2 3 0]) _ rfl rfl ?_;refine gW hEt ?_;conv=>whnf
 refine .eff [] [0,1,2] _ _ rfl (aTf hs h) ?_;refine gW hEt ?_;conv=>whnf
 refine To.leave (f:=141) (args:=[G2 3 0]) [] rfl [] [3] rfl (catch_ret 0) ?_;exact zqca18
def aKt{s:ay}(hs:Z s<=1000000000)(h:KO s=D):ar 192 [d1V] (dcO s) (Io (ii 10)) dcU:=by
 refine eA E f192 3 λ_=>gV ?_;refine To.defer (f:=141) (args:=[G2 3 0]) _ rfl rfl ?_;refine gW hEt ?_;conv=>whnf
 refine .effp [] [0,1,2] _ _ rfl (aRq hs h) ?_;conv=>whnf
 refine To.leave (f:=141) (args:=[G2 3 0]) [] rfl [] [3] rfl (catch_pan 0 10) ?_;exact zqca18
def _root_.Go.Proofs.YtenkdioaefckoaaGreatDoor.Cmd.zero:Cmd:=⟨0,Con.zero,Gan.zero,0⟩
def dec(s:ay):Option Cmd:=match KO s with
 | some (x,r)=>if r=[]/\chk x=0 then X x else D
 | none=>D
def decX(s:ay):Cmd:=(dec s).getD Cmd.zero
def decE(s:ay):Int:=match dec s with|some _=>0|none=>10
def decode_ok(s:ay)(hs:Z s<=1000000000):bj 134 [HA s] (GT [(decX s).av,ii (decE s)]):=by
 refine c_ f134 λ_=>gV ?_;refine aU (o:=KO s) (λh=>?_) (λ⟨x,r⟩ h=>?_)
 .have i:decX s=Cmd.zero:=by unfold decX dec;rw[h];rfl
  have j:decE s=10:=by unfold decE dec;rw[h]
  rw[i,j];refine .eff [] [1,2,3] _ _ rfl (aKt hs h) ?_
  repeat' first|refine pA ?_|exact rfl|refine lA ?_ ?_|intro h
 .refine .eff [] [1,2,3] _ _ rfl (aO9 hs h) (gV ?_);refine aN (gV ?_);refine Aa (λa=>?_) (λa=>?_)
  .have a:(!(r==[]))=true:=a;have d:¬ r=[]:=by intro e;rw[e]at a;simp at a
   have b:dec s=none:=by unfold dec;rw[h];exact bt (λh=>d h.1)
   have i:decX s=Cmd.zero:=by unfold decX;rw[b];rfl
   have j:decE s=10:=by unfold decE;rw[b]
   rw[i,j]
   repeat' first|refine pA ?_|exact rfl|refine lA ?_ ?_|intro h
  .have a:(!(r==[]))=false:=a;have d:r=[]:=by simpa using a
   refine gV ?_;refine .p (check_ok x) (gV ?_);refine Aa (λk=>?_) (λk=>?_)
   .have k:(chk x !=0)=true:=k;have c:¬ chk x=0:=by simpa using k
    have b:dec s=none:=by unfold dec;rw[h];exact bt (λh=>c h.2)
    have i:decX s=Cmd.zero:=by unfold decX;rw[b];rfl
    have j:decE s=10:=by unfold decE;rw[b]
    rw[i,j]
    repeat' first|refine pA ?_|exact rfl|refine lA ?_ ?_|intro h
   .have k:(chk x !=0)=false:=k;have c:chk x=0:=by simpa using k
    have b:dec s=X x:=by unfold dec;rw[h];exact bu ⟨d,c⟩
    have i:decX s=x:=by unfold decX;rw[b];rfl
    have j:decE s=0:=by unfold decE;rw[b]
    rw[i,j]
    repeat' first|refine pA ?_|exact rfl|refine lA ?_ ?_|intro h
def bJ{n:Int}(a:0<=n)(h:n<=1099511627777)(s:ay):bX (putN n.toNat++s)=X (n,s):=by
 unfold bX;rw[aIt n.toNat s o_]
 grind
def vI{v:V3}(h:okI v.l=O)(s:ay):sM (pl v.l++s)=X (v,s):=by
 obtain⟨h1,d,h3⟩:=W7 h;have e:pl v.l++s=putN v.a.toNat++(putN v.b.toNat++(putN v.c.toNat++s)):=by simp[pl,V3.l]
 rw[e];unfold sM;rw[bJ h1.1 o_];dsimp only;rw[bJ d.1 o_];dsimp only;rw[bJ h3.1 o_]
def qX{g:Gan}(h:g.ok=O)(s:ay):rGan (pl g.il++s)=X (g,s):=by
 obtain⟨h1,i,h3⟩:=gan_b h;have c:=okI_b h1 g.id s_;have a:=okI_b h1 g.ten s_;have d:=okI_b h1 g.pods s_;have f:=okI_b h3 g.run s_;have j:=okI_b h3 g.lev s_;have b:=okI_b h3 g.pref s_;have e:pl g.il++s=putN g.id.toNat++(putN g.ten.toNat++(putN g.pods.toNat++(pl g.need.l++(putN g.run.toNat++(putN g.lev.toNat++(putN g.pref.toNat++s)))))):=by simp[pl,Gan.il,V3.l]
 rw[e];unfold rGan;rw[bJ c.1 o_];dsimp only;rw[bJ a.1 o_];dsimp only;rw[bJ d.1 o_];dsimp only;rw[vI i];dsimp only;rw[bJ f.1 o_];dsimp only;rw[bJ j.1 o_];dsimp only;rw[bJ b.1 o_]
def aG9{x:Nod}(h:x.ok=O)(s:ay):aLz (pl x.il++s)=X (x,s):=by
 obtain⟨h1,c,h3,a,d⟩:=aBz h;have e:pl x.il++s=putN (x.p+1).toNat++(putN x.w.toNat++(pl x.n.l++(pl x.b.l++(pl x.l.l++s)))):=by simp[pl,Nod.il,V3.l]
 rw[e];unfold aLz;rw[bJ o_ o_];dsimp only;rw[bJ c.1 o_];dsimp only;rw[vI h3];dsimp only;rw[vI a];dsimp only;rw[vI d];simp
def A8{x:Hos}(h:x.ok=O)(s:ay):A9 (pl x.il++s)=X (x,s):=by
 obtain⟨h1,i⟩:=aBX h;have d:=okI_b h1 x.f s_;have a:=okI_b h1 x.b s_;have g:=okI_b h1 x.r s_;have e:pl x.il++s=putN x.f.toNat++(putN x.b.toNat++(putN x.r.toNat++(pl x.c.l++s))):=by simp[pl,Hos.il,V3.l]
 rw[e];unfold A9;rw[bJ d.1 o_];dsimp only;rw[bJ a.1 o_];dsimp only;rw[bJ g.1 o_];dsimp only;rw[vI i]
def putN_pos(n:Nat):1<=Z (putN n):=by rw[putN];split<;>simp
def T5:∀(l:bf),Z l<=Z (pl (nodL l))
 | []=>by simp
 | x::r=>by
  have h1:=T5 r;have a:=putN_pos (x.p+1).toNat;simp only[nodL,pl_append,Ah,Al];have:1<=Z (pl x.il):=by simp only[Nod.il,pl,Ah];omega
  omega
def UV:∀(l:List Hos),Z l<=Z (pl (hosL l))
 | []=>by simp
 | x::r=>by
  have h1:=UV r;have a:=putN_pos x.f.toNat;simp only[hosL,pl_append,Ah,Al];have:1<=Z (pl x.il):=by simp only[Hos.il,pl,Ah];omega
  omega
def gX{n:Int}(a:0<=n)(h:n<=1099511627777)(s:ay)(hs:n<=Z s):eD (putN n.toNat++s)=X (n,s):=by unfold eD;rw[bJ a h];dsimp only;rw[bu (by simpa using hs)]
def aHa:∀(l:bf) (a:bf) (s:ay),uL l=O->rN (Z l) a (pl (nodL l)++s)=rHs (a++l) s
 | [],a,s,_=>by simp[rN,nodL,pl]
 | x::r,a,s,h=>by
  simp only[uL,Af]at h;have e:pl (nodL (x::r))++s=pl x.il++(pl (nodL r)++s):=by simp[nodL,pl_append]
  rw[e,Al];unfold rN;rw[aG9 h.1];dsimp only;rw[aHa r (a++[x]) s h.2];simp
def HI(ns:bf):∀(l:List Hos) (a:List Hos) (s:ay),nH l=O->rH ns (Z l) a (pl (hosL l)++s)=aLA ns (a++l) s
 | [],a,s,_=>by simp[rH,hosL,pl]
 | x::r,a,s,h=>by
  simp only[nH,Af]at h;have e:pl (hosL (x::r))++s=pl x.il++(pl (hosL r)++s):=by simp[hosL,pl_append]
  rw[e,Al];unfold rH;rw[A8 h.1];dsimp only;rw[HI ns r (a++[x]) s h.2];simp
def S6{c:Con}(h:c.tok=O)(l:Z c.ns<=12)(j:Z c.hs<=24)(s:ay):KN (pl c.il++s)=X (c,s):=by
 simp only[Con.tok,Af]at h;obtain⟨⟨h1,g⟩,h3⟩:=h;have d:=okI_b h3 c.half s_;have a:=okI_b h3 c.age s_;have f:Z (nav c.ns)=Z c.ns:=by simp
 have b:Z (hav c.hs)=Z c.hs:=by simp
 have k:=T5 c.ns;have i:=UV c.hs;have e:pl c.il++s=putN (Z (nav c.ns):Int).toNat++(pl (nodL c.ns)++(putN (Z (hav c.hs):Int).toNat++(pl (hosL c.hs)++(putN c.half.toNat++(putN c.age.toNat++s))))):=by simp[pl,pl_append,Con.il]
 rw[e];unfold KN;rw[gX o_ o_ _ (by simp only[Ah];omega)];dsimp only;rw[Bo,f,aHa c.ns [] _ h1];unfold rHs;rw[gX o_ o_ _ (by simp only[Ah];omega)];dsimp only;rw[Bo,b,HI _ c.hs [] _ g];unfold aLA;rw[bJ d.1 o_];dsimp only;rw[bJ a.1 o_];simp
def aJx{c:Con}(h:c.non=O):c=Con.zero:=by exact zqca12
def U9{g:Gan}(h:g.isZ=O):g=Gan.zero:=Gan.eqb_eq.1 h
def rCmd_put{x:Cmd}(T:Told x):KO (pl x.il)=X (x,[]):=by
 obtain⟨k,c,g,n⟩:=x;have v:Z (nav c.ns)=Z c.ns:=by simp
 have u:Z (hav c.hs)=Z c.hs:=by simp
 have r:(Z (nav c.ns):Int)<=12:=T.ln;have p:(Z (hav c.hs):Int)<=24:=T.lh;have l:1<=k/\k<=6:=T.k;have m:k=1\/c.non=true:=T.c;have i:k=2\/g.isZ=true:=T.g;have d:(k=3\/k=4\/k=5)\/n=0:=T.n;have f:0<=n/\n<=1099511627776:=T.nok;have cok:c.tok=true:=T.cok;have gok:g.ok=true:=T.gok;clear T;have e:pl (Cmd.il ⟨k,c,g,n⟩)=putN k.toNat++pl (if k==1 then c.il else if k==2 then g.il else if k==6 then[]else[n]):=rfl;rw[e];unfold KO;rw[bJ o_ o_];dsimp only;rcases m with rfl|h
 .have b:g=Gan.zero:=U9 (i.resolve_left o_);have a:n=0:=d.resolve_left o_;subst b a;have:=S6 cok o_ o_ []
  grind
 .have h:c=Con.zero:=aJx h;subst h;rcases i with rfl|b
  .have a:n=0:=d.resolve_left o_;subst a;have:=qX gok []
   grind
  .have b:g=Gan.zero:=U9 b;subst b;have one:bX (pl [n])=X (n,[]):=bJ f.1 o_ [];have o:(match bX (pl [n])with|none=>D|some (n,s)=>X ((⟨3,Con.zero,Gan.zero,n⟩:Cmd),s))=X (⟨3,Con.zero,Gan.zero,n⟩,[]):=by rw[one]
   have q:(match bX (pl [n])with|none=>D|some (n,s)=>X ((⟨4,Con.zero,Gan.zero,n⟩:Cmd),s))=X (⟨4,Con.zero,Gan.zero,n⟩,[]):=by rw[one]
   have t:(match bX (pl [n])with|none=>D|some (n,s)=>X ((⟨5,Con.zero,Gan.zero,n⟩:Cmd),s))=X (⟨5,Con.zero,Gan.zero,n⟩,[]):=by rw[one]
   have j:k=1\/k=2\/k=3\/k=4\/k=5\/k=6:=o_;rcases j with rfl|rfl|rfl|rfl|rfl|rfl
   .have a:n=0:=d.resolve_left o_;subst a;have:=S6 (c:=Con.zero) rfl d_ d_ []
    grind
   .have a:n=0:=d.resolve_left o_;subst a;have:=qX (g:=Gan.zero) rfl []
    grind
   .exact o
   .exact q
   .exact t
   .have a:n=0:=d.resolve_left o_;subst a;rfl
def dec_enc{x:Cmd}(h:chk x=0):decX (encB x)=x/\decE (encB x)=0:=by
 have e:encB x=pl x.il:=bu h;have a:dec (encB x)=X x:=by unfold dec;rw[e,rCmd_put (chk_told h)];exact bu ⟨rfl,h⟩
 unfold decX decE;rw[a];exact⟨rfl,rfl⟩
end C8
namespace SW
open Go.RowKit
set_option maxRecDepth 100000
abbrev tWr:TypeId:=195
def BG:liesAt Tryz.prog Tryz.prog.depth tWr (2 / Tryz.prog.cellsOf tWr) 0 193 1=true:=by kernel_rfl
def AZ:(Tryz.prog.info? 193).map (·.size)=X 2:=by kernel_rfl
def RQ:Tryz.prog.underlying 191=X (.pointer 193):=by kernel_rfl
def RP:Tryz.prog.underlying 319=X .unsafePointer:=by kernel_rfl
def VG:Tryz.prog.funcs[244]? =X f244:=by kernel_rfl
def hZ(b:Nat)(w:World)(h:w.cell? ⟨b,0,D⟩=X (.pointer D))(a:w.shape? b=X (tWr,2))(g:w.frozen? ⟨b,0,D⟩=U):
  Calls Tryz.prog 174 #[.pointer (X ⟨b,0,D⟩)] w λe w'=>e= .returned (.tuple #[])/\w'=w.setCell ⟨b,0,D⟩ (.pointer (X ⟨b,0,D⟩)):=by
 obtain⟨j,d,c⟩:=Option.map_eq_some_iff.1 AZ
 go_enter Tryz.func174,Tryz.ntmps174
 go_wp2
 rw[Lib.run_to_unsafe w ⟨b,0,D⟩ RQ RP d (by rw[c];decide) a (Mh 1)];simp only[Ez];rw[Oper.upon_value]
 go_wp2
 rw[run_callFunc_extern VG (by kernel_rfl) (by kernel_rfl) (by kernel_rfl) (e:=Extern.AbiNoEscape.same) (by kernel_rfl)];rw[Lib.run_noEscape];simp only[Ez];rw[Oper.upon_value]
 go_wp2
 rw[Lib.run_from_unsafe w ⟨b,0,D⟩ RP RQ d a BG];simp only[Ez];rw[Oper.upon_value]
 go_wp2
 go_end0;exact⟨rfl,rfl⟩
def aFl:Tryz.prog.underlying 261=X (.pointer 5):=by kernel_rfl
def aJN:Tryz.prog.cellsOf 5=1:=by kernel_rfl
def qQ(b g cap:Nat)(p:Value)(a:Array Value)(l:ay)(w:World)(h:w.heap[b]? =X (.cells #[p,.slice (X ⟨g,0,D⟩) (Z l) cap] tWr (0,0)))(s:w.heap[g]? =X (.cells a 5 (0,0)))(n:l≠[])
  (o:Z l<=cap) (d:cap<=maxLen) (q:a.size=cap) (c:∀(j:Nat) x,l[j]? =X x->w.cell? ⟨g,j,D⟩=X (.int .u8 x.toNat)):
  Calls Tryz.prog 115 #[.pointer (X ⟨b,0,D⟩)] w λe w'=>e= .returned (.string ⟨l.toArray⟩)/\N6 g (Z l) w w':=by
 have k:Z l≠0:=by simpa using n
 have y:w.drew.cell? ⟨b,1,D⟩=X (.slice (X ⟨g,0,D⟩) (Z l) cap):=by exact zqca37
 have u:(Jd #[109] 261 #[.slice (X ⟨g,0,D⟩) (Z l) cap]).run Tryz.prog w.drew= .ok (.pointer (X ⟨g,0,D⟩)) w.drew:=
  Lib.run_unsafeSliceData_row _ _ _ _ _ _ o_
 have r:(Kd #[261,3] 9 #[.pointer (X ⟨g,0,D⟩),.int .i64 (Z l)]).run Tryz.prog w.drew= .ok (.string ⟨l.toArray⟩) (w.drew.freeze ⟨g,0,D⟩ (Z l)):=by exact zqca16
 have m:Tryz.prog.follows Departure.mixedOrders=true:=hE.mix
 go_enter Tryz.func115,Tryz.ntmps115
 go_wp2
 go_region_o
 all_goals (go_wp2;go_ret;exact⟨rfl,ZG k⟩)
def cc_fresh(s:aa):ar 174 [G2 0 0] [Do tWr [By,s]] (Io (GT [])) [Do tWr [G2 0 0,s]]:=
 qL (λ_ _=>by rfl) hZ s
def str_ok(l:ay)(a:l≠[])(p:aa):ar 115 [G2 0 0] [Do tWr [p,CA 1 (l.map ub) (.own 1 0)],Fr 0 1 5] (Io (HA l)) [.dead,.dead]:=
 oY (λ_ _=>by rfl) qQ l a p
open C8 (pl putN put_ok pn_len)
set_option maxRecDepth 10000
abbrev wrO(bs:ay)(g:Nat):aw:=[Do tWr [G2 0 0,CA 1 (bs.map ub) (.own 1 g)],Fr g 1 5]
def Q3(xs:az):ar 174 [G2 0 0] [Do tWr [G2 0 0,CA 1 xs (.own 1 0)],Fr 0 1 5] (Io (GT [])) [Do tWr [G2 0 0,CA 1 xs (.own 1 0)],Fr 0 1 5]:=by
 refine eA E f174 2 λ_=>?_
 repeat' first|refine pA ?_|exact rfl|refine lA ?_ ?_|intro h
 exact zx [0,1]
def AA(s:ay)(hs:Z s<=1000):ar 112 [G2 0 0,HA s] [Do tWr [By,CA 1 [] .nil]] (Io (GT [ii (Z s),.nilif])) (wrO s 0):=by exact zqca14
def ws_ok(bs s:ay)(hs:Z bs+Z s<=1000000):ar 112 [G2 0 0,HA s] (wrO bs 0) (Io (GT [ii (Z s),.nilif])) (wrO (bs++s) 1):=by exact zqca10
noncomputable abbrev VH:Func:=f111
def CZ(l:ax)(hl:Gf (Z (iv l)))(q:∀n∈l,n<=9223372036854775807)(B:ay)(m:Nat)(o:10*Z l<=1000):∀(n i g:Nat) (bs:ay),i+n=Z l->(g=0\/g=1)->(n=0->g=m)->(0<n->m=1)->Z bs+10*n<=100000->bs++pl (l.drop i)=B->
  To E VH (.full 2 (Io (GT [])) (wrO B m)) (BV VH [(0,G2 0 0),(6,CA 1 (iv l) J0),(7,GE Is (Z (iv l):Nat)),(8,GE Is i)] (wrO bs g)):=by
 have t:Z (iv l)=Z l:=by simp
 intro n;induction n with
 | zero=>
  exact zqca13
 | succ n p=>
  intro i g bs s f _ k d a;have r:=k o_;subst r;have b:i<Z l:=o_;rw[Ac b]at a;have c:=q l[i] (Aq b);generalize u:l[i]=x at a c;have a:bs++(putN x.toNat++pl (l.drop (i+1)))=B:=a;rw[<-Ag]at a;have get:(iv l)[i]? =X (ii x):=(cK b).trans (by rw[u]);have hp:=pn_len c;refine gV ?_;refine aT λh=>gV ?_;refine⟨i,rfl,gV ?_⟩;refine⟨_,get,gV ?_⟩;exact .p (C8.put_ok x) zqca6
def nums_ok(l:ax)(i:l≠[])(c:∀n∈l,n<=9223372036854775807)(a:Z l<=100)(bs:ay)(d:Z bs+10*Z l<=100000):
  ar 111 [G2 0 0,CA 1 (iv l) J0] (wrO bs 0) (Io (GT [])) (wrO (bs++pl l) 1):=by
 have e:Z (iv l)=Z l:=by simp
 have b:0<Z l:=Dd.2 i;refine eA E f111 2 λ_=>?_;exact zqca32
def nums_fresh(k:Int)(a:k<=9223372036854775807):ar 111 [G2 0 0,CA 1 [ii k] J0] [Do tWr [By,CA 1 [] .nil]] (Io (GT [])) (wrO (putN k.toNat) 0):=by have hp:=pn_len a;refine eA E f111 1 λ_=>gV ?_;refine gV ?_;refine Aa (λ_=>?_) (λh=>bv (bm h) s_);refine gV ?_;refine⟨0,rfl,gV ?_⟩;refine⟨_,rfl,gV ?_⟩;refine .p (C8.put_ok k) (gV ?_);refine .sole rfl (.eff [] [0] _ _ rfl (AA _ o_) ?_);exact zqca8
end SW
def NC(x i:Nat):UInt8:=Da (x / 2 ^ (8*i) % 256)
def KV(x i:Nat):ay:=(Dh i).map (NC x)
def BT(x:Nat):ay:=KV x 8
def mF(x i:Nat):Z (KV x i)=i:=by simp[KV]
def NB(x i:Nat):KV x (i+1)=KV x i++[NC x i]:=by simp[KV,List.range_succ]
def aT1(x i:Nat):IntKind.u8.wrap ((x:Int).fdiv (2 ^ (8*i)))=((((NC x i).toNat:Nat)):Int):=by
 rw[Ef _ (by exact Int.le_of_lt (Int.pow_pos d_))];have:(x:Int) / 2 ^ (8*i)=((x / 2 ^ (8*i):Nat):Int):=by simp
 rw[this,N8,NC,Hg,Nat.mod_mod]
def aDQ(x:Nat):∀(m i:Nat) (row:az),i+m=8->row=(KV x i).map ub++Ak m (GE .u8 0)->
  DE E f113 (HA (BT x)) [(0,GE IH x),(3,.row 0 0),(7,GE Is 8),(8,GE Is i)] [.row 0 1 5 row]:=by
 intro m;induction m with
 | zero=>
  intro i row d a;have e:i=8:=o_;subst e;subst a;refine gV ?_;refine aF λh=>gV ?_;refine Aj (KV x 8) (Aa s_ (Aa (by simp[mF]) (gV ?_)));rfl
 | succ m c=>
  intro i row d a;have b:Z row=8:=by rw[a];simp[mF];omega
  have f:(8*(i:Int)).toNat=8*i:=o_;have g:=aT1 x i
  have next:=c (i+1) (row.set i (ub (NC x i))) o_ (by
   rw[a,NB,Bi,List.set_append_right _ _ (by simp[mF])]
   simp[mF,List.replicate_succ])
  refine gV ?_;refine aT λh=>?_
  repeat' first|refine pA ?_|refine @Jv (inR IntKind.u8 _/\_) _ ?_|refine aJ ?_|refine Aa (Aa (show(0:Int)<=8*(i:Int) by omega) (show(8*(i:Int)).toNat<=64 by omega)) ?_|refine⟨i,rfl,?_⟩|refine Aa (show i<Z row by omega) ?_|exact rfl|refine lA ?_ ?_|intro h
  refine To.part [0,3,7,8] [0] rfl rfl rfl ?_;rw[f,g];exact next
def aLP(x:Nat):bj 113 [GE IH x] (HA (BT x)):=by
 have next:=aDQ x 8 0 (Ak 8 (GE .u8 0)) rfl rfl
 refine c_ f113 λ_=>?_
 repeat' first|refine pA ?_|exact rfl|refine lA ?_ ?_|intro h
 exact To.part [0,3,7,8] [0] rfl rfl rfl next
namespace C8
def T1(a b c:Int)(d:a<=9223372036854775807)(e:b<=9223372036854775807)(i:c<=9223372036854775807):ar 166 [G2 0 0,CA 1 [ii a,ii b,ii c] J0] [Do tWr [By,CA 1 [] .nil]] (Io (GT [])) (wrO (putN a.toNat++putN b.toNat++putN c.toNat) 0):=by have j:=pn_len d;have l:=pn_len e;have k:=pn_len i;refine eA E f166 1 λ_=>gV ?_;refine gV ?_;refine Aa (λ_=>?_) (λh=>bv (bm h) s_);refine gV ?_;refine⟨0,rfl,gV ?_⟩;refine⟨_,rfl,gV ?_⟩;refine .p (put_ok _) (gV ?_);refine .sole rfl (.eff [] [0] _ _ rfl (AA _ o_) (gV ?_));refine aJ (gV ?_);refine gV ?_;refine Aa (λ_=>?_) (λh=>bv (bm h) s_);refine gV ?_;refine⟨1,rfl,gV ?_⟩;refine⟨_,rfl,gV ?_⟩;refine .p (put_ok _) (gV ?_);refine .sole rfl (.eff [] [0,1] _ _ rfl (ws_ok _ _ o_) (gV ?_));refine aJ (gV ?_);refine gV ?_;refine Aa (λ_=>?_) (λh=>bv (bm h) s_);refine gV ?_;refine⟨2,rfl,gV ?_⟩;refine⟨_,rfl,gV ?_⟩;refine .p (put_ok _) (gV ?_);refine .sole rfl (.eff [] [0,1] _ _ rfl (ws_ok _ _ q_) ?_);exact zqca8
def RJ(g:Gan)(h:g.ok=O):ar 168 [G2 0 0,g.av] [Do tWr [By,CA 1 [] .nil]] (Io (GT [])) (wrO (pl g.il) 0):=by
 obtain⟨h1,d,h3⟩:=gan_b h;have b:=l3_m h1 g.id s_;have a:=l3_m h1 g.ten s_;have c:=l3_m h1 g.pods s_;have j:=pn_len b;have m:=pn_len a;have k:=pn_len c;have i:=pl_len (v3_m d);simp only[V3.l,Al,Bj]at i;have e:pl g.il=(putN g.id.toNat++putN g.ten.toNat++putN g.pods.toNat)++pl g.need.l++pl [g.run,g.lev,g.pref]:=by simp[pl,Gan.il,V3.l]
 rw[e];refine eA E f168 1 λ_=>gV ?_;refine .eff [] [0] _ _ rfl (aA.strip (T1 g.id g.ten g.pods b a c)) (gV ?_);refine .eff [] [0,2] _ _ rfl (wK g.need d _ q_) (gV ?_);refine .eff [] [0,2] _ _ rfl (aA.strip (nums_ok [g.run,g.lev,g.pref] s_ (l3_m h3) s_ _ (by simp[V3.l];omega))) ?_;refine gV ?_;refine⟨[],[0,2],⟨rfl,rfl⟩,?_⟩;exact⟨rfl,rfl⟩
def pg_ok(g:Gan)(h:g.ok=O):bj 114 [g.av] (HA (pl g.il)):=by have a:pl g.il≠[]:=pl_ne _ _;refine c_ f114 λ_=>gV ?_;refine .eff [] [1] _ _ rfl (RJ g h) (gV ?_);refine .eff [] [1,2] _ _ rfl (str_ok _ a _) ?_;refine gW hE ?_;conv=>whnf
end C8
def Sta.cmd(s:Sta):Cmd:=⟨1,s.c,Gan.zero,0⟩
def kG(s:Sta):ay:=C8.encB s.cmd
def zH:a6->ay
 | []=>[]
 | x::r=>BT x++zH r
def uC:ba->ay
 | []=>[]
 | x::r=>(C8.pl x.g.il++C8.pl [x.seq,x.at'])++uC r
def qE:a7->ay
 | []=>[]
 | x::r=>(C8.pl x.g.il++C8.pl [x.seq,x.at',x.st,x.fl]++C8.pl x.hs)++qE r
def cG(s:Sta):ay:=C8.putN (Z (kG s))++kG s++C8.pl [s.now,s.nxt,(Z s.hist:Int)]++zH s.hist++C8.pl [(Z s.pend:Int)]++uC s.pend++C8.pl [(Z s.run:Int)]++qE s.run
structure Wr(s:Sta):Prop where
 con:Z (kG s)<=10000
 nums:0<=s.now/\s.now<=1099511627776/\0<=s.nxt/\s.nxt<=1099511627776
 his:Z s.hist<=100
 pen:Z s.pend<=32
 run:Z s.run<=32
 pg:∀x∈s.pend,x.g.ok=O/\okI [x.seq,x.at']=O
 rg:∀x∈s.run,x.g.ok=O/\okI [x.seq,x.at',x.st,x.fl]=O/\okI x.hs=O/\x.hs≠[]/\Z x.hs<=16
abbrev enO(bs:ay)(g:Nat):aw:=SW.wrO bs g
def BQ(g:Gan)(h:g.ok=O):Z (C8.pl g.il)<=90:=by
 obtain⟨h1,d,h3⟩:=C8.gan_b h;have c:=C8.pl_len (C8.l3_m h1);have a:=C8.pl_len (C8.v3_m d);have b:=C8.pl_len (C8.l3_m h3);have e:C8.pl g.il=C8.pl [g.id,g.ten,g.pods]++C8.pl g.need.l++C8.pl [g.run,g.lev,g.pref]:=by simp[C8.pl,Gan.il,V3.l]
 simp only[V3.l,Al,Bj]at c a b;rw[e,Ah,Ah];simp only[V3.l];omega
def qG{l:ax}(h:okI l=O):∀n∈l,n<=9223372036854775807:=λn a=>by have:=C8.okI_b h n a;omega
def aNk(s:Sta)(w:Wr s)(B:ay)(d:B≠[]):∀(m i:Nat) (bs:ay),i+m=Z s.run->Z bs+300*m<=40000->bs++qE (s.run.drop i)=B->
  To E f67 (.pure (Io (GT [HA B,ii 0]))) (G0 (stk f67 2) [(7,G2 0 0),(97,CA 14 (rav s.run) J0),(98,GE Is (Z (rav s.run):Nat)),(99,ii (i:Int))] (enO bs 0)):=by
 have l:Z (rav s.run)=Z s.run:=by simp
 have q:=w.run;intro m;induction m with
 | zero=>
  intro i bs r f a;rw[Ae o_]at a;have a:bs++[]=B:=a;rw[Ao]at a;subst a;refine gV ?_;refine aF λh=>gV ?_;refine .eff [] [0,1] _ _ rfl (SW.str_ok _ d _) ?_;refine gW hE ?_;conv=>whnf
 | succ m n=>
  intro i bs r f a;have b:i<Z s.run:=o_;rw[Ac b]at a;have get:=cH b;obtain⟨c,e,j,k,p⟩:=w.rg s.run[i] (Aq b);generalize s.run[i]=x at a get c e j k p;have a:bs++((C8.pl x.g.il++C8.pl [x.seq,x.at',x.st,x.fl]++C8.pl x.hs)++qE (s.run.drop (i+1)))=B:=a;rw[<-Ag,<-Ag,<-Ag]at a;have v:=BQ x.g c;have o:=C8.pl_len (qG e);have u:=C8.pl_len (qG j);simp only[Al,Bj]at o;have hp:=C8.pg_ok x.g c;have h1:=SW.ws_ok bs (C8.pl x.g.il) o_;have t:=SW.nums_ok [x.seq,x.at',x.st,x.fl] s_ (qG e) s_ (bs++C8.pl x.g.il) q_;have h3:=SW.nums_ok x.hs k (qG j) o_ (bs++C8.pl x.g.il++C8.pl [x.seq,x.at',x.st,x.fl]) (by simp only[Ah];omega);have next:=n (i+1) _ o_ (by simp only[Ah];omega) a
  refine gV ?_;refine aT λh=>gV ?_;refine⟨i,rfl,gV ?_⟩;refine⟨_,get,gV ?_⟩;refine .p hp (gV ?_);refine .sole rfl (.eff [] [0,1] _ _ rfl h1 (gV ?_));refine .eff [] [0,1] _ _ rfl (aA.strip t) (gV ?_);refine .eff [] [0,1] _ _ rfl h3 (gV ?_);refine aJ (gV ?_);exact To.part [7,97,98,99] [0,1] rfl rfl rfl next
def aNl(s:Sta)(w:Wr s)(B:ay)(e:B≠[]):∀(m i:Nat) (bs:ay),i+m=Z s.pend->Z bs+150*m<=20000->bs++uC (s.pend.drop i)++(C8.pl [(Z s.run:Int)]++qE s.run)=B->
  To E f67 (.pure (Io (GT [HA B,ii 0]))) (G0 (stk f67 1) [(1,.ptr s.cs),(7,G2 0 0),(69,CA 11 (pnv s.pend) J0),(70,GE Is (Z (pnv s.pend):Nat)),(71,ii (i:Int))] (enO bs 0)):=by
 have k:Z (pnv s.pend)=Z s.pend:=by simp
 have c:Z (rav s.run)=Z s.run:=by simp
 have u:=w.pen;have r:=w.run;intro m;induction m with
 | zero=>
  intro i bs t j a;rw[Ae o_]at a;have a:bs++[]++(C8.pl [(Z s.run:Int)]++qE s.run)=B:=a;rw[Ao,<-Ag]at a;have hm:∀n∈[(Z s.run:Int)],n<=9223372036854775807:=λn q=>by simp at q;omega
  have l:=C8.pl_len hm;simp only[Al,Bj]at l;have h1:=SW.nums_ok [(Z s.run:Int)] s_ hm s_ bs q_;have next:=aNk s w B e (Z s.run) 0 (bs++C8.pl [(Z s.run:Int)]) o_ (by rw[Ah];omega) a
  rw[<-c]at h1;rw[<-c]at next
  refine gV ?_;refine aF λh=>gV ?_;refine .eff [] [0,1] _ _ rfl (aA.strip h1) (gV ?_);exact To.part [7,97,98,99] [0,1] rfl rfl rfl next
 | succ m o=>
  intro i bs t j a;have b:i<Z s.pend:=o_;rw[Ac b]at a;have get:=wX b;obtain⟨d,f⟩:=w.pg s.pend[i] (Aq b);generalize s.pend[i]=x at a get d f;have a:bs++((C8.pl x.g.il++C8.pl [x.seq,x.at'])++uC (s.pend.drop (i+1)))++(C8.pl [(Z s.run:Int)]++qE s.run)=B:=a;rw[<-Ag bs,<-Ag bs]at a;have l:=BQ x.g d;have p:=C8.pl_len (qG f);simp only[Al,Bj]at p;have hp:=C8.pg_ok x.g d;have h1:=SW.ws_ok bs (C8.pl x.g.il) o_;have v:=SW.nums_ok [x.seq,x.at'] s_ (qG f) s_ (bs++C8.pl x.g.il) q_;have next:=o (i+1) _ o_ (by simp only[Ah];omega) a
  refine gV ?_;refine aT λh=>gV ?_;refine⟨i,rfl,gV ?_⟩;refine⟨_,get,gV ?_⟩;refine .p hp (gV ?_);refine .sole rfl (.eff [] [0,1] _ _ rfl h1 (gV ?_));refine .eff [] [0,1] _ _ rfl (aA.strip v) (gV ?_);refine aJ ?_;exact zqca55
def aQS{l:a6}{i:Nat}(h:i<Z l):(fv l)[i]? =X (GE IH (l[i]:Int)):=by simp[fv,h]
def aNm(s:Sta)(w:Wr s)(B:ay)(d:B≠[]):∀(m i:Nat) (bs:ay),i+m=Z s.hist->Z bs+8*m<=15000->bs++zH (s.hist.drop i)++(C8.pl [(Z s.pend:Int)]++(uC s.pend++(C8.pl [(Z s.run:Int)]++qE s.run)))=B->
  DE E f67 (GT [HA B,ii 0]) [(1,.ptr s.cs),(7,G2 0 0),(49,CA 1 (fv s.hist) J0),(50,GE Is (Z (fv s.hist):Nat)),(51,ii (i:Int))] (enO bs 0):=by
 have f:Z (fv s.hist)=Z s.hist:=by simp
 have b:Z (pnv s.pend)=Z s.pend:=by simp
 have p:=w.pen;have l:=w.his;intro m;induction m with
 | zero=>
  intro i bs o e a;rw[Ae o_]at a;have a:bs++[]++(C8.pl [(Z s.pend:Int)]++(uC s.pend++(C8.pl [(Z s.run:Int)]++qE s.run)))=B:=a;rw[Ao,<-Ag,<-Ag]at a;have hm:∀n∈[(Z s.pend:Int)],n<=9223372036854775807:=λn k=>by simp at k;omega
  have g:=C8.pl_len hm;simp only[Al,Bj]at g;have h1:=SW.nums_ok [(Z s.pend:Int)] s_ hm s_ bs q_;have next:=aNl s w B d (Z s.pend) 0 (bs++C8.pl [(Z s.pend:Int)]) o_ (by rw[Ah];omega) a
  rw[<-b]at h1;rw[<-b]at next
  refine gV ?_;refine aF λh=>gV ?_;exact .eff [] [0,1] _ _ rfl (aA.strip h1) zqca55
 | succ m j=>
  intro i bs o e a;have c:i<Z s.hist:=o_;rw[Ac c]at a;have get:=aQS c;generalize s.hist[i]=x at a get;have a:bs++(BT x++zH (s.hist.drop (i+1)))++(C8.pl [(Z s.pend:Int)]++(uC s.pend++(C8.pl [(Z s.run:Int)]++qE s.run)))=B:=a;rw[<-Ag bs]at a;have g:Z (BT x)=8:=mF x 8;have hp:=aLP x;have h1:=SW.ws_ok bs (BT x) o_;have next:=j (i+1) _ o_ (by simp only[Ah];omega) a
  refine gV ?_;refine aT λh=>gV ?_;refine⟨i,rfl,gV ?_⟩;refine⟨_,get,gV ?_⟩;refine .p hp (gV ?_);refine .sole rfl (.eff [] [0,1] _ _ rfl h1 (gV ?_));refine aJ (gV ?_);exact To.part [1,7,49,50,51] [0,1] rfl rfl rfl next
def enB(s:Sta):aw:=[Do 35 s.cs]
def aQ9(s:Sta):aw:=[.fcells s.cs]
def aQ8(s:Sta):ak [0] (enB s)=aQ9 s:=by kernel_rfl
def aNp(s:Sta):zJ [1] (aE (aQ9 s)) [(1,G2 0 0),(2,HA []),(3,ii 0)]=[(1,.ptr s.cs),(2,HA []),(3,ii 0)]:=by kernel_rfl
def aNo{g:Goal}{ks:bg}(s:Sta)(h:To E f67 g (.code ks [(1,.ptr s.cs),(2,HA []),(3,ii 0)] (aQ9 s))):To E f67 g (.code ks [(1,G2 0 0),(2,HA []),(3,ii 0)] (enB s)):=by refine To.frz [1] [0] ?_;rw[aQ8,aNp];exact h
def aQ7(s:Sta):ay:=if pI s=O then cG s else[]
def aKW(s:Sta)(r:s.c.sm)(hs:Sm s.run)(m:pI s=O->Wr s):bj 67 [s.av] (GT [HA (aQ7 s),ii (if pI s=O then 0 else 1)]):=by
 have a:=LU s r hs;unfold aQ7;cases j:pI s with
 | false=>
  rw[j]at a;have a:bj 110 [s.av] (ii 1):=a;show aA _ _ _ _ (Io (GT [HA [],ii 1])) _;refine c_ f67 λ_=>?_
  repeat' first|refine pA ?_|refine .p a ?_|exact rfl|refine lA ?_ ?_|intro h
 | true=>
  rw[j]at a;have a:bj 110 [s.av] (ii 0):=a;show aA _ _ _ _ (Io (GT [HA (cG s),ii 0])) _;have w:=m j;have d:bj 106 [s.cmd.av] (GT [HA (kG s),ii (C8.chk s.cmd)]):=C8.enc_ok s.cmd;have b:Z (fv s.hist)=Z s.hist:=by simp
  have q:=w.con;have p:=w.his;obtain⟨n1,n2,u,v⟩:=w.nums;have h1:=SW.nums_fresh (Z (kG s):Int) o_;rw[Bo]at h1;have t:Z (C8.putN (Z (kG s)))<=10:=by have:=C8.pn_len (n:=(Z (kG s):Int)) o_;rw[Bo]at this;omega
  have k:=SW.ws_ok (C8.putN (Z (kG s))) (kG s) o_;have hm:∀n∈[s.now,s.nxt,(Z s.hist:Int)],n<=9223372036854775807:=λn l=>by simp at l;omega
  have o:=C8.pl_len hm;simp only[Al,Bj]at o;have h3:=SW.nums_ok [s.now,s.nxt,(Z s.hist:Int)] s_ hm s_ (C8.putN (Z (kG s))++kG s) q_;have i:cG s≠[]:=by
   intro h;have:=congrArg List.length h;unfold cG at this;have e:C8.pl [s.now,s.nxt,(Z s.hist:Int)]≠[]:=C8.pl_ne _ _;have:=Dd.2 e;simp only[Ah,Bj]at *
   omega
  have next:=aNm s w (cG s) i (Z s.hist) 0 (C8.putN (Z (kG s))++kG s++C8.pl [s.now,s.nxt,(Z s.hist:Int)]) o_ (by simp only[Ah];omega) (by unfold cG;simp only[Ca,Ag])
  rw[<-b]at h3;rw[<-b]at next
  generalize kG s=C at d h1 k h3 next
  generalize cG s=B at next
  generalize C8.chk s.cmd=ck at d;refine c_ f67 λ_=>?_;refine bR hE 13 ?_;conv=>whnf
  refine To.cutC [1,2,3] 1 rfl rfl rfl rfl ?_;refine aNo s (gV ?_);refine .p a (gV ?_);refine Aa (λh=>bv h d_) (λ_=>gV ?_);refine .p d (gV ?_);refine .eff [] [1] _ _ rfl (aA.strip h1) (gV ?_);refine .eff [] [1,2] _ _ rfl k (gV ?_);refine .eff [] [1,2] _ _ rfl (aA.strip h3) (gV ?_);exact To.part [1,7,49,50,51] [1,2] rfl rfl rfl next
open C8 (leN P4 vT LL)
def QC(l:ay):aa:=if Z l<8 then GT [GE IH 0,GE Is 0,GE Is 10]else GT [GE IH (leN (l.take 8)),GE Is 8,GE Is 0]
def aEf(l:ay)(hl:8<=Z l):∀(f i:Nat),i+f=8->
  DE E f263 (GT [GE IH (leN (l.take 8)),GE Is 8,GE Is 0]) [(0,HA l),(5,GE IH (leN (l.take i))),(10,GE Is i)] []:=by
 intro f;induction f with
 | zero=>
  intro i n;have e:i=8:=o_;subst e;refine gV ?_;refine aF λh=>?_
  repeat' first|refine pA ?_|exact rfl|refine lA ?_ ?_|intro h
 | succ f j=>
  intro i n
  obtain⟨c,g⟩:∃c,l[i]? =X c:=⟨l[i]' o_,Ab o_⟩
  have k:c.toNat<256:=c.toNat_lt;have a:=P4 (l.take i);rw[Cs,Gw o_]at a;have p:2 ^ (8*(i+1))=256*2 ^ (8*i):=by rw[Hb,Fc];omega
  have o:c.toNat*2 ^ (8*i)<=255*2 ^ (8*i):=Bu _ o_;have q:2 ^ (8*(i+1))<=2 ^ 64:=Ep d_ o_;have b:(8*(i:Int)).toNat=8*i:=o_;have d:(c.toNat:Int)*2 ^ (8*i)=((c.toNat*2 ^ (8*i):Nat):Int):=by simp
  have m:dL .or IH (leN (l.take i):Int) ((c.toNat*2 ^ (8*i):Nat):Int)=((leN (l.take (i+1)):Nat):Int):=by rw[oP IH _ _ (by simp only[aX];omega) (by simp only[aX];omega),YV a,LL g,vT,Cs,Gw o_]
  have next:=j (i+1) o_
  refine gV ?_;refine aT λh=>gV ?_;refine⟨i,rfl,gV ?_⟩;refine⟨c,g,gV ?_⟩;refine Fu (Aa (show inR IntKind.u64 (c.toNat:Int)from lS (by simp only[aX];omega)) ?_);refine gV ?_;refine aJ (gV ?_);refine Aa (show(0:Int)<=8*(i:Int) by omega) ?_;refine gV ?_;refine Fu (Aa (Aa (by rw[b];simp only[IntKind.bits];omega) (by rw[b,d];exact lS (by simp only[aX];omega))) ?_);refine gV ?_;rw[b,d,m];refine aJ (gV ?_);exact To.part [0,5,10] [] rfl rfl rfl next
def aMS(l:ay):bj 263 [HA l] (QC l):=by
 unfold QC;by_cases h:Z l<8
 .rw [bu h];refine c_ f263 λ_=>gV ?_;refine Aa (λ_=>?_) (λh=>bv (bm h) o_)
  repeat' first|refine pA ?_|exact rfl|refine lA ?_ ?_|intro h
 .rw [bt h];have next:=aEf l o_ 8 0 rfl
  refine c_ f263 λ_=>gV ?_;refine Aa (λh=>bv (bn h) o_) (λ_=>?_)
  repeat' first|refine pA ?_|exact rfl|refine lA ?_ ?_|intro h
  exact To.part [0,5,10] [] rfl rfl rfl next
open C8 (leN bX eD rGan rdO rdU qV CY bF aU bP bY oW lF FI A5 cA fO tRd)
abbrev RSt:Type:=Option ((Sta×Bool)×ay)
def Con.nil:Con:=⟨[],[],0,0⟩
def Sta.nil:Sta:=⟨Con.nil,0,0,[],[],[]⟩
def A9:Nat->ax->ay->Option (ax×ay)
 | 0,hs,s=>X (hs,s)
 | m+1,hs,s=>match bX s with
  | none=>D
  | some (h,s)=>A9 m (hs++[h]) s
def rR(c:Con)(now nxt:Int)(b:a6)(d:ba):Nat->a7->ay->RSt
 | 0,rs,s=>X ((⟨c,now,nxt,d,rs,b⟩,s==[]),s)
 | m+1,rs,s=>match rGan s with
  | none=>D
  | some (g,s)=>match bX s with
   | none=>D
   | some (q,s)=>match bX s with
        | none=>D
        | some (a,s)=>match bX s with
         | none=>D
         | some (t,s)=>match bX s with
          | none=>D
          | some (f,s)=>if decide ((Z s:Int)<g.pods)=O then X ((⟨c,now,nxt,d,rs,b⟩,U),s)else match A9 g.pods.toNat [] s with
           | none=>D
           | some (hs,s)=>rR c now nxt b d m (rs++[⟨g,q,a,t,f,hs⟩]) s
def rRs(c:Con)(now nxt:Int)(a:a6)(b:ba)(s:ay):RSt:=match eD s with
 | none=>D
 | some (n,s)=>rR c now nxt a b n.toNat [] s
def rP(c:Con)(now nxt:Int)(b:a6):Nat->ba->ay->RSt
 | 0,ps,s=>rRs c now nxt b ps s
 | m+1,ps,s=>match rGan s with
  | none=>D
  | some (g,s)=>match bX s with
   | none=>D
   | some (q,s)=>match bX s with
        | none=>D
        | some (a,s)=>rP c now nxt b m (ps++[⟨g,q,a⟩]) s
def rPs(c:Con)(now nxt:Int)(a:a6)(s:ay):RSt:=match eD s with
 | none=>D
 | some (n,s)=>rP c now nxt a n.toNat [] s
def rH(c:Con)(now nxt:Int):Nat->a6->ay->RSt
 | 0,hi,s=>rPs c now nxt hi s
 | m+1,hi,s=>if Z s<8 then X ((⟨c,now,nxt,[],[],hi⟩,U),s)else rH c now nxt m (hi++[leN (s.take 8)]) (s.drop 8)
def rB(c:Con)(s:ay):RSt:=match bX s with
 | none=>D
 | some (now,s)=>match bX s with
  | none=>D
  | some (nxt,s)=>match eD s with
   | none=>D
   | some (n,s)=>rH c now nxt n.toNat [] s
def rSt(s:ay):RSt:=match eD s with
 | none=>D
 | some (n,s)=>match C8.dec (s.take n.toNat)with
  | none=>X ((Sta.nil,U),s)
  | some x=>if x.k=1 then rB x.c (s.drop n.toNat)else X ((Sta.nil,U),s)
def stR(p:Sta×Bool):aa:=GT [p.1.av,DA p.2]
abbrev reC(c:Con)(now nxt:Int)(p r h:aa):az:=[CA 11 (nav c.ns) J0,CA 6 (hav c.hs) J0,ii c.half,ii c.age,ii now,ii nxt,p,r,h]
def PG{s s':ay}{g:Gan}(h:rGan s=X (g,s')):Z s'+1<=Z s/\0<=g.pods/\g.pods<=9223372036854775807:=by
 unfold C8.rGan at h;split at h
 .cases h
 .rename_i h1;split at h
  .cases h
  .rename_i e;split at h
   .cases h
   .rename_i h3;split at h
    .cases h
    .rename_i c;split at h
     .cases h
     .rename_i f;split at h
      .cases h
      .rename_i b;split at h
       .cases h
       .rename_i d;cases h;have k:=cA h1;have i:=cA e;have a:=cA h3;have l:=C8.rVec_b c;have n:=cA f;have j:=cA b;have m:=cA d;exact⟨by omega,a.1,a.2.1⟩
abbrev reR(c:Con)(now nxt:Int)(hi:a6)(ps:ba)(rs:a7)(s:ay):aw:=[Do tRd [HA s],Do 35 (reC c now nxt (CA 11 (pnv ps) J0) (CA 14 (rav rs) (.own 2 0)) (CA 1 (fv hi) J0)),Fr 0 14 85]
abbrev reG(g:Gan)(q a t f:Int)(x:aa):az:=[ii g.id,ii g.ten,ii g.pods,ii g.need.a,ii g.need.b,ii g.need.c,ii g.run,ii g.lev,ii g.pref,ii q,ii a,ii t,ii f,x]
def aLn(c:Con)(now nxt:Int)(v:a6)(p:ba)(b:a7)(A:Z b<=1000000)(n:Int)(i:Nat)(C:(i:Int)<9223372036854775807)(g:Gan)(q a t f:Int)(hp:0<=g.pods/\g.pods<=9223372036854775807)(r:Res)(As:aw)(m:Nat)
  (w:∀(hs:ax) (s:ay),Z s<=1000000->Z b+Z s+1<=1000000->Z hs<=1000000->qV stR (rR c now nxt v p m (b++[⟨g,q,a,t,f,hs⟩]) s)=r->CY (rR c now nxt v p m (b++[⟨g,q,a,t,f,hs⟩]) s)=As->
   To E f198 (.full 1 r As) (G0 (stk f198 2) [(0,G2 0 0),(2,G2 1 0),(99,GE Is n),(100,GE Is ((i:Int)+1))] (reR c now nxt v p (b++[⟨g,q,a,t,f,hs⟩]) s))):
  ∀(k j:Nat) (s:ay) (hs:ax),(j+k:Int)=g.pods->Z hs+Z s<=1000000->Z b+Z s+1<=1000000->
   qV stR (match A9 k hs s with|none=>D|some (hs,s)=>rR c now nxt v p m (b++[⟨g,q,a,t,f,hs⟩]) s)=r->CY (match A9 k hs s with|none=>D|some (hs,s)=>rR c now nxt v p m (b++[⟨g,q,a,t,f,hs⟩]) s)=As->
  To E f198 (.full 1 r As) (G0 (stk f198 3) [(0,G2 0 0),(2,G2 1 0),(10,G2 3 0),(99,GE Is n),(100,GE Is i),(125,ii g.pods),(126,GE Is j)]
   (reR c now nxt v p b s++[Do 85 (reG g q a t f (CA 1 (iv hs) (.own 4 0))),Fr 0 1 3])):=by
 intro k;induction k with
 | zero=>
  intro j s hs Be hl x l d;have l:qV stR (rR c now nxt v p m (b++[⟨g,q,a,t,f,hs⟩]) s)=r:=l;have d:CY (rR c now nxt v p m (b++[⟨g,q,a,t,f,hs⟩]) s)=As:=d;have y:Z (rav b)=Z b:=by simp
  have next:=w hs s o_ x o_ l d
  have e:rav (b++[⟨g,q,a,t,f,hs⟩])=rav b++[Rn.av ⟨g,q,a,t,f,hs⟩]:=by simp
  unfold reR at next
  rw[e]at next
  refine gV ?_;refine aF λh=>?_
  repeat' first|refine pA ?_|refine⟨⟨by simp only[maxLen];simp;omega,by simp;omega⟩,?_⟩|exact rfl|refine lA ?_ ?_|intro h
  exact To.part [0,2,99,100] [0,1,2] rfl rfl rfl next
 | succ k z=>
  intro j s hs Be hl x l d;unfold A9 at l d;have y:Z (iv hs)=Z hs:=by simp
  refine gV ?_;refine aT λh=>?_;refine bR hE 3 ?_;conv=>whnf
  refine To.permC hE [0,1,2,6] [3,4,5,7] (by rfl) ?_;conv=>whnf
  refine aLC ?_;conv=>whnf
  refine aU (o:=bX s) (λh1=>?_) (λ⟨u,B⟩ h1=>?_)
  .simp only[h1]at l d;have l:Res.pan (bF 10)=r:=l;have d:rdU=As:=d;subst l d;exact zqca22
  simp only[h1]at l d;refine .eff [] [0] _ _ rfl (bP h1) ?_;have F:=cA h1;have next:=z (j+1) B (hs++[u]) o_ q_ o_ l d
  have e:iv (hs++[u])=iv hs++[ii u]:=by simp
  rw[e]at next;conv=>whnf
  refine aLC ?_;conv=>whnf;conv=>whnf
  refine aLC ?_;conv=>whnf
  refine⟨⟨by simp only[maxLen];simp;omega,by simp;omega⟩,?_⟩;conv=>whnf
  refine aLC ?_;conv=>whnf;conv=>whnf
  refine aLC ?_;conv=>whnf
  refine gV ?_;refine aJ (gV ?_);exact To.part [0,2,10,99,100,125,126] [0,1,2,3,4] rfl rfl rfl next
def aK8(c:Con)(now nxt:Int)(k:a6)(j:ba)(n:Int)(J:n<=9223372036854775807)(r:Res)(As:aw):∀(m i:Nat) (s:ay) (e:a7),(i+m:Int)=n->Z e+Z s<=1000000->qV stR (rR c now nxt k j m e s)=r->CY (rR c now nxt k j m e s)=As->
  To E f198 (.full 1 r As) (G0 (stk f198 2) [(0,G2 0 0),(2,G2 1 0),(99,GE Is n),(100,GE Is i)] (reR c now nxt k j e s)):=by
 intro m;induction m with
 | zero=>
  intro i s e v hl d b;have d:Res.ret (GT [Sta.av ⟨c,now,nxt,j,e,k⟩,DA (s==[])])=r:=d;have b:rdO s=As:=b;subst d b;refine gV ?_;refine aF λh=>?_;refine bR hE 2 ?_;conv=>whnf
  refine To.permC hE [0,1,2,3,4,5] [6,7] (by rfl) ?_;conv=>whnf
  refine aLC ?_;conv=>whnf;conv=>whnf
  refine aLC ?_;conv=>whnf;conv=>whnf
  refine aLC ?_;conv=>whnf
  refine gV ?_;exact zqca9
 | succ m z=>
  intro i s e v hl d b;unfold rR at d b;have y:Z (rav e)=Z e:=by simp
  refine gV ?_;refine aT λh=>gV ?_;refine aU (o:=rGan s) (λh1=>?_) (λ⟨g,A⟩ h1=>?_)
  .exact zqca33
  simp only[h1]at d b;refine .eff [] [0] _ _ rfl (FI h1) (gV ?_);refine aU (o:=bX A) (λp=>?_) (λ⟨q,B⟩ p=>?_)
  .simp only[p]at d b;have d:Res.pan (bF 10)=r:=d;have b:rdU=As:=b;subst d b;refine .effp [] [0] _ _ rfl (bY p) ?_;exact zx [0]
  simp only[p]at d b;refine .eff [] [0] _ _ rfl (bP p) (gV ?_);refine aU (o:=bX B) (λh3=>?_) (λ⟨a,Be⟩ h3=>?_)
  .exact zqca46
  simp only[h3]at d b;refine .eff [] [0] _ _ rfl (bP h3) (gV ?_);refine aU (o:=bX Be) (λl=>?_) (λ⟨t,F⟩ l=>?_)
  .simp only[l]at d b;have d:Res.pan (bF 10)=r:=d;have b:rdU=As:=b;subst d b;exact zqca49
  simp only[l]at d b;refine .eff [] [0] _ _ rfl (bP l) (gV ?_);refine aU (o:=bX F) (λu=>?_) (λ⟨f,x⟩ u=>?_)
  .simp only[u]at d b;have d:Res.pan (bF 10)=r:=d;have b:rdU=As:=b;subst d b;refine .effp [] [0] _ _ rfl (bY u) ?_;exact zx [0]
  simp only[u]at d b;refine .eff [] [0] _ _ rfl (bP u) ?_;have C:=PG h1;have N:=cA p;have K:=cA h3;have H:=cA l;have I:=cA u;refine gV ?_;refine Aa (λw=>?_) (λw=>?_)
  .rw [bu w]at d b;have d:Res.ret (GT [Sta.av ⟨c,now,nxt,j,e,k⟩,DA U])=r:=d;have b:rdO x=As:=b;subst d b;refine gV ?_;exact zqca9
  .rw [bt (by rw[w];decide)]at d b;refine gV ?_;refine To.part [0,2,10,99,100,125,126] [0,1,2,3] rfl rfl rfl ?_;refine To.begin 3 13 3 rfl rfl ?_;exact aLn c now nxt k j e o_ n i o_ g q a t f C.2 r As m (λhs s' L M G d b=>z (i+1) s' _ o_ q_ d b) g.pods.toNat 0 x [] o_ q_ o_ d b
abbrev reP(c:Con)(now nxt:Int)(hi:a6)(ps:ba)(s:ay):aw:=[Do tRd [HA s],Do 35 (reC c now nxt (CA 11 (pnv ps) (.own 2 0)) (CA 14 [] .nil) (CA 1 (fv hi) J0)),Fr 0 11 104]
def aLa(c:Con)(now nxt:Int)(l:a6)(n:Int)(A:n<=9223372036854775807)(r:Res)(As:aw):∀(m i:Nat) (s:ay) (f:ba),(i+m:Int)=n->Z f+Z s<=1000000->qV stR (rP c now nxt l m f s)=r->CY (rP c now nxt l m f s)=As->
  To E f198 (.full 1 r As) (G0 (stk f198 1) [(0,G2 0 0),(2,G2 1 0),(82,GE Is n),(83,GE Is i)] (reP c now nxt l f s)):=by
 intro m;induction m with
 | zero=>
  intro i s f p hl d b;unfold rP rRs at d b;refine gV ?_;refine aF λh=>gV ?_;refine aU (o:=eD s) (λh1=>?_) (λ⟨k,u⟩ h1=>?_)
  .simp only[h1]at d b;have d:Res.pan (bF 10)=r:=d;have b:rdU=As:=b;subst d b;refine .effp [] [0] _ _ rfl (lF h1) ?_;exact zx [0]
  simp only[h1]at d b;refine .eff [] [0] _ _ rfl (oW h1) ?_;have y:=fO h1;refine gV ?_;refine To.part [0,2,99,100] [0,1] rfl rfl rfl ?_;refine To.begin 1 7 85 rfl rfl ?_;exact aK8 c now nxt l f k o_ r As k.toNat 0 u [] o_ q_ d b
 | succ m w=>
  intro i s f p hl d b;unfold rP at d b;have v:Z (pnv f)=Z f:=by simp
  refine gV ?_;refine aT λh=>?_;refine bR hE 3 ?_;conv=>whnf
  refine To.permC hE [0,1,2,4,6,11] [3,5,7,8,9,10,12] (by rfl) ?_;conv=>whnf
  refine aLC ?_;conv=>whnf
  refine aU (o:=rGan s) (λh1=>?_) (λ⟨g,u⟩ h1=>?_)
  .exact zqca33
  simp only[h1]at d b;refine .eff [] [0] _ _ rfl (FI h1) ?_;conv=>whnf
  refine aLC ?_;conv=>whnf
  refine aU (o:=bX u) (λj=>?_) (λ⟨q,x⟩ j=>?_)
  .simp only[j]at d b;have d:Res.pan (bF 10)=r:=d;have b:rdU=As:=b;subst d b;refine .effp [] [0] _ _ rfl (bY j) ?_;exact zx [0]
  simp only[j]at d b;refine .eff [] [0] _ _ rfl (bP j) ?_;conv=>whnf
  refine aLC ?_;conv=>whnf
  refine aU (o:=bX x) (λh3=>?_) (λ⟨a,z⟩ h3=>?_)
  .exact zqca46
  simp only[h3]at d b;refine .eff [] [0] _ _ rfl (bP h3) ?_;conv=>whnf
  refine aLC ?_;conv=>whnf;conv=>whnf
  refine aLC ?_;conv=>whnf;conv=>whnf
  refine aLC ?_;conv=>whnf
  refine⟨⟨by simp only[maxLen];simp;omega,by simp;omega⟩,?_⟩;conv=>whnf
  refine aLC ?_;conv=>whnf;conv=>whnf
  refine aLC ?_;conv=>whnf
  refine gV ?_;refine aJ (gV ?_);refine To.part [0,2,82,83] [0,1,2] rfl rfl rfl ?_;have y:=PG h1;have C:=cA j;have B:=cA h3;have next:=w (i+1) z (f++[⟨g,q,a⟩]) o_ q_ d b
  have e:pnv (f++[⟨g,q,a⟩])=pnv f++[Pn.av ⟨g,q,a⟩]:=by simp
  unfold reP at next
  rw[e]at next
  exact next
abbrev reH(c:Con)(now nxt:Int)(hi:a6)(s:ay):aw:=[Do tRd [HA s],Do 35 (reC c now nxt (CA 11 [] .nil) (CA 14 [] .nil) (CA 1 (fv hi) (.own 2 0))),Fr 0 1 106]
def aLm(c:Con)(now nxt:Int)(n:Int)(u:n<=9223372036854775807)(r:Res)(As:aw):∀(m i:Nat) (s:ay) (d:a6),(i+m:Int)=n->Z d+Z s<=1000000->qV stR (rH c now nxt m d s)=r->CY (rH c now nxt m d s)=As->
  To E f198 (.full 1 r As) (BV f198 [(0,G2 0 0),(2,G2 1 0),(50,GE Is n),(51,GE Is i)] (reH c now nxt d s)):=by
 intro m;induction m with
 | zero=>
  intro i s d g hl b a;unfold rH rPs at b a;refine gV ?_;refine aF λh=>gV ?_;refine aU (o:=eD s) (λh1=>?_) (λ⟨k,q⟩ h1=>?_)
  .exact zqca17
  simp only[h1]at b a;refine .eff [] [0] _ _ rfl (oW h1) ?_;have v:=fO h1;refine gV ?_;refine To.part [0,2,82,83] [0,1] rfl rfl rfl ?_;refine To.begin 1 6 104 rfl rfl ?_;exact aLa c now nxt d k o_ r As k.toNat 0 q [] o_ q_ b a
 | succ m p=>
  intro i s d g hl b a;unfold rH at b a;have l:Z (fv d)=Z d:=by simp
  have f:=aMS s;unfold QC at f;by_cases j:Z s<8
  .rw [bu j]at b a f;have b:Res.ret (GT [Sta.av ⟨c,now,nxt,[],[],d⟩,DA U])=r:=b;have a:rdO s=As:=a;subst b a;refine gV ?_;refine aT λh=>gV ?_;exact .p f zqca41
  .rw [bt j]at b a f;have next:=p (i+1) (s.drop 8) (d++[leN (s.take 8)]) o_ q_ b a
   have e:fv (d++[leN (s.take 8)])=fv d++[GE IH ((leN (s.take 8):Nat):Int)]:=by simp
   unfold reH at next
   rw[e]at next
   refine gV ?_;refine aT λh=>gV ?_;refine .p f (gV ?_);refine Aa (λh=>bv h d_) (λ_=>gV ?_);refine⟨8,rfl,gV ?_⟩;refine⟨by omega,gV ?_⟩;refine⟨⟨by simp only[maxLen];simp;omega,by simp;omega⟩,?_⟩;refine gV ?_;refine aJ (gV ?_);exact To.part [0,2,50,51] [0,1,2] rfl rfl rfl next
def SX(s:ay)(hs:Z s<=1000000)(r:Res)(As:aw)(b:qV stR (rSt s)=r)(a:CY (rSt s)=As):ar 198 [G2 0 0] (rdO s) r As:=by
 unfold rSt at b a;refine eA E f198 1 λ_=>gV ?_;refine aU (o:=eD s) (λh1=>?_) (λ⟨n,e⟩ h1=>?_)
 .exact zqca17
 simp only[h1]at b a;refine .eff [] [0] _ _ rfl (oW h1) ?_;have C:=fO h1;have d:=C8.decode_ok (e.take n.toNat) q_;unfold C8.decX C8.decE at d;have i:n=((n.toNat:Nat):Int):=o_;refine aU (o:=C8.dec (e.take n.toNat)) (λp=>?_) (λx p=>?_)
 .simp only[p]at b a d;have d:bj 134 [HA (e.take n.toNat)] (GT [Cmd.zero.av,ii 10]):=d;have b:Res.ret (GT [Sta.av Sta.nil,DA U])=r:=b;have a:rdO e=As:=a;subst b a;refine gV ?_;refine⟨n.toNat,i,gV ?_⟩;refine⟨by omega,gV ?_⟩;refine .p d (gV ?_);refine Aa (λ_=>?_) (λh=>bv h d_);exact zqca41
 .simp only[p]at b a d;have d:bj 134 [HA (e.take n.toNat)] (GT [x.av,ii 0]):=d;by_cases m:x.k=1
  .rw [bu m]at b a;unfold rB at b a;refine gV ?_;refine⟨n.toNat,i,gV ?_⟩;refine⟨by omega,gV ?_⟩;refine .p d (gV ?_);refine Aa (λh=>bv h d_) (λ_=>gV ?_);refine Aa (λh=>bv h (by simp[m])) (λ_=>gV ?_);refine⟨n.toNat,i,gV ?_⟩;refine⟨by omega,?_⟩;refine bR hE 13 ?_;conv=>whnf
   refine To.permC hE [0,1,2,4,6,8,10] [3,5,7,9,11] (by rfl) ?_;conv=>whnf
   refine aLC ?_;conv=>whnf
   refine aU (o:=bX (e.drop n.toNat)) (λh3=>?_) (λ⟨now,q⟩ h3=>?_)
   .simp only[h3]at b a;have b:Res.pan (bF 10)=r:=b;have a:rdU=As:=a;subst b a;exact zqca21
   simp only[h3]at b a;refine .eff [] [0] _ _ rfl (bP h3) ?_;have B:=cA h3;conv=>whnf
   refine aLC ?_;conv=>whnf
   refine aU (o:=bX q) (λj=>?_) (λ⟨nxt,u⟩ j=>?_)
   .simp only[j]at b a;have b:Res.pan (bF 10)=r:=b;have a:rdU=As:=a;subst b a;refine .effp [] [0] _ _ rfl (bY j) ?_;exact zx [0]
   simp only[j]at b a;refine .eff [] [0] _ _ rfl (bP j) ?_;have y:=cA j;conv=>whnf
   refine aLC ?_;conv=>whnf;conv=>whnf
   refine aLC ?_;conv=>whnf;conv=>whnf
   refine aLC ?_;conv=>whnf;conv=>whnf
   refine aLC ?_;conv=>whnf
   refine gV ?_;refine aU (o:=eD u) (λl=>?_) (λ⟨k,v⟩ l=>?_)
   .simp only[l]at b a;have b:Res.pan (bF 10)=r:=b;have a:rdU=As:=a;subst b a;refine .effp [] [0] _ _ rfl (lF l) ?_;exact zx [0]
   simp only[l]at b a;refine .eff [] [0] _ _ rfl (oW l) ?_;have z:=fO l;have w:Z (e.drop n.toNat)<=Z e:=by simp
   refine gV ?_;refine To.part [0,2,50,51] [0,1] rfl rfl rfl ?_;refine To.begin 1 8 106 rfl rfl ?_;exact aLm x.c now nxt k o_ r As k.toNat 0 v [] o_ q_ b a
  .rw [bt m]at b a;have b:Res.ret (GT [Sta.av Sta.nil,DA U])=r:=b;have a:rdO e=As:=a;subst b a;refine gV ?_;refine⟨n.toNat,i,gV ?_⟩;refine⟨by omega,gV ?_⟩;refine .p d (gV ?_);refine Aa (λh=>bv h d_) (λ_=>gV ?_);refine Aa (λ_=>?_) (λh=>bv h (by simp[m]));refine To.loose (gV ?_);exact zqca9
def aLu{s s':ay}(hs:Z s<=1000000){x:Sta}{b:Bool}(h:rSt s=X ((x,b),s')):ar 198 [G2 0 0] (rdO s) (Io (GT [x.av,DA b])) (rdO s'):=SX s hs _ _ (by rw[h];rfl) (by rw[h];rfl)
def aGW{s:ay}(hs:Z s<=1000000)(h:rSt s=D):ar 198 [G2 0 0] (rdO s) (.pan (bF 10)) rdU:=SX s hs _ _ (by rw[h];rfl) (by rw[h];rfl)
open C8 (bX eD rGan rdO rdU bF aU cA fO tRd)
abbrev zSt:az:=[CA 11 [] .nil,CA 6 [] .nil,ii 0,ii 0,ii 0,ii 0,CA 11 [] .nil,CA 14 [] .nil,CA 1 [] .nil]
abbrev deO(s:ay):aw:=[Do 9 [HA s],Do 35 zSt,Do 4 [DA U]]
abbrev deX(s:ay)(x:Sta)(b:Bool):aw:=[Do 9 [HA s],Do 35 x.cs,Do 4 [DA b]]
abbrev deU:aw:=yI (λ_=>.undef) (deO [])
def aRp{s s':ay}(hs:Z s<=1000000){x:Sta}{b:Bool}(h:rSt s=X ((x,b),s')):ar 197 [G2 0 0,G2 1 0,G2 2 0] (deO s) (Io (GT [])) (deX s x b):=by refine eA E f197 3 λ_=>gV ?_;refine .eff [] [3] _ _ rfl (aLu hs h) (gV ?_);exact zx [0,1,2]
def aNO{s:ay}(hs:Z s<=1000000)(h:rSt s=D):ar 197 [G2 0 0,G2 1 0,G2 2 0] (deO s) (.pan (bF 10)) deU:=by refine aA.blur (ap:=deO s) ?_;refine eA E f197 3 λ_=>gV ?_;refine .effp [] [3] _ _ rfl (aGW hs h) ?_;exact zx [0,1,2]
abbrev dV:aa:=.func (.func 197) [] [G2 0 0,G2 1 0,G2 2 0]
def aKL{s s':ay}(hs:Z s<=1000000){x:Sta}{b:Bool}(h:rSt s=X ((x,b),s')):ar 192 [dV] (deO s) (Io (ii 0)) (deX s x b):=by
 refine eA E f192 3 λ_=>gV ?_;refine To.defer (f:=141) (args:=[G2 3 0]) _ rfl rfl ?_;refine gW C8.hEt ?_;conv=>whnf
 refine .eff [] [0,1,2] _ _ rfl (aRp hs h) ?_;refine gW C8.hEt ?_;conv=>whnf
 refine To.leave (f:=141) (args:=[G2 3 0]) [] rfl [] [3] rfl (C8.catch_ret 0) ?_;exact zqca18
def aFI{s:ay}(hs:Z s<=1000000)(h:rSt s=D):ar 192 [dV] (deO s) (Io (ii 10)) deU:=by
 refine eA E f192 3 λ_=>gV ?_;refine To.defer (f:=141) (args:=[G2 3 0]) _ rfl rfl ?_;refine gW C8.hEt ?_;conv=>whnf
 refine .effp [] [0,1,2] _ _ rfl (aNO hs h) ?_;conv=>whnf
 refine To.leave (f:=141) (args:=[G2 3 0]) [] rfl [] [3] rfl (C8.catch_pan 0 10) ?_;exact zqca18
def aHb:∀(m:Nat) (hs:ax) (s:ay) (hs':ax) (s':ay),A9 m hs s=X (hs',s')->Z hs'+Z s'<=Z hs+Z s
 | 0,hs,s,hs',s',h=>by cases h;exact Bc _
 | m+1,hs,s,hs',s',h=>by
  unfold A9 at h;split at h
  .cases h
  .rename_i h1;have b:=cA h1;have:=aHb m _ _ _ _ h;simp at this;omega
def aSl(c:Con)(now nxt:Int)(e:a6)(d:ba)(N:Nat):∀(m:Nat) (a:a7) (s:ay) (x:Sta) (b:Bool) (s':ay),rR c now nxt e d m a s=X ((x,b),s')->Z a+Z s<=N->(∀y∈a,Z y.hs<=N)->x.c=c/\Z x.run<=N/\∀y∈x.run,Z y.hs<=N
 | 0,a,s,x,b,s',h,hl,hy=>by cases h;exact⟨rfl,by show Z a<=N;omega,hy⟩
 | m+1,a,s,x,b,s',h,hl,hy=>by
  unfold rR at h;split at h
  .cases h
  .rename_i h1;split at h
   .cases h
   .rename_i i;split at h
    .cases h
    .rename_i h3;split at h
     .cases h
     .rename_i g;split at h
      .cases h
      .rename_i j;have r:=PG h1;have q:=cA i;have o:=cA h3;have l:=cA g;have n:=cA j;split at h
       .cases h;exact⟨rfl,by show Z a<=N;omega,hy⟩
       .split at h
        .cases h
        .rename_i hs' p k;have f:=aHb _ _ _ _ _ k;simp at f;refine aSl c now nxt e d N m _ _ x b s' h q_ λy hm=>?_;rcases Cc.1 hm with hm|hm
         .exact hy y hm
         .rw [List.mem_singleton]at hm;subst hm;show Z hs'<=N;omega
def aSm(c:Con)(now nxt:Int)(d:a6)(N:Nat):∀(m:Nat) (a:ba) (s:ay) (x:Sta) (b:Bool) (s':ay),rP c now nxt d m a s=X ((x,b),s')->Z s<=N->x.c=c/\Z x.run<=N/\∀y∈x.run,Z y.hs<=N
 | 0,a,s,x,b,s',h,hl=>by
  unfold rP rRs at h;split at h
  .cases h
  .rename_i h1;have f:=fO h1;exact aSl c now nxt d a N _ _ _ x b s' h q_ λy e=>by cases e
 | m+1,a,s,x,b,s',h,hl=>by
  unfold rP at h;split at h
  .cases h
  .rename_i h1;split at h
   .cases h
   .rename_i g;split at h
    .cases h
    .rename_i h3;have f:=PG h1;have j:=cA g;have i:=cA h3;exact aSm c now nxt d N m _ _ x b s' h o_
def aSn(c:Con)(now nxt:Int)(N:Nat):∀(m:Nat) (a:a6) (s:ay) (x:Sta) (b:Bool) (s':ay),rH c now nxt m a s=X ((x,b),s')->Z s<=N->x.c=c/\Z x.run<=N/\∀y∈x.run,Z y.hs<=N
 | 0,a,s,x,b,s',h,hl=>by
  unfold rH rPs at h;split at h
  .cases h
  .rename_i h1;have e:=fO h1;exact aSm c now nxt a N _ _ _ x b s' h o_
 | m+1,a,s,x,b,s',h,hl=>by
  unfold rH at h;split at h
  .cases h;exact⟨rfl,Bq _,λy d=>by cases d⟩
  .exact aSn c now nxt N m _ _ x b s' h q_
def aSk{s s':ay}{x:Sta}{b:Bool}(h:rSt s=X ((x,b),s'))(hl:Z s<=1000000):x.c.sm/\Sm x.run:=by
 unfold rSt at h;split at h
 .cases h
 .rename_i n q h1;have t:=fO h1;split at h
  .cases h;exact⟨⟨Bq _,Bq _⟩,Bq _,λy d=>by cases d⟩
  .rename_i y a;have e:C8.chk y=0:=by
    unfold C8.dec at a;split at a
    .split at a
     .rename_i l;cases a;exact l.2
     .cases a
    .cases a
   have T:=C8.chk_told e;have o:=T.ln;have g:=T.lh;simp only[Bw]at o g;split at h
   .unfold rB at h;split at h
    .cases h
    .rename_i h3;split at h
     .cases h
     .rename_i k;split at h
      .cases h
      .rename_i m;have f:=cA h3;have p:=cA k;have r:=fO m;simp only[Dt]at f;obtain⟨i,u,j⟩:=aSn y.c _ _ 1000000 _ _ _ x b s' h o_;rw[i];exact⟨⟨by omega,by omega⟩,by omega,λz hz=>by have:=j z hz;omega⟩
   .cases h;exact⟨⟨Bq _,Bq _⟩,Bq _,λy d=>by cases d⟩
def aEE(s:ay):Option Sta:=match rSt s with
 | some ((x,b),_)=>if b=O/\pI x=O then X x else D
 | none=>D
def aF0(s:ay):Sta:=(aEE s).getD Sta.nil
def aRo(s:ay):Int:=match aEE s with|some _=>0|none=>10
def aKZ(s:ay)(hs:Z s<=1000000):bj 135 [HA s] (GT [(aF0 s).av,ii (aRo s)]):=by
 unfold aF0 aRo aEE;refine c_ f135 λ_=>gV ?_;refine aU (o:=rSt s) (λh=>?_) (λ⟨⟨x,b⟩,s'⟩ h=>?_)
 .simp only[h];refine .eff [] [0,2,3] _ _ rfl (aFI hs h) ?_
  repeat' first|refine pA ?_|exact rfl|refine lA ?_ ?_|intro h
 .obtain ⟨e,d⟩:=aSk h hs;have a:=LU x e d;simp only[h];refine .eff [] [0,2,3] _ _ rfl (aKL hs h) ?_;cases b with
  | false=>
   rw[bt (λq=>bv q.1 d_)]
   repeat' first|refine pA ?_|exact rfl|refine lA ?_ ?_|intro h
  | true=>
   cases c:pI x with
   | false=>
    rw[c]at a;have a:bj 110 [x.av] (ii 1):=a;rw[bt (λq=>bv q.2 d_)]
    repeat' first|refine pA ?_|refine .p a ?_|exact rfl|refine lA ?_ ?_|intro h
   | true=>
    rw[c]at a;have a:bj 110 [x.av] (ii 0):=a;rw[bu ⟨rfl,rfl⟩]
    repeat' first|refine pA ?_|refine .p a ?_|exact rfl|refine lA ?_ ?_|intro h
open C8 (leN bX eD rGan bJ qX gX pl putN)
theorem CD{v:V3}(h:aS v=O):okI v.l=true:=by unfold aS at h;simp only[Af,bo]at h;simp only[V3.l,okI,kW,Af,bo,and_true];omega
def aE8{v:V3}(h:zB v=O):okI v.l=true:=by unfold zB at h;simp at h;simp only[V3.l,okI,kW,Af,bo,and_true];omega
def aHM{bl:Bool}{i:Nat}{x:Nod}(c:i<=100)(h:mO bl i x=O):x.ok=true:=by
 unfold mO at h;by_cases a:tJ i x
 .rw [bu a]at h;cases h
 .rw [bt a]at h;unfold tJ at a;have h3:okI x.n.l=O/\okI x.b.l=O/\okI x.l.l=true:=by
   cases bl with
   | true=>
    simp only[if_true,Af]at h
    grind[CD]
   | false=>
    rw[bt d_]at h;simp only[Af]at h;exact⟨aE8 h.1,aE8 h.2.1,aE8 h.2.2⟩
  unfold Nod.ok;rw[h3.1,h3.2.1,h3.2.2];exact zqca27
def MG(ns:bf):∀(l:bf) (i:Nat),i+Z l<=100->jW ns i l=O->uL l=O
 | [],_,_,_=>rfl
 | x::r,i,hi,h=>by
  unfold jW at h;simp at hi;by_cases a:mO (rlB ns i) i x=O
  .rw [bu a]at h;unfold uL;rw[aHM o_ a,MG ns r (i+1) o_ h];rfl
  .rw [bt a]at h;cases h
def aIk{x:Hos}(h:jZ x=O):x.ok=true:=by
 unfold jZ at h;by_cases a:DU x
 .rw [bu a]at h;cases h
 .rw [bt a]at h;unfold DU at a;unfold Hos.ok;rw[CD h];exact zqca27
def UU:∀(l:List Hos),l.all jZ=O->nH l=O
 | [],_=>rfl
 | x::r,h=>by rw[Hw,Af]at h;unfold nH;rw[aIk h.1,UU r h.2];rfl
theorem NY{c:Con}(h:bL c=0):c.tok=O/\Z c.ns<=12/\Z c.hs<=24:=by
 unfold bL at h;by_cases h1:yX c
 .rw [bu h1]at h;by_cases a:jW c.ns 0 c.ns=O
  .rw [bu a]at h;by_cases h3:c.hs.all jZ=O
   .unfold yX at h1;refine⟨?_,h1.1.2,h1.2.1.2⟩;unfold Con.tok;rw[MG c.ns c.ns 0 o_ a,UU _ h3];simp only[Bool.and_self,Bz,okI,kW,Af,bo,and_true];omega
   .rw [bt h3]at h;cases h
  .rw [bt a]at h;cases h
 .rw [bt h1]at h;cases h
theorem NM{c:Con}(h:hC c=O):c.tok=O/\Z c.ns<=12/\Z c.hs<=24:=by unfold hC at h;simp only[Af,bo]at h;obtain⟨ns,hs,half,age⟩:=c;obtain⟨h1,b,h3,a⟩:=h;simp only at h1 b h3 a;subst h1 b h3 a;exact⟨rfl,by simp,by simp⟩
def aAP{c:Con}(h:c.tok=O)(f:Z c.ns<=12)(e:Z c.hs<=24):C8.chk ⟨1,c,Gan.zero,0⟩=0:=by
 have a:(Z (nav c.ns):Int)<=12:=by simp;omega
 have d:(Z (hav c.hs):Int)<=24:=by simp;omega
 have b:C8.chkL ⟨1,c,Gan.zero,0⟩=0:=by unfold C8.chkL;rw[bq a,bq d];rfl
 unfold C8.chk C8.chk2 C8.chk3 C8.chk4 C8.chkC C8.chkG C8.chkN;rw[b,h];rfl
def aCB{s:Sta}(h:pI s=O):C8.chk s.cmd=0:=by
 unfold pI UY at h;simp only[Af,Fo,bo]at h;obtain⟨⟨h1,_⟩,_⟩:=h;rcases h1 with h1|h1
 .obtain ⟨a,b,c⟩:=NM h1;exact aAP a b c
 .obtain ⟨a,b,c⟩:=NY h1;exact aAP a b c
def Y1{c:Con}{t:Int}(h:bD c.ns t=O):0<=t/\t<(Z c.ns:Int):=by
 unfold bD at h
 grind
def U6{c:Con}{g:Gan}(d:Z c.ns<=12)(h:dZ c g=0):g.ok=true:=by obtain⟨h1,b⟩:=rM.1 h;have h3:=Y1 b;unfold K8 at h1;simp only[Af,bo]at h1;have a:=CD h1.2.1;unfold Gan.ok;rw[a];exact zqca27
def aCD{s:Sta}(h:pI s=O):(s.c.tok=O/\Z s.c.ns<=12/\Z s.c.hs<=24)/\(∀x∈s.c.hs,0<=x.f/\x.f<=100)/\(0<=s.now/\s.now<=1099511627776)/\(1<=s.nxt/\s.nxt<=1099511627776)/\Z s.hist=Z s.c.ns/\Z s.pend+Z s.run<=32:=by
 unfold pI UY at h;simp only[Af,Fo,bo]at h;obtain⟨⟨h1,j,h3,g,k⟩,_⟩:=h;refine⟨?_,?_,j,h3,g,k⟩
 .grind [NM,NY]
 .intro x i;rcases h1 with h1|h1
  .unfold hC at h1
   grind
  .unfold bL at h1;by_cases b:yX s.c
   .rw [bu b]at h1;by_cases d:jW s.c.ns 0 s.c.ns=O
    .rw [bu d]at h1;by_cases a:s.c.hs.all jZ=O
     .have:=Cj.1 a x i;unfold jZ at this;by_cases e:DU x
      .rw [bu e]at this;cases this
      .unfold DU at e;omega
     .rw [bt a]at h1;cases h1
    .rw [bt d]at h1;cases h1
   .rw [bt b]at h1;cases h1
def V5{s:Sta}(h:pI s=O):Z (kG s)<=3000:=by
 obtain⟨⟨h1,m,h3⟩,_⟩:=aCD h;have e:kG s=pl s.cmd.il:=bu (aCB h);rw[e];have key:∀(l:ax),okI l=O->Z (pl l)<=10*Z l:=λl hl=>C8.pl_len (qG hl);have d:∀(l:bf),uL l=O->Z (pl (C8.nodL l))<=110*Z l:=by
  intro l;induction l with
  | nil=>intro _;simp[C8.nodL,pl]
  | cons x r a=>
   intro hl;unfold uL at hl;rw[Af]at hl;have e:C8.nodL (x::r)=x.il++C8.nodL r:=rfl
   grind[C8.pl_append,Ah,C8.il_len,Al]
 have b:∀(l:List Hos),nH l=O->Z (pl (C8.hosL l))<=60*Z l:=by
  intro l;induction l with
  | nil=>intro _;simp[C8.hosL,pl]
  | cons x r a=>
   intro hl;unfold nH at hl;rw[Af]at hl;have e:C8.hosL (x::r)=x.il++C8.hosL r:=rfl
   grind[C8.pl_append,Ah,C8.ih_len,Al]
 unfold Con.tok at h1;simp only[Af]at h1;have f:=d _ h1.1.1;have i:=b _ h1.1.2;have g:=key [(1:Int)] rfl;have j:Z (pl [(Z (nav s.c.ns):Int)])<=10:=by grind[C8.pl_len]
 have o:Z (pl [(Z (hav s.c.hs):Int)])<=10:=by grind[C8.pl_len]
 have k:=key [s.c.half,s.c.age] h1.2;have n:s.cmd.il=[(1:Int)]++([(Z (nav s.c.ns):Int)]++(C8.nodL s.c.ns++([(Z (hav s.c.hs):Int)]++(C8.hosL s.c.hs++[s.c.half,s.c.age])))):=rfl
 grind[C8.pl_append,Ah,Al,Bj]
def aAj{s:Sta}(h:pI s=O):Wr s:=by
 obtain⟨⟨h1,w,h3⟩,B,t,F,K,I⟩:=aCD h;have i:=h;unfold pI at i;simp only[Af,Cj]at i;refine⟨Cp (V5 h) d_,⟨t.1,t.2,by omega,F.2⟩,by omega,by omega,by omega,λx j=>?_,λx j=>?_⟩
 .have a:=i.2.2.1.1 x j;unfold pnB at a;simp only[Af,bo]at a;refine⟨U6 w a.1,?_⟩;have:=a.2.2;exact zqca27
 .have a:=i.2.2.1.2 x j;have G:=(aCC h j).chk;obtain⟨q,d⟩:=Q1 G;rw[BR]at d;unfold pnB rnB at a;simp only[Af,bo]at a;obtain⟨⟨o,_,p⟩,⟨J,H⟩,_,m⟩:=a;have hp:=zI o;have z:1<=x.g.pods/\x.g.pods<=16:=hp;have b:x.hs≠[]:=λe=>by rw[e]at q;simp at q;omega
  have Be:0<=x.fl/\x.fl<=100:=by
   cases n:x.hs with
   | nil=>exact bv n b
   | cons u r=>
    have k:=d u (by rw[n];exact Aw ..);rw[n]at m;have m:(bE s.c.hs u).f=x.fl:=m;have A:u.toNat<Z s.c.hs:=o_;have hm:bE s.c.hs u∈s.c.hs:=by
     unfold bE
     grind[Ab,Aq]
    have:=B _ hm;omega
  have p:(0<=x.seq/\x.seq<s.nxt)/\0<=x.at'/\x.at'<=s.now:=p;refine⟨U6 w o,?_,?_,b,by omega⟩
  .exact zqca27
  .have key:∀(l:ax),(∀u∈l,0<=u/\u<(Z s.c.hs:Int))->okI l=true:=by
    intro l;induction l with
    | nil=>intro _;rfl
    | cons u r y=>
     intro hl;have k:=hl u (Aw ..);unfold okI;rw[y λv C=>hl v (Bb _ C)];simp only[kW,Af,bo,and_true];omega
   exact key x.hs λu k=>⟨(d u k).1,(d u k).2.1⟩
open C8 (leN P4 vT bX eD rGan bJ qX gX pl putN cA fO)
def UP(x:Nat):∀(i:Nat),leN (KV x i)=x % 2 ^ (8*i)
 | 0=>by simp[KV,leN,Nat.mod_one]
 | i+1=>by rw[NB,vT,mF,UP x i];unfold NC;rw[Hg,Nat.mod_mod,Hb,Fc,Nat.mod_mul,De (2 ^ (8*i)),show(2:Nat) ^ (8*1)=256 from rfl]
def aMq{x:Nat}(h:x<18446744073709551616):leN (BT x)=x:=by unfold BT;rw[UP,Hz o_]
def HI(c:Con)(now nxt:Int):∀(l a:a6) (s:ay),(∀x∈l,x<18446744073709551616)->rH c now nxt (Z l) a (zH l++s)=rPs c now nxt (a++l) s
 | [],a,s,_=>by rw[Ao];rfl
 | x::r,a,s,h=>by
  have hl:Z (BT x)=8:=mF x 8;have e:zH (x::r)++s=BT x++(zH r++s):=by rw[<-Ag];rfl
  rw[e,Al];unfold rH;rw[bt (by rw[Ah];omega)];have d:(BT x++(zH r++s)).take 8=BT x:=by rw[Ek o_,Bl o_]
  have f:(BT x++(zH r++s)).drop 8=zH r++s:=by rw[<-hl,Li]
  rw[d,f,aMq (h x (Aw ..)),HI c now nxt r _ s λy b=>h y (Bb _ b),Ag];rfl
def aP7(a b:Int)(s:ay):pl [a,b]++s=putN a.toNat++(putN b.toNat++s):=by simp[pl]
def ok2{a b:Int}(h:okI [a,b]=O):(0<=a/\a<=1099511627777)/\0<=b/\b<=1099511627777:=by have h1:=C8.okI_b h a s_;have c:=C8.okI_b h b s_;omega
def aG8(c:Con)(now nxt:Int)(b:a6):∀(l a:ba) (s:ay),(∀x∈l,x.g.ok=O/\okI [x.seq,x.at']=O)->rP c now nxt b (Z l) a (uC l++s)=rRs c now nxt b (a++l) s
 | [],a,s,_=>by rw[Ao];rfl
 | x::r,a,s,h=>by
  obtain⟨h1,j⟩:=h x (Aw ..);obtain⟨f,d⟩:=ok2 j;have e:uC (x::r)++s=pl x.g.il++(putN x.seq.toNat++(putN x.at'.toNat++(uC r++s))):=by rw[<-aP7];show(pl x.g.il++pl [x.seq,x.at']++uC r)++s=_;simp only[Ag]
  rw[e,Al];unfold rP;rw[qX h1];dsimp only;rw[bJ f.1 f.2];dsimp only;rw[bJ d.1 d.2];dsimp only;rw[aG8 c now nxt b r _ s λy i=>h y (Bb _ i),Ag];rfl
def A8:∀(l a:ax) (s:ay),okI l=O->A9 (Z l) a (pl l++s)=X (a++l,s)
 | [],a,s,_=>by rw[Ao];rfl
 | x::r,a,s,h=>by
  have b:=C8.okI_b h x (Aw ..);have e:pl (x::r)++s=putN x.toNat++(pl r++s):=by simp[pl]
  have c:okI r=true:=by unfold okI at h;rw[Af]at h;exact h.2
  rw[e,Al];unfold A9;rw[bJ b.1 o_];dsimp only;rw[A8 r _ s c,Ag];rfl
def aBp:∀(l:ax),Z l<=Z (pl l)
 | []=>Bq _
 | x::r=>by have:=aBp r;have:=C8.putN_pos x.toNat;simp only[pl,Ah,Al];omega
def aG7(c:Con)(now nxt:Int)(f:a6)(d:ba):∀(l a:a7),(∀x∈l,(Z x.hs:Int)=x.g.pods/\x.g.ok=O/\okI [x.seq,x.at',x.st,x.fl]=O/\okI x.hs=O)->rR c now nxt f d (Z l) a (qE l)=X ((⟨c,now,nxt,d,a++l,f⟩,O),[])
 | [],a,_=>by rw[Ao];rfl
 | x::r,a,h=>by
  obtain⟨p,h1,b,h3⟩:=h x (Aw ..);have n:=C8.okI_b b x.seq s_;have m:=C8.okI_b b x.at' s_;have k:=C8.okI_b b x.st s_;have i:=C8.okI_b b x.fl s_;have e:qE (x::r)=pl x.g.il++(putN x.seq.toNat++(putN x.at'.toNat++(putN x.st.toNat++(putN x.fl.toNat++(pl x.hs++qE r))))):=by show(pl x.g.il++pl [x.seq,x.at',x.st,x.fl]++pl x.hs)++qE r=_;simp[pl]
  rw[e,Al];unfold rR;rw[qX h1];dsimp only;rw[bJ n.1 o_];dsimp only;rw[bJ m.1 o_];dsimp only;rw[bJ k.1 o_];dsimp only;rw[bJ i.1 o_];dsimp only;have o:=aBp x.hs;rw[bt (by grind[bp,Ah]),show x.g.pods.toNat=Z x.hs from by omega,A8 _ _ _ h3];dsimp only;rw[aG7 c now nxt f d r _ λy j=>h y (Bb _ j),Ag];rfl
def IU:∀(l:a6),Z (zH l)=8*Z l
 | []=>rfl
 | x::r=>by have:Z (BT x)=8:=mF x 8;unfold zH;rw[Ah,IU r,Al];omega
def TR:∀(l:ba),Z l<=Z (uC l)
 | []=>Bq _
 | x::r=>by
  have h1:=TR r;have a:=aBp [x.seq,x.at'];unfold uC;simp only[Ah,Al,Bj]at *
  omega
def SI:∀(l:a7),Z l<=Z (qE l)
 | []=>Bq _
 | x::r=>by
  have h1:=SI r;have a:=aBp [x.seq,x.at',x.st,x.fl];unfold qE;simp only[Ah,Al,Bj]at *
  omega
def aLy{s:Sta}(h:pI s=O)(c:∀x∈s.hist,x<18446744073709551616):rSt (cG s)=X ((s,O),[]):=by
 have w:=aAj h;have a:=aCB h;obtain⟨q,⟨n1,n2,l,u⟩,v,o,r,m,j⟩:=w;have f:C8.dec (kG s)=X s.cmd:=by have e:kG s=pl s.cmd.il:=bu a;unfold C8.dec;rw[e,C8.rCmd_put (C8.chk_told a)];exact bu ⟨rfl,a⟩
 have t:=IU s.hist;have n:=TR s.pend;have p:=SI s.run;have e:cG s=putN (Z (kG s):Int).toNat++(kG s++(putN s.now.toNat++(putN s.nxt.toNat++(putN (Z s.hist:Int).toNat++(zH s.hist++(putN (Z s.pend:Int).toNat++(uC s.pend++(putN (Z s.run:Int).toNat++qE s.run)))))))):=by unfold cG;simp[pl]
 rw[e];unfold rSt;rw[gX o_ o_ _ (by rw[Ah];omega)];dsimp only;rw[Bo,List.take_left,Li,f];dsimp only;rw[bu (show s.cmd.k=1 from rfl)];unfold rB;rw[bJ n1 o_];dsimp only;rw[bJ l o_];dsimp only;rw[gX o_ o_ _ (by rw[Ah];omega)];dsimp only;rw[Bo,HI _ _ _ _ _ _ c];unfold rPs;rw[gX o_ o_ _ (by rw[Ah];omega)];dsimp only;rw[Bo,aG8 _ _ _ _ _ _ _ m];unfold rRs;rw[gX o_ o_ _ o_];dsimp only;rw[Bo,aG7 _ _ _ _ _ _ _ λx b=>?_]
 .rfl
 .obtain ⟨g,i,d,_,_⟩:=j x b;exact⟨(Q1 (aCC h b).chk).1,g,i,d⟩
def aNN{s:Sta}(h:pI s=O)(a:∀x∈s.hist,x<18446744073709551616):aEE (cG s)=X s:=by unfold aEE;rw[aLy h a];exact bu ⟨rfl,h⟩
end Go.Proofs.YtenkdioaefckoaaGreatDoor
